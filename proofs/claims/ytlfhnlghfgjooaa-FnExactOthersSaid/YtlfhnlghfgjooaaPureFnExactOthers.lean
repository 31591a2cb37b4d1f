/- The program's Others and the reference's come to one class: whatever the class. -/
import Derived.Test.YtlfhnlghfgjooaaPFnExactOthersx6
import Derived.Test.YtlfhnlghfgjooaaKit
import Derived.Test.YtlfhnlghfgjooaaKitArr
namespace Go.Proofs.Ytlfhnlghfgjooaa.Pure
open Go.RowKit Go.Proofs.Ytlfhnlghfgjooaa.PFnExactOthers Go.Proofs.YtlfhnlghfgjooaaW.PrintWords Go.Proofs.YtlfhnlghfgjooaaW.PrintLast Go.Proofs.YtlfhnlghfgjooaaW.PrintMore Go.Proofs.Ytlfhnlghfgjooaa.Kit
set_option linter.unusedVariables false
theorem sIn (a b c : Int) : spec_l1In.f a b c = some (decide (b ≤ a ∧ a ≤ c)) := by
  unfold spec_l1In.f
  by_cases h : a ≥ b
  · rw [if_pos h]; congr 1; simp; omega
  · rw [if_neg h]; congr 1; simp; omega
/-- a span of the law's own as one of the program's, and as a pair -/
def toI (x : S92) : S90 := ⟨x.f0, x.f1⟩
def toP (x : S90) : Int × Int := (x.f0, x.f1)

theorem toP_lo (l : List S90) (i : Int) : (rd_T90 l i).f0 = lo (l.map toP) i.toNat := by
  unfold rd_T90 lo
  rw [List.getD_eq_getElem?_getD, List.getD_eq_getElem?_getD, List.getElem?_map]
  cases l[i.toNat]? <;> rfl
theorem toP_hi (l : List S90) (i : Int) : (rd_T90 l i).f1 = hi (l.map toP) i.toNat := by
  unfold rd_T90 hi
  rw [List.getD_eq_getElem?_getD, List.getD_eq_getElem?_getD, List.getElem?_map]
  cases l[i.toNat]? <;> rfl

theorem szSpanS (l : List S92) (n : Int) (hn : 0 ≤ n ∧ n ≤ 1048576) (hl : l.length ≤ 9223372036854775807) : laws_szSpanS.f l n = some (if (l.length : Int) ≤ n then n - l.length else -1) := by
  unfold laws_szSpanS.f
  rw [w64 (by omega) (by omega)]
  by_cases h : (l.length : Int) ≤ n
  · rw [if_neg (by omega), if_pos h]
  · rw [if_pos (by omega), if_neg h]

theorem toSpanS_l (l : List S92) (hl : l.length ≤ 1048576) (d : Nat) : ∀ (k : Nat) (acc : List S90) (i : Int), d < k → 0 ≤ i → (l.length : Int) - i = d → acc.length = l.length →
    laws_toSpanS.l0 k l acc i = some (acc.take i.toNat ++ (l.map toI).drop i.toNat) := by
  induction d with
  | zero =>
    intro k acc i hk h0 hd ha
    obtain ⟨k, rfl⟩ : ∃ m, k = m + 1 := ⟨k - 1, by omega⟩
    simp only [laws_toSpanS.l0]
    rw [if_neg (by omega), List.take_of_length_le (by omega), List.drop_eq_nil_of_le (by simp; omega), List.append_nil]
  | succ d ih =>
    intro k acc i hk h0 hd ha
    obtain ⟨k, rfl⟩ : ∃ m, k = m + 1 := ⟨k - 1, by omega⟩
    simp only [laws_toSpanS.l0, laws_toSpan.f, Option.bind_some]
    rw [if_pos (by omega), if_pos h0, if_pos (by omega), w64 (by omega) (by omega), ih k _ _ (by omega) (by omega) (by omega) (by simpa using ha)]
    have e : (i + 1).toNat = i.toNat + 1 := by omega
    have hi : i.toNat < l.length := by omega
    have e2 : (⟨(rd_T92 l i).f0, (rd_T92 l i).f1⟩ : S90) = toI l[i.toNat] := by
      unfold rd_T92
      rw [List.getD_eq_getElem?_getD, List.getElem?_eq_getElem hi]
      rfl
    rw [e, e2, List.take_succ_eq_append_getElem (by simp; omega), List.take_set_of_le (Nat.le_refl _), List.getElem_set_self, List.append_assoc, List.singleton_append]
    congr 2
    rw [List.drop_eq_getElem_cons (i := i.toNat) (by simpa using hi), List.getElem_map]
theorem toSpanS (l : List S92) (hl : l.length ≤ 1048576) (k : Nat) (hk : l.length < k) : laws_toSpanS.f k l = some (l.map toI) := by
  unfold laws_toSpanS.f
  rw [if_pos (by omega), if_pos (by omega), toSpanS_l l hl l.length k _ 0 hk (by omega) (by omega) (by simp)]
  simp

theorem eqSpanS_l (l : List S90) (hl : (l.length : Int) ≤ 1099511627776) (d : Nat) : ∀ (k : Nat) (i : Int), d < k → 0 ≤ i → (l.length : Int) - i = d → laws_eqSpanS.l0 k l l i = some true := by
  induction d with
  | zero =>
    intro k i hk h0 hd
    obtain ⟨k, rfl⟩ : ∃ m, k = m + 1 := ⟨k - 1, by omega⟩
    simp only [laws_eqSpanS.l0]
    rw [if_neg (by omega)]
  | succ d ih =>
    intro k i hk h0 hd
    obtain ⟨k, rfl⟩ : ∃ m, k = m + 1 := ⟨k - 1, by omega⟩
    simp only [laws_eqSpanS.l0, laws_eqSpan.f]
    rw [if_pos (by omega), if_pos h0, if_pos (by omega)]
    simp only [if_true, Option.bind_some]
    rw [w64 (by omega) (by omega)]
    exact ih k _ (by omega) (by omega) (by omega)
theorem eqSpanS_same (l : List S90) (hl : (l.length : Int) ≤ 1099511627776) (k : Nat) (hk : l.length < k) : laws_eqSpanS.f k l l = some true := by
  unfold laws_eqSpanS.f
  simp only [if_true]
  exact eqSpanS_l l hl l.length k 0 hk (by omega) (by omega)
open Classical in
theorem iClassOk_l (l : List S90) (hl : l.length ≤ 1048576) (d : Nat) : ∀ (k : Nat) (i : Nat), d < k → l.length - i = d → i ≤ l.length → (∀ j, j < i → okAt (l.map toP) j) →
    impl_ClassOk.l0 k l l (l.length : Int) (i : Int) = some (decide (okFrom (l.map toP) i)) := by
  induction d with
  | zero =>
    intro k i hk hd hle _
    obtain ⟨k, rfl⟩ : ∃ m, k = m + 1 := ⟨k - 1, by omega⟩
    simp only [impl_ClassOk.l0]
    rw [if_neg (by omega), decide_eq_true (okFrom_end (by simp; omega))]
  | succ d ih =>
    intro k i hk hd hle hp
    obtain ⟨k, rfl⟩ : ∃ m, k = m + 1 := ⟨k - 1, by omega⟩
    have hlt : i < (l.map toP).length := by simp; omega
    have hst := okFrom_step (l := l.map toP) hlt
    have hne : ¬ okAt (l.map toP) i → decide (okFrom (l.map toP) i) = false := fun h => decide_eq_false (fun g => h (hst.1 g).1)
    simp only [impl_ClassOk.l0, toP_lo, toP_hi]
    rw [if_pos (by omega), if_pos (by omega), if_pos (by omega)]
    have ei : ((i : Nat) : Int).toNat = i := by omega
    rw [ei]
    by_cases h1 : lo (l.map toP) i < 0
    · rw [if_pos h1, hne (fun g => by have := g.1; omega)]
    · rw [if_neg h1]
      by_cases h2 : lo (l.map toP) i > hi (l.map toP) i
      · rw [if_pos h2, hne (fun g => by have := g.2.1; omega)]
      · rw [if_neg h2]
        by_cases h3 : hi (l.map toP) i > 255
        · rw [if_pos h3, hne (fun g => by have := g.2.2.1; omega)]
        · rw [if_neg h3]
          have en : wrap64 ((i : Int) + 1) = ((i + 1 : Nat) : Int) := by rw [w64 (by omega) (by omega)]; omega
          have go : okAt (l.map toP) i → impl_ClassOk.l0 k l l (l.length : Int) (wrap64 ((i : Int) + 1)) = some (decide (okFrom (l.map toP) i)) := by
            intro g
            rw [en, ih k (i + 1) (by omega) (by omega) (by omega) (fun j hj => by
              rcases Nat.lt_or_eq_of_le (Nat.le_of_lt_succ hj) with h | h
              · exact hp j h
              · exact h ▸ g)]
            congr 1
            exact decide_eq_decide.2 ⟨fun h => hst.2 ⟨g, h⟩, fun h => (hst.1 h).2⟩
          by_cases h4 : (i : Int) > 0
          · have hq := hp (i - 1) (by omega)
            have e1 : (wrap64 ((i : Int) - 1)) = ((i - 1 : Nat) : Int) := by rw [w64 (by omega) (by omega)]; omega
            have e2 : (((i - 1 : Nat) : Int)).toNat = i - 1 := by omega
            have q1 := hq.1
            have q2 := hq.2.1
            have q3 := hq.2.2.1
            rw [if_pos h4, e1, if_pos (by omega), if_pos (by omega), e2, w64 (x := hi (l.map toP) (i - 1) + 2) (by omega) (by omega)]
            by_cases h5 : lo (l.map toP) i < hi (l.map toP) (i - 1) + 2
            · rw [if_pos h5, hne (fun g => by have := g.2.2.2 (by omega); omega)]
            · rw [if_neg h5]
              exact go ⟨by omega, by omega, by omega, fun _ => by omega⟩
          · rw [if_neg h4]
            exact go ⟨by omega, by omega, by omega, fun h => by omega⟩
open Classical in
theorem iClassOk (l : List S90) (hl : l.length ≤ 1048576) (k : Nat) (hk : l.length < k) : impl_ClassOk.f k l = some (decide (classOk (l.map toP))) := by
  unfold impl_ClassOk.f
  have e : impl_ClassOk.l0 k l l (l.length : Int) 0 = some (decide (okFrom (l.map toP) 0)) := iClassOk_l l hl l.length k 0 hk (by omega) (by omega) (fun j hj => by omega)
  rw [e]
  congr 1
  exact decide_eq_decide.2 (okFrom_zero _)
open Classical in
theorem sClassOk_l (l : List S90) (hl : l.length ≤ 1048576) (d : Nat) : ∀ (k : Nat) (i : Nat), d < k → l.length - i = d → i ≤ l.length → (∀ j, j < i → okAt (l.map toP) j) →
    spec_ClassOk.l0 k l (i : Int) = some (decide (okFrom (l.map toP) i)) := by
  induction d with
  | zero =>
    intro k i hk hd hle _
    obtain ⟨k, rfl⟩ : ∃ m, k = m + 1 := ⟨k - 1, by omega⟩
    simp only [spec_ClassOk.l0]
    rw [if_neg (by omega), decide_eq_true (okFrom_end (by simp; omega))]
  | succ d ih =>
    intro k i hk hd hle hp
    obtain ⟨k, rfl⟩ : ∃ m, k = m + 1 := ⟨k - 1, by omega⟩
    have hlt : i < (l.map toP).length := by simp; omega
    have hst := okFrom_step (l := l.map toP) hlt
    have hne : ¬ okAt (l.map toP) i → decide (okFrom (l.map toP) i) = false := fun h => decide_eq_false (fun g => h (hst.1 g).1)
    simp only [spec_ClassOk.l0, toP_lo, toP_hi, sIn, Option.bind_some, decide_eq_true_eq]
    rw [if_pos (by omega), if_pos (by omega)]
    have ei : ((i : Nat) : Int).toNat = i := by omega
    rw [ei]
    by_cases h1 : 0 ≤ lo (l.map toP) i ∧ lo (l.map toP) i ≤ 255
    · rw [if_pos h1]
      by_cases h2 : lo (l.map toP) i ≤ hi (l.map toP) i ∧ hi (l.map toP) i ≤ 255
      · rw [if_pos h2]
        have en : wrap64 ((i : Int) + 1) = ((i + 1 : Nat) : Int) := by rw [w64 (by omega) (by omega)]; omega
        have go : okAt (l.map toP) i → spec_ClassOk.l0 k l (wrap64 ((i : Int) + 1)) = some (decide (okFrom (l.map toP) i)) := by
          intro g
          rw [en, ih k (i + 1) (by omega) (by omega) (by omega) (fun j hj => by
            rcases Nat.lt_or_eq_of_le (Nat.le_of_lt_succ hj) with h | h
            · exact hp j h
            · exact h ▸ g)]
          congr 1
          exact decide_eq_decide.2 ⟨fun h => hst.2 ⟨g, h⟩, fun h => (hst.1 h).2⟩
        by_cases h4 : (i : Int) > 0
        · have hq := hp (i - 1) (by omega)
          have e1 : (wrap64 ((i : Int) - 1)) = ((i - 1 : Nat) : Int) := by rw [w64 (by omega) (by omega)]; omega
          have e2 : (((i - 1 : Nat) : Int)).toNat = i - 1 := by omega
          have q1 := hq.1
          have q2 := hq.2.1
          have q3 := hq.2.2.1
          rw [if_pos h4, e1, if_pos (by omega), if_pos (by omega), e2, w64 (x := hi (l.map toP) (i - 1) + 2) (by omega) (by omega)]
          by_cases h5 : lo (l.map toP) i < hi (l.map toP) (i - 1) + 2
          · rw [if_pos h5, hne (fun g => by have := g.2.2.2 (by omega); omega)]
          · rw [if_neg h5]
            exact go ⟨by omega, by omega, by omega, fun _ => by omega⟩
        · rw [if_neg h4]
          exact go ⟨by omega, by omega, by omega, fun h => by omega⟩
      · rw [if_neg h2, hne (fun g => h2 ⟨g.2.1, g.2.2.1⟩)]
    · rw [if_neg h1, hne (fun g => h1 ⟨g.1, by have := g.2.1; have := g.2.2.1; omega⟩)]
open Classical in
theorem sClassOk (l : List S90) (hl : l.length ≤ 1048576) (k : Nat) (hk : l.length < k) : spec_ClassOk.f k l = some (decide (classOk (l.map toP))) := by
  unfold spec_ClassOk.f
  by_cases h : (l.length : Int) > 128
  · rw [if_pos h, decide_eq_false]
    intro g
    have := classOk_len g
    simp at this
    omega
  · rw [if_neg h]
    have e : spec_ClassOk.l0 k l 0 = some (decide (okFrom (l.map toP) 0)) := sClassOk_l l hl l.length k 0 hk (by omega) (by omega) (fun j hj => by omega)
    rw [e]
    congr 1
    exact decide_eq_decide.2 (okFrom_zero _)
theorem spP_toP : spP = toP := rfl
/-- the flags of a class's bytes -/
def markOk (l : List S90) (m : List Bool) : Prop := m.length = 256 ∧ ∀ c, c < 256 → (m.getD c false = true ↔ InTo (l.map toP) l.length c)
theorem sMarks_l1 (l : List S90) (hok : classOk (l.map toP)) (i : Nat) (hi' : i < l.length) (K : Nat)
    (G : ∀ k m, K < k → m.length = 256 → (∀ c, c < 256 → (m.getD c false = true ↔ InTo (l.map toP) (i + 1) c)) → ∃ r, spec_l1Marks.l0 k l m ((i + 1 : Nat) : Int) = some r ∧ markOk l r) (e : Nat) :
    ∀ (k : Nat) (m : List Bool) (b : Int), K + e + 1 < k → (hi (l.map toP) i - b + 1).toNat = e → lo (l.map toP) i ≤ b → b ≤ hi (l.map toP) i + 1 → m.length = 256 → (∀ c, c < 256 → (m.getD c false = true ↔ InTo (l.map toP) i c ∨ (lo (l.map toP) i ≤ (c : Int) ∧ (c : Int) < b))) →
      ∃ r, spec_l1Marks.l1 k l m (i : Int) b = some r ∧ markOk l r := by
  have ho := hok i (by simpa using hi')
  have o0 := ho.1
  have o1 := ho.2.2.1
  have hl : l.length ≤ 128 := by have := classOk_len hok; simpa using this
  induction e with
  | zero =>
    intro k m b hk he hb0 hb1 hm hM
    obtain ⟨k, rfl⟩ : ∃ m, k = m + 1 := ⟨k - 1, by omega⟩
    simp only [spec_l1Marks.l1, toP_hi, Int.toNat_natCast]
    rw [if_pos (by omega), if_pos (by omega), if_neg (by omega), nat_next (by omega)]
    refine G k m (by omega) hm (fun c hc => ?_)
    rw [hM c hc, InTo_step]
    constructor
    · rintro (h | h)
      · exact .inl h
      · exact .inr (by omega)
    · rintro (h | h)
      · exact .inl h
      · exact .inr (by omega)
  | succ e ih =>
    intro k m b hk he hb0 hb1 hm hM
    obtain ⟨k, rfl⟩ : ∃ m, k = m + 1 := ⟨k - 1, by omega⟩
    simp only [spec_l1Marks.l1, toP_hi, Int.toNat_natCast]
    rw [if_pos (by omega), if_pos (by omega), if_pos (by omega), if_pos (by omega), if_pos (by omega), w64 (x := b + 1) (by omega) (by omega)]
    refine ih k _ (b + 1) (by omega) (by omega) (by omega) (by omega) (by simpa using hm) (fun c hc => ?_)
    rw [getD_set _ _ _ (by omega), hM c hc]
    constructor
    · rintro ((h | h) | h)
      · exact .inl h
      · exact .inr (by omega)
      · exact .inr (by omega)
    · rintro (h | h)
      · exact .inl (.inl h)
      · by_cases q : c = b.toNat
        · exact .inr q
        · exact .inl (.inr (by omega))
theorem sMarks_l0 (l : List S90) (hok : classOk (l.map toP)) (d : Nat) : ∀ (k i : Nat) (m : List Bool), d * 300 < k → l.length - i = d → i ≤ l.length → m.length = 256 → (∀ c, c < 256 → (m.getD c false = true ↔ InTo (l.map toP) i c)) →
    ∃ r, spec_l1Marks.l0 k l m (i : Int) = some r ∧ markOk l r := by
  have hl : l.length ≤ 128 := by have := classOk_len hok; simpa using this
  induction d with
  | zero =>
    intro k i m hk hd hi' hm hM
    obtain ⟨k, rfl⟩ : ∃ m, k = m + 1 := ⟨k - 1, by omega⟩
    obtain rfl : i = l.length := by omega
    simp only [spec_l1Marks.l0]
    rw [if_neg (by omega)]
    exact ⟨m, rfl, hm, hM⟩
  | succ d ih =>
    intro k i m hk hd hi' hm hM
    obtain ⟨k, rfl⟩ : ∃ m, k = m + 1 := ⟨k - 1, by omega⟩
    have ho := hok i (by simp; omega)
    have o0 := ho.1
    have o1 := ho.2.2.1
    have o2 := ho.2.1
    simp only [spec_l1Marks.l0, toP_lo, Int.toNat_natCast]
    rw [if_pos (by omega), if_pos (by omega)]
    refine sMarks_l1 l hok i (by omega) (d * 300) (fun k m hk hm hM => ih k (i + 1) m hk (by omega) (by omega) hm hM) _ k m _ ?_ rfl (Int.le_refl _) (by omega) hm (fun c hc => ?_)
    · omega
    · rw [hM c hc]
      constructor
      · exact .inl
      · rintro (h | h)
        · exact h
        · omega
theorem sMarks (l : List S90) (hok : classOk (l.map toP)) (k : Nat) (hk : 40000 ≤ k) : ∃ r, spec_l1Marks.f k l = some r ∧ markOk l r := by
  have hl : l.length ≤ 128 := by have := classOk_len hok; simpa using this
  unfold spec_l1Marks.f
  rw [if_pos (by omega)]
  refine sMarks_l0 l hok l.length k 0 _ (by omega) (by omega) (by omega) List.length_replicate (fun c hc => ?_)
  constructor
  · intro h
    rw [List.getD_eq_getElem?_getD, List.getElem?_replicate] at h
    split at h <;> simp at h
  · rintro ⟨i, h, _⟩
    omega
theorem rdT_set (l : List S90) (i : Nat) (v : S90) (h : i < l.length) : rd_T90 (l.set i v) (i : Int) = v := by
  unfold rd_T90
  rw [Int.toNat_natCast, List.getD_eq_getElem?_getD, List.getElem?_set_self h]
  rfl
theorem rdT_other (l : List S90) (i j : Nat) (v : S90) (h : i ≠ j) : rd_T90 (l.set i v) (j : Int) = rd_T90 l (j : Int) := by
  unfold rd_T90
  rw [Int.toNat_natCast, List.getD_eq_getElem?_getD, List.getD_eq_getElem?_getD, List.getElem?_set_ne h]
/-- each number of a row is its own -/
def marked (y : List S90) (i : Nat) : Prop := ∀ j : Nat, j < i → rd_T90 y (j : Int) = ⟨1 + 2 * (j : Int), 2 + 2 * (j : Int)⟩
theorem mark_l (n : Nat) (hn : n ≤ 1000000000) (d : Nat) : ∀ (k : Nat) (x : List S90) (i : Nat), d < k → n - i = d → i ≤ n → x.length = n → marked x i →
    ∃ y, laws_markSpanS.l0 k x (1 + 2 * (i : Int)) (i : Int) = some (1 + 2 * (n : Int), y) ∧ y.length = n ∧ marked y n := by
  induction d with
  | zero =>
    intro k x i hk hd hi hx hm
    obtain ⟨k, rfl⟩ : ∃ m, k = m + 1 := ⟨k - 1, by omega⟩
    obtain rfl : i = n := by omega
    simp only [laws_markSpanS.l0]
    rw [if_neg (by omega)]
    exact ⟨x, rfl, hx, hm⟩
  | succ d ih =>
    intro k x i hk hd hi hx hm
    obtain ⟨k, rfl⟩ : ∃ m, k = m + 1 := ⟨k - 1, by omega⟩
    simp only [laws_markSpanS.l0, Option.bind_some, Int.toNat_natCast]
    rw [if_pos (by omega), if_pos (by omega), nat_next (by omega), rdT_set x i _ (by omega), w64 (x := 1 + 2 * (i : Int) + 1) (by omega) (by omega), w64 (by omega) (by omega), show 1 + 2 * (i : Int) + 1 + 1 = 1 + 2 * ((i + 1 : Nat) : Int) by omega]
    refine ih k _ (i + 1) (by omega) (by omega) (by omega) (by simpa using hx) (fun j hj => ?_)
    by_cases e : i = j
    · subst e
      rw [rdT_set _ _ _ (by simp; omega), show 1 + 2 * (i : Int) + 1 = 2 + 2 * (i : Int) by omega]
    · rw [rdT_other _ _ _ _ e, rdT_other _ _ _ _ e]
      exact hm j (by omega)
theorem markS (x : List S90) (hn : x.length ≤ 1000000000) (k : Nat) (hk : x.length < k) : ∃ y, laws_markSpanS.f k x 1 = some (1 + 2 * (x.length : Int), y) ∧ y.length = x.length ∧ marked y x.length :=
  mark_l x.length hn x.length k x 0 hk (by omega) (by omega) rfl (fun j hj => by omega)
theorem held_l (y : List S90) (n : Nat) (hn : n ≤ 1000000000) (hy : y.length = n) (hm : marked y n) (d : Nat) : ∀ (k : Nat) (i : Nat), d < k → n - i = d → i ≤ n →
    laws_heldSpanS.l0 k y (1 + 2 * (i : Int)) (i : Int) = some (1 + 2 * (n : Int)) := by
  induction d with
  | zero =>
    intro k i hk hd hi
    obtain ⟨k, rfl⟩ : ∃ m, k = m + 1 := ⟨k - 1, by omega⟩
    obtain rfl : i = n := by omega
    simp only [laws_heldSpanS.l0]
    rw [if_neg (by omega)]
  | succ d ih =>
    intro k i hk hd hi
    obtain ⟨k, rfl⟩ : ∃ m, k = m + 1 := ⟨k - 1, by omega⟩
    simp only [laws_heldSpanS.l0]
    rw [if_pos (by omega), if_pos (by omega), hm i (by omega), if_pos rfl, w64 (x := 1 + 2 * (i : Int) + 1) (by omega) (by omega), if_pos (by simp only; omega), nat_next (by omega), w64 (by omega) (by omega), show 1 + 2 * (i : Int) + 1 + 1 = 1 + 2 * ((i + 1 : Nat) : Int) by omega]
    exact ih k (i + 1) (by omega) (by omega) (by omega)
theorem heldS (y : List S90) (n : Nat) (hn : n ≤ 1000000000) (hy : y.length = n) (hm : marked y n) (k : Nat) (hk : n < k) : laws_heldSpanS.f k y 1 = some (1 + 2 * (n : Int)) :=
  held_l y n hn hy hm n k 0 hk (by omega) (by omega)
/-- marks that begin at c: only the next number matters -/
theorem markAt_l (n : Nat) (hn : n ≤ 1000000000) (c : Int) (c0 : 0 ≤ c) (c1 : c ≤ 1000000000000) (d : Nat) : ∀ (k : Nat) (x : List S90) (i : Nat), d < k → n - i = d → i ≤ n → x.length = n →
    ∃ y, laws_markSpanS.l0 k x (c + 2 * (i : Int)) (i : Int) = some (c + 2 * (n : Int), y) := by
  induction d with
  | zero =>
    intro k x i hk hd hi hx
    obtain ⟨k, rfl⟩ : ∃ m, k = m + 1 := ⟨k - 1, by omega⟩
    obtain rfl : i = n := by omega
    simp only [laws_markSpanS.l0]
    rw [if_neg (by omega)]
    exact ⟨x, rfl⟩
  | succ d ih =>
    intro k x i hk hd hi hx
    obtain ⟨k, rfl⟩ : ∃ m, k = m + 1 := ⟨k - 1, by omega⟩
    simp only [laws_markSpanS.l0, Option.bind_some, Int.toNat_natCast]
    rw [if_pos (by omega), if_pos (by omega), nat_next (by omega), w64 (x := c + 2 * (i : Int) + 1) (by omega) (by omega), w64 (by omega) (by omega), show c + 2 * (i : Int) + 1 + 1 = c + 2 * ((i + 1 : Nat) : Int) by omega]
    exact ih k _ (i + 1) (by omega) (by omega) (by omega) (by simpa using hx)
theorem markAt (x : List S90) (hn : x.length ≤ 1000000000) (c : Int) (c0 : 0 ≤ c) (c1 : c ≤ 1000000000000) (k : Nat) (hk : x.length < k) : ∃ y, laws_markSpanS.f k x c = some (c + 2 * (x.length : Int), y) := by
  have h := markAt_l x.length hn c c0 c1 x.length k x 0 hk (by omega) (by omega) rfl
  unfold laws_markSpanS.f
  rw [show c + 2 * ((0 : Nat) : Int) = c by omega] at h
  exact h
theorem class_l (m : List Bool) (hm : m.length = 256) (d : Nat) : ∀ (k : Nat) (acc : List S90) (b : Nat), d < k → 256 - b = d → b ≤ 256 → acc.length ≤ b → ∃ r, spec_l1Class.l0 k m acc (b : Int) = some r ∧ r.length ≤ 256 := by
  induction d with
  | zero =>
    intro k acc b hk hd hb ha
    obtain ⟨k, rfl⟩ : ∃ m, k = m + 1 := ⟨k - 1, by omega⟩
    simp only [spec_l1Class.l0]
    rw [if_neg (by omega)]
    exact ⟨acc, rfl, by omega⟩
  | succ d ih =>
    intro k acc b hk hd hb ha
    obtain ⟨k, rfl⟩ : ∃ m, k = m + 1 := ⟨k - 1, by omega⟩
    simp only [spec_l1Class.l0]
    rw [if_pos (by omega), if_pos (by omega), if_pos (by omega), nat_next (by omega)]
    have app : ∃ r, (if acc.length < 8796093022208 then spec_l1Class.l0 k m (acc ++ [(⟨(b : Int), (b : Int)⟩ : S90)]) ((b + 1 : Nat) : Int) else none) = some r ∧ r.length ≤ 256 := by
      rw [if_pos (by omega)]
      exact ih k _ (b + 1) (by omega) (by omega) (by omega) (by simp; omega)
    by_cases h : rdOf false m (b : Int) = true
    · rw [if_pos h]
      by_cases h0 : (acc.length : Int) > 0
      · rw [if_pos h0, w64 (x := (acc.length : Int) - 1) (by omega) (by omega), if_pos (by omega), if_pos (by omega)]
        by_cases h1 : (rd_T90 acc ((acc.length : Int) - 1)).f1 = wrap64 ((b : Int) - 1)
        · rw [if_pos h1]
          exact ih k _ (b + 1) (by omega) (by omega) (by omega) (by rw [List.length_set]; omega)
        · rw [if_neg h1]
          exact app
      · rw [if_neg h0]
        exact app
    · rw [if_neg h]
      exact ih k _ (b + 1) (by omega) (by omega) (by omega) (by omega)
theorem classS (m : List Bool) (hm : m.length = 256) (k : Nat) (hk : 300 ≤ k) : ∃ r, spec_l1Class.f k m = some r ∧ r.length ≤ 256 := by
  unfold spec_l1Class.f
  exact class_l m hm 256 k [] 0 (by omega) (by omega) (by omega) (by simp)
theorem class_at (m : List Bool) {r : List S90} {k : Nat} (h : spec_l1Class.f k m = some r) : ∀ j, spec_l1Class.f (k + j) m = some r
  | 0 => h
  | j + 1 => spec_l1Class.mono m (k + j) r (class_at m h j)
theorem both_l (rl : Int) (q : Bool → Bool → Bool) (hq : (rl = 0 ∧ ∀ a b, q a b = (a || b)) ∨ (rl = 1 ∧ ∀ a b, q a b = (a && b)) ∨ (rl = 2 ∧ ∀ a b, q a b = (a && !b))) (X Y : Nat → Bool) (y : List Bool) (hy : y.length = 256)
    (hY : ∀ j, j < 256 → y.getD j false = Y j) {res : List S90} (H : ∀ k, 300 ≤ k → spec_l1Class.f k (combM q X Y) = some res) (d : Nat) : ∀ (k : Nat) (m : List Bool) (b : Nat), d + 400 < k → 256 - b = d → b ≤ 256 → m.length = 256 →
      (∀ j, j < 256 → m.getD j false = if j < b then q (X j) (Y j) else X j) → spec_l1Both.l0 k rl m y (b : Int) = some res := by
  induction d with
  | zero =>
    intro k m b hk hd hb hm hM
    obtain ⟨k, rfl⟩ : ∃ m, k = m + 1 := ⟨k - 1, by omega⟩
    have e : m = combM q X Y := by
      refine List.ext_getElem (by rw [hm, combM_len]) (fun i h1 h2 => ?_)
      have g := hM i (by omega)
      rw [if_pos (by omega), List.getD_eq_getElem?_getD, List.getElem?_eq_getElem h1] at g
      have e2 : (combM q X Y)[i]'h2 = q (X i) (Y i) := by simp only [combM, List.getElem_map, List.getElem_range]
      rw [e2]
      exact g
    simp only [spec_l1Both.l0]
    rw [if_neg (by omega), e, H k (by omega)]
    rfl
  | succ d ih =>
    intro k m b hk hd hb hm hM
    obtain ⟨k, rfl⟩ : ∃ m, k = m + 1 := ⟨k - 1, by omega⟩
    have hmb : rdOf false m (b : Int) = X b := by
      unfold rdOf
      rw [Int.toNat_natCast, hM b (by omega), if_neg (by omega)]
    have hyb : rdOf false y (b : Int) = Y b := by
      unfold rdOf
      rw [Int.toNat_natCast, hY b (by omega)]
    have go : ∀ v, v = q (X b) (Y b) → spec_l1Both.l0 k rl (m.set ((b : Int)).toNat v) y ((b + 1 : Nat) : Int) = some res := by
      rintro v rfl
      refine ih k _ (b + 1) (by omega) (by omega) (by omega) (by rw [List.length_set]; exact hm) (fun j hj => ?_)
      rw [Int.toNat_natCast, List.getD_eq_getElem?_getD]
      by_cases e : b = j
      · subst e
        rw [List.getElem?_set_self (by omega), if_pos (by omega)]
        rfl
      · rw [List.getElem?_set_ne e, ← List.getD_eq_getElem?_getD, hM j hj]
        by_cases g : j < b
        · rw [if_pos g, if_pos (by omega)]
        · rw [if_neg g, if_neg (by omega)]
    simp only [spec_l1Both.l0, hmb, hyb]
    rw [if_pos (by omega), nat_next (by omega)]
    rcases hq with ⟨rfl, hq⟩ | ⟨rfl, hq⟩ | ⟨rfl, hq⟩
    · rw [if_pos rfl, if_pos (by omega), if_pos (by omega)]
      cases hx : X b
      · rw [if_neg (by simp), if_pos (by omega)]
        exact go _ (by rw [hq, hx]; rfl)
      · rw [if_pos rfl]
        exact go _ (by rw [hq, hx]; rfl)
    · rw [if_neg (by omega), if_pos rfl, if_pos (by omega), if_pos (by omega)]
      cases hx : X b
      · rw [if_neg (by simp)]
        exact go _ (by rw [hq, hx]; rfl)
      · rw [if_pos rfl, if_pos (by omega)]
        exact go _ (by rw [hq, hx]; rfl)
    · rw [if_neg (by omega), if_neg (by omega), if_pos rfl, if_pos (by omega), if_pos (by omega)]
      cases hx : X b
      · rw [if_neg (by simp)]
        exact go _ (by rw [hq, hx]; rfl)
      · rw [if_pos rfl, if_pos (by omega)]
        exact go _ (by rw [hq, hx]; rfl)
open Classical in
/-- both come to one class: the reference's rule and the program's -/
theorem bothS (rl : Int) (q : Bool → Bool → Bool) (hq : (rl = 0 ∧ ∀ a b, q a b = (a || b)) ∨ (rl = 1 ∧ ∀ a b, q a b = (a && b)) ∨ (rl = 2 ∧ ∀ a b, q a b = (a && !b))) (l0 l1 : List S90)
    (h0 : l0.length ≤ 1048576) (h1 : l1.length ≤ 1048576) (k : Nat) (hk : 2000000 ≤ k) :
    ∃ res, spec_l1Both.f k l0 l1 rl = some res ∧ impl_combined.f k q l0 l1 = some res ∧ res.length ≤ 256 ∧ ((classOk (l0.map toP) ∧ classOk (l1.map toP)) → ∀ k', 300 ≤ k' → spec_l1Class.f k' (combM q (marksB l0) (marksB l1)) = some res) ∧ (¬ (classOk (l0.map toP) ∧ classOk (l1.map toP)) → res = []) := by
  unfold spec_l1Both.f impl_combined.f
  rw [sClassOk l0 h0 k (by omega), sClassOk l1 h1 k (by omega), iClassOk l0 h0 k (by omega), iClassOk l1 h1 k (by omega)]
  simp only [Option.bind_some, decide_eq_true_eq]
  obtain ⟨k, rfl⟩ : ∃ m, k = m + 1 := ⟨k - 1, by omega⟩
  by_cases o0 : classOk (l0.map toP)
  · rw [if_pos o0, if_pos o0]
    by_cases o1 : classOk (l1.map toP)
    · obtain ⟨x, ex, hx⟩ := sMarks l0 o0 k (by omega)
      obtain ⟨y, ey, hy⟩ := sMarks l1 o1 k (by omega)
      obtain ⟨res, er, hr⟩ := classS (combM q (marksB l0) (marksB l1)) (combM_len _ _ _) 300 (Nat.le_refl _)
      have hall : ∀ k', 300 ≤ k' → spec_l1Class.f k' (combM q (marksB l0) (marksB l1)) = some res := fun k' hk' => by
        have := class_at _ er (k' - 300)
        rwa [show 300 + (k' - 300) = k' by omega] at this
      refine ⟨res, ?_, ?_, hr, fun _ => hall, fun h => absurd ⟨o0, o1⟩ h⟩
      · rw [decide_eq_true o1]
        simp only [spec_l1Both.j0, Bool.not_true, Bool.false_eq_true, if_false]
        rw [ex, ey]
        simp only [Option.bind_some]
        exact both_l rl q hq (marksB l0) (marksB l1) y hy.1 (fun j hj => marksB_eq hy.2 j hj) hall 256 k x 0 (by omega) (by omega) (by omega) hx.1 (fun j hj => by rw [if_neg (by omega)]; exact marksB_eq hx.2 j hj)
      · rw [if_pos o1, if_pos (show classOk (l0.map spP) ∧ classOk (l1.map spP) from ⟨o0, o1⟩)]
        exact hall _ (by omega)
    · refine ⟨[], ?_, ?_, by simp, fun h => absurd h.2 o1, fun _ => rfl⟩
      · rw [decide_eq_false o1]
        simp only [spec_l1Both.j0, Bool.not_false, if_true]
      · rw [if_neg o1]
  · refine ⟨[], ?_, ?_, by simp, fun h => absurd h.1 o0, fun _ => rfl⟩
    · rw [if_neg o0]
      simp only [spec_l1Both.j0, if_true]
    · rw [if_neg o0]
theorem classOk_full : classOk ([(⟨0, 255⟩ : S90)].map toP) := by
  intro i h0
  have : i = 0 := by simpa using h0
  subst this
  refine ⟨?_, ?_, ?_, fun h => absurd h (by omega)⟩ <;> decide
theorem classOk_nil : classOk (([] : List S90).map toP) := fun i hi => by simp at hi
theorem marksB_full (b : Nat) (hb : b < 256) : marksB [(⟨0, 255⟩ : S90)] b = true := by
  unfold marksB
  rw [decide_eq_true_iff]
  have e0 : lo ([(⟨0, 255⟩ : S90)].map spP) 0 = 0 := rfl
  have e1 : hi ([(⟨0, 255⟩ : S90)].map spP) 0 = 255 := rfl
  exact ⟨0, by simp, by omega, by omega⟩
theorem combM_congr {q q' : Bool → Bool → Bool} {X Y X' Y' : Nat → Bool} (h : ∀ b, b < 256 → q (X b) (Y b) = q' (X' b) (Y' b)) : combM q X Y = combM q' X' Y' := by
  unfold combM
  exact List.map_congr_left fun b hb => h b (List.mem_range.1 hb)
open Classical in
theorem othersS (l : List S90) (hl : l.length ≤ 1048576) (k : Nat) (hk : 2000000 ≤ k) :
    ∃ res, spec_Others.f k l = some res ∧ impl_Others.f k l = some res ∧ res.length ≤ 256 ∧ (classOk (l.map toP) → ∀ k', 300 ≤ k' → spec_l1Class.f k' (combM (fun a _ => !a) (marksB l) (fun _ => false)) = some res) ∧ (¬ classOk (l.map toP) → res = []) := by
  by_cases o : classOk (l.map toP)
  · obtain ⟨res, e1, _, e3, e4, _⟩ := bothS 2 (fun a b => a && !b) (by simp) [(⟨0, 255⟩ : S90)] l (by simp) hl k hk
    have e5 := e4 ⟨classOk_full, o⟩
    rw [combM_congr (q' := fun a _ => !a) (X' := marksB l) (Y' := fun _ => false) (fun b hb => by rw [marksB_full b hb]; simp)] at e5
    refine ⟨res, ?_, ?_, e3, fun _ => e5, fun h => absurd o h⟩
    · unfold spec_Others.f spec_Without.f
      rw [sClassOk l hl k (by omega)]
      simp only [Option.bind_some, decide_eq_true_eq]
      rw [if_pos o, e1]
      rfl
    · unfold impl_Others.f impl_combined.f
      rw [iClassOk l hl k (by omega), iClassOk [] (by simp) k (by simp; omega)]
      simp only [Option.bind_some, decide_eq_true_eq]
      rw [if_pos o, if_pos classOk_nil, if_pos (show classOk (l.map spP) ∧ classOk (([] : List S90).map spP) from ⟨o, classOk_nil⟩), combM_congr (q' := fun a _ => !a) (X' := marksB l) (Y' := fun _ => false) (fun b hb => rfl)]
      exact e5 k (by omega)
  · refine ⟨[], ?_, ?_, by simp, fun h => absurd h o, fun _ => rfl⟩
    · unfold spec_Others.f
      rw [sClassOk l hl k (by omega)]
      simp only [Option.bind_some, decide_eq_true_eq]
      rw [if_neg o]
    · unfold impl_Others.f impl_combined.f
      rw [iClassOk l hl k (by omega)]
      simp only [Option.bind_some, decide_eq_true_eq]
      rw [if_neg o]
theorem FnExactOthers (x0 : List S92) (g0 : x0.length ≤ maxLen ∧ ∀ x ∈ x0, (Lit.int .i64 x.f0).wf = true ∧ (Lit.int .i64 x.f1).wf = true) : ∃ k, laws_FnExactOthers.f k x0 = some true := by
  suffices ∀ k, 3000000 ≤ k → laws_FnExactOthers.f k x0 = some true from ⟨3000000, this _ (Nat.le_refl _)⟩
  intro k hk
  unfold maxLen at g0
  have g0l := g0.1
  unfold laws_FnExactOthers.f
  rw [szSpanS x0 _ (by omega) g0.1]
  simp only [Option.bind_some]
  by_cases a0 : (x0.length : Int) ≤ 1048576
  · rw [if_pos a0, if_neg (by omega), toSpanS x0 (by omega) k (by omega)]
    simp only [Option.bind_some]
    have hl : (x0.map toI).length = x0.length := List.length_map _
    obtain ⟨res, hs, hi, e3, _⟩ := othersS (x0.map toI) (by omega) k (by omega)
    rw [hs, hi]
    simp only [Option.bind_some]
    rw [eqSpanS_same res (by omega) k (by omega), eqSpanS_same (x0.map toI) (by omega) k (by omega)]
    simp only [Option.bind_some, if_true]
    obtain ⟨y0, m0⟩ := markAt (x0.map toI) (by omega) 1 (by omega) (by omega) k (by omega)
    rw [m0]
    simp only [Option.bind_some]
    rw [if_neg (by omega)]
    obtain ⟨k, rfl⟩ : ∃ m, k = m + 1 := ⟨k - 1, by omega⟩
    have hi2 : impl_Others.f k (x0.map toI) = some res := by
      obtain ⟨r2, _, f2, _⟩ := othersS (x0.map toI) (by omega) k (by omega)
      have := impl_Others.mono (x0.map toI) k r2 f2
      rw [hi] at this
      rw [Option.some.inj this]
      exact f2
    simp only [laws_FnExactOthers.j0, Bool.not_true, Bool.false_eq_true, if_false]
    obtain ⟨z, mz, hz, hm⟩ := markS res (by omega) k (by omega)
    rw [mz]
    simp only [Option.bind_some]
    rw [heldS z res.length (by omega) hz hm k (by omega)]
    simp only [Option.bind_some, if_true]
    rw [if_neg (by omega), if_neg (by omega), toSpanS x0 (by omega) k (by omega)]
    simp only [Option.bind_some]
    rw [hi2]
    simp only [Option.bind_some]
    rw [eqSpanS_same res (by omega) k (by omega)]
    simp only [Option.bind_some, if_true]
  · rw [if_neg a0, if_pos (by omega)]
end Go.Proofs.Ytlfhnlghfgjooaa.Pure
