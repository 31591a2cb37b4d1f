/- The program's ClassHas and the reference's come to one answer: whatever the spans and the byte. -/
import Derived.Test.YtnmlkaoaandemaaPFnExactClassHasx4
import Derived.Test.YtnmlkaoaandemaaKit
import Derived.Test.YtnmlkaoaandemaaKitClass
namespace Go.Proofs.Ytnmlkaoaandemaa.Pure
open Go.RowKit Go.Proofs.Ytnmlkaoaandemaa.PFnExactClassHas Go.Proofs.YtnmlkaoaandemaaW.PrintWords Go.Proofs.YtnmlkaoaandemaaW.PrintLast Go.Proofs.YtnmlkaoaandemaaW.PrintMore Go.Proofs.Ytnmlkaoaandemaa.Kit
set_option linter.unusedVariables false
theorem sIn (a b c : Int) : spec_l1In.f a b c = some (decide (b ≤ a ∧ a ≤ c)) := by
  unfold spec_l1In.f
  by_cases h : a ≥ b
  · rw [if_pos h]; congr 1; simp; omega
  · rw [if_neg h]; congr 1; simp; omega
/-- a span of the law's own as one of the program's, and as a pair -/
def toI (x : S64) : S55 := ⟨x.f0, x.f1⟩
def toP (x : S55) : Int × Int := (x.f0, x.f1)

theorem toP_lo (l : List S55) (i : Int) : (rd_T55 l i).f0 = lo (l.map toP) i.toNat := by
  unfold rd_T55 lo
  rw [List.getD_eq_getElem?_getD, List.getD_eq_getElem?_getD, List.getElem?_map]
  cases l[i.toNat]? <;> rfl
theorem toP_hi (l : List S55) (i : Int) : (rd_T55 l i).f1 = hi (l.map toP) i.toNat := by
  unfold rd_T55 hi
  rw [List.getD_eq_getElem?_getD, List.getD_eq_getElem?_getD, List.getElem?_map]
  cases l[i.toNat]? <;> rfl

theorem szSpanS (l : List S64) (n : Int) (hn : 0 ≤ n ∧ n ≤ 1048576) (hl : l.length ≤ 9223372036854775807) : laws_szSpanS.f l n = some (if (l.length : Int) ≤ n then n - l.length else -1) := by
  unfold laws_szSpanS.f
  rw [w64 (by omega) (by omega)]
  by_cases h : (l.length : Int) ≤ n
  · rw [if_neg (by omega), if_pos h]
  · rw [if_pos (by omega), if_neg h]

theorem toSpanS_l (l : List S64) (hl : l.length ≤ 1048576) (d : Nat) : ∀ (k : Nat) (acc : List S55) (i : Int), d < k → 0 ≤ i → (l.length : Int) - i = d → acc.length = l.length →
    laws_toSpanS.l0 k l acc i = some (acc.take i.toNat ++ (l.map toI).drop i.toNat) := by
  induction d with
  | zero =>
    intro k acc i hk h0 hd ha
    obtain ⟨k, rfl⟩ : ∃ m, k = m + 1 := ⟨k - 1, by omega⟩
    simp only [laws_toSpanS.l0]
    rw [if_neg (by omega), List.take_of_length_le (by omega), List.drop_eq_nil_of_le (by simp; omega), List.append_nil]
  | succ d ih =>
    intro k acc i hk h0 hd ha
    obtain ⟨k, rfl⟩ : ∃ m, k = m + 1 := ⟨k - 1, by omega⟩
    simp only [laws_toSpanS.l0, laws_toSpan.f, Option.bind_some]
    rw [if_pos (by omega), if_pos h0, if_pos (by omega), w64 (by omega) (by omega), ih k _ _ (by omega) (by omega) (by omega) (by simpa using ha)]
    have e : (i + 1).toNat = i.toNat + 1 := by omega
    have hi : i.toNat < l.length := by omega
    have e2 : (⟨(rd_T64 l i).f0, (rd_T64 l i).f1⟩ : S55) = toI l[i.toNat] := by
      unfold rd_T64
      rw [List.getD_eq_getElem?_getD, List.getElem?_eq_getElem hi]
      rfl
    rw [e, e2, List.take_succ_eq_append_getElem (by simp; omega), List.take_set_of_le (Nat.le_refl _), List.getElem_set_self, List.append_assoc, List.singleton_append]
    congr 2
    rw [List.drop_eq_getElem_cons (i := i.toNat) (by simpa using hi), List.getElem_map]
theorem toSpanS (l : List S64) (hl : l.length ≤ 1048576) (k : Nat) (hk : l.length < k) : laws_toSpanS.f k l = some (l.map toI) := by
  unfold laws_toSpanS.f
  rw [if_pos (by omega), if_pos (by omega), toSpanS_l l hl l.length k _ 0 hk (by omega) (by omega) (by simp)]
  simp

theorem eqSpanS_l (l : List S55) (hl : (l.length : Int) ≤ 1099511627776) (d : Nat) : ∀ (k : Nat) (i : Int), d < k → 0 ≤ i → (l.length : Int) - i = d → laws_eqSpanS.l0 k l l i = some true := by
  induction d with
  | zero =>
    intro k i hk h0 hd
    obtain ⟨k, rfl⟩ : ∃ m, k = m + 1 := ⟨k - 1, by omega⟩
    simp only [laws_eqSpanS.l0]
    rw [if_neg (by omega)]
  | succ d ih =>
    intro k i hk h0 hd
    obtain ⟨k, rfl⟩ : ∃ m, k = m + 1 := ⟨k - 1, by omega⟩
    simp only [laws_eqSpanS.l0, laws_eqSpan.f]
    rw [if_pos (by omega), if_pos h0, if_pos (by omega)]
    simp only [if_true, Option.bind_some]
    rw [w64 (by omega) (by omega)]
    exact ih k _ (by omega) (by omega) (by omega)
theorem eqSpanS_same (l : List S55) (hl : (l.length : Int) ≤ 1099511627776) (k : Nat) (hk : l.length < k) : laws_eqSpanS.f k l l = some true := by
  unfold laws_eqSpanS.f
  simp only [if_true]
  exact eqSpanS_l l hl l.length k 0 hk (by omega) (by omega)
open Classical in
theorem iClassOk_l (l : List S55) (hl : l.length ≤ 1048576) (d : Nat) : ∀ (k : Nat) (i : Nat), d < k → l.length - i = d → i ≤ l.length → (∀ j, j < i → okAt (l.map toP) j) →
    impl_ClassOk.l0 k l l (l.length : Int) (i : Int) = some (decide (okFrom (l.map toP) i)) := by
  induction d with
  | zero =>
    intro k i hk hd hle _
    obtain ⟨k, rfl⟩ : ∃ m, k = m + 1 := ⟨k - 1, by omega⟩
    simp only [impl_ClassOk.l0]
    rw [if_neg (by omega), decide_eq_true (okFrom_end (by simp; omega))]
  | succ d ih =>
    intro k i hk hd hle hp
    obtain ⟨k, rfl⟩ : ∃ m, k = m + 1 := ⟨k - 1, by omega⟩
    have hlt : i < (l.map toP).length := by simp; omega
    have hst := okFrom_step (l := l.map toP) hlt
    have hne : ¬ okAt (l.map toP) i → decide (okFrom (l.map toP) i) = false := fun h => decide_eq_false (fun g => h (hst.1 g).1)
    simp only [impl_ClassOk.l0, toP_lo, toP_hi]
    rw [if_pos (by omega), if_pos (by omega), if_pos (by omega)]
    have ei : ((i : Nat) : Int).toNat = i := by omega
    rw [ei]
    by_cases h1 : lo (l.map toP) i < 0
    · rw [if_pos h1, hne (fun g => by have := g.1; omega)]
    · rw [if_neg h1]
      by_cases h2 : lo (l.map toP) i > hi (l.map toP) i
      · rw [if_pos h2, hne (fun g => by have := g.2.1; omega)]
      · rw [if_neg h2]
        by_cases h3 : hi (l.map toP) i > 255
        · rw [if_pos h3, hne (fun g => by have := g.2.2.1; omega)]
        · rw [if_neg h3]
          have en : wrap64 ((i : Int) + 1) = ((i + 1 : Nat) : Int) := by rw [w64 (by omega) (by omega)]; omega
          have go : okAt (l.map toP) i → impl_ClassOk.l0 k l l (l.length : Int) (wrap64 ((i : Int) + 1)) = some (decide (okFrom (l.map toP) i)) := by
            intro g
            rw [en, ih k (i + 1) (by omega) (by omega) (by omega) (fun j hj => by
              rcases Nat.lt_or_eq_of_le (Nat.le_of_lt_succ hj) with h | h
              · exact hp j h
              · exact h ▸ g)]
            congr 1
            exact decide_eq_decide.2 ⟨fun h => hst.2 ⟨g, h⟩, fun h => (hst.1 h).2⟩
          by_cases h4 : (i : Int) > 0
          · have hq := hp (i - 1) (by omega)
            have e1 : (wrap64 ((i : Int) - 1)) = ((i - 1 : Nat) : Int) := by rw [w64 (by omega) (by omega)]; omega
            have e2 : (((i - 1 : Nat) : Int)).toNat = i - 1 := by omega
            have q1 := hq.1
            have q2 := hq.2.1
            have q3 := hq.2.2.1
            rw [if_pos h4, e1, if_pos (by omega), if_pos (by omega), e2, w64 (x := hi (l.map toP) (i - 1) + 2) (by omega) (by omega)]
            by_cases h5 : lo (l.map toP) i < hi (l.map toP) (i - 1) + 2
            · rw [if_pos h5, hne (fun g => by have := g.2.2.2 (by omega); omega)]
            · rw [if_neg h5]
              exact go ⟨by omega, by omega, by omega, fun _ => by omega⟩
          · rw [if_neg h4]
            exact go ⟨by omega, by omega, by omega, fun h => by omega⟩
open Classical in
theorem iClassOk (l : List S55) (hl : l.length ≤ 1048576) (k : Nat) (hk : l.length < k) : impl_ClassOk.f k l = some (decide (classOk (l.map toP))) := by
  unfold impl_ClassOk.f
  have e : impl_ClassOk.l0 k l l (l.length : Int) 0 = some (decide (okFrom (l.map toP) 0)) := iClassOk_l l hl l.length k 0 hk (by omega) (by omega) (fun j hj => by omega)
  rw [e]
  congr 1
  exact decide_eq_decide.2 (okFrom_zero _)
open Classical in
theorem sClassOk_l (l : List S55) (hl : l.length ≤ 1048576) (d : Nat) : ∀ (k : Nat) (i : Nat), d < k → l.length - i = d → i ≤ l.length → (∀ j, j < i → okAt (l.map toP) j) →
    spec_ClassOk.l0 k l (i : Int) = some (decide (okFrom (l.map toP) i)) := by
  induction d with
  | zero =>
    intro k i hk hd hle _
    obtain ⟨k, rfl⟩ : ∃ m, k = m + 1 := ⟨k - 1, by omega⟩
    simp only [spec_ClassOk.l0]
    rw [if_neg (by omega), decide_eq_true (okFrom_end (by simp; omega))]
  | succ d ih =>
    intro k i hk hd hle hp
    obtain ⟨k, rfl⟩ : ∃ m, k = m + 1 := ⟨k - 1, by omega⟩
    have hlt : i < (l.map toP).length := by simp; omega
    have hst := okFrom_step (l := l.map toP) hlt
    have hne : ¬ okAt (l.map toP) i → decide (okFrom (l.map toP) i) = false := fun h => decide_eq_false (fun g => h (hst.1 g).1)
    simp only [spec_ClassOk.l0, toP_lo, toP_hi, sIn, Option.bind_some, decide_eq_true_eq]
    rw [if_pos (by omega), if_pos (by omega)]
    have ei : ((i : Nat) : Int).toNat = i := by omega
    rw [ei]
    by_cases h1 : 0 ≤ lo (l.map toP) i ∧ lo (l.map toP) i ≤ 255
    · rw [if_pos h1]
      by_cases h2 : lo (l.map toP) i ≤ hi (l.map toP) i ∧ hi (l.map toP) i ≤ 255
      · rw [if_pos h2]
        have en : wrap64 ((i : Int) + 1) = ((i + 1 : Nat) : Int) := by rw [w64 (by omega) (by omega)]; omega
        have go : okAt (l.map toP) i → spec_ClassOk.l0 k l (wrap64 ((i : Int) + 1)) = some (decide (okFrom (l.map toP) i)) := by
          intro g
          rw [en, ih k (i + 1) (by omega) (by omega) (by omega) (fun j hj => by
            rcases Nat.lt_or_eq_of_le (Nat.le_of_lt_succ hj) with h | h
            · exact hp j h
            · exact h ▸ g)]
          congr 1
          exact decide_eq_decide.2 ⟨fun h => hst.2 ⟨g, h⟩, fun h => (hst.1 h).2⟩
        by_cases h4 : (i : Int) > 0
        · have hq := hp (i - 1) (by omega)
          have e1 : (wrap64 ((i : Int) - 1)) = ((i - 1 : Nat) : Int) := by rw [w64 (by omega) (by omega)]; omega
          have e2 : (((i - 1 : Nat) : Int)).toNat = i - 1 := by omega
          have q1 := hq.1
          have q2 := hq.2.1
          have q3 := hq.2.2.1
          rw [if_pos h4, e1, if_pos (by omega), if_pos (by omega), e2, w64 (x := hi (l.map toP) (i - 1) + 2) (by omega) (by omega)]
          by_cases h5 : lo (l.map toP) i < hi (l.map toP) (i - 1) + 2
          · rw [if_pos h5, hne (fun g => by have := g.2.2.2 (by omega); omega)]
          · rw [if_neg h5]
            exact go ⟨by omega, by omega, by omega, fun _ => by omega⟩
        · rw [if_neg h4]
          exact go ⟨by omega, by omega, by omega, fun h => by omega⟩
      · rw [if_neg h2, hne (fun g => h2 ⟨g.2.1, g.2.2.1⟩)]
    · rw [if_neg h1, hne (fun g => h1 ⟨g.1, by have := g.2.1; have := g.2.2.1; omega⟩)]
open Classical in
theorem sClassOk (l : List S55) (hl : l.length ≤ 1048576) (k : Nat) (hk : l.length < k) : spec_ClassOk.f k l = some (decide (classOk (l.map toP))) := by
  unfold spec_ClassOk.f
  by_cases h : (l.length : Int) > 128
  · rw [if_pos h, decide_eq_false]
    intro g
    have := classOk_len g
    simp at this
    omega
  · rw [if_neg h]
    have e : spec_ClassOk.l0 k l 0 = some (decide (okFrom (l.map toP) 0)) := sClassOk_l l hl l.length k 0 hk (by omega) (by omega) (fun j hj => by omega)
    rw [e]
    congr 1
    exact decide_eq_decide.2 (okFrom_zero _)
theorem spP_toP : spP = toP := rfl
/-- the flags of a class's bytes -/
def markOk (l : List S55) (m : List Bool) : Prop := m.length = 256 ∧ ∀ c, c < 256 → (m.getD c false = true ↔ InTo (l.map toP) l.length c)
theorem sMarks_l1 (l : List S55) (hok : classOk (l.map toP)) (i : Nat) (hi' : i < l.length) (K : Nat)
    (G : ∀ k m, K < k → m.length = 256 → (∀ c, c < 256 → (m.getD c false = true ↔ InTo (l.map toP) (i + 1) c)) → ∃ r, spec_l1Marks.l0 k l m ((i + 1 : Nat) : Int) = some r ∧ markOk l r) (e : Nat) :
    ∀ (k : Nat) (m : List Bool) (b : Int), K + e + 1 < k → (hi (l.map toP) i - b + 1).toNat = e → lo (l.map toP) i ≤ b → b ≤ hi (l.map toP) i + 1 → m.length = 256 → (∀ c, c < 256 → (m.getD c false = true ↔ InTo (l.map toP) i c ∨ (lo (l.map toP) i ≤ (c : Int) ∧ (c : Int) < b))) →
      ∃ r, spec_l1Marks.l1 k l m (i : Int) b = some r ∧ markOk l r := by
  have ho := hok i (by simpa using hi')
  have o0 := ho.1
  have o1 := ho.2.2.1
  have hl : l.length ≤ 128 := by have := classOk_len hok; simpa using this
  induction e with
  | zero =>
    intro k m b hk he hb0 hb1 hm hM
    obtain ⟨k, rfl⟩ : ∃ m, k = m + 1 := ⟨k - 1, by omega⟩
    simp only [spec_l1Marks.l1, toP_hi, Int.toNat_natCast]
    rw [if_pos (by omega), if_pos (by omega), if_neg (by omega), nat_next (by omega)]
    refine G k m (by omega) hm (fun c hc => ?_)
    rw [hM c hc, InTo_step]
    constructor
    · rintro (h | h)
      · exact .inl h
      · exact .inr (by omega)
    · rintro (h | h)
      · exact .inl h
      · exact .inr (by omega)
  | succ e ih =>
    intro k m b hk he hb0 hb1 hm hM
    obtain ⟨k, rfl⟩ : ∃ m, k = m + 1 := ⟨k - 1, by omega⟩
    simp only [spec_l1Marks.l1, toP_hi, Int.toNat_natCast]
    rw [if_pos (by omega), if_pos (by omega), if_pos (by omega), if_pos (by omega), if_pos (by omega), w64 (x := b + 1) (by omega) (by omega)]
    refine ih k _ (b + 1) (by omega) (by omega) (by omega) (by omega) (by simpa using hm) (fun c hc => ?_)
    rw [getD_set _ _ _ (by omega), hM c hc]
    constructor
    · rintro ((h | h) | h)
      · exact .inl h
      · exact .inr (by omega)
      · exact .inr (by omega)
    · rintro (h | h)
      · exact .inl (.inl h)
      · by_cases q : c = b.toNat
        · exact .inr q
        · exact .inl (.inr (by omega))
theorem sMarks_l0 (l : List S55) (hok : classOk (l.map toP)) (d : Nat) : ∀ (k i : Nat) (m : List Bool), d * 300 < k → l.length - i = d → i ≤ l.length → m.length = 256 → (∀ c, c < 256 → (m.getD c false = true ↔ InTo (l.map toP) i c)) →
    ∃ r, spec_l1Marks.l0 k l m (i : Int) = some r ∧ markOk l r := by
  have hl : l.length ≤ 128 := by have := classOk_len hok; simpa using this
  induction d with
  | zero =>
    intro k i m hk hd hi' hm hM
    obtain ⟨k, rfl⟩ : ∃ m, k = m + 1 := ⟨k - 1, by omega⟩
    obtain rfl : i = l.length := by omega
    simp only [spec_l1Marks.l0]
    rw [if_neg (by omega)]
    exact ⟨m, rfl, hm, hM⟩
  | succ d ih =>
    intro k i m hk hd hi' hm hM
    obtain ⟨k, rfl⟩ : ∃ m, k = m + 1 := ⟨k - 1, by omega⟩
    have ho := hok i (by simp; omega)
    have o0 := ho.1
    have o1 := ho.2.2.1
    have o2 := ho.2.1
    simp only [spec_l1Marks.l0, toP_lo, Int.toNat_natCast]
    rw [if_pos (by omega), if_pos (by omega)]
    refine sMarks_l1 l hok i (by omega) (d * 300) (fun k m hk hm hM => ih k (i + 1) m hk (by omega) (by omega) hm hM) _ k m _ ?_ rfl (Int.le_refl _) (by omega) hm (fun c hc => ?_)
    · omega
    · rw [hM c hc]
      constructor
      · exact .inl
      · rintro (h | h)
        · exact h
        · omega
theorem sMarks (l : List S55) (hok : classOk (l.map toP)) (k : Nat) (hk : 40000 ≤ k) : ∃ r, spec_l1Marks.f k l = some r ∧ markOk l r := by
  have hl : l.length ≤ 128 := by have := classOk_len hok; simpa using this
  unfold spec_l1Marks.f
  rw [if_pos (by omega)]
  refine sMarks_l0 l hok l.length k 0 _ (by omega) (by omega) (by omega) List.length_replicate (fun c hc => ?_)
  constructor
  · intro h
    rw [List.getD_eq_getElem?_getD, List.getElem?_replicate] at h
    split at h <;> simp at h
  · rintro ⟨i, h, _⟩
    omega

theorem wf8 {a : Int} (h : (Lit.int .u8 a).wf = true) : 0 ≤ a ∧ a ≤ 255 := by
  simp [Lit.wf, IntKind.min, IntKind.max, IntKind.signed, IntKind.bits] at h
  omega
theorem sClassHas (l : List S55) (hl : l.length ≤ 1048576) (a : Int) (a0 : 0 ≤ a) (a1 : a ≤ 255) (k : Nat) (hk : 2000000 ≤ k) : spec_ClassHas.f k l a = some (decide (classOk (l.map toP) ∧ InTo (l.map toP) l.length a.toNat)) := by
  unfold spec_ClassHas.f
  rw [sClassOk l hl k (by omega)]
  simp only [Option.bind_some]
  by_cases h : classOk (l.map toP)
  · rw [decide_eq_true h, if_pos rfl]
    obtain ⟨r, e, hr, hm⟩ := sMarks l h k (by omega)
    rw [e]
    simp only [Option.bind_some]
    rw [if_pos a0, if_pos (by omega)]
    congr 1
    unfold rdOf
    have := hm a.toNat (by omega)
    by_cases g : InTo (l.map toP) l.length a.toNat
    · rw [decide_eq_true ⟨h, g⟩, this.2 g]
    · rw [decide_eq_false (fun q => g q.2)]
      cases hv : r.getD a.toNat false
      · rfl
      · exact absurd (this.1 hv) g
  · rw [decide_eq_false h, if_neg (by simp), decide_eq_false (fun q => h q.1)]
theorem iClassHas (l : List S55) (hl : l.length ≤ 1048576) (a : Int) (a0 : 0 ≤ a) (a1 : a ≤ 255) (k : Nat) (hk : 2000000 ≤ k) : impl_ClassHas.f k l a = some (decide (classOk (l.map toP) ∧ InTo (l.map toP) l.length a.toNat)) := by
  unfold impl_ClassHas.f
  rw [iClassOk l hl k (by omega), spP_toP]
  simp only [Option.bind_some]
  by_cases h : classOk (l.map toP)
  · rw [decide_eq_true h, if_pos rfl, if_pos h, if_pos (by omega)]
    by_cases g : InTo (l.map toP) l.length a.toNat
    · rw [decide_eq_true g, decide_eq_true (show classOk (l.map toP) ∧ InTo (l.map toP) l.length a.toNat from ⟨h, g⟩)]
    · rw [decide_eq_false g, decide_eq_false (show ¬ (classOk (l.map toP) ∧ InTo (l.map toP) l.length a.toNat) from fun q => g q.2)]
  · rw [decide_eq_false h, if_neg (by simp), decide_eq_false (fun q => h q.1)]
theorem FnExactClassHas (l : List S64) (g : l.length ≤ maxLen ∧ ∀ x ∈ l, (Lit.int .i64 x.f0).wf = true ∧ (Lit.int .i64 x.f1).wf = true) (a : Int) (ha : (Lit.int .u8 a).wf = true) : ∃ k, laws_FnExactClassHas.f k l a = some true := by
  have hl := g.1
  have ha := wf8 ha
  unfold maxLen at hl
  suffices q : ∀ k, l.length + 3000000 ≤ k → laws_FnExactClassHas.f k l a = some true from ⟨l.length + 3000000, q _ (Nat.le_refl _)⟩
  intro k hk
  unfold laws_FnExactClassHas.f
  rw [szSpanS l 1048576 (by omega) (by omega)]
  simp only [Option.bind_some]
  by_cases h : (l.length : Int) ≤ 1048576
  · have hm : (l.map toI).length = l.length := by simp
    rw [if_pos h, if_neg (by omega), toSpanS l (by omega) _ (by omega)]
    simp only [Option.bind_some]
    rw [sClassHas _ (by omega) a ha.1 ha.2 _ (by omega), iClassHas _ (by omega) a ha.1 ha.2 _ (by omega)]
    simp only [Option.bind_some]
    rw [eqSpanS_same _ (by omega) _ (by omega)]
    simp
  · rw [if_neg h, if_pos (by omega)]
end Go.Proofs.Ytnmlkaoaandemaa.Pure
