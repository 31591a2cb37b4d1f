/- What classes say together, each byte says alone: whatever the code. -/
import Derived.Test.YtlfhnlghfgjooaaPFnClassesx6
import Derived.Test.YtlfhnlghfgjooaaKit
import Derived.Test.YtlfhnlghfgjooaaKitArr
import Derived.Test.YtlfhnlghfgjooaaKitTot
namespace Go.Proofs.Ytlfhnlghfgjooaa.Pure
open Go.RowKit Go.Proofs.Ytlfhnlghfgjooaa.PFnClasses Go.Proofs.YtlfhnlghfgjooaaW.PrintWords Go.Proofs.YtlfhnlghfgjooaaW.PrintLast Go.Proofs.YtlfhnlghfgjooaaW.PrintMore Go.Proofs.Ytlfhnlghfgjooaa.Kit
set_option linter.unusedVariables false
theorem sIn (a b c : Int) : spec_l1In.f a b c = some (decide (b ≤ a ∧ a ≤ c)) := by
  unfold spec_l1In.f
  by_cases h : a ≥ b
  · rw [if_pos h]; congr 1; simp; omega
  · rw [if_neg h]; congr 1; simp; omega
def toP (x : S90) : Int × Int := (x.f0, x.f1)
theorem toP_lo (l : List S90) (i : Int) : (rd_T90 l i).f0 = lo (l.map toP) i.toNat := by
  unfold rd_T90 lo
  rw [List.getD_eq_getElem?_getD, List.getD_eq_getElem?_getD, List.getElem?_map]
  cases l[i.toNat]? <;> rfl
theorem toP_hi (l : List S90) (i : Int) : (rd_T90 l i).f1 = hi (l.map toP) i.toNat := by
  unfold rd_T90 hi
  rw [List.getD_eq_getElem?_getD, List.getD_eq_getElem?_getD, List.getElem?_map]
  cases l[i.toNat]? <;> rfl
open Classical in
theorem iClassOk_l (l : List S90) (hl : l.length ≤ 1048576) (d : Nat) : ∀ (k : Nat) (i : Nat), d < k → l.length - i = d → i ≤ l.length → (∀ j, j < i → okAt (l.map toP) j) →
    impl_ClassOk.l0 k l l (l.length : Int) (i : Int) = some (decide (okFrom (l.map toP) i)) := by
  induction d with
  | zero =>
    intro k i hk hd hle _
    obtain ⟨k, rfl⟩ : ∃ m, k = m + 1 := ⟨k - 1, by omega⟩
    simp only [impl_ClassOk.l0]
    rw [if_neg (by omega), decide_eq_true (okFrom_end (by simp; omega))]
  | succ d ih =>
    intro k i hk hd hle hp
    obtain ⟨k, rfl⟩ : ∃ m, k = m + 1 := ⟨k - 1, by omega⟩
    have hlt : i < (l.map toP).length := by simp; omega
    have hst := okFrom_step (l := l.map toP) hlt
    have hne : ¬ okAt (l.map toP) i → decide (okFrom (l.map toP) i) = false := fun h => decide_eq_false (fun g => h (hst.1 g).1)
    simp only [impl_ClassOk.l0, toP_lo, toP_hi]
    rw [if_pos (by omega), if_pos (by omega), if_pos (by omega)]
    have ei : ((i : Nat) : Int).toNat = i := by omega
    rw [ei]
    by_cases h1 : lo (l.map toP) i < 0
    · rw [if_pos h1, hne (fun g => by have := g.1; omega)]
    · rw [if_neg h1]
      by_cases h2 : lo (l.map toP) i > hi (l.map toP) i
      · rw [if_pos h2, hne (fun g => by have := g.2.1; omega)]
      · rw [if_neg h2]
        by_cases h3 : hi (l.map toP) i > 255
        · rw [if_pos h3, hne (fun g => by have := g.2.2.1; omega)]
        · rw [if_neg h3]
          have en : wrap64 ((i : Int) + 1) = ((i + 1 : Nat) : Int) := by rw [w64 (by omega) (by omega)]; omega
          have go : okAt (l.map toP) i → impl_ClassOk.l0 k l l (l.length : Int) (wrap64 ((i : Int) + 1)) = some (decide (okFrom (l.map toP) i)) := by
            intro g
            rw [en, ih k (i + 1) (by omega) (by omega) (by omega) (fun j hj => by
              rcases Nat.lt_or_eq_of_le (Nat.le_of_lt_succ hj) with h | h
              · exact hp j h
              · exact h ▸ g)]
            congr 1
            exact decide_eq_decide.2 ⟨fun h => hst.2 ⟨g, h⟩, fun h => (hst.1 h).2⟩
          by_cases h4 : (i : Int) > 0
          · have hq := hp (i - 1) (by omega)
            have e1 : (wrap64 ((i : Int) - 1)) = ((i - 1 : Nat) : Int) := by rw [w64 (by omega) (by omega)]; omega
            have e2 : (((i - 1 : Nat) : Int)).toNat = i - 1 := by omega
            have q1 := hq.1
            have q2 := hq.2.1
            have q3 := hq.2.2.1
            rw [if_pos h4, e1, if_pos (by omega), if_pos (by omega), e2, w64 (x := hi (l.map toP) (i - 1) + 2) (by omega) (by omega)]
            by_cases h5 : lo (l.map toP) i < hi (l.map toP) (i - 1) + 2
            · rw [if_pos h5, hne (fun g => by have := g.2.2.2 (by omega); omega)]
            · rw [if_neg h5]
              exact go ⟨by omega, by omega, by omega, fun _ => by omega⟩
          · rw [if_neg h4]
            exact go ⟨by omega, by omega, by omega, fun h => by omega⟩
open Classical in
theorem iClassOk (l : List S90) (hl : l.length ≤ 1048576) (k : Nat) (hk : l.length < k) : impl_ClassOk.f k l = some (decide (classOk (l.map toP))) := by
  unfold impl_ClassOk.f
  have e : impl_ClassOk.l0 k l l (l.length : Int) 0 = some (decide (okFrom (l.map toP) 0)) := iClassOk_l l hl l.length k 0 hk (by omega) (by omega) (fun j hj => by omega)
  rw [e]
  congr 1
  exact decide_eq_decide.2 (okFrom_zero _)
open Classical in
theorem sClassOk_l (l : List S90) (hl : l.length ≤ 1048576) (d : Nat) : ∀ (k : Nat) (i : Nat), d < k → l.length - i = d → i ≤ l.length → (∀ j, j < i → okAt (l.map toP) j) →
    spec_ClassOk.l0 k l (i : Int) = some (decide (okFrom (l.map toP) i)) := by
  induction d with
  | zero =>
    intro k i hk hd hle _
    obtain ⟨k, rfl⟩ : ∃ m, k = m + 1 := ⟨k - 1, by omega⟩
    simp only [spec_ClassOk.l0]
    rw [if_neg (by omega), decide_eq_true (okFrom_end (by simp; omega))]
  | succ d ih =>
    intro k i hk hd hle hp
    obtain ⟨k, rfl⟩ : ∃ m, k = m + 1 := ⟨k - 1, by omega⟩
    have hlt : i < (l.map toP).length := by simp; omega
    have hst := okFrom_step (l := l.map toP) hlt
    have hne : ¬ okAt (l.map toP) i → decide (okFrom (l.map toP) i) = false := fun h => decide_eq_false (fun g => h (hst.1 g).1)
    simp only [spec_ClassOk.l0, toP_lo, toP_hi, sIn, Option.bind_some, decide_eq_true_eq]
    rw [if_pos (by omega), if_pos (by omega)]
    have ei : ((i : Nat) : Int).toNat = i := by omega
    rw [ei]
    by_cases h1 : 0 ≤ lo (l.map toP) i ∧ lo (l.map toP) i ≤ 255
    · rw [if_pos h1]
      by_cases h2 : lo (l.map toP) i ≤ hi (l.map toP) i ∧ hi (l.map toP) i ≤ 255
      · rw [if_pos h2]
        have en : wrap64 ((i : Int) + 1) = ((i + 1 : Nat) : Int) := by rw [w64 (by omega) (by omega)]; omega
        have go : okAt (l.map toP) i → spec_ClassOk.l0 k l (wrap64 ((i : Int) + 1)) = some (decide (okFrom (l.map toP) i)) := by
          intro g
          rw [en, ih k (i + 1) (by omega) (by omega) (by omega) (fun j hj => by
            rcases Nat.lt_or_eq_of_le (Nat.le_of_lt_succ hj) with h | h
            · exact hp j h
            · exact h ▸ g)]
          congr 1
          exact decide_eq_decide.2 ⟨fun h => hst.2 ⟨g, h⟩, fun h => (hst.1 h).2⟩
        by_cases h4 : (i : Int) > 0
        · have hq := hp (i - 1) (by omega)
          have e1 : (wrap64 ((i : Int) - 1)) = ((i - 1 : Nat) : Int) := by rw [w64 (by omega) (by omega)]; omega
          have e2 : (((i - 1 : Nat) : Int)).toNat = i - 1 := by omega
          have q1 := hq.1
          have q2 := hq.2.1
          have q3 := hq.2.2.1
          rw [if_pos h4, e1, if_pos (by omega), if_pos (by omega), e2, w64 (x := hi (l.map toP) (i - 1) + 2) (by omega) (by omega)]
          by_cases h5 : lo (l.map toP) i < hi (l.map toP) (i - 1) + 2
          · rw [if_pos h5, hne (fun g => by have := g.2.2.2 (by omega); omega)]
          · rw [if_neg h5]
            exact go ⟨by omega, by omega, by omega, fun _ => by omega⟩
        · rw [if_neg h4]
          exact go ⟨by omega, by omega, by omega, fun h => by omega⟩
      · rw [if_neg h2, hne (fun g => h2 ⟨g.2.1, g.2.2.1⟩)]
    · rw [if_neg h1, hne (fun g => h1 ⟨g.1, by have := g.2.1; have := g.2.2.1; omega⟩)]
open Classical in
theorem sClassOk (l : List S90) (hl : l.length ≤ 1048576) (k : Nat) (hk : l.length < k) : spec_ClassOk.f k l = some (decide (classOk (l.map toP))) := by
  unfold spec_ClassOk.f
  by_cases h : (l.length : Int) > 128
  · rw [if_pos h, decide_eq_false]
    intro g
    have := classOk_len g
    simp at this
    omega
  · rw [if_neg h]
    have e : spec_ClassOk.l0 k l 0 = some (decide (okFrom (l.map toP) 0)) := sClassOk_l l hl l.length k 0 hk (by omega) (by omega) (fun j hj => by omega)
    rw [e]
    congr 1
    exact decide_eq_decide.2 (okFrom_zero _)
theorem spP_toP : spP = toP := rfl
/-- the flags of a class's bytes -/
def markOk (l : List S90) (m : List Bool) : Prop := m.length = 256 ∧ ∀ c, c < 256 → (m.getD c false = true ↔ InTo (l.map toP) l.length c)
theorem sMarks_l1 (l : List S90) (hok : classOk (l.map toP)) (i : Nat) (hi' : i < l.length) (K : Nat)
    (G : ∀ k m, K < k → m.length = 256 → (∀ c, c < 256 → (m.getD c false = true ↔ InTo (l.map toP) (i + 1) c)) → ∃ r, spec_l1Marks.l0 k l m ((i + 1 : Nat) : Int) = some r ∧ markOk l r) (e : Nat) :
    ∀ (k : Nat) (m : List Bool) (b : Int), K + e + 1 < k → (hi (l.map toP) i - b + 1).toNat = e → lo (l.map toP) i ≤ b → b ≤ hi (l.map toP) i + 1 → m.length = 256 → (∀ c, c < 256 → (m.getD c false = true ↔ InTo (l.map toP) i c ∨ (lo (l.map toP) i ≤ (c : Int) ∧ (c : Int) < b))) →
      ∃ r, spec_l1Marks.l1 k l m (i : Int) b = some r ∧ markOk l r := by
  have ho := hok i (by simpa using hi')
  have o0 := ho.1
  have o1 := ho.2.2.1
  have hl : l.length ≤ 128 := by have := classOk_len hok; simpa using this
  induction e with
  | zero =>
    intro k m b hk he hb0 hb1 hm hM
    obtain ⟨k, rfl⟩ : ∃ m, k = m + 1 := ⟨k - 1, by omega⟩
    simp only [spec_l1Marks.l1, toP_hi, Int.toNat_natCast]
    rw [if_pos (by omega), if_pos (by omega), if_neg (by omega), nat_next (by omega)]
    refine G k m (by omega) hm (fun c hc => ?_)
    rw [hM c hc, InTo_step]
    constructor
    · rintro (h | h)
      · exact .inl h
      · exact .inr (by omega)
    · rintro (h | h)
      · exact .inl h
      · exact .inr (by omega)
  | succ e ih =>
    intro k m b hk he hb0 hb1 hm hM
    obtain ⟨k, rfl⟩ : ∃ m, k = m + 1 := ⟨k - 1, by omega⟩
    simp only [spec_l1Marks.l1, toP_hi, Int.toNat_natCast]
    rw [if_pos (by omega), if_pos (by omega), if_pos (by omega), if_pos (by omega), if_pos (by omega), w64 (x := b + 1) (by omega) (by omega)]
    refine ih k _ (b + 1) (by omega) (by omega) (by omega) (by omega) (by simpa using hm) (fun c hc => ?_)
    rw [getD_set _ _ _ (by omega), hM c hc]
    constructor
    · rintro ((h | h) | h)
      · exact .inl h
      · exact .inr (by omega)
      · exact .inr (by omega)
    · rintro (h | h)
      · exact .inl (.inl h)
      · by_cases q : c = b.toNat
        · exact .inr q
        · exact .inl (.inr (by omega))
theorem sMarks_l0 (l : List S90) (hok : classOk (l.map toP)) (d : Nat) : ∀ (k i : Nat) (m : List Bool), d * 300 < k → l.length - i = d → i ≤ l.length → m.length = 256 → (∀ c, c < 256 → (m.getD c false = true ↔ InTo (l.map toP) i c)) →
    ∃ r, spec_l1Marks.l0 k l m (i : Int) = some r ∧ markOk l r := by
  have hl : l.length ≤ 128 := by have := classOk_len hok; simpa using this
  induction d with
  | zero =>
    intro k i m hk hd hi' hm hM
    obtain ⟨k, rfl⟩ : ∃ m, k = m + 1 := ⟨k - 1, by omega⟩
    obtain rfl : i = l.length := by omega
    simp only [spec_l1Marks.l0]
    rw [if_neg (by omega)]
    exact ⟨m, rfl, hm, hM⟩
  | succ d ih =>
    intro k i m hk hd hi' hm hM
    obtain ⟨k, rfl⟩ : ∃ m, k = m + 1 := ⟨k - 1, by omega⟩
    have ho := hok i (by simp; omega)
    have o0 := ho.1
    have o1 := ho.2.2.1
    have o2 := ho.2.1
    simp only [spec_l1Marks.l0, toP_lo, Int.toNat_natCast]
    rw [if_pos (by omega), if_pos (by omega)]
    refine sMarks_l1 l hok i (by omega) (d * 300) (fun k m hk hm hM => ih k (i + 1) m hk (by omega) (by omega) hm hM) _ k m _ ?_ rfl (Int.le_refl _) (by omega) hm (fun c hc => ?_)
    · omega
    · rw [hM c hc]
      constructor
      · exact .inl
      · rintro (h | h)
        · exact h
        · omega
theorem sMarks (l : List S90) (hok : classOk (l.map toP)) (k : Nat) (hk : 40000 ≤ k) : ∃ r, spec_l1Marks.f k l = some r ∧ markOk l r := by
  have hl : l.length ≤ 128 := by have := classOk_len hok; simpa using this
  unfold spec_l1Marks.f
  rw [if_pos (by omega)]
  refine sMarks_l0 l hok l.length k 0 _ (by omega) (by omega) (by omega) List.length_replicate (fun c hc => ?_)
  constructor
  · intro h
    rw [List.getD_eq_getElem?_getD, List.getElem?_replicate] at h
    split at h <;> simp at h
  · rintro ⟨i, h, _⟩
    omega
theorem class_l (m : List Bool) (hm : m.length = 256) (d : Nat) : ∀ (k : Nat) (acc : List S90) (b : Nat), d < k → 256 - b = d → b ≤ 256 → acc.length ≤ b → ∃ r, spec_l1Class.l0 k m acc (b : Int) = some r ∧ r.length ≤ 256 := by
  induction d with
  | zero =>
    intro k acc b hk hd hb ha
    obtain ⟨k, rfl⟩ : ∃ m, k = m + 1 := ⟨k - 1, by omega⟩
    simp only [spec_l1Class.l0]
    rw [if_neg (by omega)]
    exact ⟨acc, rfl, by omega⟩
  | succ d ih =>
    intro k acc b hk hd hb ha
    obtain ⟨k, rfl⟩ : ∃ m, k = m + 1 := ⟨k - 1, by omega⟩
    simp only [spec_l1Class.l0]
    rw [if_pos (by omega), if_pos (by omega), if_pos (by omega), nat_next (by omega)]
    have app : ∃ r, (if acc.length < 8796093022208 then spec_l1Class.l0 k m (acc ++ [(⟨(b : Int), (b : Int)⟩ : S90)]) ((b + 1 : Nat) : Int) else none) = some r ∧ r.length ≤ 256 := by
      rw [if_pos (by omega)]
      exact ih k _ (b + 1) (by omega) (by omega) (by omega) (by simp; omega)
    by_cases h : rdOf false m (b : Int) = true
    · rw [if_pos h]
      by_cases h0 : (acc.length : Int) > 0
      · rw [if_pos h0, w64 (x := (acc.length : Int) - 1) (by omega) (by omega), if_pos (by omega), if_pos (by omega)]
        by_cases h1 : (rd_T90 acc ((acc.length : Int) - 1)).f1 = wrap64 ((b : Int) - 1)
        · rw [if_pos h1]
          exact ih k _ (b + 1) (by omega) (by omega) (by omega) (by rw [List.length_set]; omega)
        · rw [if_neg h1]
          exact app
      · rw [if_neg h0]
        exact app
    · rw [if_neg h]
      exact ih k _ (b + 1) (by omega) (by omega) (by omega) (by omega)
theorem classS (m : List Bool) (hm : m.length = 256) (k : Nat) (hk : 300 ≤ k) : ∃ r, spec_l1Class.f k m = some r ∧ r.length ≤ 256 := by
  unfold spec_l1Class.f
  exact class_l m hm 256 k [] 0 (by omega) (by omega) (by omega) (by simp)
theorem class_at (m : List Bool) {r : List S90} {k : Nat} (h : spec_l1Class.f k m = some r) : ∀ j, spec_l1Class.f (k + j) m = some r
  | 0 => h
  | j + 1 => spec_l1Class.mono m (k + j) r (class_at m h j)
open Classical in
/-- what the program's rule comes to -/
theorem combI (q : Bool → Bool → Bool) (l0 l1 : List S90) (h0 : l0.length ≤ 1048576) (h1 : l1.length ≤ 1048576) (k : Nat) (hk : 2000000 ≤ k) :
    ∃ res, impl_combined.f k q l0 l1 = some res ∧ res.length ≤ 256 ∧ ((classOk (l0.map toP) ∧ classOk (l1.map toP)) → ∀ k', 300 ≤ k' → spec_l1Class.f k' (combM q (marksB l0) (marksB l1)) = some res) ∧ (¬ (classOk (l0.map toP) ∧ classOk (l1.map toP)) → res = []) := by
  unfold impl_combined.f
  rw [iClassOk l0 h0 k (by omega), iClassOk l1 h1 k (by omega)]
  simp only [Option.bind_some, decide_eq_true_eq]
  by_cases o0 : classOk (l0.map toP)
  · rw [if_pos o0]
    by_cases o1 : classOk (l1.map toP)
    · obtain ⟨res, er, hr⟩ := classS (combM q (marksB l0) (marksB l1)) (combM_len _ _ _) 300 (Nat.le_refl _)
      have hall : ∀ k', 300 ≤ k' → spec_l1Class.f k' (combM q (marksB l0) (marksB l1)) = some res := fun k' hk' => by
        have := class_at _ er (k' - 300)
        rwa [show 300 + (k' - 300) = k' by omega] at this
      refine ⟨res, ?_, hr, fun _ => hall, fun h => absurd ⟨o0, o1⟩ h⟩
      rw [if_pos o1, if_pos (show classOk (l0.map spP) ∧ classOk (l1.map spP) from ⟨o0, o1⟩)]
      exact hall _ (by omega)
    · exact ⟨[], by rw [if_neg o1], by simp, fun h => absurd h.2 o1, fun _ => rfl⟩
  · exact ⟨[], by rw [if_neg o0], by simp, fun h => absurd h.1 o0, fun _ => rfl⟩
theorem classOk_nil : classOk (([] : List S90).map toP) := fun i hi => by simp at hi
theorem wf8 {a : Int} (h : (Lit.int .u8 a).wf = true) : 0 ≤ a ∧ a ≤ 255 := by
  simp [Lit.wf, IntKind.min, IntKind.max, IntKind.signed, IntKind.bits] at h
  omega
theorem sClassHas (l : List S90) (hl : l.length ≤ 1048576) (a : Int) (a0 : 0 ≤ a) (a1 : a ≤ 255) (k : Nat) (hk : 2000000 ≤ k) : spec_ClassHas.f k l a = some (decide (classOk (l.map toP) ∧ InTo (l.map toP) l.length a.toNat)) := by
  unfold spec_ClassHas.f
  rw [sClassOk l hl k (by omega)]
  simp only [Option.bind_some]
  by_cases h : classOk (l.map toP)
  · rw [decide_eq_true h, if_pos rfl]
    obtain ⟨r, e, hr, hm⟩ := sMarks l h k (by omega)
    rw [e]
    simp only [Option.bind_some]
    rw [if_pos a0, if_pos (by omega)]
    congr 1
    unfold rdOf
    have := hm a.toNat (by omega)
    by_cases g : InTo (l.map toP) l.length a.toNat
    · rw [decide_eq_true ⟨h, g⟩, this.2 g]
    · rw [decide_eq_false (fun q => g q.2)]
      cases hv : r.getD a.toNat false
      · rfl
      · exact absurd (this.1 hv) g
  · rw [decide_eq_false h, if_neg (by simp), decide_eq_false (fun q => h q.1)]
theorem iClassHas (l : List S90) (hl : l.length ≤ 1048576) (a : Int) (a0 : 0 ≤ a) (a1 : a ≤ 255) (k : Nat) (hk : 2000000 ≤ k) : impl_ClassHas.f k l a = some (decide (classOk (l.map toP) ∧ InTo (l.map toP) l.length a.toNat)) := by
  unfold impl_ClassHas.f
  rw [iClassOk l hl k (by omega), spP_toP]
  simp only [Option.bind_some]
  by_cases h : classOk (l.map toP)
  · rw [decide_eq_true h, if_pos rfl, if_pos h, if_pos (by omega)]
    by_cases g : InTo (l.map toP) l.length a.toNat
    · rw [decide_eq_true g, decide_eq_true (show classOk (l.map toP) ∧ InTo (l.map toP) l.length a.toNat from ⟨h, g⟩)]
    · rw [decide_eq_false g, decide_eq_false (show ¬ (classOk (l.map toP) ∧ InTo (l.map toP) l.length a.toNat) from fun q => g q.2)]
  · rw [decide_eq_false h, if_neg (by simp), decide_eq_false (fun q => h q.1)]
/-- d spans more, from the i-th on -/
def cntLoop (l : List (Int × Int)) : Nat → Nat → Int → Int
  | 0, _, n => n
  | d + 1, i, n => cntLoop l d (i + 1) (n + (hi l i - lo l i + 1))
theorem iCountOf_l (l : List S90) (hok : classOk (l.map toP)) (d : Nat) : ∀ (k : Nat) (n : Int) (i : Nat), d < k → l.length - i = d → 0 ≤ n → n ≤ 256 * i →
    impl_CountOf.l0 k n l (l.length : Int) (i : Int) = some (cntLoop (l.map toP) d i n) := by
  have hlen : l.length ≤ 128 := by have := classOk_len hok; simpa using this
  induction d with
  | zero =>
    intro k n i hk hd h0 h1
    obtain ⟨k, rfl⟩ : ∃ m, k = m + 1 := ⟨k - 1, by omega⟩
    simp only [impl_CountOf.l0]
    rw [if_neg (by omega)]
    rfl
  | succ d ih =>
    intro k n i hk hd h0 h1
    obtain ⟨k, rfl⟩ : ∃ m, k = m + 1 := ⟨k - 1, by omega⟩
    have ho := hok i (by simp; omega)
    have o1 := ho.1
    have o2 := ho.2.1
    have o3 := ho.2.2.1
    have ei : ((i : Nat) : Int).toNat = i := by omega
    simp only [impl_CountOf.l0, toP_lo, toP_hi, ei]
    rw [if_pos (by omega), if_pos (by omega), if_pos (by omega), w64 (x := hi (l.map toP) i - lo (l.map toP) i) (by omega) (by omega), w64 (x := hi (l.map toP) i - lo (l.map toP) i + 1) (by omega) (by omega), w64 (x := n + (hi (l.map toP) i - lo (l.map toP) i + 1)) (by omega) (by omega), w64 (x := (i : Int) + 1) (by omega) (by omega)]
    exact ih k (n + (hi (l.map toP) i - lo (l.map toP) i + 1)) (i + 1) (by omega) (by omega) (by omega) (by omega)
open Classical in
noncomputable def cntM (l : List (Int × Int)) : Int := if classOk l then cntLoop l l.length 0 0 else -1
open Classical in
theorem iCountOf (l : List S90) (hl : l.length ≤ 1048576) (k : Nat) (hk : l.length < k) : impl_CountOf.f k l = some (cntM (l.map toP)) := by
  unfold impl_CountOf.f cntM
  rw [iClassOk l hl k hk]
  simp only [Option.bind_some, decide_eq_true_eq]
  by_cases h : classOk (l.map toP)
  · rw [if_pos h, if_pos h, List.length_map]
    exact iCountOf_l l h l.length k 0 0 hk (by omega) (by omega) (by omega)
  · rw [if_neg h, if_neg h]
theorem lo_snoc (l : List (Int × Int)) (v : Int × Int) (i : Nat) : lo (l ++ [v]) i = if i < l.length then lo l i else if i = l.length then v.1 else 0 := by
  unfold lo
  rw [List.getD_eq_getElem?_getD, List.getD_eq_getElem?_getD, List.getElem?_append]
  by_cases h : i < l.length
  · rw [if_pos h, if_pos h]
  · rw [if_neg h, if_neg h]
    by_cases e : i = l.length
    · rw [if_pos e, e, Nat.sub_self]; rfl
    · rw [if_neg e, List.getElem?_eq_none (by simp; omega)]; rfl
theorem hi_snoc (l : List (Int × Int)) (v : Int × Int) (i : Nat) : hi (l ++ [v]) i = if i < l.length then hi l i else if i = l.length then v.2 else 0 := by
  unfold hi
  rw [List.getD_eq_getElem?_getD, List.getD_eq_getElem?_getD, List.getElem?_append]
  by_cases h : i < l.length
  · rw [if_pos h, if_pos h]
  · rw [if_neg h, if_neg h]
    by_cases e : i = l.length
    · rw [if_pos e, e, Nat.sub_self]; rfl
    · rw [if_neg e, List.getElem?_eq_none (by simp; omega)]; rfl
theorem lo_set (l : List (Int × Int)) (v : Int × Int) (j i : Nat) (hj : j < l.length) : lo (l.set j v) i = if i = j then v.1 else lo l i := by
  unfold lo
  rw [List.getD_eq_getElem?_getD, List.getD_eq_getElem?_getD]
  by_cases e : i = j
  · rw [if_pos e, e, List.getElem?_set_self hj]; rfl
  · rw [if_neg e, List.getElem?_set_ne (fun h => e h.symm)]
theorem hi_set (l : List (Int × Int)) (v : Int × Int) (j i : Nat) (hj : j < l.length) : hi (l.set j v) i = if i = j then v.2 else hi l i := by
  unfold hi
  rw [List.getD_eq_getElem?_getD, List.getD_eq_getElem?_getD]
  by_cases e : i = j
  · rw [if_pos e, e, List.getElem?_set_self hj]; rfl
  · rw [if_neg e, List.getElem?_set_ne (fun h => e h.symm)]
/-- the class of the marked bytes below b -/
structure ClOf (m : List Bool) (l : List (Int × Int)) (b : Nat) : Prop where
  ok : classOk l
  top : ∀ i, i < l.length → hi l i < b
  is : ∀ c, c < 256 → (InTo l l.length c ↔ c < b ∧ m.getD c false = true)
theorem ClOf.skip {m l b} (h : ClOf m l b) (hb : ¬ m.getD b false = true) : ClOf m l (b + 1) :=
  ⟨h.ok, fun i hi' => by have := h.top i hi'; omega, fun c hc => by
    rw [h.is c hc]
    constructor
    · rintro ⟨h1, h2⟩
      exact ⟨by omega, h2⟩
    · rintro ⟨h1, h2⟩
      refine ⟨?_, h2⟩
      by_cases e : c = b
      · subst e; exact absurd h2 hb
      · omega⟩
theorem ClOf.more {m l b} (h : ClOf m l b) (hb : m.getD b false = true) (hlt : b < 256) (n : Nat) (hn : l.length = n + 1) (hl : hi l n = (b : Int) - 1) : ClOf m (l.set n (lo l n, (b : Int))) (b + 1) := by
  have hlen : (l.set n (lo l n, (b : Int))).length = l.length := List.length_set
  have eL : ∀ i, lo (l.set n (lo l n, (b : Int))) i = lo l i := fun i => by
    rw [lo_set _ _ _ _ (by omega)]
    by_cases e : i = n
    · rw [if_pos e, e]
    · rw [if_neg e]
  have eH : ∀ i, hi (l.set n (lo l n, (b : Int))) i = if i = n then (b : Int) else hi l i := fun i => hi_set _ _ _ _ (by omega)
  refine ⟨fun i hi' => ?_, fun i hi' => ?_, fun c hc => ?_⟩
  · rw [hlen] at hi'
    have o := h.ok i hi'
    obtain ⟨o0, o1, o2, o3⟩ := o
    refine ⟨by rw [eL]; exact o0, ?_, ?_, fun h0 => ?_⟩
    · rw [eL, eH]
      by_cases e : i = n
      · subst e; rw [if_pos rfl]; omega
      · rw [if_neg e]; exact o1
    · rw [eH]
      by_cases e : i = n
      · rw [if_pos e]; omega
      · rw [if_neg e]; exact o2
    · rw [eL, eH, if_neg (by omega)]
      exact o3 h0
  · rw [hlen] at hi'
    have := h.top i hi'
    rw [eH]
    by_cases e : i = n
    · rw [if_pos e]; omega
    · rw [if_neg e]; omega
  · rw [hlen]
    have key : InTo (l.set n (lo l n, (b : Int))) l.length c ↔ InTo l l.length c ∨ c = b := by
      constructor
      · rintro ⟨i, h1, h2, h3⟩
        rw [eL] at h2
        rw [eH] at h3
        by_cases e : i = n
        · subst e
          rw [if_pos rfl] at h3
          by_cases e2 : c = b
          · exact .inr e2
          · exact .inl ⟨i, h1, h2, by omega⟩
        · rw [if_neg e] at h3
          exact .inl ⟨i, h1, h2, h3⟩
      · rintro (⟨i, h1, h2, h3⟩ | h1)
        · refine ⟨i, h1, by rw [eL]; exact h2, ?_⟩
          rw [eH]
          by_cases e : i = n
          · subst e; rw [if_pos rfl]; omega
          · rw [if_neg e]; exact h3
        · refine ⟨n, by omega, by rw [eL, h1]; have := (h.ok n (by omega)).2.1; omega, by rw [eH, if_pos rfl, h1]; omega⟩
    rw [key, h.is c hc]
    constructor
    · rintro (⟨h1, h2⟩ | h1)
      · exact ⟨by omega, h2⟩
      · subst h1; exact ⟨by omega, hb⟩
    · rintro ⟨h1, h2⟩
      by_cases e : c = b
      · exact .inr e
      · exact .inl ⟨by omega, h2⟩
theorem ClOf.new {m l b} (h : ClOf m l b) (hb : m.getD b false = true) (hlt : b < 256) (hl : ∀ n, l.length = n + 1 → hi l n ≠ (b : Int) - 1) : ClOf m (l ++ [((b : Int), (b : Int))]) (b + 1) := by
  have hlen : (l ++ [((b : Int), (b : Int))]).length = l.length + 1 := by simp
  refine ⟨fun i hi' => ?_, fun i hi' => ?_, fun c hc => ?_⟩
  · rw [hlen] at hi'
    by_cases e : i < l.length
    · obtain ⟨o0, o1, o2, o3⟩ := h.ok i e
      refine ⟨by rw [lo_snoc, if_pos e]; exact o0, by rw [lo_snoc, hi_snoc, if_pos e, if_pos e]; exact o1, by rw [hi_snoc, if_pos e]; exact o2, fun h0 => ?_⟩
      rw [lo_snoc, hi_snoc, if_pos e, if_pos (by omega)]
      exact o3 h0
    · have e2 : i = l.length := by omega
      subst e2
      refine ⟨?_, ?_, ?_, fun h0 => ?_⟩
      · rw [lo_snoc, if_neg e, if_pos rfl]; simp only; omega
      · rw [lo_snoc, hi_snoc, if_neg e, if_neg e, if_pos rfl]; exact Int.le_refl _
      · rw [hi_snoc, if_neg e, if_pos rfl]; simp only; omega
      · rw [lo_snoc, hi_snoc, if_neg e, if_pos (by omega), if_pos rfl]
        have h1 := h.top (l.length - 1) (by omega)
        have h2 := hl (l.length - 1) (by omega)
        simp only
        omega
  · rw [hlen] at hi'
    rw [hi_snoc]
    by_cases e : i < l.length
    · rw [if_pos e]; have := h.top i e; omega
    · rw [if_neg e, if_pos (by omega)]; simp only; omega
  · rw [hlen]
    have key : InTo (l ++ [((b : Int), (b : Int))]) (l.length + 1) c ↔ InTo l l.length c ∨ c = b := by
      constructor
      · rintro ⟨i, h1, h2, h3⟩
        rw [lo_snoc] at h2
        rw [hi_snoc] at h3
        by_cases e : i < l.length
        · rw [if_pos e] at h2 h3
          exact .inl ⟨i, e, h2, h3⟩
        · rw [if_neg e, if_pos (by omega)] at h2 h3
          simp only at h2 h3
          exact .inr (by omega)
      · rintro (⟨i, h1, h2, h3⟩ | h1)
        · exact ⟨i, by omega, by rw [lo_snoc, if_pos h1]; exact h2, by rw [hi_snoc, if_pos h1]; exact h3⟩
        · refine ⟨l.length, by omega, by rw [lo_snoc, if_neg (by omega), if_pos rfl, h1]; exact Int.le_refl _, by rw [hi_snoc, if_neg (by omega), if_pos rfl, h1]; exact Int.le_refl _⟩
    rw [key, h.is c hc]
    constructor
    · rintro (⟨h1, h2⟩ | h1)
      · exact ⟨by omega, h2⟩
      · subst h1; exact ⟨by omega, hb⟩
    · rintro ⟨h1, h2⟩
      by_cases e : c = b
      · exact .inr e
      · exact .inl ⟨by omega, h2⟩
theorem classR_l (m : List Bool) (hm : m.length = 256) (d : Nat) : ∀ (k : Nat) (acc : List S90) (b : Nat), d < k → 256 - b = d → b ≤ 256 → ClOf m (acc.map toP) b → ∃ r, spec_l1Class.l0 k m acc (b : Int) = some r ∧ ClOf m (r.map toP) 256 := by
  induction d with
  | zero =>
    intro k acc b hk hd hb ha
    obtain ⟨k, rfl⟩ : ∃ m, k = m + 1 := ⟨k - 1, by omega⟩
    obtain rfl : b = 256 := by omega
    simp only [spec_l1Class.l0]
    rw [if_neg (by omega)]
    exact ⟨acc, rfl, ha⟩
  | succ d ih =>
    intro k acc b hk hd hb ha
    obtain ⟨k, rfl⟩ : ∃ m, k = m + 1 := ⟨k - 1, by omega⟩
    have hl : acc.length ≤ 128 := by have := classOk_len ha.ok; simpa using this
    have eb : rdOf false m (b : Int) = m.getD b false := by unfold rdOf; rw [Int.toNat_natCast]
    simp only [spec_l1Class.l0, eb, toP_hi]
    rw [if_pos (by omega), if_pos (by omega), if_pos (by omega), nat_next (by omega)]
    by_cases h : m.getD b false = true
    · rw [if_pos h]
      have app : (∀ n, (acc.map toP).length = n + 1 → hi (acc.map toP) n ≠ (b : Int) - 1) → ∃ r, (if acc.length < 8796093022208 then spec_l1Class.l0 k m (acc ++ [(⟨(b : Int), (b : Int)⟩ : S90)]) ((b + 1 : Nat) : Int) else none) = some r ∧ ClOf m (r.map toP) 256 := by
        intro hn
        rw [if_pos (by omega)]
        refine ih k _ (b + 1) (by omega) (by omega) (by omega) ?_
        rw [List.map_append]
        exact ha.new h (by omega) hn
      by_cases h0 : (acc.length : Int) > 0
      · rw [if_pos h0, w64 (x := (acc.length : Int) - 1) (by omega) (by omega), if_pos (by omega), if_pos (by omega), w64 (x := (b : Int) - 1) (by omega) (by omega)]
        have en : (((acc.length : Int) - 1) : Int).toNat = acc.length - 1 := by omega
        rw [en]
        by_cases h1 : hi (acc.map toP) (acc.length - 1) = (b : Int) - 1
        · rw [if_pos h1]
          refine ih k _ (b + 1) (by omega) (by omega) (by omega) ?_
          have := ha.more h (by omega) (acc.length - 1) (by simp; omega) h1
          rw [List.map_set]
          have e3 : toP (⟨(rd_T90 acc ((acc.length : Int) - 1)).f0, (b : Int)⟩ : S90) = (lo (acc.map toP) (acc.length - 1), (b : Int)) := by
            unfold toP
            rw [toP_lo, en]
            rfl
          rw [e3]
          exact this
        · rw [if_neg h1]
          refine app (fun n hn => ?_)
          have : n = acc.length - 1 := by simp at hn; omega
          rw [this]
          exact h1
      · rw [if_neg h0]
        exact app (fun n hn => by simp at hn; omega)
    · rw [if_neg h]
      exact ih k _ (b + 1) (by omega) (by omega) (by omega) (ha.skip h)
/-- the class of marked bytes is right, and has just these -/
theorem classR (m : List Bool) (hm : m.length = 256) (k : Nat) (hk : 300 ≤ k) : ∃ r, spec_l1Class.f k m = some r ∧ classOk (r.map toP) ∧ ∀ c, c < 256 → (InTo (r.map toP) r.length c ↔ m.getD c false = true) := by
  obtain ⟨r, e, h⟩ := classR_l m hm 256 k [] 0 (by omega) (by omega) (by omega) ⟨fun i hi => by simp at hi, fun i hi => by simp at hi, fun c hc => ⟨fun ⟨i, h, _⟩ => by simp at h, fun h => by omega⟩⟩
  refine ⟨r, e, h.ok, fun c hc => ?_⟩
  have := h.is c hc
  rw [List.length_map] at this
  rw [this]
  exact ⟨fun h => h.2, fun h => ⟨hc, h⟩⟩
theorem next_ok {b : List Int} {p : Int} (hb : Bytes b) (hp : At b p) : Tot (spec_l1Rd_next.f b p) (fun r => 0 ≤ r.1 ∧ r.1 ≤ 255 ∧ At b r.2) := by
  have hl := hb.len
  have h0 := hp.1
  have h1 := hp.2
  unfold spec_l1Rd_next.f
  by_cases h : p ≥ (b.length : Int)
  · rw [if_pos h]
    exact Tot.pure ⟨by simp, by simp, hp⟩
  · rw [if_neg h]
    have e : wrap64 (wrap64 (p + 1) - 1) = p := by
      rw [w64 (x := p + 1) (by omega) (by omega), w64 (by omega) (by omega)]
      omega
    rw [e, if_pos h0, if_pos (by omega)]
    have := hb.lo p
    have := hb.hi p
    rw [w64 (x := rd b p) (by omega) (by omega), w64 (x := p + 1) (by omega) (by omega)]
    exact Tot.pure ⟨hb.lo p, hb.hi p, by simp only; omega, by simp only; omega⟩
theorem below_ok {b : List Int} {p : Int} (n : Int) (hb : Bytes b) (hp : At b p) : Tot (spec_l1Rd_below.f b p n) (fun r => 0 ≤ r.1 ∧ (r.1 < n ∨ r.1 = 0) ∧ At b r.2) := by
  unfold spec_l1Rd_below.f
  by_cases h : n ≤ 1
  · rw [if_pos h]
    exact Tot.pure ⟨by simp, by simp, hp⟩
  · rw [if_neg h]
    by_cases h2 : n ≤ 256
    · rw [if_pos h2]
      refine (next_ok hb hp).bind fun v hv => ?_
      rw [if_neg (by omega)]
      obtain ⟨v0, v1, v2⟩ := hv
      have := Int.emod_nonneg v.1 (show n ≠ 0 by omega)
      have := Int.emod_lt_of_pos v.1 (show 0 < n by omega)
      exact Tot.pure ⟨by rw [tmod_pos v0]; omega, by rw [tmod_pos v0]; omega, v2⟩
    · rw [if_neg h2]
      refine (next_ok hb hp).bind fun v hv => ?_
      obtain ⟨v0, v1, v2⟩ := hv
      refine (next_ok hb v2).bind fun u hu => ?_
      obtain ⟨u0, u1, u2⟩ := hu
      rw [if_neg (by omega), w64 (x := v.1 * 256) (by omega) (by omega), w64 (x := v.1 * 256 + u.1) (by omega) (by omega)]
      have := Int.emod_nonneg (v.1 * 256 + u.1) (show n ≠ 0 by omega)
      have := Int.emod_lt_of_pos (v.1 * 256 + u.1) (show 0 < n by omega)
      exact Tot.pure ⟨by rw [tmod_pos (by omega)]; omega, by rw [tmod_pos (by omega)]; omega, u2⟩
theorem once_ok {b : List Int} {p : Int} (n : Int) (hb : Bytes b) (hp : At b p) : Tot (spec_l1Rd_once.f b p n) (fun r => At b r.2) := by
  unfold spec_l1Rd_once.f
  refine (below_ok n hb hp).bind fun v hv => ?_
  exact Tot.pure hv.2.2
theorem word_l {b : List Int} (hb : Bytes b) (d : Nat) : ∀ (k : Nat) (x i p : Int), d < k → 0 ≤ i → 8 - i = d → At b p → Tot (spec_l1Rd_word.l0 k x i b p) (fun r => At b r.2) := by
  induction d with
  | zero =>
    intro k x i p hk h0 hd hp
    obtain ⟨k, rfl⟩ : ∃ m, k = m + 1 := ⟨k - 1, by omega⟩
    simp only [spec_l1Rd_word.l0]
    rw [if_neg (by omega)]
    exact Tot.pure hp
  | succ d ih =>
    intro k x i p hk h0 hd hp
    obtain ⟨k, rfl⟩ : ∃ m, k = m + 1 := ⟨k - 1, by omega⟩
    simp only [spec_l1Rd_word.l0]
    rw [if_pos (by omega)]
    refine (next_ok hb hp).bind fun v hv => ?_
    rw [w64 (x := i + 1) (by omega) (by omega)]
    exact ih k _ (i + 1) _ (by omega) (by omega) (by omega) hv.2.2
theorem word_ok {b : List Int} {p : Int} {k : Nat} (hk : 10 ≤ k) (hb : Bytes b) (hp : At b p) : Tot (spec_l1Rd_word.f k b p) (fun r => At b r.2) := by
  unfold spec_l1Rd_word.f
  exact word_l hb 8 k 0 0 p (by omega) (by omega) (by omega) hp
theorem near_ok {b : List Int} {p : Int} {k : Nat} (lo hi : Int) (h : -4611686018427387904 ≤ lo) (h' : hi ≤ 4611686018427387902) (l' : lo ≤ 4611686018427387904) (g' : -4611686018427387904 ≤ hi) (hk : 10 ≤ k) (hb : Bytes b) (hp : At b p) : Tot (spec_l1Rd_near.f k b p lo hi) (fun r => i64 r.1 ∧ At b r.2) := by
  unfold spec_l1Rd_near.f
  refine (below_ok 8 hb hp).bind fun v hv => ?_
  refine Tot.ite (fun _ => Tot.pure ⟨⟨by simp only; omega, by simp only; omega⟩, hv.2.2⟩) (fun _ => ?_)
  refine Tot.ite (fun _ => Tot.pure ⟨⟨by simp only; omega, by simp only; omega⟩, hv.2.2⟩) (fun _ => ?_)
  refine Tot.ite (fun _ => Tot.pure ⟨⟨by simp only; omega, by simp only; omega⟩, hv.2.2⟩) (fun h3 => ?_)
  refine (word_ok hk hb hv.2.2).bind fun u hu => ?_
  rw [w64 (x := hi - lo) (by omega) (by omega), w64 (x := hi - lo + 1) (by omega) (by omega)]
  have e : IntKind.u64.wrap (hi - lo + 1) = hi - lo + 1 := by
    simp only [IntKind.wrap, IntKind.signed, IntKind.bits]
    first | omega | (simp; omega)
  rw [e, if_neg (by omega)]
  exact Tot.pure ⟨i64_wrap _, hu⟩
theorem off_ok {b : List Int} {p : Int} {k : Nat} (lo hi : Int) (h : -4611686018427387904 ≤ lo) (h' : hi ≤ 4611686018427387902) (l' : lo ≤ 4611686018427387904) (g' : -4611686018427387904 ≤ hi) (hk : 10 ≤ k) (hb : Bytes b) (hp : At b p) : Tot (spec_l1Rd_off.f k b p lo hi) (fun r => i64 r.1 ∧ At b r.2) := by
  unfold spec_l1Rd_off.f
  refine (once_ok 24 hb hp).bind fun v hv => ?_
  refine Tot.ite (fun _ => ?_) (fun _ => ?_)
  · simp only [Option.bind_some]
    refine (below_ok 4 hb hv).bind fun u hu => ?_
    obtain ⟨u0, u1, u2⟩ := hu
    refine Tot.yes u0 (Tot.yes (by simp only [List.length_cons, List.length_nil]; omega) (Tot.pure ⟨?_, u2⟩))
    have : u.1 = 0 ∨ u.1 = 1 ∨ u.1 = 2 ∨ u.1 = 3 := by omega
    rcases this with e | e | e | e <;> simp only [e, rd] <;> simp [i64] <;> first | done | exact i64_wrap _
  · refine (near_ok lo hi h h' l' g' hk hb hv).bind fun u hu => ?_
    exact Tot.pure hu
theorem cls_l1 {b : List Int} (hb : Bytes b) {Q : List S90 × Int → Prop} (n : Int) (n0 : 0 < n) (n1 : n ≤ 100) (K : Nat) (G : ∀ k m p, K < k → m.length = 256 → At b p → Tot (spec_l1Rd_class.l0 k m (n - 1) b p) Q) (d : Nat) :
    ∀ (k : Nat) (m : List Bool) (lo x p : Int), K + d + 1 < k → (256 - x).toNat = d → 0 ≤ x → x ≤ 256 → 0 ≤ lo → lo ≤ 300 → m.length = 256 → At b p → Tot (spec_l1Rd_class.l1 k m n lo x b p) Q := by
  induction d with
  | zero =>
    intro k m lo x p hk hd x0 x1 l0 l1 hm hp
    obtain ⟨k, rfl⟩ : ∃ m, k = m + 1 := ⟨k - 1, by omega⟩
    simp only [spec_l1Rd_class.l1]
    rw [if_neg (by omega), w64 (x := n - 1) (by omega) (by omega)]
    exact G k m p (by omega) hm hp
  | succ d ih =>
    intro k m lo x p hk hd x0 x1 l0 l1 hm hp
    obtain ⟨k, rfl⟩ : ∃ m, k = m + 1 := ⟨k - 1, by omega⟩
    simp only [spec_l1Rd_class.l1]
    rw [if_pos (by omega)]
    refine (below_ok 6 hb hp).bind fun v hv => ?_
    obtain ⟨v0, v1, v2⟩ := hv
    rw [w64 (x := lo + v.1) (by omega) (by omega), w64 (x := n - 1) (by omega) (by omega)]
    refine Tot.ite (fun h => Tot.yes x0 (Tot.yes (by omega) ?_)) (fun h => ?_)
    · rw [w64 (x := x + 1) (by omega) (by omega)]
      exact ih k _ lo (x + 1) _ (by omega) (by omega) (by omega) (by omega) l0 l1 (by rw [List.length_set]; exact hm) v2
    · exact G k m _ (by omega) hm v2
theorem cls_l0 {b : List Int} (hb : Bytes b) (d : Nat) : ∀ (k : Nat) (m : List Bool) (n p : Int), d * 300 + 400 < k → n = d → n ≤ 100 → m.length = 256 → At b p →
    Tot (spec_l1Rd_class.l0 k m n b p) (fun r => classOk (r.1.map toP) ∧ At b r.2) := by
  induction d with
  | zero =>
    intro k m n p hk hn n1 hm hp
    obtain ⟨k, rfl⟩ : ∃ m, k = m + 1 := ⟨k - 1, by omega⟩
    simp only [spec_l1Rd_class.l0]
    obtain ⟨r, e, h1, _⟩ := classR m hm k (by omega)
    rw [if_neg (by omega), e]
    exact Tot.pure ⟨h1, hp⟩
  | succ d ih =>
    intro k m n p hk hn n1 hm hp
    obtain ⟨k, rfl⟩ : ∃ m, k = m + 1 := ⟨k - 1, by omega⟩
    have G : ∀ k m p, d * 300 + 400 < k → m.length = 256 → At b p → Tot (spec_l1Rd_class.l0 k m (n - 1) b p) (fun r => classOk (r.1.map toP) ∧ At b r.2) := fun k m p hk hm hp => ih k m (n - 1) p hk (by omega) (by omega) hm hp
    have J : ∀ (lo p : Int), 0 ≤ lo → lo ≤ 256 → At b p → Tot (spec_l1Rd_class.j1 k m n lo b p) (fun r => classOk (r.1.map toP) ∧ At b r.2) := by
      intro lo p l0 l1 hp
      obtain ⟨k, rfl⟩ : ∃ m, k = m + 1 := ⟨k - 1, by omega⟩
      simp only [spec_l1Rd_class.j1]
      exact cls_l1 hb n (by omega) (by omega) _ G _ k m lo lo p (by omega) rfl l0 (by omega) l0 (by omega) hm hp
    simp only [spec_l1Rd_class.l0]
    rw [if_pos (by omega)]
    refine (below_ok 256 hb hp).bind fun v hv => ?_
    obtain ⟨v0, v1, v2⟩ := hv
    refine (once_ok 2 hb v2).bind fun u hu => ?_
    refine Tot.ite (fun _ => ?_) (fun _ => J _ _ v0 (by omega) hu)
    refine (below_ok 8 hb hu).bind fun y hy => ?_
    obtain ⟨y0, y1, y2⟩ := hy
    rw [w64 (x := 97 + y.1) (by omega) (by omega)]
    exact J _ _ (by omega) (by omega) y2
theorem class_ok {b : List Int} {p : Int} {k : Nat} (hk : 3000 ≤ k) (hb : Bytes b) (hp : At b p) : Tot (spec_l1Rd_class.f k b p) (fun r => classOk (r.1.map toP) ∧ At b r.2) := by
  unfold spec_l1Rd_class.f
  rw [if_pos (by omega)]
  refine (below_ok 5 hb hp).bind fun v hv => ?_
  obtain ⟨v0, v1, v2⟩ := hv
  exact cls_l0 hb v.1.toNat k _ v.1 _ (by omega) (by omega) (by omega) List.length_replicate v2
theorem oddClass_ok {b : List Int} {p : Int} {k : Nat} (hk : 3000 ≤ k) (hb : Bytes b) (hp : At b p) : Tot (spec_l1Rd_oddClass.f k b p) (fun r => r.1.length ≤ 200 ∧ At b r.2) := by
  unfold spec_l1Rd_oddClass.f
  refine (class_ok hk hb hp).bind fun v hv => ?_
  obtain ⟨v0, v1⟩ := hv
  have hl : v.1.length ≤ 128 := by have := classOk_len v0; simpa using this
  refine (below_ok 24 hb v1).bind fun u hu => ?_
  refine Tot.ite (fun _ => ?_) (fun _ => Tot.ite (fun _ => ?_) (fun _ => Tot.ite (fun _ => ?_) (fun _ => ?_)))
  · refine (off_ok 0 255 (by omega) (by omega) (by omega) (by omega) (by omega) hb hu.2.2).bind fun x hx => ?_
    refine (off_ok 0 255 (by omega) (by omega) (by omega) (by omega) (by omega) hb hx.2).bind fun y hy => ?_
    refine Tot.yes (by omega) (Tot.pure ⟨?_, hy.2⟩)
    simp only [List.length_append, List.length_cons, List.length_nil]
    omega
  · refine Tot.ite (fun h => ?_) (fun h => Tot.pure ⟨by simp only; omega, hu.2.2⟩)
    refine (off_ok 0 255 (by omega) (by omega) (by omega) (by omega) (by omega) hb hu.2.2).bind fun x hx => ?_
    refine Tot.yes (by omega) (Tot.pure ⟨by simp only [List.length_set]; omega, hx.2⟩)
  · exact Tot.pure ⟨by simp, hu.2.2⟩
  · exact Tot.pure ⟨by simp only; omega, hu.2.2⟩
/-- how many bytes below n are in it -/
def howMany (X : Nat → Bool) : Nat → Nat
  | 0 => 0
  | n + 1 => howMany X n + (if X n = true then 1 else 0)
theorem howMany_le (X : Nat → Bool) : ∀ n, howMany X n ≤ n
  | 0 => Nat.le_refl _
  | n + 1 => by
    have := howMany_le X n
    simp only [howMany]
    split <;> omega
theorem howMany_iv (a z : Nat) (h : a ≤ z) : ∀ n, howMany (fun c => decide (a ≤ c ∧ c ≤ z)) n = min n (z + 1) - min n a
  | 0 => by simp [howMany]
  | n + 1 => by
    simp only [howMany, howMany_iv a z h n, decide_eq_true_eq]
    split <;> omega
theorem howMany_or (X Y Z : Nat → Bool) (n : Nat) (h : ∀ c, c < n → (X c = true ↔ (Y c = true ∨ Z c = true)) ∧ ¬ (Y c = true ∧ Z c = true)) : howMany X n = howMany Y n + howMany Z n := by
  induction n with
  | zero => rfl
  | succ n ih =>
    simp only [howMany, ih (fun c hc => h c (by omega))]
    have := h n (by omega)
    cases hx : X n <;> cases hy : Y n <;> cases hz : Z n <;> simp [hx, hy, hz] at this ⊢ <;> omega
theorem cnt_is (l : List (Int × Int)) (h : classOk l) (d : Nat) : ∀ (i : Nat), l.length - i = d → i ≤ l.length → cntLoop l d i (howMany (fun c => decide (InTo l i c)) 256 : Nat) = (howMany (fun c => decide (InTo l l.length c)) 256 : Nat) := by
  induction d with
  | zero =>
    intro i hd hi'
    obtain rfl : i = l.length := by omega
    rfl
  | succ d ih =>
    intro i hd hi'
    simp only [cntLoop]
    have o := h i (by omega)
    obtain ⟨o0, o1, o2, o3⟩ := o
    have mono : ∀ j, j < i → hi l j < lo l i := by
      intro j hj
      have : ∀ e, ∀ j, j + e + 1 = i → hi l j < lo l i := by
        intro e
        induction e with
        | zero =>
          intro j hj
          have := o3 (by omega)
          rw [show i - 1 = j by omega] at this
          omega
        | succ e ihe =>
          intro j hj
          have h1 := ihe (j + 1) (by omega)
          have h2 := h (j + 1) (by omega)
          have h3 := h2.2.2.2 (by omega)
          rw [Nat.add_sub_cancel] at h3
          have h4 := h2.2.1
          omega
      exact this (i - j - 1) j (by omega)
    have e1 : howMany (fun c => decide (InTo l (i + 1) c)) 256 = howMany (fun c => decide (InTo l i c)) 256 + howMany (fun c => decide ((lo l i).toNat ≤ c ∧ c ≤ (hi l i).toNat)) 256 := by
      refine howMany_or _ _ _ 256 (fun c hc => ?_)
      simp only [decide_eq_true_eq]
      rw [InTo_step]
      refine ⟨⟨fun g => g.elim .inl (fun g => .inr (by omega)), fun g => g.elim .inl (fun g => .inr (by omega))⟩, ?_⟩
      rintro ⟨⟨j, h1, h2, h3⟩, h4⟩
      have := mono j h1
      omega
    rw [howMany_iv _ _ (by omega)] at e1
    have e2 : ((howMany (fun c => decide (InTo l i c)) 256 : Nat) : Int) + (hi l i - lo l i + 1) = ((howMany (fun c => decide (InTo l (i + 1) c)) 256 : Nat) : Int) := by
      rw [e1]
      omega
    rw [e2]
    exact ih (i + 1) (by omega) (by omega)
theorem cntM_is (l : List (Int × Int)) (h : classOk l) : cntM l = (howMany (fun c => decide (InTo l l.length c)) 256 : Nat) := by
  unfold cntM
  rw [if_pos h]
  have e := cnt_is l h l.length 0 (by omega) (by omega)
  have z : howMany (fun c => decide (InTo l 0 c)) 256 = 0 := by
    have : ∀ n, howMany (fun c => decide (InTo l 0 c)) n = 0 := by
      intro n
      induction n with
      | zero => rfl
      | succ n ih =>
        simp only [howMany, ih, decide_eq_true_eq]
        rw [if_neg (by rintro ⟨j, h1, _⟩; omega)]
    exact this 256
  rw [z] at e
  exact e
/-- a right class with just the bytes of X -/
def Is (l : List S90) (X : Nat → Bool) : Prop := classOk (l.map toP) ∧ ∀ c, c < 256 → (InTo (l.map toP) l.length c ↔ X c = true)
theorem Is.len {l X} (h : Is l X) : l.length ≤ 128 := by have := classOk_len h.1; simpa using this
theorem Is.of {q : Bool → Bool → Bool} {X Y : Nat → Bool} {r : List S90} (h : ∀ k', 300 ≤ k' → spec_l1Class.f k' (combM q X Y) = some r) : Is r (fun c => q (X c) (Y c)) := by
  obtain ⟨r2, e, h1, h2⟩ := classR (combM q X Y) (combM_len _ _ _) 300 (Nat.le_refl _)
  rw [h 300 (Nat.le_refl _)] at e
  obtain rfl := Option.some.inj e
  refine ⟨h1, fun c hc => ?_⟩
  rw [h2 c hc]
  have : (combM q X Y).getD c false = q (X c) (Y c) := by
    unfold combM
    rw [List.getD_eq_getElem?_getD, List.getElem?_map, List.getElem?_range hc]
    rfl
  rw [this]
theorem Is.has {l X} (h : Is l X) (c : Nat) (hc : c < 256) (k : Nat) (hk : 2000000 ≤ k) : impl_ClassHas.f k l (c : Int) = some (X c) := by
  rw [iClassHas l (by have := h.len; omega) c (by omega) (by omega) k hk, Int.toNat_natCast]
  congr 1
  cases hx : X c
  · rw [decide_eq_false]
    rintro ⟨_, g⟩
    rw [(h.2 c hc).1 g] at hx
    cases hx
  · rw [decide_eq_true]
    exact ⟨h.1, (h.2 c hc).2 hx⟩
theorem Is.sHas {l X} (h : Is l X) (c : Nat) (hc : c < 256) (k : Nat) (hk : 2000000 ≤ k) : spec_ClassHas.f k l (c : Int) = some (X c) := by
  rw [sClassHas l (by have := h.len; omega) c (by omega) (by omega) k hk, Int.toNat_natCast]
  congr 1
  cases hx : X c
  · rw [decide_eq_false]
    rintro ⟨_, g⟩
    rw [(h.2 c hc).1 g] at hx
    cases hx
  · rw [decide_eq_true]
    exact ⟨h.1, (h.2 c hc).2 hx⟩
theorem classes_l {a b j c w o : List S90} {X Y : Nat → Bool} (ha : Is a X) (hb : Is b Y) (hj : Is j (fun c => X c || Y c)) (hc : Is c (fun c => X c && Y c)) (hw : Is w (fun c => X c && !Y c)) (ho : Is o (fun c => !X c)) (d : Nat) :
    ∀ (k i : Nat), 2 * d + 2000010 < k → 256 - i = d → i ≤ 256 → laws_FnClasses.l0 k a b j c w o (howMany X i : Nat) (i : Int) = some true := by
  induction d with
  | zero =>
    intro k i hk hd hi'
    obtain ⟨k, rfl⟩ : ∃ m, k = m + 1 := ⟨k - 1, by omega⟩
    obtain rfl : i = 256 := by omega
    have ok : ∀ {l : List S90} {Z : Nat → Bool}, Is l Z → impl_ClassOk.f k l = some true := by
      intro l Z h
      rw [iClassOk l (by have := h.len; omega) k (by have := h.len; omega), decide_eq_true h.1]
    simp only [laws_FnClasses.l0]
    rw [if_neg (by omega), iCountOf a (by have := ha.len; omega) k (by have := ha.len; omega), cntM_is _ ha.1]
    have : howMany (fun c => decide (InTo (a.map toP) (a.map toP).length c)) 256 = howMany X 256 := by
      rw [howMany_or _ X (fun _ => false) 256 (fun c hc => ?_)]
      · have : ∀ n, howMany (fun _ => false) n = 0 := by
          intro n
          induction n with
          | zero => rfl
          | succ n ih => simp [howMany, ih]
        rw [this, Nat.add_zero]
      · simp only [decide_eq_true_eq, List.length_map]
        rw [ha.2 c hc]
        simp
    rw [this]
    simp only [Option.bind_some, if_true]
    rw [ok hj, ok hc, ok hw, ok ho]
    simp
  | succ d ih =>
    intro k i hk hd hi'
    obtain ⟨k, rfl⟩ : ∃ m, k = m + 1 := ⟨k - 1, by omega⟩
    have em : ((i : Nat) : Int) % 256 = (i : Int) := by omega
    have hy := howMany_le X i
    have J : laws_FnClasses.j2 k a b j c w o (howMany X i : Nat) (i : Int) (X i) false = some true := by
      obtain ⟨k, rfl⟩ : ∃ m, k = m + 1 := ⟨k - 1, by omega⟩
      have := ih k (i + 1) (by omega) (by omega) (by omega)
      simp only [laws_FnClasses.j2, Bool.false_eq_true, if_false]
      have n1 : wrap64 ((i : Int) + 1) = ((i + 1 : Nat) : Int) := nat_next (by omega)
      have n2 : wrap64 ((howMany X i : Nat) + 1) = ((howMany X i + 1 : Nat) : Int) := nat_next (by omega)
      rw [n1, n2]
      cases hx : X i
      · rw [if_neg (by simp)]
        simp only [howMany, hx] at this
        simpa using this
      · rw [if_pos rfl]
        simp only [howMany, hx] at this
        simpa using this
    simp only [laws_FnClasses.l0]
    rw [if_pos (by omega), em, ha.has i (by omega) k (by omega), hb.has i (by omega) k (by omega), ha.sHas i (by omega) k (by omega), hj.has i (by omega) k (by omega), hc.has i (by omega) k (by omega), hw.has i (by omega) k (by omega), ho.has i (by omega) k (by omega)]
    simp only [Option.bind_some]
    cases hx : X i <;> cases hy : Y i <;> rw [hx] at J <;> simp [J]
theorem FnClasses : laws_FnClasses.Pure := by
  intro code g0 _ g2
  suffices ∀ k, 3000000 ≤ k → laws_FnClasses.f k code = some true from ⟨3000000, this _ (Nat.le_refl _)⟩
  intro k hk
  unfold laws_FnClasses.f laws_big.f
  simp only [Option.bind_some, decide_eq_true_eq]
  by_cases hbig : (code.length : Int) > 1048576
  · rw [if_pos hbig]
  rw [if_neg hbig]
  have hb := Bytes.of hbig g2
  obtain ⟨x, e, ha, hc⟩ : Tot (spec_DrawJoined.f k code) (fun r => r.1.length ≤ 200 ∧ r.2.length ≤ 200) := by
    unfold spec_DrawJoined.f spec_l1Open.f
    simp only [Option.bind_some]
    refine (oddClass_ok (by omega) hb ⟨by omega, by omega⟩).bind fun v hv => ?_
    refine (oddClass_ok (by omega) hb hv.2).bind fun u hu => ?_
    exact Tot.pure ⟨hv.1, hu.1⟩
  rw [e]
  simp only [Option.bind_some]
  obtain ⟨a, b⟩ := x
  simp only at ha hc ⊢
  rw [sClassOk a (by omega) k (by omega), sClassOk b (by omega) k (by omega)]
  simp only [Option.bind_some, decide_eq_true_eq]
  obtain ⟨k, rfl⟩ : ∃ m, k = m + 1 := ⟨k - 1, by omega⟩
  obtain ⟨j, j2, _, j4, j5⟩ := combI (fun a b => a || b) a b (by omega) (by omega) k (by omega)
  obtain ⟨c, c2, _, c4, c5⟩ := combI (fun a b => a && b) a b (by omega) (by omega) k (by omega)
  obtain ⟨w, w2, _, w4, w5⟩ := combI (fun a b => a && !b) a b (by omega) (by omega) k (by omega)
  obtain ⟨o, o2, _, o4, _⟩ := combI (fun a _ => !a) a [] (by omega) (by simp) k (by omega)
  have j2' : impl_Joined.f k a b = some j := j2
  have c2' : impl_Common.f k a b = some c := c2
  have w2' : impl_Without.f k a b = some w := w2
  have o2' : impl_Others.f k a = some o := o2
  by_cases h0 : classOk (a.map toP) ∧ classOk (b.map toP)
  · rw [if_pos h0.1, decide_eq_true h0.2]
    simp only [laws_FnClasses.j0]
    rw [j2', c2', w2', o2']
    simp only [Option.bind_some, if_true]
    have isb : ∀ (l : List S90), classOk (l.map toP) → Is l (marksB l) := fun l hl => ⟨hl, fun c hc => by
      unfold marksB
      rw [decide_eq_true_iff]
      rfl⟩
    have := classes_l (isb a h0.1) (isb b h0.2) (Is.of (j4 h0)) (Is.of (c4 h0)) (Is.of (w4 h0)) (Is.of (o4 ⟨h0.1, classOk_nil⟩)) 256 k 0 (by omega) (by omega) (by omega)
    exact this
  · have bad : laws_FnClasses.j0 (k + 1) a b false = some true := by
      simp only [laws_FnClasses.j0]
      rw [j2', c2', w2', o2']
      simp only [Option.bind_some]
      rw [if_neg (by simp), j5 h0, c5 h0, w5 h0]
      simp
    by_cases h1 : classOk (a.map toP)
    · have h2 : ¬ classOk (b.map toP) := fun g => h0 ⟨h1, g⟩
      rw [if_pos h1, decide_eq_false h2]
      exact bad
    · rw [if_neg h1]
      exact bad
end Go.Proofs.Ytlfhnlghfgjooaa.Pure
