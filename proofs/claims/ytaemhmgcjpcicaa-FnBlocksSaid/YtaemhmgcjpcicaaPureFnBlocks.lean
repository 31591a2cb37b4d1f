/- Two bytes are in one block just when no class parts them, and blocks are numbered as they first come. -/
import Derived.Test.YtaemhmgcjpcicaaPFnBlocksx6
import Derived.Test.YtaemhmgcjpcicaaKit
import Derived.Test.YtaemhmgcjpcicaaKitArr
import Derived.Test.YtaemhmgcjpcicaaKitTot
namespace Go.Proofs.Ytaemhmgcjpcicaa.Pure
open Go.RowKit Go.Proofs.Ytaemhmgcjpcicaa.PFnBlocks Go.Proofs.YtaemhmgcjpcicaaW.PrintWords Go.Proofs.YtaemhmgcjpcicaaW.PrintLast Go.Proofs.YtaemhmgcjpcicaaW.PrintMore Go.Proofs.Ytaemhmgcjpcicaa.Kit
set_option linter.unusedVariables false
def toP (x : S33) : Int × Int := (x.f0, x.f1)
theorem toP_lo (l : List S33) (i : Int) : (rd_T33 l i).f0 = lo (l.map toP) i.toNat := by
  unfold rd_T33 lo
  rw [List.getD_eq_getElem?_getD, List.getD_eq_getElem?_getD, List.getElem?_map]
  cases l[i.toNat]? <;> rfl
theorem toP_hi (l : List S33) (i : Int) : (rd_T33 l i).f1 = hi (l.map toP) i.toNat := by
  unfold rd_T33 hi
  rw [List.getD_eq_getElem?_getD, List.getD_eq_getElem?_getD, List.getElem?_map]
  cases l[i.toNat]? <;> rfl
theorem sIn (a b c : Int) : spec_l1In.f a b c = some (decide (b ≤ a ∧ a ≤ c)) := by
  unfold spec_l1In.f
  by_cases h : a ≥ b
  · rw [if_pos h]; congr 1; simp; omega
  · rw [if_neg h]; congr 1; simp; omega
open Classical in
theorem iClassOk_l (l : List S33) (hl : l.length ≤ 1048576) (d : Nat) : ∀ (k : Nat) (i : Nat), d < k → l.length - i = d → i ≤ l.length → (∀ j, j < i → okAt (l.map toP) j) →
    impl_ClassOk.l0 k l l (l.length : Int) (i : Int) = some (decide (okFrom (l.map toP) i)) := by
  induction d with
  | zero =>
    intro k i hk hd hle _
    obtain ⟨k, rfl⟩ : ∃ m, k = m + 1 := ⟨k - 1, by omega⟩
    simp only [impl_ClassOk.l0]
    rw [if_neg (by omega), decide_eq_true (okFrom_end (by simp; omega))]
  | succ d ih =>
    intro k i hk hd hle hp
    obtain ⟨k, rfl⟩ : ∃ m, k = m + 1 := ⟨k - 1, by omega⟩
    have hlt : i < (l.map toP).length := by simp; omega
    have hst := okFrom_step (l := l.map toP) hlt
    have hne : ¬ okAt (l.map toP) i → decide (okFrom (l.map toP) i) = false := fun h => decide_eq_false (fun g => h (hst.1 g).1)
    simp only [impl_ClassOk.l0, toP_lo, toP_hi]
    rw [if_pos (by omega), if_pos (by omega), if_pos (by omega)]
    have ei : ((i : Nat) : Int).toNat = i := by omega
    rw [ei]
    by_cases h1 : lo (l.map toP) i < 0
    · rw [if_pos h1, hne (fun g => by have := g.1; omega)]
    · rw [if_neg h1]
      by_cases h2 : lo (l.map toP) i > hi (l.map toP) i
      · rw [if_pos h2, hne (fun g => by have := g.2.1; omega)]
      · rw [if_neg h2]
        by_cases h3 : hi (l.map toP) i > 255
        · rw [if_pos h3, hne (fun g => by have := g.2.2.1; omega)]
        · rw [if_neg h3]
          have en : wrap64 ((i : Int) + 1) = ((i + 1 : Nat) : Int) := by rw [w64 (by omega) (by omega)]; omega
          have go : okAt (l.map toP) i → impl_ClassOk.l0 k l l (l.length : Int) (wrap64 ((i : Int) + 1)) = some (decide (okFrom (l.map toP) i)) := by
            intro g
            rw [en, ih k (i + 1) (by omega) (by omega) (by omega) (fun j hj => by
              rcases Nat.lt_or_eq_of_le (Nat.le_of_lt_succ hj) with h | h
              · exact hp j h
              · exact h ▸ g)]
            congr 1
            exact decide_eq_decide.2 ⟨fun h => hst.2 ⟨g, h⟩, fun h => (hst.1 h).2⟩
          by_cases h4 : (i : Int) > 0
          · have hq := hp (i - 1) (by omega)
            have e1 : (wrap64 ((i : Int) - 1)) = ((i - 1 : Nat) : Int) := by rw [w64 (by omega) (by omega)]; omega
            have e2 : (((i - 1 : Nat) : Int)).toNat = i - 1 := by omega
            have q1 := hq.1
            have q2 := hq.2.1
            have q3 := hq.2.2.1
            rw [if_pos h4, e1, if_pos (by omega), if_pos (by omega), e2, w64 (x := hi (l.map toP) (i - 1) + 2) (by omega) (by omega)]
            by_cases h5 : lo (l.map toP) i < hi (l.map toP) (i - 1) + 2
            · rw [if_pos h5, hne (fun g => by have := g.2.2.2 (by omega); omega)]
            · rw [if_neg h5]
              exact go ⟨by omega, by omega, by omega, fun _ => by omega⟩
          · rw [if_neg h4]
            exact go ⟨by omega, by omega, by omega, fun h => by omega⟩
open Classical in
theorem iClassOk (l : List S33) (hl : l.length ≤ 1048576) (k : Nat) (hk : l.length < k) : impl_ClassOk.f k l = some (decide (classOk (l.map toP))) := by
  unfold impl_ClassOk.f
  have e : impl_ClassOk.l0 k l l (l.length : Int) 0 = some (decide (okFrom (l.map toP) 0)) := iClassOk_l l hl l.length k 0 hk (by omega) (by omega) (fun j hj => by omega)
  rw [e]
  congr 1
  exact decide_eq_decide.2 (okFrom_zero _)
open Classical in
theorem sClassOk_l (l : List S33) (hl : l.length ≤ 1048576) (d : Nat) : ∀ (k : Nat) (i : Nat), d < k → l.length - i = d → i ≤ l.length → (∀ j, j < i → okAt (l.map toP) j) →
    spec_ClassOk.l0 k l (i : Int) = some (decide (okFrom (l.map toP) i)) := by
  induction d with
  | zero =>
    intro k i hk hd hle _
    obtain ⟨k, rfl⟩ : ∃ m, k = m + 1 := ⟨k - 1, by omega⟩
    simp only [spec_ClassOk.l0]
    rw [if_neg (by omega), decide_eq_true (okFrom_end (by simp; omega))]
  | succ d ih =>
    intro k i hk hd hle hp
    obtain ⟨k, rfl⟩ : ∃ m, k = m + 1 := ⟨k - 1, by omega⟩
    have hlt : i < (l.map toP).length := by simp; omega
    have hst := okFrom_step (l := l.map toP) hlt
    have hne : ¬ okAt (l.map toP) i → decide (okFrom (l.map toP) i) = false := fun h => decide_eq_false (fun g => h (hst.1 g).1)
    simp only [spec_ClassOk.l0, toP_lo, toP_hi, sIn, Option.bind_some, decide_eq_true_eq]
    rw [if_pos (by omega), if_pos (by omega)]
    have ei : ((i : Nat) : Int).toNat = i := by omega
    rw [ei]
    by_cases h1 : 0 ≤ lo (l.map toP) i ∧ lo (l.map toP) i ≤ 255
    · rw [if_pos h1]
      by_cases h2 : lo (l.map toP) i ≤ hi (l.map toP) i ∧ hi (l.map toP) i ≤ 255
      · rw [if_pos h2]
        have en : wrap64 ((i : Int) + 1) = ((i + 1 : Nat) : Int) := by rw [w64 (by omega) (by omega)]; omega
        have go : okAt (l.map toP) i → spec_ClassOk.l0 k l (wrap64 ((i : Int) + 1)) = some (decide (okFrom (l.map toP) i)) := by
          intro g
          rw [en, ih k (i + 1) (by omega) (by omega) (by omega) (fun j hj => by
            rcases Nat.lt_or_eq_of_le (Nat.le_of_lt_succ hj) with h | h
            · exact hp j h
            · exact h ▸ g)]
          congr 1
          exact decide_eq_decide.2 ⟨fun h => hst.2 ⟨g, h⟩, fun h => (hst.1 h).2⟩
        by_cases h4 : (i : Int) > 0
        · have hq := hp (i - 1) (by omega)
          have e1 : (wrap64 ((i : Int) - 1)) = ((i - 1 : Nat) : Int) := by rw [w64 (by omega) (by omega)]; omega
          have e2 : (((i - 1 : Nat) : Int)).toNat = i - 1 := by omega
          have q1 := hq.1
          have q2 := hq.2.1
          have q3 := hq.2.2.1
          rw [if_pos h4, e1, if_pos (by omega), if_pos (by omega), e2, w64 (x := hi (l.map toP) (i - 1) + 2) (by omega) (by omega)]
          by_cases h5 : lo (l.map toP) i < hi (l.map toP) (i - 1) + 2
          · rw [if_pos h5, hne (fun g => by have := g.2.2.2 (by omega); omega)]
          · rw [if_neg h5]
            exact go ⟨by omega, by omega, by omega, fun _ => by omega⟩
        · rw [if_neg h4]
          exact go ⟨by omega, by omega, by omega, fun h => by omega⟩
      · rw [if_neg h2, hne (fun g => h2 ⟨g.2.1, g.2.2.1⟩)]
    · rw [if_neg h1, hne (fun g => h1 ⟨g.1, by have := g.2.1; have := g.2.2.1; omega⟩)]
open Classical in
theorem sClassOk (l : List S33) (hl : l.length ≤ 1048576) (k : Nat) (hk : l.length < k) : spec_ClassOk.f k l = some (decide (classOk (l.map toP))) := by
  unfold spec_ClassOk.f
  by_cases h : (l.length : Int) > 128
  · rw [if_pos h, decide_eq_false]
    intro g
    have := classOk_len g
    simp at this
    omega
  · rw [if_neg h]
    have e : spec_ClassOk.l0 k l 0 = some (decide (okFrom (l.map toP) 0)) := sClassOk_l l hl l.length k 0 hk (by omega) (by omega) (fun j hj => by omega)
    rw [e]
    congr 1
    exact decide_eq_decide.2 (okFrom_zero _)
theorem spP_toP : spP = toP := rfl
/-- the flags of a class's bytes -/
def markOk (l : List S33) (m : List Bool) : Prop := m.length = 256 ∧ ∀ c, c < 256 → (m.getD c false = true ↔ InTo (l.map toP) l.length c)
theorem sMarks_l1 (l : List S33) (hok : classOk (l.map toP)) (i : Nat) (hi' : i < l.length) (K : Nat)
    (G : ∀ k m, K < k → m.length = 256 → (∀ c, c < 256 → (m.getD c false = true ↔ InTo (l.map toP) (i + 1) c)) → ∃ r, spec_l1Marks.l0 k l m ((i + 1 : Nat) : Int) = some r ∧ markOk l r) (e : Nat) :
    ∀ (k : Nat) (m : List Bool) (b : Int), K + e + 1 < k → (hi (l.map toP) i - b + 1).toNat = e → lo (l.map toP) i ≤ b → b ≤ hi (l.map toP) i + 1 → m.length = 256 → (∀ c, c < 256 → (m.getD c false = true ↔ InTo (l.map toP) i c ∨ (lo (l.map toP) i ≤ (c : Int) ∧ (c : Int) < b))) →
      ∃ r, spec_l1Marks.l1 k l m (i : Int) b = some r ∧ markOk l r := by
  have ho := hok i (by simpa using hi')
  have o0 := ho.1
  have o1 := ho.2.2.1
  have hl : l.length ≤ 128 := by have := classOk_len hok; simpa using this
  induction e with
  | zero =>
    intro k m b hk he hb0 hb1 hm hM
    obtain ⟨k, rfl⟩ : ∃ m, k = m + 1 := ⟨k - 1, by omega⟩
    simp only [spec_l1Marks.l1, toP_hi, Int.toNat_natCast]
    rw [if_pos (by omega), if_pos (by omega), if_neg (by omega), nat_next (by omega)]
    refine G k m (by omega) hm (fun c hc => ?_)
    rw [hM c hc, InTo_step]
    constructor
    · rintro (h | h)
      · exact .inl h
      · exact .inr (by omega)
    · rintro (h | h)
      · exact .inl h
      · exact .inr (by omega)
  | succ e ih =>
    intro k m b hk he hb0 hb1 hm hM
    obtain ⟨k, rfl⟩ : ∃ m, k = m + 1 := ⟨k - 1, by omega⟩
    simp only [spec_l1Marks.l1, toP_hi, Int.toNat_natCast]
    rw [if_pos (by omega), if_pos (by omega), if_pos (by omega), if_pos (by omega), if_pos (by omega), w64 (x := b + 1) (by omega) (by omega)]
    refine ih k _ (b + 1) (by omega) (by omega) (by omega) (by omega) (by simpa using hm) (fun c hc => ?_)
    rw [getD_set _ _ _ (by omega), hM c hc]
    constructor
    · rintro ((h | h) | h)
      · exact .inl h
      · exact .inr (by omega)
      · exact .inr (by omega)
    · rintro (h | h)
      · exact .inl (.inl h)
      · by_cases q : c = b.toNat
        · exact .inr q
        · exact .inl (.inr (by omega))
theorem sMarks_l0 (l : List S33) (hok : classOk (l.map toP)) (d : Nat) : ∀ (k i : Nat) (m : List Bool), d * 300 < k → l.length - i = d → i ≤ l.length → m.length = 256 → (∀ c, c < 256 → (m.getD c false = true ↔ InTo (l.map toP) i c)) →
    ∃ r, spec_l1Marks.l0 k l m (i : Int) = some r ∧ markOk l r := by
  have hl : l.length ≤ 128 := by have := classOk_len hok; simpa using this
  induction d with
  | zero =>
    intro k i m hk hd hi' hm hM
    obtain ⟨k, rfl⟩ : ∃ m, k = m + 1 := ⟨k - 1, by omega⟩
    obtain rfl : i = l.length := by omega
    simp only [spec_l1Marks.l0]
    rw [if_neg (by omega)]
    exact ⟨m, rfl, hm, hM⟩
  | succ d ih =>
    intro k i m hk hd hi' hm hM
    obtain ⟨k, rfl⟩ : ∃ m, k = m + 1 := ⟨k - 1, by omega⟩
    have ho := hok i (by simp; omega)
    have o0 := ho.1
    have o1 := ho.2.2.1
    have o2 := ho.2.1
    simp only [spec_l1Marks.l0, toP_lo, Int.toNat_natCast]
    rw [if_pos (by omega), if_pos (by omega)]
    refine sMarks_l1 l hok i (by omega) (d * 300) (fun k m hk hm hM => ih k (i + 1) m hk (by omega) (by omega) hm hM) _ k m _ ?_ rfl (Int.le_refl _) (by omega) hm (fun c hc => ?_)
    · omega
    · rw [hM c hc]
      constructor
      · exact .inl
      · rintro (h | h)
        · exact h
        · omega
theorem sMarks (l : List S33) (hok : classOk (l.map toP)) (k : Nat) (hk : 40000 ≤ k) : ∃ r, spec_l1Marks.f k l = some r ∧ markOk l r := by
  have hl : l.length ≤ 128 := by have := classOk_len hok; simpa using this
  unfold spec_l1Marks.f
  rw [if_pos (by omega)]
  refine sMarks_l0 l hok l.length k 0 _ (by omega) (by omega) (by omega) List.length_replicate (fun c hc => ?_)
  constructor
  · intro h
    rw [List.getD_eq_getElem?_getD, List.getElem?_replicate] at h
    split at h <;> simp at h
  · rintro ⟨i, h, _⟩
    omega
theorem class_l (m : List Bool) (hm : m.length = 256) (d : Nat) : ∀ (k : Nat) (acc : List S33) (b : Nat), d < k → 256 - b = d → b ≤ 256 → acc.length ≤ b → ∃ r, spec_l1Class.l0 k m acc (b : Int) = some r ∧ r.length ≤ 256 := by
  induction d with
  | zero =>
    intro k acc b hk hd hb ha
    obtain ⟨k, rfl⟩ : ∃ m, k = m + 1 := ⟨k - 1, by omega⟩
    simp only [spec_l1Class.l0]
    rw [if_neg (by omega)]
    exact ⟨acc, rfl, by omega⟩
  | succ d ih =>
    intro k acc b hk hd hb ha
    obtain ⟨k, rfl⟩ : ∃ m, k = m + 1 := ⟨k - 1, by omega⟩
    simp only [spec_l1Class.l0]
    rw [if_pos (by omega), if_pos (by omega), if_pos (by omega), nat_next (by omega)]
    have app : ∃ r, (if acc.length < 8796093022208 then spec_l1Class.l0 k m (acc ++ [(⟨(b : Int), (b : Int)⟩ : S33)]) ((b + 1 : Nat) : Int) else none) = some r ∧ r.length ≤ 256 := by
      rw [if_pos (by omega)]
      exact ih k _ (b + 1) (by omega) (by omega) (by omega) (by simp; omega)
    by_cases h : rdOf false m (b : Int) = true
    · rw [if_pos h]
      by_cases h0 : (acc.length : Int) > 0
      · rw [if_pos h0, w64 (x := (acc.length : Int) - 1) (by omega) (by omega), if_pos (by omega), if_pos (by omega)]
        by_cases h1 : (rd_T33 acc ((acc.length : Int) - 1)).f1 = wrap64 ((b : Int) - 1)
        · rw [if_pos h1]
          exact ih k _ (b + 1) (by omega) (by omega) (by omega) (by rw [List.length_set]; omega)
        · rw [if_neg h1]
          exact app
      · rw [if_neg h0]
        exact app
    · rw [if_neg h]
      exact ih k _ (b + 1) (by omega) (by omega) (by omega) (by omega)
theorem classS (m : List Bool) (hm : m.length = 256) (k : Nat) (hk : 300 ≤ k) : ∃ r, spec_l1Class.f k m = some r ∧ r.length ≤ 256 := by
  unfold spec_l1Class.f
  exact class_l m hm 256 k [] 0 (by omega) (by omega) (by omega) (by simp)
theorem class_at (m : List Bool) {r : List S33} {k : Nat} (h : spec_l1Class.f k m = some r) : ∀ j, spec_l1Class.f (k + j) m = some r
  | 0 => h
  | j + 1 => spec_l1Class.mono m (k + j) r (class_at m h j)
theorem wf8 {a : Int} (h : (Lit.int .u8 a).wf = true) : 0 ≤ a ∧ a ≤ 255 := by
  simp [Lit.wf, IntKind.min, IntKind.max, IntKind.signed, IntKind.bits] at h
  omega
theorem iClassHas (l : List S33) (hl : l.length ≤ 1048576) (a : Int) (a0 : 0 ≤ a) (a1 : a ≤ 255) (k : Nat) (hk : 2000000 ≤ k) : impl_ClassHas.f k l a = some (decide (classOk (l.map toP) ∧ InTo (l.map toP) l.length a.toNat)) := by
  unfold impl_ClassHas.f
  rw [iClassOk l hl k (by omega), spP_toP]
  simp only [Option.bind_some]
  by_cases h : classOk (l.map toP)
  · rw [decide_eq_true h, if_pos rfl, if_pos h, if_pos (by omega)]
    by_cases g : InTo (l.map toP) l.length a.toNat
    · rw [decide_eq_true g, decide_eq_true (show classOk (l.map toP) ∧ InTo (l.map toP) l.length a.toNat from ⟨h, g⟩)]
    · rw [decide_eq_false g, decide_eq_false (show ¬ (classOk (l.map toP) ∧ InTo (l.map toP) l.length a.toNat) from fun q => g q.2)]
  · rw [decide_eq_false h, if_neg (by simp), decide_eq_false (fun q => h q.1)]
theorem lo_snoc (l : List (Int × Int)) (v : Int × Int) (i : Nat) : lo (l ++ [v]) i = if i < l.length then lo l i else if i = l.length then v.1 else 0 := by
  unfold lo
  rw [List.getD_eq_getElem?_getD, List.getD_eq_getElem?_getD, List.getElem?_append]
  by_cases h : i < l.length
  · rw [if_pos h, if_pos h]
  · rw [if_neg h, if_neg h]
    by_cases e : i = l.length
    · rw [if_pos e, e, Nat.sub_self]; rfl
    · rw [if_neg e, List.getElem?_eq_none (by simp; omega)]; rfl
theorem hi_snoc (l : List (Int × Int)) (v : Int × Int) (i : Nat) : hi (l ++ [v]) i = if i < l.length then hi l i else if i = l.length then v.2 else 0 := by
  unfold hi
  rw [List.getD_eq_getElem?_getD, List.getD_eq_getElem?_getD, List.getElem?_append]
  by_cases h : i < l.length
  · rw [if_pos h, if_pos h]
  · rw [if_neg h, if_neg h]
    by_cases e : i = l.length
    · rw [if_pos e, e, Nat.sub_self]; rfl
    · rw [if_neg e, List.getElem?_eq_none (by simp; omega)]; rfl
theorem lo_set (l : List (Int × Int)) (v : Int × Int) (j i : Nat) (hj : j < l.length) : lo (l.set j v) i = if i = j then v.1 else lo l i := by
  unfold lo
  rw [List.getD_eq_getElem?_getD, List.getD_eq_getElem?_getD]
  by_cases e : i = j
  · rw [if_pos e, e, List.getElem?_set_self hj]; rfl
  · rw [if_neg e, List.getElem?_set_ne (fun h => e h.symm)]
theorem hi_set (l : List (Int × Int)) (v : Int × Int) (j i : Nat) (hj : j < l.length) : hi (l.set j v) i = if i = j then v.2 else hi l i := by
  unfold hi
  rw [List.getD_eq_getElem?_getD, List.getD_eq_getElem?_getD]
  by_cases e : i = j
  · rw [if_pos e, e, List.getElem?_set_self hj]; rfl
  · rw [if_neg e, List.getElem?_set_ne (fun h => e h.symm)]
/-- the class of the marked bytes below b -/
structure ClOf (m : List Bool) (l : List (Int × Int)) (b : Nat) : Prop where
  ok : classOk l
  top : ∀ i, i < l.length → hi l i < b
  is : ∀ c, c < 256 → (InTo l l.length c ↔ c < b ∧ m.getD c false = true)
theorem ClOf.skip {m l b} (h : ClOf m l b) (hb : ¬ m.getD b false = true) : ClOf m l (b + 1) :=
  ⟨h.ok, fun i hi' => by have := h.top i hi'; omega, fun c hc => by
    rw [h.is c hc]
    constructor
    · rintro ⟨h1, h2⟩
      exact ⟨by omega, h2⟩
    · rintro ⟨h1, h2⟩
      refine ⟨?_, h2⟩
      by_cases e : c = b
      · subst e; exact absurd h2 hb
      · omega⟩
theorem ClOf.more {m l b} (h : ClOf m l b) (hb : m.getD b false = true) (hlt : b < 256) (n : Nat) (hn : l.length = n + 1) (hl : hi l n = (b : Int) - 1) : ClOf m (l.set n (lo l n, (b : Int))) (b + 1) := by
  have hlen : (l.set n (lo l n, (b : Int))).length = l.length := List.length_set
  have eL : ∀ i, lo (l.set n (lo l n, (b : Int))) i = lo l i := fun i => by
    rw [lo_set _ _ _ _ (by omega)]
    by_cases e : i = n
    · rw [if_pos e, e]
    · rw [if_neg e]
  have eH : ∀ i, hi (l.set n (lo l n, (b : Int))) i = if i = n then (b : Int) else hi l i := fun i => hi_set _ _ _ _ (by omega)
  refine ⟨fun i hi' => ?_, fun i hi' => ?_, fun c hc => ?_⟩
  · rw [hlen] at hi'
    have o := h.ok i hi'
    obtain ⟨o0, o1, o2, o3⟩ := o
    refine ⟨by rw [eL]; exact o0, ?_, ?_, fun h0 => ?_⟩
    · rw [eL, eH]
      by_cases e : i = n
      · subst e; rw [if_pos rfl]; omega
      · rw [if_neg e]; exact o1
    · rw [eH]
      by_cases e : i = n
      · rw [if_pos e]; omega
      · rw [if_neg e]; exact o2
    · rw [eL, eH, if_neg (by omega)]
      exact o3 h0
  · rw [hlen] at hi'
    have := h.top i hi'
    rw [eH]
    by_cases e : i = n
    · rw [if_pos e]; omega
    · rw [if_neg e]; omega
  · rw [hlen]
    have key : InTo (l.set n (lo l n, (b : Int))) l.length c ↔ InTo l l.length c ∨ c = b := by
      constructor
      · rintro ⟨i, h1, h2, h3⟩
        rw [eL] at h2
        rw [eH] at h3
        by_cases e : i = n
        · subst e
          rw [if_pos rfl] at h3
          by_cases e2 : c = b
          · exact .inr e2
          · exact .inl ⟨i, h1, h2, by omega⟩
        · rw [if_neg e] at h3
          exact .inl ⟨i, h1, h2, h3⟩
      · rintro (⟨i, h1, h2, h3⟩ | h1)
        · refine ⟨i, h1, by rw [eL]; exact h2, ?_⟩
          rw [eH]
          by_cases e : i = n
          · subst e; rw [if_pos rfl]; omega
          · rw [if_neg e]; exact h3
        · refine ⟨n, by omega, by rw [eL, h1]; have := (h.ok n (by omega)).2.1; omega, by rw [eH, if_pos rfl, h1]; omega⟩
    rw [key, h.is c hc]
    constructor
    · rintro (⟨h1, h2⟩ | h1)
      · exact ⟨by omega, h2⟩
      · subst h1; exact ⟨by omega, hb⟩
    · rintro ⟨h1, h2⟩
      by_cases e : c = b
      · exact .inr e
      · exact .inl ⟨by omega, h2⟩
theorem ClOf.new {m l b} (h : ClOf m l b) (hb : m.getD b false = true) (hlt : b < 256) (hl : ∀ n, l.length = n + 1 → hi l n ≠ (b : Int) - 1) : ClOf m (l ++ [((b : Int), (b : Int))]) (b + 1) := by
  have hlen : (l ++ [((b : Int), (b : Int))]).length = l.length + 1 := by simp
  refine ⟨fun i hi' => ?_, fun i hi' => ?_, fun c hc => ?_⟩
  · rw [hlen] at hi'
    by_cases e : i < l.length
    · obtain ⟨o0, o1, o2, o3⟩ := h.ok i e
      refine ⟨by rw [lo_snoc, if_pos e]; exact o0, by rw [lo_snoc, hi_snoc, if_pos e, if_pos e]; exact o1, by rw [hi_snoc, if_pos e]; exact o2, fun h0 => ?_⟩
      rw [lo_snoc, hi_snoc, if_pos e, if_pos (by omega)]
      exact o3 h0
    · have e2 : i = l.length := by omega
      subst e2
      refine ⟨?_, ?_, ?_, fun h0 => ?_⟩
      · rw [lo_snoc, if_neg e, if_pos rfl]; simp only; omega
      · rw [lo_snoc, hi_snoc, if_neg e, if_neg e, if_pos rfl]; exact Int.le_refl _
      · rw [hi_snoc, if_neg e, if_pos rfl]; simp only; omega
      · rw [lo_snoc, hi_snoc, if_neg e, if_pos (by omega), if_pos rfl]
        have h1 := h.top (l.length - 1) (by omega)
        have h2 := hl (l.length - 1) (by omega)
        simp only
        omega
  · rw [hlen] at hi'
    rw [hi_snoc]
    by_cases e : i < l.length
    · rw [if_pos e]; have := h.top i e; omega
    · rw [if_neg e, if_pos (by omega)]; simp only; omega
  · rw [hlen]
    have key : InTo (l ++ [((b : Int), (b : Int))]) (l.length + 1) c ↔ InTo l l.length c ∨ c = b := by
      constructor
      · rintro ⟨i, h1, h2, h3⟩
        rw [lo_snoc] at h2
        rw [hi_snoc] at h3
        by_cases e : i < l.length
        · rw [if_pos e] at h2 h3
          exact .inl ⟨i, e, h2, h3⟩
        · rw [if_neg e, if_pos (by omega)] at h2 h3
          simp only at h2 h3
          exact .inr (by omega)
      · rintro (⟨i, h1, h2, h3⟩ | h1)
        · exact ⟨i, by omega, by rw [lo_snoc, if_pos h1]; exact h2, by rw [hi_snoc, if_pos h1]; exact h3⟩
        · refine ⟨l.length, by omega, by rw [lo_snoc, if_neg (by omega), if_pos rfl, h1]; exact Int.le_refl _, by rw [hi_snoc, if_neg (by omega), if_pos rfl, h1]; exact Int.le_refl _⟩
    rw [key, h.is c hc]
    constructor
    · rintro (⟨h1, h2⟩ | h1)
      · exact ⟨by omega, h2⟩
      · subst h1; exact ⟨by omega, hb⟩
    · rintro ⟨h1, h2⟩
      by_cases e : c = b
      · exact .inr e
      · exact .inl ⟨by omega, h2⟩
theorem classR_l (m : List Bool) (hm : m.length = 256) (d : Nat) : ∀ (k : Nat) (acc : List S33) (b : Nat), d < k → 256 - b = d → b ≤ 256 → ClOf m (acc.map toP) b → ∃ r, spec_l1Class.l0 k m acc (b : Int) = some r ∧ ClOf m (r.map toP) 256 := by
  induction d with
  | zero =>
    intro k acc b hk hd hb ha
    obtain ⟨k, rfl⟩ : ∃ m, k = m + 1 := ⟨k - 1, by omega⟩
    obtain rfl : b = 256 := by omega
    simp only [spec_l1Class.l0]
    rw [if_neg (by omega)]
    exact ⟨acc, rfl, ha⟩
  | succ d ih =>
    intro k acc b hk hd hb ha
    obtain ⟨k, rfl⟩ : ∃ m, k = m + 1 := ⟨k - 1, by omega⟩
    have hl : acc.length ≤ 128 := by have := classOk_len ha.ok; simpa using this
    have eb : rdOf false m (b : Int) = m.getD b false := by unfold rdOf; rw [Int.toNat_natCast]
    simp only [spec_l1Class.l0, eb, toP_hi]
    rw [if_pos (by omega), if_pos (by omega), if_pos (by omega), nat_next (by omega)]
    by_cases h : m.getD b false = true
    · rw [if_pos h]
      have app : (∀ n, (acc.map toP).length = n + 1 → hi (acc.map toP) n ≠ (b : Int) - 1) → ∃ r, (if acc.length < 8796093022208 then spec_l1Class.l0 k m (acc ++ [(⟨(b : Int), (b : Int)⟩ : S33)]) ((b + 1 : Nat) : Int) else none) = some r ∧ ClOf m (r.map toP) 256 := by
        intro hn
        rw [if_pos (by omega)]
        refine ih k _ (b + 1) (by omega) (by omega) (by omega) ?_
        rw [List.map_append]
        exact ha.new h (by omega) hn
      by_cases h0 : (acc.length : Int) > 0
      · rw [if_pos h0, w64 (x := (acc.length : Int) - 1) (by omega) (by omega), if_pos (by omega), if_pos (by omega), w64 (x := (b : Int) - 1) (by omega) (by omega)]
        have en : (((acc.length : Int) - 1) : Int).toNat = acc.length - 1 := by omega
        rw [en]
        by_cases h1 : hi (acc.map toP) (acc.length - 1) = (b : Int) - 1
        · rw [if_pos h1]
          refine ih k _ (b + 1) (by omega) (by omega) (by omega) ?_
          have := ha.more h (by omega) (acc.length - 1) (by simp; omega) h1
          rw [List.map_set]
          have e3 : toP (⟨(rd_T33 acc ((acc.length : Int) - 1)).f0, (b : Int)⟩ : S33) = (lo (acc.map toP) (acc.length - 1), (b : Int)) := by
            unfold toP
            rw [toP_lo, en]
            rfl
          rw [e3]
          exact this
        · rw [if_neg h1]
          refine app (fun n hn => ?_)
          have : n = acc.length - 1 := by simp at hn; omega
          rw [this]
          exact h1
      · rw [if_neg h0]
        exact app (fun n hn => by simp at hn; omega)
    · rw [if_neg h]
      exact ih k _ (b + 1) (by omega) (by omega) (by omega) (ha.skip h)
/-- the class of marked bytes is right, and has just these -/
theorem classR (m : List Bool) (hm : m.length = 256) (k : Nat) (hk : 300 ≤ k) : ∃ r, spec_l1Class.f k m = some r ∧ classOk (r.map toP) ∧ ∀ c, c < 256 → (InTo (r.map toP) r.length c ↔ m.getD c false = true) := by
  obtain ⟨r, e, h⟩ := classR_l m hm 256 k [] 0 (by omega) (by omega) (by omega) ⟨fun i hi => by simp at hi, fun i hi => by simp at hi, fun c hc => ⟨fun ⟨i, h, _⟩ => by simp at h, fun h => by omega⟩⟩
  refine ⟨r, e, h.ok, fun c hc => ?_⟩
  have := h.is c hc
  rw [List.length_map] at this
  rw [this]
  exact ⟨fun h => h.2, fun h => ⟨hc, h⟩⟩
/-- numbers in the order in which the values first come: the values, and their numbers -/
def numG {α : Type} [DecidableEq α] (f : Nat → α) : Nat → List α × List Int
  | 0 => ([], [])
  | n + 1 => match (numG f n).1.findIdx? (fun s => decide (s = f n)) with
    | some i => ((numG f n).1, (numG f n).2 ++ [(i : Int)])
    | none => ((numG f n).1 ++ [f n], (numG f n).2 ++ [((numG f n).1.length : Int)])
theorem numG_ker {α β : Type} [DecidableEq α] [DecidableEq β] (f : Nat → α) (g : Nat → β) (N : Nat) (h : ∀ a b, a < N → b < N → (f a = f b ↔ g a = g b)) : ∀ n, n ≤ N → ∃ idx : List Nat, (∀ i ∈ idx, i < n) ∧ (numG f n).1 = idx.map f ∧ (numG g n).1 = idx.map g ∧ (numG f n).2 = (numG g n).2
  | 0, _ => ⟨[], by simp, rfl, rfl, rfl⟩
  | n + 1, hn => by
    obtain ⟨idx, h1, h2, h3, h4⟩ := numG_ker f g N h n (by omega)
    have e : (idx.map f).findIdx? (fun s => decide (s = f n)) = (idx.map g).findIdx? (fun s => decide (s = g n)) := by
      rw [List.findIdx?_map, List.findIdx?_map]
      clear h2 h3 h4
      induction idx with
      | nil => rfl
      | cons a t ih =>
        rw [List.findIdx?_cons, List.findIdx?_cons]
        have ha := h a n (by have := h1 a (List.mem_cons_self ..); omega) (by omega)
        simp only [Function.comp]
        rw [ih (fun i hi => h1 i (List.mem_cons_of_mem _ hi))]
        by_cases q : f a = f n
        · rw [if_pos (decide_eq_true q), if_pos (decide_eq_true (ha.1 q))]
        · rw [if_neg (by simpa using q), if_neg (by simpa using fun q' => q (ha.2 q'))]
    rw [numG, numG, h2, h3, e]
    cases hv : (idx.map g).findIdx? (fun s => decide (s = g n)) with
    | some i => exact ⟨idx, fun i hi => by have := h1 i hi; omega, rfl, rfl, by simp only [h4]⟩
    | none => exact ⟨idx ++ [n], fun i hi => by
        rcases List.mem_append.1 hi with hi | hi
        · have := h1 i hi; omega
        · rw [List.mem_singleton] at hi; omega, by simp, by simp, by simp only [h4, List.length_map]⟩
theorem numG_eq {α β : Type} [DecidableEq α] [DecidableEq β] (f : Nat → α) (g : Nat → β) (N : Nat) (h : ∀ a b, a < N → b < N → (f a = f b ↔ g a = g b)) : (numG f N).2 = (numG g N).2 ∧ (numG f N).1.length = (numG g N).1.length := by
  obtain ⟨idx, _, h2, h3, h4⟩ := numG_ker f g N h N (Nat.le_refl _)
  exact ⟨h4, by rw [h2, h3, List.length_map, List.length_map]⟩
theorem numG_inv {α : Type} [DecidableEq α] (f : Nat → α) : ∀ n, (numG f n).2.length = n ∧ (numG f n).1.length ≤ n ∧ (numG f n).1.Nodup ∧ ∀ a, a < n → ∃ i, ∃ (h : i < (numG f n).1.length), rd (numG f n).2 (a : Int) = (i : Int) ∧ (numG f n).1[i] = f a
  | 0 => ⟨rfl, Nat.le_refl _, List.nodup_nil, fun a h => absurd h (Nat.not_lt_zero _)⟩
  | n + 1 => by
    obtain ⟨h1, h2, h3, h4⟩ := numG_inv f n
    have rdl : ∀ (z : Int) (a : Nat), a < n → rd ((numG f n).2 ++ [z]) (a : Int) = rd (numG f n).2 (a : Int) := by
      intro z a ha
      unfold rd
      rw [Int.toNat_natCast, List.getD_eq_getElem?_getD, List.getD_eq_getElem?_getD, List.getElem?_append_left (by omega)]
    have rdn : ∀ z : Int, rd ((numG f n).2 ++ [z]) (n : Int) = z := by
      intro z
      unfold rd
      rw [Int.toNat_natCast, List.getD_eq_getElem?_getD, List.getElem?_append_right (by omega), h1, Nat.sub_self]
      rfl
    rw [numG]
    cases hv : (numG f n).1.findIdx? (fun s => decide (s = f n)) with
    | some i =>
      obtain ⟨hi, hp, _⟩ := List.findIdx?_eq_some_iff_getElem.1 hv
      refine ⟨by simp [h1], by simp only []; omega, h3, fun a ha => ?_⟩
      by_cases e : a = n
      · subst e
        exact ⟨i, hi, rdn _, by simpa using hp⟩
      · obtain ⟨j, hj, e1, e2⟩ := h4 a (by omega)
        exact ⟨j, hj, (rdl _ a (by omega)).trans e1, e2⟩
    | none =>
      have hn := List.findIdx?_eq_none_iff.1 hv
      refine ⟨by simp [h1], by simp; omega, ?_, fun a ha => ?_⟩
      · rw [List.nodup_append]
        refine ⟨h3, by simp, fun x hx y hy => ?_⟩
        rw [List.mem_singleton] at hy
        subst hy
        have := hn x hx
        simpa using this
      · by_cases e : a = n
        · subst e
          exact ⟨(numG f a).1.length, by simp, rdn _, by simp⟩
        · obtain ⟨j, hj, e1, e2⟩ := h4 a (by omega)
          exact ⟨j, by simp; omega, (rdl _ a (by omega)).trans e1, by rw [← e2]; exact List.getElem_append_left hj⟩
theorem numG_rng {α : Type} [DecidableEq α] (f : Nat → α) (n a : Nat) (h : a < n) : 0 ≤ rd (numG f n).2 (a : Int) ∧ rd (numG f n).2 (a : Int) < (numG f n).1.length := by
  obtain ⟨_, _, _, h4⟩ := numG_inv f n
  obtain ⟨i, hi, e, _⟩ := h4 a h
  rw [e]
  omega
theorem numG_same {α : Type} [DecidableEq α] (f : Nat → α) (n a b : Nat) (ha : a < n) (hb : b < n) : rd (numG f n).2 (a : Int) = rd (numG f n).2 (b : Int) ↔ f a = f b := by
  obtain ⟨_, _, h3, h4⟩ := numG_inv f n
  obtain ⟨i, hi, e, q⟩ := h4 a ha
  obtain ⟨j, hj, e', q'⟩ := h4 b hb
  rw [e, e', ← q, ← q']
  constructor
  · intro h
    have : i = j := by omega
    subst this
    rfl
  · intro h
    have := (List.getElem_inj h3).1 h
    omega
theorem numG_take {α : Type} [DecidableEq α] (f : Nat → α) (n : Nat) : ∀ d, (numG f (n + d)).2.take n = (numG f n).2 ∧ (numG f n).1.length ≤ (numG f (n + d)).1.length
  | 0 => by
    obtain ⟨h1, _⟩ := numG_inv f n
    exact ⟨List.take_of_length_le (by show (numG f n).2.length ≤ n; omega), Nat.le_refl _⟩
  | d + 1 => by
    obtain ⟨ih, ih2⟩ := numG_take f n d
    obtain ⟨h1, _⟩ := numG_inv f (n + d)
    rw [← Nat.add_assoc, numG]
    cases hv : (numG f (n + d)).1.findIdx? (fun s => decide (s = f (n + d))) with
    | some i => exact ⟨by simp only []; rw [List.take_append_of_le_length (by omega), ih], ih2⟩
    | none => exact ⟨by simp only []; rw [List.take_append_of_le_length (by omega), ih], by simp; omega⟩
theorem sRen_l1 (x0 x5 : List Int) (x4 : List Int) (i : Nat) (hi : i < x0.length) (hl : x4.length < 100000) (h5 : x5.length < 100000) : ∀ (d k s : Nat), x4.length - s = d → s ≤ x4.length → 2 * d + 4 ≤ k →
    ∃ k', k ≤ k' + 2 * d + 4 ∧ spec_l1Renamed.l1 k x0 x4 x5 (i : Int) (-1) (s : Int) = match (x4.drop s).findIdx? (fun v => decide (v = rd x0 (i : Int))) with
      | some j => spec_l1Renamed.l0 k' x0 x4 (x5 ++ [((s + j : Nat) : Int)]) (wrap64 ((i : Int) + 1))
      | none => spec_l1Renamed.l0 k' x0 (x4 ++ [rd x0 (i : Int)]) (x5 ++ [(x4.length : Int)]) (wrap64 ((i : Int) + 1))
  | 0, k, s, hd, hs, hk => by
    obtain ⟨k, rfl⟩ : ∃ m, k = m + 1 + 1 := ⟨k - 2, by omega⟩
    refine ⟨k, by omega, ?_⟩
    rw [List.drop_eq_nil_of_le (by omega), List.findIdx?_nil]
    rw [spec_l1Renamed.l1, if_neg (by omega), spec_l1Renamed.j2, if_neg (by simp), if_pos (by omega), if_pos (by omega), if_pos (by omega), if_pos (by omega), if_pos (by omega)]
  | d + 1, k, s, hd, hs, hk => by
    obtain ⟨k, rfl⟩ : ∃ m, k = m + 1 + 1 := ⟨k - 2, by omega⟩
    have hsl : s < x4.length := by omega
    have hdrop := List.drop_eq_getElem_cons hsl
    have hrd : rd x4 (s : Int) = x4[s] := by
      unfold rd
      rw [Int.toNat_natCast, List.getD_eq_getElem?_getD, List.getElem?_eq_getElem hsl]
      rfl
    rw [hdrop, List.findIdx?_cons]
    rw [spec_l1Renamed.l1, if_pos (by omega), spec_l1Renamed.j2, if_pos (by simp), if_pos (by omega), if_pos (by omega), if_pos (by omega), if_pos (by omega), hrd]
    by_cases e : x4[s] = rd x0 (i : Int)
    · rw [if_pos e, decide_eq_true e, if_pos rfl]
      obtain ⟨k, rfl⟩ : ∃ m, k = m + 1 + 1 := ⟨k - 2, by omega⟩
      refine ⟨k, by omega, ?_⟩
      rw [spec_l1Renamed.l1]
      have hn : decide ((s : Int) < 0) = false := decide_eq_false (by omega)
      have hgo : spec_l1Renamed.j2 (k + 1) x0 x4 x5 (i : Int) (s : Int) (wrap64 ((s : Int) + 1)) false = spec_l1Renamed.l0 k x0 x4 (x5 ++ [((s + 0 : Nat) : Int)]) (wrap64 ((i : Int) + 1)) := by
        rw [spec_l1Renamed.j2, if_neg (by simp), if_neg (by omega), if_pos (by omega), Nat.add_zero]
      by_cases q : wrap64 ((s : Int) + 1) < (x4.length : Int)
      · rw [if_pos q, hn]; exact hgo
      · rw [if_neg q]; exact hgo
    · rw [if_neg e, decide_eq_false e, nat_next (by omega)]
      obtain ⟨k', hk', ih⟩ := sRen_l1 x0 x5 x4 i hi hl h5 d k (s + 1) (by omega) (by omega) (by omega)
      refine ⟨k', by omega, ?_⟩
      rw [ih]
      cases hv : (x4.drop (s + 1)).findIdx? (fun v => decide (v = rd x0 (i : Int))) with
      | none => rfl
      | some j =>
        simp only [Option.map_some, Bool.false_eq_true, if_false]
        rw [show s + 1 + j = s + (j + 1) by omega]
theorem sRen_l0 (x0 : List Int) (hl : x0.length ≤ 1000) (d : Nat) : ∀ (k i : Nat), x0.length - i = d → i ≤ x0.length → d * 3000 < k →
    spec_l1Renamed.l0 k x0 (numG (fun (b : Nat) => rd x0 (b : Int)) i).1 (numG (fun (b : Nat) => rd x0 (b : Int)) i).2 (i : Int) = some ((numG (fun (b : Nat) => rd x0 (b : Int)) x0.length).2, ((numG (fun (b : Nat) => rd x0 (b : Int)) x0.length).1.length : Int)) := by
  induction d with
  | zero =>
    intro k i hd hi hk
    have e : i = x0.length := by omega
    subst e
    obtain ⟨k, rfl⟩ : ∃ m, k = m + 1 := ⟨k - 1, by omega⟩
    rw [spec_l1Renamed.l0, if_neg (by omega)]
  | succ d ihd =>
    intro k i hd hi hk
    obtain ⟨k, rfl⟩ : ∃ m, k = m + 1 := ⟨k - 1, by omega⟩
    obtain ⟨h1, h2, _⟩ := numG_inv (fun (b : Nat) => rd x0 (b : Int)) i
    rw [spec_l1Renamed.l0, if_pos (by omega)]
    obtain ⟨k', hk', e⟩ := sRen_l1 x0 (numG (fun (b : Nat) => rd x0 (b : Int)) i).2 (numG (fun (b : Nat) => rd x0 (b : Int)) i).1 i (by omega) (by omega) (by omega) _ k 0 rfl (Nat.zero_le _) (by omega)
    simp only [Int.natCast_zero, List.drop_zero, Nat.zero_add] at e
    rw [e, nat_next (by omega)]
    have hk2 : d * 3000 < k' := by
      have e3 : (d + 1) * 3000 = d * 3000 + 3000 := Nat.succ_mul d 3000
      rw [e3] at hk
      generalize d * 3000 = z at hk ⊢
      generalize (numG (fun (b : Nat) => rd x0 (b : Int)) i).1.length = q at hk' h2
      clear e ihd h1
      omega
    have ih := ihd k' (i + 1) (by omega) (by omega) hk2
    rw [numG] at ih
    cases hv : (numG (fun (b : Nat) => rd x0 (b : Int)) i).1.findIdx? (fun s => decide (s = rd x0 (i : Int))) with
    | some j => rw [hv] at ih; exact ih
    | none => rw [hv] at ih; exact ih
theorem sRen (x0 : List Int) (hl : x0.length ≤ 256) (k : Nat) (hk : 800000 ≤ k) : spec_l1Renamed.f k x0 = some ((numG (fun (b : Nat) => rd x0 (b : Int)) x0.length).2, ((numG (fun (b : Nat) => rd x0 (b : Int)) x0.length).1.length : Int)) := by
  unfold spec_l1Renamed.f
  have h9 := Nat.mul_le_mul_right 3000 hl
  exact sRen_l0 x0 (by omega) x0.length k 0 (by omega) (Nat.zero_le _) (by omega)
theorem sgU_ker (l : List (List S33)) (a b : Nat) : sgU l a = sgU l b ↔ ∀ c ∈ l, inB c a = inB c b := by
  unfold sgU sgs
  rw [List.map_map, List.map_map, List.map_inj_left]
  constructor
  · intro h c hc
    have := h c hc
    simp only [Function.comp] at this
    cases h1 : inB c a <;> cases h2 : inB c b <;> simp [h1, h2] at this ⊢
  · intro h c hc
    simp only [Function.comp]
    rw [h c hc]
/-- the blocks of some classes -/
def resB (l : List (List S33)) : List Int × Int := ((numG (sgU l) 256).2, ((numG (sgU l) 256).1.length : Int))
theorem blkF_l (l : List (List S33)) : ∀ d b, blkF l d b (numG (sgU l) b).1 (numG (sgU l) b).2 = ((numG (sgU l) (b + d)).2, ((numG (sgU l) (b + d)).1.length : Int))
  | 0, b => rfl
  | d + 1, b => by
    have ih := blkF_l l d (b + 1)
    rw [show b + (d + 1) = b + 1 + d by omega, ← ih, blkF]
    conv => rhs; rw [numG]
    cases hv : (numG (sgU l) b).1.findIdx? (fun s => decide (s = sgU l b)) with
    | some i => rfl
    | none => rfl
theorem blkF_res (l : List (List S33)) : blkF l 256 0 [] [] = resB l := by
  have := blkF_l l 256 0
  rw [Nat.zero_add] at this
  exact this
def bitM (m : List Bool) (c : Nat) : Int := if m.getD c false = true then 1 else 0
theorem rd_set (l : List Int) (a b : Nat) (v : Int) (ha : a < l.length) : rd (l.set a v) (b : Int) = if a = b then v else rd l (b : Int) := by
  unfold rd
  rw [Int.toNat_natCast, List.getD_eq_getElem?_getD, List.getD_eq_getElem?_getD, List.getElem?_set]
  by_cases e : a = b
  · subst e; rw [if_pos rfl, if_pos ha, if_pos rfl]; rfl
  · rw [if_neg e, if_neg e]
theorem sB_l1 (l : List (List S33)) (x4 B : List Int) (m : List Bool) (hm : m.length = 256) (i : Nat) (hB : ∀ b : Nat, b < 256 → 0 ≤ rd B (b : Int) ∧ rd B (b : Int) < 256) (d : Nat) : ∀ (b : Nat) (X : List Int), b + d = 256 → X.length = 256 →
    (∀ c : Nat, c < b → rd X (c : Int) = 2 * rd B (c : Int) + bitM m c) → (∀ c : Nat, b ≤ c → c < 256 → rd X (c : Int) = rd B (c : Int)) →
    ∃ X' : List Int, X'.length = 256 ∧ (∀ c : Nat, c < 256 → rd X' (c : Int) = 2 * rd B (c : Int) + bitM m c) ∧ ∀ k, spec_Blocks.l1 (k + d + 1) l x4 X (i : Int) m (b : Int) = (spec_l1Renamed.f k X').bind fun bt => spec_Blocks.l0 k l x4 bt.1 (wrap64 ((i : Int) + 1)) := by
  induction d with
  | zero =>
    intro b X hb hX h1 h2
    refine ⟨X, hX, fun c hc => h1 c (by omega), fun k => ?_⟩
    rw [show k + 0 + 1 = k + 1 from rfl, spec_Blocks.l1, if_neg (by omega)]
  | succ d ih =>
    intro b X hb hX h1 h2
    have hb0 := h2 b (Nat.le_refl _) (by omega)
    have hbr := hB b (by omega)
    obtain ⟨Y, hY, hYl⟩ : ∃ Y, Y = X.set b (2 * rd B (b : Int)) ∧ Y.length = 256 := ⟨_, rfl, by rw [List.length_set]; exact hX⟩
    have hYr : ∀ c : Nat, rd Y (c : Int) = if b = c then 2 * rd B (b : Int) else rd X (c : Int) := fun c => by rw [hY, rd_set _ _ _ _ (by omega)]
    have hstep : ∀ k, spec_Blocks.l1 (k + 1) l x4 X (i : Int) m (b : Int) = if m.getD b false = true then spec_Blocks.l1 k l x4 (Y.set b (2 * rd B (b : Int) + 1)) (i : Int) m ((b + 1 : Nat) : Int) else spec_Blocks.l1 k l x4 Y (i : Int) m ((b + 1 : Nat) : Int) := by
      intro k
      rw [spec_Blocks.l1, if_pos (by omega), if_pos (by omega), if_pos (by omega), hb0, w64 (x := 2 * rd B (b : Int)) (by omega) (by omega), Option.bind_some, if_pos (by omega), Int.toNat_natCast, ← hY, hYr b, if_pos rfl, w64 (x := 2 * rd B (b : Int) + 1) (by omega) (by omega), nat_next (by omega)]
      rfl
    by_cases hmb : m.getD b false = true
    · obtain ⟨X', g1, g2, g3⟩ := ih (b + 1) (Y.set b (2 * rd B (b : Int) + 1)) (by omega) (by rw [List.length_set]; exact hYl) (fun c hc => by
          rw [rd_set _ _ _ _ (by omega)]
          by_cases e : b = c
          · subst e; rw [if_pos rfl]; unfold bitM; rw [if_pos hmb]
          · rw [if_neg e, hYr c, if_neg e]; exact h1 c (by omega)) (fun c hc hc2 => by
          rw [rd_set _ _ _ _ (by omega), if_neg (by omega), hYr c, if_neg (by omega)]; exact h2 c (by omega) hc2)
      exact ⟨X', g1, g2, fun k => by rw [show k + (d + 1) + 1 = (k + d + 1) + 1 by omega, hstep, if_pos hmb, g3]⟩
    · obtain ⟨X', g1, g2, g3⟩ := ih (b + 1) Y (by omega) hYl (fun c hc => by
          rw [hYr c]
          by_cases e : b = c
          · subst e; rw [if_pos rfl]; unfold bitM; rw [if_neg hmb]; omega
          · rw [if_neg e]; exact h1 c (by omega)) (fun c hc hc2 => by
          rw [hYr c, if_neg (by omega)]; exact h2 c (by omega) hc2)
      exact ⟨X', g1, g2, fun k => by rw [show k + (d + 1) + 1 = (k + d + 1) + 1 by omega, hstep, if_neg hmb, g3]⟩
def KerB (l : List (List S33)) (i : Nat) (B : List Int) : Prop := B.length = 256 ∧ (∀ b : Nat, b < 256 → 0 ≤ rd B (b : Int) ∧ rd B (b : Int) < 256) ∧ ∀ a b : Nat, a < 256 → b < 256 → (rd B (a : Int) = rd B (b : Int) ↔ ∀ c ∈ l.take i, inB c a = inB c b)
theorem rd_mem {α : Type} (z : α) (l : List α) {i : Nat} (h : i < l.length) : l.getD i z = l[i] := by
  rw [List.getD_eq_getElem?_getD, List.getElem?_eq_getElem h]
  rfl
open Classical in
theorem sB_l0 (l : List (List S33)) (hs : ∀ c ∈ l, c.length ≤ 1048576) (hl : l.length ≤ 500) (d : Nat) : ∀ (k i : Nat) (B : List Int), l.length - i = d → i ≤ l.length → d * 300 + 1200000 < k → KerB l i B →
    spec_Blocks.l0 k l [] B (i : Int) = some (if ∀ c ∈ l.drop i, classOk (c.map toP) then resB l else ([], 0)) := by
  induction d with
  | zero =>
    intro k i B hd hi hk hB
    have e : i = l.length := by omega
    obtain ⟨k, rfl⟩ : ∃ m, k = m + 1 := ⟨k - 1, by omega⟩
    rw [spec_Blocks.l0, if_neg (by omega), sRen B (by rw [hB.1]; omega) k (by omega), Option.bind_some, List.drop_eq_nil_of_le (by omega), if_pos (by simp)]
    have := numG_eq (fun (b : Nat) => rd B (b : Int)) (sgU l) 256 (fun a b ha hb => by
      rw [sgU_ker]
      have := hB.2.2 a b ha hb
      rw [e, List.take_length] at this
      exact this)
    unfold resB
    rw [hB.1, this.1, this.2]
  | succ d ih =>
    intro k i B hd hi hk hB
    have hil : i < l.length := by omega
    obtain ⟨k, rfl⟩ : ∃ m, k = m + 1 := ⟨k - 1, by omega⟩
    have hc : rd_L4 l (i : Int) = l[i] := by
      unfold rd_L4
      rw [Int.toNat_natCast, rd_mem _ _ hil]
    have hcl := hs l[i] (List.getElem_mem hil)
    rw [spec_Blocks.l0, if_pos (by omega), if_pos (by omega), hc, sClassOk _ hcl k (by omega), Option.bind_some, List.drop_eq_getElem_cons hil]
    have e3 : (d + 1) * 300 = d * 300 + 300 := Nat.succ_mul d 300
    by_cases hok : classOk (l[i].map toP)
    · obtain ⟨m, em, hm, hmr⟩ := sMarks l[i] hok k (by omega)
      rw [decide_eq_true hok, if_pos rfl, em, Option.bind_some]
      obtain ⟨X', g1, g2, g3⟩ := sB_l1 l [] B m hm i hB.2.1 256 0 B rfl hB.1 (fun c hc => absurd hc (Nat.not_lt_zero _)) (fun c _ _ => rfl)
      obtain ⟨k, rfl⟩ : ∃ q, k = q + 256 + 1 := ⟨k - 257, by omega⟩
      have g3' := g3 k
      simp only [Int.natCast_zero] at g3'
      rw [g3', sRen X' (by omega) k (by omega), Option.bind_some, g1, nat_next (by omega)]
      have hbit : ∀ c : Nat, c < 256 → bitM m c = if inB l[i] c = true then 1 else 0 := by
        intro c hc
        unfold bitM
        have hin : inB l[i] c = true ↔ InTo (l[i].map toP) l[i].length c := by
          unfold inB
          rw [decide_eq_true_iff, spP_toP]
        have := (hmr c hc).trans hin.symm
        by_cases q : m.getD c false = true
        · rw [if_pos q, if_pos (this.1 q)]
        · rw [if_neg q, if_neg (fun q2 => q (this.2 q2))]
      have hk2 : d * 300 + 1200000 < k := by
        rw [e3] at hk
        generalize d * 300 = z at hk ⊢
        exact Nat.lt_of_add_lt_add_right (n := 300) (by have : z + 300 + 1200000 < k + 256 + 1 + 1 := hk; omega)
      rw [ih k (i + 1) _ (by omega) (by omega) hk2 ⟨(numG_inv _ 256).1, fun b hb => by
        have := numG_rng (fun (b : Nat) => rd X' (b : Int)) 256 b hb
        have h2 := (numG_inv (fun (b : Nat) => rd X' (b : Int)) 256).2.1
        exact ⟨this.1, by omega⟩, fun a b ha hb => by
        rw [numG_same _ 256 a b ha hb]
        rw [g2 a ha, g2 b hb, hbit a ha, hbit b hb, List.take_succ_eq_append_getElem hil]
        have hk0 := hB.2.2 a b ha hb
        constructor
        · intro h c hc
          rcases List.mem_append.1 hc with hc | hc
          · refine hk0.1 ?_ c hc
            split at h <;> split at h <;> omega
          · rw [List.mem_singleton] at hc
            subst hc
            cases h1 : inB l[i] a <;> cases h2 : inB l[i] b <;> simp [h1, h2] at h ⊢ <;> omega
        · intro h
          rw [hk0.2 (fun c hc => h c (List.mem_append.2 (.inl hc))), h l[i] (List.mem_append.2 (.inr (List.mem_singleton.2 rfl)))]⟩]
      congr 1
      by_cases q : ∀ c ∈ l.drop (i + 1), classOk (c.map toP)
      · rw [if_pos q, if_pos (fun c hc => by
          rcases List.mem_cons.1 hc with rfl | hc
          · exact hok
          · exact q c hc)]
      · rw [if_neg q, if_neg (fun h => q (fun c hc => h c (List.mem_cons_of_mem _ hc)))]
    · rw [decide_eq_false hok, if_neg (by simp), if_neg (fun h => hok (h _ (List.mem_cons_self ..)))]
open Classical in
/-- what both come to -/
noncomputable def blocksM (l : List (List S33)) : List Int × Int := if (∀ c ∈ l, classOk (c.map toP)) ∧ l.length ≤ 500 then resB l else ([], 0)
open Classical in
theorem sBlocks (l : List (List S33)) (hs : ∀ c ∈ l, c.length ≤ 1048576) (k : Nat) (hk : 1500000 ≤ k) : spec_Blocks.f k l = some (blocksM l) := by
  unfold spec_Blocks.f blocksM
  rw [Option.bind_some]
  by_cases hl : (l.length : Int) > 500
  · rw [if_pos hl, if_neg (fun h => by have := h.2; omega)]
  · rw [if_neg hl, if_pos (by omega)]
    have h9 := Nat.mul_le_mul_right 300 (show l.length ≤ 500 by omega)
    have := sB_l0 l hs (by omega) l.length k 0 (List.replicate 256 0) (by omega) (Nat.zero_le _) (by omega) ⟨List.length_replicate, fun b hb => by
      have e : rd (List.replicate 256 (0 : Int)) (b : Int) = 0 := by
        unfold rd
        rw [Int.toNat_natCast, List.getD_eq_getElem?_getD, List.getElem?_replicate, if_pos hb]
        rfl
      rw [e]; omega, fun a b ha hb => by
      have e : ∀ q : Nat, q < 256 → rd (List.replicate 256 (0 : Int)) (q : Int) = 0 := fun q hq => by
        unfold rd
        rw [Int.toNat_natCast, List.getD_eq_getElem?_getD, List.getElem?_replicate, if_pos hq]
        rfl
      rw [e a ha, e b hb]
      simp⟩
    refine Eq.trans this ?_
    rw [List.drop_zero]
    congr 1
    by_cases q : ∀ c ∈ l, classOk (c.map toP)
    · rw [if_pos q, if_pos ⟨q, by omega⟩]
    · rw [if_neg q, if_neg (fun h => q h.1)]
open Classical in
theorem iB_l0 (l : List (List S33)) (hs : ∀ c ∈ l, c.length ≤ 1048576) (hl : l.length ≤ 500) (d : Nat) : ∀ (k i : Nat), l.length - i = d → i ≤ l.length → d + 1200000 < k → (∀ c ∈ l.take i, classOk (c.map toP)) →
    impl_Blocks.l0 k l l (l.length : Int) (i : Int) = some (blocksM l) := by
  induction d with
  | zero =>
    intro k i hd hi hk hB
    have e : i = l.length := by omega
    obtain ⟨k, rfl⟩ : ∃ m, k = m + 1 := ⟨k - 1, by omega⟩
    rw [e, List.take_length] at hB
    rw [impl_Blocks.l0, if_neg (by omega)]
    unfold impl_blocks.f blocksM
    rw [if_pos ⟨by rw [spP_toP]; exact hB, hl⟩, Option.bind_some, blkF_res, if_pos ⟨hB, hl⟩]
  | succ d ih =>
    intro k i hd hi hk hB
    have hil : i < l.length := by omega
    obtain ⟨k, rfl⟩ : ∃ m, k = m + 1 := ⟨k - 1, by omega⟩
    have hc : rd_L4 l (i : Int) = l[i] := by
      unfold rd_L4
      rw [Int.toNat_natCast, rd_mem _ _ hil]
    have hcl := hs l[i] (List.getElem_mem hil)
    rw [impl_Blocks.l0, if_pos (by omega), if_pos (by omega), if_pos (by omega), hc, iClassOk _ hcl k (by omega), Option.bind_some]
    by_cases hok : classOk (l[i].map toP)
    · rw [decide_eq_true hok, if_pos rfl, nat_next (by omega)]
      exact ih k (i + 1) (by omega) (by omega) (by omega) (by
        intro c hc
        rw [List.take_succ_eq_append_getElem hil] at hc
        rcases List.mem_append.1 hc with hc | hc
        · exact hB c hc
        · rw [List.mem_singleton] at hc
          subst hc
          exact hok)
    · rw [decide_eq_false hok, if_neg (by simp)]
      unfold blocksM
      rw [if_neg (fun h => hok (h.1 _ (List.getElem_mem hil)))]
open Classical in
theorem iBlocks (l : List (List S33)) (hs : ∀ c ∈ l, c.length ≤ 1048576) (k : Nat) (hk : 1500000 ≤ k) : impl_Blocks.f k l = some (blocksM l) := by
  unfold impl_Blocks.f
  by_cases hl : (l.length : Int) > 500
  · unfold blocksM
    rw [if_pos hl, if_neg (fun h => by have := h.2; omega)]
  · rw [if_neg hl]
    exact iB_l0 l hs (by omega) l.length k 0 (by omega) (Nat.zero_le _) (by omega) (by simp)
theorem next_ok {b : List Int} {p : Int} (hb : Bytes b) (hp : At b p) : Tot (spec_l1Rd_next.f b p) (fun r => 0 ≤ r.1 ∧ r.1 ≤ 255 ∧ At b r.2) := by
  have hl := hb.len
  have h0 := hp.1
  have h1 := hp.2
  unfold spec_l1Rd_next.f
  by_cases h : p ≥ (b.length : Int)
  · rw [if_pos h]
    exact Tot.pure ⟨by simp, by simp, hp⟩
  · rw [if_neg h]
    have e : wrap64 (wrap64 (p + 1) - 1) = p := by
      rw [w64 (x := p + 1) (by omega) (by omega), w64 (by omega) (by omega)]
      omega
    rw [e, if_pos h0, if_pos (by omega)]
    have := hb.lo p
    have := hb.hi p
    rw [w64 (x := rd b p) (by omega) (by omega), w64 (x := p + 1) (by omega) (by omega)]
    exact Tot.pure ⟨hb.lo p, hb.hi p, by simp only; omega, by simp only; omega⟩
theorem below_ok {b : List Int} {p : Int} (n : Int) (hb : Bytes b) (hp : At b p) : Tot (spec_l1Rd_below.f b p n) (fun r => 0 ≤ r.1 ∧ (r.1 < n ∨ r.1 = 0) ∧ At b r.2) := by
  unfold spec_l1Rd_below.f
  by_cases h : n ≤ 1
  · rw [if_pos h]
    exact Tot.pure ⟨by simp, by simp, hp⟩
  · rw [if_neg h]
    by_cases h2 : n ≤ 256
    · rw [if_pos h2]
      refine (next_ok hb hp).bind fun v hv => ?_
      rw [if_neg (by omega)]
      obtain ⟨v0, v1, v2⟩ := hv
      have := Int.emod_nonneg v.1 (show n ≠ 0 by omega)
      have := Int.emod_lt_of_pos v.1 (show 0 < n by omega)
      exact Tot.pure ⟨by rw [tmod_pos v0]; omega, by rw [tmod_pos v0]; omega, v2⟩
    · rw [if_neg h2]
      refine (next_ok hb hp).bind fun v hv => ?_
      obtain ⟨v0, v1, v2⟩ := hv
      refine (next_ok hb v2).bind fun u hu => ?_
      obtain ⟨u0, u1, u2⟩ := hu
      rw [if_neg (by omega), w64 (x := v.1 * 256) (by omega) (by omega), w64 (x := v.1 * 256 + u.1) (by omega) (by omega)]
      have := Int.emod_nonneg (v.1 * 256 + u.1) (show n ≠ 0 by omega)
      have := Int.emod_lt_of_pos (v.1 * 256 + u.1) (show 0 < n by omega)
      exact Tot.pure ⟨by rw [tmod_pos (by omega)]; omega, by rw [tmod_pos (by omega)]; omega, u2⟩
theorem once_ok {b : List Int} {p : Int} (n : Int) (hb : Bytes b) (hp : At b p) : Tot (spec_l1Rd_once.f b p n) (fun r => At b r.2) := by
  unfold spec_l1Rd_once.f
  refine (below_ok n hb hp).bind fun v hv => ?_
  exact Tot.pure hv.2.2
theorem word_l {b : List Int} (hb : Bytes b) (d : Nat) : ∀ (k : Nat) (x i p : Int), d < k → 0 ≤ i → 8 - i = d → At b p → Tot (spec_l1Rd_word.l0 k x i b p) (fun r => At b r.2) := by
  induction d with
  | zero =>
    intro k x i p hk h0 hd hp
    obtain ⟨k, rfl⟩ : ∃ m, k = m + 1 := ⟨k - 1, by omega⟩
    simp only [spec_l1Rd_word.l0]
    rw [if_neg (by omega)]
    exact Tot.pure hp
  | succ d ih =>
    intro k x i p hk h0 hd hp
    obtain ⟨k, rfl⟩ : ∃ m, k = m + 1 := ⟨k - 1, by omega⟩
    simp only [spec_l1Rd_word.l0]
    rw [if_pos (by omega)]
    refine (next_ok hb hp).bind fun v hv => ?_
    rw [w64 (x := i + 1) (by omega) (by omega)]
    exact ih k _ (i + 1) _ (by omega) (by omega) (by omega) hv.2.2
theorem word_ok {b : List Int} {p : Int} {k : Nat} (hk : 10 ≤ k) (hb : Bytes b) (hp : At b p) : Tot (spec_l1Rd_word.f k b p) (fun r => At b r.2) := by
  unfold spec_l1Rd_word.f
  exact word_l hb 8 k 0 0 p (by omega) (by omega) (by omega) hp
theorem near_ok {b : List Int} {p : Int} {k : Nat} (lo hi : Int) (h : -4611686018427387904 ≤ lo) (h' : hi ≤ 4611686018427387902) (l' : lo ≤ 4611686018427387904) (g' : -4611686018427387904 ≤ hi) (hk : 10 ≤ k) (hb : Bytes b) (hp : At b p) : Tot (spec_l1Rd_near.f k b p lo hi) (fun r => i64 r.1 ∧ At b r.2) := by
  unfold spec_l1Rd_near.f
  refine (below_ok 8 hb hp).bind fun v hv => ?_
  refine Tot.ite (fun _ => Tot.pure ⟨⟨by simp only; omega, by simp only; omega⟩, hv.2.2⟩) (fun _ => ?_)
  refine Tot.ite (fun _ => Tot.pure ⟨⟨by simp only; omega, by simp only; omega⟩, hv.2.2⟩) (fun _ => ?_)
  refine Tot.ite (fun _ => Tot.pure ⟨⟨by simp only; omega, by simp only; omega⟩, hv.2.2⟩) (fun h3 => ?_)
  refine (word_ok hk hb hv.2.2).bind fun u hu => ?_
  rw [w64 (x := hi - lo) (by omega) (by omega), w64 (x := hi - lo + 1) (by omega) (by omega)]
  have e : IntKind.u64.wrap (hi - lo + 1) = hi - lo + 1 := by
    simp only [IntKind.wrap, IntKind.signed, IntKind.bits]
    first | omega | (simp; omega)
  rw [e, if_neg (by omega)]
  exact Tot.pure ⟨i64_wrap _, hu⟩
theorem off_ok {b : List Int} {p : Int} {k : Nat} (lo hi : Int) (h : -4611686018427387904 ≤ lo) (h' : hi ≤ 4611686018427387902) (l' : lo ≤ 4611686018427387904) (g' : -4611686018427387904 ≤ hi) (hk : 10 ≤ k) (hb : Bytes b) (hp : At b p) : Tot (spec_l1Rd_off.f k b p lo hi) (fun r => i64 r.1 ∧ At b r.2) := by
  unfold spec_l1Rd_off.f
  refine (once_ok 24 hb hp).bind fun v hv => ?_
  refine Tot.ite (fun _ => ?_) (fun _ => ?_)
  · simp only [Option.bind_some]
    refine (below_ok 4 hb hv).bind fun u hu => ?_
    obtain ⟨u0, u1, u2⟩ := hu
    refine Tot.yes u0 (Tot.yes (by simp only [List.length_cons, List.length_nil]; omega) (Tot.pure ⟨?_, u2⟩))
    have : u.1 = 0 ∨ u.1 = 1 ∨ u.1 = 2 ∨ u.1 = 3 := by omega
    rcases this with e | e | e | e <;> simp only [e, rd] <;> simp [i64] <;> first | done | exact i64_wrap _
  · refine (near_ok lo hi h h' l' g' hk hb hv).bind fun u hu => ?_
    exact Tot.pure hu
theorem cls_l1 {b : List Int} (hb : Bytes b) {Q : List S33 × Int → Prop} (n : Int) (n0 : 0 < n) (n1 : n ≤ 100) (K : Nat) (G : ∀ k m p, K < k → m.length = 256 → At b p → Tot (spec_l1Rd_class.l0 k m (n - 1) b p) Q) (d : Nat) :
    ∀ (k : Nat) (m : List Bool) (lo x p : Int), K + d + 1 < k → (256 - x).toNat = d → 0 ≤ x → x ≤ 256 → 0 ≤ lo → lo ≤ 300 → m.length = 256 → At b p → Tot (spec_l1Rd_class.l1 k m n lo x b p) Q := by
  induction d with
  | zero =>
    intro k m lo x p hk hd x0 x1 l0 l1 hm hp
    obtain ⟨k, rfl⟩ : ∃ m, k = m + 1 := ⟨k - 1, by omega⟩
    simp only [spec_l1Rd_class.l1]
    rw [if_neg (by omega), w64 (x := n - 1) (by omega) (by omega)]
    exact G k m p (by omega) hm hp
  | succ d ih =>
    intro k m lo x p hk hd x0 x1 l0 l1 hm hp
    obtain ⟨k, rfl⟩ : ∃ m, k = m + 1 := ⟨k - 1, by omega⟩
    simp only [spec_l1Rd_class.l1]
    rw [if_pos (by omega)]
    refine (below_ok 6 hb hp).bind fun v hv => ?_
    obtain ⟨v0, v1, v2⟩ := hv
    rw [w64 (x := lo + v.1) (by omega) (by omega), w64 (x := n - 1) (by omega) (by omega)]
    refine Tot.ite (fun h => Tot.yes x0 (Tot.yes (by omega) ?_)) (fun h => ?_)
    · rw [w64 (x := x + 1) (by omega) (by omega)]
      exact ih k _ lo (x + 1) _ (by omega) (by omega) (by omega) (by omega) l0 l1 (by rw [List.length_set]; exact hm) v2
    · exact G k m _ (by omega) hm v2
theorem cls_l0 {b : List Int} (hb : Bytes b) (d : Nat) : ∀ (k : Nat) (m : List Bool) (n p : Int), d * 300 + 400 < k → n = d → n ≤ 100 → m.length = 256 → At b p →
    Tot (spec_l1Rd_class.l0 k m n b p) (fun r => classOk (r.1.map toP) ∧ At b r.2) := by
  induction d with
  | zero =>
    intro k m n p hk hn n1 hm hp
    obtain ⟨k, rfl⟩ : ∃ m, k = m + 1 := ⟨k - 1, by omega⟩
    simp only [spec_l1Rd_class.l0]
    obtain ⟨r, e, h1, _⟩ := classR m hm k (by omega)
    rw [if_neg (by omega), e]
    exact Tot.pure ⟨h1, hp⟩
  | succ d ih =>
    intro k m n p hk hn n1 hm hp
    obtain ⟨k, rfl⟩ : ∃ m, k = m + 1 := ⟨k - 1, by omega⟩
    have G : ∀ k m p, d * 300 + 400 < k → m.length = 256 → At b p → Tot (spec_l1Rd_class.l0 k m (n - 1) b p) (fun r => classOk (r.1.map toP) ∧ At b r.2) := fun k m p hk hm hp => ih k m (n - 1) p hk (by omega) (by omega) hm hp
    have J : ∀ (lo p : Int), 0 ≤ lo → lo ≤ 256 → At b p → Tot (spec_l1Rd_class.j1 k m n lo b p) (fun r => classOk (r.1.map toP) ∧ At b r.2) := by
      intro lo p l0 l1 hp
      obtain ⟨k, rfl⟩ : ∃ m, k = m + 1 := ⟨k - 1, by omega⟩
      simp only [spec_l1Rd_class.j1]
      exact cls_l1 hb n (by omega) (by omega) _ G _ k m lo lo p (by omega) rfl l0 (by omega) l0 (by omega) hm hp
    simp only [spec_l1Rd_class.l0]
    rw [if_pos (by omega)]
    refine (below_ok 256 hb hp).bind fun v hv => ?_
    obtain ⟨v0, v1, v2⟩ := hv
    refine (once_ok 2 hb v2).bind fun u hu => ?_
    refine Tot.ite (fun _ => ?_) (fun _ => J _ _ v0 (by omega) hu)
    refine (below_ok 8 hb hu).bind fun y hy => ?_
    obtain ⟨y0, y1, y2⟩ := hy
    rw [w64 (x := 97 + y.1) (by omega) (by omega)]
    exact J _ _ (by omega) (by omega) y2
theorem class_ok {b : List Int} {p : Int} {k : Nat} (hk : 3000 ≤ k) (hb : Bytes b) (hp : At b p) : Tot (spec_l1Rd_class.f k b p) (fun r => classOk (r.1.map toP) ∧ At b r.2) := by
  unfold spec_l1Rd_class.f
  rw [if_pos (by omega)]
  refine (below_ok 5 hb hp).bind fun v hv => ?_
  obtain ⟨v0, v1, v2⟩ := hv
  exact cls_l0 hb v.1.toNat k _ v.1 _ (by omega) (by omega) (by omega) List.length_replicate v2
theorem oddClass_ok {b : List Int} {p : Int} {k : Nat} (hk : 3000 ≤ k) (hb : Bytes b) (hp : At b p) : Tot (spec_l1Rd_oddClass.f k b p) (fun r => r.1.length ≤ 200 ∧ At b r.2) := by
  unfold spec_l1Rd_oddClass.f
  refine (class_ok hk hb hp).bind fun v hv => ?_
  obtain ⟨v0, v1⟩ := hv
  have hl : v.1.length ≤ 128 := by have := classOk_len v0; simpa using this
  refine (below_ok 24 hb v1).bind fun u hu => ?_
  refine Tot.ite (fun _ => ?_) (fun _ => Tot.ite (fun _ => ?_) (fun _ => Tot.ite (fun _ => ?_) (fun _ => ?_)))
  · refine (off_ok 0 255 (by omega) (by omega) (by omega) (by omega) (by omega) hb hu.2.2).bind fun x hx => ?_
    refine (off_ok 0 255 (by omega) (by omega) (by omega) (by omega) (by omega) hb hx.2).bind fun y hy => ?_
    refine Tot.yes (by omega) (Tot.pure ⟨?_, hy.2⟩)
    simp only [List.length_append, List.length_cons, List.length_nil]
    omega
  · refine Tot.ite (fun h => ?_) (fun h => Tot.pure ⟨by simp only; omega, hu.2.2⟩)
    refine (off_ok 0 255 (by omega) (by omega) (by omega) (by omega) (by omega) hb hu.2.2).bind fun x hx => ?_
    refine Tot.yes (by omega) (Tot.pure ⟨by simp only [List.length_set]; omega, hx.2⟩)
  · exact Tot.pure ⟨by simp, hu.2.2⟩
  · exact Tot.pure ⟨by simp only; omega, hu.2.2⟩
theorem sameInts_l (l : List Int) (hl : l.length ≤ 1000) (d : Nat) : ∀ (k i : Nat), d < k → l.length - i = d → i ≤ l.length → laws_sameInts.l0 k l l (i : Int) = some true := by
  induction d with
  | zero =>
    intro k i hk hd hi
    obtain ⟨k, rfl⟩ : ∃ m, k = m + 1 := ⟨k - 1, by omega⟩
    rw [laws_sameInts.l0, if_neg (by omega)]
  | succ d ih =>
    intro k i hk hd hi
    obtain ⟨k, rfl⟩ : ∃ m, k = m + 1 := ⟨k - 1, by omega⟩
    rw [laws_sameInts.l0, if_pos (by omega), if_pos (by omega), if_pos (by omega), if_pos rfl, nat_next (by omega)]
    exact ih k (i + 1) (by omega) (by omega) (by omega)
theorem sameInts_same (l : List Int) (hl : l.length ≤ 1000) (k : Nat) (hk : l.length < k) : laws_sameInts.f k l l = some true := by
  unfold laws_sameInts.f
  rw [if_pos rfl]
  exact sameInts_l l hl l.length k 0 hk (by omega) (Nat.zero_le _)
theorem draw_l {b : List Int} (hb : Bytes b) (d : Nat) : ∀ (k : Nat) (x4 : List (List S33)) (n p : Int), d + 10000 < k → n = d → d ≤ 10 → x4.length + d ≤ 10 → (∀ c ∈ x4, c.length ≤ 200) → At b p →
    Tot (spec_DrawBlocks.l0 k x4 n b p) (fun l => l.length ≤ 501 ∧ ∀ c ∈ l, c.length ≤ 200) := by
  induction d with
  | zero =>
    intro k x4 n p hk hn hd hl hx hp
    obtain ⟨k, rfl⟩ : ∃ m, k = m + 1 := ⟨k - 1, by omega⟩
    rw [spec_DrawBlocks.l0, if_neg (by omega)]
    refine (below_ok 24 hb hp).bind fun v hv => ?_
    by_cases c0 : v.1 = 0
    · rw [if_pos c0]
      refine (oddClass_ok (by omega) hb hv.2.2).bind fun u hu => ?_
      refine Tot.yes (by omega) (Tot.pure ⟨by rw [List.length_append, List.length_singleton]; omega, fun c hc => ?_⟩)
      rcases List.mem_append.1 hc with hc | hc
      · exact hx c hc
      · rw [List.mem_singleton] at hc
        subst hc
        exact hu.1
    · rw [if_neg c0]
      by_cases c1 : v.1 = 1
      · rw [if_pos c1]
        refine (below_ok 2 hb hv.2.2).bind fun u hu => ?_
        have hw : wrap64 (500 + u.1) = 500 + u.1 := w64 (by omega) (by omega)
        rw [hw]
        refine Tot.yes (by omega) (Tot.yes (by omega) (Tot.pure ⟨by rw [List.length_replicate]; omega, fun c hc => ?_⟩))
        rw [List.eq_of_mem_replicate hc]
        exact Nat.zero_le _
      · rw [if_neg c1]
        exact Tot.pure ⟨by omega, hx⟩
  | succ d ih =>
    intro k x4 n p hk hn hd hl hx hp
    obtain ⟨k, rfl⟩ : ∃ m, k = m + 1 := ⟨k - 1, by omega⟩
    rw [spec_DrawBlocks.l0, if_pos (by omega)]
    refine (class_ok (by omega) hb hp).bind fun v hv => ?_
    have hlen : v.1.length ≤ 128 := by have := classOk_len hv.1; simpa using this
    refine Tot.yes (by omega) ?_
    rw [w64 (x := n - 1) (by omega) (by omega)]
    refine ih k _ (n - 1) v.2 (by omega) (by omega) (by omega) (by rw [List.length_append, List.length_singleton]; omega) (fun c hc => ?_) hv.2
    rcases List.mem_append.1 hc with hc | hc
    · exact hx c hc
    · rw [List.mem_singleton] at hc
      subst hc
      omega
theorem draw_ok {b : List Int} (hb : Bytes b) (k : Nat) (hk : 20000 ≤ k) : Tot (spec_DrawBlocks.f k b) (fun l => l.length ≤ 501 ∧ ∀ c ∈ l, c.length ≤ 200) := by
  unfold spec_DrawBlocks.f spec_l1Open.f
  rw [Option.bind_some]
  refine (below_ok _ hb ⟨by omega, by omega⟩).bind fun v hv => ?_
  have hm : mn 6 (wrap64 (1 + wrap64 ((b.length : Int) / 3))) ≤ 6 := by unfold mn; split <;> omega
  obtain ⟨d, hd⟩ : ∃ d : Nat, v.1 = d := ⟨v.1.toNat, by omega⟩
  exact draw_l hb d k [] v.1 v.2 (by omega) hd (by omega) (by simp; omega) (by simp) hv.2.2
theorem numG_at {α : Type} [DecidableEq α] (f : Nat → α) (n i : Nat) (h : i < n) : 0 ≤ rd (numG f n).2 (i : Int) ∧ rd (numG f n).2 (i : Int) ≤ ((numG f i).1.length : Int) ∧ mx (((numG f i).1.length : Int) - 1) (rd (numG f n).2 (i : Int)) = ((numG f (i + 1)).1.length : Int) - 1 := by
  obtain ⟨d, rfl⟩ : ∃ d, n = i + 1 + d := ⟨n - (i + 1), by omega⟩
  obtain ⟨ht, _⟩ := numG_take f (i + 1) d
  have e : rd (numG f (i + 1 + d)).2 (i : Int) = rd (numG f (i + 1)).2 (i : Int) := by
    rw [← ht]
    unfold rd
    rw [Int.toNat_natCast, List.getD_eq_getElem?_getD, List.getD_eq_getElem?_getD, List.getElem?_take_of_lt (by omega)]
  rw [e]
  obtain ⟨h1, _⟩ := numG_inv f i
  have rdn : ∀ z : Int, rd ((numG f i).2 ++ [z]) (i : Int) = z := by
    intro z
    unfold rd
    rw [Int.toNat_natCast, List.getD_eq_getElem?_getD, List.getElem?_append_right (by omega), h1, Nat.sub_self]
    rfl
  rw [numG]
  cases hv : (numG f i).1.findIdx? (fun s => decide (s = f i)) with
  | some j =>
    obtain ⟨hj, _, _⟩ := List.findIdx?_eq_some_iff_getElem.1 hv
    simp only [rdn]
    refine ⟨by omega, by omega, ?_⟩
    unfold mx
    split <;> omega
  | none =>
    simp only [rdn]
    refine ⟨by omega, by omega, ?_⟩
    unfold mx
    rw [List.length_append, List.length_singleton]
    split <;> omega
theorem blk_l2 (l : List (List S33)) (hs : ∀ c ∈ l, c.length ≤ 200) (hok : ∀ c ∈ l, classOk (c.map toP)) (n most : Int) (i q : Nat) (hi : i < 256) (hq : q < 256) (d : Nat) : ∀ (k m : Nat) (acc : Bool), min l.length 6 - m = d → m ≤ min l.length 6 → (acc = true ↔ ∀ c ∈ l.take m, inB c i = inB c q) → 2 * d + 2 + 2000000 ≤ k →
    ∃ k', k ≤ k' + 2 * d + 2 ∧ laws_FnBlocks.l2 k l (numG (sgU l) 256).2 n most (i : Int) (q : Int) acc (m : Int) = laws_FnBlocks.l1 k' l (numG (sgU l) 256).2 n most (i : Int) ((q + 1 : Nat) : Int) := by
  have hol := (numG_inv (sgU l) 256).1
  induction d with
  | zero =>
    intro k m acc hd hm ha hk
    obtain ⟨k, rfl⟩ : ∃ m, k = m + 1 + 1 := ⟨k - 2, by omega⟩
    refine ⟨k, by omega, ?_⟩
    have hgo : laws_FnBlocks.j5 (k + 1) l (numG (sgU l) 256).2 n most (i : Int) (q : Int) acc (m : Int) false = laws_FnBlocks.l1 k l (numG (sgU l) 256).2 n most (i : Int) ((q + 1 : Nat) : Int) := by
      rw [laws_FnBlocks.j5, if_neg (by simp)]
      by_cases h6 : (l.length : Int) ≤ 6
      · have em : m = l.length := by omega
        have hacc : acc = (rd (numG (sgU l) 256).2 (i : Int) == rd (numG (sgU l) 256).2 (q : Int)) := by
          have := (numG_same (sgU l) 256 i q hi hq).trans (sgU_ker l i q)
          rw [em, List.take_length] at ha
          rw [Bool.eq_iff_iff, beq_iff_eq]
          exact ha.trans this.symm
        rw [if_pos h6, if_pos (by omega), if_pos (by omega), if_pos (by omega), if_pos (by omega), ← hacc, nat_next (by omega), if_neg (by simp)]
      · rw [if_neg h6, nat_next (by omega)]
    rw [laws_FnBlocks.l2]
    by_cases c : (m : Int) < (l.length : Int)
    · rw [if_pos c, decide_eq_false (by omega)]; exact hgo
    · rw [if_neg c]; exact hgo
  | succ d ih =>
    intro k m acc hd hm ha hk
    obtain ⟨k, rfl⟩ : ∃ m, k = m + 1 + 1 := ⟨k - 2, by omega⟩
    have hml : m < l.length := by omega
    have hc : rd_L4 l (m : Int) = l[m] := by
      unfold rd_L4
      rw [Int.toNat_natCast, rd_mem _ _ hml]
    have hcl := hs l[m] (List.getElem_mem hml)
    have hco := hok l[m] (List.getElem_mem hml)
    have hin : ∀ b : Nat, b < 256 → impl_ClassHas.f k l[m] ((b : Int) % 256) = some (inB l[m] b) := by
      intro b hb
      rw [show (b : Int) % 256 = (b : Int) by omega, iClassHas _ (by omega) (b : Int) (by omega) (by omega) k (by omega), Int.toNat_natCast]
      refine congrArg some ?_
      unfold inB
      rw [spP_toP]
      exact decide_eq_decide.2 ⟨fun h => h.2, fun h => ⟨hco, h⟩⟩
    rw [laws_FnBlocks.l2, if_pos (by omega), decide_eq_true (show (m : Int) < 6 by omega), laws_FnBlocks.j5, if_pos rfl]
    have htk : (∀ c ∈ l.take (m + 1), inB c i = inB c q) ↔ (∀ c ∈ l.take m, inB c i = inB c q) ∧ inB l[m] i = inB l[m] q := by
      rw [List.take_succ_eq_append_getElem hml]
      constructor
      · exact fun h => ⟨fun c hc => h c (List.mem_append.2 (.inl hc)), h _ (List.mem_append.2 (.inr (List.mem_singleton.2 rfl)))⟩
      · rintro ⟨h1, h2⟩ c hc
        rcases List.mem_append.1 hc with hc | hc
        · exact h1 c hc
        · rw [List.mem_singleton] at hc; subst hc; exact h2
    cases acc with
    | true =>
      rw [if_pos rfl, if_pos (by omega), if_pos (by omega), hc, hin i hi, hin q hq, Option.bind_some, Option.bind_some, nat_next (by omega)]
      obtain ⟨k', hk', e⟩ := ih k (m + 1) (inB l[m] i == inB l[m] q) (by omega) (by omega) (by
        rw [htk, beq_iff_eq]
        exact ⟨fun h => ⟨ha.1 rfl, h⟩, fun h => h.2⟩) (by omega)
      exact ⟨k', by omega, e⟩
    | false =>
      rw [if_neg (by simp), nat_next (by omega)]
      obtain ⟨k', hk', e⟩ := ih k (m + 1) false (by omega) (by omega) (by
        rw [htk]
        exact ⟨fun h => absurd h (by simp), fun h => ha.2 h.1⟩) (by omega)
      exact ⟨k', by omega, e⟩
theorem blk_l1 (l : List (List S33)) (hs : ∀ c ∈ l, c.length ≤ 200) (hok : ∀ c ∈ l, classOk (c.map toP)) (n most : Int) (i : Nat) (hi : i < 256) (d : Nat) : ∀ (k q : Nat), i - q = d → q ≤ i → 20 * d + 2000100 ≤ k →
    ∃ k', k ≤ k' + 20 * d + 1 ∧ laws_FnBlocks.l1 k l (numG (sgU l) 256).2 n most (i : Int) (q : Int) = laws_FnBlocks.l0 k' l (numG (sgU l) 256).2 n most ((i + 1 : Nat) : Int) := by
  induction d with
  | zero =>
    intro k q hd hq hk
    obtain ⟨k, rfl⟩ : ∃ m, k = m + 1 := ⟨k - 1, by omega⟩
    exact ⟨k, by omega, by rw [laws_FnBlocks.l1, if_neg (by omega), nat_next (by omega)]⟩
  | succ d ih =>
    intro k q hd hq hk
    obtain ⟨k, rfl⟩ : ∃ m, k = m + 1 := ⟨k - 1, by omega⟩
    rw [laws_FnBlocks.l1, if_pos (by omega)]
    obtain ⟨k1, hk1, e1⟩ := blk_l2 l hs hok n most i q hi (by omega) (min l.length 6) k 0 true (by omega) (Nat.zero_le _) (by simp) (by omega)
    simp only [Int.natCast_zero] at e1
    rw [e1]
    obtain ⟨k2, hk2, e2⟩ := ih k1 (q + 1) (by omega) (by omega) (by omega)
    exact ⟨k2, by omega, e2⟩
theorem blk_l0 (l : List (List S33)) (hs : ∀ c ∈ l, c.length ≤ 200) (hok : ∀ c ∈ l, classOk (c.map toP)) (d : Nat) : ∀ (k i : Nat), 256 - i = d → i ≤ 256 → 6000 * d + 3000000 ≤ k →
    laws_FnBlocks.l0 k l (numG (sgU l) 256).2 ((numG (sgU l) 256).1.length : Int) (((numG (sgU l) i).1.length : Int) - 1) (i : Int) = some true := by
  have hol := (numG_inv (sgU l) 256).1
  induction d with
  | zero =>
    intro k i hd hi hk
    obtain ⟨k, rfl⟩ : ∃ m, k = m + 1 := ⟨k - 1, by omega⟩
    have e : i = 256 := by omega
    subst e
    have h2 := (numG_inv (sgU l) 256).2.1
    rw [laws_FnBlocks.l0, if_neg (by omega), w64 (by omega) (by omega)]
    simp
  | succ d ih =>
    intro k i hd hi hk
    obtain ⟨k, rfl⟩ : ∃ m, k = m + 1 + 1 := ⟨k - 2, by omega⟩
    have hi2 := (numG_inv (sgU l) i).2.1
    obtain ⟨a0, a1, a2⟩ := numG_at (sgU l) 256 i (by omega)
    rw [laws_FnBlocks.l0, if_pos (by omega), if_pos (by omega), if_pos (by omega), w64 (x := ((numG (sgU l) i).1.length : Int) - 1 + 1) (by omega) (by omega), if_neg (by omega), decide_eq_false (by omega), laws_FnBlocks.j2, if_neg (by simp), if_pos (by omega), if_pos (by omega), a2]
    obtain ⟨k1, hk1, e1⟩ := blk_l1 l hs hok ((numG (sgU l) 256).1.length : Int) (((numG (sgU l) (i + 1)).1.length : Int) - 1) i (by omega) i k 0 (by omega) (Nat.zero_le _) (by omega)
    simp only [Int.natCast_zero] at e1
    rw [e1]
    exact ih k1 (i + 1) (by omega) (by omega) (by omega)
open Classical in
theorem FnBlocks : laws_FnBlocks.Pure := by
  intro code _ _ g2
  suffices ∀ k, 10000000 ≤ k → laws_FnBlocks.f k code = some true from ⟨10000000, this _ (Nat.le_refl _)⟩
  intro k hk
  unfold laws_FnBlocks.f laws_big.f
  rw [Option.bind_some]
  by_cases hbig : (code.length : Int) > 1048576
  · rw [if_pos (decide_eq_true hbig)]
  rw [if_neg (by simpa using hbig)]
  have hb := Bytes.of hbig g2
  obtain ⟨l, e, hl, hs⟩ := draw_ok hb k (by omega)
  have hs2 : ∀ c ∈ l, c.length ≤ 1048576 := fun c hc => by have := hs c hc; omega
  have hol : (blocksM l).1.length ≤ 256 := by
    unfold blocksM
    split
    · unfold resB
      rw [(numG_inv _ 256).1]
      omega
    · simp
  rw [e, Option.bind_some, sBlocks l hs2 k (by omega), Option.bind_some, iBlocks l hs2 k (by omega), Option.bind_some, if_pos rfl, sameInts_same _ (by omega) k (by omega), Option.bind_some, Bool.not_true]
  obtain ⟨k, rfl⟩ : ∃ m, k = m + 1 := ⟨k - 1, by omega⟩
  rw [laws_FnBlocks.j0, if_neg (by simp)]
  unfold blocksM
  by_cases q : (∀ c ∈ l, classOk (c.map toP)) ∧ l.length ≤ 500
  · rw [if_pos q]
    unfold resB
    dsimp only
    by_cases z : ((numG (sgU l) 256).1.length : Int) = 0
    · rw [if_pos z]
    · rw [if_neg z]
      have := blk_l0 l hs q.1 256 k 0 rfl (Nat.zero_le _) (by omega)
      rw [show (((numG (sgU l) 0).1.length : Nat) : Int) - 1 = -1 from rfl, Int.natCast_zero] at this
      exact this
  · rw [if_neg q, if_pos rfl]
end Go.Proofs.Ytaemhmgcjpcicaa.Pure
