/- The program's Blocks and the reference's come to one answer: whatever the classes. -/
import Derived.Test.YtaemhmgcjpcicaaPFnExactBlocksx6
import Derived.Test.YtaemhmgcjpcicaaKit
import Derived.Test.YtaemhmgcjpcicaaKitArr
namespace Go.Proofs.Ytaemhmgcjpcicaa.Pure
open Go.RowKit Go.Proofs.Ytaemhmgcjpcicaa.PFnExactBlocks Go.Proofs.YtaemhmgcjpcicaaW.PrintWords Go.Proofs.YtaemhmgcjpcicaaW.PrintLast Go.Proofs.YtaemhmgcjpcicaaW.PrintMore Go.Proofs.Ytaemhmgcjpcicaa.Kit
set_option linter.unusedVariables false
def toP (x : S33) : Int × Int := (x.f0, x.f1)
theorem toP_lo (l : List S33) (i : Int) : (rd_T33 l i).f0 = lo (l.map toP) i.toNat := by
  unfold rd_T33 lo
  rw [List.getD_eq_getElem?_getD, List.getD_eq_getElem?_getD, List.getElem?_map]
  cases l[i.toNat]? <;> rfl
theorem toP_hi (l : List S33) (i : Int) : (rd_T33 l i).f1 = hi (l.map toP) i.toNat := by
  unfold rd_T33 hi
  rw [List.getD_eq_getElem?_getD, List.getD_eq_getElem?_getD, List.getElem?_map]
  cases l[i.toNat]? <;> rfl
theorem sIn (a b c : Int) : spec_l1In.f a b c = some (decide (b ≤ a ∧ a ≤ c)) := by
  unfold spec_l1In.f
  by_cases h : a ≥ b
  · rw [if_pos h]; congr 1; simp; omega
  · rw [if_neg h]; congr 1; simp; omega
open Classical in
theorem iClassOk_l (l : List S33) (hl : l.length ≤ 1048576) (d : Nat) : ∀ (k : Nat) (i : Nat), d < k → l.length - i = d → i ≤ l.length → (∀ j, j < i → okAt (l.map toP) j) →
    impl_ClassOk.l0 k l l (l.length : Int) (i : Int) = some (decide (okFrom (l.map toP) i)) := by
  induction d with
  | zero =>
    intro k i hk hd hle _
    obtain ⟨k, rfl⟩ : ∃ m, k = m + 1 := ⟨k - 1, by omega⟩
    simp only [impl_ClassOk.l0]
    rw [if_neg (by omega), decide_eq_true (okFrom_end (by simp; omega))]
  | succ d ih =>
    intro k i hk hd hle hp
    obtain ⟨k, rfl⟩ : ∃ m, k = m + 1 := ⟨k - 1, by omega⟩
    have hlt : i < (l.map toP).length := by simp; omega
    have hst := okFrom_step (l := l.map toP) hlt
    have hne : ¬ okAt (l.map toP) i → decide (okFrom (l.map toP) i) = false := fun h => decide_eq_false (fun g => h (hst.1 g).1)
    simp only [impl_ClassOk.l0, toP_lo, toP_hi]
    rw [if_pos (by omega), if_pos (by omega), if_pos (by omega)]
    have ei : ((i : Nat) : Int).toNat = i := by omega
    rw [ei]
    by_cases h1 : lo (l.map toP) i < 0
    · rw [if_pos h1, hne (fun g => by have := g.1; omega)]
    · rw [if_neg h1]
      by_cases h2 : lo (l.map toP) i > hi (l.map toP) i
      · rw [if_pos h2, hne (fun g => by have := g.2.1; omega)]
      · rw [if_neg h2]
        by_cases h3 : hi (l.map toP) i > 255
        · rw [if_pos h3, hne (fun g => by have := g.2.2.1; omega)]
        · rw [if_neg h3]
          have en : wrap64 ((i : Int) + 1) = ((i + 1 : Nat) : Int) := by rw [w64 (by omega) (by omega)]; omega
          have go : okAt (l.map toP) i → impl_ClassOk.l0 k l l (l.length : Int) (wrap64 ((i : Int) + 1)) = some (decide (okFrom (l.map toP) i)) := by
            intro g
            rw [en, ih k (i + 1) (by omega) (by omega) (by omega) (fun j hj => by
              rcases Nat.lt_or_eq_of_le (Nat.le_of_lt_succ hj) with h | h
              · exact hp j h
              · exact h ▸ g)]
            congr 1
            exact decide_eq_decide.2 ⟨fun h => hst.2 ⟨g, h⟩, fun h => (hst.1 h).2⟩
          by_cases h4 : (i : Int) > 0
          · have hq := hp (i - 1) (by omega)
            have e1 : (wrap64 ((i : Int) - 1)) = ((i - 1 : Nat) : Int) := by rw [w64 (by omega) (by omega)]; omega
            have e2 : (((i - 1 : Nat) : Int)).toNat = i - 1 := by omega
            have q1 := hq.1
            have q2 := hq.2.1
            have q3 := hq.2.2.1
            rw [if_pos h4, e1, if_pos (by omega), if_pos (by omega), e2, w64 (x := hi (l.map toP) (i - 1) + 2) (by omega) (by omega)]
            by_cases h5 : lo (l.map toP) i < hi (l.map toP) (i - 1) + 2
            · rw [if_pos h5, hne (fun g => by have := g.2.2.2 (by omega); omega)]
            · rw [if_neg h5]
              exact go ⟨by omega, by omega, by omega, fun _ => by omega⟩
          · rw [if_neg h4]
            exact go ⟨by omega, by omega, by omega, fun h => by omega⟩
open Classical in
theorem iClassOk (l : List S33) (hl : l.length ≤ 1048576) (k : Nat) (hk : l.length < k) : impl_ClassOk.f k l = some (decide (classOk (l.map toP))) := by
  unfold impl_ClassOk.f
  have e : impl_ClassOk.l0 k l l (l.length : Int) 0 = some (decide (okFrom (l.map toP) 0)) := iClassOk_l l hl l.length k 0 hk (by omega) (by omega) (fun j hj => by omega)
  rw [e]
  congr 1
  exact decide_eq_decide.2 (okFrom_zero _)
open Classical in
theorem sClassOk_l (l : List S33) (hl : l.length ≤ 1048576) (d : Nat) : ∀ (k : Nat) (i : Nat), d < k → l.length - i = d → i ≤ l.length → (∀ j, j < i → okAt (l.map toP) j) →
    spec_ClassOk.l0 k l (i : Int) = some (decide (okFrom (l.map toP) i)) := by
  induction d with
  | zero =>
    intro k i hk hd hle _
    obtain ⟨k, rfl⟩ : ∃ m, k = m + 1 := ⟨k - 1, by omega⟩
    simp only [spec_ClassOk.l0]
    rw [if_neg (by omega), decide_eq_true (okFrom_end (by simp; omega))]
  | succ d ih =>
    intro k i hk hd hle hp
    obtain ⟨k, rfl⟩ : ∃ m, k = m + 1 := ⟨k - 1, by omega⟩
    have hlt : i < (l.map toP).length := by simp; omega
    have hst := okFrom_step (l := l.map toP) hlt
    have hne : ¬ okAt (l.map toP) i → decide (okFrom (l.map toP) i) = false := fun h => decide_eq_false (fun g => h (hst.1 g).1)
    simp only [spec_ClassOk.l0, toP_lo, toP_hi, sIn, Option.bind_some, decide_eq_true_eq]
    rw [if_pos (by omega), if_pos (by omega)]
    have ei : ((i : Nat) : Int).toNat = i := by omega
    rw [ei]
    by_cases h1 : 0 ≤ lo (l.map toP) i ∧ lo (l.map toP) i ≤ 255
    · rw [if_pos h1]
      by_cases h2 : lo (l.map toP) i ≤ hi (l.map toP) i ∧ hi (l.map toP) i ≤ 255
      · rw [if_pos h2]
        have en : wrap64 ((i : Int) + 1) = ((i + 1 : Nat) : Int) := by rw [w64 (by omega) (by omega)]; omega
        have go : okAt (l.map toP) i → spec_ClassOk.l0 k l (wrap64 ((i : Int) + 1)) = some (decide (okFrom (l.map toP) i)) := by
          intro g
          rw [en, ih k (i + 1) (by omega) (by omega) (by omega) (fun j hj => by
            rcases Nat.lt_or_eq_of_le (Nat.le_of_lt_succ hj) with h | h
            · exact hp j h
            · exact h ▸ g)]
          congr 1
          exact decide_eq_decide.2 ⟨fun h => hst.2 ⟨g, h⟩, fun h => (hst.1 h).2⟩
        by_cases h4 : (i : Int) > 0
        · have hq := hp (i - 1) (by omega)
          have e1 : (wrap64 ((i : Int) - 1)) = ((i - 1 : Nat) : Int) := by rw [w64 (by omega) (by omega)]; omega
          have e2 : (((i - 1 : Nat) : Int)).toNat = i - 1 := by omega
          have q1 := hq.1
          have q2 := hq.2.1
          have q3 := hq.2.2.1
          rw [if_pos h4, e1, if_pos (by omega), if_pos (by omega), e2, w64 (x := hi (l.map toP) (i - 1) + 2) (by omega) (by omega)]
          by_cases h5 : lo (l.map toP) i < hi (l.map toP) (i - 1) + 2
          · rw [if_pos h5, hne (fun g => by have := g.2.2.2 (by omega); omega)]
          · rw [if_neg h5]
            exact go ⟨by omega, by omega, by omega, fun _ => by omega⟩
        · rw [if_neg h4]
          exact go ⟨by omega, by omega, by omega, fun h => by omega⟩
      · rw [if_neg h2, hne (fun g => h2 ⟨g.2.1, g.2.2.1⟩)]
    · rw [if_neg h1, hne (fun g => h1 ⟨g.1, by have := g.2.1; have := g.2.2.1; omega⟩)]
open Classical in
theorem sClassOk (l : List S33) (hl : l.length ≤ 1048576) (k : Nat) (hk : l.length < k) : spec_ClassOk.f k l = some (decide (classOk (l.map toP))) := by
  unfold spec_ClassOk.f
  by_cases h : (l.length : Int) > 128
  · rw [if_pos h, decide_eq_false]
    intro g
    have := classOk_len g
    simp at this
    omega
  · rw [if_neg h]
    have e : spec_ClassOk.l0 k l 0 = some (decide (okFrom (l.map toP) 0)) := sClassOk_l l hl l.length k 0 hk (by omega) (by omega) (fun j hj => by omega)
    rw [e]
    congr 1
    exact decide_eq_decide.2 (okFrom_zero _)
theorem spP_toP : spP = toP := rfl
/-- the flags of a class's bytes -/
def markOk (l : List S33) (m : List Bool) : Prop := m.length = 256 ∧ ∀ c, c < 256 → (m.getD c false = true ↔ InTo (l.map toP) l.length c)
theorem sMarks_l1 (l : List S33) (hok : classOk (l.map toP)) (i : Nat) (hi' : i < l.length) (K : Nat)
    (G : ∀ k m, K < k → m.length = 256 → (∀ c, c < 256 → (m.getD c false = true ↔ InTo (l.map toP) (i + 1) c)) → ∃ r, spec_l1Marks.l0 k l m ((i + 1 : Nat) : Int) = some r ∧ markOk l r) (e : Nat) :
    ∀ (k : Nat) (m : List Bool) (b : Int), K + e + 1 < k → (hi (l.map toP) i - b + 1).toNat = e → lo (l.map toP) i ≤ b → b ≤ hi (l.map toP) i + 1 → m.length = 256 → (∀ c, c < 256 → (m.getD c false = true ↔ InTo (l.map toP) i c ∨ (lo (l.map toP) i ≤ (c : Int) ∧ (c : Int) < b))) →
      ∃ r, spec_l1Marks.l1 k l m (i : Int) b = some r ∧ markOk l r := by
  have ho := hok i (by simpa using hi')
  have o0 := ho.1
  have o1 := ho.2.2.1
  have hl : l.length ≤ 128 := by have := classOk_len hok; simpa using this
  induction e with
  | zero =>
    intro k m b hk he hb0 hb1 hm hM
    obtain ⟨k, rfl⟩ : ∃ m, k = m + 1 := ⟨k - 1, by omega⟩
    simp only [spec_l1Marks.l1, toP_hi, Int.toNat_natCast]
    rw [if_pos (by omega), if_pos (by omega), if_neg (by omega), nat_next (by omega)]
    refine G k m (by omega) hm (fun c hc => ?_)
    rw [hM c hc, InTo_step]
    constructor
    · rintro (h | h)
      · exact .inl h
      · exact .inr (by omega)
    · rintro (h | h)
      · exact .inl h
      · exact .inr (by omega)
  | succ e ih =>
    intro k m b hk he hb0 hb1 hm hM
    obtain ⟨k, rfl⟩ : ∃ m, k = m + 1 := ⟨k - 1, by omega⟩
    simp only [spec_l1Marks.l1, toP_hi, Int.toNat_natCast]
    rw [if_pos (by omega), if_pos (by omega), if_pos (by omega), if_pos (by omega), if_pos (by omega), w64 (x := b + 1) (by omega) (by omega)]
    refine ih k _ (b + 1) (by omega) (by omega) (by omega) (by omega) (by simpa using hm) (fun c hc => ?_)
    rw [getD_set _ _ _ (by omega), hM c hc]
    constructor
    · rintro ((h | h) | h)
      · exact .inl h
      · exact .inr (by omega)
      · exact .inr (by omega)
    · rintro (h | h)
      · exact .inl (.inl h)
      · by_cases q : c = b.toNat
        · exact .inr q
        · exact .inl (.inr (by omega))
theorem sMarks_l0 (l : List S33) (hok : classOk (l.map toP)) (d : Nat) : ∀ (k i : Nat) (m : List Bool), d * 300 < k → l.length - i = d → i ≤ l.length → m.length = 256 → (∀ c, c < 256 → (m.getD c false = true ↔ InTo (l.map toP) i c)) →
    ∃ r, spec_l1Marks.l0 k l m (i : Int) = some r ∧ markOk l r := by
  have hl : l.length ≤ 128 := by have := classOk_len hok; simpa using this
  induction d with
  | zero =>
    intro k i m hk hd hi' hm hM
    obtain ⟨k, rfl⟩ : ∃ m, k = m + 1 := ⟨k - 1, by omega⟩
    obtain rfl : i = l.length := by omega
    simp only [spec_l1Marks.l0]
    rw [if_neg (by omega)]
    exact ⟨m, rfl, hm, hM⟩
  | succ d ih =>
    intro k i m hk hd hi' hm hM
    obtain ⟨k, rfl⟩ : ∃ m, k = m + 1 := ⟨k - 1, by omega⟩
    have ho := hok i (by simp; omega)
    have o0 := ho.1
    have o1 := ho.2.2.1
    have o2 := ho.2.1
    simp only [spec_l1Marks.l0, toP_lo, Int.toNat_natCast]
    rw [if_pos (by omega), if_pos (by omega)]
    refine sMarks_l1 l hok i (by omega) (d * 300) (fun k m hk hm hM => ih k (i + 1) m hk (by omega) (by omega) hm hM) _ k m _ ?_ rfl (Int.le_refl _) (by omega) hm (fun c hc => ?_)
    · omega
    · rw [hM c hc]
      constructor
      · exact .inl
      · rintro (h | h)
        · exact h
        · omega
theorem sMarks (l : List S33) (hok : classOk (l.map toP)) (k : Nat) (hk : 40000 ≤ k) : ∃ r, spec_l1Marks.f k l = some r ∧ markOk l r := by
  have hl : l.length ≤ 128 := by have := classOk_len hok; simpa using this
  unfold spec_l1Marks.f
  rw [if_pos (by omega)]
  refine sMarks_l0 l hok l.length k 0 _ (by omega) (by omega) (by omega) List.length_replicate (fun c hc => ?_)
  constructor
  · intro h
    rw [List.getD_eq_getElem?_getD, List.getElem?_replicate] at h
    split at h <;> simp at h
  · rintro ⟨i, h, _⟩
    omega
/-- numbers in the order in which the values first come: the values, and their numbers -/
def numG {α : Type} [DecidableEq α] (f : Nat → α) : Nat → List α × List Int
  | 0 => ([], [])
  | n + 1 => match (numG f n).1.findIdx? (fun s => decide (s = f n)) with
    | some i => ((numG f n).1, (numG f n).2 ++ [(i : Int)])
    | none => ((numG f n).1 ++ [f n], (numG f n).2 ++ [((numG f n).1.length : Int)])
theorem numG_ker {α β : Type} [DecidableEq α] [DecidableEq β] (f : Nat → α) (g : Nat → β) (N : Nat) (h : ∀ a b, a < N → b < N → (f a = f b ↔ g a = g b)) : ∀ n, n ≤ N → ∃ idx : List Nat, (∀ i ∈ idx, i < n) ∧ (numG f n).1 = idx.map f ∧ (numG g n).1 = idx.map g ∧ (numG f n).2 = (numG g n).2
  | 0, _ => ⟨[], by simp, rfl, rfl, rfl⟩
  | n + 1, hn => by
    obtain ⟨idx, h1, h2, h3, h4⟩ := numG_ker f g N h n (by omega)
    have e : (idx.map f).findIdx? (fun s => decide (s = f n)) = (idx.map g).findIdx? (fun s => decide (s = g n)) := by
      rw [List.findIdx?_map, List.findIdx?_map]
      clear h2 h3 h4
      induction idx with
      | nil => rfl
      | cons a t ih =>
        rw [List.findIdx?_cons, List.findIdx?_cons]
        have ha := h a n (by have := h1 a (List.mem_cons_self ..); omega) (by omega)
        simp only [Function.comp]
        rw [ih (fun i hi => h1 i (List.mem_cons_of_mem _ hi))]
        by_cases q : f a = f n
        · rw [if_pos (decide_eq_true q), if_pos (decide_eq_true (ha.1 q))]
        · rw [if_neg (by simpa using q), if_neg (by simpa using fun q' => q (ha.2 q'))]
    rw [numG, numG, h2, h3, e]
    cases hv : (idx.map g).findIdx? (fun s => decide (s = g n)) with
    | some i => exact ⟨idx, fun i hi => by have := h1 i hi; omega, rfl, rfl, by simp only [h4]⟩
    | none => exact ⟨idx ++ [n], fun i hi => by
        rcases List.mem_append.1 hi with hi | hi
        · have := h1 i hi; omega
        · rw [List.mem_singleton] at hi; omega, by simp, by simp, by simp only [h4, List.length_map]⟩
theorem numG_eq {α β : Type} [DecidableEq α] [DecidableEq β] (f : Nat → α) (g : Nat → β) (N : Nat) (h : ∀ a b, a < N → b < N → (f a = f b ↔ g a = g b)) : (numG f N).2 = (numG g N).2 ∧ (numG f N).1.length = (numG g N).1.length := by
  obtain ⟨idx, _, h2, h3, h4⟩ := numG_ker f g N h N (Nat.le_refl _)
  exact ⟨h4, by rw [h2, h3, List.length_map, List.length_map]⟩
theorem numG_inv {α : Type} [DecidableEq α] (f : Nat → α) : ∀ n, (numG f n).2.length = n ∧ (numG f n).1.length ≤ n ∧ (numG f n).1.Nodup ∧ ∀ a, a < n → ∃ i, ∃ (h : i < (numG f n).1.length), rd (numG f n).2 (a : Int) = (i : Int) ∧ (numG f n).1[i] = f a
  | 0 => ⟨rfl, Nat.le_refl _, List.nodup_nil, fun a h => absurd h (Nat.not_lt_zero _)⟩
  | n + 1 => by
    obtain ⟨h1, h2, h3, h4⟩ := numG_inv f n
    have rdl : ∀ (z : Int) (a : Nat), a < n → rd ((numG f n).2 ++ [z]) (a : Int) = rd (numG f n).2 (a : Int) := by
      intro z a ha
      unfold rd
      rw [Int.toNat_natCast, List.getD_eq_getElem?_getD, List.getD_eq_getElem?_getD, List.getElem?_append_left (by omega)]
    have rdn : ∀ z : Int, rd ((numG f n).2 ++ [z]) (n : Int) = z := by
      intro z
      unfold rd
      rw [Int.toNat_natCast, List.getD_eq_getElem?_getD, List.getElem?_append_right (by omega), h1, Nat.sub_self]
      rfl
    rw [numG]
    cases hv : (numG f n).1.findIdx? (fun s => decide (s = f n)) with
    | some i =>
      obtain ⟨hi, hp, _⟩ := List.findIdx?_eq_some_iff_getElem.1 hv
      refine ⟨by simp [h1], by simp only []; omega, h3, fun a ha => ?_⟩
      by_cases e : a = n
      · subst e
        exact ⟨i, hi, rdn _, by simpa using hp⟩
      · obtain ⟨j, hj, e1, e2⟩ := h4 a (by omega)
        exact ⟨j, hj, (rdl _ a (by omega)).trans e1, e2⟩
    | none =>
      have hn := List.findIdx?_eq_none_iff.1 hv
      refine ⟨by simp [h1], by simp; omega, ?_, fun a ha => ?_⟩
      · rw [List.nodup_append]
        refine ⟨h3, by simp, fun x hx y hy => ?_⟩
        rw [List.mem_singleton] at hy
        subst hy
        have := hn x hx
        simpa using this
      · by_cases e : a = n
        · subst e
          exact ⟨(numG f a).1.length, by simp, rdn _, by simp⟩
        · obtain ⟨j, hj, e1, e2⟩ := h4 a (by omega)
          exact ⟨j, by simp; omega, (rdl _ a (by omega)).trans e1, by rw [← e2]; exact List.getElem_append_left hj⟩
theorem numG_rng {α : Type} [DecidableEq α] (f : Nat → α) (n a : Nat) (h : a < n) : 0 ≤ rd (numG f n).2 (a : Int) ∧ rd (numG f n).2 (a : Int) < (numG f n).1.length := by
  obtain ⟨_, _, _, h4⟩ := numG_inv f n
  obtain ⟨i, hi, e, _⟩ := h4 a h
  rw [e]
  omega
theorem numG_same {α : Type} [DecidableEq α] (f : Nat → α) (n a b : Nat) (ha : a < n) (hb : b < n) : rd (numG f n).2 (a : Int) = rd (numG f n).2 (b : Int) ↔ f a = f b := by
  obtain ⟨_, _, h3, h4⟩ := numG_inv f n
  obtain ⟨i, hi, e, q⟩ := h4 a ha
  obtain ⟨j, hj, e', q'⟩ := h4 b hb
  rw [e, e', ← q, ← q']
  constructor
  · intro h
    have : i = j := by omega
    subst this
    rfl
  · intro h
    have := (List.getElem_inj h3).1 h
    omega
theorem numG_take {α : Type} [DecidableEq α] (f : Nat → α) (n : Nat) : ∀ d, (numG f (n + d)).2.take n = (numG f n).2 ∧ (numG f n).1.length ≤ (numG f (n + d)).1.length
  | 0 => by
    obtain ⟨h1, _⟩ := numG_inv f n
    exact ⟨List.take_of_length_le (by show (numG f n).2.length ≤ n; omega), Nat.le_refl _⟩
  | d + 1 => by
    obtain ⟨ih, ih2⟩ := numG_take f n d
    obtain ⟨h1, _⟩ := numG_inv f (n + d)
    rw [← Nat.add_assoc, numG]
    cases hv : (numG f (n + d)).1.findIdx? (fun s => decide (s = f (n + d))) with
    | some i => exact ⟨by simp only []; rw [List.take_append_of_le_length (by omega), ih], ih2⟩
    | none => exact ⟨by simp only []; rw [List.take_append_of_le_length (by omega), ih], by simp; omega⟩
theorem sRen_l1 (x0 x5 : List Int) (x4 : List Int) (i : Nat) (hi : i < x0.length) (hl : x4.length < 100000) (h5 : x5.length < 100000) : ∀ (d k s : Nat), x4.length - s = d → s ≤ x4.length → 2 * d + 4 ≤ k →
    ∃ k', k ≤ k' + 2 * d + 4 ∧ spec_l1Renamed.l1 k x0 x4 x5 (i : Int) (-1) (s : Int) = match (x4.drop s).findIdx? (fun v => decide (v = rd x0 (i : Int))) with
      | some j => spec_l1Renamed.l0 k' x0 x4 (x5 ++ [((s + j : Nat) : Int)]) (wrap64 ((i : Int) + 1))
      | none => spec_l1Renamed.l0 k' x0 (x4 ++ [rd x0 (i : Int)]) (x5 ++ [(x4.length : Int)]) (wrap64 ((i : Int) + 1))
  | 0, k, s, hd, hs, hk => by
    obtain ⟨k, rfl⟩ : ∃ m, k = m + 1 + 1 := ⟨k - 2, by omega⟩
    refine ⟨k, by omega, ?_⟩
    rw [List.drop_eq_nil_of_le (by omega), List.findIdx?_nil]
    rw [spec_l1Renamed.l1, if_neg (by omega), spec_l1Renamed.j2, if_neg (by simp), if_pos (by omega), if_pos (by omega), if_pos (by omega), if_pos (by omega), if_pos (by omega)]
  | d + 1, k, s, hd, hs, hk => by
    obtain ⟨k, rfl⟩ : ∃ m, k = m + 1 + 1 := ⟨k - 2, by omega⟩
    have hsl : s < x4.length := by omega
    have hdrop := List.drop_eq_getElem_cons hsl
    have hrd : rd x4 (s : Int) = x4[s] := by
      unfold rd
      rw [Int.toNat_natCast, List.getD_eq_getElem?_getD, List.getElem?_eq_getElem hsl]
      rfl
    rw [hdrop, List.findIdx?_cons]
    rw [spec_l1Renamed.l1, if_pos (by omega), spec_l1Renamed.j2, if_pos (by simp), if_pos (by omega), if_pos (by omega), if_pos (by omega), if_pos (by omega), hrd]
    by_cases e : x4[s] = rd x0 (i : Int)
    · rw [if_pos e, decide_eq_true e, if_pos rfl]
      obtain ⟨k, rfl⟩ : ∃ m, k = m + 1 + 1 := ⟨k - 2, by omega⟩
      refine ⟨k, by omega, ?_⟩
      rw [spec_l1Renamed.l1]
      have hn : decide ((s : Int) < 0) = false := decide_eq_false (by omega)
      have hgo : spec_l1Renamed.j2 (k + 1) x0 x4 x5 (i : Int) (s : Int) (wrap64 ((s : Int) + 1)) false = spec_l1Renamed.l0 k x0 x4 (x5 ++ [((s + 0 : Nat) : Int)]) (wrap64 ((i : Int) + 1)) := by
        rw [spec_l1Renamed.j2, if_neg (by simp), if_neg (by omega), if_pos (by omega), Nat.add_zero]
      by_cases q : wrap64 ((s : Int) + 1) < (x4.length : Int)
      · rw [if_pos q, hn]; exact hgo
      · rw [if_neg q]; exact hgo
    · rw [if_neg e, decide_eq_false e, nat_next (by omega)]
      obtain ⟨k', hk', ih⟩ := sRen_l1 x0 x5 x4 i hi hl h5 d k (s + 1) (by omega) (by omega) (by omega)
      refine ⟨k', by omega, ?_⟩
      rw [ih]
      cases hv : (x4.drop (s + 1)).findIdx? (fun v => decide (v = rd x0 (i : Int))) with
      | none => rfl
      | some j =>
        simp only [Option.map_some, Bool.false_eq_true, if_false]
        rw [show s + 1 + j = s + (j + 1) by omega]
theorem sRen_l0 (x0 : List Int) (hl : x0.length ≤ 1000) (d : Nat) : ∀ (k i : Nat), x0.length - i = d → i ≤ x0.length → d * 3000 < k →
    spec_l1Renamed.l0 k x0 (numG (fun (b : Nat) => rd x0 (b : Int)) i).1 (numG (fun (b : Nat) => rd x0 (b : Int)) i).2 (i : Int) = some ((numG (fun (b : Nat) => rd x0 (b : Int)) x0.length).2, ((numG (fun (b : Nat) => rd x0 (b : Int)) x0.length).1.length : Int)) := by
  induction d with
  | zero =>
    intro k i hd hi hk
    have e : i = x0.length := by omega
    subst e
    obtain ⟨k, rfl⟩ : ∃ m, k = m + 1 := ⟨k - 1, by omega⟩
    rw [spec_l1Renamed.l0, if_neg (by omega)]
  | succ d ihd =>
    intro k i hd hi hk
    obtain ⟨k, rfl⟩ : ∃ m, k = m + 1 := ⟨k - 1, by omega⟩
    obtain ⟨h1, h2, _⟩ := numG_inv (fun (b : Nat) => rd x0 (b : Int)) i
    rw [spec_l1Renamed.l0, if_pos (by omega)]
    obtain ⟨k', hk', e⟩ := sRen_l1 x0 (numG (fun (b : Nat) => rd x0 (b : Int)) i).2 (numG (fun (b : Nat) => rd x0 (b : Int)) i).1 i (by omega) (by omega) (by omega) _ k 0 rfl (Nat.zero_le _) (by omega)
    simp only [Int.natCast_zero, List.drop_zero, Nat.zero_add] at e
    rw [e, nat_next (by omega)]
    have hk2 : d * 3000 < k' := by
      have e3 : (d + 1) * 3000 = d * 3000 + 3000 := Nat.succ_mul d 3000
      rw [e3] at hk
      generalize d * 3000 = z at hk ⊢
      generalize (numG (fun (b : Nat) => rd x0 (b : Int)) i).1.length = q at hk' h2
      clear e ihd h1
      omega
    have ih := ihd k' (i + 1) (by omega) (by omega) hk2
    rw [numG] at ih
    cases hv : (numG (fun (b : Nat) => rd x0 (b : Int)) i).1.findIdx? (fun s => decide (s = rd x0 (i : Int))) with
    | some j => rw [hv] at ih; exact ih
    | none => rw [hv] at ih; exact ih
theorem sRen (x0 : List Int) (hl : x0.length ≤ 256) (k : Nat) (hk : 800000 ≤ k) : spec_l1Renamed.f k x0 = some ((numG (fun (b : Nat) => rd x0 (b : Int)) x0.length).2, ((numG (fun (b : Nat) => rd x0 (b : Int)) x0.length).1.length : Int)) := by
  unfold spec_l1Renamed.f
  have h9 := Nat.mul_le_mul_right 3000 hl
  exact sRen_l0 x0 (by omega) x0.length k 0 (by omega) (Nat.zero_le _) (by omega)
theorem sgU_ker (l : List (List S33)) (a b : Nat) : sgU l a = sgU l b ↔ ∀ c ∈ l, inB c a = inB c b := by
  unfold sgU sgs
  rw [List.map_map, List.map_map, List.map_inj_left]
  constructor
  · intro h c hc
    have := h c hc
    simp only [Function.comp] at this
    cases h1 : inB c a <;> cases h2 : inB c b <;> simp [h1, h2] at this ⊢
  · intro h c hc
    simp only [Function.comp]
    rw [h c hc]
/-- the blocks of some classes -/
def resB (l : List (List S33)) : List Int × Int := ((numG (sgU l) 256).2, ((numG (sgU l) 256).1.length : Int))
theorem blkF_l (l : List (List S33)) : ∀ d b, blkF l d b (numG (sgU l) b).1 (numG (sgU l) b).2 = ((numG (sgU l) (b + d)).2, ((numG (sgU l) (b + d)).1.length : Int))
  | 0, b => rfl
  | d + 1, b => by
    have ih := blkF_l l d (b + 1)
    rw [show b + (d + 1) = b + 1 + d by omega, ← ih, blkF]
    conv => rhs; rw [numG]
    cases hv : (numG (sgU l) b).1.findIdx? (fun s => decide (s = sgU l b)) with
    | some i => rfl
    | none => rfl
theorem blkF_res (l : List (List S33)) : blkF l 256 0 [] [] = resB l := by
  have := blkF_l l 256 0
  rw [Nat.zero_add] at this
  exact this
def bitM (m : List Bool) (c : Nat) : Int := if m.getD c false = true then 1 else 0
theorem rd_set (l : List Int) (a b : Nat) (v : Int) (ha : a < l.length) : rd (l.set a v) (b : Int) = if a = b then v else rd l (b : Int) := by
  unfold rd
  rw [Int.toNat_natCast, List.getD_eq_getElem?_getD, List.getD_eq_getElem?_getD, List.getElem?_set]
  by_cases e : a = b
  · subst e; rw [if_pos rfl, if_pos ha, if_pos rfl]; rfl
  · rw [if_neg e, if_neg e]
theorem sB_l1 (l : List (List S33)) (x4 B : List Int) (m : List Bool) (hm : m.length = 256) (i : Nat) (hB : ∀ b : Nat, b < 256 → 0 ≤ rd B (b : Int) ∧ rd B (b : Int) < 256) (d : Nat) : ∀ (b : Nat) (X : List Int), b + d = 256 → X.length = 256 →
    (∀ c : Nat, c < b → rd X (c : Int) = 2 * rd B (c : Int) + bitM m c) → (∀ c : Nat, b ≤ c → c < 256 → rd X (c : Int) = rd B (c : Int)) →
    ∃ X' : List Int, X'.length = 256 ∧ (∀ c : Nat, c < 256 → rd X' (c : Int) = 2 * rd B (c : Int) + bitM m c) ∧ ∀ k, spec_Blocks.l1 (k + d + 1) l x4 X (i : Int) m (b : Int) = (spec_l1Renamed.f k X').bind fun bt => spec_Blocks.l0 k l x4 bt.1 (wrap64 ((i : Int) + 1)) := by
  induction d with
  | zero =>
    intro b X hb hX h1 h2
    refine ⟨X, hX, fun c hc => h1 c (by omega), fun k => ?_⟩
    rw [show k + 0 + 1 = k + 1 from rfl, spec_Blocks.l1, if_neg (by omega)]
  | succ d ih =>
    intro b X hb hX h1 h2
    have hb0 := h2 b (Nat.le_refl _) (by omega)
    have hbr := hB b (by omega)
    obtain ⟨Y, hY, hYl⟩ : ∃ Y, Y = X.set b (2 * rd B (b : Int)) ∧ Y.length = 256 := ⟨_, rfl, by rw [List.length_set]; exact hX⟩
    have hYr : ∀ c : Nat, rd Y (c : Int) = if b = c then 2 * rd B (b : Int) else rd X (c : Int) := fun c => by rw [hY, rd_set _ _ _ _ (by omega)]
    have hstep : ∀ k, spec_Blocks.l1 (k + 1) l x4 X (i : Int) m (b : Int) = if m.getD b false = true then spec_Blocks.l1 k l x4 (Y.set b (2 * rd B (b : Int) + 1)) (i : Int) m ((b + 1 : Nat) : Int) else spec_Blocks.l1 k l x4 Y (i : Int) m ((b + 1 : Nat) : Int) := by
      intro k
      rw [spec_Blocks.l1, if_pos (by omega), if_pos (by omega), if_pos (by omega), hb0, w64 (x := 2 * rd B (b : Int)) (by omega) (by omega), Option.bind_some, if_pos (by omega), Int.toNat_natCast, ← hY, hYr b, if_pos rfl, w64 (x := 2 * rd B (b : Int) + 1) (by omega) (by omega), nat_next (by omega)]
      rfl
    by_cases hmb : m.getD b false = true
    · obtain ⟨X', g1, g2, g3⟩ := ih (b + 1) (Y.set b (2 * rd B (b : Int) + 1)) (by omega) (by rw [List.length_set]; exact hYl) (fun c hc => by
          rw [rd_set _ _ _ _ (by omega)]
          by_cases e : b = c
          · subst e; rw [if_pos rfl]; unfold bitM; rw [if_pos hmb]
          · rw [if_neg e, hYr c, if_neg e]; exact h1 c (by omega)) (fun c hc hc2 => by
          rw [rd_set _ _ _ _ (by omega), if_neg (by omega), hYr c, if_neg (by omega)]; exact h2 c (by omega) hc2)
      exact ⟨X', g1, g2, fun k => by rw [show k + (d + 1) + 1 = (k + d + 1) + 1 by omega, hstep, if_pos hmb, g3]⟩
    · obtain ⟨X', g1, g2, g3⟩ := ih (b + 1) Y (by omega) hYl (fun c hc => by
          rw [hYr c]
          by_cases e : b = c
          · subst e; rw [if_pos rfl]; unfold bitM; rw [if_neg hmb]; omega
          · rw [if_neg e]; exact h1 c (by omega)) (fun c hc hc2 => by
          rw [hYr c, if_neg (by omega)]; exact h2 c (by omega) hc2)
      exact ⟨X', g1, g2, fun k => by rw [show k + (d + 1) + 1 = (k + d + 1) + 1 by omega, hstep, if_neg hmb, g3]⟩
def KerB (l : List (List S33)) (i : Nat) (B : List Int) : Prop := B.length = 256 ∧ (∀ b : Nat, b < 256 → 0 ≤ rd B (b : Int) ∧ rd B (b : Int) < 256) ∧ ∀ a b : Nat, a < 256 → b < 256 → (rd B (a : Int) = rd B (b : Int) ↔ ∀ c ∈ l.take i, inB c a = inB c b)
theorem rd_mem {α : Type} (z : α) (l : List α) {i : Nat} (h : i < l.length) : l.getD i z = l[i] := by
  rw [List.getD_eq_getElem?_getD, List.getElem?_eq_getElem h]
  rfl
open Classical in
theorem sB_l0 (l : List (List S33)) (hs : ∀ c ∈ l, c.length ≤ 1048576) (hl : l.length ≤ 500) (d : Nat) : ∀ (k i : Nat) (B : List Int), l.length - i = d → i ≤ l.length → d * 300 + 1200000 < k → KerB l i B →
    spec_Blocks.l0 k l [] B (i : Int) = some (if ∀ c ∈ l.drop i, classOk (c.map toP) then resB l else ([], 0)) := by
  induction d with
  | zero =>
    intro k i B hd hi hk hB
    have e : i = l.length := by omega
    obtain ⟨k, rfl⟩ : ∃ m, k = m + 1 := ⟨k - 1, by omega⟩
    rw [spec_Blocks.l0, if_neg (by omega), sRen B (by rw [hB.1]; omega) k (by omega), Option.bind_some, List.drop_eq_nil_of_le (by omega), if_pos (by simp)]
    have := numG_eq (fun (b : Nat) => rd B (b : Int)) (sgU l) 256 (fun a b ha hb => by
      rw [sgU_ker]
      have := hB.2.2 a b ha hb
      rw [e, List.take_length] at this
      exact this)
    unfold resB
    rw [hB.1, this.1, this.2]
  | succ d ih =>
    intro k i B hd hi hk hB
    have hil : i < l.length := by omega
    obtain ⟨k, rfl⟩ : ∃ m, k = m + 1 := ⟨k - 1, by omega⟩
    have hc : rd_L5 l (i : Int) = l[i] := by
      unfold rd_L5
      rw [Int.toNat_natCast, rd_mem _ _ hil]
    have hcl := hs l[i] (List.getElem_mem hil)
    rw [spec_Blocks.l0, if_pos (by omega), if_pos (by omega), hc, sClassOk _ hcl k (by omega), Option.bind_some, List.drop_eq_getElem_cons hil]
    have e3 : (d + 1) * 300 = d * 300 + 300 := Nat.succ_mul d 300
    by_cases hok : classOk (l[i].map toP)
    · obtain ⟨m, em, hm, hmr⟩ := sMarks l[i] hok k (by omega)
      rw [decide_eq_true hok, if_pos rfl, em, Option.bind_some]
      obtain ⟨X', g1, g2, g3⟩ := sB_l1 l [] B m hm i hB.2.1 256 0 B rfl hB.1 (fun c hc => absurd hc (Nat.not_lt_zero _)) (fun c _ _ => rfl)
      obtain ⟨k, rfl⟩ : ∃ q, k = q + 256 + 1 := ⟨k - 257, by omega⟩
      have g3' := g3 k
      simp only [Int.natCast_zero] at g3'
      rw [g3', sRen X' (by omega) k (by omega), Option.bind_some, g1, nat_next (by omega)]
      have hbit : ∀ c : Nat, c < 256 → bitM m c = if inB l[i] c = true then 1 else 0 := by
        intro c hc
        unfold bitM
        have hin : inB l[i] c = true ↔ InTo (l[i].map toP) l[i].length c := by
          unfold inB
          rw [decide_eq_true_iff, spP_toP]
        have := (hmr c hc).trans hin.symm
        by_cases q : m.getD c false = true
        · rw [if_pos q, if_pos (this.1 q)]
        · rw [if_neg q, if_neg (fun q2 => q (this.2 q2))]
      have hk2 : d * 300 + 1200000 < k := by
        rw [e3] at hk
        generalize d * 300 = z at hk ⊢
        exact Nat.lt_of_add_lt_add_right (n := 300) (by have : z + 300 + 1200000 < k + 256 + 1 + 1 := hk; omega)
      rw [ih k (i + 1) _ (by omega) (by omega) hk2 ⟨(numG_inv _ 256).1, fun b hb => by
        have := numG_rng (fun (b : Nat) => rd X' (b : Int)) 256 b hb
        have h2 := (numG_inv (fun (b : Nat) => rd X' (b : Int)) 256).2.1
        exact ⟨this.1, by omega⟩, fun a b ha hb => by
        rw [numG_same _ 256 a b ha hb]
        rw [g2 a ha, g2 b hb, hbit a ha, hbit b hb, List.take_succ_eq_append_getElem hil]
        have hk0 := hB.2.2 a b ha hb
        constructor
        · intro h c hc
          rcases List.mem_append.1 hc with hc | hc
          · refine hk0.1 ?_ c hc
            split at h <;> split at h <;> omega
          · rw [List.mem_singleton] at hc
            subst hc
            cases h1 : inB l[i] a <;> cases h2 : inB l[i] b <;> simp [h1, h2] at h ⊢ <;> omega
        · intro h
          rw [hk0.2 (fun c hc => h c (List.mem_append.2 (.inl hc))), h l[i] (List.mem_append.2 (.inr (List.mem_singleton.2 rfl)))]⟩]
      congr 1
      by_cases q : ∀ c ∈ l.drop (i + 1), classOk (c.map toP)
      · rw [if_pos q, if_pos (fun c hc => by
          rcases List.mem_cons.1 hc with rfl | hc
          · exact hok
          · exact q c hc)]
      · rw [if_neg q, if_neg (fun h => q (fun c hc => h c (List.mem_cons_of_mem _ hc)))]
    · rw [decide_eq_false hok, if_neg (by simp), if_neg (fun h => hok (h _ (List.mem_cons_self ..)))]
open Classical in
/-- what both come to -/
noncomputable def blocksM (l : List (List S33)) : List Int × Int := if (∀ c ∈ l, classOk (c.map toP)) ∧ l.length ≤ 500 then resB l else ([], 0)
open Classical in
theorem sBlocks (l : List (List S33)) (hs : ∀ c ∈ l, c.length ≤ 1048576) (k : Nat) (hk : 1500000 ≤ k) : spec_Blocks.f k l = some (blocksM l) := by
  unfold spec_Blocks.f blocksM
  rw [Option.bind_some]
  by_cases hl : (l.length : Int) > 500
  · rw [if_pos hl, if_neg (fun h => by have := h.2; omega)]
  · rw [if_neg hl, if_pos (by omega)]
    have h9 := Nat.mul_le_mul_right 300 (show l.length ≤ 500 by omega)
    have := sB_l0 l hs (by omega) l.length k 0 (List.replicate 256 0) (by omega) (Nat.zero_le _) (by omega) ⟨List.length_replicate, fun b hb => by
      have e : rd (List.replicate 256 (0 : Int)) (b : Int) = 0 := by
        unfold rd
        rw [Int.toNat_natCast, List.getD_eq_getElem?_getD, List.getElem?_replicate, if_pos hb]
        rfl
      rw [e]; omega, fun a b ha hb => by
      have e : ∀ q : Nat, q < 256 → rd (List.replicate 256 (0 : Int)) (q : Int) = 0 := fun q hq => by
        unfold rd
        rw [Int.toNat_natCast, List.getD_eq_getElem?_getD, List.getElem?_replicate, if_pos hq]
        rfl
      rw [e a ha, e b hb]
      simp⟩
    refine Eq.trans this ?_
    rw [List.drop_zero]
    congr 1
    by_cases q : ∀ c ∈ l, classOk (c.map toP)
    · rw [if_pos q, if_pos ⟨q, by omega⟩]
    · rw [if_neg q, if_neg (fun h => q h.1)]
open Classical in
theorem iB_l0 (l : List (List S33)) (hs : ∀ c ∈ l, c.length ≤ 1048576) (hl : l.length ≤ 500) (d : Nat) : ∀ (k i : Nat), l.length - i = d → i ≤ l.length → d + 1200000 < k → (∀ c ∈ l.take i, classOk (c.map toP)) →
    impl_Blocks.l0 k l l (l.length : Int) (i : Int) = some (blocksM l) := by
  induction d with
  | zero =>
    intro k i hd hi hk hB
    have e : i = l.length := by omega
    obtain ⟨k, rfl⟩ : ∃ m, k = m + 1 := ⟨k - 1, by omega⟩
    rw [e, List.take_length] at hB
    rw [impl_Blocks.l0, if_neg (by omega)]
    unfold impl_blocks.f blocksM
    rw [if_pos ⟨by rw [spP_toP]; exact hB, hl⟩, Option.bind_some, blkF_res, if_pos ⟨hB, hl⟩]
  | succ d ih =>
    intro k i hd hi hk hB
    have hil : i < l.length := by omega
    obtain ⟨k, rfl⟩ : ∃ m, k = m + 1 := ⟨k - 1, by omega⟩
    have hc : rd_L5 l (i : Int) = l[i] := by
      unfold rd_L5
      rw [Int.toNat_natCast, rd_mem _ _ hil]
    have hcl := hs l[i] (List.getElem_mem hil)
    rw [impl_Blocks.l0, if_pos (by omega), if_pos (by omega), if_pos (by omega), hc, iClassOk _ hcl k (by omega), Option.bind_some]
    by_cases hok : classOk (l[i].map toP)
    · rw [decide_eq_true hok, if_pos rfl, nat_next (by omega)]
      exact ih k (i + 1) (by omega) (by omega) (by omega) (by
        intro c hc
        rw [List.take_succ_eq_append_getElem hil] at hc
        rcases List.mem_append.1 hc with hc | hc
        · exact hB c hc
        · rw [List.mem_singleton] at hc
          subst hc
          exact hok)
    · rw [decide_eq_false hok, if_neg (by simp)]
      unfold blocksM
      rw [if_neg (fun h => hok (h.1 _ (List.getElem_mem hil)))]
open Classical in
theorem iBlocks (l : List (List S33)) (hs : ∀ c ∈ l, c.length ≤ 1048576) (k : Nat) (hk : 1500000 ≤ k) : impl_Blocks.f k l = some (blocksM l) := by
  unfold impl_Blocks.f
  by_cases hl : (l.length : Int) > 500
  · unfold blocksM
    rw [if_pos hl, if_neg (fun h => by have := h.2; omega)]
  · rw [if_neg hl]
    exact iB_l0 l hs (by omega) l.length k 0 (by omega) (Nat.zero_le _) (by omega) (by simp)
def gd_Span (x : S220) : Prop := ((Lit.int .i64 x.f0).wf = true) ∧ ((Lit.int .i64 x.f1).wf = true)
def c_Span (x : S220) : S33 := ⟨x.f0, x.f1⟩
def gd_SpanS (x : List S220) : Prop := x.length ≤ maxLen ∧ ∀ y ∈ x, gd_Span y
def bd_SpanS (x : List S220) : Prop := x.length ≤ 1048576
def bi_SpanS (x : List S33) : Prop := x.length ≤ 1048576
def gd_SpanSS (x : List (List S220)) : Prop := x.length ≤ maxLen ∧ ∀ y ∈ x, gd_SpanS y
def bd_SpanSS (x : List (List S220)) : Prop := x.length ≤ 1048576 ∧ ∀ y ∈ x, bd_SpanS y
def bi_SpanSS (x : List (List S33)) : Prop := x.length ≤ 1048576 ∧ ∀ y ∈ x, bi_SpanS y
theorem szL_SpanS (k : Nat) (hk : 1048578 ≤ k) (l : List S220) (g : l.length ≤ maxLen ∧ ∀ y ∈ l, gd_Span y) (n : Int) (hn : 0 ≤ n ∧ n ≤ 1048576) : ∃ r, laws_szSpanS.f l n = some r ∧ -1 ≤ r ∧ r ≤ n ∧ (0 ≤ r → l.length ≤ 1048576) := by
  have hl := g.1
  unfold maxLen at hl
  unfold laws_szSpanS.f
  rw [w64 (by omega) (by omega)]
  by_cases h : n - (l.length : Int) < 0
  · rw [if_pos h]; exact ⟨-1, rfl, by omega, by omega, fun h => by omega⟩
  · rw [if_neg h]; exact ⟨_, rfl, by omega, by omega, fun _ => by omega⟩
theorem szL_SpanSS_l (l : List (List S220)) (g : ∀ y ∈ l, gd_SpanS y) (hl : l.length ≤ 1048576) (d : Nat) : ∀ (k : Nat) (x i : Int), d + 1048578 < k → 0 ≤ i → (l.length : Int) - i = d → 0 ≤ x → x ≤ 1048576 →
    ∃ r, laws_szSpanSS.l0 k l x i = some r ∧ -1 ≤ r ∧ r ≤ x ∧ (0 ≤ r → ∀ j : Nat, i ≤ (j : Int) → (h : j < l.length) → bd_SpanS l[j]) := by
  induction d with
  | zero =>
    intro k x i hk h0 hd g0 g1
    obtain ⟨k, rfl⟩ : ∃ m, k = m + 1 := ⟨k - 1, by omega⟩
    refine ⟨x, ?_, by omega, by omega, fun _ j h1 h2 => by omega⟩
    simp only [laws_szSpanSS.l0]
    rw [if_neg (by omega)]
  | succ d ih =>
    intro k x i hk h0 hd g0 g1
    obtain ⟨k, rfl⟩ : ∃ m, k = m + 1 := ⟨k - 1, by omega⟩
    have hi : i.toNat < l.length := by omega
    have e : rd_L2 l i = l[i.toNat] := by
      unfold rd_L2
      rw [List.getD_eq_getElem?_getD, List.getElem?_eq_getElem hi]
      rfl
    have hg := g l[i.toNat] (List.getElem_mem hi)
    obtain ⟨r, er, r1, r2, r3⟩ := szL_SpanS k (by omega) l[i.toNat] hg x ⟨g0, g1⟩
    simp only [laws_szSpanSS.l0, e]
    rw [if_pos (by omega), if_pos h0, er]
    simp only [Option.bind_some]
    by_cases hr : r < 0
    · rw [if_pos hr]; exact ⟨-1, rfl, by omega, by omega, fun h => by omega⟩
    · rw [if_neg hr, w64 (by omega) (by omega)]
      obtain ⟨q, eq, q1, q2, q3⟩ := ih k r (i + 1) (by omega) (by omega) (by omega) (by omega) (by omega)
      refine ⟨q, eq, q1, by omega, fun h j h1 h2 => ?_⟩
      by_cases hj : (j : Int) = i
      · have : j = i.toNat := by omega
        subst this; exact r3 (by omega)
      · exact q3 h j (by omega) h2
theorem szL_SpanSS (k : Nat) (hk : 2097156 ≤ k) (l : List (List S220)) (g : l.length ≤ maxLen ∧ ∀ y ∈ l, gd_SpanS y) (n : Int) (hn : 0 ≤ n ∧ n ≤ 1048576) : ∃ r, laws_szSpanSS.f k l n = some r ∧ -1 ≤ r ∧ r ≤ n ∧ (0 ≤ r → l.length ≤ 1048576 ∧ ∀ y ∈ l, bd_SpanS y) := by
  have hl := g.1
  unfold maxLen at hl
  unfold laws_szSpanSS.f
  rw [w64 (x := n - (l.length : Int)) (by omega) (by omega)]
  by_cases h : n - (l.length : Int) < 0
  · rw [if_pos h]; exact ⟨-1, rfl, by omega, by omega, fun h => by omega⟩
  · rw [if_neg h]
    obtain ⟨r, e, r1, r2, r3⟩ := szL_SpanSS_l l g.2 (by omega) l.length k (n - (l.length : Int)) 0 (by omega) (by omega) (by omega) (by omega) (by omega)
    exact ⟨r, e, r1, by omega, fun hr => ⟨by omega, fun y hy => by
      obtain ⟨j, hj, rfl⟩ := List.mem_iff_getElem.1 hy
      exact r3 hr j (by omega) hj⟩⟩
theorem toL_Span (k : Nat) (hk : 0 ≤ k) (f0 : Int) (f1 : Int) (g : True) : laws_toSpan.f f0 f1 = some (f0, f1) := by
  unfold laws_toSpan.f
  all_goals (first | rfl | simp)
theorem toL_SpanS_l (l : List S220) (hl : l.length ≤ 1048576) (d : Nat) : ∀ (k : Nat) (acc : List S33) (i : Int), d + 0 < k → 0 ≤ i → (l.length : Int) - i = d → acc.length = l.length →
    laws_toSpanS.l0 k l acc i = some (acc.take i.toNat ++ (l.map c_Span).drop i.toNat) := by
  induction d with
  | zero =>
    intro k acc i hk h0 hd ha
    obtain ⟨k, rfl⟩ : ∃ m, k = m + 1 := ⟨k - 1, by omega⟩
    simp only [laws_toSpanS.l0]
    rw [if_neg (by omega), List.take_of_length_le (by omega), List.drop_eq_nil_of_le (by first | omega | (rw [List.length_map]; omega)), List.append_nil]
  | succ d ih =>
    intro k acc i hk h0 hd ha
    obtain ⟨k, rfl⟩ : ∃ m, k = m + 1 := ⟨k - 1, by omega⟩
    have hi : i.toNat < l.length := by omega
    have e : rd_T220 l i = l[i.toNat] := by
      unfold rd_T220
      rw [List.getD_eq_getElem?_getD, List.getElem?_eq_getElem hi]
      rfl
    have ee := toL_Span k (by omega) l[i.toNat].f0 l[i.toNat].f1 trivial
    simp only [laws_toSpanS.l0, e]
    rw [if_pos (by omega), if_pos h0, ee]
    simp only [Option.bind_some]
    rw [if_pos (by omega), w64 (by omega) (by omega)]
    rw [ih k _ _ (by omega) (by omega) (by omega) (by simpa using ha)]
    have e1 : (i + 1).toNat = i.toNat + 1 := by omega
    rw [e1, List.take_succ_eq_append_getElem (by simp; omega), List.take_set_of_le (Nat.le_refl _), List.getElem_set_self, List.append_assoc, List.singleton_append]
    congr 2
    rw [List.drop_eq_getElem_cons (i := i.toNat) (by simpa using hi), List.getElem_map]
    try rfl
theorem toL_SpanS (k : Nat) (hk : 1048578 ≤ k) (l : List S220) (g : l.length ≤ 1048576) : laws_toSpanS.f k l = some (l.map c_Span) := by
  have hl : l.length ≤ 1048576 := g
  unfold laws_toSpanS.f
  rw [if_pos (by omega), if_pos (by omega), toL_SpanS_l l hl l.length k _ 0 (by omega) (by omega) (by omega) (by simp)]
  simp
theorem toL_SpanSS_l (l : List (List S220)) (g : ∀ y ∈ l, bd_SpanS y) (hl : l.length ≤ 1048576) (d : Nat) : ∀ (k : Nat) (acc : List (List S33)) (i : Int), d + 1048578 < k → 0 ≤ i → (l.length : Int) - i = d → acc.length = l.length →
    laws_toSpanSS.l0 k l acc i = some (acc.take i.toNat ++ (l.map (fun y => y.map c_Span)).drop i.toNat) := by
  induction d with
  | zero =>
    intro k acc i hk h0 hd ha
    obtain ⟨k, rfl⟩ : ∃ m, k = m + 1 := ⟨k - 1, by omega⟩
    simp only [laws_toSpanSS.l0]
    rw [if_neg (by omega), List.take_of_length_le (by omega), List.drop_eq_nil_of_le (by first | omega | (rw [List.length_map]; omega)), List.append_nil]
  | succ d ih =>
    intro k acc i hk h0 hd ha
    obtain ⟨k, rfl⟩ : ∃ m, k = m + 1 := ⟨k - 1, by omega⟩
    have hi : i.toNat < l.length := by omega
    have e : rd_L2 l i = l[i.toNat] := by
      unfold rd_L2
      rw [List.getD_eq_getElem?_getD, List.getElem?_eq_getElem hi]
      rfl
    have ee := toL_SpanS k (by omega) l[i.toNat] (g l[i.toNat] (List.getElem_mem hi))
    simp only [laws_toSpanSS.l0, e]
    rw [if_pos (by omega), if_pos h0]
    first | rw [ee] | skip
    try simp only [Option.bind_some]
    rw [if_pos (by omega)]
    try rw [ee]
    try simp only [Option.bind_some]
    try rw [if_pos (by omega)]
    rw [w64 (by omega) (by omega)]
    rw [ih k _ _ (by omega) (by omega) (by omega) (by simpa using ha)]
    have e1 : (i + 1).toNat = i.toNat + 1 := by omega
    rw [e1, List.take_succ_eq_append_getElem (by simp; omega), List.take_set_of_le (Nat.le_refl _), List.getElem_set_self, List.append_assoc, List.singleton_append]
    congr 2
    rw [List.drop_eq_getElem_cons (i := i.toNat) (by simpa using hi), List.getElem_map]
    try rfl
theorem toL_SpanSS (k : Nat) (hk : 2097156 ≤ k) (l : List (List S220)) (g : l.length ≤ 1048576 ∧ ∀ y ∈ l, bd_SpanS y) : laws_toSpanSS.f k l = some (l.map (fun y => y.map c_Span)) := by
  have hl : l.length ≤ 1048576 := g.1
  unfold laws_toSpanSS.f
  rw [if_pos (by omega), if_pos (by omega), toL_SpanSS_l l g.2 hl l.length k _ 0 (by omega) (by omega) (by omega) (by simp)]
  simp
theorem eqL_Span (k : Nat) (hk : 0 ≤ k) (f0 : Int) (f1 : Int) (g : True) : laws_eqSpan.f f0 f1 f0 f1 = some true := by
  unfold laws_eqSpan.f
  simp
theorem eqL_SpanS_l (l : List S33) (hl : l.length ≤ 1048576) (d : Nat) : ∀ (k : Nat) (i : Int), d + 0 < k → 0 ≤ i → (l.length : Int) - i = d → laws_eqSpanS.l0 k l l i = some true := by
  induction d with
  | zero =>
    intro k i hk h0 hd
    obtain ⟨k, rfl⟩ : ∃ m, k = m + 1 := ⟨k - 1, by omega⟩
    simp only [laws_eqSpanS.l0]
    rw [if_neg (by omega)]
  | succ d ih =>
    intro k i hk h0 hd
    obtain ⟨k, rfl⟩ : ∃ m, k = m + 1 := ⟨k - 1, by omega⟩
    have hi : i.toNat < l.length := by omega
    have e : rd_T33 l i = l[i.toNat] := by
      unfold rd_T33
      rw [List.getD_eq_getElem?_getD, List.getElem?_eq_getElem hi]
      rfl
    have ee := eqL_Span k (by omega) l[i.toNat].f0 l[i.toNat].f1 trivial
    simp only [laws_eqSpanS.l0, e]
    rw [if_pos (by omega), if_pos h0, if_pos (by omega), ee]
    simp only [Option.bind_some, if_true]
    rw [w64 (by omega) (by omega)]
    exact ih k _ (by omega) (by omega) (by omega)
theorem eqL_SpanS (k : Nat) (hk : 1048578 ≤ k) (l : List S33) (g : l.length ≤ 1048576) : laws_eqSpanS.f k l l = some true := by
  have hl : l.length ≤ 1048576 := g
  unfold laws_eqSpanS.f
  simp only [if_true]
  exact eqL_SpanS_l l hl l.length k 0 (by omega) (by omega) (by omega)
theorem eqL_SpanSS_l (l : List (List S33)) (g : ∀ y ∈ l, bi_SpanS y) (hl : l.length ≤ 1048576) (d : Nat) : ∀ (k : Nat) (i : Int), d + 1048578 < k → 0 ≤ i → (l.length : Int) - i = d → laws_eqSpanSS.l0 k l l i = some true := by
  induction d with
  | zero =>
    intro k i hk h0 hd
    obtain ⟨k, rfl⟩ : ∃ m, k = m + 1 := ⟨k - 1, by omega⟩
    simp only [laws_eqSpanSS.l0]
    rw [if_neg (by omega)]
  | succ d ih =>
    intro k i hk h0 hd
    obtain ⟨k, rfl⟩ : ∃ m, k = m + 1 := ⟨k - 1, by omega⟩
    have hi : i.toNat < l.length := by omega
    have e : rd_L5 l i = l[i.toNat] := by
      unfold rd_L5
      rw [List.getD_eq_getElem?_getD, List.getElem?_eq_getElem hi]
      rfl
    have ee := eqL_SpanS k (by omega) l[i.toNat] (g l[i.toNat] (List.getElem_mem hi))
    simp only [laws_eqSpanSS.l0, e]
    rw [if_pos (by omega), if_pos h0, if_pos (by omega), ee]
    simp only [Option.bind_some, if_true]
    rw [w64 (by omega) (by omega)]
    exact ih k _ (by omega) (by omega) (by omega)
theorem eqL_SpanSS (k : Nat) (hk : 2097156 ≤ k) (l : List (List S33)) (g : l.length ≤ 1048576 ∧ ∀ y ∈ l, bi_SpanS y) : laws_eqSpanSS.f k l l = some true := by
  have hl : l.length ≤ 1048576 := g.1
  unfold laws_eqSpanSS.f
  simp only [if_true]
  exact eqL_SpanSS_l l g.2 hl l.length k 0 (by omega) (by omega) (by omega)
theorem markAt_l (n : Nat) (hn : n ≤ 1000000000) (c : Int) (c0 : 0 ≤ c) (c1 : c ≤ 1000000000000000) (d : Nat) : ∀ (k : Nat) (x : List S33) (i : Nat), d < k → n - i = d → i ≤ n → x.length = n →
    ∃ y, laws_markSpanS.l0 k x (c + 2 * (i : Int)) (i : Int) = some (c + 2 * (n : Int), y) := by
  induction d with
  | zero =>
    intro k x i hk hd hi hx
    obtain ⟨k, rfl⟩ : ∃ m, k = m + 1 := ⟨k - 1, by omega⟩
    obtain rfl : i = n := by omega
    simp only [laws_markSpanS.l0]
    rw [if_neg (by omega)]
    exact ⟨x, rfl⟩
  | succ d ih =>
    intro k x i hk hd hi hx
    obtain ⟨k, rfl⟩ : ∃ m, k = m + 1 := ⟨k - 1, by omega⟩
    simp only [laws_markSpanS.l0, Option.bind_some, Int.toNat_natCast]
    rw [if_pos (by omega), if_pos (by omega), nat_next (by omega), w64 (x := c + 2 * (i : Int) + 1) (by omega) (by omega), w64 (by omega) (by omega), show c + 2 * (i : Int) + 1 + 1 = c + 2 * ((i + 1 : Nat) : Int) by omega]
    exact ih k _ (i + 1) (by omega) (by omega) (by omega) (by simpa using hx)
theorem markAt (x : List S33) (hn : x.length ≤ 1000000000) (c : Int) (c0 : 0 ≤ c) (c1 : c ≤ 1000000000000000) (k : Nat) (hk : x.length < k) : ∃ y, laws_markSpanS.f k x c = some (c + 2 * (x.length : Int), y) := by
  have h := markAt_l x.length hn c c0 c1 x.length k x 0 hk (by omega) (by omega) rfl
  unfold laws_markSpanS.f
  rw [show c + 2 * ((0 : Nat) : Int) = c by omega] at h
  exact h
theorem markSpanSS_l (n : Nat) (hn : n ≤ 1048576) (d : Nat) : ∀ (k i : Nat) (x : List (List S33)) (a : Int), d + 1048578 < k → n - i = d → i ≤ n → x.length = n → (∀ j, i ≤ j → (x.getD j []).length ≤ 1048576) → 0 ≤ a → a ≤ 1 + 2100000 * (i : Int) →
    ∃ m y, laws_markSpanSS.l0 k x a (i : Int) = some (m, y) ∧ 0 ≤ m := by
  induction d with
  | zero =>
    intro k i x a hk hd hi hx hr a0 a1
    obtain ⟨k, rfl⟩ : ∃ m, k = m + 1 := ⟨k - 1, by omega⟩
    exact ⟨a, x, by rw [laws_markSpanSS.l0, if_neg (by omega)], a0⟩
  | succ d ih =>
    intro k i x a hk hd hi hx hr a0 a1
    obtain ⟨k, rfl⟩ : ∃ m, k = m + 1 := ⟨k - 1, by omega⟩
    have hri := hr i (Nat.le_refl _)
    obtain ⟨y, e⟩ := markAt (x.getD i []) (by omega) a a0 (by omega) k (by omega)
    obtain ⟨m, z, e2, m0⟩ := ih k (i + 1) (x.set i y) (a + 2 * ((x.getD i []).length : Int)) (by omega) (by omega) (by omega) (by rw [List.length_set]; exact hx) (fun j hj => by
      rw [List.getD_eq_getElem?_getD, List.getElem?_set_ne (by omega), ← List.getD_eq_getElem?_getD]
      exact hr j (by omega)) (by omega) (by omega)
    exact ⟨m, z, by rw [laws_markSpanSS.l0, if_pos (by omega), if_pos (by omega), Int.toNat_natCast, e, Option.bind_some, nat_next (by omega)]; exact e2, m0⟩
/-- two lists of numbers that are one are told alike -/
theorem eqInt64S_l (l : List Int) (hl : (l.length : Int) ≤ 1099511627776) (d : Nat) : ∀ (k : Nat) (i : Int), d < k → 0 ≤ i → (l.length : Int) - i = d → laws_eqInt64S.l0 k l l i = some true := by
  induction d with
  | zero =>
    intro k i hk h0 hd
    obtain ⟨k, rfl⟩ : ∃ m, k = m + 1 := ⟨k - 1, by omega⟩
    simp only [laws_eqInt64S.l0]
    rw [if_neg (by omega)]
  | succ d ih =>
    intro k i hk h0 hd
    obtain ⟨k, rfl⟩ : ∃ m, k = m + 1 := ⟨k - 1, by omega⟩
    simp only [laws_eqInt64S.l0]
    rw [if_pos (by omega), if_pos h0, if_pos (by omega), w64 (by omega) (by omega)]
    exact ih k _ (by omega) (by omega) (by omega)
theorem eqInt64S_same (l : List Int) (hl : (l.length : Int) ≤ 1099511627776) (k : Nat) (hk : l.length < k) : laws_eqInt64S.f k l l = some true := by
  unfold laws_eqInt64S.f
  simp only [if_true]
  exact eqInt64S_l l hl l.length k 0 hk (by omega) (by omega)

/-- what is marked is held: the marks of a list, told by its length alone -/
theorem markInt64S_l (d : Nat) : ∀ (k : Nat) (l : List Int) (m i : Int), d < k → 0 ≤ i → (l.length : Int) - i = d → (l.length : Int) ≤ 1099511627776 → 0 ≤ m → m ≤ 4398046511104 → m + d ≤ 4398046511104 →
    ∃ l', laws_markInt64S.l0 k l m i = some (m + d, l') ∧ l'.length = l.length ∧ (∀ j : Nat, (j : Int) < i → l'.getD j 0 = l.getD j 0) ∧ (∀ j : Nat, i ≤ (j : Int) → j < l.length → l'.getD j 0 = m + ((j : Int) - i)) := by
  induction d with
  | zero =>
    intro k l m i hk h0 hd hl hm hm' hmd
    obtain ⟨k, rfl⟩ : ∃ m, k = m + 1 := ⟨k - 1, by omega⟩
    refine ⟨l, ?_, rfl, fun j _ => rfl, fun j hj hj' => by omega⟩
    simp only [laws_markInt64S.l0]
    rw [if_neg (by omega)]
    simp
  | succ d ih =>
    intro k l m i hk h0 hd hl hm hm' hmd
    obtain ⟨k, rfl⟩ : ∃ m, k = m + 1 := ⟨k - 1, by omega⟩
    obtain ⟨l', e, e1, e2, e3⟩ := ih k (l.set i.toNat m) (m + 1) (i + 1) (by omega) (by omega) (by simp; omega) (by simp; omega) (by omega) (by omega) (by omega)
    refine ⟨l', ?_, by simpa using e1, fun j hj => ?_, fun j hj hj' => ?_⟩
    · simp only [laws_markInt64S.l0]
      rw [if_pos (by omega), if_pos h0, w64 (x := m + 1) (by omega) (by omega), w64 (by omega) (by omega), e]
      congr 2
      omega
    · rw [e2 j (by omega), List.getD_eq_getElem?_getD, List.getD_eq_getElem?_getD, List.getElem?_set_ne (by omega)]
    · by_cases hji : (j : Int) = i
      · rw [e2 j (by omega)]
        have : i.toNat = j := by omega
        rw [this, List.getD_eq_getElem?_getD, List.getElem?_set_self hj']
        simp; omega
      · rw [e3 j (by omega) (by simpa using hj')]
        omega
theorem heldInt64S_l (l : List Int) (hl : (l.length : Int) ≤ 1099511627776) (d : Nat) : ∀ (k : Nat) (m i : Int), d < k → 0 ≤ i → (l.length : Int) - i = d → 0 ≤ m → m + d ≤ 4398046511104 →
    (∀ j : Nat, i ≤ (j : Int) → j < l.length → l.getD j 0 = m + ((j : Int) - i)) → laws_heldInt64S.l0 k l m i = some (m + d) := by
  induction d with
  | zero =>
    intro k m i hk h0 hd hm hmd _
    obtain ⟨k, rfl⟩ : ∃ m, k = m + 1 := ⟨k - 1, by omega⟩
    simp only [laws_heldInt64S.l0]
    rw [if_neg (by omega)]
    simp
  | succ d ih =>
    intro k m i hk h0 hd hm hmd hj
    obtain ⟨k, rfl⟩ : ∃ m, k = m + 1 := ⟨k - 1, by omega⟩
    have hi := hj i.toNat (by omega) (by omega)
    simp only [laws_heldInt64S.l0]
    rw [if_pos (by omega), if_pos h0, if_pos (by unfold rd; omega), w64 (x := m + 1) (by omega) (by omega), w64 (by omega) (by omega), ih k _ _ (by omega) (by omega) (by omega) (by omega) (by omega) (fun j h h' => by rw [hj j (by omega) h']; omega)]
    congr 1
    omega
/-- the marks of a list, and that they are held -/
theorem markInt64S_held (l : List Int) (hl : (l.length : Int) ≤ 1099511627776) (m : Int) (hm : 0 ≤ m) (hm' : m ≤ 2199023255552) : ∃ l', ∀ k, l.length < k →
    laws_markInt64S.f k l m = some (m + l.length, l') ∧ laws_heldInt64S.f k l' m = some (m + l.length) := by
  obtain ⟨l', e, e1, _, e3⟩ := markInt64S_l l.length (l.length + 1) l m 0 (by omega) (by omega) (by omega) hl hm (by omega) (by omega)
  refine ⟨l', fun k hk => ⟨?_, ?_⟩⟩
  · obtain ⟨l2, f, _⟩ := markInt64S_l l.length k l m 0 hk (by omega) (by omega) hl hm (by omega) (by omega)
    have : laws_markInt64S.l0 k l m 0 = some (m + l.length, l') := at_rounds (g := fun k => laws_markInt64S.l0 k l m 0) (fun k => laws_markInt64S.mono_l k _ _ _) (by omega : l.length + 1 ≤ k) e
    exact this
  · unfold laws_heldInt64S.f
    exact heldInt64S_l l' (by omega) l.length k m 0 hk (by omega) (by omega) hm (by omega) (fun j h h' => e3 j h (by omega))
theorem FnExactBlocks (x : List (List S220)) (g : x.length ≤ maxLen ∧ ∀ y ∈ x, gd_SpanS y) : ∃ k, laws_FnExactBlocks.f k x = some true := by
  suffices ∀ k, 100000000 ≤ k → laws_FnExactBlocks.f k x = some true from ⟨100000000, this _ (Nat.le_refl _)⟩
  intro k hk
  unfold laws_FnExactBlocks.f
  obtain ⟨r, e, _, _, h⟩ := szL_SpanSS k (by omega) x g 1048576 (by omega)
  rw [e, Option.bind_some]
  by_cases hr : r < 0
  · rw [if_pos hr]
  · have hb := h (by omega)
    have hi : bi_SpanSS (x.map (fun y => y.map c_Span)) := ⟨by rw [List.length_map]; exact hb.1, fun y hy => by
      obtain ⟨z, hz, rfl⟩ := List.mem_map.1 hy
      unfold bi_SpanS
      rw [List.length_map]
      exact hb.2 z hz⟩
    generalize hE : x.map (fun y => y.map c_Span) = E at hi
    rw [if_neg hr, if_pos]
    have hol : (blocksM E).1.length ≤ 256 := by
      unfold blocksM
      split
      · unfold resB
        rw [(numG_inv _ 256).1]
        omega
      · simp
    obtain ⟨m0, y0, q0, q1⟩ := markSpanSS_l E.length hi.1 E.length k 0 E 1 (by have := hi.1; omega) (by omega) (Nat.zero_le _) rfl (fun j _ => by
      by_cases hj : j < E.length
      · rw [rd_mem _ _ hj]
        exact hi.2 _ (List.getElem_mem hj)
      · rw [List.getD_eq_getElem?_getD, List.getElem?_eq_none (by omega)]
        exact Nat.zero_le _) (by omega) (by omega)
    obtain ⟨z0, z⟩ := markInt64S_held (blocksM E).1 (by omega) 1 (by omega) (by omega)
    obtain ⟨z1, z2⟩ := z k (by omega)
    exact ⟨E, (blocksM E).1, (blocksM E).2, m0, y0, 1 + (blocksM E).1.length, z0, by rw [← hE]; exact toL_SpanSS k (by omega) x hb, sBlocks E (fun c hc => hi.2 c hc) k (by omega), iBlocks E (fun c hc => hi.2 c hc) k (by omega), eqInt64S_same _ (by omega) k (by omega), eqL_SpanSS k (by omega) E hi, q0, q1, z1, z2, by omega⟩
end Go.Proofs.Ytaemhmgcjpcicaa.Pure
