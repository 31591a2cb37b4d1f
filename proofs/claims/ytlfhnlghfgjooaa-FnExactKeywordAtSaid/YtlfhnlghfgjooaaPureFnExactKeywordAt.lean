/- The program's KeywordAt and the reference's come to one number: whatever the table and the word. -/
import Derived.Test.YtlfhnlghfgjooaaPFnExactKeywordAtx3
import Derived.Test.YtlfhnlghfgjooaaKit
import Derived.Test.YtlfhnlghfgjooaaKitHash
namespace Go.Proofs.Ytlfhnlghfgjooaa.Pure
open Go.RowKit Go.Proofs.Ytlfhnlghfgjooaa.PFnExactKeywordAt Go.Proofs.YtlfhnlghfgjooaaW.PrintWords Go.Proofs.YtlfhnlghfgjooaaW.PrintLast Go.Proofs.YtlfhnlghfgjooaaW.PrintMore Go.Proofs.Ytlfhnlghfgjooaa.Kit
theorem sIn (a b c : Int) : spec_l1In.f a b c = some (decide (b ≤ a ∧ a ≤ c)) := by
  unfold spec_l1In.f
  by_cases h : a ≥ b
  · rw [if_pos h]; congr 1; simp; omega
  · rw [if_neg h]; congr 1; simp; omega
theorem iWithin (a b c : Int) : impl_within.f a b c = some (decide (b ≤ a ∧ a ≤ c)) := by
  unfold impl_within.f
  by_cases h : a ≥ b
  · rw [if_pos h]; congr 1; simp; omega
  · rw [if_neg h]; congr 1; simp; omega
theorem sHash_l (t : ByteArray) (ht : t.size ≤ 60) (z : Int) (hz : 1 ≤ z) (d : Nat) : ∀ (k : Nat) (h i : Int), d < k → 0 ≤ i → (t.size : Int) - i = d → 0 ≤ h → h ≤ 1000003 →
    spec_HashOf.l0 k t z h i = some (hashLoop t d i h % z) := by
  induction d with
  | zero =>
    intro k h i hk h0 hd g0 g1
    obtain ⟨k, rfl⟩ : ∃ m, k = m + 1 := ⟨k - 1, by omega⟩
    simp only [spec_HashOf.l0]
    rw [if_neg (by omega), if_neg (by omega), tmod_pos g0]
    rfl
  | succ d ih =>
    intro k h i hk h0 hd g0 g1
    obtain ⟨k, rfl⟩ : ∃ m, k = m + 1 := ⟨k - 1, by omega⟩
    have := bt_lo t i
    have := bt_hi t i
    simp only [spec_HashOf.l0]
    rw [if_pos (by omega), if_pos h0, w64 (x := h * 31) (by omega) (by omega), w64 (x := bt t i) (by omega) (by omega), w64 (x := h * 31 + bt t i) (by omega) (by omega), w64 (x := i + 1) (by omega) (by omega), tmod_pos (by omega),
      ih k _ _ (by omega) (by omega) (by omega) (by omega) (by omega)]
    rfl

theorem iHash_l (t : ByteArray) (ht : t.size ≤ 60) (z : Int) (hz : 1 ≤ z) (d : Nat) : ∀ (k : Nat) (h i : Int), d < k → 0 ≤ i → (t.size : Int) - i = d → 0 ≤ h → h ≤ 1000003 →
    impl_hashOf.l0 k t h z (t.size : Int) i = some (hashLoop t d i h % z) := by
  induction d with
  | zero =>
    intro k h i hk h0 hd g0 g1
    obtain ⟨k, rfl⟩ : ∃ m, k = m + 1 := ⟨k - 1, by omega⟩
    simp only [impl_hashOf.l0]
    rw [if_neg (by omega), if_neg (by omega), tmod_pos g0]
    rfl
  | succ d ih =>
    intro k h i hk h0 hd g0 g1
    obtain ⟨k, rfl⟩ : ∃ m, k = m + 1 := ⟨k - 1, by omega⟩
    have := bt_lo t i
    have := bt_hi t i
    simp only [impl_hashOf.l0]
    rw [if_pos (by omega), if_pos h0, if_pos (by omega), w64 (x := h * 31) (by omega) (by omega), w64 (x := bt t i) (by omega) (by omega), w64 (x := h * 31 + bt t i) (by omega) (by omega), w64 (x := i + 1) (by omega) (by omega), tmod_pos (by omega),
      ih k _ _ (by omega) (by omega) (by omega) (by omega) (by omega)]
    rfl

theorem sHash (t : ByteArray) (a z : Int) (k : Nat) (hk : 62 < k) : spec_HashOf.f k t a z = some (hashM t a z) := by
  obtain ⟨k, rfl⟩ : ∃ m, k = m + 1 := ⟨k - 1, by omega⟩
  unfold spec_HashOf.f
  simp only [sIn, Option.bind_some, decide_eq_true_eq]
  by_cases h1 : t.size > 60
  · rw [if_pos (by omega), show hashM t a z = -1 from if_pos (Or.inl h1)]
    simp [spec_HashOf.j0]
  · rw [if_neg (by omega)]
    by_cases h2 : 0 ≤ a ∧ a ≤ 5000
    · rw [if_pos h2]
      by_cases h3 : 1 ≤ z ∧ z ≤ 1024
      · rw [show hashM t a z = hashLoop t t.size 0 a % z from if_neg (by omega)]
        simp only [h3, and_self, decide_true, Bool.not_true, spec_HashOf.j0]
        rw [if_neg (by simp)]
        exact sHash_l t (by omega) z (by omega) t.size k a 0 (by omega) (by omega) (by omega) (by omega) (by omega)
      · rw [show hashM t a z = -1 from if_pos (Or.inr (Or.inr h3)), decide_eq_false h3]
        simp [spec_HashOf.j0]
    · rw [if_neg h2, show hashM t a z = -1 from if_pos (Or.inr (Or.inl h2))]
      simp [spec_HashOf.j0]

theorem iHash (t : ByteArray) (a z : Int) (k : Nat) (hk : 62 < k) : impl_HashOf.f k t a z = some (hashM t a z) := by
  unfold impl_HashOf.f impl_hashOf.f
  simp only [iWithin, Option.bind_some, decide_eq_true_eq]
  by_cases h1 : t.size > 60
  · rw [if_pos (by omega), show hashM t a z = -1 from if_pos (Or.inl h1)]
  · rw [if_neg (by omega)]
    by_cases h2 : 0 ≤ a ∧ a ≤ 5000
    · rw [if_pos h2]
      by_cases h3 : 1 ≤ z ∧ z ≤ 1024
      · rw [if_pos h3, show hashM t a z = hashLoop t t.size 0 a % z from if_neg (by omega), iHash_l t (by omega) z (by omega) t.size k a 0 (by omega) (by omega) (by omega) (by omega) (by omega)]
        rfl
      · rw [if_neg h3, show hashM t a z = -1 from if_pos (Or.inr (Or.inr h3))]
    · rw [if_neg h2, show hashM t a z = -1 from if_pos (Or.inr (Or.inl h2))]
theorem szStringS_l (l : List ByteArray) (hs : ∀ s ∈ l, s.size ≤ maxLen) (hl : l.length ≤ 1048576) (d : Nat) : ∀ (k : Nat) (x i : Int), d < k → 0 ≤ i → (l.length : Int) - i = d → 0 ≤ x → x ≤ 1048576 → ∃ r, laws_szStringS.l0 k l x i = some r ∧ -1 ≤ r := by
  induction d with
  | zero =>
    intro k x i hk h0 hd g0 g1
    obtain ⟨k, rfl⟩ : ∃ m, k = m + 1 := ⟨k - 1, by omega⟩
    refine ⟨x, ?_, by omega⟩
    simp only [laws_szStringS.l0]
    rw [if_neg (by omega)]
  | succ d ih =>
    intro k x i hk h0 hd g0 g1
    obtain ⟨k, rfl⟩ : ∃ m, k = m + 1 := ⟨k - 1, by omega⟩
    have hi : i.toNat < l.length := by omega
    have e : rdOf ByteArray.empty l i = l[i.toNat] := by
      unfold rdOf
      rw [List.getD_eq_getElem?_getD, List.getElem?_eq_getElem hi]
      rfl
    have hz := hs l[i.toNat] (List.getElem_mem hi)
    unfold maxLen at hz
    simp only [laws_szStringS.l0, e]
    rw [if_pos (by omega), if_pos h0, w64 (x := x - (l[i.toNat].size : Int)) (by omega) (by omega)]
    by_cases h : x - (l[i.toNat].size : Int) < 0
    · exact ⟨-1, by rw [if_pos h], by omega⟩
    · rw [if_neg h, w64 (x := i + 1) (by omega) (by omega)]
      exact ih k _ _ (by omega) (by omega) (by omega) (by omega) (by omega)
theorem szStringS (l : List ByteArray) (n : Int) (hn : 0 ≤ n ∧ n ≤ 1048576) (g : l.length ≤ maxLen ∧ ∀ s ∈ l, s.size ≤ maxLen) (k : Nat) (hk : l.length < k) : ∃ r, laws_szStringS.f k l n = some r ∧ -1 ≤ r ∧ (0 ≤ r → l.length ≤ 1048576) := by
  have hl := g.1
  unfold maxLen at hl
  unfold laws_szStringS.f
  rw [w64 (x := n - (l.length : Int)) (by omega) (by omega)]
  by_cases h : n - (l.length : Int) < 0
  · exact ⟨-1, by rw [if_pos h], by omega, by omega⟩
  · rw [if_neg h]
    obtain ⟨r, e, h1⟩ := szStringS_l l g.2 (by omega) l.length k (n - (l.length : Int)) 0 hk (by omega) (by omega) (by omega) (by omega)
    exact ⟨r, e, h1, fun _ => by omega⟩
theorem toStringS_l (l : List ByteArray) (hl : l.length ≤ 1048576) (d : Nat) : ∀ (k : Nat) (acc : List ByteArray) (i : Int), d < k → 0 ≤ i → (l.length : Int) - i = d → acc.length = l.length →
    laws_toStringS.l0 k l acc i = some (acc.take i.toNat ++ l.drop i.toNat) := by
  induction d with
  | zero =>
    intro k acc i hk h0 hd ha
    obtain ⟨k, rfl⟩ : ∃ m, k = m + 1 := ⟨k - 1, by omega⟩
    simp only [laws_toStringS.l0]
    rw [if_neg (by omega), List.take_of_length_le (by omega), List.drop_eq_nil_of_le (by omega), List.append_nil]
  | succ d ih =>
    intro k acc i hk h0 hd ha
    obtain ⟨k, rfl⟩ : ∃ m, k = m + 1 := ⟨k - 1, by omega⟩
    simp only [laws_toStringS.l0]
    rw [if_pos (by omega), if_pos h0, if_pos (by omega), w64 (by omega) (by omega), ih k _ _ (by omega) (by omega) (by omega) (by simpa using ha)]
    have e : (i + 1).toNat = i.toNat + 1 := by omega
    have hi : i.toNat < l.length := by omega
    have e2 : rdOf ByteArray.empty l i = l[i.toNat] := by
      unfold rdOf
      rw [List.getD_eq_getElem?_getD, List.getElem?_eq_getElem hi]
      rfl
    rw [e, e2, List.take_succ_eq_append_getElem (by simp; omega), List.take_set_of_le (Nat.le_refl _), List.getElem_set_self, List.append_assoc, List.singleton_append]
    congr 2
    rw [List.drop_eq_getElem_cons (i := i.toNat) hi]
theorem toStringS (l : List ByteArray) (hl : l.length ≤ 1048576) (k : Nat) (hk : l.length < k) : laws_toStringS.f k l = some l := by
  unfold laws_toStringS.f
  rw [if_pos (by omega), if_pos (by omega), toStringS_l l hl l.length k _ 0 hk (by omega) (by omega) (by simp)]
  simp
theorem eqStringS_l (l : List ByteArray) (hl : (l.length : Int) ≤ 1099511627776) (d : Nat) : ∀ (k : Nat) (i : Int), d < k → 0 ≤ i → (l.length : Int) - i = d → laws_eqStringS.l0 k l l i = some true := by
  induction d with
  | zero =>
    intro k i hk h0 hd
    obtain ⟨k, rfl⟩ : ∃ m, k = m + 1 := ⟨k - 1, by omega⟩
    simp only [laws_eqStringS.l0]
    rw [if_neg (by omega)]
  | succ d ih =>
    intro k i hk h0 hd
    obtain ⟨k, rfl⟩ : ∃ m, k = m + 1 := ⟨k - 1, by omega⟩
    simp only [laws_eqStringS.l0]
    rw [if_pos (by omega), if_pos h0, if_pos (by omega)]
    simp only [if_true]
    rw [w64 (by omega) (by omega)]
    exact ih k _ (by omega) (by omega) (by omega)
theorem eqStringS_same (l : List ByteArray) (hl : (l.length : Int) ≤ 1099511627776) (k : Nat) (hk : l.length < k) : laws_eqStringS.f k l l = some true := by
  unfold laws_eqStringS.f
  simp only [if_true]
  exact eqStringS_l l hl l.length k 0 hk (by omega) (by omega)
theorem rdOf_slot (l : List ByteArray) (i : Nat) : rdOf ByteArray.empty l (i : Int) = slot l i := by
  unfold rdOf slot
  rw [Int.toNat_natCast]
open Classical in
theorem sKwOk_l (l : List ByteArray) (seed : Int) (hl : l.length ≤ 1024) (d : Nat) : ∀ (k : Nat) (i : Nat), d + 63 < k → l.length - i = d → i ≤ l.length →
    spec_KeywordsOk.l0 k (l.length : Int) (i : Int) seed l = some (decide (kwFrom seed l i)) := by
  induction d with
  | zero =>
    intro k i hk hd hi
    obtain ⟨k, rfl⟩ : ∃ m, k = m + 1 := ⟨k - 1, by omega⟩
    simp only [spec_KeywordsOk.l0]
    rw [if_neg (by omega), decide_eq_true (kwFrom_end (by omega))]
  | succ d ih =>
    intro k i hk hd hi
    obtain ⟨k, rfl⟩ : ∃ m, k = m + 1 := ⟨k - 1, by omega⟩
    have hlt : i < l.length := by omega
    have hst := kwFrom_step (seed := seed) hlt
    have en : wrap64 ((i : Int) + 1) = ((i + 1 : Nat) : Int) := by rw [w64 (by omega) (by omega)]; omega
    have go : kwAt seed l i → spec_KeywordsOk.l0 k (l.length : Int) (wrap64 ((i : Int) + 1)) seed l = some (decide (kwFrom seed l i)) := by
      intro g
      rw [en, ih k (i + 1) (by omega) (by omega) (by omega)]
      congr 1
      exact decide_eq_decide.2 ⟨fun h => hst.2 ⟨g, h⟩, fun h => (hst.1 h).2⟩
    simp only [spec_KeywordsOk.l0, rdOf_slot]
    rw [if_pos (by omega), if_pos (by omega), if_pos (by omega)]
    by_cases h1 : (slot l i).toList = []
    · rw [if_pos h1]
      exact go (.inl h1)
    · rw [if_neg h1, sHash _ _ _ _ (by omega)]
      simp only [Option.bind_some]
      by_cases h2 : hashM (slot l i) seed l.length = i
      · rw [if_pos h2]
        exact go (.inr h2)
      · rw [if_neg h2, decide_eq_false]
        intro h
        rcases (hst.1 h).1 with g | g
        · exact h1 g
        · exact h2 g
open Classical in
theorem sKwOk (l : List ByteArray) (seed : Int) (hl : l.length ≤ 1048576) (k : Nat) (hk : 1090 < k) : spec_KeywordsOk.f k seed l = some (decide (kwOk seed l)) := by
  obtain ⟨k, rfl⟩ : ∃ m, k = m + 1 := ⟨k - 1, by omega⟩
  unfold spec_KeywordsOk.f
  simp only [sIn, Option.bind_some, decide_eq_true_eq]
  by_cases h1 : 0 ≤ seed ∧ seed ≤ 5000
  · rw [if_pos h1]
    by_cases h2 : (l.length : Int) < 1
    · rw [if_pos h2, decide_eq_false (by unfold kwOk; omega)]
      simp [spec_KeywordsOk.j0]
    · rw [if_neg h2]
      by_cases h3 : (l.length : Int) > 1024
      · rw [decide_eq_true h3, decide_eq_false (by unfold kwOk; omega)]
        simp [spec_KeywordsOk.j0]
      · rw [decide_eq_false h3]
        simp only [spec_KeywordsOk.j0]
        rw [if_neg (by simp)]
        have e : spec_KeywordsOk.l0 k (l.length : Int) 0 seed l = some (decide (kwFrom seed l 0)) := sKwOk_l l seed (by omega) l.length k 0 (by omega) (by omega) (by omega)
        rw [e]
        congr 1
        exact decide_eq_decide.2 ⟨fun h => ⟨h1, by omega, h⟩, fun h => h.2.2⟩
  · rw [if_neg h1, decide_eq_false (by unfold kwOk; omega)]
    simp [spec_KeywordsOk.j0]
open Classical in
theorem iKwOk_l (l : List ByteArray) (seed : Int) (hl : l.length ≤ 1024) (d : Nat) : ∀ (k : Nat) (i : Nat), d + 63 < k → l.length - i = d → i ≤ l.length →
    impl_KeywordsOk.l0 k l (l.length : Int) (i : Int) seed l = some (decide (kwFrom seed l i)) := by
  induction d with
  | zero =>
    intro k i hk hd hi
    obtain ⟨k, rfl⟩ : ∃ m, k = m + 1 := ⟨k - 1, by omega⟩
    simp only [impl_KeywordsOk.l0]
    rw [if_neg (by omega), decide_eq_true (kwFrom_end (by omega))]
  | succ d ih =>
    intro k i hk hd hi
    obtain ⟨k, rfl⟩ : ∃ m, k = m + 1 := ⟨k - 1, by omega⟩
    have hlt : i < l.length := by omega
    have hst := kwFrom_step (seed := seed) hlt
    have en : wrap64 ((i : Int) + 1) = ((i + 1 : Nat) : Int) := by rw [w64 (by omega) (by omega)]; omega
    have go : kwAt seed l i → impl_KeywordsOk.l0 k l (l.length : Int) (wrap64 ((i : Int) + 1)) seed l = some (decide (kwFrom seed l i)) := by
      intro g
      rw [en, ih k (i + 1) (by omega) (by omega) (by omega)]
      congr 1
      exact decide_eq_decide.2 ⟨fun h => hst.2 ⟨g, h⟩, fun h => (hst.1 h).2⟩
    simp only [impl_KeywordsOk.l0, rdOf_slot, impl_size_string.f, Option.bind_some]
    rw [if_pos (by omega), if_pos (by omega), if_pos (by omega)]
    by_cases h1 : (slot l i).toList = []
    · rw [if_pos h1]
      exact go (.inl h1)
    · rw [if_neg h1, iHash _ _ _ _ (by omega)]
      simp only [Option.bind_some]
      by_cases h2 : hashM (slot l i) seed l.length = i
      · rw [if_pos h2]
        exact go (.inr h2)
      · rw [if_neg h2, decide_eq_false]
        intro h
        rcases (hst.1 h).1 with g | g
        · exact h1 g
        · exact h2 g
open Classical in
theorem iKwOk (l : List ByteArray) (seed : Int) (hl : l.length ≤ 1048576) (k : Nat) (hk : 1090 < k) : impl_KeywordsOk.f k seed l = some (decide (kwOk seed l)) := by
  obtain ⟨k, rfl⟩ : ∃ m, k = m + 1 := ⟨k - 1, by omega⟩
  unfold impl_KeywordsOk.f
  simp only [iWithin, impl_size_string.f, Option.bind_some, decide_eq_true_eq]
  by_cases h1 : 0 ≤ seed ∧ seed ≤ 5000
  · rw [if_pos h1]
    by_cases h2 : 1 ≤ (l.length : Int) ∧ (l.length : Int) ≤ 1024
    · rw [decide_eq_true h2]
      simp only [impl_KeywordsOk.j0, Bool.not_true]
      rw [if_neg (by simp)]
      have e : impl_KeywordsOk.l0 k l (l.length : Int) 0 seed l = some (decide (kwFrom seed l 0)) := iKwOk_l l seed (by omega) l.length k 0 (by omega) (by omega) (by omega)
      rw [e]
      congr 1
      exact decide_eq_decide.2 ⟨fun h => ⟨h1, by omega, h⟩, fun h => h.2.2⟩
    · rw [decide_eq_false h2, decide_eq_false (by unfold kwOk; omega)]
      simp [impl_KeywordsOk.j0]
  · rw [if_neg h1, decide_eq_false (by unfold kwOk; omega)]
    simp [impl_KeywordsOk.j0]
theorem toKeywords (l : List ByteArray) (seed : Int) (hl : l.length ≤ 1048576) (k : Nat) (hk : l.length < k) : laws_toKeywords.f k seed l = some (seed, l) := by
  unfold laws_toKeywords.f
  rw [toStringS l hl k hk]
  rfl
theorem eqKeywords (l : List ByteArray) (seed : Int) (hl : l.length ≤ 1048576) (k : Nat) (hk : l.length < k) : laws_eqKeywords.f k seed l seed l = some true := by
  unfold laws_eqKeywords.f
  simp only [if_true]
  rw [eqStringS_same l (by omega) k hk]
  rfl
theorem szKeywords (l : List ByteArray) (seed : Int) (g : l.length ≤ maxLen ∧ ∀ s ∈ l, s.size ≤ maxLen) (k : Nat) (hk : l.length < k) : ∃ r, laws_szKeywords.f k seed l 1048576 = some r ∧ (0 ≤ r → l.length ≤ 1048576) := by
  obtain ⟨r, e, h1, h2⟩ := szStringS l 1048576 (by omega) g k hk
  unfold laws_szKeywords.f
  rw [e]
  simp only [Option.bind_some]
  by_cases h : r < 0
  · exact ⟨-1, by rw [if_pos h], by omega⟩
  · exact ⟨r, by rw [if_neg h], h2⟩

open Classical in
theorem sKwAt (l : List ByteArray) (seed : Int) (w : ByteArray) (hl : l.length ≤ 1048576) (k : Nat) (hk : 1100 < k) : spec_KeywordAt.f k seed l w = some (kwFind seed l w) := by
  obtain ⟨k, rfl⟩ : ∃ m, k = m + 1 := ⟨k - 1, by omega⟩
  unfold spec_KeywordAt.f kwFind
  rw [sKwOk l seed hl _ (by omega)]
  simp only [Option.bind_some, decide_eq_true_eq]
  by_cases h : kwOk seed l
  · rw [if_pos h]
    by_cases hw : w.toList = []
    · rw [if_neg (by simp [hw])]
      simp [hw, spec_KeywordAt.j0]
    · rw [if_pos ⟨h, hw⟩]
      have e : (w.toList == ([] : List UInt8)) = false := by simpa using hw
      simp only [e, spec_KeywordAt.j0]
      rw [if_neg (by simp), sHash _ _ _ _ (by omega)]
      simp only [Option.bind_some]
      have hr := hashM_rng w seed l.length
      by_cases h0 : hashM w seed l.length < 0
      · rw [if_pos h0, if_neg (by omega)]
      · rw [if_neg h0, if_pos (by omega), if_pos (by omega)]
        have e2 : rdOf ByteArray.empty l (hashM w seed l.length) = slot l (hashM w seed l.length).toNat := rfl
        rw [e2]
        by_cases h3 : (slot l (hashM w seed l.length).toNat).toList = w.toList
        · rw [if_pos h3, if_pos ⟨by omega, str_inj h3⟩]
        · rw [if_neg h3, if_neg (fun g => h3 (by rw [g.2]))]
  · rw [if_neg h, if_neg (fun g => h g.1)]
    simp [spec_KeywordAt.j0]

open Classical in
theorem iIndex_l (l : List ByteArray) (seed : Int) (w : ByteArray) (hok : kwOk seed l) (hw : w.toList ≠ []) (d : Nat) : ∀ (k : Nat) (i : Nat), d < k → l.length - i = d → i ≤ l.length → (∀ j, j < i → slot l j ≠ w) →
    slices_Index_string_string.l0 k l w (l.length : Int) (i : Int) = some (kwFind seed l w) := by
  have hl := hok.2.1.2
  have hr := hashM_rng w seed l.length
  induction d with
  | zero =>
    intro k i hk hd hi hp
    obtain ⟨k, rfl⟩ : ∃ m, k = m + 1 := ⟨k - 1, by omega⟩
    simp only [slices_Index_string_string.l0]
    unfold kwFind
    rw [if_neg (by omega), if_pos ⟨hok, hw⟩, if_neg]
    intro g
    exact hp _ (by omega) g.2
  | succ d ih =>
    intro k i hk hd hi hp
    obtain ⟨k, rfl⟩ : ∃ m, k = m + 1 := ⟨k - 1, by omega⟩
    simp only [slices_Index_string_string.l0, rdOf_slot]
    rw [if_pos (by omega), if_pos (by omega), if_pos (by omega)]
    by_cases h : w.toList = (slot l i).toList
    · have e := str_inj h
      rw [if_pos h]
      have ha : hashM w seed l.length = i := by
        rcases hok.2.2 i (by omega) (by omega) with g | g
        · rw [← h] at g
          exact absurd g hw
        · rw [← e] at g
          exact g
      unfold kwFind
      rw [if_pos ⟨hok, hw⟩, if_pos ⟨by omega, by rw [ha, Int.toNat_natCast]; exact e.symm⟩, ha]
    · have en : wrap64 ((i : Int) + 1) = ((i + 1 : Nat) : Int) := by rw [w64 (by omega) (by omega)]; omega
      rw [if_neg h, en]
      refine ih k (i + 1) (by omega) (by omega) (by omega) (fun j hj => ?_)
      rcases Nat.lt_or_eq_of_le (Nat.le_of_lt_succ hj) with h' | h'
      · exact hp j h'
      · rw [h']
        intro g
        exact h (by rw [g])

open Classical in
theorem iKwAt (l : List ByteArray) (seed : Int) (w : ByteArray) (hl : l.length ≤ 1048576) (k : Nat) (hk : 1100 < k) : impl_KeywordAt.f k seed l w = some (kwFind seed l w) := by
  unfold impl_KeywordAt.f
  by_cases hw : w.toList = []
  · rw [if_pos hw]
    unfold kwFind
    rw [if_neg (fun g => g.2 hw)]
  · rw [if_neg hw, iKwOk l seed hl _ (by omega)]
    simp only [Option.bind_some, decide_eq_true_eq]
    by_cases h : kwOk seed l
    · rw [if_pos h]
      unfold slices_Index_string_string.f
      have e : slices_Index_string_string.l0 k l w (l.length : Int) 0 = some (kwFind seed l w) := iIndex_l l seed w h hw l.length k 0 (by have := h.2.1.2; omega) (by omega) (by omega) (fun j hj => by omega)
      rw [e]
      rfl
    · rw [if_neg h]
      unfold kwFind
      rw [if_neg (fun g => h g.1)]

theorem FnExactKeywordAt (x : Int × List ByteArray) (g : (Lit.int .i64 x.1).wf = true ∧ x.2.length ≤ maxLen ∧ ∀ s ∈ x.2, s.size ≤ maxLen) (w : ByteArray) (_ : w.size ≤ 140737488351232) : ∃ k, laws_FnExactKeywordAt.f k x.1 x.2 w = some true := by
  obtain ⟨seed, l⟩ := x
  replace g : _ ∧ l.length ≤ maxLen ∧ ∀ s ∈ l, s.size ≤ maxLen := g
  refine ⟨l.length + 2000, ?_⟩
  show laws_FnExactKeywordAt.f _ seed l w = some true
  unfold laws_FnExactKeywordAt.f
  by_cases hw : (w.size : Int) > 1048576
  · rw [if_pos hw]
  · obtain ⟨r, e, h⟩ := szKeywords l seed g.2 (l.length + 2000) (by omega)
    rw [if_neg hw, e]
    simp only [Option.bind_some]
    by_cases hr : r < 0
    · rw [if_pos hr]
    · have hl := h (by omega)
      rw [if_neg hr, toKeywords l seed hl _ (by omega)]
      simp only [Option.bind_some]
      rw [sKwAt l seed w hl _ (by omega), iKwAt l seed w hl _ (by omega)]
      simp only [Option.bind_some, if_true]
      rw [eqKeywords l seed hl _ (by omega)]
      simp
end Go.Proofs.Ytlfhnlghfgjooaa.Pure
