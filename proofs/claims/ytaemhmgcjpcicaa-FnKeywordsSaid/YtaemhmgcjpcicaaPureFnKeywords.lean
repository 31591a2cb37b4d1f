/- Each keyword is found, each at its own slot, and no other word is: whatever the codes. -/
import Derived.Test.YtaemhmgcjpcicaaPFnKeywordsx9
import Derived.Test.YtaemhmgcjpcicaaKit
import Derived.Test.YtaemhmgcjpcicaaKitHash
import Derived.Test.YtaemhmgcjpcicaaKitNums
import Derived.Test.YtaemhmgcjpcicaaKitTot
namespace Go.Proofs.Ytaemhmgcjpcicaa.Pure
open Go.RowKit Go.Proofs.Ytaemhmgcjpcicaa.PFnKeywords Go.Proofs.YtaemhmgcjpcicaaW.PrintWords Go.Proofs.YtaemhmgcjpcicaaW.PrintLast Go.Proofs.YtaemhmgcjpcicaaW.PrintMore Go.Proofs.Ytaemhmgcjpcicaa.Kit
set_option linter.unusedVariables false
theorem sIn (a b c : Int) : spec_l1In.f a b c = some (decide (b ≤ a ∧ a ≤ c)) := by
  unfold spec_l1In.f
  by_cases h : a ≥ b
  · rw [if_pos h]; congr 1; simp; omega
  · rw [if_neg h]; congr 1; simp; omega
theorem iWithin (a b c : Int) : impl_within.f a b c = some (decide (b ≤ a ∧ a ≤ c)) := by
  unfold impl_within.f
  by_cases h : a ≥ b
  · rw [if_pos h]; congr 1; simp; omega
  · rw [if_neg h]; congr 1; simp; omega
theorem sHash_l (t : ByteArray) (ht : t.size ≤ 60) (z : Int) (hz : 1 ≤ z) (d : Nat) : ∀ (k : Nat) (h i : Int), d < k → 0 ≤ i → (t.size : Int) - i = d → 0 ≤ h → h ≤ 1000003 →
    spec_HashOf.l0 k t z h i = some (hashLoop t d i h % z) := by
  induction d with
  | zero =>
    intro k h i hk h0 hd g0 g1
    obtain ⟨k, rfl⟩ : ∃ m, k = m + 1 := ⟨k - 1, by omega⟩
    simp only [spec_HashOf.l0]
    rw [if_neg (by omega), if_neg (by omega), tmod_pos g0]
    rfl
  | succ d ih =>
    intro k h i hk h0 hd g0 g1
    obtain ⟨k, rfl⟩ : ∃ m, k = m + 1 := ⟨k - 1, by omega⟩
    have := bt_lo t i
    have := bt_hi t i
    simp only [spec_HashOf.l0]
    rw [if_pos (by omega), if_pos h0, w64 (x := h * 31) (by omega) (by omega), w64 (x := bt t i) (by omega) (by omega), w64 (x := h * 31 + bt t i) (by omega) (by omega), w64 (x := i + 1) (by omega) (by omega), tmod_pos (by omega),
      ih k _ _ (by omega) (by omega) (by omega) (by omega) (by omega)]
    rfl

theorem iHash_l (t : ByteArray) (ht : t.size ≤ 60) (z : Int) (hz : 1 ≤ z) (d : Nat) : ∀ (k : Nat) (h i : Int), d < k → 0 ≤ i → (t.size : Int) - i = d → 0 ≤ h → h ≤ 1000003 →
    impl_hashOf.l0 k t h z (t.size : Int) i = some (hashLoop t d i h % z) := by
  induction d with
  | zero =>
    intro k h i hk h0 hd g0 g1
    obtain ⟨k, rfl⟩ : ∃ m, k = m + 1 := ⟨k - 1, by omega⟩
    simp only [impl_hashOf.l0]
    rw [if_neg (by omega), if_neg (by omega), tmod_pos g0]
    rfl
  | succ d ih =>
    intro k h i hk h0 hd g0 g1
    obtain ⟨k, rfl⟩ : ∃ m, k = m + 1 := ⟨k - 1, by omega⟩
    have := bt_lo t i
    have := bt_hi t i
    simp only [impl_hashOf.l0]
    rw [if_pos (by omega), if_pos h0, if_pos (by omega), w64 (x := h * 31) (by omega) (by omega), w64 (x := bt t i) (by omega) (by omega), w64 (x := h * 31 + bt t i) (by omega) (by omega), w64 (x := i + 1) (by omega) (by omega), tmod_pos (by omega),
      ih k _ _ (by omega) (by omega) (by omega) (by omega) (by omega)]
    rfl

theorem sHash (t : ByteArray) (a z : Int) (k : Nat) (hk : 62 < k) : spec_HashOf.f k t a z = some (hashM t a z) := by
  obtain ⟨k, rfl⟩ : ∃ m, k = m + 1 := ⟨k - 1, by omega⟩
  unfold spec_HashOf.f
  simp only [sIn, Option.bind_some, decide_eq_true_eq]
  by_cases h1 : t.size > 60
  · rw [if_pos (by omega), show hashM t a z = -1 from if_pos (Or.inl h1)]
    simp [spec_HashOf.j0]
  · rw [if_neg (by omega)]
    by_cases h2 : 0 ≤ a ∧ a ≤ 5000
    · rw [if_pos h2]
      by_cases h3 : 1 ≤ z ∧ z ≤ 1024
      · rw [show hashM t a z = hashLoop t t.size 0 a % z from if_neg (by omega)]
        simp only [h3, and_self, decide_true, Bool.not_true, spec_HashOf.j0]
        rw [if_neg (by simp)]
        exact sHash_l t (by omega) z (by omega) t.size k a 0 (by omega) (by omega) (by omega) (by omega) (by omega)
      · rw [show hashM t a z = -1 from if_pos (Or.inr (Or.inr h3)), decide_eq_false h3]
        simp [spec_HashOf.j0]
    · rw [if_neg h2, show hashM t a z = -1 from if_pos (Or.inr (Or.inl h2))]
      simp [spec_HashOf.j0]
theorem iHash (t : ByteArray) (a z : Int) (k : Nat) (hk : 62 < k) : impl_HashOf.f k t a z = some (hashM t a z) := by
  unfold impl_HashOf.f impl_hashOf.f
  simp only [iWithin, Option.bind_some, decide_eq_true_eq]
  by_cases h1 : t.size > 60
  · rw [if_pos (by omega), show hashM t a z = -1 from if_pos (Or.inl h1)]
  · rw [if_neg (by omega)]
    by_cases h2 : 0 ≤ a ∧ a ≤ 5000
    · rw [if_pos h2]
      by_cases h3 : 1 ≤ z ∧ z ≤ 1024
      · rw [if_pos h3, show hashM t a z = hashLoop t t.size 0 a % z from if_neg (by omega), iHash_l t (by omega) z (by omega) t.size k a 0 (by omega) (by omega) (by omega) (by omega) (by omega)]
        rfl
      · rw [if_neg h3, show hashM t a z = -1 from if_pos (Or.inr (Or.inr h3))]
    · rw [if_neg h2, show hashM t a z = -1 from if_pos (Or.inr (Or.inl h2))]
theorem rdOf_slot (l : List ByteArray) (i : Nat) : rdOf ByteArray.empty l (i : Int) = slot l i := by
  unfold rdOf slot
  rw [Int.toNat_natCast]
open Classical in
theorem sKwOk_l (l : List ByteArray) (seed : Int) (hl : l.length ≤ 1024) (d : Nat) : ∀ (k : Nat) (i : Nat), d + 63 < k → l.length - i = d → i ≤ l.length →
    spec_KeywordsOk.l0 k (l.length : Int) (i : Int) seed l = some (decide (kwFrom seed l i)) := by
  induction d with
  | zero =>
    intro k i hk hd hi
    obtain ⟨k, rfl⟩ : ∃ m, k = m + 1 := ⟨k - 1, by omega⟩
    simp only [spec_KeywordsOk.l0]
    rw [if_neg (by omega), decide_eq_true (kwFrom_end (by omega))]
  | succ d ih =>
    intro k i hk hd hi
    obtain ⟨k, rfl⟩ : ∃ m, k = m + 1 := ⟨k - 1, by omega⟩
    have hlt : i < l.length := by omega
    have hst := kwFrom_step (seed := seed) hlt
    have en : wrap64 ((i : Int) + 1) = ((i + 1 : Nat) : Int) := by rw [w64 (by omega) (by omega)]; omega
    have go : kwAt seed l i → spec_KeywordsOk.l0 k (l.length : Int) (wrap64 ((i : Int) + 1)) seed l = some (decide (kwFrom seed l i)) := by
      intro g
      rw [en, ih k (i + 1) (by omega) (by omega) (by omega)]
      congr 1
      exact decide_eq_decide.2 ⟨fun h => hst.2 ⟨g, h⟩, fun h => (hst.1 h).2⟩
    simp only [spec_KeywordsOk.l0, rdOf_slot]
    rw [if_pos (by omega), if_pos (by omega), if_pos (by omega)]
    by_cases h1 : (slot l i).toList = []
    · rw [if_pos h1]
      exact go (.inl h1)
    · rw [if_neg h1, sHash _ _ _ _ (by omega)]
      simp only [Option.bind_some]
      by_cases h2 : hashM (slot l i) seed l.length = i
      · rw [if_pos h2]
        exact go (.inr h2)
      · rw [if_neg h2, decide_eq_false]
        intro h
        rcases (hst.1 h).1 with g | g
        · exact h1 g
        · exact h2 g
open Classical in
theorem sKwOk (l : List ByteArray) (seed : Int) (hl : l.length ≤ 1048576) (k : Nat) (hk : 1090 < k) : spec_KeywordsOk.f k seed l = some (decide (kwOk seed l)) := by
  obtain ⟨k, rfl⟩ : ∃ m, k = m + 1 := ⟨k - 1, by omega⟩
  unfold spec_KeywordsOk.f
  simp only [sIn, Option.bind_some, decide_eq_true_eq]
  by_cases h1 : 0 ≤ seed ∧ seed ≤ 5000
  · rw [if_pos h1]
    by_cases h2 : (l.length : Int) < 1
    · rw [if_pos h2, decide_eq_false (by unfold kwOk; omega)]
      simp [spec_KeywordsOk.j0]
    · rw [if_neg h2]
      by_cases h3 : (l.length : Int) > 1024
      · rw [decide_eq_true h3, decide_eq_false (by unfold kwOk; omega)]
        simp [spec_KeywordsOk.j0]
      · rw [decide_eq_false h3]
        simp only [spec_KeywordsOk.j0]
        rw [if_neg (by simp)]
        have e : spec_KeywordsOk.l0 k (l.length : Int) 0 seed l = some (decide (kwFrom seed l 0)) := sKwOk_l l seed (by omega) l.length k 0 (by omega) (by omega) (by omega)
        rw [e]
        congr 1
        exact decide_eq_decide.2 ⟨fun h => ⟨h1, by omega, h⟩, fun h => h.2.2⟩
  · rw [if_neg h1, decide_eq_false (by unfold kwOk; omega)]
    simp [spec_KeywordsOk.j0]
open Classical in
theorem iKwOk_l (l : List ByteArray) (seed : Int) (hl : l.length ≤ 1024) (d : Nat) : ∀ (k : Nat) (i : Nat), d + 63 < k → l.length - i = d → i ≤ l.length →
    impl_KeywordsOk.l0 k l (l.length : Int) (i : Int) seed l = some (decide (kwFrom seed l i)) := by
  induction d with
  | zero =>
    intro k i hk hd hi
    obtain ⟨k, rfl⟩ : ∃ m, k = m + 1 := ⟨k - 1, by omega⟩
    simp only [impl_KeywordsOk.l0]
    rw [if_neg (by omega), decide_eq_true (kwFrom_end (by omega))]
  | succ d ih =>
    intro k i hk hd hi
    obtain ⟨k, rfl⟩ : ∃ m, k = m + 1 := ⟨k - 1, by omega⟩
    have hlt : i < l.length := by omega
    have hst := kwFrom_step (seed := seed) hlt
    have en : wrap64 ((i : Int) + 1) = ((i + 1 : Nat) : Int) := by rw [w64 (by omega) (by omega)]; omega
    have go : kwAt seed l i → impl_KeywordsOk.l0 k l (l.length : Int) (wrap64 ((i : Int) + 1)) seed l = some (decide (kwFrom seed l i)) := by
      intro g
      rw [en, ih k (i + 1) (by omega) (by omega) (by omega)]
      congr 1
      exact decide_eq_decide.2 ⟨fun h => hst.2 ⟨g, h⟩, fun h => (hst.1 h).2⟩
    simp only [impl_KeywordsOk.l0, rdOf_slot, impl_size_string.f, Option.bind_some]
    rw [if_pos (by omega), if_pos (by omega), if_pos (by omega)]
    by_cases h1 : (slot l i).toList = []
    · rw [if_pos h1]
      exact go (.inl h1)
    · rw [if_neg h1, iHash _ _ _ _ (by omega)]
      simp only [Option.bind_some]
      by_cases h2 : hashM (slot l i) seed l.length = i
      · rw [if_pos h2]
        exact go (.inr h2)
      · rw [if_neg h2, decide_eq_false]
        intro h
        rcases (hst.1 h).1 with g | g
        · exact h1 g
        · exact h2 g
open Classical in
theorem iKwOk (l : List ByteArray) (seed : Int) (hl : l.length ≤ 1048576) (k : Nat) (hk : 1090 < k) : impl_KeywordsOk.f k seed l = some (decide (kwOk seed l)) := by
  obtain ⟨k, rfl⟩ : ∃ m, k = m + 1 := ⟨k - 1, by omega⟩
  unfold impl_KeywordsOk.f
  simp only [iWithin, impl_size_string.f, Option.bind_some, decide_eq_true_eq]
  by_cases h1 : 0 ≤ seed ∧ seed ≤ 5000
  · rw [if_pos h1]
    by_cases h2 : 1 ≤ (l.length : Int) ∧ (l.length : Int) ≤ 1024
    · rw [decide_eq_true h2]
      simp only [impl_KeywordsOk.j0, Bool.not_true]
      rw [if_neg (by simp)]
      have e : impl_KeywordsOk.l0 k l (l.length : Int) 0 seed l = some (decide (kwFrom seed l 0)) := iKwOk_l l seed (by omega) l.length k 0 (by omega) (by omega) (by omega)
      rw [e]
      congr 1
      exact decide_eq_decide.2 ⟨fun h => ⟨h1, by omega, h⟩, fun h => h.2.2⟩
    · rw [decide_eq_false h2, decide_eq_false (by unfold kwOk; omega)]
      simp [impl_KeywordsOk.j0]
  · rw [if_neg h1, decide_eq_false (by unfold kwOk; omega)]
    simp [impl_KeywordsOk.j0]
open Classical in
theorem sKwAt (l : List ByteArray) (seed : Int) (w : ByteArray) (hl : l.length ≤ 1048576) (k : Nat) (hk : 1100 < k) : spec_KeywordAt.f k seed l w = some (kwFind seed l w) := by
  obtain ⟨k, rfl⟩ : ∃ m, k = m + 1 := ⟨k - 1, by omega⟩
  unfold spec_KeywordAt.f kwFind
  rw [sKwOk l seed hl _ (by omega)]
  simp only [Option.bind_some, decide_eq_true_eq]
  by_cases h : kwOk seed l
  · rw [if_pos h]
    by_cases hw : w.toList = []
    · rw [if_neg (by simp [hw])]
      simp [hw, spec_KeywordAt.j0]
    · rw [if_pos ⟨h, hw⟩]
      have e : (w.toList == ([] : List UInt8)) = false := by simpa using hw
      simp only [e, spec_KeywordAt.j0]
      rw [if_neg (by simp), sHash _ _ _ _ (by omega)]
      simp only [Option.bind_some]
      have hr := hashM_rng w seed l.length
      by_cases h0 : hashM w seed l.length < 0
      · rw [if_pos h0, if_neg (by omega)]
      · rw [if_neg h0, if_pos (by omega), if_pos (by omega)]
        have e2 : rdOf ByteArray.empty l (hashM w seed l.length) = slot l (hashM w seed l.length).toNat := rfl
        rw [e2]
        by_cases h3 : (slot l (hashM w seed l.length).toNat).toList = w.toList
        · rw [if_pos h3, if_pos ⟨by omega, str_inj h3⟩]
        · rw [if_neg h3, if_neg (fun g => h3 (by rw [g.2]))]
  · rw [if_neg h, if_neg (fun g => h g.1)]
    simp [spec_KeywordAt.j0]

open Classical in
theorem iIndex_l (l : List ByteArray) (seed : Int) (w : ByteArray) (hok : kwOk seed l) (hw : w.toList ≠ []) (d : Nat) : ∀ (k : Nat) (i : Nat), d < k → l.length - i = d → i ≤ l.length → (∀ j, j < i → slot l j ≠ w) →
    slices_Index_string_string.l0 k l w (l.length : Int) (i : Int) = some (kwFind seed l w) := by
  have hl := hok.2.1.2
  have hr := hashM_rng w seed l.length
  induction d with
  | zero =>
    intro k i hk hd hi hp
    obtain ⟨k, rfl⟩ : ∃ m, k = m + 1 := ⟨k - 1, by omega⟩
    simp only [slices_Index_string_string.l0]
    unfold kwFind
    rw [if_neg (by omega), if_pos ⟨hok, hw⟩, if_neg]
    intro g
    exact hp _ (by omega) g.2
  | succ d ih =>
    intro k i hk hd hi hp
    obtain ⟨k, rfl⟩ : ∃ m, k = m + 1 := ⟨k - 1, by omega⟩
    simp only [slices_Index_string_string.l0, rdOf_slot]
    rw [if_pos (by omega), if_pos (by omega), if_pos (by omega)]
    by_cases h : w.toList = (slot l i).toList
    · have e := str_inj h
      rw [if_pos h]
      have ha : hashM w seed l.length = i := by
        rcases hok.2.2 i (by omega) (by omega) with g | g
        · rw [← h] at g
          exact absurd g hw
        · rw [← e] at g
          exact g
      unfold kwFind
      rw [if_pos ⟨hok, hw⟩, if_pos ⟨by omega, by rw [ha, Int.toNat_natCast]; exact e.symm⟩, ha]
    · have en : wrap64 ((i : Int) + 1) = ((i + 1 : Nat) : Int) := by rw [w64 (by omega) (by omega)]; omega
      rw [if_neg h, en]
      refine ih k (i + 1) (by omega) (by omega) (by omega) (fun j hj => ?_)
      rcases Nat.lt_or_eq_of_le (Nat.le_of_lt_succ hj) with h' | h'
      · exact hp j h'
      · rw [h']
        intro g
        exact h (by rw [g])

open Classical in
theorem iKwAt (l : List ByteArray) (seed : Int) (w : ByteArray) (hl : l.length ≤ 1048576) (k : Nat) (hk : 1100 < k) : impl_KeywordAt.f k seed l w = some (kwFind seed l w) := by
  unfold impl_KeywordAt.f
  by_cases hw : w.toList = []
  · rw [if_pos hw]
    unfold kwFind
    rw [if_neg (fun g => g.2 hw)]
  · rw [if_neg hw, iKwOk l seed hl _ (by omega)]
    simp only [Option.bind_some, decide_eq_true_eq]
    by_cases h : kwOk seed l
    · rw [if_pos h]
      unfold slices_Index_string_string.f
      have e : slices_Index_string_string.l0 k l w (l.length : Int) 0 = some (kwFind seed l w) := iIndex_l l seed w h hw l.length k 0 (by have := h.2.1.2; omega) (by omega) (by omega) (fun j hj => by omega)
      rw [e]
      rfl
    · rw [if_neg h]
      unfold kwFind
      rw [if_neg (fun g => h g.1)]
open Classical in
noncomputable def wordsM (seed : Int) (l : List ByteArray) : List ByteArray := if kwOk seed l then l.filter neW else []
open Classical in
theorem wordsM_len (seed : Int) (l : List ByteArray) : (wordsM seed l).length ≤ l.length := by
  unfold wordsM
  split
  · exact List.length_filter_le _ _
  · exact Nat.zero_le _
open Classical in
theorem iWordsOf (l : List ByteArray) (seed : Int) (hl : l.length ≤ 1048576) (k : Nat) (hk : 1100 < k) : impl_WordsOf.f k seed l = some (wordsM seed l) := by
  unfold impl_WordsOf.f wordsM
  rw [iKwOk l seed hl k (by omega)]
  simp only [Option.bind_some, decide_eq_true_eq]
  by_cases h : kwOk seed l
  · have h1 := h.2.1
    rw [if_pos h, if_pos h, if_pos (by omega)]
  · rw [if_neg h, if_neg h]
open Classical in
theorem sWO_l (l : List ByteArray) (seed : Int) (hl : l.length ≤ 1048576) (hok : kwOk seed l) (d : Nat) : ∀ (k i : Nat) (x : List ByteArray), 2 * d + 1110 < k → l.length - i = d → i ≤ l.length → x.length ≤ i →
    spec_WordsOf.l0 k x (i : Int) seed l = some (x ++ (l.drop i).filter neW) := by
  induction d with
  | zero =>
    intro k i x hk hd hi hx
    obtain ⟨k, rfl⟩ : ∃ m, k = m + 2 := ⟨k - 2, by omega⟩
    simp only [spec_WordsOf.l0]
    rw [sKwOk l seed hl _ (by omega), decide_eq_true hok]
    simp only [Option.bind_some, if_true, spec_WordsOf.j1, decide_eq_true_eq]
    rw [if_neg (by omega), List.drop_eq_nil_of_le (by omega)]
    simp
  | succ d ih =>
    intro k i x hk hd hi hx
    obtain ⟨k, rfl⟩ : ∃ m, k = m + 2 := ⟨k - 2, by omega⟩
    have hlt : i < l.length := by omega
    have e : rdOf ByteArray.empty l (i : Int) = l[i] := by unfold rdOf; rw [Int.toNat_natCast, List.getD_eq_getElem?_getD, List.getElem?_eq_getElem hlt]; rfl
    simp only [spec_WordsOf.l0]
    rw [sKwOk l seed hl _ (by omega), decide_eq_true hok]
    simp only [Option.bind_some, if_true, spec_WordsOf.j1, decide_eq_true_eq, e]
    rw [if_pos (by omega), if_pos (by omega), if_pos (by omega), nat_next (by omega), List.drop_eq_getElem_cons hlt]
    by_cases h : l[i].toList = []
    · have hz : neW l[i] = false := by unfold neW; rw [h]; rfl
      rw [if_pos h, ih k (i + 1) x (by omega) (by omega) (by omega) (by omega), List.filter_cons_of_neg (by rw [hz]; decide)]
    · have hz : neW l[i] = true := by unfold neW; simpa using h
      rw [if_neg h, if_pos (by omega), ih k (i + 1) _ (by omega) (by omega) (by omega) (by rw [List.length_append]; simp; omega), List.filter_cons_of_pos hz]
      simp
open Classical in
theorem sWordsOf (l : List ByteArray) (seed : Int) (hl : l.length ≤ 1048576) (k : Nat) (hk : 2 * l.length + 1110 < k) : spec_WordsOf.f k seed l = some (wordsM seed l) := by
  unfold spec_WordsOf.f wordsM
  by_cases h : kwOk seed l
  · rw [if_pos h]
    have := sWO_l l seed hl h l.length k 0 [] (by omega) (by omega) (by omega) (by simp)
    simpa using this
  · rw [if_neg h]
    obtain ⟨k, rfl⟩ : ∃ m, k = m + 2 := ⟨k - 2, by omega⟩
    simp only [spec_WordsOf.l0]
    rw [sKwOk l seed hl _ (by omega), decide_eq_false h]
    simp [spec_WordsOf.j1]
theorem next_ok {b : List Int} {p : Int} (hb : Bytes b) (hp : At b p) : Tot (spec_l1Rd_next.f b p) (fun r => 0 ≤ r.1 ∧ r.1 ≤ 255 ∧ At b r.2) := by
  have hl := hb.len
  have h0 := hp.1
  have h1 := hp.2
  unfold spec_l1Rd_next.f
  by_cases h : p ≥ (b.length : Int)
  · rw [if_pos h]
    exact Tot.pure ⟨by simp, by simp, hp⟩
  · rw [if_neg h]
    have e : wrap64 (wrap64 (p + 1) - 1) = p := by
      rw [w64 (x := p + 1) (by omega) (by omega), w64 (by omega) (by omega)]
      omega
    rw [e, if_pos h0, if_pos (by omega)]
    have := hb.lo p
    have := hb.hi p
    rw [w64 (x := rd b p) (by omega) (by omega), w64 (x := p + 1) (by omega) (by omega)]
    exact Tot.pure ⟨hb.lo p, hb.hi p, by simp only; omega, by simp only; omega⟩
theorem below_ok {b : List Int} {p : Int} (n : Int) (hb : Bytes b) (hp : At b p) : Tot (spec_l1Rd_below.f b p n) (fun r => 0 ≤ r.1 ∧ (r.1 < n ∨ r.1 = 0) ∧ At b r.2) := by
  unfold spec_l1Rd_below.f
  by_cases h : n ≤ 1
  · rw [if_pos h]
    exact Tot.pure ⟨by simp, by simp, hp⟩
  · rw [if_neg h]
    by_cases h2 : n ≤ 256
    · rw [if_pos h2]
      refine (next_ok hb hp).bind fun v hv => ?_
      rw [if_neg (by omega)]
      obtain ⟨v0, v1, v2⟩ := hv
      have := Int.emod_nonneg v.1 (show n ≠ 0 by omega)
      have := Int.emod_lt_of_pos v.1 (show 0 < n by omega)
      exact Tot.pure ⟨by rw [tmod_pos v0]; omega, by rw [tmod_pos v0]; omega, v2⟩
    · rw [if_neg h2]
      refine (next_ok hb hp).bind fun v hv => ?_
      obtain ⟨v0, v1, v2⟩ := hv
      refine (next_ok hb v2).bind fun u hu => ?_
      obtain ⟨u0, u1, u2⟩ := hu
      rw [if_neg (by omega), w64 (x := v.1 * 256) (by omega) (by omega), w64 (x := v.1 * 256 + u.1) (by omega) (by omega)]
      have := Int.emod_nonneg (v.1 * 256 + u.1) (show n ≠ 0 by omega)
      have := Int.emod_lt_of_pos (v.1 * 256 + u.1) (show 0 < n by omega)
      exact Tot.pure ⟨by rw [tmod_pos (by omega)]; omega, by rw [tmod_pos (by omega)]; omega, u2⟩
theorem once_ok {b : List Int} {p : Int} (n : Int) (hb : Bytes b) (hp : At b p) : Tot (spec_l1Rd_once.f b p n) (fun r => At b r.2) := by
  unfold spec_l1Rd_once.f
  refine (below_ok n hb hp).bind fun v hv => ?_
  exact Tot.pure hv.2.2
theorem word_l {b : List Int} (hb : Bytes b) (d : Nat) : ∀ (k : Nat) (x i p : Int), d < k → 0 ≤ i → 8 - i = d → At b p → Tot (spec_l1Rd_word.l0 k x i b p) (fun r => At b r.2) := by
  induction d with
  | zero =>
    intro k x i p hk h0 hd hp
    obtain ⟨k, rfl⟩ : ∃ m, k = m + 1 := ⟨k - 1, by omega⟩
    simp only [spec_l1Rd_word.l0]
    rw [if_neg (by omega)]
    exact Tot.pure hp
  | succ d ih =>
    intro k x i p hk h0 hd hp
    obtain ⟨k, rfl⟩ : ∃ m, k = m + 1 := ⟨k - 1, by omega⟩
    simp only [spec_l1Rd_word.l0]
    rw [if_pos (by omega)]
    refine (next_ok hb hp).bind fun v hv => ?_
    rw [w64 (x := i + 1) (by omega) (by omega)]
    exact ih k _ (i + 1) _ (by omega) (by omega) (by omega) hv.2.2
theorem word_ok {b : List Int} {p : Int} {k : Nat} (hk : 10 ≤ k) (hb : Bytes b) (hp : At b p) : Tot (spec_l1Rd_word.f k b p) (fun r => At b r.2) := by
  unfold spec_l1Rd_word.f
  exact word_l hb 8 k 0 0 p (by omega) (by omega) (by omega) hp
theorem near_ok {b : List Int} {p : Int} {k : Nat} (lo hi : Int) (h : -4611686018427387904 ≤ lo) (h' : hi ≤ 4611686018427387902) (l' : lo ≤ 4611686018427387904) (g' : -4611686018427387904 ≤ hi) (hk : 10 ≤ k) (hb : Bytes b) (hp : At b p) : Tot (spec_l1Rd_near.f k b p lo hi) (fun r => i64 r.1 ∧ At b r.2) := by
  unfold spec_l1Rd_near.f
  refine (below_ok 8 hb hp).bind fun v hv => ?_
  refine Tot.ite (fun _ => Tot.pure ⟨⟨by simp only; omega, by simp only; omega⟩, hv.2.2⟩) (fun _ => ?_)
  refine Tot.ite (fun _ => Tot.pure ⟨⟨by simp only; omega, by simp only; omega⟩, hv.2.2⟩) (fun _ => ?_)
  refine Tot.ite (fun _ => Tot.pure ⟨⟨by simp only; omega, by simp only; omega⟩, hv.2.2⟩) (fun h3 => ?_)
  refine (word_ok hk hb hv.2.2).bind fun u hu => ?_
  rw [w64 (x := hi - lo) (by omega) (by omega), w64 (x := hi - lo + 1) (by omega) (by omega)]
  have e : IntKind.u64.wrap (hi - lo + 1) = hi - lo + 1 := by
    simp only [IntKind.wrap, IntKind.signed, IntKind.bits]
    first | omega | (simp; omega)
  rw [e, if_neg (by omega)]
  exact Tot.pure ⟨i64_wrap _, hu⟩
theorem off_ok {b : List Int} {p : Int} {k : Nat} (lo hi : Int) (h : -4611686018427387904 ≤ lo) (h' : hi ≤ 4611686018427387902) (l' : lo ≤ 4611686018427387904) (g' : -4611686018427387904 ≤ hi) (hk : 10 ≤ k) (hb : Bytes b) (hp : At b p) : Tot (spec_l1Rd_off.f k b p lo hi) (fun r => i64 r.1 ∧ At b r.2) := by
  unfold spec_l1Rd_off.f
  refine (once_ok 24 hb hp).bind fun v hv => ?_
  refine Tot.ite (fun _ => ?_) (fun _ => ?_)
  · simp only [Option.bind_some]
    refine (below_ok 4 hb hv).bind fun u hu => ?_
    obtain ⟨u0, u1, u2⟩ := hu
    refine Tot.yes u0 (Tot.yes (by simp only [List.length_cons, List.length_nil]; omega) (Tot.pure ⟨?_, u2⟩))
    have : u.1 = 0 ∨ u.1 = 1 ∨ u.1 = 2 ∨ u.1 = 3 := by omega
    rcases this with e | e | e | e <;> simp only [e, rd] <;> simp [i64] <;> first | done | exact i64_wrap _
  · refine (near_ok lo hi h h' l' g' hk hb hv).bind fun u hu => ?_
    exact Tot.pure hu
/-- the slot of a word: what both programs reckon -/
def hslot (t : ByteArray) (a z : Int) : Int := hashLoop t t.size 0 a % z
theorem hslot_rng (t : ByteArray) (a z : Int) (hz : 1 ≤ z) : 0 ≤ hslot t a z ∧ hslot t a z < z := ⟨Int.emod_nonneg _ (by omega), Int.emod_lt_of_pos _ (by omega)⟩
/-- the words from the i-th on, put into slots -/
def putAll (l : List ByteArray) (seed z : Int) : Nat → Nat → List ByteArray → List ByteArray × Bool
  | 0, _, m => (m, true)
  | d + 1, i, m => if (rdOf ByteArray.empty m (hslot (rdOf ByteArray.empty l (i : Int)) seed z)).toList = [] then putAll l seed z d (i + 1) (m.set (hslot (rdOf ByteArray.empty l (i : Int)) seed z).toNat (rdOf ByteArray.empty l (i : Int))) else (m, false)
theorem putAll_len (l : List ByteArray) (seed z : Int) : ∀ (d i : Nat) (m : List ByteArray), (putAll l seed z d i m).1.length = m.length
  | 0, _, _ => rfl
  | d + 1, i, m => by
    unfold putAll
    split
    · rw [putAll_len, List.length_set]
    · rfl
def goodW (l : List ByteArray) : Prop := ∀ i : Nat, i < l.length → (rdOf ByteArray.empty l (i : Int)).size ≤ 60
theorem sTry_l (l : List ByteArray) (hg : goodW l) (hl : l.length ≤ 200) (seed z : Int) (s0 : 0 ≤ seed) (s1 : seed ≤ 5000) (z0 : 1 ≤ z) (z1 : z ≤ 1024) (d : Nat) : ∀ (k i : Nat) (m : List ByteArray), d + 70 < k → l.length - i = d → i ≤ l.length → (m.length : Int) = z →
    spec_l11Try.l0 k l seed z m (i : Int) = some (putAll l seed z d i m) := by
  induction d with
  | zero =>
    intro k i m hk hd hi hm
    obtain ⟨k, rfl⟩ : ∃ m, k = m + 1 := ⟨k - 1, by omega⟩
    simp only [spec_l11Try.l0]
    rw [if_neg (by omega)]
    rfl
  | succ d ih =>
    intro k i m hk hd hi hm
    obtain ⟨k, rfl⟩ : ∃ m, k = m + 1 := ⟨k - 1, by omega⟩
    have hw := hg i (by omega)
    have eh : hashM (rdOf ByteArray.empty l (i : Int)) seed z = hslot (rdOf ByteArray.empty l (i : Int)) seed z := by
      unfold hashM hslot
      rw [if_neg (by omega)]
    have hr := hslot_rng (rdOf ByteArray.empty l (i : Int)) seed z z0
    simp only [spec_l11Try.l0]
    rw [if_pos (by omega), if_pos (by omega), sHash _ _ _ k (by omega), eh]
    simp only [Option.bind_some]
    rw [if_pos hr.1, if_pos (by omega), nat_next (by omega)]
    simp only [putAll]
    by_cases h : (rdOf ByteArray.empty m (hslot (rdOf ByteArray.empty l (i : Int)) seed z)).toList = []
    · rw [if_pos h, if_pos h]
      exact ih k (i + 1) _ (by omega) (by omega) (by omega) (by rw [List.length_set]; exact hm)
    · rw [if_neg h, if_neg h]
theorem iTry_l (l : List ByteArray) (hg : goodW l) (hl : l.length ≤ 200) (seed z : Int) (s0 : 0 ≤ seed) (s1 : seed ≤ 5000) (z0 : 1 ≤ z) (z1 : z ≤ 1024) (d : Nat) : ∀ (k i : Nat) (m : List ByteArray), d + 70 < k → l.length - i = d → i ≤ l.length → (m.length : Int) = z →
    impl_slotsFor.l0 k seed z m l (l.length : Int) (i : Int) = some (if (putAll l seed z d i m).2 = true then putAll l seed z d i m else ([], false)) := by
  induction d with
  | zero =>
    intro k i m hk hd hi hm
    obtain ⟨k, rfl⟩ : ∃ m, k = m + 1 := ⟨k - 1, by omega⟩
    simp only [impl_slotsFor.l0, putAll, if_true]
    rw [if_neg (by omega)]
  | succ d ih =>
    intro k i m hk hd hi hm
    obtain ⟨k, rfl⟩ : ∃ m, k = m + 1 := ⟨k - 1, by omega⟩
    have hw := hg i (by omega)
    have eh : impl_hashOf.f k (rdOf ByteArray.empty l (i : Int)) seed z = some (hslot (rdOf ByteArray.empty l (i : Int)) seed z) := by
      unfold impl_hashOf.f hslot
      exact iHash_l _ hw z z0 _ k seed 0 (by omega) (by omega) (by omega) s0 (by omega)
    have hr := hslot_rng (rdOf ByteArray.empty l (i : Int)) seed z z0
    simp only [impl_slotsFor.l0]
    rw [if_pos (by omega), if_pos (by omega), if_pos (by omega), eh]
    simp only [Option.bind_some]
    rw [if_pos hr.1, if_pos (by omega), nat_next (by omega)]
    by_cases h : (rdOf ByteArray.empty m (hslot (rdOf ByteArray.empty l (i : Int)) seed z)).toList = []
    · have e : putAll l seed z (d + 1) i m = putAll l seed z d (i + 1) (m.set (hslot (rdOf ByteArray.empty l (i : Int)) seed z).toNat (rdOf ByteArray.empty l (i : Int))) := by
        simp only [putAll]
        rw [if_pos h]
      rw [if_pos h, e]
      exact ih k (i + 1) _ (by omega) (by omega) (by omega) (by rw [List.length_set]; exact hm)
    · have e : putAll l seed z (d + 1) i m = (m, false) := by
        simp only [putAll]
        rw [if_neg h]
      rw [if_neg h, e]
      rfl
def fresh (z : Int) : List ByteArray := List.replicate z.toNat (⟨#[]⟩ : ByteArray)
theorem sTry (l : List ByteArray) (hg : goodW l) (hl : l.length ≤ 200) (seed z : Int) (s0 : 0 ≤ seed) (s1 : seed ≤ 5000) (z0 : 1 ≤ z) (z1 : z ≤ 1024) (k : Nat) (hk : 300 ≤ k) : spec_l11Try.f k l seed z = some (putAll l seed z l.length 0 (fresh z)) := by
  unfold spec_l11Try.f
  rw [if_pos (by omega), if_pos (by omega)]
  exact sTry_l l hg hl seed z s0 s1 z0 z1 l.length k 0 _ (by omega) (by omega) (by omega) (by rw [List.length_replicate]; omega)
theorem iTry (l : List ByteArray) (hg : goodW l) (hl : l.length ≤ 200) (seed z : Int) (s0 : 0 ≤ seed) (s1 : seed ≤ 5000) (z0 : 1 ≤ z) (z1 : z ≤ 1024) (k : Nat) (hk : 300 ≤ k) : impl_slotsFor.f k l seed z = some (if (putAll l seed z l.length 0 (fresh z)).2 = true then putAll l seed z l.length 0 (fresh z) else ([], false)) := by
  unfold impl_slotsFor.f
  rw [if_pos (by omega), if_pos (by omega)]
  exact iTry_l l hg hl seed z s0 s1 z0 z1 l.length k 0 _ (by omega) (by omega) (by omega) (by rw [List.length_replicate]; omega)
/-- the first seed that serves, from one on -/
def seeds (l : List ByteArray) (z : Int) : Nat → Int → Int × List ByteArray × Bool
  | 0, _ => (0, [], false)
  | d + 1, s => if (putAll l s z l.length 0 (fresh z)).2 = true then (s, (putAll l s z l.length 0 (fresh z)).1, true) else seeds l z d (s + 1)
theorem sSeeds (l : List ByteArray) (hg : goodW l) (hl : l.length ≤ 200) (z : Int) (z0 : 1 ≤ z) (z1 : z ≤ 1024) (d : Nat) : ∀ (k : Nat) (s : Int), d + 310 < k → 0 ≤ s → 5001 - s = d → spec_BuildKeywords.l3 k l z s = some (seeds l z d s) := by
  induction d with
  | zero =>
    intro k s hk h0 hd
    obtain ⟨k, rfl⟩ : ∃ m, k = m + 1 := ⟨k - 1, by omega⟩
    simp only [spec_BuildKeywords.l3]
    rw [if_neg (by omega)]
    rfl
  | succ d ih =>
    intro k s hk h0 hd
    obtain ⟨k, rfl⟩ : ∃ m, k = m + 1 := ⟨k - 1, by omega⟩
    simp only [spec_BuildKeywords.l3, seeds]
    rw [if_pos (by omega), sTry l hg hl s z h0 (by omega) z0 z1 k (by omega), w64 (by omega) (by omega)]
    simp only [Option.bind_some]
    by_cases h : (putAll l s z l.length 0 (fresh z)).2 = true
    · rw [if_pos h, if_pos h]
    · rw [if_neg h, if_neg h]
      exact ih k (s + 1) (by omega) (by omega) (by omega)
theorem iSeeds (l : List ByteArray) (hg : goodW l) (hl : l.length ≤ 200) (z : Int) (z0 : 1 ≤ z) (z1 : z ≤ 1024) (d : Nat) : ∀ (k : Nat) (s : Int), d + 310 < k → 0 ≤ s → 5001 - s = d → impl_BuildKeywords.l1 k l z s = some (seeds l z d s) := by
  induction d with
  | zero =>
    intro k s hk h0 hd
    obtain ⟨k, rfl⟩ : ∃ m, k = m + 1 := ⟨k - 1, by omega⟩
    simp only [impl_BuildKeywords.l1]
    rw [if_neg (by omega)]
    rfl
  | succ d ih =>
    intro k s hk h0 hd
    obtain ⟨k, rfl⟩ : ∃ m, k = m + 1 := ⟨k - 1, by omega⟩
    simp only [impl_BuildKeywords.l1, seeds]
    rw [if_pos (by omega), iTry l hg hl s z h0 (by omega) z0 z1 k (by omega), w64 (by omega) (by omega)]
    simp only [Option.bind_some]
    by_cases h : (putAll l s z l.length 0 (fresh z)).2 = true
    · rw [if_pos h, if_pos h, if_pos h]
    · rw [if_neg h, if_neg h]
      simp only [Bool.false_eq_true, if_false]
      exact ih k (s + 1) (by omega) (by omega) (by omega)
/-- doubled while it is less than n -/
def dbl (n : Int) : Nat → Int → Int
  | 0, x => x
  | d + 1, x => if x < n then dbl n d (2 * x) else x
theorem sDbl (l : List ByteArray) (hl : l.length ≤ 200) (res : Int × List ByteArray × Bool) (K : Nat) (z : Int) (G : ∀ k, K ≤ k → spec_BuildKeywords.l3 k l z 0 = some res) : ∀ (d k : Nat) (x : Int), K + d < k → 1 ≤ x → x * 2 ^ d = 1024 → dbl (2 * l.length) d x = z → spec_BuildKeywords.l2 k l x = some res := by
  intro d
  induction d with
  | zero =>
    intro k x hk h0 h1 h2
    obtain ⟨k, rfl⟩ : ∃ m, k = m + 1 := ⟨k - 1, by omega⟩
    simp only [spec_BuildKeywords.l2]
    have h3 : x = 1024 := by simpa using h1
    rw [w64 (x := 2 * (l.length : Int)) (by omega) (by omega), if_neg (by omega)]
    have : x = z := h2
    rw [this]
    exact G k (by omega)
  | succ d ih =>
    intro k x hk h0 h1 h2
    obtain ⟨k, rfl⟩ : ∃ m, k = m + 1 := ⟨k - 1, by omega⟩
    simp only [spec_BuildKeywords.l2]
    simp only [dbl] at h2
    rw [w64 (x := 2 * (l.length : Int)) (by omega) (by omega)]
    by_cases h : x < 2 * (l.length : Int)
    · rw [if_pos h] at h2
      rw [if_pos h, w64 (by omega) (by omega)]
      exact ih k (2 * x) (by omega) (by omega) (by rw [Int.pow_succ] at h1; rw [← h1]; ac_rfl) h2
    · rw [if_neg h] at h2
      rw [if_neg h, h2]
      exact G k (by omega)
theorem iDbl_step (k : Nat) (l : List ByteArray) (x : Int) : impl_BuildKeywords.l0 (k + 1) l x = if x < wrap64 (2 * (l.length : Int)) then impl_BuildKeywords.l0 k l (wrap64 (x * 2)) else impl_BuildKeywords.l1 k l x 0 := by
  have e : impl_size_string.f l = some (l.length : Int) := by rw [impl_size_string.f]
  rw [impl_BuildKeywords.l0, e, Option.bind_some]
theorem iDbl (l : List ByteArray) (hl : l.length ≤ 200) (res : Int × List ByteArray × Bool) (K : Nat) (z : Int) (G : ∀ k, K ≤ k → impl_BuildKeywords.l1 k l z 0 = some res) : ∀ (d k : Nat) (x : Int), K + d < k → 1 ≤ x → x * 2 ^ d = 1024 → dbl (2 * l.length) d x = z → impl_BuildKeywords.l0 k l x = some res := by
  intro d
  induction d with
  | zero =>
    intro k x hk h0 h1 h2
    obtain ⟨k, rfl⟩ : ∃ m, k = m + 1 := ⟨k - 1, by omega⟩
    rw [iDbl_step]
    have h3 : x = 1024 := by simpa using h1
    rw [w64 (x := 2 * (l.length : Int)) (by omega) (by omega), if_neg (by omega)]
    have : x = z := h2
    rw [this]
    exact G k (by omega)
  | succ d ih =>
    intro k x hk h0 h1 h2
    obtain ⟨k, rfl⟩ : ∃ m, k = m + 1 := ⟨k - 1, by omega⟩
    rw [iDbl_step]
    simp only [dbl] at h2
    rw [w64 (x := 2 * (l.length : Int)) (by omega) (by omega)]
    by_cases h : x < 2 * (l.length : Int)
    · rw [if_pos h] at h2
      have e2 : wrap64 (x * 2) = 2 * x := by rw [w64 (by omega) (by omega)]; omega
      rw [if_pos h, e2]
      exact ih k (2 * x) (by omega) (by omega) (by rw [Int.pow_succ] at h1; rw [← h1]; ac_rfl) h2
    · rw [if_neg h] at h2
      rw [if_neg h, h2]
      exact G k (by omega)
theorem dbl_rng (n : Int) : ∀ (d : Nat) (x : Int), 1 ≤ x → x * 2 ^ d ≤ 1024 → 1 ≤ dbl n d x ∧ dbl n d x ≤ 1024
  | 0, x, h0, h1 => by simp at h1; simp only [dbl]; omega
  | d + 1, x, h0, h1 => by
    simp only [dbl]
    have hp : (1 : Int) ≤ 2 ^ (d + 1) := by
      have : (0 : Int) < 2 ^ (d + 1) := Int.pow_pos (by omega)
      omega
    have hx : x ≤ x * 2 ^ (d + 1) := by
      have := Int.mul_le_mul_of_nonneg_left hp (show 0 ≤ x by omega)
      omega
    split
    · exact dbl_rng n d (2 * x) (by omega) (by rw [Int.pow_succ] at h1; rw [show 2 * x * 2 ^ d = x * (2 ^ d * 2) by ac_rfl]; exact h1)
    · omega
/-- what BuildKeywords tells -/
def bkM (l : List ByteArray) : Int × List ByteArray × Bool := if wordsOk l l.length = true ∧ 1 ≤ l.length ∧ l.length ≤ 200 then seeds l (dbl (2 * l.length) 10 1) 5001 0 else (0, [], false)
theorem seeds_rng (l : List ByteArray) (z : Int) (hz : 1 ≤ z ∧ z ≤ 1024) : ∀ (d : Nat) (s : Int), 0 ≤ s → s + d ≤ 5001 → 0 ≤ (seeds l z d s).1 ∧ (seeds l z d s).1 ≤ 5000 ∧ (seeds l z d s).2.1.length ≤ 1024
  | 0, s, _, _ => by simp [seeds]
  | d + 1, s, h0, h1 => by
    simp only [seeds]
    split
    · refine ⟨by simp only; omega, by simp only; omega, ?_⟩
      simp only
      rw [putAll_len, fresh, List.length_replicate]
      omega
    · exact seeds_rng l z hz d (s + 1) (by omega) (by omega)
theorem bkM_rng (l : List ByteArray) : 0 ≤ (bkM l).1 ∧ (bkM l).1 ≤ 5000 ∧ (bkM l).2.1.length ≤ 1024 := by
  unfold bkM
  split
  · exact seeds_rng l _ (dbl_rng _ 10 1 (by omega) (by decide)) 5001 0 (by omega) (by omega)
  · simp
theorem wordsOk_good (l : List ByteArray) : ∀ n, wordsOk l n = true → ∀ i, i < n → (rdOf ByteArray.empty l (i : Int)).toList ≠ [] ∧ (rdOf ByteArray.empty l (i : Int)).size ≤ 60 ∧ ∀ j, j < i → j < l.length → (rdOf ByteArray.empty l (j : Int)).toList ≠ (rdOf ByteArray.empty l (i : Int)).toList
  | 0, _, i, hi => by omega
  | n + 1, h, i, hi => by
    simp only [wordsOk, Bool.and_eq_true, decide_eq_true_eq, Bool.not_eq_true', List.any_eq_false, beq_iff_eq] at h
    obtain ⟨h1, ⟨h2, h3⟩, h4⟩ := h
    by_cases e : i = n
    · subst e
      refine ⟨h2, h3, fun j hj hl => ?_⟩
      have : rdOf ByteArray.empty l (j : Int) = l[j] := by
        unfold rdOf
        rw [Int.toNat_natCast, List.getD_eq_getElem?_getD, List.getElem?_eq_getElem hl]
        rfl
      rw [this]
      exact h4 l[j] (List.mem_iff_getElem.2 ⟨j, by rw [List.length_take]; omega, by rw [List.getElem_take]⟩)
    · exact wordsOk_good l n h1 i (by omega)
theorem iBuild (l : List ByteArray) (k : Nat) (hk : 7000 ≤ k) : impl_BuildKeywords.f k l = some (bkM l) := by
  unfold impl_BuildKeywords.f impl_areWords.f
  simp only [Option.bind_some]
  by_cases h : wordsOk l l.length = true ∧ 1 ≤ l.length ∧ l.length ≤ 200
  · have e : bkM l = seeds l (dbl (2 * l.length) 10 1) 5001 0 := by unfold bkM; rw [if_pos h]
    have hg : goodW l := fun i hi => (wordsOk_good l l.length h.1 i hi).2.1
    have hz := dbl_rng (2 * l.length) 10 1 (by omega) (by decide)
    rw [if_pos (by rw [h.1, decide_eq_true h.2]; rfl), e]
    exact iDbl l h.2.2 _ 5500 _ (fun k hk => iSeeds l hg h.2.2 _ hz.1 hz.2 5001 k 0 (by omega) (by omega) (by omega)) 10 k 1 (by omega) (by omega) (by decide) rfl
  · have e : bkM l = (0, [], false) := by unfold bkM; rw [if_neg h]
    rw [if_neg (by
      rw [Bool.and_eq_true, decide_eq_true_eq]
      exact h), e]
/-- the reference's look at one word against those ahead of it -/
theorem sTwice_l (l : List ByteArray) (i : Nat) (hi : i < l.length) (hl : l.length ≤ 200) (R : Option (Int × List ByteArray × Bool)) (K : Nat) (G : ∀ k, K < k → spec_BuildKeywords.l0 k l ((i + 1 : Nat) : Int) = R) (B : (l.take i).any (fun x => x.toList == (rdOf ByteArray.empty l (i : Int)).toList) = true → R = some (0, [], false)) (d : Nat) :
    ∀ (k j : Nat), K + d + 1 < k → i - j = d → j ≤ i → (∀ j', j' < j → (rdOf ByteArray.empty l (j' : Int)).toList ≠ (rdOf ByteArray.empty l (i : Int)).toList) → spec_BuildKeywords.l1 k l (i : Int) (j : Int) = R := by
  induction d with
  | zero =>
    intro k j hk hd hj hn
    obtain ⟨k, rfl⟩ : ∃ m, k = m + 1 := ⟨k - 1, by omega⟩
    simp only [spec_BuildKeywords.l1]
    rw [if_neg (by omega), nat_next (by omega)]
    exact G k (by omega)
  | succ d ih =>
    intro k j hk hd hj hn
    obtain ⟨k, rfl⟩ : ∃ m, k = m + 1 := ⟨k - 1, by omega⟩
    simp only [spec_BuildKeywords.l1]
    rw [if_pos (by omega), if_pos (by omega), if_pos (by omega), if_pos (by omega), if_pos (by omega), nat_next (by omega)]
    by_cases h : (rdOf ByteArray.empty l (j : Int)).toList = (rdOf ByteArray.empty l (i : Int)).toList
    · rw [if_pos h, B]
      rw [List.any_eq_true]
      have hjl : j < l.length := by omega
      have e : rdOf ByteArray.empty l (j : Int) = l[j] := by
        unfold rdOf
        rw [Int.toNat_natCast, List.getD_eq_getElem?_getD, List.getElem?_eq_getElem hjl]
        rfl
      rw [e] at h
      exact ⟨l[j], List.mem_iff_getElem.2 ⟨j, by rw [List.length_take]; omega, by rw [List.getElem_take]⟩, beq_iff_eq.2 h⟩
    · rw [if_neg h]
      refine ih k (j + 1) (by omega) (by omega) (by omega) (fun j' hj' => ?_)
      by_cases e : j' = j
      · rw [e]; exact h
      · exact hn j' (by omega)
theorem sWords_l (l : List ByteArray) (hl : l.length ≤ 200) (h1 : 1 ≤ l.length) (d : Nat) : ∀ (k i : Nat), d * 210 + 6000 < k → l.length - i = d → i ≤ l.length → wordsOk l i = true → spec_BuildKeywords.l0 k l (i : Int) = some (bkM l) := by
  have bad : ∀ n, n ≤ l.length → wordsOk l n = false → bkM l = (0, [], false) := by
    intro n hn h
    unfold bkM
    rw [if_neg]
    rintro ⟨h2, _⟩
    rw [wordsOk_bad l n l.length h hn] at h2
    cases h2
  induction d with
  | zero =>
    intro k i hk hd hi hw
    obtain ⟨k, rfl⟩ : ∃ m, k = m + 1 := ⟨k - 1, by omega⟩
    obtain rfl : i = l.length := by omega
    simp only [spec_BuildKeywords.l0]
    rw [if_neg (by omega)]
    have e : bkM l = seeds l (dbl (2 * l.length) 10 1) 5001 0 := by unfold bkM; rw [if_pos ⟨hw, h1, hl⟩]
    have hg : goodW l := fun i hi => (wordsOk_good l l.length hw i hi).2.1
    have hz := dbl_rng (2 * l.length) 10 1 (by omega) (by decide)
    rw [e]
    exact sDbl l hl _ 5500 _ (fun k hk => sSeeds l hg hl _ hz.1 hz.2 5001 k 0 (by omega) (by omega) (by omega)) 10 k 1 (by omega) (by omega) (by decide) rfl
  | succ d ih =>
    intro k i hk hd hi hw
    obtain ⟨k, rfl⟩ : ∃ m, k = m + 1 := ⟨k - 1, by omega⟩
    have hstep : wordsOk l (i + 1) = (decide ((rdOf ByteArray.empty l (i : Int)).toList ≠ []) && decide ((rdOf ByteArray.empty l (i : Int)).size ≤ 60) && !(l.take i).any (fun x => x.toList == (rdOf ByteArray.empty l (i : Int)).toList)) := by
      simp only [wordsOk, hw, Bool.true_and]
    simp only [spec_BuildKeywords.l0]
    rw [if_pos (by omega), if_pos (by omega)]
    obtain ⟨k, rfl⟩ : ∃ m, k = m + 1 := ⟨k - 1, by omega⟩
    by_cases g1 : (rdOf ByteArray.empty l (i : Int)).toList = []
    · rw [if_pos g1, bad (i + 1) (by omega) (by rw [hstep]; simp [g1])]
      simp only [spec_BuildKeywords.j2, if_true]
    · rw [if_neg g1]
      by_cases g2 : ((rdOf ByteArray.empty l (i : Int)).size : Int) > 60
      · rw [decide_eq_true g2, bad (i + 1) (by omega) (by rw [hstep, decide_eq_false (show ¬ (rdOf ByteArray.empty l (i : Int)).size ≤ 60 by omega)]; simp)]
        simp only [spec_BuildKeywords.j2, if_true]
      · rw [decide_eq_false g2]
        simp only [spec_BuildKeywords.j2, Bool.false_eq_true, if_false]
        cases g3 : (l.take i).any (fun x => x.toList == (rdOf ByteArray.empty l (i : Int)).toList)
        · have hok : wordsOk l (i + 1) = true := by rw [hstep, g3]; simp [g1]; omega
          exact sTwice_l l i (by omega) hl _ (d * 210 + 6000) (fun k hk => ih k (i + 1) (by omega) (by omega) (by omega) hok) (fun h => by rw [g3] at h; cases h) i k 0 (by omega) (by omega) (by omega) (fun j hj => by omega)
        · have hb := bad (i + 1) (by omega) (by rw [hstep, g3]; simp)
          rw [hb]
          -- one of those ahead is the same word
          rw [List.any_eq_true] at g3
          obtain ⟨x, hx, hxe⟩ := g3
          obtain ⟨j, hj, rfl⟩ := List.mem_iff_getElem.1 hx
          rw [List.length_take] at hj
          rw [List.getElem_take, beq_iff_eq] at hxe
          have ej : rdOf ByteArray.empty l (j : Int) = l[j] := by
            unfold rdOf
            rw [Int.toNat_natCast, List.getD_eq_getElem?_getD, List.getElem?_eq_getElem (by omega)]
            rfl
          have : ∀ (e k j0 : Nat), e + 1 < k → j - j0 = e → j0 ≤ j → spec_BuildKeywords.l1 k l (i : Int) (j0 : Int) = some (0, [], false) := by
            intro e
            induction e with
            | zero =>
              intro k j0 hk hd2 hj0
              obtain ⟨k, rfl⟩ : ∃ m, k = m + 1 := ⟨k - 1, by omega⟩
              obtain rfl : j0 = j := by omega
              simp only [spec_BuildKeywords.l1]
              rw [if_pos (by omega), if_pos (by omega), if_pos (by omega), if_pos (by omega), if_pos (by omega), ej, if_pos hxe]
            | succ e ihe =>
              intro k j0 hk hd2 hj0
              obtain ⟨k, rfl⟩ : ∃ m, k = m + 1 := ⟨k - 1, by omega⟩
              simp only [spec_BuildKeywords.l1]
              rw [if_pos (by omega), if_pos (by omega), if_pos (by omega), if_pos (by omega), if_pos (by omega), nat_next (by omega)]
              by_cases h : (rdOf ByteArray.empty l (j0 : Int)).toList = (rdOf ByteArray.empty l (i : Int)).toList
              · rw [if_pos h]
              · rw [if_neg h]
                exact ihe k (j0 + 1) (by omega) (by omega) (by omega)
          exact this j k 0 (by omega) (by omega) (by omega)
theorem sBuild (l : List ByteArray) (k : Nat) (hk : 60000 ≤ k) : spec_BuildKeywords.f k l = some (bkM l) := by
  obtain ⟨k, rfl⟩ : ∃ m, k = m + 1 := ⟨k - 1, by omega⟩
  have none_ : ¬ (1 ≤ l.length ∧ l.length ≤ 200) → bkM l = (0, [], false) := by
    intro h
    unfold bkM
    rw [if_neg]
    rintro ⟨_, h2⟩
    exact h h2
  unfold spec_BuildKeywords.f
  by_cases h1 : (l.length : Int) < 1
  · rw [if_pos h1, none_ (by omega)]
    simp only [spec_BuildKeywords.j0, if_true]
  · rw [if_neg h1]
    by_cases h2 : (l.length : Int) > 200
    · rw [decide_eq_true h2, none_ (by omega)]
      simp only [spec_BuildKeywords.j0, if_true]
    · rw [decide_eq_false h2]
      simp only [spec_BuildKeywords.j0, Bool.false_eq_true, if_false]
      exact sWords_l l (by omega) (by omega) l.length k 0 (by omega) (by omega) (by omega) rfl
theorem slot_set (m : List ByteArray) (h : Nat) (w : ByteArray) (j : Nat) (hh : h < m.length) : slot (m.set h w) j = if h = j then w else slot m j := by
  unfold slot
  rw [List.getD_eq_getElem?_getD, List.getD_eq_getElem?_getD, List.getElem?_set]
  by_cases e : h = j
  · subst e; simp [hh]
  · simp [e]
theorem neW_iff (w : ByteArray) : neW w = true ↔ w.toList ≠ [] := by unfold neW; simp
theorem slot_get (m : List ByteArray) (j : Nat) (hj : j < m.length) : slot m j = m[j] := by
  unfold slot
  rw [List.getD_eq_getElem?_getD, List.getElem?_eq_getElem hj]; rfl
theorem slot_none (m : List ByteArray) (j : Nat) (hj : m.length ≤ j) : (slot m j).toList = [] := by
  unfold slot
  rw [List.getD_eq_getElem?_getD, List.getElem?_eq_none (by omega), ByteArray.toList_eq]; rfl
/-- what the slots hold when no two words met -/
theorem putAll_spec (l : List ByteArray) (seed z : Int) (z1 : 1 ≤ z) (hg : ∀ i : Nat, i < l.length → (rdOf ByteArray.empty l (i : Int)).toList ≠ []) : ∀ (d i : Nat) (m m' : List ByteArray), i + d ≤ l.length → (m.length : Int) = z → putAll l seed z d i m = (m', true) →
    (∀ j, (slot m j).toList ≠ [] → slot m' j = slot m j) ∧
    (∀ i' : Nat, i ≤ i' → i' < i + d → slot m' (hslot (rdOf ByteArray.empty l (i' : Int)) seed z).toNat = rdOf ByteArray.empty l (i' : Int)) ∧
    (∀ j : Nat, (slot m' j).toList ≠ [] → (slot m j).toList ≠ [] ∨ ∃ i' : Nat, i' < l.length ∧ slot m' j = rdOf ByteArray.empty l (i' : Int) ∧ hslot (rdOf ByteArray.empty l (i' : Int)) seed z = (j : Int)) ∧
    m'.countP neW = m.countP neW + d
  | 0, i, m, m', hi, hm, h => by
    simp only [putAll, Prod.mk.injEq, and_true] at h
    subst h
    exact ⟨fun _ _ => rfl, fun i' h1 h2 => by omega, fun j h => .inl h, rfl⟩
  | d + 1, i, m, m', hi, hm, h => by
    have hr := hslot_rng (rdOf ByteArray.empty l (i : Int)) seed z z1
    have hw := hg i (by omega)
    simp only [putAll] at h
    by_cases c : (rdOf ByteArray.empty m (hslot (rdOf ByteArray.empty l (i : Int)) seed z)).toList = []
    · rw [if_pos c] at h
      replace c : (slot m (hslot (rdOf ByteArray.empty l (i : Int)) seed z).toNat).toList = [] := c
      have hlt : (hslot (rdOf ByteArray.empty l (i : Int)) seed z).toNat < m.length := by omega
      obtain ⟨h1, h2, h3, h4⟩ := putAll_spec l seed z z1 hg d (i + 1) _ m' (by omega) (by rw [List.length_set]; exact hm) h
      refine ⟨fun j hj => ?_, fun i' a b => ?_, fun j hj => ?_, ?_⟩
      · have ne : ¬ (hslot (rdOf ByteArray.empty l (i : Int)) seed z).toNat = j := fun e => hj (e ▸ c)
        have := h1 j (by rw [slot_set _ _ _ _ hlt, if_neg ne]; exact hj)
        rw [this, slot_set _ _ _ _ hlt, if_neg ne]
      · by_cases e : i' = i
        · subst e
          rw [h1 _ (by rw [slot_set _ _ _ _ hlt, if_pos rfl]; exact hw), slot_set _ _ _ _ hlt, if_pos rfl]
        · exact h2 i' (by omega) (by omega)
      · rcases h3 j hj with q | q
        · rw [slot_set _ _ _ _ hlt] at q
          by_cases e : (hslot (rdOf ByteArray.empty l (i : Int)) seed z).toNat = j
          · refine .inr ⟨i, by omega, ?_, by omega⟩
            have := h1 j (by rw [slot_set _ _ _ _ hlt, if_pos e]; exact hw)
            rw [this, slot_set _ _ _ _ hlt, if_pos e]
          · rw [if_neg e] at q; exact .inl q
        · exact .inr q
      · rw [h4, List.countP_set hlt]
        have n1 : neW m[(hslot (rdOf ByteArray.empty l (i : Int)) seed z).toNat] = false := by
          rw [← slot_get m _ hlt]
          unfold neW
          rw [c]; rfl
        have n2 : neW (rdOf ByteArray.empty l (i : Int)) = true := (neW_iff _).2 hw
        rw [n1, n2]
        simp
        omega
    · rw [if_neg c] at h
      simp at h
theorem fresh_slot (z : Int) (j : Nat) : (slot (fresh z) j).toList = [] := by
  unfold slot fresh
  rw [List.getD_eq_getElem?_getD, List.getElem?_replicate, ByteArray.toList_eq]
  split <;> rfl
theorem fresh_count (z : Int) : (fresh z).countP neW = 0 := by
  unfold fresh
  rw [List.countP_replicate]
  have : neW (⟨#[]⟩ : ByteArray) = false := by unfold neW; rw [ByteArray.toList_eq]; rfl
  rw [this]
  rfl
/-- a table that is built: right, with each word at its own slot and no other -/
theorem bk_spec (l : List ByteArray) (h : (bkM l).2.2 = true) : kwOk (bkM l).1 (bkM l).2.1 ∧ (bkM l).2.1.countP neW = l.length ∧ l.length ≤ 200 ∧
    ∀ i : Nat, i < l.length → (rdOf ByteArray.empty l (i : Int)).toList ≠ [] ∧ 0 ≤ hashM (rdOf ByteArray.empty l (i : Int)) (bkM l).1 (bkM l).2.1.length ∧ slot (bkM l).2.1 (hashM (rdOf ByteArray.empty l (i : Int)) (bkM l).1 (bkM l).2.1.length).toNat = rdOf ByteArray.empty l (i : Int) ∧ ∀ j : Nat, j < i → rdOf ByteArray.empty l (j : Int) ≠ rdOf ByteArray.empty l (i : Int) := by
  unfold bkM at h ⊢
  by_cases g : wordsOk l l.length = true ∧ 1 ≤ l.length ∧ l.length ≤ 200
  · rw [if_pos g] at h ⊢
    have hw := wordsOk_good l l.length g.1
    have hz := dbl_rng (2 * l.length) 10 1 (by omega) (by decide)
    generalize dbl (2 * l.length) 10 1 = z at h hz ⊢
    have key : ∀ (d : Nat) (s : Int), 0 ≤ s → s + d ≤ 5001 → (seeds l z d s).2.2 = true → (0 ≤ (seeds l z d s).1 ∧ (seeds l z d s).1 ≤ 5000) ∧ putAll l (seeds l z d s).1 z l.length 0 (fresh z) = ((seeds l z d s).2.1, true) := by
      intro d
      induction d with
      | zero => intro s _ _ h; simp [seeds] at h
      | succ d ih =>
        intro s s0 s1 h
        simp only [seeds] at h ⊢
        by_cases c : (putAll l s z l.length 0 (fresh z)).2 = true
        · rw [if_pos c]
          exact ⟨⟨by simp only; omega, by simp only; omega⟩, Prod.ext rfl c⟩
        · rw [if_neg c] at h ⊢
          exact ih (s + 1) (by omega) (by omega) h
    obtain ⟨sr, hp⟩ := key 5001 0 (by omega) (by omega) h
    generalize (seeds l z 5001 0).1 = seed at sr hp ⊢
    generalize (seeds l z 5001 0).2.1 = m at hp ⊢
    have hfl : ((fresh z).length : Int) = z := by unfold fresh; rw [List.length_replicate]; omega
    have hml : (m.length : Int) = z := by
      have := putAll_len l seed z l.length 0 (fresh z)
      rw [hp] at this
      rw [← hfl]
      exact congrArg _ this
    obtain ⟨_, p2, p3, p4⟩ := putAll_spec l seed z hz.1 (fun i hi => (hw i hi).1) l.length 0 (fresh z) m (by omega) hfl hp
    rw [fresh_count] at p4
    have eh : ∀ i : Nat, i < l.length → hashM (rdOf ByteArray.empty l (i : Int)) seed m.length = hslot (rdOf ByteArray.empty l (i : Int)) seed z := by
      intro i hi
      have := (hw i hi).2.1
      unfold hashM hslot
      rw [if_neg (by omega), hml]
    refine ⟨⟨sr, ⟨by omega, by omega⟩, fun j _ hj => ?_⟩, by omega, g.2.2, fun i hi => ?_⟩
    · by_cases c : (slot m j).toList = []
      · exact .inl c
      · rcases p3 j c with q | ⟨i', q1, q2, q3⟩
        · exact absurd (fresh_slot z j) q
        · right
          rw [q2, eh i' q1, q3]
    · rw [eh i hi]
      have hr := hslot_rng (rdOf ByteArray.empty l (i : Int)) seed z hz.1
      refine ⟨(hw i hi).1, hr.1, p2 i (by omega) (by omega), fun j hj e => ?_⟩
      exact (hw i hi).2.2 j hj (by omega) (by rw [e])
  · rw [if_neg g] at h
    simp at h
open Classical in
theorem kwFind_at {seed : Int} {l : List ByteArray} {w : ByteArray} (hok : kwOk seed l) (hw : w.toList ≠ []) (h0 : 0 ≤ hashM w seed l.length) (hs : slot l (hashM w seed l.length).toNat = w) : kwFind seed l w = hashM w seed l.length := by
  unfold kwFind
  rw [if_pos ⟨hok, hw⟩, if_pos ⟨h0, hs⟩]
open Classical in
theorem kwFind_iff (seed : Int) (l : List ByteArray) (w : ByteArray) : 0 ≤ kwFind seed l w ↔ w ∈ wordsM seed l := by
  unfold kwFind wordsM
  by_cases hok : kwOk seed l
  · rw [if_pos hok, List.mem_filter, neW_iff]
    by_cases hw : w.toList = []
    · rw [if_neg (fun g => g.2 hw)]
      exact ⟨fun g => by omega, fun g => absurd hw g.2⟩
    · rw [if_pos ⟨hok, hw⟩]
      constructor
      · intro g
        by_cases c : 0 ≤ hashM w seed l.length ∧ slot l (hashM w seed l.length).toNat = w
        · refine ⟨?_, hw⟩
          by_cases hlt : (hashM w seed l.length).toNat < l.length
          · rw [slot_get l _ hlt] at c
            exact c.2 ▸ List.getElem_mem hlt
          · have := slot_none l _ (Nat.le_of_not_lt hlt)
            rw [c.2] at this
            exact absurd this hw
        · rw [if_neg c] at g
          omega
      · rintro ⟨g, _⟩
        obtain ⟨j, hj, e⟩ := List.mem_iff_getElem.1 g
        rcases hok.2.2 j (by omega) hj with q | q
        · rw [slot_get l j hj, e] at q; exact absurd q hw
        · rw [slot_get l j hj, e] at q
          have sj : slot l (hashM w seed l.length).toNat = w := by rw [q, Int.toNat_natCast, slot_get l j hj, e]
          rw [if_pos ⟨by omega, sj⟩]
          omega
  · rw [if_neg hok, if_neg (fun g => hok g.1)]
    simp
def keyW : List ByteArray := [(⟨#[105, 102]⟩ : ByteArray), (⟨#[102, 111, 114]⟩ : ByteArray), (⟨#[101, 108, 115, 101]⟩ : ByteArray), (⟨#[97]⟩ : ByteArray), (⟨#[98]⟩ : ByteArray), (⟨#[100, 111]⟩ : ByteArray), (⟨#[103, 111]⟩ : ByteArray), (⟨#[105, 110]⟩ : ByteArray), (⟨#[120, 49]⟩ : ByteArray), (⟨#[102, 117, 110, 99]⟩ : ByteArray), (⟨#[118, 97, 114]⟩ : ByteArray)]
theorem keyW_le : ∀ x ∈ keyW, x.size ≤ 4 := by
  intro x hx
  unfold keyW at hx
  simp only [List.mem_cons, List.not_mem_nil, or_false] at hx
  rcases hx with rfl | rfl | rfl | rfl | rfl | rfl | rfl | rfl | rfl | rfl | rfl <;> decide
theorem keyW_at (i : Int) : (rdOf ByteArray.empty keyW i).size ≤ 4 := by
  unfold rdOf
  rw [List.getD_eq_getElem?_getD]
  by_cases h : i.toNat < keyW.length
  · rw [List.getElem?_eq_getElem h]
    exact keyW_le _ (List.getElem_mem h)
  · rw [List.getElem?_eq_none (by omega)]
    exact Nat.zero_le _
theorem one_size (v : Int) : (strOfNums [v]).size = 1 := by simp [strOfNums, ByteArray.size]
theorem word1_ok {b : List Int} {p : Int} (hb : Bytes b) (hp : At b p) : Tot (spec_l1Rd_word1.f b p) (fun r => r.1.size ≤ 5 ∧ At b r.2) := by
  unfold spec_l1Rd_word1.f
  change Tot ((some keyW).bind _) _
  rw [Option.bind_some]
  refine (below_ok 11 hb hp).bind fun v hv => ?_
  obtain ⟨v0, v1, v2⟩ := hv
  have e : (keyW.length : Int) = 11 := rfl
  have h4 := keyW_at v.1
  refine Tot.yes v0 (Tot.yes (by omega) ?_)
  refine (once_ok 3 hb v2).bind fun u hu => ?_
  refine Tot.ite (fun _ => ?_) (fun _ => Tot.pure ⟨by simp only; omega, hu⟩)
  refine (below_ok 26 hb hu).bind fun x hx => ?_
  rw [Option.bind_some]
  refine Tot.yes (by rw [one_size]; omega) (Tot.pure ⟨?_, hx.2.2⟩)
  simp only
  rw [ByteArray.size_append, one_size]
  omega
theorem words_l {b : List Int} (hb : Bytes b) : ∀ (d k : Nat) (x5 : List ByteArray) (x6 p : Int), d * 60 + 60 < k → x6 = (d : Int) → x5.length + d ≤ 40 → (1 ≤ x5.length ∨ 1 ≤ d) → At b p → Tot (spec_l1Rd_words.l0 k x5 x6 b p) (fun r => 1 ≤ r.1.length ∧ r.1.length ≤ 40 ∧ At b r.2)
  | 0, k, x5, x6, p, hk, h6, hl, h1, hp => by
    obtain ⟨k, rfl⟩ : ∃ m, k = m + 1 := ⟨k - 1, by omega⟩
    simp only [spec_l1Rd_words.l0]
    exact Tot.no (by omega) (Tot.pure ⟨by simp only; omega, by simp only; omega, hp⟩)
  | d + 1, k, x5, x6, p, hk, h6, hl, h1, hp => by
    obtain ⟨k, rfl⟩ : ∃ m, k = m + 1 := ⟨k - 1, by omega⟩
    simp only [spec_l1Rd_words.l0]
    refine Tot.yes (by omega) ((word1_ok hb hp).bind fun v hv => ?_)
    have inner : ∀ (c k j : Nat) (x8 : Bool), c + d * 60 + 62 < k → x5.length - j = c → j ≤ x5.length → (x8 = true → 1 ≤ x5.length) → Tot (spec_l1Rd_words.l1 k x5 x6 v.1 x8 (j : Int) b v.2) (fun r => 1 ≤ r.1.length ∧ r.1.length ≤ 40 ∧ At b r.2) := by
      intro c
      induction c with
      | zero =>
        intro k j x8 hk hc hj h8
        obtain ⟨k, rfl⟩ : ∃ m, k = m + 1 := ⟨k - 1, by omega⟩
        simp only [spec_l1Rd_words.l1]
        rw [if_neg (by omega), w64 (x := x6 - 1) (by omega) (by omega)]
        refine Tot.ite (fun h => ?_) (fun h => Tot.yes (by omega) ?_)
        · exact words_l hb d k x5 (x6 - 1) v.2 (by omega) (by omega) (by omega) (.inl (h8 h)) hv.2
        · exact words_l hb d k _ (x6 - 1) v.2 (by omega) (by omega) (by rw [List.length_append, List.length_singleton]; omega) (.inl (by rw [List.length_append, List.length_singleton]; omega)) hv.2
      | succ c ih =>
        intro k j x8 hk hc hj h8
        obtain ⟨k, rfl⟩ : ∃ m, k = m + 1 := ⟨k - 1, by omega⟩
        simp only [spec_l1Rd_words.l1]
        rw [if_pos (by omega), nat_next (by omega)]
        refine Tot.ite (fun h => ?_) (fun h => Tot.yes (by omega) ?_)
        · exact ih k (j + 1) true (by omega) (by omega) (by omega) (fun _ => by omega)
        · exact ih k (j + 1) _ (by omega) (by omega) (by omega) (fun _ => by omega)
    exact inner x5.length k 0 false (by omega) (by omega) (by omega) (fun h => by cases h)
theorem words_ok {b : List Int} {p : Int} {k : Nat} (n : Int) (hn : n ≤ 16) (hk : 3000 ≤ k) (hb : Bytes b) (hp : At b p) : Tot (spec_l1Rd_words.f k b p n) (fun r => 1 ≤ r.1.length ∧ r.1.length ≤ 40 ∧ At b r.2) := by
  unfold spec_l1Rd_words.f
  have hm : ∀ y, mn n y ≤ 16 := by intro y; unfold mn; split <;> omega
  refine (below_ok _ hb hp).bind fun v hv => ?_
  obtain ⟨v0, v1, v2⟩ := hv
  have := hm (wrap64 (1 + (wrap64 ((b.length : Int) / 3))))
  rw [w64 (x := 1 + v.1) (by omega) (by omega)]
  exact words_l hb (1 + v.1).toNat k [] _ _ (by omega) (by omega) (by simp; omega) (.inr (by omega)) v2
theorem dec_l : ∀ (d k : Nat) (x : Int) (s : ByteArray), d < k → 0 ≤ x → x < 10 ^ d → x ≤ 1000000000 → s.size + d ≤ 1000 → Tot (spec_l1Dec.l0 k x s) (fun r => r.size ≤ s.size + d)
  | 0, k, x, s, hk, h0, h1, hx, hs => by
    obtain ⟨k, rfl⟩ : ∃ m, k = m + 1 := ⟨k - 1, by omega⟩
    simp only [spec_l1Dec.l0]
    exact Tot.no (by simp at h1; omega) (Tot.pure (by omega))
  | d + 1, k, x, s, hk, h0, h1, hx, hs => by
    obtain ⟨k, rfl⟩ : ∃ m, k = m + 1 := ⟨k - 1, by omega⟩
    simp only [spec_l1Dec.l0]
    refine Tot.ite (fun h => ?_) (fun h => Tot.pure (by omega))
    rw [Option.bind_some]
    have sz : ∀ v, (strOfNums [v] ++ s).size = s.size + 1 := fun v => by rw [ByteArray.size_append, one_size]; omega
    refine Tot.yes (by rw [one_size]; omega) ?_
    have hq : x / 10 < 10 ^ d := by rw [Int.pow_succ] at h1; omega
    rw [tdiv_pos h0, w64 (x := x / 10) (by omega) (by omega)]
    refine (dec_l d k _ _ (by omega) (by omega) hq (by omega) (by rw [sz]; omega)).imp fun v hv => ?_
    rw [sz] at hv
    omega
theorem dec_ok (x : Int) (h0 : 0 ≤ x) (h1 : x < 1000) (k : Nat) (hk : 4 ≤ k) : Tot (spec_l1Dec.f k x) (fun r => r.size ≤ 3) := by
  unfold spec_l1Dec.f
  refine Tot.ite (fun _ => Tot.pure (by decide)) (fun _ => ?_)
  refine (dec_l 3 k x _ (by omega) h0 (by rw [show (10 : Int) ^ 3 = 1000 from by decide]; omega) (by omega) (by decide)).imp fun v hv => ?_
  have : (⟨#[]⟩ : ByteArray).size = 0 := rfl
  omega
theorem drawb_l {b : List Int} (hb : Bytes b) : ∀ (d k : Nat) (x4 : List ByteArray) (x5 p : Int), d + 10 < k → 202 - x5 = (d : Int) → 0 ≤ x5 → x4.length + d ≤ 1000 → At b p → Tot (spec_DrawBuildKeywords.l0 k x4 x5 b p) (fun r => r.length ≤ 1000)
  | 0, k, x4, x5, p, hk, hd, h0, hl, hp => by
    obtain ⟨k, rfl⟩ : ∃ m, k = m + 1 := ⟨k - 1, by omega⟩
    simp only [spec_DrawBuildKeywords.l0]
    refine (below_ok 2 hb hp).bind fun v hv => ?_
    obtain ⟨v0, v1, v2⟩ := hv
    rw [w64 (x := 200 + v.1) (by omega) (by omega)]
    exact Tot.no (by omega) (Tot.pure (by omega))
  | d + 1, k, x4, x5, p, hk, hd, h0, hl, hp => by
    obtain ⟨k, rfl⟩ : ∃ m, k = m + 1 := ⟨k - 1, by omega⟩
    simp only [spec_DrawBuildKeywords.l0]
    refine (below_ok 2 hb hp).bind fun v hv => ?_
    obtain ⟨v0, v1, v2⟩ := hv
    rw [w64 (x := 200 + v.1) (by omega) (by omega)]
    refine Tot.ite (fun h => ?_) (fun _ => Tot.pure (by omega))
    refine (dec_ok x5 h0 (by omega) k (by omega)).bind fun u hu => ?_
    refine Tot.yes (by omega) (Tot.yes (by omega) ?_)
    rw [w64 (x := x5 + 1) (by omega) (by omega)]
    exact drawb_l hb d k _ (x5 + 1) v.2 (by omega) (by omega) (by omega) (by rw [List.length_append, List.length_singleton]; omega) v2
theorem drawBuild_ok {b : List Int} {k : Nat} (hk : 4000 ≤ k) (hb : Bytes b) : Tot (spec_DrawBuildKeywords.f k b) (fun r => r.length ≤ 1000) := by
  have h0 : At b 0 := ⟨by omega, by omega⟩
  have eo : spec_l1Open.f b = some (b, 0) := by rw [spec_l1Open.f]
  rw [spec_DrawBuildKeywords.f, eo]
  simp only [bsm]
  refine (words_ok 16 (by omega) (by omega) hb h0).bind fun v hv => ?_
  obtain ⟨v0, v1, v2⟩ := hv
  refine (below_ok 24 hb v2).bind fun u hu => ?_
  have ap : ∀ y : ByteArray, (v.1 ++ [y]).length ≤ 1000 := fun y => by rw [List.length_append, List.length_singleton]; omega
  refine Tot.ite (fun _ => Tot.yes (by omega) (Tot.yes (by omega) (Tot.pure (ap _)))) (fun _ => ?_)
  refine Tot.ite (fun _ => Tot.yes (by omega) (Tot.pure (ap _))) (fun _ => ?_)
  refine Tot.ite (fun _ => ?_) (fun _ => ?_)
  · refine (below_ok 2 hb hu.2.2).bind fun x hx => ?_
    obtain ⟨x0, x1, x2⟩ := hx
    rw [w64 (x := 60 + x.1) (by omega) (by omega)]
    exact Tot.yes (by omega) (Tot.yes (by omega) (Tot.yes (by omega) (Tot.pure (ap _))))
  · refine Tot.ite (fun _ => Tot.yes (by omega) (Tot.pure (by simp))) (fun _ => ?_)
    refine Tot.ite (fun _ => ?_) (fun _ => Tot.pure (by omega))
    exact drawb_l hb 202 k [] 0 _ (by omega) (by omega) (by omega) (by simp) hu.2.2
theorem keywords_ok {b : List Int} {p : Int} {k : Nat} (hk : 60000 ≤ k) (hb : Bytes b) (hp : At b p) : Tot (spec_l1Rd_keywords.f k b p) (fun r => r.2.1.length ≤ 1100 ∧ At b r.2.2) := by
  unfold spec_l1Rd_keywords.f
  refine (words_ok 12 (by omega) (by omega) hb hp).bind fun v hv => ?_
  obtain ⟨v0, v1, v2⟩ := hv
  rw [sBuild v.1 k hk]
  obtain ⟨b0, b1, b2⟩ := bkM_rng v.1
  simp only [bsm]
  refine Tot.ite (fun h => ?_) (fun _ => Tot.pure ⟨by simp, v2⟩)
  have hs := bk_spec v.1 h
  have hl := hs.1.2.1
  refine (below_ok 24 hb v2).bind fun u hu => ?_
  refine Tot.ite (fun _ => ?_) (fun _ => ?_)
  · refine (off_ok 0 5000 (by omega) (by omega) (by omega) (by omega) (by omega) hb hu.2.2).bind fun x hx => ?_
    exact Tot.pure ⟨by simp only; omega, hx.2⟩
  · refine Tot.ite (fun _ => ?_) (fun _ => ?_)
    · refine (below_ok _ hb hu.2.2).bind fun x hx => ?_
      obtain ⟨x0, x1, x2⟩ := hx
      refine (word1_ok hb x2).bind fun y hy => ?_
      exact Tot.yes x0 (Tot.yes (by omega) (Tot.pure ⟨by simp only [List.length_set]; omega, hy.2⟩))
    · refine Tot.ite (fun _ => Tot.yes (by omega) (Tot.pure ⟨?_, hu.2.2⟩)) (fun _ => Tot.pure ⟨by simp only; omega, hu.2.2⟩)
      simp only [List.length_append, List.length_singleton]
      omega
theorem drawAt_ok {b : List Int} {k : Nat} (hk : 70000 ≤ k) (hb : Bytes b) : Tot (spec_DrawKeywordAt.f k b) (fun r => r.2.1.length ≤ 1100) := by
  have h0 : At b 0 := ⟨by omega, by omega⟩
  have eo : spec_l1Open.f b = some (b, 0) := by rw [spec_l1Open.f]
  rw [spec_DrawKeywordAt.f, eo]
  simp only [bsm]
  refine (keywords_ok (by omega) hb h0).bind fun v hv => ?_
  obtain ⟨v0, v1⟩ := hv
  rw [sWordsOf v.2.1 v.1 (by omega) k (by omega)]
  simp only [bsm]
  obtain ⟨k, rfl⟩ : ∃ m, k = m + 1 := ⟨k - 1, by omega⟩
  have no : ∀ q, At b q → Tot (spec_DrawKeywordAt.j0 (k + 1) (wordsM v.1 v.2.1) false b q v.1 v.2.1) (fun r => r.2.1.length ≤ 1100) := by
    intro q hq
    simp only [spec_DrawKeywordAt.j0]
    refine Tot.no (by decide) ((word1_ok hb hq).bind fun y hy => Tot.pure v0)
  refine Tot.ite (fun h => ?_) (fun _ => no _ v1)
  refine (once_ok 2 hb v1).bind fun u hu => ?_
  by_cases c : u.1 = true
  · rw [c]
    simp only [spec_DrawKeywordAt.j0]
    refine Tot.yes trivial ((below_ok _ hb hu).bind fun x hx => ?_)
    obtain ⟨x0, x1, x2⟩ := hx
    exact Tot.yes x0 (Tot.yes (by omega) (Tot.pure v0))
  · rw [Bool.eq_false_iff.2 c]
    exact no _ hu
theorem has_no (l : List Int) (x : Int) (hl : l.length ≤ 1000000) (hn : ∀ v ∈ l, v ≠ x) : ∀ (d k i : Nat), d < k → l.length - i = d → i ≤ l.length → laws_has.l0 k l x (i : Int) = some false
  | 0, k, i, hk, hd, hi => by
    obtain ⟨k, rfl⟩ : ∃ m, k = m + 1 := ⟨k - 1, by omega⟩
    rw [laws_has.l0, if_neg (by omega)]
  | d + 1, k, i, hk, hd, hi => by
    obtain ⟨k, rfl⟩ : ∃ m, k = m + 1 := ⟨k - 1, by omega⟩
    have hr : rd l (i : Int) ≠ x := by
      rw [rd_get (show (i : Int).toNat < l.length by omega)]
      exact hn _ (List.getElem_mem _)
    rw [laws_has.l0, if_pos (by omega), if_pos (by omega), if_neg hr, nat_next (by omega)]
    exact has_no l x hl hn d k (i + 1) (by omega) (by omega) (by omega)
theorem found_l (w : ByteArray) (x : Int) (l : List ByteArray) (hl : l.length ≤ 1000000) : ∀ (d k i : Nat) (f : Bool), d < k → l.length - i = d → i ≤ l.length → laws_FnKeywords.l1 k w x l f (i : Int) = some ((decide (x ≥ 0)) == (f || (l.drop i).any (fun y => y.toList == w.toList)))
  | 0, k, i, f, hk, hd, hi => by
    obtain ⟨k, rfl⟩ : ∃ m, k = m + 1 := ⟨k - 1, by omega⟩
    rw [laws_FnKeywords.l1, if_neg (by omega), List.drop_eq_nil_of_le (by omega)]
    simp
  | d + 1, k, i, f, hk, hd, hi => by
    obtain ⟨k, rfl⟩ : ∃ m, k = m + 1 := ⟨k - 1, by omega⟩
    have hlt : i < l.length := by omega
    have e : rdOf ByteArray.empty l (i : Int) = l[i] := by unfold rdOf; rw [Int.toNat_natCast, List.getD_eq_getElem?_getD, List.getElem?_eq_getElem hlt]; rfl
    rw [laws_FnKeywords.l1, if_pos (by omega), nat_next (by omega), List.drop_eq_getElem_cons hlt, List.any_cons]
    by_cases c : f = true
    · rw [if_pos c, found_l w x l hl d k (i + 1) true (by omega) (by omega) (by omega), c]
      simp
    · rw [if_neg c, if_pos (by omega), e, found_l w x l hl d k (i + 1) _ (by omega) (by omega) (by omega), Bool.eq_false_iff.2 c]
      simp
theorem any_mem (l : List ByteArray) (w : ByteArray) : l.any (fun y => y.toList == w.toList) = true ↔ w ∈ l := by
  rw [List.any_eq_true]
  constructor
  · rintro ⟨y, hy, h⟩
    exact str_inj (beq_iff_eq.1 h) ▸ hy
  · intro h
    exact ⟨w, h, beq_iff_eq.2 rfl⟩
theorem last_ {b : List Int} (hb : Bytes b) (k : Nat) (hk : 100000 ≤ k) : laws_FnKeywords.j4 k b false = some true := by
  obtain ⟨k, rfl⟩ : ∃ m, k = m + 1 := ⟨k - 1, by omega⟩
  obtain ⟨⟨seed, l, w⟩, e, hl⟩ := drawAt_ok (k := k) (by omega) hb
  simp only at hl
  simp only [laws_FnKeywords.j4, Bool.false_eq_true, if_false]
  have hM := wordsM_len seed l
  rw [e]
  simp only [bsm]
  rw [iKwAt l seed w (by omega) k (by omega), sKwAt l seed w (by omega) k (by omega)]
  simp only [bsm, if_true]
  rw [iWordsOf l seed (by omega) k (by omega)]
  simp only [bsm]
  have f := found_l w (kwFind seed l w) (wordsM seed l) (by omega) (wordsM seed l).length k 0 false (by omega) (by omega) (by omega)
  have f' : laws_FnKeywords.l1 k w (kwFind seed l w) (wordsM seed l) false 0 = _ := f
  rw [f', List.drop_zero, Bool.false_or]
  have q : decide (kwFind seed l w ≥ 0) = (wordsM seed l).any (fun y => y.toList == w.toList) := by
    rw [Bool.eq_iff_iff, any_mem, decide_eq_true_eq]
    exact kwFind_iff seed l w
  rw [q]
  simp
open Classical in
theorem each_l {b : List Int} (hb : Bytes b) (t : List ByteArray) (h : (bkM t).2.2 = true) : ∀ (d k i : Nat) (s : List Int), d * 2 + 110000 < k → t.length - i = d → i ≤ t.length → s.length = i → (∀ v ∈ s, ∃ j : Nat, j < i ∧ v = hashM (rdOf ByteArray.empty t (j : Int)) (bkM t).1 (bkM t).2.1.length) →
    laws_FnKeywords.l0 k b t true s (i : Int) (bkM t).1 (bkM t).2.1 = some true := by
  obtain ⟨hok, hc, hlen, each⟩ := bk_spec t h
  have hrng := bkM_rng t
  have hl : (bkM t).2.1.length ≤ 1048576 := by omega
  intro d
  induction d with
  | zero =>
    intro k i s hk hd hi hs hv
    obtain ⟨k, rfl⟩ : ∃ m, k = m + 2 := ⟨k - 2, by omega⟩
    simp only [laws_FnKeywords.l0, laws_FnKeywords.j3, if_true]
    rw [decide_eq_false (by omega), if_neg (by decide), iWordsOf _ _ hl k (by omega)]
    simp only [bsm]
    have e : (wordsM (bkM t).1 (bkM t).2.1).length = t.length := by
      unfold wordsM
      rw [if_pos hok, ← List.countP_eq_length_filter]
      exact hc
    rw [if_pos (by rw [e]), iKwOk _ _ hl k (by omega), decide_eq_true hok]
    simp only [bsm, Bool.not_true]
    exact last_ hb k (by omega)
  | succ d ih =>
    intro k i s hk hd hi hs hv
    obtain ⟨k, rfl⟩ : ∃ m, k = m + 2 := ⟨k - 2, by omega⟩
    obtain ⟨e1, e2, e3, e4⟩ := each i (by omega)
    simp only [laws_FnKeywords.l0, laws_FnKeywords.j3, if_true]
    rw [decide_eq_true (by omega), if_pos rfl, if_pos (by omega), if_pos (by omega), iKwAt _ _ _ hl k (by omega), kwFind_at hok e1 e2 e3]
    simp only [bsm]
    have hno : ∀ v ∈ s, v ≠ hashM (rdOf ByteArray.empty t (i : Int)) (bkM t).1 (bkM t).2.1.length := by
      intro v hvm he
      obtain ⟨j, hj, rfl⟩ := hv v hvm
      obtain ⟨_, _, f3, _⟩ := each j (by omega)
      refine e4 j hj ?_
      rw [← f3, he, e3]
    have hh : laws_has.f k s (hashM (rdOf ByteArray.empty t (i : Int)) (bkM t).1 (bkM t).2.1.length) = some false := has_no s _ (by omega) hno s.length k 0 (by omega) (by omega) (by omega)
    rw [if_neg (by omega), hh]
    simp only [bsm, Bool.false_eq_true, if_false]
    rw [iHash _ _ _ k (by omega)]
    simp only [bsm, if_true]
    rw [if_pos (by omega), nat_next (by omega)]
    refine ih k (i + 1) _ (by omega) (by omega) (by omega) (by rw [List.length_append, List.length_singleton]; omega) (fun v hvm => ?_)
    rcases List.mem_append.1 hvm with g | g
    · obtain ⟨j, hj, e⟩ := hv v g
      exact ⟨j, by omega, e⟩
    · rw [List.mem_singleton] at g
      exact ⟨i, by omega, g⟩
theorem FnKeywords : laws_FnKeywords.Pure := by
  intro code more _ _ g2 _ _ g5
  suffices ∀ k, 200000 ≤ k → laws_FnKeywords.f k code more = some true from ⟨200000, this _ (Nat.le_refl _)⟩
  intro k hk
  have eb : ∀ l : List Int, laws_big.f l = some (decide ((l.length : Int) > 1048576)) := fun l => by rw [laws_big.f]
  obtain ⟨k, rfl⟩ : ∃ m, k = m + 3 := ⟨k - 3, by omega⟩
  rw [laws_FnKeywords.f, eb, eb]
  simp only [bsm, decide_eq_true_eq]
  by_cases h1 : (code.length : Int) > 1048576
  · rw [if_pos h1]
    simp only [laws_FnKeywords.j0, if_true]
  rw [if_neg h1]
  by_cases h2 : (more.length : Int) > 1048576
  · rw [decide_eq_true h2]
    simp only [laws_FnKeywords.j0, if_true]
  rw [decide_eq_false h2]
  have hb := Bytes.of h1 g2
  have hm := Bytes.of h2 g5
  obtain ⟨t, e, hl⟩ := drawBuild_ok (k := k + 2) (by omega) hb
  simp only [laws_FnKeywords.j0, Bool.false_eq_true, if_false]
  rw [e]
  simp only [bsm]
  rw [sBuild t _ (by omega), iBuild t _ (by omega)]
  simp only [bsm, bne_self_eq_false, Bool.false_eq_true, if_false, if_true]
  simp only [laws_FnKeywords.j1, Bool.false_eq_true, if_false]
  by_cases h : (bkM t).2.2 = true
  · rw [h]
    exact each_l hm t h t.length (k + 1) 0 [] (by have := (bk_spec t h).2.2.1; omega) (by omega) (by omega) rfl (fun v hv => by simp at hv)
  · rw [Bool.eq_false_iff.2 h]
    obtain ⟨k, rfl⟩ : ∃ m, k = m + 2 := ⟨k - 2, by omega⟩
    simp only [laws_FnKeywords.l0, laws_FnKeywords.j3, Bool.false_eq_true, if_false]
    exact last_ hm _ (by omega)
end Go.Proofs.Ytaemhmgcjpcicaa.Pure
