/- The program's WordsOf and the reference's come to the same words: whatever the table. -/
import Derived.Test.YtabpfejdppfcdaaPFnExactWordsOfx5
import Derived.Test.YtabpfejdppfcdaaKit
import Derived.Test.YtabpfejdppfcdaaKitHash
import Derived.Test.YtabpfejdppfcdaaKitNums
namespace Go.Proofs.Ytabpfejdppfcdaa.Pure
open Go.RowKit Go.Proofs.Ytabpfejdppfcdaa.PFnExactWordsOf Go.Proofs.YtabpfejdppfcdaaW.PrintWords Go.Proofs.YtabpfejdppfcdaaW.PrintLast Go.Proofs.YtabpfejdppfcdaaW.PrintMore Go.Proofs.Ytabpfejdppfcdaa.Kit
set_option linter.unusedVariables false
theorem sIn (a b c : Int) : spec_l1In.f a b c = some (decide (b ≤ a ∧ a ≤ c)) := by
  unfold spec_l1In.f
  by_cases h : a ≥ b
  · rw [if_pos h]; congr 1; simp; omega
  · rw [if_neg h]; congr 1; simp; omega
theorem iWithin (a b c : Int) : impl_within.f a b c = some (decide (b ≤ a ∧ a ≤ c)) := by
  unfold impl_within.f
  by_cases h : a ≥ b
  · rw [if_pos h]; congr 1; simp; omega
  · rw [if_neg h]; congr 1; simp; omega
theorem sHash_l (t : ByteArray) (ht : t.size ≤ 60) (z : Int) (hz : 1 ≤ z) (d : Nat) : ∀ (k : Nat) (h i : Int), d < k → 0 ≤ i → (t.size : Int) - i = d → 0 ≤ h → h ≤ 1000003 →
    spec_HashOf.l0 k t z h i = some (hashLoop t d i h % z) := by
  induction d with
  | zero =>
    intro k h i hk h0 hd g0 g1
    obtain ⟨k, rfl⟩ : ∃ m, k = m + 1 := ⟨k - 1, by omega⟩
    simp only [spec_HashOf.l0]
    rw [if_neg (by omega), if_neg (by omega), tmod_pos g0]
    rfl
  | succ d ih =>
    intro k h i hk h0 hd g0 g1
    obtain ⟨k, rfl⟩ : ∃ m, k = m + 1 := ⟨k - 1, by omega⟩
    have := bt_lo t i
    have := bt_hi t i
    simp only [spec_HashOf.l0]
    rw [if_pos (by omega), if_pos h0, w64 (x := h * 31) (by omega) (by omega), w64 (x := bt t i) (by omega) (by omega), w64 (x := h * 31 + bt t i) (by omega) (by omega), w64 (x := i + 1) (by omega) (by omega), tmod_pos (by omega),
      ih k _ _ (by omega) (by omega) (by omega) (by omega) (by omega)]
    rfl

theorem iHash_l (t : ByteArray) (ht : t.size ≤ 60) (z : Int) (hz : 1 ≤ z) (d : Nat) : ∀ (k : Nat) (h i : Int), d < k → 0 ≤ i → (t.size : Int) - i = d → 0 ≤ h → h ≤ 1000003 →
    impl_hashOf.l0 k t h z (t.size : Int) i = some (hashLoop t d i h % z) := by
  induction d with
  | zero =>
    intro k h i hk h0 hd g0 g1
    obtain ⟨k, rfl⟩ : ∃ m, k = m + 1 := ⟨k - 1, by omega⟩
    simp only [impl_hashOf.l0]
    rw [if_neg (by omega), if_neg (by omega), tmod_pos g0]
    rfl
  | succ d ih =>
    intro k h i hk h0 hd g0 g1
    obtain ⟨k, rfl⟩ : ∃ m, k = m + 1 := ⟨k - 1, by omega⟩
    have := bt_lo t i
    have := bt_hi t i
    simp only [impl_hashOf.l0]
    rw [if_pos (by omega), if_pos h0, if_pos (by omega), w64 (x := h * 31) (by omega) (by omega), w64 (x := bt t i) (by omega) (by omega), w64 (x := h * 31 + bt t i) (by omega) (by omega), w64 (x := i + 1) (by omega) (by omega), tmod_pos (by omega),
      ih k _ _ (by omega) (by omega) (by omega) (by omega) (by omega)]
    rfl

theorem sHash (t : ByteArray) (a z : Int) (k : Nat) (hk : 62 < k) : spec_HashOf.f k t a z = some (hashM t a z) := by
  obtain ⟨k, rfl⟩ : ∃ m, k = m + 1 := ⟨k - 1, by omega⟩
  unfold spec_HashOf.f
  simp only [sIn, Option.bind_some, decide_eq_true_eq]
  by_cases h1 : t.size > 60
  · rw [if_pos (by omega), show hashM t a z = -1 from if_pos (Or.inl h1)]
    simp [spec_HashOf.j0]
  · rw [if_neg (by omega)]
    by_cases h2 : 0 ≤ a ∧ a ≤ 5000
    · rw [if_pos h2]
      by_cases h3 : 1 ≤ z ∧ z ≤ 1024
      · rw [show hashM t a z = hashLoop t t.size 0 a % z from if_neg (by omega)]
        simp only [h3, and_self, decide_true, Bool.not_true, spec_HashOf.j0]
        rw [if_neg (by simp)]
        exact sHash_l t (by omega) z (by omega) t.size k a 0 (by omega) (by omega) (by omega) (by omega) (by omega)
      · rw [show hashM t a z = -1 from if_pos (Or.inr (Or.inr h3)), decide_eq_false h3]
        simp [spec_HashOf.j0]
    · rw [if_neg h2, show hashM t a z = -1 from if_pos (Or.inr (Or.inl h2))]
      simp [spec_HashOf.j0]
theorem iHash (t : ByteArray) (a z : Int) (k : Nat) (hk : 62 < k) : impl_HashOf.f k t a z = some (hashM t a z) := by
  unfold impl_HashOf.f impl_hashOf.f
  simp only [iWithin, Option.bind_some, decide_eq_true_eq]
  by_cases h1 : t.size > 60
  · rw [if_pos (by omega), show hashM t a z = -1 from if_pos (Or.inl h1)]
  · rw [if_neg (by omega)]
    by_cases h2 : 0 ≤ a ∧ a ≤ 5000
    · rw [if_pos h2]
      by_cases h3 : 1 ≤ z ∧ z ≤ 1024
      · rw [if_pos h3, show hashM t a z = hashLoop t t.size 0 a % z from if_neg (by omega), iHash_l t (by omega) z (by omega) t.size k a 0 (by omega) (by omega) (by omega) (by omega) (by omega)]
        rfl
      · rw [if_neg h3, show hashM t a z = -1 from if_pos (Or.inr (Or.inr h3))]
    · rw [if_neg h2, show hashM t a z = -1 from if_pos (Or.inr (Or.inl h2))]
theorem szStringS_l (l : List ByteArray) (hs : ∀ s ∈ l, s.size ≤ maxLen) (hl : l.length ≤ 1048576) (d : Nat) : ∀ (k : Nat) (x i : Int), d < k → 0 ≤ i → (l.length : Int) - i = d → 0 ≤ x → x ≤ 1048576 → ∃ r, laws_szStringS.l0 k l x i = some r ∧ -1 ≤ r := by
  induction d with
  | zero =>
    intro k x i hk h0 hd g0 g1
    obtain ⟨k, rfl⟩ : ∃ m, k = m + 1 := ⟨k - 1, by omega⟩
    refine ⟨x, ?_, by omega⟩
    simp only [laws_szStringS.l0]
    rw [if_neg (by omega)]
  | succ d ih =>
    intro k x i hk h0 hd g0 g1
    obtain ⟨k, rfl⟩ : ∃ m, k = m + 1 := ⟨k - 1, by omega⟩
    have hi : i.toNat < l.length := by omega
    have e : rdOf ByteArray.empty l i = l[i.toNat] := by
      unfold rdOf
      rw [List.getD_eq_getElem?_getD, List.getElem?_eq_getElem hi]
      rfl
    have hz := hs l[i.toNat] (List.getElem_mem hi)
    unfold maxLen at hz
    simp only [laws_szStringS.l0, e]
    rw [if_pos (by omega), if_pos h0, w64 (x := x - (l[i.toNat].size : Int)) (by omega) (by omega)]
    by_cases h : x - (l[i.toNat].size : Int) < 0
    · exact ⟨-1, by rw [if_pos h], by omega⟩
    · rw [if_neg h, w64 (x := i + 1) (by omega) (by omega)]
      exact ih k _ _ (by omega) (by omega) (by omega) (by omega) (by omega)
theorem szStringS (l : List ByteArray) (n : Int) (hn : 0 ≤ n ∧ n ≤ 1048576) (g : l.length ≤ maxLen ∧ ∀ s ∈ l, s.size ≤ maxLen) (k : Nat) (hk : l.length < k) : ∃ r, laws_szStringS.f k l n = some r ∧ -1 ≤ r ∧ (0 ≤ r → l.length ≤ 1048576) := by
  have hl := g.1
  unfold maxLen at hl
  unfold laws_szStringS.f
  rw [w64 (x := n - (l.length : Int)) (by omega) (by omega)]
  by_cases h : n - (l.length : Int) < 0
  · exact ⟨-1, by rw [if_pos h], by omega, by omega⟩
  · rw [if_neg h]
    obtain ⟨r, e, h1⟩ := szStringS_l l g.2 (by omega) l.length k (n - (l.length : Int)) 0 hk (by omega) (by omega) (by omega) (by omega)
    exact ⟨r, e, h1, fun _ => by omega⟩
theorem toStringS_l (l : List ByteArray) (hl : l.length ≤ 1048576) (d : Nat) : ∀ (k : Nat) (acc : List ByteArray) (i : Int), d < k → 0 ≤ i → (l.length : Int) - i = d → acc.length = l.length →
    laws_toStringS.l0 k l acc i = some (acc.take i.toNat ++ l.drop i.toNat) := by
  induction d with
  | zero =>
    intro k acc i hk h0 hd ha
    obtain ⟨k, rfl⟩ : ∃ m, k = m + 1 := ⟨k - 1, by omega⟩
    simp only [laws_toStringS.l0]
    rw [if_neg (by omega), List.take_of_length_le (by omega), List.drop_eq_nil_of_le (by omega), List.append_nil]
  | succ d ih =>
    intro k acc i hk h0 hd ha
    obtain ⟨k, rfl⟩ : ∃ m, k = m + 1 := ⟨k - 1, by omega⟩
    simp only [laws_toStringS.l0]
    rw [if_pos (by omega), if_pos h0, if_pos (by omega), w64 (by omega) (by omega), ih k _ _ (by omega) (by omega) (by omega) (by simpa using ha)]
    have e : (i + 1).toNat = i.toNat + 1 := by omega
    have hi : i.toNat < l.length := by omega
    have e2 : rdOf ByteArray.empty l i = l[i.toNat] := by
      unfold rdOf
      rw [List.getD_eq_getElem?_getD, List.getElem?_eq_getElem hi]
      rfl
    rw [e, e2, List.take_succ_eq_append_getElem (by simp; omega), List.take_set_of_le (Nat.le_refl _), List.getElem_set_self, List.append_assoc, List.singleton_append]
    congr 2
    rw [List.drop_eq_getElem_cons (i := i.toNat) hi]
theorem toStringS (l : List ByteArray) (hl : l.length ≤ 1048576) (k : Nat) (hk : l.length < k) : laws_toStringS.f k l = some l := by
  unfold laws_toStringS.f
  rw [if_pos (by omega), if_pos (by omega), toStringS_l l hl l.length k _ 0 hk (by omega) (by omega) (by simp)]
  simp
theorem eqStringS_l (l : List ByteArray) (hl : (l.length : Int) ≤ 1099511627776) (d : Nat) : ∀ (k : Nat) (i : Int), d < k → 0 ≤ i → (l.length : Int) - i = d → laws_eqStringS.l0 k l l i = some true := by
  induction d with
  | zero =>
    intro k i hk h0 hd
    obtain ⟨k, rfl⟩ : ∃ m, k = m + 1 := ⟨k - 1, by omega⟩
    simp only [laws_eqStringS.l0]
    rw [if_neg (by omega)]
  | succ d ih =>
    intro k i hk h0 hd
    obtain ⟨k, rfl⟩ : ∃ m, k = m + 1 := ⟨k - 1, by omega⟩
    simp only [laws_eqStringS.l0]
    rw [if_pos (by omega), if_pos h0, if_pos (by omega)]
    simp only [if_true]
    rw [w64 (by omega) (by omega)]
    exact ih k _ (by omega) (by omega) (by omega)
theorem eqStringS_same (l : List ByteArray) (hl : (l.length : Int) ≤ 1099511627776) (k : Nat) (hk : l.length < k) : laws_eqStringS.f k l l = some true := by
  unfold laws_eqStringS.f
  simp only [if_true]
  exact eqStringS_l l hl l.length k 0 hk (by omega) (by omega)
theorem rdOf_slot (l : List ByteArray) (i : Nat) : rdOf ByteArray.empty l (i : Int) = slot l i := by
  unfold rdOf slot
  rw [Int.toNat_natCast]
open Classical in
theorem sKwOk_l (l : List ByteArray) (seed : Int) (hl : l.length ≤ 1024) (d : Nat) : ∀ (k : Nat) (i : Nat), d + 63 < k → l.length - i = d → i ≤ l.length →
    spec_KeywordsOk.l0 k (l.length : Int) (i : Int) seed l = some (decide (kwFrom seed l i)) := by
  induction d with
  | zero =>
    intro k i hk hd hi
    obtain ⟨k, rfl⟩ : ∃ m, k = m + 1 := ⟨k - 1, by omega⟩
    simp only [spec_KeywordsOk.l0]
    rw [if_neg (by omega), decide_eq_true (kwFrom_end (by omega))]
  | succ d ih =>
    intro k i hk hd hi
    obtain ⟨k, rfl⟩ : ∃ m, k = m + 1 := ⟨k - 1, by omega⟩
    have hlt : i < l.length := by omega
    have hst := kwFrom_step (seed := seed) hlt
    have en : wrap64 ((i : Int) + 1) = ((i + 1 : Nat) : Int) := by rw [w64 (by omega) (by omega)]; omega
    have go : kwAt seed l i → spec_KeywordsOk.l0 k (l.length : Int) (wrap64 ((i : Int) + 1)) seed l = some (decide (kwFrom seed l i)) := by
      intro g
      rw [en, ih k (i + 1) (by omega) (by omega) (by omega)]
      congr 1
      exact decide_eq_decide.2 ⟨fun h => hst.2 ⟨g, h⟩, fun h => (hst.1 h).2⟩
    simp only [spec_KeywordsOk.l0, rdOf_slot]
    rw [if_pos (by omega), if_pos (by omega), if_pos (by omega)]
    by_cases h1 : (slot l i).toList = []
    · rw [if_pos h1]
      exact go (.inl h1)
    · rw [if_neg h1, sHash _ _ _ _ (by omega)]
      simp only [Option.bind_some]
      by_cases h2 : hashM (slot l i) seed l.length = i
      · rw [if_pos h2]
        exact go (.inr h2)
      · rw [if_neg h2, decide_eq_false]
        intro h
        rcases (hst.1 h).1 with g | g
        · exact h1 g
        · exact h2 g
open Classical in
theorem sKwOk (l : List ByteArray) (seed : Int) (hl : l.length ≤ 1048576) (k : Nat) (hk : 1090 < k) : spec_KeywordsOk.f k seed l = some (decide (kwOk seed l)) := by
  obtain ⟨k, rfl⟩ : ∃ m, k = m + 1 := ⟨k - 1, by omega⟩
  unfold spec_KeywordsOk.f
  simp only [sIn, Option.bind_some, decide_eq_true_eq]
  by_cases h1 : 0 ≤ seed ∧ seed ≤ 5000
  · rw [if_pos h1]
    by_cases h2 : (l.length : Int) < 1
    · rw [if_pos h2, decide_eq_false (by unfold kwOk; omega)]
      simp [spec_KeywordsOk.j0]
    · rw [if_neg h2]
      by_cases h3 : (l.length : Int) > 1024
      · rw [decide_eq_true h3, decide_eq_false (by unfold kwOk; omega)]
        simp [spec_KeywordsOk.j0]
      · rw [decide_eq_false h3]
        simp only [spec_KeywordsOk.j0]
        rw [if_neg (by simp)]
        have e : spec_KeywordsOk.l0 k (l.length : Int) 0 seed l = some (decide (kwFrom seed l 0)) := sKwOk_l l seed (by omega) l.length k 0 (by omega) (by omega) (by omega)
        rw [e]
        congr 1
        exact decide_eq_decide.2 ⟨fun h => ⟨h1, by omega, h⟩, fun h => h.2.2⟩
  · rw [if_neg h1, decide_eq_false (by unfold kwOk; omega)]
    simp [spec_KeywordsOk.j0]
open Classical in
theorem iKwOk_l (l : List ByteArray) (seed : Int) (hl : l.length ≤ 1024) (d : Nat) : ∀ (k : Nat) (i : Nat), d + 63 < k → l.length - i = d → i ≤ l.length →
    impl_KeywordsOk.l0 k l (l.length : Int) (i : Int) seed l = some (decide (kwFrom seed l i)) := by
  induction d with
  | zero =>
    intro k i hk hd hi
    obtain ⟨k, rfl⟩ : ∃ m, k = m + 1 := ⟨k - 1, by omega⟩
    simp only [impl_KeywordsOk.l0]
    rw [if_neg (by omega), decide_eq_true (kwFrom_end (by omega))]
  | succ d ih =>
    intro k i hk hd hi
    obtain ⟨k, rfl⟩ : ∃ m, k = m + 1 := ⟨k - 1, by omega⟩
    have hlt : i < l.length := by omega
    have hst := kwFrom_step (seed := seed) hlt
    have en : wrap64 ((i : Int) + 1) = ((i + 1 : Nat) : Int) := by rw [w64 (by omega) (by omega)]; omega
    have go : kwAt seed l i → impl_KeywordsOk.l0 k l (l.length : Int) (wrap64 ((i : Int) + 1)) seed l = some (decide (kwFrom seed l i)) := by
      intro g
      rw [en, ih k (i + 1) (by omega) (by omega) (by omega)]
      congr 1
      exact decide_eq_decide.2 ⟨fun h => hst.2 ⟨g, h⟩, fun h => (hst.1 h).2⟩
    simp only [impl_KeywordsOk.l0, rdOf_slot, impl_size_string.f, Option.bind_some]
    rw [if_pos (by omega), if_pos (by omega), if_pos (by omega)]
    by_cases h1 : (slot l i).toList = []
    · rw [if_pos h1]
      exact go (.inl h1)
    · rw [if_neg h1, iHash _ _ _ _ (by omega)]
      simp only [Option.bind_some]
      by_cases h2 : hashM (slot l i) seed l.length = i
      · rw [if_pos h2]
        exact go (.inr h2)
      · rw [if_neg h2, decide_eq_false]
        intro h
        rcases (hst.1 h).1 with g | g
        · exact h1 g
        · exact h2 g
open Classical in
theorem iKwOk (l : List ByteArray) (seed : Int) (hl : l.length ≤ 1048576) (k : Nat) (hk : 1090 < k) : impl_KeywordsOk.f k seed l = some (decide (kwOk seed l)) := by
  obtain ⟨k, rfl⟩ : ∃ m, k = m + 1 := ⟨k - 1, by omega⟩
  unfold impl_KeywordsOk.f
  simp only [iWithin, impl_size_string.f, Option.bind_some, decide_eq_true_eq]
  by_cases h1 : 0 ≤ seed ∧ seed ≤ 5000
  · rw [if_pos h1]
    by_cases h2 : 1 ≤ (l.length : Int) ∧ (l.length : Int) ≤ 1024
    · rw [decide_eq_true h2]
      simp only [impl_KeywordsOk.j0, Bool.not_true]
      rw [if_neg (by simp)]
      have e : impl_KeywordsOk.l0 k l (l.length : Int) 0 seed l = some (decide (kwFrom seed l 0)) := iKwOk_l l seed (by omega) l.length k 0 (by omega) (by omega) (by omega)
      rw [e]
      congr 1
      exact decide_eq_decide.2 ⟨fun h => ⟨h1, by omega, h⟩, fun h => h.2.2⟩
    · rw [decide_eq_false h2, decide_eq_false (by unfold kwOk; omega)]
      simp [impl_KeywordsOk.j0]
  · rw [if_neg h1, decide_eq_false (by unfold kwOk; omega)]
    simp [impl_KeywordsOk.j0]
theorem toKeywords (l : List ByteArray) (seed : Int) (hl : l.length ≤ 1048576) (k : Nat) (hk : l.length < k) : laws_toKeywords.f k seed l = some (seed, l) := by
  unfold laws_toKeywords.f
  rw [toStringS l hl k hk]
  rfl
theorem eqKeywords (l : List ByteArray) (seed : Int) (hl : l.length ≤ 1048576) (k : Nat) (hk : l.length < k) : laws_eqKeywords.f k seed l seed l = some true := by
  unfold laws_eqKeywords.f
  simp only [if_true]
  rw [eqStringS_same l (by omega) k hk]
  rfl
theorem szKeywords (l : List ByteArray) (seed : Int) (g : l.length ≤ maxLen ∧ ∀ s ∈ l, s.size ≤ maxLen) (k : Nat) (hk : l.length < k) : ∃ r, laws_szKeywords.f k seed l 1048576 = some r ∧ (0 ≤ r → l.length ≤ 1048576) := by
  obtain ⟨r, e, h1, h2⟩ := szStringS l 1048576 (by omega) g k hk
  unfold laws_szKeywords.f
  rw [e]
  simp only [Option.bind_some]
  by_cases h : r < 0
  · exact ⟨-1, by rw [if_pos h], by omega⟩
  · exact ⟨r, by rw [if_neg h], h2⟩
theorem markText_l : ∀ (d : Nat) (k : Nat) (x : Int) (s : ByteArray), d < k → 0 ≤ x → x < 10 ^ d → x ≤ 1000000000000 → s.size ≤ 1000000 - d → d ≤ 100 → ∃ t, laws_markText.l0 k x s = some t := by
  intro d
  induction d with
  | zero =>
    intro k x s hk h0 h1 hx2 hs hd
    obtain ⟨k, rfl⟩ : ∃ m, k = m + 1 := ⟨k - 1, by omega⟩
    simp only [laws_markText.l0]
    rw [if_neg (by omega), if_pos (by omega)]
    exact ⟨_, rfl⟩
  | succ d ih =>
    intro k x s hk h0 h1 hx2 hs hd
    obtain ⟨k, rfl⟩ : ∃ m, k = m + 1 := ⟨k - 1, by omega⟩
    simp only [laws_markText.l0, Option.bind_some]
    by_cases hx : x > 0
    · rw [if_pos hx]
      have e1 : (strOfNums [(wrap64 (48 + (Int.tmod x 10))) % 256]).size = 1 := by
        rw [← nums_len, nums_of (by intro y hy; simp only [List.mem_singleton] at hy; omega)]
        rfl
      have e2 : Int.tdiv x 10 = x / 10 := Int.tdiv_eq_ediv_of_nonneg h0
      have e3 : x / 10 < 10 ^ d := by
        rw [Int.pow_succ] at h1
        omega
      rw [if_pos (by omega), e2, w64 (by omega) (by omega)]
      exact ih k (x / 10) _ (by omega) (by omega) e3 (by omega) (by rw [ByteArray.size_append]; omega) (by omega)
    · rw [if_neg hx, if_pos (by omega)]
      exact ⟨_, rfl⟩
theorem markText_tot (x : Int) (h0 : 0 < x) (h1 : x ≤ 1000000000) : ∃ t, ∀ k, 20 ≤ k → laws_markText.f k x = some t := by
  obtain ⟨t, e⟩ := markText_l 15 20 x ⟨#[]⟩ (by omega) (by omega) (by omega) (by omega) (by simp [ByteArray.size]) (by omega)
  have e2 : laws_markText.f 20 x = some t := by
    unfold laws_markText.f
    rw [if_neg (by omega)]
    exact e
  have up : ∀ j, laws_markText.f (20 + j) x = some t := by
    intro j
    induction j with
    | zero => exact e2
    | succ j ih => exact laws_markText.mono x (20 + j) t ih
  exact ⟨t, fun k hk => by have := up (k - 20); rwa [show 20 + (k - 20) = k by omega] at this⟩
open Classical in
/-- the text that marks a number -/
noncomputable def mtext (x : Int) : ByteArray := if h : ∃ t, ∀ k, 20 ≤ k → laws_markText.f k x = some t then Classical.choose h else ByteArray.empty
theorem mtext_is (x : Int) (h0 : 0 < x) (h1 : x ≤ 1000000000) (k : Nat) (hk : 20 ≤ k) : laws_markText.f k x = some (mtext x) := by
  unfold mtext
  rw [dif_pos (markText_tot x h0 h1)]
  exact Classical.choose_spec (markText_tot x h0 h1) k hk
theorem rdStr_set (l : List ByteArray) (i : Nat) (v : ByteArray) (h : i < l.length) : rdOf ByteArray.empty (l.set i v) (i : Int) = v := by
  unfold rdOf
  rw [Int.toNat_natCast, List.getD_eq_getElem?_getD, List.getElem?_set_self h]
  rfl
theorem rdStr_other (l : List ByteArray) (i j : Nat) (v : ByteArray) (h : i ≠ j) : rdOf ByteArray.empty (l.set i v) (j : Int) = rdOf ByteArray.empty l (j : Int) := by
  unfold rdOf
  rw [Int.toNat_natCast, List.getD_eq_getElem?_getD, List.getD_eq_getElem?_getD, List.getElem?_set_ne h]
def markedT (y : List ByteArray) (c : Int) (i : Nat) : Prop := ∀ j : Nat, j < i → rdOf ByteArray.empty y (j : Int) = mtext (c + j)
theorem markStr_l (n : Nat) (hn : n ≤ 10000000) (c : Int) (c0 : 0 < c) (c1 : c ≤ 100000000) (d : Nat) : ∀ (k : Nat) (x : List ByteArray) (i : Nat), d + 20 < k → n - i = d → i ≤ n → x.length = n → markedT x c i →
    ∃ y, laws_markStringS.l0 k x (c + i) (i : Int) = some (c + n, y) ∧ y.length = n ∧ markedT y c n := by
  induction d with
  | zero =>
    intro k x i hk hd hi hx hm
    obtain ⟨k, rfl⟩ : ∃ m, k = m + 1 := ⟨k - 1, by omega⟩
    obtain rfl : i = n := by omega
    simp only [laws_markStringS.l0]
    rw [if_neg (by omega)]
    exact ⟨x, rfl, hx, hm⟩
  | succ d ih =>
    intro k x i hk hd hi hx hm
    obtain ⟨k, rfl⟩ : ∃ m, k = m + 1 := ⟨k - 1, by omega⟩
    simp only [laws_markStringS.l0]
    rw [if_pos (by omega), mtext_is (c + i) (by omega) (by omega) k (by omega)]
    simp only [Option.bind_some, Int.toNat_natCast]
    rw [if_pos (by omega), nat_next (by omega), w64 (by omega) (by omega), show c + (i : Int) + 1 = c + ((i + 1 : Nat) : Int) by omega]
    refine ih k _ (i + 1) (by omega) (by omega) (by omega) (by simpa using hx) (fun j hj => ?_)
    by_cases e : i = j
    · subst e
      rw [rdStr_set _ _ _ (by omega)]
    · rw [rdStr_other _ _ _ _ e]
      exact hm j (by omega)
theorem markStr (x : List ByteArray) (hn : x.length ≤ 10000000) (c : Int) (c0 : 0 < c) (c1 : c ≤ 100000000) (k : Nat) (hk : x.length + 20 < k) : ∃ y, laws_markStringS.f k x c = some (c + x.length, y) ∧ y.length = x.length ∧ markedT y c x.length := by
  have := markStr_l x.length hn c c0 c1 x.length k x 0 hk (by omega) (by omega) rfl (fun j hj => by omega)
  unfold laws_markStringS.f
  rw [show c + ((0 : Nat) : Int) = c by omega] at this
  exact this
theorem heldStr_l (y : List ByteArray) (n : Nat) (hn : n ≤ 10000000) (c : Int) (c0 : 0 < c) (c1 : c ≤ 100000000) (hy : y.length = n) (hm : markedT y c n) (d : Nat) : ∀ (k : Nat) (i : Nat), d + 20 < k → n - i = d → i ≤ n →
    laws_heldStringS.l0 k y (c + i) (i : Int) = some (c + n) := by
  induction d with
  | zero =>
    intro k i hk hd hi
    obtain ⟨k, rfl⟩ : ∃ m, k = m + 1 := ⟨k - 1, by omega⟩
    obtain rfl : i = n := by omega
    simp only [laws_heldStringS.l0]
    rw [if_neg (by omega)]
  | succ d ih =>
    intro k i hk hd hi
    obtain ⟨k, rfl⟩ : ∃ m, k = m + 1 := ⟨k - 1, by omega⟩
    simp only [laws_heldStringS.l0]
    rw [if_pos (by omega), if_pos (by omega), mtext_is (c + i) (by omega) (by omega) k (by omega)]
    simp only [Option.bind_some]
    rw [hm i (by omega), if_pos rfl, nat_next (by omega), w64 (by omega) (by omega), show c + (i : Int) + 1 = c + ((i + 1 : Nat) : Int) by omega]
    exact ih k (i + 1) (by omega) (by omega) (by omega)
theorem heldStr (y : List ByteArray) (n : Nat) (hn : n ≤ 10000000) (c : Int) (c0 : 0 < c) (c1 : c ≤ 100000000) (hy : y.length = n) (hm : markedT y c n) (k : Nat) (hk : n + 20 < k) : laws_heldStringS.f k y c = some (c + n) := by
  have := heldStr_l y n hn c c0 c1 hy hm n k 0 hk (by omega) (by omega)
  unfold laws_heldStringS.f
  rw [show c + ((0 : Nat) : Int) = c by omega] at this
  exact this
open Classical in
noncomputable def wordsM (seed : Int) (l : List ByteArray) : List ByteArray := if kwOk seed l then l.filter neW else []
open Classical in
theorem wordsM_len (seed : Int) (l : List ByteArray) : (wordsM seed l).length ≤ l.length := by
  unfold wordsM
  split
  · exact List.length_filter_le _ _
  · exact Nat.zero_le _
open Classical in
theorem iWordsOf (l : List ByteArray) (seed : Int) (hl : l.length ≤ 1048576) (k : Nat) (hk : 1100 < k) : impl_WordsOf.f k seed l = some (wordsM seed l) := by
  unfold impl_WordsOf.f wordsM
  rw [iKwOk l seed hl k (by omega)]
  simp only [Option.bind_some, decide_eq_true_eq]
  by_cases h : kwOk seed l
  · have h1 := h.2.1
    rw [if_pos h, if_pos h, if_pos (by omega)]
  · rw [if_neg h, if_neg h]
open Classical in
theorem sWords_l (l : List ByteArray) (seed : Int) (hl : l.length ≤ 1048576) (hok : kwOk seed l) (d : Nat) : ∀ (k i : Nat) (x : List ByteArray), 2 * d + 1110 < k → l.length - i = d → i ≤ l.length → x.length ≤ i →
    spec_WordsOf.l0 k x (i : Int) seed l = some (x ++ (l.drop i).filter neW) := by
  induction d with
  | zero =>
    intro k i x hk hd hi hx
    obtain ⟨k, rfl⟩ : ∃ m, k = m + 2 := ⟨k - 2, by omega⟩
    simp only [spec_WordsOf.l0]
    rw [sKwOk l seed hl _ (by omega), decide_eq_true hok]
    simp only [Option.bind_some, if_true, spec_WordsOf.j1, decide_eq_true_eq]
    rw [if_neg (by omega), List.drop_eq_nil_of_le (by omega)]
    simp
  | succ d ih =>
    intro k i x hk hd hi hx
    obtain ⟨k, rfl⟩ : ∃ m, k = m + 2 := ⟨k - 2, by omega⟩
    have hlt : i < l.length := by omega
    have e : rdOf ByteArray.empty l (i : Int) = l[i] := by unfold rdOf; rw [Int.toNat_natCast, List.getD_eq_getElem?_getD, List.getElem?_eq_getElem hlt]; rfl
    simp only [spec_WordsOf.l0]
    rw [sKwOk l seed hl _ (by omega), decide_eq_true hok]
    simp only [Option.bind_some, if_true, spec_WordsOf.j1, decide_eq_true_eq, e]
    rw [if_pos (by omega), if_pos (by omega), if_pos (by omega), nat_next (by omega), List.drop_eq_getElem_cons hlt]
    by_cases h : l[i].toList = []
    · have hz : neW l[i] = false := by unfold neW; rw [h]; rfl
      rw [if_pos h, ih k (i + 1) x (by omega) (by omega) (by omega) (by omega), List.filter_cons_of_neg (by rw [hz]; decide)]
    · have hz : neW l[i] = true := by unfold neW; simpa using h
      rw [if_neg h, if_pos (by omega), ih k (i + 1) _ (by omega) (by omega) (by omega) (by rw [List.length_append]; simp; omega), List.filter_cons_of_pos hz]
      simp
open Classical in
theorem sWordsOf (l : List ByteArray) (seed : Int) (hl : l.length ≤ 1048576) (k : Nat) (hk : 2 * l.length + 1110 < k) : spec_WordsOf.f k seed l = some (wordsM seed l) := by
  unfold spec_WordsOf.f wordsM
  by_cases h : kwOk seed l
  · rw [if_pos h]
    have := sWords_l l seed hl h l.length k 0 [] (by omega) (by omega) (by omega) (by simp)
    simpa using this
  · rw [if_neg h]
    obtain ⟨k, rfl⟩ : ∃ m, k = m + 2 := ⟨k - 2, by omega⟩
    simp only [spec_WordsOf.l0]
    rw [sKwOk l seed hl _ (by omega), decide_eq_false h]
    simp [spec_WordsOf.j1]
theorem FnExactWordsOf (x : Int × List ByteArray) (g : (Lit.int .i64 x.1).wf = true ∧ x.2.length ≤ maxLen ∧ ∀ s ∈ x.2, s.size ≤ maxLen) : ∃ k, laws_FnExactWordsOf.f k x.1 x.2 = some true := by
  obtain ⟨seed, l⟩ := x
  replace g : _ ∧ l.length ≤ maxLen ∧ ∀ s ∈ l, s.size ≤ maxLen := g
  suffices ∀ k, 10000000 + l.length ≤ k → laws_FnExactWordsOf.f k seed l = some true from ⟨_, this _ (Nat.le_refl _)⟩
  intro k hk
  unfold laws_FnExactWordsOf.f
  obtain ⟨r, e, h⟩ := szKeywords l seed g.2 k (by omega)
  rw [e]
  simp only [Option.bind_some]
  by_cases hr : r < 0
  · rw [if_pos hr]
  · have hl := h (by omega)
    have hM := wordsM_len seed l
    rw [if_neg hr, toKeywords l seed hl _ (by omega)]
    simp only [Option.bind_some]
    rw [sWordsOf l seed hl k (by omega), iWordsOf l seed hl k (by omega)]
    simp only [Option.bind_some]
    rw [eqStringS_same (wordsM seed l) (by omega) k (by omega)]
    simp only [Option.bind_some, if_true]
    rw [eqKeywords l seed hl k (by omega)]
    simp only [Option.bind_some, if_true]
    obtain ⟨y, ey, _, _⟩ := markStr l (by omega) 1 (by omega) (by omega) k (by omega)
    unfold laws_markKeywords.f
    rw [ey]
    simp only [Option.bind_some]
    rw [if_neg (by omega)]
    obtain ⟨k, rfl⟩ : ∃ m, k = m + 1 := ⟨k - 1, by omega⟩
    simp only [laws_FnExactWordsOf.j0, Bool.not_true, Bool.false_eq_true, if_false]
    obtain ⟨z, ez, z1, z2⟩ := markStr (wordsM seed l) (by omega) 1 (by omega) (by omega) k (by omega)
    rw [ez]
    simp only [Option.bind_some]
    rw [heldStr z _ (by omega) 1 (by omega) (by omega) z1 z2 k (by omega)]
    simp only [Option.bind_some]
    rw [if_neg (by omega), if_pos trivial, toKeywords l seed hl _ (by omega)]
    simp only [Option.bind_some]
    rw [iWordsOf l seed hl k (by omega)]
    simp only [Option.bind_some]
    rw [eqStringS_same (wordsM seed l) (by omega) k (by omega)]
    simp only [Option.bind_some, if_true]
    rw [if_neg (by omega)]
    try rfl
end Go.Proofs.Ytabpfejdppfcdaa.Pure
