/- The program's BuildKeywords and the reference's come to one table: whatever the words. -/
import Derived.Test.YtlfhnlghfgjooaaPFnExactBuildKeywordsx5
import Derived.Test.YtlfhnlghfgjooaaKit
import Derived.Test.YtlfhnlghfgjooaaKitHash
import Derived.Test.YtlfhnlghfgjooaaKitNums
namespace Go.Proofs.Ytlfhnlghfgjooaa.Pure
open Go.RowKit Go.Proofs.Ytlfhnlghfgjooaa.PFnExactBuildKeywords Go.Proofs.YtlfhnlghfgjooaaW.PrintWords Go.Proofs.YtlfhnlghfgjooaaW.PrintLast Go.Proofs.YtlfhnlghfgjooaaW.PrintMore Go.Proofs.Ytlfhnlghfgjooaa.Kit
set_option linter.unusedVariables false
theorem sIn (a b c : Int) : spec_l1In.f a b c = some (decide (b ≤ a ∧ a ≤ c)) := by
  unfold spec_l1In.f
  by_cases h : a ≥ b
  · rw [if_pos h]; congr 1; simp; omega
  · rw [if_neg h]; congr 1; simp; omega
theorem iWithin (a b c : Int) : impl_within.f a b c = some (decide (b ≤ a ∧ a ≤ c)) := by
  unfold impl_within.f
  by_cases h : a ≥ b
  · rw [if_pos h]; congr 1; simp; omega
  · rw [if_neg h]; congr 1; simp; omega
theorem sHash_l (t : ByteArray) (ht : t.size ≤ 60) (z : Int) (hz : 1 ≤ z) (d : Nat) : ∀ (k : Nat) (h i : Int), d < k → 0 ≤ i → (t.size : Int) - i = d → 0 ≤ h → h ≤ 1000003 →
    spec_HashOf.l0 k t z h i = some (hashLoop t d i h % z) := by
  induction d with
  | zero =>
    intro k h i hk h0 hd g0 g1
    obtain ⟨k, rfl⟩ : ∃ m, k = m + 1 := ⟨k - 1, by omega⟩
    simp only [spec_HashOf.l0]
    rw [if_neg (by omega), if_neg (by omega), tmod_pos g0]
    rfl
  | succ d ih =>
    intro k h i hk h0 hd g0 g1
    obtain ⟨k, rfl⟩ : ∃ m, k = m + 1 := ⟨k - 1, by omega⟩
    have := bt_lo t i
    have := bt_hi t i
    simp only [spec_HashOf.l0]
    rw [if_pos (by omega), if_pos h0, w64 (x := h * 31) (by omega) (by omega), w64 (x := bt t i) (by omega) (by omega), w64 (x := h * 31 + bt t i) (by omega) (by omega), w64 (x := i + 1) (by omega) (by omega), tmod_pos (by omega),
      ih k _ _ (by omega) (by omega) (by omega) (by omega) (by omega)]
    rfl

theorem iHash_l (t : ByteArray) (ht : t.size ≤ 60) (z : Int) (hz : 1 ≤ z) (d : Nat) : ∀ (k : Nat) (h i : Int), d < k → 0 ≤ i → (t.size : Int) - i = d → 0 ≤ h → h ≤ 1000003 →
    impl_hashOf.l0 k t h z (t.size : Int) i = some (hashLoop t d i h % z) := by
  induction d with
  | zero =>
    intro k h i hk h0 hd g0 g1
    obtain ⟨k, rfl⟩ : ∃ m, k = m + 1 := ⟨k - 1, by omega⟩
    simp only [impl_hashOf.l0]
    rw [if_neg (by omega), if_neg (by omega), tmod_pos g0]
    rfl
  | succ d ih =>
    intro k h i hk h0 hd g0 g1
    obtain ⟨k, rfl⟩ : ∃ m, k = m + 1 := ⟨k - 1, by omega⟩
    have := bt_lo t i
    have := bt_hi t i
    simp only [impl_hashOf.l0]
    rw [if_pos (by omega), if_pos h0, if_pos (by omega), w64 (x := h * 31) (by omega) (by omega), w64 (x := bt t i) (by omega) (by omega), w64 (x := h * 31 + bt t i) (by omega) (by omega), w64 (x := i + 1) (by omega) (by omega), tmod_pos (by omega),
      ih k _ _ (by omega) (by omega) (by omega) (by omega) (by omega)]
    rfl

theorem sHash (t : ByteArray) (a z : Int) (k : Nat) (hk : 62 < k) : spec_HashOf.f k t a z = some (hashM t a z) := by
  obtain ⟨k, rfl⟩ : ∃ m, k = m + 1 := ⟨k - 1, by omega⟩
  unfold spec_HashOf.f
  simp only [sIn, Option.bind_some, decide_eq_true_eq]
  by_cases h1 : t.size > 60
  · rw [if_pos (by omega), show hashM t a z = -1 from if_pos (Or.inl h1)]
    simp [spec_HashOf.j0]
  · rw [if_neg (by omega)]
    by_cases h2 : 0 ≤ a ∧ a ≤ 5000
    · rw [if_pos h2]
      by_cases h3 : 1 ≤ z ∧ z ≤ 1024
      · rw [show hashM t a z = hashLoop t t.size 0 a % z from if_neg (by omega)]
        simp only [h3, and_self, decide_true, Bool.not_true, spec_HashOf.j0]
        rw [if_neg (by simp)]
        exact sHash_l t (by omega) z (by omega) t.size k a 0 (by omega) (by omega) (by omega) (by omega) (by omega)
      · rw [show hashM t a z = -1 from if_pos (Or.inr (Or.inr h3)), decide_eq_false h3]
        simp [spec_HashOf.j0]
    · rw [if_neg h2, show hashM t a z = -1 from if_pos (Or.inr (Or.inl h2))]
      simp [spec_HashOf.j0]
theorem szStringS_l (l : List ByteArray) (hs : ∀ s ∈ l, s.size ≤ maxLen) (hl : l.length ≤ 1048576) (d : Nat) : ∀ (k : Nat) (x i : Int), d < k → 0 ≤ i → (l.length : Int) - i = d → 0 ≤ x → x ≤ 1048576 → ∃ r, laws_szStringS.l0 k l x i = some r ∧ -1 ≤ r := by
  induction d with
  | zero =>
    intro k x i hk h0 hd g0 g1
    obtain ⟨k, rfl⟩ : ∃ m, k = m + 1 := ⟨k - 1, by omega⟩
    refine ⟨x, ?_, by omega⟩
    simp only [laws_szStringS.l0]
    rw [if_neg (by omega)]
  | succ d ih =>
    intro k x i hk h0 hd g0 g1
    obtain ⟨k, rfl⟩ : ∃ m, k = m + 1 := ⟨k - 1, by omega⟩
    have hi : i.toNat < l.length := by omega
    have e : rdOf ByteArray.empty l i = l[i.toNat] := by
      unfold rdOf
      rw [List.getD_eq_getElem?_getD, List.getElem?_eq_getElem hi]
      rfl
    have hz := hs l[i.toNat] (List.getElem_mem hi)
    unfold maxLen at hz
    simp only [laws_szStringS.l0, e]
    rw [if_pos (by omega), if_pos h0, w64 (x := x - (l[i.toNat].size : Int)) (by omega) (by omega)]
    by_cases h : x - (l[i.toNat].size : Int) < 0
    · exact ⟨-1, by rw [if_pos h], by omega⟩
    · rw [if_neg h, w64 (x := i + 1) (by omega) (by omega)]
      exact ih k _ _ (by omega) (by omega) (by omega) (by omega) (by omega)
theorem szStringS (l : List ByteArray) (n : Int) (hn : 0 ≤ n ∧ n ≤ 1048576) (g : l.length ≤ maxLen ∧ ∀ s ∈ l, s.size ≤ maxLen) (k : Nat) (hk : l.length < k) : ∃ r, laws_szStringS.f k l n = some r ∧ -1 ≤ r ∧ (0 ≤ r → l.length ≤ 1048576) := by
  have hl := g.1
  unfold maxLen at hl
  unfold laws_szStringS.f
  rw [w64 (x := n - (l.length : Int)) (by omega) (by omega)]
  by_cases h : n - (l.length : Int) < 0
  · exact ⟨-1, by rw [if_pos h], by omega, by omega⟩
  · rw [if_neg h]
    obtain ⟨r, e, h1⟩ := szStringS_l l g.2 (by omega) l.length k (n - (l.length : Int)) 0 hk (by omega) (by omega) (by omega) (by omega)
    exact ⟨r, e, h1, fun _ => by omega⟩
theorem toStringS_l (l : List ByteArray) (hl : l.length ≤ 1048576) (d : Nat) : ∀ (k : Nat) (acc : List ByteArray) (i : Int), d < k → 0 ≤ i → (l.length : Int) - i = d → acc.length = l.length →
    laws_toStringS.l0 k l acc i = some (acc.take i.toNat ++ l.drop i.toNat) := by
  induction d with
  | zero =>
    intro k acc i hk h0 hd ha
    obtain ⟨k, rfl⟩ : ∃ m, k = m + 1 := ⟨k - 1, by omega⟩
    simp only [laws_toStringS.l0]
    rw [if_neg (by omega), List.take_of_length_le (by omega), List.drop_eq_nil_of_le (by omega), List.append_nil]
  | succ d ih =>
    intro k acc i hk h0 hd ha
    obtain ⟨k, rfl⟩ : ∃ m, k = m + 1 := ⟨k - 1, by omega⟩
    simp only [laws_toStringS.l0]
    rw [if_pos (by omega), if_pos h0, if_pos (by omega), w64 (by omega) (by omega), ih k _ _ (by omega) (by omega) (by omega) (by simpa using ha)]
    have e : (i + 1).toNat = i.toNat + 1 := by omega
    have hi : i.toNat < l.length := by omega
    have e2 : rdOf ByteArray.empty l i = l[i.toNat] := by
      unfold rdOf
      rw [List.getD_eq_getElem?_getD, List.getElem?_eq_getElem hi]
      rfl
    rw [e, e2, List.take_succ_eq_append_getElem (by simp; omega), List.take_set_of_le (Nat.le_refl _), List.getElem_set_self, List.append_assoc, List.singleton_append]
    congr 2
    rw [List.drop_eq_getElem_cons (i := i.toNat) hi]
theorem toStringS (l : List ByteArray) (hl : l.length ≤ 1048576) (k : Nat) (hk : l.length < k) : laws_toStringS.f k l = some l := by
  unfold laws_toStringS.f
  rw [if_pos (by omega), if_pos (by omega), toStringS_l l hl l.length k _ 0 hk (by omega) (by omega) (by simp)]
  simp
theorem eqStringS_l (l : List ByteArray) (hl : (l.length : Int) ≤ 1099511627776) (d : Nat) : ∀ (k : Nat) (i : Int), d < k → 0 ≤ i → (l.length : Int) - i = d → laws_eqStringS.l0 k l l i = some true := by
  induction d with
  | zero =>
    intro k i hk h0 hd
    obtain ⟨k, rfl⟩ : ∃ m, k = m + 1 := ⟨k - 1, by omega⟩
    simp only [laws_eqStringS.l0]
    rw [if_neg (by omega)]
  | succ d ih =>
    intro k i hk h0 hd
    obtain ⟨k, rfl⟩ : ∃ m, k = m + 1 := ⟨k - 1, by omega⟩
    simp only [laws_eqStringS.l0]
    rw [if_pos (by omega), if_pos h0, if_pos (by omega)]
    simp only [if_true]
    rw [w64 (by omega) (by omega)]
    exact ih k _ (by omega) (by omega) (by omega)
theorem eqStringS_same (l : List ByteArray) (hl : (l.length : Int) ≤ 1099511627776) (k : Nat) (hk : l.length < k) : laws_eqStringS.f k l l = some true := by
  unfold laws_eqStringS.f
  simp only [if_true]
  exact eqStringS_l l hl l.length k 0 hk (by omega) (by omega)
theorem eqKeywords (l : List ByteArray) (seed : Int) (hl : l.length ≤ 1048576) (k : Nat) (hk : l.length < k) : laws_eqKeywords.f k seed l seed l = some true := by
  unfold laws_eqKeywords.f
  simp only [if_true]
  rw [eqStringS_same l (by omega) k hk]
  rfl
theorem markText_l : ∀ (d : Nat) (k : Nat) (x : Int) (s : ByteArray), d < k → 0 ≤ x → x < 10 ^ d → x ≤ 1000000000000 → s.size ≤ 1000000 - d → d ≤ 100 → ∃ t, laws_markText.l0 k x s = some t := by
  intro d
  induction d with
  | zero =>
    intro k x s hk h0 h1 hx2 hs hd
    obtain ⟨k, rfl⟩ : ∃ m, k = m + 1 := ⟨k - 1, by omega⟩
    simp only [laws_markText.l0]
    rw [if_neg (by omega), if_pos (by omega)]
    exact ⟨_, rfl⟩
  | succ d ih =>
    intro k x s hk h0 h1 hx2 hs hd
    obtain ⟨k, rfl⟩ : ∃ m, k = m + 1 := ⟨k - 1, by omega⟩
    simp only [laws_markText.l0, Option.bind_some]
    by_cases hx : x > 0
    · rw [if_pos hx]
      have e1 : (strOfNums [(wrap64 (48 + (Int.tmod x 10))) % 256]).size = 1 := by
        rw [← nums_len, nums_of (by intro y hy; simp only [List.mem_singleton] at hy; omega)]
        rfl
      have e2 : Int.tdiv x 10 = x / 10 := Int.tdiv_eq_ediv_of_nonneg h0
      have e3 : x / 10 < 10 ^ d := by
        rw [Int.pow_succ] at h1
        omega
      rw [if_pos (by omega), e2, w64 (by omega) (by omega)]
      exact ih k (x / 10) _ (by omega) (by omega) e3 (by omega) (by rw [ByteArray.size_append]; omega) (by omega)
    · rw [if_neg hx, if_pos (by omega)]
      exact ⟨_, rfl⟩
theorem markText_tot (x : Int) (h0 : 0 < x) (h1 : x ≤ 1000000000) : ∃ t, ∀ k, 20 ≤ k → laws_markText.f k x = some t := by
  obtain ⟨t, e⟩ := markText_l 15 20 x ⟨#[]⟩ (by omega) (by omega) (by omega) (by omega) (by simp [ByteArray.size]) (by omega)
  have e2 : laws_markText.f 20 x = some t := by
    unfold laws_markText.f
    rw [if_neg (by omega)]
    exact e
  have up : ∀ j, laws_markText.f (20 + j) x = some t := by
    intro j
    induction j with
    | zero => exact e2
    | succ j ih => exact laws_markText.mono x (20 + j) t ih
  exact ⟨t, fun k hk => by have := up (k - 20); rwa [show 20 + (k - 20) = k by omega] at this⟩
open Classical in
/-- the text that marks a number -/
noncomputable def mtext (x : Int) : ByteArray := if h : ∃ t, ∀ k, 20 ≤ k → laws_markText.f k x = some t then Classical.choose h else ByteArray.empty
theorem mtext_is (x : Int) (h0 : 0 < x) (h1 : x ≤ 1000000000) (k : Nat) (hk : 20 ≤ k) : laws_markText.f k x = some (mtext x) := by
  unfold mtext
  rw [dif_pos (markText_tot x h0 h1)]
  exact Classical.choose_spec (markText_tot x h0 h1) k hk
theorem rdStr_set (l : List ByteArray) (i : Nat) (v : ByteArray) (h : i < l.length) : rdOf ByteArray.empty (l.set i v) (i : Int) = v := by
  unfold rdOf
  rw [Int.toNat_natCast, List.getD_eq_getElem?_getD, List.getElem?_set_self h]
  rfl
theorem rdStr_other (l : List ByteArray) (i j : Nat) (v : ByteArray) (h : i ≠ j) : rdOf ByteArray.empty (l.set i v) (j : Int) = rdOf ByteArray.empty l (j : Int) := by
  unfold rdOf
  rw [Int.toNat_natCast, List.getD_eq_getElem?_getD, List.getD_eq_getElem?_getD, List.getElem?_set_ne h]
def markedT (y : List ByteArray) (c : Int) (i : Nat) : Prop := ∀ j : Nat, j < i → rdOf ByteArray.empty y (j : Int) = mtext (c + j)
theorem markStr_l (n : Nat) (hn : n ≤ 10000000) (c : Int) (c0 : 0 < c) (c1 : c ≤ 100000000) (d : Nat) : ∀ (k : Nat) (x : List ByteArray) (i : Nat), d + 20 < k → n - i = d → i ≤ n → x.length = n → markedT x c i →
    ∃ y, laws_markStringS.l0 k x (c + i) (i : Int) = some (c + n, y) ∧ y.length = n ∧ markedT y c n := by
  induction d with
  | zero =>
    intro k x i hk hd hi hx hm
    obtain ⟨k, rfl⟩ : ∃ m, k = m + 1 := ⟨k - 1, by omega⟩
    obtain rfl : i = n := by omega
    simp only [laws_markStringS.l0]
    rw [if_neg (by omega)]
    exact ⟨x, rfl, hx, hm⟩
  | succ d ih =>
    intro k x i hk hd hi hx hm
    obtain ⟨k, rfl⟩ : ∃ m, k = m + 1 := ⟨k - 1, by omega⟩
    simp only [laws_markStringS.l0]
    rw [if_pos (by omega), mtext_is (c + i) (by omega) (by omega) k (by omega)]
    simp only [Option.bind_some, Int.toNat_natCast]
    rw [if_pos (by omega), nat_next (by omega), w64 (by omega) (by omega), show c + (i : Int) + 1 = c + ((i + 1 : Nat) : Int) by omega]
    refine ih k _ (i + 1) (by omega) (by omega) (by omega) (by simpa using hx) (fun j hj => ?_)
    by_cases e : i = j
    · subst e
      rw [rdStr_set _ _ _ (by omega)]
    · rw [rdStr_other _ _ _ _ e]
      exact hm j (by omega)
theorem markStr (x : List ByteArray) (hn : x.length ≤ 10000000) (c : Int) (c0 : 0 < c) (c1 : c ≤ 100000000) (k : Nat) (hk : x.length + 20 < k) : ∃ y, laws_markStringS.f k x c = some (c + x.length, y) ∧ y.length = x.length ∧ markedT y c x.length := by
  have := markStr_l x.length hn c c0 c1 x.length k x 0 hk (by omega) (by omega) rfl (fun j hj => by omega)
  unfold laws_markStringS.f
  rw [show c + ((0 : Nat) : Int) = c by omega] at this
  exact this
theorem heldStr_l (y : List ByteArray) (n : Nat) (hn : n ≤ 10000000) (c : Int) (c0 : 0 < c) (c1 : c ≤ 100000000) (hy : y.length = n) (hm : markedT y c n) (d : Nat) : ∀ (k : Nat) (i : Nat), d + 20 < k → n - i = d → i ≤ n →
    laws_heldStringS.l0 k y (c + i) (i : Int) = some (c + n) := by
  induction d with
  | zero =>
    intro k i hk hd hi
    obtain ⟨k, rfl⟩ : ∃ m, k = m + 1 := ⟨k - 1, by omega⟩
    obtain rfl : i = n := by omega
    simp only [laws_heldStringS.l0]
    rw [if_neg (by omega)]
  | succ d ih =>
    intro k i hk hd hi
    obtain ⟨k, rfl⟩ : ∃ m, k = m + 1 := ⟨k - 1, by omega⟩
    simp only [laws_heldStringS.l0]
    rw [if_pos (by omega), if_pos (by omega), mtext_is (c + i) (by omega) (by omega) k (by omega)]
    simp only [Option.bind_some]
    rw [hm i (by omega), if_pos rfl, nat_next (by omega), w64 (by omega) (by omega), show c + (i : Int) + 1 = c + ((i + 1 : Nat) : Int) by omega]
    exact ih k (i + 1) (by omega) (by omega) (by omega)
theorem heldStr (y : List ByteArray) (n : Nat) (hn : n ≤ 10000000) (c : Int) (c0 : 0 < c) (c1 : c ≤ 100000000) (hy : y.length = n) (hm : markedT y c n) (k : Nat) (hk : n + 20 < k) : laws_heldStringS.f k y c = some (c + n) := by
  have := heldStr_l y n hn c c0 c1 hy hm n k 0 hk (by omega) (by omega)
  unfold laws_heldStringS.f
  rw [show c + ((0 : Nat) : Int) = c by omega] at this
  exact this
/-- the slot of a word: what both programs reckon -/
def hslot (t : ByteArray) (a z : Int) : Int := hashLoop t t.size 0 a % z
theorem hslot_rng (t : ByteArray) (a z : Int) (hz : 1 ≤ z) : 0 ≤ hslot t a z ∧ hslot t a z < z := ⟨Int.emod_nonneg _ (by omega), Int.emod_lt_of_pos _ (by omega)⟩
/-- the words from the i-th on, put into slots -/
def putAll (l : List ByteArray) (seed z : Int) : Nat → Nat → List ByteArray → List ByteArray × Bool
  | 0, _, m => (m, true)
  | d + 1, i, m => if (rdOf ByteArray.empty m (hslot (rdOf ByteArray.empty l (i : Int)) seed z)).toList = [] then putAll l seed z d (i + 1) (m.set (hslot (rdOf ByteArray.empty l (i : Int)) seed z).toNat (rdOf ByteArray.empty l (i : Int))) else (m, false)
theorem putAll_len (l : List ByteArray) (seed z : Int) : ∀ (d i : Nat) (m : List ByteArray), (putAll l seed z d i m).1.length = m.length
  | 0, _, _ => rfl
  | d + 1, i, m => by
    unfold putAll
    split
    · rw [putAll_len, List.length_set]
    · rfl
def goodW (l : List ByteArray) : Prop := ∀ i : Nat, i < l.length → (rdOf ByteArray.empty l (i : Int)).size ≤ 60
theorem sTry_l (l : List ByteArray) (hg : goodW l) (hl : l.length ≤ 200) (seed z : Int) (s0 : 0 ≤ seed) (s1 : seed ≤ 5000) (z0 : 1 ≤ z) (z1 : z ≤ 1024) (d : Nat) : ∀ (k i : Nat) (m : List ByteArray), d + 70 < k → l.length - i = d → i ≤ l.length → (m.length : Int) = z →
    spec_l11Try.l0 k l seed z m (i : Int) = some (putAll l seed z d i m) := by
  induction d with
  | zero =>
    intro k i m hk hd hi hm
    obtain ⟨k, rfl⟩ : ∃ m, k = m + 1 := ⟨k - 1, by omega⟩
    simp only [spec_l11Try.l0]
    rw [if_neg (by omega)]
    rfl
  | succ d ih =>
    intro k i m hk hd hi hm
    obtain ⟨k, rfl⟩ : ∃ m, k = m + 1 := ⟨k - 1, by omega⟩
    have hw := hg i (by omega)
    have eh : hashM (rdOf ByteArray.empty l (i : Int)) seed z = hslot (rdOf ByteArray.empty l (i : Int)) seed z := by
      unfold hashM hslot
      rw [if_neg (by omega)]
    have hr := hslot_rng (rdOf ByteArray.empty l (i : Int)) seed z z0
    simp only [spec_l11Try.l0]
    rw [if_pos (by omega), if_pos (by omega), sHash _ _ _ k (by omega), eh]
    simp only [Option.bind_some]
    rw [if_pos hr.1, if_pos (by omega), nat_next (by omega)]
    simp only [putAll]
    by_cases h : (rdOf ByteArray.empty m (hslot (rdOf ByteArray.empty l (i : Int)) seed z)).toList = []
    · rw [if_pos h, if_pos h]
      exact ih k (i + 1) _ (by omega) (by omega) (by omega) (by rw [List.length_set]; exact hm)
    · rw [if_neg h, if_neg h]
theorem iTry_l (l : List ByteArray) (hg : goodW l) (hl : l.length ≤ 200) (seed z : Int) (s0 : 0 ≤ seed) (s1 : seed ≤ 5000) (z0 : 1 ≤ z) (z1 : z ≤ 1024) (d : Nat) : ∀ (k i : Nat) (m : List ByteArray), d + 70 < k → l.length - i = d → i ≤ l.length → (m.length : Int) = z →
    impl_slotsFor.l0 k seed z m l (l.length : Int) (i : Int) = some (if (putAll l seed z d i m).2 = true then putAll l seed z d i m else ([], false)) := by
  induction d with
  | zero =>
    intro k i m hk hd hi hm
    obtain ⟨k, rfl⟩ : ∃ m, k = m + 1 := ⟨k - 1, by omega⟩
    simp only [impl_slotsFor.l0, putAll, if_true]
    rw [if_neg (by omega)]
  | succ d ih =>
    intro k i m hk hd hi hm
    obtain ⟨k, rfl⟩ : ∃ m, k = m + 1 := ⟨k - 1, by omega⟩
    have hw := hg i (by omega)
    have eh : impl_hashOf.f k (rdOf ByteArray.empty l (i : Int)) seed z = some (hslot (rdOf ByteArray.empty l (i : Int)) seed z) := by
      unfold impl_hashOf.f hslot
      exact iHash_l _ hw z z0 _ k seed 0 (by omega) (by omega) (by omega) s0 (by omega)
    have hr := hslot_rng (rdOf ByteArray.empty l (i : Int)) seed z z0
    simp only [impl_slotsFor.l0]
    rw [if_pos (by omega), if_pos (by omega), if_pos (by omega), eh]
    simp only [Option.bind_some]
    rw [if_pos hr.1, if_pos (by omega), nat_next (by omega)]
    by_cases h : (rdOf ByteArray.empty m (hslot (rdOf ByteArray.empty l (i : Int)) seed z)).toList = []
    · have e : putAll l seed z (d + 1) i m = putAll l seed z d (i + 1) (m.set (hslot (rdOf ByteArray.empty l (i : Int)) seed z).toNat (rdOf ByteArray.empty l (i : Int))) := by
        simp only [putAll]
        rw [if_pos h]
      rw [if_pos h, e]
      exact ih k (i + 1) _ (by omega) (by omega) (by omega) (by rw [List.length_set]; exact hm)
    · have e : putAll l seed z (d + 1) i m = (m, false) := by
        simp only [putAll]
        rw [if_neg h]
      rw [if_neg h, e]
      rfl
def fresh (z : Int) : List ByteArray := List.replicate z.toNat (⟨#[]⟩ : ByteArray)
theorem sTry (l : List ByteArray) (hg : goodW l) (hl : l.length ≤ 200) (seed z : Int) (s0 : 0 ≤ seed) (s1 : seed ≤ 5000) (z0 : 1 ≤ z) (z1 : z ≤ 1024) (k : Nat) (hk : 300 ≤ k) : spec_l11Try.f k l seed z = some (putAll l seed z l.length 0 (fresh z)) := by
  unfold spec_l11Try.f
  rw [if_pos (by omega), if_pos (by omega)]
  exact sTry_l l hg hl seed z s0 s1 z0 z1 l.length k 0 _ (by omega) (by omega) (by omega) (by rw [List.length_replicate]; omega)
theorem iTry (l : List ByteArray) (hg : goodW l) (hl : l.length ≤ 200) (seed z : Int) (s0 : 0 ≤ seed) (s1 : seed ≤ 5000) (z0 : 1 ≤ z) (z1 : z ≤ 1024) (k : Nat) (hk : 300 ≤ k) : impl_slotsFor.f k l seed z = some (if (putAll l seed z l.length 0 (fresh z)).2 = true then putAll l seed z l.length 0 (fresh z) else ([], false)) := by
  unfold impl_slotsFor.f
  rw [if_pos (by omega), if_pos (by omega)]
  exact iTry_l l hg hl seed z s0 s1 z0 z1 l.length k 0 _ (by omega) (by omega) (by omega) (by rw [List.length_replicate]; omega)
/-- the first seed that serves, from one on -/
def seeds (l : List ByteArray) (z : Int) : Nat → Int → Int × List ByteArray × Bool
  | 0, _ => (0, [], false)
  | d + 1, s => if (putAll l s z l.length 0 (fresh z)).2 = true then (s, (putAll l s z l.length 0 (fresh z)).1, true) else seeds l z d (s + 1)
theorem sSeeds (l : List ByteArray) (hg : goodW l) (hl : l.length ≤ 200) (z : Int) (z0 : 1 ≤ z) (z1 : z ≤ 1024) (d : Nat) : ∀ (k : Nat) (s : Int), d + 310 < k → 0 ≤ s → 5001 - s = d → spec_BuildKeywords.l3 k l z s = some (seeds l z d s) := by
  induction d with
  | zero =>
    intro k s hk h0 hd
    obtain ⟨k, rfl⟩ : ∃ m, k = m + 1 := ⟨k - 1, by omega⟩
    simp only [spec_BuildKeywords.l3]
    rw [if_neg (by omega)]
    rfl
  | succ d ih =>
    intro k s hk h0 hd
    obtain ⟨k, rfl⟩ : ∃ m, k = m + 1 := ⟨k - 1, by omega⟩
    simp only [spec_BuildKeywords.l3, seeds]
    rw [if_pos (by omega), sTry l hg hl s z h0 (by omega) z0 z1 k (by omega), w64 (by omega) (by omega)]
    simp only [Option.bind_some]
    by_cases h : (putAll l s z l.length 0 (fresh z)).2 = true
    · rw [if_pos h, if_pos h]
    · rw [if_neg h, if_neg h]
      exact ih k (s + 1) (by omega) (by omega) (by omega)
theorem iSeeds (l : List ByteArray) (hg : goodW l) (hl : l.length ≤ 200) (z : Int) (z0 : 1 ≤ z) (z1 : z ≤ 1024) (d : Nat) : ∀ (k : Nat) (s : Int), d + 310 < k → 0 ≤ s → 5001 - s = d → impl_BuildKeywords.l1 k l z s = some (seeds l z d s) := by
  induction d with
  | zero =>
    intro k s hk h0 hd
    obtain ⟨k, rfl⟩ : ∃ m, k = m + 1 := ⟨k - 1, by omega⟩
    simp only [impl_BuildKeywords.l1]
    rw [if_neg (by omega)]
    rfl
  | succ d ih =>
    intro k s hk h0 hd
    obtain ⟨k, rfl⟩ : ∃ m, k = m + 1 := ⟨k - 1, by omega⟩
    simp only [impl_BuildKeywords.l1, seeds]
    rw [if_pos (by omega), iTry l hg hl s z h0 (by omega) z0 z1 k (by omega), w64 (by omega) (by omega)]
    simp only [Option.bind_some]
    by_cases h : (putAll l s z l.length 0 (fresh z)).2 = true
    · rw [if_pos h, if_pos h, if_pos h]
    · rw [if_neg h, if_neg h]
      simp only [Bool.false_eq_true, if_false]
      exact ih k (s + 1) (by omega) (by omega) (by omega)
/-- doubled while it is less than n -/
def dbl (n : Int) : Nat → Int → Int
  | 0, x => x
  | d + 1, x => if x < n then dbl n d (2 * x) else x
theorem sDbl (l : List ByteArray) (hl : l.length ≤ 200) (res : Int × List ByteArray × Bool) (K : Nat) (z : Int) (G : ∀ k, K ≤ k → spec_BuildKeywords.l3 k l z 0 = some res) : ∀ (d k : Nat) (x : Int), K + d < k → 1 ≤ x → x * 2 ^ d = 1024 → dbl (2 * l.length) d x = z → spec_BuildKeywords.l2 k l x = some res := by
  intro d
  induction d with
  | zero =>
    intro k x hk h0 h1 h2
    obtain ⟨k, rfl⟩ : ∃ m, k = m + 1 := ⟨k - 1, by omega⟩
    simp only [spec_BuildKeywords.l2]
    have h3 : x = 1024 := by simpa using h1
    rw [w64 (x := 2 * (l.length : Int)) (by omega) (by omega), if_neg (by omega)]
    have : x = z := h2
    rw [this]
    exact G k (by omega)
  | succ d ih =>
    intro k x hk h0 h1 h2
    obtain ⟨k, rfl⟩ : ∃ m, k = m + 1 := ⟨k - 1, by omega⟩
    simp only [spec_BuildKeywords.l2]
    simp only [dbl] at h2
    rw [w64 (x := 2 * (l.length : Int)) (by omega) (by omega)]
    by_cases h : x < 2 * (l.length : Int)
    · rw [if_pos h] at h2
      rw [if_pos h, w64 (by omega) (by omega)]
      exact ih k (2 * x) (by omega) (by omega) (by rw [Int.pow_succ] at h1; rw [← h1]; ac_rfl) h2
    · rw [if_neg h] at h2
      rw [if_neg h, h2]
      exact G k (by omega)
theorem iDbl_step (k : Nat) (l : List ByteArray) (x : Int) : impl_BuildKeywords.l0 (k + 1) l x = if x < wrap64 (2 * (l.length : Int)) then impl_BuildKeywords.l0 k l (wrap64 (x * 2)) else impl_BuildKeywords.l1 k l x 0 := by
  have e : impl_size_string.f l = some (l.length : Int) := by rw [impl_size_string.f]
  rw [impl_BuildKeywords.l0, e, Option.bind_some]
theorem iDbl (l : List ByteArray) (hl : l.length ≤ 200) (res : Int × List ByteArray × Bool) (K : Nat) (z : Int) (G : ∀ k, K ≤ k → impl_BuildKeywords.l1 k l z 0 = some res) : ∀ (d k : Nat) (x : Int), K + d < k → 1 ≤ x → x * 2 ^ d = 1024 → dbl (2 * l.length) d x = z → impl_BuildKeywords.l0 k l x = some res := by
  intro d
  induction d with
  | zero =>
    intro k x hk h0 h1 h2
    obtain ⟨k, rfl⟩ : ∃ m, k = m + 1 := ⟨k - 1, by omega⟩
    rw [iDbl_step]
    have h3 : x = 1024 := by simpa using h1
    rw [w64 (x := 2 * (l.length : Int)) (by omega) (by omega), if_neg (by omega)]
    have : x = z := h2
    rw [this]
    exact G k (by omega)
  | succ d ih =>
    intro k x hk h0 h1 h2
    obtain ⟨k, rfl⟩ : ∃ m, k = m + 1 := ⟨k - 1, by omega⟩
    rw [iDbl_step]
    simp only [dbl] at h2
    rw [w64 (x := 2 * (l.length : Int)) (by omega) (by omega)]
    by_cases h : x < 2 * (l.length : Int)
    · rw [if_pos h] at h2
      have e2 : wrap64 (x * 2) = 2 * x := by rw [w64 (by omega) (by omega)]; omega
      rw [if_pos h, e2]
      exact ih k (2 * x) (by omega) (by omega) (by rw [Int.pow_succ] at h1; rw [← h1]; ac_rfl) h2
    · rw [if_neg h] at h2
      rw [if_neg h, h2]
      exact G k (by omega)
theorem dbl_rng (n : Int) : ∀ (d : Nat) (x : Int), 1 ≤ x → x * 2 ^ d ≤ 1024 → 1 ≤ dbl n d x ∧ dbl n d x ≤ 1024
  | 0, x, h0, h1 => by simp at h1; simp only [dbl]; omega
  | d + 1, x, h0, h1 => by
    simp only [dbl]
    have hp : (1 : Int) ≤ 2 ^ (d + 1) := by
      have : (0 : Int) < 2 ^ (d + 1) := Int.pow_pos (by omega)
      omega
    have hx : x ≤ x * 2 ^ (d + 1) := by
      have := Int.mul_le_mul_of_nonneg_left hp (show 0 ≤ x by omega)
      omega
    split
    · exact dbl_rng n d (2 * x) (by omega) (by rw [Int.pow_succ] at h1; rw [show 2 * x * 2 ^ d = x * (2 ^ d * 2) by ac_rfl]; exact h1)
    · omega
/-- what BuildKeywords tells -/
def bkM (l : List ByteArray) : Int × List ByteArray × Bool := if wordsOk l l.length = true ∧ 1 ≤ l.length ∧ l.length ≤ 200 then seeds l (dbl (2 * l.length) 10 1) 5001 0 else (0, [], false)
theorem seeds_rng (l : List ByteArray) (z : Int) (hz : 1 ≤ z ∧ z ≤ 1024) : ∀ (d : Nat) (s : Int), 0 ≤ s → s + d ≤ 5001 → 0 ≤ (seeds l z d s).1 ∧ (seeds l z d s).1 ≤ 5000 ∧ (seeds l z d s).2.1.length ≤ 1024
  | 0, s, _, _ => by simp [seeds]
  | d + 1, s, h0, h1 => by
    simp only [seeds]
    split
    · refine ⟨by simp only; omega, by simp only; omega, ?_⟩
      simp only
      rw [putAll_len, fresh, List.length_replicate]
      omega
    · exact seeds_rng l z hz d (s + 1) (by omega) (by omega)
theorem bkM_rng (l : List ByteArray) : 0 ≤ (bkM l).1 ∧ (bkM l).1 ≤ 5000 ∧ (bkM l).2.1.length ≤ 1024 := by
  unfold bkM
  split
  · exact seeds_rng l _ (dbl_rng _ 10 1 (by omega) (by decide)) 5001 0 (by omega) (by omega)
  · simp
theorem wordsOk_good (l : List ByteArray) : ∀ n, wordsOk l n = true → ∀ i, i < n → (rdOf ByteArray.empty l (i : Int)).toList ≠ [] ∧ (rdOf ByteArray.empty l (i : Int)).size ≤ 60 ∧ ∀ j, j < i → j < l.length → (rdOf ByteArray.empty l (j : Int)).toList ≠ (rdOf ByteArray.empty l (i : Int)).toList
  | 0, _, i, hi => by omega
  | n + 1, h, i, hi => by
    simp only [wordsOk, Bool.and_eq_true, decide_eq_true_eq, Bool.not_eq_true', List.any_eq_false, beq_iff_eq] at h
    obtain ⟨h1, ⟨h2, h3⟩, h4⟩ := h
    by_cases e : i = n
    · subst e
      refine ⟨h2, h3, fun j hj hl => ?_⟩
      have : rdOf ByteArray.empty l (j : Int) = l[j] := by
        unfold rdOf
        rw [Int.toNat_natCast, List.getD_eq_getElem?_getD, List.getElem?_eq_getElem hl]
        rfl
      rw [this]
      exact h4 l[j] (List.mem_iff_getElem.2 ⟨j, by rw [List.length_take]; omega, by rw [List.getElem_take]⟩)
    · exact wordsOk_good l n h1 i (by omega)
theorem iBuild (l : List ByteArray) (k : Nat) (hk : 7000 ≤ k) : impl_BuildKeywords.f k l = some (bkM l) := by
  unfold impl_BuildKeywords.f impl_areWords.f
  simp only [Option.bind_some]
  by_cases h : wordsOk l l.length = true ∧ 1 ≤ l.length ∧ l.length ≤ 200
  · have e : bkM l = seeds l (dbl (2 * l.length) 10 1) 5001 0 := by unfold bkM; rw [if_pos h]
    have hg : goodW l := fun i hi => (wordsOk_good l l.length h.1 i hi).2.1
    have hz := dbl_rng (2 * l.length) 10 1 (by omega) (by decide)
    rw [if_pos (by rw [h.1, decide_eq_true h.2]; rfl), e]
    exact iDbl l h.2.2 _ 5500 _ (fun k hk => iSeeds l hg h.2.2 _ hz.1 hz.2 5001 k 0 (by omega) (by omega) (by omega)) 10 k 1 (by omega) (by omega) (by decide) rfl
  · have e : bkM l = (0, [], false) := by unfold bkM; rw [if_neg h]
    rw [if_neg (by
      rw [Bool.and_eq_true, decide_eq_true_eq]
      exact h), e]
/-- the reference's look at one word against those ahead of it -/
theorem sTwice_l (l : List ByteArray) (i : Nat) (hi : i < l.length) (hl : l.length ≤ 200) (R : Option (Int × List ByteArray × Bool)) (K : Nat) (G : ∀ k, K < k → spec_BuildKeywords.l0 k l ((i + 1 : Nat) : Int) = R) (B : (l.take i).any (fun x => x.toList == (rdOf ByteArray.empty l (i : Int)).toList) = true → R = some (0, [], false)) (d : Nat) :
    ∀ (k j : Nat), K + d + 1 < k → i - j = d → j ≤ i → (∀ j', j' < j → (rdOf ByteArray.empty l (j' : Int)).toList ≠ (rdOf ByteArray.empty l (i : Int)).toList) → spec_BuildKeywords.l1 k l (i : Int) (j : Int) = R := by
  induction d with
  | zero =>
    intro k j hk hd hj hn
    obtain ⟨k, rfl⟩ : ∃ m, k = m + 1 := ⟨k - 1, by omega⟩
    simp only [spec_BuildKeywords.l1]
    rw [if_neg (by omega), nat_next (by omega)]
    exact G k (by omega)
  | succ d ih =>
    intro k j hk hd hj hn
    obtain ⟨k, rfl⟩ : ∃ m, k = m + 1 := ⟨k - 1, by omega⟩
    simp only [spec_BuildKeywords.l1]
    rw [if_pos (by omega), if_pos (by omega), if_pos (by omega), if_pos (by omega), if_pos (by omega), nat_next (by omega)]
    by_cases h : (rdOf ByteArray.empty l (j : Int)).toList = (rdOf ByteArray.empty l (i : Int)).toList
    · rw [if_pos h, B]
      rw [List.any_eq_true]
      have hjl : j < l.length := by omega
      have e : rdOf ByteArray.empty l (j : Int) = l[j] := by
        unfold rdOf
        rw [Int.toNat_natCast, List.getD_eq_getElem?_getD, List.getElem?_eq_getElem hjl]
        rfl
      rw [e] at h
      exact ⟨l[j], List.mem_iff_getElem.2 ⟨j, by rw [List.length_take]; omega, by rw [List.getElem_take]⟩, beq_iff_eq.2 h⟩
    · rw [if_neg h]
      refine ih k (j + 1) (by omega) (by omega) (by omega) (fun j' hj' => ?_)
      by_cases e : j' = j
      · rw [e]; exact h
      · exact hn j' (by omega)
theorem sWords_l (l : List ByteArray) (hl : l.length ≤ 200) (h1 : 1 ≤ l.length) (d : Nat) : ∀ (k i : Nat), d * 210 + 6000 < k → l.length - i = d → i ≤ l.length → wordsOk l i = true → spec_BuildKeywords.l0 k l (i : Int) = some (bkM l) := by
  have bad : ∀ n, n ≤ l.length → wordsOk l n = false → bkM l = (0, [], false) := by
    intro n hn h
    unfold bkM
    rw [if_neg]
    rintro ⟨h2, _⟩
    rw [wordsOk_bad l n l.length h hn] at h2
    cases h2
  induction d with
  | zero =>
    intro k i hk hd hi hw
    obtain ⟨k, rfl⟩ : ∃ m, k = m + 1 := ⟨k - 1, by omega⟩
    obtain rfl : i = l.length := by omega
    simp only [spec_BuildKeywords.l0]
    rw [if_neg (by omega)]
    have e : bkM l = seeds l (dbl (2 * l.length) 10 1) 5001 0 := by unfold bkM; rw [if_pos ⟨hw, h1, hl⟩]
    have hg : goodW l := fun i hi => (wordsOk_good l l.length hw i hi).2.1
    have hz := dbl_rng (2 * l.length) 10 1 (by omega) (by decide)
    rw [e]
    exact sDbl l hl _ 5500 _ (fun k hk => sSeeds l hg hl _ hz.1 hz.2 5001 k 0 (by omega) (by omega) (by omega)) 10 k 1 (by omega) (by omega) (by decide) rfl
  | succ d ih =>
    intro k i hk hd hi hw
    obtain ⟨k, rfl⟩ : ∃ m, k = m + 1 := ⟨k - 1, by omega⟩
    have hstep : wordsOk l (i + 1) = (decide ((rdOf ByteArray.empty l (i : Int)).toList ≠ []) && decide ((rdOf ByteArray.empty l (i : Int)).size ≤ 60) && !(l.take i).any (fun x => x.toList == (rdOf ByteArray.empty l (i : Int)).toList)) := by
      simp only [wordsOk, hw, Bool.true_and]
    simp only [spec_BuildKeywords.l0]
    rw [if_pos (by omega), if_pos (by omega)]
    obtain ⟨k, rfl⟩ : ∃ m, k = m + 1 := ⟨k - 1, by omega⟩
    by_cases g1 : (rdOf ByteArray.empty l (i : Int)).toList = []
    · rw [if_pos g1, bad (i + 1) (by omega) (by rw [hstep]; simp [g1])]
      simp only [spec_BuildKeywords.j2, if_true]
    · rw [if_neg g1]
      by_cases g2 : ((rdOf ByteArray.empty l (i : Int)).size : Int) > 60
      · rw [decide_eq_true g2, bad (i + 1) (by omega) (by rw [hstep, decide_eq_false (show ¬ (rdOf ByteArray.empty l (i : Int)).size ≤ 60 by omega)]; simp)]
        simp only [spec_BuildKeywords.j2, if_true]
      · rw [decide_eq_false g2]
        simp only [spec_BuildKeywords.j2, Bool.false_eq_true, if_false]
        cases g3 : (l.take i).any (fun x => x.toList == (rdOf ByteArray.empty l (i : Int)).toList)
        · have hok : wordsOk l (i + 1) = true := by rw [hstep, g3]; simp [g1]; omega
          exact sTwice_l l i (by omega) hl _ (d * 210 + 6000) (fun k hk => ih k (i + 1) (by omega) (by omega) (by omega) hok) (fun h => by rw [g3] at h; cases h) i k 0 (by omega) (by omega) (by omega) (fun j hj => by omega)
        · have hb := bad (i + 1) (by omega) (by rw [hstep, g3]; simp)
          rw [hb]
          -- one of those ahead is the same word
          rw [List.any_eq_true] at g3
          obtain ⟨x, hx, hxe⟩ := g3
          obtain ⟨j, hj, rfl⟩ := List.mem_iff_getElem.1 hx
          rw [List.length_take] at hj
          rw [List.getElem_take, beq_iff_eq] at hxe
          have ej : rdOf ByteArray.empty l (j : Int) = l[j] := by
            unfold rdOf
            rw [Int.toNat_natCast, List.getD_eq_getElem?_getD, List.getElem?_eq_getElem (by omega)]
            rfl
          have : ∀ (e k j0 : Nat), e + 1 < k → j - j0 = e → j0 ≤ j → spec_BuildKeywords.l1 k l (i : Int) (j0 : Int) = some (0, [], false) := by
            intro e
            induction e with
            | zero =>
              intro k j0 hk hd2 hj0
              obtain ⟨k, rfl⟩ : ∃ m, k = m + 1 := ⟨k - 1, by omega⟩
              obtain rfl : j0 = j := by omega
              simp only [spec_BuildKeywords.l1]
              rw [if_pos (by omega), if_pos (by omega), if_pos (by omega), if_pos (by omega), if_pos (by omega), ej, if_pos hxe]
            | succ e ihe =>
              intro k j0 hk hd2 hj0
              obtain ⟨k, rfl⟩ : ∃ m, k = m + 1 := ⟨k - 1, by omega⟩
              simp only [spec_BuildKeywords.l1]
              rw [if_pos (by omega), if_pos (by omega), if_pos (by omega), if_pos (by omega), if_pos (by omega), nat_next (by omega)]
              by_cases h : (rdOf ByteArray.empty l (j0 : Int)).toList = (rdOf ByteArray.empty l (i : Int)).toList
              · rw [if_pos h]
              · rw [if_neg h]
                exact ihe k (j0 + 1) (by omega) (by omega) (by omega)
          exact this j k 0 (by omega) (by omega) (by omega)
theorem sBuild (l : List ByteArray) (k : Nat) (hk : 60000 ≤ k) : spec_BuildKeywords.f k l = some (bkM l) := by
  obtain ⟨k, rfl⟩ : ∃ m, k = m + 1 := ⟨k - 1, by omega⟩
  have none_ : ¬ (1 ≤ l.length ∧ l.length ≤ 200) → bkM l = (0, [], false) := by
    intro h
    unfold bkM
    rw [if_neg]
    rintro ⟨_, h2⟩
    exact h h2
  unfold spec_BuildKeywords.f
  by_cases h1 : (l.length : Int) < 1
  · rw [if_pos h1, none_ (by omega)]
    simp only [spec_BuildKeywords.j0, if_true]
  · rw [if_neg h1]
    by_cases h2 : (l.length : Int) > 200
    · rw [decide_eq_true h2, none_ (by omega)]
      simp only [spec_BuildKeywords.j0, if_true]
    · rw [decide_eq_false h2]
      simp only [spec_BuildKeywords.j0, Bool.false_eq_true, if_false]
      exact sWords_l l (by omega) (by omega) l.length k 0 (by omega) (by omega) (by omega) rfl
theorem FnExactBuildKeywords (x0 : List ByteArray) (g0 : x0.length ≤ maxLen ∧ ∀ x ∈ x0, x.size ≤ maxLen) : ∃ k, laws_FnExactBuildKeywords.f k x0 = some true := by
  suffices ∀ k, 3000000 ≤ k → laws_FnExactBuildKeywords.f k x0 = some true from ⟨3000000, this _ (Nat.le_refl _)⟩
  intro k hk
  have g0l := g0.1
  unfold maxLen at g0l
  unfold laws_FnExactBuildKeywords.f
  by_cases hbig : x0.length ≤ 1048576
  · obtain ⟨r, e, r0, r1⟩ := szStringS x0 1048576 (by omega) g0 k (by omega)
    rw [e]
    simp only [Option.bind_some]
    by_cases hr : r < 0
    · rw [if_pos hr]
    · rw [if_neg hr, toStringS x0 hbig k (by omega)]
      simp only [Option.bind_some]
      obtain ⟨b0, b1, b2⟩ := bkM_rng x0
      rw [sBuild x0 k (by omega), iBuild x0 k (by omega)]
      simp only [Option.bind_some]
      rw [eqKeywords _ _ (by omega) k (by omega)]
      simp only [Option.bind_some, if_true, bne_self_eq_false]
      obtain ⟨k, rfl⟩ : ∃ m, k = m + 1 := ⟨k - 1, by omega⟩
      simp only [laws_FnExactBuildKeywords.j0, Bool.false_eq_true, if_false]
      rw [toStringS x0 hbig k (by omega)]
      simp only [Option.bind_some]
      rw [eqStringS_same x0 (by omega) k (by omega)]
      simp only [Option.bind_some, if_true]
      obtain ⟨y, ey, _, _⟩ := markStr x0 (by omega) 1 (by omega) (by omega) k (by omega)
      rw [ey]
      simp only [Option.bind_some]
      rw [if_neg (by omega), eqKeywords _ _ (by omega) k (by omega)]
      simp only [Option.bind_some, if_true, bne_self_eq_false]
      obtain ⟨k, rfl⟩ : ∃ m, k = m + 1 := ⟨k - 1, by omega⟩
      simp only [laws_FnExactBuildKeywords.j1, Bool.false_eq_true, if_false]
      obtain ⟨z, ez, z1, z2⟩ := markStr (bkM x0).2.1 (by omega) 1 (by omega) (by omega) k (by omega)
      unfold laws_markKeywords.f laws_heldKeywords.f
      rw [ez]
      simp only [Option.bind_some]
      rw [heldStr z _ (by omega) 1 (by omega) (by omega) z1 z2 k (by omega)]
      simp only [Option.bind_some]
      rw [if_neg (by omega)]
      simp only [Option.bind_some, if_true]
      rw [if_neg (by omega), toStringS x0 hbig k (by omega)]
      simp only [Option.bind_some]
      rw [iBuild x0 k (by omega)]
      simp only [Option.bind_some]
      rw [eqKeywords _ _ (by omega) k (by omega)]
      simp only [Option.bind_some, if_true, bne_self_eq_false]
      obtain ⟨k, rfl⟩ : ∃ m, k = m + 1 := ⟨k - 1, by omega⟩
      simp only [laws_FnExactBuildKeywords.j2, Bool.false_eq_true, if_false]
      unfold laws_heldKeywords.f
      rw [heldStr z _ (by omega) 1 (by omega) (by omega) z1 z2 k (by omega)]
      simp only [Option.bind_some]
      rw [if_neg (by omega)]
      simp only [Option.bind_some, if_true]
      rw [if_neg (by omega)]
  · unfold laws_szStringS.f
    rw [w64 (by omega) (by omega), if_pos (by omega)]
    rfl
end Go.Proofs.Ytlfhnlghfgjooaa.Pure
