/- A letter comes back from its bytes, wherever they stand: whatever the codes. -/
import Derived.Test.YtabpfejdppfcdaaPFnLettersx6
import Derived.Test.YtabpfejdppfcdaaKit
import Derived.Test.YtabpfejdppfcdaaKitUtf
import Derived.Test.YtabpfejdppfcdaaKitNums
import Derived.Test.YtabpfejdppfcdaaKitTot
namespace Go.Proofs.Ytabpfejdppfcdaa.Pure
open Go.RowKit Go.Proofs.Ytabpfejdppfcdaa.PFnLetters Go.Proofs.YtabpfejdppfcdaaW.PrintWords Go.Proofs.YtabpfejdppfcdaaW.PrintLast Go.Proofs.YtabpfejdppfcdaaW.PrintMore Go.Proofs.Ytabpfejdppfcdaa.Kit
set_option linter.unusedVariables false
theorem sIn (a b c : Int) : spec_l1In.f a b c = some (decide (b ≤ a ∧ a ≤ c)) := by
  unfold spec_l1In.f
  by_cases h : a ≥ b
  · rw [if_pos h]; congr 1; simp; omega
  · rw [if_neg h]; congr 1; simp; omega
theorem iWithin (a b c : Int) : impl_within.f a b c = some (decide (b ≤ a ∧ a ≤ c)) := by
  unfold impl_within.f
  by_cases h : a ≥ b
  · rw [if_pos h]; congr 1; simp; omega
  · rw [if_neg h]; congr 1; simp; omega
theorem sLetter (n : Int) : spec_l2Letter.f n = some (decide (isLetterM n)) := by
  unfold spec_l2Letter.f isLetterM
  simp only [sIn, Option.bind_some]
  by_cases h : 0 ≤ n ∧ n ≤ 1114111
  · rw [if_pos (by simpa using h)]; congr 1; by_cases g1 : 55296 ≤ n <;> by_cases g2 : n ≤ 57343 <;> simp [h, g1, g2]
  · rw [if_neg (by simpa using h)]; simp [h]

theorem iLetter (n : Int) : impl_isLetter.f n = some (decide (isLetterM n)) := by
  unfold impl_isLetter.f isLetterM
  simp only [iWithin, Option.bind_some]
  by_cases h : 0 ≤ n ∧ n ≤ 1114111
  · rw [if_pos (by simpa using h)]; congr 1; by_cases g1 : 55296 ≤ n <;> by_cases g2 : n ≤ 57343 <;> simp [h, g1, g2]
  · rw [if_neg (by simpa using h)]; simp [h]

theorem sLetterBytes (n : Int) (k : Nat) (hk : 5 < k) : spec_LetterBytes.f k n = some (if isLetterM n then strOfNums (lbM n) else (⟨#[]⟩ : ByteArray)) := by
  obtain ⟨k, rfl⟩ : ∃ m, k = m + 6 := ⟨k - 6, by omega⟩
  unfold spec_LetterBytes.f
  simp only [sLetter, Option.bind_some, decide_eq_true_eq]
  by_cases h : isLetterM n
  · rw [if_pos h, if_pos h]
    unfold isLetterM at h
    unfold lbM
    by_cases h1 : n < 128
    · rw [if_pos h1, if_pos h1]
      congr 2; simp; omega
    · rw [if_neg h1, if_neg h1, tdiv_pos (by omega), tmod_pos (by omega), w64 (x := n / 64) (by omega) (by omega), w64 (x := 128 + n % 64) (by omega) (by omega)]
      have e1 : (128 + n % 64) % 256 = 128 + n % 64 := by omega
      rw [e1, spec_LetterBytes.l0]
      by_cases h2 : n < 2048
      · rw [if_pos h2, if_neg (by omega)]
        simp only [Option.bind_some]
        rw [if_pos (by simp), w64 (by omega) (by omega)]
        congr 2; simp; omega
      · rw [if_neg h2, if_pos (by omega)]
        simp only [Option.bind_some]
        have ea : wrap64 (Int.tdiv 32 2) = 16 := by simp [wrap64]
        have eb : wrap64 (128 + wrap64 (Int.tdiv 192 2)) = 224 := by simp [wrap64]
        have ec : wrap64 (Int.tdiv 16 2) = 8 := by simp [wrap64]
        have ed : wrap64 (128 + wrap64 (Int.tdiv 224 2)) = 240 := by simp [wrap64]
        rw [if_pos (by simp), ea, eb, tdiv_pos (by omega), tmod_pos (by omega), w64 (x := n / 64 / 64) (by omega) (by omega), w64 (x := 128 + n / 64 % 64) (by omega) (by omega), spec_LetterBytes.l0]
        by_cases h3 : n < 65536
        · rw [if_pos h3, if_neg (by omega)]
          simp only [Option.bind_some]
          rw [if_pos (by simp), w64 (by omega) (by omega)]
          congr 2; simp; omega
        · rw [if_neg h3, if_pos (by omega)]
          simp only [Option.bind_some]
          rw [if_pos (by simp), ec, ed, tdiv_pos (by omega), tmod_pos (by omega), w64 (x := n / 64 / 64 / 64) (by omega) (by omega), w64 (x := 128 + n / 64 / 64 % 64) (by omega) (by omega), spec_LetterBytes.l0]
          rw [if_neg (by omega)]
          simp only [Option.bind_some]
          rw [if_pos (by simp), w64 (by omega) (by omega)]
          congr 2; simp; omega
  · rw [if_neg h, if_neg h]

theorem iLetterBytes0 (n : Int) (hn : 0 ≤ n ∧ n ≤ 1114111) (k : Nat) (hk : 5 < k) : impl_letterBytes.f k n = some (strOfNums (lbM n)) := by
  obtain ⟨k, rfl⟩ : ∃ m, k = m + 6 := ⟨k - 6, by omega⟩
  unfold impl_letterBytes.f impl_bytesIn.f lbM
  have q1 : wrap64 (1 - 1) = 0 := by simp [wrap64]
  have q2 : wrap64 (2 - 1) = 1 := by simp [wrap64]
  have q3 : wrap64 (3 - 1) = 2 := by simp [wrap64]
  have q4 : wrap64 (4 - 1) = 3 := by simp [wrap64]
  by_cases h1 : n < 128
  · rw [if_pos h1, if_pos h1]
    simp only [Option.bind_some]
    rw [if_pos (by omega), if_pos (by decide), q1, impl_letterBytes.l0, if_neg (by omega)]
    simp only [Option.bind_some]
    rw [q1, if_pos (by omega), if_pos (by simp), if_pos (by simp)]
    congr 2; simp [rd]; omega
  · rw [if_neg h1, if_neg h1]
    by_cases h2 : n < 2048
    · rw [if_pos h2, if_pos h2]
      simp only [Option.bind_some]
      rw [if_pos (by omega), if_pos (by decide), q2, impl_letterBytes.l0, if_pos (by omega), if_pos (by omega), if_pos (by simp), tdiv_pos (by omega), tmod_pos (by omega), w64 (x := n / 64) (by omega) (by omega), q1, impl_letterBytes.l0, if_neg (by omega)]
      simp only [Option.bind_some]
      rw [q2, if_pos (by omega), if_pos (by simp), if_pos (by simp)]
      congr 2; simp [rd, List.replicate]; omega
    · rw [if_neg h2, if_neg h2]
      by_cases h3 : n < 65536
      · rw [if_pos h3, if_pos h3]
        simp only [Option.bind_some]
        rw [if_pos (by omega), if_pos (by decide), q3, impl_letterBytes.l0, if_pos (by omega), if_pos (by omega), if_pos (by simp), tdiv_pos (by omega), tmod_pos (by omega), w64 (x := n / 64) (by omega) (by omega), q2,
          impl_letterBytes.l0, if_pos (by omega), if_pos (by omega), if_pos (by simp), tdiv_pos (by omega), tmod_pos (by omega), w64 (x := n / 64 / 64) (by omega) (by omega), q1, impl_letterBytes.l0, if_neg (by omega)]
        simp only [Option.bind_some]
        rw [q3, if_pos (by omega), if_pos (by simp), if_pos (by simp)]
        congr 2; simp [rd, List.replicate]; omega
      · rw [if_neg h3, if_neg h3]
        simp only [Option.bind_some]
        rw [if_pos (by omega), if_pos (by decide), q4, impl_letterBytes.l0, if_pos (by omega), if_pos (by omega), if_pos (by simp), tdiv_pos (by omega), tmod_pos (by omega), w64 (x := n / 64) (by omega) (by omega), q3,
          impl_letterBytes.l0, if_pos (by omega), if_pos (by omega), if_pos (by simp), tdiv_pos (by omega), tmod_pos (by omega), w64 (x := n / 64 / 64) (by omega) (by omega), q2,
          impl_letterBytes.l0, if_pos (by omega), if_pos (by omega), if_pos (by simp), tdiv_pos (by omega), tmod_pos (by omega), w64 (x := n / 64 / 64 / 64) (by omega) (by omega), q1, impl_letterBytes.l0, if_neg (by omega)]
        simp only [Option.bind_some]
        rw [q4, if_pos (by omega), if_pos (by simp), if_pos (by simp)]
        congr 2; simp [rd, List.replicate]; omega
theorem s_round {x : ByteArray} {n s i : Int} (k : Nat) (hi : i < s) (h0 : 0 ≤ i) (h1 : i < x.size) (h2 : i ≤ 1000) (n0 : -1000000000 ≤ n) (n1 : n ≤ 1000000000) :
    spec_LetterAt.l0 (k + 1) x n s i = spec_LetterAt.l0 k x (n * 64 + bt x i - 128) s (i + 1) := by
  have b0 := bt_lo x i
  have b1 := bt_hi x i
  simp only [spec_LetterAt.l0]
  rw [if_pos hi, if_pos h0, if_pos h1, w64 (x := n * 64) (by omega) (by omega), w64 (x := bt x i) (by omega) (by omega), w64 (x := n * 64 + bt x i) (by omega) (by omega), w64 (x := n * 64 + bt x i - 128) (by omega) (by omega), w64 (x := i + 1) (by omega) (by omega)]
theorem s_end {x : ByteArray} {n : Int} {s : Nat} (k : Nat) (hk : 6 ≤ k) (hs : 1 ≤ s ∧ s ≤ 4) (h1 : s ≤ x.size) :
    spec_LetterAt.l0 (k + 1) x n (s : Int) (s : Int) = some (if isLetterM n ∧ lenM n = s ∧ lbOk n (bt x 0) (bt x 1) (bt x 2) (bt x 3) then (n, (s : Int)) else (-1, 0)) := by
  simp only [spec_LetterAt.l0]
  rw [if_neg (by omega)]
  have ha := at_iff (n := n) (L := nums x) (s := s) (by rw [nums_len]; exact h1)
  by_cases h : isLetterM n
  · have h' : 0 ≤ n ∧ n ≤ 1114111 := h.1
    rw [if_neg (by omega), sLetterBytes n k (by omega), if_pos h]
    simp only [Option.bind_some]
    rw [if_pos (by omega), if_pos (by omega)]
    simp only [nums_inj, nums_of (lbM_rng h.1), Int.toNat_natCast, nums_take, ha, nums_bt]
    by_cases g : lenM n = s ∧ lbOk n (rd (nums x) 0) (rd (nums x) 1) (rd (nums x) 2) (rd (nums x) 3)
    · rw [if_pos g, if_pos ⟨h, g⟩]
    · rw [if_neg g, if_neg (fun q => g q.2)]
  · rw [if_neg (fun q : isLetterM n ∧ _ => h q.1)]
    by_cases hn : n < 0
    · rw [if_pos hn]
    · rw [if_neg hn, sLetterBytes n k (by omega), if_neg h]
      simp only [Option.bind_some]
      rw [if_pos (by omega), if_pos (by omega), if_neg]
      rw [nums_inj, Int.toNat_natCast, nums_take]
      intro e
      have l : (nums (⟨#[]⟩ : ByteArray)).length = ((nums x).take s).length := by rw [e]
      rw [List.length_take, nums_len, nums_len, Nat.min_eq_left h1] at l
      change 0 = s at l
      omega
theorem and63 {b : Int} (h0 : 0 ≤ b) (h1 : b ≤ 255) : Go.bits .and .u8 b 63 = b % 64 := Go.u8_and63 b h0 (by omega)
theorem i_round {a : ByteArray} {p n s i : Int} (k : Nat) (hi : i < s) (h0 : 0 ≤ p + i) (h1 : p + i < a.size) (h2 : i ≤ 1000) (h3 : 0 ≤ i) (h4 : p ≤ 1000000000000000) (n0 : 0 ≤ n) (n1 : n ≤ 1000000000) :
    impl_LetterAt.l0 (k + 1) a p s n i = impl_LetterAt.l0 k a p s (n * 64 + bt a (p + i) % 64) (i + 1) := by
  have b0 := bt_lo a (p + i)
  have b1 := bt_hi a (p + i)
  simp only [impl_LetterAt.l0]
  rw [if_pos hi, w64 (x := p + i) (by omega) (by omega), if_pos h0, if_pos h1, and63 b0 b1, w64 (x := n * 64) (by omega) (by omega), w64 (x := bt a (p + i) % 64) (by omega) (by omega), w64 (x := n * 64 + bt a (p + i) % 64) (by omega) (by omega), w64 (x := i + 1) (by omega) (by omega)]
theorem i_end {a : ByteArray} {p n : Int} {s : Nat} (k : Nat) (hk : 6 ≤ k) (h0 : 0 ≤ p) (h1 : p + s ≤ a.size) (hl : lenM n ≤ s) :
    impl_LetterAt.l0 (k + 1) a p (s : Int) n (s : Int) = some (if isLetterM n ∧ lbOk n (bt a p) (bt a (p + 1)) (bt a (p + 2)) (bt a (p + 3)) then (n, (s : Int)) else (-1, 0)) := by
  simp only [impl_LetterAt.l0]
  rw [if_neg (by omega), iLetter]
  simp only [Option.bind_some, decide_eq_true_eq]
  by_cases h : isLetterM n
  · rw [if_pos h, if_pos h0, if_pos (by omega), iLetterBytes0 n h.1 k (by omega)]
    simp only [Option.bind_some, strings_HasPrefix.f, stringslite_HasPrefix.f]
    obtain ⟨q, rfl⟩ : ∃ q : Nat, p = q := ⟨p.toNat, by omega⟩
    have ez : (strOfNums (lbM n)).size = lenM n := by rw [strOfNums_size, lbM_len]
    have ex : (a.extract q a.size).size = a.size - q := part_size
    have hp := pre_iff (n := n) (L := nums (a.extract q a.size)) (by rw [nums_len, ex]; omega)
    simp only [Int.toNat_natCast, ez, ex]
    rw [if_pos (by omega), if_pos (by omega), if_pos (by omega)]
    simp only [Option.bind_some, beq_iff_eq, nums_inj, nums_of (lbM_rng h.1), nums_take]
    rw [← nums_bt, ← nums_bt, ← nums_bt, ← nums_bt, bt_part (by omega), bt_part (by omega), bt_part (by omega), bt_part (by omega), Int.add_zero] at hp
    by_cases g : lbOk n (bt a q) (bt a (q + 1)) (bt a (q + 2)) (bt a (q + 3))
    · rw [if_pos (hp.2 g).symm, if_pos ⟨h, g⟩]
    · rw [if_neg (fun e => g (hp.1 e.symm)), if_neg (fun q => g q.2)]
  · rw [if_neg h, if_neg (fun q => h q.1)]
theorem if_same {n n' s : Int} {A B : Prop} [Decidable A] [Decidable B] (h : A ↔ B) (h1 : A → n' = n) : (if B then (n', s) else ((-1 : Int), (0 : Int))) = (if A then (n, s) else (-1, 0)) := by
  by_cases a : A
  · rw [if_pos a, if_pos (h.1 a), h1 a]
  · rw [if_neg a, if_neg (fun b => a (h.2 b))]
/-- the letter that a text's first bytes would be -/
def valR (x : ByteArray) : Nat → Int
  | 1 => bt x 0
  | 2 => (bt x 0 - 192) * 64 + bt x 1 - 128
  | 3 => ((bt x 0 - 224) * 64 + bt x 1 - 128) * 64 + bt x 2 - 128
  | _ => (((bt x 0 - 240) * 64 + bt x 1 - 128) * 64 + bt x 2 - 128) * 64 + bt x 3 - 128
def GoodR (x : ByteArray) (s : Nat) (r : Int × Int) : Prop := r = if isLetterM (valR x s) ∧ lenM (valR x s) = s ∧ lbOk (valR x s) (bt x 0) (bt x 1) (bt x 2) (bt x 3) then (valR x s, (s : Int)) else (-1, 0)
theorem goodR_of {x : ByteArray} {n : Int} {s : Nat} (h : n = valR x s) : GoodR x s (if isLetterM n ∧ lenM n = s ∧ lbOk n (bt x 0) (bt x 1) (bt x 2) (bt x 3) then (n, (s : Int)) else (-1, 0)) := by subst h; rfl
/-- what follows the first byte -/
theorem tails {x a : ByteArray} {p : Nat} (hx : x = a.extract p a.size) (hp : p < a.size) (hs : a.size ≤ 1048576) (k : Nat) (hk : 20 ≤ k) (s : Nat) (b0 lead : Int) (hb : b0 = bt a p)
    (hc : (s = 1 ∧ lead = b0 ∧ b0 < 128) ∨ (s = 2 ∧ lead = b0 - 192 ∧ 192 ≤ b0 ∧ b0 < 224) ∨ (s = 3 ∧ lead = b0 - 224 ∧ 224 ≤ b0 ∧ b0 < 240) ∨ (s = 4 ∧ lead = b0 - 240 ∧ 240 ≤ b0 ∧ b0 < 248)) (h : p + s ≤ a.size) :
    ∃ r, spec_LetterAt.l0 k x lead s 1 = some r ∧ impl_LetterAt.l0 k a p s lead 1 = some r ∧ GoodR x s r := by
  have l0 := bt_lo a p
  have z : x.size = a.size - p := by rw [hx]; exact part_size
  have e0 : bt x 0 = b0 := by rw [hx, bt_part (by omega), Int.add_zero, hb]
  have e1 : bt x 1 = bt a (p + 1) := by rw [hx, bt_part (by omega)]
  have e2 : bt x 2 = bt a (p + 2) := by rw [hx, bt_part (by omega)]
  have e3 : bt x 3 = bt a (p + 3) := by rw [hx, bt_part (by omega)]
  have g1 := bt_lo a (p + 1)
  have g1' := bt_hi a (p + 1)
  have g2 := bt_lo a (p + 2)
  have g2' := bt_hi a (p + 2)
  have g3 := bt_lo a (p + 3)
  have g3' := bt_hi a (p + 3)
  obtain ⟨k, rfl⟩ : ∃ m, k = m + 5 := ⟨k - 5, by omega⟩
  rcases hc with ⟨rfl, rfl, c⟩ | ⟨rfl, rfl, c⟩ | ⟨rfl, rfl, c⟩ | ⟨rfl, rfl, c⟩
  · have es := s_end (x := x) (n := lead) (s := 1) (k + 4) (by omega) (by omega) (by omega)
    have ei := i_end (a := a) (p := p) (n := lead) (s := 1) (k + 4) (by omega) (by omega) (by omega) (by have := lenM_spec lead; omega)
    refine ⟨_, es, ei.trans (congrArg some ?_), goodR_of (by simp only [valR]; omega)⟩
    rw [e0, e1, e2, e3, ← hb]
    have := lenM_spec lead
    exact if_same (by unfold isLetterM lbOk; omega) (fun _ => rfl)
  · have es := s_end (x := x) (n := ((b0 - 192) * 64 + bt x 1 - 128)) (s := 2) (k + 3) (by omega) (by omega) (by omega)
    have ei := i_end (a := a) (p := p) (n := ((b0 - 192) * 64 + bt a (p + 1) % 64)) (s := 2) (k + 3) (by omega) (by omega) (by omega) (by have := lenM_spec ((b0 - 192) * 64 + bt a (p + 1) % 64); omega)
    have g4 := bt_lo x 1
    have g4' := bt_hi x 1
    have g5 := bt_lo x 2
    have g5' := bt_hi x 2
    have g6 := bt_lo x 3
    have g6' := bt_hi x 3
    rw [s_round (k + 4) (by omega) (by omega) (by omega) (by omega) (by omega) (by omega)]
    rw [i_round (k + 4) (by omega) (by omega) (by omega) (by omega) (by omega) (by omega) (by omega) (by omega)]
    refine ⟨_, es, ei.trans (congrArg some ?_), goodR_of (by simp only [valR]; omega)⟩
    rw [e0, e1, e2, e3, ← hb]
    generalize bt a (p + 1) = b1 at *
    generalize bt a (p + 2) = b2 at *
    generalize bt a (p + 3) = b3 at *
    clear es ei e0 e1 e2 e3 g4 g4' g5 g5' g6 g6'
    have eA : (lenM ((b0 - 192) * 64 + b1 - 128) = 2 ∧ lbOk ((b0 - 192) * 64 + b1 - 128) b0 b1 b2 b3) → ((b0 - 192) * 64 + b1 % 64) = ((b0 - 192) * 64 + b1 - 128) := by
      rintro ⟨h2, h⟩
      have y2 := lenM_spec ((b0 - 192) * 64 + b1 - 128)
      have h4 := h.2.1 (by omega) (by omega)
      clear h y2 h2
      omega
    have eB : lbOk ((b0 - 192) * 64 + b1 % 64) b0 b1 b2 b3 → ((b0 - 192) * 64 + b1 % 64) = ((b0 - 192) * 64 + b1 - 128) ∧ lenM ((b0 - 192) * 64 + b1 % 64) = 2 := by
      intro h
      have y1 := lenM_spec ((b0 - 192) * 64 + b1 % 64)
      rcases y1 with ⟨y, e⟩ | ⟨y, y', e⟩ | ⟨y, y', e⟩ | ⟨y, e⟩
      · have h4 := h.1 y
        clear h e
        omega
      · have h4 := h.2.1 y y'
        clear h
        omega
      · have h4 := h.2.2.1 y y'
        clear h
        omega
      · have h4 := h.2.2.2 y
        clear h
        omega
    refine if_same ⟨?_, ?_⟩ (fun h => eA h.2)
    · rintro ⟨h1, h⟩
      rw [eA h]
      exact ⟨h1, h.2⟩
    · rintro ⟨h1, h⟩
      have e := eB h
      rw [e.1] at h1 h e
      exact ⟨h1, e.2, h⟩
  · have es := s_end (x := x) (n := (((b0 - 224) * 64 + bt x 1 - 128) * 64 + bt x 2 - 128)) (s := 3) (k + 2) (by omega) (by omega) (by omega)
    have ei := i_end (a := a) (p := p) (n := (((b0 - 224) * 64 + bt a (p + 1) % 64) * 64 + bt a (p + 2) % 64)) (s := 3) (k + 2) (by omega) (by omega) (by omega) (by have := lenM_spec (((b0 - 224) * 64 + bt a (p + 1) % 64) * 64 + bt a (p + 2) % 64); omega)
    have g4 := bt_lo x 1
    have g4' := bt_hi x 1
    have g5 := bt_lo x 2
    have g5' := bt_hi x 2
    have g6 := bt_lo x 3
    have g6' := bt_hi x 3
    rw [s_round (k + 4) (by omega) (by omega) (by omega) (by omega) (by omega) (by omega), show ((1 : Int) + 1) = 2 from rfl, s_round (k + 3) (by omega) (by omega) (by omega) (by omega) (by omega) (by omega)]
    rw [i_round (k + 4) (by omega) (by omega) (by omega) (by omega) (by omega) (by omega) (by omega) (by omega), show ((1 : Int) + 1) = 2 from rfl, i_round (k + 3) (by omega) (by omega) (by omega) (by omega) (by omega) (by omega) (by omega) (by omega)]
    refine ⟨_, es, ei.trans (congrArg some ?_), goodR_of (by simp only [valR]; omega)⟩
    rw [e0, e1, e2, e3, ← hb]
    generalize bt a (p + 1) = b1 at *
    generalize bt a (p + 2) = b2 at *
    generalize bt a (p + 3) = b3 at *
    clear es ei e0 e1 e2 e3 g4 g4' g5 g5' g6 g6'
    have eA : (lenM (((b0 - 224) * 64 + b1 - 128) * 64 + b2 - 128) = 3 ∧ lbOk (((b0 - 224) * 64 + b1 - 128) * 64 + b2 - 128) b0 b1 b2 b3) → (((b0 - 224) * 64 + b1 % 64) * 64 + b2 % 64) = (((b0 - 224) * 64 + b1 - 128) * 64 + b2 - 128) := by
      rintro ⟨h2, h⟩
      have y2 := lenM_spec (((b0 - 224) * 64 + b1 - 128) * 64 + b2 - 128)
      have h4 := h.2.2.1 (by omega) (by omega)
      clear h y2 h2
      omega
    have eB : lbOk (((b0 - 224) * 64 + b1 % 64) * 64 + b2 % 64) b0 b1 b2 b3 → (((b0 - 224) * 64 + b1 % 64) * 64 + b2 % 64) = (((b0 - 224) * 64 + b1 - 128) * 64 + b2 - 128) ∧ lenM (((b0 - 224) * 64 + b1 % 64) * 64 + b2 % 64) = 3 := by
      intro h
      have y1 := lenM_spec (((b0 - 224) * 64 + b1 % 64) * 64 + b2 % 64)
      rcases y1 with ⟨y, e⟩ | ⟨y, y', e⟩ | ⟨y, y', e⟩ | ⟨y, e⟩
      · have h4 := h.1 y
        clear h e
        omega
      · have h4 := h.2.1 y y'
        clear h
        omega
      · have h4 := h.2.2.1 y y'
        clear h
        omega
      · have h4 := h.2.2.2 y
        clear h
        omega
    refine if_same ⟨?_, ?_⟩ (fun h => eA h.2)
    · rintro ⟨h1, h⟩
      rw [eA h]
      exact ⟨h1, h.2⟩
    · rintro ⟨h1, h⟩
      have e := eB h
      rw [e.1] at h1 h e
      exact ⟨h1, e.2, h⟩
  · have es := s_end (x := x) (n := ((((b0 - 240) * 64 + bt x 1 - 128) * 64 + bt x 2 - 128) * 64 + bt x 3 - 128)) (s := 4) (k + 1) (by omega) (by omega) (by omega)
    have ei := i_end (a := a) (p := p) (n := ((((b0 - 240) * 64 + bt a (p + 1) % 64) * 64 + bt a (p + 2) % 64) * 64 + bt a (p + 3) % 64)) (s := 4) (k + 1) (by omega) (by omega) (by omega) (by have := lenM_spec ((((b0 - 240) * 64 + bt a (p + 1) % 64) * 64 + bt a (p + 2) % 64) * 64 + bt a (p + 3) % 64); omega)
    have g4 := bt_lo x 1
    have g4' := bt_hi x 1
    have g5 := bt_lo x 2
    have g5' := bt_hi x 2
    have g6 := bt_lo x 3
    have g6' := bt_hi x 3
    rw [s_round (k + 4) (by omega) (by omega) (by omega) (by omega) (by omega) (by omega), show ((1 : Int) + 1) = 2 from rfl, s_round (k + 3) (by omega) (by omega) (by omega) (by omega) (by omega) (by omega), show ((2 : Int) + 1) = 3 from rfl, s_round (k + 2) (by omega) (by omega) (by omega) (by omega) (by omega) (by omega)]
    rw [i_round (k + 4) (by omega) (by omega) (by omega) (by omega) (by omega) (by omega) (by omega) (by omega), show ((1 : Int) + 1) = 2 from rfl, i_round (k + 3) (by omega) (by omega) (by omega) (by omega) (by omega) (by omega) (by omega) (by omega), show ((2 : Int) + 1) = 3 from rfl, i_round (k + 2) (by omega) (by omega) (by omega) (by omega) (by omega) (by omega) (by omega) (by omega)]
    refine ⟨_, es, ei.trans (congrArg some ?_), goodR_of (by simp only [valR]; omega)⟩
    rw [e0, e1, e2, e3, ← hb]
    generalize bt a (p + 1) = b1 at *
    generalize bt a (p + 2) = b2 at *
    generalize bt a (p + 3) = b3 at *
    clear es ei e0 e1 e2 e3 g4 g4' g5 g5' g6 g6'
    have eA : (lenM ((((b0 - 240) * 64 + b1 - 128) * 64 + b2 - 128) * 64 + b3 - 128) = 4 ∧ lbOk ((((b0 - 240) * 64 + b1 - 128) * 64 + b2 - 128) * 64 + b3 - 128) b0 b1 b2 b3) → ((((b0 - 240) * 64 + b1 % 64) * 64 + b2 % 64) * 64 + b3 % 64) = ((((b0 - 240) * 64 + b1 - 128) * 64 + b2 - 128) * 64 + b3 - 128) := by
      rintro ⟨h2, h⟩
      have y2 := lenM_spec ((((b0 - 240) * 64 + b1 - 128) * 64 + b2 - 128) * 64 + b3 - 128)
      have h4 := h.2.2.2 (by omega)
      clear h y2 h2
      omega
    have eB : lbOk ((((b0 - 240) * 64 + b1 % 64) * 64 + b2 % 64) * 64 + b3 % 64) b0 b1 b2 b3 → ((((b0 - 240) * 64 + b1 % 64) * 64 + b2 % 64) * 64 + b3 % 64) = ((((b0 - 240) * 64 + b1 - 128) * 64 + b2 - 128) * 64 + b3 - 128) ∧ lenM ((((b0 - 240) * 64 + b1 % 64) * 64 + b2 % 64) * 64 + b3 % 64) = 4 := by
      intro h
      have y1 := lenM_spec ((((b0 - 240) * 64 + b1 % 64) * 64 + b2 % 64) * 64 + b3 % 64)
      rcases y1 with ⟨y, e⟩ | ⟨y, y', e⟩ | ⟨y, y', e⟩ | ⟨y, e⟩
      · have h4 := h.1 y
        clear h e
        omega
      · have h4 := h.2.1 y y'
        clear h
        omega
      · have h4 := h.2.2.1 y y'
        clear h
        omega
      · have h4 := h.2.2.2 y
        clear h
        omega
    refine if_same ⟨?_, ?_⟩ (fun h => eA h.2)
    · rintro ⟨h1, h⟩
      rw [eA h]
      exact ⟨h1, h.2⟩
    · rintro ⟨h1, h⟩
      have e := eB h
      rw [e.1] at h1 h e
      exact ⟨h1, e.2, h⟩
theorem iLead {b0 : Int} (_ : 0 ≤ b0) (_ : b0 ≤ 255) (k : Nat) : impl_leadOf.f (k + 3) b0 = some (if b0 < 128 then (1, b0) else if b0 < 192 then (0, 0) else if b0 < 224 then (2, b0 - 192) else if b0 < 240 then (3, b0 - 224) else if b0 < 248 then (4, b0 - 240) else (0, 0)) := by
  unfold impl_leadOf.f
  simp only [impl_leadOf.j0, impl_leadOf.j1]
  by_cases h1 : b0 < 128
  · rw [if_pos h1, if_pos h1, w64 (by omega) (by omega)]
  · rw [if_neg h1, if_neg h1]
    by_cases h2 : b0 < 192
    · rw [if_pos h2, if_neg (by omega), if_neg (by simp), if_neg (by omega), if_neg (by simp), if_neg (by omega)]
    · rw [if_neg h2, if_pos (by omega)]
      by_cases h3 : b0 < 224
      · rw [if_pos h3, decide_eq_true h3, if_pos rfl]
        congr 2
        omega
      · rw [if_neg h3, decide_eq_false h3, if_neg (by simp), if_pos (by omega)]
        by_cases h4 : b0 < 240
        · rw [if_pos h4, decide_eq_true h4, if_pos rfl]
          congr 2
          omega
        · rw [if_neg h4, decide_eq_false h4, if_neg (by simp), if_pos (by omega)]
          by_cases h5 : b0 < 248
          · rw [if_pos h5, if_pos h5]
            congr 2
            omega
          · rw [if_neg h5, if_neg h5]
theorem sBad {x : ByteArray} {b0 : Int} (k : Nat) (hk : 20 ≤ k) (h1 : 1 ≤ x.size) (hb : 128 ≤ b0) (hb' : b0 < 192) (_ : bt x 0 = b0) : spec_LetterAt.l0 k x b0 1 1 = some (-1, 0) := by
  obtain ⟨k, rfl⟩ : ∃ m, k = m + 1 := ⟨k - 1, by omega⟩
  have es := s_end (x := x) (n := b0) (s := 1) k (by omega) (by omega) (by omega)
  refine es.trans (congrArg some (if_neg ?_))
  have := lenM_spec b0
  omega
theorem sBig {x : ByteArray} {b0 : Int} (k : Nat) (hk : 20 ≤ k) (h1 : 4 ≤ x.size) (hb : 248 ≤ b0) (hb' : b0 ≤ 255) : spec_LetterAt.l0 k x (b0 - 240) 4 1 = some (-1, 0) := by
  obtain ⟨k, rfl⟩ : ∃ m, k = m + 4 := ⟨k - 4, by omega⟩
  have g1 := bt_lo x 1
  have g1' := bt_hi x 1
  have g2 := bt_lo x 2
  have g2' := bt_hi x 2
  have g3 := bt_lo x 3
  have g3' := bt_hi x 3
  have es := s_end (x := x) (n := (((b0 - 240) * 64 + bt x 1 - 128) * 64 + bt x 2 - 128) * 64 + bt x 3 - 128) (s := 4) k (by omega) (by omega) (by omega)
  rw [s_round (k + 3) (by omega) (by omega) (by omega) (by omega) (by omega) (by omega), show ((1 : Int) + 1) = 2 from rfl, s_round (k + 2) (by omega) (by omega) (by omega) (by omega) (by omega) (by omega), show ((2 : Int) + 1) = 3 from rfl, s_round (k + 1) (by omega) (by omega) (by omega) (by omega) (by omega) (by omega)]
  refine es.trans (congrArg some (if_neg ?_))
  rintro ⟨h, _⟩
  have := h.1
  omega
theorem next_ok {b : List Int} {p : Int} (hb : Bytes b) (hp : At b p) : Tot (spec_l1Rd_next.f b p) (fun r => 0 ≤ r.1 ∧ r.1 ≤ 255 ∧ At b r.2) := by
  have hl := hb.len
  have h0 := hp.1
  have h1 := hp.2
  unfold spec_l1Rd_next.f
  by_cases h : p ≥ (b.length : Int)
  · rw [if_pos h]
    exact Tot.pure ⟨by simp, by simp, hp⟩
  · rw [if_neg h]
    have e : wrap64 (wrap64 (p + 1) - 1) = p := by
      rw [w64 (x := p + 1) (by omega) (by omega), w64 (by omega) (by omega)]
      omega
    rw [e, if_pos h0, if_pos (by omega)]
    have := hb.lo p
    have := hb.hi p
    rw [w64 (x := rd b p) (by omega) (by omega), w64 (x := p + 1) (by omega) (by omega)]
    exact Tot.pure ⟨hb.lo p, hb.hi p, by simp only; omega, by simp only; omega⟩
theorem below_ok {b : List Int} {p : Int} (n : Int) (hb : Bytes b) (hp : At b p) : Tot (spec_l1Rd_below.f b p n) (fun r => 0 ≤ r.1 ∧ (r.1 < n ∨ r.1 = 0) ∧ At b r.2) := by
  unfold spec_l1Rd_below.f
  by_cases h : n ≤ 1
  · rw [if_pos h]
    exact Tot.pure ⟨by simp, by simp, hp⟩
  · rw [if_neg h]
    by_cases h2 : n ≤ 256
    · rw [if_pos h2]
      refine (next_ok hb hp).bind fun v hv => ?_
      rw [if_neg (by omega)]
      obtain ⟨v0, v1, v2⟩ := hv
      have := Int.emod_nonneg v.1 (show n ≠ 0 by omega)
      have := Int.emod_lt_of_pos v.1 (show 0 < n by omega)
      exact Tot.pure ⟨by rw [tmod_pos v0]; omega, by rw [tmod_pos v0]; omega, v2⟩
    · rw [if_neg h2]
      refine (next_ok hb hp).bind fun v hv => ?_
      obtain ⟨v0, v1, v2⟩ := hv
      refine (next_ok hb v2).bind fun u hu => ?_
      obtain ⟨u0, u1, u2⟩ := hu
      rw [if_neg (by omega), w64 (x := v.1 * 256) (by omega) (by omega), w64 (x := v.1 * 256 + u.1) (by omega) (by omega)]
      have := Int.emod_nonneg (v.1 * 256 + u.1) (show n ≠ 0 by omega)
      have := Int.emod_lt_of_pos (v.1 * 256 + u.1) (show 0 < n by omega)
      exact Tot.pure ⟨by rw [tmod_pos (by omega)]; omega, by rw [tmod_pos (by omega)]; omega, u2⟩
theorem once_ok {b : List Int} {p : Int} (n : Int) (hb : Bytes b) (hp : At b p) : Tot (spec_l1Rd_once.f b p n) (fun r => At b r.2) := by
  unfold spec_l1Rd_once.f
  refine (below_ok n hb hp).bind fun v hv => ?_
  exact Tot.pure hv.2.2
theorem word_l {b : List Int} (hb : Bytes b) (d : Nat) : ∀ (k : Nat) (x i p : Int), d < k → 0 ≤ i → 8 - i = d → At b p → Tot (spec_l1Rd_word.l0 k x i b p) (fun r => At b r.2) := by
  induction d with
  | zero =>
    intro k x i p hk h0 hd hp
    obtain ⟨k, rfl⟩ : ∃ m, k = m + 1 := ⟨k - 1, by omega⟩
    simp only [spec_l1Rd_word.l0]
    rw [if_neg (by omega)]
    exact Tot.pure hp
  | succ d ih =>
    intro k x i p hk h0 hd hp
    obtain ⟨k, rfl⟩ : ∃ m, k = m + 1 := ⟨k - 1, by omega⟩
    simp only [spec_l1Rd_word.l0]
    rw [if_pos (by omega)]
    refine (next_ok hb hp).bind fun v hv => ?_
    rw [w64 (x := i + 1) (by omega) (by omega)]
    exact ih k _ (i + 1) _ (by omega) (by omega) (by omega) hv.2.2
theorem word_ok {b : List Int} {p : Int} {k : Nat} (hk : 10 ≤ k) (hb : Bytes b) (hp : At b p) : Tot (spec_l1Rd_word.f k b p) (fun r => At b r.2) := by
  unfold spec_l1Rd_word.f
  exact word_l hb 8 k 0 0 p (by omega) (by omega) (by omega) hp
theorem near_ok {b : List Int} {p : Int} {k : Nat} (lo hi : Int) (h : -4611686018427387904 ≤ lo) (h' : hi ≤ 4611686018427387902) (l' : lo ≤ 4611686018427387904) (g' : -4611686018427387904 ≤ hi) (hk : 10 ≤ k) (hb : Bytes b) (hp : At b p) : Tot (spec_l1Rd_near.f k b p lo hi) (fun r => i64 r.1 ∧ At b r.2) := by
  unfold spec_l1Rd_near.f
  refine (below_ok 8 hb hp).bind fun v hv => ?_
  refine Tot.ite (fun _ => Tot.pure ⟨⟨by simp only; omega, by simp only; omega⟩, hv.2.2⟩) (fun _ => ?_)
  refine Tot.ite (fun _ => Tot.pure ⟨⟨by simp only; omega, by simp only; omega⟩, hv.2.2⟩) (fun _ => ?_)
  refine Tot.ite (fun _ => Tot.pure ⟨⟨by simp only; omega, by simp only; omega⟩, hv.2.2⟩) (fun h3 => ?_)
  refine (word_ok hk hb hv.2.2).bind fun u hu => ?_
  rw [w64 (x := hi - lo) (by omega) (by omega), w64 (x := hi - lo + 1) (by omega) (by omega)]
  have e : IntKind.u64.wrap (hi - lo + 1) = hi - lo + 1 := by
    simp only [IntKind.wrap, IntKind.signed, IntKind.bits]
    first | omega | (simp; omega)
  rw [e, if_neg (by omega)]
  exact Tot.pure ⟨i64_wrap _, hu⟩
theorem off_ok {b : List Int} {p : Int} {k : Nat} (lo hi : Int) (h : -4611686018427387904 ≤ lo) (h' : hi ≤ 4611686018427387902) (l' : lo ≤ 4611686018427387904) (g' : -4611686018427387904 ≤ hi) (hk : 10 ≤ k) (hb : Bytes b) (hp : At b p) : Tot (spec_l1Rd_off.f k b p lo hi) (fun r => i64 r.1 ∧ At b r.2) := by
  unfold spec_l1Rd_off.f
  refine (once_ok 24 hb hp).bind fun v hv => ?_
  refine Tot.ite (fun _ => ?_) (fun _ => ?_)
  · simp only [Option.bind_some]
    refine (below_ok 4 hb hv).bind fun u hu => ?_
    obtain ⟨u0, u1, u2⟩ := hu
    refine Tot.yes u0 (Tot.yes (by simp only [List.length_cons, List.length_nil]; omega) (Tot.pure ⟨?_, u2⟩))
    have : u.1 = 0 ∨ u.1 = 1 ∨ u.1 = 2 ∨ u.1 = 3 := by omega
    rcases this with e | e | e | e <;> simp only [e, rd] <;> simp [i64] <;> first | done | exact i64_wrap _
  · refine (near_ok lo hi h h' l' g' hk hb hv).bind fun u hu => ?_
    exact Tot.pure hu
theorem letter_ok {b : List Int} {p : Int} {k : Nat} (hk : 30 ≤ k) (hb : Bytes b) (hp : At b p) : Tot (spec_l1Rd_letter.f k b p) (fun r => At b r.2) := by
  obtain ⟨k, rfl⟩ : ∃ m, k = m + 1 := ⟨k - 1, by omega⟩
  have last : ∀ q, At b q → Tot (spec_l1Rd_letter.j0 (k + 1) b q) (fun r => At b r.2) := by
    intro q hq
    simp only [spec_l1Rd_letter.j0]
    refine (word_ok (by omega) hb hq).bind fun v hv => ?_
    rw [sLetter]
    simp only [bsm]
    exact Tot.ite (fun _ => Tot.pure hv) (fun _ => Tot.pure hv)
  unfold spec_l1Rd_letter.f
  simp only [bsm]
  refine (below_ok 3 hb hp).bind fun v hv => ?_
  refine Tot.ite (fun _ => ?_) (fun _ => ?_)
  · refine (below_ok _ hb hv.2.2).bind fun u hu => ?_
    refine Tot.yes hu.1 (Tot.yes (by have := hu.2.1; simp only [List.length_cons, List.length_nil] at this ⊢; omega) ?_)
    refine (below_ok 3 hb hu.2.2).bind fun x hx => ?_
    rw [sLetter]
    simp only [bsm]
    exact Tot.ite (fun _ => Tot.pure hx.2.2) (fun _ => last _ hx.2.2)
  · refine Tot.ite (fun _ => ?_) (fun _ => last _ hv.2.2)
    refine (below_ok 18 hb hv.2.2).bind fun u hu => ?_
    rw [sLetter]
    simp only [bsm]
    exact Tot.ite (fun _ => Tot.pure hu.2.2) (fun _ => last _ hu.2.2)
/-- what a text says at a place -/
def Res (a : ByteArray) (p : Int) (r : Int × Int) : Prop :=
  (0 ≤ p ∧ p < (a.size : Int) ∧ ∃ s : Nat, s ≤ (a.extract p.toNat a.size).size ∧ GoodR (a.extract p.toNat a.size) s r ∧ ∀ n, isLetterM n → lenM n ≤ (a.extract p.toNat a.size).size → lbOk n (bt (a.extract p.toNat a.size) 0) (bt (a.extract p.toNat a.size) 1) (bt (a.extract p.toNat a.size) 2) (bt (a.extract p.toNat a.size) 3) → lenM n = s) ∨
  (r = (-1, 0) ∧ ∀ n, 0 ≤ p → p < (a.size : Int) → isLetterM n → lenM n ≤ (a.extract p.toNat a.size).size → lbOk n (bt (a.extract p.toNat a.size) 0) (bt (a.extract p.toNat a.size) 1) (bt (a.extract p.toNat a.size) 2) (bt (a.extract p.toNat a.size) 3) → False)
theorem first_of {n b0 b1 b2 b3 : Int} (hn : isLetterM n) (h : lbOk n b0 b1 b2 b3) : (lenM n = 1 ∧ n = b0 ∧ 0 ≤ b0 ∧ b0 < 128) ∨ (lenM n = 2 ∧ 192 ≤ b0 ∧ b0 < 224 ∧ n = (b0 - 192) * 64 + b1 - 128) ∨ (lenM n = 3 ∧ 224 ≤ b0 ∧ b0 < 240 ∧ n = ((b0 - 224) * 64 + b1 - 128) * 64 + b2 - 128) ∨ (lenM n = 4 ∧ 240 ≤ b0 ∧ b0 < 248 ∧ n = (((b0 - 240) * 64 + b1 - 128) * 64 + b2 - 128) * 64 + b3 - 128) := by
  have h0 := hn.1
  rcases lenM_spec n with ⟨y, e⟩ | ⟨y, y', e⟩ | ⟨y, y', e⟩ | ⟨y, e⟩
  · have h4 := h.1 y; omega
  · have h4 := h.2.1 y y'; clear h; omega
  · have h4 := h.2.2.1 y y'; clear h; omega
  · have h4 := h.2.2.2 y; clear h; omega
theorem letter_both (a : ByteArray) (p : Int) (hw : ¬ (a.size : Int) > 1048576) (k : Nat) (hk : 40 ≤ k) : ∃ r, spec_LetterAt.f k a p = some r ∧ impl_LetterAt.f k a p = some r ∧ Res a p r := by
  obtain ⟨k, rfl⟩ : ∃ m, k = m + 3 := ⟨k - 3, by omega⟩
  unfold spec_LetterAt.f impl_LetterAt.f impl_length.f
  simp only [Option.bind_some]
  rw [sIn, iWithin, w64 (x := (a.size : Int) - 1) (by omega) (by omega)]
  simp only [Option.bind_some, decide_eq_true_eq]
  by_cases hin : 0 ≤ p ∧ p ≤ (a.size : Int) - 1
  · obtain ⟨q, rfl⟩ : ∃ q : Nat, p = q := ⟨p.toNat, by omega⟩
    rw [Int.toNat_natCast]
    have z : (a.extract q a.size).size = a.size - q := part_size
    have e0 : bt (a.extract q a.size) 0 = bt a q := by rw [bt_part (by omega), Int.add_zero]
    have l0 := bt_lo a q
    have l1 := bt_hi a q
    rw [if_pos hin, if_pos hin, if_pos hin.1, if_pos hin.1, if_pos (show (q : Int) ≤ a.size by omega), if_pos (show (0 : Int) < ((a.extract q a.size).size : Int) by omega), if_pos (show (q : Int) < a.size by omega), e0, w64 (x := bt a q) (by omega) (by omega), iLead l0 l1]
    have T := tails (x := a.extract q a.size) (a := a) (p := q) rfl (by omega) (by omega)
    generalize hx : a.extract q a.size = x at *
    have fin : ∀ (s : Nat) {A B : Option (Int × Int)}, (∃ r, A = some r ∧ B = some r ∧ GoodR x s r) → s ≤ x.size → (∀ n, isLetterM n → lenM n ≤ x.size → lbOk n (bt x 0) (bt x 1) (bt x 2) (bt x 3) → lenM n = s) → ∃ r, A = some r ∧ B = some r ∧ Res a q r := by
      rintro s A B ⟨r, f1, f2, f3⟩ f4 f5
      refine ⟨r, f1, f2, .inl ⟨by omega, by omega, s, ?_⟩⟩
      rw [Int.toNat_natCast, hx]
      exact ⟨f4, f3, f5⟩
    have none_ : ∀ {A B : Option (Int × Int)}, A = some (-1, 0) → B = some (-1, 0) → (∀ n, isLetterM n → lenM n ≤ x.size → lbOk n (bt x 0) (bt x 1) (bt x 2) (bt x 3) → False) → ∃ r, A = some r ∧ B = some r ∧ Res a q r := by
      intro A B f1 f2 f3
      refine ⟨_, f1, f2, .inr ⟨rfl, ?_⟩⟩
      rw [Int.toNat_natCast, hx]
      exact fun n _ _ => f3 n
    generalize hb : bt a q = b0 at *
    simp only [Option.bind_some, spec_LetterAt.j0, impl_LetterAt.j0]
    by_cases h1 : b0 < 128
    · rw [if_pos h1, if_neg (show ¬ b0 ≥ 240 by omega), if_neg (show ¬ b0 ≥ 224 by omega), if_neg (show ¬ b0 ≥ 192 by omega), if_neg (show ¬ (x.size : Int) < 1 by omega)]
      simp only
      rw [if_neg (show ¬ (1 : Int) = 0 by omega), w64 (x := (q : Int) + 1) (by omega) (by omega), decide_eq_false (show ¬ (q : Int) + 1 > a.size by omega), if_neg (by simp)]
      exact fin 1 (T (k + 2) (by omega) 1 b0 b0 rfl (by omega) (by omega)) (by omega) (fun n g0 g1 g2 => by have := first_of g0 g2; rw [e0] at this; omega)
    · rw [if_neg h1]
      by_cases h2 : b0 < 192
      · rw [if_pos h2, if_neg (show ¬ b0 ≥ 240 by omega), if_neg (show ¬ b0 ≥ 224 by omega), if_neg (show ¬ b0 ≥ 192 by omega), if_neg (show ¬ (x.size : Int) < 1 by omega)]
        exact none_ (sBad (k + 2) (by omega) (by omega) (by omega) h2 e0) rfl (fun n g0 g1 g2 => by first | omega | (have := first_of g0 g2; rw [e0] at this; omega))
      · rw [if_neg h2]
        by_cases h3 : b0 < 224
        · rw [if_pos h3, if_neg (show ¬ b0 ≥ 240 by omega), if_neg (show ¬ b0 ≥ 224 by omega), if_pos (show b0 ≥ 192 by omega), w64 (x := b0 - 192) (by omega) (by omega)]
          simp only
          rw [if_neg (show ¬ (2 : Int) = 0 by omega), w64 (x := (q : Int) + 2) (by omega) (by omega)]
          by_cases hl : q + 2 ≤ a.size
          · rw [if_neg (show ¬ (x.size : Int) < 2 by omega), decide_eq_false (show ¬ (q : Int) + 2 > a.size by omega), if_neg (by simp)]
            exact fin 2 (T (k + 2) (by omega) 2 b0 _ rfl (by omega) (by omega)) (by omega) (fun n g0 g1 g2 => by have := first_of g0 g2; rw [e0] at this; omega)
          · rw [if_pos (show (x.size : Int) < 2 by omega), decide_eq_true (show (q : Int) + 2 > a.size by omega), if_pos rfl]
            exact none_ rfl rfl (fun n g0 g1 g2 => by first | omega | (have := first_of g0 g2; rw [e0] at this; omega))
        · rw [if_neg h3]
          by_cases h4 : b0 < 240
          · rw [if_pos h4, if_neg (show ¬ b0 ≥ 240 by omega), if_pos (show b0 ≥ 224 by omega), w64 (x := b0 - 224) (by omega) (by omega)]
            simp only
            rw [if_neg (show ¬ (3 : Int) = 0 by omega), w64 (x := (q : Int) + 3) (by omega) (by omega)]
            by_cases hl : q + 3 ≤ a.size
            · rw [if_neg (show ¬ (x.size : Int) < 3 by omega), decide_eq_false (show ¬ (q : Int) + 3 > a.size by omega), if_neg (by simp)]
              exact fin 3 (T (k + 2) (by omega) 3 b0 _ rfl (by omega) (by omega)) (by omega) (fun n g0 g1 g2 => by have := first_of g0 g2; rw [e0] at this; omega)
            · rw [if_pos (show (x.size : Int) < 3 by omega), decide_eq_true (show (q : Int) + 3 > a.size by omega), if_pos rfl]
              exact none_ rfl rfl (fun n g0 g1 g2 => by first | omega | (have := first_of g0 g2; rw [e0] at this; omega))
          · rw [if_neg h4, if_pos (show b0 ≥ 240 by omega), w64 (x := b0 - 240) (by omega) (by omega)]
            by_cases h5 : b0 < 248
            · rw [if_pos h5]
              simp only
              rw [if_neg (show ¬ (4 : Int) = 0 by omega), w64 (x := (q : Int) + 4) (by omega) (by omega)]
              by_cases hl : q + 4 ≤ a.size
              · rw [if_neg (show ¬ (x.size : Int) < 4 by omega), decide_eq_false (show ¬ (q : Int) + 4 > a.size by omega), if_neg (by simp)]
                exact fin 4 (T (k + 2) (by omega) 4 b0 _ rfl (by omega) (by omega)) (by omega) (fun n g0 g1 g2 => by have := first_of g0 g2; rw [e0] at this; omega)
              · rw [if_pos (show (x.size : Int) < 4 by omega), decide_eq_true (show (q : Int) + 4 > a.size by omega), if_pos rfl]
                exact none_ rfl rfl (fun n g0 g1 g2 => by first | omega | (have := first_of g0 g2; rw [e0] at this; omega))
            · rw [if_neg h5]
              by_cases hl : 4 ≤ x.size
              · rw [if_neg (show ¬ (x.size : Int) < 4 by omega)]
                exact none_ (sBig (k + 2) (by omega) hl (by omega) l1) rfl (fun n g0 g1 g2 => by first | omega | (have := first_of g0 g2; rw [e0] at this; omega))
              · rw [if_pos (show (x.size : Int) < 4 by omega)]
                exact none_ rfl rfl (fun n g0 g1 g2 => by first | omega | (have := first_of g0 g2; rw [e0] at this; omega))
  · rw [if_neg hin, if_neg hin]
    exact ⟨_, rfl, rfl, .inr ⟨rfl, fun n g0 g1 g2 g3 g4 => by omega⟩⟩
theorem iLB (n : Int) (k : Nat) (hk : 5 < k) : impl_LetterBytes.f k n = some (if isLetterM n then strOfNums (lbM n) else (⟨#[]⟩ : ByteArray)) := by
  unfold impl_LetterBytes.f
  simp only [iLetter, Option.bind_some, decide_eq_true_eq]
  by_cases h : isLetterM n
  · rw [if_pos h, if_pos h, iLetterBytes0 n h.1 k hk]; rfl
  · rw [if_neg h, if_neg h]
theorem lb_size (n : Int) : (if isLetterM n then strOfNums (lbM n) else (⟨#[]⟩ : ByteArray)).size ≤ 4 := by
  split
  · rw [strOfNums_size, lbM_len]; have := lenM_spec n; omega
  · exact Nat.zero_le _
theorem nums_part (x : ByteArray) (q s : Nat) : nums (x.extract q (q + s)) = ((nums x).drop q).take s := by
  unfold Kit.nums
  rw [ByteArray.data_extract, Array.toList_extract, List.extract_eq_take_drop]
  simp [List.map_drop, List.map_take]
theorem nums_append (x y : ByteArray) : nums (x ++ y) = nums x ++ nums y := by
  unfold Kit.nums
  rw [ByteArray.data_append, Array.toList_append, List.map_append]
/-- the letter whose bytes stand there is told -/
theorem Res.back {a : ByteArray} {q : Nat} {r : Int × Int} (h : Res a q r) (hq : q < a.size) {n : Int} (hn : isLetterM n) (hl : ((nums a).drop q).take (lenM n) = lbM n) : r = (n, (lenM n : Int)) := by
  have hx : nums (a.extract q a.size) = (nums a).drop q := nums_drop a q
  have hz : lenM n ≤ (a.extract q a.size).size := by
    rw [← nums_len, hx]
    have e := congrArg List.length hl
    rw [lbM_len, List.length_take] at e
    omega
  have hk : lbOk n (bt (a.extract q a.size) 0) (bt (a.extract q a.size) 1) (bt (a.extract q a.size) 2) (bt (a.extract q a.size) 3) := by
    rw [nums_bt, nums_bt, nums_bt, nums_bt]
    exact ((at_iff (n := n) (L := nums (a.extract q a.size)) (s := lenM n) (by rw [nums_len]; exact hz)).1 (by rw [hx, hl])).2
  unfold Res at h
  rw [Int.toNat_natCast] at h
  rcases h with ⟨_, _, s, _, hg, hs⟩ | ⟨_, hno⟩
  · have e := hs n hn hz hk
    subst e
    have hv : valR (a.extract q a.size) (lenM n) = n := by
      rcases first_of hn hk with ⟨e, g, _⟩ | ⟨e, _, _, g⟩ | ⟨e, _, _, g⟩ | ⟨e, _, _, g⟩ <;> rw [e] <;> simp only [valR] <;> omega
    unfold GoodR at hg
    rw [hv, if_pos ⟨hn, rfl, hk⟩] at hg
    exact hg
  · exact (hno n (by omega) (by omega) hn hz hk).elim
theorem Res.bytes {a : ByteArray} {p : Int} {r : Int × Int} (h : Res a p r) (h0 : ¬ r.1 < 0) : 0 ≤ p ∧ ∃ s : Nat, r.2 = s ∧ s ≤ 4 ∧ p.toNat + s ≤ a.size ∧ isLetterM r.1 ∧ nums (a.extract p.toNat (p.toNat + s)) = lbM r.1 := by
  rcases h with ⟨g0, g1, s, hs, hg, _⟩ | ⟨e, _⟩
  · refine ⟨g0, s, ?_⟩
    unfold GoodR at hg
    by_cases c : isLetterM (valR (a.extract p.toNat a.size) s) ∧ lenM (valR (a.extract p.toNat a.size) s) = s ∧ lbOk (valR (a.extract p.toNat a.size) s) (bt (a.extract p.toNat a.size) 0) (bt (a.extract p.toNat a.size) 1) (bt (a.extract p.toNat a.size) 2) (bt (a.extract p.toNat a.size) 3)
    · rw [if_pos c] at hg
      subst hg
      have hz : (a.extract p.toNat a.size).size = a.size - p.toNat := part_size
      have := lenM_spec (valR (a.extract p.toNat a.size) s)
      refine ⟨rfl, by omega, by omega, c.1, ?_⟩
      have e := (at_iff (n := valR (a.extract p.toNat a.size) s) (L := nums (a.extract p.toNat a.size)) (s := s) (by rw [nums_len]; exact hs)).2 (by rw [← nums_bt, ← nums_bt, ← nums_bt, ← nums_bt]; exact c.2)
      rw [nums_part, e, nums_drop]
    · rw [if_neg c] at hg
      subst hg
      exact absurd (by decide) h0
  · subst e
    exact absurd (by decide) h0
theorem drawBytes_ok {b : List Int} {k : Nat} (hk : 100 ≤ k) (hb : Bytes b) : Tot (spec_DrawLetterBytes.f k b) (fun _ => True) := by
  have h0 : At b 0 := ⟨by omega, by omega⟩
  have eo : spec_l1Open.f b = some (b, 0) := by rw [spec_l1Open.f]
  rw [spec_DrawLetterBytes.f, eo]
  simp only [bsm]
  refine (once_ok 8 hb h0).bind fun v hv => ?_
  refine Tot.ite (fun _ => ?_) (fun _ => ?_)
  · refine (below_ok 6 hb hv).bind fun u hu => ?_
    exact Tot.yes hu.1 (Tot.yes (by have := hu.2.1; simp only [List.length_cons, List.length_nil]; omega) (Tot.pure trivial))
  · exact (letter_ok (by omega) hb hv).bind fun u hu => Tot.pure trivial
theorem rest_ok {b : List Int} {k : Nat} (hk : 50 ≤ k) (hb : Bytes b) {q : Int} (hq : At b q) (s : ByteArray) (z : Int) (hs : s.size ≤ 1000) (hz : z = s.size) : Tot (spec_DrawLetterAt.rest k b q s z) (fun r => r.1.size ≤ 1000) := by
  unfold spec_DrawLetterAt.rest
  refine (once_ok 6 hb hq).bind fun v hv => ?_
  refine Tot.ite (fun _ => ?_) (fun _ => ?_)
  · refine (below_ok 8 hb hv).bind fun u hu => ?_
    have h1 : u.1 < 8 := by have := hu.2.1; omega
    refine Tot.yes ⟨hu.1, h1⟩ (Tot.pure ?_)
    have h2 := hu.1
    generalize u.1 = x at h1 h2
    have : x = 0 ∨ x = 1 ∨ x = 2 ∨ x = 3 ∨ x = 4 ∨ x = 5 ∨ x = 6 ∨ x = 7 := by omega
    rcases this with rfl | rfl | rfl | rfl | rfl | rfl | rfl | rfl <;> decide
  · rw [w64 (x := z - 1) (by omega) (by omega)]
    exact (off_ok 0 (z - 1) (by omega) (by omega) (by omega) (by omega) (by omega) hb hv).bind fun u hu => Tot.pure hs
theorem drawAt_ok {b : List Int} {k : Nat} (hk : 100 ≤ k) (hb : Bytes b) : Tot (spec_DrawLetterAt.f k b) (fun r => r.1.size ≤ 1000) := by
  have h0 : At b 0 := ⟨by omega, by omega⟩
  have eo : spec_l1Open.f b = some (b, 0) := by rw [spec_l1Open.f]
  rw [spec_DrawLetterAt.f, eo]
  simp only [bsm]
  refine (letter_ok (by omega) hb h0).bind fun v hv => ?_
  rw [sLetterBytes v.1 k (by omega)]
  simp only [bsm]
  refine (letter_ok (by omega) hb hv).bind fun u hu => ?_
  rw [sLetterBytes u.1 k (by omega)]
  simp only [bsm]
  have z1 := lb_size v.1
  have z2 := lb_size u.1
  generalize (if isLetterM v.1 then strOfNums (lbM v.1) else (⟨#[]⟩ : ByteArray)) = sa at *
  generalize (if isLetterM u.1 then strOfNums (lbM u.1) else (⟨#[]⟩ : ByteArray)) = sb at *
  refine Tot.yes (by omega) ?_
  have hs : ((⟨#[97]⟩ : ByteArray) ++ sa ++ sb).size = 1 + sa.size + sb.size := by
    rw [ByteArray.size_append', ByteArray.size_append']; rfl
  unfold spec_DrawLetterAt.mid
  refine (once_ok 3 hb hu).bind fun x hx => ?_
  refine Tot.ite (fun _ => ?_) (fun _ => ?_)
  · refine (below_ok _ hb hx).bind fun y hy => ?_
    refine (below_ok _ hb hy.2.2).bind fun w hw => ?_
    refine Tot.yes ⟨hy.1, by have := hy.2.1; omega⟩ ?_
    exact rest_ok (by omega) hb hw.2.2 _ _ (by unfold spec_DrawLetterAt.put; rw [strOfNums_size, List.length_set, spec_DrawLetterAt.bs_len]; omega) rfl
  · exact rest_ok (by omega) hb hx _ _ (by omega) (by omega)
theorem FnLetters : laws_FnLetters.Pure := by
  intro code more _ _ g2 _ _ g5
  suffices ∀ k, 1000 ≤ k → laws_FnLetters.f k code more = some true from ⟨1000, this _ (Nat.le_refl _)⟩
  intro k hk
  have eb : ∀ l : List Int, laws_big.f l = some (decide ((l.length : Int) > 1048576)) := fun l => by rw [laws_big.f]
  obtain ⟨k, rfl⟩ : ∃ m, k = m + 3 := ⟨k - 3, by omega⟩
  rw [laws_FnLetters.f, eb, eb]
  simp only [bsm, decide_eq_true_eq]
  by_cases h1 : (code.length : Int) > 1048576
  · rw [if_pos h1]
    simp only [laws_FnLetters.j0, if_true]
  rw [if_neg h1]
  by_cases h2 : (more.length : Int) > 1048576
  · rw [decide_eq_true h2]
    simp only [laws_FnLetters.j0, if_true]
  rw [decide_eq_false h2]
  have hb := Bytes.of h1 g2
  have hm := Bytes.of h2 g5
  have second : laws_FnLetters.j1 (k + 2) more = some true := by
    obtain ⟨⟨s, p⟩, e, hs⟩ := drawAt_ok (k := k + 1) (by omega) hm
    have hs' : s.size ≤ 1000 := hs
    obtain ⟨r, e1, e2, e3⟩ := letter_both s p (by omega) (k + 1) (by omega)
    rw [laws_FnLetters.j1, e]
    simp only [bsm]
    rw [e1, e2]
    simp only [bsm, if_true]
    by_cases c : r.1 < 0
    · rw [if_pos c]
    · rw [if_neg c]
      obtain ⟨g0, n, f1, f2, f3, f4, f5⟩ := e3.bytes c
      rw [iLB r.1 (k + 1) (by omega), if_pos f4, f1, w64 (x := p + n) (by omega) (by omega)]
      simp only [bsm]
      rw [if_pos g0, if_pos (by omega), if_pos (by omega), show (p + n).toNat = p.toNat + n by omega, beq_iff_eq.2 (nums_inj.2 (by rw [nums_of (lbM_rng f4.1), f5]))]
  obtain ⟨n, e, _⟩ := drawBytes_ok (k := k + 2) (by omega) hb
  simp only [laws_FnLetters.j0, Bool.false_eq_true, if_false]
  rw [e]
  simp only [bsm]
  rw [iLB n (k + 2) (by omega), sLetterBytes n (k + 2) (by omega)]
  simp only [bsm, if_true]
  have hz := lb_size n
  by_cases hn : isLetterM n
  · rw [if_pos hn] at hz ⊢
    have hl := lenM_spec n
    have z : (strOfNums (lbM n)).size = lenM n := by rw [strOfNums_size, lbM_len]
    rw [if_neg (by intro q; have q2 := congrArg List.length q; rw [ByteArray.toList_eq] at q2; have q3 : (strOfNums (lbM n)).data.toList.length = (strOfNums (lbM n)).size := rfl; rw [q3, z] at q2; simp at q2; omega)]
    have hs : ((⟨#[120]⟩ : ByteArray) ++ strOfNums (lbM n)).size = 1 + lenM n := by rw [ByteArray.size_append', z]; rfl
    have hs2 : ((⟨#[120]⟩ : ByteArray) ++ strOfNums (lbM n) ++ (⟨#[128]⟩ : ByteArray)).size = 1 + lenM n + 1 := by rw [ByteArray.size_append', hs]; rfl
    rw [if_pos (by omega), if_pos (by omega)]
    obtain ⟨r, _, e2, e3⟩ := letter_both ((⟨#[120]⟩ : ByteArray) ++ strOfNums (lbM n) ++ (⟨#[128]⟩ : ByteArray)) 1 (by omega) (k + 2) (by omega)
    rw [e2]
    have er := Res.back (q := 1) e3 (by omega) hn (by
      rw [nums_append, nums_append, nums_of (lbM_rng hn.1)]
      show ((([120] : List Int) ++ lbM n ++ [128]).drop 1).take (lenM n) = lbM n
      rw [← lbM_len]
      simp)
    subst er
    simp only [bsm]
    rw [if_pos trivial, if_pos (by omega)]
    exact second
  · rw [if_neg hn]
    rw [if_pos (by rw [ByteArray.toList_eq])]
    exact second
end Go.Proofs.Ytabpfejdppfcdaa.Pure
