/- The program's LetterAt and the reference's come to one letter: whatever the text and the place. -/
import Derived.Test.YtlfhnlghfgjooaaPFnExactLetterAtx3
import Derived.Test.YtlfhnlghfgjooaaKit
import Derived.Test.YtlfhnlghfgjooaaKitUtf
import Derived.Test.YtlfhnlghfgjooaaKitNums
namespace Go.Proofs.Ytlfhnlghfgjooaa.Pure
open Go.RowKit Go.Proofs.Ytlfhnlghfgjooaa.PFnExactLetterAt Go.Proofs.YtlfhnlghfgjooaaW.PrintWords Go.Proofs.YtlfhnlghfgjooaaW.PrintLast Go.Proofs.YtlfhnlghfgjooaaW.PrintMore Go.Proofs.Ytlfhnlghfgjooaa.Kit
set_option linter.unusedVariables false
theorem sIn (a b c : Int) : spec_l1In.f a b c = some (decide (b ≤ a ∧ a ≤ c)) := by
  unfold spec_l1In.f
  by_cases h : a ≥ b
  · rw [if_pos h]; congr 1; simp; omega
  · rw [if_neg h]; congr 1; simp; omega
theorem iWithin (a b c : Int) : impl_within.f a b c = some (decide (b ≤ a ∧ a ≤ c)) := by
  unfold impl_within.f
  by_cases h : a ≥ b
  · rw [if_pos h]; congr 1; simp; omega
  · rw [if_neg h]; congr 1; simp; omega
theorem sLetter (n : Int) : spec_l2Letter.f n = some (decide (isLetterM n)) := by
  unfold spec_l2Letter.f isLetterM
  simp only [sIn, Option.bind_some]
  by_cases h : 0 ≤ n ∧ n ≤ 1114111
  · rw [if_pos (by simpa using h)]; congr 1; by_cases g1 : 55296 ≤ n <;> by_cases g2 : n ≤ 57343 <;> simp [h, g1, g2]
  · rw [if_neg (by simpa using h)]; simp [h]

theorem iLetter (n : Int) : impl_isLetter.f n = some (decide (isLetterM n)) := by
  unfold impl_isLetter.f isLetterM
  simp only [iWithin, Option.bind_some]
  by_cases h : 0 ≤ n ∧ n ≤ 1114111
  · rw [if_pos (by simpa using h)]; congr 1; by_cases g1 : 55296 ≤ n <;> by_cases g2 : n ≤ 57343 <;> simp [h, g1, g2]
  · rw [if_neg (by simpa using h)]; simp [h]

theorem sLetterBytes (n : Int) (k : Nat) (hk : 5 < k) : spec_LetterBytes.f k n = some (if isLetterM n then strOfNums (lbM n) else (⟨#[]⟩ : ByteArray)) := by
  obtain ⟨k, rfl⟩ : ∃ m, k = m + 6 := ⟨k - 6, by omega⟩
  unfold spec_LetterBytes.f
  simp only [sLetter, Option.bind_some, decide_eq_true_eq]
  by_cases h : isLetterM n
  · rw [if_pos h, if_pos h]
    unfold isLetterM at h
    unfold lbM
    by_cases h1 : n < 128
    · rw [if_pos h1, if_pos h1]
      congr 2; simp; omega
    · rw [if_neg h1, if_neg h1, tdiv_pos (by omega), tmod_pos (by omega), w64 (x := n / 64) (by omega) (by omega), w64 (x := 128 + n % 64) (by omega) (by omega)]
      have e1 : (128 + n % 64) % 256 = 128 + n % 64 := by omega
      rw [e1, spec_LetterBytes.l0]
      by_cases h2 : n < 2048
      · rw [if_pos h2, if_neg (by omega)]
        simp only [Option.bind_some]
        rw [if_pos (by simp), w64 (by omega) (by omega)]
        congr 2; simp; omega
      · rw [if_neg h2, if_pos (by omega)]
        simp only [Option.bind_some]
        have ea : wrap64 (Int.tdiv 32 2) = 16 := by simp [wrap64]
        have eb : wrap64 (128 + wrap64 (Int.tdiv 192 2)) = 224 := by simp [wrap64]
        have ec : wrap64 (Int.tdiv 16 2) = 8 := by simp [wrap64]
        have ed : wrap64 (128 + wrap64 (Int.tdiv 224 2)) = 240 := by simp [wrap64]
        rw [if_pos (by simp), ea, eb, tdiv_pos (by omega), tmod_pos (by omega), w64 (x := n / 64 / 64) (by omega) (by omega), w64 (x := 128 + n / 64 % 64) (by omega) (by omega), spec_LetterBytes.l0]
        by_cases h3 : n < 65536
        · rw [if_pos h3, if_neg (by omega)]
          simp only [Option.bind_some]
          rw [if_pos (by simp), w64 (by omega) (by omega)]
          congr 2; simp; omega
        · rw [if_neg h3, if_pos (by omega)]
          simp only [Option.bind_some]
          rw [if_pos (by simp), ec, ed, tdiv_pos (by omega), tmod_pos (by omega), w64 (x := n / 64 / 64 / 64) (by omega) (by omega), w64 (x := 128 + n / 64 / 64 % 64) (by omega) (by omega), spec_LetterBytes.l0]
          rw [if_neg (by omega)]
          simp only [Option.bind_some]
          rw [if_pos (by simp), w64 (by omega) (by omega)]
          congr 2; simp; omega
  · rw [if_neg h, if_neg h]

theorem iLetterBytes0 (n : Int) (hn : 0 ≤ n ∧ n ≤ 1114111) (k : Nat) (hk : 5 < k) : impl_letterBytes.f k n = some (strOfNums (lbM n)) := by
  obtain ⟨k, rfl⟩ : ∃ m, k = m + 6 := ⟨k - 6, by omega⟩
  unfold impl_letterBytes.f impl_bytesIn.f lbM
  have q1 : wrap64 (1 - 1) = 0 := by simp [wrap64]
  have q2 : wrap64 (2 - 1) = 1 := by simp [wrap64]
  have q3 : wrap64 (3 - 1) = 2 := by simp [wrap64]
  have q4 : wrap64 (4 - 1) = 3 := by simp [wrap64]
  by_cases h1 : n < 128
  · rw [if_pos h1, if_pos h1]
    simp only [Option.bind_some]
    rw [if_pos (by omega), if_pos (by decide), q1, impl_letterBytes.l0, if_neg (by omega)]
    simp only [Option.bind_some]
    rw [q1, if_pos (by omega), if_pos (by simp), if_pos (by simp)]
    congr 2; simp [rd]; omega
  · rw [if_neg h1, if_neg h1]
    by_cases h2 : n < 2048
    · rw [if_pos h2, if_pos h2]
      simp only [Option.bind_some]
      rw [if_pos (by omega), if_pos (by decide), q2, impl_letterBytes.l0, if_pos (by omega), if_pos (by omega), if_pos (by simp), tdiv_pos (by omega), tmod_pos (by omega), w64 (x := n / 64) (by omega) (by omega), q1, impl_letterBytes.l0, if_neg (by omega)]
      simp only [Option.bind_some]
      rw [q2, if_pos (by omega), if_pos (by simp), if_pos (by simp)]
      congr 2; simp [rd, List.replicate]; omega
    · rw [if_neg h2, if_neg h2]
      by_cases h3 : n < 65536
      · rw [if_pos h3, if_pos h3]
        simp only [Option.bind_some]
        rw [if_pos (by omega), if_pos (by decide), q3, impl_letterBytes.l0, if_pos (by omega), if_pos (by omega), if_pos (by simp), tdiv_pos (by omega), tmod_pos (by omega), w64 (x := n / 64) (by omega) (by omega), q2,
          impl_letterBytes.l0, if_pos (by omega), if_pos (by omega), if_pos (by simp), tdiv_pos (by omega), tmod_pos (by omega), w64 (x := n / 64 / 64) (by omega) (by omega), q1, impl_letterBytes.l0, if_neg (by omega)]
        simp only [Option.bind_some]
        rw [q3, if_pos (by omega), if_pos (by simp), if_pos (by simp)]
        congr 2; simp [rd, List.replicate]; omega
      · rw [if_neg h3, if_neg h3]
        simp only [Option.bind_some]
        rw [if_pos (by omega), if_pos (by decide), q4, impl_letterBytes.l0, if_pos (by omega), if_pos (by omega), if_pos (by simp), tdiv_pos (by omega), tmod_pos (by omega), w64 (x := n / 64) (by omega) (by omega), q3,
          impl_letterBytes.l0, if_pos (by omega), if_pos (by omega), if_pos (by simp), tdiv_pos (by omega), tmod_pos (by omega), w64 (x := n / 64 / 64) (by omega) (by omega), q2,
          impl_letterBytes.l0, if_pos (by omega), if_pos (by omega), if_pos (by simp), tdiv_pos (by omega), tmod_pos (by omega), w64 (x := n / 64 / 64 / 64) (by omega) (by omega), q1, impl_letterBytes.l0, if_neg (by omega)]
        simp only [Option.bind_some]
        rw [q4, if_pos (by omega), if_pos (by simp), if_pos (by simp)]
        congr 2; simp [rd, List.replicate]; omega
theorem s_round {x : ByteArray} {n s i : Int} (k : Nat) (hi : i < s) (h0 : 0 ≤ i) (h1 : i < x.size) (h2 : i ≤ 1000) (n0 : -1000000000 ≤ n) (n1 : n ≤ 1000000000) :
    spec_LetterAt.l0 (k + 1) x n s i = spec_LetterAt.l0 k x (n * 64 + bt x i - 128) s (i + 1) := by
  have b0 := bt_lo x i
  have b1 := bt_hi x i
  simp only [spec_LetterAt.l0]
  rw [if_pos hi, if_pos h0, if_pos h1, w64 (x := n * 64) (by omega) (by omega), w64 (x := bt x i) (by omega) (by omega), w64 (x := n * 64 + bt x i) (by omega) (by omega), w64 (x := n * 64 + bt x i - 128) (by omega) (by omega), w64 (x := i + 1) (by omega) (by omega)]
theorem s_end {x : ByteArray} {n : Int} {s : Nat} (k : Nat) (hk : 6 ≤ k) (hs : 1 ≤ s ∧ s ≤ 4) (h1 : s ≤ x.size) :
    spec_LetterAt.l0 (k + 1) x n (s : Int) (s : Int) = some (if isLetterM n ∧ lenM n = s ∧ lbOk n (bt x 0) (bt x 1) (bt x 2) (bt x 3) then (n, (s : Int)) else (-1, 0)) := by
  simp only [spec_LetterAt.l0]
  rw [if_neg (by omega)]
  have ha := at_iff (n := n) (L := nums x) (s := s) (by rw [nums_len]; exact h1)
  by_cases h : isLetterM n
  · have h' : 0 ≤ n ∧ n ≤ 1114111 := h.1
    rw [if_neg (by omega), sLetterBytes n k (by omega), if_pos h]
    simp only [Option.bind_some]
    rw [if_pos (by omega), if_pos (by omega)]
    simp only [nums_inj, nums_of (lbM_rng h.1), Int.toNat_natCast, nums_take, ha, nums_bt]
    by_cases g : lenM n = s ∧ lbOk n (rd (nums x) 0) (rd (nums x) 1) (rd (nums x) 2) (rd (nums x) 3)
    · rw [if_pos g, if_pos ⟨h, g⟩]
    · rw [if_neg g, if_neg (fun q => g q.2)]
  · rw [if_neg (fun q : isLetterM n ∧ _ => h q.1)]
    by_cases hn : n < 0
    · rw [if_pos hn]
    · rw [if_neg hn, sLetterBytes n k (by omega), if_neg h]
      simp only [Option.bind_some]
      rw [if_pos (by omega), if_pos (by omega), if_neg]
      rw [nums_inj, Int.toNat_natCast, nums_take]
      intro e
      have l : (nums (⟨#[]⟩ : ByteArray)).length = ((nums x).take s).length := by rw [e]
      rw [List.length_take, nums_len, nums_len, Nat.min_eq_left h1] at l
      change 0 = s at l
      omega
theorem and63 {b : Int} (h0 : 0 ≤ b) (h1 : b ≤ 255) : Go.bits .and .u8 b 63 = b % 64 := Go.u8_and63 b h0 (by omega)
theorem i_round {a : ByteArray} {p n s i : Int} (k : Nat) (hi : i < s) (h0 : 0 ≤ p + i) (h1 : p + i < a.size) (h2 : i ≤ 1000) (h3 : 0 ≤ i) (h4 : p ≤ 1000000000000000) (n0 : 0 ≤ n) (n1 : n ≤ 1000000000) :
    impl_LetterAt.l0 (k + 1) a p s n i = impl_LetterAt.l0 k a p s (n * 64 + bt a (p + i) % 64) (i + 1) := by
  have b0 := bt_lo a (p + i)
  have b1 := bt_hi a (p + i)
  simp only [impl_LetterAt.l0]
  rw [if_pos hi, w64 (x := p + i) (by omega) (by omega), if_pos h0, if_pos h1, and63 b0 b1, w64 (x := n * 64) (by omega) (by omega), w64 (x := bt a (p + i) % 64) (by omega) (by omega), w64 (x := n * 64 + bt a (p + i) % 64) (by omega) (by omega), w64 (x := i + 1) (by omega) (by omega)]
theorem i_end {a : ByteArray} {p n : Int} {s : Nat} (k : Nat) (hk : 6 ≤ k) (h0 : 0 ≤ p) (h1 : p + s ≤ a.size) (hl : lenM n ≤ s) :
    impl_LetterAt.l0 (k + 1) a p (s : Int) n (s : Int) = some (if isLetterM n ∧ lbOk n (bt a p) (bt a (p + 1)) (bt a (p + 2)) (bt a (p + 3)) then (n, (s : Int)) else (-1, 0)) := by
  simp only [impl_LetterAt.l0]
  rw [if_neg (by omega), iLetter]
  simp only [Option.bind_some, decide_eq_true_eq]
  by_cases h : isLetterM n
  · rw [if_pos h, if_pos h0, if_pos (by omega), iLetterBytes0 n h.1 k (by omega)]
    simp only [Option.bind_some, strings_HasPrefix.f, stringslite_HasPrefix.f]
    obtain ⟨q, rfl⟩ : ∃ q : Nat, p = q := ⟨p.toNat, by omega⟩
    have ez : (strOfNums (lbM n)).size = lenM n := by rw [strOfNums_size, lbM_len]
    have ex : (a.extract q a.size).size = a.size - q := part_size
    have hp := pre_iff (n := n) (L := nums (a.extract q a.size)) (by rw [nums_len, ex]; omega)
    simp only [Int.toNat_natCast, ez, ex]
    rw [if_pos (by omega), if_pos (by omega), if_pos (by omega)]
    simp only [Option.bind_some, beq_iff_eq, nums_inj, nums_of (lbM_rng h.1), nums_take]
    rw [← nums_bt, ← nums_bt, ← nums_bt, ← nums_bt, bt_part (by omega), bt_part (by omega), bt_part (by omega), bt_part (by omega), Int.add_zero] at hp
    by_cases g : lbOk n (bt a q) (bt a (q + 1)) (bt a (q + 2)) (bt a (q + 3))
    · rw [if_pos (hp.2 g).symm, if_pos ⟨h, g⟩]
    · rw [if_neg (fun e => g (hp.1 e.symm)), if_neg (fun q => g q.2)]
  · rw [if_neg h, if_neg (fun q => h q.1)]
theorem if_same {n n' s : Int} {A B : Prop} [Decidable A] [Decidable B] (h : A ↔ B) (h1 : A → n' = n) : (if B then (n', s) else ((-1 : Int), (0 : Int))) = (if A then (n, s) else (-1, 0)) := by
  by_cases a : A
  · rw [if_pos a, if_pos (h.1 a), h1 a]
  · rw [if_neg a, if_neg (fun b => a (h.2 b))]

/-- what follows the first byte -/
theorem tails {x a : ByteArray} {p : Nat} (hx : x = a.extract p a.size) (hp : p < a.size) (hs : a.size ≤ 1048576) (k : Nat) (hk : 20 ≤ k) (s : Nat) (b0 lead : Int) (hb : b0 = bt a p)
    (hc : (s = 1 ∧ lead = b0 ∧ b0 < 128) ∨ (s = 2 ∧ lead = b0 - 192 ∧ 192 ≤ b0 ∧ b0 < 224) ∨ (s = 3 ∧ lead = b0 - 224 ∧ 224 ≤ b0 ∧ b0 < 240) ∨ (s = 4 ∧ lead = b0 - 240 ∧ 240 ≤ b0 ∧ b0 < 248)) (h : p + s ≤ a.size) :
    ∃ r, spec_LetterAt.l0 k x lead s 1 = some r ∧ impl_LetterAt.l0 k a p s lead 1 = some r := by
  have l0 := bt_lo a p
  have z : x.size = a.size - p := by rw [hx]; exact part_size
  have e0 : bt x 0 = b0 := by rw [hx, bt_part (by omega), Int.add_zero, hb]
  have e1 : bt x 1 = bt a (p + 1) := by rw [hx, bt_part (by omega)]
  have e2 : bt x 2 = bt a (p + 2) := by rw [hx, bt_part (by omega)]
  have e3 : bt x 3 = bt a (p + 3) := by rw [hx, bt_part (by omega)]
  have g1 := bt_lo a (p + 1)
  have g1' := bt_hi a (p + 1)
  have g2 := bt_lo a (p + 2)
  have g2' := bt_hi a (p + 2)
  have g3 := bt_lo a (p + 3)
  have g3' := bt_hi a (p + 3)
  obtain ⟨k, rfl⟩ : ∃ m, k = m + 5 := ⟨k - 5, by omega⟩
  rcases hc with ⟨rfl, rfl, c⟩ | ⟨rfl, rfl, c⟩ | ⟨rfl, rfl, c⟩ | ⟨rfl, rfl, c⟩
  · have es := s_end (x := x) (n := lead) (s := 1) (k + 4) (by omega) (by omega) (by omega)
    have ei := i_end (a := a) (p := p) (n := lead) (s := 1) (k + 4) (by omega) (by omega) (by omega) (by have := lenM_spec lead; omega)
    refine ⟨_, es, ei.trans (congrArg some ?_)⟩
    rw [e0, e1, e2, e3, ← hb]
    have := lenM_spec lead
    exact if_same (by unfold isLetterM lbOk; omega) (fun _ => rfl)
  · have es := s_end (x := x) (n := ((b0 - 192) * 64 + bt x 1 - 128)) (s := 2) (k + 3) (by omega) (by omega) (by omega)
    have ei := i_end (a := a) (p := p) (n := ((b0 - 192) * 64 + bt a (p + 1) % 64)) (s := 2) (k + 3) (by omega) (by omega) (by omega) (by have := lenM_spec ((b0 - 192) * 64 + bt a (p + 1) % 64); omega)
    have g4 := bt_lo x 1
    have g4' := bt_hi x 1
    have g5 := bt_lo x 2
    have g5' := bt_hi x 2
    have g6 := bt_lo x 3
    have g6' := bt_hi x 3
    rw [s_round (k + 4) (by omega) (by omega) (by omega) (by omega) (by omega) (by omega)]
    rw [i_round (k + 4) (by omega) (by omega) (by omega) (by omega) (by omega) (by omega) (by omega) (by omega)]
    refine ⟨_, es, ei.trans (congrArg some ?_)⟩
    rw [e0, e1, e2, e3, ← hb]
    generalize bt a (p + 1) = b1 at *
    generalize bt a (p + 2) = b2 at *
    generalize bt a (p + 3) = b3 at *
    clear es ei e0 e1 e2 e3 g4 g4' g5 g5' g6 g6'
    have eA : (lenM ((b0 - 192) * 64 + b1 - 128) = 2 ∧ lbOk ((b0 - 192) * 64 + b1 - 128) b0 b1 b2 b3) → ((b0 - 192) * 64 + b1 % 64) = ((b0 - 192) * 64 + b1 - 128) := by
      rintro ⟨h2, h⟩
      have y2 := lenM_spec ((b0 - 192) * 64 + b1 - 128)
      have h4 := h.2.1 (by omega) (by omega)
      clear h y2 h2
      omega
    have eB : lbOk ((b0 - 192) * 64 + b1 % 64) b0 b1 b2 b3 → ((b0 - 192) * 64 + b1 % 64) = ((b0 - 192) * 64 + b1 - 128) ∧ lenM ((b0 - 192) * 64 + b1 % 64) = 2 := by
      intro h
      have y1 := lenM_spec ((b0 - 192) * 64 + b1 % 64)
      rcases y1 with ⟨y, e⟩ | ⟨y, y', e⟩ | ⟨y, y', e⟩ | ⟨y, e⟩
      · have h4 := h.1 y
        clear h e
        omega
      · have h4 := h.2.1 y y'
        clear h
        omega
      · have h4 := h.2.2.1 y y'
        clear h
        omega
      · have h4 := h.2.2.2 y
        clear h
        omega
    refine if_same ⟨?_, ?_⟩ (fun h => eA h.2)
    · rintro ⟨h1, h⟩
      rw [eA h]
      exact ⟨h1, h.2⟩
    · rintro ⟨h1, h⟩
      have e := eB h
      rw [e.1] at h1 h e
      exact ⟨h1, e.2, h⟩
  · have es := s_end (x := x) (n := (((b0 - 224) * 64 + bt x 1 - 128) * 64 + bt x 2 - 128)) (s := 3) (k + 2) (by omega) (by omega) (by omega)
    have ei := i_end (a := a) (p := p) (n := (((b0 - 224) * 64 + bt a (p + 1) % 64) * 64 + bt a (p + 2) % 64)) (s := 3) (k + 2) (by omega) (by omega) (by omega) (by have := lenM_spec (((b0 - 224) * 64 + bt a (p + 1) % 64) * 64 + bt a (p + 2) % 64); omega)
    have g4 := bt_lo x 1
    have g4' := bt_hi x 1
    have g5 := bt_lo x 2
    have g5' := bt_hi x 2
    have g6 := bt_lo x 3
    have g6' := bt_hi x 3
    rw [s_round (k + 4) (by omega) (by omega) (by omega) (by omega) (by omega) (by omega), show ((1 : Int) + 1) = 2 from rfl, s_round (k + 3) (by omega) (by omega) (by omega) (by omega) (by omega) (by omega)]
    rw [i_round (k + 4) (by omega) (by omega) (by omega) (by omega) (by omega) (by omega) (by omega) (by omega), show ((1 : Int) + 1) = 2 from rfl, i_round (k + 3) (by omega) (by omega) (by omega) (by omega) (by omega) (by omega) (by omega) (by omega)]
    refine ⟨_, es, ei.trans (congrArg some ?_)⟩
    rw [e0, e1, e2, e3, ← hb]
    generalize bt a (p + 1) = b1 at *
    generalize bt a (p + 2) = b2 at *
    generalize bt a (p + 3) = b3 at *
    clear es ei e0 e1 e2 e3 g4 g4' g5 g5' g6 g6'
    have eA : (lenM (((b0 - 224) * 64 + b1 - 128) * 64 + b2 - 128) = 3 ∧ lbOk (((b0 - 224) * 64 + b1 - 128) * 64 + b2 - 128) b0 b1 b2 b3) → (((b0 - 224) * 64 + b1 % 64) * 64 + b2 % 64) = (((b0 - 224) * 64 + b1 - 128) * 64 + b2 - 128) := by
      rintro ⟨h2, h⟩
      have y2 := lenM_spec (((b0 - 224) * 64 + b1 - 128) * 64 + b2 - 128)
      have h4 := h.2.2.1 (by omega) (by omega)
      clear h y2 h2
      omega
    have eB : lbOk (((b0 - 224) * 64 + b1 % 64) * 64 + b2 % 64) b0 b1 b2 b3 → (((b0 - 224) * 64 + b1 % 64) * 64 + b2 % 64) = (((b0 - 224) * 64 + b1 - 128) * 64 + b2 - 128) ∧ lenM (((b0 - 224) * 64 + b1 % 64) * 64 + b2 % 64) = 3 := by
      intro h
      have y1 := lenM_spec (((b0 - 224) * 64 + b1 % 64) * 64 + b2 % 64)
      rcases y1 with ⟨y, e⟩ | ⟨y, y', e⟩ | ⟨y, y', e⟩ | ⟨y, e⟩
      · have h4 := h.1 y
        clear h e
        omega
      · have h4 := h.2.1 y y'
        clear h
        omega
      · have h4 := h.2.2.1 y y'
        clear h
        omega
      · have h4 := h.2.2.2 y
        clear h
        omega
    refine if_same ⟨?_, ?_⟩ (fun h => eA h.2)
    · rintro ⟨h1, h⟩
      rw [eA h]
      exact ⟨h1, h.2⟩
    · rintro ⟨h1, h⟩
      have e := eB h
      rw [e.1] at h1 h e
      exact ⟨h1, e.2, h⟩
  · have es := s_end (x := x) (n := ((((b0 - 240) * 64 + bt x 1 - 128) * 64 + bt x 2 - 128) * 64 + bt x 3 - 128)) (s := 4) (k + 1) (by omega) (by omega) (by omega)
    have ei := i_end (a := a) (p := p) (n := ((((b0 - 240) * 64 + bt a (p + 1) % 64) * 64 + bt a (p + 2) % 64) * 64 + bt a (p + 3) % 64)) (s := 4) (k + 1) (by omega) (by omega) (by omega) (by have := lenM_spec ((((b0 - 240) * 64 + bt a (p + 1) % 64) * 64 + bt a (p + 2) % 64) * 64 + bt a (p + 3) % 64); omega)
    have g4 := bt_lo x 1
    have g4' := bt_hi x 1
    have g5 := bt_lo x 2
    have g5' := bt_hi x 2
    have g6 := bt_lo x 3
    have g6' := bt_hi x 3
    rw [s_round (k + 4) (by omega) (by omega) (by omega) (by omega) (by omega) (by omega), show ((1 : Int) + 1) = 2 from rfl, s_round (k + 3) (by omega) (by omega) (by omega) (by omega) (by omega) (by omega), show ((2 : Int) + 1) = 3 from rfl, s_round (k + 2) (by omega) (by omega) (by omega) (by omega) (by omega) (by omega)]
    rw [i_round (k + 4) (by omega) (by omega) (by omega) (by omega) (by omega) (by omega) (by omega) (by omega), show ((1 : Int) + 1) = 2 from rfl, i_round (k + 3) (by omega) (by omega) (by omega) (by omega) (by omega) (by omega) (by omega) (by omega), show ((2 : Int) + 1) = 3 from rfl, i_round (k + 2) (by omega) (by omega) (by omega) (by omega) (by omega) (by omega) (by omega) (by omega)]
    refine ⟨_, es, ei.trans (congrArg some ?_)⟩
    rw [e0, e1, e2, e3, ← hb]
    generalize bt a (p + 1) = b1 at *
    generalize bt a (p + 2) = b2 at *
    generalize bt a (p + 3) = b3 at *
    clear es ei e0 e1 e2 e3 g4 g4' g5 g5' g6 g6'
    have eA : (lenM ((((b0 - 240) * 64 + b1 - 128) * 64 + b2 - 128) * 64 + b3 - 128) = 4 ∧ lbOk ((((b0 - 240) * 64 + b1 - 128) * 64 + b2 - 128) * 64 + b3 - 128) b0 b1 b2 b3) → ((((b0 - 240) * 64 + b1 % 64) * 64 + b2 % 64) * 64 + b3 % 64) = ((((b0 - 240) * 64 + b1 - 128) * 64 + b2 - 128) * 64 + b3 - 128) := by
      rintro ⟨h2, h⟩
      have y2 := lenM_spec ((((b0 - 240) * 64 + b1 - 128) * 64 + b2 - 128) * 64 + b3 - 128)
      have h4 := h.2.2.2 (by omega)
      clear h y2 h2
      omega
    have eB : lbOk ((((b0 - 240) * 64 + b1 % 64) * 64 + b2 % 64) * 64 + b3 % 64) b0 b1 b2 b3 → ((((b0 - 240) * 64 + b1 % 64) * 64 + b2 % 64) * 64 + b3 % 64) = ((((b0 - 240) * 64 + b1 - 128) * 64 + b2 - 128) * 64 + b3 - 128) ∧ lenM ((((b0 - 240) * 64 + b1 % 64) * 64 + b2 % 64) * 64 + b3 % 64) = 4 := by
      intro h
      have y1 := lenM_spec ((((b0 - 240) * 64 + b1 % 64) * 64 + b2 % 64) * 64 + b3 % 64)
      rcases y1 with ⟨y, e⟩ | ⟨y, y', e⟩ | ⟨y, y', e⟩ | ⟨y, e⟩
      · have h4 := h.1 y
        clear h e
        omega
      · have h4 := h.2.1 y y'
        clear h
        omega
      · have h4 := h.2.2.1 y y'
        clear h
        omega
      · have h4 := h.2.2.2 y
        clear h
        omega
    refine if_same ⟨?_, ?_⟩ (fun h => eA h.2)
    · rintro ⟨h1, h⟩
      rw [eA h]
      exact ⟨h1, h.2⟩
    · rintro ⟨h1, h⟩
      have e := eB h
      rw [e.1] at h1 h e
      exact ⟨h1, e.2, h⟩
theorem iLead {b0 : Int} (_ : 0 ≤ b0) (_ : b0 ≤ 255) (k : Nat) : impl_leadOf.f (k + 3) b0 = some (if b0 < 128 then (1, b0) else if b0 < 192 then (0, 0) else if b0 < 224 then (2, b0 - 192) else if b0 < 240 then (3, b0 - 224) else if b0 < 248 then (4, b0 - 240) else (0, 0)) := by
  unfold impl_leadOf.f
  simp only [impl_leadOf.j0, impl_leadOf.j1]
  by_cases h1 : b0 < 128
  · rw [if_pos h1, if_pos h1, w64 (by omega) (by omega)]
  · rw [if_neg h1, if_neg h1]
    by_cases h2 : b0 < 192
    · rw [if_pos h2, if_neg (by omega), if_neg (by simp), if_neg (by omega), if_neg (by simp), if_neg (by omega)]
    · rw [if_neg h2, if_pos (by omega)]
      by_cases h3 : b0 < 224
      · rw [if_pos h3, decide_eq_true h3, if_pos rfl]
        congr 2
        omega
      · rw [if_neg h3, decide_eq_false h3, if_neg (by simp), if_pos (by omega)]
        by_cases h4 : b0 < 240
        · rw [if_pos h4, decide_eq_true h4, if_pos rfl]
          congr 2
          omega
        · rw [if_neg h4, decide_eq_false h4, if_neg (by simp), if_pos (by omega)]
          by_cases h5 : b0 < 248
          · rw [if_pos h5, if_pos h5]
            congr 2
            omega
          · rw [if_neg h5, if_neg h5]
theorem sBad {x : ByteArray} {b0 : Int} (k : Nat) (hk : 20 ≤ k) (h1 : 1 ≤ x.size) (hb : 128 ≤ b0) (hb' : b0 < 192) (_ : bt x 0 = b0) : spec_LetterAt.l0 k x b0 1 1 = some (-1, 0) := by
  obtain ⟨k, rfl⟩ : ∃ m, k = m + 1 := ⟨k - 1, by omega⟩
  have es := s_end (x := x) (n := b0) (s := 1) k (by omega) (by omega) (by omega)
  refine es.trans (congrArg some (if_neg ?_))
  have := lenM_spec b0
  omega
theorem sBig {x : ByteArray} {b0 : Int} (k : Nat) (hk : 20 ≤ k) (h1 : 4 ≤ x.size) (hb : 248 ≤ b0) (hb' : b0 ≤ 255) : spec_LetterAt.l0 k x (b0 - 240) 4 1 = some (-1, 0) := by
  obtain ⟨k, rfl⟩ : ∃ m, k = m + 4 := ⟨k - 4, by omega⟩
  have g1 := bt_lo x 1
  have g1' := bt_hi x 1
  have g2 := bt_lo x 2
  have g2' := bt_hi x 2
  have g3 := bt_lo x 3
  have g3' := bt_hi x 3
  have es := s_end (x := x) (n := (((b0 - 240) * 64 + bt x 1 - 128) * 64 + bt x 2 - 128) * 64 + bt x 3 - 128) (s := 4) k (by omega) (by omega) (by omega)
  rw [s_round (k + 3) (by omega) (by omega) (by omega) (by omega) (by omega) (by omega), show ((1 : Int) + 1) = 2 from rfl, s_round (k + 2) (by omega) (by omega) (by omega) (by omega) (by omega) (by omega), show ((2 : Int) + 1) = 3 from rfl, s_round (k + 1) (by omega) (by omega) (by omega) (by omega) (by omega) (by omega)]
  refine es.trans (congrArg some (if_neg ?_))
  rintro ⟨h, _⟩
  have := h.1
  omega
theorem FnExactLetterAt : laws_FnExactLetterAt.Pure := by
  intro a p hz hp
  suffices g : ∀ k, 40 ≤ k → laws_FnExactLetterAt.f k a p = some true from ⟨40, g 40 (Nat.le_refl _)⟩
  intro k hk
  unfold laws_FnExactLetterAt.f
  by_cases hw : (a.size : Int) > 1048576
  · rw [if_pos hw]
  rw [if_neg hw]
  suffices h : ∃ r, spec_LetterAt.f k a p = some r ∧ impl_LetterAt.f k a p = some r by
    obtain ⟨r, e1, e2⟩ := h
    rw [e1, e2]
    simp
  clear hp hz
  obtain ⟨k, rfl⟩ : ∃ m, k = m + 3 := ⟨k - 3, by omega⟩
  unfold spec_LetterAt.f impl_LetterAt.f impl_length.f
  simp only [Option.bind_some]
  rw [sIn, iWithin, w64 (x := (a.size : Int) - 1) (by omega) (by omega)]
  simp only [Option.bind_some, decide_eq_true_eq]
  by_cases hin : 0 ≤ p ∧ p ≤ (a.size : Int) - 1
  · obtain ⟨q, rfl⟩ : ∃ q : Nat, p = q := ⟨p.toNat, by omega⟩
    rw [Int.toNat_natCast]
    have z : (a.extract q a.size).size = a.size - q := part_size
    have e0 : bt (a.extract q a.size) 0 = bt a q := by rw [bt_part (by omega), Int.add_zero]
    have l0 := bt_lo a q
    have l1 := bt_hi a q
    rw [if_pos hin, if_pos hin, if_pos hin.1, if_pos hin.1, if_pos (show (q : Int) ≤ a.size by omega), if_pos (show (0 : Int) < ((a.extract q a.size).size : Int) by omega), if_pos (show (q : Int) < a.size by omega), e0, w64 (x := bt a q) (by omega) (by omega), iLead l0 l1]
    have T := tails (x := a.extract q a.size) (a := a) (p := q) rfl (by omega) (by omega)
    generalize a.extract q a.size = x at *
    generalize hb : bt a q = b0 at *
    simp only [Option.bind_some, spec_LetterAt.j0, impl_LetterAt.j0]
    by_cases h1 : b0 < 128
    · rw [if_pos h1, if_neg (show ¬ b0 ≥ 240 by omega), if_neg (show ¬ b0 ≥ 224 by omega), if_neg (show ¬ b0 ≥ 192 by omega), if_neg (show ¬ (x.size : Int) < 1 by omega)]
      simp only
      rw [if_neg (show ¬ (1 : Int) = 0 by omega), w64 (x := (q : Int) + 1) (by omega) (by omega), decide_eq_false (show ¬ (q : Int) + 1 > a.size by omega), if_neg (by simp)]
      exact T (k + 2) (by omega) 1 b0 b0 rfl (by omega) (by omega)
    · rw [if_neg h1]
      by_cases h2 : b0 < 192
      · rw [if_pos h2, if_neg (show ¬ b0 ≥ 240 by omega), if_neg (show ¬ b0 ≥ 224 by omega), if_neg (show ¬ b0 ≥ 192 by omega), if_neg (show ¬ (x.size : Int) < 1 by omega)]
        exact ⟨_, sBad (k + 2) (by omega) (by omega) (by omega) h2 e0, rfl⟩
      · rw [if_neg h2]
        by_cases h3 : b0 < 224
        · rw [if_pos h3, if_neg (show ¬ b0 ≥ 240 by omega), if_neg (show ¬ b0 ≥ 224 by omega), if_pos (show b0 ≥ 192 by omega), w64 (x := b0 - 192) (by omega) (by omega)]
          simp only
          rw [if_neg (show ¬ (2 : Int) = 0 by omega), w64 (x := (q : Int) + 2) (by omega) (by omega)]
          by_cases hl : q + 2 ≤ a.size
          · rw [if_neg (show ¬ (x.size : Int) < 2 by omega), decide_eq_false (show ¬ (q : Int) + 2 > a.size by omega), if_neg (by simp)]
            exact T (k + 2) (by omega) 2 b0 _ rfl (by omega) (by omega)
          · rw [if_pos (show (x.size : Int) < 2 by omega), decide_eq_true (show (q : Int) + 2 > a.size by omega), if_pos rfl]
            exact ⟨_, rfl, rfl⟩
        · rw [if_neg h3]
          by_cases h4 : b0 < 240
          · rw [if_pos h4, if_neg (show ¬ b0 ≥ 240 by omega), if_pos (show b0 ≥ 224 by omega), w64 (x := b0 - 224) (by omega) (by omega)]
            simp only
            rw [if_neg (show ¬ (3 : Int) = 0 by omega), w64 (x := (q : Int) + 3) (by omega) (by omega)]
            by_cases hl : q + 3 ≤ a.size
            · rw [if_neg (show ¬ (x.size : Int) < 3 by omega), decide_eq_false (show ¬ (q : Int) + 3 > a.size by omega), if_neg (by simp)]
              exact T (k + 2) (by omega) 3 b0 _ rfl (by omega) (by omega)
            · rw [if_pos (show (x.size : Int) < 3 by omega), decide_eq_true (show (q : Int) + 3 > a.size by omega), if_pos rfl]
              exact ⟨_, rfl, rfl⟩
          · rw [if_neg h4, if_pos (show b0 ≥ 240 by omega), w64 (x := b0 - 240) (by omega) (by omega)]
            by_cases h5 : b0 < 248
            · rw [if_pos h5]
              simp only
              rw [if_neg (show ¬ (4 : Int) = 0 by omega), w64 (x := (q : Int) + 4) (by omega) (by omega)]
              by_cases hl : q + 4 ≤ a.size
              · rw [if_neg (show ¬ (x.size : Int) < 4 by omega), decide_eq_false (show ¬ (q : Int) + 4 > a.size by omega), if_neg (by simp)]
                exact T (k + 2) (by omega) 4 b0 _ rfl (by omega) (by omega)
              · rw [if_pos (show (x.size : Int) < 4 by omega), decide_eq_true (show (q : Int) + 4 > a.size by omega), if_pos rfl]
                exact ⟨_, rfl, rfl⟩
            · rw [if_neg h5]
              by_cases hl : 4 ≤ x.size
              · rw [if_neg (show ¬ (x.size : Int) < 4 by omega)]
                exact ⟨_, sBig (k + 2) (by omega) hl (by omega) l1, rfl⟩
              · rw [if_pos (show (x.size : Int) < 4 by omega)]
                exact ⟨_, rfl, rfl⟩
  · rw [if_neg hin, if_neg hin]
    exact ⟨_, rfl, rfl⟩
end Go.Proofs.Ytlfhnlghfgjooaa.Pure
