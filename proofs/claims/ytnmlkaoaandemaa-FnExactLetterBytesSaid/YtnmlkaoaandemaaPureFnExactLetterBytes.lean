/- The program's LetterBytes and the reference's come to one text: whatever the number. -/
import Derived.Test.YtnmlkaoaandemaaPFnExactLetterBytesx1
import Derived.Test.YtnmlkaoaandemaaKit
import Derived.Test.YtnmlkaoaandemaaKitUtf
namespace Go.Proofs.Ytnmlkaoaandemaa.Pure
open Go.RowKit Go.Proofs.Ytnmlkaoaandemaa.PFnExactLetterBytes Go.Proofs.YtnmlkaoaandemaaW.PrintWords Go.Proofs.YtnmlkaoaandemaaW.PrintLast Go.Proofs.YtnmlkaoaandemaaW.PrintMore Go.Proofs.Ytnmlkaoaandemaa.Kit
theorem sIn (a b c : Int) : spec_l1In.f a b c = some (decide (b ≤ a ∧ a ≤ c)) := by
  unfold spec_l1In.f
  by_cases h : a ≥ b
  · rw [if_pos h]; congr 1; simp; omega
  · rw [if_neg h]; congr 1; simp; omega
theorem iWithin (a b c : Int) : impl_within.f a b c = some (decide (b ≤ a ∧ a ≤ c)) := by
  unfold impl_within.f
  by_cases h : a ≥ b
  · rw [if_pos h]; congr 1; simp; omega
  · rw [if_neg h]; congr 1; simp; omega
theorem sLetter (n : Int) : spec_l2Letter.f n = some (decide (isLetterM n)) := by
  unfold spec_l2Letter.f isLetterM
  simp only [sIn, Option.bind_some]
  by_cases h : 0 ≤ n ∧ n ≤ 1114111
  · rw [if_pos (by simpa using h)]; congr 1; by_cases g1 : 55296 ≤ n <;> by_cases g2 : n ≤ 57343 <;> simp [h, g1, g2]
  · rw [if_neg (by simpa using h)]; simp [h]

theorem iLetter (n : Int) : impl_isLetter.f n = some (decide (isLetterM n)) := by
  unfold impl_isLetter.f isLetterM
  simp only [iWithin, Option.bind_some]
  by_cases h : 0 ≤ n ∧ n ≤ 1114111
  · rw [if_pos (by simpa using h)]; congr 1; by_cases g1 : 55296 ≤ n <;> by_cases g2 : n ≤ 57343 <;> simp [h, g1, g2]
  · rw [if_neg (by simpa using h)]; simp [h]

theorem sLetterBytes (n : Int) (k : Nat) (hk : 5 < k) : spec_LetterBytes.f k n = some (if isLetterM n then strOfNums (lbM n) else (⟨#[]⟩ : ByteArray)) := by
  obtain ⟨k, rfl⟩ : ∃ m, k = m + 6 := ⟨k - 6, by omega⟩
  unfold spec_LetterBytes.f
  simp only [sLetter, Option.bind_some, decide_eq_true_eq]
  by_cases h : isLetterM n
  · rw [if_pos h, if_pos h]
    unfold isLetterM at h
    unfold lbM
    by_cases h1 : n < 128
    · rw [if_pos h1, if_pos h1]
      congr 2; simp; omega
    · rw [if_neg h1, if_neg h1, tdiv_pos (by omega), tmod_pos (by omega), w64 (x := n / 64) (by omega) (by omega), w64 (x := 128 + n % 64) (by omega) (by omega)]
      have e1 : (128 + n % 64) % 256 = 128 + n % 64 := by omega
      rw [e1, spec_LetterBytes.l0]
      by_cases h2 : n < 2048
      · rw [if_pos h2, if_neg (by omega)]
        simp only [Option.bind_some]
        rw [if_pos (by simp), w64 (by omega) (by omega)]
        congr 2; simp; omega
      · rw [if_neg h2, if_pos (by omega)]
        simp only [Option.bind_some]
        have ea : wrap64 (Int.tdiv 32 2) = 16 := by simp [wrap64]
        have eb : wrap64 (128 + wrap64 (Int.tdiv 192 2)) = 224 := by simp [wrap64]
        have ec : wrap64 (Int.tdiv 16 2) = 8 := by simp [wrap64]
        have ed : wrap64 (128 + wrap64 (Int.tdiv 224 2)) = 240 := by simp [wrap64]
        rw [if_pos (by simp), ea, eb, tdiv_pos (by omega), tmod_pos (by omega), w64 (x := n / 64 / 64) (by omega) (by omega), w64 (x := 128 + n / 64 % 64) (by omega) (by omega), spec_LetterBytes.l0]
        by_cases h3 : n < 65536
        · rw [if_pos h3, if_neg (by omega)]
          simp only [Option.bind_some]
          rw [if_pos (by simp), w64 (by omega) (by omega)]
          congr 2; simp; omega
        · rw [if_neg h3, if_pos (by omega)]
          simp only [Option.bind_some]
          rw [if_pos (by simp), ec, ed, tdiv_pos (by omega), tmod_pos (by omega), w64 (x := n / 64 / 64 / 64) (by omega) (by omega), w64 (x := 128 + n / 64 / 64 % 64) (by omega) (by omega), spec_LetterBytes.l0]
          rw [if_neg (by omega)]
          simp only [Option.bind_some]
          rw [if_pos (by simp), w64 (by omega) (by omega)]
          congr 2; simp; omega
  · rw [if_neg h, if_neg h]

theorem iLetterBytes0 (n : Int) (hn : 0 ≤ n ∧ n ≤ 1114111) (k : Nat) (hk : 5 < k) : impl_letterBytes.f k n = some (strOfNums (lbM n)) := by
  obtain ⟨k, rfl⟩ : ∃ m, k = m + 6 := ⟨k - 6, by omega⟩
  unfold impl_letterBytes.f impl_bytesIn.f lbM
  have q1 : wrap64 (1 - 1) = 0 := by simp [wrap64]
  have q2 : wrap64 (2 - 1) = 1 := by simp [wrap64]
  have q3 : wrap64 (3 - 1) = 2 := by simp [wrap64]
  have q4 : wrap64 (4 - 1) = 3 := by simp [wrap64]
  by_cases h1 : n < 128
  · rw [if_pos h1, if_pos h1]
    simp only [Option.bind_some]
    rw [if_pos (by omega), if_pos (by decide), q1, impl_letterBytes.l0, if_neg (by omega)]
    simp only [Option.bind_some]
    rw [q1, if_pos (by omega), if_pos (by simp), if_pos (by simp)]
    congr 2; simp [rd]; omega
  · rw [if_neg h1, if_neg h1]
    by_cases h2 : n < 2048
    · rw [if_pos h2, if_pos h2]
      simp only [Option.bind_some]
      rw [if_pos (by omega), if_pos (by decide), q2, impl_letterBytes.l0, if_pos (by omega), if_pos (by omega), if_pos (by simp), tdiv_pos (by omega), tmod_pos (by omega), w64 (x := n / 64) (by omega) (by omega), q1, impl_letterBytes.l0, if_neg (by omega)]
      simp only [Option.bind_some]
      rw [q2, if_pos (by omega), if_pos (by simp), if_pos (by simp)]
      congr 2; simp [rd, List.replicate]; omega
    · rw [if_neg h2, if_neg h2]
      by_cases h3 : n < 65536
      · rw [if_pos h3, if_pos h3]
        simp only [Option.bind_some]
        rw [if_pos (by omega), if_pos (by decide), q3, impl_letterBytes.l0, if_pos (by omega), if_pos (by omega), if_pos (by simp), tdiv_pos (by omega), tmod_pos (by omega), w64 (x := n / 64) (by omega) (by omega), q2,
          impl_letterBytes.l0, if_pos (by omega), if_pos (by omega), if_pos (by simp), tdiv_pos (by omega), tmod_pos (by omega), w64 (x := n / 64 / 64) (by omega) (by omega), q1, impl_letterBytes.l0, if_neg (by omega)]
        simp only [Option.bind_some]
        rw [q3, if_pos (by omega), if_pos (by simp), if_pos (by simp)]
        congr 2; simp [rd, List.replicate]; omega
      · rw [if_neg h3, if_neg h3]
        simp only [Option.bind_some]
        rw [if_pos (by omega), if_pos (by decide), q4, impl_letterBytes.l0, if_pos (by omega), if_pos (by omega), if_pos (by simp), tdiv_pos (by omega), tmod_pos (by omega), w64 (x := n / 64) (by omega) (by omega), q3,
          impl_letterBytes.l0, if_pos (by omega), if_pos (by omega), if_pos (by simp), tdiv_pos (by omega), tmod_pos (by omega), w64 (x := n / 64 / 64) (by omega) (by omega), q2,
          impl_letterBytes.l0, if_pos (by omega), if_pos (by omega), if_pos (by simp), tdiv_pos (by omega), tmod_pos (by omega), w64 (x := n / 64 / 64 / 64) (by omega) (by omega), q1, impl_letterBytes.l0, if_neg (by omega)]
        simp only [Option.bind_some]
        rw [q4, if_pos (by omega), if_pos (by simp), if_pos (by simp)]
        congr 2; simp [rd, List.replicate]; omega

theorem FnExactLetterBytes : laws_FnExactLetterBytes.Pure := by
  intro n _
  refine ⟨6, ?_⟩
  unfold laws_FnExactLetterBytes.f impl_LetterBytes.f
  rw [sLetterBytes n 6 (by omega)]
  simp only [iLetter, Option.bind_some, decide_eq_true_eq]
  by_cases h : isLetterM n
  · rw [if_pos h, if_pos h, iLetterBytes0 n h.1 6 (by omega)]
    simp
  · rw [if_neg h, if_neg h]
    simp
end Go.Proofs.Ytnmlkaoaandemaa.Pure
