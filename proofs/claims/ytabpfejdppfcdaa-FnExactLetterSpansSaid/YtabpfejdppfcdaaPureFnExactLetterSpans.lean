/- The program's LetterSpans and the reference's come to the same rows: whatever the ends. -/
import Derived.Test.YtabpfejdppfcdaaPFnExactLetterSpansx5
import Derived.Test.YtabpfejdppfcdaaKit
import Derived.Test.YtabpfejdppfcdaaKitUtf
import Derived.Test.YtabpfejdppfcdaaKitNums
namespace Go.Proofs.Ytabpfejdppfcdaa.Pure
open Go.RowKit Go.Proofs.Ytabpfejdppfcdaa.PFnExactLetterSpans Go.Proofs.YtabpfejdppfcdaaW.PrintWords Go.Proofs.YtabpfejdppfcdaaW.PrintLast Go.Proofs.YtabpfejdppfcdaaW.PrintMore Go.Proofs.Ytabpfejdppfcdaa.Kit
set_option linter.unusedVariables false
theorem sIn (a b c : Int) : spec_l1In.f a b c = some (decide (b ≤ a ∧ a ≤ c)) := by
  unfold spec_l1In.f
  by_cases h : a ≥ b
  · rw [if_pos h]; congr 1; simp; omega
  · rw [if_neg h]; congr 1; simp; omega
theorem iWithin (a b c : Int) : impl_within.f a b c = some (decide (b ≤ a ∧ a ≤ c)) := by
  unfold impl_within.f
  by_cases h : a ≥ b
  · rw [if_pos h]; congr 1; simp; omega
  · rw [if_neg h]; congr 1; simp; omega
theorem sLetter (n : Int) : spec_l2Letter.f n = some (decide (isLetterM n)) := by
  unfold spec_l2Letter.f isLetterM
  simp only [sIn, Option.bind_some]
  by_cases h : 0 ≤ n ∧ n ≤ 1114111
  · rw [if_pos (by simpa using h)]; congr 1; by_cases g1 : 55296 ≤ n <;> by_cases g2 : n ≤ 57343 <;> simp [h, g1, g2]
  · rw [if_neg (by simpa using h)]; simp [h]

theorem iLetter (n : Int) : impl_isLetter.f n = some (decide (isLetterM n)) := by
  unfold impl_isLetter.f isLetterM
  simp only [iWithin, Option.bind_some]
  by_cases h : 0 ≤ n ∧ n ≤ 1114111
  · rw [if_pos (by simpa using h)]; congr 1; by_cases g1 : 55296 ≤ n <;> by_cases g2 : n ≤ 57343 <;> simp [h, g1, g2]
  · rw [if_neg (by simpa using h)]; simp [h]

theorem sLetterBytes (n : Int) (k : Nat) (hk : 5 < k) : spec_LetterBytes.f k n = some (if isLetterM n then strOfNums (lbM n) else (⟨#[]⟩ : ByteArray)) := by
  obtain ⟨k, rfl⟩ : ∃ m, k = m + 6 := ⟨k - 6, by omega⟩
  unfold spec_LetterBytes.f
  simp only [sLetter, Option.bind_some, decide_eq_true_eq]
  by_cases h : isLetterM n
  · rw [if_pos h, if_pos h]
    unfold isLetterM at h
    unfold lbM
    by_cases h1 : n < 128
    · rw [if_pos h1, if_pos h1]
      congr 2; simp; omega
    · rw [if_neg h1, if_neg h1, tdiv_pos (by omega), tmod_pos (by omega), w64 (x := n / 64) (by omega) (by omega), w64 (x := 128 + n % 64) (by omega) (by omega)]
      have e1 : (128 + n % 64) % 256 = 128 + n % 64 := by omega
      rw [e1, spec_LetterBytes.l0]
      by_cases h2 : n < 2048
      · rw [if_pos h2, if_neg (by omega)]
        simp only [Option.bind_some]
        rw [if_pos (by simp), w64 (by omega) (by omega)]
        congr 2; simp; omega
      · rw [if_neg h2, if_pos (by omega)]
        simp only [Option.bind_some]
        have ea : wrap64 (Int.tdiv 32 2) = 16 := by simp [wrap64]
        have eb : wrap64 (128 + wrap64 (Int.tdiv 192 2)) = 224 := by simp [wrap64]
        have ec : wrap64 (Int.tdiv 16 2) = 8 := by simp [wrap64]
        have ed : wrap64 (128 + wrap64 (Int.tdiv 224 2)) = 240 := by simp [wrap64]
        rw [if_pos (by simp), ea, eb, tdiv_pos (by omega), tmod_pos (by omega), w64 (x := n / 64 / 64) (by omega) (by omega), w64 (x := 128 + n / 64 % 64) (by omega) (by omega), spec_LetterBytes.l0]
        by_cases h3 : n < 65536
        · rw [if_pos h3, if_neg (by omega)]
          simp only [Option.bind_some]
          rw [if_pos (by simp), w64 (by omega) (by omega)]
          congr 2; simp; omega
        · rw [if_neg h3, if_pos (by omega)]
          simp only [Option.bind_some]
          rw [if_pos (by simp), ec, ed, tdiv_pos (by omega), tmod_pos (by omega), w64 (x := n / 64 / 64 / 64) (by omega) (by omega), w64 (x := 128 + n / 64 / 64 % 64) (by omega) (by omega), spec_LetterBytes.l0]
          rw [if_neg (by omega)]
          simp only [Option.bind_some]
          rw [if_pos (by simp), w64 (by omega) (by omega)]
          congr 2; simp; omega
  · rw [if_neg h, if_neg h]

theorem iLetterBytes0 (n : Int) (hn : 0 ≤ n ∧ n ≤ 1114111) (k : Nat) (hk : 5 < k) : impl_letterBytes.f k n = some (strOfNums (lbM n)) := by
  obtain ⟨k, rfl⟩ : ∃ m, k = m + 6 := ⟨k - 6, by omega⟩
  unfold impl_letterBytes.f impl_bytesIn.f lbM
  have q1 : wrap64 (1 - 1) = 0 := by simp [wrap64]
  have q2 : wrap64 (2 - 1) = 1 := by simp [wrap64]
  have q3 : wrap64 (3 - 1) = 2 := by simp [wrap64]
  have q4 : wrap64 (4 - 1) = 3 := by simp [wrap64]
  by_cases h1 : n < 128
  · rw [if_pos h1, if_pos h1]
    simp only [Option.bind_some]
    rw [if_pos (by omega), if_pos (by decide), q1, impl_letterBytes.l0, if_neg (by omega)]
    simp only [Option.bind_some]
    rw [q1, if_pos (by omega), if_pos (by simp), if_pos (by simp)]
    congr 2; simp [rd]; omega
  · rw [if_neg h1, if_neg h1]
    by_cases h2 : n < 2048
    · rw [if_pos h2, if_pos h2]
      simp only [Option.bind_some]
      rw [if_pos (by omega), if_pos (by decide), q2, impl_letterBytes.l0, if_pos (by omega), if_pos (by omega), if_pos (by simp), tdiv_pos (by omega), tmod_pos (by omega), w64 (x := n / 64) (by omega) (by omega), q1, impl_letterBytes.l0, if_neg (by omega)]
      simp only [Option.bind_some]
      rw [q2, if_pos (by omega), if_pos (by simp), if_pos (by simp)]
      congr 2; simp [rd, List.replicate]; omega
    · rw [if_neg h2, if_neg h2]
      by_cases h3 : n < 65536
      · rw [if_pos h3, if_pos h3]
        simp only [Option.bind_some]
        rw [if_pos (by omega), if_pos (by decide), q3, impl_letterBytes.l0, if_pos (by omega), if_pos (by omega), if_pos (by simp), tdiv_pos (by omega), tmod_pos (by omega), w64 (x := n / 64) (by omega) (by omega), q2,
          impl_letterBytes.l0, if_pos (by omega), if_pos (by omega), if_pos (by simp), tdiv_pos (by omega), tmod_pos (by omega), w64 (x := n / 64 / 64) (by omega) (by omega), q1, impl_letterBytes.l0, if_neg (by omega)]
        simp only [Option.bind_some]
        rw [q3, if_pos (by omega), if_pos (by simp), if_pos (by simp)]
        congr 2; simp [rd, List.replicate]; omega
      · rw [if_neg h3, if_neg h3]
        simp only [Option.bind_some]
        rw [if_pos (by omega), if_pos (by decide), q4, impl_letterBytes.l0, if_pos (by omega), if_pos (by omega), if_pos (by simp), tdiv_pos (by omega), tmod_pos (by omega), w64 (x := n / 64) (by omega) (by omega), q3,
          impl_letterBytes.l0, if_pos (by omega), if_pos (by omega), if_pos (by simp), tdiv_pos (by omega), tmod_pos (by omega), w64 (x := n / 64 / 64) (by omega) (by omega), q2,
          impl_letterBytes.l0, if_pos (by omega), if_pos (by omega), if_pos (by simp), tdiv_pos (by omega), tmod_pos (by omega), w64 (x := n / 64 / 64 / 64) (by omega) (by omega), q1, impl_letterBytes.l0, if_neg (by omega)]
        simp only [Option.bind_some]
        rw [q4, if_pos (by omega), if_pos (by simp), if_pos (by simp)]
        congr 2; simp [rd, List.replicate]; omega
theorem eqSpanS_l (l : List S148) (hl : (l.length : Int) ≤ 1099511627776) (d : Nat) : ∀ (k : Nat) (i : Nat), d < k → l.length - i = d → i ≤ l.length → laws_eqSpanS.l0 k l l (i : Int) = some true := by
  induction d with
  | zero =>
    intro k i hk hd hi
    obtain ⟨k, rfl⟩ : ∃ m, k = m + 1 := ⟨k - 1, by omega⟩
    simp only [laws_eqSpanS.l0]
    rw [if_neg (by omega)]
  | succ d ih =>
    intro k i hk hd hi
    obtain ⟨k, rfl⟩ : ∃ m, k = m + 1 := ⟨k - 1, by omega⟩
    simp only [laws_eqSpanS.l0, laws_eqSpan.f, if_true, Option.bind_some]
    rw [if_pos (by omega), if_pos (by omega), if_pos (by omega), nat_next (by omega)]
    exact ih k (i + 1) (by omega) (by omega) (by omega)
theorem eqSpanS_same (l : List S148) (hl : (l.length : Int) ≤ 1099511627776) (k : Nat) (hk : l.length < k) : laws_eqSpanS.f k l l = some true := by
  unfold laws_eqSpanS.f
  rw [if_pos rfl]
  exact eqSpanS_l l hl l.length k 0 hk (by omega) (by omega)
theorem rdT_set (l : List S148) (i : Nat) (v : S148) (h : i < l.length) : rd_T148 (l.set i v) (i : Int) = v := by
  unfold rd_T148
  rw [Int.toNat_natCast, List.getD_eq_getElem?_getD, List.getElem?_set_self h]
  rfl
theorem rdT_other (l : List S148) (i j : Nat) (v : S148) (h : i ≠ j) : rd_T148 (l.set i v) (j : Int) = rd_T148 l (j : Int) := by
  unfold rd_T148
  rw [Int.toNat_natCast, List.getD_eq_getElem?_getD, List.getD_eq_getElem?_getD, List.getElem?_set_ne h]
/-- each number of a row is its own -/
def marked (y : List S148) (i : Nat) : Prop := ∀ j : Nat, j < i → rd_T148 y (j : Int) = ⟨1 + 2 * (j : Int), 2 + 2 * (j : Int)⟩
theorem mark_l (n : Nat) (hn : n ≤ 1000000000) (d : Nat) : ∀ (k : Nat) (x : List S148) (i : Nat), d < k → n - i = d → i ≤ n → x.length = n → marked x i →
    ∃ y, laws_markSpanS.l0 k x (1 + 2 * (i : Int)) (i : Int) = some (1 + 2 * (n : Int), y) ∧ y.length = n ∧ marked y n := by
  induction d with
  | zero =>
    intro k x i hk hd hi hx hm
    obtain ⟨k, rfl⟩ : ∃ m, k = m + 1 := ⟨k - 1, by omega⟩
    obtain rfl : i = n := by omega
    simp only [laws_markSpanS.l0]
    rw [if_neg (by omega)]
    exact ⟨x, rfl, hx, hm⟩
  | succ d ih =>
    intro k x i hk hd hi hx hm
    obtain ⟨k, rfl⟩ : ∃ m, k = m + 1 := ⟨k - 1, by omega⟩
    simp only [laws_markSpanS.l0, Option.bind_some, Int.toNat_natCast]
    rw [if_pos (by omega), if_pos (by omega), nat_next (by omega), rdT_set x i _ (by omega), w64 (x := 1 + 2 * (i : Int) + 1) (by omega) (by omega), w64 (by omega) (by omega), show 1 + 2 * (i : Int) + 1 + 1 = 1 + 2 * ((i + 1 : Nat) : Int) by omega]
    refine ih k _ (i + 1) (by omega) (by omega) (by omega) (by simpa using hx) (fun j hj => ?_)
    by_cases e : i = j
    · subst e
      rw [rdT_set _ _ _ (by simp; omega), show 1 + 2 * (i : Int) + 1 = 2 + 2 * (i : Int) by omega]
    · rw [rdT_other _ _ _ _ e, rdT_other _ _ _ _ e]
      exact hm j (by omega)
theorem markS (x : List S148) (hn : x.length ≤ 1000000000) (k : Nat) (hk : x.length < k) : ∃ y, laws_markSpanS.f k x 1 = some (1 + 2 * (x.length : Int), y) ∧ y.length = x.length ∧ marked y x.length :=
  mark_l x.length hn x.length k x 0 hk (by omega) (by omega) rfl (fun j hj => by omega)
theorem held_l (y : List S148) (n : Nat) (hn : n ≤ 1000000000) (hy : y.length = n) (hm : marked y n) (d : Nat) : ∀ (k : Nat) (i : Nat), d < k → n - i = d → i ≤ n →
    laws_heldSpanS.l0 k y (1 + 2 * (i : Int)) (i : Int) = some (1 + 2 * (n : Int)) := by
  induction d with
  | zero =>
    intro k i hk hd hi
    obtain ⟨k, rfl⟩ : ∃ m, k = m + 1 := ⟨k - 1, by omega⟩
    obtain rfl : i = n := by omega
    simp only [laws_heldSpanS.l0]
    rw [if_neg (by omega)]
  | succ d ih =>
    intro k i hk hd hi
    obtain ⟨k, rfl⟩ : ∃ m, k = m + 1 := ⟨k - 1, by omega⟩
    simp only [laws_heldSpanS.l0]
    rw [if_pos (by omega), if_pos (by omega), hm i (by omega), if_pos rfl, w64 (x := 1 + 2 * (i : Int) + 1) (by omega) (by omega), if_pos (by simp only; omega), nat_next (by omega), w64 (by omega) (by omega), show 1 + 2 * (i : Int) + 1 + 1 = 1 + 2 * ((i + 1 : Nat) : Int) by omega]
    exact ih k (i + 1) (by omega) (by omega) (by omega)
theorem heldS (y : List S148) (n : Nat) (hn : n ≤ 1000000000) (hy : y.length = n) (hm : marked y n) (k : Nat) (hk : n < k) : laws_heldSpanS.f k y 1 = some (1 + 2 * (n : Int)) :=
  held_l y n hn hy hm n k 0 hk (by omega) (by omega)
/-- marks that begin at c: only the next number matters -/
theorem markAt_l (n : Nat) (hn : n ≤ 1000000000) (c : Int) (c0 : 0 ≤ c) (c1 : c ≤ 1000000000000) (d : Nat) : ∀ (k : Nat) (x : List S148) (i : Nat), d < k → n - i = d → i ≤ n → x.length = n →
    ∃ y, laws_markSpanS.l0 k x (c + 2 * (i : Int)) (i : Int) = some (c + 2 * (n : Int), y) := by
  induction d with
  | zero =>
    intro k x i hk hd hi hx
    obtain ⟨k, rfl⟩ : ∃ m, k = m + 1 := ⟨k - 1, by omega⟩
    obtain rfl : i = n := by omega
    simp only [laws_markSpanS.l0]
    rw [if_neg (by omega)]
    exact ⟨x, rfl⟩
  | succ d ih =>
    intro k x i hk hd hi hx
    obtain ⟨k, rfl⟩ : ∃ m, k = m + 1 := ⟨k - 1, by omega⟩
    simp only [laws_markSpanS.l0, Option.bind_some, Int.toNat_natCast]
    rw [if_pos (by omega), if_pos (by omega), nat_next (by omega), w64 (x := c + 2 * (i : Int) + 1) (by omega) (by omega), w64 (by omega) (by omega), show c + 2 * (i : Int) + 1 + 1 = c + 2 * ((i + 1 : Nat) : Int) by omega]
    exact ih k _ (i + 1) (by omega) (by omega) (by omega) (by simpa using hx)
theorem markAt (x : List S148) (hn : x.length ≤ 1000000000) (c : Int) (c0 : 0 ≤ c) (c1 : c ≤ 1000000000000) (k : Nat) (hk : x.length < k) : ∃ y, laws_markSpanS.f k x c = some (c + 2 * (x.length : Int), y) := by
  have h := markAt_l x.length hn c c0 c1 x.length k x 0 hk (by omega) (by omega) rfl
  unfold laws_markSpanS.f
  rw [show c + 2 * ((0 : Nat) : Int) = c by omega] at h
  exact h
/-- the last letter of as many bytes -/
def limA (a : Int) : Int := if a < 128 then 127 else if a < 2048 then 2047 else if a < 55296 then 55295 else if a < 65536 then 65535 else 1114111
def nbA (a : Int) : Nat := if a < 128 then 0 else if a < 2048 then 1 else if a < 65536 then 2 else 3
/-- the greatest end of an even row: k more units -/
def endsM (a E : Int) : Nat → Int → Int → Int
  | 0, u, best => if a % u = 0 then max best ((E + 1) / u * u - 1) else best
  | k + 1, u, best => if a % u = 0 then endsM a E k (u * 64) (max best ((min E ((a / (u * 64) + 1) * u * 64 - 1) + 1) / u * u - 1)) else best
theorem mx_max (x y : Int) : mx x y = max x y := by unfold mx; split <;> omega
theorem mn_min (x y : Int) : mn x y = min x y := by unfold mn; split <;> omega
theorem divmul {x u : Int} (hx : 0 ≤ x) (hu : 0 < u) : 0 ≤ x / u ∧ x / u ≤ x ∧ 0 ≤ x / u * u ∧ x / u * u ≤ x :=
  ⟨Int.ediv_nonneg hx (by omega), Int.ediv_le_self _ hx, Int.mul_nonneg (Int.ediv_nonneg hx (by omega)) (by omega), Int.ediv_mul_le x (by omega)⟩
theorem ie_l0 (k : Nat) (a E best u x : Int) : impl_evenTo.l0 (k + 1) a E best u x = if x ≥ 0 then (if u = 0 then none else impl_evenTo.j1 k a E best u x (Int.tmod a u == 0)) else impl_evenTo.j1 k a E best u x false := by rw [impl_evenTo.l0]
theorem ie_j1 (k : Nat) (a E best u x : Int) (b : Bool) : impl_evenTo.j1 (k + 1) a E best u x b = if b = true then (if x > 0 then (if wrap64 (u * 64) = 0 then none else (if u = 0 then none else impl_evenTo.l0 k a E (mx best (wrap64 (wrap64 (wrap64 (Int.tdiv (wrap64 (mn E (wrap64 (wrap64 (wrap64 (wrap64 (wrap64 (Int.tdiv a (wrap64 (u * 64))) + 1) * u) * 64) - 1)) + 1)) u) * u) - 1))) (wrap64 (u * 64)) (wrap64 (x - 1)))) else (if u = 0 then none else impl_evenTo.l0 k a E (mx best (wrap64 (wrap64 (wrap64 (Int.tdiv (wrap64 (E + 1)) u) * u) - 1))) (wrap64 (u * 64)) (wrap64 (x - 1)))) else some best := by rw [impl_evenTo.j1]
theorem iEnds0 (a E best u : Int) (F : Nat) (ha : 0 ≤ a ∧ a ≤ 1114111) (hE : a ≤ E ∧ E ≤ 1114111) (hu : 0 < u ∧ u ≤ 262144) : impl_evenTo.l0 (F + 4) a E best u 0 = some (endsM a E 0 u best) := by
  obtain ⟨q1, q2, q3, q4⟩ := divmul (x := E + 1) (u := u) (by omega) hu.1
  rw [ie_l0, if_pos (by decide), if_neg (by omega), tmod_pos (by omega)]
  simp only [endsM]
  by_cases h : a % u = 0
  · have e : (a % u == 0) = true := by simpa using h
    rw [e, ie_j1, if_pos rfl, if_neg (by decide), if_neg (by omega), if_pos h, ie_l0, w64 (x := (0 : Int) - 1) (by omega) (by omega), if_neg (by decide), ie_j1, if_neg (by decide), w64 (x := E + 1) (by omega) (by omega), tdiv_pos (by omega), w64 (x := (E + 1) / u) (by omega) (by omega), w64 (x := (E + 1) / u * u) (by omega) (by omega), w64 (x := (E + 1) / u * u - 1) (by omega) (by omega), mx_max]
  · have e : (a % u == 0) = false := by simpa using h
    rw [e, ie_j1, if_neg (by decide), if_neg h]
theorem iEnds (a E : Int) (ha : 0 ≤ a ∧ a ≤ 1114111) (hE : a ≤ E ∧ E ≤ 1114111) : ∀ (k F : Nat) (u best : Int), k ≤ 3 → 0 < u → u * 64 ^ k ≤ 262144 → impl_evenTo.l0 (F + 4 + 2 * k) a E best u (k : Int) = some (endsM a E k u best)
  | 0, F, u, best, _, hu, h => iEnds0 a E best u F ha hE ⟨hu, by simpa using h⟩
  | k + 1, F, u, best, hk, hu, h => by
    have hp : (0 : Int) < 64 ^ k := Int.pow_pos (by decide)
    have hh : u * 64 * 64 ^ k ≤ 262144 := by rw [Int.mul_assoc, ← Int.pow_succ']; exact h
    have hm : u * 64 * 1 ≤ u * 64 * 64 ^ k := Int.mul_le_mul_of_nonneg_left hp (by omega)
    have ih := iEnds a E ha hE k F (u * 64)
    rw [show F + 4 + 2 * (k + 1) = (F + 4 + 2 * k) + 1 + 1 by omega, ie_l0, if_pos (by omega), if_neg (by omega), tmod_pos (by omega)]
    simp only [endsM]
    by_cases c : a % u = 0
    · have e : (a % u == 0) = true := by simpa using c
      obtain ⟨p1, p2, p3, p4⟩ := divmul (x := a) (u := u * 64) (by omega) (by omega)
      have m1 : (a / (u * 64) + 1) * u * 64 = a / (u * 64) * (u * 64) + u * 64 := by rw [Int.mul_assoc, Int.add_mul, Int.one_mul]
      have m2 : (a / (u * 64) + 1) * u = a / (u * 64) * u + u := by rw [Int.add_mul, Int.one_mul]
      have m3 : 0 ≤ a / (u * 64) * u := Int.mul_nonneg p1 (by omega)
      have m4 : a / (u * 64) * (u * 64) = a / (u * 64) * u * 64 := by rw [Int.mul_assoc]
      have hlt : a < a / (u * 64) * (u * 64) + u * 64 := by
        have h1 := Int.lt_ediv_add_one_mul_self a (show 0 < u * 64 by omega)
        rw [Int.add_mul, Int.one_mul] at h1
        exact h1
      obtain ⟨q1, q2, q3, q4⟩ := divmul (x := min E ((a / (u * 64) + 1) * u * 64 - 1) + 1) (u := u) (by omega) hu
      rw [e, ie_j1, if_pos rfl, if_pos (by omega), w64 (x := u * 64) (by omega) (by omega), if_neg (by omega), if_neg (by omega), if_pos c, tdiv_pos (b := u * 64) (by omega), w64 (x := a / (u * 64)) (by omega) (by omega), w64 (x := a / (u * 64) + 1) (by omega) (by omega), w64 (x := (a / (u * 64) + 1) * u) (by omega) (by omega), w64 (x := (a / (u * 64) + 1) * u * 64) (by omega) (by omega), w64 (x := (a / (u * 64) + 1) * u * 64 - 1) (by omega) (by omega), mn_min, w64 (x := min E ((a / (u * 64) + 1) * u * 64 - 1) + 1) (by omega) (by omega), tdiv_pos (b := u) (by omega), w64 (x := (min E ((a / (u * 64) + 1) * u * 64 - 1) + 1) / u) (by omega) (by omega), w64 (x := (min E ((a / (u * 64) + 1) * u * 64 - 1) + 1) / u * u) (by omega) (by omega), w64 (x := (min E ((a / (u * 64) + 1) * u * 64 - 1) + 1) / u * u - 1) (by omega) (by omega), mx_max, w64 (x := ((k + 1 : Nat) : Int) - 1) (by omega) (by omega), show ((k + 1 : Nat) : Int) - 1 = (k : Int) by omega]
      exact ih _ (by omega) (by omega) hh
    · have e : (a % u == 0) = false := by simpa using c
      rw [e, ie_j1, if_neg (by decide), if_neg c]
theorem limA_rng {a : Int} (h : isLetterM a) : a ≤ limA a ∧ limA a ≤ 1114111 := by
  unfold limA
  have := h.1
  have := h.2
  split <;> (try split) <;> (try split) <;> (try split) <;> omega
theorem iLastOf (a : Int) : impl_lastOf.f a = some (limA a) := by
  unfold impl_lastOf.f limA
  split <;> (try split) <;> (try split) <;> (try split) <;> rfl
theorem iBytesIn (a : Int) : impl_bytesIn.f a = some ((nbA a : Int) + 1) := by
  unfold impl_bytesIn.f nbA
  split <;> (try split) <;> (try split) <;> rfl
theorem nbA_le (a : Int) : nbA a ≤ 3 := by unfold nbA; split <;> (try split) <;> (try split) <;> omega
theorem iEvenTo (a high : Int) (ha : isLetterM a) (hh : a ≤ high) (k : Nat) (hk : 20 ≤ k) : impl_evenTo.f k a high = some (endsM a (min high (limA a)) (nbA a) 1 a) := by
  have hl := limA_rng ha
  have hn := nbA_le a
  have h1 := ha.1
  unfold impl_evenTo.f
  rw [iLastOf, iBytesIn]
  simp only [Option.bind_some]
  rw [show (nbA a : Int) + 1 - 1 = (nbA a : Int) by omega, w64 (x := (nbA a : Int)) (by omega) (by omega), mn_min]
  obtain ⟨F, rfl⟩ : ∃ F, k = F + 4 + 2 * nbA a := ⟨k - 4 - 2 * nbA a, by omega⟩
  refine iEnds a (min high (limA a)) h1 (by omega) (nbA a) F 1 a hn (by decide) ?_
  have : nbA a = 0 ∨ nbA a = 1 ∨ nbA a = 2 ∨ nbA a = 3 := by omega
  rcases this with e | e | e | e <;> rw [e] <;> decide
theorem endsM_rng (a E : Int) : ∀ (k : Nat) (u best : Int), 0 < u → a ≤ best → best ≤ E → a ≤ endsM a E k u best ∧ endsM a E k u best ≤ E
  | 0, u, best, hu, h1, h2 => by
    unfold endsM
    have := Int.ediv_mul_le (E + 1) (show u ≠ 0 by omega)
    split <;> omega
  | k + 1, u, best, hu, h1, h2 => by
    unfold endsM
    have := Int.ediv_mul_le (min E ((a / (u * 64) + 1) * u * 64 - 1) + 1) (show u ≠ 0 by omega)
    split
    · exact endsM_rng a E k (u * 64) _ (by omega) (by omega) (by omega)
    · exact ⟨h1, h2⟩
/-- the reference's first part: how many bytes -/
theorem sTop (k : Nat) (a high best first u : Int) (ha : 0 ≤ a ∧ a ≤ 1114111) : spec_l2Ends.l2 (k + 5) a high best first u 1114112 ([128, 2048, 55296, 65536] : List Int) 0 = spec_l2Ends.l2 (k + 1) a high best first u (limA a + 1) ([128, 2048, 55296, 65536] : List Int) 4 := by
  have st : ∀ (k : Nat) (t i : Int), 0 ≤ i → i < 4 → spec_l2Ends.l2 (k + 1) a high best first u t ([128, 2048, 55296, 65536] : List Int) i = spec_l2Ends.l2 k a high best first u (if a < rd [128, 2048, 55296, 65536] i ∧ rd [128, 2048, 55296, 65536] i < t then rd [128, 2048, 55296, 65536] i else t) ([128, 2048, 55296, 65536] : List Int) (i + 1) := by
    intro k t i h0 h1
    rw [spec_l2Ends.l2, if_pos (by simpa using h1), if_pos h0, w64 (x := i + 1) (by omega) (by omega)]
    by_cases c1 : a < rd [128, 2048, 55296, 65536] i
    · rw [if_pos c1]
      by_cases c2 : rd [128, 2048, 55296, 65536] i < t
      · rw [if_pos c2, if_pos ⟨c1, c2⟩]
      · rw [if_neg c2, if_neg (fun g => c2 g.2)]
    · rw [if_neg c1, if_neg (fun g => c1 g.1)]
  rw [st (k + 4) _ 0 (by decide) (by decide), st (k + 3) _ (0 + 1) (by decide) (by decide), st (k + 2) _ (0 + 1 + 1) (by decide) (by decide), st (k + 1) _ (0 + 1 + 1 + 1) (by decide) (by decide)]
  congr 1
  have r0 : rd [128, 2048, 55296, 65536] 0 = 128 := rfl
  have r1 : rd [128, 2048, 55296, 65536] (0 + 1) = 2048 := rfl
  have r2 : rd [128, 2048, 55296, 65536] (0 + 1 + 1) = 55296 := rfl
  have r3 : rd [128, 2048, 55296, 65536] (0 + 1 + 1 + 1) = 65536 := rfl
  rw [r0, r1, r2, r3]
  unfold limA
  split <;> split <;> split <;> split <;> omega
theorem divshift {a x u : Int} (hu : 0 < u) (h : a % u = 0) : (x + 1) / u * u = a + (x - a + 1) / u * u := by
  have e : u * (a / u) = a := by have := Int.emod_add_mul_ediv a u; omega
  have e2 : x + 1 = (x - a + 1) + u * (a / u) := by omega
  rw [e2, Int.add_mul_ediv_left _ _ (by omega), Int.add_mul, Int.mul_comm (a / u) u, e]
  have e3 : x - a + 1 + u * (a / u) - 1 - a + 1 = x - a + 1 := by omega
  omega
theorem newBest {a x u best : Int} (hu : 0 < u) (h : a % u = 0) (hb : a ≤ best) (hx : a ≤ x) (hn : ¬ (x - a + 1) / u > 0) : max best ((x + 1) / u * u - 1) = best := by
  have h0 : 0 ≤ (x - a + 1) / u := Int.ediv_nonneg (by omega) (by omega)
  have h1 : (x - a + 1) / u = 0 := by omega
  rw [divshift hu h, h1]
  omega
theorem sE_end (a high best u first : Int) (F : Nat) (ha : isLetterM a) (hh : a ≤ high ∧ high ≤ 1114111) (hu : 0 < u ∧ u ≤ 262144) (hf : u < first → 0 < u * 64 ∧ u * 64 ≤ 262144) (hb : a ≤ best ∧ best ≤ 1114111) (hz : a % u = 0) :
    spec_l2Ends.l2 (F + 1) a high best first u (limA a + 1) ([128, 2048, 55296, 65536] : List Int) 4 = (if u < first then spec_l2Ends.l1 F a high (max best ((min (min high (limA a)) ((a / (u * 64) + 1) * u * 64 - 1) + 1) / u * u - 1)) first (u * 64) else spec_l2Ends.l1 F a high (max best ((min high (limA a) + 1) / u * u - 1)) first (u * 64)) := by
  have h1 := ha.1
  have hl := limA_rng ha
  rw [spec_l2Ends.l2, if_neg (by simp)]
  by_cases c : u < first
  · have hf' := hf c
    obtain ⟨p1, p2, p3, p4⟩ := divmul (x := a) (u := u * 64) (by omega) (by omega)
    have m1 : (a / (u * 64) + 1) * u * 64 = a / (u * 64) * (u * 64) + u * 64 := by rw [Int.mul_assoc, Int.add_mul, Int.one_mul]
    have m2 : (a / (u * 64) + 1) * u = a / (u * 64) * u + u := by rw [Int.add_mul, Int.one_mul]
    have m3 : 0 ≤ a / (u * 64) * u := Int.mul_nonneg p1 (by omega)
    have m4 : a / (u * 64) * (u * 64) = a / (u * 64) * u * 64 := by rw [Int.mul_assoc]
    have hlt : a < a / (u * 64) * (u * 64) + u * 64 := by
      have h1 := Int.lt_ediv_add_one_mul_self a (show 0 < u * 64 by omega)
      rw [Int.add_mul, Int.one_mul] at h1
      exact h1
    have eM : min (min (limA a + 1) ((a / (u * 64) + 1) * u * 64) - 1) high = min (min high (limA a)) ((a / (u * 64) + 1) * u * 64 - 1) := by omega
    rw [if_pos c, if_pos c, w64 (x := u * 64) (by omega) (by omega), if_neg (by omega), if_neg (by omega), tdiv_pos (b := u * 64) (by omega), w64 (x := a / (u * 64)) (by omega) (by omega), w64 (x := a / (u * 64) + 1) (by omega) (by omega), w64 (x := (a / (u * 64) + 1) * u) (by omega) (by omega), w64 (x := (a / (u * 64) + 1) * u * 64) (by omega) (by omega), mn_min (limA a + 1), w64 (x := min (limA a + 1) ((a / (u * 64) + 1) * u * 64) - 1) (by omega) (by omega), mn_min, eM]
    have hx : a ≤ min (min high (limA a)) ((a / (u * 64) + 1) * u * 64 - 1) ∧ min (min high (limA a)) ((a / (u * 64) + 1) * u * 64 - 1) ≤ 1114111 := by omega
    generalize min (min high (limA a)) ((a / (u * 64) + 1) * u * 64 - 1) = x at hx ⊢
    obtain ⟨q1, q2, q3, q4⟩ := divmul (x := x - a + 1) (u := u) (by omega) hu.1
    rw [w64 (x := x - a) (by omega) (by omega), w64 (x := x - a + 1) (by omega) (by omega), tdiv_pos (b := u) (by omega), w64 (x := (x - a + 1) / u) (by omega) (by omega), w64 (x := (x - a + 1) / u * u) (by omega) (by omega), w64 (x := a + (x - a + 1) / u * u) (by omega) (by omega), w64 (x := a + (x - a + 1) / u * u - 1) (by omega) (by omega), mx_max]
    by_cases n : (x - a + 1) / u > 0
    · rw [if_pos n, divshift (x := x) hu.1 hz]
    · rw [if_neg n, newBest hu.1 hz hb.1 hx.1 n]
  · rw [if_neg c, if_neg c, if_neg (by omega), w64 (x := u * 64) (by omega) (by omega), w64 (x := limA a + 1 - 1) (by omega) (by omega), mn_min, show limA a + 1 - 1 = limA a by omega, Int.min_comm (limA a) high]
    have hx : a ≤ min high (limA a) ∧ min high (limA a) ≤ 1114111 := by omega
    generalize min high (limA a) = x at hx ⊢
    obtain ⟨q1, q2, q3, q4⟩ := divmul (x := x - a + 1) (u := u) (by omega) hu.1
    rw [w64 (x := x - a) (by omega) (by omega), w64 (x := x - a + 1) (by omega) (by omega), tdiv_pos (b := u) (by omega), w64 (x := (x - a + 1) / u) (by omega) (by omega), w64 (x := (x - a + 1) / u * u) (by omega) (by omega), w64 (x := a + (x - a + 1) / u * u) (by omega) (by omega), w64 (x := a + (x - a + 1) / u * u - 1) (by omega) (by omega), mx_max]
    by_cases n : (x - a + 1) / u > 0
    · rw [if_pos n, divshift (x := x) hu.1 hz]
    · rw [if_neg n, newBest hu.1 hz hb.1 hx.1 n]
theorem sEnds (a high : Int) (ha : isLetterM a) (hh : a ≤ high ∧ high ≤ 1114111) : ∀ (k F : Nat) (u best : Int), k ≤ 3 → 0 < u → u * 64 ^ k ≤ 262144 → a ≤ best → best ≤ min high (limA a) →
    spec_l2Ends.l1 (F + 6 * (k + 1) + 1) a high best (u * 64 ^ k) u = some (endsM a (min high (limA a)) k u best)
  | k, F, u, best, hk, hu, h, hb, hb2 => by
    have hl := limA_rng ha
    have h1 := ha.1
    have hp : (0 : Int) < 64 ^ k := Int.pow_pos (by decide)
    have hm : u * 1 ≤ u * 64 ^ k := Int.mul_le_mul_of_nonneg_left hp (by omega)
    rw [spec_l2Ends.l1, if_pos (by omega), if_neg (by omega), tmod_pos (by omega)]
    by_cases c : a % u = 0
    · rw [if_pos c, show F + 6 * (k + 1) = (F + 6 * k + 1) + 5 by omega, sTop _ a high best _ u h1]
      cases k with
      | zero =>
        rw [sE_end a high best u _ (F + 6 * 0 + 1) ha hh ⟨hu, by omega⟩ (fun g => by simp at g) ⟨hb, by omega⟩ c, if_neg (by simp), spec_l2Ends.l1, if_neg (by rw [Int.pow_zero]; omega)]
        simp only [endsM]
        rw [if_pos c]
      | succ k =>
        have hp2 : (0 : Int) < 64 ^ k := Int.pow_pos (by decide)
        have hpe : u * 64 ^ (k + 1) = u * 64 * 64 ^ k := by rw [Int.pow_succ', Int.mul_assoc]
        have hm2 : u * 64 * 1 ≤ u * 64 * 64 ^ k := Int.mul_le_mul_of_nonneg_left hp2 (by omega)
        rw [hpe] at h ⊢
        have q := Int.ediv_mul_le (min (min high (limA a)) ((a / (u * 64) + 1) * u * 64 - 1) + 1) (show u ≠ 0 by omega)
        rw [sE_end a high best u _ (F + 6 * (k + 1) + 1) ha hh ⟨hu, by omega⟩ (fun g => by omega) ⟨hb, by omega⟩ c, if_pos (by omega)]
        rw [sEnds a high ha hh k F (u * 64) _ (by omega) (by omega) h (by omega) (by omega)]
        simp only [endsM]
        rw [if_pos c]
    · rw [if_neg c]
      cases k with
      | zero => simp only [endsM]; rw [if_neg c]
      | succ k => simp only [endsM]; rw [if_neg c]
theorem lbM_len {a : Int} (h : isLetterM a) : (strOfNums (lbM a)).size = nbA a + 1 := by
  have h1 := h.1
  have : (lbM a).length = nbA a + 1 := by
    unfold lbM nbA
    split <;> (try split) <;> (try split) <;> rfl
  rw [← this]
  simp [strOfNums, ByteArray.size]
theorem sEvenTo (a high : Int) (ha : isLetterM a) (hh : a ≤ high ∧ high ≤ 1114111) (k : Nat) (hk : 60 ≤ k) : spec_l2Ends.f k a high = some (endsM a (min high (limA a)) (nbA a) 1 a) := by
  have hl := limA_rng ha
  have hn := nbA_le a
  have hz := lbM_len ha
  have st : ∀ (k : Nat) (x i : Int), 20 ≤ k → spec_l2Ends.l0 (k + 1) a high a x i = if i < ((nbA a + 1 : Nat) : Int) then spec_l2Ends.l0 k a high a (wrap64 (x * 64)) (wrap64 (i + 1)) else spec_l2Ends.l1 k a high a x 1 := by
    intro k x i hk
    rw [spec_l2Ends.l0, sLetterBytes a k (by omega), Option.bind_some, if_pos ha, hz]
  have e1 := sEnds a high ha hh (nbA a)
  have w1 : wrap64 (1 * 64) = 64 := by simp [wrap64]
  have w2 : wrap64 (64 * 64) = 4096 := by simp [wrap64]
  have w3 : wrap64 (4096 * 64) = 262144 := by simp [wrap64]
  have v1 : wrap64 (1 + 1) = 2 := by simp [wrap64]
  have v2 : wrap64 (2 + 1) = 3 := by simp [wrap64]
  have v3 : wrap64 (3 + 1) = 4 := by simp [wrap64]
  unfold spec_l2Ends.f
  obtain ⟨F, rfl⟩ : ∃ F, k = F + 32 := ⟨k - 32, by omega⟩
  have : nbA a = 0 ∨ nbA a = 1 ∨ nbA a = 2 ∨ nbA a = 3 := by omega
  rcases this with e | e | e | e
  · rw [e] at e1 st ⊢
    rw [st _ _ _ (by omega), if_neg (by decide)]
    exact e1 (F + 24) 1 a (by omega) (by decide) (by decide) (by omega) (by omega)
  · rw [e] at e1 st ⊢
    rw [st _ _ _ (by omega), if_pos (by decide), w1, v1, st _ _ _ (by omega), if_neg (by decide)]
    exact e1 (F + 17) 1 a (by omega) (by decide) (by decide) (by omega) (by omega)
  · rw [e] at e1 st ⊢
    rw [st _ _ _ (by omega), if_pos (by decide), w1, v1, st _ _ _ (by omega), if_pos (by decide), w2, v2, st _ _ _ (by omega), if_neg (by decide)]
    exact e1 (F + 10) 1 a (by omega) (by decide) (by decide) (by omega) (by omega)
  · rw [e] at e1 st ⊢
    rw [st _ _ _ (by omega), if_pos (by decide), w1, v1, st _ _ _ (by omega), if_pos (by decide), w2, v2, st _ _ _ (by omega), if_pos (by decide), w3, v3, st _ _ _ (by omega), if_neg (by decide)]
    exact e1 (F + 3) 1 a (by omega) (by decide) (by decide) (by omega) (by omega)
/-- the row of two letters of as many bytes, from the i-th byte on -/
def rowM (x y : ByteArray) : Nat → Nat → List S148
  | 0, _ => []
  | d + 1, i => ⟨bt x (i : Int), bt y (i : Int)⟩ :: rowM x y d (i + 1)
theorem rowM_len (x y : ByteArray) : ∀ d i, (rowM x y d i).length = d
  | 0, _ => rfl
  | d + 1, i => by simp only [rowM, List.length_cons, rowM_len x y d (i + 1)]
theorem iRow_l (x y : ByteArray) (n : Nat) (hn : n ≤ 8) (hx : x.size = n) (hy : y.size = n) : ∀ (d k i : Nat) (o : List S148), n - i = d → i ≤ n → d < k → o.length ≤ i → impl_rowOf.l0 k x y o (n : Int) (i : Int) = some (o ++ rowM x y d i)
  | 0, k, i, o, hd, hi, hk, ho => by
    obtain ⟨k, rfl⟩ : ∃ m, k = m + 1 := ⟨k - 1, by omega⟩
    rw [impl_rowOf.l0, if_neg (by omega)]
    simp [rowM]
  | d + 1, k, i, o, hd, hi, hk, ho => by
    obtain ⟨k, rfl⟩ : ∃ m, k = m + 1 := ⟨k - 1, by omega⟩
    have b1 := bt_lo x (i : Int)
    have b2 := bt_hi x (i : Int)
    have b3 := bt_lo y (i : Int)
    have b4 := bt_hi y (i : Int)
    rw [impl_rowOf.l0, if_pos (by omega), if_pos (by omega), if_pos (by omega), if_pos (by omega), if_pos (by omega), nat_next (by omega), w64 (x := bt x (i : Int)) (by omega) (by omega), w64 (x := bt y (i : Int)) (by omega) (by omega), iRow_l x y n hn hx hy d k (i + 1) _ (by omega) (by omega) (by omega) (by simp; omega)]
    simp [rowM]
theorem sRow_l (x y : ByteArray) (n : Nat) (hn : n ≤ 8) (hx : x.size = n) (hy : y.size = n) (high b : Int) (out : List (List S148)) : ∀ (d k i : Nat) (o : List S148), n - i = d → i ≤ n → o.length ≤ i → spec_LetterSpans.l1 (k + d) high out b x y o (i : Int) = spec_LetterSpans.l1 k high out b x y (o ++ rowM x y d i) (n : Int)
  | 0, k, i, o, hd, hi, ho => by
    obtain rfl : i = n := by omega
    simp [rowM]
  | d + 1, k, i, o, hd, hi, ho => by
    have b1 := bt_lo x (i : Int)
    have b2 := bt_hi x (i : Int)
    have b3 := bt_lo y (i : Int)
    have b4 := bt_hi y (i : Int)
    rw [show k + (d + 1) = (k + d) + 1 by omega, spec_LetterSpans.l1, if_pos (by omega), if_pos (by omega), if_pos (by omega), if_pos (by omega), nat_next (by omega), w64 (x := bt x (i : Int)) (by omega) (by omega), w64 (x := bt y (i : Int)) (by omega) (by omega), sRow_l x y n hn hx hy high b out d k (i + 1) _ (by omega) (by omega) (by simp; omega)]
    simp [rowM]
/-- where the next row begins -/
def nextA (b : Int) : Int := if b + 1 = 55296 then 57344 else b + 1
theorem spans_l (high : Int) (hh : isLetterM high) : ∀ (d : Nat) (a : Int) (k k' : Nat) (out : List (List S148)), (high + 1 - a ≤ d) → (a ≤ high → isLetterM a) → 200 + 10 * d < k → 200 + 10 * d < k' → (out.length : Int) ≤ a → (∀ row ∈ out, row.length ≤ 4) → a ≤ 1114112 →
    ∃ r, spec_LetterSpans.l0 k high out a = some (r, true) ∧ impl_LetterSpans.l0 k' high out a = some (r, true) ∧ r.length ≤ 1114112 ∧ ∀ row ∈ r, row.length ≤ 4 := by
  have h1 := hh.1
  intro d
  induction d with
  | zero =>
    intro a k k' out hd ha hk hk' ho hr hA
    obtain ⟨k, rfl⟩ : ∃ m, k = m + 1 := ⟨k - 1, by omega⟩
    obtain ⟨k', rfl⟩ : ∃ m, k' = m + 1 := ⟨k' - 1, by omega⟩
    exact ⟨out, by rw [spec_LetterSpans.l0, if_neg (by omega)], by rw [impl_LetterSpans.l0, if_neg (by omega)], by omega, hr⟩
  | succ d ih =>
    intro a k k' out hd ha hk hk' ho hr hA
    obtain ⟨k', rfl⟩ : ∃ m, k' = m + 1 := ⟨k' - 1, by omega⟩
    by_cases c : a ≤ high
    · have la := ha c
      have hl := limA_rng la
      have hn := nbA_le a
      have hb := endsM_rng a (min high (limA a)) (nbA a) 1 a (by decide) (by omega) (by omega)
      have la1 := la.1
      have la2 := la.2
      have eS := sEvenTo a high la ⟨c, by omega⟩
      have eI := iEvenTo a high la c
      generalize endsM a (min high (limA a)) (nbA a) 1 a = b at hb eS eI
      have lb : isLetterM b ∧ nbA b = nbA a := by
        unfold isLetterM limA nbA at *
        constructor
        · repeat' split at hb
          all_goals omega
        · repeat' split at hb
          all_goals (repeat' split)
          all_goals omega
      have hx := lbM_len la
      have hy := lbM_len lb.1
      rw [lb.2] at hy
      obtain ⟨k, rfl⟩ : ∃ m, k = m + 1 + (nbA a + 1) + 1 := ⟨k - (nbA a + 3), by omega⟩
      have hrow := rowM_len (strOfNums (lbM a)) (strOfNums (lbM b)) (nbA a + 1) 0
      have e1 : spec_LetterSpans.l0 (k + 1 + (nbA a + 1) + 1) high out a = spec_LetterSpans.l0 k high (out ++ [rowM (strOfNums (lbM a)) (strOfNums (lbM b)) (nbA a + 1) 0]) (nextA b) := by
        have q := sRow_l (strOfNums (lbM a)) (strOfNums (lbM b)) (nbA a + 1) (by omega) hx hy high b out (nbA a + 1) (k + 1) 0 [] (by omega) (by omega) (by simp)
        rw [spec_LetterSpans.l0, if_pos c, eS _ (by omega), Option.bind_some, sLetterBytes a _ (by omega), Option.bind_some, if_pos la, sLetterBytes b _ (by omega), Option.bind_some, if_pos lb.1]
        refine q.trans ?_
        rw [spec_LetterSpans.l1, if_neg (by omega), if_pos (by omega), Option.bind_some, w64 (x := b + 1) (by omega) (by omega), List.nil_append]
        unfold nextA
        split <;> rfl
      have e2 : impl_LetterSpans.l0 (k' + 1) high out a = impl_LetterSpans.l0 k' high (out ++ [rowM (strOfNums (lbM a)) (strOfNums (lbM b)) (nbA a + 1) 0]) (nextA b) := by
        have q := iRow_l (strOfNums (lbM a)) (strOfNums (lbM b)) (nbA a + 1) (by omega) hx hy (nbA a + 1) k' 0 [] (by omega) (by omega) (by omega) (by simp)
        rw [impl_LetterSpans.l0, if_pos c, eI _ (by omega), Option.bind_some, impl_rowOf.f, iLetterBytes0 a la.1 _ (by omega), Option.bind_some, iLetterBytes0 b lb.1.1 _ (by omega), Option.bind_some, hx]
        have q' : impl_rowOf.l0 k' (strOfNums (lbM a)) (strOfNums (lbM b)) [] ((nbA a + 1 : Nat) : Int) 0 = _ := q
        rw [q', Option.bind_some, List.nil_append, if_pos (by omega), Option.bind_some, w64 (x := b + 1) (by omega) (by omega)]
        unfold nextA
        split <;> rfl
      rw [e1, e2]
      have lb2 := lb.1.2
      refine ih (nextA b) k k' _ ?_ ?_ (by omega) (by omega) ?_ ?_ ?_
      · unfold nextA; split <;> omega
      · intro hc
        unfold nextA at hc ⊢
        unfold isLetterM at hh ⊢
        split at hc <;> rename_i hq <;> simp only [hq, if_true, if_false] <;> omega
      · rw [List.length_append, List.length_singleton]
        unfold nextA; split <;> omega
      · intro row hrw
        rw [List.mem_append, List.mem_singleton] at hrw
        rcases hrw with h | rfl
        · exact hr row h
        · omega
      · unfold nextA; split <;> omega
    · obtain ⟨k, rfl⟩ : ∃ m, k = m + 1 := ⟨k - 1, by omega⟩
      exact ⟨out, by rw [spec_LetterSpans.l0, if_neg c], by rw [impl_LetterSpans.l0, if_neg c], by omega, hr⟩
def markedC (c : Int) (y : List S148) (i : Nat) : Prop := ∀ j : Nat, j < i → rd_T148 y (j : Int) = ⟨c + 2 * (j : Int), c + 1 + 2 * (j : Int)⟩
theorem markC_l (n : Nat) (hn : n ≤ 1000000) (c : Int) (c0 : 0 ≤ c ∧ c ≤ 1000000000) (d : Nat) : ∀ (k : Nat) (x : List S148) (i : Nat), d < k → n - i = d → i ≤ n → x.length = n → markedC c x i →
    ∃ y, laws_markSpanS.l0 k x (c + 2 * (i : Int)) (i : Int) = some (c + 2 * (n : Int), y) ∧ y.length = n ∧ markedC c y n := by
  induction d with
  | zero =>
    intro k x i hk hd hi hx hm
    obtain ⟨k, rfl⟩ : ∃ m, k = m + 1 := ⟨k - 1, by omega⟩
    obtain rfl : i = n := by omega
    simp only [laws_markSpanS.l0]
    rw [if_neg (by omega)]
    exact ⟨x, rfl, hx, hm⟩
  | succ d ih =>
    intro k x i hk hd hi hx hm
    obtain ⟨k, rfl⟩ : ∃ m, k = m + 1 := ⟨k - 1, by omega⟩
    simp only [laws_markSpanS.l0, Option.bind_some, Int.toNat_natCast]
    rw [if_pos (by omega), if_pos (by omega), nat_next (by omega), rdT_set x i _ (by omega), w64 (x := c + 2 * (i : Int) + 1) (by omega) (by omega), w64 (by omega) (by omega), show c + 2 * (i : Int) + 1 + 1 = c + 2 * ((i + 1 : Nat) : Int) by omega]
    refine ih k _ (i + 1) (by omega) (by omega) (by omega) (by simpa using hx) (fun j hj => ?_)
    by_cases e : i = j
    · subst e
      rw [rdT_set _ _ _ (by simp; omega), show c + 2 * (i : Int) + 1 = c + 1 + 2 * (i : Int) by omega]
    · rw [rdT_other _ _ _ _ e, rdT_other _ _ _ _ e]
      exact hm j (by omega)
theorem heldC_l (y : List S148) (n : Nat) (hn : n ≤ 1000000) (c : Int) (c0 : 0 ≤ c ∧ c ≤ 1000000000) (hy : y.length = n) (hm : markedC c y n) (d : Nat) : ∀ (k : Nat) (i : Nat), d < k → n - i = d → i ≤ n →
    laws_heldSpanS.l0 k y (c + 2 * (i : Int)) (i : Int) = some (c + 2 * (n : Int)) := by
  induction d with
  | zero =>
    intro k i hk hd hi
    obtain ⟨k, rfl⟩ : ∃ m, k = m + 1 := ⟨k - 1, by omega⟩
    obtain rfl : i = n := by omega
    simp only [laws_heldSpanS.l0]
    rw [if_neg (by omega)]
  | succ d ih =>
    intro k i hk hd hi
    obtain ⟨k, rfl⟩ : ∃ m, k = m + 1 := ⟨k - 1, by omega⟩
    simp only [laws_heldSpanS.l0]
    rw [if_pos (by omega), if_pos (by omega), hm i (by omega), if_pos rfl, w64 (x := c + 2 * (i : Int) + 1) (by omega) (by omega), if_pos (by simp only; omega), nat_next (by omega), w64 (by omega) (by omega), show c + 2 * (i : Int) + 1 + 1 = c + 2 * ((i + 1 : Nat) : Int) by omega]
    exact ih k (i + 1) (by omega) (by omega) (by omega)
def offS (x : List (List S148)) : Nat → Int
  | 0 => 1
  | i + 1 => offS x i + 2 * ((x.getD i []).length : Int)
theorem row4 {x : List (List S148)} (h : ∀ row ∈ x, row.length ≤ 4) (i : Nat) : (x.getD i []).length ≤ 4 := by
  rw [List.getD_eq_getElem?_getD]
  by_cases hi : i < x.length
  · rw [List.getElem?_eq_getElem hi]; exact h _ (List.getElem_mem hi)
  · rw [List.getElem?_eq_none (by omega)]; simp
theorem offS_rng {x : List (List S148)} (h : ∀ row ∈ x, row.length ≤ 4) : ∀ i, 1 ≤ offS x i ∧ offS x i ≤ 1 + 8 * (i : Int)
  | 0 => by simp [offS]
  | i + 1 => by have := offS_rng h i; have := row4 h i; simp only [offS]; omega
theorem getD_set_r (l : List (List S148)) (a : Nat) (v : List S148) (j : Nat) (h : a < l.length) : (l.set a v).getD j [] = if a = j then v else l.getD j [] := by
  rw [List.getD_eq_getElem?_getD, List.getD_eq_getElem?_getD, List.getElem?_set]
  by_cases e : a = j
  · subst e; simp [h]
  · simp [e]
theorem markSS_l (x : List (List S148)) (hx : x.length ≤ 2000000) (h4 : ∀ row ∈ x, row.length ≤ 4) (d : Nat) : ∀ (k i : Nat) (y : List (List S148)), d + 10 < k → x.length - i = d → i ≤ x.length → y.length = x.length → (∀ j, (y.getD j []).length = (x.getD j []).length) → (∀ j, j < i → markedC (offS x j) (y.getD j []) (x.getD j []).length) →
    ∃ y', laws_markSpanSS.l0 k y (offS x i) (i : Int) = some (offS x x.length, y') ∧ y'.length = x.length ∧ (∀ j, (y'.getD j []).length = (x.getD j []).length) ∧ (∀ j, j < x.length → markedC (offS x j) (y'.getD j []) (x.getD j []).length) := by
  induction d with
  | zero =>
    intro k i y hk hd hi hy hl hm
    obtain ⟨k, rfl⟩ : ∃ m, k = m + 1 := ⟨k - 1, by omega⟩
    obtain rfl : i = x.length := by omega
    exact ⟨y, by rw [laws_markSpanSS.l0, if_neg (by omega)], hy, hl, hm⟩
  | succ d ih =>
    intro k i y hk hd hi hy hl hm
    obtain ⟨k, rfl⟩ : ∃ m, k = m + 1 := ⟨k - 1, by omega⟩
    have o := offS_rng h4 i
    have r4 := row4 h4 i
    obtain ⟨z, e, z1, z2⟩ := markC_l (y.getD i []).length (by rw [hl]; omega) (offS x i) (by omega) (y.getD i []).length k (y.getD i []) 0 (by rw [hl]; omega) (by omega) (by omega) rfl (fun j hj => by omega)
    have e' : laws_markSpanS.f k (y.getD i []) (offS x i) = some (offS x (i + 1), z) := by
      unfold laws_markSpanS.f
      rw [show offS x i + 2 * ((0 : Nat) : Int) = offS x i by omega, hl] at e
      exact e
    rw [laws_markSpanSS.l0, if_pos (by omega), if_pos (by omega), Int.toNat_natCast, e', Option.bind_some, nat_next (by omega)]
    refine ih k (i + 1) (y.set i z) (by omega) (by omega) (by omega) (by rw [List.length_set]; exact hy) (fun j => ?_) (fun j hj => ?_)
    · rw [getD_set_r _ _ _ _ (by omega)]
      split
      · rename_i q; subst q; rw [z1, hl]
      · exact hl j
    · rw [getD_set_r _ _ _ _ (by omega)]
      split
      · rename_i q; subst q; rw [← hl]; exact z2
      · exact hm j (by omega)
theorem rdL3 (y : List (List S148)) (i : Nat) : rd_L3 y (i : Int) = y.getD i [] := by
  unfold rd_L3
  rw [Int.toNat_natCast]
theorem heldSS_l (x y : List (List S148)) (hx : x.length ≤ 2000000) (h4 : ∀ row ∈ x, row.length ≤ 4) (hy : y.length = x.length) (hl : ∀ j, (y.getD j []).length = (x.getD j []).length) (hm : ∀ j, j < x.length → markedC (offS x j) (y.getD j []) (x.getD j []).length) (d : Nat) : ∀ (k i : Nat), d + 10 < k → x.length - i = d → i ≤ x.length →
    laws_heldSpanSS.l0 k y (offS x i) (i : Int) = some (offS x x.length) := by
  induction d with
  | zero =>
    intro k i hk hd hi
    obtain ⟨k, rfl⟩ : ∃ m, k = m + 1 := ⟨k - 1, by omega⟩
    obtain rfl : i = x.length := by omega
    rw [laws_heldSpanSS.l0, if_neg (by omega)]
  | succ d ih =>
    intro k i hk hd hi
    obtain ⟨k, rfl⟩ : ∃ m, k = m + 1 := ⟨k - 1, by omega⟩
    have o := offS_rng h4 i
    have o2 := offS_rng h4 (i + 1)
    have r4 := row4 h4 i
    have e := heldC_l (y.getD i []) (x.getD i []).length (by omega) (offS x i) (by omega) (hl i) (hm i (by omega)) (x.getD i []).length k 0 (by omega) (by omega) (by omega)
    have e' : laws_heldSpanS.f k (y.getD i []) (offS x i) = some (offS x (i + 1)) := by
      unfold laws_heldSpanS.f
      rw [show offS x i + 2 * ((0 : Nat) : Int) = offS x i by omega] at e
      exact e
    rw [laws_heldSpanSS.l0, if_pos (by omega), if_pos (by omega), rdL3, e', Option.bind_some, if_neg (by omega), nat_next (by omega)]
    exact ih k (i + 1) (by omega) (by omega) (by omega)
theorem eqSS_l (x : List (List S148)) (hx : x.length ≤ 2000000) (h4 : ∀ row ∈ x, row.length ≤ 4) (d : Nat) : ∀ (k i : Nat), d + 10 < k → x.length - i = d → i ≤ x.length → laws_eqSpanSS.l0 k x x (i : Int) = some true := by
  induction d with
  | zero =>
    intro k i hk hd hi
    obtain ⟨k, rfl⟩ : ∃ m, k = m + 1 := ⟨k - 1, by omega⟩
    rw [laws_eqSpanSS.l0, if_neg (by omega)]
  | succ d ih =>
    intro k i hk hd hi
    obtain ⟨k, rfl⟩ : ∃ m, k = m + 1 := ⟨k - 1, by omega⟩
    have r4 := row4 h4 i
    rw [laws_eqSpanSS.l0, if_pos (by omega), if_pos (by omega), if_pos (by omega), rdL3, eqSpanS_same _ (by omega) k (by omega), Option.bind_some, if_pos rfl, nat_next (by omega)]
    exact ih k (i + 1) (by omega) (by omega) (by omega)
theorem spans_same (a0 a1 : Int) (k : Nat) (hk : 20000000 ≤ k) : ∃ r b, spec_LetterSpans.f k a0 a1 = some (r, b) ∧ impl_LetterSpans.f k a0 a1 = some (r, b) ∧ r.length ≤ 1114112 ∧ ∀ row ∈ r, row.length ≤ 4 := by
  obtain ⟨k, rfl⟩ : ∃ m, k = m + 1 := ⟨k - 1, by omega⟩
  unfold spec_LetterSpans.f impl_LetterSpans.f
  rw [Option.bind_some, sLetter, iLetter, Option.bind_some, Option.bind_some]
  have no : ∃ r b, spec_LetterSpans.j0 (k + 1) a0 a1 [] true = some (r, b) ∧ impl_LetterSpans.j0 (k + 1) a0 a1 true = some (r, b) ∧ r.length ≤ 1114112 ∧ ∀ row ∈ r, row.length ≤ 4 :=
    ⟨[], false, by rw [spec_LetterSpans.j0, if_pos rfl], by rw [impl_LetterSpans.j0, if_pos rfl], by simp, fun row h => by simp at h⟩
  by_cases c1 : isLetterM a0
  · rw [decide_eq_true c1, if_pos rfl, if_pos rfl, sLetter, iLetter, Option.bind_some, Option.bind_some]
    by_cases c2 : isLetterM a1
    · rw [decide_eq_true c2, if_pos rfl, if_pos rfl]
      by_cases c3 : a0 > a1
      · rw [decide_eq_true c3]; exact no
      · rw [decide_eq_false c3]
        have h0 := c1.1
        have h1 := c2.1
        obtain ⟨r, e1, e2, e3, e4⟩ := spans_l a1 c2 1200000 a0 k k [] (by omega) (fun _ => c1) (by omega) (by omega) (by simp; omega) (fun row h => by simp at h) (by omega)
        exact ⟨r, true, by rw [spec_LetterSpans.j0, if_neg (by decide)]; exact e1, by rw [impl_LetterSpans.j0, if_neg (by decide)]; exact e2, e3, e4⟩
    · rw [decide_eq_false c2, if_neg (by decide), if_neg (by decide)]; exact no
  · rw [decide_eq_false c1, if_neg (by decide), if_neg (by decide)]; exact no
theorem FnExactLetterSpans (a0 : Int) (_ : (Lit.int .i64 a0).wf = true) (a1 : Int) (_ : (Lit.int .i64 a1).wf = true) : ∃ k, laws_FnExactLetterSpans.f k a0 a1 = some true := by
  suffices ∀ k, 20000000 ≤ k → laws_FnExactLetterSpans.f k a0 a1 = some true from ⟨20000000, this _ (Nat.le_refl _)⟩
  intro k hk
  unfold laws_FnExactLetterSpans.f
  rw [if_pos]
  obtain ⟨r, b, e1, e2, e3, e4⟩ := spans_same a0 a1 k hk
  obtain ⟨y, m1, m2, m3, m4⟩ := markSS_l r (by omega) e4 r.length k 0 r (by omega) (by omega) (by omega) rfl (fun _ => rfl) (fun j hj => by omega)
  have hh := heldSS_l r y (by omega) e4 m2 m3 m4 r.length k 0 (by omega) (by omega) (by omega)
  refine ⟨r, b, offS r r.length, y, e1, e2, ?_, m1, hh, by have := offS_rng e4 r.length; omega⟩
  unfold laws_eqSpanSS.f
  rw [if_pos rfl]
  exact eqSS_l r (by omega) e4 r.length k 0 (by omega) (by omega) (by omega)
end Go.Proofs.Ytabpfejdppfcdaa.Pure
