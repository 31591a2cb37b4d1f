/- Rows have just the letters that they are asked for, each in one row: whatever the codes. -/
import Derived.Test.YtaemhmgcjpcicaaPFnRowsx6
import Derived.Test.YtaemhmgcjpcicaaKit
import Derived.Test.YtaemhmgcjpcicaaKitUtf
import Derived.Test.YtaemhmgcjpcicaaKitNums
import Derived.Test.YtaemhmgcjpcicaaKitTot
namespace Go.Proofs.Ytaemhmgcjpcicaa.Pure
open Go.RowKit Go.Proofs.Ytaemhmgcjpcicaa.PFnRows Go.Proofs.YtaemhmgcjpcicaaW.PrintWords Go.Proofs.YtaemhmgcjpcicaaW.PrintLast Go.Proofs.YtaemhmgcjpcicaaW.PrintMore Go.Proofs.Ytaemhmgcjpcicaa.Kit
set_option linter.unusedVariables false
theorem sIn (a b c : Int) : spec_l1In.f a b c = some (decide (b ≤ a ∧ a ≤ c)) := by
  unfold spec_l1In.f
  by_cases h : a ≥ b
  · rw [if_pos h]; congr 1; simp; omega
  · rw [if_neg h]; congr 1; simp; omega
theorem iWithin (a b c : Int) : impl_within.f a b c = some (decide (b ≤ a ∧ a ≤ c)) := by
  unfold impl_within.f
  by_cases h : a ≥ b
  · rw [if_pos h]; congr 1; simp; omega
  · rw [if_neg h]; congr 1; simp; omega
theorem sLetter (n : Int) : spec_l2Letter.f n = some (decide (isLetterM n)) := by
  unfold spec_l2Letter.f isLetterM
  simp only [sIn, Option.bind_some]
  by_cases h : 0 ≤ n ∧ n ≤ 1114111
  · rw [if_pos (by simpa using h)]; congr 1; by_cases g1 : 55296 ≤ n <;> by_cases g2 : n ≤ 57343 <;> simp [h, g1, g2]
  · rw [if_neg (by simpa using h)]; simp [h]

theorem iLetter (n : Int) : impl_isLetter.f n = some (decide (isLetterM n)) := by
  unfold impl_isLetter.f isLetterM
  simp only [iWithin, Option.bind_some]
  by_cases h : 0 ≤ n ∧ n ≤ 1114111
  · rw [if_pos (by simpa using h)]; congr 1; by_cases g1 : 55296 ≤ n <;> by_cases g2 : n ≤ 57343 <;> simp [h, g1, g2]
  · rw [if_neg (by simpa using h)]; simp [h]

theorem sLetterBytes (n : Int) (k : Nat) (hk : 5 < k) : spec_LetterBytes.f k n = some (if isLetterM n then strOfNums (lbM n) else (⟨#[]⟩ : ByteArray)) := by
  obtain ⟨k, rfl⟩ : ∃ m, k = m + 6 := ⟨k - 6, by omega⟩
  unfold spec_LetterBytes.f
  simp only [sLetter, Option.bind_some, decide_eq_true_eq]
  by_cases h : isLetterM n
  · rw [if_pos h, if_pos h]
    unfold isLetterM at h
    unfold lbM
    by_cases h1 : n < 128
    · rw [if_pos h1, if_pos h1]
      congr 2; simp; omega
    · rw [if_neg h1, if_neg h1, tdiv_pos (by omega), tmod_pos (by omega), w64 (x := n / 64) (by omega) (by omega), w64 (x := 128 + n % 64) (by omega) (by omega)]
      have e1 : (128 + n % 64) % 256 = 128 + n % 64 := by omega
      rw [e1, spec_LetterBytes.l0]
      by_cases h2 : n < 2048
      · rw [if_pos h2, if_neg (by omega)]
        simp only [Option.bind_some]
        rw [if_pos (by simp), w64 (by omega) (by omega)]
        congr 2; simp; omega
      · rw [if_neg h2, if_pos (by omega)]
        simp only [Option.bind_some]
        have ea : wrap64 (Int.tdiv 32 2) = 16 := by simp [wrap64]
        have eb : wrap64 (128 + wrap64 (Int.tdiv 192 2)) = 224 := by simp [wrap64]
        have ec : wrap64 (Int.tdiv 16 2) = 8 := by simp [wrap64]
        have ed : wrap64 (128 + wrap64 (Int.tdiv 224 2)) = 240 := by simp [wrap64]
        rw [if_pos (by simp), ea, eb, tdiv_pos (by omega), tmod_pos (by omega), w64 (x := n / 64 / 64) (by omega) (by omega), w64 (x := 128 + n / 64 % 64) (by omega) (by omega), spec_LetterBytes.l0]
        by_cases h3 : n < 65536
        · rw [if_pos h3, if_neg (by omega)]
          simp only [Option.bind_some]
          rw [if_pos (by simp), w64 (by omega) (by omega)]
          congr 2; simp; omega
        · rw [if_neg h3, if_pos (by omega)]
          simp only [Option.bind_some]
          rw [if_pos (by simp), ec, ed, tdiv_pos (by omega), tmod_pos (by omega), w64 (x := n / 64 / 64 / 64) (by omega) (by omega), w64 (x := 128 + n / 64 / 64 % 64) (by omega) (by omega), spec_LetterBytes.l0]
          rw [if_neg (by omega)]
          simp only [Option.bind_some]
          rw [if_pos (by simp), w64 (by omega) (by omega)]
          congr 2; simp; omega
  · rw [if_neg h, if_neg h]

theorem iLetterBytes0 (n : Int) (hn : 0 ≤ n ∧ n ≤ 1114111) (k : Nat) (hk : 5 < k) : impl_letterBytes.f k n = some (strOfNums (lbM n)) := by
  obtain ⟨k, rfl⟩ : ∃ m, k = m + 6 := ⟨k - 6, by omega⟩
  unfold impl_letterBytes.f impl_bytesIn.f lbM
  have q1 : wrap64 (1 - 1) = 0 := by simp [wrap64]
  have q2 : wrap64 (2 - 1) = 1 := by simp [wrap64]
  have q3 : wrap64 (3 - 1) = 2 := by simp [wrap64]
  have q4 : wrap64 (4 - 1) = 3 := by simp [wrap64]
  by_cases h1 : n < 128
  · rw [if_pos h1, if_pos h1]
    simp only [Option.bind_some]
    rw [if_pos (by omega), if_pos (by decide), q1, impl_letterBytes.l0, if_neg (by omega)]
    simp only [Option.bind_some]
    rw [q1, if_pos (by omega), if_pos (by simp), if_pos (by simp)]
    congr 2; simp [rd]; omega
  · rw [if_neg h1, if_neg h1]
    by_cases h2 : n < 2048
    · rw [if_pos h2, if_pos h2]
      simp only [Option.bind_some]
      rw [if_pos (by omega), if_pos (by decide), q2, impl_letterBytes.l0, if_pos (by omega), if_pos (by omega), if_pos (by simp), tdiv_pos (by omega), tmod_pos (by omega), w64 (x := n / 64) (by omega) (by omega), q1, impl_letterBytes.l0, if_neg (by omega)]
      simp only [Option.bind_some]
      rw [q2, if_pos (by omega), if_pos (by simp), if_pos (by simp)]
      congr 2; simp [rd, List.replicate]; omega
    · rw [if_neg h2, if_neg h2]
      by_cases h3 : n < 65536
      · rw [if_pos h3, if_pos h3]
        simp only [Option.bind_some]
        rw [if_pos (by omega), if_pos (by decide), q3, impl_letterBytes.l0, if_pos (by omega), if_pos (by omega), if_pos (by simp), tdiv_pos (by omega), tmod_pos (by omega), w64 (x := n / 64) (by omega) (by omega), q2,
          impl_letterBytes.l0, if_pos (by omega), if_pos (by omega), if_pos (by simp), tdiv_pos (by omega), tmod_pos (by omega), w64 (x := n / 64 / 64) (by omega) (by omega), q1, impl_letterBytes.l0, if_neg (by omega)]
        simp only [Option.bind_some]
        rw [q3, if_pos (by omega), if_pos (by simp), if_pos (by simp)]
        congr 2; simp [rd, List.replicate]; omega
      · rw [if_neg h3, if_neg h3]
        simp only [Option.bind_some]
        rw [if_pos (by omega), if_pos (by decide), q4, impl_letterBytes.l0, if_pos (by omega), if_pos (by omega), if_pos (by simp), tdiv_pos (by omega), tmod_pos (by omega), w64 (x := n / 64) (by omega) (by omega), q3,
          impl_letterBytes.l0, if_pos (by omega), if_pos (by omega), if_pos (by simp), tdiv_pos (by omega), tmod_pos (by omega), w64 (x := n / 64 / 64) (by omega) (by omega), q2,
          impl_letterBytes.l0, if_pos (by omega), if_pos (by omega), if_pos (by simp), tdiv_pos (by omega), tmod_pos (by omega), w64 (x := n / 64 / 64 / 64) (by omega) (by omega), q1, impl_letterBytes.l0, if_neg (by omega)]
        simp only [Option.bind_some]
        rw [q4, if_pos (by omega), if_pos (by simp), if_pos (by simp)]
        congr 2; simp [rd, List.replicate]; omega
theorem next_ok {b : List Int} {p : Int} (hb : Bytes b) (hp : At b p) : Tot (spec_l1Rd_next.f b p) (fun r => 0 ≤ r.1 ∧ r.1 ≤ 255 ∧ At b r.2) := by
  have hl := hb.len
  have h0 := hp.1
  have h1 := hp.2
  unfold spec_l1Rd_next.f
  by_cases h : p ≥ (b.length : Int)
  · rw [if_pos h]
    exact Tot.pure ⟨by simp, by simp, hp⟩
  · rw [if_neg h]
    have e : wrap64 (wrap64 (p + 1) - 1) = p := by
      rw [w64 (x := p + 1) (by omega) (by omega), w64 (by omega) (by omega)]
      omega
    rw [e, if_pos h0, if_pos (by omega)]
    have := hb.lo p
    have := hb.hi p
    rw [w64 (x := rd b p) (by omega) (by omega), w64 (x := p + 1) (by omega) (by omega)]
    exact Tot.pure ⟨hb.lo p, hb.hi p, by simp only; omega, by simp only; omega⟩
theorem below_ok {b : List Int} {p : Int} (n : Int) (hb : Bytes b) (hp : At b p) : Tot (spec_l1Rd_below.f b p n) (fun r => 0 ≤ r.1 ∧ (r.1 < n ∨ r.1 = 0) ∧ At b r.2) := by
  unfold spec_l1Rd_below.f
  by_cases h : n ≤ 1
  · rw [if_pos h]
    exact Tot.pure ⟨by simp, by simp, hp⟩
  · rw [if_neg h]
    by_cases h2 : n ≤ 256
    · rw [if_pos h2]
      refine (next_ok hb hp).bind fun v hv => ?_
      rw [if_neg (by omega)]
      obtain ⟨v0, v1, v2⟩ := hv
      have := Int.emod_nonneg v.1 (show n ≠ 0 by omega)
      have := Int.emod_lt_of_pos v.1 (show 0 < n by omega)
      exact Tot.pure ⟨by rw [tmod_pos v0]; omega, by rw [tmod_pos v0]; omega, v2⟩
    · rw [if_neg h2]
      refine (next_ok hb hp).bind fun v hv => ?_
      obtain ⟨v0, v1, v2⟩ := hv
      refine (next_ok hb v2).bind fun u hu => ?_
      obtain ⟨u0, u1, u2⟩ := hu
      rw [if_neg (by omega), w64 (x := v.1 * 256) (by omega) (by omega), w64 (x := v.1 * 256 + u.1) (by omega) (by omega)]
      have := Int.emod_nonneg (v.1 * 256 + u.1) (show n ≠ 0 by omega)
      have := Int.emod_lt_of_pos (v.1 * 256 + u.1) (show 0 < n by omega)
      exact Tot.pure ⟨by rw [tmod_pos (by omega)]; omega, by rw [tmod_pos (by omega)]; omega, u2⟩
theorem once_ok {b : List Int} {p : Int} (n : Int) (hb : Bytes b) (hp : At b p) : Tot (spec_l1Rd_once.f b p n) (fun r => At b r.2) := by
  unfold spec_l1Rd_once.f
  refine (below_ok n hb hp).bind fun v hv => ?_
  exact Tot.pure hv.2.2
theorem word_l {b : List Int} (hb : Bytes b) (d : Nat) : ∀ (k : Nat) (x i p : Int), d < k → 0 ≤ i → 8 - i = d → At b p → Tot (spec_l1Rd_word.l0 k x i b p) (fun r => At b r.2) := by
  induction d with
  | zero =>
    intro k x i p hk h0 hd hp
    obtain ⟨k, rfl⟩ : ∃ m, k = m + 1 := ⟨k - 1, by omega⟩
    simp only [spec_l1Rd_word.l0]
    rw [if_neg (by omega)]
    exact Tot.pure hp
  | succ d ih =>
    intro k x i p hk h0 hd hp
    obtain ⟨k, rfl⟩ : ∃ m, k = m + 1 := ⟨k - 1, by omega⟩
    simp only [spec_l1Rd_word.l0]
    rw [if_pos (by omega)]
    refine (next_ok hb hp).bind fun v hv => ?_
    rw [w64 (x := i + 1) (by omega) (by omega)]
    exact ih k _ (i + 1) _ (by omega) (by omega) (by omega) hv.2.2
theorem word_ok {b : List Int} {p : Int} {k : Nat} (hk : 10 ≤ k) (hb : Bytes b) (hp : At b p) : Tot (spec_l1Rd_word.f k b p) (fun r => At b r.2) := by
  unfold spec_l1Rd_word.f
  exact word_l hb 8 k 0 0 p (by omega) (by omega) (by omega) hp
theorem near_ok {b : List Int} {p : Int} {k : Nat} (lo hi : Int) (h : -4611686018427387904 ≤ lo) (h' : hi ≤ 4611686018427387902) (l' : lo ≤ 4611686018427387904) (g' : -4611686018427387904 ≤ hi) (hk : 10 ≤ k) (hb : Bytes b) (hp : At b p) : Tot (spec_l1Rd_near.f k b p lo hi) (fun r => i64 r.1 ∧ At b r.2) := by
  unfold spec_l1Rd_near.f
  refine (below_ok 8 hb hp).bind fun v hv => ?_
  refine Tot.ite (fun _ => Tot.pure ⟨⟨by simp only; omega, by simp only; omega⟩, hv.2.2⟩) (fun _ => ?_)
  refine Tot.ite (fun _ => Tot.pure ⟨⟨by simp only; omega, by simp only; omega⟩, hv.2.2⟩) (fun _ => ?_)
  refine Tot.ite (fun _ => Tot.pure ⟨⟨by simp only; omega, by simp only; omega⟩, hv.2.2⟩) (fun h3 => ?_)
  refine (word_ok hk hb hv.2.2).bind fun u hu => ?_
  rw [w64 (x := hi - lo) (by omega) (by omega), w64 (x := hi - lo + 1) (by omega) (by omega)]
  have e : IntKind.u64.wrap (hi - lo + 1) = hi - lo + 1 := by
    simp only [IntKind.wrap, IntKind.signed, IntKind.bits]
    first | omega | (simp; omega)
  rw [e, if_neg (by omega)]
  exact Tot.pure ⟨i64_wrap _, hu⟩
theorem off_ok {b : List Int} {p : Int} {k : Nat} (lo hi : Int) (h : -4611686018427387904 ≤ lo) (h' : hi ≤ 4611686018427387902) (l' : lo ≤ 4611686018427387904) (g' : -4611686018427387904 ≤ hi) (hk : 10 ≤ k) (hb : Bytes b) (hp : At b p) : Tot (spec_l1Rd_off.f k b p lo hi) (fun r => i64 r.1 ∧ At b r.2) := by
  unfold spec_l1Rd_off.f
  refine (once_ok 24 hb hp).bind fun v hv => ?_
  refine Tot.ite (fun _ => ?_) (fun _ => ?_)
  · simp only [Option.bind_some]
    refine (below_ok 4 hb hv).bind fun u hu => ?_
    obtain ⟨u0, u1, u2⟩ := hu
    refine Tot.yes u0 (Tot.yes (by simp only [List.length_cons, List.length_nil]; omega) (Tot.pure ⟨?_, u2⟩))
    have : u.1 = 0 ∨ u.1 = 1 ∨ u.1 = 2 ∨ u.1 = 3 := by omega
    rcases this with e | e | e | e <;> simp only [e, rd] <;> simp [i64] <;> first | done | exact i64_wrap _
  · refine (near_ok lo hi h h' l' g' hk hb hv).bind fun u hu => ?_
    exact Tot.pure hu
/-- the last letter of as many bytes -/
def limA (a : Int) : Int := if a < 128 then 127 else if a < 2048 then 2047 else if a < 55296 then 55295 else if a < 65536 then 65535 else 1114111
def nbA (a : Int) : Nat := if a < 128 then 0 else if a < 2048 then 1 else if a < 65536 then 2 else 3
/-- the greatest end of an even row: k more units -/
def endsM (a E : Int) : Nat → Int → Int → Int
  | 0, u, best => if a % u = 0 then max best ((E + 1) / u * u - 1) else best
  | k + 1, u, best => if a % u = 0 then endsM a E k (u * 64) (max best ((min E ((a / (u * 64) + 1) * u * 64 - 1) + 1) / u * u - 1)) else best
theorem mx_max (x y : Int) : mx x y = max x y := by unfold mx; split <;> omega
theorem mn_min (x y : Int) : mn x y = min x y := by unfold mn; split <;> omega
theorem divmul {x u : Int} (hx : 0 ≤ x) (hu : 0 < u) : 0 ≤ x / u ∧ x / u ≤ x ∧ 0 ≤ x / u * u ∧ x / u * u ≤ x :=
  ⟨Int.ediv_nonneg hx (by omega), Int.ediv_le_self _ hx, Int.mul_nonneg (Int.ediv_nonneg hx (by omega)) (by omega), Int.ediv_mul_le x (by omega)⟩
theorem ie_l0 (k : Nat) (a E best u x : Int) : impl_evenTo.l0 (k + 1) a E best u x = if x ≥ 0 then (if u = 0 then none else impl_evenTo.j1 k a E best u x (Int.tmod a u == 0)) else impl_evenTo.j1 k a E best u x false := by rw [impl_evenTo.l0]
theorem ie_j1 (k : Nat) (a E best u x : Int) (b : Bool) : impl_evenTo.j1 (k + 1) a E best u x b = if b = true then (if x > 0 then (if wrap64 (u * 64) = 0 then none else (if u = 0 then none else impl_evenTo.l0 k a E (mx best (wrap64 (wrap64 (wrap64 (Int.tdiv (wrap64 (mn E (wrap64 (wrap64 (wrap64 (wrap64 (wrap64 (Int.tdiv a (wrap64 (u * 64))) + 1) * u) * 64) - 1)) + 1)) u) * u) - 1))) (wrap64 (u * 64)) (wrap64 (x - 1)))) else (if u = 0 then none else impl_evenTo.l0 k a E (mx best (wrap64 (wrap64 (wrap64 (Int.tdiv (wrap64 (E + 1)) u) * u) - 1))) (wrap64 (u * 64)) (wrap64 (x - 1)))) else some best := by rw [impl_evenTo.j1]
theorem iEnds0 (a E best u : Int) (F : Nat) (ha : 0 ≤ a ∧ a ≤ 1114111) (hE : a ≤ E ∧ E ≤ 1114111) (hu : 0 < u ∧ u ≤ 262144) : impl_evenTo.l0 (F + 4) a E best u 0 = some (endsM a E 0 u best) := by
  obtain ⟨q1, q2, q3, q4⟩ := divmul (x := E + 1) (u := u) (by omega) hu.1
  rw [ie_l0, if_pos (by decide), if_neg (by omega), tmod_pos (by omega)]
  simp only [endsM]
  by_cases h : a % u = 0
  · have e : (a % u == 0) = true := by simpa using h
    rw [e, ie_j1, if_pos rfl, if_neg (by decide), if_neg (by omega), if_pos h, ie_l0, w64 (x := (0 : Int) - 1) (by omega) (by omega), if_neg (by decide), ie_j1, if_neg (by decide), w64 (x := E + 1) (by omega) (by omega), tdiv_pos (by omega), w64 (x := (E + 1) / u) (by omega) (by omega), w64 (x := (E + 1) / u * u) (by omega) (by omega), w64 (x := (E + 1) / u * u - 1) (by omega) (by omega), mx_max]
  · have e : (a % u == 0) = false := by simpa using h
    rw [e, ie_j1, if_neg (by decide), if_neg h]
theorem iEnds (a E : Int) (ha : 0 ≤ a ∧ a ≤ 1114111) (hE : a ≤ E ∧ E ≤ 1114111) : ∀ (k F : Nat) (u best : Int), k ≤ 3 → 0 < u → u * 64 ^ k ≤ 262144 → impl_evenTo.l0 (F + 4 + 2 * k) a E best u (k : Int) = some (endsM a E k u best)
  | 0, F, u, best, _, hu, h => iEnds0 a E best u F ha hE ⟨hu, by simpa using h⟩
  | k + 1, F, u, best, hk, hu, h => by
    have hp : (0 : Int) < 64 ^ k := Int.pow_pos (by decide)
    have hh : u * 64 * 64 ^ k ≤ 262144 := by rw [Int.mul_assoc, ← Int.pow_succ']; exact h
    have hm : u * 64 * 1 ≤ u * 64 * 64 ^ k := Int.mul_le_mul_of_nonneg_left hp (by omega)
    have ih := iEnds a E ha hE k F (u * 64)
    rw [show F + 4 + 2 * (k + 1) = (F + 4 + 2 * k) + 1 + 1 by omega, ie_l0, if_pos (by omega), if_neg (by omega), tmod_pos (by omega)]
    simp only [endsM]
    by_cases c : a % u = 0
    · have e : (a % u == 0) = true := by simpa using c
      obtain ⟨p1, p2, p3, p4⟩ := divmul (x := a) (u := u * 64) (by omega) (by omega)
      have m1 : (a / (u * 64) + 1) * u * 64 = a / (u * 64) * (u * 64) + u * 64 := by rw [Int.mul_assoc, Int.add_mul, Int.one_mul]
      have m2 : (a / (u * 64) + 1) * u = a / (u * 64) * u + u := by rw [Int.add_mul, Int.one_mul]
      have m3 : 0 ≤ a / (u * 64) * u := Int.mul_nonneg p1 (by omega)
      have m4 : a / (u * 64) * (u * 64) = a / (u * 64) * u * 64 := by rw [Int.mul_assoc]
      have hlt : a < a / (u * 64) * (u * 64) + u * 64 := by
        have h1 := Int.lt_ediv_add_one_mul_self a (show 0 < u * 64 by omega)
        rw [Int.add_mul, Int.one_mul] at h1
        exact h1
      obtain ⟨q1, q2, q3, q4⟩ := divmul (x := min E ((a / (u * 64) + 1) * u * 64 - 1) + 1) (u := u) (by omega) hu
      rw [e, ie_j1, if_pos rfl, if_pos (by omega), w64 (x := u * 64) (by omega) (by omega), if_neg (by omega), if_neg (by omega), if_pos c, tdiv_pos (b := u * 64) (by omega), w64 (x := a / (u * 64)) (by omega) (by omega), w64 (x := a / (u * 64) + 1) (by omega) (by omega), w64 (x := (a / (u * 64) + 1) * u) (by omega) (by omega), w64 (x := (a / (u * 64) + 1) * u * 64) (by omega) (by omega), w64 (x := (a / (u * 64) + 1) * u * 64 - 1) (by omega) (by omega), mn_min, w64 (x := min E ((a / (u * 64) + 1) * u * 64 - 1) + 1) (by omega) (by omega), tdiv_pos (b := u) (by omega), w64 (x := (min E ((a / (u * 64) + 1) * u * 64 - 1) + 1) / u) (by omega) (by omega), w64 (x := (min E ((a / (u * 64) + 1) * u * 64 - 1) + 1) / u * u) (by omega) (by omega), w64 (x := (min E ((a / (u * 64) + 1) * u * 64 - 1) + 1) / u * u - 1) (by omega) (by omega), mx_max, w64 (x := ((k + 1 : Nat) : Int) - 1) (by omega) (by omega), show ((k + 1 : Nat) : Int) - 1 = (k : Int) by omega]
      exact ih _ (by omega) (by omega) hh
    · have e : (a % u == 0) = false := by simpa using c
      rw [e, ie_j1, if_neg (by decide), if_neg c]
theorem limA_rng {a : Int} (h : isLetterM a) : a ≤ limA a ∧ limA a ≤ 1114111 := by
  unfold limA
  have := h.1
  have := h.2
  split <;> (try split) <;> (try split) <;> (try split) <;> omega
theorem iLastOf (a : Int) : impl_lastOf.f a = some (limA a) := by
  unfold impl_lastOf.f limA
  split <;> (try split) <;> (try split) <;> (try split) <;> rfl
theorem iBytesIn (a : Int) : impl_bytesIn.f a = some ((nbA a : Int) + 1) := by
  unfold impl_bytesIn.f nbA
  split <;> (try split) <;> (try split) <;> rfl
theorem nbA_le (a : Int) : nbA a ≤ 3 := by unfold nbA; split <;> (try split) <;> (try split) <;> omega
theorem iEvenTo (a high : Int) (ha : isLetterM a) (hh : a ≤ high) (k : Nat) (hk : 20 ≤ k) : impl_evenTo.f k a high = some (endsM a (min high (limA a)) (nbA a) 1 a) := by
  have hl := limA_rng ha
  have hn := nbA_le a
  have h1 := ha.1
  unfold impl_evenTo.f
  rw [iLastOf, iBytesIn]
  simp only [Option.bind_some]
  rw [show (nbA a : Int) + 1 - 1 = (nbA a : Int) by omega, w64 (x := (nbA a : Int)) (by omega) (by omega), mn_min]
  obtain ⟨F, rfl⟩ : ∃ F, k = F + 4 + 2 * nbA a := ⟨k - 4 - 2 * nbA a, by omega⟩
  refine iEnds a (min high (limA a)) h1 (by omega) (nbA a) F 1 a hn (by decide) ?_
  have : nbA a = 0 ∨ nbA a = 1 ∨ nbA a = 2 ∨ nbA a = 3 := by omega
  rcases this with e | e | e | e <;> rw [e] <;> decide
theorem endsM_rng (a E : Int) : ∀ (k : Nat) (u best : Int), 0 < u → a ≤ best → best ≤ E → a ≤ endsM a E k u best ∧ endsM a E k u best ≤ E
  | 0, u, best, hu, h1, h2 => by
    unfold endsM
    have := Int.ediv_mul_le (E + 1) (show u ≠ 0 by omega)
    split <;> omega
  | k + 1, u, best, hu, h1, h2 => by
    unfold endsM
    have := Int.ediv_mul_le (min E ((a / (u * 64) + 1) * u * 64 - 1) + 1) (show u ≠ 0 by omega)
    split
    · exact endsM_rng a E k (u * 64) _ (by omega) (by omega) (by omega)
    · exact ⟨h1, h2⟩
/-- the reference's first part: how many bytes -/
theorem sTop (k : Nat) (a high best first u : Int) (ha : 0 ≤ a ∧ a ≤ 1114111) : spec_l2Ends.l2 (k + 5) a high best first u 1114112 ([128, 2048, 55296, 65536] : List Int) 0 = spec_l2Ends.l2 (k + 1) a high best first u (limA a + 1) ([128, 2048, 55296, 65536] : List Int) 4 := by
  have st : ∀ (k : Nat) (t i : Int), 0 ≤ i → i < 4 → spec_l2Ends.l2 (k + 1) a high best first u t ([128, 2048, 55296, 65536] : List Int) i = spec_l2Ends.l2 k a high best first u (if a < rd [128, 2048, 55296, 65536] i ∧ rd [128, 2048, 55296, 65536] i < t then rd [128, 2048, 55296, 65536] i else t) ([128, 2048, 55296, 65536] : List Int) (i + 1) := by
    intro k t i h0 h1
    rw [spec_l2Ends.l2, if_pos (by simpa using h1), if_pos h0, w64 (x := i + 1) (by omega) (by omega)]
    by_cases c1 : a < rd [128, 2048, 55296, 65536] i
    · rw [if_pos c1]
      by_cases c2 : rd [128, 2048, 55296, 65536] i < t
      · rw [if_pos c2, if_pos ⟨c1, c2⟩]
      · rw [if_neg c2, if_neg (fun g => c2 g.2)]
    · rw [if_neg c1, if_neg (fun g => c1 g.1)]
  rw [st (k + 4) _ 0 (by decide) (by decide), st (k + 3) _ (0 + 1) (by decide) (by decide), st (k + 2) _ (0 + 1 + 1) (by decide) (by decide), st (k + 1) _ (0 + 1 + 1 + 1) (by decide) (by decide)]
  congr 1
  have r0 : rd [128, 2048, 55296, 65536] 0 = 128 := rfl
  have r1 : rd [128, 2048, 55296, 65536] (0 + 1) = 2048 := rfl
  have r2 : rd [128, 2048, 55296, 65536] (0 + 1 + 1) = 55296 := rfl
  have r3 : rd [128, 2048, 55296, 65536] (0 + 1 + 1 + 1) = 65536 := rfl
  rw [r0, r1, r2, r3]
  unfold limA
  split <;> split <;> split <;> split <;> omega
theorem divshift {a x u : Int} (hu : 0 < u) (h : a % u = 0) : (x + 1) / u * u = a + (x - a + 1) / u * u := by
  have e : u * (a / u) = a := by have := Int.emod_add_mul_ediv a u; omega
  have e2 : x + 1 = (x - a + 1) + u * (a / u) := by omega
  rw [e2, Int.add_mul_ediv_left _ _ (by omega), Int.add_mul, Int.mul_comm (a / u) u, e]
  have e3 : x - a + 1 + u * (a / u) - 1 - a + 1 = x - a + 1 := by omega
  omega
theorem newBest {a x u best : Int} (hu : 0 < u) (h : a % u = 0) (hb : a ≤ best) (hx : a ≤ x) (hn : ¬ (x - a + 1) / u > 0) : max best ((x + 1) / u * u - 1) = best := by
  have h0 : 0 ≤ (x - a + 1) / u := Int.ediv_nonneg (by omega) (by omega)
  have h1 : (x - a + 1) / u = 0 := by omega
  rw [divshift hu h, h1]
  omega
theorem sE_end (a high best u first : Int) (F : Nat) (ha : isLetterM a) (hh : a ≤ high ∧ high ≤ 1114111) (hu : 0 < u ∧ u ≤ 262144) (hf : u < first → 0 < u * 64 ∧ u * 64 ≤ 262144) (hb : a ≤ best ∧ best ≤ 1114111) (hz : a % u = 0) :
    spec_l2Ends.l2 (F + 1) a high best first u (limA a + 1) ([128, 2048, 55296, 65536] : List Int) 4 = (if u < first then spec_l2Ends.l1 F a high (max best ((min (min high (limA a)) ((a / (u * 64) + 1) * u * 64 - 1) + 1) / u * u - 1)) first (u * 64) else spec_l2Ends.l1 F a high (max best ((min high (limA a) + 1) / u * u - 1)) first (u * 64)) := by
  have h1 := ha.1
  have hl := limA_rng ha
  rw [spec_l2Ends.l2, if_neg (by simp)]
  by_cases c : u < first
  · have hf' := hf c
    obtain ⟨p1, p2, p3, p4⟩ := divmul (x := a) (u := u * 64) (by omega) (by omega)
    have m1 : (a / (u * 64) + 1) * u * 64 = a / (u * 64) * (u * 64) + u * 64 := by rw [Int.mul_assoc, Int.add_mul, Int.one_mul]
    have m2 : (a / (u * 64) + 1) * u = a / (u * 64) * u + u := by rw [Int.add_mul, Int.one_mul]
    have m3 : 0 ≤ a / (u * 64) * u := Int.mul_nonneg p1 (by omega)
    have m4 : a / (u * 64) * (u * 64) = a / (u * 64) * u * 64 := by rw [Int.mul_assoc]
    have hlt : a < a / (u * 64) * (u * 64) + u * 64 := by
      have h1 := Int.lt_ediv_add_one_mul_self a (show 0 < u * 64 by omega)
      rw [Int.add_mul, Int.one_mul] at h1
      exact h1
    have eM : min (min (limA a + 1) ((a / (u * 64) + 1) * u * 64) - 1) high = min (min high (limA a)) ((a / (u * 64) + 1) * u * 64 - 1) := by omega
    rw [if_pos c, if_pos c, w64 (x := u * 64) (by omega) (by omega), if_neg (by omega), if_neg (by omega), tdiv_pos (b := u * 64) (by omega), w64 (x := a / (u * 64)) (by omega) (by omega), w64 (x := a / (u * 64) + 1) (by omega) (by omega), w64 (x := (a / (u * 64) + 1) * u) (by omega) (by omega), w64 (x := (a / (u * 64) + 1) * u * 64) (by omega) (by omega), mn_min (limA a + 1), w64 (x := min (limA a + 1) ((a / (u * 64) + 1) * u * 64) - 1) (by omega) (by omega), mn_min, eM]
    have hx : a ≤ min (min high (limA a)) ((a / (u * 64) + 1) * u * 64 - 1) ∧ min (min high (limA a)) ((a / (u * 64) + 1) * u * 64 - 1) ≤ 1114111 := by omega
    generalize min (min high (limA a)) ((a / (u * 64) + 1) * u * 64 - 1) = x at hx ⊢
    obtain ⟨q1, q2, q3, q4⟩ := divmul (x := x - a + 1) (u := u) (by omega) hu.1
    rw [w64 (x := x - a) (by omega) (by omega), w64 (x := x - a + 1) (by omega) (by omega), tdiv_pos (b := u) (by omega), w64 (x := (x - a + 1) / u) (by omega) (by omega), w64 (x := (x - a + 1) / u * u) (by omega) (by omega), w64 (x := a + (x - a + 1) / u * u) (by omega) (by omega), w64 (x := a + (x - a + 1) / u * u - 1) (by omega) (by omega), mx_max]
    by_cases n : (x - a + 1) / u > 0
    · rw [if_pos n, divshift (x := x) hu.1 hz]
    · rw [if_neg n, newBest hu.1 hz hb.1 hx.1 n]
  · rw [if_neg c, if_neg c, if_neg (by omega), w64 (x := u * 64) (by omega) (by omega), w64 (x := limA a + 1 - 1) (by omega) (by omega), mn_min, show limA a + 1 - 1 = limA a by omega, Int.min_comm (limA a) high]
    have hx : a ≤ min high (limA a) ∧ min high (limA a) ≤ 1114111 := by omega
    generalize min high (limA a) = x at hx ⊢
    obtain ⟨q1, q2, q3, q4⟩ := divmul (x := x - a + 1) (u := u) (by omega) hu.1
    rw [w64 (x := x - a) (by omega) (by omega), w64 (x := x - a + 1) (by omega) (by omega), tdiv_pos (b := u) (by omega), w64 (x := (x - a + 1) / u) (by omega) (by omega), w64 (x := (x - a + 1) / u * u) (by omega) (by omega), w64 (x := a + (x - a + 1) / u * u) (by omega) (by omega), w64 (x := a + (x - a + 1) / u * u - 1) (by omega) (by omega), mx_max]
    by_cases n : (x - a + 1) / u > 0
    · rw [if_pos n, divshift (x := x) hu.1 hz]
    · rw [if_neg n, newBest hu.1 hz hb.1 hx.1 n]
theorem sEnds (a high : Int) (ha : isLetterM a) (hh : a ≤ high ∧ high ≤ 1114111) : ∀ (k F : Nat) (u best : Int), k ≤ 3 → 0 < u → u * 64 ^ k ≤ 262144 → a ≤ best → best ≤ min high (limA a) →
    spec_l2Ends.l1 (F + 6 * (k + 1) + 1) a high best (u * 64 ^ k) u = some (endsM a (min high (limA a)) k u best)
  | k, F, u, best, hk, hu, h, hb, hb2 => by
    have hl := limA_rng ha
    have h1 := ha.1
    have hp : (0 : Int) < 64 ^ k := Int.pow_pos (by decide)
    have hm : u * 1 ≤ u * 64 ^ k := Int.mul_le_mul_of_nonneg_left hp (by omega)
    rw [spec_l2Ends.l1, if_pos (by omega), if_neg (by omega), tmod_pos (by omega)]
    by_cases c : a % u = 0
    · rw [if_pos c, show F + 6 * (k + 1) = (F + 6 * k + 1) + 5 by omega, sTop _ a high best _ u h1]
      cases k with
      | zero =>
        rw [sE_end a high best u _ (F + 6 * 0 + 1) ha hh ⟨hu, by omega⟩ (fun g => by simp at g) ⟨hb, by omega⟩ c, if_neg (by simp), spec_l2Ends.l1, if_neg (by rw [Int.pow_zero]; omega)]
        simp only [endsM]
        rw [if_pos c]
      | succ k =>
        have hp2 : (0 : Int) < 64 ^ k := Int.pow_pos (by decide)
        have hpe : u * 64 ^ (k + 1) = u * 64 * 64 ^ k := by rw [Int.pow_succ', Int.mul_assoc]
        have hm2 : u * 64 * 1 ≤ u * 64 * 64 ^ k := Int.mul_le_mul_of_nonneg_left hp2 (by omega)
        rw [hpe] at h ⊢
        have q := Int.ediv_mul_le (min (min high (limA a)) ((a / (u * 64) + 1) * u * 64 - 1) + 1) (show u ≠ 0 by omega)
        rw [sE_end a high best u _ (F + 6 * (k + 1) + 1) ha hh ⟨hu, by omega⟩ (fun g => by omega) ⟨hb, by omega⟩ c, if_pos (by omega)]
        rw [sEnds a high ha hh k F (u * 64) _ (by omega) (by omega) h (by omega) (by omega)]
        simp only [endsM]
        rw [if_pos c]
    · rw [if_neg c]
      cases k with
      | zero => simp only [endsM]; rw [if_neg c]
      | succ k => simp only [endsM]; rw [if_neg c]
theorem lbM_len {a : Int} (h : isLetterM a) : (strOfNums (lbM a)).size = nbA a + 1 := by
  have h1 := h.1
  have : (lbM a).length = nbA a + 1 := by
    unfold lbM nbA
    split <;> (try split) <;> (try split) <;> rfl
  rw [← this]
  simp [strOfNums, ByteArray.size]
theorem sEvenTo (a high : Int) (ha : isLetterM a) (hh : a ≤ high ∧ high ≤ 1114111) (k : Nat) (hk : 60 ≤ k) : spec_l2Ends.f k a high = some (endsM a (min high (limA a)) (nbA a) 1 a) := by
  have hl := limA_rng ha
  have hn := nbA_le a
  have hz := lbM_len ha
  have st : ∀ (k : Nat) (x i : Int), 20 ≤ k → spec_l2Ends.l0 (k + 1) a high a x i = if i < ((nbA a + 1 : Nat) : Int) then spec_l2Ends.l0 k a high a (wrap64 (x * 64)) (wrap64 (i + 1)) else spec_l2Ends.l1 k a high a x 1 := by
    intro k x i hk
    rw [spec_l2Ends.l0, sLetterBytes a k (by omega), Option.bind_some, if_pos ha, hz]
  have e1 := sEnds a high ha hh (nbA a)
  have w1 : wrap64 (1 * 64) = 64 := by simp [wrap64]
  have w2 : wrap64 (64 * 64) = 4096 := by simp [wrap64]
  have w3 : wrap64 (4096 * 64) = 262144 := by simp [wrap64]
  have v1 : wrap64 (1 + 1) = 2 := by simp [wrap64]
  have v2 : wrap64 (2 + 1) = 3 := by simp [wrap64]
  have v3 : wrap64 (3 + 1) = 4 := by simp [wrap64]
  unfold spec_l2Ends.f
  obtain ⟨F, rfl⟩ : ∃ F, k = F + 32 := ⟨k - 32, by omega⟩
  have : nbA a = 0 ∨ nbA a = 1 ∨ nbA a = 2 ∨ nbA a = 3 := by omega
  rcases this with e | e | e | e
  · rw [e] at e1 st ⊢
    rw [st _ _ _ (by omega), if_neg (by decide)]
    exact e1 (F + 24) 1 a (by omega) (by decide) (by decide) (by omega) (by omega)
  · rw [e] at e1 st ⊢
    rw [st _ _ _ (by omega), if_pos (by decide), w1, v1, st _ _ _ (by omega), if_neg (by decide)]
    exact e1 (F + 17) 1 a (by omega) (by decide) (by decide) (by omega) (by omega)
  · rw [e] at e1 st ⊢
    rw [st _ _ _ (by omega), if_pos (by decide), w1, v1, st _ _ _ (by omega), if_pos (by decide), w2, v2, st _ _ _ (by omega), if_neg (by decide)]
    exact e1 (F + 10) 1 a (by omega) (by decide) (by decide) (by omega) (by omega)
  · rw [e] at e1 st ⊢
    rw [st _ _ _ (by omega), if_pos (by decide), w1, v1, st _ _ _ (by omega), if_pos (by decide), w2, v2, st _ _ _ (by omega), if_pos (by decide), w3, v3, st _ _ _ (by omega), if_neg (by decide)]
    exact e1 (F + 3) 1 a (by omega) (by decide) (by decide) (by omega) (by omega)
/-- the row of two letters of as many bytes, from the i-th byte on -/
def rowM (x y : ByteArray) : Nat → Nat → List S33
  | 0, _ => []
  | d + 1, i => ⟨bt x (i : Int), bt y (i : Int)⟩ :: rowM x y d (i + 1)
theorem rowM_len (x y : ByteArray) : ∀ d i, (rowM x y d i).length = d
  | 0, _ => rfl
  | d + 1, i => by simp only [rowM, List.length_cons, rowM_len x y d (i + 1)]
theorem iRow_l (x y : ByteArray) (n : Nat) (hn : n ≤ 8) (hx : x.size = n) (hy : y.size = n) : ∀ (d k i : Nat) (o : List S33), n - i = d → i ≤ n → d < k → o.length ≤ i → impl_rowOf.l0 k x y o (n : Int) (i : Int) = some (o ++ rowM x y d i)
  | 0, k, i, o, hd, hi, hk, ho => by
    obtain ⟨k, rfl⟩ : ∃ m, k = m + 1 := ⟨k - 1, by omega⟩
    rw [impl_rowOf.l0, if_neg (by omega)]
    simp [rowM]
  | d + 1, k, i, o, hd, hi, hk, ho => by
    obtain ⟨k, rfl⟩ : ∃ m, k = m + 1 := ⟨k - 1, by omega⟩
    have b1 := bt_lo x (i : Int)
    have b2 := bt_hi x (i : Int)
    have b3 := bt_lo y (i : Int)
    have b4 := bt_hi y (i : Int)
    rw [impl_rowOf.l0, if_pos (by omega), if_pos (by omega), if_pos (by omega), if_pos (by omega), if_pos (by omega), nat_next (by omega), w64 (x := bt x (i : Int)) (by omega) (by omega), w64 (x := bt y (i : Int)) (by omega) (by omega), iRow_l x y n hn hx hy d k (i + 1) _ (by omega) (by omega) (by omega) (by simp; omega)]
    simp [rowM]
theorem sRow_l (x y : ByteArray) (n : Nat) (hn : n ≤ 8) (hx : x.size = n) (hy : y.size = n) (high b : Int) (out : List (List S33)) : ∀ (d k i : Nat) (o : List S33), n - i = d → i ≤ n → o.length ≤ i → spec_LetterSpans.l1 (k + d) high out b x y o (i : Int) = spec_LetterSpans.l1 k high out b x y (o ++ rowM x y d i) (n : Int)
  | 0, k, i, o, hd, hi, ho => by
    obtain rfl : i = n := by omega
    simp [rowM]
  | d + 1, k, i, o, hd, hi, ho => by
    have b1 := bt_lo x (i : Int)
    have b2 := bt_hi x (i : Int)
    have b3 := bt_lo y (i : Int)
    have b4 := bt_hi y (i : Int)
    rw [show k + (d + 1) = (k + d) + 1 by omega, spec_LetterSpans.l1, if_pos (by omega), if_pos (by omega), if_pos (by omega), if_pos (by omega), nat_next (by omega), w64 (x := bt x (i : Int)) (by omega) (by omega), w64 (x := bt y (i : Int)) (by omega) (by omega), sRow_l x y n hn hx hy high b out d k (i + 1) _ (by omega) (by omega) (by simp; omega)]
    simp [rowM]
/-- an even row's end: the letters between share their first bytes, and the last ones run through all -/
def GoodB (a b : Int) (n : Nat) : Prop := b = a ∨ (a < b ∧ ∃ j : Nat, j ≤ n ∧ a % 64 ^ j = 0 ∧ (b + 1) % 64 ^ j = 0 ∧ (j < n → b / (64 ^ j * 64) = a / (64 ^ j * 64)))
theorem good_max {a b X : Int} {n : Nat} (hb : GoodB a b n) (hab : a ≤ b) (hX : b < X → GoodB a X n) : GoodB a (max b X) n := by
  by_cases h : b < X
  · rw [show max b X = X by omega]; exact hX h
  · rw [show max b X = b by omega]; exact hb
theorem ends_good (a E : Int) (n : Nat) (h0 : 0 ≤ a) : ∀ (k j : Nat) (best : Int), j + k = n → a ≤ best → GoodB a best n → GoodB a (endsM a E k (64 ^ j) best) n
  | 0, j, best, hj, hb, hg => by
    have hu : (0 : Int) < 64 ^ j := Int.pow_pos (by decide)
    unfold endsM
    split
    · rename_i hz
      refine good_max hg hb (fun h => .inr ⟨by omega, j, by omega, hz, ?_, fun q => by omega⟩)
      rw [show (E + 1) / 64 ^ j * 64 ^ j - 1 + 1 = (E + 1) / 64 ^ j * 64 ^ j by omega]
      exact Int.mul_emod_left _ _
    · exact hg
  | k + 1, j, best, hj, hb, hg => by
    have hu : (0 : Int) < 64 ^ j := Int.pow_pos (by decide)
    unfold endsM
    split
    · rename_i hz
      have e : (64 : Int) ^ j * 64 = 64 ^ (j + 1) := by rw [Int.pow_succ]
      rw [e]
      generalize hm : min E ((a / 64 ^ (j + 1) + 1) * 64 ^ j * 64 - 1) = m
      have hm' : m ≤ (a / 64 ^ (j + 1) + 1) * 64 ^ (j + 1) - 1 := by
        rw [← e, ← Int.mul_assoc] 
        rw [e]
        omega
      have hq := Int.ediv_mul_le (m + 1) (show (64 : Int) ^ j ≠ 0 by omega)
      have hg' : GoodB a (max best ((m + 1) / 64 ^ j * 64 ^ j - 1)) n := by
        refine good_max hg hb (fun h => .inr ⟨by omega, j, by omega, hz, ?_, fun _ => ?_⟩)
        · rw [show (m + 1) / 64 ^ j * 64 ^ j - 1 + 1 = (m + 1) / 64 ^ j * 64 ^ j by omega]
          exact Int.mul_emod_left _ _
        · rw [e]
          have hU : (0 : Int) < 64 ^ (j + 1) := Int.pow_pos (by decide)
          apply Int.le_antisymm
          · have : (m + 1) / 64 ^ j * 64 ^ j - 1 < (a / 64 ^ (j + 1) + 1) * 64 ^ (j + 1) := by omega
            have := Int.ediv_lt_of_lt_mul hU this
            omega
          · exact Int.ediv_le_ediv hU (by omega)
      exact ends_good a E n h0 k (j + 1) _ (by omega) (by omega) hg'
    · exact hg
/-- all bytes from the j-th on lie between -/
def betw (x y s : ByteArray) : Nat → Nat → Prop
  | 0, _ => True
  | d + 1, i => (bt x (i : Int) ≤ bt s (i : Int) ∧ bt s (i : Int) ≤ bt y (i : Int)) ∧ betw x y s d (i + 1)
theorem bt_lb {n : Int} (h : 0 ≤ n ∧ n ≤ 1114111) (i : Int) : bt (strOfNums (lbM n)) i = rd (lbM n) i := by
  rw [nums_bt, nums_of (lbM_rng h)]
theorem lb0 {n : Int} (h : isLetterM n) (e : nbA n = 0) : lbM n = [n] ∧ n < 128 := by
  unfold nbA at e; unfold lbM
  have := h.1
  by_cases h1 : n < 128
  · exact ⟨by rw [if_pos h1], h1⟩
  · rw [if_neg h1] at e; split at e <;> (try split at e) <;> omega
theorem lb1 {n : Int} (h : isLetterM n) (e : nbA n = 1) : lbM n = [192 + n / 64, 128 + n % 64] ∧ 128 ≤ n ∧ n < 2048 := by
  unfold nbA at e; unfold lbM
  by_cases h1 : n < 128
  · rw [if_pos h1] at e; omega
  · rw [if_neg h1] at e
    by_cases h2 : n < 2048
    · exact ⟨by rw [if_neg h1, if_pos h2], by omega, h2⟩
    · rw [if_neg h2] at e; split at e <;> omega
theorem lb2 {n : Int} (h : isLetterM n) (e : nbA n = 2) : lbM n = [224 + n / 4096, 128 + n / 64 % 64, 128 + n % 64] ∧ 2048 ≤ n ∧ n < 65536 := by
  unfold nbA at e; unfold lbM
  by_cases h1 : n < 128
  · rw [if_pos h1] at e; omega
  · rw [if_neg h1] at e
    by_cases h2 : n < 2048
    · rw [if_pos h2] at e; omega
    · rw [if_neg h2] at e
      by_cases h3 : n < 65536
      · exact ⟨by rw [if_neg h1, if_neg h2, if_pos h3], by omega, h3⟩
      · rw [if_neg h3] at e; omega
theorem lb3 {n : Int} (h : isLetterM n) (e : nbA n = 3) : lbM n = [240 + n / 262144, 128 + n / 4096 % 64, 128 + n / 64 % 64, 128 + n % 64] ∧ 65536 ≤ n := by
  unfold nbA at e; unfold lbM
  by_cases h1 : n < 128
  · rw [if_pos h1] at e; omega
  · rw [if_neg h1] at e
    by_cases h2 : n < 2048
    · rw [if_pos h2] at e; omega
    · rw [if_neg h2] at e
      by_cases h3 : n < 65536
      · rw [if_pos h3] at e; omega
      · exact ⟨by rw [if_neg h1, if_neg h2, if_neg h3], by omega⟩
theorem key0 (a b t : Int) (h : GoodB a b 0) : (a ≤ t ∧ t ≤ b) ↔ a ≤ t ∧ t ≤ b := Iff.rfl
theorem key1 (a b t : Int) (ha : 0 ≤ a) (ht : 0 ≤ t) (h : GoodB a b 1) : ((192 + a / 64 ≤ 192 + t / 64 ∧ 192 + t / 64 ≤ 192 + b / 64) ∧ (128 + a % 64 ≤ 128 + t % 64 ∧ 128 + t % 64 ≤ 128 + b % 64)) ↔ a ≤ t ∧ t ≤ b := by
  rcases h with rfl | ⟨hab, j, hj, h1, h2, h3⟩
  · omega
  · have : j = 0 ∨ j = 1 := by omega
    rcases this with rfl | rfl
    · replace h3 : b / 64 = a / 64 := by simpa using h3 (by omega)
      omega
    · replace h1 : a % 64 = 0 := by simpa using h1
      replace h2 : (b + 1) % 64 = 0 := by simpa using h2
      omega
theorem p0 : (64 : Int) ^ 0 = 1 := rfl
theorem p1 : (64 : Int) ^ 1 = 64 := rfl
theorem p2 : (64 : Int) ^ 2 = 4096 := by decide
theorem p3 : (64 : Int) ^ 3 = 262144 := by decide
theorem key2 (a b t : Int) (ha : 0 ≤ a) (ht : 0 ≤ t) (h : GoodB a b 2) : ((224 + a / 4096 ≤ 224 + t / 4096 ∧ 224 + t / 4096 ≤ 224 + b / 4096) ∧ (128 + a / 64 % 64 ≤ 128 + t / 64 % 64 ∧ 128 + t / 64 % 64 ≤ 128 + b / 64 % 64) ∧ (128 + a % 64 ≤ 128 + t % 64 ∧ 128 + t % 64 ≤ 128 + b % 64)) ↔ a ≤ t ∧ t ≤ b := by
  rcases h with rfl | ⟨hab, j, hj, h1, h2, h3⟩
  · omega
  · have : j = 0 ∨ j = 1 ∨ j = 2 := by omega
    rcases this with rfl | rfl | rfl
    · replace h3 := h3 (by omega); rw [p0] at h3; replace h3 : b / 64 = a / 64 := h3; omega
    · replace h3 := h3 (by omega); rw [p1] at h1 h2 h3; replace h3 : b / 4096 = a / 4096 := h3; omega
    · rw [p2] at h1 h2; omega
theorem key3 (a b t : Int) (ha : 0 ≤ a) (ht : 0 ≤ t) (h : GoodB a b 3) : ((240 + a / 262144 ≤ 240 + t / 262144 ∧ 240 + t / 262144 ≤ 240 + b / 262144) ∧ (128 + a / 4096 % 64 ≤ 128 + t / 4096 % 64 ∧ 128 + t / 4096 % 64 ≤ 128 + b / 4096 % 64) ∧ (128 + a / 64 % 64 ≤ 128 + t / 64 % 64 ∧ 128 + t / 64 % 64 ≤ 128 + b / 64 % 64) ∧ (128 + a % 64 ≤ 128 + t % 64 ∧ 128 + t % 64 ≤ 128 + b % 64)) ↔ a ≤ t ∧ t ≤ b := by
  rcases h with rfl | ⟨hab, j, hj, h1, h2, h3⟩
  · omega
  · have : j = 0 ∨ j = 1 ∨ j = 2 ∨ j = 3 := by omega
    rcases this with rfl | rfl | rfl | rfl
    · replace h3 := h3 (by omega); rw [p0] at h3; replace h3 : b / 64 = a / 64 := h3; omega
    · replace h3 := h3 (by omega); rw [p1] at h1 h2 h3; replace h3 : b / 4096 = a / 4096 := h3; omega
    · replace h3 := h3 (by omega); rw [p2] at h1 h2 h3; replace h3 : b / 262144 = a / 262144 := h3; omega
    · rw [p3] at h1 h2; omega
/-- a text of as many bytes lies between those of an even row's ends just when its letter does -/
theorem evenKey {a b t : Int} (ha : isLetterM a) (hb : isLetterM b) (ht : isLetterM t) (eb : nbA b = nbA a) (et : nbA t = nbA a) (hg : GoodB a b (nbA a)) :
    betw (strOfNums (lbM a)) (strOfNums (lbM b)) (strOfNums (lbM t)) (nbA a + 1) 0 ↔ a ≤ t ∧ t ≤ b := by
  have h1 := ha.1
  have h3 := ht.1
  have hn := nbA_le a
  have : nbA a = 0 ∨ nbA a = 1 ∨ nbA a = 2 ∨ nbA a = 3 := by omega
  rcases this with e | e | e | e
  · rw [e] at eb et hg ⊢
    obtain ⟨la, _⟩ := lb0 ha e; obtain ⟨lb, _⟩ := lb0 hb eb; obtain ⟨lt, _⟩ := lb0 ht et
    simp only [betw, bt_lb ha.1, bt_lb hb.1, bt_lb ht.1, and_true]
    simp only [la, lb, lt]
    exact Iff.rfl
  · rw [e] at eb et hg ⊢
    obtain ⟨la, _⟩ := lb1 ha e; obtain ⟨lb, _⟩ := lb1 hb eb; obtain ⟨lt, _⟩ := lb1 ht et
    simp only [betw, bt_lb ha.1, bt_lb hb.1, bt_lb ht.1, and_true]
    simp only [la, lb, lt]
    exact key1 a b t h1.1 h3.1 hg
  · rw [e] at eb et hg ⊢
    obtain ⟨la, _⟩ := lb2 ha e; obtain ⟨lb, _⟩ := lb2 hb eb; obtain ⟨lt, _⟩ := lb2 ht et
    simp only [betw, bt_lb ha.1, bt_lb hb.1, bt_lb ht.1, and_true]
    simp only [la, lb, lt]
    exact key2 a b t h1.1 h3.1 hg
  · rw [e] at eb et hg ⊢
    obtain ⟨la, _⟩ := lb3 ha e; obtain ⟨lb, _⟩ := lb3 hb eb; obtain ⟨lt, _⟩ := lb3 ht et
    simp only [betw, bt_lb ha.1, bt_lb hb.1, bt_lb ht.1, and_true]
    simp only [la, lb, lt]
    exact key3 a b t h1.1 h3.1 hg
/-- a row has a text -/
def rowHas (s : ByteArray) (row : List S33) : Prop := row.length = s.size ∧ ∀ m : Nat, m < s.size → (rd_T33 row (m : Int)).f0 ≤ bt s (m : Int) ∧ bt s (m : Int) ≤ (rd_T33 row (m : Int)).f1
theorem rdT_nat (row : List S33) (m : Nat) : rd_T33 row (m : Int) = row.getD m ⟨0, 0⟩ := by unfold rd_T33; rw [Int.toNat_natCast]; rfl
theorem rowM_betw (x y s : ByteArray) : ∀ (d i : Nat), (∀ m : Nat, m < d → ((rowM x y d i).getD m ⟨0, 0⟩).f0 ≤ bt s ((i + m : Nat) : Int) ∧ bt s ((i + m : Nat) : Int) ≤ ((rowM x y d i).getD m ⟨0, 0⟩).f1) ↔ betw x y s d i
  | 0, i => by simp [betw]
  | d + 1, i => by
    simp only [betw, rowM]
    rw [← rowM_betw x y s d (i + 1)]
    constructor
    · intro h
      refine ⟨by simpa using h 0 (by omega), fun m hm => ?_⟩
      have := h (m + 1) (by omega)
      rw [show i + (m + 1) = i + 1 + m by omega] at this
      simpa using this
    · rintro ⟨h0, h⟩ m hm
      cases m with
      | zero => simpa using h0
      | succ m =>
        have := h m (by omega)
        rw [show i + (m + 1) = i + 1 + m by omega]
        simpa using this
open Classical in
theorem row_has {a b t : Int} (ha : isLetterM a) (hb : isLetterM b) (ht : isLetterM t) (eb : nbA b = nbA a) (hg : GoodB a b (nbA a)) (hab : a ≤ b) :
    rowHas (strOfNums (lbM t)) (rowM (strOfNums (lbM a)) (strOfNums (lbM b)) (nbA a + 1) 0) ↔ a ≤ t ∧ t ≤ b := by
  unfold rowHas
  rw [rowM_len, lbM_len ht]
  by_cases et : nbA t = nbA a
  · rw [et, ← evenKey ha hb ht eb et hg, ← rowM_betw]
    simp only [true_and, rdT_nat, Nat.zero_add]
  · constructor
    · rintro ⟨h, _⟩; omega
    · intro h
      exfalso
      unfold nbA at et eb
      have := ha.1
      repeat' split at et
      all_goals (repeat' split at eb)
      all_goals omega
/-- where the next row begins -/
def nextA (b : Int) : Int := if b + 1 = 55296 then 57344 else b + 1
open Classical in
noncomputable def cntR (s : ByteArray) (rows : List (List S33)) : Nat := rows.countP (fun row => decide (rowHas s row))
open Classical in
theorem spans_r (high : Int) (hh : isLetterM high) : ∀ (d : Nat) (a : Int) (k k' : Nat) (out : List (List S33)), (high + 1 - a ≤ d) → (a ≤ high → isLetterM a) → 200 + 10 * d < k → 200 + 10 * d < k' → (out.length : Int) ≤ a → (∀ row ∈ out, row.length ≤ 4) → a ≤ 1114112 →
    ∃ rest, spec_LetterSpans.l0 k high out a = some (out ++ rest, true) ∧ impl_LetterSpans.l0 k' high out a = some (out ++ rest, true) ∧ (out ++ rest).length ≤ 1114112 ∧ ∀ t, isLetterM t → cntR (strOfNums (lbM t)) rest = if a ≤ t ∧ t ≤ high then 1 else 0 := by
  have h1 := hh.1
  intro d
  induction d with
  | zero =>
    intro a k k' out hd ha hk hk' ho hr hA
    obtain ⟨k, rfl⟩ : ∃ m, k = m + 1 := ⟨k - 1, by omega⟩
    obtain ⟨k', rfl⟩ : ∃ m, k' = m + 1 := ⟨k' - 1, by omega⟩
    exact ⟨[], by rw [spec_LetterSpans.l0, if_neg (by omega), List.append_nil], by rw [impl_LetterSpans.l0, if_neg (by omega), List.append_nil], by rw [List.append_nil]; omega, fun t ht => by rw [if_neg (by omega)]; rfl⟩
  | succ d ih =>
    intro a k k' out hd ha hk hk' ho hr hA
    obtain ⟨k', rfl⟩ : ∃ m, k' = m + 1 := ⟨k' - 1, by omega⟩
    by_cases c : a ≤ high
    · have la := ha c
      have hl := limA_rng la
      have hn := nbA_le a
      have la1 := la.1
      have la2 := la.2
      have hb := endsM_rng a (min high (limA a)) (nbA a) 1 a (by decide) (by omega) (by omega)
      have hg := ends_good a (min high (limA a)) (nbA a) la1.1 (nbA a) 0 a (by omega) (by omega) (.inl rfl)
      rw [p0] at hg
      have eS := sEvenTo a high la ⟨c, by omega⟩
      have eI := iEvenTo a high la c
      generalize endsM a (min high (limA a)) (nbA a) 1 a = b at hb eS eI hg
      have lb : isLetterM b ∧ nbA b = nbA a := by
        unfold isLetterM limA nbA at *
        constructor
        · repeat' split at hb
          all_goals omega
        · repeat' split at hb
          all_goals (repeat' split)
          all_goals omega
      have hx := lbM_len la
      have hy := lbM_len lb.1
      rw [lb.2] at hy
      obtain ⟨k, rfl⟩ : ∃ m, k = m + 1 + (nbA a + 1) + 1 := ⟨k - (nbA a + 3), by omega⟩
      have hrow := rowM_len (strOfNums (lbM a)) (strOfNums (lbM b)) (nbA a + 1) 0
      have e1 : spec_LetterSpans.l0 (k + 1 + (nbA a + 1) + 1) high out a = spec_LetterSpans.l0 k high (out ++ [rowM (strOfNums (lbM a)) (strOfNums (lbM b)) (nbA a + 1) 0]) (nextA b) := by
        have q := sRow_l (strOfNums (lbM a)) (strOfNums (lbM b)) (nbA a + 1) (by omega) hx hy high b out (nbA a + 1) (k + 1) 0 [] (by omega) (by omega) (by simp)
        rw [spec_LetterSpans.l0, if_pos c, eS _ (by omega), Option.bind_some, sLetterBytes a _ (by omega), Option.bind_some, if_pos la, sLetterBytes b _ (by omega), Option.bind_some, if_pos lb.1]
        refine q.trans ?_
        rw [spec_LetterSpans.l1, if_neg (by omega), if_pos (by omega), Option.bind_some, w64 (x := b + 1) (by omega) (by omega), List.nil_append]
        unfold nextA
        split <;> rfl
      have e2 : impl_LetterSpans.l0 (k' + 1) high out a = impl_LetterSpans.l0 k' high (out ++ [rowM (strOfNums (lbM a)) (strOfNums (lbM b)) (nbA a + 1) 0]) (nextA b) := by
        have q := iRow_l (strOfNums (lbM a)) (strOfNums (lbM b)) (nbA a + 1) (by omega) hx hy (nbA a + 1) k' 0 [] (by omega) (by omega) (by omega) (by simp)
        rw [impl_LetterSpans.l0, if_pos c, eI _ (by omega), Option.bind_some, impl_rowOf.f, iLetterBytes0 a la.1 _ (by omega), Option.bind_some, iLetterBytes0 b lb.1.1 _ (by omega), Option.bind_some, hx]
        have q' : impl_rowOf.l0 k' (strOfNums (lbM a)) (strOfNums (lbM b)) [] ((nbA a + 1 : Nat) : Int) 0 = _ := q
        rw [q', Option.bind_some, List.nil_append, if_pos (by omega), Option.bind_some, w64 (x := b + 1) (by omega) (by omega)]
        unfold nextA
        split <;> rfl
      rw [e1, e2]
      have lb2 := lb.1.2
      obtain ⟨rest, r1, r2, r3, r4⟩ := ih (nextA b) k k' (out ++ [rowM (strOfNums (lbM a)) (strOfNums (lbM b)) (nbA a + 1) 0]) (by unfold nextA; split <;> omega) (by
          intro hc
          unfold nextA at hc ⊢
          unfold isLetterM at hh ⊢
          split at hc <;> rename_i hq <;> simp only [hq, if_true, if_false] <;> omega) (by omega) (by omega) (by
          rw [List.length_append, List.length_singleton]
          unfold nextA; split <;> omega) (by
          intro row hrw
          rw [List.mem_append, List.mem_singleton] at hrw
          rcases hrw with h | rfl
          · exact hr row h
          · omega) (by unfold nextA; split <;> omega)
      refine ⟨rowM (strOfNums (lbM a)) (strOfNums (lbM b)) (nbA a + 1) 0 :: rest, ?_, ?_, ?_, fun t ht => ?_⟩
      · rw [r1, List.append_assoc]; rfl
      · rw [r2, List.append_assoc]; rfl
      · rw [List.append_assoc] at r3; exact r3
      · have rr := row_has la lb.1 ht lb.2 hg hb.1
        have r4 := r4 t ht
        unfold cntR at r4 ⊢
        rw [List.countP_cons, r4]
        have ht2 := ht.2
        by_cases q : a ≤ t ∧ t ≤ b
        · rw [if_pos (decide_eq_true (rr.2 q)), show (if nextA b ≤ t ∧ t ≤ high then 1 else 0 : Nat) = 0 from if_neg (by unfold nextA; split <;> omega), show (if a ≤ t ∧ t ≤ high then 1 else 0 : Nat) = 1 from if_pos (by omega)]
        · rw [if_neg (show ¬ decide (rowHas (strOfNums (lbM t)) (rowM (strOfNums (lbM a)) (strOfNums (lbM b)) (nbA a + 1) 0)) = true by rw [decide_eq_true_eq]; exact fun g => q (rr.1 g))]
          by_cases q2 : nextA b ≤ t ∧ t ≤ high
          · rw [show (if nextA b ≤ t ∧ t ≤ high then 1 else 0 : Nat) = 1 from if_pos q2, show (if a ≤ t ∧ t ≤ high then 1 else 0 : Nat) = 1 from if_pos (by unfold nextA at q2; split at q2 <;> omega)]
          · rw [show (if nextA b ≤ t ∧ t ≤ high then 1 else 0 : Nat) = 0 from if_neg q2, show (if a ≤ t ∧ t ≤ high then 1 else 0 : Nat) = 0 from if_neg (by unfold nextA at q2; split at q2 <;> omega)]
    · obtain ⟨k, rfl⟩ : ∃ m, k = m + 1 := ⟨k - 1, by omega⟩
      exact ⟨[], by rw [spec_LetterSpans.l0, if_neg c, List.append_nil], by rw [impl_LetterSpans.l0, if_neg c, List.append_nil], by rw [List.append_nil]; omega, fun t ht => by rw [if_neg (by omega)]; rfl⟩
open Classical in
theorem spans_both (a0 a1 : Int) (k : Nat) (hk : 20000000 ≤ k) : ∃ r b, spec_LetterSpans.f k a0 a1 = some (r, b) ∧ impl_LetterSpans.f k a0 a1 = some (r, b) ∧ r.length ≤ 1114112 ∧ (b = true → ∀ t, isLetterM t → cntR (strOfNums (lbM t)) r = if a0 ≤ t ∧ t ≤ a1 then 1 else 0) := by
  obtain ⟨k, rfl⟩ : ∃ m, k = m + 1 := ⟨k - 1, by omega⟩
  unfold spec_LetterSpans.f impl_LetterSpans.f
  rw [Option.bind_some, sLetter, iLetter, Option.bind_some, Option.bind_some]
  have no : ∃ r b, spec_LetterSpans.j0 (k + 1) a0 a1 [] true = some (r, b) ∧ impl_LetterSpans.j0 (k + 1) a0 a1 true = some (r, b) ∧ r.length ≤ 1114112 ∧ (b = true → ∀ t, isLetterM t → cntR (strOfNums (lbM t)) r = if a0 ≤ t ∧ t ≤ a1 then 1 else 0) :=
    ⟨[], false, by rw [spec_LetterSpans.j0, if_pos rfl], by rw [impl_LetterSpans.j0, if_pos rfl], by simp, fun h => by cases h⟩
  by_cases c1 : isLetterM a0
  · rw [decide_eq_true c1, if_pos rfl, if_pos rfl, sLetter, iLetter, Option.bind_some, Option.bind_some]
    by_cases c2 : isLetterM a1
    · rw [decide_eq_true c2, if_pos rfl, if_pos rfl]
      by_cases c3 : a0 > a1
      · rw [decide_eq_true c3]; exact no
      · rw [decide_eq_false c3]
        have h0 := c1.1
        have h1 := c2.1
        obtain ⟨r, e1, e2, e3, e4⟩ := spans_r a1 c2 1200000 a0 k k [] (by omega) (fun _ => c1) (by omega) (by omega) (by simp; omega) (fun row h => by simp at h) (by omega)
        rw [List.nil_append] at e1 e2 e3
        exact ⟨r, true, by rw [spec_LetterSpans.j0, if_neg (by decide)]; exact e1, by rw [impl_LetterSpans.j0, if_neg (by decide)]; exact e2, e3, fun _ => e4⟩
    · rw [decide_eq_false c2, if_neg (by decide), if_neg (by decide)]; exact no
  · rw [decide_eq_false c1, if_neg (by decide), if_neg (by decide)]; exact no
theorem letter_ok {b : List Int} {p : Int} {k : Nat} (hk : 30 ≤ k) (hb : Bytes b) (hp : At b p) : Tot (spec_l1Rd_letter.f k b p) (fun r => At b r.2) := by
  obtain ⟨k, rfl⟩ : ∃ m, k = m + 1 := ⟨k - 1, by omega⟩
  have last : ∀ q, At b q → Tot (spec_l1Rd_letter.j0 (k + 1) b q) (fun r => At b r.2) := by
    intro q hq
    simp only [spec_l1Rd_letter.j0]
    refine (word_ok (by omega) hb hq).bind fun v hv => ?_
    rw [sLetter]
    simp only [bsm]
    exact Tot.ite (fun _ => Tot.pure hv) (fun _ => Tot.pure hv)
  unfold spec_l1Rd_letter.f
  simp only [bsm]
  refine (below_ok 3 hb hp).bind fun v hv => ?_
  refine Tot.ite (fun _ => ?_) (fun _ => ?_)
  · refine (below_ok _ hb hv.2.2).bind fun u hu => ?_
    refine Tot.yes hu.1 (Tot.yes (by have := hu.2.1; simp only [List.length_cons, List.length_nil] at this ⊢; omega) ?_)
    refine (below_ok 3 hb hu.2.2).bind fun x hx => ?_
    rw [sLetter]
    simp only [bsm]
    exact Tot.ite (fun _ => Tot.pure hx.2.2) (fun _ => last _ hx.2.2)
  · refine Tot.ite (fun _ => ?_) (fun _ => last _ hv.2.2)
    refine (below_ok 18 hb hv.2.2).bind fun u hu => ?_
    rw [sLetter]
    simp only [bsm]
    exact Tot.ite (fun _ => Tot.pure hu.2.2) (fun _ => last _ hu.2.2)
theorem drawSpans_ok {b : List Int} {k : Nat} (hk : 100 ≤ k) (hb : Bytes b) : Tot (spec_DrawLetterSpans.f k b) (fun _ => True) := by
  obtain ⟨k, rfl⟩ : ∃ m, k = m + 1 := ⟨k - 1, by omega⟩
  have h0 : At b 0 := ⟨by omega, by omega⟩
  have eo : spec_l1Open.f b = some (b, 0) := by rw [spec_l1Open.f]
  rw [spec_DrawLetterSpans.f, eo]
  simp only [bsm]
  refine (letter_ok (by omega) hb h0).bind fun v hv => ?_
  refine (letter_ok (by omega) hb hv).bind fun u hu => ?_
  have last : ∀ q f, At b q → Tot (spec_DrawLetterSpans.j0 (k + 1) v.1 u.1 f b q) (fun _ => True) := by
    intro q f hq
    simp only [spec_DrawLetterSpans.j0]
    refine Tot.ite (fun _ => Tot.pure trivial) (fun _ => ?_)
    refine (once_ok 16 hb hq).bind fun x hx => ?_
    refine Tot.ite (fun _ => ?_) (fun _ => Tot.pure trivial)
    exact (off_ok 0 1114111 (by omega) (by omega) (by omega) (by omega) (by omega) hb hx).bind fun y hy => Tot.pure trivial
  refine Tot.ite (fun _ => ?_) (fun _ => last _ _ hu)
  exact (once_ok 8 hb hu).bind fun x hx => last _ _ hx
section
variable (low high : Int) (rows : List (List S33)) (try_ : List Int)
open Classical in
theorem in_l (x13 : Int) (s : ByteArray) (hs : s.size ≤ 100) (i : Nat) (hi : i < rows.length) (hR : rows.length ≤ 1114112) (n : Nat) (hn : n ≤ i) (K : Nat) (R : Option Bool) (w : Nat)
    (G : ∀ k, K < k → ∀ n' : Nat, n' = n + w → laws_FnRows.l2 k low high rows try_ x13 s (n' : Int) ((i + 1 : Nat) : Int) = R) (hw : w = if rowHas s (rows.getD i []) then 1 else 0) : ∀ (d k j : Nat) (f : Bool), K + d + 2 < k → s.size - j = d → j ≤ s.size → (f = true → (rows.getD i []).length = s.size) →
      (f = true ↔ ((rows.getD i []).length = s.size ∧ ∀ m : Nat, m < j → (rd_T33 (rows.getD i []) (m : Int)).f0 ≤ bt s (m : Int) ∧ bt s (m : Int) ≤ (rd_T33 (rows.getD i []) (m : Int)).f1)) →
      laws_FnRows.l3 k low high rows try_ x13 s (n : Int) (i : Int) f (j : Int) = R := by
  intro d
  induction d with
  | zero =>
    intro k j f hk hd hj hf hiff
    obtain ⟨k, rfl⟩ : ∃ m, k = m + 1 := ⟨k - 1, by omega⟩
    obtain rfl : j = s.size := by omega
    rw [laws_FnRows.l3]
    by_cases c : f = true
    · rw [if_pos c, if_neg (by omega), nat_next (by omega), nat_next (by omega)]
      have hp : rowHas s (rows.getD i []) := hiff.1 c
      rw [if_pos hp] at hw
      exact G k (by omega) (n + 1) (by omega)
    · rw [if_neg c, nat_next (by omega)]
      have hp : ¬ rowHas s (rows.getD i []) := fun g => c (hiff.2 g)
      rw [if_neg hp] at hw
      exact G k (by omega) n (by omega)
  | succ d ih =>
    intro k j f hk hd hj hf hiff
    obtain ⟨k, rfl⟩ : ∃ m, k = m + 1 := ⟨k - 1, by omega⟩
    rw [laws_FnRows.l3]
    by_cases c : f = true
    · have hlen := hf c
      have b0 := bt_lo s (j : Int)
      have b1 := bt_hi s (j : Int)
      have er : rd_L3 rows (i : Int) = rows.getD i [] := by
        unfold rd_L3
        rw [Int.toNat_natCast]
      have old := (hiff.1 c).2
      rw [if_pos c, er, if_pos (by omega), if_pos (by omega), if_pos (by omega), if_pos (by omega), if_pos (by omega), w64 (x := bt s (j : Int)) (by omega) (by omega), nat_next (by omega)]
      by_cases g : bt s (j : Int) ≥ (rd_T33 (rows.getD i []) (j : Int)).f0
      · rw [if_pos g]
        refine ih k (j + 1) _ (by omega) (by omega) (by omega) (fun _ => hlen) ?_
        rw [decide_eq_true_eq]
        constructor
        · intro h
          refine ⟨hlen, fun m hm => ?_⟩
          by_cases e : m = j
          · subst e; exact ⟨g, h⟩
          · exact old m (by omega)
        · intro h
          exact (h.2 j (by omega)).2
      · rw [if_neg g]
        refine ih k (j + 1) false (by omega) (by omega) (by omega) (fun h => by cases h) ?_
        constructor
        · intro h; cases h
        · intro h; exact absurd (h.2 j (by omega)).1 g
    · rw [if_neg c, nat_next (by omega)]
      have hp : ¬ rowHas s (rows.getD i []) := fun g => c (hiff.2 ⟨g.1, fun m hm => g.2 m (by omega)⟩)
      rw [if_neg hp] at hw
      exact G k (by omega) n (by omega)
open Classical in
theorem rows_l (t13 : Nat) (ht : t13 < try_.length) (s : ByteArray) (hs : s.size ≤ 100) (hR : rows.length ≤ 1114112) (hok : cntR s rows = if low ≤ rd try_ (t13 : Int) ∧ rd try_ (t13 : Int) ≤ high then 1 else 0) (K : Nat) (G : ∀ k, K < k → laws_FnRows.l1 k low high rows try_ (wrap64 ((t13 : Int) + 1)) = some true) : ∀ (d k i n : Nat), K + 110 * d + 10 < k → rows.length - i = d → i ≤ rows.length → n ≤ i → n + cntR s (rows.drop i) = cntR s rows →
      laws_FnRows.l2 k low high rows try_ (t13 : Int) s (n : Int) (i : Int) = some true := by
  intro d
  induction d with
  | zero =>
    intro k i n hk hd hi hn hc
    obtain ⟨k, rfl⟩ : ∃ m, k = m + 1 := ⟨k - 1, by omega⟩
    rw [List.drop_eq_nil_of_le (by omega)] at hc
    have hc' : n = cntR s rows := by simpa [cntR] using hc
    rw [hok] at hc'
    rw [laws_FnRows.l2, if_neg (by omega), if_pos (by omega), if_pos (by omega)]
    by_cases g1 : rd try_ (t13 : Int) ≥ low
    · rw [if_pos g1]
      by_cases g2 : rd try_ (t13 : Int) ≤ high
      · rw [if_pos ⟨g1, g2⟩] at hc'
        rw [if_pos g2, if_pos (by omega), if_pos g2]
        exact G k (by omega)
      · rw [if_neg (fun h => g2 h.2)] at hc'
        rw [if_neg g2, if_neg g2, if_pos (by omega)]
        exact G k (by omega)
    · rw [if_neg (fun h => g1 h.1)] at hc'
      rw [if_neg g1, if_pos (by omega)]
      exact G k (by omega)
  | succ d ih =>
    intro k i n hk hd hi hn hc
    obtain ⟨k, rfl⟩ : ∃ m, k = m + 1 := ⟨k - 1, by omega⟩
    have hlt : i < rows.length := by omega
    have er : rd_L3 rows (i : Int) = rows.getD i [] := by
      unfold rd_L3
      rw [Int.toNat_natCast]
    have eg : rows.getD i [] = rows[i] := by rw [List.getD_eq_getElem?_getD, List.getElem?_eq_getElem hlt]; rfl
    rw [laws_FnRows.l2, if_pos (by omega), if_pos (by omega), er]
    refine in_l low high rows try_ (t13 : Int) s hs i hlt hR n hn (K + 110 * d + 10) (some true) (if rowHas s (rows.getD i []) then 1 else 0) (fun k hk n' hn' => ?_) rfl s.size k 0 _ (by omega) (by omega) (by omega) (fun h => by have := beq_iff_eq.1 h; omega) ?_
    · refine ih k (i + 1) n' (by omega) (by omega) (by omega) (by rw [hn']; split <;> omega) ?_
      rw [← hc, List.drop_eq_getElem_cons hlt]
      unfold cntR
      rw [List.countP_cons, hn', eg]
      simp only [decide_eq_true_eq]
      omega
    · rw [beq_iff_eq]
      constructor
      · intro h; exact ⟨by omega, fun m hm => by omega⟩
      · intro h; rw [h.1]
theorem tries_l (hT : try_.length ≤ 1000) (hR : rows.length ≤ 1114112) (hok : ∀ t, isLetterM t → cntR (strOfNums (lbM t)) rows = if low ≤ t ∧ t ≤ high then 1 else 0) (c : Nat) (hc : 110 * rows.length + 1000 ≤ c) (d : Nat) : ∀ (k i : Nat), d * c + 20 < k → try_.length - i = d → i ≤ try_.length → laws_FnRows.l1 k low high rows try_ (i : Int) = some true := by
  induction d with
  | zero =>
    intro k i hk hd hi
    obtain ⟨k, rfl⟩ : ∃ m, k = m + 1 := ⟨k - 1, by omega⟩
    rw [laws_FnRows.l1, if_neg (by omega)]
  | succ d ih =>
    intro k i hk hd hi
    rw [Nat.succ_mul] at hk
    obtain ⟨k, rfl⟩ : ∃ m, k = m + 1 := ⟨k - 1, by omega⟩
    rw [laws_FnRows.l1, if_pos (by omega), if_pos (by omega), sLetterBytes _ k (by omega), Option.bind_some]
    by_cases cl : isLetterM (rd try_ (i : Int))
    · have hz := lbM_len cl
      have hn := nbA_le (rd try_ (i : Int))
      rw [if_pos cl, if_neg (by
        intro h
        have : (strOfNums (lbM (rd try_ (i : Int)))).toList.length = 0 := by rw [h]; rfl
        have e : (strOfNums (lbM (rd try_ (i : Int)))).toList = (strOfNums (lbM (rd try_ (i : Int)))).data.toList := ByteArray.toList_eq _
        rw [e] at this
        have : (strOfNums (lbM (rd try_ (i : Int)))).size = 0 := this
        omega)]
      refine rows_l low high rows try_ i (by omega) _ (by omega) hR (hok _ cl) (d * c + 20) (fun k hk => ?_) rows.length k 0 0 (by omega) (by omega) (by omega) (by omega) (by rw [List.drop_zero, Nat.zero_add])
      rw [nat_next (by omega)]
      exact ih k (i + 1) hk (by omega) (by omega)
    · clear hok
      rw [if_neg cl, if_pos (show (⟨#[]⟩ : ByteArray).toList = [] by rw [ByteArray.toList_eq]), nat_next (by omega)]
      exact ih k (i + 1) (by omega) (by omega) (by omega)
theorem more_l (more : List Int) (hm : Bytes more) (hR : rows.length ≤ 1114112) (hok : ∀ t, isLetterM t → cntR (strOfNums (lbM t)) rows = if low ≤ t ∧ t ≤ high then 1 else 0) : ∀ (d k i : Nat) (l : List Int), d + 200000000100 < k → 40 - i ≤ d → i ≤ 40 → l.length ≤ 100 + i → laws_FnRows.l0 k more low high rows l (i : Int) = some true := by
  have hl := hm.len
  have fin : ∀ k (l : List Int), 200000000050 < k → l.length ≤ 1000 → laws_FnRows.j3 k low high rows l = some true := by
    intro k l hk hl
    obtain ⟨k, rfl⟩ : ∃ m, k = m + 1 := ⟨k - 1, by omega⟩
    rw [laws_FnRows.j3]
    exact tries_l low high rows l hl hR hok 200000000 (by omega) l.length k 0 (by omega) (by omega) (by omega)
  intro d
  induction d with
  | zero =>
    intro k i l hk hd hi hx
    obtain ⟨k, rfl⟩ : ∃ m, k = m + 1 := ⟨k - 1, by omega⟩
    rw [laws_FnRows.l0, w64 (x := (i : Int) + 2) (by omega) (by omega)]
    by_cases c : (i : Int) + 2 < (more.length : Int)
    · rw [if_pos c, if_neg (by omega)]; exact fin k l (by omega) (by omega)
    · rw [if_neg c]; exact fin k l (by omega) (by omega)
  | succ d ih =>
    intro k i l hk hd hi hx
    obtain ⟨k, rfl⟩ : ∃ m, k = m + 1 := ⟨k - 1, by omega⟩
    rw [laws_FnRows.l0, w64 (x := (i : Int) + 2) (by omega) (by omega)]
    by_cases c : (i : Int) + 2 < (more.length : Int)
    · rw [if_pos c]
      by_cases c2 : (i : Int) < 30
      · rw [if_pos c2, w64 (x := (i : Int) + 1) (by omega) (by omega), if_pos (by omega), if_pos (by omega), if_pos (by omega), if_pos (by omega), if_pos (by omega), if_pos (by omega), w64 (x := (i : Int) + 3) (by omega) (by omega), show (i : Int) + 3 = ((i + 3 : Nat) : Int) by omega]
        exact ih k (i + 3) _ (by omega) (by omega) (by omega) (by rw [List.length_append, List.length_singleton]; omega)
      · rw [if_neg c2]; exact fin k l (by omega) (by omega)
    · rw [if_neg c]; exact fin k l (by omega) (by omega)
end
theorem FnRows : laws_FnRows.Pure := by
  intro code more _ _ g2 _ _ g5
  suffices ∀ k, 400000000000 ≤ k → laws_FnRows.f k code more = some true from ⟨400000000000, this _ (Nat.le_refl _)⟩
  intro k hk
  have eb : ∀ l : List Int, laws_big.f l = some (decide ((l.length : Int) > 1048576)) := fun l => by rw [laws_big.f]
  obtain ⟨k, rfl⟩ : ∃ m, k = m + 3 := ⟨k - 3, by omega⟩
  rw [laws_FnRows.f, eb, eb]
  simp only [bsm, decide_eq_true_eq]
  by_cases h1 : (code.length : Int) > 1048576
  · rw [if_pos h1]
    simp only [laws_FnRows.j0, if_true]
  rw [if_neg h1]
  by_cases h2 : (more.length : Int) > 1048576
  · rw [decide_eq_true h2]
    simp only [laws_FnRows.j0, if_true]
  rw [decide_eq_false h2]
  have hb := Bytes.of h1 g2
  have hm := Bytes.of h2 g5
  obtain ⟨⟨low, high⟩, e, _⟩ := drawSpans_ok (k := k + 2) (by omega) hb
  simp only [laws_FnRows.j0, Bool.false_eq_true, if_false]
  rw [e]
  simp only [bsm]
  obtain ⟨r, b, e1, e2, e3, e4⟩ := spans_both low high (k + 2) (by omega)
  rw [e1, e2]
  simp only [bsm, bne_self_eq_false, Bool.false_eq_true, if_false]
  simp only [laws_FnRows.j1, Bool.false_eq_true, if_false]
  cases b with
  | false => rw [if_neg (by decide)]
  | true =>
    rw [if_pos rfl]
    exact more_l low high r more hm e3 (e4 rfl) 40 (k + 1) 0 _ (by omega) (by omega) (by omega) (by simp)
end Go.Proofs.Ytaemhmgcjpcicaa.Pure
