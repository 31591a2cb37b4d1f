/- The program's OffsetOf and the reference's come to one number: whatever the text, the line and the column. -/
import Derived.Test.YtnmlkaoaandemaaPFnExactOffsetOfx2
import Derived.Test.YtnmlkaoaandemaaKit
import Derived.Test.YtnmlkaoaandemaaKitLines
namespace Go.Proofs.Ytnmlkaoaandemaa.Pure
open Go.RowKit Go.Proofs.Ytnmlkaoaandemaa.PFnExactOffsetOf Go.Proofs.YtnmlkaoaandemaaW.PrintWords Go.Proofs.YtnmlkaoaandemaaW.PrintLast Go.Proofs.YtnmlkaoaandemaaW.PrintMore Go.Proofs.Ytnmlkaoaandemaa.Kit
theorem sLineStarts_l (t : ByteArray) (ht : t.size ≤ 1048576) (d : Nat) : ∀ (k : Nat) (acc : List Int) (i : Int), d < k → 0 ≤ i → (t.size : Int) - i = d → LsOk acc i →
    spec_LineStarts.l0 k t acc i = some (lsLoop t d i acc) := by
  induction d with
  | zero =>
    intro k acc i hk h0 hd _
    obtain ⟨k, rfl⟩ : ∃ m, k = m + 1 := ⟨k - 1, by omega⟩
    simp only [spec_LineStarts.l0]
    rw [if_neg (by omega)]
    rfl
  | succ d ih =>
    intro k acc i hk h0 hd ha
    obtain ⟨k, rfl⟩ : ∃ m, k = m + 1 := ⟨k - 1, by omega⟩
    have hl := ha.len
    simp only [spec_LineStarts.l0]
    rw [if_pos (by omega), if_pos h0, w64 (by omega) (by omega)]
    by_cases hb : bt t i = 10
    · rw [if_pos hb, if_pos (by omega), ih k _ _ (by omega) (by omega) (by omega) ha.snoc]
      simp only [lsLoop]; rw [if_pos hb]
    · rw [if_neg hb, ih k _ _ (by omega) (by omega) (by omega) (ha.more (by omega))]
      simp only [lsLoop]; rw [if_neg hb]

theorem LsOk.zero : LsOk [0] 0 := ⟨by simp, by simp, fun j hj => by
    have : j = 0 := by simp at hj; omega
    subst this; simp, fun j hj => by simp at hj⟩

theorem sLineStarts (t : ByteArray) (ht : t.size ≤ 1048576) (k : Nat) (hk : t.size < k) : spec_LineStarts.f k t = some (if t.size > 20000 then [] else lsM t) := by
  unfold spec_LineStarts.f
  simp only [Option.bind_some]
  by_cases h : t.size > 20000
  · rw [if_pos (by omega), if_pos h]
  · rw [if_neg (by omega), if_neg h, if_pos (by simp)]
    exact sLineStarts_l t ht t.size k _ 0 hk (by omega) (by omega) LsOk.zero

theorem iLineStarts_l (t : ByteArray) (ht : t.size ≤ 1048576) (d : Nat) : ∀ (k : Nat) (acc : List Int) (i : Int), d < k → 0 ≤ i → (t.size : Int) - i = d → LsOk acc i →
    impl_lineStarts.l0 k t acc (t.size : Int) i = some (lsLoop t d i acc) := by
  induction d with
  | zero =>
    intro k acc i hk h0 hd _
    obtain ⟨k, rfl⟩ : ∃ m, k = m + 1 := ⟨k - 1, by omega⟩
    simp only [impl_lineStarts.l0]
    rw [if_neg (by omega)]
    rfl
  | succ d ih =>
    intro k acc i hk h0 hd ha
    obtain ⟨k, rfl⟩ : ∃ m, k = m + 1 := ⟨k - 1, by omega⟩
    have hl := ha.len
    simp only [impl_lineStarts.l0]
    rw [if_pos (by omega), if_pos h0, if_pos (by omega), w64 (by omega) (by omega)]
    by_cases hb : bt t i = 10
    · rw [if_pos hb, if_pos (by omega), ih k _ _ (by omega) (by omega) (by omega) ha.snoc]
      simp only [lsLoop]; rw [if_pos hb]
    · rw [if_neg hb, ih k _ _ (by omega) (by omega) (by omega) (ha.more (by omega))]
      simp only [lsLoop]; rw [if_neg hb]

theorem iLineStarts (t : ByteArray) (ht : t.size ≤ 1048576) (k : Nat) (hk : t.size < k) : impl_LineStarts.f k t = some (if t.size > 20000 then [] else lsM t) := by
  unfold impl_LineStarts.f impl_lineStarts.f
  by_cases h : t.size > 20000
  · rw [if_pos (by omega), if_pos h]
  · rw [if_neg (by omega), if_neg h, iLineStarts_l t ht t.size k _ 0 hk (by omega) (by omega) LsOk.zero]
    rfl
theorem sIn (a b c : Int) : spec_l1In.f a b c = some (decide (b ≤ a ∧ a ≤ c)) := by
  unfold spec_l1In.f
  by_cases h : a ≥ b
  · rw [if_pos h]; congr 1; simp; omega
  · rw [if_neg h]; congr 1; simp; omega
theorem iWithin (a b c : Int) : impl_within.f a b c = some (decide (b ≤ a ∧ a ≤ c)) := by
  unfold impl_within.f
  by_cases h : a ≥ b
  · rw [if_pos h]; congr 1; simp; omega
  · rw [if_neg h]; congr 1; simp; omega
/-- where a line lies: its first byte, and behind its last -/
def lineFrom (t : ByteArray) (a : Int) : Int := rd (lsM t) (a - 1)
def lineTo (t : ByteArray) (a : Int) : Int := if a < ((lsM t).length : Int) then rd (lsM t) a - 1 else t.size
/-- is there such a line? -/
def isLine (t : ByteArray) (a : Int) : Prop := t.size ≤ 20000 ∧ 1 ≤ a ∧ a ≤ ((lsM t).length : Int)
instance (t : ByteArray) (a : Int) : Decidable (isLine t a) := by unfold isLine; infer_instance

theorem line_rng (t : ByteArray) (a : Int) (h : isLine t a) : 0 ≤ lineFrom t a ∧ lineFrom t a ≤ lineTo t a ∧ lineTo t a ≤ t.size := by
  obtain ⟨_, h1, h2⟩ := h
  have r := lsM_rng t (j := a - 1) (by omega) (by omega)
  unfold lineFrom lineTo
  split
  · rename_i h3
    have i := lsM_inc t (j := a - 1) (by omega) (by omega)
    have r2 := lsM_rng t (j := a) (by omega) (by omega)
    rw [Int.sub_add_cancel] at i
    omega
  · omega

theorem sLineOf (t : ByteArray) (ht : t.size ≤ 1048576) (a : Int) (ha : -9223372036854775808 ≤ a ∧ a ≤ 9223372036854775807) (k : Nat) (hk : t.size < k) :
    spec_LineOf.f k t a = some (if isLine t a then (t.extract (lineFrom t a).toNat (lineTo t a).toNat, true) else ((⟨#[]⟩ : ByteArray), false)) := by
  have hlen := lsM_len t
  unfold spec_LineOf.f
  rw [sLineStarts t ht k hk]
  simp only [Option.bind_some, sIn]
  by_cases h : t.size > 20000
  · rw [if_pos h, if_neg (by simp; omega), if_neg (by unfold isLine; omega)]
  · rw [if_neg h]
    by_cases g : isLine t a
    · have r := line_rng t a g
      have r2 := r
      rw [if_pos g]
      unfold isLine at g
      unfold lineFrom lineTo at r
      unfold lineFrom lineTo
      rw [if_pos (by simp; omega), w64 (x := a - 1) (by omega) (by omega), if_pos (by omega), if_pos (by omega)]
      by_cases g3 : a < ((lsM t).length : Int)
      · rw [if_pos g3] at r
        rw [if_pos g3, if_pos g3, if_pos (by omega), w64 (x := rd (lsM t) a - 1) (by omega) (by omega), if_pos (by omega), if_pos (by omega), if_pos (by omega)]
      · rw [if_neg g3] at r
        rw [if_neg g3, if_neg g3, if_pos (by omega), if_pos (by omega), if_pos (by omega)]
    · rw [if_neg g]
      unfold isLine at g
      rw [if_neg (by simp; omega)]

theorem iLineSpan (t : ByteArray) (ht : t.size ≤ 1048576) (a : Int) (ha : -9223372036854775808 ≤ a ∧ a ≤ 9223372036854775807) (k : Nat) (hk : t.size < k) :
    impl_lineSpan.f k t a = some (if isLine t a then (lineFrom t a, lineTo t a, true) else (0, 0, false)) := by
  have hlen := lsM_len t
  unfold impl_lineSpan.f impl_size_int64.f impl_length.f
  rw [iLineStarts t ht k hk]
  simp only [Option.bind_some, iWithin]
  by_cases h : t.size > 20000
  · rw [if_pos h, if_neg (by simp; omega), if_neg (by unfold isLine; omega)]
  · rw [if_neg h]
    by_cases g : isLine t a
    · have r := line_rng t a g
      rw [if_pos g]
      unfold isLine at g
      unfold lineFrom lineTo at r
      unfold lineFrom lineTo
      rw [if_pos (by simp; omega), w64 (x := a - 1) (by omega) (by omega)]
      by_cases g3 : a < ((lsM t).length : Int)
      · have r2 := lsM_rng t (j := a) (by omega) (by omega)
        rw [if_pos g3, if_neg (by omega), if_pos (by omega), if_pos (by omega), if_pos (by omega), if_pos (by omega), w64 (x := rd (lsM t) a - 1) (by omega) (by omega)]
      · rw [if_pos (show a = ((lsM t).length : Int) by omega), if_pos (by omega), if_pos (by omega)]
        simp only [if_neg g3]
    · rw [if_neg g]
      unfold isLine at g
      rw [if_neg (by simp; omega)]

theorem FnExactOffsetOf : laws_FnExactOffsetOf.Pure := by
  intro t a c _ ha hc
  have hb := wf64 ha
  have hc := wf64 hc
  by_cases ht : (t.size : Int) > 1048576
  · exact ⟨0, by unfold laws_FnExactOffsetOf.f; rw [if_pos ht]⟩
  · refine ⟨t.size + 1, ?_⟩
    unfold laws_FnExactOffsetOf.f spec_OffsetOf.f impl_OffsetOf.f
    rw [if_neg ht, sLineOf t (by omega) a hb _ (by omega), iLineSpan t (by omega) a hb _ (by omega)]
    simp only [Option.bind_some]
    by_cases g : isLine t a
    · have r := line_rng t a g
      have hlen := lsM_len t
      have es : (t.extract (lineFrom t a).toNat (lineTo t a).toNat).size = (lineTo t a).toNat - (lineFrom t a).toNat := by
        rw [ByteArray.size_extract]; omega
      have hs : spec_LineStarts.f (t.size + 1) t = some (lsM t) := by
        rw [sLineStarts t (by omega) _ (by omega), if_neg (by have := g.1; omega)]
      have g2 := g
      unfold isLine at g2
      have e1 : wrap64 ((((lineTo t a).toNat - (lineFrom t a).toNat : Nat) : Int) + 1) = lineTo t a - lineFrom t a + 1 := by rw [w64 (by omega) (by omega)]; omega
      have e2 : wrap64 (wrap64 (lineTo t a - lineFrom t a) + 1) = lineTo t a - lineFrom t a + 1 := by rw [w64 (x := lineTo t a - lineFrom t a) (by omega) (by omega), w64 (by omega) (by omega)]
      rw [if_pos g, if_pos g]
      simp only [if_true, sIn, iWithin, Option.bind_some, es, e1, e2, hs, decide_eq_true_eq]
      rw [w64 (x := a - 1) (by omega) (by omega)]
      by_cases hcc : 1 ≤ c ∧ c ≤ lineTo t a - lineFrom t a + 1
      · rw [if_pos hcc, if_pos hcc, if_pos (by omega), if_pos (by omega)]
        unfold lineFrom
        simp
      · rw [if_neg hcc, if_neg hcc]
        simp
    · rw [if_neg g, if_neg g]
      simp
end Go.Proofs.Ytnmlkaoaandemaa.Pure
