/- Tables: blocks of bytes, ranges of numbers, when packed rows and tables are right. -/
import Derived.Test.YtlfhnlghfgjooaaKit
namespace Go.Proofs.Ytlfhnlghfgjooaa.Kit
open Go.RowKit Go.Proofs.YtlfhnlghfgjooaaW.PrintWords Go.Proofs.YtlfhnlghfgjooaaW.PrintLast Go.Proofs.YtlfhnlghfgjooaaW.PrintMore

/-- the numbers of blocks, d more from the i-th on, n so far: none if one is too great -/
def blkLoop (l : List Int) : Nat → Nat → Int → Option Int
  | 0, _, n => some n
  | d + 1, i, n => if 0 ≤ rd l i ∧ rd l i ≤ n then blkLoop l d (i + 1) (mx n (rd l i + 1)) else none
/-- how many blocks there are, if the numbers are right -/
def blocksM (l : List Int) : Option Int := if l.length = 256 then blkLoop l 256 0 0 else none

theorem mx_le {a b c : Int} (h : a ≤ c) (h' : b ≤ c) : mx a b ≤ c := by unfold mx; split <;> omega
theorem le_mx_left (a b : Int) : a ≤ mx a b := by unfold mx; split <;> omega
theorem le_mx_right (a b : Int) : b ≤ mx a b := by unfold mx; split <;> omega

theorem blkLoop_some {l : List Int} : ∀ (d i : Nat) (n m : Int), blkLoop l d i n = some m → n ≤ m ∧ ∀ j, i ≤ j → j < i + d → 0 ≤ rd l (j : Int) ∧ rd l (j : Int) < m
  | 0, i, n, m, h => by
    have := Option.some.inj h
    exact ⟨by omega, fun j h1 h2 => by omega⟩
  | d + 1, i, n, m, h => by
    unfold blkLoop at h
    by_cases hc : 0 ≤ rd l (i : Int) ∧ rd l (i : Int) ≤ n
    · rw [if_pos hc] at h
      obtain ⟨h1, h2⟩ := blkLoop_some d (i + 1) _ m h
      have a := le_mx_left n (rd l (i : Int) + 1)
      have b := le_mx_right n (rd l (i : Int) + 1)
      refine ⟨by omega, fun j h3 h4 => ?_⟩
      rcases Nat.eq_or_lt_of_le h3 with h5 | h5
      · subst h5; omega
      · exact h2 j h5 (by omega)
    · rw [if_neg hc] at h
      exact absurd h (by simp)
theorem blkLoop_le {l : List Int} : ∀ (d i : Nat) (n m : Int), n ≤ i → blkLoop l d i n = some m → m ≤ i + d
  | 0, i, n, m, hn, h => by
    have := Option.some.inj h
    omega
  | d + 1, i, n, m, hn, h => by
    unfold blkLoop at h
    by_cases hc : 0 ≤ rd l (i : Int) ∧ rd l (i : Int) ≤ n
    · rw [if_pos hc] at h
      have := blkLoop_le d (i + 1) _ m (mx_le (by omega) (by omega)) h
      omega
    · rw [if_neg hc] at h
      exact absurd h (by simp)
theorem blocksM_some {l : List Int} {m : Int} (h : blocksM l = some m) : l.length = 256 ∧ 1 ≤ m ∧ m ≤ 256 ∧ ∀ j : Nat, j < 256 → 0 ≤ rd l (j : Int) ∧ rd l (j : Int) < m := by
  unfold blocksM at h
  by_cases hl : l.length = 256
  · rw [if_pos hl] at h
    have h1 := blkLoop_some 256 0 0 m h
    have h2 := blkLoop_le 256 0 0 m (by omega) h
    have h3 := h1.2 0 (by omega) (by omega)
    exact ⟨hl, by omega, by omega, fun j hj => h1.2 j (by omega) (by omega)⟩
  · rw [if_neg hl] at h
    exact absurd h (by simp)

/-- all numbers of a list lie from a to b -/
def inR (l : List Int) (a b : Int) : Prop := ∀ i, i < l.length → a ≤ rd l (i : Int) ∧ rd l (i : Int) ≤ b
theorem rd_nat {l : List Int} {i : Nat} (h : i < l.length) : rd l (i : Int) = l[i] := by
  rw [rd_get (by rw [Int.toNat_natCast]; exact h)]
  simp
theorem inR_mem (l : List Int) (a b : Int) : (∀ x ∈ l, a ≤ x ∧ x ≤ b) ↔ inR l a b := by
  constructor
  · intro h i hi
    rw [rd_nat hi]
    exact h _ (List.getElem_mem hi)
  · intro h x hx
    obtain ⟨i, hi, rfl⟩ := List.mem_iff_getElem.1 hx
    have := h i hi
    rwa [rd_nat hi] at this

/-- packed rows are right -/
def packedOk (b base dflt chk val acc : List Int) : Prop :=
  (blocksM b).isSome = true ∧ (1 ≤ base.length ∧ base.length ≤ 1000 ∧ dflt.length = base.length ∧ acc.length = base.length) ∧
    (inR base 0 200000 ∧ inR dflt 0 (base.length - 1) ∧ inR acc (-1) 39) ∧ (chk.length = val.length ∧ chk.length ≤ 200000) ∧
    inR chk (-1) (base.length - 1) ∧ inR val 0 (base.length - 1) ∧ ∀ i, i < chk.length → rd chk (i : Int) = -1 → rd val (i : Int) = 0

end Go.Proofs.Ytlfhnlghfgjooaa.Kit
