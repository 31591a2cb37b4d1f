/- Tables: blocks of bytes, ranges of numbers, when packed rows and tables are right. -/
import Derived.Test.YtfajfjgkkgigoaaKit
namespace Go.Proofs.Ytfajfjgkkgigoaa.Kit
open Go.RowKit Go.Proofs.YtfajfjgkkgigoaaW.PrintWords Go.Proofs.YtfajfjgkkgigoaaW.PrintLast Go.Proofs.YtfajfjgkkgigoaaW.PrintMore

/-- the numbers of blocks, d more from the i-th on, n so far: none if one is too great -/
def blkLoop (l : List Int) : Nat → Nat → Int → Option Int
  | 0, _, n => some n
  | d + 1, i, n => if 0 ≤ rd l i ∧ rd l i ≤ n then blkLoop l d (i + 1) (mx n (rd l i + 1)) else none
/-- how many blocks there are, if the numbers are right -/
def blocksM (l : List Int) : Option Int := if l.length = 256 then blkLoop l 256 0 0 else none

theorem mx_le {a b c : Int} (h : a ≤ c) (h' : b ≤ c) : mx a b ≤ c := by unfold mx; split <;> omega
theorem le_mx_left (a b : Int) : a ≤ mx a b := by unfold mx; split <;> omega
theorem le_mx_right (a b : Int) : b ≤ mx a b := by unfold mx; split <;> omega

theorem blkLoop_some {l : List Int} : ∀ (d i : Nat) (n m : Int), blkLoop l d i n = some m → n ≤ m ∧ ∀ j, i ≤ j → j < i + d → 0 ≤ rd l (j : Int) ∧ rd l (j : Int) < m
  | 0, i, n, m, h => by
    have := Option.some.inj h
    exact ⟨by omega, fun j h1 h2 => by omega⟩
  | d + 1, i, n, m, h => by
    unfold blkLoop at h
    by_cases hc : 0 ≤ rd l (i : Int) ∧ rd l (i : Int) ≤ n
    · rw [if_pos hc] at h
      obtain ⟨h1, h2⟩ := blkLoop_some d (i + 1) _ m h
      have a := le_mx_left n (rd l (i : Int) + 1)
      have b := le_mx_right n (rd l (i : Int) + 1)
      refine ⟨by omega, fun j h3 h4 => ?_⟩
      rcases Nat.eq_or_lt_of_le h3 with h5 | h5
      · subst h5; omega
      · exact h2 j h5 (by omega)
    · rw [if_neg hc] at h
      exact absurd h (by simp)
theorem blkLoop_le {l : List Int} : ∀ (d i : Nat) (n m : Int), n ≤ i → blkLoop l d i n = some m → m ≤ i + d
  | 0, i, n, m, hn, h => by
    have := Option.some.inj h
    omega
  | d + 1, i, n, m, hn, h => by
    unfold blkLoop at h
    by_cases hc : 0 ≤ rd l (i : Int) ∧ rd l (i : Int) ≤ n
    · rw [if_pos hc] at h
      have := blkLoop_le d (i + 1) _ m (mx_le (by omega) (by omega)) h
      omega
    · rw [if_neg hc] at h
      exact absurd h (by simp)
theorem blocksM_some {l : List Int} {m : Int} (h : blocksM l = some m) : l.length = 256 ∧ 1 ≤ m ∧ m ≤ 256 ∧ ∀ j : Nat, j < 256 → 0 ≤ rd l (j : Int) ∧ rd l (j : Int) < m := by
  unfold blocksM at h
  by_cases hl : l.length = 256
  · rw [if_pos hl] at h
    have h1 := blkLoop_some 256 0 0 m h
    have h2 := blkLoop_le 256 0 0 m (by omega) h
    have h3 := h1.2 0 (by omega) (by omega)
    exact ⟨hl, by omega, by omega, fun j hj => h1.2 j (by omega) (by omega)⟩
  · rw [if_neg hl] at h
    exact absurd h (by simp)

/-- all numbers of a list lie from a to b -/
def inR (l : List Int) (a b : Int) : Prop := ∀ i, i < l.length → a ≤ rd l (i : Int) ∧ rd l (i : Int) ≤ b
theorem rd_nat {l : List Int} {i : Nat} (h : i < l.length) : rd l (i : Int) = l[i] := by
  rw [rd_get (by rw [Int.toNat_natCast]; exact h)]
  simp
theorem inR_mem (l : List Int) (a b : Int) : (∀ x ∈ l, a ≤ x ∧ x ≤ b) ↔ inR l a b := by
  constructor
  · intro h i hi
    rw [rd_nat hi]
    exact h _ (List.getElem_mem hi)
  · intro h x hx
    obtain ⟨i, hi, rfl⟩ := List.mem_iff_getElem.1 hx
    have := h i hi
    rwa [rd_nat hi] at this

/-- packed rows are right -/
def packedOk (b base dflt chk val acc : List Int) : Prop :=
  (blocksM b).isSome = true ∧ (1 ≤ base.length ∧ base.length ≤ 1000 ∧ dflt.length = base.length ∧ acc.length = base.length) ∧
    (inR base 0 200000 ∧ inR dflt 0 (base.length - 1) ∧ inR acc (-1) 39) ∧ (chk.length = val.length ∧ chk.length ≤ 200000) ∧
    inR chk (-1) (base.length - 1) ∧ inR val 0 (base.length - 1) ∧ ∀ i, i < chk.length → rd chk (i : Int) = -1 → rd val (i : Int) = 0

def drow (nx : List (List Int)) (i : Nat) : List Int := nx.getD i []
/-- a row of a table is right -/
def rowP (nx : List (List Int)) (m : Int) (acc : List Int) (i : Nat) : Prop := (-1 ≤ rd acc (i : Int) ∧ rd acc (i : Int) ≤ 39) ∧ ((drow nx i).length : Int) = m ∧ inR (drow nx i) 0 (nx.length - 1)
/-- a table is right -/
def dfaOk (b : List Int) (nx : List (List Int)) (acc : List Int) : Prop :=
  ∃ m, blocksM b = some m ∧ (1 ≤ nx.length ∧ nx.length ≤ 1000 ∧ acc.length = nx.length) ∧ fromN (rowP nx m acc) nx.length 0
theorem dfaOk_iff {b : List Int} {nx : List (List Int)} {acc : List Int} {m : Int} (hm : blocksM b = some m) (h1 : 1 ≤ nx.length ∧ nx.length ≤ 1000 ∧ acc.length = nx.length) : dfaOk b nx acc ↔ fromN (rowP nx m acc) nx.length 0 :=
  ⟨fun ⟨m', e, _, h⟩ => by rw [hm] at e; obtain rfl := Option.some.inj e; exact h, fun h => ⟨m, hm, h1, h⟩⟩

/-- the state that comes by a byte -/
def stepM (b : List Int) (nx : List (List Int)) (s c : Int) : Int := rd (drow nx s.toNat) (rd b c)

theorem bt_nat (t : ByteArray) (i : Int) : ∃ c : Nat, bt t i = c ∧ c < 256 := ⟨(bt t i).toNat, by have := bt_lo t i; omega, by have := bt_lo t i; have := bt_hi t i; omega⟩

/-- what a right table is good for: each step stays in it -/
theorem dfa_step {b : List Int} {nx : List (List Int)} {acc : List Int} (h : dfaOk b nx acc) {s c : Int} (_ : 0 ≤ s) (s1 : s < nx.length) (c0 : 0 ≤ c) (c1 : c < 256) :
    b.length = 256 ∧ acc.length = nx.length ∧ (0 ≤ rd b c ∧ rd b c < (drow nx s.toNat).length) ∧ (0 ≤ stepM b nx s c ∧ stepM b nx s c < nx.length) := by
  obtain ⟨m, hm, h1, h2⟩ := h
  have hb := blocksM_some hm
  have hr := h2 s.toNat (by omega) (by omega)
  have hc := hb.2.2.2 c.toNat (by omega)
  rw [Int.toNat_of_nonneg c0] at hc
  have hx := hr.2.2 (rd b c).toNat (by have := hr.2.1; omega)
  rw [Int.toNat_of_nonneg hc.1] at hx
  exact ⟨hb.1, h1.2.2, ⟨hc.1, by have := hr.2.1; omega⟩, hx.1, by unfold stepM; omega⟩

end Go.Proofs.Ytfajfjgkkgigoaa.Kit
