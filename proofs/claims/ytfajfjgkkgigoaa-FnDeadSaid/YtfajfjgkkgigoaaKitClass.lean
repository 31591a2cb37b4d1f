/- Classes of bytes as lists of pairs: when one is right. -/
import Derived.Test.YtfajfjgkkgigoaaKit
namespace Go.Proofs.Ytfajfjgkkgigoaa.Kit
open Go.RowKit Go.Proofs.YtfajfjgkkgigoaaW.PrintWords Go.Proofs.YtfajfjgkkgigoaaW.PrintLast Go.Proofs.YtfajfjgkkgigoaaW.PrintMore
open Classical

def lo (l : List (Int × Int)) (i : Nat) : Int := (l.getD i (0, 0)).1
def hi (l : List (Int × Int)) (i : Nat) : Int := (l.getD i (0, 0)).2

def okAt (l : List (Int × Int)) (i : Nat) : Prop := 0 ≤ lo l i ∧ lo l i ≤ hi l i ∧ hi l i ≤ 255 ∧ (0 < i → hi l (i - 1) + 2 ≤ lo l i)
def classOk (l : List (Int × Int)) : Prop := ∀ i, i < l.length → okAt l i

theorem classOk_lo {l : List (Int × Int)} (h : classOk l) : ∀ i : Nat, i < l.length → 2 * (i : Int) ≤ lo l i
  | 0, h0 => (h 0 h0).1
  | i + 1, h0 => by
    have h1 := classOk_lo h i (by omega)
    have h2 := h i (by omega)
    have h3 := (h (i + 1) h0).2.2.2 (by omega)
    have h4 := h2.2.1
    rw [Nat.add_sub_cancel] at h3
    omega

theorem classOk_len {l : List (Int × Int)} (h : classOk l) : l.length ≤ 128 := by
  rcases Nat.lt_or_ge 128 l.length with h1 | h1
  · have h2 := classOk_lo h 128 h1
    have h3 := (h 128 h1).2
    omega
  · exact h1

/-- whether it is right, from the i-th span on -/
def okFrom (l : List (Int × Int)) (i : Nat) : Prop := ∀ j, i ≤ j → j < l.length → okAt l j

theorem okFrom_step {l : List (Int × Int)} {i : Nat} (hi : i < l.length) : okFrom l i ↔ okAt l i ∧ okFrom l (i + 1) := by
  constructor
  · intro h
    exact ⟨h i (Nat.le_refl _) hi, fun j h1 h2 => h j (by omega) h2⟩
  · rintro ⟨h1, h2⟩ j h3 h4
    rcases Nat.eq_or_lt_of_le h3 with h5 | h5
    · exact h5 ▸ h1
    · exact h2 j h5 h4

theorem okFrom_end {l : List (Int × Int)} {i : Nat} (hi : l.length ≤ i) : okFrom l i := fun j h1 h2 => by omega

theorem okFrom_zero (l : List (Int × Int)) : okFrom l 0 ↔ classOk l := ⟨fun h i hi => h i (Nat.zero_le _) hi, fun h i _ hi => h i hi⟩

/-- how many bytes a class has -/
noncomputable def countM (l : List (Int × Int)) : Int := if classOk l then ((List.range l.length).map fun i => hi l i - lo l i + 1).sum else -1

end Go.Proofs.Ytfajfjgkkgigoaa.Kit
