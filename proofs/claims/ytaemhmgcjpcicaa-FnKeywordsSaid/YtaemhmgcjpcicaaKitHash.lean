/- Hashes of words, and tables of them. -/
import Derived.Test.YtaemhmgcjpcicaaKit
import Derived.WalkKit
namespace Go.Proofs.Ytaemhmgcjpcicaa.Kit
open Go.RowKit Go.Proofs.YtaemhmgcjpcicaaW.PrintWords Go.Proofs.YtaemhmgcjpcicaaW.PrintLast Go.Proofs.YtaemhmgcjpcicaaW.PrintMore

theorem str_inj {a b : ByteArray} (h : a.toList = b.toList) : a = b := by
  rw [ByteArray.toList_eq, ByteArray.toList_eq] at h
  exact Go.WideShapes.bytes_inj h

def hashLoop (t : ByteArray) : Nat → Int → Int → Int
  | 0, _, h => h
  | d + 1, i, h => hashLoop t d (i + 1) ((h * 31 + bt t i) % 1000003)

theorem hashLoop_rng (t : ByteArray) : ∀ (d : Nat) (i h : Int), 0 ≤ h → h ≤ 1000003 → 0 ≤ hashLoop t d i h ∧ hashLoop t d i h ≤ 1000003
  | 0, _, _, h0, h1 => ⟨h0, h1⟩
  | d + 1, i, h, h0, h1 => hashLoop_rng t d (i + 1) _ (by omega) (by omega)

/-- what HashOf tells -/
def hashM (t : ByteArray) (a z : Int) : Int := if t.size > 60 ∨ ¬ (0 ≤ a ∧ a ≤ 5000) ∨ ¬ (1 ≤ z ∧ z ≤ 1024) then -1 else hashLoop t t.size 0 a % z

theorem hashM_rng (t : ByteArray) (a z : Int) : -1 ≤ hashM t a z ∧ (hashM t a z < z ∨ hashM t a z = -1) := by
  unfold hashM
  split
  · omega
  · rename_i h
    have : 0 < z := by omega
    have h1 := Int.emod_nonneg (hashLoop t t.size 0 a) (show z ≠ 0 by omega)
    have h2 := Int.emod_lt_of_pos (hashLoop t t.size 0 a) this
    omega

def slot (l : List ByteArray) (i : Nat) : ByteArray := l.getD i ByteArray.empty
def kwAt (seed : Int) (l : List ByteArray) (i : Nat) : Prop := (slot l i).toList = [] ∨ hashM (slot l i) seed l.length = i
def kwFrom (seed : Int) (l : List ByteArray) (i : Nat) : Prop := ∀ j, i ≤ j → j < l.length → kwAt seed l j
def kwOk (seed : Int) (l : List ByteArray) : Prop := (0 ≤ seed ∧ seed ≤ 5000) ∧ (1 ≤ l.length ∧ l.length ≤ 1024) ∧ kwFrom seed l 0

theorem kwFrom_step {seed : Int} {l : List ByteArray} {i : Nat} (hi : i < l.length) : kwFrom seed l i ↔ kwAt seed l i ∧ kwFrom seed l (i + 1) := by
  constructor
  · intro h
    exact ⟨h i (Nat.le_refl _) hi, fun j h1 h2 => h j (by omega) h2⟩
  · rintro ⟨h1, h2⟩ j h3 h4
    rcases Nat.eq_or_lt_of_le h3 with h5 | h5
    · exact h5 ▸ h1
    · exact h2 j h5 h4
theorem kwFrom_end {seed : Int} {l : List ByteArray} {i : Nat} (hi : l.length ≤ i) : kwFrom seed l i := fun j h1 h2 => by omega

open Classical in
/-- the slot of a word -/
noncomputable def kwFind (seed : Int) (l : List ByteArray) (w : ByteArray) : Int :=
  if kwOk seed l ∧ w.toList ≠ [] then (if 0 ≤ hashM w seed l.length ∧ (slot l (hashM w seed l.length).toNat) = w then hashM w seed l.length else -1) else -1

end Go.Proofs.Ytaemhmgcjpcicaa.Kit
