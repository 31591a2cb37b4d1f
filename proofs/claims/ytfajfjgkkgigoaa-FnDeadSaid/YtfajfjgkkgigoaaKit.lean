/- Small words about numbers and lists for the pure statements: nothing of Go, nothing of the program. -/
import Derived.Test.YtfajfjgkkgigoaaWMore
namespace Go.Proofs.Ytfajfjgkkgigoaa.Kit
open Go.RowKit Go.Proofs.YtfajfjgkkgigoaaW.PrintWords Go.Proofs.YtfajfjgkkgigoaaW.PrintLast Go.Proofs.YtfajfjgkkgigoaaW.PrintMore

theorem w64 {x : Int} (h : -9223372036854775808 ≤ x) (h' : x ≤ 9223372036854775807) : wrap64 x = x := by
  unfold wrap64
  omega

theorem tmod_pos {a b : Int} (h : 0 ≤ a) : Int.tmod a b = a % b := Int.tmod_eq_emod_of_nonneg h
theorem tdiv_pos {a b : Int} (h : 0 ≤ a) : Int.tdiv a b = a / b := Int.tdiv_eq_ediv_of_nonneg h

theorem rd_get {xs : List Int} {i : Int} (h : i.toNat < xs.length) : rd xs i = xs[i.toNat] := by
  unfold rd
  rw [List.getD_eq_getElem?_getD, List.getElem?_eq_getElem h]
  rfl

theorem bt_lo (s : ByteArray) (i : Int) : 0 ≤ bt s i := (bt_range s i).1
theorem bt_hi (s : ByteArray) (i : Int) : bt s i ≤ 255 := (bt_range s i).2

/-- a list's own numbers are kept where each is read just after it is written -/
def marks : Nat → Nat → List Int
  | _, 0 => []
  | m, n + 1 => (m : Int) :: marks (m + 1) n

theorem wf64 {a : Int} (h : (Lit.int .i64 a).wf = true) : -9223372036854775808 ≤ a ∧ a ≤ 9223372036854775807 := by
  simp [Lit.wf, IntKind.min, IntKind.max, IntKind.signed, IntKind.bits] at h
  omega

/-- it holds of all from the i-th on -/
def fromN (P : Nat → Prop) (n i : Nat) : Prop := ∀ j, i ≤ j → j < n → P j
theorem fromN_step {P : Nat → Prop} {n i : Nat} (hi : i < n) : fromN P n i ↔ P i ∧ fromN P n (i + 1) := by
  constructor
  · intro h
    exact ⟨h i (Nat.le_refl _) hi, fun j h1 h2 => h j (by omega) h2⟩
  · rintro ⟨h1, h2⟩ j h3 h4
    rcases Nat.eq_or_lt_of_le h3 with h5 | h5
    · exact h5 ▸ h1
    · exact h2 j h5 h4
theorem fromN_end {P : Nat → Prop} {n i : Nat} (hi : n ≤ i) : fromN P n i := fun j h1 h2 => by omega
theorem fromN_zero {P : Nat → Prop} {n : Nat} : fromN P n 0 ↔ ∀ j, j < n → P j := ⟨fun h j hj => h j (Nat.zero_le _) hj, fun h j _ hj => h j hj⟩
/-- a round that goes on: the answer from i on is that from i + 1 on -/
theorem fromN_go {P : Nat → Prop} {n i : Nat} (hi : i < n) (h : P i) {Q : Prop} : (fromN P n (i + 1) ∧ Q) ↔ (fromN P n i ∧ Q) :=
  ⟨fun g => ⟨(fromN_step hi).2 ⟨h, g.1⟩, g.2⟩, fun g => ⟨((fromN_step hi).1 g.1).2, g.2⟩⟩
/-- a round that ends it -/
theorem fromN_no {P : Nat → Prop} {n i : Nat} (hi : i < n) (h : ¬ P i) {Q : Prop} : ¬ (fromN P n i ∧ Q) := fun g => h ((fromN_step hi).1 g.1).1
theorem nat_next {i : Nat} (h : i ≤ 4611686018427387904) : wrap64 ((i : Int) + 1) = ((i + 1 : Nat) : Int) := by
  rw [w64 (by omega) (by omega)]
  omega

end Go.Proofs.Ytfajfjgkkgigoaa.Kit
