/- Flags in a row, and what a class of bytes is made by. -/
import Derived.Test.YtfajfjgkkgigoaaKitClass
import Derived.Below
import Derived.Laws.Tables
namespace Go.Proofs.Ytfajfjgkkgigoaa.Kit
open Go.RowKit

def flags (xs : List Bool) : Array Value := (xs.map Value.bool).toArray
theorem flags_size (xs : List Bool) : (flags xs).size = xs.length := by simp [flags]
theorem flags_get (xs : List Bool) (i : Nat) (h : i < xs.length) : (flags xs)[i]? = some (.bool (xs.getD i false)) := by
  simp [flags, h]
theorem flags_one (xs : List Bool) : (flags xs).all (·.oneCell') = true := by
  rw [Array.all_eq_true_iff_forall_mem]
  intro v hv
  simp only [flags, List.mem_toArray, List.mem_map] at hv
  obtain ⟨b, _, rfl⟩ := hv
  rfl
theorem flags_set (xs : List Bool) (i : Nat) (b : Bool) : (flags xs).setIfInBounds i (.bool b) = flags (xs.set i b) := by
  simp [flags, List.map_set]
theorem below_setRow {B : Nat} {a w : World} (h : Below B a w) {g : Nat} (hg : B ≤ g) (cs : Array Value) : Below B a (w.setRow g cs) := by
  exact ⟨h.os, h.tape, h.output, by simpa using h.size, fun k hk => (setRow_other _ _ _ _ (by omega)).trans (h.block k hk)⟩
theorem getD_set (xs : List Bool) (i c : Nat) (hi : i < xs.length) : ((xs.set i true).getD c false = true) ↔ (xs.getD c false = true ∨ c = i) := by
  rw [List.getD_eq_getElem?_getD, List.getD_eq_getElem?_getD]
  by_cases h : c = i
  · subst h
    rw [List.getElem?_set_self hi]; simp
  · rw [List.getElem?_set_ne (fun e => h e.symm)]
    simp [h]

end Go.Proofs.Ytfajfjgkkgigoaa.Kit
