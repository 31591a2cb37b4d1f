/- Maps keyed by two numbers that a call makes: what they hold, pair by pair. -/
import Derived.Test.YtaemhmgcjpcicaaKitMap
import Derived.DeepKeys5
namespace Go.Proofs.Ytaemhmgcjpcicaa.Kit
open Go.RowKit Go.Maps
open Go (World)

/-- what two numbers are told as -/
def pairKey (a b : Int) : Lit := .string (keyBytes [.int .i64 a, .int .i64 b])
theorem keyOf_pair {P : Program} {k e : TypeId} (hk : P.underlying k = some (.array 2 e)) (he : P.underlying e = some (.int .i64)) {q : Nat} (hq : P.types.size = q + 1) (hkt : P.keyType k = true) (hce : P.cellsOf e = 1) (hck : P.cellsOf k = 2)
    (hf : ∀ a b : Int, (Value.agg #[.int .i64 a, .int .i64 b]).formed P k = true) {a b : Int} (ha : (Lit.int .i64 a).wf = true) (hb : (Lit.int .i64 b).wf = true) :
    keyOf P k (.agg #[.int .i64 a, .int .i64 b]) = some (pairKey a b) := by
  unfold keyOf
  simp only [hk]
  rw [if_pos (by rw [hkt, hf a b]; rfl), hq]
  have e1 : P.keyLits (q + 1) e [.int .i64 a] = some [.int .i64 a] := by simp [Program.keyLits, he, ha]
  have e2 : P.keyLits (q + 1) e [.int .i64 b] = some [.int .i64 b] := by simp [Program.keyLits, he, hb]
  have e3 : P.keyLits (q + 1 + 1) k [.int .i64 a, .int .i64 b] = some [.int .i64 a, .int .i64 b] := by
    unfold Program.keyLits
    simp only [hk, hck, hce]
    rw [if_pos (by rfl), show List.range 2 = [0, 1] by rfl]
    simp [e1, e2]
  have e4 : (Value.agg #[.int .i64 a, .int .i64 b]).cells.toList = [.int .i64 a, .int .i64 b] := rfl
  rw [e4, e3]
  rfl
open Classical in
/-- the pairs that a row of such holds -/
noncomputable def pairs (S : List (Int × Int)) (z : Lit) : Bool := decide (∃ p ∈ S, z = pairKey p.1 p.2)
section
variable {P : Program} {k e t : TypeId} {w w' : World} {b n : Nat} {L : Lit → Bool}
theorem SetB.drewN (h : SetB w P k e b n L) (m : Nat) : SetB (w.drewN m) P k e b n L := h
theorem SetB.below (h : SetB w P k e b n L) (hb : Below w.heap.size w w') : SetB w' P k e b n L := h.kept (row := none) ⟨hb.os, hb.tape, hb.output, hb.size, fun i hi _ => hb.block i hi⟩ (by simp)
end
/-- a kind of key of two numbers -/
structure PairKeyed (P : Program) (k : TypeId) : Prop where
  law : Keyed P k
  key : ∀ {a b : Int}, (Lit.int .i64 a).wf = true → (Lit.int .i64 b).wf = true → keyOf P k (.agg #[.int .i64 a, .int .i64 b]) = some (pairKey a b)
theorem PairKeyed.mk' {P : Program} {k e : TypeId} (hl : laidOutB P = true) (hrow : k < P.types.size) (hat : P.keyTypeAt 2 k = true) (hk : P.underlying k = some (.array 2 e)) (he : P.underlying e = some (.int .i64)) {q : Nat} (hq : P.types.size = q + 1) (hkt : P.keyType k = true) (hce : P.cellsOf e = 1) (hck : P.cellsOf k = 2)
    (hf : ∀ a b : Int, (Value.agg #[.int .i64 a, .int .i64 b]).formed P k = true) : PairKeyed P k :=
  ⟨Keyed.of_law (deep_law_laid hl (m := 2) (by omega) hrow hat (by rw [hk])), fun ha hb => keyOf_pair hk he hq hkt hce hck hf ha hb⟩
section
variable {P : Program} {k : TypeId}
theorem PairKeyed.inj (K : PairKeyed P k) {a b c d : Int} (ha : (Lit.int .i64 a).wf = true) (hb : (Lit.int .i64 b).wf = true) (hc : (Lit.int .i64 c).wf = true) (hd : (Lit.int .i64 d).wf = true) (h : pairKey a b = pairKey c d) : a = c ∧ b = d := by
  have := K.law.inj (K.key ha hb) (by rw [h]; exact K.key hc hd)
  injection this with h1
  simpa using h1
open Classical in
theorem pairs_at (K : PairKeyed P k) {S : List (Int × Int)} (hS : ∀ p ∈ S, (Lit.int .i64 p.1).wf = true ∧ (Lit.int .i64 p.2).wf = true) {a b : Int} (ha : (Lit.int .i64 a).wf = true) (hb : (Lit.int .i64 b).wf = true) : pairs S (pairKey a b) = decide ((a, b) ∈ S) := by
  unfold pairs
  refine decide_eq_decide.2 ⟨?_, fun h => ⟨(a, b), h, rfl⟩⟩
  rintro ⟨⟨c, d⟩, hp, h⟩
  obtain ⟨hc, hd⟩ := hS _ hp
  obtain ⟨rfl, rfl⟩ := K.inj ha hb hc hd h
  exact hp
end
open Classical in
theorem pairs_snoc (S : List (Int × Int)) (a b : Int) : pairs (S ++ [(a, b)]) = fun z => if z = pairKey a b then true else pairs S z := by
  funext z
  unfold pairs
  by_cases h : z = pairKey a b
  · rw [if_pos h]
    exact decide_eq_true ⟨(a, b), by simp, h⟩
  · rw [if_neg h]
    refine decide_eq_decide.2 ⟨?_, fun ⟨p, hp, hz⟩ => ⟨p, List.mem_append.2 (.inl hp), hz⟩⟩
    rintro ⟨p, hp, hz⟩
    rcases List.mem_append.1 hp with hp | hp
    · exact ⟨p, hp, hz⟩
    · rw [List.mem_singleton] at hp
      subst hp
      exact absurd hz h
open Classical in
theorem pairs_nil : pairs [] = fun _ => false := by
  funext z
  unfold pairs
  exact decide_eq_false (by rintro ⟨p, hp, _⟩; simp at hp)
end Go.Proofs.Ytaemhmgcjpcicaa.Kit
