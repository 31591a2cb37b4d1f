/- Whatever comes, an answer comes, and something is known of it. -/
import Derived.Test.YtaemhmgcjpcicaaKit
namespace Go.Proofs.Ytaemhmgcjpcicaa.Kit
open Go.RowKit Go.Proofs.YtaemhmgcjpcicaaW.PrintWords Go.Proofs.YtaemhmgcjpcicaaW.PrintLast Go.Proofs.YtaemhmgcjpcicaaW.PrintMore

/-- it answers, and P holds of the answer -/
def Tot {α : Type} (o : Option α) (P : α → Prop) : Prop := ∃ v, o = some v ∧ P v
theorem Tot.pure {α : Type} {P : α → Prop} {v : α} (h : P v) : Tot (some v) P := ⟨v, rfl, h⟩
theorem Tot.bind {α β : Type} {P : α → Prop} {Q : β → Prop} {o : Option α} {f : α → Option β} (h : Tot o P) (hf : ∀ v, P v → Tot (f v) Q) : Tot (o.bind f) Q := by
  obtain ⟨v, rfl, hv⟩ := h
  exact hf v hv
theorem Tot.ite {α : Type} {P : α → Prop} {c : Prop} [Decidable c] {a b : Option α} (h1 : c → Tot a P) (h2 : ¬ c → Tot b P) : Tot (if c then a else b) P := by
  by_cases h : c
  · rw [if_pos h]; exact h1 h
  · rw [if_neg h]; exact h2 h
theorem Tot.yes {α : Type} {P : α → Prop} {c : Prop} [Decidable c] {a b : Option α} (h : c) (h1 : Tot a P) : Tot (if c then a else b) P := by
  rw [if_pos h]; exact h1
theorem Tot.no {α : Type} {P : α → Prop} {c : Prop} [Decidable c] {a b : Option α} (h : ¬ c) (h1 : Tot b P) : Tot (if c then a else b) P := by
  rw [if_neg h]; exact h1
theorem Tot.imp {α : Type} {P Q : α → Prop} {o : Option α} (h : Tot o P) (hi : ∀ v, P v → Q v) : Tot o Q := by
  obtain ⟨v, e, hv⟩ := h
  exact ⟨v, e, hi v hv⟩
theorem Tot.of {α : Type} {P : α → Prop} {o : Option α} {v : α} (e : o = some v) (h : P v) : Tot o P := ⟨v, e, h⟩

/-- as Option.bind_some, but never by computation: the kernel is not asked to compare what is bound -/
theorem bsm {α β : Type} (a : α) (f : α → Option β) : (some a).bind f = f a := Eq.trans (Option.bind_some a f) (Eq.refl (f a))

/-- a reader's bytes -/
structure Bytes (b : List Int) : Prop where
  len : b.length ≤ 1048576
  lo : ∀ i, 0 ≤ rd b i
  hi : ∀ i, rd b i ≤ 255
/-- where it stands -/
def At (b : List Int) (p : Int) : Prop := 0 ≤ p ∧ p ≤ b.length
theorem Bytes.of {b : List Int} (hl : ¬ ((b.length : Int) > 1048576)) (h : ∀ x ∈ b, (Lit.int .u8 x).wf = true) : Bytes b := by
  have g : ∀ i, 0 ≤ rd b i ∧ rd b i ≤ 255 := by
    intro i
    by_cases hi : i.toNat < b.length
    · rw [rd_get hi]
      have := h _ (List.getElem_mem hi)
      simp [Lit.wf, IntKind.min, IntKind.max, IntKind.signed, IntKind.bits] at this
      omega
    · unfold rd
      rw [List.getD_eq_getElem?_getD, List.getElem?_eq_none (by omega)]
      exact ⟨Int.le_refl _, by decide⟩
  exact ⟨by omega, fun i => (g i).1, fun i => (g i).2⟩
def i64 (x : Int) : Prop := -9223372036854775808 ≤ x ∧ x ≤ 9223372036854775807
theorem i64_wrap (x : Int) : i64 (wrap64 x) := by
  unfold i64 wrap64
  omega

end Go.Proofs.Ytaemhmgcjpcicaa.Kit
