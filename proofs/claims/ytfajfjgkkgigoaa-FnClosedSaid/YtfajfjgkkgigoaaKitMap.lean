/- Maps that a call makes: what they hold, key by key. -/
import Derived.Test.YtfajfjgkkgigoaaKit
import Derived.Maps.OwnSet
namespace Go.Proofs.Ytfajfjgkkgigoaa.Kit
open Go.RowKit Go.Maps
open Go (World)

theorem plainElem_bool_inv {H : Type} {P : Program} {e : TypeId} (he : P.underlying e = some .bool) {v : Value} {z : DataW H × List MemPlace} (h : plainElem P e v = some z) : ∃ b, v = .bool b ∧ z = (.lit (.bool b), []) := by
  unfold plainElem at h
  rw [he] at h
  cases v <;> simp at h
  exact ⟨_, rfl, h.symm⟩

/-- block b is a map of bools that holds L -/
def SetB (w : World) (P : Program) (k e : TypeId) (b n : Nat) (L : Lit → Bool) : Prop :=
  ∃ D : DataW Unit, w.ownsMap P k (plainElem P e) b n D ∧ ∀ kl, D.atKey kl (.lit (.bool false)) = .lit (.bool (L kl))
theorem SetB.made (w : World) (P : Program) (k e : TypeId) : SetB (w.alloc (.map #[] 0)) P k e w.heap.size 0 (fun _ => false) :=
  ⟨_, World.ownsMap_made _ _ _ _, fun kl => by simp [DataW.atKey]⟩
section
variable {P : Program} {k e t : TypeId} {w w' : World} {b n : Nat} {L : Lit → Bool}
theorem SetB.kept {row : Option Nat} (h : SetB w P k e b n L) (hg : w.grownBy w' row) (hne : some b ≠ row) : SetB w' P k e b n L := by
  obtain ⟨D, h1, h2⟩ := h
  exact ⟨D, h1.kept hg hne, h2⟩
theorem SetB.look (h : SetB w P k e b n L) (K : Keyed P k) (ht : P.underlying t = some (.map k e)) (he : P.underlying e = some .bool) (hz : (zeroValue e).run P w = .ok (.bool false) w) {key : Value} {kl : Lit} (hkey : keyOf P k key = some kl) :
    (Instr.lookup t (.map (some b)) key false).run P w = .ok (.bool (L kl)) w := by
  obtain ⟨D, h1, h2⟩ := h
  obtain ⟨v, ps, hrun, hv⟩ := h1.lookup K ht hz (plainElem_bool he false) hkey
  obtain ⟨c, rfl, hc⟩ := plainElem_bool_inv he hv
  simp only [Prod.mk.injEq] at hc
  have e := hc.1
  rw [h2 kl] at e
  injection e with e
  injection e with e
  rw [hrun, e]
open Classical in
theorem SetB.store (h : SetB w P k e b n L) (K : Keyed P k) (ht : P.underlying t = some (.map k e)) (he : P.underlying e = some .bool) (hn : n < maxLen) {key : Value} {kl : Lit} (hkey : keyOf P k key = some kl) (v : Bool) :
    ∃ w', (Instr.mapUpdate t (.map (some b)) key (.bool v)).run P w = .ok () w' ∧ SetB w' P k e b (n + 1) (fun z => if z = kl then v else L z) ∧ w.grownBy w' (some b) := by
  obtain ⟨D, h1, h2⟩ := h
  obtain ⟨w', hrun, h3, hg⟩ := h1.update K ht hn hkey (plainElem_bool he v)
  refine ⟨w', hrun, ⟨_, h3, fun z => ?_⟩, hg⟩
  by_cases e : z = kl
  · subst e
    simp only [if_true]
    exact Maps.atKey_put_same h1.isMap (K.key hkey) _ _
  · simp only [if_neg e]
    rw [Maps.atKey_put_other e, h2 z]
end

/-- block b is a map of c numbers that holds L -/
def NumB (w : World) (P : Program) (k e : TypeId) (b n : Nat) (L : Lit → Option Int) (c : Nat) : Prop :=
  ∃ D : DataW Unit, w.ownsMap P k (plainElem P e) b n D ∧ (∀ kl, Maps.has D kl = (L kl).isSome) ∧ (∀ kl, D.atKey kl (.lit (.int .i64 0)) = .lit (.int .i64 ((L kl).getD 0))) ∧ Maps.size D = c
theorem NumB.made (w : World) (P : Program) (k e : TypeId) : NumB (w.alloc (.map #[] 0)) P k e w.heap.size 0 (fun _ => none) 0 :=
  ⟨_, World.ownsMap_made _ _ _ _, fun kl => rfl, fun kl => by simp [DataW.atKey], rfl⟩
section
variable {P : Program} {k e t : TypeId} {w w' : World} {b n c : Nat} {L : Lit → Option Int}
theorem NumB.kept {row : Option Nat} (h : NumB w P k e b n L c) (hg : w.grownBy w' row) (hne : some b ≠ row) : NumB w' P k e b n L c := by
  obtain ⟨D, h1, h2⟩ := h
  exact ⟨D, h1.kept hg hne, h2⟩
theorem NumB.look (h : NumB w P k e b n L c) (K : Keyed P k) (ht : P.underlying t = some (.map k e)) (he : P.underlying e = some (.int .i64)) (hz : (zeroValue e).run P w = .ok (.int .i64 0) w) {key : Value} {kl : Lit} (hkey : keyOf P k key = some kl) :
    (Instr.lookup t (.map (some b)) key false).run P w = .ok (.int .i64 ((L kl).getD 0)) w := by
  obtain ⟨D, h1, _, h2, _⟩ := h
  obtain ⟨c, hrun, hc, _⟩ := h1.lookup_int K ht he hz hkey
  rw [h2 kl] at hc
  injection hc with hc
  injection hc with _ hc
  rw [hrun, hc]
theorem NumB.look_ok (h : NumB w P k e b n L c) (K : Keyed P k) (ht : P.underlying t = some (.map k e)) (he : P.underlying e = some (.int .i64)) (hz : (zeroValue e).run P w = .ok (.int .i64 0) w) {key : Value} {kl : Lit} (hkey : keyOf P k key = some kl) :
    (Instr.lookup t (.map (some b)) key true).run P w = .ok (.tuple #[.int .i64 ((L kl).getD 0), .bool (L kl).isSome]) w := by
  obtain ⟨D, h1, h0, h2, _⟩ := h
  obtain ⟨v, ps, hrun, hv⟩ := h1.look_ok K ht hz (plainElem_int he (by decide)) hkey
  obtain ⟨c, rfl, hc, _⟩ := plainElem_int_inv he hv
  simp only [Prod.mk.injEq] at hc
  have e := hc.1
  rw [h2 kl] at e
  injection e with e
  injection e with _ e
  rw [hrun, e, h0]
theorem NumB.len (h : NumB w P k e b n L c) (ht : P.underlying t = some (.map k e)) (ty : TypeId) : (Builtin.len_ #[t] ty #[.map (some b)]).run P w = .ok (.int .i64 c) w := by
  obtain ⟨D, h1, _, _, h2⟩ := h
  rw [← h2]
  exact h1.len ht ty
theorem NumB.le (h : NumB w P k e b n L c) : c ≤ n := by
  obtain ⟨D, h1, _, _, h2⟩ := h
  rw [← h2]
  exact h1.size_le
open Classical in
theorem NumB.store (h : NumB w P k e b n L c) (K : Keyed P k) (ht : P.underlying t = some (.map k e)) (he : P.underlying e = some (.int .i64)) (hn : n < maxLen) {key : Value} {kl : Lit} (hkey : keyOf P k key = some kl) (v : Int) (hv : (Lit.int .i64 v).wf = true) :
    ∃ w', (Instr.mapUpdate t (.map (some b)) key (.int .i64 v)).run P w = .ok () w' ∧ NumB w' P k e b (n + 1) (fun z => if z = kl then some v else L z) (if (L kl).isSome then c else c + 1) ∧ w.grownBy w' (some b) := by
  obtain ⟨D, h1, h0, h2, hc⟩ := h
  obtain ⟨w', hrun, h3, hg⟩ := h1.update K ht hn hkey (plainElem_int he hv)
  refine ⟨w', hrun, ⟨_, h3, fun z => ?_, fun z => ?_, ?_⟩, hg⟩
  · by_cases e : z = kl
    · subst e
      rw [Maps.has_put_same h1.isMap (K.key hkey)]
      simp
    · simp only [if_neg e]
      rw [Maps.has_put_other e, h0 z]
  · by_cases e : z = kl
    · subst e
      simp only [if_true, Option.getD_some]
      exact Maps.atKey_put_same h1.isMap (K.key hkey) _ _
    · simp only [if_neg e]
      rw [Maps.atKey_put_other e, h2 z]
  · rw [Maps.size_put (h1.tidy K), h0 kl, hc]
end

end Go.Proofs.Ytfajfjgkkgigoaa.Kit
