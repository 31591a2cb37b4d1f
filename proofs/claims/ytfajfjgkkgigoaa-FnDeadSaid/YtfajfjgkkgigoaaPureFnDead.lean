/- From a dead state only dead states that accept nothing come, and from each other one there is a way to an accept: whatever is drawn. -/
import Derived.Test.YtfajfjgkkgigoaaPFnDeadx18
import Derived.Test.YtfajfjgkkgigoaaKit
import Derived.Test.YtfajfjgkkgigoaaKitClass
import Derived.Test.YtfajfjgkkgigoaaKitTab
import Derived.Test.YtfajfjgkkgigoaaKitArr
import Derived.Test.YtfajfjgkkgigoaaKitRows
namespace Go.Proofs.Ytfajfjgkkgigoaa.Pure
open Go.RowKit Go.Proofs.Ytfajfjgkkgigoaa.PFnDead Go.Proofs.YtfajfjgkkgigoaaW.PrintWords Go.Proofs.YtfajfjgkkgigoaaW.PrintLast Go.Proofs.YtfajfjgkkgigoaaW.PrintMore Go.Proofs.Ytfajfjgkkgigoaa.Kit
set_option linter.unusedVariables false
theorem sIn (a b c : Int) : spec_l1In.f a b c = some (decide (b ≤ a ∧ a ≤ c)) := by
 unfold spec_l1In.f
 by_cases h : a ≥ b
 ·rw [if_pos h]; congr 1; simp; omega
 ·rw [if_neg h]; congr 1; simp; omega
theorem iWithin (a b c : Int) : impl_within.f a b c = some (decide (b ≤ a ∧ a ≤ c)) := by
 unfold impl_within.f
 by_cases h : a ≥ b
 ·rw [if_pos h]; congr 1; simp; omega
 ·rw [if_neg h]; congr 1; simp; omega
def bi_Edge (y : S85) : Prop := y.f2.length ≤ 1048576
def toP (x : S160) : Int × Int := (x.f0, x.f1)
theorem toP_lo (l : List S160) (i : Int) : (rd_T160 l i).f0 = lo (l.map toP) i.toNat := by
 unfold rd_T160 lo
 rw [List.getD_eq_getElem?_getD, List.getD_eq_getElem?_getD, List.getElem?_map]
 cases l[i.toNat]? <;> rfl
theorem toP_hi (l : List S160) (i : Int) : (rd_T160 l i).f1 = hi (l.map toP) i.toNat := by
 unfold rd_T160 hi
 rw [List.getD_eq_getElem?_getD, List.getD_eq_getElem?_getD, List.getElem?_map]
 cases l[i.toNat]? <;> rfl
open Classical in
theorem sClassOk_l (l : List S160) (hl : l.length ≤ 1048576) (d : Nat) : ∀ (k : Nat) (i : Nat), d < k → l.length - i = d → i ≤ l.length → (∀ j, j < i → okAt (l.map toP) j) →
  spec_ClassOk.l0 k l (i : Int) = some (decide (okFrom (l.map toP) i)) := by
 induction d with
 | zero =>
  intro k i hk hd hle _
  obtain ⟨k, rfl⟩ : ∃ m, k = m + 1 := ⟨k - 1, by omega⟩
  simp only [spec_ClassOk.l0]
  rw [if_neg (by omega), decide_eq_true (okFrom_end (by simp; omega))]
 | succ d ih =>
  intro k i hk hd hle hp
  obtain ⟨k, rfl⟩ : ∃ m, k = m + 1 := ⟨k - 1, by omega⟩
  have hlt : i < (l.map toP).length := by simp; omega
  have hst := okFrom_step (l := l.map toP) hlt
  have hne : ¬ okAt (l.map toP) i → decide (okFrom (l.map toP) i) = false := fun h => decide_eq_false (fun g => h (hst.1 g).1)
  simp only [spec_ClassOk.l0, toP_lo, toP_hi, sIn, Option.bind_some, decide_eq_true_eq]
  rw [if_pos (by omega), if_pos (by omega)]
  have ei : ((i : Nat) : Int).toNat = i := by omega
  rw [ei]
  by_cases h1 : 0 ≤ lo (l.map toP) i ∧ lo (l.map toP) i ≤ 255
  ·rw [if_pos h1]
   by_cases h2 : lo (l.map toP) i ≤ hi (l.map toP) i ∧ hi (l.map toP) i ≤ 255
   ·rw [if_pos h2]
    have en : wrap64 ((i : Int) + 1) = ((i + 1 : Nat) : Int) := by rw [w64 (by omega) (by omega)]; omega
    have go : okAt (l.map toP) i → spec_ClassOk.l0 k l (wrap64 ((i : Int) + 1)) = some (decide (okFrom (l.map toP) i)) := by
     intro g
     rw [en, ih k (i + 1) (by omega) (by omega) (by omega) (fun j hj => by
      rcases Nat.lt_or_eq_of_le (Nat.le_of_lt_succ hj) with h | h
      ·exact hp j h
      ·exact h ▸ g)]
     congr 1
     exact decide_eq_decide.2 ⟨fun h => hst.2 ⟨g, h⟩, fun h => (hst.1 h).2⟩
    by_cases h4 : (i : Int) > 0
    ·have hq := hp (i - 1) (by omega)
     have e1 : (wrap64 ((i : Int) - 1)) = ((i - 1 : Nat) : Int) := by rw [w64 (by omega) (by omega)]; omega
     have e2 : (((i - 1 : Nat) : Int)).toNat = i - 1 := by omega
     have q1 := hq.1
     have q2 := hq.2.1
     have q3 := hq.2.2.1
     rw [if_pos h4, e1, if_pos (by omega), if_pos (by omega), e2, w64 (x := hi (l.map toP) (i - 1) + 2) (by omega) (by omega)]
     by_cases h5 : lo (l.map toP) i < hi (l.map toP) (i - 1) + 2
     ·rw [if_pos h5, hne (fun g => by have := g.2.2.2 (by omega); omega)]
     ·rw [if_neg h5]
      exact go ⟨by omega, by omega, by omega, fun _ => by omega⟩
    ·rw [if_neg h4]
     exact go ⟨by omega, by omega, by omega, fun h => by omega⟩
   ·rw [if_neg h2, hne (fun g => h2 ⟨g.2.1, g.2.2.1⟩)]
  ·rw [if_neg h1, hne (fun g => h1 ⟨g.1, by have := g.2.1; have := g.2.2.1; omega⟩)]
open Classical in
theorem sClassOk (l : List S160) (hl : l.length ≤ 1048576) (k : Nat) (hk : l.length < k) : spec_ClassOk.f k l = some (decide (classOk (l.map toP))) := by
 unfold spec_ClassOk.f
 by_cases h : (l.length : Int) > 128
 ·rw [if_pos h, decide_eq_false]
  intro g
  have := classOk_len g
  simp at this
  omega
 ·rw [if_neg h]
  have e : spec_ClassOk.l0 k l 0 = some (decide (okFrom (l.map toP) 0)) := sClassOk_l l hl l.length k 0 hk (by omega) (by omega) (fun j hj => by omega)
  rw [e]
  congr 1
  exact decide_eq_decide.2 (okFrom_zero _)
def edgeOk (n : Int) (e : S85) : Prop := (0 ≤ e.f0 ∧ e.f0 ≤ n - 1) ∧ (0 ≤ e.f1 ∧ e.f1 ≤ n - 1) ∧ classOk (e.f2.map toP)
def endOk (n : Int) (i : Nat) (e : S156) : Prop := (0 ≤ e.f0 ∧ e.f0 ≤ n - 1) ∧ e.f1 = i
def edgeP (n : Int) (l : List S85) (i : Nat) : Prop := edgeOk n (rd_T85 l i)
def endP (n : Int) (l : List S156) (i : Nat) : Prop := endOk n i (rd_T156 l i)
def nfaOk (n : Int) (es : List S85) (fs : List S156) : Prop := (1 ≤ n ∧ n ≤ 3000) ∧ (es.length ≤ 12000 ∧ fs.length ≤ 40) ∧ fromN (edgeP n es) es.length 0 ∧ fromN (endP n fs) fs.length 0

theorem edge_len {es : List S85} (g : ∀ y ∈ es, y.f2.length ≤ 1048576) (i : Nat) : (rd_T85 es i).f2.length ≤ 1048576 := by
 unfold rd_T85
 rw [Int.toNat_natCast, List.getD_eq_getElem?_getD]
 rcases Nat.lt_or_ge i es.length with h | h
 ·rw [List.getElem?_eq_getElem h]
  exact g _ (List.getElem_mem h)
 ·rw [List.getElem?_eq_none h]
  simp [z85]

open Classical in
theorem sNfa_l1 (n : Int) (hn : 1 ≤ n ∧ n ≤ 3000) (es : List S85) (fs : List S156) (hf : fs.length ≤ 40) (d : Nat) : ∀ (k i : Nat), d < k → fs.length - i = d → i ≤ fs.length →
  spec_NfaOk.l1 k (i : Int) n es fs = some (decide (fromN (endP n fs) fs.length i ∧ True)) := by
 induction d with
 | zero =>
  intro k i hk hd hi
  obtain ⟨k, rfl⟩ : ∃ m, k = m + 1 := ⟨k - 1, by omega⟩
  simp only [spec_NfaOk.l1]
  rw [if_neg (by omega), decide_eq_true ⟨fromN_end (by omega), trivial⟩]
 | succ d ih =>
  intro k i hk hd hi
  obtain ⟨k, rfl⟩ : ∃ m, k = m + 1 := ⟨k - 1, by omega⟩
  have hlt : i < fs.length := by omega
  simp only [spec_NfaOk.l1, sIn, Option.bind_some, decide_eq_true_eq]
  rw [if_pos (by omega), if_pos (by omega), w64 (x := n - 1) (by omega) (by omega), nat_next (by omega)]
  by_cases h1 : (rd_T156 fs i).f1 = (i : Int)
  ·rw [if_pos h1]
   by_cases h2 : 0 ≤ (rd_T156 fs i).f0 ∧ (rd_T156 fs i).f0 ≤ n - 1
   ·rw [if_pos h2, ih k (i + 1) (by omega) (by omega) (by omega)]; exact congrArg some (decide_eq_decide.2 (fromN_go hlt ⟨h2, h1⟩))
   ·rw [if_neg h2, decide_eq_false (fromN_no hlt (fun g => h2 g.1))]
  ·rw [if_neg h1, decide_eq_false (fromN_no hlt (fun g => h1 g.2))]
open Classical in
theorem sNfa_l0 (n : Int) (hn : 1 ≤ n ∧ n ≤ 3000) (es : List S85) (fs : List S156) (he : es.length ≤ 12000) (g : ∀ y ∈ es, y.f2.length ≤ 1048576) (hf : fs.length ≤ 40) (d : Nat) : ∀ (k i : Nat), d + 1048578 < k → es.length - i = d → i ≤ es.length →
  spec_NfaOk.l0 k (i : Int) n es fs = some (decide (fromN (edgeP n es) es.length i ∧ fromN (endP n fs) fs.length 0)) := by
 induction d with
 | zero =>
  intro k i hk hd hi
  obtain ⟨k, rfl⟩ : ∃ m, k = m + 1 := ⟨k - 1, by omega⟩
  simp only [spec_NfaOk.l0]
  rw [if_neg (by omega)]
  have e : spec_NfaOk.l1 k 0 n es fs = some (decide (fromN (endP n fs) fs.length 0 ∧ True)) := sNfa_l1 n hn es fs hf fs.length k 0 (by omega) (by omega) (by omega)
  rw [e]
  congr 1
  exact decide_eq_decide.2 ⟨fun h => ⟨fromN_end (by omega), h.1⟩, fun h => ⟨h.2, trivial⟩⟩
 | succ d ih =>
  intro k i hk hd hi
  obtain ⟨k, rfl⟩ : ∃ m, k = m + 1 := ⟨k - 1, by omega⟩
  have hlt : i < es.length := by omega
  have hL := edge_len g i
  simp only [spec_NfaOk.l0, sIn, Option.bind_some, decide_eq_true_eq]
  rw [if_pos (by omega), if_pos (by omega), w64 (x := n - 1) (by omega) (by omega), nat_next (by omega)]
  by_cases h1 : 0 ≤ (rd_T85 es i).f0 ∧ (rd_T85 es i).f0 ≤ n - 1
  ·rw [if_pos h1]
   by_cases h2 : 0 ≤ (rd_T85 es i).f1 ∧ (rd_T85 es i).f1 ≤ n - 1
   ·rw [if_pos h2, sClassOk _ hL k (by omega)]
    simp only [Option.bind_some, decide_eq_true_eq]
    by_cases h3 : classOk ((rd_T85 es i).f2.map toP)
    ·rw [if_pos h3, ih k (i + 1) (by omega) (by omega) (by omega)]; exact congrArg some (decide_eq_decide.2 (fromN_go hlt ⟨h1, h2, h3⟩))
    ·rw [if_neg h3, decide_eq_false (fromN_no hlt (fun g => h3 g.2.2))]
   ·rw [if_neg h2, decide_eq_false (fromN_no hlt (fun g => h2 g.2.1))]
  ·rw [if_neg h1, decide_eq_false (fromN_no hlt (fun g => h1 g.1))]
open Classical in
theorem sNfaOk (n : Int) (es : List S85) (fs : List S156) (g : ∀ y ∈ es, y.f2.length ≤ 1048576) (k : Nat) (hk : 2097156 ≤ k) : spec_NfaOk.f k n es fs = some (decide (nfaOk n es fs)) := by
 obtain ⟨k, rfl⟩ : ∃ m, k = m + 1 := ⟨k - 1, by omega⟩
 unfold spec_NfaOk.f
 simp only [sIn, Option.bind_some, decide_eq_true_eq]
 by_cases h1 : 1 ≤ n ∧ n ≤ 3000
 ·rw [if_pos h1]
  by_cases h2 : (es.length : Int) > 12000
  ·rw [if_pos h2, decide_eq_false (fun g => by have := g.2.1.1; omega)]
   simp [spec_NfaOk.j0]
  ·rw [if_neg h2]
   by_cases h3 : (fs.length : Int) > 40
   ·rw [decide_eq_true h3, decide_eq_false (fun g => by have := g.2.1.2; omega)]
    simp [spec_NfaOk.j0]
   ·rw [decide_eq_false h3]
    simp only [spec_NfaOk.j0]
    rw [if_neg (by simp)]
    have e : spec_NfaOk.l0 k 0 n es fs = some (decide (fromN (edgeP n es) es.length 0 ∧ fromN (endP n fs) fs.length 0)) := sNfa_l0 n h1 es fs (by omega) g (by omega) es.length k 0 (by omega) (by omega) (by omega)
    rw [e]
    congr 1
    exact decide_eq_decide.2 ⟨fun h => ⟨h1, by omega, h⟩, fun h => h.2.2⟩
 ·rw [if_neg h1, decide_eq_false (fun g => h1 g.1)]
  simp [spec_NfaOk.j0]
/-- numbers in the order in which the values first come: the values, and their numbers -/
def numG {α : Type} [DecidableEq α] (f : Nat → α) : Nat → List α × List Int
 | 0 => ([], [])
 | n + 1 => match (numG f n).1.findIdx? (fun s => decide (s = f n)) with
  | some i => ((numG f n).1, (numG f n).2 ++ [(i : Int)])
  | none => ((numG f n).1 ++ [f n], (numG f n).2 ++ [((numG f n).1.length : Int)])
theorem numG_ker {α β : Type} [DecidableEq α] [DecidableEq β] (f : Nat → α) (g : Nat → β) (N : Nat) (h : ∀ a b, a < N → b < N → (f a = f b ↔ g a = g b)) : ∀ n, n ≤ N → ∃ idx : List Nat, (∀ i ∈ idx, i < n) ∧ (numG f n).1 = idx.map f ∧ (numG g n).1 = idx.map g ∧ (numG f n).2 = (numG g n).2
 | 0, _ => ⟨[], by simp, rfl, rfl, rfl⟩
 | n + 1, hn => by
  obtain ⟨idx, h1, h2, h3, h4⟩ := numG_ker f g N h n (by omega)
  have e : (idx.map f).findIdx? (fun s => decide (s = f n)) = (idx.map g).findIdx? (fun s => decide (s = g n)) := by
   rw [List.findIdx?_map, List.findIdx?_map]
   clear h2 h3 h4
   induction idx with
   | nil => rfl
   | cons a t ih =>
    rw [List.findIdx?_cons, List.findIdx?_cons]
    have ha := h a n (by have := h1 a (List.mem_cons_self ..); omega) (by omega)
    simp only [Function.comp]
    rw [ih (fun i hi => h1 i (List.mem_cons_of_mem _ hi))]
    by_cases q : f a = f n
    ·rw [if_pos (decide_eq_true q), if_pos (decide_eq_true (ha.1 q))]
    ·rw [if_neg (by simpa using q), if_neg (by simpa using fun q' => q (ha.2 q'))]
  rw [numG, numG, h2, h3, e]
  cases hv : (idx.map g).findIdx? (fun s => decide (s = g n)) with
  | some i => exact ⟨idx, fun i hi => by have := h1 i hi; omega, rfl, rfl, by simp only [h4]⟩
  | none => exact ⟨idx ++ [n], fun i hi => by
    rcases List.mem_append.1 hi with hi | hi
    ·have := h1 i hi; omega
    ·rw [List.mem_singleton] at hi; omega, by simp, by simp, by simp only [h4, List.length_map]⟩
theorem numG_eq {α β : Type} [DecidableEq α] [DecidableEq β] (f : Nat → α) (g : Nat → β) (N : Nat) (h : ∀ a b, a < N → b < N → (f a = f b ↔ g a = g b)) : (numG f N).2 = (numG g N).2 ∧ (numG f N).1.length = (numG g N).1.length := by
 obtain ⟨idx, _, h2, h3, h4⟩ := numG_ker f g N h N (Nat.le_refl _)
 exact ⟨h4, by rw [h2, h3, List.length_map, List.length_map]⟩
theorem numG_inv {α : Type} [DecidableEq α] (f : Nat → α) : ∀ n, (numG f n).2.length = n ∧ (numG f n).1.length ≤ n ∧ (numG f n).1.Nodup ∧ ∀ a, a < n → ∃ i, ∃ (h : i < (numG f n).1.length), rd (numG f n).2 (a : Int) = (i : Int) ∧ (numG f n).1[i] = f a
 | 0 => ⟨rfl, Nat.le_refl _, List.nodup_nil, fun a h => absurd h (Nat.not_lt_zero _)⟩
 | n + 1 => by
  obtain ⟨h1, h2, h3, h4⟩ := numG_inv f n
  have rdl : ∀ (z : Int) (a : Nat), a < n → rd ((numG f n).2 ++ [z]) (a : Int) = rd (numG f n).2 (a : Int) := by
   intro z a ha
   unfold rd
   rw [Int.toNat_natCast, List.getD_eq_getElem?_getD, List.getD_eq_getElem?_getD, List.getElem?_append_left (by omega)]
  have rdn : ∀ z : Int, rd ((numG f n).2 ++ [z]) (n : Int) = z := by
   intro z
   unfold rd
   rw [Int.toNat_natCast, List.getD_eq_getElem?_getD, List.getElem?_append_right (by omega), h1, Nat.sub_self]
   rfl
  rw [numG]
  cases hv : (numG f n).1.findIdx? (fun s => decide (s = f n)) with
  | some i =>
   obtain ⟨hi, hp, _⟩ := List.findIdx?_eq_some_iff_getElem.1 hv
   refine ⟨by simp [h1], by simp only []; omega, h3, fun a ha => ?_⟩
   by_cases e : a = n
   ·subst e
    exact ⟨i, hi, rdn _, by simpa using hp⟩
   ·obtain ⟨j, hj, e1, e2⟩ := h4 a (by omega)
    exact ⟨j, hj, (rdl _ a (by omega)).trans e1, e2⟩
  | none =>
   have hn := List.findIdx?_eq_none_iff.1 hv
   refine ⟨by simp [h1], by simp; omega, ?_, fun a ha => ?_⟩
   ·rw [List.nodup_append]
    refine ⟨h3, by simp, fun x hx y hy => ?_⟩
    rw [List.mem_singleton] at hy
    subst hy
    have := hn x hx
    simpa using this
   ·by_cases e : a = n
    ·subst e
     exact ⟨(numG f a).1.length, by simp, rdn _, by simp⟩
    ·obtain ⟨j, hj, e1, e2⟩ := h4 a (by omega)
     exact ⟨j, by simp; omega, (rdl _ a (by omega)).trans e1, by rw [← e2]; exact List.getElem_append_left hj⟩
theorem numG_rng {α : Type} [DecidableEq α] (f : Nat → α) (n a : Nat) (h : a < n) : 0 ≤ rd (numG f n).2 (a : Int) ∧ rd (numG f n).2 (a : Int) < (numG f n).1.length := by
 obtain ⟨_, _, _, h4⟩ := numG_inv f n
 obtain ⟨i, hi, e, _⟩ := h4 a h
 rw [e]
 omega
theorem numG_same {α : Type} [DecidableEq α] (f : Nat → α) (n a b : Nat) (ha : a < n) (hb : b < n) : rd (numG f n).2 (a : Int) = rd (numG f n).2 (b : Int) ↔ f a = f b := by
 obtain ⟨_, _, h3, h4⟩ := numG_inv f n
 obtain ⟨i, hi, e, q⟩ := h4 a ha
 obtain ⟨j, hj, e', q'⟩ := h4 b hb
 rw [e, e', ← q, ← q']
 constructor
 ·intro h
  have : i = j := by omega
  subst this
  rfl
 ·intro h
  have := (List.getElem_inj h3).1 h
  omega
namespace Blk
def spP (x : S160) : Int × Int := (x.f0, x.f1)
def InTo (l : List (Int × Int)) (k : Nat) (b : Nat) : Prop := ∃ i, i < k ∧ lo l i ≤ (b : Int) ∧ (b : Int) ≤ hi l i
theorem InTo_step (l : List (Int × Int)) (i c : Nat) : InTo l (i + 1) c ↔ InTo l i c ∨ (lo l i ≤ (c : Int) ∧ (c : Int) ≤ hi l i) := by
 constructor
 ·rintro ⟨j, hj, h⟩
  rcases Nat.lt_or_eq_of_le (Nat.le_of_lt_succ hj) with h' | h'
  ·exact .inl ⟨j, h', h⟩
  ·exact .inr (h' ▸ h)
 ·rintro (⟨j, hj, h⟩ | h)
  ·exact ⟨j, by omega, h⟩
  ·exact ⟨i, by omega, h⟩
instance (l : List (Int × Int)) (k b : Nat) : Decidable (InTo l k b) := by unfold InTo; infer_instance
theorem spP_toP : spP = toP := rfl
/-- the flags of a class's bytes -/
def markOk (l : List S160) (m : List Bool) : Prop := m.length = 256 ∧ ∀ c, c < 256 → (m.getD c false = true ↔ InTo (l.map toP) l.length c)
theorem sMarks_l1 (l : List S160) (hok : classOk (l.map toP)) (i : Nat) (hi' : i < l.length) (K : Nat)
  (G : ∀ k m, K < k → m.length = 256 → (∀ c, c < 256 → (m.getD c false = true ↔ InTo (l.map toP) (i + 1) c)) → ∃ r, spec_l1Marks.l0 k l m ((i + 1 : Nat) : Int) = some r ∧ markOk l r) (e : Nat) :
  ∀ (k : Nat) (m : List Bool) (b : Int), K + e + 1 < k → (hi (l.map toP) i - b + 1).toNat = e → lo (l.map toP) i ≤ b → b ≤ hi (l.map toP) i + 1 → m.length = 256 → (∀ c, c < 256 → (m.getD c false = true ↔ InTo (l.map toP) i c ∨ (lo (l.map toP) i ≤ (c : Int) ∧ (c : Int) < b))) →
   ∃ r, spec_l1Marks.l1 k l m (i : Int) b = some r ∧ markOk l r := by
 have ho := hok i (by simpa using hi')
 have o0 := ho.1
 have o1 := ho.2.2.1
 have hl : l.length ≤ 128 := by have := classOk_len hok; simpa using this
 induction e with
 | zero =>
  intro k m b hk he hb0 hb1 hm hM
  obtain ⟨k, rfl⟩ : ∃ m, k = m + 1 := ⟨k - 1, by omega⟩
  simp only [spec_l1Marks.l1, toP_hi, Int.toNat_natCast]
  rw [if_pos (by omega), if_pos (by omega), if_neg (by omega), nat_next (by omega)]
  refine G k m (by omega) hm (fun c hc => ?_)
  rw [hM c hc, InTo_step]
  constructor
  ·rintro (h | h)
   ·exact .inl h
   ·exact .inr (by omega)
  ·rintro (h | h)
   ·exact .inl h
   ·exact .inr (by omega)
 | succ e ih =>
  intro k m b hk he hb0 hb1 hm hM
  obtain ⟨k, rfl⟩ : ∃ m, k = m + 1 := ⟨k - 1, by omega⟩
  simp only [spec_l1Marks.l1, toP_hi, Int.toNat_natCast]
  rw [if_pos (by omega), if_pos (by omega), if_pos (by omega), if_pos (by omega), if_pos (by omega), w64 (x := b + 1) (by omega) (by omega)]
  refine ih k _ (b + 1) (by omega) (by omega) (by omega) (by omega) (by simpa using hm) (fun c hc => ?_)
  rw [getD_set _ _ _ (by omega), hM c hc]
  constructor
  ·rintro ((h | h) | h)
   ·exact .inl h
   ·exact .inr (by omega)
   ·exact .inr (by omega)
  ·rintro (h | h)
   ·exact .inl (.inl h)
   ·by_cases q : c = b.toNat
    ·exact .inr q
    ·exact .inl (.inr (by omega))
theorem sMarks_l0 (l : List S160) (hok : classOk (l.map toP)) (d : Nat) : ∀ (k i : Nat) (m : List Bool), d * 300 < k → l.length - i = d → i ≤ l.length → m.length = 256 → (∀ c, c < 256 → (m.getD c false = true ↔ InTo (l.map toP) i c)) →
  ∃ r, spec_l1Marks.l0 k l m (i : Int) = some r ∧ markOk l r := by
 have hl : l.length ≤ 128 := by have := classOk_len hok; simpa using this
 induction d with
 | zero =>
  intro k i m hk hd hi' hm hM
  obtain ⟨k, rfl⟩ : ∃ m, k = m + 1 := ⟨k - 1, by omega⟩
  obtain rfl : i = l.length := by omega
  simp only [spec_l1Marks.l0]
  rw [if_neg (by omega)]
  exact ⟨m, rfl, hm, hM⟩
 | succ d ih =>
  intro k i m hk hd hi' hm hM
  obtain ⟨k, rfl⟩ : ∃ m, k = m + 1 := ⟨k - 1, by omega⟩
  have ho := hok i (by simp; omega)
  have o0 := ho.1
  have o1 := ho.2.2.1
  have o2 := ho.2.1
  simp only [spec_l1Marks.l0, toP_lo, Int.toNat_natCast]
  rw [if_pos (by omega), if_pos (by omega)]
  refine sMarks_l1 l hok i (by omega) (d * 300) (fun k m hk hm hM => ih k (i + 1) m hk (by omega) (by omega) hm hM) _ k m _ ?_ rfl (Int.le_refl _) (by omega) hm (fun c hc => ?_)
  ·omega
  ·rw [hM c hc]
   constructor
   ·exact .inl
   ·rintro (h | h)
    ·exact h
    ·omega
theorem sMarks (l : List S160) (hok : classOk (l.map toP)) (k : Nat) (hk : 40000 ≤ k) : ∃ r, spec_l1Marks.f k l = some r ∧ markOk l r := by
 have hl : l.length ≤ 128 := by have := classOk_len hok; simpa using this
 unfold spec_l1Marks.f
 rw [if_pos (by omega)]
 refine sMarks_l0 l hok l.length k 0 _ (by omega) (by omega) (by omega) List.length_replicate (fun c hc => ?_)
 constructor
 ·intro h
  rw [List.getD_eq_getElem?_getD, List.getElem?_replicate] at h
  split at h <;> simp at h
 ·rintro ⟨i, h, _⟩
  omega
theorem sRen_l1 (x0 x5 : List Int) (x4 : List Int) (i : Nat) (hi : i < x0.length) (hl : x4.length < 100000) (h5 : x5.length < 100000) : ∀ (d k s : Nat), x4.length - s = d → s ≤ x4.length → 2 * d + 4 ≤ k →
  ∃ k', k ≤ k' + 2 * d + 4 ∧ spec_l1Renamed.l1 k x0 x4 x5 (i : Int) (-1) (s : Int) = match (x4.drop s).findIdx? (fun v => decide (v = rd x0 (i : Int))) with
   | some j => spec_l1Renamed.l0 k' x0 x4 (x5 ++ [((s + j : Nat) : Int)]) (wrap64 ((i : Int) + 1))
   | none => spec_l1Renamed.l0 k' x0 (x4 ++ [rd x0 (i : Int)]) (x5 ++ [(x4.length : Int)]) (wrap64 ((i : Int) + 1))
 | 0, k, s, hd, hs, hk => by
  obtain ⟨k, rfl⟩ : ∃ m, k = m + 1 + 1 := ⟨k - 2, by omega⟩
  refine ⟨k, by omega, ?_⟩
  rw [List.drop_eq_nil_of_le (by omega), List.findIdx?_nil]
  rw [spec_l1Renamed.l1, if_neg (by omega), spec_l1Renamed.j2, if_neg (by simp), if_pos (by omega), if_pos (by omega), if_pos (by omega), if_pos (by omega), if_pos (by omega)]
 | d + 1, k, s, hd, hs, hk => by
  obtain ⟨k, rfl⟩ : ∃ m, k = m + 1 + 1 := ⟨k - 2, by omega⟩
  have hsl : s < x4.length := by omega
  have hdrop := List.drop_eq_getElem_cons hsl
  have hrd : rd x4 (s : Int) = x4[s] := by
   unfold rd
   rw [Int.toNat_natCast, List.getD_eq_getElem?_getD, List.getElem?_eq_getElem hsl]
   rfl
  rw [hdrop, List.findIdx?_cons]
  rw [spec_l1Renamed.l1, if_pos (by omega), spec_l1Renamed.j2, if_pos (by simp), if_pos (by omega), if_pos (by omega), if_pos (by omega), if_pos (by omega), hrd]
  by_cases e : x4[s] = rd x0 (i : Int)
  ·rw [if_pos e, decide_eq_true e, if_pos rfl]
   obtain ⟨k, rfl⟩ : ∃ m, k = m + 1 + 1 := ⟨k - 2, by omega⟩
   refine ⟨k, by omega, ?_⟩
   rw [spec_l1Renamed.l1]
   have hn : decide ((s : Int) < 0) = false := decide_eq_false (by omega)
   have hgo : spec_l1Renamed.j2 (k + 1) x0 x4 x5 (i : Int) (s : Int) (wrap64 ((s : Int) + 1)) false = spec_l1Renamed.l0 k x0 x4 (x5 ++ [((s + 0 : Nat) : Int)]) (wrap64 ((i : Int) + 1)) := by
    rw [spec_l1Renamed.j2, if_neg (by simp), if_neg (by omega), if_pos (by omega), Nat.add_zero]
   by_cases q : wrap64 ((s : Int) + 1) < (x4.length : Int)
   ·rw [if_pos q, hn]; exact hgo
   ·rw [if_neg q]; exact hgo
  ·rw [if_neg e, decide_eq_false e, nat_next (by omega)]
   obtain ⟨k', hk', ih⟩ := sRen_l1 x0 x5 x4 i hi hl h5 d k (s + 1) (by omega) (by omega) (by omega)
   refine ⟨k', by omega, ?_⟩
   rw [ih]
   cases hv : (x4.drop (s + 1)).findIdx? (fun v => decide (v = rd x0 (i : Int))) with
   | none => rfl
   | some j =>
    simp only [Option.map_some, Bool.false_eq_true, if_false]
    rw [show s + 1 + j = s + (j + 1) by omega]
theorem sRen_l0 (x0 : List Int) (hl : x0.length ≤ 1000) (d : Nat) : ∀ (k i : Nat), x0.length - i = d → i ≤ x0.length → d * 3000 < k →
  spec_l1Renamed.l0 k x0 (numG (fun (b : Nat) => rd x0 (b : Int)) i).1 (numG (fun (b : Nat) => rd x0 (b : Int)) i).2 (i : Int) = some ((numG (fun (b : Nat) => rd x0 (b : Int)) x0.length).2, ((numG (fun (b : Nat) => rd x0 (b : Int)) x0.length).1.length : Int)) := by
 induction d with
 | zero =>
  intro k i hd hi hk
  have e : i = x0.length := by omega
  subst e
  obtain ⟨k, rfl⟩ : ∃ m, k = m + 1 := ⟨k - 1, by omega⟩
  rw [spec_l1Renamed.l0, if_neg (by omega)]
 | succ d ihd =>
  intro k i hd hi hk
  obtain ⟨k, rfl⟩ : ∃ m, k = m + 1 := ⟨k - 1, by omega⟩
  obtain ⟨h1, h2, _⟩ := numG_inv (fun (b : Nat) => rd x0 (b : Int)) i
  rw [spec_l1Renamed.l0, if_pos (by omega)]
  obtain ⟨k', hk', e⟩ := sRen_l1 x0 (numG (fun (b : Nat) => rd x0 (b : Int)) i).2 (numG (fun (b : Nat) => rd x0 (b : Int)) i).1 i (by omega) (by omega) (by omega) _ k 0 rfl (Nat.zero_le _) (by omega)
  simp only [Int.natCast_zero, List.drop_zero, Nat.zero_add] at e
  rw [e, nat_next (by omega)]
  have hk2 : d * 3000 < k' := by
   have e3 : (d + 1) * 3000 = d * 3000 + 3000 := Nat.succ_mul d 3000
   rw [e3] at hk
   generalize d * 3000 = z at hk ⊢
   generalize (numG (fun (b : Nat) => rd x0 (b : Int)) i).1.length = q at hk' h2
   clear e ihd h1
   omega
  have ih := ihd k' (i + 1) (by omega) (by omega) hk2
  rw [numG] at ih
  cases hv : (numG (fun (b : Nat) => rd x0 (b : Int)) i).1.findIdx? (fun s => decide (s = rd x0 (i : Int))) with
  | some j => rw [hv] at ih; exact ih
  | none => rw [hv] at ih; exact ih
theorem sRen (x0 : List Int) (hl : x0.length ≤ 256) (k : Nat) (hk : 800000 ≤ k) : spec_l1Renamed.f k x0 = some ((numG (fun (b : Nat) => rd x0 (b : Int)) x0.length).2, ((numG (fun (b : Nat) => rd x0 (b : Int)) x0.length).1.length : Int)) := by
 unfold spec_l1Renamed.f
 have h9 := Nat.mul_le_mul_right 3000 hl
 exact sRen_l0 x0 (by omega) x0.length k 0 (by omega) (Nat.zero_le _) (by omega)
def inB (c : List S160) (b : Nat) : Bool := decide (InTo (c.map spP) c.length b)
def sgs (l : List (List S160)) (b : Nat) : List Int := l.map (fun c => if inB c b = true then 1 else 0)
def sgU (l : List (List S160)) (b : Nat) : List UInt8 := (sgs l b).map (fun n => UInt8.ofNat n.toNat)
theorem sgU_ker (l : List (List S160)) (a b : Nat) : sgU l a = sgU l b ↔ ∀ c ∈ l, inB c a = inB c b := by
 unfold sgU sgs
 rw [List.map_map, List.map_map, List.map_inj_left]
 constructor
 ·intro h c hc
  have := h c hc
  simp only [Function.comp] at this
  cases h1 : inB c a <;> cases h2 : inB c b <;> simp [h1, h2] at this ⊢
 ·intro h c hc
  simp only [Function.comp]
  rw [h c hc]
/-- the blocks of some classes -/
def resB (l : List (List S160)) : List Int × Int := ((numG (sgU l) 256).2, ((numG (sgU l) 256).1.length : Int))
def bitM (m : List Bool) (c : Nat) : Int := if m.getD c false = true then 1 else 0
theorem rd_set (l : List Int) (a b : Nat) (v : Int) (ha : a < l.length) : rd (l.set a v) (b : Int) = if a = b then v else rd l (b : Int) := by
 unfold rd
 rw [Int.toNat_natCast, List.getD_eq_getElem?_getD, List.getD_eq_getElem?_getD, List.getElem?_set]
 by_cases e : a = b
 ·subst e; rw [if_pos rfl, if_pos ha, if_pos rfl]; rfl
 ·rw [if_neg e, if_neg e]
theorem sB_l1 (l : List (List S160)) (x4 B : List Int) (m : List Bool) (hm : m.length = 256) (i : Nat) (hB : ∀ b : Nat, b < 256 → 0 ≤ rd B (b : Int) ∧ rd B (b : Int) < 256) (d : Nat) : ∀ (b : Nat) (X : List Int), b + d = 256 → X.length = 256 →
  (∀ c : Nat, c < b → rd X (c : Int) = 2 * rd B (c : Int) + bitM m c) → (∀ c : Nat, b ≤ c → c < 256 → rd X (c : Int) = rd B (c : Int)) →
  ∃ X' : List Int, X'.length = 256 ∧ (∀ c : Nat, c < 256 → rd X' (c : Int) = 2 * rd B (c : Int) + bitM m c) ∧ ∀ k, spec_Blocks.l1 (k + d + 1) l x4 X (i : Int) m (b : Int) = (spec_l1Renamed.f k X').bind fun bt => spec_Blocks.l0 k l x4 bt.1 (wrap64 ((i : Int) + 1)) := by
 induction d with
 | zero =>
  intro b X hb hX h1 h2
  refine ⟨X, hX, fun c hc => h1 c (by omega), fun k => ?_⟩
  rw [show k + 0 + 1 = k + 1 from rfl, spec_Blocks.l1, if_neg (by omega)]
 | succ d ih =>
  intro b X hb hX h1 h2
  have hb0 := h2 b (Nat.le_refl _) (by omega)
  have hbr := hB b (by omega)
  obtain ⟨Y, hY, hYl⟩ : ∃ Y, Y = X.set b (2 * rd B (b : Int)) ∧ Y.length = 256 := ⟨_, rfl, by rw [List.length_set]; exact hX⟩
  have hYr : ∀ c : Nat, rd Y (c : Int) = if b = c then 2 * rd B (b : Int) else rd X (c : Int) := fun c => by rw [hY, rd_set _ _ _ _ (by omega)]
  have hstep : ∀ k, spec_Blocks.l1 (k + 1) l x4 X (i : Int) m (b : Int) = if m.getD b false = true then spec_Blocks.l1 k l x4 (Y.set b (2 * rd B (b : Int) + 1)) (i : Int) m ((b + 1 : Nat) : Int) else spec_Blocks.l1 k l x4 Y (i : Int) m ((b + 1 : Nat) : Int) := by
   intro k
   rw [spec_Blocks.l1, if_pos (by omega), if_pos (by omega), if_pos (by omega), hb0, w64 (x := 2 * rd B (b : Int)) (by omega) (by omega), Option.bind_some, if_pos (by omega), Int.toNat_natCast, ← hY, hYr b, if_pos rfl, w64 (x := 2 * rd B (b : Int) + 1) (by omega) (by omega), nat_next (by omega)]
   rfl
  by_cases hmb : m.getD b false = true
  ·obtain ⟨X', g1, g2, g3⟩ := ih (b + 1) (Y.set b (2 * rd B (b : Int) + 1)) (by omega) (by rw [List.length_set]; exact hYl) (fun c hc => by
     rw [rd_set _ _ _ _ (by omega)]
     by_cases e : b = c
     ·subst e; rw [if_pos rfl]; unfold bitM; rw [if_pos hmb]
     ·rw [if_neg e, hYr c, if_neg e]; exact h1 c (by omega)) (fun c hc hc2 => by
     rw [rd_set _ _ _ _ (by omega), if_neg (by omega), hYr c, if_neg (by omega)]; exact h2 c (by omega) hc2)
   exact ⟨X', g1, g2, fun k => by rw [show k + (d + 1) + 1 = (k + d + 1) + 1 by omega, hstep, if_pos hmb, g3]⟩
  ·obtain ⟨X', g1, g2, g3⟩ := ih (b + 1) Y (by omega) hYl (fun c hc => by
     rw [hYr c]
     by_cases e : b = c
     ·subst e; rw [if_pos rfl]; unfold bitM; rw [if_neg hmb]; omega
     ·rw [if_neg e]; exact h1 c (by omega)) (fun c hc hc2 => by
     rw [hYr c, if_neg (by omega)]; exact h2 c (by omega) hc2)
   exact ⟨X', g1, g2, fun k => by rw [show k + (d + 1) + 1 = (k + d + 1) + 1 by omega, hstep, if_neg hmb, g3]⟩
def KerB (l : List (List S160)) (i : Nat) (B : List Int) : Prop := B.length = 256 ∧ (∀ b : Nat, b < 256 → 0 ≤ rd B (b : Int) ∧ rd B (b : Int) < 256) ∧ ∀ a b : Nat, a < 256 → b < 256 → (rd B (a : Int) = rd B (b : Int) ↔ ∀ c ∈ l.take i, inB c a = inB c b)
theorem rd_mem {α : Type} (z : α) (l : List α) {i : Nat} (h : i < l.length) : l.getD i z = l[i] := by
 rw [List.getD_eq_getElem?_getD, List.getElem?_eq_getElem h]
 rfl
open Classical in
theorem sB_l0 (l : List (List S160)) (hs : ∀ c ∈ l, c.length ≤ 1048576) (hl : l.length ≤ 500) (d : Nat) : ∀ (k i : Nat) (B : List Int), l.length - i = d → i ≤ l.length → d * 300 + 1200000 < k → KerB l i B →
  spec_Blocks.l0 k l [] B (i : Int) = some (if ∀ c ∈ l.drop i, classOk (c.map toP) then resB l else ([], 0)) := by
 induction d with
 | zero =>
  intro k i B hd hi hk hB
  have e : i = l.length := by omega
  obtain ⟨k, rfl⟩ : ∃ m, k = m + 1 := ⟨k - 1, by omega⟩
  rw [spec_Blocks.l0, if_neg (by omega), sRen B (by rw [hB.1]; omega) k (by omega), Option.bind_some, List.drop_eq_nil_of_le (by omega), if_pos (by simp)]
  have := numG_eq (fun (b : Nat) => rd B (b : Int)) (sgU l) 256 (fun a b ha hb => by
   rw [sgU_ker]
   have := hB.2.2 a b ha hb
   rw [e, List.take_length] at this
   exact this)
  unfold resB
  rw [hB.1, this.1, this.2]
 | succ d ih =>
  intro k i B hd hi hk hB
  have hil : i < l.length := by omega
  obtain ⟨k, rfl⟩ : ∃ m, k = m + 1 := ⟨k - 1, by omega⟩
  have hc : rd_L3 l (i : Int) = l[i] := by
   unfold rd_L3
   rw [Int.toNat_natCast, rd_mem _ _ hil]
  have hcl := hs l[i] (List.getElem_mem hil)
  rw [spec_Blocks.l0, if_pos (by omega), if_pos (by omega), hc, sClassOk _ hcl k (by omega), Option.bind_some, List.drop_eq_getElem_cons hil]
  have e3 : (d + 1) * 300 = d * 300 + 300 := Nat.succ_mul d 300
  by_cases hok : classOk (l[i].map toP)
  ·obtain ⟨m, em, hm, hmr⟩ := sMarks l[i] hok k (by omega)
   rw [decide_eq_true hok, if_pos rfl, em, Option.bind_some]
   obtain ⟨X', g1, g2, g3⟩ := sB_l1 l [] B m hm i hB.2.1 256 0 B rfl hB.1 (fun c hc => absurd hc (Nat.not_lt_zero _)) (fun c _ _ => rfl)
   obtain ⟨k, rfl⟩ : ∃ q, k = q + 256 + 1 := ⟨k - 257, by omega⟩
   have g3' := g3 k
   simp only [Int.natCast_zero] at g3'
   rw [g3', sRen X' (by omega) k (by omega), Option.bind_some, g1, nat_next (by omega)]
   have hbit : ∀ c : Nat, c < 256 → bitM m c = if inB l[i] c = true then 1 else 0 := by
    intro c hc
    unfold bitM
    have hin : inB l[i] c = true ↔ InTo (l[i].map toP) l[i].length c := by
     unfold inB
     rw [decide_eq_true_iff, spP_toP]
    have := (hmr c hc).trans hin.symm
    by_cases q : m.getD c false = true
    ·rw [if_pos q, if_pos (this.1 q)]
    ·rw [if_neg q, if_neg (fun q2 => q (this.2 q2))]
   have hk2 : d * 300 + 1200000 < k := by
    rw [e3] at hk
    generalize d * 300 = z at hk ⊢
    exact Nat.lt_of_add_lt_add_right (n := 300) (by have : z + 300 + 1200000 < k + 256 + 1 + 1 := hk; omega)
   rw [ih k (i + 1) _ (by omega) (by omega) hk2 ⟨(numG_inv _ 256).1, fun b hb => by
    have := numG_rng (fun (b : Nat) => rd X' (b : Int)) 256 b hb
    have h2 := (numG_inv (fun (b : Nat) => rd X' (b : Int)) 256).2.1
    exact ⟨this.1, by omega⟩, fun a b ha hb => by
    rw [numG_same _ 256 a b ha hb]
    rw [g2 a ha, g2 b hb, hbit a ha, hbit b hb, List.take_succ_eq_append_getElem hil]
    have hk0 := hB.2.2 a b ha hb
    constructor
    ·intro h c hc
     rcases List.mem_append.1 hc with hc | hc
     ·refine hk0.1 ?_ c hc
      split at h <;> split at h <;> omega
     ·rw [List.mem_singleton] at hc
      subst hc
      cases h1 : inB l[i] a <;> cases h2 : inB l[i] b <;> simp [h1, h2] at h ⊢ <;> omega
    ·intro h
     rw [hk0.2 (fun c hc => h c (List.mem_append.2 (.inl hc))), h l[i] (List.mem_append.2 (.inr (List.mem_singleton.2 rfl)))]⟩]
   congr 1
   by_cases q : ∀ c ∈ l.drop (i + 1), classOk (c.map toP)
   ·rw [if_pos q, if_pos (fun c hc => by
     rcases List.mem_cons.1 hc with rfl | hc
     ·exact hok
     ·exact q c hc)]
   ·rw [if_neg q, if_neg (fun h => q (fun c hc => h c (List.mem_cons_of_mem _ hc)))]
  ·rw [decide_eq_false hok, if_neg (by simp), if_neg (fun h => hok (h _ (List.mem_cons_self ..)))]
open Classical in
/-- what both come to -/
noncomputable def blocksM (l : List (List S160)) : List Int × Int := if (∀ c ∈ l, classOk (c.map toP)) ∧ l.length ≤ 500 then resB l else ([], 0)
open Classical in
theorem sBlocks (l : List (List S160)) (hs : ∀ c ∈ l, c.length ≤ 1048576) (k : Nat) (hk : 1500000 ≤ k) : spec_Blocks.f k l = some (blocksM l) := by
 unfold spec_Blocks.f blocksM
 rw [Option.bind_some]
 by_cases hl : (l.length : Int) > 500
 ·rw [if_pos hl, if_neg (fun h => by have := h.2; omega)]
 ·rw [if_neg hl, if_pos (by omega)]
  have h9 := Nat.mul_le_mul_right 300 (show l.length ≤ 500 by omega)
  have := sB_l0 l hs (by omega) l.length k 0 (List.replicate 256 0) (by omega) (Nat.zero_le _) (by omega) ⟨List.length_replicate, fun b hb => by
   have e : rd (List.replicate 256 (0 : Int)) (b : Int) = 0 := by
    unfold rd
    rw [Int.toNat_natCast, List.getD_eq_getElem?_getD, List.getElem?_replicate, if_pos hb]
    rfl
   rw [e]; omega, fun a b ha hb => by
   have e : ∀ q : Nat, q < 256 → rd (List.replicate 256 (0 : Int)) (q : Int) = 0 := fun q hq => by
    unfold rd
    rw [Int.toNat_natCast, List.getD_eq_getElem?_getD, List.getElem?_replicate, if_pos hq]
    rfl
   rw [e a ha, e b hb]
   simp⟩
  refine Eq.trans this ?_
  rw [List.drop_zero]
  congr 1
  by_cases q : ∀ c ∈ l, classOk (c.map toP)
  ·rw [if_pos q, if_pos ⟨q, by omega⟩]
  ·rw [if_neg q, if_neg (fun h => q h.1)]
end Blk
/-- what can be come to without a byte -/
inductive Rch (es : List S85) (P : Nat → Prop) : Nat → Prop
 | base (s : Nat) : P s → Rch es P s
 | step (s t : Nat) (e : S85) : Rch es P s → e ∈ es → e.f0 = (s : Int) → e.f2.length = 0 → e.f1 = (t : Int) → Rch es P t
open Classical in
noncomputable def cl (n : Nat) (es : List S85) (P : Nat → Prop) : List Bool := (List.range n).map (fun s => decide (Rch es P s))
theorem cl_len (n : Nat) (es : List S85) (P : Nat → Prop) : (cl n es P).length = n := by simp [cl]
theorem cl_get (n : Nat) (es : List S85) (P : Nat → Prop) (s : Nat) (h : s < n) : (cl n es P).getD s false = true ↔ Rch es P s := by
 unfold cl
 rw [List.getD_eq_getElem?_getD, List.getElem?_map, List.getElem?_range h]
 simp
theorem bools_ext {a b : List Bool} (h : a.length = b.length) (g : ∀ s, s < a.length → (a.getD s false = true ↔ b.getD s false = true)) : a = b := by
 refine List.ext_getElem h (fun i h1 h2 => ?_)
 have := g i h1
 rw [List.getD_eq_getElem?_getD, List.getD_eq_getElem?_getD, List.getElem?_eq_getElem h1, List.getElem?_eq_getElem h2] at this
 simp only [Option.getD_some] at this
 cases ha : a[i] <;> cases hb : b[i] <;> simp_all
theorem cl_uniq {n : Nat} {es : List S85} {P : Nat → Prop} {m : List Bool} (h : m.length = n) (g : ∀ s, s < n → (m.getD s false = true ↔ Rch es P s)) : m = cl n es P :=
 bools_ext (by rw [h, cl_len]) (fun s hs => by rw [g s (by omega), cl_get n es P s (by omega)])
theorem Rch_congr {es : List S85} {P Q : Nat → Prop} (h : ∀ s, P s ↔ Q s) (s : Nat) : Rch es P s ↔ Rch es Q s := by
 constructor
 ·intro r
  induction r with
  | base s hs => exact .base s ((h s).1 hs)
  | step s t e _ h1 h2 h3 h4 ih => exact .step s t e ih h1 h2 h3 h4
 ·intro r
  induction r with
  | base s hs => exact .base s ((h s).2 hs)
  | step s t e _ h1 h2 h3 h4 ih => exact .step s t e ih h1 h2 h3 h4
theorem cl_congr {n : Nat} {es : List S85} {P Q : Nat → Prop} (h : ∀ s, P s ↔ Q s) : cl n es P = cl n es Q :=
 cl_uniq (cl_len _ _ _) (fun s hs => by rw [cl_get n es P s hs]; exact Rch_congr h s)
/-- the numbers of the marks from the i-th on -/
def onF (m : List Bool) : Nat → Nat → List Int
 | 0, _ => []
 | d + 1, i => (if m.getD i false = true then [(i : Int)] else []) ++ onF m d (i + 1)
def onL (m : List Bool) : List Int := onF m m.length 0
theorem mem_onF (m : List Bool) (x : Int) : ∀ d i, x ∈ onF m d i ↔ ∃ s : Nat, i ≤ s ∧ s < i + d ∧ x = (s : Int) ∧ m.getD s false = true
 | 0, i => by
  simp only [onF, List.not_mem_nil, false_iff]
  rintro ⟨s, h1, h2, _⟩
  omega
 | d + 1, i => by
  rw [onF, List.mem_append, mem_onF m x d (i + 1)]
  constructor
  ·rintro (h | ⟨s, h1, h2, h3⟩)
   ·split at h
    ·rw [List.mem_singleton] at h
     exact ⟨i, Nat.le_refl _, by omega, h, by assumption⟩
    ·simp at h
   ·exact ⟨s, by omega, by omega, h3⟩
  ·rintro ⟨s, h1, h2, h3, h4⟩
   by_cases e : s = i
   ·subst e
    rw [if_pos h4]
    exact .inl (by rw [h3]; exact List.mem_singleton.2 rfl)
   ·exact .inr ⟨s, by omega, by omega, h3, h4⟩
theorem mem_onL (m : List Bool) (x : Int) : x ∈ onL m ↔ ∃ s : Nat, s < m.length ∧ x = (s : Int) ∧ m.getD s false = true := by
 unfold onL
 rw [mem_onF]
 constructor
 ·rintro ⟨s, _, h2, h3⟩
  exact ⟨s, by omega, h3⟩
 ·rintro ⟨s, h2, h3⟩
  exact ⟨s, by omega, by omega, h3⟩
theorem rdOf_nat (m : List Bool) (i : Nat) : rdOf false m (i : Int) = m.getD i false := by unfold rdOf; rw [Int.toNat_natCast]
/-- how many are not marked -/
def off (m : List Bool) : Nat := m.count false
theorem off_le (m : List Bool) : off m ≤ m.length := List.count_le_length
theorem off_set : ∀ (m : List Bool) (s : Nat), s < m.length → m.getD s false = false → off (m.set s true) + 1 = off m
 | [], s, h, _ => by simp at h
 | b :: m, 0, _, h => by
  have hb : b = false := by simpa using h
  subst hb
  simp [off]
 | b :: m, s + 1, h, g => by
  have := off_set m s (by simpa using h) (by simpa using g)
  unfold off at this ⊢
  rw [List.set_cons_succ, List.count_cons, List.count_cons]
  omega
theorem set_get (m : List Bool) (s t : Nat) (h : s < m.length) : ((m.set s true).getD t false = true) ↔ (t = s ∨ m.getD t false = true) := by
 rw [List.getD_eq_getElem?_getD, List.getD_eq_getElem?_getD]
 by_cases e : s = t
 ·subst e
  rw [List.getElem?_set_self h]
  simp
 ·rw [List.getElem?_set_ne e]
  constructor
  ·exact .inr
  ·rintro (q | q)
   ·exact absurd q.symm e
   ·exact q
/-- the edges of a right network -/
def edgesIn (n : Nat) (es : List S85) : Prop := ∀ e ∈ es, (0 ≤ e.f0 ∧ e.f0 < n) ∧ (0 ≤ e.f1 ∧ e.f1 < n)
/-- the reference's way: a list -/
structure SInv (n : Nat) (es : List S85) (P : Nat → Prop) (m : List Bool) (L : List Int) (i j : Nat) : Prop where
 len : m.length = n
 rng : ∀ x ∈ L, 0 ≤ x ∧ x < n
 on : ∀ s, m.getD s false = true → Rch es P s ∧ (s : Int) ∈ L
 all : ∀ s, P s → m.getD s false = true
 lst : ∀ x ∈ L, Rch es P x.toNat
 done : ∀ q, q < i → ∀ e ∈ es, e.f0 = L.getD q 0 → e.f2.length = 0 → m.getD e.f1.toNat false = true
 part : ∀ p, p < j → (rd_T85 es (p : Int)).f0 = L.getD i 0 → (rd_T85 es (p : Int)).f2.length = 0 → m.getD (rd_T85 es (p : Int)).f1.toNat false = true
theorem getD_snoc (L : List Int) (x : Int) (q : Nat) (h : q < L.length) : (L ++ [x]).getD q 0 = L.getD q 0 := by
 rw [List.getD_eq_getElem?_getD, List.getD_eq_getElem?_getD, List.getElem?_append_left h]
theorem rdE_at (es : List S85) (p : Nat) (h : p < es.length) : rd_T85 es (p : Int) = es[p] := by
 unfold rd_T85
 rw [Int.toNat_natCast, List.getD_eq_getElem?_getD, List.getElem?_eq_getElem h]
 rfl
set_option maxRecDepth 100000 in
theorem sClo_l1 (n : Nat) (hn : n ≤ 3000) (es : List S85) (fs : List S156) (z : Int) (hE : edgesIn n es) (hl : es.length ≤ 12000) (P : Nat → Prop) (M : Nat) : ∀ (k : Nat) (m : List Bool) (L : List Int) (i : Nat),
  off m + (L.length - i) = M → M * 12003 + 2 < k → i ≤ L.length → off m + L.length ≤ 4000000 → SInv n es P m L i 0 → spec_l6Close.l1 k m L (i : Int) z es fs = some (cl n es P) := by
 induction M with
 | zero =>
  intro k m L i hM hk hi hb I
  obtain ⟨k, rfl⟩ : ∃ m, k = m + 1 := ⟨k - 1, by omega⟩
  obtain rfl : i = L.length := by omega
  rw [spec_l6Close.l1, if_neg (by omega)]
  refine congrArg some (cl_uniq I.len (fun s hs_ => ⟨fun h => (I.on s h).1, fun h => ?_⟩))
  clear hs_
  induction h with
  | base s h => exact I.all s h
  | step s t e _ h1 h2 h3 h4 ih =>
   obtain ⟨q, hq, hq2⟩ := List.mem_iff_getElem.1 (I.on s ih).2
   have := I.done q hq e h1 (by rw [List.getD_eq_getElem?_getD, List.getElem?_eq_getElem hq, Option.getD_some, hq2, h2]) h3
   rw [h4, Int.toNat_natCast] at this
   exact this
 | succ M ih =>
  intro k m L i hM hk hi hb I
  obtain ⟨k, rfl⟩ : ∃ m, k = m + 1 := ⟨k - 1, by omega⟩
  by_cases hlt : i < L.length
  ·rw [spec_l6Close.l1, if_pos (by omega)]
   have inner : ∀ (d k j : Nat) (m : List Bool) (L : List Int), es.length - j = d → j ≤ es.length → i < L.length → M * 12003 + 2 + d + 1 < k → off m + (L.length - (i + 1)) = M → off m + L.length ≤ 4000000 → SInv n es P m L i j → spec_l6Close.l2 k m L (i : Int) (j : Int) z es fs = some (cl n es P) := by
    intro d
    induction d with
    | zero =>
     intro k j m L hd hj hlt hk hM hb I
     obtain ⟨k, rfl⟩ : ∃ m, k = m + 1 := ⟨k - 1, by omega⟩
     rw [spec_l6Close.l2, if_neg (by omega), nat_next (by omega)]
     refine ih k m L (i + 1) hM (by omega) (by omega) hb ⟨I.len, I.rng, I.on, I.all, I.lst, fun q hq e he h1 h2 => ?_, fun p hp => by omega⟩
     rcases Nat.lt_or_eq_of_le (Nat.le_of_lt_succ hq) with hq | hq
     ·exact I.done q hq e he h1 h2
     ·subst hq
      obtain ⟨p, hp, rfl⟩ := List.mem_iff_getElem.1 he
      have := I.part p (by omega)
      rw [rdE_at es p hp] at this
      exact this h1 h2
    | succ d ihd =>
     intro k j m L hd hj hlt hk hM hb I
     obtain ⟨k, rfl⟩ : ∃ m, k = m + 1 := ⟨k - 1, by omega⟩
     have hjl : j < es.length := by omega
     have hrl : rd L (i : Int) = L.getD i 0 := by unfold rd; rw [Int.toNat_natCast]
     have he := hE _ (List.getElem_mem hjl)
     rw [← rdE_at es j hjl] at he
     rw [spec_l6Close.l2, if_pos (by omega), if_pos (by omega), if_pos (by omega), if_pos (by omega), hrl, nat_next (by omega)]
     have keep : ∀ (h : ¬ ((rd_T85 es (j : Int)).f0 = L.getD i 0 ∧ (rd_T85 es (j : Int)).f2.length = 0 ∧ ¬ m.getD (rd_T85 es (j : Int)).f1.toNat false = true)), SInv n es P m L i (j + 1) := fun h =>
      ⟨I.len, I.rng, I.on, I.all, I.lst, I.done, fun p hp h1 h2 => by
       rcases Nat.lt_or_eq_of_le (Nat.le_of_lt_succ hp) with hp | hp
       ·exact I.part p hp h1 h2
       ·subst hp
        by_cases q : m.getD (rd_T85 es (p : Int)).f1.toNat false = true
        ·exact q
        ·exact absurd ⟨h1, h2, q⟩ h⟩
     by_cases c1 : (rd_T85 es (j : Int)).f0 = L.getD i 0
     ·rw [if_pos c1]
      by_cases c2 : ((rd_T85 es (j : Int)).f2.length : Int) = 0
      ·rw [if_pos c2, if_pos he.2.1, if_pos (by rw [I.len]; omega)]
       by_cases c3 : m.getD (rd_T85 es (j : Int)).f1.toNat false = true
       ·rw [if_pos (show rdOf false m _ = true from c3)]
        exact ihd k (j + 1) m L (by omega) (by omega) hlt (by omega) hM hb (keep (fun h => h.2.2 c3))
       ·rw [if_neg (show ¬ rdOf false m _ = true from c3), if_pos (by omega)]
        have ho := off_set m (rd_T85 es (j : Int)).f1.toNat (by rw [I.len]; omega) (by simpa using c3)
        have hr : Rch es P (rd_T85 es (j : Int)).f1.toNat := by
         refine .step (L.getD i 0).toNat _ (rd_T85 es (j : Int)) (I.lst _ ?_) (by rw [rdE_at es j hjl]; exact List.getElem_mem hjl) ?_ (by omega) (by omega)
         ·rw [List.getD_eq_getElem?_getD, List.getElem?_eq_getElem hlt]; exact List.getElem_mem hlt
         ·rw [← c1]; omega
        refine ihd k (j + 1) _ _ (by omega) (by omega) (by simp; omega) (by omega) (by rw [List.length_append, List.length_singleton]; omega) (by rw [List.length_append, List.length_singleton]; omega) ⟨by simpa using I.len, ?_, ?_, ?_, ?_, ?_, ?_⟩
        ·intro x hx
         rcases List.mem_append.1 hx with hx | hx
         ·exact I.rng x hx
         ·rw [List.mem_singleton] at hx
          rw [hx]; exact he.2
        ·intro s h
         rw [set_get _ _ _ (by rw [I.len]; omega)] at h
         rcases h with h | h
         ·refine ⟨by rw [h]; exact hr, List.mem_append_right _ ?_⟩
          rw [List.mem_singleton]; omega
         ·exact ⟨(I.on s h).1, List.mem_append_left _ (I.on s h).2⟩
        ·intro s h
         rw [set_get _ _ _ (by rw [I.len]; omega)]
         exact .inr (I.all s h)
        ·intro x hx
         rcases List.mem_append.1 hx with hx | hx
         ·exact I.lst x hx
         ·rw [List.mem_singleton] at hx
          rw [hx]; exact hr
        ·intro q hq e he2 h1 h2
         rw [set_get _ _ _ (by rw [I.len]; omega)]
         rw [getD_snoc _ _ _ (by omega)] at h1
         exact .inr (I.done q hq e he2 h1 h2)
        ·intro p hp h1 h2
         rw [set_get _ _ _ (by rw [I.len]; omega)]
         rw [getD_snoc _ _ _ (by omega)] at h1
         rcases Nat.lt_or_eq_of_le (Nat.le_of_lt_succ hp) with hp | hp
         ·exact .inr (I.part p hp h1 h2)
         ·subst hp; exact .inl rfl
      ·rw [if_neg c2]
       exact ihd k (j + 1) m L (by omega) (by omega) hlt (by omega) hM hb (keep (fun h => c2 (by omega)))
     ·rw [if_neg c1]
      exact ihd k (j + 1) m L (by omega) (by omega) hlt (by omega) hM hb (keep (fun h => c1 h.1))
   exact inner es.length k 0 m L (by omega) (by omega) hlt (by omega) (by omega) hb ⟨I.len, I.rng, I.on, I.all, I.lst, I.done, fun p hp => by omega⟩
  ·obtain rfl : i = L.length := by omega
   have hM' : off m = M + 1 := by omega
   rw [spec_l6Close.l1, if_neg (by omega)]
   refine congrArg some (cl_uniq I.len (fun s hs_ => ⟨fun h => (I.on s h).1, fun h => ?_⟩))
   clear hs_
   induction h with
   | base s h => exact I.all s h
   | step s t e _ h1 h2 h3 h4 ih =>
    obtain ⟨q, hq, hq2⟩ := List.mem_iff_getElem.1 (I.on s ih).2
    have := I.done q hq e h1 (by rw [List.getD_eq_getElem?_getD, List.getElem?_eq_getElem hq, Option.getD_some, hq2, h2]) h3
    rw [h4, Int.toNat_natCast] at this
    exact this
set_option maxRecDepth 100000 in
theorem sClo_l0 (n : Nat) (hn : n ≤ 3000) (es : List S85) (fs : List S156) (hE : edgesIn n es) (hl : es.length ≤ 12000) (m : List Bool) (hm : m.length = n) (d : Nat) : ∀ (k i : Nat) (L : List Int), d + 73000000 < k → n - i = d → i ≤ n → L.length ≤ i → L ++ onF m d i = onL m →
  spec_l6Close.l0 k m L (i : Int) (n : Int) es fs = some (cl n es (fun s => m.getD s false = true)) := by
 induction d with
 | zero =>
  intro k i L hk hd hi hL hq
  obtain ⟨k, rfl⟩ : ∃ m, k = m + 1 := ⟨k - 1, by omega⟩
  rw [spec_l6Close.l0, if_neg (by omega)]
  rw [onF, List.append_nil] at hq
  subst hq
  have h1 := off_le m
  have mem := mem_onL m
  refine sClo_l1 n hn es fs (n : Int) hE hl _ (off m + ((onL m).length - 0)) k m (onL m) 0 rfl (by omega) (by omega) (by omega) ⟨hm, ?_, ?_, fun s h => h, ?_, fun q hq => by omega, fun p hp => by omega⟩
  ·intro x hx
   obtain ⟨s, hs, e, _⟩ := (mem x).1 hx
   omega
  ·intro s h
   have hs : s < m.length := by
    rcases Nat.lt_or_ge s m.length with q | q
    ·exact q
    ·rw [List.getD_eq_getElem?_getD, List.getElem?_eq_none q] at h
     simp at h
   exact ⟨.base s h, (mem _).2 ⟨s, hs, rfl, h⟩⟩
  ·intro x hx
   obtain ⟨s, hs, e, h⟩ := (mem x).1 hx
   rw [e, Int.toNat_natCast]
   exact .base s h
 | succ d ih =>
  intro k i L hk hd hi hL hq
  obtain ⟨k, rfl⟩ : ∃ m, k = m + 1 := ⟨k - 1, by omega⟩
  rw [spec_l6Close.l0, if_pos (by omega), if_pos (by omega), if_pos (by omega), rdOf_nat, nat_next (by omega)]
  rw [onF] at hq
  by_cases h : m.getD i false = true
  ·rw [if_pos h, if_pos (by omega)]
   rw [if_pos h, ← List.append_assoc] at hq
   exact ih k (i + 1) _ (by omega) (by omega) (by omega) (by simp; omega) hq
  ·rw [if_neg h]
   rw [if_neg h, List.nil_append] at hq
   exact ih k (i + 1) _ (by omega) (by omega) (by omega) (by omega) hq
set_option maxRecDepth 100000 in
theorem sClo (n : Nat) (hn : n ≤ 3000) (es : List S85) (fs : List S156) (hE : edgesIn n es) (hl : es.length ≤ 12000) (m : List Bool) (hm : m.length = n) (k : Nat) (hk : 73010000 ≤ k) :
  spec_l6Close.f k (n : Int) es fs m = some (cl n es (fun s => m.getD s false = true)) := by
 unfold spec_l6Close.f
 rw [Option.bind_some, if_pos (by simp; omega), List.nil_append]
 exact sClo_l0 n hn es fs hE hl m hm n k 0 [] (by omega) (by omega) (by omega) (by simp) (by rw [List.nil_append, ← hm]; rfl)
theorem nfa_edges {n : Nat} {es : List S85} {fs : List S156} (h : nfaOk (n : Int) es fs) : edgesIn n es := by
 intro e he
 obtain ⟨i, hi, rfl⟩ := List.mem_iff_getElem.1 he
 have := h.2.2.1 i (Nat.zero_le _) hi
 unfold edgeP edgeOk at this
 rw [rdE_at es i hi] at this
 omega
def hasB (l : List S160) (b : Int) : Bool := l.any (fun s => decide (s.f0 ≤ b ∧ b ≤ s.f1))
theorem hasB_iff (l : List S160) (b : Int) : hasB l b = true ↔ ∃ q : Nat, q < l.length ∧ (rd_T160 l q).f0 ≤ b ∧ b ≤ (rd_T160 l q).f1 := by
 unfold hasB
 rw [List.any_eq_true]
 have rdk : ∀ j, (hj : j < l.length) → rd_T160 l (j : Int) = l[j] := fun j hj => by
  unfold rd_T160
  rw [Int.toNat_natCast, List.getD_eq_getElem?_getD, List.getElem?_eq_getElem hj]
  rfl
 constructor
 ·rintro ⟨x, hx, h⟩
  obtain ⟨q, hq, rfl⟩ := List.mem_iff_getElem.1 hx
  exact ⟨q, hq, by rw [rdk q hq]; exact of_decide_eq_true h⟩
 ·rintro ⟨q, hq, h⟩
  rw [rdk q hq] at h
  exact ⟨l[q], List.getElem_mem hq, decide_eq_true h⟩
/-- where a byte leads to from marked states -/
def stp (es : List S85) (m : List Bool) (b : Int) (t : Nat) : Prop := ∃ e ∈ es, m.getD e.f0.toNat false = true ∧ hasB e.f2 b = true ∧ e.f1 = (t : Int)
theorem rd_nat' {l : List Int} {i : Nat} (h : i < l.length) : rd l (i : Int) = l[i] := by
 unfold rd
 rw [Int.toNat_natCast, List.getD_eq_getElem?_getD, List.getElem?_eq_getElem h]
 rfl
set_option maxRecDepth 100000 in
theorem sStep_l1 (es : List S85) (fs : List S156) (z : Int) (m : List Bool) (b : Int) (hb : 0 ≤ b ∧ b ≤ 255) (c0 c1 : Int) (sp : List S160) (hsp : sp.length ≤ 128) (n : Nat) (h1 : 0 ≤ c1 ∧ c1 < n) (j : Nat) (hj : j ≤ 1000000) (K : Nat) (Q : Nat → Prop) (R : Option (List Bool))
  (G : ∀ k out, K < k → out.length = n → (∀ s, out.getD s false = true ↔ Q s ∨ (hasB sp b = true ∧ c1 = (s : Int))) → spec_l6Step.l0 k m b out ((j + 1 : Nat) : Int) z es fs = R) (d : Nat) : ∀ (k i : Nat) (out : List Bool), d + K + 1 < k → sp.length - i = d → i ≤ sp.length → out.length = n →
   (∀ s, out.getD s false = true ↔ Q s ∨ ((∃ q : Nat, q < i ∧ (rd_T160 sp q).f0 ≤ b ∧ b ≤ (rd_T160 sp q).f1) ∧ c1 = (s : Int))) → spec_l6Step.l1 k m b out (j : Int) (i : Int) z es fs c0 c1 sp = R := by
 induction d with
 | zero =>
  intro k i out hk hd hi ho hO
  obtain ⟨k, rfl⟩ : ∃ m, k = m + 1 := ⟨k - 1, by omega⟩
  obtain rfl : i = sp.length := by omega
  rw [spec_l6Step.l1, if_neg (by omega), nat_next (by omega)]
  exact G k out (by omega) ho (fun s => by rw [hO s, hasB_iff])
 | succ d ih =>
  intro k i out hk hd hi ho hO
  obtain ⟨k, rfl⟩ : ∃ m, k = m + 1 := ⟨k - 1, by omega⟩
  rw [spec_l6Step.l1, if_pos (by omega), if_pos (by omega), sIn, Option.bind_some, w64 (x := b) (by omega) (by omega), nat_next (by omega)]
  by_cases c : (rd_T160 sp i).f0 ≤ b ∧ b ≤ (rd_T160 sp i).f1
  ·rw [if_pos (decide_eq_true c), if_pos h1.1, if_pos (by omega)]
   refine ih k (i + 1) _ (by omega) (by omega) (by omega) (by simpa using ho) (fun s => ?_)
   rw [set_get _ _ _ (by omega), hO s]
   constructor
   ·rintro (h | h | ⟨⟨q, h2, h3⟩, h4⟩)
    ·exact .inr ⟨⟨i, by omega, c⟩, by omega⟩
    ·exact .inl h
    ·exact .inr ⟨⟨q, by omega, h3⟩, h4⟩
   ·rintro (h | ⟨⟨q, h2, h3⟩, h4⟩)
    ·exact .inr (.inl h)
    ·exact .inl (by omega)
  ·rw [if_neg (by simpa using c)]
   refine ih k (i + 1) out (by omega) (by omega) (by omega) ho (fun s => ?_)
   rw [hO s]
   constructor
   ·rintro (h | ⟨⟨q, h2, h3⟩, h4⟩)
    ·exact .inl h
    ·exact .inr ⟨⟨q, by omega, h3⟩, h4⟩
   ·rintro (h | ⟨⟨q, h2, h3⟩, h4⟩)
    ·exact .inl h
    ·refine .inr ⟨⟨q, ?_, h3⟩, h4⟩
     rcases Nat.lt_or_eq_of_le (Nat.le_of_lt_succ h2) with h | h
     ·exact h
     ·subst h; exact absurd h3 c
set_option maxRecDepth 100000 in
theorem sStep_l0 (n : Nat) (hn : n ≤ 3000) (es : List S85) (fs : List S156) (hE : edgesIn n es) (hl : es.length ≤ 12000) (hsp : ∀ e ∈ es, e.f2.length ≤ 128) (m : List Bool) (hm : m.length = n) (b : Int) (hb : 0 ≤ b ∧ b ≤ 255) (C : Nat) (hC : 73010002 ≤ C) (d : Nat) : ∀ (k j : Nat) (out : List Bool), d * 132 + C < k → es.length - j = d → j ≤ es.length → out.length = n →
  (∀ s, out.getD s false = true ↔ ∃ q : Nat, q < j ∧ m.getD (rd_T85 es q).f0.toNat false = true ∧ hasB (rd_T85 es q).f2 b = true ∧ (rd_T85 es q).f1 = (s : Int)) → spec_l6Step.l0 k m b out (j : Int) (n : Int) es fs = some (cl n es (stp es m b)) := by
 induction d with
 | zero =>
  intro k j out hk hd hj ho hO
  obtain ⟨k, rfl⟩ : ∃ m, k = m + 1 := ⟨k - 1, by omega⟩
  obtain rfl : j = es.length := by omega
  rw [spec_l6Step.l0, if_neg (by omega), sClo n hn es fs hE hl out ho k (by omega), Option.bind_some]
  refine congrArg some (cl_congr (fun s => ?_))
  rw [hO s]
  constructor
  ·rintro ⟨q, h1, h2⟩
   rw [rdE_at es q h1] at h2
   exact ⟨es[q], List.getElem_mem h1, h2⟩
  ·rintro ⟨e, he, h2⟩
   obtain ⟨q, hq, rfl⟩ := List.mem_iff_getElem.1 he
   exact ⟨q, hq, by rw [rdE_at es q hq]; exact h2⟩
 | succ d ih =>
  intro k j out hk hd hj ho hO
  obtain ⟨k, rfl⟩ : ∃ m, k = m + 1 := ⟨k - 1, by omega⟩
  have hlt : j < es.length := by omega
  have he := hE _ (List.getElem_mem hlt)
  have hs := hsp _ (List.getElem_mem hlt)
  rw [← rdE_at es j hlt] at he hs
  rw [spec_l6Step.l0, if_pos (by omega), if_pos (by omega), if_pos he.1.1, if_pos (by omega)]
  have step : ∀ Q : Nat → Prop, (∀ s, Q s ↔ ((∃ q : Nat, q < j ∧ m.getD (rd_T85 es q).f0.toNat false = true ∧ hasB (rd_T85 es q).f2 b = true ∧ (rd_T85 es q).f1 = (s : Int)) ∨ (m.getD (rd_T85 es j).f0.toNat false = true ∧ hasB (rd_T85 es j).f2 b = true ∧ (rd_T85 es j).f1 = (s : Int)))) →
    ∀ s, Q s ↔ ∃ q : Nat, q < j + 1 ∧ m.getD (rd_T85 es q).f0.toNat false = true ∧ hasB (rd_T85 es q).f2 b = true ∧ (rd_T85 es q).f1 = (s : Int) := fun Q hQ s => by
   rw [hQ s]
   constructor
   ·rintro (⟨q, h1, h2⟩ | h2)
    ·exact ⟨q, by omega, h2⟩
    ·exact ⟨j, by omega, h2⟩
   ·rintro ⟨q, h1, h2⟩
    rcases Nat.lt_or_eq_of_le (Nat.le_of_lt_succ h1) with h | h
    ·exact .inl ⟨q, h, h2⟩
    ·subst h; exact .inr h2
  by_cases c : m.getD (rd_T85 es j).f0.toNat false = true
  ·rw [if_pos (show rdOf false m _ = true from c)]
   refine sStep_l1 es fs (n : Int) m b hb _ _ (rd_T85 es j).f2 hs n he.2 j (by omega) (d * 132 + C) (fun s => ∃ q : Nat, q < j ∧ m.getD (rd_T85 es q).f0.toNat false = true ∧ hasB (rd_T85 es q).f2 b = true ∧ (rd_T85 es q).f1 = (s : Int)) _ (fun k out h1 h2 h3 => ih k (j + 1) out h1 (by omega) (by omega) h2 (step _ (fun s => by rw [h3 s]; exact ⟨fun h => h.imp id (fun h => ⟨c, h⟩), fun h => h.imp id (fun h => h.2)⟩))) (rd_T85 es j).f2.length k 0 out (by omega) (by omega) (by omega) ho (fun s => ?_)
   rw [hO s]
   constructor
   ·exact .inl
   ·rintro (h | ⟨⟨q, h, _⟩, _⟩)
    ·exact h
    ·omega
  ·rw [if_neg (show ¬ rdOf false m _ = true from c), nat_next (by omega)]
   exact ih k (j + 1) out (by omega) (by omega) (by omega) ho (step _ (fun s => by rw [hO s]; exact ⟨.inl, fun h => h.elim id (fun h => absurd h.1 c)⟩))
set_option maxRecDepth 100000 in
theorem sStep (n : Nat) (hn : n ≤ 3000) (es : List S85) (fs : List S156) (hE : edgesIn n es) (hl : es.length ≤ 12000) (hsp : ∀ e ∈ es, e.f2.length ≤ 128) (m : List Bool) (hm : m.length = n) (b : Int) (hb : 0 ≤ b ∧ b ≤ 255) (k : Nat) (hk : 75000000 ≤ k) :
  spec_l6Step.f k (n : Int) es fs m b = some (cl n es (stp es m b)) := by
 unfold spec_l6Step.f
 rw [if_pos (by omega), if_pos (by omega), Int.toNat_natCast]
 refine sStep_l0 n hn es fs hE hl hsp m hm b hb 73010002 (Nat.le_refl _) es.length k 0 _ (by omega) (by omega) (by omega) (by simp) (fun s => ?_)
 constructor
 ·intro h
  rw [List.getD_eq_getElem?_getD, List.getElem?_replicate] at h
  split at h <;> simp at h
 ·rintro ⟨q, h, _⟩
  omega
theorem nfa_spans {n : Nat} {es : List S85} {fs : List S156} (h : nfaOk (n : Int) es fs) : ∀ e ∈ es, e.f2.length ≤ 128 := by
 intro e he
 obtain ⟨i, hi, rfl⟩ := List.mem_iff_getElem.1 he
 have := h.2.2.1 i (Nat.zero_le _) hi
 unfold edgeP edgeOk at this
 rw [rdE_at es i hi] at this
 have h2 := classOk_len this.2.2
 simpa using h2
def endsIn (n : Nat) (fs : List S156) : Prop := ∀ e ∈ fs, 0 ≤ e.f0 ∧ e.f0 < n
theorem nfa_ends {n : Nat} {es : List S85} {fs : List S156} (h : nfaOk (n : Int) es fs) : endsIn n fs := by
 intro e he
 obtain ⟨i, hi, rfl⟩ := List.mem_iff_getElem.1 he
 have := h.2.2.2 i (Nat.zero_le _) hi
 unfold endP endOk at this
 have e2 : rd_T156 fs (i : Int) = fs[i] := by
  unfold rd_T156
  rw [Int.toNat_natCast, List.getD_eq_getElem?_getD, List.getElem?_eq_getElem hi]
  rfl
 rw [e2] at this
 omega
theorem acc_l (n : Nat) (z : Int) (es : List S85) (fs : List S156) (hF : endsIn n fs) (hl : fs.length ≤ 40) (m : List Bool) (hm : m.length = n) (d : Nat) : ∀ (i : Nat), fs.length - i = d → i ≤ fs.length → ∃ a, ∀ k, d < k → spec_l7Accept.l0 k m (i : Int) z es fs = some a := by
 induction d with
 | zero =>
  intro i hd hi
  refine ⟨-1, fun k hk => ?_⟩
  obtain ⟨k, rfl⟩ : ∃ m, k = m + 1 := ⟨k - 1, by omega⟩
  rw [spec_l7Accept.l0, if_neg (by omega)]
 | succ d ih =>
  intro i hd hi
  have hlt : i < fs.length := by omega
  have e2 : rd_T156 fs (i : Int) = fs[i] := by
   unfold rd_T156
   rw [Int.toNat_natCast, List.getD_eq_getElem?_getD, List.getElem?_eq_getElem hlt]
   rfl
  have hr := hF fs[i] (List.getElem_mem hlt)
  obtain ⟨a, ha⟩ := ih (i + 1) (by omega) (by omega)
  by_cases q : rdOf false m fs[i].f0 = true
  ·refine ⟨fs[i].f1, fun k hk => ?_⟩
   obtain ⟨k, rfl⟩ : ∃ m, k = m + 1 := ⟨k - 1, by omega⟩
   rw [spec_l7Accept.l0, if_pos (by omega), if_pos (by omega), e2, if_pos (by omega), if_pos (by omega), if_pos q]
  ·refine ⟨a, fun k hk => ?_⟩
   obtain ⟨k, rfl⟩ : ∃ m, k = m + 1 := ⟨k - 1, by omega⟩
   rw [spec_l7Accept.l0, if_pos (by omega), if_pos (by omega), e2, if_pos (by omega), if_pos (by omega), if_neg q, nat_next (by omega)]
   exact ha k (by omega)
theorem acc_tot (n : Nat) (es : List S85) (fs : List S156) (hF : endsIn n fs) (hl : fs.length ≤ 40) (m : List Bool) (hm : m.length = n) : ∃ a, ∀ k, 50 ≤ k → spec_l7Accept.f k (n : Int) es fs m = some a := by
 obtain ⟨a, ha⟩ := acc_l n n es fs hF hl m hm fs.length 0 (by omega) (Nat.zero_le _)
 exact ⟨a, fun k hk => ha k (by omega)⟩
theorem addS_all {n : Nat} {st : List (List Bool)} {x : List Bool} (h : ∀ s ∈ st, s.length = n) (hx : x.length = n) : ∀ s ∈ addS st x, s.length = n := by
 intro s hs
 unfold addS at hs
 split at hs
 ·exact h s hs
 ·rcases List.mem_append.1 hs with q | q
  ·exact h s q
  ·rw [List.mem_singleton] at q; rw [q]; exact hx
theorem addS_len (st : List (List Bool)) (x : List Bool) : st.length ≤ (addS st x).length := by
 unfold addS
 split
 ·exact Nat.le_refl _
 ·rw [List.length_append]; omega
section
variable (N : Nat) (hN : N ≤ 3000) (es : List S85) (fs : List S156) (hE : edgesIn N es) (hl : es.length ≤ 12000) (hsp : ∀ e ∈ es, e.f2.length ≤ 128) (most : Int) (bs : List Int) (hb : ∀ b ∈ bs, 0 ≤ b ∧ b ≤ 255)
include hN hE hl hsp hb
theorem bd_l1 (cur : List Bool) (hc : cur.length = N) : ∀ (d j : Nat) (st : List (List Bool)) (row : List Int), bs.length - j = d → j ≤ bs.length → (∀ s ∈ st, s.length = N) → (st.length : Int) ≤ most →
  ∃ r, (∀ k, d + 75000000 < k → spec_BuildDfa.l1 (N : Int) es fs most bs cur k j st row = some r) ∧ (∀ s ∈ r.1, s.length = N) ∧ st.length ≤ r.1.length ∧ (r.2.2 = true → (r.1.length : Int) ≤ most ∧ r.2.1.length = row.length + d)
 | 0, j, st, row, hd, hj, hs, hm => by
  refine ⟨(st, row, true), fun k hk => ?_, hs, Nat.le_refl _, fun _ => ⟨hm, rfl⟩⟩
  obtain ⟨k, rfl⟩ : ∃ m, k = m + 1 := ⟨k - 1, by omega⟩
  rw [spec_BuildDfa.l1, if_neg (by omega)]
 | d + 1, j, st, row, hd, hj, hs, hm => by
  have hb' : 0 ≤ bs.getD j 0 ∧ bs.getD j 0 ≤ 255 := hb _ (by rw [List.getD_eq_getElem?_getD, List.getElem?_eq_getElem (by omega)]; exact List.getElem_mem _)
  have hx : (cl N es (stp es cur (bs.getD j 0))).length = N := cl_len _ _ _
  have e1 : ∀ k, 75000000 ≤ k → spec_l6Step.f k (N : Int) es fs cur (bs.getD j 0) = some (cl N es (stp es cur (bs.getD j 0))) := fun k hk => sStep N hN es fs hE hl hsp cur hc (bs.getD j 0) hb' k hk
  generalize cl N es (stp es cur (bs.getD j 0)) = x at hx e1
  have hx' : x.length = ((N : Int)).toNat := by rw [hx, Int.toNat_natCast]
  by_cases c : most < ((addS st x).length : Int)
  ·refine ⟨(st, row, false), fun k hk => ?_, hs, Nat.le_refl _, fun h => by cases h⟩
   obtain ⟨k, rfl⟩ : ∃ m, k = m + 1 := ⟨k - 1, by omega⟩
   rw [spec_BuildDfa.l1, if_pos (by omega), e1 k (by omega), Option.bind_some, if_pos hx', if_pos c]
  ·obtain ⟨r, h1, h2, h3, h4⟩ := bd_l1 cur hc d (j + 1) (addS st x) (row ++ [(st.idxOf x : Int)]) (by omega) (by omega) (addS_all hs hx) (by omega)
   have ha := addS_len st x
   refine ⟨r, fun k hk => ?_, h2, by omega, fun h => ⟨(h4 h).1, by rw [(h4 h).2, List.length_append, List.length_singleton]; omega⟩⟩
   obtain ⟨k, rfl⟩ : ∃ m, k = m + 1 := ⟨k - 1, by omega⟩
   rw [spec_BuildDfa.l1, if_pos (by omega), e1 k (by omega), Option.bind_some, if_pos hx', if_neg c]
   exact h1 k (by omega)
theorem bd_l0 (hbl : bs.length ≤ 256) (hF : endsIn N fs) (hfl : fs.length ≤ 40) (d : Nat) : ∀ (s : Nat) (st : List (List Bool)) (nx : List (List Int)) (ac : List Int), most.toNat - s = d → s ≤ st.length → (∀ x ∈ st, x.length = N) → (st.length : Int) ≤ most → nx.length = s → ac.length = s → (∀ r ∈ nx, r.length = bs.length) →
  ∃ r, (∀ k, d + 75000300 < k → spec_BuildDfa.l0 (N : Int) es fs most bs k s st nx ac = some r) ∧ (r.2.2 = true → st.length ≤ r.1.length ∧ (r.1.length : Int) ≤ most ∧ r.2.1.length = r.1.length ∧ ∀ x ∈ r.1, x.length = bs.length) := by
 induction d with
 | zero =>
  intro s st nx ac hd hs hx hm hn ha hr
  refine ⟨(nx, ac, true), fun k hk => ?_, fun _ => ⟨by show st.length ≤ nx.length; omega, by show (nx.length : Int) ≤ most; omega, by show ac.length = nx.length; omega, hr⟩⟩
  obtain ⟨k, rfl⟩ : ∃ m, k = m + 1 := ⟨k - 1, by omega⟩
  rw [spec_BuildDfa.l0, if_neg (by omega)]
 | succ d ih =>
  intro s st nx ac hd hs hx hm hn ha hr
  by_cases c : s < st.length
  ·have hcur : (st.getD s []).length = N := hx _ (by rw [List.getD_eq_getElem?_getD, List.getElem?_eq_getElem c]; exact List.getElem_mem _)
   obtain ⟨r, h1, h2, h3, h4⟩ := bd_l1 N hN es fs hE hl hsp most bs hb (st.getD s []) hcur bs.length 0 st [] (by omega) (Nat.zero_le _) hx hm
   obtain ⟨a, hac⟩ := acc_tot N es fs hF hfl (st.getD s []) hcur
   by_cases q : r.2.2 = true
   ·obtain ⟨g1, g2⟩ := h4 q
    obtain ⟨r', e1, e2⟩ := ih (s + 1) r.1 (nx ++ [r.2.1]) (ac ++ [a]) (by omega) (by omega) h2 g1 (by rw [List.length_append, List.length_singleton, hn]) (by rw [List.length_append, List.length_singleton, ha]) (fun x hx => by
     rcases List.mem_append.1 hx with z | z
     ·exact hr x z
     ·rw [List.mem_singleton] at z; rw [z, g2]; simp)
    refine ⟨r', fun k hk => ?_, fun h => ⟨by have := (e2 h).1; omega, (e2 h).2⟩⟩
    obtain ⟨k, rfl⟩ : ∃ m, k = m + 1 := ⟨k - 1, by omega⟩
    rw [spec_BuildDfa.l0, if_pos c, h1 k (by omega), Option.bind_some, if_pos q, hac k (by omega), Option.bind_some]
    exact e1 k (by omega)
   ·refine ⟨([], [], false), fun k hk => ?_, fun h => by cases h⟩
    obtain ⟨k, rfl⟩ : ∃ m, k = m + 1 := ⟨k - 1, by omega⟩
    rw [spec_BuildDfa.l0, if_pos c, h1 k (by omega), Option.bind_some, if_neg q]
  ·refine ⟨(nx, ac, true), fun k hk => ?_, fun _ => ⟨by show st.length ≤ nx.length; omega, by show (nx.length : Int) ≤ most; omega, by show ac.length = nx.length; omega, hr⟩⟩
   obtain ⟨k, rfl⟩ : ∃ m, k = m + 1 := ⟨k - 1, by omega⟩
   rw [spec_BuildDfa.l0, if_neg c]
end
theorem byteM_rng (b : List Int) (c : Nat) : ∀ g, g ≤ 256 → ∀ x ∈ byteM b c g, 0 ≤ x ∧ x ≤ 255
 | 0, _, x, h => by
  unfold byteM at h
  obtain ⟨_, rfl⟩ := List.mem_replicate.1 h
  omega
 | g + 1, hg, x, h => by
  unfold byteM at h
  rcases List.mem_or_eq_of_mem_set h with q | q
  ·exact byteM_rng b c g (by omega) x q
  ·omega
theorem rd_mem' {l : List Int} {x : Int} (h : x ∈ l) : ∃ a : Nat, a < l.length ∧ rd l (a : Int) = x := by
 obtain ⟨i, hi, rfl⟩ := List.mem_iff_getElem.1 h
 exact ⟨i, hi, by unfold rd; rw [Int.toNat_natCast, List.getD_eq_getElem?_getD, List.getElem?_eq_getElem hi]; rfl⟩
theorem num_rng {α : Type} [DecidableEq α] (f : Nat → α) (N : Nat) (hN : 0 < N) : (numG f N).2.length = N ∧ 1 ≤ ((numG f N).1.length : Int) ∧ ((numG f N).1.length : Int) ≤ N ∧ ∀ b ∈ (numG f N).2, 0 ≤ b ∧ b < ((numG f N).1.length : Int) := by
 obtain ⟨i1, i2, _, _⟩ := numG_inv f N
 have i3 := numG_rng f N
 refine ⟨i1, by have := i3 0 hN; omega, by omega, fun b hb => ?_⟩
 obtain ⟨a, ha, rfl⟩ := rd_mem' hb
 exact i3 a (by omega)
set_option maxRecDepth 100000 in
theorem resB_rng (l : List (List S160)) : (Blk.resB l).1.length = 256 ∧ 1 ≤ (Blk.resB l).2 ∧ (Blk.resB l).2 ≤ 256 ∧ ∀ b ∈ (Blk.resB l).1, 0 ≤ b ∧ b < (Blk.resB l).2 := by
 have h := num_rng (Blk.sgU l) 256 (by decide)
 have e : Blk.resB l = ((numG (Blk.sgU l) 256).2, ((numG (Blk.sgU l) 256).1.length : Int)) := by unfold Blk.resB; rfl
 generalize numG (Blk.sgU l) 256 = p at h e
 rw [e]
 exact ⟨h.1, h.2.1, by have := h.2.2.1; omega, h.2.2.2⟩
open Classical in
set_option maxRecDepth 100000 in
theorem bd_tot (n : Int) (es : List S85) (fs : List S156) (g : ∀ y ∈ es, y.f2.length ≤ 1048576) (most : Int) (hm : 1 ≤ most ∧ most ≤ 1000) : ∃ r, BdG r ∧ ∀ k, 80000000 ≤ k → spec_BuildDfa.f k n es fs most = some r := by
 unfold spec_BuildDfa.f
 by_cases h : nfaOk n es fs
 case neg =>
  refine ⟨([], [], [], false), fun h => (by cases h), fun k hk => ?_⟩
  rw [sNfaOk n es fs g k (by omega), decide_eq_false h, Option.bind_some, if_neg (by simp)]
 have h0 := h
 obtain ⟨hn, hlen, _, _⟩ := h0
 obtain ⟨N, rfl⟩ : ∃ N : Nat, n = N := ⟨n.toNat, by omega⟩
 have hE := nfa_edges h
 have hsp := nfa_spans h
 have hF := nfa_ends h
 have hss : ∀ c ∈ spec_BuildDfa.sets es, c.length ≤ 1048576 := by
  intro c hc
  unfold spec_BuildDfa.sets at hc
  obtain ⟨e, he, rfl⟩ := List.mem_map.1 (List.mem_filter.1 hc).1
  exact g e he
 have hB := fun k (hk : 1500000 ≤ k) => Blk.sBlocks (spec_BuildDfa.sets es) hss k hk
 have hs0 : ((List.replicate N false).set 0 true).length = N := by rw [List.length_set, List.length_replicate]
 have hC := fun k (hk : 73010000 ≤ k) => sClo N (by omega) es fs hE hlen.1 _ hs0 k hk
 have hcl : (cl N es (fun s => ((List.replicate N false).set 0 true).getD s false = true)).length = N := cl_len _ _ _
 generalize cl N es (fun s => ((List.replicate N false).set 0 true).getD s false = true) = s0 at hC hcl
 by_cases q : Blk.blocksM (spec_BuildDfa.sets es) = ([], 0)
 ·refine ⟨([], [], [], false), fun h => (by cases h), fun k hk => ?_⟩
  rw [sNfaOk N es fs g k (by omega), decide_eq_true h, Option.bind_some, if_pos ⟨rfl, hm⟩, if_pos ⟨hn.1, hn.2, by omega⟩, hB k (by omega), Option.bind_some, q, if_pos rfl]
 have hq : Blk.blocksM (spec_BuildDfa.sets es) = Blk.resB (spec_BuildDfa.sets es) := by
  unfold Blk.blocksM at q ⊢
  split
  ·rfl
  ·rename_i z; rw [if_neg z] at q; exact absurd rfl q
 have hr := resB_rng (spec_BuildDfa.sets es)
 rw [hq] at hB
 clear hq q
 generalize Blk.resB (spec_BuildDfa.sets es) = R at hr hB
 obtain ⟨r1, r2, r3, r4⟩ := hr
 have hbl := byteM_length R.1 R.2.toNat 256
 obtain ⟨z, e1, e2⟩ := bd_l0 N (by omega) es fs hE hlen.1 hsp most (byteM R.1 R.2.toNat 256) (byteM_rng _ _ 256 (Nat.le_refl _)) (by omega) hF hlen.2 most.toNat 0 [s0] [] [] (by omega) (Nat.zero_le _) (fun x hx => by rw [List.mem_singleton] at hx; rw [hx]; exact hcl) (by simp; omega) rfl rfl (fun x hx => by cases hx)
 refine ⟨if z.2.2 = true then (R.1, z.1, z.2.1, true) else ([], [], [], false), ?_, fun k hk => ?_⟩
 ·by_cases c : z.2.2 = true
  ·rw [if_pos c]
   obtain ⟨g1, g2, g3, g4⟩ := e2 c
   have g1' : 1 ≤ z.1.length := g1
   exact fun _ => ⟨r1, ⟨g1', by show z.1.length ≤ 1000; omega⟩, g3, _, ⟨by omega, by omega⟩, g4⟩
  ·rw [if_neg c]
   exact fun h => by cases h
 ·have hne : ¬ R.1 = [] := fun e => by rw [e] at r1; cases r1
  rw [sNfaOk N es fs g k (by omega), decide_eq_true h, Option.bind_some, if_pos ⟨rfl, hm⟩, if_pos ⟨hn.1, hn.2, by omega⟩, hB k (by omega), Option.bind_some, if_neg hne, if_pos ⟨r1, by omega, r3, r4⟩]
  have hC' := hC k (by omega)
  rw [Int.toNat_natCast, hC', Option.bind_some, if_pos hcl, e1 k (by omega), Option.bind_some]
theorem sBlocks_l (l : List Int) (hl : l.length = 256) (d : Nat) : ∀ (k i : Nat) (n : Int), d < k → 256 - i = d → i ≤ 256 → 0 ≤ n → n ≤ i → spec_l7Blocks.l0 k l n (i : Int) = some ((blkLoop l d i n).getD (-1)) := by
 induction d with
 | zero =>
  intro k i n hk hd hi h0 h1
  obtain ⟨k, rfl⟩ : ∃ m, k = m + 1 := ⟨k - 1, by omega⟩
  simp only [spec_l7Blocks.l0]
  rw [if_neg (by omega)]
  rfl
 | succ d ih =>
  intro k i n hk hd hi h0 h1
  obtain ⟨k, rfl⟩ : ∃ m, k = m + 1 := ⟨k - 1, by omega⟩
  simp only [spec_l7Blocks.l0, sIn, Option.bind_some, decide_eq_true_eq]
  rw [if_pos (by omega), if_pos (by omega), if_pos (by omega)]
  unfold blkLoop
  by_cases hc : 0 ≤ rd l (i : Int) ∧ rd l (i : Int) ≤ n
  ·rw [if_pos hc, if_pos hc, w64 (x := rd l (i : Int) + 1) (by omega) (by omega), nat_next (by omega)]
   exact ih k (i + 1) _ (by omega) (by omega) (by omega) (by have := le_mx_left n (rd l (i : Int) + 1); omega) (mx_le (by omega) (by omega))
  ·rw [if_neg hc, if_neg hc]
   rfl
theorem sBlocks (l : List Int) (k : Nat) (hk : 300 ≤ k) : spec_l7Blocks.f k l = some ((blocksM l).getD (-1)) := by
 unfold spec_l7Blocks.f blocksM
 by_cases h : l.length = 256
 ·rw [if_pos (by omega), if_pos h]
  exact sBlocks_l l h 256 k 0 0 (by omega) (by omega) (by omega) (by omega) (by omega)
 ·rw [if_neg (by omega), if_neg h]
  rfl
theorem iBlocks_l (l : List Int) (hl : l.length ≤ 1048576) (d : Nat) : ∀ (k i : Nat) (n : Int), d < k → l.length - i = d → i ≤ l.length → 0 ≤ n → n ≤ i →
  impl_blocksOk.l0 k l (n - 1) l (l.length : Int) (i : Int) = some (match blkLoop l d i n with | some m => (m, ((l.length : Int) == 256)) | none => (0, false)) := by
 induction d with
 | zero =>
  intro k i n hk hd hi h0 h1
  obtain ⟨k, rfl⟩ : ∃ m, k = m + 1 := ⟨k - 1, by omega⟩
  simp only [impl_blocksOk.l0]
  rw [if_neg (by omega), w64 (by omega) (by omega), Int.sub_add_cancel]
  rfl
 | succ d ih =>
  intro k i n hk hd hi h0 h1
  obtain ⟨k, rfl⟩ : ∃ m, k = m + 1 := ⟨k - 1, by omega⟩
  simp only [impl_blocksOk.l0, iWithin, Option.bind_some, decide_eq_true_eq]
  rw [if_pos (by omega), if_pos (by omega), if_pos (by omega), w64 (x := n - 1 + 1) (by omega) (by omega), Int.sub_add_cancel]
  unfold blkLoop
  by_cases hc : 0 ≤ rd l (i : Int) ∧ rd l (i : Int) ≤ n
  ·rw [if_pos hc, if_pos hc, nat_next (by omega)]
   have e : mx (n - 1) (rd l (i : Int)) = mx n (rd l (i : Int) + 1) - 1 := by unfold mx; split <;> split <;> omega
   rw [e]
   exact ih k (i + 1) _ (by omega) (by omega) (by omega) (by have := le_mx_left n (rd l (i : Int) + 1); omega) (mx_le (by omega) (by omega))
  ·rw [if_neg hc, if_neg hc]
/-- what the program's blocksOk tells -/
theorem iBlocks (l : List Int) (hl : l.length ≤ 1048576) (k : Nat) (hk : 1048578 ≤ k) : ∃ r, impl_blocksOk.f k l = some r ∧ r.2 = (blocksM l).isSome ∧ ∀ m, blocksM l = some m → r.1 = m := by
 unfold impl_blocksOk.f
 have e : impl_blocksOk.l0 k l (-1) l (l.length : Int) 0 = _ := iBlocks_l l hl l.length k 0 0 (by omega) (by omega) (by omega) (by omega) (by omega)
 refine ⟨_, e, ?_, ?_⟩
 ·unfold blocksM
  by_cases h : l.length = 256
  ·rw [if_pos h, h]
   cases blkLoop l 256 0 0 <;> rfl
  ·rw [if_neg h]
   cases blkLoop l l.length 0 0
   ·rfl
   ·show ((l.length : Int) == 256) = false
    rw [beq_eq_false_iff_ne]
    omega
 ·intro m hm
  unfold blocksM at hm
  by_cases h : l.length = 256
  ·rw [if_pos h] at hm
   rw [h, hm]
  ·rw [if_neg h] at hm
   exact absurd hm (by simp)
theorem rdL_row (nx : List (List Int)) (i : Int) : rd_L10 nx i = drow nx i.toNat := rfl
def cellP (nx : List (List Int)) (s : Nat) (j : Nat) : Prop := 0 ≤ rd (drow nx s) (j : Int) ∧ rd (drow nx s) (j : Int) ≤ (nx.length : Int) - 1
open Classical in
theorem sDfa_l1 (b : List Int) (nx : List (List Int)) (acc : List Int) (hn : 1 ≤ nx.length ∧ nx.length ≤ 1000) (m : Int) (s : Nat) (hs : s < nx.length) (hm : ((drow nx s).length : Int) = m) (m1 : m ≤ 256) (K : Nat) (Q : Prop)
  (H : ∀ k, K < k → spec_DfaOk.l0 k (nx.length : Int) m ((s + 1 : Nat) : Int) b nx acc = some (decide Q)) (d : Nat) : ∀ (k j : Nat), d + K + 1 < k → (drow nx s).length - j = d → j ≤ (drow nx s).length →
  spec_DfaOk.l1 k (nx.length : Int) m (s : Int) (j : Int) b nx acc = some (decide (fromN (cellP nx s) (drow nx s).length j ∧ Q)) := by
 induction d with
 | zero =>
  intro k j hk hd hj
  obtain ⟨k, rfl⟩ : ∃ m, k = m + 1 := ⟨k - 1, by omega⟩
  simp only [spec_DfaOk.l1]
  rw [if_neg (by omega), nat_next (by omega), H k (by omega)]
  exact congrArg some (decide_eq_decide.2 ⟨fun h => ⟨fromN_end (by omega), h⟩, fun h => h.2⟩)
 | succ d ih =>
  intro k j hk hd hj
  obtain ⟨k, rfl⟩ : ∃ m, k = m + 1 := ⟨k - 1, by omega⟩
  have hlt : j < (drow nx s).length := by omega
  have es : ((s : Nat) : Int).toNat = s := by omega
  simp only [spec_DfaOk.l1, sIn, Option.bind_some, decide_eq_true_eq, rdL_row, es]
  rw [if_pos (by omega), if_pos (by omega), if_pos (by omega), if_pos (by omega), if_pos (by omega), w64 (x := (nx.length : Int) - 1) (by omega) (by omega), nat_next (by omega)]
  by_cases h1 : 0 ≤ rd (drow nx s) (j : Int) ∧ rd (drow nx s) (j : Int) ≤ (nx.length : Int) - 1
  ·rw [if_pos h1, ih k (j + 1) (by omega) (by omega) (by omega)]; exact congrArg some (decide_eq_decide.2 (fromN_go hlt h1))
  ·rw [if_neg h1, decide_eq_false (fromN_no hlt h1)]
open Classical in
theorem sDfa_l0 (b : List Int) (nx : List (List Int)) (acc : List Int) (hn : 1 ≤ nx.length ∧ nx.length ≤ 1000) (ha : acc.length = nx.length) (m : Int) (m1 : m ≤ 256) (d : Nat) : ∀ (k s : Nat), d * 300 < k → nx.length - s = d → s ≤ nx.length →
  spec_DfaOk.l0 k (nx.length : Int) m (s : Int) b nx acc = some (decide (fromN (rowP nx m acc) nx.length s)) := by
 induction d with
 | zero =>
  intro k s hk hd hs
  obtain ⟨k, rfl⟩ : ∃ m, k = m + 1 := ⟨k - 1, by omega⟩
  simp only [spec_DfaOk.l0]
  rw [if_neg (by omega), decide_eq_true (fromN_end (by omega))]
 | succ d ih =>
  intro k s hk hd hs
  obtain ⟨k, rfl⟩ : ∃ m, k = m + 2 := ⟨k - 2, by omega⟩
  have hlt : s < nx.length := by omega
  have es : ((s : Nat) : Int).toNat = s := by omega
  have hst := fromN_step (P := rowP nx m acc) hlt
  simp only [spec_DfaOk.l0, sIn, Option.bind_some, decide_eq_true_eq, rdL_row, es]
  rw [if_pos (by omega), if_pos (by omega), if_pos (by omega)]
  by_cases h1 : -1 ≤ rd acc (s : Int) ∧ rd acc (s : Int) ≤ 39
  ·rw [if_pos h1, if_pos (by omega)]
   by_cases h2 : ((drow nx s).length : Int) = m
   ·rw [bne_eq_false_iff_eq.2 h2]
    simp only [spec_DfaOk.j2]
    rw [if_neg (by simp)]
    have e : spec_DfaOk.l1 k (nx.length : Int) m (s : Int) 0 b nx acc = _ := sDfa_l1 b nx acc hn m s hlt h2 m1 (d * 300) _ (fun k hk => ih k (s + 1) hk (by omega) (by omega)) (drow nx s).length k 0 (by omega) (by omega) (by omega)
    rw [e]
    refine congrArg some (decide_eq_decide.2 ⟨fun h => hst.2 ⟨⟨h1, h2, fun i hi => h.1 i (by omega) hi⟩, h.2⟩, fun h => ⟨fun i _ hi => (hst.1 h).1.2.2 i hi, (hst.1 h).2⟩⟩)
   ·rw [bne_iff_ne.2 h2]
    simp only [spec_DfaOk.j2]
    rw [if_pos trivial, decide_eq_false (fun h => h2 (hst.1 h).1.2.1)]
  ·rw [if_neg h1]
   simp only [spec_DfaOk.j2]
   rw [if_pos trivial, decide_eq_false (fun h => h1 (hst.1 h).1.1)]
open Classical in
theorem sDfaOk (b : List Int) (nx : List (List Int)) (acc : List Int) (k : Nat) (hk : 400000 ≤ k) : spec_DfaOk.f k b nx acc = some (decide (dfaOk b nx acc)) := by
 obtain ⟨k, rfl⟩ : ∃ m, k = m + 1 := ⟨k - 1, by omega⟩
 unfold spec_DfaOk.f
 rw [sBlocks b _ (by omega)]
 simp only [Option.bind_some]
 have no : ∀ x, ¬ dfaOk b nx acc → spec_DfaOk.j0 (k + 1) (nx.length : Int) x true b nx acc = some (decide (dfaOk b nx acc)) := by
  intro x h
  rw [decide_eq_false h]
  simp [spec_DfaOk.j0]
 by_cases h1 : (nx.length : Int) < 1
 ·rw [if_pos h1]
  exact no _ (fun ⟨m, _, g, _⟩ => by omega)
 ·rw [if_neg h1]
  by_cases h2 : (nx.length : Int) > 1000
  ·rw [if_pos h2]
   exact no _ (fun ⟨m, _, g, _⟩ => by omega)
  ·rw [if_neg h2]
   by_cases h3 : (acc.length : Int) = (nx.length : Int)
   ·rw [if_pos h3]
    cases hb : blocksM b with
    | none =>
     rw [decide_eq_true (by simp)]
     exact no _ (fun ⟨m, g, _, _⟩ => by rw [hb] at g; exact absurd g (by simp))
    | some m =>
     have hm := blocksM_some hb
     rw [decide_eq_false (by simp; omega)]
     simp only [spec_DfaOk.j0, Option.getD_some]
     rw [if_neg (by simp)]
     have e : spec_DfaOk.l0 k (nx.length : Int) m 0 b nx acc = _ := sDfa_l0 b nx acc (by omega) (by omega) m (by omega) nx.length k 0 (by omega) (by omega) (by omega)
     rw [e]
     exact congrArg some (decide_eq_decide.2 (dfaOk_iff hb (by omega)).symm)
   ·rw [if_neg h3]
    exact no _ (fun ⟨m, _, g, _⟩ => by omega)
theorem drow_mem {nx : List (List Int)} {P : List Int → Prop} : (∀ row ∈ nx, P row) ↔ ∀ i, i < nx.length → P (drow nx i) := by
 unfold drow
 constructor
 ·intro h i hi
  rw [List.getD_eq_getElem?_getD, List.getElem?_eq_getElem hi]
  exact h _ (List.getElem_mem hi)
 ·intro h x hx
  obtain ⟨i, hi, rfl⟩ := List.mem_iff_getElem.1 hx
  have := h i hi
  rw [List.getD_eq_getElem?_getD, List.getElem?_eq_getElem hi] at this
  exact this
open Classical in
theorem iDfaOk (b : List Int) (nx : List (List Int)) (acc : List Int) (hbl : b.length ≤ 1048576) (k : Nat) (hk : 1300000 ≤ k) : impl_DfaOk.f k b nx acc = some (decide (dfaOk b nx acc)) := by
 obtain ⟨⟨m', ok⟩, er, r2, r1⟩ := iBlocks b hbl k (by omega)
 unfold impl_DfaOk.f
 by_cases h1 : 1 ≤ (nx.length : Int) ∧ (nx.length : Int) ≤ 1000
 ·rw [if_pos h1]
  by_cases h2 : (acc.length : Int) = (nx.length : Int)
  ·rw [if_pos h2]
   by_cases h3 : ∀ x ∈ acc, -1 ≤ x ∧ x ≤ 39
   ·rw [if_pos h3, er]
    simp only [Option.bind_some]
    simp only at r2
    rw [r2]
    cases hb : blocksM b with
    | none =>
     rw [if_neg (by simp), decide_eq_false (fun ⟨m, g, _, _⟩ => by rw [hb] at g; exact absurd g (by simp))]
    | some m =>
     have e := r1 m hb
     simp only at e
     subst e
     rw [if_pos (by simp)]
     refine congrArg some (decide_eq_decide.2 ?_)
     rw [dfaOk_iff hb (by omega), drow_mem]
     rw [inR_mem] at h3
     constructor
     ·intro h i _ hi
      have := h i hi
      exact ⟨h3 i (by omega), this.1, (inR_mem _ _ _).1 this.2⟩
     ·intro h i hi
      have := h i (by omega) hi
      exact ⟨this.2.1, (inR_mem _ _ _).2 this.2.2⟩
   ·rw [if_neg h3, decide_eq_false]
    rintro ⟨m, _, g, h⟩
    rw [inR_mem] at h3
    exact h3 (fun i hi => (h i (by omega) (by omega)).1)
  ·rw [if_neg h2, decide_eq_false (fun ⟨m, _, g, _⟩ => by omega)]
 ·rw [if_neg h1, decide_eq_false (fun ⟨m, _, g, _⟩ => by omega)]
/-- the states from which one with an accept can be come to -/
inductive AliveD (nx : List (List Int)) (acc : List Int) : Nat → Prop
 | here {s : Nat} : s < nx.length → 0 ≤ rd acc (s : Int) → AliveD nx acc s
 | step {s t : Nat} : s < nx.length → (t : Int) ∈ drow nx s → AliveD nx acc t → AliveD nx acc s
/-- flags of which nothing changes any more: those that are dead -/
theorem dead_fix {nx : List (List Int)} {acc : List Int} {out : List Bool} (inv : ∀ s, s < nx.length → out.getD s false = false → AliveD nx acc s)
  (fix : ∀ s, s < nx.length → out.getD s false = true → rd acc (s : Int) < 0 ∧ ∀ t : Nat, (t : Int) ∈ drow nx s → out.getD t false = true) :
  ∀ s, s < nx.length → (out.getD s false = true ↔ ¬ AliveD nx acc s) := by
 have key : ∀ s, AliveD nx acc s → out.getD s false = false := by
  intro s h
  induction h with
  | here hs ha =>
   rename_i s
   cases e : out.getD s false
   ·rfl
   ·have := (fix s hs e).1; omega
  | @step s t hs ht _ ih =>
   cases e : out.getD s false
   ·rfl
   ·rw [(fix s hs e).2 t ht] at ih; cases ih
 intro s hs
 constructor
 ·intro h g
  rw [key s g] at h; cases h
 ·intro h
  cases e : out.getD s false
  ·exact absurd (inv s hs e) h
  ·rfl
theorem alive_fix {nx : List (List Int)} {acc : List Int} {out : List Bool} (inv : ∀ s, s < nx.length → out.getD s false = true → AliveD nx acc s)
  (fix : ∀ s, s < nx.length → out.getD s false = false → rd acc (s : Int) < 0 ∧ ∀ t : Nat, (t : Int) ∈ drow nx s → out.getD t false = false) :
  ∀ s, s < nx.length → (out.getD s false = true ↔ AliveD nx acc s) := by
 have key : ∀ s, AliveD nx acc s → out.getD s false = true := by
  intro s h
  induction h with
  | here hs ha =>
   rename_i s
   cases e : out.getD s false
   ·have := (fix s hs e).1; omega
   ·rfl
  | @step s t hs ht _ ih =>
   cases e : out.getD s false
   ·rw [(fix s hs e).2 t ht] at ih; cases ih
   ·rfl
 exact fun s hs => ⟨fun h => inv s hs h, fun h => key s h⟩
theorem rdB (x : List Bool) (i : Nat) : rdOf false x (i : Int) = x.getD i false := by unfold rdOf; rw [Int.toNat_natCast]
theorem getD_setB (x : List Bool) (i j : Nat) (v : Bool) (h : i < x.length) : (x.set i v).getD j false = if i = j then v else x.getD j false := by
 rw [List.getD_eq_getElem?_getD, List.getD_eq_getElem?_getD, List.getElem?_set]
 by_cases e : i = j
 ·subst e; simp [h]
 ·simp [e]
theorem getD_get (x : List Bool) (i : Nat) (h : i < x.length) : x.getD i false = x[i] := by
 rw [List.getD_eq_getElem?_getD, List.getElem?_eq_getElem h]; rfl
/-- a right table's rows -/
structure Rows (nx : List (List Int)) (acc : List Int) (m : Nat) : Prop where
 n : 1 ≤ nx.length ∧ nx.length ≤ 1000
 a : acc.length = nx.length
 le : m ≤ 256
 row : ∀ s, s < nx.length → (drow nx s).length = m ∧ ∀ t ∈ drow nx s, 0 ≤ t ∧ t < (nx.length : Int)
theorem Rows.of {b : List Int} {nx : List (List Int)} {acc : List Int} (h : dfaOk b nx acc) : ∃ m, Rows nx acc m := by
 obtain ⟨m, hm, h1, h2⟩ := h
 have hb := blocksM_some hm
 refine ⟨m.toNat, ⟨h1.1, h1.2.1⟩, h1.2.2, by omega, fun s hs => ?_⟩
 have r := h2 s (Nat.zero_le _) hs
 refine ⟨by have := r.2.1; omega, fun t ht => ?_⟩
 have := (inR_mem (drow nx s) 0 (nx.length - 1)).2 r.2.2 t ht
 omega
section
variable {nx : List (List Int)} {acc : List Int} {m : Nat} (hr : Rows nx acc m)
include hr
theorem iDead0 : ∀ (d k i : Nat) (x : List Bool), d < k → nx.length - i = d → i ≤ nx.length → x.length = nx.length → (∀ s, s < i → x.getD s false = decide (rd acc (s : Int) < 0)) →
  ∃ x', impl_Dfa_dead.l0 k acc x (i : Int) = some x' ∧ x'.length = nx.length ∧ ∀ s, s < nx.length → x'.getD s false = decide (rd acc (s : Int) < 0) := by
 have hn := hr.n
 have ha := hr.a
 intro d
 induction d with
 | zero =>
  intro k i x hk hd hi hx hm
  obtain ⟨k, rfl⟩ : ∃ q, k = q + 1 := ⟨k - 1, by omega⟩
  exact ⟨x, by rw [impl_Dfa_dead.l0, if_neg (by omega)], hx, fun s hs => hm s (by omega)⟩
 | succ d ih =>
  intro k i x hk hd hi hx hm
  obtain ⟨k, rfl⟩ : ∃ q, k = q + 1 := ⟨k - 1, by omega⟩
  rw [impl_Dfa_dead.l0, if_pos (by omega), if_pos (by omega), nat_next (by omega), Int.toNat_natCast]
  refine ih k (i + 1) _ (by omega) (by omega) (by omega) (by rw [List.length_set]; exact hx) (fun s hs => ?_)
  rw [getD_setB _ _ _ _ (by omega)]
  by_cases e : i = s
  ·subst e; rw [if_pos rfl]
  ·rw [if_neg e]; exact hm s (by omega)
/-- flags that are dead at most -/
def InvD (nx : List (List Int)) (acc : List Int) (x : List Bool) : Prop := x.length = nx.length ∧ (∀ s, s < nx.length → x.getD s false = false → AliveD nx acc s) ∧ ∀ s, s < nx.length → x.getD s false = true → rd acc (s : Int) < 0
theorem iDead2 : ∀ (d k i : Nat) (x : List Bool) (ag : Bool), d < k → nx.length - i = d → i ≤ nx.length → InvD nx acc x →
  ∃ x' ag', impl_Dfa_dead.l2 k nx x (i : Int) ag = some (x', ag') ∧ InvD nx acc x' ∧ (ag' = false → ag = false ∧ x' = x ∧ ∀ s, i ≤ s → s < nx.length → x.getD s false = true → ∀ t : Nat, (t : Int) ∈ drow nx s → x.getD t false = true) ∧ x'.countP id ≤ x.countP id ∧ (ag' = true → ag = true ∨ x'.countP id < x.countP id) := by
 have hn := hr.n
 intro d
 induction d with
 | zero =>
  intro k i x ag hk hd hi hx
  obtain ⟨k, rfl⟩ : ∃ q, k = q + 1 := ⟨k - 1, by omega⟩
  exact ⟨x, ag, by rw [impl_Dfa_dead.l2, if_neg (by omega)], hx, fun h => ⟨h, rfl, fun s h1 h2 => by omega⟩, Nat.le_refl _, fun h => .inl h⟩
 | succ d ih =>
  intro k i x ag hk hd hi hx
  obtain ⟨k, rfl⟩ : ∃ q, k = q + 1 := ⟨k - 1, by omega⟩
  have hl := hx.1
  have hrow := (hr.row i (by omega)).2
  have er : deadRow nx (i : Int) = drow nx i := by unfold deadRow drow; rw [Int.toNat_natCast]
  rw [impl_Dfa_dead.l2, if_pos (by omega), if_pos (by omega), rdB, nat_next (by omega), er, Int.toNat_natCast]
  by_cases c : x.getD i false = true
  ·rw [if_pos c, if_pos (fun t ht => by have := hrow t ht; omega)]
   by_cases q : deadAny x (drow nx i) = true
   ·rw [if_pos q]
    unfold deadAny at q
    rw [List.any_eq_true] at q
    obtain ⟨t, ht, hf⟩ := q
    have tr := hrow t ht
    obtain ⟨tn, rfl⟩ : ∃ n : Nat, t = n := ⟨t.toNat, by omega⟩
    rw [rdB, Bool.not_eq_true'] at hf
    have al : AliveD nx acc tn := hx.2.1 tn (by omega) hf
    have hx' : InvD nx acc (x.set i false) := by
     refine ⟨by rw [List.length_set]; exact hl, fun s hs h => ?_, fun s hs h => ?_⟩
     ·rw [getD_setB _ _ _ _ (by omega)] at h
      by_cases e : i = s
      ·subst e; exact .step hs ht al
      ·rw [if_neg e] at h; exact hx.2.1 s hs h
     ·rw [getD_setB _ _ _ _ (by omega)] at h
      by_cases e : i = s
      ·rw [if_pos e] at h; cases h
      ·rw [if_neg e] at h; exact hx.2.2 s hs h
    obtain ⟨x', ag', e1, e2, e3, e4, e5⟩ := ih k (i + 1) (x.set i false) true (by omega) (by omega) (by omega) hx'
    have hc : (x.set i false).countP id + 1 = x.countP id := by
     have hi' : i < x.length := by omega
     have e := List.countP_set (p := id) (a := false) hi'
     have hp : 0 < x.countP id := List.countP_pos_iff.2 ⟨x[i], List.getElem_mem hi', by rw [getD_get x i hi'] at c; exact c⟩
     rw [getD_get x i hi'] at c
     rw [e, c]
     simp
     omega
    exact ⟨x', ag', e1, e2, fun h => absurd (e3 h).1 (by decide), by omega, fun h => .inr (by rcases e5 h with g | g <;> omega)⟩
   ·rw [if_neg q]
    obtain ⟨x', ag', e1, e2, e3, e4, e5⟩ := ih k (i + 1) x ag (by omega) (by omega) (by omega) hx
    refine ⟨x', ag', e1, e2, fun h => ⟨(e3 h).1, (e3 h).2.1, fun s h1 h2 h3 t ht => ?_⟩, e4, e5⟩
    by_cases e : s = i
    ·subst e
     cases f : x.getD t false
     ·exfalso
      apply q
      unfold deadAny
      rw [List.any_eq_true]
      exact ⟨(t : Int), ht, by rw [rdB, f]; rfl⟩
     ·rfl
    ·exact (e3 h).2.2 s (by omega) h2 h3 t ht
  ·rw [if_neg c]
   obtain ⟨x', ag', e1, e2, e3, e4, e5⟩ := ih k (i + 1) x ag (by omega) (by omega) (by omega) hx
   refine ⟨x', ag', e1, e2, fun h => ⟨(e3 h).1, (e3 h).2.1, fun s h1 h2 h3 t ht => ?_⟩, e4, e5⟩
   by_cases e : s = i
   ·subst e; exact absurd h3 c
   ·exact (e3 h).2.2 s (by omega) h2 h3 t ht
theorem iDead1 : ∀ (c k : Nat) (x : List Bool), c + nx.length + 5 < k → x.countP id ≤ c → InvD nx acc x → ∃ x', impl_Dfa_dead.l1 k nx x true = some x' ∧ x'.length = nx.length ∧ ∀ s, s < nx.length → (x'.getD s false = true ↔ ¬ AliveD nx acc s) := by
 intro c
 induction c with
 | zero =>
  intro k x hk hc hx
  obtain ⟨k, rfl⟩ : ∃ q, k = q + 2 := ⟨k - 2, by omega⟩
  obtain ⟨x', ag', e1, e2, e3, e4, e5⟩ := iDead2 hr nx.length (k + 1) 0 x false (by omega) (by omega) (by omega) hx
  have e1' : impl_Dfa_dead.l2 (k + 1) nx x 0 false = some (x', ag') := e1
  rw [impl_Dfa_dead.l1, if_pos rfl, e1', Option.bind_some]
  cases ag' with
  | true =>
   rcases e5 rfl with g | g
   ·cases g
   ·omega
  | false =>
   obtain ⟨_, rfl, g⟩ := e3 rfl
   exact ⟨x', by rw [impl_Dfa_dead.l1, if_neg (by simp)], hx.1, dead_fix hx.2.1 (fun s hs h => ⟨hx.2.2 s hs h, g s (Nat.zero_le _) hs h⟩)⟩
 | succ c ih =>
  intro k x hk hc hx
  obtain ⟨k, rfl⟩ : ∃ q, k = q + 2 := ⟨k - 2, by omega⟩
  obtain ⟨x', ag', e1, e2, e3, e4, e5⟩ := iDead2 hr nx.length (k + 1) 0 x false (by omega) (by omega) (by omega) hx
  have e1' : impl_Dfa_dead.l2 (k + 1) nx x 0 false = some (x', ag') := e1
  rw [impl_Dfa_dead.l1, if_pos rfl, e1', Option.bind_some]
  cases ag' with
  | true =>
   rcases e5 rfl with g | g
   ·cases g
   ·exact ih (k + 1) x' (by omega) (by omega) e2
  | false =>
   obtain ⟨_, rfl, g⟩ := e3 rfl
   exact ⟨x', by rw [impl_Dfa_dead.l1, if_neg (by simp)], hx.1, dead_fix hx.2.1 (fun s hs h => ⟨hx.2.2 s hs h, g s (Nat.zero_le _) hs h⟩)⟩
theorem iDead (b : List Int) (k : Nat) (hk : 3000 ≤ k) : ∃ x, impl_Dfa_dead.f k b nx acc = some x ∧ x.length = nx.length ∧ ∀ s, s < nx.length → (x.getD s false = true ↔ ¬ AliveD nx acc s) := by
 have hn := hr.n
 obtain ⟨x0, e0, l0, m0⟩ := iDead0 hr nx.length k 0 (List.replicate nx.length false) (by omega) (by omega) (by omega) (by rw [List.length_replicate]) (fun s hs => by omega)
 have hx : InvD nx acc x0 := by
  refine ⟨l0, fun s hs h => ?_, fun s hs h => ?_⟩
  ·rw [m0 s hs, decide_eq_false_iff_not] at h; exact .here hs (by omega)
  ·rw [m0 s hs, decide_eq_true_eq] at h; exact h
 have hc : x0.countP id ≤ 1000 := Nat.le_trans List.countP_le_length (by omega)
 obtain ⟨x1, e1, l1, m1⟩ := iDead1 hr 1000 k x0 (by omega) hc hx
 have e0' : impl_Dfa_dead.l0 k acc (List.replicate nx.length false) 0 = some x0 := e0
 unfold impl_Dfa_dead.f
 rw [if_pos (by omega), e0', Option.bind_some, e1]
 exact ⟨x1, rfl, l1, m1⟩

/-- flags that are alive at most -/
def InvA (nx : List (List Int)) (acc : List Int) (y : List Bool) : Prop := y.length = nx.length ∧ ∀ s, s < nx.length → y.getD s false = true → AliveD nx acc s
def cntF (y : List Bool) : Nat := y.countP (fun x => !x)
theorem sA2 (b : List Int) (P : List Bool → Prop) (s : Nat) (hs : s < nx.length) (y : List Bool) (hy : y.length = nx.length) (x4 : Bool) (K : Nat) (L : Bool) (G : ∀ k, K < k → ∃ r, spec_l7Alive.l1 k (y.set s L) (x4 || L) ((s : Int) - 1) b nx acc = some r ∧ P r) :
  ∀ (d k j : Nat) (c : Bool), K + d + 1 < k → (drow nx s).length - j = d → j ≤ (drow nx s).length → L = (c || ((drow nx s).drop j).any (fun t => rdOf false y t)) → ∃ r, spec_l7Alive.l2 k y x4 (s : Int) c (j : Int) b nx acc = some r ∧ P r := by
 have hn := hr.n
 have hrow := hr.row s hs
 have hm := hr.le
 have er : rd_L10 nx (s : Int) = drow nx s := by rw [rdL_row, Int.toNat_natCast]
 intro d
 induction d with
 | zero =>
  intro k j c hk hd hj hL
  obtain ⟨k, rfl⟩ : ∃ q, k = q + 1 := ⟨k - 1, by omega⟩
  rw [List.drop_eq_nil_of_le (by omega)] at hL
  have hL' : L = c := by simpa using hL
  subst hL'
  rw [spec_l7Alive.l2, if_pos (by omega), if_pos (by omega), er, if_neg (by omega), if_pos (by omega), Option.bind_some, Int.toNat_natCast, w64 (x := (s : Int) - 1) (by omega) (by omega)]
  have g := G k (by omega)
  cases x4 with
  | true => rw [if_pos rfl]; exact g
  | false => rw [if_neg (by simp)]; exact g
 | succ d ih =>
  intro k j c hk hd hj hL
  obtain ⟨k, rfl⟩ : ∃ q, k = q + 1 := ⟨k - 1, by omega⟩
  have hlt : j < (drow nx s).length := by omega
  have ht := hrow.2 _ (List.getElem_mem hlt)
  have et : rd (drow nx s) (j : Int) = (drow nx s)[j] := rd_nat hlt
  rw [spec_l7Alive.l2, if_pos (by omega), if_pos (by omega), er, if_pos (by omega), nat_next (by omega)]
  rw [List.drop_eq_getElem_cons hlt, List.any_cons] at hL
  by_cases q : c = true
  ·rw [if_pos q]
   exact ih k (j + 1) true (by omega) (by omega) (by omega) (by rw [hL, q]; simp)
  ·rw [if_neg q, if_pos (by omega), et, if_pos (by omega), if_pos (by omega)]
   exact ih k (j + 1) _ (by omega) (by omega) (by omega) (by rw [hL, Bool.eq_false_iff.2 q]; simp)
set_option maxRecDepth 8000 in
theorem sA1 (b : List Int) (P : List Bool → Prop) (K : Nat) : ∀ (d k : Nat) (y : List Bool) (ag : Bool), K + d * 300 + 1 < k → d ≤ nx.length → InvA nx acc y →
  (∀ k' y' ag', K < k' → InvA nx acc y' → cntF y' ≤ cntF y → (ag' = false → ag = false ∧ y' = y ∧ ∀ t : Nat, t < d → y.getD t false = false → rd acc (t : Int) < 0 ∧ ∀ q : Nat, (q : Int) ∈ drow nx t → y.getD q false = false) → (ag' = true → ag = true ∨ cntF y' < cntF y) → ∃ r, spec_l7Alive.l0 k' y' ag' b nx acc = some r ∧ P r) →
  ∃ r, spec_l7Alive.l1 k y ag ((d : Int) - 1) b nx acc = some r ∧ P r := by
 have hn := hr.n
 have ha := hr.a
 have hmm := hr.le
 intro d
 induction d with
 | zero =>
  intro k y ag hk hd hy G
  obtain ⟨k, rfl⟩ : ∃ q, k = q + 1 := ⟨k - 1, by omega⟩
  rw [spec_l7Alive.l1, if_neg (by omega)]
  exact G k y ag (by omega) hy (Nat.le_refl _) (fun h => ⟨h, rfl, fun t ht => by omega⟩) (fun h => .inl h)
 | succ d ih =>
  intro k y ag hk hd hy G
  obtain ⟨k, rfl⟩ : ∃ q, k = q + 1 := ⟨k - 1, by omega⟩
  have hl := hy.1
  have hrow := hr.row d (by omega)
  rw [show ((d + 1 : Nat) : Int) - 1 = (d : Int) by omega, spec_l7Alive.l1, if_pos (by omega), if_pos (by omega), if_pos (by omega), rdB]
  by_cases c : y.getD d false = true
  ·rw [if_pos c, w64 (x := (d : Int) - 1) (by omega) (by omega)]
   refine ih k y ag (by clear G ih; omega) (by clear G ih; omega) hy (fun k' y' ag' h1 h2 h3 h4 h5 => G k' y' ag' h1 h2 h3 (fun h => ⟨(h4 h).1, (h4 h).2.1, fun t ht hf => ?_⟩) h5)
   by_cases e : t = d
   ·subst e; rw [c] at hf; cases hf
   ·exact (h4 h).2.2 t (by omega) hf
  ·rw [if_neg c, if_pos (by omega)]
   have hi' : d < y.length := by omega
   have cf : y[d] = false := by rw [← getD_get y d hi']; exact Bool.eq_false_iff.2 c
   refine sA2 hr b P d (by omega) y hl ag (K + d * 300 + 1) _ (fun k' hk' => ?_) (drow nx d).length k 0 _ (by have := hrow.1; omega) (by omega) (by omega) rfl
   rw [List.drop_zero]
   cases hL : (decide (rd acc (d : Int) ≥ 0) || (drow nx d).any (fun t => rdOf false y t)) with
   | true =>
    rw [Bool.or_eq_true, decide_eq_true_eq, List.any_eq_true] at hL
    have al : AliveD nx acc d := by
     rcases hL with g | ⟨t, ht, g⟩
     ·exact .here (by omega) g
     ·have tr := hrow.2 t ht
      obtain ⟨tn, rfl⟩ : ∃ n : Nat, t = n := ⟨t.toNat, by omega⟩
      rw [rdB] at g
      exact .step (by omega) ht (hy.2 tn (by omega) g)
    have hy' : InvA nx acc (y.set d true) := by
     refine ⟨by rw [List.length_set]; exact hl, fun s hs h => ?_⟩
     rw [getD_setB _ _ _ _ hi'] at h
     by_cases e : d = s
     ·subst e; exact al
     ·rw [if_neg e] at h; exact hy.2 s hs h
    have hc : cntF (y.set d true) + 1 = cntF y := by
     unfold cntF
     have e := List.countP_set (p := fun x => !x) (a := true) hi'
     have hp : 0 < y.countP (fun x => !x) := List.countP_pos_iff.2 ⟨y[d], List.getElem_mem hi', by rw [cf]; rfl⟩
     rw [e, cf]
     simp
     omega
    refine ih k' (y.set d true) (ag || true) hk' (by omega) hy' (fun k' y' ag' h1 h2 h3 h4 h5 => G k' y' ag' h1 h2 (by omega) (fun h => ?_) (fun h => .inr (by omega)))
    have := (h4 h).1
    simp at this
   | false =>
    rw [Bool.or_eq_false_iff, decide_eq_false_iff_not] at hL
    have es : y.set d false = y := by rw [← cf]; exact List.set_getElem_self hi'
    rw [es, Bool.or_false]
    refine ih k' y ag hk' (by omega) hy (fun k' y' ag' h1 h2 h3 h4 h5 => G k' y' ag' h1 h2 h3 (fun h => ⟨(h4 h).1, (h4 h).2.1, fun t ht hf => ?_⟩) h5)
    by_cases e : t = d
    ·subst e
     refine ⟨by omega, fun q hq => ?_⟩
     have := List.any_eq_false.1 hL.2 _ hq
     rw [rdB] at this
     exact Bool.eq_false_iff.2 this
    ·exact (h4 h).2.2 t (by omega) hf
theorem sA0 (b : List Int) : ∀ (c k : Nat) (y : List Bool), (c + 1) * 400000 < k → cntF y ≤ c → InvA nx acc y → ∃ r, spec_l7Alive.l0 k y true b nx acc = some r ∧ r.length = nx.length ∧ ∀ s, s < nx.length → (r.getD s false = true ↔ AliveD nx acc s) := by
 have hn := hr.n
 intro c
 induction c with
 | zero =>
  intro k y hk hc hy
  obtain ⟨k, rfl⟩ : ∃ q, k = q + 1 := ⟨k - 1, by omega⟩
  rw [spec_l7Alive.l0, if_pos rfl, w64 (x := (nx.length : Int) - 1) (by omega) (by omega)]
  refine sA1 hr b _ 10 nx.length k y false (by omega) (Nat.le_refl _) hy (fun k' y' ag' h1 h2 h3 h4 h5 => ?_)
  obtain ⟨k', rfl⟩ : ∃ q, k' = q + 1 := ⟨k' - 1, by omega⟩
  cases ag' with
  | true =>
   rcases h5 rfl with g | g
   ·cases g
   ·omega
  | false =>
   obtain ⟨_, rfl, g⟩ := h4 rfl
   exact ⟨y', by rw [spec_l7Alive.l0, if_neg (by simp)], h2.1, alive_fix h2.2 (fun s hs h => g s hs h)⟩
 | succ c ih =>
  intro k y hk hc hy
  obtain ⟨k, rfl⟩ : ∃ q, k = q + 1 := ⟨k - 1, by omega⟩
  rw [spec_l7Alive.l0, if_pos rfl, w64 (x := (nx.length : Int) - 1) (by omega) (by omega)]
  refine sA1 hr b _ ((c + 1) * 400000) nx.length k y false (by omega) (Nat.le_refl _) hy (fun k' y' ag' h1 h2 h3 h4 h5 => ?_)
  cases ag' with
  | true =>
   rcases h5 rfl with g | g
   ·cases g
   ·exact ih k' y' h1 (by omega) h2
  | false =>
   obtain ⟨k', rfl⟩ : ∃ q, k' = q + 1 := ⟨k' - 1, by omega⟩
   obtain ⟨_, rfl, g⟩ := h4 rfl
   exact ⟨y', by rw [spec_l7Alive.l0, if_neg (by simp)], h2.1, alive_fix h2.2 (fun s hs h => g s hs h)⟩
theorem sAlive (b : List Int) (k : Nat) (hk : 500000000 ≤ k) : ∃ y, spec_l7Alive.f k b nx acc = some y ∧ y.length = nx.length ∧ ∀ s, s < nx.length → (y.getD s false = true ↔ AliveD nx acc s) := by
 have hn := hr.n
 unfold spec_l7Alive.f
 rw [if_pos (by omega), if_pos (by omega), Int.toNat_natCast]
 refine sA0 hr b 1000 k _ (by omega) ?_ ⟨by rw [List.length_replicate], fun s hs h => ?_⟩
 ·unfold cntF
  exact Nat.le_trans List.countP_le_length (by rw [List.length_replicate]; omega)
 ·rw [List.getD_eq_getElem?_getD, List.getElem?_replicate] at h
  split at h <;> simp at h
end
open Classical in
noncomputable def deadL (P : Nat → Prop) : Nat → Nat → List Int
 | 0, _ => []
 | d + 1, i => if P i then deadL P d (i + 1) else (i : Int) :: deadL P d (i + 1)
open Classical in
theorem deadL_len (P : Nat → Prop) : ∀ d i, (deadL P d i).length ≤ d
 | 0, _ => by simp [deadL]
 | d + 1, i => by
  have := deadL_len P d (i + 1)
  unfold deadL
  split
  ·omega
  ·rw [List.length_cons]; omega
open Classical in
theorem iDL (P : Nat → Prop) (x : List Bool) (n : Nat) (hn : n ≤ 1000) (hx : x.length = n) (hP : ∀ s, s < n → (x.getD s false = true ↔ ¬ P s)) : ∀ (d k i : Nat) (o : List Int), d < k → n - i = d → i ≤ n → o.length ≤ i → impl_DeadOf.l0 k o x (n : Int) (i : Int) = some (o ++ deadL P d i)
 | 0, k, i, o, hk, hd, hi, ho => by
  obtain ⟨k, rfl⟩ : ∃ q, k = q + 1 := ⟨k - 1, by omega⟩
  rw [impl_DeadOf.l0, if_neg (by omega), deadL, List.append_nil]
 | d + 1, k, i, o, hk, hd, hi, ho => by
  obtain ⟨k, rfl⟩ : ∃ q, k = q + 1 := ⟨k - 1, by omega⟩
  have h := hP i (by omega)
  rw [impl_DeadOf.l0, if_pos (by omega), if_pos (by omega), if_pos (by omega), rdB, nat_next (by omega), deadL]
  by_cases p : P i
  ·rw [if_pos p, if_neg (fun g => h.1 g p), iDL P x n hn hx hP d k (i + 1) o (by omega) (by omega) (by omega) (by omega)]
  ·rw [if_neg p, if_pos (h.2 p), if_pos (by omega), iDL P x n hn hx hP d k (i + 1) _ (by omega) (by omega) (by omega) (by rw [List.length_append, List.length_singleton]; omega), List.append_assoc]
   rfl
open Classical in
theorem sDL (P : Nat → Prop) (x : List Bool) (n : Nat) (hn : n ≤ 1000) (hx : x.length = n) (hP : ∀ s, s < n → (x.getD s false = true ↔ P s)) : ∀ (d k i : Nat) (o : List Int), d < k → n - i = d → i ≤ n → o.length ≤ i → spec_DeadOf.l0 k o x (i : Int) = some (o ++ deadL P d i)
 | 0, k, i, o, hk, hd, hi, ho => by
  obtain ⟨k, rfl⟩ : ∃ q, k = q + 1 := ⟨k - 1, by omega⟩
  rw [spec_DeadOf.l0, if_neg (by omega), deadL, List.append_nil]
 | d + 1, k, i, o, hk, hd, hi, ho => by
  obtain ⟨k, rfl⟩ : ∃ q, k = q + 1 := ⟨k - 1, by omega⟩
  have h := hP i (by omega)
  rw [spec_DeadOf.l0, if_pos (by omega), if_pos (by omega), rdB, nat_next (by omega), deadL]
  by_cases p : P i
  ·rw [if_pos p, if_pos (h.2 p), sDL P x n hn hx hP d k (i + 1) o (by omega) (by omega) (by omega) (by omega)]
  ·rw [if_neg p, if_neg (fun g => p (h.1 g)), if_pos (by omega), sDL P x n hn hx hP d k (i + 1) _ (by omega) (by omega) (by omega) (by rw [List.length_append, List.length_singleton]; omega), List.append_assoc]
   rfl
open Classical in
theorem dead_both (b : List Int) (nx : List (List Int)) (acc : List Int) (hbl : b.length ≤ 1048576) : ∃ o : List Int, o.length ≤ 1000 ∧ (dfaOk b nx acc → o = deadL (AliveD nx acc) nx.length 0) ∧ (¬ dfaOk b nx acc → o = []) ∧ ∀ k, 500000000 ≤ k → spec_DeadOf.f k b nx acc = some o ∧ impl_DeadOf.f k b nx acc = some o := by
 by_cases h : dfaOk b nx acc
 ·obtain ⟨m, hr⟩ := Rows.of h
  have hn := hr.n
  refine ⟨deadL (AliveD nx acc) nx.length 0, Nat.le_trans (deadL_len _ _ _) hn.2, fun _ => rfl, fun q => absurd h q, fun k hk => ⟨?_, ?_⟩⟩
  ·obtain ⟨y, e, ly, hy⟩ := sAlive hr b k hk
   unfold spec_DeadOf.f
   rw [Option.bind_some, sDfaOk b nx acc k (by omega), decide_eq_true h, Option.bind_some, if_pos rfl, e, Option.bind_some]
   have q := sDL (AliveD nx acc) y nx.length hn.2 ly hy nx.length k 0 [] (by omega) (by omega) (by omega) (by simp)
   rw [List.nil_append] at q
   exact q
  ·obtain ⟨x, e, lx, hx⟩ := iDead hr b k (by omega)
   unfold impl_DeadOf.f
   rw [iDfaOk b nx acc hbl k (by omega), decide_eq_true h, Option.bind_some, if_pos rfl, e, Option.bind_some, lx]
   have q := iDL (AliveD nx acc) x nx.length hn.2 lx hx nx.length k 0 [] (by omega) (by omega) (by omega) (by simp)
   rw [List.nil_append] at q
   exact q
 ·refine ⟨[], by simp, fun q => absurd q h, fun _ => rfl, fun k hk => ⟨?_, ?_⟩⟩
  ·unfold spec_DeadOf.f
   rw [Option.bind_some, sDfaOk b nx acc k (by omega), decide_eq_false h]
   rfl
  ·unfold impl_DeadOf.f
   rw [iDfaOk b nx acc hbl k (by omega), decide_eq_false h]
   rfl
theorem sameInts_l (l : List Int) (hl : l.length ≤ 3000) (d : Nat) : ∀ (k i : Nat), d < k → l.length - i = d → i ≤ l.length → laws_sameInts.l0 k l l (i : Int) = some true := by
 induction d with
 | zero =>
  intro k i hk hd hi
  obtain ⟨k, rfl⟩ : ∃ m, k = m + 1 := ⟨k - 1, by omega⟩
  rw [laws_sameInts.l0, if_neg (by omega)]
 | succ d ih =>
  intro k i hk hd hi
  obtain ⟨k, rfl⟩ : ∃ m, k = m + 1 := ⟨k - 1, by omega⟩
  rw [laws_sameInts.l0, if_pos (by omega), if_pos (by omega), if_pos (by omega), if_pos rfl, nat_next (by omega)]
  exact ih k (i + 1) (by omega) (by omega) (by omega)
theorem sameInts_same (l : List Int) (hl : l.length ≤ 3000) (k : Nat) (hk : l.length < k) : laws_sameInts.f k l l = some true := by
 unfold laws_sameInts.f
 rw [if_pos rfl]
 exact sameInts_l l hl l.length k 0 hk (by omega) (Nat.zero_le _)
theorem has_l (l : List Int) (hl : l.length ≤ 3000) (x : Int) (d : Nat) : ∀ (k i : Nat), d < k → l.length - i = d → i ≤ l.length → laws_has.l0 k l x (i : Int) = some (decide (x ∈ l.drop i)) := by
 induction d with
 | zero =>
  intro k i hk hd hi
  obtain ⟨k, rfl⟩ : ∃ m, k = m + 1 := ⟨k - 1, by omega⟩
  rw [List.drop_eq_nil_of_le (by omega), laws_has.l0, if_neg (by omega)]
  simp
 | succ d ih =>
  intro k i hk hd hi
  obtain ⟨k, rfl⟩ : ∃ m, k = m + 1 := ⟨k - 1, by omega⟩
  have hlt : i < l.length := by omega
  have hdr := List.drop_eq_getElem_cons hlt
  rw [hdr, laws_has.l0, if_pos (by omega), if_pos (by omega), nat_next (by omega)]
  by_cases q : l[i] = x
  ·rw [if_pos (by rw [rd_nat' hlt]; exact q), q]
   simp
  ·rw [if_neg (by rw [rd_nat' hlt]; exact q), ih k (i + 1) (by omega) (by omega) (by omega)]
   exact congrArg some (decide_eq_decide.2 ⟨fun h => List.mem_cons_of_mem _ h, fun h => (List.mem_cons.1 h).resolve_left (fun e => q e.symm)⟩)
theorem has_is (l : List Int) (hl : l.length ≤ 3000) (x : Int) (k : Nat) (hk : l.length < k) : laws_has.f k l x = some (decide (x ∈ l)) := by
 have := has_l l hl x l.length k 0 hk (by omega) (Nat.zero_le _)
 rw [List.drop_zero] at this
 exact this
open Classical in
theorem mem_deadL (P : Nat → Prop) (x : Int) : ∀ d i, x ∈ deadL P d i ↔ ∃ s : Nat, i ≤ s ∧ s < i + d ∧ x = (s : Int) ∧ ¬ P s
 | 0, i => by
  unfold deadL
  simp
  intro s h1 h2
  omega
 | d + 1, i => by
  have ih := mem_deadL P x d (i + 1)
  unfold deadL
  by_cases q : P i
  ·rw [if_pos q, ih]
   constructor
   ·rintro ⟨s, h1, h2, h3⟩
    exact ⟨s, by omega, by omega, h3⟩
   ·rintro ⟨s, h1, h2, h3, h4⟩
    by_cases e : s = i
    ·rw [e] at h4; exact absurd q h4
    ·exact ⟨s, by omega, by omega, h3, h4⟩
  ·rw [if_neg q, List.mem_cons, ih]
   constructor
   ·rintro (h | ⟨s, h1, h2, h3⟩)
    ·exact ⟨i, by omega, by omega, h, q⟩
    ·exact ⟨s, by omega, by omega, h3⟩
   ·rintro ⟨s, h1, h2, h3, h4⟩
    by_cases e : s = i
    ·rw [e] at h3; exact .inl h3
    ·exact .inr ⟨s, by omega, by omega, h3, h4⟩
theorem alive_iff {nx : List (List Int)} {acc : List Int} {m : Nat} (hr : Rows nx acc m) (s : Nat) (hs : s < nx.length) : AliveD nx acc s ↔ 0 ≤ rd acc (s : Int) ∨ ∃ j : Nat, j < (drow nx s).length ∧ AliveD nx acc (rd (drow nx s) (j : Int)).toNat := by
 constructor
 ·intro h
  cases h with
  | here _ ha => exact .inl ha
  | @step _ t _ ht h2 =>
   obtain ⟨j, hj, e⟩ := List.mem_iff_getElem.1 ht
   exact .inr ⟨j, hj, by rw [rd_nat hj, e, Int.toNat_natCast]; exact h2⟩
 ·rintro (h | ⟨j, hj, h⟩)
  ·exact .here hs h
  ·have hm := (hr.row s hs).2 _ (List.getElem_mem hj)
   rw [rd_nat hj] at h
   exact .step hs (by rw [Int.toNat_of_nonneg hm.1]; exact List.getElem_mem hj) h
open Classical in
theorem dead_at (b : List Int) (nx : List (List Int)) (ac : List Int) (h : OddB b nx ac) : ∃ k dead okb D, DeadAt k b nx ac dead okb D := by
 obtain ⟨o, lo, o1, o2, ho⟩ := dead_both b nx ac (by have := h.1; omega)
 refine ⟨500000000, o, decide (dfaOk b nx ac), fun x => decide (x ∈ o), (ho _ (Nat.le_refl _)).2, (ho _ (Nat.le_refl _)).1, sameInts_same o (by omega) _ (by omega), sDfaOk b nx ac _ (by omega), fun x => has_is o (by omega) x _ (by omega), fun q => by rw [o2 (of_decide_eq_false q)]; rfl, fun q => ?_⟩
 have hd := of_decide_eq_true q
 obtain ⟨m, hr⟩ := Rows.of hd
 have mo : ∀ s : Nat, s < nx.length → ((s : Int) ∈ o ↔ ¬ AliveD nx ac s) := fun s hs => by
  rw [o1 hd, mem_deadL]
  constructor
  ·rintro ⟨t, h1, h2, h3, h4⟩
   obtain rfl : s = t := by omega
   exact h4
  ·intro h4
   exact ⟨s, by omega, by omega, rfl, h4⟩
 have hj : ∀ s, s < nx.length → ∀ j : Nat, j < (drow nx s).length → (rd (drow nx s) (j : Int) ∈ o ↔ ¬ AliveD nx ac (rd (drow nx s) (j : Int)).toNat) := fun s hs j hj => by
  have hm := (hr.row s hs).2 _ (List.getElem_mem hj)
  rw [rd_nat hj]
  have := mo (drow nx s)[j].toNat (by omega)
  rw [Int.toNat_of_nonneg hm.1] at this
  exact this
 refine ⟨hr.a, fun s hs => ⟨fun q => ?_, fun q => ?_⟩⟩
 ·have ha : AliveD nx ac s := Classical.not_not.1 (fun h => of_decide_eq_false q ((mo s hs).2 h))
  rcases (alive_iff hr s hs).1 ha with g | ⟨j, g1, g2⟩
  ·exact .inl g
  ·exact .inr ⟨j, g1, decide_eq_false (fun e => (hj s hs j g1).1 e g2)⟩
 ·have ha := (mo s hs).1 (of_decide_eq_true q)
  refine ⟨?_, fun j g => decide_eq_true ((hj s hs j g).2 (fun e => ha ((alive_iff hr s hs).2 (.inr ⟨j, g, e⟩))))⟩
  by_cases c : 0 ≤ rd ac (s : Int)
  ·exact absurd ((alive_iff hr s hs).2 (.inl c)) ha
  ·omega
theorem FnDead (code : List Int) (g : code.length ≤ maxLen ∧ ∀ y ∈ code, (Lit.int .u8 y).wf = true) : ∃ k, laws_FnDead.f k code = some true := by
 have hw := g.2
 refine ⟨0, ?_⟩
 unfold laws_FnDead.f
 rw [if_pos]
 refine ⟨fun x hx => ?_, fun s es fs h1 h2 h3 => ?_, fun b nx ac h => dead_at b nx ac h⟩
 ·have := hw x hx
  simp [Lit.wf, IntKind.min, IntKind.max, IntKind.signed, IntKind.bits] at this
  omega
 ·obtain ⟨r, h4, h5⟩ := bd_tot s es fs (fun e he => by have := h3 e he; omega) 60 (by omega)
  exact ⟨80000000, r, h5 _ (Nat.le_refl _), h4⟩
end Go.Proofs.Ytfajfjgkkgigoaa.Pure
