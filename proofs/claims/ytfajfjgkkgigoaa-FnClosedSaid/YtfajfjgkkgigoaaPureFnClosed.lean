/- A closure holds what it is of, and is closed; moving on is moving on from it: whatever is drawn. -/
import Derived.Test.YtfajfjgkkgigoaaPFnClosedx17
import Derived.Test.YtfajfjgkkgigoaaKit
import Derived.Test.YtfajfjgkkgigoaaKitClass
namespace Go.Proofs.Ytfajfjgkkgigoaa.Pure
open Go.RowKit Go.Proofs.Ytfajfjgkkgigoaa.PFnClosed Go.Proofs.YtfajfjgkkgigoaaW.PrintWords Go.Proofs.YtfajfjgkkgigoaaW.PrintLast Go.Proofs.YtfajfjgkkgigoaaW.PrintMore Go.Proofs.Ytfajfjgkkgigoaa.Kit
set_option linter.unusedVariables false
theorem iWithin (a b c : Int) : impl_within.f a b c = some (decide (b ≤ a ∧ a ≤ c)) := by
  unfold impl_within.f
  by_cases h : a ≥ b
  · rw [if_pos h]; congr 1; simp; omega
  · rw [if_neg h]; congr 1; simp; omega
def bi_Edge (y : S85) : Prop := y.f2.length ≤ 1048576
open Classical in
theorem iClassOk_l (l : List S160) (hl : l.length ≤ 1048576) (d : Nat) : ∀ (k : Nat) (i : Nat), d < k → l.length - i = d → i ≤ l.length → (∀ j, j < i → okAt (l.map toP) j) →
    impl_ClassOk.l0 k l l (l.length : Int) (i : Int) = some (decide (okFrom (l.map toP) i)) := by
  induction d with
  | zero =>
    intro k i hk hd hle _
    obtain ⟨k, rfl⟩ : ∃ m, k = m + 1 := ⟨k - 1, by omega⟩
    simp only [impl_ClassOk.l0]
    rw [if_neg (by omega), decide_eq_true (okFrom_end (by simp; omega))]
  | succ d ih =>
    intro k i hk hd hle hp
    obtain ⟨k, rfl⟩ : ∃ m, k = m + 1 := ⟨k - 1, by omega⟩
    have hlt : i < (l.map toP).length := by simp; omega
    have hst := okFrom_step (l := l.map toP) hlt
    have hne : ¬ okAt (l.map toP) i → decide (okFrom (l.map toP) i) = false := fun h => decide_eq_false (fun g => h (hst.1 g).1)
    simp only [impl_ClassOk.l0, toP_lo, toP_hi]
    rw [if_pos (by omega), if_pos (by omega), if_pos (by omega)]
    have ei : ((i : Nat) : Int).toNat = i := by omega
    rw [ei]
    by_cases h1 : lo (l.map toP) i < 0
    · rw [if_pos h1, hne (fun g => by have := g.1; omega)]
    · rw [if_neg h1]
      by_cases h2 : lo (l.map toP) i > hi (l.map toP) i
      · rw [if_pos h2, hne (fun g => by have := g.2.1; omega)]
      · rw [if_neg h2]
        by_cases h3 : hi (l.map toP) i > 255
        · rw [if_pos h3, hne (fun g => by have := g.2.2.1; omega)]
        · rw [if_neg h3]
          have en : wrap64 ((i : Int) + 1) = ((i + 1 : Nat) : Int) := by rw [w64 (by omega) (by omega)]; omega
          have go : okAt (l.map toP) i → impl_ClassOk.l0 k l l (l.length : Int) (wrap64 ((i : Int) + 1)) = some (decide (okFrom (l.map toP) i)) := by
            intro g
            rw [en, ih k (i + 1) (by omega) (by omega) (by omega) (fun j hj => by
              rcases Nat.lt_or_eq_of_le (Nat.le_of_lt_succ hj) with h | h
              · exact hp j h
              · exact h ▸ g)]
            congr 1
            exact decide_eq_decide.2 ⟨fun h => hst.2 ⟨g, h⟩, fun h => (hst.1 h).2⟩
          by_cases h4 : (i : Int) > 0
          · have hq := hp (i - 1) (by omega)
            have e1 : (wrap64 ((i : Int) - 1)) = ((i - 1 : Nat) : Int) := by rw [w64 (by omega) (by omega)]; omega
            have e2 : (((i - 1 : Nat) : Int)).toNat = i - 1 := by omega
            have q1 := hq.1
            have q2 := hq.2.1
            have q3 := hq.2.2.1
            rw [if_pos h4, e1, if_pos (by omega), if_pos (by omega), e2, w64 (x := hi (l.map toP) (i - 1) + 2) (by omega) (by omega)]
            by_cases h5 : lo (l.map toP) i < hi (l.map toP) (i - 1) + 2
            · rw [if_pos h5, hne (fun g => by have := g.2.2.2 (by omega); omega)]
            · rw [if_neg h5]
              exact go ⟨by omega, by omega, by omega, fun _ => by omega⟩
          · rw [if_neg h4]
            exact go ⟨by omega, by omega, by omega, fun h => by omega⟩
open Classical in
theorem iClassOk (l : List S160) (hl : l.length ≤ 1048576) (k : Nat) (hk : l.length < k) : impl_ClassOk.f k l = some (decide (classOk (l.map toP))) := by
  unfold impl_ClassOk.f
  have e : impl_ClassOk.l0 k l l (l.length : Int) 0 = some (decide (okFrom (l.map toP) 0)) := iClassOk_l l hl l.length k 0 hk (by omega) (by omega) (fun j hj => by omega)
  rw [e]
  congr 1
  exact decide_eq_decide.2 (okFrom_zero _)
open Classical in
theorem iNfa_l1 (n : Int) (hn : 1 ≤ n ∧ n ≤ 3000) (es : List S85) (fs : List S156) (hf : fs.length ≤ 40) (d : Nat) : ∀ (k i : Nat), d < k → fs.length - i = d → i ≤ fs.length →
    impl_NfaOk.l1 k fs (fs.length : Int) (i : Int) n es fs = some (decide (fromN (endP n fs) fs.length i ∧ True)) := by
  induction d with
  | zero =>
    intro k i hk hd hi
    obtain ⟨k, rfl⟩ : ∃ m, k = m + 1 := ⟨k - 1, by omega⟩
    simp only [impl_NfaOk.l1]
    rw [if_neg (by omega), decide_eq_true ⟨fromN_end (by omega), trivial⟩]
  | succ d ih =>
    intro k i hk hd hi
    obtain ⟨k, rfl⟩ : ∃ m, k = m + 1 := ⟨k - 1, by omega⟩
    have hlt : i < fs.length := by omega
    simp only [impl_NfaOk.l1, iWithin, Option.bind_some, decide_eq_true_eq]
    rw [if_pos (by omega), if_pos (by omega), if_pos (by omega), w64 (x := n - 1) (by omega) (by omega), nat_next (by omega)]
    by_cases h2 : 0 ≤ (rd_T156 fs i).f0 ∧ (rd_T156 fs i).f0 ≤ n - 1
    · rw [if_pos h2]
      by_cases h1 : (rd_T156 fs i).f1 = (i : Int)
      · rw [if_pos h1, ih k (i + 1) (by omega) (by omega) (by omega)]; exact congrArg some (decide_eq_decide.2 (fromN_go hlt ⟨h2, h1⟩))
      · rw [if_neg h1, decide_eq_false (fromN_no hlt (fun g => h1 g.2))]
    · rw [if_neg h2, decide_eq_false (fromN_no hlt (fun g => h2 g.1))]
open Classical in
theorem iNfa_l0 (n : Int) (hn : 1 ≤ n ∧ n ≤ 3000) (es : List S85) (fs : List S156) (he : es.length ≤ 12000) (g : ∀ y ∈ es, bi_Edge y) (hf : fs.length ≤ 40) (d : Nat) : ∀ (k i : Nat), d + 1048578 < k → es.length - i = d → i ≤ es.length →
    impl_NfaOk.l0 k es (es.length : Int) (i : Int) n es fs = some (decide (fromN (edgeP n es) es.length i ∧ fromN (endP n fs) fs.length 0)) := by
  induction d with
  | zero =>
    intro k i hk hd hi
    obtain ⟨k, rfl⟩ : ∃ m, k = m + 1 := ⟨k - 1, by omega⟩
    simp only [impl_NfaOk.l0]
    rw [if_neg (by omega)]
    have e : impl_NfaOk.l1 k fs (fs.length : Int) 0 n es fs = some (decide (fromN (endP n fs) fs.length 0 ∧ True)) := iNfa_l1 n hn es fs hf fs.length k 0 (by omega) (by omega) (by omega)
    rw [e]
    congr 1
    exact decide_eq_decide.2 ⟨fun h => ⟨fromN_end (by omega), h.1⟩, fun h => ⟨h.2, trivial⟩⟩
  | succ d ih =>
    intro k i hk hd hi
    obtain ⟨k, rfl⟩ : ∃ m, k = m + 1 := ⟨k - 1, by omega⟩
    have hlt : i < es.length := by omega
    have hL := edge_len g i
    simp only [impl_NfaOk.l0, iWithin, Option.bind_some, decide_eq_true_eq]
    rw [if_pos (by omega), if_pos (by omega), if_pos (by omega), w64 (x := n - 1) (by omega) (by omega), nat_next (by omega)]
    by_cases h1 : 0 ≤ (rd_T85 es i).f0 ∧ (rd_T85 es i).f0 ≤ n - 1
    · rw [if_pos h1]
      by_cases h2 : 0 ≤ (rd_T85 es i).f1 ∧ (rd_T85 es i).f1 ≤ n - 1
      · rw [if_pos h2, iClassOk _ hL k (by omega)]
        simp only [Option.bind_some, decide_eq_true_eq]
        by_cases h3 : classOk ((rd_T85 es i).f2.map toP)
        · rw [if_pos h3, ih k (i + 1) (by omega) (by omega) (by omega)]; exact congrArg some (decide_eq_decide.2 (fromN_go hlt ⟨h1, h2, h3⟩))
        · rw [if_neg h3, decide_eq_false (fromN_no hlt (fun g => h3 g.2.2))]
      · rw [if_neg h2, decide_eq_false (fromN_no hlt (fun g => h2 g.2.1))]
    · rw [if_neg h1, decide_eq_false (fromN_no hlt (fun g => h1 g.1))]
open Classical in
theorem iNfaOk (n : Int) (es : List S85) (fs : List S156) (g : ∀ y ∈ es, bi_Edge y) (k : Nat) (hk : 2097156 ≤ k) : impl_NfaOk.f k n es fs = some (decide (nfaOk n es fs)) := by
  obtain ⟨k, rfl⟩ : ∃ m, k = m + 1 := ⟨k - 1, by omega⟩
  unfold impl_NfaOk.f
  simp only [iWithin, Option.bind_some, decide_eq_true_eq]
  by_cases h1 : 1 ≤ n ∧ n ≤ 3000
  · rw [if_pos h1]
    by_cases h2 : (es.length : Int) > 12000
    · rw [if_pos h2, decide_eq_false (fun g => by have := g.2.1.1; omega)]
      simp [impl_NfaOk.j0]
    · rw [if_neg h2]
      by_cases h3 : (fs.length : Int) > 40
      · rw [decide_eq_true h3, decide_eq_false (fun g => by have := g.2.1.2; omega)]
        simp [impl_NfaOk.j0]
      · rw [decide_eq_false h3]
        simp only [impl_NfaOk.j0]
        rw [if_neg (by simp)]
        have e : impl_NfaOk.l0 k es (es.length : Int) 0 n es fs = some (decide (fromN (edgeP n es) es.length 0 ∧ fromN (endP n fs) fs.length 0)) := iNfa_l0 n h1 es fs (by omega) g (by omega) es.length k 0 (by omega) (by omega) (by omega)
        rw [e]
        congr 1
        exact decide_eq_decide.2 ⟨fun h => ⟨h1, by omega, h⟩, fun h => h.2.2⟩
  · rw [if_neg h1, decide_eq_false (fun g => h1 g.1)]
    simp [impl_NfaOk.j0]
/-- what can be come to without a byte -/
inductive Rch (es : List S85) (P : Nat → Prop) : Nat → Prop
  | base (s : Nat) : P s → Rch es P s
  | step (s t : Nat) (e : S85) : Rch es P s → e ∈ es → e.f0 = (s : Int) → e.f2.length = 0 → e.f1 = (t : Int) → Rch es P t
open Classical in
noncomputable def cl (n : Nat) (es : List S85) (P : Nat → Prop) : List Bool := (List.range n).map (fun s => decide (Rch es P s))
theorem cl_len (n : Nat) (es : List S85) (P : Nat → Prop) : (cl n es P).length = n := by simp [cl]
theorem cl_get (n : Nat) (es : List S85) (P : Nat → Prop) (s : Nat) (h : s < n) : (cl n es P).getD s false = true ↔ Rch es P s := by
  unfold cl
  rw [List.getD_eq_getElem?_getD, List.getElem?_map, List.getElem?_range h]
  simp
theorem bools_ext {a b : List Bool} (h : a.length = b.length) (g : ∀ s, s < a.length → (a.getD s false = true ↔ b.getD s false = true)) : a = b := by
  refine List.ext_getElem h (fun i h1 h2 => ?_)
  have := g i h1
  rw [List.getD_eq_getElem?_getD, List.getD_eq_getElem?_getD, List.getElem?_eq_getElem h1, List.getElem?_eq_getElem h2] at this
  simp only [Option.getD_some] at this
  cases ha : a[i] <;> cases hb : b[i] <;> simp_all
theorem cl_uniq {n : Nat} {es : List S85} {P : Nat → Prop} {m : List Bool} (h : m.length = n) (g : ∀ s, s < n → (m.getD s false = true ↔ Rch es P s)) : m = cl n es P :=
  bools_ext (by rw [h, cl_len]) (fun s hs => by rw [g s (by omega), cl_get n es P s (by omega)])
theorem Rch_congr {es : List S85} {P Q : Nat → Prop} (h : ∀ s, P s ↔ Q s) (s : Nat) : Rch es P s ↔ Rch es Q s := by
  constructor
  · intro r
    induction r with
    | base s hs => exact .base s ((h s).1 hs)
    | step s t e _ h1 h2 h3 h4 ih => exact .step s t e ih h1 h2 h3 h4
  · intro r
    induction r with
    | base s hs => exact .base s ((h s).2 hs)
    | step s t e _ h1 h2 h3 h4 ih => exact .step s t e ih h1 h2 h3 h4
theorem cl_congr {n : Nat} {es : List S85} {P Q : Nat → Prop} (h : ∀ s, P s ↔ Q s) : cl n es P = cl n es Q :=
  cl_uniq (cl_len _ _ _) (fun s hs => by rw [cl_get n es P s hs]; exact Rch_congr h s)
/-- the numbers of the marks from the i-th on -/
def onF (m : List Bool) : Nat → Nat → List Int
  | 0, _ => []
  | d + 1, i => (if m.getD i false = true then [(i : Int)] else []) ++ onF m d (i + 1)
def onL (m : List Bool) : List Int := onF m m.length 0
theorem onF_len (m : List Bool) : ∀ d i, (onF m d i).length ≤ d
  | 0, _ => Nat.le_refl _
  | d + 1, i => by
    have := onF_len m d (i + 1)
    rw [onF, List.length_append]
    split <;> simp <;> omega
theorem mem_onF (m : List Bool) (x : Int) : ∀ d i, x ∈ onF m d i ↔ ∃ s : Nat, i ≤ s ∧ s < i + d ∧ x = (s : Int) ∧ m.getD s false = true
  | 0, i => by
    simp only [onF, List.not_mem_nil, false_iff]
    rintro ⟨s, h1, h2, _⟩
    omega
  | d + 1, i => by
    rw [onF, List.mem_append, mem_onF m x d (i + 1)]
    constructor
    · rintro (h | ⟨s, h1, h2, h3⟩)
      · split at h
        · rw [List.mem_singleton] at h
          exact ⟨i, Nat.le_refl _, by omega, h, by assumption⟩
        · simp at h
      · exact ⟨s, by omega, by omega, h3⟩
    · rintro ⟨s, h1, h2, h3, h4⟩
      by_cases e : s = i
      · subst e
        rw [if_pos h4]
        exact .inl (by rw [h3]; exact List.mem_singleton.2 rfl)
      · exact .inr ⟨s, by omega, by omega, h3, h4⟩
theorem mem_onL (m : List Bool) (x : Int) : x ∈ onL m ↔ ∃ s : Nat, s < m.length ∧ x = (s : Int) ∧ m.getD s false = true := by
  unfold onL
  rw [mem_onF]
  constructor
  · rintro ⟨s, _, h2, h3⟩
    exact ⟨s, by omega, h3⟩
  · rintro ⟨s, h2, h3⟩
    exact ⟨s, by omega, by omega, h3⟩
theorem rdOf_nat (m : List Bool) (i : Nat) : rdOf false m (i : Int) = m.getD i false := by unfold rdOf; rw [Int.toNat_natCast]
theorem iList_l1 (m : List Bool) (hm : m.length ≤ 3000) (d : Nat) : ∀ (k i : Nat) (acc : List Int), d < k → m.length - i = d → i ≤ m.length → acc.length ≤ i → impl_network_closure.l1 k acc m (m.length : Int) (i : Int) = some (acc ++ onF m d i) := by
  induction d with
  | zero =>
    intro k i acc hk hd hi ha
    obtain ⟨k, rfl⟩ : ∃ m, k = m + 1 := ⟨k - 1, by omega⟩
    rw [impl_network_closure.l1, if_neg (by omega), onF, List.append_nil]
  | succ d ih =>
    intro k i acc hk hd hi ha
    obtain ⟨k, rfl⟩ : ∃ m, k = m + 1 := ⟨k - 1, by omega⟩
    rw [impl_network_closure.l1, if_pos (by omega), if_pos (by omega), if_pos (by omega), rdOf_nat, onF, nat_next (by omega)]
    by_cases h : m.getD i false = true
    · rw [if_pos h, if_pos h, if_pos (by omega), ih k (i + 1) _ (by omega) (by omega) (by omega) (by simp; omega), List.append_assoc]
    · rw [if_neg h, if_neg h, ih k (i + 1) _ (by omega) (by omega) (by omega) (by omega), List.nil_append]
theorem iList (m : List Bool) (hm : m.length ≤ 3000) (k : Nat) (hk : 3001 ≤ k) : impl_network_closure.l1 k [] m (m.length : Int) 0 = some (onL m) := by
  have e : impl_network_closure.l1 k [] m (m.length : Int) 0 = _ := iList_l1 m hm m.length k 0 [] (by omega) (by omega) (by omega) (by simp)
  rw [e, List.nil_append]
  rfl
/-- how many are not marked -/
def off (m : List Bool) : Nat := m.count false
theorem off_le (m : List Bool) : off m ≤ m.length := List.count_le_length
theorem off_set : ∀ (m : List Bool) (s : Nat), s < m.length → m.getD s false = false → off (m.set s true) + 1 = off m
  | [], s, h, _ => by simp at h
  | b :: m, 0, _, h => by
    have hb : b = false := by simpa using h
    subst hb
    simp [off]
  | b :: m, s + 1, h, g => by
    have := off_set m s (by simpa using h) (by simpa using g)
    unfold off at this ⊢
    rw [List.set_cons_succ, List.count_cons, List.count_cons]
    omega
theorem set_get (m : List Bool) (s t : Nat) (h : s < m.length) : ((m.set s true).getD t false = true) ↔ (t = s ∨ m.getD t false = true) := by
  rw [List.getD_eq_getElem?_getD, List.getD_eq_getElem?_getD]
  by_cases e : s = t
  · subst e
    rw [List.getElem?_set_self h]
    simp
  · rw [List.getElem?_set_ne e]
    constructor
    · exact .inr
    · rintro (q | q)
      · exact absurd q.symm e
      · exact q
/-- the edges of a right network -/
def edgesIn (n : Nat) (es : List S85) : Prop := ∀ e ∈ es, (0 ≤ e.f0 ∧ e.f0 < n) ∧ (0 ≤ e.f1 ∧ e.f1 < n)
/-- a state's edges without a byte, and those with one -/
def frF : List S85 → Nat → List Int
  | [], _ => []
  | e :: es, s => (if e.f0 = (s : Int) ∧ e.f2.length = 0 then [e.f1] else []) ++ frF es s
def stF : List S85 → Nat → Nat → List Int
  | [], _, _ => []
  | e :: es, i, s => (if e.f0 = (s : Int) ∧ ¬ e.f2.length = 0 then [(i : Int)] else []) ++ stF es (i + 1) s
theorem frF_len : ∀ (es : List S85) s, (frF es s).length ≤ es.length
  | [], _ => Nat.le_refl _
  | e :: es, s => by
    have := frF_len es s
    rw [frF, List.length_append, List.length_cons]
    split <;> simp <;> omega
theorem stF_len : ∀ (es : List S85) i s, (stF es i s).length ≤ es.length
  | [], _, _ => Nat.le_refl _
  | e :: es, i, s => by
    have := stF_len es (i + 1) s
    rw [stF, List.length_append, List.length_cons]
    split <;> simp <;> omega
theorem frF_snoc (e : S85) : ∀ (es : List S85) s, frF (es ++ [e]) s = frF es s ++ (if e.f0 = (s : Int) ∧ e.f2.length = 0 then [e.f1] else [])
  | [], s => by simp [frF]
  | f :: es, s => by rw [List.cons_append, frF, frF, frF_snoc e es s, List.append_assoc]
theorem stF_snoc (e : S85) : ∀ (es : List S85) i s, stF (es ++ [e]) i s = stF es i s ++ (if e.f0 = (s : Int) ∧ ¬ e.f2.length = 0 then [((i + es.length : Nat) : Int)] else [])
  | [], i, s => by simp [stF]
  | f :: es, i, s => by rw [List.cons_append, stF, stF, stF_snoc e es (i + 1) s, List.append_assoc, List.length_cons, show i + 1 + es.length = i + (es.length + 1) by omega]
theorem mem_frF (x : Int) : ∀ (es : List S85) s, x ∈ frF es s ↔ ∃ e ∈ es, e.f0 = (s : Int) ∧ e.f2.length = 0 ∧ e.f1 = x
  | [], s => by simp [frF]
  | f :: es, s => by
    rw [frF, List.mem_append, mem_frF x es s]
    constructor
    · rintro (h | ⟨e, h1, h2⟩)
      · split at h
        · rename_i hc
          rw [List.mem_singleton] at h
          exact ⟨f, List.mem_cons_self, hc.1, hc.2, h.symm⟩
        · simp at h
      · exact ⟨e, List.mem_cons_of_mem _ h1, h2⟩
    · rintro ⟨e, h1, h2, h3, h4⟩
      rcases List.mem_cons.1 h1 with h1 | h1
      · subst h1
        rw [if_pos ⟨h2, h3⟩]
        exact .inl (by rw [h4]; exact List.mem_singleton.2 rfl)
      · exact .inr ⟨e, h1, h2, h3, h4⟩
theorem mem_stF (x : Int) : ∀ (es : List S85) i s, x ∈ stF es i s ↔ ∃ j : Nat, j < es.length ∧ x = ((i + j : Nat) : Int) ∧ (rd_T85 es j).f0 = (s : Int) ∧ ¬ (rd_T85 es j).f2.length = 0
  | [], i, s => by simp [stF]
  | f :: es, i, s => by
    rw [stF, List.mem_append, mem_stF x es (i + 1) s]
    have e0 : rd_T85 (f :: es) ((0 : Nat) : Int) = f := rfl
    have e1 : ∀ j : Nat, rd_T85 (f :: es) ((j + 1 : Nat) : Int) = rd_T85 es (j : Int) := fun j => by unfold rd_T85; rw [Int.toNat_natCast, Int.toNat_natCast]; rfl
    constructor
    · rintro (h | ⟨j, h1, h2, h3, h4⟩)
      · split at h
        · rename_i hc
          rw [List.mem_singleton] at h
          exact ⟨0, by simp, by rw [h]; rfl, by rw [e0]; exact hc.1, by rw [e0]; exact hc.2⟩
        · simp at h
      · exact ⟨j + 1, by simp; omega, by rw [h2]; congr 1; omega, by rw [e1]; exact h3, by rw [e1]; exact h4⟩
    · rintro ⟨j, h1, h2, h3, h4⟩
      cases j with
      | zero =>
        rw [e0] at h3 h4
        rw [if_pos ⟨h3, h4⟩]
        exact .inl (by rw [h2]; exact List.mem_singleton.2 rfl)
      | succ j =>
        rw [e1] at h3 h4
        exact .inr ⟨j, by simpa using h1, by rw [h2]; congr 1; omega, h3, h4⟩
def tabN {α : Type} (n : Nat) (F : Nat → α) : List α := (List.range n).map F
theorem tabN_len {α : Type} (n : Nat) (F : Nat → α) : (tabN n F).length = n := by simp [tabN]
theorem tabN_get {α : Type} (n : Nat) (F : Nat → α) (d : α) (s : Nat) (h : s < n) : (tabN n F).getD s d = F s := by
  unfold tabN
  rw [List.getD_eq_getElem?_getD, List.getElem?_map, List.getElem?_range h]
  rfl
theorem tabN_set {α : Type} (n : Nat) (F : Nat → α) (s : Nat) (x : α) (h : s < n) : (tabN n F).set s x = tabN n (fun t => if t = s then x else F t) := by
  unfold tabN
  refine List.ext_getElem (by simp) (fun i h1 h2 => ?_)
  have hi : i < n := by simpa using h2
  rw [List.getElem_set, List.getElem_map, List.getElem_range]
  by_cases e : s = i
  · subst e; simp
  · rw [if_neg e]
    simp only [List.getElem_map, List.getElem_range]
    rw [if_neg (fun q : i = s => e q.symm)]
theorem tabN_congr {α : Type} {n : Nat} {F G : Nat → α} (h : ∀ s, s < n → F s = G s) : tabN n F = tabN n G := by
  unfold tabN
  exact List.map_congr_left (fun s hs => h s (List.mem_range.1 hs))
theorem rdE_split (a : List S85) (e : S85) (b : List S85) : rd_T85 (a ++ e :: b) (a.length : Int) = e := by
  unfold rd_T85
  rw [Int.toNat_natCast, List.getD_eq_getElem?_getD, List.getElem?_append_right (Nat.le_refl _), Nat.sub_self]
  rfl
theorem net_l0 (n : Nat) (z : Int) (zs : List S85) (fs : List S156) (ES : List S85) (hE : edgesIn n ES) (hl : ES.length ≤ 12000) : ∀ (b a : List S85) (k : Nat), ES = a ++ b → b.length < k →
    impl_newNetwork.l0 k ES (ES.length : Int) (a.length : Int) z zs fs (tabN n (frF a)) (tabN n (stF a 0)) = some (tabN n (frF ES), tabN n (stF ES 0))
  | [], a, k, h, hk => by
    obtain ⟨k, rfl⟩ : ∃ m, k = m + 1 := ⟨k - 1, by omega⟩
    rw [List.append_nil] at h
    subst h
    rw [impl_newNetwork.l0, if_neg (by omega)]
  | e :: b, a, k, h, hk => by
    obtain ⟨k, rfl⟩ : ∃ m, k = m + 1 := ⟨k - 1, by omega⟩
    have hlen : ES.length = a.length + (b.length + 1) := by rw [h, List.length_append, List.length_cons]
    have ih := net_l0 n z zs fs ES hE hl b (a ++ [e]) k (by rw [h]; simp) (by simp at hk; omega)
    have he := (hE e (by rw [h]; simp)).1
    have hrd : rd_T85 ES (a.length : Int) = e := by rw [h]; exact rdE_split a e b
    have h1 : (e.f0.toNat : Int) = e.f0 := Int.toNat_of_nonneg he.1
    have h2 : e.f0.toNat < n := by omega
    have hf := frF_len a e.f0.toNat
    have hs := stF_len a 0 e.f0.toNat
    rw [List.length_append, List.length_singleton] at ih
    rw [impl_newNetwork.l0, if_pos (by omega), if_pos (by omega), if_pos (by omega), hrd, nat_next (by omega)]
    by_cases c : (e.f2.length : Int) = 0
    · have c' : e.f2.length = 0 := by omega
      have g : rd_L6 (tabN n (frF a)) e.f0 = frF a e.f0.toNat := tabN_get n (frF a) [] _ h2
      rw [if_pos c, if_pos he.1, if_pos (by rw [tabN_len]; omega), g, if_pos (by omega), tabN_set _ _ _ _ h2]
      rw [show tabN n (fun t => if t = e.f0.toNat then frF a e.f0.toNat ++ [e.f1] else frF a t) = tabN n (frF (a ++ [e])) from tabN_congr (fun s _ => by
        rw [frF_snoc]
        by_cases q : s = e.f0.toNat
        · subst q; rw [if_pos rfl, if_pos ⟨h1.symm, c'⟩]
        · rw [if_neg q, if_neg (fun r => q (by omega)), List.append_nil]), show tabN n (stF a 0) = tabN n (stF (a ++ [e]) 0) from tabN_congr (fun s _ => by rw [stF_snoc, if_neg (fun r => r.2 c'), List.append_nil])]
      exact ih
    · have c' : ¬ e.f2.length = 0 := by omega
      have g : rd_L7 (tabN n (stF a 0)) e.f0 = stF a 0 e.f0.toNat := tabN_get n (stF a 0) [] _ h2
      rw [if_neg c, if_pos he.1, if_pos (by rw [tabN_len]; omega), g, if_pos (by omega), tabN_set _ _ _ _ h2]
      rw [show tabN n (fun t => if t = e.f0.toNat then stF a 0 e.f0.toNat ++ [(a.length : Int)] else stF a 0 t) = tabN n (stF (a ++ [e]) 0) from tabN_congr (fun s _ => by
        rw [stF_snoc, Nat.zero_add]
        by_cases q : s = e.f0.toNat
        · subst q; rw [if_pos rfl, if_pos ⟨h1.symm, c'⟩]
        · rw [if_neg q, if_neg (fun r => q (by omega)), List.append_nil]), show tabN n (frF a) = tabN n (frF (a ++ [e])) from tabN_congr (fun s _ => by rw [frF_snoc, if_neg (fun r => c' r.2), List.append_nil])]
      exact ih
theorem netNew (n : Nat) (hn : n ≤ 3000) (es : List S85) (fs : List S156) (hE : edgesIn n es) (hl : es.length ≤ 12000) (k : Nat) (hk : 12001 ≤ k) : impl_newNetwork.f k (n : Int) es fs = some (tabN n (frF es), tabN n (stF es 0)) := by
  unfold impl_newNetwork.f
  rw [if_pos (by omega), if_pos (by omega), Int.toNat_natCast]
  have e := net_l0 n (n : Int) es fs es hE hl es [] k rfl (by omega)
  have r : ∀ F : Nat → List Int, (∀ s, F s = []) → tabN n F = List.replicate n [] := fun F h => by
    unfold tabN
    refine List.ext_getElem (by simp) (fun i h1 h2 => ?_)
    rw [List.getElem_map, List.getElem_replicate, h]
  rw [r (frF []) (fun _ => rfl), r (stF [] 0) (fun _ => rfl)] at e
  exact e
theorem iClo_end (n : Nat) (hn : n ≤ 3000) (es : List S85) (fs : List S156) (z : Int) (fx sx : List (List Int)) (P : Nat → Prop) (k : Nat) (seen : List Bool) (hk : 3003 ≤ k) (hs : seen.length = n) (hA : ∀ s, seen.getD s false = true → Rch es P s) (hC : ∀ s, P s → seen.getD s false = true ∨ (s : Int) ∈ ([] : List Int))
    (hD : ∀ e ∈ es, e.f2.length = 0 → seen.getD e.f0.toNat false = true → seen.getD e.f1.toNat false = true ∨ e.f1 ∈ ([] : List Int)) : impl_network_closure.l0 k seen [] [] z es fs fx sx = some (onL (cl n es P)) := by
  obtain ⟨k, rfl⟩ : ∃ m, k = m + 1 := ⟨k - 1, by omega⟩
  rw [impl_network_closure.l0, if_neg (by simp), iList seen (by omega) k (by omega)]
  have hcl : ∀ s, Rch es P s → seen.getD s false = true := by
    intro s h
    induction h with
    | base s h => exact (hC s h).elim id (fun q => by simp at q)
    | step s t e _ h1 h2 h3 h4 ih =>
      have := hD e h1 h3 (by rw [h2, Int.toNat_natCast]; exact ih)
      rw [h4, Int.toNat_natCast] at this
      exact this.elim id (fun q => by simp at q)
  rw [cl_uniq hs (fun s _ => ⟨hA s, hcl s⟩)]
set_option maxRecDepth 100000 in
/-- the program's way: a stack -/
theorem iClo_l0 (n : Nat) (hn : n ≤ 3000) (es : List S85) (fs : List S156) (z : Int) (sx : List (List Int)) (hE : edgesIn n es) (hl : es.length ≤ 12000) (P : Nat → Prop) (hP : ∀ s, P s → s < n) (d : Nat) : ∀ (k : Nat) (seen : List Bool) (st : List Int),
    off seen * 12001 + st.length ≤ d → d + 3003 < k → d ≤ 100000000 → seen.length = n → (∀ x ∈ st, 0 ≤ x ∧ x < n) → (∀ s, seen.getD s false = true → Rch es P s) → (∀ x ∈ st, Rch es P x.toNat) → (∀ s, P s → seen.getD s false = true ∨ (s : Int) ∈ st) →
    (∀ e ∈ es, e.f2.length = 0 → seen.getD e.f0.toNat false = true → seen.getD e.f1.toNat false = true ∨ e.f1 ∈ st) → impl_network_closure.l0 k seen st [] z es fs (tabN n (frF es)) sx = some (onL (cl n es P)) := by
  induction d with
  | zero =>
    intro k seen st hd hk hd2 hs hr hA hB hC hD
    obtain rfl : st = [] := List.eq_nil_of_length_eq_zero (by omega)
    exact iClo_end n hn es fs z _ sx P k seen (by omega) hs hA hC hD
  | succ d ih =>
    intro k seen st hd hk hd2 hs hr hA hB hC hD
    obtain ⟨k, rfl⟩ : ∃ m, k = m + 1 := ⟨k - 1, by omega⟩
    rcases List.eq_nil_or_concat st with rfl | ⟨st, x, rfl⟩
    · exact iClo_end n hn es fs z _ sx P (k + 1) seen (by omega) hs hA hC hD
    · rw [List.concat_eq_append] at hd hr hB hC hD ⊢
      have hx := hr x (by simp)
      have hlen : ((st ++ [x]).length : Int) = (st.length : Int) + 1 := by simp
      have hst : st.length ≤ 100000000 := by simp at hd; omega
      have hw : wrap64 (((st ++ [x]).length : Int) - 1) = (st.length : Int) := by rw [hlen, w64 (by omega) (by omega)]; omega
      have hrd : rd (st ++ [x]) (st.length : Int) = x := by
        unfold rd
        rw [Int.toNat_natCast, List.getD_eq_getElem?_getD, List.getElem?_append_right (Nat.le_refl _), Nat.sub_self]
        rfl
      have h1 : (x.toNat : Int) = x := Int.toNat_of_nonneg hx.1
      have h2 : x.toNat < n := by omega
      have hseen : rdOf false seen x = seen.getD x.toNat false := rfl
      rw [impl_network_closure.l0, hw, if_pos (by omega), if_pos (by omega), if_pos (by omega), if_pos (by omega), Option.bind_some, Int.toNat_natCast, List.take_left, hrd, if_pos hx.1, if_pos (by omega), hseen]
      have hlen2 : off seen * 12001 + st.length ≤ d := by simp at hd; omega
      by_cases c : seen.getD x.toNat false = true
      · rw [if_pos c]
        refine ih k seen st hlen2 (by omega) (by omega) hs (fun y hy => hr y (by simp [hy])) hA (fun y hy => hB y (by simp [hy])) (fun s h => ?_) (fun e he h3 h4 => ?_)
        · rcases hC s h with q | q
          · exact .inl q
          · rcases List.mem_append.1 q with q | q
            · exact .inr q
            · rw [List.mem_singleton] at q
              refine .inl ?_
              have : s = x.toNat := by omega
              rw [this]; exact c
        · rcases hD e he h3 h4 with q | q
          · exact .inl q
          · rcases List.mem_append.1 q with q | q
            · exact .inr q
            · rw [List.mem_singleton] at q
              exact .inl (by rw [q]; exact c)
      · have cf : seen.getD x.toNat false = false := by simpa using c
        have ho := off_set seen x.toNat (by omega) cf
        have g : rd_L6 (tabN n (frF es)) x = frF es x.toNat := tabN_get n (frF es) [] _ h2
        have hf := frF_len es x.toNat
        rw [if_neg c, if_pos (by rw [tabN_len]; omega), g, if_pos (by omega)]
        have hxr : Rch es P x.toNat := hB x (by simp)
        refine ih k _ _ (by rw [List.length_append]; omega) (by omega) (by omega) (by simpa using hs) (fun y hy => ?_) (fun s h => ?_) (fun y hy => ?_) (fun s h => ?_) (fun e he h3 h4 => ?_)
        · rcases List.mem_append.1 hy with hy | hy
          · exact hr y (by simp [hy])
          · obtain ⟨e, he, _, _, h5⟩ := (mem_frF y es _).1 hy
            have := (hE e he).2
            omega
        · rw [set_get _ _ _ (by omega)] at h
          rcases h with h | h
          · rw [h]; exact hxr
          · exact hA s h
        · rcases List.mem_append.1 hy with hy | hy
          · exact hB y (by simp [hy])
          · obtain ⟨e, he, h5, h6, h7⟩ := (mem_frF y es _).1 hy
            have h8 := (hE e he).2
            exact .step x.toNat y.toNat e hxr he h5 h6 (by omega)
        · rw [set_get _ _ _ (by omega)]
          rcases hC s h with q | q
          · exact .inl (.inr q)
          · rcases List.mem_append.1 q with q | q
            · exact .inr (List.mem_append_left _ q)
            · rw [List.mem_singleton] at q
              exact .inl (.inl (by omega))
        · rw [set_get _ _ _ (by omega)] at h4 ⊢
          rcases h4 with h4 | h4
          · refine .inr (List.mem_append_right _ ((mem_frF _ es _).2 ⟨e, he, ?_, h3, rfl⟩))
            have := (hE e he).1
            omega
          · rcases hD e he h3 h4 with q | q
            · exact .inl (.inr q)
            · rcases List.mem_append.1 q with q | q
              · exact .inr (List.mem_append_left _ q)
              · rw [List.mem_singleton] at q
                exact .inl (.inl (by rw [q]))
set_option maxRecDepth 100000 in
theorem iClo (n : Nat) (hn : n ≤ 3000) (es : List S85) (fs : List S156) (sx : List (List Int)) (hE : edgesIn n es) (hl : es.length ≤ 12000) (st : List Int) (hst : ∀ x ∈ st, 0 ≤ x ∧ x < n) (hs : st.length ≤ 40000000) (k : Nat) (hk : 90003005 ≤ k) :
    impl_network_closure.f k (n : Int) es fs (tabN n (frF es)) sx st = some (onL (cl n es (fun s => (s : Int) ∈ st))) := by
  unfold impl_network_closure.f
  rw [if_pos (by omega), if_pos (by omega), Int.toNat_natCast, show slices_Clone_int64_int64.f st = some st by unfold slices_Clone_int64_int64.f; rw [if_pos (by omega)], Option.bind_some]
  have nofalse : ∀ s, (List.replicate n false).getD s false = true → False := fun s h => by
    rw [List.getD_eq_getElem?_getD, List.getElem?_replicate] at h
    split at h <;> simp at h
  have ho : off (List.replicate n false) = n := by unfold off; simp
  refine iClo_l0 n hn es fs (n : Int) sx hE hl _ (fun s h => by have := hst _ h; omega) 90000000 k _ st (by rw [ho]; omega) (by omega) (by omega) (by simp) hst (fun s h => (nofalse s h).elim) (fun x hx => .base _ ?_) (fun s h => .inr h) (fun e he h3 h4 => (nofalse _ h4).elim)
  rw [Int.toNat_of_nonneg (hst x hx).1]
  exact hx
/-- the reference's way: a list -/
structure SInv (n : Nat) (es : List S85) (P : Nat → Prop) (m : List Bool) (L : List Int) (i j : Nat) : Prop where
  len : m.length = n
  rng : ∀ x ∈ L, 0 ≤ x ∧ x < n
  on : ∀ s, m.getD s false = true → Rch es P s ∧ (s : Int) ∈ L
  all : ∀ s, P s → m.getD s false = true
  lst : ∀ x ∈ L, Rch es P x.toNat
  done : ∀ q, q < i → ∀ e ∈ es, e.f0 = L.getD q 0 → e.f2.length = 0 → m.getD e.f1.toNat false = true
  part : ∀ p, p < j → (rd_T85 es (p : Int)).f0 = L.getD i 0 → (rd_T85 es (p : Int)).f2.length = 0 → m.getD (rd_T85 es (p : Int)).f1.toNat false = true
theorem getD_snoc (L : List Int) (x : Int) (q : Nat) (h : q < L.length) : (L ++ [x]).getD q 0 = L.getD q 0 := by
  rw [List.getD_eq_getElem?_getD, List.getD_eq_getElem?_getD, List.getElem?_append_left h]
theorem rdE_at (es : List S85) (p : Nat) (h : p < es.length) : rd_T85 es (p : Int) = es[p] := by
  unfold rd_T85
  rw [Int.toNat_natCast, List.getD_eq_getElem?_getD, List.getElem?_eq_getElem h]
  rfl
set_option maxRecDepth 100000 in
theorem sClo_l1 (n : Nat) (hn : n ≤ 3000) (es : List S85) (fs : List S156) (z : Int) (hE : edgesIn n es) (hl : es.length ≤ 12000) (P : Nat → Prop) (M : Nat) : ∀ (k : Nat) (m : List Bool) (L : List Int) (i : Nat),
    off m + (L.length - i) = M → M * 12003 + 2 < k → i ≤ L.length → off m + L.length ≤ 4000000 → SInv n es P m L i 0 → spec_l6Close.l1 k m L (i : Int) z es fs = some (cl n es P) := by
  induction M with
  | zero =>
    intro k m L i hM hk hi hb I
    obtain ⟨k, rfl⟩ : ∃ m, k = m + 1 := ⟨k - 1, by omega⟩
    obtain rfl : i = L.length := by omega
    rw [spec_l6Close.l1, if_neg (by omega)]
    refine congrArg some (cl_uniq I.len (fun s hs_ => ⟨fun h => (I.on s h).1, fun h => ?_⟩))
    clear hs_
    induction h with
    | base s h => exact I.all s h
    | step s t e _ h1 h2 h3 h4 ih =>
      obtain ⟨q, hq, hq2⟩ := List.mem_iff_getElem.1 (I.on s ih).2
      have := I.done q hq e h1 (by rw [List.getD_eq_getElem?_getD, List.getElem?_eq_getElem hq, Option.getD_some, hq2, h2]) h3
      rw [h4, Int.toNat_natCast] at this
      exact this
  | succ M ih =>
    intro k m L i hM hk hi hb I
    obtain ⟨k, rfl⟩ : ∃ m, k = m + 1 := ⟨k - 1, by omega⟩
    by_cases hlt : i < L.length
    · rw [spec_l6Close.l1, if_pos (by omega)]
      have inner : ∀ (d k j : Nat) (m : List Bool) (L : List Int), es.length - j = d → j ≤ es.length → i < L.length → M * 12003 + 2 + d + 1 < k → off m + (L.length - (i + 1)) = M → off m + L.length ≤ 4000000 → SInv n es P m L i j → spec_l6Close.l2 k m L (i : Int) (j : Int) z es fs = some (cl n es P) := by
        intro d
        induction d with
        | zero =>
          intro k j m L hd hj hlt hk hM hb I
          obtain ⟨k, rfl⟩ : ∃ m, k = m + 1 := ⟨k - 1, by omega⟩
          rw [spec_l6Close.l2, if_neg (by omega), nat_next (by omega)]
          refine ih k m L (i + 1) hM (by omega) (by omega) hb ⟨I.len, I.rng, I.on, I.all, I.lst, fun q hq e he h1 h2 => ?_, fun p hp => by omega⟩
          rcases Nat.lt_or_eq_of_le (Nat.le_of_lt_succ hq) with hq | hq
          · exact I.done q hq e he h1 h2
          · subst hq
            obtain ⟨p, hp, rfl⟩ := List.mem_iff_getElem.1 he
            have := I.part p (by omega)
            rw [rdE_at es p hp] at this
            exact this h1 h2
        | succ d ihd =>
          intro k j m L hd hj hlt hk hM hb I
          obtain ⟨k, rfl⟩ : ∃ m, k = m + 1 := ⟨k - 1, by omega⟩
          have hjl : j < es.length := by omega
          have hrl : rd L (i : Int) = L.getD i 0 := by unfold rd; rw [Int.toNat_natCast]
          have he := hE _ (List.getElem_mem hjl)
          rw [← rdE_at es j hjl] at he
          rw [spec_l6Close.l2, if_pos (by omega), if_pos (by omega), if_pos (by omega), if_pos (by omega), hrl, nat_next (by omega)]
          have keep : ∀ (h : ¬ ((rd_T85 es (j : Int)).f0 = L.getD i 0 ∧ (rd_T85 es (j : Int)).f2.length = 0 ∧ ¬ m.getD (rd_T85 es (j : Int)).f1.toNat false = true)), SInv n es P m L i (j + 1) := fun h =>
            ⟨I.len, I.rng, I.on, I.all, I.lst, I.done, fun p hp h1 h2 => by
              rcases Nat.lt_or_eq_of_le (Nat.le_of_lt_succ hp) with hp | hp
              · exact I.part p hp h1 h2
              · subst hp
                by_cases q : m.getD (rd_T85 es (p : Int)).f1.toNat false = true
                · exact q
                · exact absurd ⟨h1, h2, q⟩ h⟩
          by_cases c1 : (rd_T85 es (j : Int)).f0 = L.getD i 0
          · rw [if_pos c1]
            by_cases c2 : ((rd_T85 es (j : Int)).f2.length : Int) = 0
            · rw [if_pos c2, if_pos he.2.1, if_pos (by rw [I.len]; omega)]
              by_cases c3 : m.getD (rd_T85 es (j : Int)).f1.toNat false = true
              · rw [if_pos (show rdOf false m _ = true from c3)]
                exact ihd k (j + 1) m L (by omega) (by omega) hlt (by omega) hM hb (keep (fun h => h.2.2 c3))
              · rw [if_neg (show ¬ rdOf false m _ = true from c3), if_pos (by omega)]
                have ho := off_set m (rd_T85 es (j : Int)).f1.toNat (by rw [I.len]; omega) (by simpa using c3)
                have hr : Rch es P (rd_T85 es (j : Int)).f1.toNat := by
                  refine .step (L.getD i 0).toNat _ (rd_T85 es (j : Int)) (I.lst _ ?_) (by rw [rdE_at es j hjl]; exact List.getElem_mem hjl) ?_ (by omega) (by omega)
                  · rw [List.getD_eq_getElem?_getD, List.getElem?_eq_getElem hlt]; exact List.getElem_mem hlt
                  · rw [← c1]; omega
                refine ihd k (j + 1) _ _ (by omega) (by omega) (by simp; omega) (by omega) (by rw [List.length_append, List.length_singleton]; omega) (by rw [List.length_append, List.length_singleton]; omega) ⟨by simpa using I.len, ?_, ?_, ?_, ?_, ?_, ?_⟩
                · intro x hx
                  rcases List.mem_append.1 hx with hx | hx
                  · exact I.rng x hx
                  · rw [List.mem_singleton] at hx
                    rw [hx]; exact he.2
                · intro s h
                  rw [set_get _ _ _ (by rw [I.len]; omega)] at h
                  rcases h with h | h
                  · refine ⟨by rw [h]; exact hr, List.mem_append_right _ ?_⟩
                    rw [List.mem_singleton]; omega
                  · exact ⟨(I.on s h).1, List.mem_append_left _ (I.on s h).2⟩
                · intro s h
                  rw [set_get _ _ _ (by rw [I.len]; omega)]
                  exact .inr (I.all s h)
                · intro x hx
                  rcases List.mem_append.1 hx with hx | hx
                  · exact I.lst x hx
                  · rw [List.mem_singleton] at hx
                    rw [hx]; exact hr
                · intro q hq e he2 h1 h2
                  rw [set_get _ _ _ (by rw [I.len]; omega)]
                  rw [getD_snoc _ _ _ (by omega)] at h1
                  exact .inr (I.done q hq e he2 h1 h2)
                · intro p hp h1 h2
                  rw [set_get _ _ _ (by rw [I.len]; omega)]
                  rw [getD_snoc _ _ _ (by omega)] at h1
                  rcases Nat.lt_or_eq_of_le (Nat.le_of_lt_succ hp) with hp | hp
                  · exact .inr (I.part p hp h1 h2)
                  · subst hp; exact .inl rfl
            · rw [if_neg c2]
              exact ihd k (j + 1) m L (by omega) (by omega) hlt (by omega) hM hb (keep (fun h => c2 (by omega)))
          · rw [if_neg c1]
            exact ihd k (j + 1) m L (by omega) (by omega) hlt (by omega) hM hb (keep (fun h => c1 h.1))
      exact inner es.length k 0 m L (by omega) (by omega) hlt (by omega) (by omega) hb ⟨I.len, I.rng, I.on, I.all, I.lst, I.done, fun p hp => by omega⟩
    · obtain rfl : i = L.length := by omega
      have hM' : off m = M + 1 := by omega
      rw [spec_l6Close.l1, if_neg (by omega)]
      refine congrArg some (cl_uniq I.len (fun s hs_ => ⟨fun h => (I.on s h).1, fun h => ?_⟩))
      clear hs_
      induction h with
      | base s h => exact I.all s h
      | step s t e _ h1 h2 h3 h4 ih =>
        obtain ⟨q, hq, hq2⟩ := List.mem_iff_getElem.1 (I.on s ih).2
        have := I.done q hq e h1 (by rw [List.getD_eq_getElem?_getD, List.getElem?_eq_getElem hq, Option.getD_some, hq2, h2]) h3
        rw [h4, Int.toNat_natCast] at this
        exact this
set_option maxRecDepth 100000 in
theorem sClo_l0 (n : Nat) (hn : n ≤ 3000) (es : List S85) (fs : List S156) (hE : edgesIn n es) (hl : es.length ≤ 12000) (m : List Bool) (hm : m.length = n) (d : Nat) : ∀ (k i : Nat) (L : List Int), d + 73000000 < k → n - i = d → i ≤ n → L.length ≤ i → L ++ onF m d i = onL m →
    spec_l6Close.l0 k m L (i : Int) (n : Int) es fs = some (cl n es (fun s => m.getD s false = true)) := by
  induction d with
  | zero =>
    intro k i L hk hd hi hL hq
    obtain ⟨k, rfl⟩ : ∃ m, k = m + 1 := ⟨k - 1, by omega⟩
    rw [spec_l6Close.l0, if_neg (by omega)]
    rw [onF, List.append_nil] at hq
    subst hq
    have h1 := off_le m
    have mem := mem_onL m
    refine sClo_l1 n hn es fs (n : Int) hE hl _ (off m + ((onL m).length - 0)) k m (onL m) 0 rfl (by omega) (by omega) (by omega) ⟨hm, ?_, ?_, fun s h => h, ?_, fun q hq => by omega, fun p hp => by omega⟩
    · intro x hx
      obtain ⟨s, hs, e, _⟩ := (mem x).1 hx
      omega
    · intro s h
      have hs : s < m.length := by
        rcases Nat.lt_or_ge s m.length with q | q
        · exact q
        · rw [List.getD_eq_getElem?_getD, List.getElem?_eq_none q] at h
          simp at h
      exact ⟨.base s h, (mem _).2 ⟨s, hs, rfl, h⟩⟩
    · intro x hx
      obtain ⟨s, hs, e, h⟩ := (mem x).1 hx
      rw [e, Int.toNat_natCast]
      exact .base s h
  | succ d ih =>
    intro k i L hk hd hi hL hq
    obtain ⟨k, rfl⟩ : ∃ m, k = m + 1 := ⟨k - 1, by omega⟩
    rw [spec_l6Close.l0, if_pos (by omega), if_pos (by omega), if_pos (by omega), rdOf_nat, nat_next (by omega)]
    rw [onF] at hq
    by_cases h : m.getD i false = true
    · rw [if_pos h, if_pos (by omega)]
      rw [if_pos h, ← List.append_assoc] at hq
      exact ih k (i + 1) _ (by omega) (by omega) (by omega) (by simp; omega) hq
    · rw [if_neg h]
      rw [if_neg h, List.nil_append] at hq
      exact ih k (i + 1) _ (by omega) (by omega) (by omega) (by omega) hq
set_option maxRecDepth 100000 in
theorem sClo (n : Nat) (hn : n ≤ 3000) (es : List S85) (fs : List S156) (hE : edgesIn n es) (hl : es.length ≤ 12000) (m : List Bool) (hm : m.length = n) (k : Nat) (hk : 73010000 ≤ k) :
    spec_l6Close.f k (n : Int) es fs m = some (cl n es (fun s => m.getD s false = true)) := by
  unfold spec_l6Close.f
  rw [Option.bind_some, if_pos (by simp; omega), List.nil_append]
  exact sClo_l0 n hn es fs hE hl m hm n k 0 [] (by omega) (by omega) (by omega) (by simp) (by rw [List.nil_append, ← hm]; rfl)
/-- the marks of some states -/
theorem sMk_l0 (n : Nat) (hn : n ≤ 3000) (es : List S85) (fs : List S156) (st : List Int) (hst : ∀ x ∈ st, 0 ≤ x ∧ x < n) (hl : st.length ≤ 1048576) (d : Nat) : ∀ (k i : Nat) (m : List Bool), d < k → st.length - i = d → i ≤ st.length → m.length = n → (∀ s, m.getD s false = true ↔ (s : Int) ∈ st.take i) →
    ∃ r, spec_l6Marks.l0 k st m (i : Int) (n : Int) es fs = some (r, true) ∧ r.length = n ∧ ∀ s, r.getD s false = true ↔ (s : Int) ∈ st := by
  induction d with
  | zero =>
    intro k i m hk hd hi hm hM
    obtain ⟨k, rfl⟩ : ∃ m, k = m + 1 := ⟨k - 1, by omega⟩
    obtain rfl : i = st.length := by omega
    rw [spec_l6Marks.l0, if_neg (by omega)]
    exact ⟨m, rfl, hm, fun s => by rw [hM s, List.take_length]⟩
  | succ d ih =>
    intro k i m hk hd hi hm hM
    obtain ⟨k, rfl⟩ : ∃ m, k = m + 1 := ⟨k - 1, by omega⟩
    have hlt : i < st.length := by omega
    have hx := hst _ (List.getElem_mem hlt)
    have hrd : rd st (i : Int) = st[i] := by unfold rd; rw [Int.toNat_natCast, List.getD_eq_getElem?_getD, List.getElem?_eq_getElem hlt]; rfl
    rw [spec_l6Marks.l0, if_pos (by omega), if_pos (by omega), sIn, Option.bind_some, hrd, w64 (x := (n : Int) - 1) (by omega) (by omega), if_pos (decide_eq_true ⟨hx.1, by omega⟩), if_pos hx.1, if_pos (by omega), nat_next (by omega)]
    refine ih k (i + 1) _ (by omega) (by omega) (by omega) (by simpa using hm) (fun s => ?_)
    rw [set_get _ _ _ (by omega), hM s, List.take_succ_eq_append_getElem hlt, List.mem_append, List.mem_singleton]
    constructor
    · rintro (h | h)
      · exact .inr (by omega)
      · exact .inl h
    · rintro (h | h)
      · exact .inr h
      · exact .inl (by omega)
theorem sMk_no (n : Nat) (hn : n ≤ 3000) (h1n : 1 ≤ n) (es : List S85) (fs : List S156) (st : List Int) (hl : st.length ≤ 1048576) (d : Nat) : ∀ (k i : Nat) (m : List Bool), d < k → st.length - i = d → i ≤ st.length → m.length = n → (∃ q, i ≤ q ∧ q < st.length ∧ ¬ (0 ≤ st.getD q 0 ∧ st.getD q 0 < n)) →
    spec_l6Marks.l0 k st m (i : Int) (n : Int) es fs = some ([], false) := by
  induction d with
  | zero =>
    rintro k i m hk hd hi hm ⟨q, h1, h2, _⟩
    omega
  | succ d ih =>
    rintro k i m hk hd hi hm ⟨q, h1, h2, h3⟩
    obtain ⟨k, rfl⟩ : ∃ m, k = m + 1 := ⟨k - 1, by omega⟩
    have hrd : rd st (i : Int) = st.getD i 0 := by unfold rd; rw [Int.toNat_natCast]
    rw [spec_l6Marks.l0, if_pos (by omega), if_pos (by omega), sIn, Option.bind_some, hrd, w64 (x := (n : Int) - 1) (by omega) (by omega)]
    by_cases c : 0 ≤ st.getD i 0 ∧ st.getD i 0 ≤ (n : Int) - 1
    · rw [if_pos (decide_eq_true c), if_pos c.1, if_pos (by omega), nat_next (by omega)]
      refine ih k (i + 1) _ (by omega) (by omega) (by omega) (by simpa using hm) ⟨q, ?_, h2, h3⟩
      rcases Nat.lt_or_eq_of_le h1 with h | h
      · exact h
      · subst h; exact absurd ⟨c.1, by omega⟩ h3
    · rw [if_neg (by simpa using c)]
theorem nfa_edges {n : Nat} {es : List S85} {fs : List S156} (h : nfaOk (n : Int) es fs) : edgesIn n es := by
  intro e he
  obtain ⟨i, hi, rfl⟩ := List.mem_iff_getElem.1 he
  have := h.2.2.1 i (Nat.zero_le _) hi
  unfold edgeP edgeOk at this
  rw [rdE_at es i hi] at this
  omega
theorem sList_l0 (m : List Bool) (hm : m.length ≤ 3000) (d : Nat) : ∀ (k i : Nat) (acc : List Int), d < k → m.length - i = d → i ≤ m.length → acc.length ≤ i → spec_l6List.l0 k m acc (i : Int) = some (acc ++ onF m d i) := by
  induction d with
  | zero =>
    intro k i acc hk hd hi ha
    obtain ⟨k, rfl⟩ : ∃ m, k = m + 1 := ⟨k - 1, by omega⟩
    rw [spec_l6List.l0, if_neg (by omega), onF, List.append_nil]
  | succ d ih =>
    intro k i acc hk hd hi ha
    obtain ⟨k, rfl⟩ : ∃ m, k = m + 1 := ⟨k - 1, by omega⟩
    rw [spec_l6List.l0, if_pos (by omega), if_pos (by omega), rdOf_nat, onF, nat_next (by omega)]
    by_cases h : m.getD i false = true
    · rw [if_pos h, if_pos h, if_pos (by omega), ih k (i + 1) _ (by omega) (by omega) (by omega) (by simp; omega), List.append_assoc]
    · rw [if_neg h, if_neg h, ih k (i + 1) _ (by omega) (by omega) (by omega) (by omega), List.nil_append]
theorem sList (m : List Bool) (hm : m.length ≤ 3000) (k : Nat) (hk : 3001 ≤ k) : spec_l6List.f k m = some (onL m) := by
  unfold spec_l6List.f
  have e : spec_l6List.l0 k m [] 0 = _ := sList_l0 m hm m.length k 0 [] (by omega) (by omega) (by omega) (by simp)
  rw [e, List.nil_append]
  rfl
theorem hasB_iff (l : List S160) (b : Int) : hasB l b = true ↔ ∃ q : Nat, q < l.length ∧ (rd_T160 l q).f0 ≤ b ∧ b ≤ (rd_T160 l q).f1 := by
  unfold hasB
  rw [List.any_eq_true]
  have rdk : ∀ j, (hj : j < l.length) → rd_T160 l (j : Int) = l[j] := fun j hj => by
    unfold rd_T160
    rw [Int.toNat_natCast, List.getD_eq_getElem?_getD, List.getElem?_eq_getElem hj]
    rfl
  constructor
  · rintro ⟨x, hx, h⟩
    obtain ⟨q, hq, rfl⟩ := List.mem_iff_getElem.1 hx
    exact ⟨q, hq, by rw [rdk q hq]; exact of_decide_eq_true h⟩
  · rintro ⟨q, hq, h⟩
    rw [rdk q hq] at h
    exact ⟨l[q], List.getElem_mem hq, decide_eq_true h⟩
/-- where a byte leads to from marked states -/
def stp (es : List S85) (m : List Bool) (b : Int) (t : Nat) : Prop := ∃ e ∈ es, m.getD e.f0.toNat false = true ∧ hasB e.f2 b = true ∧ e.f1 = (t : Int)
def mvRow (es : List S85) (b : Int) : List Int → List Int
  | [] => []
  | j :: r => (if hasB (rd_T85 es j).f2 b = true then [(rd_T85 es j).f1] else []) ++ mvRow es b r
def mv (es : List S85) (b : Int) : List Int → List Int
  | [] => []
  | s :: r => mvRow es b (stF es 0 s.toNat) ++ mv es b r
theorem mem_mvRow (es : List S85) (b x : Int) : ∀ r, x ∈ mvRow es b r ↔ ∃ j ∈ r, hasB (rd_T85 es j).f2 b = true ∧ (rd_T85 es j).f1 = x
  | [] => by simp [mvRow]
  | j :: r => by
    rw [mvRow, List.mem_append, mem_mvRow es b x r]
    constructor
    · rintro (h | ⟨i, h1, h2⟩)
      · split at h
        · rw [List.mem_singleton] at h
          exact ⟨j, List.mem_cons_self, by assumption, h.symm⟩
        · simp at h
      · exact ⟨i, List.mem_cons_of_mem _ h1, h2⟩
    · rintro ⟨i, h1, h2, h3⟩
      rcases List.mem_cons.1 h1 with h1 | h1
      · subst h1
        rw [if_pos h2]
        exact .inl (by rw [h3]; exact List.mem_singleton.2 rfl)
      · exact .inr ⟨i, h1, h2, h3⟩
theorem mem_mv (es : List S85) (b x : Int) : ∀ r, x ∈ mv es b r ↔ ∃ s ∈ r, x ∈ mvRow es b (stF es 0 s.toNat)
  | [] => by simp [mv]
  | s :: r => by
    rw [mv, List.mem_append, mem_mv es b x r]
    constructor
    · rintro (h | ⟨i, h1, h2⟩)
      · exact ⟨s, List.mem_cons_self, h⟩
      · exact ⟨i, List.mem_cons_of_mem _ h1, h2⟩
    · rintro ⟨i, h1, h2⟩
      rcases List.mem_cons.1 h1 with h1 | h1
      · subst h1; exact .inl h2
      · exact .inr ⟨i, h1, h2⟩
theorem mvRow_len (es : List S85) (b : Int) : ∀ r, (mvRow es b r).length ≤ r.length
  | [] => Nat.le_refl _
  | j :: r => by
    have := mvRow_len es b r
    rw [mvRow, List.length_append, List.length_cons]
    split <;> simp <;> omega
theorem rd_nat' {l : List Int} {i : Nat} (h : i < l.length) : rd l (i : Int) = l[i] := by
  unfold rd
  rw [Int.toNat_natCast, List.getD_eq_getElem?_getD, List.getElem?_eq_getElem h]
  rfl
set_option maxRecDepth 100000 in
theorem iMv_l1 (es : List S85) (fs : List S156) (z : Int) (fx sx : List (List Int)) (b : Int) (hb : 0 ≤ b ∧ b ≤ 255) (hl : es.length ≤ 12000) (n : Nat) (hE : edgesIn n es) (cs : List Int) (c : Nat) (hc : c ≤ 1000000) (row : List Int) (hrow : ∀ x ∈ row, 0 ≤ x ∧ x < es.length) (hrl : row.length ≤ 12000) (K B : Nat) (hB : B ≤ 1000000000) (R : List Int → Option (List Int))
    (G : ∀ (k : Nat) (acc : List Int), K < k → acc.length ≤ B → (∀ x ∈ acc, 0 ≤ x ∧ x < n) → impl_network_move.l0 k b acc cs (cs.length : Int) ((c + 1 : Nat) : Int) z es fs fx sx = R acc) (d : Nat) : ∀ (k i : Nat) (acc : List Int), d + K + 1 < k → row.length - i = d → i ≤ row.length → acc.length + d ≤ B → (∀ x ∈ acc, 0 ≤ x ∧ x < n) →
    impl_network_move.l1 k b acc cs (cs.length : Int) (c : Int) row (row.length : Int) (i : Int) z es fs fx sx = R (acc ++ mvRow es b (row.drop i)) := by
  induction d with
  | zero =>
    intro k i acc hk hd hi ha hr
    obtain ⟨k, rfl⟩ : ∃ m, k = m + 1 := ⟨k - 1, by omega⟩
    obtain rfl : i = row.length := by omega
    rw [impl_network_move.l1, if_neg (by omega), nat_next (by omega), G k acc (by omega) (by omega) hr, List.drop_length, mvRow, List.append_nil]
  | succ d ih =>
    intro k i acc hk hd hi ha hr
    obtain ⟨k, rfl⟩ : ∃ m, k = m + 1 := ⟨k - 1, by omega⟩
    have hlt : i < row.length := by omega
    have hx' := hrow _ (List.getElem_mem hlt)
    rw [impl_network_move.l1, if_pos (by omega), if_pos (by omega), if_pos (by omega), rd_nat' hlt, if_pos hx'.1, if_pos hx'.2, impl_has.f, if_pos hb, Option.bind_some, nat_next (by omega), List.drop_eq_getElem_cons hlt, mvRow]
    by_cases h : hasB (rd_T85 es row[i]).f2 b = true
    · rw [if_pos h, if_pos h, if_pos (by omega), ih k (i + 1) _ (by omega) (by omega) (by omega) (by simp; omega) (fun x hx => ?_), List.append_assoc]
      rcases List.mem_append.1 hx with hx | hx
      · exact hr x hx
      · rw [List.mem_singleton] at hx
        obtain ⟨p, hp⟩ : ∃ p : Nat, row[i] = (p : Int) := ⟨row[i].toNat, by omega⟩
        rw [hp] at hx
        rw [rdE_at es p (by omega)] at hx
        rw [hx]
        exact (hE _ (List.getElem_mem _)).2
    · rw [if_neg h, if_neg h, ih k (i + 1) _ (by omega) (by omega) (by omega) (by omega) hr, List.nil_append]
set_option maxRecDepth 100000 in
theorem iMv_l0 (n : Nat) (hn : n ≤ 3000) (es : List S85) (fs : List S156) (b : Int) (hb : 0 ≤ b ∧ b ≤ 255) (hE : edgesIn n es) (hl : es.length ≤ 12000) (cs : List Int) (hcs : ∀ x ∈ cs, 0 ≤ x ∧ x < n) (hcl : cs.length ≤ 3000) (C : Nat) (hC : 90003010 ≤ C) (d : Nat) : ∀ (k c : Nat) (acc : List Int), d * 12003 + C < k → cs.length - c = d → c ≤ cs.length → acc.length ≤ c * 12000 → (∀ x ∈ acc, 0 ≤ x ∧ x < n) →
    impl_network_move.l0 k b acc cs (cs.length : Int) (c : Int) (n : Int) es fs (tabN n (frF es)) (tabN n (stF es 0)) = some (onL (cl n es (fun s => (s : Int) ∈ acc ++ mv es b (cs.drop c)))) := by
  induction d with
  | zero =>
    intro k c acc hk hd hc ha hr
    obtain ⟨k, rfl⟩ : ∃ m, k = m + 1 := ⟨k - 1, by omega⟩
    obtain rfl : c = cs.length := by omega
    rw [impl_network_move.l0, if_neg (by omega), iClo n hn es fs _ hE hl acc hr (by omega) k (by omega), Option.bind_some, List.drop_length, mv, List.append_nil]
  | succ d ih =>
    intro k c acc hk hd hc ha hr
    obtain ⟨k, rfl⟩ : ∃ m, k = m + 1 := ⟨k - 1, by omega⟩
    have hlt : c < cs.length := by omega
    have hx := hcs _ (List.getElem_mem hlt)
    have h2 : cs[c].toNat < n := by omega
    have g : rd_L7 (tabN n (stF es 0)) cs[c] = stF es 0 cs[c].toNat := tabN_get n (stF es 0) [] _ h2
    have hsl := stF_len es 0 cs[c].toNat
    have hrow : ∀ x ∈ stF es 0 cs[c].toNat, 0 ≤ x ∧ x < es.length := fun x hx => by
      obtain ⟨j, h1, h2, _⟩ := (mem_stF x es 0 _).1 hx
      omega
    rw [impl_network_move.l0, if_pos (by omega), if_pos (by omega), if_pos (by omega), rd_nat' hlt, if_pos hx.1, if_pos (by rw [tabN_len]; omega), g]
    have e := iMv_l1 es fs (n : Int) (tabN n (frF es)) (tabN n (stF es 0)) b hb hl n hE cs c (by omega) (stF es 0 cs[c].toNat) hrow (by omega) (d * 12003 + C) ((c + 1) * 12000)
      (by omega) (fun acc => some (onL (cl n es (fun s => (s : Int) ∈ acc ++ mv es b (cs.drop (c + 1)))))) (fun k acc h1 h2 h3 => ih k (c + 1) acc h1 (by omega) (by omega) h2 h3) (stF es 0 cs[c].toNat).length k 0 acc (by omega) (by omega) (by omega) (by omega) hr
    rw [List.drop_zero] at e
    rw [List.drop_eq_getElem_cons hlt, mv, ← List.append_assoc]
    exact e
theorem mem_moved (n : Nat) (es : List S85) (hE : edgesIn n es) (m : List Bool) (hm : m.length = n) (b : Int) (t : Nat) : (t : Int) ∈ mv es b (onL m) ↔ stp es m b t := by
  rw [mem_mv]
  constructor
  · rintro ⟨s, hs, h⟩
    obtain ⟨j, hj, h1, h2⟩ := (mem_mvRow es b _ _).1 h
    obtain ⟨q, hq, e, h3, _⟩ := (mem_stF j es 0 _).1 hj
    obtain ⟨p, hp, e2, h4⟩ := (mem_onL m s).1 hs
    rw [Nat.zero_add] at e
    rw [e] at h1 h2
    rw [rdE_at es q hq] at h1 h2 h3
    refine ⟨es[q], List.getElem_mem hq, ?_, h1, h2⟩
    rw [h3, Int.toNat_natCast, e2, Int.toNat_natCast]
    exact h4
  · rintro ⟨e, he, h1, h2, h3⟩
    have hr := hE e he
    obtain ⟨q, hq, rfl⟩ := List.mem_iff_getElem.1 he
    refine ⟨es[q].f0, (mem_onL m _).2 ⟨es[q].f0.toNat, by omega, by omega, h1⟩, (mem_mvRow es b _ _).2 ⟨(q : Int), (mem_stF _ es 0 _).2 ⟨q, hq, by omega, ?_, ?_⟩, ?_, ?_⟩⟩
    · rw [rdE_at es q hq]; omega
    · rw [rdE_at es q hq]
      intro h
      rw [List.eq_nil_of_length_eq_zero h] at h2
      simp [hasB] at h2
    · rw [rdE_at es q hq]; exact h2
    · rw [rdE_at es q hq]; exact h3
set_option maxRecDepth 100000 in
theorem iMove (n : Nat) (hn : n ≤ 3000) (es : List S85) (fs : List S156) (b : Int) (hb : 0 ≤ b ∧ b ≤ 255) (hE : edgesIn n es) (hl : es.length ≤ 12000) (m : List Bool) (hm : m.length = n) (k : Nat) (hk : 127000000 ≤ k) :
    impl_network_move.f k (n : Int) es fs (tabN n (frF es)) (tabN n (stF es 0)) (onL m) b = some (onL (cl n es (stp es m b))) := by
  unfold impl_network_move.f
  have hlen : (onL m).length ≤ 3000 := by have := onF_len m m.length 0; unfold onL; omega
  have e := iMv_l0 n hn es fs b hb hE hl (onL m) (fun x hx => by obtain ⟨s, h1, h2, _⟩ := (mem_onL m x).1 hx; omega) hlen 90003010 (Nat.le_refl _) (onL m).length k 0 [] (by omega) (by omega) (by omega) (by simp) (fun x hx => by simp at hx)
  rw [List.drop_zero] at e
  rw [cl_congr (fun s => by rw [← mem_moved n es hE m hm b s, ← List.nil_append (mv es b (onL m))])]
  exact e
set_option maxRecDepth 100000 in
theorem sStep_l1 (es : List S85) (fs : List S156) (z : Int) (m : List Bool) (b : Int) (hb : 0 ≤ b ∧ b ≤ 255) (c0 c1 : Int) (sp : List S160) (hsp : sp.length ≤ 128) (n : Nat) (h1 : 0 ≤ c1 ∧ c1 < n) (j : Nat) (hj : j ≤ 1000000) (K : Nat) (Q : Nat → Prop) (R : Option (List Bool))
    (G : ∀ k out, K < k → out.length = n → (∀ s, out.getD s false = true ↔ Q s ∨ (hasB sp b = true ∧ c1 = (s : Int))) → spec_l6Step.l0 k m b out ((j + 1 : Nat) : Int) z es fs = R) (d : Nat) : ∀ (k i : Nat) (out : List Bool), d + K + 1 < k → sp.length - i = d → i ≤ sp.length → out.length = n →
      (∀ s, out.getD s false = true ↔ Q s ∨ ((∃ q : Nat, q < i ∧ (rd_T160 sp q).f0 ≤ b ∧ b ≤ (rd_T160 sp q).f1) ∧ c1 = (s : Int))) → spec_l6Step.l1 k m b out (j : Int) (i : Int) z es fs c0 c1 sp = R := by
  induction d with
  | zero =>
    intro k i out hk hd hi ho hO
    obtain ⟨k, rfl⟩ : ∃ m, k = m + 1 := ⟨k - 1, by omega⟩
    obtain rfl : i = sp.length := by omega
    rw [spec_l6Step.l1, if_neg (by omega), nat_next (by omega)]
    exact G k out (by omega) ho (fun s => by rw [hO s, hasB_iff])
  | succ d ih =>
    intro k i out hk hd hi ho hO
    obtain ⟨k, rfl⟩ : ∃ m, k = m + 1 := ⟨k - 1, by omega⟩
    rw [spec_l6Step.l1, if_pos (by omega), if_pos (by omega), sIn, Option.bind_some, w64 (x := b) (by omega) (by omega), nat_next (by omega)]
    by_cases c : (rd_T160 sp i).f0 ≤ b ∧ b ≤ (rd_T160 sp i).f1
    · rw [if_pos (decide_eq_true c), if_pos h1.1, if_pos (by omega)]
      refine ih k (i + 1) _ (by omega) (by omega) (by omega) (by simpa using ho) (fun s => ?_)
      rw [set_get _ _ _ (by omega), hO s]
      constructor
      · rintro (h | h | ⟨⟨q, h2, h3⟩, h4⟩)
        · exact .inr ⟨⟨i, by omega, c⟩, by omega⟩
        · exact .inl h
        · exact .inr ⟨⟨q, by omega, h3⟩, h4⟩
      · rintro (h | ⟨⟨q, h2, h3⟩, h4⟩)
        · exact .inr (.inl h)
        · exact .inl (by omega)
    · rw [if_neg (by simpa using c)]
      refine ih k (i + 1) out (by omega) (by omega) (by omega) ho (fun s => ?_)
      rw [hO s]
      constructor
      · rintro (h | ⟨⟨q, h2, h3⟩, h4⟩)
        · exact .inl h
        · exact .inr ⟨⟨q, by omega, h3⟩, h4⟩
      · rintro (h | ⟨⟨q, h2, h3⟩, h4⟩)
        · exact .inl h
        · refine .inr ⟨⟨q, ?_, h3⟩, h4⟩
          rcases Nat.lt_or_eq_of_le (Nat.le_of_lt_succ h2) with h | h
          · exact h
          · subst h; exact absurd h3 c
set_option maxRecDepth 100000 in
theorem sStep_l0 (n : Nat) (hn : n ≤ 3000) (es : List S85) (fs : List S156) (hE : edgesIn n es) (hl : es.length ≤ 12000) (hsp : ∀ e ∈ es, e.f2.length ≤ 128) (m : List Bool) (hm : m.length = n) (b : Int) (hb : 0 ≤ b ∧ b ≤ 255) (C : Nat) (hC : 73010002 ≤ C) (d : Nat) : ∀ (k j : Nat) (out : List Bool), d * 132 + C < k → es.length - j = d → j ≤ es.length → out.length = n →
    (∀ s, out.getD s false = true ↔ ∃ q : Nat, q < j ∧ m.getD (rd_T85 es q).f0.toNat false = true ∧ hasB (rd_T85 es q).f2 b = true ∧ (rd_T85 es q).f1 = (s : Int)) → spec_l6Step.l0 k m b out (j : Int) (n : Int) es fs = some (cl n es (stp es m b)) := by
  induction d with
  | zero =>
    intro k j out hk hd hj ho hO
    obtain ⟨k, rfl⟩ : ∃ m, k = m + 1 := ⟨k - 1, by omega⟩
    obtain rfl : j = es.length := by omega
    rw [spec_l6Step.l0, if_neg (by omega), sClo n hn es fs hE hl out ho k (by omega), Option.bind_some]
    refine congrArg some (cl_congr (fun s => ?_))
    rw [hO s]
    constructor
    · rintro ⟨q, h1, h2⟩
      rw [rdE_at es q h1] at h2
      exact ⟨es[q], List.getElem_mem h1, h2⟩
    · rintro ⟨e, he, h2⟩
      obtain ⟨q, hq, rfl⟩ := List.mem_iff_getElem.1 he
      exact ⟨q, hq, by rw [rdE_at es q hq]; exact h2⟩
  | succ d ih =>
    intro k j out hk hd hj ho hO
    obtain ⟨k, rfl⟩ : ∃ m, k = m + 1 := ⟨k - 1, by omega⟩
    have hlt : j < es.length := by omega
    have he := hE _ (List.getElem_mem hlt)
    have hs := hsp _ (List.getElem_mem hlt)
    rw [← rdE_at es j hlt] at he hs
    rw [spec_l6Step.l0, if_pos (by omega), if_pos (by omega), if_pos he.1.1, if_pos (by omega)]
    have step : ∀ Q : Nat → Prop, (∀ s, Q s ↔ ((∃ q : Nat, q < j ∧ m.getD (rd_T85 es q).f0.toNat false = true ∧ hasB (rd_T85 es q).f2 b = true ∧ (rd_T85 es q).f1 = (s : Int)) ∨ (m.getD (rd_T85 es j).f0.toNat false = true ∧ hasB (rd_T85 es j).f2 b = true ∧ (rd_T85 es j).f1 = (s : Int)))) →
        ∀ s, Q s ↔ ∃ q : Nat, q < j + 1 ∧ m.getD (rd_T85 es q).f0.toNat false = true ∧ hasB (rd_T85 es q).f2 b = true ∧ (rd_T85 es q).f1 = (s : Int) := fun Q hQ s => by
      rw [hQ s]
      constructor
      · rintro (⟨q, h1, h2⟩ | h2)
        · exact ⟨q, by omega, h2⟩
        · exact ⟨j, by omega, h2⟩
      · rintro ⟨q, h1, h2⟩
        rcases Nat.lt_or_eq_of_le (Nat.le_of_lt_succ h1) with h | h
        · exact .inl ⟨q, h, h2⟩
        · subst h; exact .inr h2
    by_cases c : m.getD (rd_T85 es j).f0.toNat false = true
    · rw [if_pos (show rdOf false m _ = true from c)]
      refine sStep_l1 es fs (n : Int) m b hb _ _ (rd_T85 es j).f2 hs n he.2 j (by omega) (d * 132 + C) (fun s => ∃ q : Nat, q < j ∧ m.getD (rd_T85 es q).f0.toNat false = true ∧ hasB (rd_T85 es q).f2 b = true ∧ (rd_T85 es q).f1 = (s : Int)) _ (fun k out h1 h2 h3 => ih k (j + 1) out h1 (by omega) (by omega) h2 (step _ (fun s => by rw [h3 s]; exact ⟨fun h => h.imp id (fun h => ⟨c, h⟩), fun h => h.imp id (fun h => h.2)⟩))) (rd_T85 es j).f2.length k 0 out (by omega) (by omega) (by omega) ho (fun s => ?_)
      rw [hO s]
      constructor
      · exact .inl
      · rintro (h | ⟨⟨q, h, _⟩, _⟩)
        · exact h
        · omega
    · rw [if_neg (show ¬ rdOf false m _ = true from c), nat_next (by omega)]
      exact ih k (j + 1) out (by omega) (by omega) (by omega) ho (step _ (fun s => by rw [hO s]; exact ⟨.inl, fun h => h.elim id (fun h => absurd h.1 c)⟩))
set_option maxRecDepth 100000 in
theorem sStep (n : Nat) (hn : n ≤ 3000) (es : List S85) (fs : List S156) (hE : edgesIn n es) (hl : es.length ≤ 12000) (hsp : ∀ e ∈ es, e.f2.length ≤ 128) (m : List Bool) (hm : m.length = n) (b : Int) (hb : 0 ≤ b ∧ b ≤ 255) (k : Nat) (hk : 75000000 ≤ k) :
    spec_l6Step.f k (n : Int) es fs m b = some (cl n es (stp es m b)) := by
  unfold spec_l6Step.f
  rw [if_pos (by omega), if_pos (by omega), Int.toNat_natCast]
  refine sStep_l0 n hn es fs hE hl hsp m hm b hb 73010002 (Nat.le_refl _) es.length k 0 _ (by omega) (by omega) (by omega) (by simp) (fun s => ?_)
  constructor
  · intro h
    rw [List.getD_eq_getElem?_getD, List.getElem?_replicate] at h
    split at h <;> simp at h
  · rintro ⟨q, h, _⟩
    omega
theorem nfa_spans {n : Nat} {es : List S85} {fs : List S156} (h : nfaOk (n : Int) es fs) : ∀ e ∈ es, e.f2.length ≤ 128 := by
  intro e he
  obtain ⟨i, hi, rfl⟩ := List.mem_iff_getElem.1 he
  have := h.2.2.1 i (Nat.zero_le _) hi
  unfold edgeP edgeOk at this
  rw [rdE_at es i hi] at this
  have h2 := classOk_len this.2.2
  simpa using h2
open Classical in
/-- the marks that the reference begins with -/
theorem marks_is (N : Nat) (es : List S85) (fs : List S156) (st : List Int) (g : ∀ y ∈ es, bi_Edge y) (hst : st.length ≤ 1048576) (h : nfaOk (N : Int) es fs) (c : ∀ x ∈ st, 0 ≤ x ∧ x < (N : Int)) (k : Nat) (hk : 4000000 ≤ k) : ∃ r, spec_l6Marks.f k (N : Int) es fs st = some (r, true) ∧ r.length = N ∧ ∀ s, r.getD s false = true ↔ (s : Int) ∈ st := by
  have h' := h
  obtain ⟨⟨h1, h2⟩, ⟨h3, _⟩, _⟩ := h'
  have nofalse : ∀ s, (List.replicate N false).getD s false = true ↔ (s : Int) ∈ st.take 0 := fun s => by
    rw [List.getD_eq_getElem?_getD, List.getElem?_replicate, List.take_zero]
    split <;> simp
  obtain ⟨r, e, hr, hm⟩ := sMk_l0 N (by omega) es fs st c hst st.length k 0 (List.replicate N false) (by omega) (by omega) (by omega) (by simp) nofalse
  have e' : spec_l6Marks.l0 k st (List.replicate N false) 0 (N : Int) es fs = some (r, true) := e
  refine ⟨r, ?_, hr, hm⟩
  unfold spec_l6Marks.f
  rw [sNfaOk _ _ _ g k (by omega), Option.bind_some, if_pos (decide_eq_true h), if_pos (by omega), if_pos (by omega), Int.toNat_natCast, e']
open Classical in
theorem clo_is (N : Nat) (es : List S85) (fs : List S156) (st : List Int) (g : ∀ y ∈ es, bi_Edge y) (hst : st.length ≤ 1048576) (h : nfaOk (N : Int) es fs) (c : ∀ x ∈ st, 0 ≤ x ∧ x < (N : Int)) (k : Nat) (hk : 130000000 ≤ k) : spec_Closure.f k (N : Int) es fs st = some (onL (cl N es (fun s => (s : Int) ∈ st))) ∧ impl_Closure.f k (N : Int) es fs st = some (onL (cl N es (fun s => (s : Int) ∈ st))) := by
  have h' := h
  obtain ⟨⟨h1, h2⟩, ⟨h3, _⟩, _⟩ := h'
  have hE := nfa_edges h
  have hw : wrap64 ((N : Int) - 1) = (N : Int) - 1 := w64 (by omega) (by omega)
  constructor
  · obtain ⟨r, e', hr, hm⟩ := marks_is N es fs st g hst h c k (by omega)
    unfold spec_Closure.f
    rw [e', Option.bind_some, if_pos rfl, sClo N (by omega) es fs hE h3 r hr k (by omega), Option.bind_some, sList _ (by rw [cl_len]; omega) k (by omega), Option.bind_some, cl_congr (fun s => hm s)]
  · unfold impl_Closure.f impl_areStates.f
    rw [iNfaOk _ _ _ g k (by omega), Option.bind_some, if_pos (decide_eq_true h), hw, Option.bind_some, if_pos (decide_eq_true (fun x hx => by have := c x hx; omega)), netNew N (by omega) es fs hE h3 k (by omega), Option.bind_some]
    exact iClo N (by omega) es fs _ hE h3 st c (by omega) k (by omega)
open Classical in
theorem mov_is (N : Nat) (es : List S85) (fs : List S156) (st : List Int) (b : Int) (hb : 0 ≤ b ∧ b ≤ 255) (g : ∀ y ∈ es, bi_Edge y) (hst : st.length ≤ 1048576) (h : nfaOk (N : Int) es fs) (c : ∀ x ∈ st, 0 ≤ x ∧ x < (N : Int)) (k : Nat) (hk : 130000000 ≤ k) : spec_MoveOn.f k (N : Int) es fs st b = some (onL (cl N es (stp es (cl N es (fun s => (s : Int) ∈ st)) b))) ∧ impl_MoveOn.f k (N : Int) es fs st b = some (onL (cl N es (stp es (cl N es (fun s => (s : Int) ∈ st)) b))) := by
  have h' := h
  obtain ⟨⟨h1, h2⟩, ⟨h3, _⟩, _⟩ := h'
  have hE := nfa_edges h
  have hw : wrap64 ((N : Int) - 1) = (N : Int) - 1 := w64 (by omega) (by omega)
  constructor
  · obtain ⟨r, e', hr, hm⟩ := marks_is N es fs st g hst h c k (by omega)
    unfold spec_MoveOn.f
    rw [e', Option.bind_some, if_pos rfl, sClo N (by omega) es fs hE h3 r hr k (by omega), Option.bind_some, cl_congr (fun s => hm s), sStep N (by omega) es fs hE h3 (nfa_spans h) _ (cl_len _ _ _) b hb k (by omega), Option.bind_some, sList _ (by rw [cl_len]; omega) k (by omega), Option.bind_some]
  · unfold impl_MoveOn.f impl_areStates.f
    rw [iNfaOk _ _ _ g k (by omega), Option.bind_some, if_pos (decide_eq_true h), hw, Option.bind_some, if_pos (decide_eq_true (fun x hx => by have := c x hx; omega)), netNew N (by omega) es fs hE h3 k (by omega), Option.bind_some]
    rw [iClo N (by omega) es fs _ hE h3 st c (by omega) k (by omega), Option.bind_some]
    exact iMove N (by omega) es fs b hb hE h3 _ (cl_len _ _ _) k (by omega)
open Classical in
theorem clo_no (n : Int) (es : List S85) (fs : List S156) (st : List Int) (b : Int) (g : ∀ y ∈ es, bi_Edge y) (hst : st.length ≤ 1048576) (h : ¬ (nfaOk n es fs ∧ ∀ x ∈ st, 0 ≤ x ∧ x < n)) (k : Nat) (hk : 130000000 ≤ k) : spec_Closure.f k n es fs st = some [] ∧ impl_Closure.f k n es fs st = some [] ∧ spec_MoveOn.f k n es fs st b = some [] ∧ impl_MoveOn.f k n es fs st b = some [] := by
  have hm : ∃ r, spec_l6Marks.f k n es fs st = some (r, false) := by
    by_cases q : nfaOk n es fs
    · have q' := q
      obtain ⟨⟨h1, h2⟩, ⟨h3, _⟩, _⟩ := q'
      obtain ⟨N, rfl⟩ : ∃ N : Nat, n = (N : Int) := ⟨n.toNat, by omega⟩
      have c : ¬ ∀ x ∈ st, 0 ≤ x ∧ x < (N : Int) := fun c => h ⟨q, c⟩
      have ex : ∃ q, 0 ≤ q ∧ q < st.length ∧ ¬ (0 ≤ st.getD q 0 ∧ st.getD q 0 < (N : Int)) := by
        rw [Classical.not_forall] at c
        obtain ⟨x, c⟩ := c
        rw [Classical.not_imp] at c
        obtain ⟨q, hq, rfl⟩ := List.mem_iff_getElem.1 c.1
        exact ⟨q, Nat.zero_le _, hq, by rw [List.getD_eq_getElem?_getD, List.getElem?_eq_getElem hq]; exact c.2⟩
      have e := sMk_no N (by omega) (by omega) es fs st hst st.length k 0 (List.replicate N false) (by omega) (by omega) (by omega) (by simp) ex
      have e' : spec_l6Marks.l0 k st (List.replicate N false) 0 (N : Int) es fs = some ([], false) := e
      refine ⟨[], ?_⟩
      unfold spec_l6Marks.f
      rw [sNfaOk _ _ _ g k (by omega), Option.bind_some, if_pos (decide_eq_true q), if_pos (by omega), if_pos (by omega), Int.toNat_natCast, e']
    · refine ⟨[], ?_⟩
      unfold spec_l6Marks.f
      rw [sNfaOk _ _ _ g k (by omega), Option.bind_some, if_neg (by simpa using q)]
  have ha : impl_areStates.f k n es fs st = some false := by
    unfold impl_areStates.f
    by_cases q : nfaOk n es fs
    · have q' := q
      obtain ⟨⟨h1, h2⟩, _⟩ := q'
      have hw : wrap64 (n - 1) = n - 1 := w64 (by omega) (by omega)
      rw [iNfaOk _ _ _ g k (by omega), Option.bind_some, if_pos (decide_eq_true q), hw]
      exact congrArg some (decide_eq_false (fun d => h ⟨q, fun x hx => by have := d x hx; omega⟩))
    · rw [iNfaOk _ _ _ g k (by omega), Option.bind_some, if_neg (by simpa using q)]
  obtain ⟨r, hm⟩ := hm
  refine ⟨?_, ?_, ?_, ?_⟩
  · unfold spec_Closure.f; rw [hm, Option.bind_some, if_neg (by simp)]
  · unfold impl_Closure.f; rw [ha, Option.bind_some, if_neg (by simp)]
  · unfold spec_MoveOn.f; rw [hm, Option.bind_some, if_neg (by simp)]
  · unfold impl_MoveOn.f; rw [ha, Option.bind_some, if_neg (by simp)]
theorem cl_idem (N : Nat) (es : List S85) (P : Nat → Prop) : cl N es (fun s => (s : Int) ∈ onL (cl N es P)) = cl N es P := by
  refine (cl_uniq (cl_len _ _ _) (fun s hs => ?_)).symm
  rw [cl_get N es P s hs]
  refine ⟨fun h => ?_, fun h => ?_⟩
  · exact .base s ((mem_onL _ _).2 ⟨s, by rw [cl_len]; exact hs, rfl, (cl_get N es P s hs).2 h⟩)
  · clear hs
    induction h with
    | base t ht =>
      obtain ⟨q, h1, h2, h3⟩ := (mem_onL _ _).1 ht
      rw [cl_len] at h1
      obtain rfl : t = q := by omega
      exact (cl_get N es P t h1).1 h3
    | step t u e _ h1 h2 h3 h4 ih => exact .step t u e ih h1 h2 h3 h4
theorem sameInts_l (l : List Int) (hl : l.length ≤ 3000) (d : Nat) : ∀ (k i : Nat), d < k → l.length - i = d → i ≤ l.length → laws_sameInts.l0 k l l (i : Int) = some true := by
  induction d with
  | zero =>
    intro k i hk hd hi
    obtain ⟨k, rfl⟩ : ∃ m, k = m + 1 := ⟨k - 1, by omega⟩
    rw [laws_sameInts.l0, if_neg (by omega)]
  | succ d ih =>
    intro k i hk hd hi
    obtain ⟨k, rfl⟩ : ∃ m, k = m + 1 := ⟨k - 1, by omega⟩
    rw [laws_sameInts.l0, if_pos (by omega), if_pos (by omega), if_pos (by omega), if_pos rfl, nat_next (by omega)]
    exact ih k (i + 1) (by omega) (by omega) (by omega)
theorem sameInts_same (l : List Int) (hl : l.length ≤ 3000) (k : Nat) (hk : l.length < k) : laws_sameInts.f k l l = some true := by
  unfold laws_sameInts.f
  rw [if_pos rfl]
  exact sameInts_l l hl l.length k 0 hk (by omega) (Nat.zero_le _)
theorem has_l (l : List Int) (hl : l.length ≤ 3000) (x : Int) (d : Nat) : ∀ (k i : Nat), d < k → l.length - i = d → i ≤ l.length → x ∈ l.drop i → laws_has.l0 k l x (i : Int) = some true := by
  induction d with
  | zero =>
    intro k i hk hd hi hx
    rw [List.drop_eq_nil_of_le (by omega)] at hx
    simp at hx
  | succ d ih =>
    intro k i hk hd hi hx
    obtain ⟨k, rfl⟩ : ∃ m, k = m + 1 := ⟨k - 1, by omega⟩
    have hlt : i < l.length := by omega
    rw [List.drop_eq_getElem_cons hlt] at hx
    rw [laws_has.l0, if_pos (by omega), if_pos (by omega), nat_next (by omega)]
    by_cases q : l[i] = x
    · rw [if_pos (by rw [rd_nat' hlt]; exact q)]
    · rw [if_neg (by rw [rd_nat' hlt]; exact q)]
      rcases List.mem_cons.1 hx with e | e
      · exact absurd e.symm q
      · exact ih k (i + 1) (by omega) (by omega) (by omega) e
theorem has_same (l : List Int) (hl : l.length ≤ 3000) (x : Int) (hx : x ∈ l) (k : Nat) (hk : l.length < k) : laws_has.f k l x = some true :=
  has_l l hl x l.length k 0 hk (by omega) (Nat.zero_le _) (by rw [List.drop_zero]; exact hx)
theorem onL_cl (N : Nat) (hN : N ≤ 3000) (es : List S85) (P : Nat → Prop) : (onL (cl N es P)).length ≤ 3000 ∧ ∀ x ∈ onL (cl N es P), 0 ≤ x ∧ x < (N : Int) := by
  refine ⟨?_, fun x hx => ?_⟩
  · have := onF_len (cl N es P) (cl N es P).length 0
    unfold onL
    rw [cl_len] at this ⊢
    omega
  · obtain ⟨s, h1, h2, _⟩ := (mem_onL _ _).1 hx
    rw [cl_len] at h1
    omega
theorem closedAt (s : Int) (es : List S85) (fs : List S156) (st : List Int) (b : Int) (he : ∀ e ∈ es, e.f2.length ≤ 1000) (hst : st.length ≤ 6) (hb : 0 ≤ b ∧ b ≤ 255) : ∃ k c m, ClosedAt k s es fs st b c m := by
  have g : ∀ y ∈ es, bi_Edge y := fun y hy => Nat.le_trans (he y hy) (by decide)
  by_cases h : nfaOk s es fs ∧ ∀ x ∈ st, 0 ≤ x ∧ x < s
  · obtain ⟨h, c⟩ := h
    have h' := h
    obtain ⟨⟨h1, h2⟩, _⟩ := h'
    obtain ⟨N, rfl⟩ : ∃ N : Nat, s = (N : Int) := ⟨s.toNat, by omega⟩
    obtain ⟨lc, rc⟩ := onL_cl N (by omega) es (fun s => (s : Int) ∈ st)
    obtain ⟨lm, rm⟩ := onL_cl N (by omega) es (stp es (cl N es (fun s => (s : Int) ∈ st)) b)
    have a1 := clo_is N es fs st g (by omega) h c 130000000 (by omega)
    have a2 := mov_is N es fs st b hb g (by omega) h c 130000000 (by omega)
    have a3 := clo_is N es fs _ g (by omega) h rc 130000000 (by omega)
    have a4 := mov_is N es fs _ b hb g (by omega) h rc 130000000 (by omega)
    have a5 := clo_is N es fs _ g (by omega) h rm 130000000 (by omega)
    rw [cl_idem] at a3 a4 a5
    refine ⟨130000000, _, _, a1.2, a2.2, a1.1, a2.1, sameInts_same _ lc _ (by omega), sameInts_same _ lm _ (by omega), fun _ => ⟨fun x hx => has_same _ lc x ?_ _ (by omega), a3.2, a4.2, fun _ => a5.2⟩⟩
    have := c x hx
    refine (mem_onL _ _).2 ⟨x.toNat, by rw [cl_len]; omega, by omega, (cl_get N es _ x.toNat (by omega)).2 (.base _ ?_)⟩
    rw [Int.toNat_of_nonneg this.1]
    exact hx
  · obtain ⟨a1, a2, a3, a4⟩ := clo_no s es fs st b g (by omega) h 130000000 (by omega)
    exact ⟨130000000, [], [], a2, a4, a1, a3, sameInts_same [] (by simp) _ (by simp), sameInts_same [] (by simp) _ (by simp), fun q => absurd rfl q⟩
theorem FnClosed (code : List Int) (g : code.length ≤ maxLen ∧ ∀ y ∈ code, (Lit.int .u8 y).wf = true) : ∃ k, laws_FnClosed.f k code = some true := by
  have hw := g.2
  refine ⟨0, ?_⟩
  unfold laws_FnClosed.f
  rw [if_pos]
  refine ⟨fun x hx => ?_, fun s es fs st b _ he hst hb => closedAt s es fs st b he.2.2 hst hb⟩
  have := hw x hx
  simp [Lit.wf, IntKind.min, IntKind.max, IntKind.signed, IntKind.bits] at this
  omega
end Go.Proofs.Ytfajfjgkkgigoaa.Pure
