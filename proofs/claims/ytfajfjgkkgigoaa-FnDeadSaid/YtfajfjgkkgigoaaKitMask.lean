/- A region that draws its order, walked once for each operation: what holds is told of whatever has come up. -/
import Derived.Test.YtfajfjgkkgigoaaWTab
import Derived.Test.YtfajfjgkkgigoaaWMore
namespace Go.Proofs.Ytfajfjgkkgigoaa.Kit
open Go.RowKit Go.Proofs.YtfajfjgkkgigoaaW.PrintWords Go.Proofs.YtfajfjgkkgigoaaW.PrintLast Go.Proofs.YtfajfjgkkgigoaaW.PrintMore

def upd (l : Nat → Bool) (i : Nat) : Nat → Bool := fun k => if k = i then true else l k
def updv (v : Nat → Value) (i : Nat) (x : Value) : Nat → Value := fun k => if k = i then x else v k
/-- the act with what has come up -/
def putIf (l : Nat → Bool) (v : Nat → Value) : List (Option Tmp) → Nat → Act → Act
  | [], _, a => a
  | d :: r, i, a => putIf l v r (i + 1) (if l i = true then a.put d (v i) else a)
def apartD1 (r : List (Option Tmp)) : Option Tmp → Bool
  | none => true
  | some t => r.all (fun d' => d' != some t)
def apartD : List (Option Tmp) → Bool
  | [] => true
  | d :: r => apartD1 r d && apartD r
def lowB : List (List Nat) → Nat → Bool
  | [], _ => true
  | n :: r, i => n.all (fun j => decide (j < i)) && lowB r (i + 1)

theorem putIf_put {l : Nat → Bool} {v : Nat → Value} {d : Option Tmp} {x : Value} : ∀ (r : List (Option Tmp)) (i : Nat) (a : Act), (∀ t, d = some t → r.all (fun d' => d' != some t) = true) → putIf l v r i (a.put d x) = (putIf l v r i a).put d x
  | [], _, _, _ => rfl
  | d' :: r, i, a, h => by
    have h' : ∀ t, d = some t → r.all (fun d' => d' != some t) = true := fun t ht => by
      have := h t ht
      rw [List.all_cons, Bool.and_eq_true] at this
      exact this.2
    have hne : ∀ t, d = some t → d' ≠ some t := fun t ht => by
      have := h t ht
      rw [List.all_cons, Bool.and_eq_true] at this
      simpa using this.1
    rw [putIf, putIf]
    by_cases c : l i = true
    · rw [if_pos c, if_pos c, Act.put_comm a x (v i) hne, putIf_put r (i + 1) _ h']
    · rw [if_neg c, if_neg c, putIf_put r (i + 1) _ h']
theorem putIf_eq {l l' : Nat → Bool} {v v' : Nat → Value} : ∀ (r : List (Option Tmp)) (i : Nat) (a : Act), (∀ k, i ≤ k → l' k = l k ∧ v' k = v k) → putIf l' v' r i a = putIf l v r i a
  | [], _, _, _ => rfl
  | d :: r, i, a, h => by
    rw [putIf, putIf, (h i (Nat.le_refl _)).1, (h i (Nat.le_refl _)).2, putIf_eq r (i + 1) _ (fun k hk => h k (by omega))]
theorem putIf_upd {l : Nat → Bool} {v : Nat → Value} {j : Nat} {x : Value} (hl : l j = false) : ∀ (r : List (Option Tmp)) (i : Nat) (a : Act), i ≤ j → apartD r = true → putIf (upd l j) (updv v j x) r i a = (putIf l v r i a).put (r.getD (j - i) none) x
  | [], _, _, _, _ => by simp [putIf, Act.put]
  | d :: r, i, a, hij, hd => by
    rw [apartD, Bool.and_eq_true] at hd
    rw [putIf, putIf]
    by_cases e : i = j
    · subst e
      have e1 : upd l i i = true := by simp [upd]
      have e2 : updv v i x i = x := by simp [updv]
      rw [if_pos e1, e2, if_neg (by rw [hl]; decide), Nat.sub_self, List.getD_cons_zero, putIf_put r (i + 1) _ (fun t ht => by
        have := hd.1
        rw [ht] at this
        exact this)]
      rw [putIf_eq (l := l) (v := v) r (i + 1) _ (fun k hk => by
        have q : ¬ k = i := by omega
        simp [upd, updv, q])]
    · have e1 : upd l j i = l i := by simp [upd, e]
      have e2 : updv v j x i = v i := by simp [updv, e]
      rw [e1, e2, putIf_upd hl r (i + 1) _ (by omega) hd.2, show j - i = (j - (i + 1)) + 1 by omega, List.getD_cons_succ]
theorem put_size (a : Act) (d : Option Tmp) (x : Value) : (a.put d x).tmps.size = a.tmps.size := by
  cases d <;> simp [Act.put]
theorem putIf_other {l : Nat → Bool} {v : Nat → Value} {N : Tmp} : ∀ (r : List (Option Tmp)) (i : Nat) (a : Act), r.all (fun d => d != some N) = true → (putIf l v r i a).tmps.getD N undef = a.tmps.getD N undef
  | [], _, _, _ => rfl
  | d :: r, i, a, h => by
    rw [List.all_cons, Bool.and_eq_true] at h
    have hd : d ≠ some N := by simpa using h.1
    rw [putIf, putIf_other r (i + 1) _ h.2]
    by_cases c : l i = true
    · rw [if_pos c]
      cases d with
      | none => rfl
      | some t =>
        have : t ≠ N := fun q => hd (by rw [q])
        simp only [Act.put, Array.getD_eq_getD_getElem?]
        rw [Array.getElem?_setIfInBounds_ne this]
    · rw [if_neg c]
theorem putIf_at {l : Nat → Bool} {v : Nat → Value} {j : Nat} {N : Tmp} (hl : l j = true) : ∀ (r : List (Option Tmp)) (i : Nat) (a : Act), i ≤ j → apartD r = true → r.getD (j - i) none = some N → N < a.tmps.size → (putIf l v r i a).tmps.getD N undef = v j
  | [], _, _, _, _, h, _ => by simp at h
  | d :: r, i, a, hij, hd, h, hs => by
    rw [apartD, Bool.and_eq_true] at hd
    rw [putIf]
    by_cases e : i = j
    · subst e
      rw [Nat.sub_self, List.getD_cons_zero] at h
      subst h
      rw [if_pos hl, putIf_other r (i + 1) _ hd.1]
      simp only [Act.put, Array.getD_eq_getD_getElem?]
      rw [Array.getElem?_setIfInBounds_self_of_lt hs]
      rfl
    · rw [show j - i = (j - (i + 1)) + 1 by omega, List.getD_cons_succ] at h
      refine putIf_at hl r (i + 1) _ (by omega) hd.2 h ?_
      by_cases c : l i = true
      · rw [if_pos c, put_size]; exact hs
      · rw [if_neg c]; exact hs

section
variable {P : Program} {ops : Array Oper} {Q : Exit → Act → World → Prop}
/-- one operation, whatever else has come up -/
def StepOK (P : Program) (ops : Array Oper) (Q : Exit → Act → World → Prop) (J : (Nat → Bool) → (Nat → Value) → World → Prop) (N : List (List Nat)) (D : List (Option Tmp)) (m : Nat) (a : Act) (o : Oper) (i : Nat) : Prop :=
  ∀ (l : Nat → Bool) (v : Nat → Value) (W : World) (b : Act), b = putIf l v D 0 a → a.tmps.size = m → J l v W → l i = false → (∀ j, j ∈ N.getD i [] → l j = true) → (∀ j m, m ∈ N.getD j [] → l m = false → l j = false) →
    ∀ K : Act → World → Prop, Shut (∀ x W', J (upd l i) (updv v i x) W' → K (b.put (D.getD i none) x) W') →
      if Region.wanted o (yielded ops b.tmps) = true then Oper.wp P o b W K Q else K (b.put o.dst undef) W
def StepsOK (P : Program) (ops : Array Oper) (Q : Exit → Act → World → Prop) (J : (Nat → Bool) → (Nat → Value) → World → Prop) (N : List (List Nat)) (D : List (Option Tmp)) (m : Nat) (a : Act) : List Oper → Nat → Prop
  | [], _ => True
  | o :: r, i => StepOK P ops Q J N D m a o i ∧ StepsOK P ops Q J N D m a r (i + 1)
theorem StepsOK.get {J : (Nat → Bool) → (Nat → Value) → World → Prop} {N : List (List Nat)} {D : List (Option Tmp)} {m : Nat} {a : Act} : ∀ (r : List Oper) (i j : Nat) (o : Oper), StepsOK P ops Q J N D m a r i → r[j]? = some o → StepOK P ops Q J N D m a o (i + j)
  | [], _, _, _, _, h => by simp at h
  | o' :: r, i, 0, o, hs, h => by
    simp only [List.getElem?_cons_zero, Option.some.injEq] at h
    subst h
    exact hs.1
  | o' :: r, i, j + 1, o, hs, h => by
    simp only [List.getElem?_cons_succ] at h
    have := StepsOK.get r (i + 1) j o hs.2 h
    rwa [show i + 1 + j = i + (j + 1) by omega] at this

theorem rtab_fst {md : Region.Mode} {i : Nat} {o : Oper} (ho : ops[i]? = some o) : ((rtab md ops).2.map Prod.fst).getD i [] = needsOf md o := by
  have hi : i < ops.size := (Array.getElem?_eq_some_iff.1 ho).1
  unfold rtab
  simp only [List.map_map, List.getD_eq_getElem?_getD, List.getElem?_map, List.getElem?_range hi, Option.map_some, Option.getD_some, Function.comp_apply, ho]
theorem lowB_spec : ∀ (N : List (List Nat)) (i j : Nat), lowB N i = true → ∀ m, m ∈ N.getD j [] → m < i + j
  | [], _, _, _, m, h => by simp at h
  | n :: r, i, 0, hb, m, h => by
    rw [lowB, Bool.and_eq_true] at hb
    rw [List.getD_cons_zero] at h
    have := List.all_eq_true.1 hb.1 m h
    simpa using this
  | n :: r, i, j + 1, hb, m, h => by
    rw [lowB, Bool.and_eq_true] at hb
    rw [List.getD_cons_succ] at h
    have := lowB_spec r (i + 1) j hb.2 m h
    omega

theorem masks_ {J : (Nat → Bool) → (Nat → Value) → World → Prop} {N : List (List Nat)} {D : List (Option Tmp)} {m : Nat} {a : Act} (hsa : a.tmps.size = m) (hN : (rtab .any ops).2.map Prod.fst = N) (_hD : ops.toList.map Oper.dst = D) (hap : apartD D = true) (hlow : lowB N 0 = true)
    (hs : StepsOK P ops Q J N D m a ops.toList 0) (hend : ∀ v W, J (fun _ => true) v W → Q .normal (putIf (fun _ => true) v D 0 a) W) :
    ∀ (fuel : Nat) (L : Array Bool) (v : Nat → Value) (W : World), L.size = ops.size → (L.toList.filter (· == false)).length ≤ fuel →
      (∀ j m, m ∈ N.getD j [] → L.getD m true = false → L.getD j true = false) → J (fun k => L.getD k true) v W → wpAny P .any ops Q fuel L (putIf (fun k => L.getD k true) v D 0 a) W := by
  have hnd : ∀ i o, ops[i]? = some o → N.getD i [] = needsOf .any o := fun i o ho => by rw [← hN]; exact rtab_fst ho
  have hready : ∀ (L : Array Bool) i, i ∈ Region.ready .any ops L ↔ L.getD i true = false ∧ ∃ o, ops[i]? = some o ∧ ∀ j, j ∈ N.getD i [] → L.getD j false = true := by
    intro L i
    rw [mem_ready]
    constructor
    · rintro ⟨h1, o, ho, h2⟩
      refine ⟨h1, o, ho, fun j hj => ?_⟩
      rw [hnd i o ho] at hj
      unfold needsOf at hj
      obtain ⟨e, he, rfl⟩ := List.mem_map.1 hj
      rw [List.mem_filter] at he
      exact h2 e (by simpa using he.1) he.2
    · rintro ⟨h1, o, ho, h2⟩
      refine ⟨h1, o, ho, fun e he hb => h2 e.on ?_⟩
      rw [hnd i o ho]
      unfold needsOf
      exact List.mem_map.2 ⟨e, List.mem_filter.2 ⟨by simpa using he, hb⟩, rfl⟩
  have hall : ∀ (L : Array Bool), L.size = ops.size → Region.ready .any ops L = [] → ∀ k, L.getD k true = true := by
    intro L hsz hr k
    by_cases hk : L.getD k true = true
    · exact hk
    · exfalso
      have hk' : L.getD k true = false := by simpa using hk
      have : ∀ n k, k ≤ n → L.getD k true = false → False := by
        intro n
        induction n with
        | zero =>
          intro k hkn hf
          obtain rfl : k = 0 := by omega
          have hlt : 0 < ops.size := by
            rw [← hsz]
            rcases Nat.lt_or_ge 0 L.size with q | q
            · exact q
            · rw [Array.getD_eq_getD_getElem?, Array.getElem?_eq_none (by omega)] at hf; cases hf
          have hm : 0 ∈ Region.ready .any ops L := (hready L 0).2 ⟨hf, ops[0], Array.getElem?_eq_getElem hlt, fun j hj => by have := lowB_spec N 0 0 hlow j hj; omega⟩
          rw [hr] at hm; cases hm
        | succ n ih =>
          intro k hkn hf
          have hlt : k < ops.size := by
            rw [← hsz]
            rcases Nat.lt_or_ge k L.size with q | q
            · exact q
            · rw [Array.getD_eq_getD_getElem?, Array.getElem?_eq_none (by omega)] at hf; cases hf
          have hm : k ∈ Region.ready .any ops L := (hready L k).2 ⟨hf, ops[k], Array.getElem?_eq_getElem hlt, fun j hj => by
            have hjk := lowB_spec N 0 k hlow j hj
            cases hjf : L.getD j true with
            | false => exact (ih j (by omega) hjf).elim
            | true =>
              have hjl : j < L.size := by omega
              rw [Array.getD_eq_getD_getElem?, Array.getElem?_eq_getElem hjl] at hjf ⊢
              exact hjf⟩
          rw [hr] at hm; cases hm
      exact this k k (Nat.le_refl _) hk'
  have hfin : ∀ (L : Array Bool) (v : Nat → Value) (W : World), L.size = ops.size → Region.ready .any ops L = [] → J (fun k => L.getD k true) v W → Q .normal (putIf (fun k => L.getD k true) v D 0 a) W := by
    intro L v W hsz hr hJ
    have e : (fun k => L.getD k true) = fun _ => true := funext (fun k => hall L hsz hr k)
    rw [e] at hJ ⊢
    exact hend v W hJ
  intro fuel
  induction fuel with
  | zero =>
    intro L v W hsz hf hc hJ
    have hr : Region.ready .any ops L = [] := by
      apply List.eq_nil_iff_forall_not_mem.2
      intro i hi
      have h1 := ((hready L i).1 hi).1
      have hlt : i < L.size := by
        rcases Nat.lt_or_ge i L.size with q | q
        · exact q
        · rw [Array.getD_eq_getD_getElem?, Array.getElem?_eq_none (by omega)] at h1; cases h1
      have : false ∈ L.toList.filter (· == false) := by
        rw [List.mem_filter]
        refine ⟨?_, rfl⟩
        rw [Array.getD_eq_getD_getElem?, Array.getElem?_eq_getElem hlt] at h1
        have h2 : L[i] = false := h1
        rw [← h2]
        exact Array.getElem_mem_toList hlt
      have := List.length_pos_of_mem this
      omega
    exact ⟨hr, hfin L v W hsz hr hJ⟩
  | succ fuel ih =>
    intro L v W hsz hf hc hJ
    refine ⟨fun hr => hfin L v W hsz hr hJ, fun i hi => ?_⟩
    obtain ⟨h1, o, ho, h2⟩ := (hready L i).1 hi
    have hlt : i < L.size := by
      rcases Nat.lt_or_ge i L.size with q | q
      · exact q
      · rw [Array.getD_eq_getD_getElem?, Array.getElem?_eq_none (by omega)] at h1; cases h1
    have hst := StepsOK.get (P := P) (ops := ops) (Q := Q) ops.toList 0 i o hs (by rw [Array.getElem?_toList]; exact ho)
    rw [Nat.zero_add] at hst
    have hup : (fun k => (L.setIfInBounds i true).getD k true) = upd (fun k => L.getD k true) i := by
      funext k
      unfold upd
      by_cases q : k = i
      · subst q
        rw [if_pos rfl, Array.getD_eq_getD_getElem?, Array.getElem?_setIfInBounds_self_of_lt hlt]; rfl
      · rw [if_neg q, Array.getD_eq_getD_getElem?, Array.getElem?_setIfInBounds_ne (Ne.symm q), ← Array.getD_eq_getD_getElem?]
    refine wpOp_step ho (fun K' hK' => hst (fun k => L.getD k true) v W _ rfl hsa hJ h1 (fun j hj => ?_) hc K' (show Shut _ from fun x W' hJ' => hK' _ _ ?_))
    · have := h2 j hj
      rcases Nat.lt_or_ge j L.size with q | q
      · rw [Array.getD_eq_getD_getElem?, Array.getElem?_eq_getElem q] at this ⊢
        exact this
      · rw [Array.getD_eq_getD_getElem?, Array.getElem?_eq_none (by omega)] at this; cases this
    · have hput := putIf_upd (l := fun k => L.getD k true) (v := v) (x := x) h1 D 0 a (Nat.zero_le _) hap
      rw [Nat.sub_zero] at hput
      rw [← hput, ← hup]
      refine ih (L.setIfInBounds i true) (updv v i x) W' (by rw [Array.size_setIfInBounds]; exact hsz) ?_ (fun j m hm hf' => ?_) (by rw [hup]; exact hJ')
      · have hLi : L[i] = false := by
          rw [Array.getD_eq_getD_getElem?, Array.getElem?_eq_getElem hlt] at h1
          exact h1
        have hcnt : (L.toList.filter (· == false)).length = ((L.setIfInBounds i true).toList.filter (· == false)).length + 1 := by
          rw [Array.toList_setIfInBounds]
          have hl' : i < L.toList.length := by simpa using hlt
          have hsplit : L.toList = L.toList.take i ++ false :: L.toList.drop (i + 1) := by
            have h3 : L.toList[i] = false := by rw [Array.getElem_toList]; exact hLi
            rw [← h3]
            rw [← List.drop_eq_getElem_cons hl', List.take_append_drop]
          rw [List.set_eq_take_append_cons_drop, if_pos hl']
          rw [List.filter_append, List.filter_cons_of_neg (by decide), List.length_append]
          conv => lhs; rw [hsplit]
          rw [List.filter_append, List.filter_cons_of_pos (by decide), List.length_append, List.length_cons]
          omega
        omega
      · have e1 := congrFun hup m
        have e2 := congrFun hup j
        change (L.setIfInBounds i true).getD m true = _ at e1
        change (L.setIfInBounds i true).getD j true = _ at e2
        rw [e1] at hf'
        rw [e2]
        unfold upd at hf' ⊢
        by_cases q : m = i
        · rw [if_pos q] at hf'; cases hf'
        · rw [if_neg q] at hf'
          change L.getD m true = false at hf'
          have h3 := hc j m hm hf'
          by_cases q2 : j = i
          · subst q2
            have h4 := h2 m hm
            rcases Nat.lt_or_ge m L.size with q3 | q3
            · rw [Array.getD_eq_getD_getElem?, Array.getElem?_eq_getElem q3] at h4 hf'
              rw [Option.getD_some] at h4 hf'
              rw [h4] at hf'; cases hf'
            · rw [Array.getD_eq_getD_getElem?, Array.getElem?_eq_none (by omega)] at h4; cases h4
          · rw [if_neg q2]; exact h3

theorem mask_ {id n : Nat} {a : Act} {w : World} (J : (Nat → Bool) → (Nat → Value) → World → Prop) (N : List (List Nat)) (D : List (Option Tmp)) (m : Nat) (hm : P.follows .mixedOrders = true) (hN : (rtab .any ops).2.map Prod.fst = N) (hD : ops.toList.map Oper.dst = D)
    (hb : (apartD D && lowB N 0 && N.length == n) = true) (hsa : a.tmps.size = m) (h0 : J (fun k => decide (n ≤ k)) (fun _ => undef) w.drew)
    (hs : StepsOK P ops Q J N D m a ops.toList 0) (hend : ∀ v W, J (fun _ => true) v W → Q .normal (putIf (fun _ => true) v D 0 a) W) : (Code.region id ops true).wp P Q a w := by
  simp only [Bool.and_eq_true, beq_iff_eq] at hb
  obtain ⟨⟨hap, hlow⟩, hn⟩ := hb
  have hsz : ops.size = n := by
    rw [← hn, ← hN]
    simp [rtab]
  refine wp_region_any hm ?_
  have e : (fun k => (Array.replicate ops.size false).getD k true) = fun k => decide (n ≤ k) := by
    funext k
    rw [Array.getD_eq_getD_getElem?, hsz]
    by_cases q : k < n
    · rw [Array.getElem?_replicate, if_pos q, decide_eq_false (by omega)]; rfl
    · rw [Array.getElem?_eq_none (by simp; omega), decide_eq_true (by omega)]; rfl
  have ha : putIf (fun k => (Array.replicate ops.size false).getD k true) (fun _ => undef) D 0 a = a := by
    rw [e]
    have : ∀ (r : List (Option Tmp)) (i : Nat) (a : Act), i + r.length ≤ n → putIf (fun k => decide (n ≤ k)) (fun _ => undef) r i a = a := by
      intro r
      induction r with
      | nil => intro i a _; rfl
      | cons d r ih =>
        intro i a hi
        rw [List.length_cons] at hi
        rw [putIf, if_neg (by simp; omega)]
        exact ih (i + 1) a (by omega)
    refine this D 0 a ?_
    rw [← hD, List.length_map, Array.length_toList, hsz]
    omega
  have := masks_ (Q := Q) (J := J) (a := a) hsa hN hD hap hlow hs hend ops.size (Array.replicate ops.size false) (fun _ => undef) w.drew (by simp) (by
    refine Nat.le_trans (List.length_filter_le _ _) ?_
    rw [Array.length_toList, Array.size_replicate]
    exact Nat.le_refl _) (fun j m hm' hf => ?_) (by rw [e]; exact h0)
  · rw [ha] at this
    exact this
  · have e1 := congrFun e j
    change (Array.replicate ops.size false).getD j true = _ at e1
    have e2 := congrFun e m
    change (Array.replicate ops.size false).getD m true = _ at e2
    rw [e2] at hf
    rw [e1]
    have h2 : m < n := by simpa using hf
    by_cases q : j < n
    · exact decide_eq_false (by omega)
    · exfalso
      have : N.getD j [] = [] := by rw [List.getD_eq_getElem?_getD, List.getElem?_eq_none (by omega)]; rfl
      rw [this] at hm'; cases hm'

/-- an operation that yields a value and leaves the world -/
theorem yields_ {o : Oper} {N : Option Tmp} {x : Value} {b : Act} {W : World} {K : Act → World → Prop} (hw : Region.wanted o (yielded ops b.tmps) = true) (hN : o.dst = N) (hrun : (execOp b.eval o).run P W = .ok (.value x) W) (h : K (b.put N x) W) :
    if Region.wanted o (yielded ops b.tmps) = true then Oper.wp P o b W K Q else K (b.put o.dst undef) W := by
  rw [if_pos hw]
  subst hN
  unfold Oper.wp
  rw [hrun]
  exact h
end
end Go.Proofs.Ytfajfjgkkgigoaa.Kit
