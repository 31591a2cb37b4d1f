/- Rows of rows over the bundle: a row is handed into a literal, a literal's row into a row of rows. -/
import Derived.Test.YtfajfjgkkgigoaaKitHp
import Derived.Test.YtfajfjgkkgigoaaWApart
import Derived.Test.YtfajfjgkkgigoaaWRepsOne
namespace Go.Proofs.Ytfajfjgkkgigoaa.Kit
open Go.RowKit Go.Proofs.YtfajfjgkkgigoaaW.PrintWords Go.Proofs.YtfajfjgkkgigoaaW.PrintLast Go.Proofs.YtfajfjgkkgigoaaW.PrintMore

/-- two of them at once: what is done to both alone goes back as the first (or as both) -/
theorem Hp.open2 {base : Nat} {w0 W : World} {L : List Fact} (h : Hp base w0 W L) (i j : Nat) (hij : i ≠ j) {F G : Fact} (hi : L[i]? = some F) (hj : L[j]? = some G) :
    ∃ oki okj : Nat → Prop, F.P W oki ∧ G.P W okj ∧ (∀ k, oki k → ¬ okj k) ∧ (∀ k, oki k ∨ okj k → k < W.heap.size) ∧
      (∀ (W' : World) (F' G' : Fact), Below base w0 W' → W.heap.size ≤ W'.heap.size → (∀ k, k < W.heap.size → ¬ oki k → ¬ okj k → W'.heap[k]? = W.heap[k]?) → F'.P W' (fun k => oki k ∨ okj k ∨ W.heap.size ≤ k) → (∀ ok, G'.P W' ok) → Hp base w0 W' ((L.set i F').set j G')) := by
  obtain ⟨h1, h2, c, h3⟩ := h
  have li : i < L.length := (List.getElem?_eq_some_iff.1 hi).1
  have lj : j < L.length := (List.getElem?_eq_some_iff.1 hj).1
  refine ⟨fun k => c k = i ∧ k < W.heap.size, fun k => c k = j ∧ k < W.heap.size, F.loc (fun k hk hlt => ⟨rfl, hk, hlt⟩) (h3 i F hi), G.loc (fun k hk hlt => ⟨rfl, hk, hlt⟩) (h3 j G hj), fun k a b => hij (a.1.symm.trans b.1), fun k a => a.elim (·.2) (·.2), fun W' F' G' hB hs hne hF hG => ⟨Nat.le_trans h1 hs, hB, fun k => if W.heap.size ≤ k then i else if c k = j then i else c k, fun m H hH => ?_⟩⟩
  by_cases mj : j = m
  · subst mj
    rw [List.getElem?_set_self (by rw [List.length_set]; exact lj)] at hH
    obtain rfl := Option.some.inj hH
    exact hG _
  · rw [List.getElem?_set_ne mj] at hH
    by_cases mi : i = m
    · subst mi
      rw [List.getElem?_set_self li] at hH
      obtain rfl := Option.some.inj hH
      refine F'.loc (fun k hk _ => ⟨rfl, ?_⟩) hF
      show (if W.heap.size ≤ k then i else if c k = j then i else c k) = i
      by_cases q : W.heap.size ≤ k
      · rw [if_pos q]
      · rw [if_neg q]
        rcases hk with hk | hk | hk
        · by_cases q2 : c k = j
          · rw [if_pos q2]
          · rw [if_neg q2]; exact hk.1
        · rw [if_pos hk.1]
        · exact absurd hk q
    · rw [List.getElem?_set_ne mi] at hH
      refine H.loc (fun k hk hlt => ⟨hne k hlt (fun q => mi (q.1.symm.trans hk)) (fun q => mj (q.1.symm.trans hk)), ?_⟩) (h3 m H hH)
      show (if W.heap.size ≤ k then i else if c k = j then i else c k) = m
      rw [if_neg (by omega), if_neg (fun q => mj (q.symm.trans hk))]
      exact hk

/-- something of itself, of blocks that it has itself -/
theorem fT_all (W : World) (ok : Nat → Prop) : fT.P W ok := trivial

section
variable {P : Program} {ops : Array Oper} {rest : List Oper} {o : Oper} {a : Act} {Q : Exit → Act → World → Prop} {Kc : Act → World → Prop} {α β : Type} {base : Nat} {w0 W : World} {L : List Fact}
/-- a literal of one element, which the bundle has at place i: it is handed in -/
theorem ev_litM (S : Aside0 (Hp base w0 W L)) (i : Nat) {F : Fact} (hi : L[i]? = some F) (d : Kd α) (e : Nat) (hd1 : d.sz = 1) (hgd : o.guard = none) {N : Tmp} (hd : o.dst = some N) {p : α} {u : Value}
    (hM : ∀ ok, F.P W ok → d.M W base ok p [u])
    (hrun : (execOp a.eval o).run P W = .ok (.value (.slice (some ⟨W.heap.size, 0, none⟩) 1 1)) (W.alloc (.cells #[u] e)))
    (h : ∀ v1 w1, Aside0 (Hp base w0 w1 (L.set i (fR d e base v1 [p]))) → wpList P ops Q rest (a.put (some N) v1) w1) : wpList P ops Q (o :: rest) a W := by
  obtain ⟨ok, HO, hf, hcl⟩ := S.out.open_ i hi
  refine Kd.R_lit d (w0 := w0) base e hgd hd (xs := [p]) (inner := [u]) (ok := ok) (okp := ok) hrun ?_ (fun _ q => q) (hf _ (Nat.le_refl _)) S.out.below S.out.size (by simp) (fun v1 w1 h1 h2 h3 _ => ?_)
  · rw [hd1]; exact Reps.one (hM ok HO) (Reps.none _ _)
  · rw [hd]
    exact h v1 w1 ⟨hcl w1 _ h2 h3.size (fun k hk _ => h3.block k hk (by simp)) h1⟩
theorem st_litM (S : Hp base w0 W L) (i : Nat) {F : Fact} (hi : L[i]? = some F) (d : Kd α) (e : Nat) (hd1 : d.sz = 1) (hw : Region.wanted o (yielded ops a.tmps) = true) {N : Tmp} (hd : o.dst = some N) {p : α} {u : Value}
    (hM : ∀ ok, F.P W ok → d.M W base ok p [u])
    (hrun : (execOp a.eval o).run P W = .ok (.value (.slice (some ⟨W.heap.size, 0, none⟩) 1 1)) (W.alloc (.cells #[u] e)))
    (h : ∀ v1 w1, Hp base w0 w1 (L.set i (fR d e base v1 [p])) → Kc (a.put (some N) v1) w1) : if Region.wanted o (yielded ops a.tmps) = true then Oper.wp P o a W Kc Q else Kc (a.put o.dst undef) W := by
  obtain ⟨ok, HO, hf, hcl⟩ := S.open_ i hi
  refine Kd.R_lit_step d (w0 := w0) base e hw hd (xs := [p]) (inner := [u]) (ok := ok) (okp := ok) hrun ?_ (fun _ q => q) (hf _ (Nat.le_refl _)) S.below S.size (by simp) (fun v1 w1 h1 h2 h3 _ => ?_)
  · rw [hd1]; exact Reps.one (hM ok HO) (Reps.none _ _)
  · rw [hd]
    exact h v1 w1 (hcl w1 _ h2 h3.size (fun k hk _ => h3.block k hk (by simp)) h1)
/-- an append of a literal's elements (place j) to a row (place i), whose elements may hold rows -/
theorem ev_appM (S : Aside0 (Hp base w0 W L)) (i j : Nat) (hij : i ≠ j) {d : Kd α} {v u : Value} {xs ys : List α} {e : TypeId} (hi : L[i]? = some (fR d e base v xs)) (hj : L[j]? = some (fR d e base u ys)) (hgd : o.guard = none) (s x : Operand) (t : TypeId) (z : Value) (bytes : Nat)
    (ho : o.op = .call { callee := .builtin .append, args := #[s, x], argTypes := #[t, t] })
    (ht : P.underlying t = some (.slice e)) (hinfo : (P.info? e).map (fun i => (i.zero, i.size, i.bytes)) = some (some z, d.sz, bytes)) (hz : z.cells.size = d.sz) (hs0 : 0 < d.sz) (hb0 : 0 < bytes)
    (hs : a.eval s = v) (hx : a.eval x = u) (hl : (xs.length + ys.length) * bytes ≤ 140737488355328)
    (h : ∀ v1 w1, Aside0 (Hp base w0 w1 ((L.set i (fR d e base v1 (xs ++ ys))).set j fT)) → wpList P ops Q rest (a.put o.dst v1) w1) : wpList P ops Q (o :: rest) a W := by
  obtain ⟨oki, okj, HI, HJ, hne, hlt, hcl⟩ := S.out.open2 i j hij hi hj
  obtain ⟨A, c, rfl, _, hr⟩ := OwnRow.reads HJ.2
  refine Kd.R_append_rows d (w0 := w0) base hgd s x t e z bytes ho ht hinfo hz hs0 hb0 v xs ys A ys.length c (fun k => oki k ∨ okj k ∨ W.heap.size ≤ k) okj hs hx (Kd.R_mono HI (fun k q => .inl q)) hr (fun x cs hm => d.M_mono (fun k q => q.1) hm) (fun k q => ⟨.inr (.inl q), fun e2 => hne k (HI.1 k e2.symm) q⟩) (fun k q => .inr (.inr q)) S.out.below S.out.size hl (fun v1 w1 hn hb hg _ => h v1 w1 ⟨hcl w1 _ fT hb hg.size (fun k hk q1 q2 => hg.block k hk (fun e2 => q1 (HI.1 k e2.symm))) hn (fT_all _)⟩)
theorem st_appM (S : Hp base w0 W L) (i j : Nat) (hij : i ≠ j) {d : Kd α} {v u : Value} {xs ys : List α} {e : TypeId} (hi : L[i]? = some (fR d e base v xs)) (hj : L[j]? = some (fR d e base u ys)) (hw : Region.wanted o (yielded ops a.tmps) = true) (s x : Operand) (t : TypeId) (z : Value) (bytes : Nat)
    (ho : o.op = .call { callee := .builtin .append, args := #[s, x], argTypes := #[t, t] })
    (ht : P.underlying t = some (.slice e)) (hinfo : (P.info? e).map (fun i => (i.zero, i.size, i.bytes)) = some (some z, d.sz, bytes)) (hz : z.cells.size = d.sz) (hs0 : 0 < d.sz) (hb0 : 0 < bytes)
    (hs : a.eval s = v) (hx : a.eval x = u) (hl : (xs.length + ys.length) * bytes ≤ 140737488355328)
    (h : ∀ v1 w1, Hp base w0 w1 ((L.set i (fR d e base v1 (xs ++ ys))).set j fT) → Kc (a.put o.dst v1) w1) : if Region.wanted o (yielded ops a.tmps) = true then Oper.wp P o a W Kc Q else Kc (a.put o.dst undef) W := by
  obtain ⟨oki, okj, HI, HJ, hne, hlt, hcl⟩ := S.open2 i j hij hi hj
  obtain ⟨A, c, rfl, _, hr⟩ := OwnRow.reads HJ.2
  exact Kd.R_append_rows_step d (w0 := w0) base hw s x t e z bytes ho ht hinfo hz hs0 hb0 v xs ys A ys.length c (fun k => oki k ∨ okj k ∨ W.heap.size ≤ k) okj hs hx (Kd.R_mono HI (fun k q => .inl q)) hr (fun x cs hm => d.M_mono (fun k q => q.1) hm) (fun k q => ⟨.inr (.inl q), fun e2 => hne k (HI.1 k e2.symm) q⟩) (fun k q => .inr (.inr q)) S.below S.size hl (fun v1 w1 hn hb hg _ => h v1 w1 (hcl w1 _ fT hb hg.size (fun k hk q1 q2 => hg.block k hk (fun e2 => q1 (HI.1 k e2.symm))) hn (fT_all _)))
/-- the elements of a literal with one, as those of a tagged row -/
theorem tag_one {d : Kd α} {e : Nat} {okj : Nat → Prop} {u : Value} {p : α} {f : Nat → Nat} {m : Nat} (hf : ∀ k, okj k → f k = m) (HJ : d.R e W base okj u [p]) : (Kd.tag f d).R e W base okj u [(p, m)] := by
  obtain ⟨h0, inner, ho, hr⟩ := HJ
  refine ⟨h0, inner, ho, hr.1, fun j q hq => ?_⟩
  cases j with
  | zero =>
    simp only [List.getElem?_cons_zero, Option.some.injEq] at hq
    subst hq
    exact d.M_mono (fun k hk => ⟨hk, hf k hk.1⟩) (hr.2 0 p rfl)
  | succ j => simp at hq
/-- the same for a row of rows that are apart: one element is added -/
theorem ev_appS (S : Aside0 (Hp base w0 W L)) (i j : Nat) (hij : i ≠ j) {d : Kd α} {v u : Value} {xs : List α} {p : α} {e : TypeId} (hi : L[i]? = some (fS d e base v xs)) (hj : L[j]? = some (fR d e base u [p])) (hgd : o.guard = none) (s x : Operand) (t : TypeId) (z : Value) (bytes : Nat)
    (ho : o.op = .call { callee := .builtin .append, args := #[s, x], argTypes := #[t, t] })
    (ht : P.underlying t = some (.slice e)) (hinfo : (P.info? e).map (fun i => (i.zero, i.size, i.bytes)) = some (some z, d.sz, bytes)) (hz : z.cells.size = d.sz) (hs0 : 0 < d.sz) (hb0 : 0 < bytes)
    (hs : a.eval s = v) (hx : a.eval x = u) (hl : (xs.length + 1) * bytes ≤ 140737488355328)
    (h : ∀ v1 w1, Aside0 (Hp base w0 w1 ((L.set i (fS d e base v1 (xs ++ [p]))).set j fT)) → wpList P ops Q rest (a.put o.dst v1) w1) : wpList P ops Q (o :: rest) a W := by
  obtain ⟨oki, okj, HI, HJ, hne, hlt, hcl⟩ := S.out.open2 i j hij hi hj
  obtain ⟨f, hf, hR⟩ := Kd.S_tag HI xs.length okj (fun k q q2 => hne k q2 q)
  obtain ⟨A, c, rfl, _, hr⟩ := OwnRow.reads (tag_one hf HJ).2
  refine Kd.R_append_rows (Kd.tag f d) (w0 := w0) base hgd s x t e z bytes ho ht hinfo hz hs0 hb0 v xs.zipIdx [(p, xs.length)] A 1 c (fun k => oki k ∨ okj k ∨ W.heap.size ≤ k) okj hs hx (Kd.R_mono hR (fun k q => .inl q)) hr (fun x cs hm => (Kd.tag f d).M_mono (fun k q => q.1) hm) (fun k q => ⟨.inr (.inl q), fun e2 => hne k (hR.1 k e2.symm) q⟩) (fun k q => .inr (.inr q)) S.out.below S.out.size (by rw [List.length_zipIdx]; exact hl) (fun v1 w1 hn hb hg _ => h v1 w1 ⟨hcl w1 _ fT hb hg.size (fun k hk q1 q2 => hg.block k hk (fun e2 => q1 (hR.1 k e2.symm))) ⟨f, by rw [Kd.zip_snoc]; exact hn⟩ (fT_all _)⟩)
theorem st_appS (S : Hp base w0 W L) (i j : Nat) (hij : i ≠ j) {d : Kd α} {v u : Value} {xs : List α} {p : α} {e : TypeId} (hi : L[i]? = some (fS d e base v xs)) (hj : L[j]? = some (fR d e base u [p])) (hw : Region.wanted o (yielded ops a.tmps) = true) (s x : Operand) (t : TypeId) (z : Value) (bytes : Nat)
    (ho : o.op = .call { callee := .builtin .append, args := #[s, x], argTypes := #[t, t] })
    (ht : P.underlying t = some (.slice e)) (hinfo : (P.info? e).map (fun i => (i.zero, i.size, i.bytes)) = some (some z, d.sz, bytes)) (hz : z.cells.size = d.sz) (hs0 : 0 < d.sz) (hb0 : 0 < bytes)
    (hs : a.eval s = v) (hx : a.eval x = u) (hl : (xs.length + 1) * bytes ≤ 140737488355328)
    (h : ∀ v1 w1, Hp base w0 w1 ((L.set i (fS d e base v1 (xs ++ [p]))).set j fT) → Kc (a.put o.dst v1) w1) : if Region.wanted o (yielded ops a.tmps) = true then Oper.wp P o a W Kc Q else Kc (a.put o.dst undef) W := by
  obtain ⟨oki, okj, HI, HJ, hne, hlt, hcl⟩ := S.open2 i j hij hi hj
  obtain ⟨f, hf, hR⟩ := Kd.S_tag HI xs.length okj (fun k q q2 => hne k q2 q)
  obtain ⟨A, c, rfl, _, hr⟩ := OwnRow.reads (tag_one hf HJ).2
  exact Kd.R_append_rows_step (Kd.tag f d) (w0 := w0) base hw s x t e z bytes ho ht hinfo hz hs0 hb0 v xs.zipIdx [(p, xs.length)] A 1 c (fun k => oki k ∨ okj k ∨ W.heap.size ≤ k) okj hs hx (Kd.R_mono hR (fun k q => .inl q)) hr (fun x cs hm => (Kd.tag f d).M_mono (fun k q => q.1) hm) (fun k q => ⟨.inr (.inl q), fun e2 => hne k (hR.1 k e2.symm) q⟩) (fun k q => .inr (.inr q)) S.below S.size (by rw [List.length_zipIdx]; exact hl) (fun v1 w1 hn hb hg _ => h v1 w1 (hcl w1 _ fT hb hg.size (fun k hk q1 q2 => hg.block k hk (fun e2 => q1 (hR.1 k e2.symm))) ⟨f, by rw [Kd.zip_snoc]; exact hn⟩ (fT_all _)))
end
/-- a row of the call's own whose elements are rows that came in (told at the world w0 of the call's start) -/
def viewP (w0 : World) {β : Type} (d : Kd β) (u : Value) (s : List β) : Prop := ∃ A c, u = .slice A s.length c ∧ s.length ≤ c ∧ d.C w0 A s.length s
def fW {β : Type} (d : Kd β) (e base : Nat) (w0 : World) (v : Value) (xs : List (List β)) : Fact where
  P := fun W ok => ∃ vals : List (List Value), (Kd.raw 1).R e W base ok v vals ∧ vals.length = xs.length ∧ ∀ (j : Nat) (u : List Value) (s : List β), vals[j]? = some u → xs[j]? = some s → ∃ x, u = [x] ∧ viewP w0 d x s
  loc := by
    rintro W W' ok ok' h ⟨vals, h1, h2⟩
    exact ⟨vals, (fR (Kd.raw 1) e base v vals).loc h h1, h2⟩
theorem Hp.noneW {base : Nat} {w0 W : World} {L : List Fact} (h : Hp base w0 W L) {β : Type} (d : Kd β) (e : Nat) (w1 : World) : Hp base w0 W (fW d e base w1 (.slice none 0 0) [] :: L) :=
  h.add (Below.refl _ _) _ ⟨[], Kd.R_nil _ _ _ _ _, rfl, fun j u s hu _ => by simp at hu⟩
theorem Hp.sliceW {base : Nat} {w0 W : World} {L : List Fact} (h : Hp base w0 W L) (i : Nat) {β : Type} {d : Kd β} {e : Nat} {w1 : World} {v : Value} {xs : List (List β)} (hi : L[i]? = some (fW d e base w1 v xs)) : ∃ A c, v = .slice A xs.length c := by
  obtain ⟨ok, vals, h1, h2, _⟩ := h.get i hi
  rw [← h2]
  exact Kd.R_slice h1
/-- it reads as a row of rows, as long as what was there is there -/
theorem Hp.rowW {w0 W : World} {L : List Fact} (h : Hp w0.heap.size w0 W L) (i : Nat) {β : Type} {d : Kd β} {e e0 : Nat} {A : Option Addr} {n c : Nat} {xs : List (List β)} (hi : L[i]? = some (fW d e w0.heap.size w0 (.slice A n c) xs)) : n = xs.length ∧ xs.length ≤ c ∧ (Kd.slice e0 d).C W A xs.length xs := by
  obtain ⟨ok, vals, h1, h2, h3⟩ := h.get i hi
  obtain ⟨A', c', he, hl, hr⟩ := Kd.R_reads h1
  injection he with e1 e2 e3
  subst e1; subst e2; subst e3
  rw [h2] at hl hr
  refine ⟨h2, hl, rfl, hr.2.1, fun hp => ?_⟩
  obtain ⟨ad, ha, hq⟩ := hr.2.2 hp
  refine ⟨ad, ha, fun j p hj => ?_⟩
  have hlt : j < vals.length := by rw [h2]; exact (List.getElem?_eq_some_iff.1 hj).1
  obtain ⟨x, hx, A2, c2, rfl, hl2, hr2⟩ := h3 j _ p (List.getElem?_eq_getElem hlt) hj
  obtain ⟨cs, hc1, ⟨hc2, _⟩, hc3⟩ := hq j _ (List.getElem?_eq_getElem hlt)
  rw [hx] at hc2
  subst hc2
  exact ⟨_, rfl, ⟨A2, c2, rfl, hl2, Kd.C_below hr2 h.below⟩, hc3⟩
section
variable {P : Program} {ops : Array Oper} {rest : List Oper} {o : Oper} {a : Act} {Q : Exit → Act → World → Prop} {base : Nat} {w0 W : World} {L : List Fact}
theorem ev_appW (S : Aside0 (Hp base w0 W L)) (i j : Nat) (hij : i ≠ j) {β : Type} {d : Kd β} {w1 : World} {v u x0 : Value} {xs : List (List β)} {s0 : List β} {e : TypeId} (hi : L[i]? = some (fW d e base w1 v xs)) (hj : L[j]? = some (fR (Kd.raw 1) e base u [[x0]])) (hv : viewP w1 d x0 s0) (hgd : o.guard = none) (s x : Operand) (t : TypeId) (z : Value) (bytes : Nat)
    (ho : o.op = .call { callee := .builtin .append, args := #[s, x], argTypes := #[t, t] })
    (ht : P.underlying t = some (.slice e)) (hinfo : (P.info? e).map (fun i => (i.zero, i.size, i.bytes)) = some (some z, 1, bytes)) (hz : z.cells.size = 1) (hb0 : 0 < bytes)
    (hs : a.eval s = v) (hx : a.eval x = u) (hl : (xs.length + 1) * bytes ≤ 140737488355328)
    (h : ∀ v1 w2, Aside0 (Hp base w0 w2 ((L.set i (fW d e base w1 v1 (xs ++ [s0]))).set j fT)) → wpList P ops Q rest (a.put o.dst v1) w2) : wpList P ops Q (o :: rest) a W := by
  obtain ⟨oki, okj, ⟨vals, HI, h2, h3⟩, HJ, hne, hlt, hcl⟩ := S.out.open2 i j hij hi hj
  obtain ⟨A, c, rfl, _, hr⟩ := OwnRow.reads HJ.2
  refine Kd.R_append_rows (Kd.raw 1) (w0 := w0) base hgd s x t e z bytes ho ht hinfo hz (by decide) hb0 v vals [[x0]] A 1 c (fun k => oki k ∨ okj k ∨ W.heap.size ≤ k) okj hs hx (Kd.R_mono HI (fun k q => .inl q)) hr (fun x cs hm => hm) (fun k q => ⟨.inr (.inl q), fun e2 => hne k (HI.1 k e2.symm) q⟩) (fun k q => .inr (.inr q)) S.out.below S.out.size (by rw [h2]; exact hl) (fun v1 w2 hn hb hg _ => h v1 w2 ⟨hcl w2 _ fT hb hg.size (fun k hk q1 q2 => hg.block k hk (fun e2 => q1 (HI.1 k e2.symm))) ⟨_, hn, by simp [h2], fun m u2 s2 hu hs2 => ?_⟩ (fT_all _)⟩)
  by_cases hm : m < vals.length
  · rw [List.getElem?_append_left hm] at hu
    rw [List.getElem?_append_left (by omega)] at hs2
    exact h3 m u2 s2 hu hs2
  · rw [List.getElem?_append_right (by omega)] at hu
    rw [List.getElem?_append_right (by omega)] at hs2
    have hlt2 := (List.getElem?_eq_some_iff.1 hu).1
    have e0 : m - vals.length = 0 := by simpa using hlt2
    have e1 : m - xs.length = 0 := by omega
    rw [e0] at hu
    rw [e1] at hs2
    simp only [List.getElem?_cons_zero, Option.some.injEq] at hu hs2
    subst hu; subst hs2
    exact ⟨x0, rfl, hv⟩
end
/-- a row as an element of a row of rows -/
theorem M_of_R {α : Type} {d : Kd α} {e base : Nat} {W : World} {v : Value} {xs : List α} : ∀ ok, (fR d e base v xs).P W ok → (Kd.slice e d).M W base ok xs [v] := fun _ h => ⟨v, rfl, h⟩
/-- an empty row of rows that are apart -/
theorem Hp.noneS {base : Nat} {w0 W : World} {L : List Fact} (h : Hp base w0 W L) {α : Type} (d : Kd α) (e : Nat) : Hp base w0 W (fS d e base (.slice none 0 0) [] :: L) :=
  h.add (Below.refl _ _) _ (Kd.S_nil _ _ _ _ _)
theorem Hp.sliceS {base : Nat} {w0 W : World} {L : List Fact} (h : Hp base w0 W L) (i : Nat) {α : Type} {d : Kd α} {e : Nat} {v : Value} {xs : List α} (hi : L[i]? = some (fS d e base v xs)) : ∃ A c, v = .slice A xs.length c := by
  obtain ⟨ok, h1⟩ := h.get i hi
  exact Kd.S_slice h1
/-- an element of a row of rows -/
theorem at_rowG {β : Type} {d : Kd β} {e : Nat} {w : World} {A : Option Addr} {n : Nat} {xs : List (List β)} (h : Kd.C (Kd.slice e d) w A n xs) (s : Nat) (hs : s < n) : ∃ ad A0 c0, A = some ad ∧ w.cell? (ad.add s) = some (.slice A0 (xs.getD s []).length c0) ∧ (xs.getD s []).length ≤ c0 ∧ d.C w A0 (xs.getD s []).length (xs.getD s []) := by
  obtain ⟨ad, cs, q, _, ⟨A0, c0, rfl, h1, h2⟩, hc⟩ := Kd.C_get h ([] : List β) (s : Int) (by omega) (by omega)
  have := hc 0 _ rfl
  rw [Int.toNat_natCast] at this h1 h2
  refine ⟨ad, A0, c0, q, ?_, h1, h2⟩
  have e2 : s * (Kd.slice e d).sz + 0 = s := by show s * 1 + 0 = s; omega
  rw [e2] at this
  exact this
section
variable {P : Program} {ops : Array Oper} {rest : List Oper} {o : Oper} {a : Act} {Q : Exit → Act → World → Prop} {α : Type} {base : Nat} {w0 W : World} {L : List Fact}
theorem ev_make (S : Aside0 (Hp base w0 W L)) (d : Kd α) (e : Nat) (hgd : o.guard = none) {N : Tmp} (hd : o.dst = some N) (t : TypeId) (x y : Operand) (ho : o.op = .makeSlice t x y) (n : Int) (hx : a.eval x = .int .i64 n) (hy : a.eval y = .int .i64 n)
    (ht : P.underlying t = some (.slice e)) (z : Value) (bytes : Nat) (hinfo : (P.info? e).map (fun i => (i.zero, i.size, i.bytes)) = some (some z, d.sz, bytes)) (hz : z.cells.size = d.sz) (hs0 : 0 < d.sz) (hb0 : 0 < bytes)
    (z0 : α) (hzero : d.M W W.heap.size (fun _ => False) z0 z.cells.toList) (h0 : 0 ≤ n) (hl : n.toNat * bytes ≤ 281474976710656)
    (h : ∀ v1 w1, Aside0 (Hp base w0 w1 (fR d e base v1 (List.replicate n.toNat z0) :: L)) → wpList P ops Q rest (a.put o.dst v1) w1) : wpList P ops Q (o :: rest) a W :=
  Kd.R_make d (w0 := W) W.heap.size e hgd hd t x y ho n hx hy ht z bytes hinfo hz hs0 hb0 z0 (ok := fun k => W.heap.size ≤ k) (okp := fun _ => False) hzero (fun _ q => q.elim) (Nat.le_refl _) h0 hl (Below.refl _ _) (Nat.le_refl _) (fun v1 w1 h1 h2 _ _ => h v1 w1 ⟨hp_lit S.out h1 h2⟩)
end
/-- two facts of the same blocks -/
def fAnd (F G : Fact) : Fact := ⟨fun W ok => F.P W ok ∧ G.P W ok, fun h hp => ⟨F.loc h hp.1, G.loc h hp.2⟩⟩
theorem add_block (ad : Addr) (s : Nat) : (ad.add s).block = ad.block := by unfold Addr.add; split <;> rfl
/-- a cell -/
def fC (ad : Addr) (s : Nat) (u : Value) : Fact where
  P := fun W ok => ok ad.block ∧ W.cell? (ad.add s) = some u
  loc := by
    rintro W W' ok ok' h ⟨h1, h2⟩
    have h3 := World.block_lt_of_cell? W _ h2
    rw [add_block] at h3
    obtain ⟨a, b⟩ := h _ h1 h3
    refine ⟨b, ?_⟩
    rw [← h2]
    unfold World.cell?
    rw [add_block]
    simp only [a]
theorem Hp.noteCell {base : Nat} {w0 W : World} {L : List Fact} (h : Hp base w0 W L) (i : Nat) {α : Type} {d : Kd α} {e n c : Nat} {ad : Addr} {xs : List α} (hi : L[i]? = some (fR d e base (.slice (some ad) n c) xs)) {s : Nat} {u : Value} (hc : W.cell? (ad.add s) = some u) :
    Hp base w0 W (L.set i (fAnd (fR d e base (.slice (some ad) n c) xs) (fC ad s u))) :=
  h.imp i hi (fun _ q => ⟨q, q.1 _ rfl, hc⟩)
theorem Hp.left {base : Nat} {w0 W : World} {L : List Fact} (h : Hp base w0 W L) (i : Nat) {F G : Fact} (hi : L[i]? = some (fAnd F G)) : Hp base w0 W (L.set i F) := h.imp i hi (fun _ q => q.1)
theorem Hp.theCell {base : Nat} {w0 W : World} {L : List Fact} (h : Hp base w0 W L) (i : Nat) {F : Fact} {ad : Addr} {s : Nat} {u : Value} (hi : L[i]? = some (fAnd F (fC ad s u))) : W.cell? (ad.add s) = some u := by
  obtain ⟨ok, _, _, q⟩ := h.get i hi
  exact q
theorem Hp.forget {base : Nat} {w0 W : World} {L : List Fact} (h : Hp base w0 W L) (i : Nat) {F : Fact} (hi : L[i]? = some F) : Hp base w0 W (L.set i fT) := h.imp i hi (fun _ _ => trivial)
/-- the first place of an element, sought one by one -/
theorem idx_hit {α : Type} [BEq α] [LawfulBEq α] {x : α} : ∀ {st : List α} {i : Nat}, st[i]? = some x → (∀ j, j < i → st[j]? ≠ some x) → x ∈ st ∧ st.idxOf x = i
  | [], i, h, _ => by simp at h
  | y :: st, 0, h, _ => by
    simp only [List.getElem?_cons_zero, Option.some.injEq] at h
    subst h
    exact ⟨List.mem_cons_self, by simp⟩
  | y :: st, i + 1, h, hn => by
    have h0 : y ≠ x := fun q => hn 0 (by omega) (by simp [q])
    obtain ⟨a, b⟩ := idx_hit (st := st) (i := i) (by simpa using h) (fun j hj q => hn (j + 1) (by omega) (by simpa using q))
    exact ⟨List.mem_cons_of_mem _ a, by rw [List.idxOf_cons, beq_eq_false_iff_ne.2 h0, cond_false, b]⟩
theorem idx_none {α : Type} {x : α} {st : List α} (hn : ∀ j, j < st.length → st[j]? ≠ some x) : x ∉ st := fun h => by
  obtain ⟨j, hj, e⟩ := List.mem_iff_getElem.1 h
  exact hn j hj (by rw [List.getElem?_eq_getElem hj, e])
/-- states, one more if it is new -/
def addS (st : List (List Bool)) (x : List Bool) : List (List Bool) := if x ∈ st then st else st ++ [x]
/-- for each block a byte of it: the least -/
def byteM (block : List Int) (count : Nat) : Nat → List Int
  | 0 => List.replicate count 0
  | g + 1 => (byteM block count g).set (block.getD (255 - g) 0).toNat ((255 - g : Nat) : Int)
theorem byteM_length (block : List Int) (count : Nat) : ∀ g, (byteM block count g).length = count
  | 0 => by simp [byteM]
  | g + 1 => by rw [byteM, List.length_set, byteM_length block count g]
/-- an element's row, whose cell is told beside the row of rows -/
theorem Hp.curRow {base : Nat} {w0 W : World} {L : List Fact} (h : Hp base w0 W L) (i : Nat) {β : Type} {d : Kd β} {e e1 n c s m cc : Nat} {A : Option Addr} {ad : Addr} {xs : List (List β)} (hi : L[i]? = some (fAnd (fR (Kd.slice e1 d) e base (.slice (some ad) n c) xs) (fC ad s (.slice A m cc)))) (hs : s < xs.length) : d.C W A (xs.getD s []).length (xs.getD s []) := by
  have h1 := h.theCell i hi
  have hl : i < L.length := (List.getElem?_eq_some_iff.1 hi).1
  have h2 := ((h.left i hi).row i (by rw [List.getElem?_set_self hl])).2.2
  obtain ⟨ad', A', c', ea, hx, _, hr⟩ := at_rowG h2 s hs
  cases ea
  rw [h1] at hx
  injection Option.some.inj hx with q1 q2 q3
  rw [q1]
  exact hr
end Go.Proofs.Ytfajfjgkkgigoaa.Kit
