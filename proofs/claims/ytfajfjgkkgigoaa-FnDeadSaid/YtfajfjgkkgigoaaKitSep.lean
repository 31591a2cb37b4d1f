/- More on what a call owns: taken in another order, put together, handed into a literal of several cells; and draws, told by what they leave. -/
import Derived.Test.YtfajfjgkkgigoaaKitRows
import Derived.Test.YtfajfjgkkgigoaaKitMask
namespace Go.Proofs.Ytfajfjgkkgigoaa.Kit
open Go.RowKit Go.Proofs.YtfajfjgkkgigoaaW.PrintWords Go.Proofs.YtfajfjgkkgigoaaW.PrintLast Go.Proofs.YtfajfjgkkgigoaaW.PrintMore

/-- other places, each taken once -/
theorem Hp.re {base : Nat} {w0 W : World} {L L' : List Fact} (h : Hp base w0 W L) (f : Nat → Nat) (hf : ∀ i j, i < L'.length → j < L'.length → f i = f j → i = j) (hL : ∀ i F, L'[i]? = some F → L[f i]? = some F) : Hp base w0 W L' := by
  obtain ⟨h1, h2, c, h3⟩ := h
  refine ⟨h1, h2, fun k => ((List.range L'.length).find? (fun i => decide (f i = c k))).getD L'.length, fun i F hi => F.loc (fun k hk _ => ⟨rfl, ?_⟩) (h3 (f i) F (hL i F hi))⟩
  have hl : i < L'.length := (List.getElem?_eq_some_iff.1 hi).1
  show ((List.range L'.length).find? (fun i => decide (f i = c k))).getD L'.length = i
  cases e : (List.range L'.length).find? (fun i => decide (f i = c k)) with
  | none =>
    have := List.find?_eq_none.1 e i (List.mem_range.2 hl)
    simp [hk] at this
  | some j =>
    have h4 := List.find?_some e
    have h5 := List.mem_range.1 (List.mem_of_find?_eq_some e)
    simp only [decide_eq_true_eq] at h4
    exact hf j i h5 hl (h4.trans hk)
/-- the front in another order, some of it let go -/
theorem Hp.pick {base : Nat} {w0 W : World} {A T : List Fact} (ix : List Nat) (h : Hp base w0 W (A ++ T)) (hn : ix.Nodup) (hlt : ∀ i ∈ ix, i < A.length) : Hp base w0 W (ix.map (fun i => A.getD i fT) ++ T) := by
  refine h.re (fun i => if i < ix.length then ix.getD i 0 else A.length + (i - ix.length)) (fun i j hi hj e => ?_) (fun i F hF => ?_)
  · have hm : ∀ q, q < ix.length → ix.getD q 0 < A.length := fun q hq => hlt _ (by rw [List.getD_eq_getElem?_getD, List.getElem?_eq_getElem hq]; exact List.getElem_mem hq)
    replace e : (if i < ix.length then ix.getD i 0 else A.length + (i - ix.length)) = (if j < ix.length then ix.getD j 0 else A.length + (j - ix.length)) := e
    by_cases ci : i < ix.length
    · by_cases cj : j < ix.length
      · rw [if_pos ci, if_pos cj, List.getD_eq_getElem?_getD, List.getElem?_eq_getElem ci, List.getD_eq_getElem?_getD, List.getElem?_eq_getElem cj] at e
        have hq := List.pairwise_iff_getElem.1 hn
        simp only [Option.getD_some] at e
        rcases Nat.lt_trichotomy i j with q | q | q
        · exact absurd e (hq i j ci cj q)
        · exact q
        · exact absurd e.symm (hq j i cj ci q)
      · have := hm i ci
        rw [if_pos ci, if_neg cj] at e; omega
    · by_cases cj : j < ix.length
      · have := hm j cj
        rw [if_neg ci, if_pos cj] at e; omega
      · rw [if_neg ci, if_neg cj] at e; omega
  · by_cases ci : i < ix.length
    · simp only [if_pos ci]
      have hm : ix.getD i 0 < A.length := hlt _ (by rw [List.getD_eq_getElem?_getD, List.getElem?_eq_getElem ci]; exact List.getElem_mem ci)
      rw [List.getElem?_append_left (by rw [List.length_map]; exact ci), List.getElem?_map, List.getElem?_eq_getElem ci] at hF
      rw [List.getElem?_append_left hm]
      simp only [Option.map_some, Option.some.injEq] at hF
      rw [← hF, List.getD_eq_getElem?_getD, List.getD_eq_getElem?_getD, List.getElem?_eq_getElem ci]
      simp only [Option.getD_some]
      rw [List.getD_eq_getElem?_getD, List.getElem?_eq_getElem ci] at hm
      simp only [Option.getD_some] at hm
      rw [List.getElem?_eq_getElem hm, Option.getD_some]
    · simp only [if_neg ci]
      rw [List.getElem?_append_right (by rw [List.length_map]; omega), List.length_map] at hF
      rw [List.getElem?_append_right (by omega), Nat.add_sub_cancel_left]
      exact hF
/-- the front is let go -/
theorem Hp.drop {base : Nat} {w0 W : World} {L : List Fact} : ∀ (M : List Fact), Hp base w0 W (M ++ L) → Hp base w0 W L
  | [], h => h
  | _ :: M, h => Hp.drop M h.tail
theorem set_back {L : List Fact} {k : Nat} {F F' : Fact} (hk : L[k]? = some F) : (L.set k F').set k F = L := by
  rw [List.set_set]
  obtain ⟨h, e⟩ := List.getElem?_eq_some_iff.1 hk
  rw [← e, List.set_getElem_self]
/-- what has been noted of one of them is let go -/
theorem Hp.back {base : Nat} {w0 W : World} {L : List Fact} {k : Nat} {F F' : Fact} (h : Hp base w0 W (L.set k F')) (hk : L[k]? = some F) (k1 : ∀ W ok, F'.P W ok → F.P W ok) : Hp base w0 W L := by
  have := h.imp k (List.getElem?_set_self (List.getElem?_eq_some_iff.1 hk).1) (G := F) (fun ok q => k1 W ok q)
  rwa [set_back hk] at this
/-- two of them as one -/
theorem Hp.merge {base : Nat} {w0 W : World} {L : List Fact} (h : Hp base w0 W L) (i j : Nat) (hij : i ≠ j) {F G : Fact} (hi : L[i]? = some F) (hj : L[j]? = some G) : Hp base w0 W ((L.set i (fAnd F G)).set j fT) := by
  obtain ⟨oki, okj, h1, h2, _, h4, h5⟩ := h.open2 i j hij hi hj
  exact h5 W (fAnd F G) fT h.2.1 (Nat.le_refl _) (fun _ _ _ _ => rfl) ⟨F.loc (fun k hk _ => ⟨rfl, .inl hk⟩) h1, G.loc (fun k hk _ => ⟨rfl, .inr (.inl hk)⟩) h2⟩ (fT_all _)
/-- one block has been written by a callee, and something new is there -/
theorem Hp.butAdd {base : Nat} {w0 W W' : World} {L : List Fact} (h : Hp base w0 W L) (i : Nat) {F : Fact} (hi : L[i]? = some F) {g : Nat} (hg : ∀ ok, F.P W ok → ok g) (hB : Below base w0 W') (hK : KeepBut W W' g none) (F' : Fact) (hF : ∀ ok, F.P W ok → F'.P W' ok) (G : Fact) (hG : G.P W' (fun k => W.heap.size ≤ k)) : Hp base w0 W' (G :: L.set i F') := by
  obtain ⟨h1, h2, c, h3⟩ := h
  have hgi := hg _ (h3 i F hi)
  refine ⟨Nat.le_trans h1 hK.1, hB, fun k => if W.heap.size ≤ k then 0 else c k + 1, fun j H hH => ?_⟩
  cases j with
  | zero =>
    simp only [List.getElem?_cons_zero, Option.some.injEq] at hH
    subst hH
    exact G.loc (fun k hk _ => ⟨rfl, if_pos hk⟩) hG
  | succ j =>
    simp only [List.getElem?_cons_succ] at hH
    by_cases hij : i = j
    · subst hij
      rw [List.getElem?_set_self (List.getElem?_eq_some_iff.1 hi).1] at hH
      obtain rfl := Option.some.inj hH
      have h4 := F.loc (W' := W) (ok' := fun k => c k = i ∧ k < W.heap.size) (fun k hk hlt => ⟨rfl, hk, hlt⟩) (h3 i F hi)
      exact F'.loc (fun k hk _ => ⟨rfl, by show (if W.heap.size ≤ k then 0 else c k + 1) = i + 1; rw [if_neg (by omega), hk.1]⟩) (hF _ h4)
    · rw [List.getElem?_set_ne hij] at hH
      refine H.loc (fun k hk hlt => ⟨hK.2 k hlt (fun q => hij ?_) (by simp), ?_⟩) (h3 j H hH)
      · rw [q] at hk; exact hgi.symm.trans hk
      · show (if W.heap.size ≤ k then 0 else c k + 1) = j + 1
        rw [if_neg (by omega), hk]
theorem Hp.but {base : Nat} {w0 W W' : World} {L : List Fact} (h : Hp base w0 W L) (i : Nat) {F : Fact} (hi : L[i]? = some F) {g : Nat} (hg : ∀ ok, F.P W ok → ok g) (hB : Below base w0 W') (hK : KeepBut W W' g none) (F' : Fact) (hF : ∀ ok, F.P W ok → F'.P W' ok) : Hp base w0 W' (L.set i F') :=
  (h.butAdd i hi hg hB hK F' hF fT trivial).tail
section
variable {P : Program} {ops : Array Oper} {rest : List Oper} {o : Oper} {a : Act} {Q : Exit → Act → World → Prop} {Kc : Act → World → Prop} {α : Type} {base : Nat} {w0 W : World} {L : List Fact}
/-- a literal of one element of several cells, which holds what the bundle has at place i -/
theorem ev_litG (S : Aside0 (Hp base w0 W L)) (i : Nat) {F : Fact} (hi : L[i]? = some F) (d : Kd α) (e : Nat) (hgd : o.guard = none) {N : Tmp} (hd : o.dst = some N) {p : α} {cs : List Value} (hsz : cs.length = d.sz)
    (hM : ∀ ok, F.P W ok → d.M W base ok p cs)
    (hrun : (execOp a.eval o).run P W = .ok (.value (.slice (some ⟨W.heap.size, 0, none⟩) 1 1)) (W.alloc (.cells cs.toArray e)))
    (h : ∀ v1 w1, Aside0 (Hp base w0 w1 (L.set i (fR d e base v1 [p]))) → wpList P ops Q rest (a.put (some N) v1) w1) : wpList P ops Q (o :: rest) a W := by
  obtain ⟨ok, HO, hf, hcl⟩ := S.out.open_ i hi
  refine Kd.R_lit d (w0 := w0) base e hgd hd (xs := [p]) (inner := cs) (ok := ok) (okp := ok) hrun (Reps.front (hM ok HO) hsz (Reps.none _ _) (List.append_nil _)) (fun _ q => q) (hf _ (Nat.le_refl _)) S.out.below S.out.size (by simp) (fun v1 w1 h1 h2 h3 _ => ?_)
  rw [hd]
  exact h v1 w1 ⟨hcl w1 _ h2 h3.size (fun k hk _ => h3.block k hk (by simp)) h1⟩
theorem st_litG (S : Hp base w0 W L) (i : Nat) {F : Fact} (hi : L[i]? = some F) (d : Kd α) (e : Nat) (hw : Region.wanted o (yielded ops a.tmps) = true) {N : Tmp} (hd : o.dst = some N) {p : α} {cs : List Value} (hsz : cs.length = d.sz)
    (hM : ∀ ok, F.P W ok → d.M W base ok p cs)
    (hrun : (execOp a.eval o).run P W = .ok (.value (.slice (some ⟨W.heap.size, 0, none⟩) 1 1)) (W.alloc (.cells cs.toArray e)))
    (h : ∀ v1 w1, Hp base w0 w1 (L.set i (fR d e base v1 [p])) → Kc (a.put (some N) v1) w1) : if Region.wanted o (yielded ops a.tmps) = true then Oper.wp P o a W Kc Q else Kc (a.put o.dst undef) W := by
  obtain ⟨ok, HO, hf, hcl⟩ := S.open_ i hi
  refine Kd.R_lit_step d (w0 := w0) base e hw hd (xs := [p]) (inner := cs) (ok := ok) (okp := ok) hrun (Reps.front (hM ok HO) hsz (Reps.none _ _) (List.append_nil _)) (fun _ q => q) (hf _ (Nat.le_refl _)) S.below S.size (by simp) (fun v1 w1 h1 h2 h3 _ => ?_)
  rw [hd]
  exact h v1 w1 (hcl w1 _ h2 h3.size (fun k hk _ => h3.block k hk (by simp)) h1)
end
/-- an operand of a masked operation -/
theorem at0 {l : Nat → Bool} {v : Nat → Value} {D : List (Option Tmp)} {a b : Act} {m j : Nat} {N : Tmp} (hb : b = putIf l v D 0 a) (hs : a.tmps.size = m) (hl : l j = true) (hd : apartD D = true) (hN : D.getD j none = some N) (hm : N < m) : b.tmps.getD N undef = v j := by
  rw [hb]; exact putIf_at hl D 0 a (Nat.zero_le _) hd (by rw [Nat.sub_zero]; exact hN) (by rw [hs]; exact hm)
theorem at1 {l : Nat → Bool} {v : Nat → Value} {D : List (Option Tmp)} {a b : Act} {m j : Nat} {N : Tmp} {x : Value} (hb : b = putIf l v D 0 a) (hs : a.tmps.size = m) (hl : l j = true) (p : l j = true → v j = x) (hd : apartD D = true) (hN : D.getD j none = some N) (hm : N < m) : b.tmps.getD N undef = x := (at0 hb hs hl hd hN hm).trans (p hl)
theorem oth_ {l : Nat → Bool} {v : Nat → Value} {D : List (Option Tmp)} {a b : Act} {N : Tmp} {x : Value} (hb : b = putIf l v D 0 a) (h : D.all (fun d => d != some N) = true) (e : a.tmps.getD N undef = x) : b.tmps.getD N undef = x := by
  rw [hb, putIf_other D 0 a h, e]
/-- one cell of an element is written; G: what it may come to hold (at place j) -/
theorem Hp.seg {base : Nat} {w0 W : World} {L : List Fact} {α : Type} (h : Hp base w0 W L) (i j : Nat) (hij : i ≠ j) {d : Kd α} {e g n cap : Nat} {xs : List α} {G : Fact} (hi : L[i]? = some (fR d e base (.slice (some ⟨g, 0, none⟩) n cap) xs)) (hj : L[j]? = some G) (z : α) (q : Int) (h0 : 0 ≤ q) (h1 : q < n) (m : Nat) (u : Value) (x' : α) (hm : m < d.sz)
    (hM : ∀ ok c, c.length = d.sz → d.M W base ok (xs.getD q.toNat z) c → G.P W ok → d.M W base ok x' (c.take m ++ [u] ++ c.drop (m + 1))) :
    Hp base w0 (W.setCell ⟨g, q.toNat * d.sz + m, none⟩ u) ((L.set i (fR d e base (.slice (some ⟨g, 0, none⟩) n cap) (xs.set q.toNat x'))).set j fT) := by
  obtain ⟨oki, okj, HI, HJ, hne, hlt, hcl⟩ := h.open2 i j hij hi hj
  obtain ⟨c, hcl2, hMc, hcc, _⟩ := Kd.R_elem HI z q h0 h1
  have hbg : base ≤ g := Kd.R_base HI g rfl
  have HI2 : d.R e W base (fun k => oki k ∨ okj k) (.slice (some ⟨g, 0, none⟩) n cap) xs := Kd.R_mono HI (fun k q => .inl q)
  have hM2 := hM (fun k => (oki k ∨ okj k) ∧ k ≠ g) c hcl2 (d.M_mono (fun k q => ⟨.inl q.1, q.2⟩) hMc) (G.loc (fun k hk _ => ⟨rfl, .inr hk, fun e2 => hne g (HI.1 g rfl) (e2 ▸ hk)⟩) HJ)
  obtain ⟨hrow, hg⟩ := Kd.R_seg HI2 q h0 h1 (seg := [u]) (j := m) hcl2 hcc (by simp only [List.length_singleton]; omega) (x' := x') (by simp only [List.length_singleton]; exact hM2) (fun k q => q)
  refine hcl _ _ fT (h.2.1.setCell hbg _) hg.size (fun k hk q1 q2 => hg.block k hk (fun e2 => q1 ?_)) (Kd.R_mono hrow (fun k q => q.elim .inl (fun r => .inr (.inl r)))) (fT_all _)
  injection e2 with e3
  rw [e3]
  exact HI.1 g rfl
/-- what needs what: told of what has come up -/
theorem up_ {N : List (List Nat)} {l : Nat → Bool} (hc : ∀ j m, m ∈ N.getD j [] → l m = false → l j = false) {j m : Nat} (hm : m ∈ N.getD j []) (h : l j = true) : l m = true := by
  cases e : l m with
  | true => rfl
  | false => rw [hc j m hm e] at h; cases h
/-- a reader of drawn bytes: its bytes' row, and how far it has read -/
def fRd (T base g : Nat) (vb : Value) : Fact where
  P := fun W ok => ∃ p : Nat, p ≤ 2000000 ∧ (fB base g #[vb, .int .i64 (p : Int)] T).P W ok
  loc := by
    rintro W W' ok ok' h ⟨p, hp, q⟩
    exact ⟨p, hp, (fB base g #[vb, .int .i64 (p : Int)] T).loc h q⟩
theorem Hp.rdOpen {base : Nat} {w0 W : World} {L : List Fact} (h : Hp base w0 W L) (i : Nat) {T g : Nat} {vb : Value} (hi : L[i]? = some (fRd T base g vb)) : ∃ p : Nat, p ≤ 2000000 ∧ Hp base w0 W (L.set i (fB base g #[vb, .int .i64 (p : Int)] T)) := by
  obtain ⟨ok, h1, h2, h3⟩ := h.open_ i hi
  obtain ⟨p, hp, q⟩ := h1
  exact ⟨p, hp, h3 W _ h.2.1 (Nat.le_refl _) (fun _ _ _ => rfl) q⟩
theorem Hp.rdBack {base : Nat} {w0 W : World} {L : List Fact} {i : Nat} {T g : Nat} {vb : Value} {p : Nat} (h : Hp base w0 W (L.set i (fB base g #[vb, .int .i64 (p : Int)] T))) (hi : L[i]? = some (fRd T base g vb)) (hp : p ≤ 2000000) : Hp base w0 W L :=
  h.back hi (fun _ _ q => ⟨p, hp, q⟩)
/-- the bytes that are read stay -/
def RdOK (base : Nat) (w0 : World) (A : Option Addr) (bs : List Int) : Prop := bs.length ≤ 1048576 ∧ (∀ x ∈ bs, 0 ≤ x ∧ x ≤ 255) ∧ ∀ W, Below base w0 W → Kd.C (Kd.int .u8) W A bs.length bs
def I64 (m : Int) : Prop := -9223372036854775808 ≤ m ∧ m ≤ 9223372036854775807
/-- a number is told, and what holds of it -/
def NPost (base : Nat) (w0 : World) (L : List Fact) (k : IntKind) (Q : Int → Prop) (e : Ending) (w' : World) : Prop := ∃ m : Int, e = .returned (.int k m) ∧ Q m ∧ Hp base w0 w' L
end Go.Proofs.Ytfajfjgkkgigoaa.Kit
