/- What a call owns in memory, told in one: rows and variables, each in blocks of its own colour. -/
import Derived.Test.YtfajfjgkkgigoaaWMore
import Derived.Test.YtfajfjgkkgigoaaWKept
namespace Go.Proofs.Ytfajfjgkkgigoaa.Kit
open Go.RowKit Go.Proofs.YtfajfjgkkgigoaaW.PrintWords Go.Proofs.YtfajfjgkkgigoaaW.PrintLast Go.Proofs.YtfajfjgkkgigoaaW.PrintMore

/-- something told of blocks that are ok -/
structure Fact where
  P : World → (Nat → Prop) → Prop
  loc : ∀ {W W' : World} {ok ok' : Nat → Prop}, (∀ k, ok k → k < W.heap.size → W'.heap[k]? = W.heap[k]? ∧ ok' k) → P W ok → P W' ok'

/-- a row -/
def fR {α : Type} (d : Kd α) (e base : Nat) (v : Value) (xs : List α) : Fact where
  P := fun W ok => d.R e W base ok v xs
  loc := fun h hp => Kd.R_mono (Kd.R_move (Kd.R_bound hp) (fun k hk => (h k hk.1 hk.2.2.1).1)) (fun k hk => (h k hk.1 hk.2.2.1).2)
/-- a row of rows that are apart -/
def fS {α : Type} (d : Kd α) (e base : Nat) (v : Value) (xs : List α) : Fact where
  P := fun W ok => d.S e W base ok v xs
  loc := fun h hp => Kd.S_mono (Kd.S_move (Kd.S_bound hp) (fun k hk => (h k hk.1 hk.2.2.1).1)) (fun k hk => (h k hk.1 hk.2.2.1).2)
/-- a variable -/
def fB (base g : Nat) (cs : Array Value) (t : TypeId) : Fact where
  P := fun W ok => ok g ∧ base ≤ g ∧ W.heap[g]? = some (.cells cs t (0, 0))
  loc := by
    rintro W W' ok ok' h ⟨h1, h2, h3⟩
    obtain ⟨a, b⟩ := h g h1 (blk_lt h3)
    exact ⟨b, h2, a.trans h3⟩

/-- a variable, by what points to it -/
def fV (base : Nat) (v : Value) (cs : Array Value) (t : TypeId) : Fact where
  P := fun W ok => ∃ g, v = .pointer (some ⟨g, 0, none⟩) ∧ ok g ∧ base ≤ g ∧ W.heap[g]? = some (.cells cs t (0, 0))
  loc := by
    rintro W W' ok ok' h ⟨g, h0, h1, h2, h3⟩
    obtain ⟨a, b⟩ := h g h1 (blk_lt h3)
    exact ⟨g, h0, b, h2, a.trans h3⟩

/-- all that a call owns -/
def Hp (base : Nat) (w0 W : World) (L : List Fact) : Prop :=
  base ≤ W.heap.size ∧ Below base w0 W ∧ ∃ c : Nat → Nat, ∀ (i : Nat) (F : Fact), L[i]? = some F → F.P W (fun k => c k = i)

theorem Hp.start (w : World) : Hp w.heap.size w w [] := ⟨Nat.le_refl _, Below.refl _ _, fun _ => 0, fun i F h => by simp at h⟩
theorem Hp.below {base : Nat} {w0 W : World} {L : List Fact} (h : Hp base w0 W L) : Below base w0 W := h.2.1
theorem Hp.size {base : Nat} {w0 W : World} {L : List Fact} (h : Hp base w0 W L) : base ≤ W.heap.size := h.1
/-- memory has grown -/
theorem Hp.go {base : Nat} {w0 W W' : World} {L : List Fact} (h : Hp base w0 W L) (hb : Below W.heap.size W W') : Hp base w0 W' L := by
  obtain ⟨h1, h2, c, h3⟩ := h
  exact ⟨Nat.le_trans h1 hb.size, h2.trans (hb.mono h1), c, fun i F hF => F.loc (fun k hk hlt => ⟨hb.block k hlt, hk⟩) (h3 i F hF)⟩
theorem Hp.drewN {base : Nat} {w0 W : World} {L : List Fact} (h : Hp base w0 W L) (n : Nat) : Hp base w0 (W.drewN n) L := h.go (pw_below_drewN (Below.refl _ _) n)
theorem Hp.drew {base : Nat} {w0 W : World} {L : List Fact} (h : Hp base w0 W L) : Hp base w0 W.drew L := h.go (below_drew (Below.refl _ _))
theorem Hp.allocS {base : Nat} {w0 W : World} {L : List Fact} (h : Hp base w0 W L) (o : Obj) : Hp base w0 (W.alloc o) L := h.go (below_alloc (Below.refl _ _) o)
/-- something new has been made -/
theorem Hp.add {base : Nat} {w0 W W' : World} {L : List Fact} (h : Hp base w0 W L) (hb : Below W.heap.size W W') (F : Fact) (hF : F.P W' (fun k => W.heap.size ≤ k)) : Hp base w0 W' (F :: L) := by
  obtain ⟨h1, h2, c, h3⟩ := h
  refine ⟨Nat.le_trans h1 hb.size, h2.trans (hb.mono h1), fun k => if W.heap.size ≤ k then 0 else c k + 1, fun i G hG => ?_⟩
  cases i with
  | zero =>
    simp only [List.getElem?_cons_zero, Option.some.injEq] at hG
    subst hG
    exact F.loc (fun k hk _ => ⟨rfl, if_pos hk⟩) hF
  | succ i =>
    simp only [List.getElem?_cons_succ] at hG
    exact G.loc (fun k hk hlt => ⟨hb.block k hlt, (if_neg (by omega)).trans (congrArg (· + 1) hk)⟩) (h3 i G hG)
theorem Hp.box {base : Nat} {w0 W : World} {L : List Fact} (h : Hp base w0 W L) (cs : Array Value) (t : TypeId) : Hp base w0 (W.alloc (.cells cs t)) (fB base W.heap.size cs t :: L) :=
  h.add (below_alloc (Below.refl _ _) _) _ ⟨Nat.le_refl _, h.1, heap_alloc_new W _⟩
theorem Hp.boxE {base : Nat} {w0 W W' : World} {L : List Fact} (h : Hp base w0 W L) {cs : Array Value} {t : TypeId} {g : Nat} (hg : g = W.heap.size) (hb : Below W.heap.size W W') (hx : W'.heap[g]? = some (.cells cs t (0, 0))) : Hp base w0 W' (fB base g cs t :: L) :=
  h.add hb _ ⟨by rw [hg]; exact Nat.le_refl _, by rw [hg]; exact h.1, hx⟩
/-- one of them, with blocks that it may have; and how what is done to it alone goes back -/
theorem Hp.open_ {base : Nat} {w0 W : World} {L : List Fact} (h : Hp base w0 W L) (i : Nat) {F : Fact} (hi : L[i]? = some F) :
    ∃ ok : Nat → Prop, F.P W ok ∧ (∀ k, W.heap.size ≤ k → ok k) ∧
      (∀ (W' : World) (F' : Fact), Below base w0 W' → W.heap.size ≤ W'.heap.size → (∀ k, k < W.heap.size → ¬ ok k → W'.heap[k]? = W.heap[k]?) → F'.P W' ok → Hp base w0 W' (L.set i F')) := by
  obtain ⟨h1, h2, c, h3⟩ := h
  refine ⟨fun k => c k = i ∨ W.heap.size ≤ k, F.loc (fun k hk _ => ⟨rfl, .inl hk⟩) (h3 i F hi), fun k hk => .inr hk, fun W' F' hB hs hne hF => ⟨Nat.le_trans h1 hs, hB, fun k => if W.heap.size ≤ k then i else c k, fun j G hG => ?_⟩⟩
  by_cases hij : i = j
  · subst hij
    have hl : i < L.length := (List.getElem?_eq_some_iff.1 hi).1
    rw [List.getElem?_set_self hl] at hG
    obtain rfl := Option.some.inj hG
    refine F'.loc (fun k hk _ => ⟨rfl, ?_⟩) hF
    by_cases q : W.heap.size ≤ k
    · exact if_pos q
    · exact (if_neg q).trans (hk.resolve_right q)
  · rw [List.getElem?_set_ne hij] at hG
    refine G.loc (fun k hk hlt => ⟨hne k hlt (fun q => ?_), ?_⟩) (h3 j G hG)
    · rcases q with q | q
      · exact hij (q.symm.trans hk)
      · omega
    · exact (if_neg (by omega)).trans hk
/-- one of them, to be read -/
theorem Hp.get {base : Nat} {w0 W : World} {L : List Fact} (h : Hp base w0 W L) (i : Nat) {F : Fact} (hi : L[i]? = some F) : ∃ ok : Nat → Prop, F.P W ok := by
  obtain ⟨ok, h1, _⟩ := h.open_ i hi
  exact ⟨ok, h1⟩
theorem Hp.row {base : Nat} {w0 W : World} {L : List Fact} (h : Hp base w0 W L) (i : Nat) {α : Type} {d : Kd α} {e : Nat} {A : Option Addr} {n c : Nat} {xs : List α} (hi : L[i]? = some (fR d e base (.slice A n c) xs)) : n = xs.length ∧ xs.length ≤ c ∧ d.C W A xs.length xs := by
  obtain ⟨ok, h1⟩ := h.get i hi
  obtain ⟨A', c', he, hl, hr⟩ := Kd.R_reads h1
  injection he with e1 e2 e3
  subst e1; subst e2; subst e3
  exact ⟨rfl, hl, hr⟩
theorem Hp.slice {base : Nat} {w0 W : World} {L : List Fact} (h : Hp base w0 W L) (i : Nat) {α : Type} {d : Kd α} {e : Nat} {v : Value} {xs : List α} (hi : L[i]? = some (fR d e base v xs)) : ∃ A c, v = .slice A xs.length c := by
  obtain ⟨ok, h1⟩ := h.get i hi
  exact Kd.R_slice h1
theorem Hp.blk {base : Nat} {w0 W : World} {L : List Fact} (h : Hp base w0 W L) (i : Nat) {g : Nat} {cs : Array Value} {t : TypeId} (hi : L[i]? = some (fB base g cs t)) : W.heap[g]? = some (.cells cs t (0, 0)) := by
  obtain ⟨ok, h1⟩ := h.get i hi
  exact h1.2.2
theorem Hp.cell {base : Nat} {w0 W : World} {L : List Fact} (h : Hp base w0 W L) (i j : Nat) {g : Nat} {cs : Array Value} {t : TypeId} {v : Value} (hi : L[i]? = some (fB base g cs t)) (hv : cs[j]? = some v) : W.cell? ⟨g, j, none⟩ = some v := (blk_cell (h.blk i hi) j).trans hv
theorem Hp.frozen {base : Nat} {w0 W : World} {L : List Fact} (h : Hp base w0 W L) (i j : Nat) {g : Nat} {cs : Array Value} {t : TypeId} (hi : L[i]? = some (fB base g cs t)) : W.frozen? ⟨g, j, none⟩ = false := blk_frozen (h.blk i hi) j
/-- a variable is written -/
theorem Hp.put {base : Nat} {w0 W : World} {L : List Fact} (h : Hp base w0 W L) (i j : Nat) {g : Nat} {cs cs' : Array Value} {t : TypeId} {u : Value} (hi : L[i]? = some (fB base g cs t)) (e : cs.setIfInBounds j u = cs') : Hp base w0 (W.setCell ⟨g, j, none⟩ u) (L.set i (fB base g cs' t)) := by
  obtain ⟨ok, h1, h2, h3⟩ := h.open_ i hi
  exact h3 _ _ (h.2.1.setCell h1.2.1 _) (by simp [World.setCell]) (fun k hk hok => Below.heap_setCell _ _ _ _ (fun q => hok (q ▸ h1.1))) ⟨h1.1, h1.2.1, blk_put h1.2.2 j u e⟩
/-- a row has been appended to -/
theorem Hp.app {base : Nat} {w0 W W' : World} {α : Type} {d : Kd α} {e i : Nat} {v v' : Value} {xs ys : List α} {ok : Nat → Prop} {L : List Fact}
    (hcl : ∀ (W' : World) (F' : Fact), Below base w0 W' → W.heap.size ≤ W'.heap.size → (∀ k, k < W.heap.size → ¬ ok k → W'.heap[k]? = W.heap[k]?) → F'.P W' ok → Hp base w0 W' (L.set i F'))
    (ho : d.R e W base ok v xs) (hb : Below base w0 W') (hg : W.grownBy W' v.ownBlock) (hn : d.R e W' base ok v' ys) : Hp base w0 W' (L.set i (fR d e base v' ys)) :=
  hcl W' _ hb hg.size (fun k hk hok => hg.block k hk (fun q => hok (ho.1 k q.symm))) hn
/-- a row's cell is written -/
theorem Hp.putRow {base : Nat} {w0 W : World} {L : List Fact} (h : Hp base w0 W L) (i : Nat) {α : Type} {enc : α → Value} {h1 : ∀ x, (enc x).oneCell' = true} {e g n cap : Nat} {xs : List α}
    (hi : L[i]? = some (fR (Kd.scalar enc h1) e base (.slice (some ⟨g, 0, none⟩) n cap) xs)) (j : Int) (x : α) : Hp base w0 (W.setCell ⟨g, j.toNat, none⟩ (enc x)) (L.set i (fR (Kd.scalar enc h1) e base (.slice (some ⟨g, 0, none⟩) n cap) (xs.set j.toNat x))) := by
  obtain ⟨ok, HO, _, hcl⟩ := h.open_ i hi
  obtain ⟨hn, hg⟩ := Kd.R_putg HO j x
  have hb : base ≤ g := Kd.R_base HO g (by simp [Value.ownBlock])
  refine hcl _ _ (h.2.1.setCell hb _) hg.size (fun k hk hok => hg.block k hk (fun q => hok (HO.1 k ?_))) hn
  rw [q]; simp [Value.ownBlock]
theorem Hp.cellR {base : Nat} {w0 W : World} {L : List Fact} (h : Hp base w0 W L) (i : Nat) {α : Type} (d : α) {enc : α → Value} {h1 : ∀ x, (enc x).oneCell' = true} {e g n cap : Nat} {xs : List α}
    (hi : L[i]? = some (fR (Kd.scalar enc h1) e base (.slice (some ⟨g, 0, none⟩) n cap) xs)) (j : Int) (h0 : 0 ≤ j) (hj : j < n) : W.cell? ⟨g, j.toNat, none⟩ = some (enc (rdOf d xs j)) ∧ W.frozen? ⟨g, j.toNat, none⟩ = false := by
  obtain ⟨ok, HO⟩ := h.get i hi
  exact Kd.R_celln d HO j h0 hj
theorem Hp.form {base : Nat} {w0 W : World} {L : List Fact} (h : Hp base w0 W L) (i : Nat) {α : Type} {d : Kd α} {e : Nat} {v : Value} {xs : List α} (hi : L[i]? = some (fR d e base v xs)) (hp : 0 < xs.length) : ∃ g cap, v = .slice (some ⟨g, 0, none⟩) xs.length cap := by
  obtain ⟨ok, HO⟩ := h.get i hi
  obtain ⟨g, cap, e, _⟩ := Kd.R_form HO hp
  exact ⟨g, cap, e⟩
/-- the newest is let go -/
theorem Hp.tail {base : Nat} {w0 W : World} {L : List Fact} {F : Fact} (h : Hp base w0 W (F :: L)) : Hp base w0 W L := by
  obtain ⟨h1, h2, c, h3⟩ := h
  refine ⟨h1, h2, fun k => c k - 1, fun i G hG => ?_⟩
  refine G.loc (fun k hk _ => ⟨rfl, ?_⟩) (h3 (i + 1) G (by simpa using hG))
  show c k - 1 = i
  omega
/-- an empty row, of no block -/
theorem Hp.none_ {base : Nat} {w0 W : World} {L : List Fact} (h : Hp base w0 W L) {α : Type} (d : Kd α) (e : Nat) : Hp base w0 W (fR d e base (.slice none 0 0) [] :: L) :=
  h.add (Below.refl _ _) _ (Kd.R_nil _ _ _ _ _)
/-- a place that was kept for it is taken -/
theorem Hp.fill {base : Nat} {w0 W W' : World} {L : List Fact} (h : Hp base w0 W L) (i : Nat) {G : Fact} (hi : L[i]? = some G) (hb : Below W.heap.size W W') (F : Fact) (hF : F.P W' (fun k => W.heap.size ≤ k)) : Hp base w0 W' (L.set i F) := by
  obtain ⟨ok, _, h2, h3⟩ := h.open_ i hi
  exact h3 W' F (h.2.1.trans (hb.mono h.1)) hb.size (fun k hk _ => hb.block k hk) (F.loc (fun k hk _ => ⟨rfl, h2 k hk⟩) hF)
/-- told otherwise -/
theorem Hp.imp {base : Nat} {w0 W : World} {L : List Fact} (h : Hp base w0 W L) (i : Nat) {F G : Fact} (hi : L[i]? = some F) (hg : ∀ ok, F.P W ok → G.P W ok) : Hp base w0 W (L.set i G) := by
  obtain ⟨ok, h1, h2, h3⟩ := h.open_ i hi
  exact h3 W G h.2.1 (Nat.le_refl _) (fun _ _ _ => rfl) (hg ok h1)
/-- the eldest are let go -/
theorem Hp.front {base : Nat} {w0 W : World} {L M : List Fact} (h : Hp base w0 W (L ++ M)) : Hp base w0 W L := by
  obtain ⟨h1, h2, c, h3⟩ := h
  refine ⟨h1, h2, c, fun i F hF => h3 i F ?_⟩
  rw [List.getElem?_append_left (List.getElem?_eq_some_iff.1 hF).1]
  exact hF
/-- nothing told -/
def fT : Fact := ⟨fun _ _ => True, fun _ _ => trivial⟩
theorem hp_new {α : Type} {d : Kd α} {e base : Nat} {W w' : World} {ok : Nat → Prop} {v : Value} {xs : List α} (h : d.R e w' W.heap.size ok v xs) (hb : base ≤ W.heap.size) : (fR d e base v xs).P w' (fun k => W.heap.size ≤ k) :=
  Kd.R_lower (Kd.R_mono (Kd.R_bound h) (fun _ hk => hk.2.1)) hb
theorem no_ {b : Bool} {p : Prop} (h : b = false) : b = true → p := fun q => absurd (h.symm.trans q) (by decide)
/-- blocks of two colours -/
theorem nc_ {c : Nat → Nat} {k i j : Nat} {v : Value} (hk : c k = i) (hv : ∀ k, v.ownBlock = some k → c k = j) (hij : i ≠ j) : some k ≠ v.ownBlock := fun e => hij (hk.symm.trans (hv k e.symm))
theorem Hp.cells {base : Nat} {w0 W : World} {L : List Fact} (h : Hp base w0 W L) : Below base w0 W ∧ ∃ c : Nat → Nat, ∀ (i : Nat) (F : Fact), L[i]? = some F → F.P W (fun k => c k = i) := h.2
theorem Hp.blank {base : Nat} {w0 W : World} {L : List Fact} (h : Hp base w0 W L) : Hp base w0 W (fT :: L) := h.add (Below.refl _ _) _ trivial
/-- if it has come up -/
def cf (b : Bool) (F G : Fact) : Fact := bif b then F else G
theorem Hp.sliceC {base : Nat} {w0 W : World} {L : List Fact} (h : Hp base w0 W L) (i : Nat) {α : Type} {d : Kd α} {e : Nat} {v : Value} {xs : List α} {b : Bool} {G : Fact} (hi : L[i]? = some (cf b (fR d e base v xs) G)) (hb : b = true) : ∃ A c, v = .slice A xs.length c := by
  subst hb
  exact h.slice i hi
theorem Hp.rowC {base : Nat} {w0 W : World} {L : List Fact} (h : Hp base w0 W L) (i : Nat) {α : Type} {d : Kd α} {e : Nat} {v : Value} {xs : List α} {b : Bool} {G : Fact} (hi : L[i]? = some (cf b (fR d e base v xs) G)) (hb : b = true) : ∃ A c, v = .slice A xs.length c ∧ xs.length ≤ c ∧ d.C W A xs.length xs := by
  subst hb
  obtain ⟨ok, h1⟩ := h.get i hi
  obtain ⟨A, c, e, hl, hr⟩ := Kd.R_reads h1
  exact ⟨A, c, e, hl, hr⟩
/-- a variable that has come up, by its address -/
theorem Hp.varC {base : Nat} {w0 W : World} {L : List Fact} (h : Hp base w0 W L) (i : Nat) {v : Value} {cs : Array Value} {t : TypeId} {b : Bool} {G : Fact} (hi : L[i]? = some (cf b (fV base v cs t) G)) (hb : b = true) : ∃ g, v = .pointer (some ⟨g, 0, none⟩) ∧ Hp base w0 W (L.set i (fB base g cs t)) := by
  subst hb
  obtain ⟨ok, h1, h2, h3⟩ := h.open_ i hi
  obtain ⟨g, e, a1, a2, a3⟩ := h1
  exact ⟨g, e, h3 W _ h.2.1 (Nat.le_refl _) (fun _ _ _ => rfl) ⟨a1, a2, a3⟩⟩
/-- .. and back -/
theorem Hp.varB {base : Nat} {w0 W : World} {L : List Fact} (h : Hp base w0 W L) (i : Nat) {g : Nat} {cs : Array Value} {t : TypeId} (hi : L[i]? = some (fB base g cs t)) : Hp base w0 W (L.set i (fV base (.pointer (some ⟨g, 0, none⟩)) cs t)) := by
  obtain ⟨ok, h1, h2, h3⟩ := h.open_ i hi
  exact h3 W _ h.2.1 (Nat.le_refl _) (fun _ _ _ => rfl) ⟨g, rfl, h1⟩

section
variable {P : Program} {ops : Array Oper} {rest : List Oper} {o : Oper} {a : Act} {Q : Exit → Act → World → Prop} {Kc : Act → World → Prop} {α : Type} {base : Nat} {w0 W : World} {L : List Fact}
theorem ev_box (S : Aside0 (Hp base w0 W L)) (hgd : o.guard = none) {N : Tmp} (hd : o.dst = some N) {cs : Array Value} {t : TypeId}
    (hrun : (execOp a.eval o).run P W = .ok (.value (.pointer (some ⟨W.heap.size, 0, none⟩))) (W.alloc (.cells cs t (0, 0))))
    (h : ∀ g w1, Aside0 (base ≤ g) → Aside0 (Hp base w0 w1 (fB base g cs t :: L)) → wpList P ops Q rest (a.put (some N) (.pointer (some ⟨g, 0, none⟩))) w1) : wpList P ops Q (o :: rest) a W := by
  refine Kd.event_run hgd hrun ?_
  rw [hd]
  exact h _ _ ⟨S.out.1⟩ ⟨S.out.box cs t⟩
theorem st_box (S : Hp base w0 W L) (hw : Region.wanted o (yielded ops a.tmps) = true) {N : Tmp} (hd : o.dst = some N) {cs : Array Value} {t : TypeId}
    (hrun : (execOp a.eval o).run P W = .ok (.value (.pointer (some ⟨W.heap.size, 0, none⟩))) (W.alloc (.cells cs t (0, 0))))
    (h : ∀ g w1, base ≤ g → Hp base w0 w1 (fB base g cs t :: L) → Kc (a.put (some N) (.pointer (some ⟨g, 0, none⟩))) w1) : if Region.wanted o (yielded ops a.tmps) = true then Oper.wp P o a W Kc Q else Kc (a.put o.dst undef) W := by
  refine event_step hw hrun ?_
  rw [hd]
  exact h _ _ S.1 (S.box cs t)
theorem st_boxV (S : Hp base w0 W L) (i : Nat) {G : Fact} (hi : L[i]? = some G) (hw : Region.wanted o (yielded ops a.tmps) = true) {N : Tmp} (hd : o.dst = some N) {cs : Array Value} {t : TypeId}
    (hrun : (execOp a.eval o).run P W = .ok (.value (.pointer (some ⟨W.heap.size, 0, none⟩))) (W.alloc (.cells cs t (0, 0))))
    (h : ∀ x w1, Hp base w0 w1 (L.set i (fV base x cs t)) → Kc (a.put (some N) x) w1) : if Region.wanted o (yielded ops a.tmps) = true then Oper.wp P o a W Kc Q else Kc (a.put o.dst undef) W := by
  refine event_step hw hrun ?_
  rw [hd]
  exact h _ _ (S.fill i hi (below_alloc (Below.refl _ _) _) _ ⟨_, rfl, Nat.le_refl _, S.1, heap_alloc_new W _⟩)
theorem hp_lit {d : Kd α} {e : Nat} {xs : List α} {v1 : Value} {w1 : World} (S : Hp base w0 W L) (h1 : d.R e w1 W.heap.size (fun k => W.heap.size ≤ k) v1 xs) (h2 : Below W.heap.size W w1) : Hp base w0 w1 (fR d e base v1 xs :: L) :=
  S.add h2 _ (Kd.R_lower h1 S.1)
theorem ev_lit (S : Aside0 (Hp base w0 W L)) (d : Kd α) (e : Nat) (hgd : o.guard = none) {N : Tmp} (hd : o.dst = some N) {xs : List α} {inner : List Value}
    (hrun : (execOp a.eval o).run P W = .ok (.value (.slice (some ⟨W.heap.size, 0, none⟩) xs.length xs.length)) (W.alloc (.cells inner.toArray e)))
    (hrep : Reps (d.M W W.heap.size (fun _ => False)) d.sz xs inner) (hm : xs.length ≤ 9223372036854775807)
    (h : ∀ v1 w1, Aside0 (Hp base w0 w1 (fR d e base v1 xs :: L)) → wpList P ops Q rest (a.put (some N) v1) w1) : wpList P ops Q (o :: rest) a W := by
  refine Kd.R_lit d (w0 := W) W.heap.size e hgd hd hrun hrep (ok := fun k => W.heap.size ≤ k) (fun _ q => q.elim) (Nat.le_refl _) (Below.refl _ _) (Nat.le_refl _) hm (fun v1 w1 h1 h2 _ _ => ?_)
  rw [hd]
  exact h v1 w1 ⟨hp_lit S.out h1 h2⟩
theorem st_lit (S : Hp base w0 W L) (d : Kd α) (e : Nat) (hw : Region.wanted o (yielded ops a.tmps) = true) {N : Tmp} (hd : o.dst = some N) {xs : List α} {inner : List Value}
    (hrun : (execOp a.eval o).run P W = .ok (.value (.slice (some ⟨W.heap.size, 0, none⟩) xs.length xs.length)) (W.alloc (.cells inner.toArray e)))
    (hrep : Reps (d.M W W.heap.size (fun _ => False)) d.sz xs inner) (hm : xs.length ≤ 9223372036854775807)
    (h : ∀ v1 w1, Hp base w0 w1 (fR d e base v1 xs :: L) → Kc (a.put (some N) v1) w1) : if Region.wanted o (yielded ops a.tmps) = true then Oper.wp P o a W Kc Q else Kc (a.put o.dst undef) W := by
  refine Kd.R_lit_step d (w0 := W) W.heap.size e hw hd hrun hrep (ok := fun k => W.heap.size ≤ k) (fun _ q => q.elim) (Nat.le_refl _) (Below.refl _ _) (Nat.le_refl _) hm (fun v1 w1 h1 h2 _ _ => ?_)
  rw [hd]
  exact h v1 w1 (hp_lit S h1 h2)
theorem ev_app (S : Aside0 (Hp base w0 W L)) (i : Nat) {d : Kd α} {Rr : α → List Value → Prop} {v : Value} {xs : List α} {e : TypeId} (hi : L[i]? = some (fR d e base v xs)) (hgd : o.guard = none) (s x : Operand) (t : TypeId) (z : Value) (bytes : Nat)
    (ho : o.op = .call { callee := .builtin .append, args := #[s, x], argTypes := #[t, t] })
    (ht : P.underlying t = some (.slice e)) (hinfo : (P.info? e).map (fun i => (i.zero, i.size, i.bytes)) = some (some z, d.sz, bytes)) (hz : z.cells.size = d.sz) (hs0 : 0 < d.sz) (hb0 : 0 < bytes)
    {ys : List α} {A : Option Addr} {m c : Nat} (hs : a.eval s = v) (hx : a.eval x = .slice A m c)
    (HR : ReadsRow Rr d.sz W A m ys) (hKM : ∀ x cs, Rr x cs → d.M W base (fun _ => False) x cs) (hl : (xs.length + m) * bytes ≤ 140737488355328)
    (h : ∀ v1 w1, Aside0 (Hp base w0 w1 (L.set i (fR d e base v1 (xs ++ ys)))) → wpList P ops Q rest (a.put o.dst v1) w1) : wpList P ops Q (o :: rest) a W := by
  obtain ⟨ok, HO, hf, hcl⟩ := S.out.open_ i hi
  exact Kd.R_append_rows d (w0 := w0) base hgd s x t e z bytes ho ht hinfo hz hs0 hb0 v xs ys A m c ok (fun _ => False) hs hx HO HR hKM (fun _ q => q.elim) hf S.out.below S.out.size hl (fun v1 w1 hn hb hg _ => h v1 w1 ⟨Hp.app hcl HO hb hg hn⟩)
theorem st_litF (S : Hp base w0 W L) (i : Nat) {G : Fact} (hi : L[i]? = some G) (d : Kd α) (e : Nat) (hw : Region.wanted o (yielded ops a.tmps) = true) {N : Tmp} (hd : o.dst = some N) {xs : List α} {inner : List Value}
    (hrun : (execOp a.eval o).run P W = .ok (.value (.slice (some ⟨W.heap.size, 0, none⟩) xs.length xs.length)) (W.alloc (.cells inner.toArray e)))
    (hrep : Reps (d.M W W.heap.size (fun _ => False)) d.sz xs inner) (hm : xs.length ≤ 9223372036854775807)
    (h : ∀ v1 w1, Hp base w0 w1 (L.set i (fR d e base v1 xs)) → Kc (a.put (some N) v1) w1) : if Region.wanted o (yielded ops a.tmps) = true then Oper.wp P o a W Kc Q else Kc (a.put o.dst undef) W := by
  refine Kd.R_lit_step d (w0 := W) W.heap.size e hw hd hrun hrep (ok := fun k => W.heap.size ≤ k) (fun _ q => q.elim) (Nat.le_refl _) (Below.refl _ _) (Nat.le_refl _) hm (fun v1 w1 h1 h2 _ _ => ?_)
  rw [hd]
  exact h v1 w1 (S.fill i hi h2 _ (Kd.R_lower h1 S.1))
theorem st_app (S : Hp base w0 W L) (i : Nat) {d : Kd α} {Rr : α → List Value → Prop} {v : Value} {xs : List α} {e : TypeId} (hi : L[i]? = some (fR d e base v xs)) (hw : Region.wanted o (yielded ops a.tmps) = true) (s x : Operand) (t : TypeId) (z : Value) (bytes : Nat)
    (ho : o.op = .call { callee := .builtin .append, args := #[s, x], argTypes := #[t, t] })
    (ht : P.underlying t = some (.slice e)) (hinfo : (P.info? e).map (fun i => (i.zero, i.size, i.bytes)) = some (some z, d.sz, bytes)) (hz : z.cells.size = d.sz) (hs0 : 0 < d.sz) (hb0 : 0 < bytes)
    {ys : List α} {A : Option Addr} {m c : Nat} (hs : a.eval s = v) (hx : a.eval x = .slice A m c)
    (HR : ReadsRow Rr d.sz W A m ys) (hKM : ∀ x cs, Rr x cs → d.M W base (fun _ => False) x cs) (hl : (xs.length + m) * bytes ≤ 140737488355328)
    (h : ∀ v1 w1, Hp base w0 w1 (L.set i (fR d e base v1 (xs ++ ys))) → Kc (a.put o.dst v1) w1) : if Region.wanted o (yielded ops a.tmps) = true then Oper.wp P o a W Kc Q else Kc (a.put o.dst undef) W := by
  obtain ⟨ok, HO, hf, hcl⟩ := S.open_ i hi
  exact Kd.R_append_rows_step d (w0 := w0) base hw s x t e z bytes ho ht hinfo hz hs0 hb0 v xs ys A m c ok (fun _ => False) hs hx HO HR hKM (fun _ q => q.elim) hf S.below S.size hl (fun v1 w1 hn hb hg _ => h v1 w1 (Hp.app hcl HO hb hg hn))
/-- a store -/
theorem st_run {w1 : World} (hw : Region.wanted o (yielded ops a.tmps) = true) (hN : o.dst = none) (hrun : (execOp a.eval o).run P W = .ok .skip w1) (h : Kc (a.put none undef) w1) : if Region.wanted o (yielded ops a.tmps) = true then Oper.wp P o a W Kc Q else Kc (a.put o.dst undef) W := by
  have := skip_ (Q := Q) hw hN hrun h
  rwa [hN]
theorem ev_run {w1 : World} (hgd : o.guard = none) (hN : o.dst = none) (hrun : (execOp a.eval o).run P W = .ok .skip w1) (h : ∀ w', w' = w1 → wpList P ops Q rest a w') : wpList P ops Q (o :: rest) a W := by
  refine wpList_plain hgd fun K hK => ?_
  unfold Oper.wp
  rw [hrun]
  show K (a.put o.dst undef) w1
  rw [hN]
  exact hK _ _ (h _ rfl)
end
end Go.Proofs.Ytfajfjgkkgigoaa.Kit
