-- Written by this session's own program (wip/pr.py) over the kit's printer; contracts that the printer does not know are given by hand.
import Derived.Test.YtbijmhooamjgoaaPFnExactPackx0
import Derived.Test.YtbijmhooamjgoaaPFnExactPackx1
import Derived.Test.YtbijmhooamjgoaaPFnExactPackx2
import Derived.Test.YtbijmhooamjgoaaPFnExactPackx5
import Derived.Test.YtbijmhooamjgoaaPFnExactPackx7
import Derived.Test.YtbijmhooamjgoaaPFnExactPackx8
namespace Go.Proofs.Ytbijmhooamjgoaa.PFnExactPack
open Go.RowKit Go.Proofs.YtbijmhooamjgoaaW.PrintWords Go.Proofs.YtbijmhooamjgoaaW.PrintLast Go.Proofs.YtbijmhooamjgoaaW.PrintMore
attribute [local go_sem] max2_int min2_int max_two min_two max_three min_three max_four min_four   -- for this text's walks alone
set_option linter.unusedVariables false
set_option linter.unusedSimpArgs false

/-! ### laws_FnExactPack: function 9 -/
def OwnDfa (D : Prop) (W : World) (b lo hi : Nat) (v0 v1 v2 : Value) (l0 : List Int) (l1 : List (List Int)) (l2 : List Int) : Prop := ∃ P0 P1 P2 : Nat → Prop, (Kd.R (Kd.int .i64) 2 W b P0 v0 l0 ∧ Kd.S (Kd.slice 2 (Kd.int .i64)) 29 W b P1 v1 l1 ∧ Kd.R (Kd.int .i64) 2 W b P2 v2 l2) ∧ (∀ k, P0 k ∨ P1 k ∨ P2 k → lo ≤ k ∧ k < hi) ∧ (D → (∀ k, P0 k → ¬ P1 k) ∧ (∀ k, P0 k → ¬ P2 k) ∧ (∀ k, P1 k → ¬ P2 k))
theorem OwnDfa.kept {D : Prop} {W W2 : World} {b lo hi : Nat} {v0 v1 v2 : Value} {l0 : List Int} {l1 : List (List Int)} {l2 : List Int} {S : Nat → Prop} (h : OwnDfa D W b lo hi v0 v1 v2 l0 l1 l2) (hk : Kept W W2 S) (hne : ∀ k, lo ≤ k → k < hi → ¬ S k) : OwnDfa D W2 b lo hi v0 v1 v2 l0 l1 l2 := by
  obtain ⟨P0, P1, P2, ⟨h0, h1, h2⟩, hi_, hd⟩ := h
  exact ⟨P0, P1, P2, ⟨Kd.R_kept h0 hk (fun k q => hne k (hi_ k (.inl (q))).1 (hi_ k (.inl (q))).2), Kd.S_kept h1 hk (fun k q => hne k (hi_ k (.inr (.inl (q)))).1 (hi_ k (.inr (.inl (q)))).2), Kd.R_kept h2 hk (fun k q => hne k (hi_ k (.inr (.inr (q)))).1 (hi_ k (.inr (.inr (q)))).2)⟩, hi_, hd⟩
theorem OwnDfa.below {D : Prop} {W W2 : World} {b lo hi : Nat} {v0 v1 v2 : Value} {l0 : List Int} {l1 : List (List Int)} {l2 : List Int} (h : OwnDfa D W b lo hi v0 v1 v2 l0 l1 l2) (hb : Below W.heap.size W W2) : OwnDfa D W2 b lo hi v0 v1 v2 l0 l1 l2 := h.kept (Kept.of_below hb (fun _ => False)) (fun _ _ _ q => q)
theorem OwnDfa.drewN {D : Prop} {W : World} {b lo hi : Nat} {v0 v1 v2 : Value} {l0 : List Int} {l1 : List (List Int)} {l2 : List Int} (h : OwnDfa D W b lo hi v0 v1 v2 l0 l1 l2) (m : Nat) : OwnDfa D (W.drewN m) b lo hi v0 v1 v2 l0 l1 l2 := by
  obtain ⟨P0, P1, P2, ⟨h0, h1, h2⟩, hi_, hd⟩ := h
  exact ⟨P0, P1, P2, ⟨Kd.R_drewN h0 m, Kd.S_drewN h1 m, Kd.R_drewN h2 m⟩, hi_, hd⟩
theorem OwnDfa.slices {D : Prop} {W : World} {b lo hi : Nat} {v0 v1 v2 : Value} {l0 : List Int} {l1 : List (List Int)} {l2 : List Int} (h : OwnDfa D W b lo hi v0 v1 v2 l0 l1 l2) : ∃ A0 c0 A1 c1 A2 c2, v0 = .slice A0 l0.length c0 ∧ v1 = .slice A1 l1.length c1 ∧ v2 = .slice A2 l2.length c2 := by
  obtain ⟨P0, P1, P2, ⟨h0, h1, h2⟩, hi_, hd⟩ := h
  obtain ⟨A0, c0, e0⟩ := Kd.R_slice h0
  obtain ⟨A1, c1, e1⟩ := Kd.S_slice h1
  obtain ⟨A2, c2, e2⟩ := Kd.R_slice h2
  exact ⟨A0, c0, A1, c1, A2, c2, e0, e1, e2⟩
theorem OwnDfa.rd0 {D : Prop} {W : World} {b lo hi : Nat} {v0 v1 v2 : Value} {l0 : List Int} {l1 : List (List Int)} {l2 : List Int} {A : Option Addr} {m c : Nat} (h : OwnDfa D W b lo hi v0 v1 v2 l0 l1 l2) (e : v0 = .slice A m c) : m = l0.length ∧ m ≤ c ∧ (Kd.int .i64).C W A l0.length l0 := by
  obtain ⟨P0, P1, P2, ⟨h0, h1, h2⟩, hi_, hd⟩ := h
  subst e
  exact Kd.R_reads' h0
theorem OwnDfa.rd1 {D : Prop} {W : World} {b lo hi : Nat} {v0 v1 v2 : Value} {l0 : List Int} {l1 : List (List Int)} {l2 : List Int} {A : Option Addr} {m c : Nat} (h : OwnDfa D W b lo hi v0 v1 v2 l0 l1 l2) (e : v1 = .slice A m c) : m = l1.length ∧ m ≤ c ∧ (Kd.slice 2 (Kd.int .i64)).C W A l1.length l1 := by
  obtain ⟨P0, P1, P2, ⟨h0, h1, h2⟩, hi_, hd⟩ := h
  subst e
  exact Kd.S_reads' h1
theorem OwnDfa.rd2 {D : Prop} {W : World} {b lo hi : Nat} {v0 v1 v2 : Value} {l0 : List Int} {l1 : List (List Int)} {l2 : List Int} {A : Option Addr} {m c : Nat} (h : OwnDfa D W b lo hi v0 v1 v2 l0 l1 l2) (e : v2 = .slice A m c) : m = l2.length ∧ m ≤ c ∧ (Kd.int .i64).C W A l2.length l2 := by
  obtain ⟨P0, P1, P2, ⟨h0, h1, h2⟩, hi_, hd⟩ := h
  subst e
  exact Kd.R_reads' h2
theorem OwnDfa.of {W : World} {b lo : Nat} {v0 v1 v2 : Value} {l0 : List Int} {l1 : List (List Int)} {l2 : List Int} {ok0 : Nat → Prop} {ok1 : Nat → Prop} {ok2 : Nat → Prop} (hb : b ≤ lo) (ho0 : Kd.R (Kd.int .i64) 2 W lo ok0 v0 l0) (ho1 : Kd.S (Kd.slice 2 (Kd.int .i64)) 29 W lo ok1 v1 l1) (ho2 : Kd.R (Kd.int .i64) 2 W lo ok2 v2 l2) (d0_2 : ∀ k, ok0 k → some k ≠ v2.ownBlock) (d1_0 : ∀ k, ok1 k → some k ≠ v0.ownBlock) (d1_2 : ∀ k, ok1 k → some k ≠ v2.ownBlock) : OwnDfa True W b lo W.heap.size v0 v1 v2 l0 l1 l2 :=
  ⟨(fun k => some k = v0.ownBlock ∧ lo ≤ k ∧ k < W.heap.size), (fun k => ok1 k ∧ lo ≤ k ∧ k < W.heap.size), (fun k => some k = v2.ownBlock ∧ lo ≤ k ∧ k < W.heap.size), ⟨Kd.R_lower (Kd.R_mono (Kd.R_bound (Kd.R_tight rfl ho0)) (ok' := fun k => some k = v0.ownBlock ∧ lo ≤ k ∧ k < W.heap.size) (fun k q => ⟨q.1, q.2.1, q.2.2.1⟩)) hb, Kd.S_lower (Kd.S_mono (Kd.S_bound ho1) (ok' := fun k => ok1 k ∧ lo ≤ k ∧ k < W.heap.size) (fun k q => ⟨q.1, q.2.1, q.2.2.1⟩)) hb, Kd.R_lower (Kd.R_mono (Kd.R_bound (Kd.R_tight rfl ho2)) (ok' := fun k => some k = v2.ownBlock ∧ lo ≤ k ∧ k < W.heap.size) (fun k q => ⟨q.1, q.2.1, q.2.2.1⟩)) hb⟩, fun k q => by rcases q with q | q | q <;> exact q.2, fun _ => ⟨fun k q q2 => d1_0 k q2.1 q.1, fun k q q2 => d0_2 k (ho0.1 k q.1.symm) q2.1, fun k q q2 => d1_2 k q.1 q2.1⟩⟩
theorem OwnDfa.of0 {W : World} {b lo : Nat} {v0 v1 v2 : Value} {l0 : List Int} {l1 : List (List Int)} {l2 : List Int} {ok0 : Nat → Prop} {ok1 : Nat → Prop} {ok2 : Nat → Prop} (hb : b ≤ lo) (ho0 : Kd.R (Kd.int .i64) 2 W lo ok0 v0 l0) (ho1 : Kd.S (Kd.slice 2 (Kd.int .i64)) 29 W lo ok1 v1 l1) (ho2 : Kd.R (Kd.int .i64) 2 W lo ok2 v2 l2) : OwnDfa False W b lo W.heap.size v0 v1 v2 l0 l1 l2 :=
  ⟨(fun k => some k = v0.ownBlock ∧ lo ≤ k ∧ k < W.heap.size), (fun k => ok1 k ∧ lo ≤ k ∧ k < W.heap.size), (fun k => some k = v2.ownBlock ∧ lo ≤ k ∧ k < W.heap.size), ⟨Kd.R_lower (Kd.R_mono (Kd.R_bound (Kd.R_tight rfl ho0)) (ok' := fun k => some k = v0.ownBlock ∧ lo ≤ k ∧ k < W.heap.size) (fun k q => ⟨q.1, q.2.1, q.2.2.1⟩)) hb, Kd.S_lower (Kd.S_mono (Kd.S_bound ho1) (ok' := fun k => ok1 k ∧ lo ≤ k ∧ k < W.heap.size) (fun k q => ⟨q.1, q.2.1, q.2.2.1⟩)) hb, Kd.R_lower (Kd.R_mono (Kd.R_bound (Kd.R_tight rfl ho2)) (ok' := fun k => some k = v2.ownBlock ∧ lo ≤ k ∧ k < W.heap.size) (fun k q => ⟨q.1, q.2.1, q.2.2.1⟩)) hb⟩, fun k q => by rcases q with q | q | q <;> exact q.2, fun q => q.elim⟩
theorem OwnDfa.mark {W w0 : World} {lo hi : Nat} {v0 v1 v2 : Value} {l0 : List Int} {l1 : List (List Int)} {l2 : List Int} (k : Nat)  (a m : Int) (y0 : List Int) (y1 : List (List Int)) (y2 : List Int) (h : OwnDfa True W w0.heap.size lo hi v0 v1 v2 l0 l1 l2) (hB : Below w0.heap.size w0 W) (hlo : lo ≤ W.heap.size) (hf : laws_markDfa.f k l0 l1 l2 a = some (m, y0, y1, y2)) :
    Calls Try.prog 51 #[.agg #[v0, v1, v2], .int .i64 a] W fun e w' => e = .returned (.int .i64 m) ∧ OwnDfa False w' w0.heap.size lo w'.heap.size v0 v1 v2 y0 y1 y2 ∧ Below w0.heap.size w0 w' ∧ Kept W w' (fun k => lo ≤ k ∧ k < hi) := by
  obtain ⟨P0, P1, P2, ⟨h0, h1, h2⟩, hi_, hd⟩ := h
  obtain ⟨d0_1, d0_2, d1_2⟩ := hd trivial
  refine (laws_markDfa.calls k  P0 v0 l0 P1 v1 l1 P2 v2 l2 a m y0 y1 y2 w0 W hB h0 d0_1 d0_2 h1 (fun k q q2 => d0_1 k q2 q) d1_2 h2 (fun k q q2 => d0_2 k q2 q) (fun k q q2 => d1_2 k q2 q) hf).mono ?_
  rintro e w' ⟨rfl, g0, g1, g2, hb, hk⟩
  refine ⟨rfl, ⟨(fun k => lo ≤ k ∧ k < w'.heap.size), (fun k => lo ≤ k ∧ k < w'.heap.size), (fun k => lo ≤ k ∧ k < w'.heap.size), ⟨Kd.R_mono (Kd.R_bound g0) (fun k q => ⟨q.1.elim (fun q => (hi_ k q).1) (fun q => Nat.le_trans hlo q), q.2.2.1⟩), Kd.S_mono (Kd.S_bound g1) (fun k q => ⟨q.1.elim (fun q => (hi_ k q).1) (fun q => Nat.le_trans hlo q), q.2.2.1⟩), Kd.R_mono (Kd.R_bound g2) (fun k q => ⟨q.1.elim (fun q => (hi_ k q).1) (fun q => Nat.le_trans hlo q), q.2.2.1⟩)⟩, fun k q => by rcases q with q | q | q <;> exact q, fun q => q.elim⟩, hb, hk.mono (fun k q => hi_ k q)⟩
def OwnPacked (D : Prop) (W : World) (b lo hi : Nat) (v0 v1 v2 v3 v4 v5 : Value) (l0 : List Int) (l1 : List Int) (l2 : List Int) (l3 : List Int) (l4 : List Int) (l5 : List Int) : Prop := ∃ P0 P1 P2 P3 P4 P5 : Nat → Prop, (Kd.R (Kd.int .i64) 2 W b P0 v0 l0 ∧ Kd.R (Kd.int .i64) 2 W b P1 v1 l1 ∧ Kd.R (Kd.int .i64) 2 W b P2 v2 l2 ∧ Kd.R (Kd.int .i64) 2 W b P3 v3 l3 ∧ Kd.R (Kd.int .i64) 2 W b P4 v4 l4 ∧ Kd.R (Kd.int .i64) 2 W b P5 v5 l5) ∧ (∀ k, P0 k ∨ P1 k ∨ P2 k ∨ P3 k ∨ P4 k ∨ P5 k → lo ≤ k ∧ k < hi) ∧ (D → (∀ k, P0 k → ¬ P1 k) ∧ (∀ k, P0 k → ¬ P2 k) ∧ (∀ k, P0 k → ¬ P3 k) ∧ (∀ k, P0 k → ¬ P4 k) ∧ (∀ k, P0 k → ¬ P5 k) ∧ (∀ k, P1 k → ¬ P2 k) ∧ (∀ k, P1 k → ¬ P3 k) ∧ (∀ k, P1 k → ¬ P4 k) ∧ (∀ k, P1 k → ¬ P5 k) ∧ (∀ k, P2 k → ¬ P3 k) ∧ (∀ k, P2 k → ¬ P4 k) ∧ (∀ k, P2 k → ¬ P5 k) ∧ (∀ k, P3 k → ¬ P4 k) ∧ (∀ k, P3 k → ¬ P5 k) ∧ (∀ k, P4 k → ¬ P5 k))
theorem OwnPacked.kept {D : Prop} {W W2 : World} {b lo hi : Nat} {v0 v1 v2 v3 v4 v5 : Value} {l0 : List Int} {l1 : List Int} {l2 : List Int} {l3 : List Int} {l4 : List Int} {l5 : List Int} {S : Nat → Prop} (h : OwnPacked D W b lo hi v0 v1 v2 v3 v4 v5 l0 l1 l2 l3 l4 l5) (hk : Kept W W2 S) (hne : ∀ k, lo ≤ k → k < hi → ¬ S k) : OwnPacked D W2 b lo hi v0 v1 v2 v3 v4 v5 l0 l1 l2 l3 l4 l5 := by
  obtain ⟨P0, P1, P2, P3, P4, P5, ⟨h0, h1, h2, h3, h4, h5⟩, hi_, hd⟩ := h
  exact ⟨P0, P1, P2, P3, P4, P5, ⟨Kd.R_kept h0 hk (fun k q => hne k (hi_ k (.inl (q))).1 (hi_ k (.inl (q))).2), Kd.R_kept h1 hk (fun k q => hne k (hi_ k (.inr (.inl (q)))).1 (hi_ k (.inr (.inl (q)))).2), Kd.R_kept h2 hk (fun k q => hne k (hi_ k (.inr (.inr (.inl (q))))).1 (hi_ k (.inr (.inr (.inl (q))))).2), Kd.R_kept h3 hk (fun k q => hne k (hi_ k (.inr (.inr (.inr (.inl (q)))))).1 (hi_ k (.inr (.inr (.inr (.inl (q)))))).2), Kd.R_kept h4 hk (fun k q => hne k (hi_ k (.inr (.inr (.inr (.inr (.inl (q))))))).1 (hi_ k (.inr (.inr (.inr (.inr (.inl (q))))))).2), Kd.R_kept h5 hk (fun k q => hne k (hi_ k (.inr (.inr (.inr (.inr (.inr (q))))))).1 (hi_ k (.inr (.inr (.inr (.inr (.inr (q))))))).2)⟩, hi_, hd⟩
theorem OwnPacked.below {D : Prop} {W W2 : World} {b lo hi : Nat} {v0 v1 v2 v3 v4 v5 : Value} {l0 : List Int} {l1 : List Int} {l2 : List Int} {l3 : List Int} {l4 : List Int} {l5 : List Int} (h : OwnPacked D W b lo hi v0 v1 v2 v3 v4 v5 l0 l1 l2 l3 l4 l5) (hb : Below W.heap.size W W2) : OwnPacked D W2 b lo hi v0 v1 v2 v3 v4 v5 l0 l1 l2 l3 l4 l5 := h.kept (Kept.of_below hb (fun _ => False)) (fun _ _ _ q => q)
theorem OwnPacked.drewN {D : Prop} {W : World} {b lo hi : Nat} {v0 v1 v2 v3 v4 v5 : Value} {l0 : List Int} {l1 : List Int} {l2 : List Int} {l3 : List Int} {l4 : List Int} {l5 : List Int} (h : OwnPacked D W b lo hi v0 v1 v2 v3 v4 v5 l0 l1 l2 l3 l4 l5) (m : Nat) : OwnPacked D (W.drewN m) b lo hi v0 v1 v2 v3 v4 v5 l0 l1 l2 l3 l4 l5 := by
  obtain ⟨P0, P1, P2, P3, P4, P5, ⟨h0, h1, h2, h3, h4, h5⟩, hi_, hd⟩ := h
  exact ⟨P0, P1, P2, P3, P4, P5, ⟨Kd.R_drewN h0 m, Kd.R_drewN h1 m, Kd.R_drewN h2 m, Kd.R_drewN h3 m, Kd.R_drewN h4 m, Kd.R_drewN h5 m⟩, hi_, hd⟩
theorem OwnPacked.slices {D : Prop} {W : World} {b lo hi : Nat} {v0 v1 v2 v3 v4 v5 : Value} {l0 : List Int} {l1 : List Int} {l2 : List Int} {l3 : List Int} {l4 : List Int} {l5 : List Int} (h : OwnPacked D W b lo hi v0 v1 v2 v3 v4 v5 l0 l1 l2 l3 l4 l5) : ∃ A0 c0 A1 c1 A2 c2 A3 c3 A4 c4 A5 c5, v0 = .slice A0 l0.length c0 ∧ v1 = .slice A1 l1.length c1 ∧ v2 = .slice A2 l2.length c2 ∧ v3 = .slice A3 l3.length c3 ∧ v4 = .slice A4 l4.length c4 ∧ v5 = .slice A5 l5.length c5 := by
  obtain ⟨P0, P1, P2, P3, P4, P5, ⟨h0, h1, h2, h3, h4, h5⟩, hi_, hd⟩ := h
  obtain ⟨A0, c0, e0⟩ := Kd.R_slice h0
  obtain ⟨A1, c1, e1⟩ := Kd.R_slice h1
  obtain ⟨A2, c2, e2⟩ := Kd.R_slice h2
  obtain ⟨A3, c3, e3⟩ := Kd.R_slice h3
  obtain ⟨A4, c4, e4⟩ := Kd.R_slice h4
  obtain ⟨A5, c5, e5⟩ := Kd.R_slice h5
  exact ⟨A0, c0, A1, c1, A2, c2, A3, c3, A4, c4, A5, c5, e0, e1, e2, e3, e4, e5⟩
theorem OwnPacked.rd0 {D : Prop} {W : World} {b lo hi : Nat} {v0 v1 v2 v3 v4 v5 : Value} {l0 : List Int} {l1 : List Int} {l2 : List Int} {l3 : List Int} {l4 : List Int} {l5 : List Int} {A : Option Addr} {m c : Nat} (h : OwnPacked D W b lo hi v0 v1 v2 v3 v4 v5 l0 l1 l2 l3 l4 l5) (e : v0 = .slice A m c) : m = l0.length ∧ m ≤ c ∧ (Kd.int .i64).C W A l0.length l0 := by
  obtain ⟨P0, P1, P2, P3, P4, P5, ⟨h0, h1, h2, h3, h4, h5⟩, hi_, hd⟩ := h
  subst e
  exact Kd.R_reads' h0
theorem OwnPacked.rd1 {D : Prop} {W : World} {b lo hi : Nat} {v0 v1 v2 v3 v4 v5 : Value} {l0 : List Int} {l1 : List Int} {l2 : List Int} {l3 : List Int} {l4 : List Int} {l5 : List Int} {A : Option Addr} {m c : Nat} (h : OwnPacked D W b lo hi v0 v1 v2 v3 v4 v5 l0 l1 l2 l3 l4 l5) (e : v1 = .slice A m c) : m = l1.length ∧ m ≤ c ∧ (Kd.int .i64).C W A l1.length l1 := by
  obtain ⟨P0, P1, P2, P3, P4, P5, ⟨h0, h1, h2, h3, h4, h5⟩, hi_, hd⟩ := h
  subst e
  exact Kd.R_reads' h1
theorem OwnPacked.rd2 {D : Prop} {W : World} {b lo hi : Nat} {v0 v1 v2 v3 v4 v5 : Value} {l0 : List Int} {l1 : List Int} {l2 : List Int} {l3 : List Int} {l4 : List Int} {l5 : List Int} {A : Option Addr} {m c : Nat} (h : OwnPacked D W b lo hi v0 v1 v2 v3 v4 v5 l0 l1 l2 l3 l4 l5) (e : v2 = .slice A m c) : m = l2.length ∧ m ≤ c ∧ (Kd.int .i64).C W A l2.length l2 := by
  obtain ⟨P0, P1, P2, P3, P4, P5, ⟨h0, h1, h2, h3, h4, h5⟩, hi_, hd⟩ := h
  subst e
  exact Kd.R_reads' h2
theorem OwnPacked.rd3 {D : Prop} {W : World} {b lo hi : Nat} {v0 v1 v2 v3 v4 v5 : Value} {l0 : List Int} {l1 : List Int} {l2 : List Int} {l3 : List Int} {l4 : List Int} {l5 : List Int} {A : Option Addr} {m c : Nat} (h : OwnPacked D W b lo hi v0 v1 v2 v3 v4 v5 l0 l1 l2 l3 l4 l5) (e : v3 = .slice A m c) : m = l3.length ∧ m ≤ c ∧ (Kd.int .i64).C W A l3.length l3 := by
  obtain ⟨P0, P1, P2, P3, P4, P5, ⟨h0, h1, h2, h3, h4, h5⟩, hi_, hd⟩ := h
  subst e
  exact Kd.R_reads' h3
theorem OwnPacked.rd4 {D : Prop} {W : World} {b lo hi : Nat} {v0 v1 v2 v3 v4 v5 : Value} {l0 : List Int} {l1 : List Int} {l2 : List Int} {l3 : List Int} {l4 : List Int} {l5 : List Int} {A : Option Addr} {m c : Nat} (h : OwnPacked D W b lo hi v0 v1 v2 v3 v4 v5 l0 l1 l2 l3 l4 l5) (e : v4 = .slice A m c) : m = l4.length ∧ m ≤ c ∧ (Kd.int .i64).C W A l4.length l4 := by
  obtain ⟨P0, P1, P2, P3, P4, P5, ⟨h0, h1, h2, h3, h4, h5⟩, hi_, hd⟩ := h
  subst e
  exact Kd.R_reads' h4
theorem OwnPacked.rd5 {D : Prop} {W : World} {b lo hi : Nat} {v0 v1 v2 v3 v4 v5 : Value} {l0 : List Int} {l1 : List Int} {l2 : List Int} {l3 : List Int} {l4 : List Int} {l5 : List Int} {A : Option Addr} {m c : Nat} (h : OwnPacked D W b lo hi v0 v1 v2 v3 v4 v5 l0 l1 l2 l3 l4 l5) (e : v5 = .slice A m c) : m = l5.length ∧ m ≤ c ∧ (Kd.int .i64).C W A l5.length l5 := by
  obtain ⟨P0, P1, P2, P3, P4, P5, ⟨h0, h1, h2, h3, h4, h5⟩, hi_, hd⟩ := h
  subst e
  exact Kd.R_reads' h5
theorem OwnPacked.of {W : World} {b lo : Nat} {v0 v1 v2 v3 v4 v5 : Value} {l0 : List Int} {l1 : List Int} {l2 : List Int} {l3 : List Int} {l4 : List Int} {l5 : List Int} {ok0 : Nat → Prop} {ok1 : Nat → Prop} {ok2 : Nat → Prop} {ok3 : Nat → Prop} {ok4 : Nat → Prop} {ok5 : Nat → Prop} (hb : b ≤ lo) (ho0 : Kd.R (Kd.int .i64) 2 W lo ok0 v0 l0) (ho1 : Kd.R (Kd.int .i64) 2 W lo ok1 v1 l1) (ho2 : Kd.R (Kd.int .i64) 2 W lo ok2 v2 l2) (ho3 : Kd.R (Kd.int .i64) 2 W lo ok3 v3 l3) (ho4 : Kd.R (Kd.int .i64) 2 W lo ok4 v4 l4) (ho5 : Kd.R (Kd.int .i64) 2 W lo ok5 v5 l5) (d0_1 : ∀ k, ok0 k → some k ≠ v1.ownBlock) (d0_2 : ∀ k, ok0 k → some k ≠ v2.ownBlock) (d0_3 : ∀ k, ok0 k → some k ≠ v3.ownBlock) (d0_4 : ∀ k, ok0 k → some k ≠ v4.ownBlock) (d0_5 : ∀ k, ok0 k → some k ≠ v5.ownBlock) (d1_2 : ∀ k, ok1 k → some k ≠ v2.ownBlock) (d1_3 : ∀ k, ok1 k → some k ≠ v3.ownBlock) (d1_4 : ∀ k, ok1 k → some k ≠ v4.ownBlock) (d1_5 : ∀ k, ok1 k → some k ≠ v5.ownBlock) (d2_3 : ∀ k, ok2 k → some k ≠ v3.ownBlock) (d2_4 : ∀ k, ok2 k → some k ≠ v4.ownBlock) (d2_5 : ∀ k, ok2 k → some k ≠ v5.ownBlock) (d3_4 : ∀ k, ok3 k → some k ≠ v4.ownBlock) (d3_5 : ∀ k, ok3 k → some k ≠ v5.ownBlock) (d4_5 : ∀ k, ok4 k → some k ≠ v5.ownBlock) : OwnPacked True W b lo W.heap.size v0 v1 v2 v3 v4 v5 l0 l1 l2 l3 l4 l5 :=
  ⟨(fun k => some k = v0.ownBlock ∧ lo ≤ k ∧ k < W.heap.size), (fun k => some k = v1.ownBlock ∧ lo ≤ k ∧ k < W.heap.size), (fun k => some k = v2.ownBlock ∧ lo ≤ k ∧ k < W.heap.size), (fun k => some k = v3.ownBlock ∧ lo ≤ k ∧ k < W.heap.size), (fun k => some k = v4.ownBlock ∧ lo ≤ k ∧ k < W.heap.size), (fun k => some k = v5.ownBlock ∧ lo ≤ k ∧ k < W.heap.size), ⟨Kd.R_lower (Kd.R_mono (Kd.R_bound (Kd.R_tight rfl ho0)) (ok' := fun k => some k = v0.ownBlock ∧ lo ≤ k ∧ k < W.heap.size) (fun k q => ⟨q.1, q.2.1, q.2.2.1⟩)) hb, Kd.R_lower (Kd.R_mono (Kd.R_bound (Kd.R_tight rfl ho1)) (ok' := fun k => some k = v1.ownBlock ∧ lo ≤ k ∧ k < W.heap.size) (fun k q => ⟨q.1, q.2.1, q.2.2.1⟩)) hb, Kd.R_lower (Kd.R_mono (Kd.R_bound (Kd.R_tight rfl ho2)) (ok' := fun k => some k = v2.ownBlock ∧ lo ≤ k ∧ k < W.heap.size) (fun k q => ⟨q.1, q.2.1, q.2.2.1⟩)) hb, Kd.R_lower (Kd.R_mono (Kd.R_bound (Kd.R_tight rfl ho3)) (ok' := fun k => some k = v3.ownBlock ∧ lo ≤ k ∧ k < W.heap.size) (fun k q => ⟨q.1, q.2.1, q.2.2.1⟩)) hb, Kd.R_lower (Kd.R_mono (Kd.R_bound (Kd.R_tight rfl ho4)) (ok' := fun k => some k = v4.ownBlock ∧ lo ≤ k ∧ k < W.heap.size) (fun k q => ⟨q.1, q.2.1, q.2.2.1⟩)) hb, Kd.R_lower (Kd.R_mono (Kd.R_bound (Kd.R_tight rfl ho5)) (ok' := fun k => some k = v5.ownBlock ∧ lo ≤ k ∧ k < W.heap.size) (fun k q => ⟨q.1, q.2.1, q.2.2.1⟩)) hb⟩, fun k q => by rcases q with q | q | q | q | q | q <;> exact q.2, fun _ => ⟨fun k q q2 => d0_1 k (ho0.1 k q.1.symm) q2.1, fun k q q2 => d0_2 k (ho0.1 k q.1.symm) q2.1, fun k q q2 => d0_3 k (ho0.1 k q.1.symm) q2.1, fun k q q2 => d0_4 k (ho0.1 k q.1.symm) q2.1, fun k q q2 => d0_5 k (ho0.1 k q.1.symm) q2.1, fun k q q2 => d1_2 k (ho1.1 k q.1.symm) q2.1, fun k q q2 => d1_3 k (ho1.1 k q.1.symm) q2.1, fun k q q2 => d1_4 k (ho1.1 k q.1.symm) q2.1, fun k q q2 => d1_5 k (ho1.1 k q.1.symm) q2.1, fun k q q2 => d2_3 k (ho2.1 k q.1.symm) q2.1, fun k q q2 => d2_4 k (ho2.1 k q.1.symm) q2.1, fun k q q2 => d2_5 k (ho2.1 k q.1.symm) q2.1, fun k q q2 => d3_4 k (ho3.1 k q.1.symm) q2.1, fun k q q2 => d3_5 k (ho3.1 k q.1.symm) q2.1, fun k q q2 => d4_5 k (ho4.1 k q.1.symm) q2.1⟩⟩
theorem OwnPacked.of0 {W : World} {b lo : Nat} {v0 v1 v2 v3 v4 v5 : Value} {l0 : List Int} {l1 : List Int} {l2 : List Int} {l3 : List Int} {l4 : List Int} {l5 : List Int} {ok0 : Nat → Prop} {ok1 : Nat → Prop} {ok2 : Nat → Prop} {ok3 : Nat → Prop} {ok4 : Nat → Prop} {ok5 : Nat → Prop} (hb : b ≤ lo) (ho0 : Kd.R (Kd.int .i64) 2 W lo ok0 v0 l0) (ho1 : Kd.R (Kd.int .i64) 2 W lo ok1 v1 l1) (ho2 : Kd.R (Kd.int .i64) 2 W lo ok2 v2 l2) (ho3 : Kd.R (Kd.int .i64) 2 W lo ok3 v3 l3) (ho4 : Kd.R (Kd.int .i64) 2 W lo ok4 v4 l4) (ho5 : Kd.R (Kd.int .i64) 2 W lo ok5 v5 l5) : OwnPacked False W b lo W.heap.size v0 v1 v2 v3 v4 v5 l0 l1 l2 l3 l4 l5 :=
  ⟨(fun k => some k = v0.ownBlock ∧ lo ≤ k ∧ k < W.heap.size), (fun k => some k = v1.ownBlock ∧ lo ≤ k ∧ k < W.heap.size), (fun k => some k = v2.ownBlock ∧ lo ≤ k ∧ k < W.heap.size), (fun k => some k = v3.ownBlock ∧ lo ≤ k ∧ k < W.heap.size), (fun k => some k = v4.ownBlock ∧ lo ≤ k ∧ k < W.heap.size), (fun k => some k = v5.ownBlock ∧ lo ≤ k ∧ k < W.heap.size), ⟨Kd.R_lower (Kd.R_mono (Kd.R_bound (Kd.R_tight rfl ho0)) (ok' := fun k => some k = v0.ownBlock ∧ lo ≤ k ∧ k < W.heap.size) (fun k q => ⟨q.1, q.2.1, q.2.2.1⟩)) hb, Kd.R_lower (Kd.R_mono (Kd.R_bound (Kd.R_tight rfl ho1)) (ok' := fun k => some k = v1.ownBlock ∧ lo ≤ k ∧ k < W.heap.size) (fun k q => ⟨q.1, q.2.1, q.2.2.1⟩)) hb, Kd.R_lower (Kd.R_mono (Kd.R_bound (Kd.R_tight rfl ho2)) (ok' := fun k => some k = v2.ownBlock ∧ lo ≤ k ∧ k < W.heap.size) (fun k q => ⟨q.1, q.2.1, q.2.2.1⟩)) hb, Kd.R_lower (Kd.R_mono (Kd.R_bound (Kd.R_tight rfl ho3)) (ok' := fun k => some k = v3.ownBlock ∧ lo ≤ k ∧ k < W.heap.size) (fun k q => ⟨q.1, q.2.1, q.2.2.1⟩)) hb, Kd.R_lower (Kd.R_mono (Kd.R_bound (Kd.R_tight rfl ho4)) (ok' := fun k => some k = v4.ownBlock ∧ lo ≤ k ∧ k < W.heap.size) (fun k q => ⟨q.1, q.2.1, q.2.2.1⟩)) hb, Kd.R_lower (Kd.R_mono (Kd.R_bound (Kd.R_tight rfl ho5)) (ok' := fun k => some k = v5.ownBlock ∧ lo ≤ k ∧ k < W.heap.size) (fun k q => ⟨q.1, q.2.1, q.2.2.1⟩)) hb⟩, fun k q => by rcases q with q | q | q | q | q | q <;> exact q.2, fun q => q.elim⟩
theorem OwnPacked.mark {W w0 : World} {lo hi : Nat} {v0 v1 v2 v3 v4 v5 : Value} {l0 : List Int} {l1 : List Int} {l2 : List Int} {l3 : List Int} {l4 : List Int} {l5 : List Int} (k : Nat)  (a m : Int) (y0 : List Int) (y1 : List Int) (y2 : List Int) (y3 : List Int) (y4 : List Int) (y5 : List Int) (h : OwnPacked True W w0.heap.size lo hi v0 v1 v2 v3 v4 v5 l0 l1 l2 l3 l4 l5) (hB : Below w0.heap.size w0 W) (hlo : lo ≤ W.heap.size) (hf : laws_markPacked.f k l0 l1 l2 l3 l4 l5 a = some (m, y0, y1, y2, y3, y4, y5)) :
    Calls Try.prog 52 #[.agg #[v0, v1, v2, v3, v4, v5], .int .i64 a] W fun e w' => e = .returned (.int .i64 m) ∧ OwnPacked False w' w0.heap.size lo w'.heap.size v0 v1 v2 v3 v4 v5 y0 y1 y2 y3 y4 y5 ∧ Below w0.heap.size w0 w' ∧ Kept W w' (fun k => lo ≤ k ∧ k < hi) := by
  obtain ⟨P0, P1, P2, P3, P4, P5, ⟨h0, h1, h2, h3, h4, h5⟩, hi_, hd⟩ := h
  obtain ⟨d0_1, d0_2, d0_3, d0_4, d0_5, d1_2, d1_3, d1_4, d1_5, d2_3, d2_4, d2_5, d3_4, d3_5, d4_5⟩ := hd trivial
  refine (laws_markPacked.calls k  P0 v0 l0 P1 v1 l1 P2 v2 l2 P3 v3 l3 P4 v4 l4 P5 v5 l5 a m y0 y1 y2 y3 y4 y5 w0 W hB h0 d0_1 d0_2 d0_3 d0_4 d0_5 h1 (fun k q q2 => d0_1 k q2 q) d1_2 d1_3 d1_4 d1_5 h2 (fun k q q2 => d0_2 k q2 q) (fun k q q2 => d1_2 k q2 q) d2_3 d2_4 d2_5 h3 (fun k q q2 => d0_3 k q2 q) (fun k q q2 => d1_3 k q2 q) (fun k q q2 => d2_3 k q2 q) d3_4 d3_5 h4 (fun k q q2 => d0_4 k q2 q) (fun k q q2 => d1_4 k q2 q) (fun k q q2 => d2_4 k q2 q) (fun k q q2 => d3_4 k q2 q) d4_5 h5 (fun k q q2 => d0_5 k q2 q) (fun k q q2 => d1_5 k q2 q) (fun k q q2 => d2_5 k q2 q) (fun k q q2 => d3_5 k q2 q) (fun k q q2 => d4_5 k q2 q) hf).mono ?_
  rintro e w' ⟨rfl, g0, g1, g2, g3, g4, g5, hb, hk⟩
  refine ⟨rfl, ⟨(fun k => lo ≤ k ∧ k < w'.heap.size), (fun k => lo ≤ k ∧ k < w'.heap.size), (fun k => lo ≤ k ∧ k < w'.heap.size), (fun k => lo ≤ k ∧ k < w'.heap.size), (fun k => lo ≤ k ∧ k < w'.heap.size), (fun k => lo ≤ k ∧ k < w'.heap.size), ⟨Kd.R_mono (Kd.R_bound g0) (fun k q => ⟨q.1.elim (fun q => (hi_ k q).1) (fun q => Nat.le_trans hlo q), q.2.2.1⟩), Kd.R_mono (Kd.R_bound g1) (fun k q => ⟨q.1.elim (fun q => (hi_ k q).1) (fun q => Nat.le_trans hlo q), q.2.2.1⟩), Kd.R_mono (Kd.R_bound g2) (fun k q => ⟨q.1.elim (fun q => (hi_ k q).1) (fun q => Nat.le_trans hlo q), q.2.2.1⟩), Kd.R_mono (Kd.R_bound g3) (fun k q => ⟨q.1.elim (fun q => (hi_ k q).1) (fun q => Nat.le_trans hlo q), q.2.2.1⟩), Kd.R_mono (Kd.R_bound g4) (fun k q => ⟨q.1.elim (fun q => (hi_ k q).1) (fun q => Nat.le_trans hlo q), q.2.2.1⟩), Kd.R_mono (Kd.R_bound g5) (fun k q => ⟨q.1.elim (fun q => (hi_ k q).1) (fun q => Nat.le_trans hlo q), q.2.2.1⟩)⟩, fun k q => by rcases q with q | q | q | q | q | q <;> exact q, fun q => q.elim⟩, hb, hk.mono (fun k q => hi_ k q)⟩
theorem OwnPacked.held {D : Prop} {W : World} {b lo hi : Nat} {v0 v1 v2 v3 v4 v5 : Value} {l0 : List Int} {l1 : List Int} {l2 : List Int} {l3 : List Int} {l4 : List Int} {l5 : List Int} (k : Nat) (a m : Int) (h : OwnPacked D W b lo hi v0 v1 v2 v3 v4 v5 l0 l1 l2 l3 l4 l5) (hf : laws_heldPacked.f k l0 l1 l2 l3 l4 l5 a = some m) :
    Calls Try.prog 53 #[.agg #[v0, v1, v2, v3, v4, v5], .int .i64 a] W fun e w' => e = .returned (.int .i64 m) ∧ Below W.heap.size W w' := by
  obtain ⟨A0, c0, A1, c1, A2, c2, A3, c3, A4, c4, A5, c5, e0, e1, e2, e3, e4, e5⟩ := h.slices
  subst e0
  subst e1
  subst e2
  subst e3
  subst e4
  subst e5
  exact laws_heldPacked.calls k A0 c0 l0 A1 c1 l1 A2 c2 l2 A3 c3 l3 A4 c4 l4 A5 c5 l5 a m W (h.rd0 rfl).2.2 (h.rd0 rfl).2.1 (h.rd1 rfl).2.2 (h.rd1 rfl).2.1 (h.rd2 rfl).2.2 (h.rd2 rfl).2.1 (h.rd3 rfl).2.2 (h.rd3 rfl).2.1 (h.rd4 rfl).2.2 (h.rd4 rfl).2.1 (h.rd5 rfl).2.2 (h.rd5 rfl).2.1 hf
def laws_FnExactPack.ok (k : Nat) (l0_0 : List Int) (l0_1 : List (List Int)) (l0_2 : List Int) : Prop := ∃ (e0_0 : List Int) (e0_1 : List (List Int)) (e0_2 : List Int) (o0_0 : List Int) (o0_1 : List Int) (o0_2 : List Int) (o0_3 : List Int) (o0_4 : List Int) (o0_5 : List Int) (b1 : Bool) (m0 : Int) (y0_0 : List Int) (y0_1 : List (List Int)) (y0_2 : List Int) (mr : Int) (z0_ : List Int) (z1_ : List Int) (z2_ : List Int) (z3_ : List Int) (z4_ : List Int) (z5_ : List Int), laws_toDfa.f k l0_0 l0_1 l0_2 = some (e0_0, e0_1, e0_2) ∧ spec_Pack.f k e0_0 e0_1 e0_2 = some (o0_0, o0_1, o0_2, o0_3, o0_4, o0_5, b1) ∧ impl_Pack.f k e0_0 e0_1 e0_2 = some (o0_0, o0_1, o0_2, o0_3, o0_4, o0_5, b1) ∧ laws_eqPacked.f k o0_0 o0_1 o0_2 o0_3 o0_4 o0_5 o0_0 o0_1 o0_2 o0_3 o0_4 o0_5 = some true ∧ laws_eqDfa.f k e0_0 e0_1 e0_2 e0_0 e0_1 e0_2 = some true ∧ laws_markDfa.f k e0_0 e0_1 e0_2 1 = some (m0, y0_0, y0_1, y0_2) ∧ 0 ≤ m0 ∧ laws_markPacked.f k o0_0 o0_1 o0_2 o0_3 o0_4 o0_5 1 = some (mr, z0_, z1_, z2_, z3_, z4_, z5_) ∧ laws_heldPacked.f k z0_ z1_ z2_ z3_ z4_ z5_ 1 = some mr ∧ 0 ≤ mr
open Classical in
noncomputable def laws_FnExactPack.f (k : Nat) (l0_0 : List Int) (l0_1 : List (List Int)) (l0_2 : List Int) : Option Bool := (laws_szDfa.f k l0_0 l0_1 l0_2 1048576).bind fun t0_ => if t0_ < 0 then some true else (if laws_FnExactPack.ok k l0_0 l0_1 l0_2 then some true else none)
set_option maxHeartbeats 16000000 in
set_option maxRecDepth 100000 in
theorem laws_FnExactPack.calls (k : Nat) (A0_0 : Option Addr) (c0_0 : Nat) (l0_0 : List Int) (A0_1 : Option Addr) (c0_1 : Nat) (l0_1 : List (List Int)) (A0_2 : Option Addr) (c0_2 : Nat) (l0_2 : List Int) (r : Bool) (w : World) (hr0_0 : Kd.C (Kd.int .i64) w A0_0 l0_0.length l0_0) (hc0_0 : l0_0.length ≤ c0_0) (hr0_1 : Kd.C (Kd.slice 2 (Kd.int .i64)) w A0_1 l0_1.length l0_1) (hc0_1 : l0_1.length ≤ c0_1) (hr0_2 : Kd.C (Kd.int .i64) w A0_2 l0_2.length l0_2) (hc0_2 : l0_2.length ≤ c0_2) (h : laws_FnExactPack.f k l0_0 l0_1 l0_2 = some r) :
    Calls Try.prog 9 #[.agg #[.slice A0_0 l0_0.length c0_0, .slice A0_1 l0_1.length c0_1, .slice A0_2 l0_2.length c0_2]] w fun e w' => e = .returned (.bool r) ∧ Below w.heap.size w w' := by
  have hu0 := Try.underlying53
  have hu1 := Try.underlying74
  have hu2 := Try.underlying49
  have HR0_0 := Aside0.mk hr0_0
  have HC0_0 := Aside0.mk hc0_0
  have HR0_1 := Aside0.mk hr0_1
  have HC0_1 := Aside0.mk hc0_1
  have HR0_2 := Aside0.mk hr0_2
  have HC0_2 := Aside0.mk hc0_2
  clear hr0_0 hc0_0 hr0_1 hc0_1 hr0_2 hc0_2
  have HB := Aside0.mk (Below.refl w.heap.size w)
  unfold laws_FnExactPack.f at h
  obtain ⟨t0_, ht_, h⟩ := Option.bind_eq_some_iff.1 h
  have HSt0_ := Aside0.mk ht_
  clear ht_
  by_cases ct0_ : t0_ < 0
  · rw [if_pos ct0_] at h
    obtain rfl := Option.some.inj h
    replace ct0_ := eq_true ct0_
    clear h
    go_enter Try.func9, Try.ntmps9
    go_wp2_with (first | ((with_reducible refine gate_dst (N := 1) rfl ?_); refine box_event ?hg (N := 1) ?hd (cs := #[.slice A0_0 l0_0.length c0_0, .slice A0_1 l0_1.length c0_1, .slice A0_2 l0_2.length c0_2]) (t := 49) ?hr ?_; (case hd => rfl); (case hg => rfl); (case hr => first | (go_simp; done) | (go_simp; rfl)); intro gBK1 hg w1_ hbox hb; have HZ1 := Aside0.mk (show w.heap.size ≤ w1_.heap.size from hb.size); have HB := Aside0.mk (below_step (show Below w.heap.size w _ from by (with_reducible repeat apply pw_below_drewN); exact HB.out) hb); have BK1 := Aside0.mk hbox; have HGBK1 := Aside0.mk (show gBK1 = w.heap.size ∧ gBK1 < w1_.heap.size from ⟨hg, blk_lt hbox⟩); have GEBK1 := Aside0.mk (show w.heap.size ≤ gBK1 from by have z0_ := HZ1.out; have z1_ := HGBK1.out; omega); clear hb hbox hg; have hczBK1_0 : w1_.cell? ⟨gBK1, 0, none⟩ = some (.slice A0_0 l0_0.length c0_0) := (blk_cell BK1.out 0).trans rfl; have hczBK1_1 : w1_.cell? ⟨gBK1, 1, none⟩ = some (.slice A0_1 l0_1.length c0_1) := (blk_cell BK1.out 1).trans rfl; have hczBK1_2 : w1_.cell? ⟨gBK1, 2, none⟩ = some (.slice A0_2 l0_2.length c0_2) := (blk_cell BK1.out 2).trans rfl; have hfzBK1_0 := blk_frozen BK1.out 0; have hfzBK1_1 := blk_frozen BK1.out 1; have hfzBK1_2 := blk_frozen BK1.out 2))
    refine (laws_szDfa.calls k _ _ l0_0 _ _ l0_1 _ _ l0_2 1048576 t0_ _ ?s1_ ?s2_ ?s3_ ?s4_ ?s5_ ?s6_ HSt0_.out).mono ?_
    case s1_ => (with_reducible repeat refine Kd.C_drewN ?_ _); exact Kd.C_below HR0_0.out HB.out
    case s2_ => exact HC0_0.out
    case s3_ => (with_reducible repeat refine Kd.C_drewN ?_ _); exact Kd.C_below HR0_1.out HB.out
    case s4_ => exact HC0_1.out
    case s5_ => (with_reducible repeat refine Kd.C_drewN ?_ _); exact Kd.C_below HR0_2.out HB.out
    case s6_ => exact HC0_2.out
    rintro e w2_ ⟨rfl, hb⟩
    have BK1 := Aside0.mk (show w2_.heap[gBK1]? = some (.cells #[.slice A0_0 l0_0.length c0_0, .slice A0_1 l0_1.length c0_1, .slice A0_2 l0_2.length c0_2] 49 (0, 0)) from (hb.block _ (blk_lt BK1.out)).trans BK1.out)
    have HZ2 := Aside0.mk (show w1_.heap.size ≤ w2_.heap.size from hb.size)
    have HB := Aside0.mk (below_step (show Below w.heap.size w _ from by (with_reducible repeat apply pw_below_drewN); exact HB.out) hb)
    (try clear hczBK1_0 hczBK1_1 hczBK1_2)
    have hczBK1_0 : w2_.cell? ⟨gBK1, 0, none⟩ = some (.slice A0_0 l0_0.length c0_0) := (blk_cell BK1.out 0).trans rfl
    have hczBK1_1 : w2_.cell? ⟨gBK1, 1, none⟩ = some (.slice A0_1 l0_1.length c0_1) := (blk_cell BK1.out 1).trans rfl
    have hczBK1_2 : w2_.cell? ⟨gBK1, 2, none⟩ = some (.slice A0_2 l0_2.length c0_2) := (blk_cell BK1.out 2).trans rfl
    clear hb
    go_wp2
    go_ret
    exact ⟨by first | rfl | (simp; done), by (with_reducible repeat apply pw_below_drewN); exact HB.out⟩
  rw [if_neg ct0_] at h
  replace ct0_ := eq_false ct0_
  by_cases hok : ¬ laws_FnExactPack.ok k l0_0 l0_1 l0_2
  · rw [if_neg hok] at h; exact absurd h (by simp)
  · replace hok := Classical.not_not.1 hok
    rw [if_pos hok] at h
    obtain rfl := Option.some.inj h
    obtain ⟨e0_0, e0_1, e0_2, o0_0, o0_1, o0_2, o0_3, o0_4, o0_5, b1, m0, y0_0, y0_1, y0_2, mr, z0_, z1_, z2_, z3_, z4_, z5_, f0, f1, f2, f3, f4, f5, f6, f7, f8, f9⟩ := hok
    have HFt0 := Aside0.mk f0
    have HFspec := Aside0.mk f1
    have HFimpl := Aside0.mk f2
    have HFeR := Aside0.mk f3
    have HFeX0 := Aside0.mk f4
    have HFmP0 := Aside0.mk f5
    have HFm0 := Aside0.mk f6
    have HFmR := Aside0.mk f7
    have HFh := Aside0.mk f8
    have HFh0 := Aside0.mk f9
    clear h f0 f1 f2 f3 f4 f5 f6 f7 f8 f9
    have hbbb1 : (b1 != b1) = false := bne_self_eq_false b1
    go_enter Try.func9, Try.ntmps9
    go_wp2_with (first | ((with_reducible refine gate_dst (N := 1) rfl ?_); refine box_event ?hg (N := 1) ?hd (cs := #[.slice A0_0 l0_0.length c0_0, .slice A0_1 l0_1.length c0_1, .slice A0_2 l0_2.length c0_2]) (t := 49) ?hr ?_; (case hd => rfl); (case hg => rfl); (case hr => first | (go_simp; done) | (go_simp; rfl)); intro gBK1 hg w1_ hbox hb; have HZ1 := Aside0.mk (show w.heap.size ≤ w1_.heap.size from hb.size); have HB := Aside0.mk (below_step (show Below w.heap.size w _ from by (with_reducible repeat apply pw_below_drewN); exact HB.out) hb); have BK1 := Aside0.mk hbox; have HGBK1 := Aside0.mk (show gBK1 = w.heap.size ∧ gBK1 < w1_.heap.size from ⟨hg, blk_lt hbox⟩); have GEBK1 := Aside0.mk (show w.heap.size ≤ gBK1 from by have z0_ := HZ1.out; have z1_ := HGBK1.out; omega); clear hb hbox hg; have hczBK1_0 : w1_.cell? ⟨gBK1, 0, none⟩ = some (.slice A0_0 l0_0.length c0_0) := (blk_cell BK1.out 0).trans rfl; have hczBK1_1 : w1_.cell? ⟨gBK1, 1, none⟩ = some (.slice A0_1 l0_1.length c0_1) := (blk_cell BK1.out 1).trans rfl; have hczBK1_2 : w1_.cell? ⟨gBK1, 2, none⟩ = some (.slice A0_2 l0_2.length c0_2) := (blk_cell BK1.out 2).trans rfl; have hfzBK1_0 := blk_frozen BK1.out 0; have hfzBK1_1 := blk_frozen BK1.out 1; have hfzBK1_2 := blk_frozen BK1.out 2))
    refine (laws_szDfa.calls k _ _ l0_0 _ _ l0_1 _ _ l0_2 1048576 t0_ _ ?s1_ ?s2_ ?s3_ ?s4_ ?s5_ ?s6_ HSt0_.out).mono ?_
    case s1_ => (with_reducible repeat refine Kd.C_drewN ?_ _); exact Kd.C_below HR0_0.out HB.out
    case s2_ => exact HC0_0.out
    case s3_ => (with_reducible repeat refine Kd.C_drewN ?_ _); exact Kd.C_below HR0_1.out HB.out
    case s4_ => exact HC0_1.out
    case s5_ => (with_reducible repeat refine Kd.C_drewN ?_ _); exact Kd.C_below HR0_2.out HB.out
    case s6_ => exact HC0_2.out
    rintro e w2_ ⟨rfl, hb⟩
    have BK1 := Aside0.mk (show w2_.heap[gBK1]? = some (.cells #[.slice A0_0 l0_0.length c0_0, .slice A0_1 l0_1.length c0_1, .slice A0_2 l0_2.length c0_2] 49 (0, 0)) from (hb.block _ (blk_lt BK1.out)).trans BK1.out)
    have HZ2 := Aside0.mk (show w1_.heap.size ≤ w2_.heap.size from hb.size)
    have HB := Aside0.mk (below_step (show Below w.heap.size w _ from by (with_reducible repeat apply pw_below_drewN); exact HB.out) hb)
    (try clear hczBK1_0 hczBK1_1 hczBK1_2)
    have hczBK1_0 : w2_.cell? ⟨gBK1, 0, none⟩ = some (.slice A0_0 l0_0.length c0_0) := (blk_cell BK1.out 0).trans rfl
    have hczBK1_1 : w2_.cell? ⟨gBK1, 1, none⟩ = some (.slice A0_1 l0_1.length c0_1) := (blk_cell BK1.out 1).trans rfl
    have hczBK1_2 : w2_.cell? ⟨gBK1, 2, none⟩ = some (.slice A0_2 l0_2.length c0_2) := (blk_cell BK1.out 2).trans rfl
    clear hb
    go_wp2_with fail
    refine (laws_toDfa.calls k _ _ l0_0 _ _ l0_1 _ _ l0_2 e0_0 e0_1 e0_2 _ ?s7_ ?s8_ ?s9_ ?s10_ ?s11_ ?s12_ HFt0.out).mono ?_
    case s7_ => (with_reducible repeat refine Kd.C_drewN ?_ _); exact Kd.C_below HR0_0.out HB.out
    case s8_ => exact HC0_0.out
    case s9_ => (with_reducible repeat refine Kd.C_drewN ?_ _); exact Kd.C_below HR0_1.out HB.out
    case s10_ => exact HC0_1.out
    case s11_ => (with_reducible repeat refine Kd.C_drewN ?_ _); exact Kd.C_below HR0_2.out HB.out
    case s12_ => exact HC0_2.out
    rintro e w3_ ⟨vOX1_0, vOX1_1, vOX1_2, rfl, ho0, ho1, ho2, hb⟩
    have hOX1 : OwnDfa True w3_ w.heap.size w2_.heap.size w3_.heap.size vOX1_0 vOX1_1 vOX1_2 e0_0 e0_1 e0_2 := OwnDfa.of (show w.heap.size ≤ w2_.heap.size from by have z0_ := HZ1.out; have z1_ := HGBK1.out; have z2_ := HZ2.out; omega) ho0 ho1 ho2 (fun k_ q_ => by first | exact q_ | (simp only [ne_eq] at q_ ⊢; simp [q_])) (fun k_ q_ => by first | exact q_ | (simp only [ne_eq] at q_ ⊢; simp [q_])) (fun k_ q_ => by first | exact q_ | (simp only [ne_eq] at q_ ⊢; simp [q_]))
    obtain ⟨AOX1_0, cOX1_0, AOX1_1, cOX1_1, AOX1_2, cOX1_2, eOX1_0, eOX1_1, eOX1_2⟩ := hOX1.slices
    subst eOX1_0
    subst eOX1_1
    subst eOX1_2
    have BK1 := Aside0.mk (show w3_.heap[gBK1]? = some (.cells #[.slice A0_0 l0_0.length c0_0, .slice A0_1 l0_1.length c0_1, .slice A0_2 l0_2.length c0_2] 49 (0, 0)) from (hb.block _ (blk_lt BK1.out)).trans BK1.out)
    have HZ3 := Aside0.mk (show w2_.heap.size ≤ w3_.heap.size from hb.size)
    have HB := Aside0.mk (below_step (show Below w.heap.size w _ from by (with_reducible repeat apply pw_below_drewN); exact HB.out) hb)
    have OX1 := Aside0.mk hOX1
    clear hOX1 hb ho0 ho1 ho2
    (try clear hczBK1_0 hczBK1_1 hczBK1_2)
    have hczBK1_0 : w3_.cell? ⟨gBK1, 0, none⟩ = some (.slice A0_0 l0_0.length c0_0) := (blk_cell BK1.out 0).trans rfl
    have hczBK1_1 : w3_.cell? ⟨gBK1, 1, none⟩ = some (.slice A0_1 l0_1.length c0_1) := (blk_cell BK1.out 1).trans rfl
    have hczBK1_2 : w3_.cell? ⟨gBK1, 2, none⟩ = some (.slice A0_2 l0_2.length c0_2) := (blk_cell BK1.out 2).trans rfl
    go_wp2_with fail
    refine (spec_Pack.calls k _ _ e0_0 _ _ e0_1 _ _ e0_2 o0_0 o0_1 o0_2 o0_3 o0_4 o0_5 b1 _ ?s13_ ?s14_ ?s15_ ?s16_ ?s17_ ?s18_ HFspec.out).mono ?_
    case s13_ => exact (OwnDfa.rd0 (by (with_reducible repeat apply OwnDfa.drewN); exact OX1.out) rfl).2.2
    case s14_ => exact (OwnDfa.rd0 OX1.out rfl).2.1
    case s15_ => exact (OwnDfa.rd1 (by (with_reducible repeat apply OwnDfa.drewN); exact OX1.out) rfl).2.2
    case s16_ => exact (OwnDfa.rd1 OX1.out rfl).2.1
    case s17_ => exact (OwnDfa.rd2 (by (with_reducible repeat apply OwnDfa.drewN); exact OX1.out) rfl).2.2
    case s18_ => exact (OwnDfa.rd2 OX1.out rfl).2.1
    rintro e w4_ ⟨vOR1_0, vOR1_1, vOR1_2, vOR1_3, vOR1_4, vOR1_5, rfl, ho0, ho1, ho2, ho3, ho4, ho5, hb⟩
    have hOR1 : OwnPacked True w4_ w.heap.size w3_.heap.size w4_.heap.size vOR1_0 vOR1_1 vOR1_2 vOR1_3 vOR1_4 vOR1_5 o0_0 o0_1 o0_2 o0_3 o0_4 o0_5 := OwnPacked.of (show w.heap.size ≤ w3_.heap.size from by have z0_ := HZ1.out; have z1_ := HGBK1.out; have z2_ := HZ2.out; have z3_ := HZ3.out; omega) ho0 ho1 ho2 ho3 ho4 ho5 (fun k_ q_ => by first | exact q_ | (simp only [ne_eq] at q_ ⊢; simp [q_])) (fun k_ q_ => by first | exact q_ | (simp only [ne_eq] at q_ ⊢; simp [q_])) (fun k_ q_ => by first | exact q_ | (simp only [ne_eq] at q_ ⊢; simp [q_])) (fun k_ q_ => by first | exact q_ | (simp only [ne_eq] at q_ ⊢; simp [q_])) (fun k_ q_ => by first | exact q_ | (simp only [ne_eq] at q_ ⊢; simp [q_])) (fun k_ q_ => by first | exact q_ | (simp only [ne_eq] at q_ ⊢; simp [q_])) (fun k_ q_ => by first | exact q_ | (simp only [ne_eq] at q_ ⊢; simp [q_])) (fun k_ q_ => by first | exact q_ | (simp only [ne_eq] at q_ ⊢; simp [q_])) (fun k_ q_ => by first | exact q_ | (simp only [ne_eq] at q_ ⊢; simp [q_])) (fun k_ q_ => by first | exact q_ | (simp only [ne_eq] at q_ ⊢; simp [q_])) (fun k_ q_ => by first | exact q_ | (simp only [ne_eq] at q_ ⊢; simp [q_])) (fun k_ q_ => by first | exact q_ | (simp only [ne_eq] at q_ ⊢; simp [q_])) (fun k_ q_ => by first | exact q_ | (simp only [ne_eq] at q_ ⊢; simp [q_])) (fun k_ q_ => by first | exact q_ | (simp only [ne_eq] at q_ ⊢; simp [q_])) (fun k_ q_ => by first | exact q_ | (simp only [ne_eq] at q_ ⊢; simp [q_]))
    obtain ⟨AOR1_0, cOR1_0, AOR1_1, cOR1_1, AOR1_2, cOR1_2, AOR1_3, cOR1_3, AOR1_4, cOR1_4, AOR1_5, cOR1_5, eOR1_0, eOR1_1, eOR1_2, eOR1_3, eOR1_4, eOR1_5⟩ := hOR1.slices
    subst eOR1_0
    subst eOR1_1
    subst eOR1_2
    subst eOR1_3
    subst eOR1_4
    subst eOR1_5
    have OX1 := Aside0.mk (OwnDfa.below (show OwnDfa _ _ _ _ _ _ _ _ _ _ _ from by (with_reducible repeat apply OwnDfa.drewN); exact OX1.out) hb)
    have BK1 := Aside0.mk (show w4_.heap[gBK1]? = some (.cells #[.slice A0_0 l0_0.length c0_0, .slice A0_1 l0_1.length c0_1, .slice A0_2 l0_2.length c0_2] 49 (0, 0)) from (hb.block _ (blk_lt BK1.out)).trans BK1.out)
    have HZ4 := Aside0.mk (show w3_.heap.size ≤ w4_.heap.size from hb.size)
    have HB := Aside0.mk (below_step (show Below w.heap.size w _ from by (with_reducible repeat apply pw_below_drewN); exact HB.out) hb)
    have OR1 := Aside0.mk hOR1
    clear hOR1 hb ho0 ho1 ho2 ho3 ho4 ho5
    (try clear hczBK1_0 hczBK1_1 hczBK1_2)
    have hczBK1_0 : w4_.cell? ⟨gBK1, 0, none⟩ = some (.slice A0_0 l0_0.length c0_0) := (blk_cell BK1.out 0).trans rfl
    have hczBK1_1 : w4_.cell? ⟨gBK1, 1, none⟩ = some (.slice A0_1 l0_1.length c0_1) := (blk_cell BK1.out 1).trans rfl
    have hczBK1_2 : w4_.cell? ⟨gBK1, 2, none⟩ = some (.slice A0_2 l0_2.length c0_2) := (blk_cell BK1.out 2).trans rfl
    clear OX1
    go_wp2_with (first | ((with_reducible refine gate_dst (N := 4) rfl ?_); refine box_event ?hg (N := 4) ?hd (cs := #[.slice none 0 0, .slice none 0 0, .slice none 0 0, .slice none 0 0, .slice none 0 0, .slice none 0 0]) (t := 74) ?hr ?_; (case hd => rfl); (case hg => rfl); (case hr => first | (go_simp; done) | (go_simp; rfl)); intro gBK4 hg w5_ hbox hb; have OR1 := Aside0.mk (OwnPacked.below (show OwnPacked _ _ _ _ _ _ _ _ _ _ _ _ _ _ _ _ _ from by (with_reducible repeat apply OwnPacked.drewN); exact OR1.out) hb); have BK1 := Aside0.mk (show w5_.heap[gBK1]? = some (.cells #[.slice A0_0 l0_0.length c0_0, .slice A0_1 l0_1.length c0_1, .slice A0_2 l0_2.length c0_2] 49 (0, 0)) from (hb.block _ (blk_lt BK1.out)).trans BK1.out); have HZ5 := Aside0.mk (show w4_.heap.size ≤ w5_.heap.size from hb.size); have HB := Aside0.mk (below_step (show Below w.heap.size w _ from by (with_reducible repeat apply pw_below_drewN); exact HB.out) hb); have BK4 := Aside0.mk hbox; have HGBK4 := Aside0.mk (show gBK4 = w4_.heap.size ∧ gBK4 < w5_.heap.size from ⟨hg, blk_lt hbox⟩); have GEBK4 := Aside0.mk (show w.heap.size ≤ gBK4 from by have z0_ := HZ1.out; have z1_ := HGBK1.out; have z2_ := HZ2.out; have z3_ := HZ3.out; have z4_ := HZ4.out; have z5_ := HZ5.out; have z6_ := HGBK4.out; omega); clear hb hbox hg; (try clear hczBK1_0 hczBK1_1 hczBK1_2); have hczBK1_0 : w5_.cell? ⟨gBK1, 0, none⟩ = some (.slice A0_0 l0_0.length c0_0) := (blk_cell BK1.out 0).trans rfl; have hczBK1_1 : w5_.cell? ⟨gBK1, 1, none⟩ = some (.slice A0_1 l0_1.length c0_1) := (blk_cell BK1.out 1).trans rfl; have hczBK1_2 : w5_.cell? ⟨gBK1, 2, none⟩ = some (.slice A0_2 l0_2.length c0_2) := (blk_cell BK1.out 2).trans rfl; have hczBK4_0 : w5_.cell? ⟨gBK4, 0, none⟩ = some (.slice none 0 0) := (blk_cell BK4.out 0).trans rfl; have hczBK4_1 : w5_.cell? ⟨gBK4, 1, none⟩ = some (.slice none 0 0) := (blk_cell BK4.out 1).trans rfl; have hczBK4_2 : w5_.cell? ⟨gBK4, 2, none⟩ = some (.slice none 0 0) := (blk_cell BK4.out 2).trans rfl; have hczBK4_3 : w5_.cell? ⟨gBK4, 3, none⟩ = some (.slice none 0 0) := (blk_cell BK4.out 3).trans rfl; have hczBK4_4 : w5_.cell? ⟨gBK4, 4, none⟩ = some (.slice none 0 0) := (blk_cell BK4.out 4).trans rfl; have hczBK4_5 : w5_.cell? ⟨gBK4, 5, none⟩ = some (.slice none 0 0) := (blk_cell BK4.out 5).trans rfl; have hfzBK4_0 := blk_frozen BK4.out 0; have hfzBK4_1 := blk_frozen BK4.out 1; have hfzBK4_2 := blk_frozen BK4.out 2; have hfzBK4_3 := blk_frozen BK4.out 3; have hfzBK4_4 := blk_frozen BK4.out 4; have hfzBK4_5 := blk_frozen BK4.out 5) | ((with_reducible refine gate_store (t := 74) (p := 4) rfl ?_); refine store_event (t := 74) (p := 4) (v := ?vo_w6_) (w1 := ((((((w5_.setCell ⟨gBK4, 0, none⟩ ((.slice AOR1_0 o0_0.length cOR1_0))).setCell ⟨gBK4, 1, none⟩ ((.slice AOR1_1 o0_1.length cOR1_1))).setCell ⟨gBK4, 2, none⟩ ((.slice AOR1_2 o0_2.length cOR1_2))).setCell ⟨gBK4, 3, none⟩ ((.slice AOR1_3 o0_3.length cOR1_3))).setCell ⟨gBK4, 4, none⟩ ((.slice AOR1_4 o0_4.length cOR1_4))).setCell ⟨gBK4, 5, none⟩ ((.slice AOR1_5 o0_5.length cOR1_5)))) ?hg ?ho ?hn ?hr ?_; (case ho => rfl); (case hg => rfl); (case hn => rfl); (case hr => first | (go_simp; done) | (go_simp; rfl)); intro w6_ hw; have hk : Kept w5_ w6_ (fun k_ => k_ = gBK4) := (by rw [hw]; refine Kept.setCell (S := fun k_ => k_ = gBK4) (p := ⟨gBK4, 5, none⟩) ?_ (Or.inl (Eq.refl gBK4)) _; refine Kept.setCell (S := fun k_ => k_ = gBK4) (p := ⟨gBK4, 4, none⟩) ?_ (Or.inl (Eq.refl gBK4)) _; refine Kept.setCell (S := fun k_ => k_ = gBK4) (p := ⟨gBK4, 3, none⟩) ?_ (Or.inl (Eq.refl gBK4)) _; refine Kept.setCell (S := fun k_ => k_ = gBK4) (p := ⟨gBK4, 2, none⟩) ?_ (Or.inl (Eq.refl gBK4)) _; refine Kept.setCell (S := fun k_ => k_ = gBK4) (p := ⟨gBK4, 1, none⟩) ?_ (Or.inl (Eq.refl gBK4)) _; refine Kept.setCell (S := fun k_ => k_ = gBK4) (p := ⟨gBK4, 0, none⟩) ?_ (Or.inl (Eq.refl gBK4)) _; exact Kept.refl _ _); have hbox : w6_.heap[gBK4]? = some (.cells #[(.slice AOR1_0 o0_0.length cOR1_0), (.slice AOR1_1 o0_1.length cOR1_1), (.slice AOR1_2 o0_2.length cOR1_2), (.slice AOR1_3 o0_3.length cOR1_3), (.slice AOR1_4 o0_4.length cOR1_4), (.slice AOR1_5 o0_5.length cOR1_5)] 74 (0, 0)) := (by rw [hw]; refine blk_put (cs := #[(.slice AOR1_0 o0_0.length cOR1_0), (.slice AOR1_1 o0_1.length cOR1_1), (.slice AOR1_2 o0_2.length cOR1_2), (.slice AOR1_3 o0_3.length cOR1_3), (.slice AOR1_4 o0_4.length cOR1_4), .slice none 0 0]) ?_ 5 _ rfl; refine blk_put (cs := #[(.slice AOR1_0 o0_0.length cOR1_0), (.slice AOR1_1 o0_1.length cOR1_1), (.slice AOR1_2 o0_2.length cOR1_2), (.slice AOR1_3 o0_3.length cOR1_3), .slice none 0 0, .slice none 0 0]) ?_ 4 _ rfl; refine blk_put (cs := #[(.slice AOR1_0 o0_0.length cOR1_0), (.slice AOR1_1 o0_1.length cOR1_1), (.slice AOR1_2 o0_2.length cOR1_2), .slice none 0 0, .slice none 0 0, .slice none 0 0]) ?_ 3 _ rfl; refine blk_put (cs := #[(.slice AOR1_0 o0_0.length cOR1_0), (.slice AOR1_1 o0_1.length cOR1_1), .slice none 0 0, .slice none 0 0, .slice none 0 0, .slice none 0 0]) ?_ 2 _ rfl; refine blk_put (cs := #[(.slice AOR1_0 o0_0.length cOR1_0), .slice none 0 0, .slice none 0 0, .slice none 0 0, .slice none 0 0, .slice none 0 0]) ?_ 1 _ rfl; refine blk_put (cs := #[.slice none 0 0, .slice none 0 0, .slice none 0 0, .slice none 0 0, .slice none 0 0, .slice none 0 0]) ?_ 0 _ rfl; exact BK4.out); have hB : Below w.heap.size w w6_ := (by rw [hw]; (with_reducible repeat refine below_set ?_ GEBK4.out); exact HB.out); have OR1 := Aside0.mk (OwnPacked.kept (show OwnPacked _ _ _ _ _ _ _ _ _ _ _ _ _ _ _ _ _ from by (with_reducible repeat apply OwnPacked.drewN); exact OR1.out) hk (fun k_ h1 h2 h3 => by have z0_ := HZ1.out; have z1_ := HGBK1.out; have z2_ := HZ2.out; have z3_ := HZ3.out; have z4_ := HZ4.out; have z5_ := HZ5.out; have z6_ := HGBK4.out; omega)); have BK1 := Aside0.mk (show w6_.heap[gBK1]? = some (.cells #[.slice A0_0 l0_0.length c0_0, .slice A0_1 l0_1.length c0_1, .slice A0_2 l0_2.length c0_2] 49 (0, 0)) from (hk.2 _ (blk_lt BK1.out) (fun h3 => by have z0_ := HZ1.out; have z1_ := HGBK1.out; have z2_ := HZ2.out; have z3_ := HZ3.out; have z4_ := HZ4.out; have z5_ := HZ5.out; have z6_ := HGBK4.out; omega)).trans BK1.out); have HZ6 := Aside0.mk (show w5_.heap.size ≤ w6_.heap.size from hk.1); have BK4 := Aside0.mk hbox; have HB := Aside0.mk hB; clear hk hw hbox hB; clear hfzBK4_0 hfzBK4_1 hfzBK4_2 hfzBK4_3 hfzBK4_4 hfzBK4_5; (try clear hczBK1_0 hczBK1_1 hczBK1_2 hczBK4_0 hczBK4_1 hczBK4_2 hczBK4_3 hczBK4_4 hczBK4_5); have hczBK1_0 : w6_.cell? ⟨gBK1, 0, none⟩ = some (.slice A0_0 l0_0.length c0_0) := (blk_cell BK1.out 0).trans rfl; have hczBK1_1 : w6_.cell? ⟨gBK1, 1, none⟩ = some (.slice A0_1 l0_1.length c0_1) := (blk_cell BK1.out 1).trans rfl; have hczBK1_2 : w6_.cell? ⟨gBK1, 2, none⟩ = some (.slice A0_2 l0_2.length c0_2) := (blk_cell BK1.out 2).trans rfl; have hczBK4_0 : w6_.cell? ⟨gBK4, 0, none⟩ = some ((.slice AOR1_0 o0_0.length cOR1_0)) := (blk_cell BK4.out 0).trans rfl; have hczBK4_1 : w6_.cell? ⟨gBK4, 1, none⟩ = some ((.slice AOR1_1 o0_1.length cOR1_1)) := (blk_cell BK4.out 1).trans rfl; have hczBK4_2 : w6_.cell? ⟨gBK4, 2, none⟩ = some ((.slice AOR1_2 o0_2.length cOR1_2)) := (blk_cell BK4.out 2).trans rfl; have hczBK4_3 : w6_.cell? ⟨gBK4, 3, none⟩ = some ((.slice AOR1_3 o0_3.length cOR1_3)) := (blk_cell BK4.out 3).trans rfl; have hczBK4_4 : w6_.cell? ⟨gBK4, 4, none⟩ = some ((.slice AOR1_4 o0_4.length cOR1_4)) := (blk_cell BK4.out 4).trans rfl; have hczBK4_5 : w6_.cell? ⟨gBK4, 5, none⟩ = some ((.slice AOR1_5 o0_5.length cOR1_5)) := (blk_cell BK4.out 5).trans rfl))
    refine (laws_toDfa.calls k _ _ l0_0 _ _ l0_1 _ _ l0_2 e0_0 e0_1 e0_2 _ ?s19_ ?s20_ ?s21_ ?s22_ ?s23_ ?s24_ HFt0.out).mono ?_
    case s19_ => (with_reducible repeat refine Kd.C_drewN ?_ _); exact Kd.C_below HR0_0.out HB.out
    case s20_ => exact HC0_0.out
    case s21_ => (with_reducible repeat refine Kd.C_drewN ?_ _); exact Kd.C_below HR0_1.out HB.out
    case s22_ => exact HC0_1.out
    case s23_ => (with_reducible repeat refine Kd.C_drewN ?_ _); exact Kd.C_below HR0_2.out HB.out
    case s24_ => exact HC0_2.out
    rintro e w7_ ⟨vOX2_0, vOX2_1, vOX2_2, rfl, ho0, ho1, ho2, hb⟩
    have hOX2 : OwnDfa True w7_ w.heap.size w6_.heap.size w7_.heap.size vOX2_0 vOX2_1 vOX2_2 e0_0 e0_1 e0_2 := OwnDfa.of (show w.heap.size ≤ w6_.heap.size from by have z0_ := HZ1.out; have z1_ := HGBK1.out; have z2_ := HZ2.out; have z3_ := HZ3.out; have z4_ := HZ4.out; have z5_ := HZ5.out; have z6_ := HGBK4.out; have z7_ := HZ6.out; omega) ho0 ho1 ho2 (fun k_ q_ => by first | exact q_ | (simp only [ne_eq] at q_ ⊢; simp [q_])) (fun k_ q_ => by first | exact q_ | (simp only [ne_eq] at q_ ⊢; simp [q_])) (fun k_ q_ => by first | exact q_ | (simp only [ne_eq] at q_ ⊢; simp [q_]))
    obtain ⟨AOX2_0, cOX2_0, AOX2_1, cOX2_1, AOX2_2, cOX2_2, eOX2_0, eOX2_1, eOX2_2⟩ := hOX2.slices
    subst eOX2_0
    subst eOX2_1
    subst eOX2_2
    have OR1 := Aside0.mk (OwnPacked.below (show OwnPacked _ _ _ _ _ _ _ _ _ _ _ _ _ _ _ _ _ from by (with_reducible repeat apply OwnPacked.drewN); exact OR1.out) hb)
    have BK1 := Aside0.mk (show w7_.heap[gBK1]? = some (.cells #[.slice A0_0 l0_0.length c0_0, .slice A0_1 l0_1.length c0_1, .slice A0_2 l0_2.length c0_2] 49 (0, 0)) from (hb.block _ (blk_lt BK1.out)).trans BK1.out)
    have BK4 := Aside0.mk (show w7_.heap[gBK4]? = some (.cells #[(.slice AOR1_0 o0_0.length cOR1_0), (.slice AOR1_1 o0_1.length cOR1_1), (.slice AOR1_2 o0_2.length cOR1_2), (.slice AOR1_3 o0_3.length cOR1_3), (.slice AOR1_4 o0_4.length cOR1_4), (.slice AOR1_5 o0_5.length cOR1_5)] 74 (0, 0)) from (hb.block _ (blk_lt BK4.out)).trans BK4.out)
    have HZ7 := Aside0.mk (show w6_.heap.size ≤ w7_.heap.size from hb.size)
    have HB := Aside0.mk (below_step (show Below w.heap.size w _ from by (with_reducible repeat apply pw_below_drewN); exact HB.out) hb)
    have OX2 := Aside0.mk hOX2
    clear hOX2 hb ho0 ho1 ho2
    (try clear hczBK1_0 hczBK1_1 hczBK1_2 hczBK4_0 hczBK4_1 hczBK4_2 hczBK4_3 hczBK4_4 hczBK4_5)
    have hczBK1_0 : w7_.cell? ⟨gBK1, 0, none⟩ = some (.slice A0_0 l0_0.length c0_0) := (blk_cell BK1.out 0).trans rfl
    have hczBK1_1 : w7_.cell? ⟨gBK1, 1, none⟩ = some (.slice A0_1 l0_1.length c0_1) := (blk_cell BK1.out 1).trans rfl
    have hczBK1_2 : w7_.cell? ⟨gBK1, 2, none⟩ = some (.slice A0_2 l0_2.length c0_2) := (blk_cell BK1.out 2).trans rfl
    have hczBK4_0 : w7_.cell? ⟨gBK4, 0, none⟩ = some ((.slice AOR1_0 o0_0.length cOR1_0)) := (blk_cell BK4.out 0).trans rfl
    have hczBK4_1 : w7_.cell? ⟨gBK4, 1, none⟩ = some ((.slice AOR1_1 o0_1.length cOR1_1)) := (blk_cell BK4.out 1).trans rfl
    have hczBK4_2 : w7_.cell? ⟨gBK4, 2, none⟩ = some ((.slice AOR1_2 o0_2.length cOR1_2)) := (blk_cell BK4.out 2).trans rfl
    have hczBK4_3 : w7_.cell? ⟨gBK4, 3, none⟩ = some ((.slice AOR1_3 o0_3.length cOR1_3)) := (blk_cell BK4.out 3).trans rfl
    have hczBK4_4 : w7_.cell? ⟨gBK4, 4, none⟩ = some ((.slice AOR1_4 o0_4.length cOR1_4)) := (blk_cell BK4.out 4).trans rfl
    have hczBK4_5 : w7_.cell? ⟨gBK4, 5, none⟩ = some ((.slice AOR1_5 o0_5.length cOR1_5)) := (blk_cell BK4.out 5).trans rfl
    go_wp2_with (first | ((with_reducible refine gate_dst (N := 6) rfl ?_); refine box_event ?hg (N := 6) ?hd (cs := #[.slice none 0 0, .slice none 0 0, .slice none 0 0]) (t := 53) ?hr ?_; (case hd => rfl); (case hg => rfl); (case hr => first | (go_simp; done) | (go_simp; rfl)); intro gBK6 hg w8_ hbox hb; have OR1 := Aside0.mk (OwnPacked.below (show OwnPacked _ _ _ _ _ _ _ _ _ _ _ _ _ _ _ _ _ from by (with_reducible repeat apply OwnPacked.drewN); exact OR1.out) hb); have OX2 := Aside0.mk (OwnDfa.below (show OwnDfa _ _ _ _ _ _ _ _ _ _ _ from by (with_reducible repeat apply OwnDfa.drewN); exact OX2.out) hb); have BK1 := Aside0.mk (show w8_.heap[gBK1]? = some (.cells #[.slice A0_0 l0_0.length c0_0, .slice A0_1 l0_1.length c0_1, .slice A0_2 l0_2.length c0_2] 49 (0, 0)) from (hb.block _ (blk_lt BK1.out)).trans BK1.out); have BK4 := Aside0.mk (show w8_.heap[gBK4]? = some (.cells #[(.slice AOR1_0 o0_0.length cOR1_0), (.slice AOR1_1 o0_1.length cOR1_1), (.slice AOR1_2 o0_2.length cOR1_2), (.slice AOR1_3 o0_3.length cOR1_3), (.slice AOR1_4 o0_4.length cOR1_4), (.slice AOR1_5 o0_5.length cOR1_5)] 74 (0, 0)) from (hb.block _ (blk_lt BK4.out)).trans BK4.out); have HZ8 := Aside0.mk (show w7_.heap.size ≤ w8_.heap.size from hb.size); have HB := Aside0.mk (below_step (show Below w.heap.size w _ from by (with_reducible repeat apply pw_below_drewN); exact HB.out) hb); have BK6 := Aside0.mk hbox; have HGBK6 := Aside0.mk (show gBK6 = w7_.heap.size ∧ gBK6 < w8_.heap.size from ⟨hg, blk_lt hbox⟩); have GEBK6 := Aside0.mk (show w.heap.size ≤ gBK6 from by have z0_ := HZ1.out; have z1_ := HGBK1.out; have z2_ := HZ2.out; have z3_ := HZ3.out; have z4_ := HZ4.out; have z5_ := HZ5.out; have z6_ := HGBK4.out; have z7_ := HZ6.out; have z8_ := HZ7.out; have z9_ := HZ8.out; have z10_ := HGBK6.out; omega); clear hb hbox hg; (try clear hczBK1_0 hczBK1_1 hczBK1_2 hczBK4_0 hczBK4_1 hczBK4_2 hczBK4_3 hczBK4_4 hczBK4_5); have hczBK1_0 : w8_.cell? ⟨gBK1, 0, none⟩ = some (.slice A0_0 l0_0.length c0_0) := (blk_cell BK1.out 0).trans rfl; have hczBK1_1 : w8_.cell? ⟨gBK1, 1, none⟩ = some (.slice A0_1 l0_1.length c0_1) := (blk_cell BK1.out 1).trans rfl; have hczBK1_2 : w8_.cell? ⟨gBK1, 2, none⟩ = some (.slice A0_2 l0_2.length c0_2) := (blk_cell BK1.out 2).trans rfl; have hczBK4_0 : w8_.cell? ⟨gBK4, 0, none⟩ = some ((.slice AOR1_0 o0_0.length cOR1_0)) := (blk_cell BK4.out 0).trans rfl; have hczBK4_1 : w8_.cell? ⟨gBK4, 1, none⟩ = some ((.slice AOR1_1 o0_1.length cOR1_1)) := (blk_cell BK4.out 1).trans rfl; have hczBK4_2 : w8_.cell? ⟨gBK4, 2, none⟩ = some ((.slice AOR1_2 o0_2.length cOR1_2)) := (blk_cell BK4.out 2).trans rfl; have hczBK4_3 : w8_.cell? ⟨gBK4, 3, none⟩ = some ((.slice AOR1_3 o0_3.length cOR1_3)) := (blk_cell BK4.out 3).trans rfl; have hczBK4_4 : w8_.cell? ⟨gBK4, 4, none⟩ = some ((.slice AOR1_4 o0_4.length cOR1_4)) := (blk_cell BK4.out 4).trans rfl; have hczBK4_5 : w8_.cell? ⟨gBK4, 5, none⟩ = some ((.slice AOR1_5 o0_5.length cOR1_5)) := (blk_cell BK4.out 5).trans rfl; have hczBK6_0 : w8_.cell? ⟨gBK6, 0, none⟩ = some (.slice none 0 0) := (blk_cell BK6.out 0).trans rfl; have hczBK6_1 : w8_.cell? ⟨gBK6, 1, none⟩ = some (.slice none 0 0) := (blk_cell BK6.out 1).trans rfl; have hczBK6_2 : w8_.cell? ⟨gBK6, 2, none⟩ = some (.slice none 0 0) := (blk_cell BK6.out 2).trans rfl; have hfzBK6_0 := blk_frozen BK6.out 0; have hfzBK6_1 := blk_frozen BK6.out 1; have hfzBK6_2 := blk_frozen BK6.out 2) | ((with_reducible refine gate_store (t := 53) (p := 6) rfl ?_); refine store_event (t := 53) (p := 6) (v := ?vo_w9_) (w1 := (((w8_.setCell ⟨gBK6, 0, none⟩ ((.slice AOX2_0 e0_0.length cOX2_0))).setCell ⟨gBK6, 1, none⟩ ((.slice AOX2_1 e0_1.length cOX2_1))).setCell ⟨gBK6, 2, none⟩ ((.slice AOX2_2 e0_2.length cOX2_2)))) ?hg ?ho ?hn ?hr ?_; (case ho => rfl); (case hg => rfl); (case hn => rfl); (case hr => first | (go_simp; done) | (go_simp; rfl)); intro w9_ hw; have hk : Kept w8_ w9_ (fun k_ => k_ = gBK6) := (by rw [hw]; refine Kept.setCell (S := fun k_ => k_ = gBK6) (p := ⟨gBK6, 2, none⟩) ?_ (Or.inl (Eq.refl gBK6)) _; refine Kept.setCell (S := fun k_ => k_ = gBK6) (p := ⟨gBK6, 1, none⟩) ?_ (Or.inl (Eq.refl gBK6)) _; refine Kept.setCell (S := fun k_ => k_ = gBK6) (p := ⟨gBK6, 0, none⟩) ?_ (Or.inl (Eq.refl gBK6)) _; exact Kept.refl _ _); have hbox : w9_.heap[gBK6]? = some (.cells #[(.slice AOX2_0 e0_0.length cOX2_0), (.slice AOX2_1 e0_1.length cOX2_1), (.slice AOX2_2 e0_2.length cOX2_2)] 53 (0, 0)) := (by rw [hw]; refine blk_put (cs := #[(.slice AOX2_0 e0_0.length cOX2_0), (.slice AOX2_1 e0_1.length cOX2_1), .slice none 0 0]) ?_ 2 _ rfl; refine blk_put (cs := #[(.slice AOX2_0 e0_0.length cOX2_0), .slice none 0 0, .slice none 0 0]) ?_ 1 _ rfl; refine blk_put (cs := #[.slice none 0 0, .slice none 0 0, .slice none 0 0]) ?_ 0 _ rfl; exact BK6.out); have hB : Below w.heap.size w w9_ := (by rw [hw]; (with_reducible repeat refine below_set ?_ GEBK6.out); exact HB.out); have OR1 := Aside0.mk (OwnPacked.kept (show OwnPacked _ _ _ _ _ _ _ _ _ _ _ _ _ _ _ _ _ from by (with_reducible repeat apply OwnPacked.drewN); exact OR1.out) hk (fun k_ h1 h2 h3 => by have z0_ := HZ1.out; have z1_ := HGBK1.out; have z2_ := HZ2.out; have z3_ := HZ3.out; have z4_ := HZ4.out; have z5_ := HZ5.out; have z6_ := HGBK4.out; have z7_ := HZ6.out; have z8_ := HZ7.out; have z9_ := HZ8.out; have z10_ := HGBK6.out; omega)); have OX2 := Aside0.mk (OwnDfa.kept (show OwnDfa _ _ _ _ _ _ _ _ _ _ _ from by (with_reducible repeat apply OwnDfa.drewN); exact OX2.out) hk (fun k_ h1 h2 h3 => by have z0_ := HZ1.out; have z1_ := HGBK1.out; have z2_ := HZ2.out; have z3_ := HZ3.out; have z4_ := HZ4.out; have z5_ := HZ5.out; have z6_ := HGBK4.out; have z7_ := HZ6.out; have z8_ := HZ7.out; have z9_ := HZ8.out; have z10_ := HGBK6.out; omega)); have BK1 := Aside0.mk (show w9_.heap[gBK1]? = some (.cells #[.slice A0_0 l0_0.length c0_0, .slice A0_1 l0_1.length c0_1, .slice A0_2 l0_2.length c0_2] 49 (0, 0)) from (hk.2 _ (blk_lt BK1.out) (fun h3 => by have z0_ := HZ1.out; have z1_ := HGBK1.out; have z2_ := HZ2.out; have z3_ := HZ3.out; have z4_ := HZ4.out; have z5_ := HZ5.out; have z6_ := HGBK4.out; have z7_ := HZ6.out; have z8_ := HZ7.out; have z9_ := HZ8.out; have z10_ := HGBK6.out; omega)).trans BK1.out); have BK4 := Aside0.mk (show w9_.heap[gBK4]? = some (.cells #[(.slice AOR1_0 o0_0.length cOR1_0), (.slice AOR1_1 o0_1.length cOR1_1), (.slice AOR1_2 o0_2.length cOR1_2), (.slice AOR1_3 o0_3.length cOR1_3), (.slice AOR1_4 o0_4.length cOR1_4), (.slice AOR1_5 o0_5.length cOR1_5)] 74 (0, 0)) from (hk.2 _ (blk_lt BK4.out) (fun h3 => by have z0_ := HZ1.out; have z1_ := HGBK1.out; have z2_ := HZ2.out; have z3_ := HZ3.out; have z4_ := HZ4.out; have z5_ := HZ5.out; have z6_ := HGBK4.out; have z7_ := HZ6.out; have z8_ := HZ7.out; have z9_ := HZ8.out; have z10_ := HGBK6.out; omega)).trans BK4.out); have HZ9 := Aside0.mk (show w8_.heap.size ≤ w9_.heap.size from hk.1); have BK6 := Aside0.mk hbox; have HB := Aside0.mk hB; clear hk hw hbox hB; clear hfzBK6_0 hfzBK6_1 hfzBK6_2; (try clear hczBK1_0 hczBK1_1 hczBK1_2 hczBK4_0 hczBK4_1 hczBK4_2 hczBK4_3 hczBK4_4 hczBK4_5 hczBK6_0 hczBK6_1 hczBK6_2); have hczBK1_0 : w9_.cell? ⟨gBK1, 0, none⟩ = some (.slice A0_0 l0_0.length c0_0) := (blk_cell BK1.out 0).trans rfl; have hczBK1_1 : w9_.cell? ⟨gBK1, 1, none⟩ = some (.slice A0_1 l0_1.length c0_1) := (blk_cell BK1.out 1).trans rfl; have hczBK1_2 : w9_.cell? ⟨gBK1, 2, none⟩ = some (.slice A0_2 l0_2.length c0_2) := (blk_cell BK1.out 2).trans rfl; have hczBK4_0 : w9_.cell? ⟨gBK4, 0, none⟩ = some ((.slice AOR1_0 o0_0.length cOR1_0)) := (blk_cell BK4.out 0).trans rfl; have hczBK4_1 : w9_.cell? ⟨gBK4, 1, none⟩ = some ((.slice AOR1_1 o0_1.length cOR1_1)) := (blk_cell BK4.out 1).trans rfl; have hczBK4_2 : w9_.cell? ⟨gBK4, 2, none⟩ = some ((.slice AOR1_2 o0_2.length cOR1_2)) := (blk_cell BK4.out 2).trans rfl; have hczBK4_3 : w9_.cell? ⟨gBK4, 3, none⟩ = some ((.slice AOR1_3 o0_3.length cOR1_3)) := (blk_cell BK4.out 3).trans rfl; have hczBK4_4 : w9_.cell? ⟨gBK4, 4, none⟩ = some ((.slice AOR1_4 o0_4.length cOR1_4)) := (blk_cell BK4.out 4).trans rfl; have hczBK4_5 : w9_.cell? ⟨gBK4, 5, none⟩ = some ((.slice AOR1_5 o0_5.length cOR1_5)) := (blk_cell BK4.out 5).trans rfl; have hczBK6_0 : w9_.cell? ⟨gBK6, 0, none⟩ = some ((.slice AOX2_0 e0_0.length cOX2_0)) := (blk_cell BK6.out 0).trans rfl; have hczBK6_1 : w9_.cell? ⟨gBK6, 1, none⟩ = some ((.slice AOX2_1 e0_1.length cOX2_1)) := (blk_cell BK6.out 1).trans rfl; have hczBK6_2 : w9_.cell? ⟨gBK6, 2, none⟩ = some ((.slice AOX2_2 e0_2.length cOX2_2)) := (blk_cell BK6.out 2).trans rfl))
    refine (impl_Pack.calls k _ _ e0_0 _ _ e0_1 _ _ e0_2 o0_0 o0_1 o0_2 o0_3 o0_4 o0_5 b1 _ ?s25_ ?s26_ ?s27_ ?s28_ ?s29_ ?s30_ HFimpl.out).mono ?_
    case s25_ => exact (OwnDfa.rd0 (by (with_reducible repeat apply OwnDfa.drewN); exact OX2.out) rfl).2.2
    case s26_ => exact (OwnDfa.rd0 OX2.out rfl).2.1
    case s27_ => exact (OwnDfa.rd1 (by (with_reducible repeat apply OwnDfa.drewN); exact OX2.out) rfl).2.2
    case s28_ => exact (OwnDfa.rd1 OX2.out rfl).2.1
    case s29_ => exact (OwnDfa.rd2 (by (with_reducible repeat apply OwnDfa.drewN); exact OX2.out) rfl).2.2
    case s30_ => exact (OwnDfa.rd2 OX2.out rfl).2.1
    rintro e w10_ ⟨vOR2_0, vOR2_1, vOR2_2, vOR2_3, vOR2_4, vOR2_5, rfl, ho0, ho1, ho2, ho3, ho4, ho5, hb⟩
    have hOR2 : OwnPacked True w10_ w.heap.size w9_.heap.size w10_.heap.size vOR2_0 vOR2_1 vOR2_2 vOR2_3 vOR2_4 vOR2_5 o0_0 o0_1 o0_2 o0_3 o0_4 o0_5 := OwnPacked.of (show w.heap.size ≤ w9_.heap.size from by have z0_ := HZ1.out; have z1_ := HGBK1.out; have z2_ := HZ2.out; have z3_ := HZ3.out; have z4_ := HZ4.out; have z5_ := HZ5.out; have z6_ := HGBK4.out; have z7_ := HZ6.out; have z8_ := HZ7.out; have z9_ := HZ8.out; have z10_ := HGBK6.out; have z11_ := HZ9.out; omega) ho0 ho1 ho2 ho3 ho4 ho5 (fun k_ q_ => by first | exact q_ | (simp only [ne_eq] at q_ ⊢; simp [q_])) (fun k_ q_ => by first | exact q_ | (simp only [ne_eq] at q_ ⊢; simp [q_])) (fun k_ q_ => by first | exact q_ | (simp only [ne_eq] at q_ ⊢; simp [q_])) (fun k_ q_ => by first | exact q_ | (simp only [ne_eq] at q_ ⊢; simp [q_])) (fun k_ q_ => by first | exact q_ | (simp only [ne_eq] at q_ ⊢; simp [q_])) (fun k_ q_ => by first | exact q_ | (simp only [ne_eq] at q_ ⊢; simp [q_])) (fun k_ q_ => by first | exact q_ | (simp only [ne_eq] at q_ ⊢; simp [q_])) (fun k_ q_ => by first | exact q_ | (simp only [ne_eq] at q_ ⊢; simp [q_])) (fun k_ q_ => by first | exact q_ | (simp only [ne_eq] at q_ ⊢; simp [q_])) (fun k_ q_ => by first | exact q_ | (simp only [ne_eq] at q_ ⊢; simp [q_])) (fun k_ q_ => by first | exact q_ | (simp only [ne_eq] at q_ ⊢; simp [q_])) (fun k_ q_ => by first | exact q_ | (simp only [ne_eq] at q_ ⊢; simp [q_])) (fun k_ q_ => by first | exact q_ | (simp only [ne_eq] at q_ ⊢; simp [q_])) (fun k_ q_ => by first | exact q_ | (simp only [ne_eq] at q_ ⊢; simp [q_])) (fun k_ q_ => by first | exact q_ | (simp only [ne_eq] at q_ ⊢; simp [q_]))
    obtain ⟨AOR2_0, cOR2_0, AOR2_1, cOR2_1, AOR2_2, cOR2_2, AOR2_3, cOR2_3, AOR2_4, cOR2_4, AOR2_5, cOR2_5, eOR2_0, eOR2_1, eOR2_2, eOR2_3, eOR2_4, eOR2_5⟩ := hOR2.slices
    subst eOR2_0
    subst eOR2_1
    subst eOR2_2
    subst eOR2_3
    subst eOR2_4
    subst eOR2_5
    have OR1 := Aside0.mk (OwnPacked.below (show OwnPacked _ _ _ _ _ _ _ _ _ _ _ _ _ _ _ _ _ from by (with_reducible repeat apply OwnPacked.drewN); exact OR1.out) hb)
    have OX2 := Aside0.mk (OwnDfa.below (show OwnDfa _ _ _ _ _ _ _ _ _ _ _ from by (with_reducible repeat apply OwnDfa.drewN); exact OX2.out) hb)
    have BK1 := Aside0.mk (show w10_.heap[gBK1]? = some (.cells #[.slice A0_0 l0_0.length c0_0, .slice A0_1 l0_1.length c0_1, .slice A0_2 l0_2.length c0_2] 49 (0, 0)) from (hb.block _ (blk_lt BK1.out)).trans BK1.out)
    have BK4 := Aside0.mk (show w10_.heap[gBK4]? = some (.cells #[(.slice AOR1_0 o0_0.length cOR1_0), (.slice AOR1_1 o0_1.length cOR1_1), (.slice AOR1_2 o0_2.length cOR1_2), (.slice AOR1_3 o0_3.length cOR1_3), (.slice AOR1_4 o0_4.length cOR1_4), (.slice AOR1_5 o0_5.length cOR1_5)] 74 (0, 0)) from (hb.block _ (blk_lt BK4.out)).trans BK4.out)
    have BK6 := Aside0.mk (show w10_.heap[gBK6]? = some (.cells #[(.slice AOX2_0 e0_0.length cOX2_0), (.slice AOX2_1 e0_1.length cOX2_1), (.slice AOX2_2 e0_2.length cOX2_2)] 53 (0, 0)) from (hb.block _ (blk_lt BK6.out)).trans BK6.out)
    have HZ10 := Aside0.mk (show w9_.heap.size ≤ w10_.heap.size from hb.size)
    have HB := Aside0.mk (below_step (show Below w.heap.size w _ from by (with_reducible repeat apply pw_below_drewN); exact HB.out) hb)
    have OR2 := Aside0.mk hOR2
    clear hOR2 hb ho0 ho1 ho2 ho3 ho4 ho5
    (try clear hczBK1_0 hczBK1_1 hczBK1_2 hczBK4_0 hczBK4_1 hczBK4_2 hczBK4_3 hczBK4_4 hczBK4_5 hczBK6_0 hczBK6_1 hczBK6_2)
    have hczBK1_0 : w10_.cell? ⟨gBK1, 0, none⟩ = some (.slice A0_0 l0_0.length c0_0) := (blk_cell BK1.out 0).trans rfl
    have hczBK1_1 : w10_.cell? ⟨gBK1, 1, none⟩ = some (.slice A0_1 l0_1.length c0_1) := (blk_cell BK1.out 1).trans rfl
    have hczBK1_2 : w10_.cell? ⟨gBK1, 2, none⟩ = some (.slice A0_2 l0_2.length c0_2) := (blk_cell BK1.out 2).trans rfl
    have hczBK4_0 : w10_.cell? ⟨gBK4, 0, none⟩ = some ((.slice AOR1_0 o0_0.length cOR1_0)) := (blk_cell BK4.out 0).trans rfl
    have hczBK4_1 : w10_.cell? ⟨gBK4, 1, none⟩ = some ((.slice AOR1_1 o0_1.length cOR1_1)) := (blk_cell BK4.out 1).trans rfl
    have hczBK4_2 : w10_.cell? ⟨gBK4, 2, none⟩ = some ((.slice AOR1_2 o0_2.length cOR1_2)) := (blk_cell BK4.out 2).trans rfl
    have hczBK4_3 : w10_.cell? ⟨gBK4, 3, none⟩ = some ((.slice AOR1_3 o0_3.length cOR1_3)) := (blk_cell BK4.out 3).trans rfl
    have hczBK4_4 : w10_.cell? ⟨gBK4, 4, none⟩ = some ((.slice AOR1_4 o0_4.length cOR1_4)) := (blk_cell BK4.out 4).trans rfl
    have hczBK4_5 : w10_.cell? ⟨gBK4, 5, none⟩ = some ((.slice AOR1_5 o0_5.length cOR1_5)) := (blk_cell BK4.out 5).trans rfl
    have hczBK6_0 : w10_.cell? ⟨gBK6, 0, none⟩ = some ((.slice AOX2_0 e0_0.length cOX2_0)) := (blk_cell BK6.out 0).trans rfl
    have hczBK6_1 : w10_.cell? ⟨gBK6, 1, none⟩ = some ((.slice AOX2_1 e0_1.length cOX2_1)) := (blk_cell BK6.out 1).trans rfl
    have hczBK6_2 : w10_.cell? ⟨gBK6, 2, none⟩ = some ((.slice AOX2_2 e0_2.length cOX2_2)) := (blk_cell BK6.out 2).trans rfl
    go_wp2_with (first | ((with_reducible refine gate_dst (N := 7) rfl ?_); refine box_event ?hg (N := 7) ?hd (cs := #[.slice none 0 0, .slice none 0 0, .slice none 0 0, .slice none 0 0, .slice none 0 0, .slice none 0 0]) (t := 74) ?hr ?_; (case hd => rfl); (case hg => rfl); (case hr => first | (go_simp; done) | (go_simp; rfl)); intro gBK7 hg w11_ hbox hb; have OR1 := Aside0.mk (OwnPacked.below (show OwnPacked _ _ _ _ _ _ _ _ _ _ _ _ _ _ _ _ _ from by (with_reducible repeat apply OwnPacked.drewN); exact OR1.out) hb); have OX2 := Aside0.mk (OwnDfa.below (show OwnDfa _ _ _ _ _ _ _ _ _ _ _ from by (with_reducible repeat apply OwnDfa.drewN); exact OX2.out) hb); have OR2 := Aside0.mk (OwnPacked.below (show OwnPacked _ _ _ _ _ _ _ _ _ _ _ _ _ _ _ _ _ from by (with_reducible repeat apply OwnPacked.drewN); exact OR2.out) hb); have BK1 := Aside0.mk (show w11_.heap[gBK1]? = some (.cells #[.slice A0_0 l0_0.length c0_0, .slice A0_1 l0_1.length c0_1, .slice A0_2 l0_2.length c0_2] 49 (0, 0)) from (hb.block _ (blk_lt BK1.out)).trans BK1.out); have BK4 := Aside0.mk (show w11_.heap[gBK4]? = some (.cells #[(.slice AOR1_0 o0_0.length cOR1_0), (.slice AOR1_1 o0_1.length cOR1_1), (.slice AOR1_2 o0_2.length cOR1_2), (.slice AOR1_3 o0_3.length cOR1_3), (.slice AOR1_4 o0_4.length cOR1_4), (.slice AOR1_5 o0_5.length cOR1_5)] 74 (0, 0)) from (hb.block _ (blk_lt BK4.out)).trans BK4.out); have BK6 := Aside0.mk (show w11_.heap[gBK6]? = some (.cells #[(.slice AOX2_0 e0_0.length cOX2_0), (.slice AOX2_1 e0_1.length cOX2_1), (.slice AOX2_2 e0_2.length cOX2_2)] 53 (0, 0)) from (hb.block _ (blk_lt BK6.out)).trans BK6.out); have HZ11 := Aside0.mk (show w10_.heap.size ≤ w11_.heap.size from hb.size); have HB := Aside0.mk (below_step (show Below w.heap.size w _ from by (with_reducible repeat apply pw_below_drewN); exact HB.out) hb); have BK7 := Aside0.mk hbox; have HGBK7 := Aside0.mk (show gBK7 = w10_.heap.size ∧ gBK7 < w11_.heap.size from ⟨hg, blk_lt hbox⟩); have GEBK7 := Aside0.mk (show w.heap.size ≤ gBK7 from by have z0_ := HZ1.out; have z1_ := HGBK1.out; have z2_ := HZ2.out; have z3_ := HZ3.out; have z4_ := HZ4.out; have z5_ := HZ5.out; have z6_ := HGBK4.out; have z7_ := HZ6.out; have z8_ := HZ7.out; have z9_ := HZ8.out; have z10_ := HGBK6.out; have z11_ := HZ9.out; have z12_ := HZ10.out; have z13_ := HZ11.out; have z14_ := HGBK7.out; omega); clear hb hbox hg; (try clear hczBK1_0 hczBK1_1 hczBK1_2 hczBK4_0 hczBK4_1 hczBK4_2 hczBK4_3 hczBK4_4 hczBK4_5 hczBK6_0 hczBK6_1 hczBK6_2); have hczBK1_0 : w11_.cell? ⟨gBK1, 0, none⟩ = some (.slice A0_0 l0_0.length c0_0) := (blk_cell BK1.out 0).trans rfl; have hczBK1_1 : w11_.cell? ⟨gBK1, 1, none⟩ = some (.slice A0_1 l0_1.length c0_1) := (blk_cell BK1.out 1).trans rfl; have hczBK1_2 : w11_.cell? ⟨gBK1, 2, none⟩ = some (.slice A0_2 l0_2.length c0_2) := (blk_cell BK1.out 2).trans rfl; have hczBK4_0 : w11_.cell? ⟨gBK4, 0, none⟩ = some ((.slice AOR1_0 o0_0.length cOR1_0)) := (blk_cell BK4.out 0).trans rfl; have hczBK4_1 : w11_.cell? ⟨gBK4, 1, none⟩ = some ((.slice AOR1_1 o0_1.length cOR1_1)) := (blk_cell BK4.out 1).trans rfl; have hczBK4_2 : w11_.cell? ⟨gBK4, 2, none⟩ = some ((.slice AOR1_2 o0_2.length cOR1_2)) := (blk_cell BK4.out 2).trans rfl; have hczBK4_3 : w11_.cell? ⟨gBK4, 3, none⟩ = some ((.slice AOR1_3 o0_3.length cOR1_3)) := (blk_cell BK4.out 3).trans rfl; have hczBK4_4 : w11_.cell? ⟨gBK4, 4, none⟩ = some ((.slice AOR1_4 o0_4.length cOR1_4)) := (blk_cell BK4.out 4).trans rfl; have hczBK4_5 : w11_.cell? ⟨gBK4, 5, none⟩ = some ((.slice AOR1_5 o0_5.length cOR1_5)) := (blk_cell BK4.out 5).trans rfl; have hczBK6_0 : w11_.cell? ⟨gBK6, 0, none⟩ = some ((.slice AOX2_0 e0_0.length cOX2_0)) := (blk_cell BK6.out 0).trans rfl; have hczBK6_1 : w11_.cell? ⟨gBK6, 1, none⟩ = some ((.slice AOX2_1 e0_1.length cOX2_1)) := (blk_cell BK6.out 1).trans rfl; have hczBK6_2 : w11_.cell? ⟨gBK6, 2, none⟩ = some ((.slice AOX2_2 e0_2.length cOX2_2)) := (blk_cell BK6.out 2).trans rfl; have hczBK7_0 : w11_.cell? ⟨gBK7, 0, none⟩ = some (.slice none 0 0) := (blk_cell BK7.out 0).trans rfl; have hczBK7_1 : w11_.cell? ⟨gBK7, 1, none⟩ = some (.slice none 0 0) := (blk_cell BK7.out 1).trans rfl; have hczBK7_2 : w11_.cell? ⟨gBK7, 2, none⟩ = some (.slice none 0 0) := (blk_cell BK7.out 2).trans rfl; have hczBK7_3 : w11_.cell? ⟨gBK7, 3, none⟩ = some (.slice none 0 0) := (blk_cell BK7.out 3).trans rfl; have hczBK7_4 : w11_.cell? ⟨gBK7, 4, none⟩ = some (.slice none 0 0) := (blk_cell BK7.out 4).trans rfl; have hczBK7_5 : w11_.cell? ⟨gBK7, 5, none⟩ = some (.slice none 0 0) := (blk_cell BK7.out 5).trans rfl; have hfzBK7_0 := blk_frozen BK7.out 0; have hfzBK7_1 := blk_frozen BK7.out 1; have hfzBK7_2 := blk_frozen BK7.out 2; have hfzBK7_3 := blk_frozen BK7.out 3; have hfzBK7_4 := blk_frozen BK7.out 4; have hfzBK7_5 := blk_frozen BK7.out 5) | ((with_reducible refine gate_store (t := 74) (p := 7) rfl ?_); refine store_event (t := 74) (p := 7) (v := ?vo_w12_) (w1 := ((((((w11_.setCell ⟨gBK7, 0, none⟩ ((.slice AOR2_0 o0_0.length cOR2_0))).setCell ⟨gBK7, 1, none⟩ ((.slice AOR2_1 o0_1.length cOR2_1))).setCell ⟨gBK7, 2, none⟩ ((.slice AOR2_2 o0_2.length cOR2_2))).setCell ⟨gBK7, 3, none⟩ ((.slice AOR2_3 o0_3.length cOR2_3))).setCell ⟨gBK7, 4, none⟩ ((.slice AOR2_4 o0_4.length cOR2_4))).setCell ⟨gBK7, 5, none⟩ ((.slice AOR2_5 o0_5.length cOR2_5)))) ?hg ?ho ?hn ?hr ?_; (case ho => rfl); (case hg => rfl); (case hn => rfl); (case hr => first | (go_simp; done) | (go_simp; rfl)); intro w12_ hw; have hk : Kept w11_ w12_ (fun k_ => k_ = gBK7) := (by rw [hw]; refine Kept.setCell (S := fun k_ => k_ = gBK7) (p := ⟨gBK7, 5, none⟩) ?_ (Or.inl (Eq.refl gBK7)) _; refine Kept.setCell (S := fun k_ => k_ = gBK7) (p := ⟨gBK7, 4, none⟩) ?_ (Or.inl (Eq.refl gBK7)) _; refine Kept.setCell (S := fun k_ => k_ = gBK7) (p := ⟨gBK7, 3, none⟩) ?_ (Or.inl (Eq.refl gBK7)) _; refine Kept.setCell (S := fun k_ => k_ = gBK7) (p := ⟨gBK7, 2, none⟩) ?_ (Or.inl (Eq.refl gBK7)) _; refine Kept.setCell (S := fun k_ => k_ = gBK7) (p := ⟨gBK7, 1, none⟩) ?_ (Or.inl (Eq.refl gBK7)) _; refine Kept.setCell (S := fun k_ => k_ = gBK7) (p := ⟨gBK7, 0, none⟩) ?_ (Or.inl (Eq.refl gBK7)) _; exact Kept.refl _ _); have hbox : w12_.heap[gBK7]? = some (.cells #[(.slice AOR2_0 o0_0.length cOR2_0), (.slice AOR2_1 o0_1.length cOR2_1), (.slice AOR2_2 o0_2.length cOR2_2), (.slice AOR2_3 o0_3.length cOR2_3), (.slice AOR2_4 o0_4.length cOR2_4), (.slice AOR2_5 o0_5.length cOR2_5)] 74 (0, 0)) := (by rw [hw]; refine blk_put (cs := #[(.slice AOR2_0 o0_0.length cOR2_0), (.slice AOR2_1 o0_1.length cOR2_1), (.slice AOR2_2 o0_2.length cOR2_2), (.slice AOR2_3 o0_3.length cOR2_3), (.slice AOR2_4 o0_4.length cOR2_4), .slice none 0 0]) ?_ 5 _ rfl; refine blk_put (cs := #[(.slice AOR2_0 o0_0.length cOR2_0), (.slice AOR2_1 o0_1.length cOR2_1), (.slice AOR2_2 o0_2.length cOR2_2), (.slice AOR2_3 o0_3.length cOR2_3), .slice none 0 0, .slice none 0 0]) ?_ 4 _ rfl; refine blk_put (cs := #[(.slice AOR2_0 o0_0.length cOR2_0), (.slice AOR2_1 o0_1.length cOR2_1), (.slice AOR2_2 o0_2.length cOR2_2), .slice none 0 0, .slice none 0 0, .slice none 0 0]) ?_ 3 _ rfl; refine blk_put (cs := #[(.slice AOR2_0 o0_0.length cOR2_0), (.slice AOR2_1 o0_1.length cOR2_1), .slice none 0 0, .slice none 0 0, .slice none 0 0, .slice none 0 0]) ?_ 2 _ rfl; refine blk_put (cs := #[(.slice AOR2_0 o0_0.length cOR2_0), .slice none 0 0, .slice none 0 0, .slice none 0 0, .slice none 0 0, .slice none 0 0]) ?_ 1 _ rfl; refine blk_put (cs := #[.slice none 0 0, .slice none 0 0, .slice none 0 0, .slice none 0 0, .slice none 0 0, .slice none 0 0]) ?_ 0 _ rfl; exact BK7.out); have hB : Below w.heap.size w w12_ := (by rw [hw]; (with_reducible repeat refine below_set ?_ GEBK7.out); exact HB.out); have OR1 := Aside0.mk (OwnPacked.kept (show OwnPacked _ _ _ _ _ _ _ _ _ _ _ _ _ _ _ _ _ from by (with_reducible repeat apply OwnPacked.drewN); exact OR1.out) hk (fun k_ h1 h2 h3 => by have z0_ := HZ1.out; have z1_ := HGBK1.out; have z2_ := HZ2.out; have z3_ := HZ3.out; have z4_ := HZ4.out; have z5_ := HZ5.out; have z6_ := HGBK4.out; have z7_ := HZ6.out; have z8_ := HZ7.out; have z9_ := HZ8.out; have z10_ := HGBK6.out; have z11_ := HZ9.out; have z12_ := HZ10.out; have z13_ := HZ11.out; have z14_ := HGBK7.out; omega)); have OX2 := Aside0.mk (OwnDfa.kept (show OwnDfa _ _ _ _ _ _ _ _ _ _ _ from by (with_reducible repeat apply OwnDfa.drewN); exact OX2.out) hk (fun k_ h1 h2 h3 => by have z0_ := HZ1.out; have z1_ := HGBK1.out; have z2_ := HZ2.out; have z3_ := HZ3.out; have z4_ := HZ4.out; have z5_ := HZ5.out; have z6_ := HGBK4.out; have z7_ := HZ6.out; have z8_ := HZ7.out; have z9_ := HZ8.out; have z10_ := HGBK6.out; have z11_ := HZ9.out; have z12_ := HZ10.out; have z13_ := HZ11.out; have z14_ := HGBK7.out; omega)); have OR2 := Aside0.mk (OwnPacked.kept (show OwnPacked _ _ _ _ _ _ _ _ _ _ _ _ _ _ _ _ _ from by (with_reducible repeat apply OwnPacked.drewN); exact OR2.out) hk (fun k_ h1 h2 h3 => by have z0_ := HZ1.out; have z1_ := HGBK1.out; have z2_ := HZ2.out; have z3_ := HZ3.out; have z4_ := HZ4.out; have z5_ := HZ5.out; have z6_ := HGBK4.out; have z7_ := HZ6.out; have z8_ := HZ7.out; have z9_ := HZ8.out; have z10_ := HGBK6.out; have z11_ := HZ9.out; have z12_ := HZ10.out; have z13_ := HZ11.out; have z14_ := HGBK7.out; omega)); have BK1 := Aside0.mk (show w12_.heap[gBK1]? = some (.cells #[.slice A0_0 l0_0.length c0_0, .slice A0_1 l0_1.length c0_1, .slice A0_2 l0_2.length c0_2] 49 (0, 0)) from (hk.2 _ (blk_lt BK1.out) (fun h3 => by have z0_ := HZ1.out; have z1_ := HGBK1.out; have z2_ := HZ2.out; have z3_ := HZ3.out; have z4_ := HZ4.out; have z5_ := HZ5.out; have z6_ := HGBK4.out; have z7_ := HZ6.out; have z8_ := HZ7.out; have z9_ := HZ8.out; have z10_ := HGBK6.out; have z11_ := HZ9.out; have z12_ := HZ10.out; have z13_ := HZ11.out; have z14_ := HGBK7.out; omega)).trans BK1.out); have BK4 := Aside0.mk (show w12_.heap[gBK4]? = some (.cells #[(.slice AOR1_0 o0_0.length cOR1_0), (.slice AOR1_1 o0_1.length cOR1_1), (.slice AOR1_2 o0_2.length cOR1_2), (.slice AOR1_3 o0_3.length cOR1_3), (.slice AOR1_4 o0_4.length cOR1_4), (.slice AOR1_5 o0_5.length cOR1_5)] 74 (0, 0)) from (hk.2 _ (blk_lt BK4.out) (fun h3 => by have z0_ := HZ1.out; have z1_ := HGBK1.out; have z2_ := HZ2.out; have z3_ := HZ3.out; have z4_ := HZ4.out; have z5_ := HZ5.out; have z6_ := HGBK4.out; have z7_ := HZ6.out; have z8_ := HZ7.out; have z9_ := HZ8.out; have z10_ := HGBK6.out; have z11_ := HZ9.out; have z12_ := HZ10.out; have z13_ := HZ11.out; have z14_ := HGBK7.out; omega)).trans BK4.out); have BK6 := Aside0.mk (show w12_.heap[gBK6]? = some (.cells #[(.slice AOX2_0 e0_0.length cOX2_0), (.slice AOX2_1 e0_1.length cOX2_1), (.slice AOX2_2 e0_2.length cOX2_2)] 53 (0, 0)) from (hk.2 _ (blk_lt BK6.out) (fun h3 => by have z0_ := HZ1.out; have z1_ := HGBK1.out; have z2_ := HZ2.out; have z3_ := HZ3.out; have z4_ := HZ4.out; have z5_ := HZ5.out; have z6_ := HGBK4.out; have z7_ := HZ6.out; have z8_ := HZ7.out; have z9_ := HZ8.out; have z10_ := HGBK6.out; have z11_ := HZ9.out; have z12_ := HZ10.out; have z13_ := HZ11.out; have z14_ := HGBK7.out; omega)).trans BK6.out); have HZ12 := Aside0.mk (show w11_.heap.size ≤ w12_.heap.size from hk.1); have BK7 := Aside0.mk hbox; have HB := Aside0.mk hB; clear hk hw hbox hB; clear hfzBK7_0 hfzBK7_1 hfzBK7_2 hfzBK7_3 hfzBK7_4 hfzBK7_5; (try clear hczBK1_0 hczBK1_1 hczBK1_2 hczBK4_0 hczBK4_1 hczBK4_2 hczBK4_3 hczBK4_4 hczBK4_5 hczBK6_0 hczBK6_1 hczBK6_2 hczBK7_0 hczBK7_1 hczBK7_2 hczBK7_3 hczBK7_4 hczBK7_5); have hczBK1_0 : w12_.cell? ⟨gBK1, 0, none⟩ = some (.slice A0_0 l0_0.length c0_0) := (blk_cell BK1.out 0).trans rfl; have hczBK1_1 : w12_.cell? ⟨gBK1, 1, none⟩ = some (.slice A0_1 l0_1.length c0_1) := (blk_cell BK1.out 1).trans rfl; have hczBK1_2 : w12_.cell? ⟨gBK1, 2, none⟩ = some (.slice A0_2 l0_2.length c0_2) := (blk_cell BK1.out 2).trans rfl; have hczBK4_0 : w12_.cell? ⟨gBK4, 0, none⟩ = some ((.slice AOR1_0 o0_0.length cOR1_0)) := (blk_cell BK4.out 0).trans rfl; have hczBK4_1 : w12_.cell? ⟨gBK4, 1, none⟩ = some ((.slice AOR1_1 o0_1.length cOR1_1)) := (blk_cell BK4.out 1).trans rfl; have hczBK4_2 : w12_.cell? ⟨gBK4, 2, none⟩ = some ((.slice AOR1_2 o0_2.length cOR1_2)) := (blk_cell BK4.out 2).trans rfl; have hczBK4_3 : w12_.cell? ⟨gBK4, 3, none⟩ = some ((.slice AOR1_3 o0_3.length cOR1_3)) := (blk_cell BK4.out 3).trans rfl; have hczBK4_4 : w12_.cell? ⟨gBK4, 4, none⟩ = some ((.slice AOR1_4 o0_4.length cOR1_4)) := (blk_cell BK4.out 4).trans rfl; have hczBK4_5 : w12_.cell? ⟨gBK4, 5, none⟩ = some ((.slice AOR1_5 o0_5.length cOR1_5)) := (blk_cell BK4.out 5).trans rfl; have hczBK6_0 : w12_.cell? ⟨gBK6, 0, none⟩ = some ((.slice AOX2_0 e0_0.length cOX2_0)) := (blk_cell BK6.out 0).trans rfl; have hczBK6_1 : w12_.cell? ⟨gBK6, 1, none⟩ = some ((.slice AOX2_1 e0_1.length cOX2_1)) := (blk_cell BK6.out 1).trans rfl; have hczBK6_2 : w12_.cell? ⟨gBK6, 2, none⟩ = some ((.slice AOX2_2 e0_2.length cOX2_2)) := (blk_cell BK6.out 2).trans rfl; have hczBK7_0 : w12_.cell? ⟨gBK7, 0, none⟩ = some ((.slice AOR2_0 o0_0.length cOR2_0)) := (blk_cell BK7.out 0).trans rfl; have hczBK7_1 : w12_.cell? ⟨gBK7, 1, none⟩ = some ((.slice AOR2_1 o0_1.length cOR2_1)) := (blk_cell BK7.out 1).trans rfl; have hczBK7_2 : w12_.cell? ⟨gBK7, 2, none⟩ = some ((.slice AOR2_2 o0_2.length cOR2_2)) := (blk_cell BK7.out 2).trans rfl; have hczBK7_3 : w12_.cell? ⟨gBK7, 3, none⟩ = some ((.slice AOR2_3 o0_3.length cOR2_3)) := (blk_cell BK7.out 3).trans rfl; have hczBK7_4 : w12_.cell? ⟨gBK7, 4, none⟩ = some ((.slice AOR2_4 o0_4.length cOR2_4)) := (blk_cell BK7.out 4).trans rfl; have hczBK7_5 : w12_.cell? ⟨gBK7, 5, none⟩ = some ((.slice AOR2_5 o0_5.length cOR2_5)) := (blk_cell BK7.out 5).trans rfl))
    refine (laws_eqPacked.calls k _ _ o0_0 _ _ o0_1 _ _ o0_2 _ _ o0_3 _ _ o0_4 _ _ o0_5 _ _ o0_0 _ _ o0_1 _ _ o0_2 _ _ o0_3 _ _ o0_4 _ _ o0_5 true _ ?s31_ ?s32_ ?s33_ ?s34_ ?s35_ ?s36_ ?s37_ ?s38_ ?s39_ ?s40_ ?s41_ ?s42_ ?s43_ ?s44_ ?s45_ ?s46_ ?s47_ ?s48_ ?s49_ ?s50_ ?s51_ ?s52_ ?s53_ ?s54_ HFeR.out).mono ?_
    case s31_ => exact (OwnPacked.rd0 (by (with_reducible repeat apply OwnPacked.drewN); exact OR2.out) rfl).2.2
    case s32_ => exact (OwnPacked.rd0 OR2.out rfl).2.1
    case s33_ => exact (OwnPacked.rd1 (by (with_reducible repeat apply OwnPacked.drewN); exact OR2.out) rfl).2.2
    case s34_ => exact (OwnPacked.rd1 OR2.out rfl).2.1
    case s35_ => exact (OwnPacked.rd2 (by (with_reducible repeat apply OwnPacked.drewN); exact OR2.out) rfl).2.2
    case s36_ => exact (OwnPacked.rd2 OR2.out rfl).2.1
    case s37_ => exact (OwnPacked.rd3 (by (with_reducible repeat apply OwnPacked.drewN); exact OR2.out) rfl).2.2
    case s38_ => exact (OwnPacked.rd3 OR2.out rfl).2.1
    case s39_ => exact (OwnPacked.rd4 (by (with_reducible repeat apply OwnPacked.drewN); exact OR2.out) rfl).2.2
    case s40_ => exact (OwnPacked.rd4 OR2.out rfl).2.1
    case s41_ => exact (OwnPacked.rd5 (by (with_reducible repeat apply OwnPacked.drewN); exact OR2.out) rfl).2.2
    case s42_ => exact (OwnPacked.rd5 OR2.out rfl).2.1
    case s43_ => exact (OwnPacked.rd0 (by (with_reducible repeat apply OwnPacked.drewN); exact OR1.out) rfl).2.2
    case s44_ => exact (OwnPacked.rd0 OR1.out rfl).2.1
    case s45_ => exact (OwnPacked.rd1 (by (with_reducible repeat apply OwnPacked.drewN); exact OR1.out) rfl).2.2
    case s46_ => exact (OwnPacked.rd1 OR1.out rfl).2.1
    case s47_ => exact (OwnPacked.rd2 (by (with_reducible repeat apply OwnPacked.drewN); exact OR1.out) rfl).2.2
    case s48_ => exact (OwnPacked.rd2 OR1.out rfl).2.1
    case s49_ => exact (OwnPacked.rd3 (by (with_reducible repeat apply OwnPacked.drewN); exact OR1.out) rfl).2.2
    case s50_ => exact (OwnPacked.rd3 OR1.out rfl).2.1
    case s51_ => exact (OwnPacked.rd4 (by (with_reducible repeat apply OwnPacked.drewN); exact OR1.out) rfl).2.2
    case s52_ => exact (OwnPacked.rd4 OR1.out rfl).2.1
    case s53_ => exact (OwnPacked.rd5 (by (with_reducible repeat apply OwnPacked.drewN); exact OR1.out) rfl).2.2
    case s54_ => exact (OwnPacked.rd5 OR1.out rfl).2.1
    rintro e w13_ ⟨rfl, hb⟩
    have OR1 := Aside0.mk (OwnPacked.below (show OwnPacked _ _ _ _ _ _ _ _ _ _ _ _ _ _ _ _ _ from by (with_reducible repeat apply OwnPacked.drewN); exact OR1.out) hb)
    have OX2 := Aside0.mk (OwnDfa.below (show OwnDfa _ _ _ _ _ _ _ _ _ _ _ from by (with_reducible repeat apply OwnDfa.drewN); exact OX2.out) hb)
    have OR2 := Aside0.mk (OwnPacked.below (show OwnPacked _ _ _ _ _ _ _ _ _ _ _ _ _ _ _ _ _ from by (with_reducible repeat apply OwnPacked.drewN); exact OR2.out) hb)
    have BK1 := Aside0.mk (show w13_.heap[gBK1]? = some (.cells #[.slice A0_0 l0_0.length c0_0, .slice A0_1 l0_1.length c0_1, .slice A0_2 l0_2.length c0_2] 49 (0, 0)) from (hb.block _ (blk_lt BK1.out)).trans BK1.out)
    have BK4 := Aside0.mk (show w13_.heap[gBK4]? = some (.cells #[(.slice AOR1_0 o0_0.length cOR1_0), (.slice AOR1_1 o0_1.length cOR1_1), (.slice AOR1_2 o0_2.length cOR1_2), (.slice AOR1_3 o0_3.length cOR1_3), (.slice AOR1_4 o0_4.length cOR1_4), (.slice AOR1_5 o0_5.length cOR1_5)] 74 (0, 0)) from (hb.block _ (blk_lt BK4.out)).trans BK4.out)
    have BK6 := Aside0.mk (show w13_.heap[gBK6]? = some (.cells #[(.slice AOX2_0 e0_0.length cOX2_0), (.slice AOX2_1 e0_1.length cOX2_1), (.slice AOX2_2 e0_2.length cOX2_2)] 53 (0, 0)) from (hb.block _ (blk_lt BK6.out)).trans BK6.out)
    have BK7 := Aside0.mk (show w13_.heap[gBK7]? = some (.cells #[(.slice AOR2_0 o0_0.length cOR2_0), (.slice AOR2_1 o0_1.length cOR2_1), (.slice AOR2_2 o0_2.length cOR2_2), (.slice AOR2_3 o0_3.length cOR2_3), (.slice AOR2_4 o0_4.length cOR2_4), (.slice AOR2_5 o0_5.length cOR2_5)] 74 (0, 0)) from (hb.block _ (blk_lt BK7.out)).trans BK7.out)
    have HZ13 := Aside0.mk (show w12_.heap.size ≤ w13_.heap.size from hb.size)
    have HB := Aside0.mk (below_step (show Below w.heap.size w _ from by (with_reducible repeat apply pw_below_drewN); exact HB.out) hb)
    (try clear hczBK1_0 hczBK1_1 hczBK1_2 hczBK4_0 hczBK4_1 hczBK4_2 hczBK4_3 hczBK4_4 hczBK4_5 hczBK6_0 hczBK6_1 hczBK6_2 hczBK7_0 hczBK7_1 hczBK7_2 hczBK7_3 hczBK7_4 hczBK7_5)
    have hczBK1_0 : w13_.cell? ⟨gBK1, 0, none⟩ = some (.slice A0_0 l0_0.length c0_0) := (blk_cell BK1.out 0).trans rfl
    have hczBK1_1 : w13_.cell? ⟨gBK1, 1, none⟩ = some (.slice A0_1 l0_1.length c0_1) := (blk_cell BK1.out 1).trans rfl
    have hczBK1_2 : w13_.cell? ⟨gBK1, 2, none⟩ = some (.slice A0_2 l0_2.length c0_2) := (blk_cell BK1.out 2).trans rfl
    have hczBK4_0 : w13_.cell? ⟨gBK4, 0, none⟩ = some ((.slice AOR1_0 o0_0.length cOR1_0)) := (blk_cell BK4.out 0).trans rfl
    have hczBK4_1 : w13_.cell? ⟨gBK4, 1, none⟩ = some ((.slice AOR1_1 o0_1.length cOR1_1)) := (blk_cell BK4.out 1).trans rfl
    have hczBK4_2 : w13_.cell? ⟨gBK4, 2, none⟩ = some ((.slice AOR1_2 o0_2.length cOR1_2)) := (blk_cell BK4.out 2).trans rfl
    have hczBK4_3 : w13_.cell? ⟨gBK4, 3, none⟩ = some ((.slice AOR1_3 o0_3.length cOR1_3)) := (blk_cell BK4.out 3).trans rfl
    have hczBK4_4 : w13_.cell? ⟨gBK4, 4, none⟩ = some ((.slice AOR1_4 o0_4.length cOR1_4)) := (blk_cell BK4.out 4).trans rfl
    have hczBK4_5 : w13_.cell? ⟨gBK4, 5, none⟩ = some ((.slice AOR1_5 o0_5.length cOR1_5)) := (blk_cell BK4.out 5).trans rfl
    have hczBK6_0 : w13_.cell? ⟨gBK6, 0, none⟩ = some ((.slice AOX2_0 e0_0.length cOX2_0)) := (blk_cell BK6.out 0).trans rfl
    have hczBK6_1 : w13_.cell? ⟨gBK6, 1, none⟩ = some ((.slice AOX2_1 e0_1.length cOX2_1)) := (blk_cell BK6.out 1).trans rfl
    have hczBK6_2 : w13_.cell? ⟨gBK6, 2, none⟩ = some ((.slice AOX2_2 e0_2.length cOX2_2)) := (blk_cell BK6.out 2).trans rfl
    have hczBK7_0 : w13_.cell? ⟨gBK7, 0, none⟩ = some ((.slice AOR2_0 o0_0.length cOR2_0)) := (blk_cell BK7.out 0).trans rfl
    have hczBK7_1 : w13_.cell? ⟨gBK7, 1, none⟩ = some ((.slice AOR2_1 o0_1.length cOR2_1)) := (blk_cell BK7.out 1).trans rfl
    have hczBK7_2 : w13_.cell? ⟨gBK7, 2, none⟩ = some ((.slice AOR2_2 o0_2.length cOR2_2)) := (blk_cell BK7.out 2).trans rfl
    have hczBK7_3 : w13_.cell? ⟨gBK7, 3, none⟩ = some ((.slice AOR2_3 o0_3.length cOR2_3)) := (blk_cell BK7.out 3).trans rfl
    have hczBK7_4 : w13_.cell? ⟨gBK7, 4, none⟩ = some ((.slice AOR2_4 o0_4.length cOR2_4)) := (blk_cell BK7.out 4).trans rfl
    have hczBK7_5 : w13_.cell? ⟨gBK7, 5, none⟩ = some ((.slice AOR2_5 o0_5.length cOR2_5)) := (blk_cell BK7.out 5).trans rfl
    clear hb
    go_wp2_with fail
    refine start_ (n := 5) (S := fun w' => w'.cell? ⟨gBK6, 0, none⟩ = some ((.slice AOX2_0 e0_0.length cOX2_0)) ∧ w'.cell? ⟨gBK6, 1, none⟩ = some ((.slice AOX2_1 e0_1.length cOX2_1)) ∧ w'.cell? ⟨gBK6, 2, none⟩ = some ((.slice AOX2_2 e0_2.length cOX2_2)) ∧ w'.cell? ⟨gBK1, 0, none⟩ = some (.slice A0_0 l0_0.length c0_0) ∧ w'.cell? ⟨gBK1, 1, none⟩ = some (.slice A0_1 l0_1.length c0_1) ∧ w'.cell? ⟨gBK1, 2, none⟩ = some (.slice A0_2 l0_2.length c0_2)) (ds := []) #[false, false, false, false, false] (by kernel_rfl) rfl rfl ⟨(blk_cell BK6.out 0).trans rfl, (blk_cell BK6.out 1).trans rfl, (blk_cell BK6.out 2).trans rfl, (blk_cell BK1.out 0).trans rfl, (blk_cell BK1.out 1).trans rfl, (blk_cell BK1.out 2).trans rfl⟩ (fun hHeld => ?_)
    have hb : Below w13_.heap.size w13_ w13_.drew := below_drew1 (Below.refl _ _)
    (try clear hczBK1_0 hczBK1_1 hczBK1_2 hczBK4_0 hczBK4_1 hczBK4_2 hczBK4_3 hczBK4_4 hczBK4_5 hczBK6_0 hczBK6_1 hczBK6_2 hczBK7_0 hczBK7_1 hczBK7_2 hczBK7_3 hczBK7_4 hczBK7_5)
    generalize w13_.drew = w14_ at hb hHeld ⊢
    have OR1 := Aside0.mk (OwnPacked.below (show OwnPacked _ _ _ _ _ _ _ _ _ _ _ _ _ _ _ _ _ from by (with_reducible repeat apply OwnPacked.drewN); exact OR1.out) hb)
    have OX2 := Aside0.mk (OwnDfa.below (show OwnDfa _ _ _ _ _ _ _ _ _ _ _ from by (with_reducible repeat apply OwnDfa.drewN); exact OX2.out) hb)
    have OR2 := Aside0.mk (OwnPacked.below (show OwnPacked _ _ _ _ _ _ _ _ _ _ _ _ _ _ _ _ _ from by (with_reducible repeat apply OwnPacked.drewN); exact OR2.out) hb)
    have BK1 := Aside0.mk (show w14_.heap[gBK1]? = some (.cells #[.slice A0_0 l0_0.length c0_0, .slice A0_1 l0_1.length c0_1, .slice A0_2 l0_2.length c0_2] 49 (0, 0)) from (hb.block _ (blk_lt BK1.out)).trans BK1.out)
    have BK4 := Aside0.mk (show w14_.heap[gBK4]? = some (.cells #[(.slice AOR1_0 o0_0.length cOR1_0), (.slice AOR1_1 o0_1.length cOR1_1), (.slice AOR1_2 o0_2.length cOR1_2), (.slice AOR1_3 o0_3.length cOR1_3), (.slice AOR1_4 o0_4.length cOR1_4), (.slice AOR1_5 o0_5.length cOR1_5)] 74 (0, 0)) from (hb.block _ (blk_lt BK4.out)).trans BK4.out)
    have BK6 := Aside0.mk (show w14_.heap[gBK6]? = some (.cells #[(.slice AOX2_0 e0_0.length cOX2_0), (.slice AOX2_1 e0_1.length cOX2_1), (.slice AOX2_2 e0_2.length cOX2_2)] 53 (0, 0)) from (hb.block _ (blk_lt BK6.out)).trans BK6.out)
    have BK7 := Aside0.mk (show w14_.heap[gBK7]? = some (.cells #[(.slice AOR2_0 o0_0.length cOR2_0), (.slice AOR2_1 o0_1.length cOR2_1), (.slice AOR2_2 o0_2.length cOR2_2), (.slice AOR2_3 o0_3.length cOR2_3), (.slice AOR2_4 o0_4.length cOR2_4), (.slice AOR2_5 o0_5.length cOR2_5)] 74 (0, 0)) from (hb.block _ (blk_lt BK7.out)).trans BK7.out)
    have HZ14 := Aside0.mk (show w13_.heap.size ≤ w14_.heap.size from hb.size)
    have HB := Aside0.mk (below_step (show Below w.heap.size w _ from by (with_reducible repeat apply pw_below_drewN); exact HB.out) hb)
    have hczBK1_0 : w14_.cell? ⟨gBK1, 0, none⟩ = some (.slice A0_0 l0_0.length c0_0) := (blk_cell BK1.out 0).trans rfl
    have hczBK1_1 : w14_.cell? ⟨gBK1, 1, none⟩ = some (.slice A0_1 l0_1.length c0_1) := (blk_cell BK1.out 1).trans rfl
    have hczBK1_2 : w14_.cell? ⟨gBK1, 2, none⟩ = some (.slice A0_2 l0_2.length c0_2) := (blk_cell BK1.out 2).trans rfl
    have hczBK4_0 : w14_.cell? ⟨gBK4, 0, none⟩ = some ((.slice AOR1_0 o0_0.length cOR1_0)) := (blk_cell BK4.out 0).trans rfl
    have hczBK4_1 : w14_.cell? ⟨gBK4, 1, none⟩ = some ((.slice AOR1_1 o0_1.length cOR1_1)) := (blk_cell BK4.out 1).trans rfl
    have hczBK4_2 : w14_.cell? ⟨gBK4, 2, none⟩ = some ((.slice AOR1_2 o0_2.length cOR1_2)) := (blk_cell BK4.out 2).trans rfl
    have hczBK4_3 : w14_.cell? ⟨gBK4, 3, none⟩ = some ((.slice AOR1_3 o0_3.length cOR1_3)) := (blk_cell BK4.out 3).trans rfl
    have hczBK4_4 : w14_.cell? ⟨gBK4, 4, none⟩ = some ((.slice AOR1_4 o0_4.length cOR1_4)) := (blk_cell BK4.out 4).trans rfl
    have hczBK4_5 : w14_.cell? ⟨gBK4, 5, none⟩ = some ((.slice AOR1_5 o0_5.length cOR1_5)) := (blk_cell BK4.out 5).trans rfl
    have hczBK6_0 : w14_.cell? ⟨gBK6, 0, none⟩ = some ((.slice AOX2_0 e0_0.length cOX2_0)) := (blk_cell BK6.out 0).trans rfl
    have hczBK6_1 : w14_.cell? ⟨gBK6, 1, none⟩ = some ((.slice AOX2_1 e0_1.length cOX2_1)) := (blk_cell BK6.out 1).trans rfl
    have hczBK6_2 : w14_.cell? ⟨gBK6, 2, none⟩ = some ((.slice AOX2_2 e0_2.length cOX2_2)) := (blk_cell BK6.out 2).trans rfl
    have hczBK7_0 : w14_.cell? ⟨gBK7, 0, none⟩ = some ((.slice AOR2_0 o0_0.length cOR2_0)) := (blk_cell BK7.out 0).trans rfl
    have hczBK7_1 : w14_.cell? ⟨gBK7, 1, none⟩ = some ((.slice AOR2_1 o0_1.length cOR2_1)) := (blk_cell BK7.out 1).trans rfl
    have hczBK7_2 : w14_.cell? ⟨gBK7, 2, none⟩ = some ((.slice AOR2_2 o0_2.length cOR2_2)) := (blk_cell BK7.out 2).trans rfl
    have hczBK7_3 : w14_.cell? ⟨gBK7, 3, none⟩ = some ((.slice AOR2_3 o0_3.length cOR2_3)) := (blk_cell BK7.out 3).trans rfl
    have hczBK7_4 : w14_.cell? ⟨gBK7, 4, none⟩ = some ((.slice AOR2_4 o0_4.length cOR2_4)) := (blk_cell BK7.out 4).trans rfl
    have hczBK7_5 : w14_.cell? ⟨gBK7, 5, none⟩ = some ((.slice AOR2_5 o0_5.length cOR2_5)) := (blk_cell BK7.out 5).trans rfl
    clear hb
    refine take_ (i := 0) (N := some 41) (v := ?_) (a' := ?_) #[true, false, false, false, false] rfl rfl (by kernel_rfl) (fun _ _ _ h => h) (Or.inl ⟨by rfl, ?_⟩) hHeld ?_ ?_
    rotate_left
    · rintro w' ⟨s0, s1, s2, s3, s4, s5⟩
      go_simp
      with_reducible rfl
    rotate_left
    · simp only [Act.put, List.setIfInBounds_toArray, List.set_cons_zero, List.set_cons_succ, i64_w, i32_w]
      rfl
    refine take_ (i := 1) (N := some 42) (v := ?_) (a' := ?_) #[true, true, false, false, false] rfl rfl (by kernel_rfl) (fun _ _ _ h => h) (Or.inl ⟨by rfl, ?_⟩) hHeld ?_ ?_
    rotate_left
    · rintro w' ⟨s0, s1, s2, s3, s4, s5⟩
      go_simp
      with_reducible rfl
    rotate_left
    · simp only [Act.put, List.setIfInBounds_toArray, List.set_cons_zero, List.set_cons_succ, i64_w, i32_w]
      rfl
    refine one_ (i := 2) (N := some 43) #[true, true, true, false, false] rfl rfl (by kernel_rfl) (by decide) (fun K hK => ?_)
    refine goes_ Try.func33 (by kernel_rfl) rfl #[.agg #[.slice A0_0 l0_0.length c0_0, .slice A0_1 l0_1.length c0_1, .slice A0_2 l0_2.length c0_2]] (by rfl) rfl rfl (by (try simp only [List.map_toArray, List.map_cons, List.map_nil]); first | done | rfl | (simp only [List.length_drop, List.length_take]; rfl)) ?_
    refine (laws_toDfa.calls k _ _ l0_0 _ _ l0_1 _ _ l0_2 e0_0 e0_1 e0_2 _ ?s55_ ?s56_ ?s57_ ?s58_ ?s59_ ?s60_ HFt0.out).mono ?_
    case s55_ => (with_reducible repeat refine Kd.C_drewN ?_ _); exact Kd.C_below HR0_0.out HB.out
    case s56_ => exact HC0_0.out
    case s57_ => (with_reducible repeat refine Kd.C_drewN ?_ _); exact Kd.C_below HR0_1.out HB.out
    case s58_ => exact HC0_1.out
    case s59_ => (with_reducible repeat refine Kd.C_drewN ?_ _); exact Kd.C_below HR0_2.out HB.out
    case s60_ => exact HC0_2.out
    rintro e w15_ ⟨vOX3_0, vOX3_1, vOX3_2, rfl, ho0, ho1, ho2, hb⟩
    refine ⟨_, rfl, ?_⟩
    have hOX3 : OwnDfa True w15_ w.heap.size w14_.heap.size w15_.heap.size vOX3_0 vOX3_1 vOX3_2 e0_0 e0_1 e0_2 := OwnDfa.of (show w.heap.size ≤ w14_.heap.size from by have z0_ := HZ1.out; have z1_ := HGBK1.out; have z2_ := HZ2.out; have z3_ := HZ3.out; have z4_ := HZ4.out; have z5_ := HZ5.out; have z6_ := HGBK4.out; have z7_ := HZ6.out; have z8_ := HZ7.out; have z9_ := HZ8.out; have z10_ := HGBK6.out; have z11_ := HZ9.out; have z12_ := HZ10.out; have z13_ := HZ11.out; have z14_ := HGBK7.out; have z15_ := HZ12.out; have z16_ := HZ13.out; have z17_ := HZ14.out; omega) ho0 ho1 ho2 (fun k_ q_ => by first | exact q_ | (simp only [ne_eq] at q_ ⊢; simp [q_])) (fun k_ q_ => by first | exact q_ | (simp only [ne_eq] at q_ ⊢; simp [q_])) (fun k_ q_ => by first | exact q_ | (simp only [ne_eq] at q_ ⊢; simp [q_]))
    obtain ⟨AOX3_0, cOX3_0, AOX3_1, cOX3_1, AOX3_2, cOX3_2, eOX3_0, eOX3_1, eOX3_2⟩ := hOX3.slices
    subst eOX3_0
    subst eOX3_1
    subst eOX3_2
    have OR1 := Aside0.mk (OwnPacked.below (show OwnPacked _ _ _ _ _ _ _ _ _ _ _ _ _ _ _ _ _ from by (with_reducible repeat apply OwnPacked.drewN); exact OR1.out) hb)
    have OX2 := Aside0.mk (OwnDfa.below (show OwnDfa _ _ _ _ _ _ _ _ _ _ _ from by (with_reducible repeat apply OwnDfa.drewN); exact OX2.out) hb)
    have OR2 := Aside0.mk (OwnPacked.below (show OwnPacked _ _ _ _ _ _ _ _ _ _ _ _ _ _ _ _ _ from by (with_reducible repeat apply OwnPacked.drewN); exact OR2.out) hb)
    have BK1 := Aside0.mk (show w15_.heap[gBK1]? = some (.cells #[.slice A0_0 l0_0.length c0_0, .slice A0_1 l0_1.length c0_1, .slice A0_2 l0_2.length c0_2] 49 (0, 0)) from (hb.block _ (blk_lt BK1.out)).trans BK1.out)
    have BK4 := Aside0.mk (show w15_.heap[gBK4]? = some (.cells #[(.slice AOR1_0 o0_0.length cOR1_0), (.slice AOR1_1 o0_1.length cOR1_1), (.slice AOR1_2 o0_2.length cOR1_2), (.slice AOR1_3 o0_3.length cOR1_3), (.slice AOR1_4 o0_4.length cOR1_4), (.slice AOR1_5 o0_5.length cOR1_5)] 74 (0, 0)) from (hb.block _ (blk_lt BK4.out)).trans BK4.out)
    have BK6 := Aside0.mk (show w15_.heap[gBK6]? = some (.cells #[(.slice AOX2_0 e0_0.length cOX2_0), (.slice AOX2_1 e0_1.length cOX2_1), (.slice AOX2_2 e0_2.length cOX2_2)] 53 (0, 0)) from (hb.block _ (blk_lt BK6.out)).trans BK6.out)
    have BK7 := Aside0.mk (show w15_.heap[gBK7]? = some (.cells #[(.slice AOR2_0 o0_0.length cOR2_0), (.slice AOR2_1 o0_1.length cOR2_1), (.slice AOR2_2 o0_2.length cOR2_2), (.slice AOR2_3 o0_3.length cOR2_3), (.slice AOR2_4 o0_4.length cOR2_4), (.slice AOR2_5 o0_5.length cOR2_5)] 74 (0, 0)) from (hb.block _ (blk_lt BK7.out)).trans BK7.out)
    have HZ15 := Aside0.mk (show w14_.heap.size ≤ w15_.heap.size from hb.size)
    have HB := Aside0.mk (below_step (show Below w.heap.size w _ from by (with_reducible repeat apply pw_below_drewN); exact HB.out) hb)
    have OX3 := Aside0.mk hOX3
    clear hOX3 hb ho0 ho1 ho2
    (try clear hczBK1_0 hczBK1_1 hczBK1_2 hczBK4_0 hczBK4_1 hczBK4_2 hczBK4_3 hczBK4_4 hczBK4_5 hczBK6_0 hczBK6_1 hczBK6_2 hczBK7_0 hczBK7_1 hczBK7_2 hczBK7_3 hczBK7_4 hczBK7_5)
    have hczBK1_0 : w15_.cell? ⟨gBK1, 0, none⟩ = some (.slice A0_0 l0_0.length c0_0) := (blk_cell BK1.out 0).trans rfl
    have hczBK1_1 : w15_.cell? ⟨gBK1, 1, none⟩ = some (.slice A0_1 l0_1.length c0_1) := (blk_cell BK1.out 1).trans rfl
    have hczBK1_2 : w15_.cell? ⟨gBK1, 2, none⟩ = some (.slice A0_2 l0_2.length c0_2) := (blk_cell BK1.out 2).trans rfl
    have hczBK4_0 : w15_.cell? ⟨gBK4, 0, none⟩ = some ((.slice AOR1_0 o0_0.length cOR1_0)) := (blk_cell BK4.out 0).trans rfl
    have hczBK4_1 : w15_.cell? ⟨gBK4, 1, none⟩ = some ((.slice AOR1_1 o0_1.length cOR1_1)) := (blk_cell BK4.out 1).trans rfl
    have hczBK4_2 : w15_.cell? ⟨gBK4, 2, none⟩ = some ((.slice AOR1_2 o0_2.length cOR1_2)) := (blk_cell BK4.out 2).trans rfl
    have hczBK4_3 : w15_.cell? ⟨gBK4, 3, none⟩ = some ((.slice AOR1_3 o0_3.length cOR1_3)) := (blk_cell BK4.out 3).trans rfl
    have hczBK4_4 : w15_.cell? ⟨gBK4, 4, none⟩ = some ((.slice AOR1_4 o0_4.length cOR1_4)) := (blk_cell BK4.out 4).trans rfl
    have hczBK4_5 : w15_.cell? ⟨gBK4, 5, none⟩ = some ((.slice AOR1_5 o0_5.length cOR1_5)) := (blk_cell BK4.out 5).trans rfl
    have hczBK6_0 : w15_.cell? ⟨gBK6, 0, none⟩ = some ((.slice AOX2_0 e0_0.length cOX2_0)) := (blk_cell BK6.out 0).trans rfl
    have hczBK6_1 : w15_.cell? ⟨gBK6, 1, none⟩ = some ((.slice AOX2_1 e0_1.length cOX2_1)) := (blk_cell BK6.out 1).trans rfl
    have hczBK6_2 : w15_.cell? ⟨gBK6, 2, none⟩ = some ((.slice AOX2_2 e0_2.length cOX2_2)) := (blk_cell BK6.out 2).trans rfl
    have hczBK7_0 : w15_.cell? ⟨gBK7, 0, none⟩ = some ((.slice AOR2_0 o0_0.length cOR2_0)) := (blk_cell BK7.out 0).trans rfl
    have hczBK7_1 : w15_.cell? ⟨gBK7, 1, none⟩ = some ((.slice AOR2_1 o0_1.length cOR2_1)) := (blk_cell BK7.out 1).trans rfl
    have hczBK7_2 : w15_.cell? ⟨gBK7, 2, none⟩ = some ((.slice AOR2_2 o0_2.length cOR2_2)) := (blk_cell BK7.out 2).trans rfl
    have hczBK7_3 : w15_.cell? ⟨gBK7, 3, none⟩ = some ((.slice AOR2_3 o0_3.length cOR2_3)) := (blk_cell BK7.out 3).trans rfl
    have hczBK7_4 : w15_.cell? ⟨gBK7, 4, none⟩ = some ((.slice AOR2_4 o0_4.length cOR2_4)) := (blk_cell BK7.out 4).trans rfl
    have hczBK7_5 : w15_.cell? ⟨gBK7, 5, none⟩ = some ((.slice AOR2_5 o0_5.length cOR2_5)) := (blk_cell BK7.out 5).trans rfl
    refine hK.out _ _ ⟨(blk_cell BK6.out 0).trans rfl, (blk_cell BK6.out 1).trans rfl, (blk_cell BK6.out 2).trans rfl, (blk_cell BK1.out 0).trans rfl, (blk_cell BK1.out 1).trans rfl, (blk_cell BK1.out 2).trans rfl⟩ (fun hHeld => ?_)
    clear hK K
    refine norm_ (a' := ?_) ?_ ?_
    rotate_left
    · show Act.put _ (some 43) _ = _
      simp only [Act.put, List.setIfInBounds_toArray, List.set_cons_zero, List.set_cons_succ, i64_w, i32_w]
      rfl
    refine one_ (i := 3) (N := some 44) #[true, true, true, true, false] rfl rfl (by kernel_rfl) (by decide) (fun K hK => ?_)
    refine goes_ Try.func35 (by kernel_rfl) rfl #[.agg #[(.slice AOX2_0 e0_0.length cOX2_0), (.slice AOX2_1 e0_1.length cOX2_1), (.slice AOX2_2 e0_2.length cOX2_2)], .agg #[(.slice AOX3_0 e0_0.length cOX3_0), (.slice AOX3_1 e0_1.length cOX3_1), (.slice AOX3_2 e0_2.length cOX3_2)]] (by rfl) rfl rfl (by (try simp only [List.map_toArray, List.map_cons, List.map_nil]); first | done | rfl | (simp only [List.length_drop, List.length_take]; rfl)) ?_
    refine (laws_eqDfa.calls k _ _ e0_0 _ _ e0_1 _ _ e0_2 _ _ e0_0 _ _ e0_1 _ _ e0_2 true _ ?s61_ ?s62_ ?s63_ ?s64_ ?s65_ ?s66_ ?s67_ ?s68_ ?s69_ ?s70_ ?s71_ ?s72_ HFeX0.out).mono ?_
    case s61_ => exact (OwnDfa.rd0 (by (with_reducible repeat apply OwnDfa.drewN); exact OX2.out) rfl).2.2
    case s62_ => exact (OwnDfa.rd0 OX2.out rfl).2.1
    case s63_ => exact (OwnDfa.rd1 (by (with_reducible repeat apply OwnDfa.drewN); exact OX2.out) rfl).2.2
    case s64_ => exact (OwnDfa.rd1 OX2.out rfl).2.1
    case s65_ => exact (OwnDfa.rd2 (by (with_reducible repeat apply OwnDfa.drewN); exact OX2.out) rfl).2.2
    case s66_ => exact (OwnDfa.rd2 OX2.out rfl).2.1
    case s67_ => exact (OwnDfa.rd0 (by (with_reducible repeat apply OwnDfa.drewN); exact OX3.out) rfl).2.2
    case s68_ => exact (OwnDfa.rd0 OX3.out rfl).2.1
    case s69_ => exact (OwnDfa.rd1 (by (with_reducible repeat apply OwnDfa.drewN); exact OX3.out) rfl).2.2
    case s70_ => exact (OwnDfa.rd1 OX3.out rfl).2.1
    case s71_ => exact (OwnDfa.rd2 (by (with_reducible repeat apply OwnDfa.drewN); exact OX3.out) rfl).2.2
    case s72_ => exact (OwnDfa.rd2 OX3.out rfl).2.1
    rintro e w16_ ⟨rfl, hb⟩
    refine ⟨_, rfl, ?_⟩
    have OR1 := Aside0.mk (OwnPacked.below (show OwnPacked _ _ _ _ _ _ _ _ _ _ _ _ _ _ _ _ _ from by (with_reducible repeat apply OwnPacked.drewN); exact OR1.out) hb)
    have OX2 := Aside0.mk (OwnDfa.below (show OwnDfa _ _ _ _ _ _ _ _ _ _ _ from by (with_reducible repeat apply OwnDfa.drewN); exact OX2.out) hb)
    have OR2 := Aside0.mk (OwnPacked.below (show OwnPacked _ _ _ _ _ _ _ _ _ _ _ _ _ _ _ _ _ from by (with_reducible repeat apply OwnPacked.drewN); exact OR2.out) hb)
    have OX3 := Aside0.mk (OwnDfa.below (show OwnDfa _ _ _ _ _ _ _ _ _ _ _ from by (with_reducible repeat apply OwnDfa.drewN); exact OX3.out) hb)
    have BK1 := Aside0.mk (show w16_.heap[gBK1]? = some (.cells #[.slice A0_0 l0_0.length c0_0, .slice A0_1 l0_1.length c0_1, .slice A0_2 l0_2.length c0_2] 49 (0, 0)) from (hb.block _ (blk_lt BK1.out)).trans BK1.out)
    have BK4 := Aside0.mk (show w16_.heap[gBK4]? = some (.cells #[(.slice AOR1_0 o0_0.length cOR1_0), (.slice AOR1_1 o0_1.length cOR1_1), (.slice AOR1_2 o0_2.length cOR1_2), (.slice AOR1_3 o0_3.length cOR1_3), (.slice AOR1_4 o0_4.length cOR1_4), (.slice AOR1_5 o0_5.length cOR1_5)] 74 (0, 0)) from (hb.block _ (blk_lt BK4.out)).trans BK4.out)
    have BK6 := Aside0.mk (show w16_.heap[gBK6]? = some (.cells #[(.slice AOX2_0 e0_0.length cOX2_0), (.slice AOX2_1 e0_1.length cOX2_1), (.slice AOX2_2 e0_2.length cOX2_2)] 53 (0, 0)) from (hb.block _ (blk_lt BK6.out)).trans BK6.out)
    have BK7 := Aside0.mk (show w16_.heap[gBK7]? = some (.cells #[(.slice AOR2_0 o0_0.length cOR2_0), (.slice AOR2_1 o0_1.length cOR2_1), (.slice AOR2_2 o0_2.length cOR2_2), (.slice AOR2_3 o0_3.length cOR2_3), (.slice AOR2_4 o0_4.length cOR2_4), (.slice AOR2_5 o0_5.length cOR2_5)] 74 (0, 0)) from (hb.block _ (blk_lt BK7.out)).trans BK7.out)
    have HZ16 := Aside0.mk (show w15_.heap.size ≤ w16_.heap.size from hb.size)
    have HB := Aside0.mk (below_step (show Below w.heap.size w _ from by (with_reducible repeat apply pw_below_drewN); exact HB.out) hb)
    (try clear hczBK1_0 hczBK1_1 hczBK1_2 hczBK4_0 hczBK4_1 hczBK4_2 hczBK4_3 hczBK4_4 hczBK4_5 hczBK6_0 hczBK6_1 hczBK6_2 hczBK7_0 hczBK7_1 hczBK7_2 hczBK7_3 hczBK7_4 hczBK7_5)
    have hczBK1_0 : w16_.cell? ⟨gBK1, 0, none⟩ = some (.slice A0_0 l0_0.length c0_0) := (blk_cell BK1.out 0).trans rfl
    have hczBK1_1 : w16_.cell? ⟨gBK1, 1, none⟩ = some (.slice A0_1 l0_1.length c0_1) := (blk_cell BK1.out 1).trans rfl
    have hczBK1_2 : w16_.cell? ⟨gBK1, 2, none⟩ = some (.slice A0_2 l0_2.length c0_2) := (blk_cell BK1.out 2).trans rfl
    have hczBK4_0 : w16_.cell? ⟨gBK4, 0, none⟩ = some ((.slice AOR1_0 o0_0.length cOR1_0)) := (blk_cell BK4.out 0).trans rfl
    have hczBK4_1 : w16_.cell? ⟨gBK4, 1, none⟩ = some ((.slice AOR1_1 o0_1.length cOR1_1)) := (blk_cell BK4.out 1).trans rfl
    have hczBK4_2 : w16_.cell? ⟨gBK4, 2, none⟩ = some ((.slice AOR1_2 o0_2.length cOR1_2)) := (blk_cell BK4.out 2).trans rfl
    have hczBK4_3 : w16_.cell? ⟨gBK4, 3, none⟩ = some ((.slice AOR1_3 o0_3.length cOR1_3)) := (blk_cell BK4.out 3).trans rfl
    have hczBK4_4 : w16_.cell? ⟨gBK4, 4, none⟩ = some ((.slice AOR1_4 o0_4.length cOR1_4)) := (blk_cell BK4.out 4).trans rfl
    have hczBK4_5 : w16_.cell? ⟨gBK4, 5, none⟩ = some ((.slice AOR1_5 o0_5.length cOR1_5)) := (blk_cell BK4.out 5).trans rfl
    have hczBK6_0 : w16_.cell? ⟨gBK6, 0, none⟩ = some ((.slice AOX2_0 e0_0.length cOX2_0)) := (blk_cell BK6.out 0).trans rfl
    have hczBK6_1 : w16_.cell? ⟨gBK6, 1, none⟩ = some ((.slice AOX2_1 e0_1.length cOX2_1)) := (blk_cell BK6.out 1).trans rfl
    have hczBK6_2 : w16_.cell? ⟨gBK6, 2, none⟩ = some ((.slice AOX2_2 e0_2.length cOX2_2)) := (blk_cell BK6.out 2).trans rfl
    have hczBK7_0 : w16_.cell? ⟨gBK7, 0, none⟩ = some ((.slice AOR2_0 o0_0.length cOR2_0)) := (blk_cell BK7.out 0).trans rfl
    have hczBK7_1 : w16_.cell? ⟨gBK7, 1, none⟩ = some ((.slice AOR2_1 o0_1.length cOR2_1)) := (blk_cell BK7.out 1).trans rfl
    have hczBK7_2 : w16_.cell? ⟨gBK7, 2, none⟩ = some ((.slice AOR2_2 o0_2.length cOR2_2)) := (blk_cell BK7.out 2).trans rfl
    have hczBK7_3 : w16_.cell? ⟨gBK7, 3, none⟩ = some ((.slice AOR2_3 o0_3.length cOR2_3)) := (blk_cell BK7.out 3).trans rfl
    have hczBK7_4 : w16_.cell? ⟨gBK7, 4, none⟩ = some ((.slice AOR2_4 o0_4.length cOR2_4)) := (blk_cell BK7.out 4).trans rfl
    have hczBK7_5 : w16_.cell? ⟨gBK7, 5, none⟩ = some ((.slice AOR2_5 o0_5.length cOR2_5)) := (blk_cell BK7.out 5).trans rfl
    clear hb
    refine hK.out _ _ ⟨(blk_cell BK6.out 0).trans rfl, (blk_cell BK6.out 1).trans rfl, (blk_cell BK6.out 2).trans rfl, (blk_cell BK1.out 0).trans rfl, (blk_cell BK1.out 1).trans rfl, (blk_cell BK1.out 2).trans rfl⟩ (fun hHeld => ?_)
    clear hK K
    refine norm_ (a' := ?_) ?_ ?_
    rotate_left
    · show Act.put _ (some 44) _ = _
      simp only [Act.put, List.setIfInBounds_toArray, List.set_cons_zero, List.set_cons_succ, i64_w, i32_w]
      rfl
    refine pure_ (i := 4) (N := some 45) (v := ?_) (a' := ?_) #[true, true, true, true, true] rfl rfl (by kernel_rfl) (fun _ _ _ h => h) (Or.inl ⟨by rfl, ?_⟩) ?_ ?_; rotate_left; (· intro w'; go_simp; with_reducible rfl); rotate_left; (· simp only [Act.put, List.setIfInBounds_toArray, List.set_cons_zero, List.set_cons_succ, i64_w, i32_w]; rfl)
    refine done_ (by kernel_rfl) ?_
    clear hHeld
    clear OX3
    go_wp2_with fail
    refine (OwnDfa.mark k  1 m0 y0_0 y0_1 y0_2 (show OwnDfa _ _ _ _ _ _ _ _ _ _ _ from by (with_reducible repeat apply OwnDfa.drewN); exact OX2.out) (show Below w.heap.size w _ from by (with_reducible repeat apply pw_below_drewN); exact HB.out) (show _ ≤ w16_.heap.size from by have z0_ := HZ1.out; have z1_ := HGBK1.out; have z2_ := HZ2.out; have z3_ := HZ3.out; have z4_ := HZ4.out; have z5_ := HZ5.out; have z6_ := HGBK4.out; have z7_ := HZ6.out; have z8_ := HZ7.out; have z9_ := HZ8.out; have z10_ := HGBK6.out; have z11_ := HZ9.out; have z12_ := HZ10.out; have z13_ := HZ11.out; have z14_ := HGBK7.out; have z15_ := HZ12.out; have z16_ := HZ13.out; have z17_ := HZ14.out; have z18_ := HZ15.out; have z19_ := HZ16.out; omega) HFmP0.out).mono ?_
    rintro e w17_ ⟨rfl, hY, hB, hk⟩
    have OR1 := Aside0.mk (OwnPacked.kept (show OwnPacked _ _ _ _ _ _ _ _ _ _ _ _ _ _ _ _ _ from by (with_reducible repeat apply OwnPacked.drewN); exact OR1.out) hk (fun k_ h1 h2 h3 => by have z0_ := HZ1.out; have z1_ := HGBK1.out; have z2_ := HZ2.out; have z3_ := HZ3.out; have z4_ := HZ4.out; have z5_ := HZ5.out; have z6_ := HGBK4.out; have z7_ := HZ6.out; have z8_ := HZ7.out; have z9_ := HZ8.out; have z10_ := HGBK6.out; have z11_ := HZ9.out; have z12_ := HZ10.out; have z13_ := HZ11.out; have z14_ := HGBK7.out; have z15_ := HZ12.out; have z16_ := HZ13.out; have z17_ := HZ14.out; have z18_ := HZ15.out; have z19_ := HZ16.out; omega))
    have OR2 := Aside0.mk (OwnPacked.kept (show OwnPacked _ _ _ _ _ _ _ _ _ _ _ _ _ _ _ _ _ from by (with_reducible repeat apply OwnPacked.drewN); exact OR2.out) hk (fun k_ h1 h2 h3 => by have z0_ := HZ1.out; have z1_ := HGBK1.out; have z2_ := HZ2.out; have z3_ := HZ3.out; have z4_ := HZ4.out; have z5_ := HZ5.out; have z6_ := HGBK4.out; have z7_ := HZ6.out; have z8_ := HZ7.out; have z9_ := HZ8.out; have z10_ := HGBK6.out; have z11_ := HZ9.out; have z12_ := HZ10.out; have z13_ := HZ11.out; have z14_ := HGBK7.out; have z15_ := HZ12.out; have z16_ := HZ13.out; have z17_ := HZ14.out; have z18_ := HZ15.out; have z19_ := HZ16.out; omega))
    have BK1 := Aside0.mk (show w17_.heap[gBK1]? = some (.cells #[.slice A0_0 l0_0.length c0_0, .slice A0_1 l0_1.length c0_1, .slice A0_2 l0_2.length c0_2] 49 (0, 0)) from (hk.2 _ (blk_lt BK1.out) (fun h3 => by have z0_ := HZ1.out; have z1_ := HGBK1.out; have z2_ := HZ2.out; have z3_ := HZ3.out; have z4_ := HZ4.out; have z5_ := HZ5.out; have z6_ := HGBK4.out; have z7_ := HZ6.out; have z8_ := HZ7.out; have z9_ := HZ8.out; have z10_ := HGBK6.out; have z11_ := HZ9.out; have z12_ := HZ10.out; have z13_ := HZ11.out; have z14_ := HGBK7.out; have z15_ := HZ12.out; have z16_ := HZ13.out; have z17_ := HZ14.out; have z18_ := HZ15.out; have z19_ := HZ16.out; omega)).trans BK1.out)
    have BK4 := Aside0.mk (show w17_.heap[gBK4]? = some (.cells #[(.slice AOR1_0 o0_0.length cOR1_0), (.slice AOR1_1 o0_1.length cOR1_1), (.slice AOR1_2 o0_2.length cOR1_2), (.slice AOR1_3 o0_3.length cOR1_3), (.slice AOR1_4 o0_4.length cOR1_4), (.slice AOR1_5 o0_5.length cOR1_5)] 74 (0, 0)) from (hk.2 _ (blk_lt BK4.out) (fun h3 => by have z0_ := HZ1.out; have z1_ := HGBK1.out; have z2_ := HZ2.out; have z3_ := HZ3.out; have z4_ := HZ4.out; have z5_ := HZ5.out; have z6_ := HGBK4.out; have z7_ := HZ6.out; have z8_ := HZ7.out; have z9_ := HZ8.out; have z10_ := HGBK6.out; have z11_ := HZ9.out; have z12_ := HZ10.out; have z13_ := HZ11.out; have z14_ := HGBK7.out; have z15_ := HZ12.out; have z16_ := HZ13.out; have z17_ := HZ14.out; have z18_ := HZ15.out; have z19_ := HZ16.out; omega)).trans BK4.out)
    have BK6 := Aside0.mk (show w17_.heap[gBK6]? = some (.cells #[(.slice AOX2_0 e0_0.length cOX2_0), (.slice AOX2_1 e0_1.length cOX2_1), (.slice AOX2_2 e0_2.length cOX2_2)] 53 (0, 0)) from (hk.2 _ (blk_lt BK6.out) (fun h3 => by have z0_ := HZ1.out; have z1_ := HGBK1.out; have z2_ := HZ2.out; have z3_ := HZ3.out; have z4_ := HZ4.out; have z5_ := HZ5.out; have z6_ := HGBK4.out; have z7_ := HZ6.out; have z8_ := HZ7.out; have z9_ := HZ8.out; have z10_ := HGBK6.out; have z11_ := HZ9.out; have z12_ := HZ10.out; have z13_ := HZ11.out; have z14_ := HGBK7.out; have z15_ := HZ12.out; have z16_ := HZ13.out; have z17_ := HZ14.out; have z18_ := HZ15.out; have z19_ := HZ16.out; omega)).trans BK6.out)
    have BK7 := Aside0.mk (show w17_.heap[gBK7]? = some (.cells #[(.slice AOR2_0 o0_0.length cOR2_0), (.slice AOR2_1 o0_1.length cOR2_1), (.slice AOR2_2 o0_2.length cOR2_2), (.slice AOR2_3 o0_3.length cOR2_3), (.slice AOR2_4 o0_4.length cOR2_4), (.slice AOR2_5 o0_5.length cOR2_5)] 74 (0, 0)) from (hk.2 _ (blk_lt BK7.out) (fun h3 => by have z0_ := HZ1.out; have z1_ := HGBK1.out; have z2_ := HZ2.out; have z3_ := HZ3.out; have z4_ := HZ4.out; have z5_ := HZ5.out; have z6_ := HGBK4.out; have z7_ := HZ6.out; have z8_ := HZ7.out; have z9_ := HZ8.out; have z10_ := HGBK6.out; have z11_ := HZ9.out; have z12_ := HZ10.out; have z13_ := HZ11.out; have z14_ := HGBK7.out; have z15_ := HZ12.out; have z16_ := HZ13.out; have z17_ := HZ14.out; have z18_ := HZ15.out; have z19_ := HZ16.out; omega)).trans BK7.out)
    have HZ17 := Aside0.mk (show w16_.heap.size ≤ w17_.heap.size from hk.1)
    have OX2 := Aside0.mk hY
    have HB := Aside0.mk hB
    clear hY hB hk
    (try clear hczBK1_0 hczBK1_1 hczBK1_2 hczBK4_0 hczBK4_1 hczBK4_2 hczBK4_3 hczBK4_4 hczBK4_5 hczBK6_0 hczBK6_1 hczBK6_2 hczBK7_0 hczBK7_1 hczBK7_2 hczBK7_3 hczBK7_4 hczBK7_5)
    have hczBK1_0 : w17_.cell? ⟨gBK1, 0, none⟩ = some (.slice A0_0 l0_0.length c0_0) := (blk_cell BK1.out 0).trans rfl
    have hczBK1_1 : w17_.cell? ⟨gBK1, 1, none⟩ = some (.slice A0_1 l0_1.length c0_1) := (blk_cell BK1.out 1).trans rfl
    have hczBK1_2 : w17_.cell? ⟨gBK1, 2, none⟩ = some (.slice A0_2 l0_2.length c0_2) := (blk_cell BK1.out 2).trans rfl
    have hczBK4_0 : w17_.cell? ⟨gBK4, 0, none⟩ = some ((.slice AOR1_0 o0_0.length cOR1_0)) := (blk_cell BK4.out 0).trans rfl
    have hczBK4_1 : w17_.cell? ⟨gBK4, 1, none⟩ = some ((.slice AOR1_1 o0_1.length cOR1_1)) := (blk_cell BK4.out 1).trans rfl
    have hczBK4_2 : w17_.cell? ⟨gBK4, 2, none⟩ = some ((.slice AOR1_2 o0_2.length cOR1_2)) := (blk_cell BK4.out 2).trans rfl
    have hczBK4_3 : w17_.cell? ⟨gBK4, 3, none⟩ = some ((.slice AOR1_3 o0_3.length cOR1_3)) := (blk_cell BK4.out 3).trans rfl
    have hczBK4_4 : w17_.cell? ⟨gBK4, 4, none⟩ = some ((.slice AOR1_4 o0_4.length cOR1_4)) := (blk_cell BK4.out 4).trans rfl
    have hczBK4_5 : w17_.cell? ⟨gBK4, 5, none⟩ = some ((.slice AOR1_5 o0_5.length cOR1_5)) := (blk_cell BK4.out 5).trans rfl
    have hczBK6_0 : w17_.cell? ⟨gBK6, 0, none⟩ = some ((.slice AOX2_0 e0_0.length cOX2_0)) := (blk_cell BK6.out 0).trans rfl
    have hczBK6_1 : w17_.cell? ⟨gBK6, 1, none⟩ = some ((.slice AOX2_1 e0_1.length cOX2_1)) := (blk_cell BK6.out 1).trans rfl
    have hczBK6_2 : w17_.cell? ⟨gBK6, 2, none⟩ = some ((.slice AOX2_2 e0_2.length cOX2_2)) := (blk_cell BK6.out 2).trans rfl
    have hczBK7_0 : w17_.cell? ⟨gBK7, 0, none⟩ = some ((.slice AOR2_0 o0_0.length cOR2_0)) := (blk_cell BK7.out 0).trans rfl
    have hczBK7_1 : w17_.cell? ⟨gBK7, 1, none⟩ = some ((.slice AOR2_1 o0_1.length cOR2_1)) := (blk_cell BK7.out 1).trans rfl
    have hczBK7_2 : w17_.cell? ⟨gBK7, 2, none⟩ = some ((.slice AOR2_2 o0_2.length cOR2_2)) := (blk_cell BK7.out 2).trans rfl
    have hczBK7_3 : w17_.cell? ⟨gBK7, 3, none⟩ = some ((.slice AOR2_3 o0_3.length cOR2_3)) := (blk_cell BK7.out 3).trans rfl
    have hczBK7_4 : w17_.cell? ⟨gBK7, 4, none⟩ = some ((.slice AOR2_4 o0_4.length cOR2_4)) := (blk_cell BK7.out 4).trans rfl
    have hczBK7_5 : w17_.cell? ⟨gBK7, 5, none⟩ = some ((.slice AOR2_5 o0_5.length cOR2_5)) := (blk_cell BK7.out 5).trans rfl
    (try have t1 : (m0 < 0) = False := eq_false (by have := HFm0.out; omega))
    clear OX2
    go_wp2_with fail
    refine (laws_eqPacked.calls k _ _ o0_0 _ _ o0_1 _ _ o0_2 _ _ o0_3 _ _ o0_4 _ _ o0_5 _ _ o0_0 _ _ o0_1 _ _ o0_2 _ _ o0_3 _ _ o0_4 _ _ o0_5 true _ ?s73_ ?s74_ ?s75_ ?s76_ ?s77_ ?s78_ ?s79_ ?s80_ ?s81_ ?s82_ ?s83_ ?s84_ ?s85_ ?s86_ ?s87_ ?s88_ ?s89_ ?s90_ ?s91_ ?s92_ ?s93_ ?s94_ ?s95_ ?s96_ HFeR.out).mono ?_
    case s73_ => exact (OwnPacked.rd0 (by (with_reducible repeat apply OwnPacked.drewN); exact OR2.out) rfl).2.2
    case s74_ => exact (OwnPacked.rd0 OR2.out rfl).2.1
    case s75_ => exact (OwnPacked.rd1 (by (with_reducible repeat apply OwnPacked.drewN); exact OR2.out) rfl).2.2
    case s76_ => exact (OwnPacked.rd1 OR2.out rfl).2.1
    case s77_ => exact (OwnPacked.rd2 (by (with_reducible repeat apply OwnPacked.drewN); exact OR2.out) rfl).2.2
    case s78_ => exact (OwnPacked.rd2 OR2.out rfl).2.1
    case s79_ => exact (OwnPacked.rd3 (by (with_reducible repeat apply OwnPacked.drewN); exact OR2.out) rfl).2.2
    case s80_ => exact (OwnPacked.rd3 OR2.out rfl).2.1
    case s81_ => exact (OwnPacked.rd4 (by (with_reducible repeat apply OwnPacked.drewN); exact OR2.out) rfl).2.2
    case s82_ => exact (OwnPacked.rd4 OR2.out rfl).2.1
    case s83_ => exact (OwnPacked.rd5 (by (with_reducible repeat apply OwnPacked.drewN); exact OR2.out) rfl).2.2
    case s84_ => exact (OwnPacked.rd5 OR2.out rfl).2.1
    case s85_ => exact (OwnPacked.rd0 (by (with_reducible repeat apply OwnPacked.drewN); exact OR1.out) rfl).2.2
    case s86_ => exact (OwnPacked.rd0 OR1.out rfl).2.1
    case s87_ => exact (OwnPacked.rd1 (by (with_reducible repeat apply OwnPacked.drewN); exact OR1.out) rfl).2.2
    case s88_ => exact (OwnPacked.rd1 OR1.out rfl).2.1
    case s89_ => exact (OwnPacked.rd2 (by (with_reducible repeat apply OwnPacked.drewN); exact OR1.out) rfl).2.2
    case s90_ => exact (OwnPacked.rd2 OR1.out rfl).2.1
    case s91_ => exact (OwnPacked.rd3 (by (with_reducible repeat apply OwnPacked.drewN); exact OR1.out) rfl).2.2
    case s92_ => exact (OwnPacked.rd3 OR1.out rfl).2.1
    case s93_ => exact (OwnPacked.rd4 (by (with_reducible repeat apply OwnPacked.drewN); exact OR1.out) rfl).2.2
    case s94_ => exact (OwnPacked.rd4 OR1.out rfl).2.1
    case s95_ => exact (OwnPacked.rd5 (by (with_reducible repeat apply OwnPacked.drewN); exact OR1.out) rfl).2.2
    case s96_ => exact (OwnPacked.rd5 OR1.out rfl).2.1
    rintro e w18_ ⟨rfl, hb⟩
    have OR1 := Aside0.mk (OwnPacked.below (show OwnPacked _ _ _ _ _ _ _ _ _ _ _ _ _ _ _ _ _ from by (with_reducible repeat apply OwnPacked.drewN); exact OR1.out) hb)
    have OR2 := Aside0.mk (OwnPacked.below (show OwnPacked _ _ _ _ _ _ _ _ _ _ _ _ _ _ _ _ _ from by (with_reducible repeat apply OwnPacked.drewN); exact OR2.out) hb)
    have BK1 := Aside0.mk (show w18_.heap[gBK1]? = some (.cells #[.slice A0_0 l0_0.length c0_0, .slice A0_1 l0_1.length c0_1, .slice A0_2 l0_2.length c0_2] 49 (0, 0)) from (hb.block _ (blk_lt BK1.out)).trans BK1.out)
    have BK4 := Aside0.mk (show w18_.heap[gBK4]? = some (.cells #[(.slice AOR1_0 o0_0.length cOR1_0), (.slice AOR1_1 o0_1.length cOR1_1), (.slice AOR1_2 o0_2.length cOR1_2), (.slice AOR1_3 o0_3.length cOR1_3), (.slice AOR1_4 o0_4.length cOR1_4), (.slice AOR1_5 o0_5.length cOR1_5)] 74 (0, 0)) from (hb.block _ (blk_lt BK4.out)).trans BK4.out)
    have BK6 := Aside0.mk (show w18_.heap[gBK6]? = some (.cells #[(.slice AOX2_0 e0_0.length cOX2_0), (.slice AOX2_1 e0_1.length cOX2_1), (.slice AOX2_2 e0_2.length cOX2_2)] 53 (0, 0)) from (hb.block _ (blk_lt BK6.out)).trans BK6.out)
    have BK7 := Aside0.mk (show w18_.heap[gBK7]? = some (.cells #[(.slice AOR2_0 o0_0.length cOR2_0), (.slice AOR2_1 o0_1.length cOR2_1), (.slice AOR2_2 o0_2.length cOR2_2), (.slice AOR2_3 o0_3.length cOR2_3), (.slice AOR2_4 o0_4.length cOR2_4), (.slice AOR2_5 o0_5.length cOR2_5)] 74 (0, 0)) from (hb.block _ (blk_lt BK7.out)).trans BK7.out)
    have HZ18 := Aside0.mk (show w17_.heap.size ≤ w18_.heap.size from hb.size)
    have HB := Aside0.mk (below_step (show Below w.heap.size w _ from by (with_reducible repeat apply pw_below_drewN); exact HB.out) hb)
    (try clear hczBK1_0 hczBK1_1 hczBK1_2 hczBK4_0 hczBK4_1 hczBK4_2 hczBK4_3 hczBK4_4 hczBK4_5 hczBK6_0 hczBK6_1 hczBK6_2 hczBK7_0 hczBK7_1 hczBK7_2 hczBK7_3 hczBK7_4 hczBK7_5)
    have hczBK1_0 : w18_.cell? ⟨gBK1, 0, none⟩ = some (.slice A0_0 l0_0.length c0_0) := (blk_cell BK1.out 0).trans rfl
    have hczBK1_1 : w18_.cell? ⟨gBK1, 1, none⟩ = some (.slice A0_1 l0_1.length c0_1) := (blk_cell BK1.out 1).trans rfl
    have hczBK1_2 : w18_.cell? ⟨gBK1, 2, none⟩ = some (.slice A0_2 l0_2.length c0_2) := (blk_cell BK1.out 2).trans rfl
    have hczBK4_0 : w18_.cell? ⟨gBK4, 0, none⟩ = some ((.slice AOR1_0 o0_0.length cOR1_0)) := (blk_cell BK4.out 0).trans rfl
    have hczBK4_1 : w18_.cell? ⟨gBK4, 1, none⟩ = some ((.slice AOR1_1 o0_1.length cOR1_1)) := (blk_cell BK4.out 1).trans rfl
    have hczBK4_2 : w18_.cell? ⟨gBK4, 2, none⟩ = some ((.slice AOR1_2 o0_2.length cOR1_2)) := (blk_cell BK4.out 2).trans rfl
    have hczBK4_3 : w18_.cell? ⟨gBK4, 3, none⟩ = some ((.slice AOR1_3 o0_3.length cOR1_3)) := (blk_cell BK4.out 3).trans rfl
    have hczBK4_4 : w18_.cell? ⟨gBK4, 4, none⟩ = some ((.slice AOR1_4 o0_4.length cOR1_4)) := (blk_cell BK4.out 4).trans rfl
    have hczBK4_5 : w18_.cell? ⟨gBK4, 5, none⟩ = some ((.slice AOR1_5 o0_5.length cOR1_5)) := (blk_cell BK4.out 5).trans rfl
    have hczBK6_0 : w18_.cell? ⟨gBK6, 0, none⟩ = some ((.slice AOX2_0 e0_0.length cOX2_0)) := (blk_cell BK6.out 0).trans rfl
    have hczBK6_1 : w18_.cell? ⟨gBK6, 1, none⟩ = some ((.slice AOX2_1 e0_1.length cOX2_1)) := (blk_cell BK6.out 1).trans rfl
    have hczBK6_2 : w18_.cell? ⟨gBK6, 2, none⟩ = some ((.slice AOX2_2 e0_2.length cOX2_2)) := (blk_cell BK6.out 2).trans rfl
    have hczBK7_0 : w18_.cell? ⟨gBK7, 0, none⟩ = some ((.slice AOR2_0 o0_0.length cOR2_0)) := (blk_cell BK7.out 0).trans rfl
    have hczBK7_1 : w18_.cell? ⟨gBK7, 1, none⟩ = some ((.slice AOR2_1 o0_1.length cOR2_1)) := (blk_cell BK7.out 1).trans rfl
    have hczBK7_2 : w18_.cell? ⟨gBK7, 2, none⟩ = some ((.slice AOR2_2 o0_2.length cOR2_2)) := (blk_cell BK7.out 2).trans rfl
    have hczBK7_3 : w18_.cell? ⟨gBK7, 3, none⟩ = some ((.slice AOR2_3 o0_3.length cOR2_3)) := (blk_cell BK7.out 3).trans rfl
    have hczBK7_4 : w18_.cell? ⟨gBK7, 4, none⟩ = some ((.slice AOR2_4 o0_4.length cOR2_4)) := (blk_cell BK7.out 4).trans rfl
    have hczBK7_5 : w18_.cell? ⟨gBK7, 5, none⟩ = some ((.slice AOR2_5 o0_5.length cOR2_5)) := (blk_cell BK7.out 5).trans rfl
    clear hb
    go_wp2_with fail
    refine (OwnPacked.mark k  1 mr z0_ z1_ z2_ z3_ z4_ z5_ (show OwnPacked _ _ _ _ _ _ _ _ _ _ _ _ _ _ _ _ _ from by (with_reducible repeat apply OwnPacked.drewN); exact OR2.out) (show Below w.heap.size w _ from by (with_reducible repeat apply pw_below_drewN); exact HB.out) (show _ ≤ w18_.heap.size from by have z0_ := HZ1.out; have z1_ := HGBK1.out; have z2_ := HZ2.out; have z3_ := HZ3.out; have z4_ := HZ4.out; have z5_ := HZ5.out; have z6_ := HGBK4.out; have z7_ := HZ6.out; have z8_ := HZ7.out; have z9_ := HZ8.out; have z10_ := HGBK6.out; have z11_ := HZ9.out; have z12_ := HZ10.out; have z13_ := HZ11.out; have z14_ := HGBK7.out; have z15_ := HZ12.out; have z16_ := HZ13.out; have z17_ := HZ14.out; have z18_ := HZ15.out; have z19_ := HZ16.out; have z20_ := HZ17.out; have z21_ := HZ18.out; omega) HFmR.out).mono ?_
    rintro e w19_ ⟨rfl, hY, hB, hk⟩
    have OR1 := Aside0.mk (OwnPacked.kept (show OwnPacked _ _ _ _ _ _ _ _ _ _ _ _ _ _ _ _ _ from by (with_reducible repeat apply OwnPacked.drewN); exact OR1.out) hk (fun k_ h1 h2 h3 => by have z0_ := HZ1.out; have z1_ := HGBK1.out; have z2_ := HZ2.out; have z3_ := HZ3.out; have z4_ := HZ4.out; have z5_ := HZ5.out; have z6_ := HGBK4.out; have z7_ := HZ6.out; have z8_ := HZ7.out; have z9_ := HZ8.out; have z10_ := HGBK6.out; have z11_ := HZ9.out; have z12_ := HZ10.out; have z13_ := HZ11.out; have z14_ := HGBK7.out; have z15_ := HZ12.out; have z16_ := HZ13.out; have z17_ := HZ14.out; have z18_ := HZ15.out; have z19_ := HZ16.out; have z20_ := HZ17.out; have z21_ := HZ18.out; omega))
    have BK1 := Aside0.mk (show w19_.heap[gBK1]? = some (.cells #[.slice A0_0 l0_0.length c0_0, .slice A0_1 l0_1.length c0_1, .slice A0_2 l0_2.length c0_2] 49 (0, 0)) from (hk.2 _ (blk_lt BK1.out) (fun h3 => by have z0_ := HZ1.out; have z1_ := HGBK1.out; have z2_ := HZ2.out; have z3_ := HZ3.out; have z4_ := HZ4.out; have z5_ := HZ5.out; have z6_ := HGBK4.out; have z7_ := HZ6.out; have z8_ := HZ7.out; have z9_ := HZ8.out; have z10_ := HGBK6.out; have z11_ := HZ9.out; have z12_ := HZ10.out; have z13_ := HZ11.out; have z14_ := HGBK7.out; have z15_ := HZ12.out; have z16_ := HZ13.out; have z17_ := HZ14.out; have z18_ := HZ15.out; have z19_ := HZ16.out; have z20_ := HZ17.out; have z21_ := HZ18.out; omega)).trans BK1.out)
    have BK4 := Aside0.mk (show w19_.heap[gBK4]? = some (.cells #[(.slice AOR1_0 o0_0.length cOR1_0), (.slice AOR1_1 o0_1.length cOR1_1), (.slice AOR1_2 o0_2.length cOR1_2), (.slice AOR1_3 o0_3.length cOR1_3), (.slice AOR1_4 o0_4.length cOR1_4), (.slice AOR1_5 o0_5.length cOR1_5)] 74 (0, 0)) from (hk.2 _ (blk_lt BK4.out) (fun h3 => by have z0_ := HZ1.out; have z1_ := HGBK1.out; have z2_ := HZ2.out; have z3_ := HZ3.out; have z4_ := HZ4.out; have z5_ := HZ5.out; have z6_ := HGBK4.out; have z7_ := HZ6.out; have z8_ := HZ7.out; have z9_ := HZ8.out; have z10_ := HGBK6.out; have z11_ := HZ9.out; have z12_ := HZ10.out; have z13_ := HZ11.out; have z14_ := HGBK7.out; have z15_ := HZ12.out; have z16_ := HZ13.out; have z17_ := HZ14.out; have z18_ := HZ15.out; have z19_ := HZ16.out; have z20_ := HZ17.out; have z21_ := HZ18.out; omega)).trans BK4.out)
    have BK6 := Aside0.mk (show w19_.heap[gBK6]? = some (.cells #[(.slice AOX2_0 e0_0.length cOX2_0), (.slice AOX2_1 e0_1.length cOX2_1), (.slice AOX2_2 e0_2.length cOX2_2)] 53 (0, 0)) from (hk.2 _ (blk_lt BK6.out) (fun h3 => by have z0_ := HZ1.out; have z1_ := HGBK1.out; have z2_ := HZ2.out; have z3_ := HZ3.out; have z4_ := HZ4.out; have z5_ := HZ5.out; have z6_ := HGBK4.out; have z7_ := HZ6.out; have z8_ := HZ7.out; have z9_ := HZ8.out; have z10_ := HGBK6.out; have z11_ := HZ9.out; have z12_ := HZ10.out; have z13_ := HZ11.out; have z14_ := HGBK7.out; have z15_ := HZ12.out; have z16_ := HZ13.out; have z17_ := HZ14.out; have z18_ := HZ15.out; have z19_ := HZ16.out; have z20_ := HZ17.out; have z21_ := HZ18.out; omega)).trans BK6.out)
    have BK7 := Aside0.mk (show w19_.heap[gBK7]? = some (.cells #[(.slice AOR2_0 o0_0.length cOR2_0), (.slice AOR2_1 o0_1.length cOR2_1), (.slice AOR2_2 o0_2.length cOR2_2), (.slice AOR2_3 o0_3.length cOR2_3), (.slice AOR2_4 o0_4.length cOR2_4), (.slice AOR2_5 o0_5.length cOR2_5)] 74 (0, 0)) from (hk.2 _ (blk_lt BK7.out) (fun h3 => by have z0_ := HZ1.out; have z1_ := HGBK1.out; have z2_ := HZ2.out; have z3_ := HZ3.out; have z4_ := HZ4.out; have z5_ := HZ5.out; have z6_ := HGBK4.out; have z7_ := HZ6.out; have z8_ := HZ7.out; have z9_ := HZ8.out; have z10_ := HGBK6.out; have z11_ := HZ9.out; have z12_ := HZ10.out; have z13_ := HZ11.out; have z14_ := HGBK7.out; have z15_ := HZ12.out; have z16_ := HZ13.out; have z17_ := HZ14.out; have z18_ := HZ15.out; have z19_ := HZ16.out; have z20_ := HZ17.out; have z21_ := HZ18.out; omega)).trans BK7.out)
    have HZ19 := Aside0.mk (show w18_.heap.size ≤ w19_.heap.size from hk.1)
    have OR2 := Aside0.mk hY
    have HB := Aside0.mk hB
    clear hY hB hk
    (try clear hczBK1_0 hczBK1_1 hczBK1_2 hczBK4_0 hczBK4_1 hczBK4_2 hczBK4_3 hczBK4_4 hczBK4_5 hczBK6_0 hczBK6_1 hczBK6_2 hczBK7_0 hczBK7_1 hczBK7_2 hczBK7_3 hczBK7_4 hczBK7_5)
    have hczBK1_0 : w19_.cell? ⟨gBK1, 0, none⟩ = some (.slice A0_0 l0_0.length c0_0) := (blk_cell BK1.out 0).trans rfl
    have hczBK1_1 : w19_.cell? ⟨gBK1, 1, none⟩ = some (.slice A0_1 l0_1.length c0_1) := (blk_cell BK1.out 1).trans rfl
    have hczBK1_2 : w19_.cell? ⟨gBK1, 2, none⟩ = some (.slice A0_2 l0_2.length c0_2) := (blk_cell BK1.out 2).trans rfl
    have hczBK4_0 : w19_.cell? ⟨gBK4, 0, none⟩ = some ((.slice AOR1_0 o0_0.length cOR1_0)) := (blk_cell BK4.out 0).trans rfl
    have hczBK4_1 : w19_.cell? ⟨gBK4, 1, none⟩ = some ((.slice AOR1_1 o0_1.length cOR1_1)) := (blk_cell BK4.out 1).trans rfl
    have hczBK4_2 : w19_.cell? ⟨gBK4, 2, none⟩ = some ((.slice AOR1_2 o0_2.length cOR1_2)) := (blk_cell BK4.out 2).trans rfl
    have hczBK4_3 : w19_.cell? ⟨gBK4, 3, none⟩ = some ((.slice AOR1_3 o0_3.length cOR1_3)) := (blk_cell BK4.out 3).trans rfl
    have hczBK4_4 : w19_.cell? ⟨gBK4, 4, none⟩ = some ((.slice AOR1_4 o0_4.length cOR1_4)) := (blk_cell BK4.out 4).trans rfl
    have hczBK4_5 : w19_.cell? ⟨gBK4, 5, none⟩ = some ((.slice AOR1_5 o0_5.length cOR1_5)) := (blk_cell BK4.out 5).trans rfl
    have hczBK6_0 : w19_.cell? ⟨gBK6, 0, none⟩ = some ((.slice AOX2_0 e0_0.length cOX2_0)) := (blk_cell BK6.out 0).trans rfl
    have hczBK6_1 : w19_.cell? ⟨gBK6, 1, none⟩ = some ((.slice AOX2_1 e0_1.length cOX2_1)) := (blk_cell BK6.out 1).trans rfl
    have hczBK6_2 : w19_.cell? ⟨gBK6, 2, none⟩ = some ((.slice AOX2_2 e0_2.length cOX2_2)) := (blk_cell BK6.out 2).trans rfl
    have hczBK7_0 : w19_.cell? ⟨gBK7, 0, none⟩ = some ((.slice AOR2_0 o0_0.length cOR2_0)) := (blk_cell BK7.out 0).trans rfl
    have hczBK7_1 : w19_.cell? ⟨gBK7, 1, none⟩ = some ((.slice AOR2_1 o0_1.length cOR2_1)) := (blk_cell BK7.out 1).trans rfl
    have hczBK7_2 : w19_.cell? ⟨gBK7, 2, none⟩ = some ((.slice AOR2_2 o0_2.length cOR2_2)) := (blk_cell BK7.out 2).trans rfl
    have hczBK7_3 : w19_.cell? ⟨gBK7, 3, none⟩ = some ((.slice AOR2_3 o0_3.length cOR2_3)) := (blk_cell BK7.out 3).trans rfl
    have hczBK7_4 : w19_.cell? ⟨gBK7, 4, none⟩ = some ((.slice AOR2_4 o0_4.length cOR2_4)) := (blk_cell BK7.out 4).trans rfl
    have hczBK7_5 : w19_.cell? ⟨gBK7, 5, none⟩ = some ((.slice AOR2_5 o0_5.length cOR2_5)) := (blk_cell BK7.out 5).trans rfl
    have t3 : (mr != mr) = false := bne_self_eq_false mr
    go_wp2_with fail
    refine (OwnPacked.held k 1 mr (show OwnPacked _ _ _ _ _ _ _ _ _ _ _ _ _ _ _ _ _ from by (with_reducible repeat apply OwnPacked.drewN); exact OR2.out) HFh.out).mono ?_
    rintro e w20_ ⟨rfl, hb⟩
    have OR1 := Aside0.mk (OwnPacked.below (show OwnPacked _ _ _ _ _ _ _ _ _ _ _ _ _ _ _ _ _ from by (with_reducible repeat apply OwnPacked.drewN); exact OR1.out) hb)
    have OR2 := Aside0.mk (OwnPacked.below (show OwnPacked _ _ _ _ _ _ _ _ _ _ _ _ _ _ _ _ _ from by (with_reducible repeat apply OwnPacked.drewN); exact OR2.out) hb)
    have BK1 := Aside0.mk (show w20_.heap[gBK1]? = some (.cells #[.slice A0_0 l0_0.length c0_0, .slice A0_1 l0_1.length c0_1, .slice A0_2 l0_2.length c0_2] 49 (0, 0)) from (hb.block _ (blk_lt BK1.out)).trans BK1.out)
    have BK4 := Aside0.mk (show w20_.heap[gBK4]? = some (.cells #[(.slice AOR1_0 o0_0.length cOR1_0), (.slice AOR1_1 o0_1.length cOR1_1), (.slice AOR1_2 o0_2.length cOR1_2), (.slice AOR1_3 o0_3.length cOR1_3), (.slice AOR1_4 o0_4.length cOR1_4), (.slice AOR1_5 o0_5.length cOR1_5)] 74 (0, 0)) from (hb.block _ (blk_lt BK4.out)).trans BK4.out)
    have BK6 := Aside0.mk (show w20_.heap[gBK6]? = some (.cells #[(.slice AOX2_0 e0_0.length cOX2_0), (.slice AOX2_1 e0_1.length cOX2_1), (.slice AOX2_2 e0_2.length cOX2_2)] 53 (0, 0)) from (hb.block _ (blk_lt BK6.out)).trans BK6.out)
    have BK7 := Aside0.mk (show w20_.heap[gBK7]? = some (.cells #[(.slice AOR2_0 o0_0.length cOR2_0), (.slice AOR2_1 o0_1.length cOR2_1), (.slice AOR2_2 o0_2.length cOR2_2), (.slice AOR2_3 o0_3.length cOR2_3), (.slice AOR2_4 o0_4.length cOR2_4), (.slice AOR2_5 o0_5.length cOR2_5)] 74 (0, 0)) from (hb.block _ (blk_lt BK7.out)).trans BK7.out)
    have HZ20 := Aside0.mk (show w19_.heap.size ≤ w20_.heap.size from hb.size)
    have HB := Aside0.mk (below_step (show Below w.heap.size w _ from by (with_reducible repeat apply pw_below_drewN); exact HB.out) hb)
    (try clear hczBK1_0 hczBK1_1 hczBK1_2 hczBK4_0 hczBK4_1 hczBK4_2 hczBK4_3 hczBK4_4 hczBK4_5 hczBK6_0 hczBK6_1 hczBK6_2 hczBK7_0 hczBK7_1 hczBK7_2 hczBK7_3 hczBK7_4 hczBK7_5)
    have hczBK1_0 : w20_.cell? ⟨gBK1, 0, none⟩ = some (.slice A0_0 l0_0.length c0_0) := (blk_cell BK1.out 0).trans rfl
    have hczBK1_1 : w20_.cell? ⟨gBK1, 1, none⟩ = some (.slice A0_1 l0_1.length c0_1) := (blk_cell BK1.out 1).trans rfl
    have hczBK1_2 : w20_.cell? ⟨gBK1, 2, none⟩ = some (.slice A0_2 l0_2.length c0_2) := (blk_cell BK1.out 2).trans rfl
    have hczBK4_0 : w20_.cell? ⟨gBK4, 0, none⟩ = some ((.slice AOR1_0 o0_0.length cOR1_0)) := (blk_cell BK4.out 0).trans rfl
    have hczBK4_1 : w20_.cell? ⟨gBK4, 1, none⟩ = some ((.slice AOR1_1 o0_1.length cOR1_1)) := (blk_cell BK4.out 1).trans rfl
    have hczBK4_2 : w20_.cell? ⟨gBK4, 2, none⟩ = some ((.slice AOR1_2 o0_2.length cOR1_2)) := (blk_cell BK4.out 2).trans rfl
    have hczBK4_3 : w20_.cell? ⟨gBK4, 3, none⟩ = some ((.slice AOR1_3 o0_3.length cOR1_3)) := (blk_cell BK4.out 3).trans rfl
    have hczBK4_4 : w20_.cell? ⟨gBK4, 4, none⟩ = some ((.slice AOR1_4 o0_4.length cOR1_4)) := (blk_cell BK4.out 4).trans rfl
    have hczBK4_5 : w20_.cell? ⟨gBK4, 5, none⟩ = some ((.slice AOR1_5 o0_5.length cOR1_5)) := (blk_cell BK4.out 5).trans rfl
    have hczBK6_0 : w20_.cell? ⟨gBK6, 0, none⟩ = some ((.slice AOX2_0 e0_0.length cOX2_0)) := (blk_cell BK6.out 0).trans rfl
    have hczBK6_1 : w20_.cell? ⟨gBK6, 1, none⟩ = some ((.slice AOX2_1 e0_1.length cOX2_1)) := (blk_cell BK6.out 1).trans rfl
    have hczBK6_2 : w20_.cell? ⟨gBK6, 2, none⟩ = some ((.slice AOX2_2 e0_2.length cOX2_2)) := (blk_cell BK6.out 2).trans rfl
    have hczBK7_0 : w20_.cell? ⟨gBK7, 0, none⟩ = some ((.slice AOR2_0 o0_0.length cOR2_0)) := (blk_cell BK7.out 0).trans rfl
    have hczBK7_1 : w20_.cell? ⟨gBK7, 1, none⟩ = some ((.slice AOR2_1 o0_1.length cOR2_1)) := (blk_cell BK7.out 1).trans rfl
    have hczBK7_2 : w20_.cell? ⟨gBK7, 2, none⟩ = some ((.slice AOR2_2 o0_2.length cOR2_2)) := (blk_cell BK7.out 2).trans rfl
    have hczBK7_3 : w20_.cell? ⟨gBK7, 3, none⟩ = some ((.slice AOR2_3 o0_3.length cOR2_3)) := (blk_cell BK7.out 3).trans rfl
    have hczBK7_4 : w20_.cell? ⟨gBK7, 4, none⟩ = some ((.slice AOR2_4 o0_4.length cOR2_4)) := (blk_cell BK7.out 4).trans rfl
    have hczBK7_5 : w20_.cell? ⟨gBK7, 5, none⟩ = some ((.slice AOR2_5 o0_5.length cOR2_5)) := (blk_cell BK7.out 5).trans rfl
    clear hb
    (try have t2 : (mr < 0) = False := eq_false (by have := HFh0.out; omega))
    go_wp2_with fail
    refine (laws_toDfa.calls k _ _ l0_0 _ _ l0_1 _ _ l0_2 e0_0 e0_1 e0_2 _ ?s97_ ?s98_ ?s99_ ?s100_ ?s101_ ?s102_ HFt0.out).mono ?_
    case s97_ => (with_reducible repeat refine Kd.C_drewN ?_ _); exact Kd.C_below HR0_0.out HB.out
    case s98_ => exact HC0_0.out
    case s99_ => (with_reducible repeat refine Kd.C_drewN ?_ _); exact Kd.C_below HR0_1.out HB.out
    case s100_ => exact HC0_1.out
    case s101_ => (with_reducible repeat refine Kd.C_drewN ?_ _); exact Kd.C_below HR0_2.out HB.out
    case s102_ => exact HC0_2.out
    rintro e w21_ ⟨vOX4_0, vOX4_1, vOX4_2, rfl, ho0, ho1, ho2, hb⟩
    have hOX4 : OwnDfa True w21_ w.heap.size w20_.heap.size w21_.heap.size vOX4_0 vOX4_1 vOX4_2 e0_0 e0_1 e0_2 := OwnDfa.of (show w.heap.size ≤ w20_.heap.size from by have z0_ := HZ1.out; have z1_ := HGBK1.out; have z2_ := HZ2.out; have z3_ := HZ3.out; have z4_ := HZ4.out; have z5_ := HZ5.out; have z6_ := HGBK4.out; have z7_ := HZ6.out; have z8_ := HZ7.out; have z9_ := HZ8.out; have z10_ := HGBK6.out; have z11_ := HZ9.out; have z12_ := HZ10.out; have z13_ := HZ11.out; have z14_ := HGBK7.out; have z15_ := HZ12.out; have z16_ := HZ13.out; have z17_ := HZ14.out; have z18_ := HZ15.out; have z19_ := HZ16.out; have z20_ := HZ17.out; have z21_ := HZ18.out; have z22_ := HZ19.out; have z23_ := HZ20.out; omega) ho0 ho1 ho2 (fun k_ q_ => by first | exact q_ | (simp only [ne_eq] at q_ ⊢; simp [q_])) (fun k_ q_ => by first | exact q_ | (simp only [ne_eq] at q_ ⊢; simp [q_])) (fun k_ q_ => by first | exact q_ | (simp only [ne_eq] at q_ ⊢; simp [q_]))
    obtain ⟨AOX4_0, cOX4_0, AOX4_1, cOX4_1, AOX4_2, cOX4_2, eOX4_0, eOX4_1, eOX4_2⟩ := hOX4.slices
    subst eOX4_0
    subst eOX4_1
    subst eOX4_2
    have OR1 := Aside0.mk (OwnPacked.below (show OwnPacked _ _ _ _ _ _ _ _ _ _ _ _ _ _ _ _ _ from by (with_reducible repeat apply OwnPacked.drewN); exact OR1.out) hb)
    have OR2 := Aside0.mk (OwnPacked.below (show OwnPacked _ _ _ _ _ _ _ _ _ _ _ _ _ _ _ _ _ from by (with_reducible repeat apply OwnPacked.drewN); exact OR2.out) hb)
    have BK1 := Aside0.mk (show w21_.heap[gBK1]? = some (.cells #[.slice A0_0 l0_0.length c0_0, .slice A0_1 l0_1.length c0_1, .slice A0_2 l0_2.length c0_2] 49 (0, 0)) from (hb.block _ (blk_lt BK1.out)).trans BK1.out)
    have BK4 := Aside0.mk (show w21_.heap[gBK4]? = some (.cells #[(.slice AOR1_0 o0_0.length cOR1_0), (.slice AOR1_1 o0_1.length cOR1_1), (.slice AOR1_2 o0_2.length cOR1_2), (.slice AOR1_3 o0_3.length cOR1_3), (.slice AOR1_4 o0_4.length cOR1_4), (.slice AOR1_5 o0_5.length cOR1_5)] 74 (0, 0)) from (hb.block _ (blk_lt BK4.out)).trans BK4.out)
    have BK6 := Aside0.mk (show w21_.heap[gBK6]? = some (.cells #[(.slice AOX2_0 e0_0.length cOX2_0), (.slice AOX2_1 e0_1.length cOX2_1), (.slice AOX2_2 e0_2.length cOX2_2)] 53 (0, 0)) from (hb.block _ (blk_lt BK6.out)).trans BK6.out)
    have BK7 := Aside0.mk (show w21_.heap[gBK7]? = some (.cells #[(.slice AOR2_0 o0_0.length cOR2_0), (.slice AOR2_1 o0_1.length cOR2_1), (.slice AOR2_2 o0_2.length cOR2_2), (.slice AOR2_3 o0_3.length cOR2_3), (.slice AOR2_4 o0_4.length cOR2_4), (.slice AOR2_5 o0_5.length cOR2_5)] 74 (0, 0)) from (hb.block _ (blk_lt BK7.out)).trans BK7.out)
    have HZ21 := Aside0.mk (show w20_.heap.size ≤ w21_.heap.size from hb.size)
    have HB := Aside0.mk (below_step (show Below w.heap.size w _ from by (with_reducible repeat apply pw_below_drewN); exact HB.out) hb)
    have OX4 := Aside0.mk hOX4
    clear hOX4 hb ho0 ho1 ho2
    (try clear hczBK1_0 hczBK1_1 hczBK1_2 hczBK4_0 hczBK4_1 hczBK4_2 hczBK4_3 hczBK4_4 hczBK4_5 hczBK6_0 hczBK6_1 hczBK6_2 hczBK7_0 hczBK7_1 hczBK7_2 hczBK7_3 hczBK7_4 hczBK7_5)
    have hczBK1_0 : w21_.cell? ⟨gBK1, 0, none⟩ = some (.slice A0_0 l0_0.length c0_0) := (blk_cell BK1.out 0).trans rfl
    have hczBK1_1 : w21_.cell? ⟨gBK1, 1, none⟩ = some (.slice A0_1 l0_1.length c0_1) := (blk_cell BK1.out 1).trans rfl
    have hczBK1_2 : w21_.cell? ⟨gBK1, 2, none⟩ = some (.slice A0_2 l0_2.length c0_2) := (blk_cell BK1.out 2).trans rfl
    have hczBK4_0 : w21_.cell? ⟨gBK4, 0, none⟩ = some ((.slice AOR1_0 o0_0.length cOR1_0)) := (blk_cell BK4.out 0).trans rfl
    have hczBK4_1 : w21_.cell? ⟨gBK4, 1, none⟩ = some ((.slice AOR1_1 o0_1.length cOR1_1)) := (blk_cell BK4.out 1).trans rfl
    have hczBK4_2 : w21_.cell? ⟨gBK4, 2, none⟩ = some ((.slice AOR1_2 o0_2.length cOR1_2)) := (blk_cell BK4.out 2).trans rfl
    have hczBK4_3 : w21_.cell? ⟨gBK4, 3, none⟩ = some ((.slice AOR1_3 o0_3.length cOR1_3)) := (blk_cell BK4.out 3).trans rfl
    have hczBK4_4 : w21_.cell? ⟨gBK4, 4, none⟩ = some ((.slice AOR1_4 o0_4.length cOR1_4)) := (blk_cell BK4.out 4).trans rfl
    have hczBK4_5 : w21_.cell? ⟨gBK4, 5, none⟩ = some ((.slice AOR1_5 o0_5.length cOR1_5)) := (blk_cell BK4.out 5).trans rfl
    have hczBK6_0 : w21_.cell? ⟨gBK6, 0, none⟩ = some ((.slice AOX2_0 e0_0.length cOX2_0)) := (blk_cell BK6.out 0).trans rfl
    have hczBK6_1 : w21_.cell? ⟨gBK6, 1, none⟩ = some ((.slice AOX2_1 e0_1.length cOX2_1)) := (blk_cell BK6.out 1).trans rfl
    have hczBK6_2 : w21_.cell? ⟨gBK6, 2, none⟩ = some ((.slice AOX2_2 e0_2.length cOX2_2)) := (blk_cell BK6.out 2).trans rfl
    have hczBK7_0 : w21_.cell? ⟨gBK7, 0, none⟩ = some ((.slice AOR2_0 o0_0.length cOR2_0)) := (blk_cell BK7.out 0).trans rfl
    have hczBK7_1 : w21_.cell? ⟨gBK7, 1, none⟩ = some ((.slice AOR2_1 o0_1.length cOR2_1)) := (blk_cell BK7.out 1).trans rfl
    have hczBK7_2 : w21_.cell? ⟨gBK7, 2, none⟩ = some ((.slice AOR2_2 o0_2.length cOR2_2)) := (blk_cell BK7.out 2).trans rfl
    have hczBK7_3 : w21_.cell? ⟨gBK7, 3, none⟩ = some ((.slice AOR2_3 o0_3.length cOR2_3)) := (blk_cell BK7.out 3).trans rfl
    have hczBK7_4 : w21_.cell? ⟨gBK7, 4, none⟩ = some ((.slice AOR2_4 o0_4.length cOR2_4)) := (blk_cell BK7.out 4).trans rfl
    have hczBK7_5 : w21_.cell? ⟨gBK7, 5, none⟩ = some ((.slice AOR2_5 o0_5.length cOR2_5)) := (blk_cell BK7.out 5).trans rfl
    go_wp2_with fail
    refine (impl_Pack.calls k _ _ e0_0 _ _ e0_1 _ _ e0_2 o0_0 o0_1 o0_2 o0_3 o0_4 o0_5 b1 _ ?s103_ ?s104_ ?s105_ ?s106_ ?s107_ ?s108_ HFimpl.out).mono ?_
    case s103_ => exact (OwnDfa.rd0 (by (with_reducible repeat apply OwnDfa.drewN); exact OX4.out) rfl).2.2
    case s104_ => exact (OwnDfa.rd0 OX4.out rfl).2.1
    case s105_ => exact (OwnDfa.rd1 (by (with_reducible repeat apply OwnDfa.drewN); exact OX4.out) rfl).2.2
    case s106_ => exact (OwnDfa.rd1 OX4.out rfl).2.1
    case s107_ => exact (OwnDfa.rd2 (by (with_reducible repeat apply OwnDfa.drewN); exact OX4.out) rfl).2.2
    case s108_ => exact (OwnDfa.rd2 OX4.out rfl).2.1
    rintro e w22_ ⟨vOR3_0, vOR3_1, vOR3_2, vOR3_3, vOR3_4, vOR3_5, rfl, ho0, ho1, ho2, ho3, ho4, ho5, hb⟩
    have hOR3 : OwnPacked True w22_ w.heap.size w21_.heap.size w22_.heap.size vOR3_0 vOR3_1 vOR3_2 vOR3_3 vOR3_4 vOR3_5 o0_0 o0_1 o0_2 o0_3 o0_4 o0_5 := OwnPacked.of (show w.heap.size ≤ w21_.heap.size from by have z0_ := HZ1.out; have z1_ := HGBK1.out; have z2_ := HZ2.out; have z3_ := HZ3.out; have z4_ := HZ4.out; have z5_ := HZ5.out; have z6_ := HGBK4.out; have z7_ := HZ6.out; have z8_ := HZ7.out; have z9_ := HZ8.out; have z10_ := HGBK6.out; have z11_ := HZ9.out; have z12_ := HZ10.out; have z13_ := HZ11.out; have z14_ := HGBK7.out; have z15_ := HZ12.out; have z16_ := HZ13.out; have z17_ := HZ14.out; have z18_ := HZ15.out; have z19_ := HZ16.out; have z20_ := HZ17.out; have z21_ := HZ18.out; have z22_ := HZ19.out; have z23_ := HZ20.out; have z24_ := HZ21.out; omega) ho0 ho1 ho2 ho3 ho4 ho5 (fun k_ q_ => by first | exact q_ | (simp only [ne_eq] at q_ ⊢; simp [q_])) (fun k_ q_ => by first | exact q_ | (simp only [ne_eq] at q_ ⊢; simp [q_])) (fun k_ q_ => by first | exact q_ | (simp only [ne_eq] at q_ ⊢; simp [q_])) (fun k_ q_ => by first | exact q_ | (simp only [ne_eq] at q_ ⊢; simp [q_])) (fun k_ q_ => by first | exact q_ | (simp only [ne_eq] at q_ ⊢; simp [q_])) (fun k_ q_ => by first | exact q_ | (simp only [ne_eq] at q_ ⊢; simp [q_])) (fun k_ q_ => by first | exact q_ | (simp only [ne_eq] at q_ ⊢; simp [q_])) (fun k_ q_ => by first | exact q_ | (simp only [ne_eq] at q_ ⊢; simp [q_])) (fun k_ q_ => by first | exact q_ | (simp only [ne_eq] at q_ ⊢; simp [q_])) (fun k_ q_ => by first | exact q_ | (simp only [ne_eq] at q_ ⊢; simp [q_])) (fun k_ q_ => by first | exact q_ | (simp only [ne_eq] at q_ ⊢; simp [q_])) (fun k_ q_ => by first | exact q_ | (simp only [ne_eq] at q_ ⊢; simp [q_])) (fun k_ q_ => by first | exact q_ | (simp only [ne_eq] at q_ ⊢; simp [q_])) (fun k_ q_ => by first | exact q_ | (simp only [ne_eq] at q_ ⊢; simp [q_])) (fun k_ q_ => by first | exact q_ | (simp only [ne_eq] at q_ ⊢; simp [q_]))
    obtain ⟨AOR3_0, cOR3_0, AOR3_1, cOR3_1, AOR3_2, cOR3_2, AOR3_3, cOR3_3, AOR3_4, cOR3_4, AOR3_5, cOR3_5, eOR3_0, eOR3_1, eOR3_2, eOR3_3, eOR3_4, eOR3_5⟩ := hOR3.slices
    subst eOR3_0
    subst eOR3_1
    subst eOR3_2
    subst eOR3_3
    subst eOR3_4
    subst eOR3_5
    have OR1 := Aside0.mk (OwnPacked.below (show OwnPacked _ _ _ _ _ _ _ _ _ _ _ _ _ _ _ _ _ from by (with_reducible repeat apply OwnPacked.drewN); exact OR1.out) hb)
    have OR2 := Aside0.mk (OwnPacked.below (show OwnPacked _ _ _ _ _ _ _ _ _ _ _ _ _ _ _ _ _ from by (with_reducible repeat apply OwnPacked.drewN); exact OR2.out) hb)
    have OX4 := Aside0.mk (OwnDfa.below (show OwnDfa _ _ _ _ _ _ _ _ _ _ _ from by (with_reducible repeat apply OwnDfa.drewN); exact OX4.out) hb)
    have BK1 := Aside0.mk (show w22_.heap[gBK1]? = some (.cells #[.slice A0_0 l0_0.length c0_0, .slice A0_1 l0_1.length c0_1, .slice A0_2 l0_2.length c0_2] 49 (0, 0)) from (hb.block _ (blk_lt BK1.out)).trans BK1.out)
    have BK4 := Aside0.mk (show w22_.heap[gBK4]? = some (.cells #[(.slice AOR1_0 o0_0.length cOR1_0), (.slice AOR1_1 o0_1.length cOR1_1), (.slice AOR1_2 o0_2.length cOR1_2), (.slice AOR1_3 o0_3.length cOR1_3), (.slice AOR1_4 o0_4.length cOR1_4), (.slice AOR1_5 o0_5.length cOR1_5)] 74 (0, 0)) from (hb.block _ (blk_lt BK4.out)).trans BK4.out)
    have BK6 := Aside0.mk (show w22_.heap[gBK6]? = some (.cells #[(.slice AOX2_0 e0_0.length cOX2_0), (.slice AOX2_1 e0_1.length cOX2_1), (.slice AOX2_2 e0_2.length cOX2_2)] 53 (0, 0)) from (hb.block _ (blk_lt BK6.out)).trans BK6.out)
    have BK7 := Aside0.mk (show w22_.heap[gBK7]? = some (.cells #[(.slice AOR2_0 o0_0.length cOR2_0), (.slice AOR2_1 o0_1.length cOR2_1), (.slice AOR2_2 o0_2.length cOR2_2), (.slice AOR2_3 o0_3.length cOR2_3), (.slice AOR2_4 o0_4.length cOR2_4), (.slice AOR2_5 o0_5.length cOR2_5)] 74 (0, 0)) from (hb.block _ (blk_lt BK7.out)).trans BK7.out)
    have HZ22 := Aside0.mk (show w21_.heap.size ≤ w22_.heap.size from hb.size)
    have HB := Aside0.mk (below_step (show Below w.heap.size w _ from by (with_reducible repeat apply pw_below_drewN); exact HB.out) hb)
    have OR3 := Aside0.mk hOR3
    clear hOR3 hb ho0 ho1 ho2 ho3 ho4 ho5
    (try clear hczBK1_0 hczBK1_1 hczBK1_2 hczBK4_0 hczBK4_1 hczBK4_2 hczBK4_3 hczBK4_4 hczBK4_5 hczBK6_0 hczBK6_1 hczBK6_2 hczBK7_0 hczBK7_1 hczBK7_2 hczBK7_3 hczBK7_4 hczBK7_5)
    have hczBK1_0 : w22_.cell? ⟨gBK1, 0, none⟩ = some (.slice A0_0 l0_0.length c0_0) := (blk_cell BK1.out 0).trans rfl
    have hczBK1_1 : w22_.cell? ⟨gBK1, 1, none⟩ = some (.slice A0_1 l0_1.length c0_1) := (blk_cell BK1.out 1).trans rfl
    have hczBK1_2 : w22_.cell? ⟨gBK1, 2, none⟩ = some (.slice A0_2 l0_2.length c0_2) := (blk_cell BK1.out 2).trans rfl
    have hczBK4_0 : w22_.cell? ⟨gBK4, 0, none⟩ = some ((.slice AOR1_0 o0_0.length cOR1_0)) := (blk_cell BK4.out 0).trans rfl
    have hczBK4_1 : w22_.cell? ⟨gBK4, 1, none⟩ = some ((.slice AOR1_1 o0_1.length cOR1_1)) := (blk_cell BK4.out 1).trans rfl
    have hczBK4_2 : w22_.cell? ⟨gBK4, 2, none⟩ = some ((.slice AOR1_2 o0_2.length cOR1_2)) := (blk_cell BK4.out 2).trans rfl
    have hczBK4_3 : w22_.cell? ⟨gBK4, 3, none⟩ = some ((.slice AOR1_3 o0_3.length cOR1_3)) := (blk_cell BK4.out 3).trans rfl
    have hczBK4_4 : w22_.cell? ⟨gBK4, 4, none⟩ = some ((.slice AOR1_4 o0_4.length cOR1_4)) := (blk_cell BK4.out 4).trans rfl
    have hczBK4_5 : w22_.cell? ⟨gBK4, 5, none⟩ = some ((.slice AOR1_5 o0_5.length cOR1_5)) := (blk_cell BK4.out 5).trans rfl
    have hczBK6_0 : w22_.cell? ⟨gBK6, 0, none⟩ = some ((.slice AOX2_0 e0_0.length cOX2_0)) := (blk_cell BK6.out 0).trans rfl
    have hczBK6_1 : w22_.cell? ⟨gBK6, 1, none⟩ = some ((.slice AOX2_1 e0_1.length cOX2_1)) := (blk_cell BK6.out 1).trans rfl
    have hczBK6_2 : w22_.cell? ⟨gBK6, 2, none⟩ = some ((.slice AOX2_2 e0_2.length cOX2_2)) := (blk_cell BK6.out 2).trans rfl
    have hczBK7_0 : w22_.cell? ⟨gBK7, 0, none⟩ = some ((.slice AOR2_0 o0_0.length cOR2_0)) := (blk_cell BK7.out 0).trans rfl
    have hczBK7_1 : w22_.cell? ⟨gBK7, 1, none⟩ = some ((.slice AOR2_1 o0_1.length cOR2_1)) := (blk_cell BK7.out 1).trans rfl
    have hczBK7_2 : w22_.cell? ⟨gBK7, 2, none⟩ = some ((.slice AOR2_2 o0_2.length cOR2_2)) := (blk_cell BK7.out 2).trans rfl
    have hczBK7_3 : w22_.cell? ⟨gBK7, 3, none⟩ = some ((.slice AOR2_3 o0_3.length cOR2_3)) := (blk_cell BK7.out 3).trans rfl
    have hczBK7_4 : w22_.cell? ⟨gBK7, 4, none⟩ = some ((.slice AOR2_4 o0_4.length cOR2_4)) := (blk_cell BK7.out 4).trans rfl
    have hczBK7_5 : w22_.cell? ⟨gBK7, 5, none⟩ = some ((.slice AOR2_5 o0_5.length cOR2_5)) := (blk_cell BK7.out 5).trans rfl
    clear OX4
    go_wp2_with (first | ((with_reducible refine gate_dst (N := 12) rfl ?_); refine box_event ?hg (N := 12) ?hd (cs := #[.slice none 0 0, .slice none 0 0, .slice none 0 0, .slice none 0 0, .slice none 0 0, .slice none 0 0]) (t := 74) ?hr ?_; (case hd => rfl); (case hg => rfl); (case hr => first | (go_simp; done) | (go_simp; rfl)); intro gBK12 hg w23_ hbox hb; have OR1 := Aside0.mk (OwnPacked.below (show OwnPacked _ _ _ _ _ _ _ _ _ _ _ _ _ _ _ _ _ from by (with_reducible repeat apply OwnPacked.drewN); exact OR1.out) hb); have OR2 := Aside0.mk (OwnPacked.below (show OwnPacked _ _ _ _ _ _ _ _ _ _ _ _ _ _ _ _ _ from by (with_reducible repeat apply OwnPacked.drewN); exact OR2.out) hb); have OR3 := Aside0.mk (OwnPacked.below (show OwnPacked _ _ _ _ _ _ _ _ _ _ _ _ _ _ _ _ _ from by (with_reducible repeat apply OwnPacked.drewN); exact OR3.out) hb); have BK1 := Aside0.mk (show w23_.heap[gBK1]? = some (.cells #[.slice A0_0 l0_0.length c0_0, .slice A0_1 l0_1.length c0_1, .slice A0_2 l0_2.length c0_2] 49 (0, 0)) from (hb.block _ (blk_lt BK1.out)).trans BK1.out); have BK4 := Aside0.mk (show w23_.heap[gBK4]? = some (.cells #[(.slice AOR1_0 o0_0.length cOR1_0), (.slice AOR1_1 o0_1.length cOR1_1), (.slice AOR1_2 o0_2.length cOR1_2), (.slice AOR1_3 o0_3.length cOR1_3), (.slice AOR1_4 o0_4.length cOR1_4), (.slice AOR1_5 o0_5.length cOR1_5)] 74 (0, 0)) from (hb.block _ (blk_lt BK4.out)).trans BK4.out); have BK6 := Aside0.mk (show w23_.heap[gBK6]? = some (.cells #[(.slice AOX2_0 e0_0.length cOX2_0), (.slice AOX2_1 e0_1.length cOX2_1), (.slice AOX2_2 e0_2.length cOX2_2)] 53 (0, 0)) from (hb.block _ (blk_lt BK6.out)).trans BK6.out); have BK7 := Aside0.mk (show w23_.heap[gBK7]? = some (.cells #[(.slice AOR2_0 o0_0.length cOR2_0), (.slice AOR2_1 o0_1.length cOR2_1), (.slice AOR2_2 o0_2.length cOR2_2), (.slice AOR2_3 o0_3.length cOR2_3), (.slice AOR2_4 o0_4.length cOR2_4), (.slice AOR2_5 o0_5.length cOR2_5)] 74 (0, 0)) from (hb.block _ (blk_lt BK7.out)).trans BK7.out); have HZ23 := Aside0.mk (show w22_.heap.size ≤ w23_.heap.size from hb.size); have HB := Aside0.mk (below_step (show Below w.heap.size w _ from by (with_reducible repeat apply pw_below_drewN); exact HB.out) hb); have BK12 := Aside0.mk hbox; have HGBK12 := Aside0.mk (show gBK12 = w22_.heap.size ∧ gBK12 < w23_.heap.size from ⟨hg, blk_lt hbox⟩); have GEBK12 := Aside0.mk (show w.heap.size ≤ gBK12 from by have z0_ := HZ1.out; have z1_ := HGBK1.out; have z2_ := HZ2.out; have z3_ := HZ3.out; have z4_ := HZ4.out; have z5_ := HZ5.out; have z6_ := HGBK4.out; have z7_ := HZ6.out; have z8_ := HZ7.out; have z9_ := HZ8.out; have z10_ := HGBK6.out; have z11_ := HZ9.out; have z12_ := HZ10.out; have z13_ := HZ11.out; have z14_ := HGBK7.out; have z15_ := HZ12.out; have z16_ := HZ13.out; have z17_ := HZ14.out; have z18_ := HZ15.out; have z19_ := HZ16.out; have z20_ := HZ17.out; have z21_ := HZ18.out; have z22_ := HZ19.out; have z23_ := HZ20.out; have z24_ := HZ21.out; have z25_ := HZ22.out; have z26_ := HZ23.out; have z27_ := HGBK12.out; omega); clear hb hbox hg; (try clear hczBK1_0 hczBK1_1 hczBK1_2 hczBK4_0 hczBK4_1 hczBK4_2 hczBK4_3 hczBK4_4 hczBK4_5 hczBK6_0 hczBK6_1 hczBK6_2 hczBK7_0 hczBK7_1 hczBK7_2 hczBK7_3 hczBK7_4 hczBK7_5); have hczBK1_0 : w23_.cell? ⟨gBK1, 0, none⟩ = some (.slice A0_0 l0_0.length c0_0) := (blk_cell BK1.out 0).trans rfl; have hczBK1_1 : w23_.cell? ⟨gBK1, 1, none⟩ = some (.slice A0_1 l0_1.length c0_1) := (blk_cell BK1.out 1).trans rfl; have hczBK1_2 : w23_.cell? ⟨gBK1, 2, none⟩ = some (.slice A0_2 l0_2.length c0_2) := (blk_cell BK1.out 2).trans rfl; have hczBK4_0 : w23_.cell? ⟨gBK4, 0, none⟩ = some ((.slice AOR1_0 o0_0.length cOR1_0)) := (blk_cell BK4.out 0).trans rfl; have hczBK4_1 : w23_.cell? ⟨gBK4, 1, none⟩ = some ((.slice AOR1_1 o0_1.length cOR1_1)) := (blk_cell BK4.out 1).trans rfl; have hczBK4_2 : w23_.cell? ⟨gBK4, 2, none⟩ = some ((.slice AOR1_2 o0_2.length cOR1_2)) := (blk_cell BK4.out 2).trans rfl; have hczBK4_3 : w23_.cell? ⟨gBK4, 3, none⟩ = some ((.slice AOR1_3 o0_3.length cOR1_3)) := (blk_cell BK4.out 3).trans rfl; have hczBK4_4 : w23_.cell? ⟨gBK4, 4, none⟩ = some ((.slice AOR1_4 o0_4.length cOR1_4)) := (blk_cell BK4.out 4).trans rfl; have hczBK4_5 : w23_.cell? ⟨gBK4, 5, none⟩ = some ((.slice AOR1_5 o0_5.length cOR1_5)) := (blk_cell BK4.out 5).trans rfl; have hczBK6_0 : w23_.cell? ⟨gBK6, 0, none⟩ = some ((.slice AOX2_0 e0_0.length cOX2_0)) := (blk_cell BK6.out 0).trans rfl; have hczBK6_1 : w23_.cell? ⟨gBK6, 1, none⟩ = some ((.slice AOX2_1 e0_1.length cOX2_1)) := (blk_cell BK6.out 1).trans rfl; have hczBK6_2 : w23_.cell? ⟨gBK6, 2, none⟩ = some ((.slice AOX2_2 e0_2.length cOX2_2)) := (blk_cell BK6.out 2).trans rfl; have hczBK7_0 : w23_.cell? ⟨gBK7, 0, none⟩ = some ((.slice AOR2_0 o0_0.length cOR2_0)) := (blk_cell BK7.out 0).trans rfl; have hczBK7_1 : w23_.cell? ⟨gBK7, 1, none⟩ = some ((.slice AOR2_1 o0_1.length cOR2_1)) := (blk_cell BK7.out 1).trans rfl; have hczBK7_2 : w23_.cell? ⟨gBK7, 2, none⟩ = some ((.slice AOR2_2 o0_2.length cOR2_2)) := (blk_cell BK7.out 2).trans rfl; have hczBK7_3 : w23_.cell? ⟨gBK7, 3, none⟩ = some ((.slice AOR2_3 o0_3.length cOR2_3)) := (blk_cell BK7.out 3).trans rfl; have hczBK7_4 : w23_.cell? ⟨gBK7, 4, none⟩ = some ((.slice AOR2_4 o0_4.length cOR2_4)) := (blk_cell BK7.out 4).trans rfl; have hczBK7_5 : w23_.cell? ⟨gBK7, 5, none⟩ = some ((.slice AOR2_5 o0_5.length cOR2_5)) := (blk_cell BK7.out 5).trans rfl; have hczBK12_0 : w23_.cell? ⟨gBK12, 0, none⟩ = some (.slice none 0 0) := (blk_cell BK12.out 0).trans rfl; have hczBK12_1 : w23_.cell? ⟨gBK12, 1, none⟩ = some (.slice none 0 0) := (blk_cell BK12.out 1).trans rfl; have hczBK12_2 : w23_.cell? ⟨gBK12, 2, none⟩ = some (.slice none 0 0) := (blk_cell BK12.out 2).trans rfl; have hczBK12_3 : w23_.cell? ⟨gBK12, 3, none⟩ = some (.slice none 0 0) := (blk_cell BK12.out 3).trans rfl; have hczBK12_4 : w23_.cell? ⟨gBK12, 4, none⟩ = some (.slice none 0 0) := (blk_cell BK12.out 4).trans rfl; have hczBK12_5 : w23_.cell? ⟨gBK12, 5, none⟩ = some (.slice none 0 0) := (blk_cell BK12.out 5).trans rfl; have hfzBK12_0 := blk_frozen BK12.out 0; have hfzBK12_1 := blk_frozen BK12.out 1; have hfzBK12_2 := blk_frozen BK12.out 2; have hfzBK12_3 := blk_frozen BK12.out 3; have hfzBK12_4 := blk_frozen BK12.out 4; have hfzBK12_5 := blk_frozen BK12.out 5) | ((with_reducible refine gate_store (t := 74) (p := 12) rfl ?_); refine store_event (t := 74) (p := 12) (v := ?vo_w24_) (w1 := ((((((w23_.setCell ⟨gBK12, 0, none⟩ ((.slice AOR3_0 o0_0.length cOR3_0))).setCell ⟨gBK12, 1, none⟩ ((.slice AOR3_1 o0_1.length cOR3_1))).setCell ⟨gBK12, 2, none⟩ ((.slice AOR3_2 o0_2.length cOR3_2))).setCell ⟨gBK12, 3, none⟩ ((.slice AOR3_3 o0_3.length cOR3_3))).setCell ⟨gBK12, 4, none⟩ ((.slice AOR3_4 o0_4.length cOR3_4))).setCell ⟨gBK12, 5, none⟩ ((.slice AOR3_5 o0_5.length cOR3_5)))) ?hg ?ho ?hn ?hr ?_; (case ho => rfl); (case hg => rfl); (case hn => rfl); (case hr => first | (go_simp; done) | (go_simp; rfl)); intro w24_ hw; have hk : Kept w23_ w24_ (fun k_ => k_ = gBK12) := (by rw [hw]; refine Kept.setCell (S := fun k_ => k_ = gBK12) (p := ⟨gBK12, 5, none⟩) ?_ (Or.inl (Eq.refl gBK12)) _; refine Kept.setCell (S := fun k_ => k_ = gBK12) (p := ⟨gBK12, 4, none⟩) ?_ (Or.inl (Eq.refl gBK12)) _; refine Kept.setCell (S := fun k_ => k_ = gBK12) (p := ⟨gBK12, 3, none⟩) ?_ (Or.inl (Eq.refl gBK12)) _; refine Kept.setCell (S := fun k_ => k_ = gBK12) (p := ⟨gBK12, 2, none⟩) ?_ (Or.inl (Eq.refl gBK12)) _; refine Kept.setCell (S := fun k_ => k_ = gBK12) (p := ⟨gBK12, 1, none⟩) ?_ (Or.inl (Eq.refl gBK12)) _; refine Kept.setCell (S := fun k_ => k_ = gBK12) (p := ⟨gBK12, 0, none⟩) ?_ (Or.inl (Eq.refl gBK12)) _; exact Kept.refl _ _); have hbox : w24_.heap[gBK12]? = some (.cells #[(.slice AOR3_0 o0_0.length cOR3_0), (.slice AOR3_1 o0_1.length cOR3_1), (.slice AOR3_2 o0_2.length cOR3_2), (.slice AOR3_3 o0_3.length cOR3_3), (.slice AOR3_4 o0_4.length cOR3_4), (.slice AOR3_5 o0_5.length cOR3_5)] 74 (0, 0)) := (by rw [hw]; refine blk_put (cs := #[(.slice AOR3_0 o0_0.length cOR3_0), (.slice AOR3_1 o0_1.length cOR3_1), (.slice AOR3_2 o0_2.length cOR3_2), (.slice AOR3_3 o0_3.length cOR3_3), (.slice AOR3_4 o0_4.length cOR3_4), .slice none 0 0]) ?_ 5 _ rfl; refine blk_put (cs := #[(.slice AOR3_0 o0_0.length cOR3_0), (.slice AOR3_1 o0_1.length cOR3_1), (.slice AOR3_2 o0_2.length cOR3_2), (.slice AOR3_3 o0_3.length cOR3_3), .slice none 0 0, .slice none 0 0]) ?_ 4 _ rfl; refine blk_put (cs := #[(.slice AOR3_0 o0_0.length cOR3_0), (.slice AOR3_1 o0_1.length cOR3_1), (.slice AOR3_2 o0_2.length cOR3_2), .slice none 0 0, .slice none 0 0, .slice none 0 0]) ?_ 3 _ rfl; refine blk_put (cs := #[(.slice AOR3_0 o0_0.length cOR3_0), (.slice AOR3_1 o0_1.length cOR3_1), .slice none 0 0, .slice none 0 0, .slice none 0 0, .slice none 0 0]) ?_ 2 _ rfl; refine blk_put (cs := #[(.slice AOR3_0 o0_0.length cOR3_0), .slice none 0 0, .slice none 0 0, .slice none 0 0, .slice none 0 0, .slice none 0 0]) ?_ 1 _ rfl; refine blk_put (cs := #[.slice none 0 0, .slice none 0 0, .slice none 0 0, .slice none 0 0, .slice none 0 0, .slice none 0 0]) ?_ 0 _ rfl; exact BK12.out); have hB : Below w.heap.size w w24_ := (by rw [hw]; (with_reducible repeat refine below_set ?_ GEBK12.out); exact HB.out); have OR1 := Aside0.mk (OwnPacked.kept (show OwnPacked _ _ _ _ _ _ _ _ _ _ _ _ _ _ _ _ _ from by (with_reducible repeat apply OwnPacked.drewN); exact OR1.out) hk (fun k_ h1 h2 h3 => by have z0_ := HZ1.out; have z1_ := HGBK1.out; have z2_ := HZ2.out; have z3_ := HZ3.out; have z4_ := HZ4.out; have z5_ := HZ5.out; have z6_ := HGBK4.out; have z7_ := HZ6.out; have z8_ := HZ7.out; have z9_ := HZ8.out; have z10_ := HGBK6.out; have z11_ := HZ9.out; have z12_ := HZ10.out; have z13_ := HZ11.out; have z14_ := HGBK7.out; have z15_ := HZ12.out; have z16_ := HZ13.out; have z17_ := HZ14.out; have z18_ := HZ15.out; have z19_ := HZ16.out; have z20_ := HZ17.out; have z21_ := HZ18.out; have z22_ := HZ19.out; have z23_ := HZ20.out; have z24_ := HZ21.out; have z25_ := HZ22.out; have z26_ := HZ23.out; have z27_ := HGBK12.out; omega)); have OR2 := Aside0.mk (OwnPacked.kept (show OwnPacked _ _ _ _ _ _ _ _ _ _ _ _ _ _ _ _ _ from by (with_reducible repeat apply OwnPacked.drewN); exact OR2.out) hk (fun k_ h1 h2 h3 => by have z0_ := HZ1.out; have z1_ := HGBK1.out; have z2_ := HZ2.out; have z3_ := HZ3.out; have z4_ := HZ4.out; have z5_ := HZ5.out; have z6_ := HGBK4.out; have z7_ := HZ6.out; have z8_ := HZ7.out; have z9_ := HZ8.out; have z10_ := HGBK6.out; have z11_ := HZ9.out; have z12_ := HZ10.out; have z13_ := HZ11.out; have z14_ := HGBK7.out; have z15_ := HZ12.out; have z16_ := HZ13.out; have z17_ := HZ14.out; have z18_ := HZ15.out; have z19_ := HZ16.out; have z20_ := HZ17.out; have z21_ := HZ18.out; have z22_ := HZ19.out; have z23_ := HZ20.out; have z24_ := HZ21.out; have z25_ := HZ22.out; have z26_ := HZ23.out; have z27_ := HGBK12.out; omega)); have OR3 := Aside0.mk (OwnPacked.kept (show OwnPacked _ _ _ _ _ _ _ _ _ _ _ _ _ _ _ _ _ from by (with_reducible repeat apply OwnPacked.drewN); exact OR3.out) hk (fun k_ h1 h2 h3 => by have z0_ := HZ1.out; have z1_ := HGBK1.out; have z2_ := HZ2.out; have z3_ := HZ3.out; have z4_ := HZ4.out; have z5_ := HZ5.out; have z6_ := HGBK4.out; have z7_ := HZ6.out; have z8_ := HZ7.out; have z9_ := HZ8.out; have z10_ := HGBK6.out; have z11_ := HZ9.out; have z12_ := HZ10.out; have z13_ := HZ11.out; have z14_ := HGBK7.out; have z15_ := HZ12.out; have z16_ := HZ13.out; have z17_ := HZ14.out; have z18_ := HZ15.out; have z19_ := HZ16.out; have z20_ := HZ17.out; have z21_ := HZ18.out; have z22_ := HZ19.out; have z23_ := HZ20.out; have z24_ := HZ21.out; have z25_ := HZ22.out; have z26_ := HZ23.out; have z27_ := HGBK12.out; omega)); have BK1 := Aside0.mk (show w24_.heap[gBK1]? = some (.cells #[.slice A0_0 l0_0.length c0_0, .slice A0_1 l0_1.length c0_1, .slice A0_2 l0_2.length c0_2] 49 (0, 0)) from (hk.2 _ (blk_lt BK1.out) (fun h3 => by have z0_ := HZ1.out; have z1_ := HGBK1.out; have z2_ := HZ2.out; have z3_ := HZ3.out; have z4_ := HZ4.out; have z5_ := HZ5.out; have z6_ := HGBK4.out; have z7_ := HZ6.out; have z8_ := HZ7.out; have z9_ := HZ8.out; have z10_ := HGBK6.out; have z11_ := HZ9.out; have z12_ := HZ10.out; have z13_ := HZ11.out; have z14_ := HGBK7.out; have z15_ := HZ12.out; have z16_ := HZ13.out; have z17_ := HZ14.out; have z18_ := HZ15.out; have z19_ := HZ16.out; have z20_ := HZ17.out; have z21_ := HZ18.out; have z22_ := HZ19.out; have z23_ := HZ20.out; have z24_ := HZ21.out; have z25_ := HZ22.out; have z26_ := HZ23.out; have z27_ := HGBK12.out; omega)).trans BK1.out); have BK4 := Aside0.mk (show w24_.heap[gBK4]? = some (.cells #[(.slice AOR1_0 o0_0.length cOR1_0), (.slice AOR1_1 o0_1.length cOR1_1), (.slice AOR1_2 o0_2.length cOR1_2), (.slice AOR1_3 o0_3.length cOR1_3), (.slice AOR1_4 o0_4.length cOR1_4), (.slice AOR1_5 o0_5.length cOR1_5)] 74 (0, 0)) from (hk.2 _ (blk_lt BK4.out) (fun h3 => by have z0_ := HZ1.out; have z1_ := HGBK1.out; have z2_ := HZ2.out; have z3_ := HZ3.out; have z4_ := HZ4.out; have z5_ := HZ5.out; have z6_ := HGBK4.out; have z7_ := HZ6.out; have z8_ := HZ7.out; have z9_ := HZ8.out; have z10_ := HGBK6.out; have z11_ := HZ9.out; have z12_ := HZ10.out; have z13_ := HZ11.out; have z14_ := HGBK7.out; have z15_ := HZ12.out; have z16_ := HZ13.out; have z17_ := HZ14.out; have z18_ := HZ15.out; have z19_ := HZ16.out; have z20_ := HZ17.out; have z21_ := HZ18.out; have z22_ := HZ19.out; have z23_ := HZ20.out; have z24_ := HZ21.out; have z25_ := HZ22.out; have z26_ := HZ23.out; have z27_ := HGBK12.out; omega)).trans BK4.out); have BK6 := Aside0.mk (show w24_.heap[gBK6]? = some (.cells #[(.slice AOX2_0 e0_0.length cOX2_0), (.slice AOX2_1 e0_1.length cOX2_1), (.slice AOX2_2 e0_2.length cOX2_2)] 53 (0, 0)) from (hk.2 _ (blk_lt BK6.out) (fun h3 => by have z0_ := HZ1.out; have z1_ := HGBK1.out; have z2_ := HZ2.out; have z3_ := HZ3.out; have z4_ := HZ4.out; have z5_ := HZ5.out; have z6_ := HGBK4.out; have z7_ := HZ6.out; have z8_ := HZ7.out; have z9_ := HZ8.out; have z10_ := HGBK6.out; have z11_ := HZ9.out; have z12_ := HZ10.out; have z13_ := HZ11.out; have z14_ := HGBK7.out; have z15_ := HZ12.out; have z16_ := HZ13.out; have z17_ := HZ14.out; have z18_ := HZ15.out; have z19_ := HZ16.out; have z20_ := HZ17.out; have z21_ := HZ18.out; have z22_ := HZ19.out; have z23_ := HZ20.out; have z24_ := HZ21.out; have z25_ := HZ22.out; have z26_ := HZ23.out; have z27_ := HGBK12.out; omega)).trans BK6.out); have BK7 := Aside0.mk (show w24_.heap[gBK7]? = some (.cells #[(.slice AOR2_0 o0_0.length cOR2_0), (.slice AOR2_1 o0_1.length cOR2_1), (.slice AOR2_2 o0_2.length cOR2_2), (.slice AOR2_3 o0_3.length cOR2_3), (.slice AOR2_4 o0_4.length cOR2_4), (.slice AOR2_5 o0_5.length cOR2_5)] 74 (0, 0)) from (hk.2 _ (blk_lt BK7.out) (fun h3 => by have z0_ := HZ1.out; have z1_ := HGBK1.out; have z2_ := HZ2.out; have z3_ := HZ3.out; have z4_ := HZ4.out; have z5_ := HZ5.out; have z6_ := HGBK4.out; have z7_ := HZ6.out; have z8_ := HZ7.out; have z9_ := HZ8.out; have z10_ := HGBK6.out; have z11_ := HZ9.out; have z12_ := HZ10.out; have z13_ := HZ11.out; have z14_ := HGBK7.out; have z15_ := HZ12.out; have z16_ := HZ13.out; have z17_ := HZ14.out; have z18_ := HZ15.out; have z19_ := HZ16.out; have z20_ := HZ17.out; have z21_ := HZ18.out; have z22_ := HZ19.out; have z23_ := HZ20.out; have z24_ := HZ21.out; have z25_ := HZ22.out; have z26_ := HZ23.out; have z27_ := HGBK12.out; omega)).trans BK7.out); have HZ24 := Aside0.mk (show w23_.heap.size ≤ w24_.heap.size from hk.1); have BK12 := Aside0.mk hbox; have HB := Aside0.mk hB; clear hk hw hbox hB; clear hfzBK12_0 hfzBK12_1 hfzBK12_2 hfzBK12_3 hfzBK12_4 hfzBK12_5; (try clear hczBK1_0 hczBK1_1 hczBK1_2 hczBK4_0 hczBK4_1 hczBK4_2 hczBK4_3 hczBK4_4 hczBK4_5 hczBK6_0 hczBK6_1 hczBK6_2 hczBK7_0 hczBK7_1 hczBK7_2 hczBK7_3 hczBK7_4 hczBK7_5 hczBK12_0 hczBK12_1 hczBK12_2 hczBK12_3 hczBK12_4 hczBK12_5); have hczBK1_0 : w24_.cell? ⟨gBK1, 0, none⟩ = some (.slice A0_0 l0_0.length c0_0) := (blk_cell BK1.out 0).trans rfl; have hczBK1_1 : w24_.cell? ⟨gBK1, 1, none⟩ = some (.slice A0_1 l0_1.length c0_1) := (blk_cell BK1.out 1).trans rfl; have hczBK1_2 : w24_.cell? ⟨gBK1, 2, none⟩ = some (.slice A0_2 l0_2.length c0_2) := (blk_cell BK1.out 2).trans rfl; have hczBK4_0 : w24_.cell? ⟨gBK4, 0, none⟩ = some ((.slice AOR1_0 o0_0.length cOR1_0)) := (blk_cell BK4.out 0).trans rfl; have hczBK4_1 : w24_.cell? ⟨gBK4, 1, none⟩ = some ((.slice AOR1_1 o0_1.length cOR1_1)) := (blk_cell BK4.out 1).trans rfl; have hczBK4_2 : w24_.cell? ⟨gBK4, 2, none⟩ = some ((.slice AOR1_2 o0_2.length cOR1_2)) := (blk_cell BK4.out 2).trans rfl; have hczBK4_3 : w24_.cell? ⟨gBK4, 3, none⟩ = some ((.slice AOR1_3 o0_3.length cOR1_3)) := (blk_cell BK4.out 3).trans rfl; have hczBK4_4 : w24_.cell? ⟨gBK4, 4, none⟩ = some ((.slice AOR1_4 o0_4.length cOR1_4)) := (blk_cell BK4.out 4).trans rfl; have hczBK4_5 : w24_.cell? ⟨gBK4, 5, none⟩ = some ((.slice AOR1_5 o0_5.length cOR1_5)) := (blk_cell BK4.out 5).trans rfl; have hczBK6_0 : w24_.cell? ⟨gBK6, 0, none⟩ = some ((.slice AOX2_0 e0_0.length cOX2_0)) := (blk_cell BK6.out 0).trans rfl; have hczBK6_1 : w24_.cell? ⟨gBK6, 1, none⟩ = some ((.slice AOX2_1 e0_1.length cOX2_1)) := (blk_cell BK6.out 1).trans rfl; have hczBK6_2 : w24_.cell? ⟨gBK6, 2, none⟩ = some ((.slice AOX2_2 e0_2.length cOX2_2)) := (blk_cell BK6.out 2).trans rfl; have hczBK7_0 : w24_.cell? ⟨gBK7, 0, none⟩ = some ((.slice AOR2_0 o0_0.length cOR2_0)) := (blk_cell BK7.out 0).trans rfl; have hczBK7_1 : w24_.cell? ⟨gBK7, 1, none⟩ = some ((.slice AOR2_1 o0_1.length cOR2_1)) := (blk_cell BK7.out 1).trans rfl; have hczBK7_2 : w24_.cell? ⟨gBK7, 2, none⟩ = some ((.slice AOR2_2 o0_2.length cOR2_2)) := (blk_cell BK7.out 2).trans rfl; have hczBK7_3 : w24_.cell? ⟨gBK7, 3, none⟩ = some ((.slice AOR2_3 o0_3.length cOR2_3)) := (blk_cell BK7.out 3).trans rfl; have hczBK7_4 : w24_.cell? ⟨gBK7, 4, none⟩ = some ((.slice AOR2_4 o0_4.length cOR2_4)) := (blk_cell BK7.out 4).trans rfl; have hczBK7_5 : w24_.cell? ⟨gBK7, 5, none⟩ = some ((.slice AOR2_5 o0_5.length cOR2_5)) := (blk_cell BK7.out 5).trans rfl; have hczBK12_0 : w24_.cell? ⟨gBK12, 0, none⟩ = some ((.slice AOR3_0 o0_0.length cOR3_0)) := (blk_cell BK12.out 0).trans rfl; have hczBK12_1 : w24_.cell? ⟨gBK12, 1, none⟩ = some ((.slice AOR3_1 o0_1.length cOR3_1)) := (blk_cell BK12.out 1).trans rfl; have hczBK12_2 : w24_.cell? ⟨gBK12, 2, none⟩ = some ((.slice AOR3_2 o0_2.length cOR3_2)) := (blk_cell BK12.out 2).trans rfl; have hczBK12_3 : w24_.cell? ⟨gBK12, 3, none⟩ = some ((.slice AOR3_3 o0_3.length cOR3_3)) := (blk_cell BK12.out 3).trans rfl; have hczBK12_4 : w24_.cell? ⟨gBK12, 4, none⟩ = some ((.slice AOR3_4 o0_4.length cOR3_4)) := (blk_cell BK12.out 4).trans rfl; have hczBK12_5 : w24_.cell? ⟨gBK12, 5, none⟩ = some ((.slice AOR3_5 o0_5.length cOR3_5)) := (blk_cell BK12.out 5).trans rfl))
    refine (laws_eqPacked.calls k _ _ o0_0 _ _ o0_1 _ _ o0_2 _ _ o0_3 _ _ o0_4 _ _ o0_5 _ _ o0_0 _ _ o0_1 _ _ o0_2 _ _ o0_3 _ _ o0_4 _ _ o0_5 true _ ?s109_ ?s110_ ?s111_ ?s112_ ?s113_ ?s114_ ?s115_ ?s116_ ?s117_ ?s118_ ?s119_ ?s120_ ?s121_ ?s122_ ?s123_ ?s124_ ?s125_ ?s126_ ?s127_ ?s128_ ?s129_ ?s130_ ?s131_ ?s132_ HFeR.out).mono ?_
    case s109_ => exact (OwnPacked.rd0 (by (with_reducible repeat apply OwnPacked.drewN); exact OR3.out) rfl).2.2
    case s110_ => exact (OwnPacked.rd0 OR3.out rfl).2.1
    case s111_ => exact (OwnPacked.rd1 (by (with_reducible repeat apply OwnPacked.drewN); exact OR3.out) rfl).2.2
    case s112_ => exact (OwnPacked.rd1 OR3.out rfl).2.1
    case s113_ => exact (OwnPacked.rd2 (by (with_reducible repeat apply OwnPacked.drewN); exact OR3.out) rfl).2.2
    case s114_ => exact (OwnPacked.rd2 OR3.out rfl).2.1
    case s115_ => exact (OwnPacked.rd3 (by (with_reducible repeat apply OwnPacked.drewN); exact OR3.out) rfl).2.2
    case s116_ => exact (OwnPacked.rd3 OR3.out rfl).2.1
    case s117_ => exact (OwnPacked.rd4 (by (with_reducible repeat apply OwnPacked.drewN); exact OR3.out) rfl).2.2
    case s118_ => exact (OwnPacked.rd4 OR3.out rfl).2.1
    case s119_ => exact (OwnPacked.rd5 (by (with_reducible repeat apply OwnPacked.drewN); exact OR3.out) rfl).2.2
    case s120_ => exact (OwnPacked.rd5 OR3.out rfl).2.1
    case s121_ => exact (OwnPacked.rd0 (by (with_reducible repeat apply OwnPacked.drewN); exact OR1.out) rfl).2.2
    case s122_ => exact (OwnPacked.rd0 OR1.out rfl).2.1
    case s123_ => exact (OwnPacked.rd1 (by (with_reducible repeat apply OwnPacked.drewN); exact OR1.out) rfl).2.2
    case s124_ => exact (OwnPacked.rd1 OR1.out rfl).2.1
    case s125_ => exact (OwnPacked.rd2 (by (with_reducible repeat apply OwnPacked.drewN); exact OR1.out) rfl).2.2
    case s126_ => exact (OwnPacked.rd2 OR1.out rfl).2.1
    case s127_ => exact (OwnPacked.rd3 (by (with_reducible repeat apply OwnPacked.drewN); exact OR1.out) rfl).2.2
    case s128_ => exact (OwnPacked.rd3 OR1.out rfl).2.1
    case s129_ => exact (OwnPacked.rd4 (by (with_reducible repeat apply OwnPacked.drewN); exact OR1.out) rfl).2.2
    case s130_ => exact (OwnPacked.rd4 OR1.out rfl).2.1
    case s131_ => exact (OwnPacked.rd5 (by (with_reducible repeat apply OwnPacked.drewN); exact OR1.out) rfl).2.2
    case s132_ => exact (OwnPacked.rd5 OR1.out rfl).2.1
    rintro e w25_ ⟨rfl, hb⟩
    have OR1 := Aside0.mk (OwnPacked.below (show OwnPacked _ _ _ _ _ _ _ _ _ _ _ _ _ _ _ _ _ from by (with_reducible repeat apply OwnPacked.drewN); exact OR1.out) hb)
    have OR2 := Aside0.mk (OwnPacked.below (show OwnPacked _ _ _ _ _ _ _ _ _ _ _ _ _ _ _ _ _ from by (with_reducible repeat apply OwnPacked.drewN); exact OR2.out) hb)
    have OR3 := Aside0.mk (OwnPacked.below (show OwnPacked _ _ _ _ _ _ _ _ _ _ _ _ _ _ _ _ _ from by (with_reducible repeat apply OwnPacked.drewN); exact OR3.out) hb)
    have BK1 := Aside0.mk (show w25_.heap[gBK1]? = some (.cells #[.slice A0_0 l0_0.length c0_0, .slice A0_1 l0_1.length c0_1, .slice A0_2 l0_2.length c0_2] 49 (0, 0)) from (hb.block _ (blk_lt BK1.out)).trans BK1.out)
    have BK4 := Aside0.mk (show w25_.heap[gBK4]? = some (.cells #[(.slice AOR1_0 o0_0.length cOR1_0), (.slice AOR1_1 o0_1.length cOR1_1), (.slice AOR1_2 o0_2.length cOR1_2), (.slice AOR1_3 o0_3.length cOR1_3), (.slice AOR1_4 o0_4.length cOR1_4), (.slice AOR1_5 o0_5.length cOR1_5)] 74 (0, 0)) from (hb.block _ (blk_lt BK4.out)).trans BK4.out)
    have BK6 := Aside0.mk (show w25_.heap[gBK6]? = some (.cells #[(.slice AOX2_0 e0_0.length cOX2_0), (.slice AOX2_1 e0_1.length cOX2_1), (.slice AOX2_2 e0_2.length cOX2_2)] 53 (0, 0)) from (hb.block _ (blk_lt BK6.out)).trans BK6.out)
    have BK7 := Aside0.mk (show w25_.heap[gBK7]? = some (.cells #[(.slice AOR2_0 o0_0.length cOR2_0), (.slice AOR2_1 o0_1.length cOR2_1), (.slice AOR2_2 o0_2.length cOR2_2), (.slice AOR2_3 o0_3.length cOR2_3), (.slice AOR2_4 o0_4.length cOR2_4), (.slice AOR2_5 o0_5.length cOR2_5)] 74 (0, 0)) from (hb.block _ (blk_lt BK7.out)).trans BK7.out)
    have BK12 := Aside0.mk (show w25_.heap[gBK12]? = some (.cells #[(.slice AOR3_0 o0_0.length cOR3_0), (.slice AOR3_1 o0_1.length cOR3_1), (.slice AOR3_2 o0_2.length cOR3_2), (.slice AOR3_3 o0_3.length cOR3_3), (.slice AOR3_4 o0_4.length cOR3_4), (.slice AOR3_5 o0_5.length cOR3_5)] 74 (0, 0)) from (hb.block _ (blk_lt BK12.out)).trans BK12.out)
    have HZ25 := Aside0.mk (show w24_.heap.size ≤ w25_.heap.size from hb.size)
    have HB := Aside0.mk (below_step (show Below w.heap.size w _ from by (with_reducible repeat apply pw_below_drewN); exact HB.out) hb)
    (try clear hczBK1_0 hczBK1_1 hczBK1_2 hczBK4_0 hczBK4_1 hczBK4_2 hczBK4_3 hczBK4_4 hczBK4_5 hczBK6_0 hczBK6_1 hczBK6_2 hczBK7_0 hczBK7_1 hczBK7_2 hczBK7_3 hczBK7_4 hczBK7_5 hczBK12_0 hczBK12_1 hczBK12_2 hczBK12_3 hczBK12_4 hczBK12_5)
    have hczBK1_0 : w25_.cell? ⟨gBK1, 0, none⟩ = some (.slice A0_0 l0_0.length c0_0) := (blk_cell BK1.out 0).trans rfl
    have hczBK1_1 : w25_.cell? ⟨gBK1, 1, none⟩ = some (.slice A0_1 l0_1.length c0_1) := (blk_cell BK1.out 1).trans rfl
    have hczBK1_2 : w25_.cell? ⟨gBK1, 2, none⟩ = some (.slice A0_2 l0_2.length c0_2) := (blk_cell BK1.out 2).trans rfl
    have hczBK4_0 : w25_.cell? ⟨gBK4, 0, none⟩ = some ((.slice AOR1_0 o0_0.length cOR1_0)) := (blk_cell BK4.out 0).trans rfl
    have hczBK4_1 : w25_.cell? ⟨gBK4, 1, none⟩ = some ((.slice AOR1_1 o0_1.length cOR1_1)) := (blk_cell BK4.out 1).trans rfl
    have hczBK4_2 : w25_.cell? ⟨gBK4, 2, none⟩ = some ((.slice AOR1_2 o0_2.length cOR1_2)) := (blk_cell BK4.out 2).trans rfl
    have hczBK4_3 : w25_.cell? ⟨gBK4, 3, none⟩ = some ((.slice AOR1_3 o0_3.length cOR1_3)) := (blk_cell BK4.out 3).trans rfl
    have hczBK4_4 : w25_.cell? ⟨gBK4, 4, none⟩ = some ((.slice AOR1_4 o0_4.length cOR1_4)) := (blk_cell BK4.out 4).trans rfl
    have hczBK4_5 : w25_.cell? ⟨gBK4, 5, none⟩ = some ((.slice AOR1_5 o0_5.length cOR1_5)) := (blk_cell BK4.out 5).trans rfl
    have hczBK6_0 : w25_.cell? ⟨gBK6, 0, none⟩ = some ((.slice AOX2_0 e0_0.length cOX2_0)) := (blk_cell BK6.out 0).trans rfl
    have hczBK6_1 : w25_.cell? ⟨gBK6, 1, none⟩ = some ((.slice AOX2_1 e0_1.length cOX2_1)) := (blk_cell BK6.out 1).trans rfl
    have hczBK6_2 : w25_.cell? ⟨gBK6, 2, none⟩ = some ((.slice AOX2_2 e0_2.length cOX2_2)) := (blk_cell BK6.out 2).trans rfl
    have hczBK7_0 : w25_.cell? ⟨gBK7, 0, none⟩ = some ((.slice AOR2_0 o0_0.length cOR2_0)) := (blk_cell BK7.out 0).trans rfl
    have hczBK7_1 : w25_.cell? ⟨gBK7, 1, none⟩ = some ((.slice AOR2_1 o0_1.length cOR2_1)) := (blk_cell BK7.out 1).trans rfl
    have hczBK7_2 : w25_.cell? ⟨gBK7, 2, none⟩ = some ((.slice AOR2_2 o0_2.length cOR2_2)) := (blk_cell BK7.out 2).trans rfl
    have hczBK7_3 : w25_.cell? ⟨gBK7, 3, none⟩ = some ((.slice AOR2_3 o0_3.length cOR2_3)) := (blk_cell BK7.out 3).trans rfl
    have hczBK7_4 : w25_.cell? ⟨gBK7, 4, none⟩ = some ((.slice AOR2_4 o0_4.length cOR2_4)) := (blk_cell BK7.out 4).trans rfl
    have hczBK7_5 : w25_.cell? ⟨gBK7, 5, none⟩ = some ((.slice AOR2_5 o0_5.length cOR2_5)) := (blk_cell BK7.out 5).trans rfl
    have hczBK12_0 : w25_.cell? ⟨gBK12, 0, none⟩ = some ((.slice AOR3_0 o0_0.length cOR3_0)) := (blk_cell BK12.out 0).trans rfl
    have hczBK12_1 : w25_.cell? ⟨gBK12, 1, none⟩ = some ((.slice AOR3_1 o0_1.length cOR3_1)) := (blk_cell BK12.out 1).trans rfl
    have hczBK12_2 : w25_.cell? ⟨gBK12, 2, none⟩ = some ((.slice AOR3_2 o0_2.length cOR3_2)) := (blk_cell BK12.out 2).trans rfl
    have hczBK12_3 : w25_.cell? ⟨gBK12, 3, none⟩ = some ((.slice AOR3_3 o0_3.length cOR3_3)) := (blk_cell BK12.out 3).trans rfl
    have hczBK12_4 : w25_.cell? ⟨gBK12, 4, none⟩ = some ((.slice AOR3_4 o0_4.length cOR3_4)) := (blk_cell BK12.out 4).trans rfl
    have hczBK12_5 : w25_.cell? ⟨gBK12, 5, none⟩ = some ((.slice AOR3_5 o0_5.length cOR3_5)) := (blk_cell BK12.out 5).trans rfl
    clear hb
    clear OR1
    clear OR3
    go_wp2_with fail
    refine (OwnPacked.held k 1 mr (show OwnPacked _ _ _ _ _ _ _ _ _ _ _ _ _ _ _ _ _ from by (with_reducible repeat apply OwnPacked.drewN); exact OR2.out) HFh.out).mono ?_
    rintro e w26_ ⟨rfl, hb⟩
    have OR2 := Aside0.mk (OwnPacked.below (show OwnPacked _ _ _ _ _ _ _ _ _ _ _ _ _ _ _ _ _ from by (with_reducible repeat apply OwnPacked.drewN); exact OR2.out) hb)
    have BK1 := Aside0.mk (show w26_.heap[gBK1]? = some (.cells #[.slice A0_0 l0_0.length c0_0, .slice A0_1 l0_1.length c0_1, .slice A0_2 l0_2.length c0_2] 49 (0, 0)) from (hb.block _ (blk_lt BK1.out)).trans BK1.out)
    have BK4 := Aside0.mk (show w26_.heap[gBK4]? = some (.cells #[(.slice AOR1_0 o0_0.length cOR1_0), (.slice AOR1_1 o0_1.length cOR1_1), (.slice AOR1_2 o0_2.length cOR1_2), (.slice AOR1_3 o0_3.length cOR1_3), (.slice AOR1_4 o0_4.length cOR1_4), (.slice AOR1_5 o0_5.length cOR1_5)] 74 (0, 0)) from (hb.block _ (blk_lt BK4.out)).trans BK4.out)
    have BK6 := Aside0.mk (show w26_.heap[gBK6]? = some (.cells #[(.slice AOX2_0 e0_0.length cOX2_0), (.slice AOX2_1 e0_1.length cOX2_1), (.slice AOX2_2 e0_2.length cOX2_2)] 53 (0, 0)) from (hb.block _ (blk_lt BK6.out)).trans BK6.out)
    have BK7 := Aside0.mk (show w26_.heap[gBK7]? = some (.cells #[(.slice AOR2_0 o0_0.length cOR2_0), (.slice AOR2_1 o0_1.length cOR2_1), (.slice AOR2_2 o0_2.length cOR2_2), (.slice AOR2_3 o0_3.length cOR2_3), (.slice AOR2_4 o0_4.length cOR2_4), (.slice AOR2_5 o0_5.length cOR2_5)] 74 (0, 0)) from (hb.block _ (blk_lt BK7.out)).trans BK7.out)
    have BK12 := Aside0.mk (show w26_.heap[gBK12]? = some (.cells #[(.slice AOR3_0 o0_0.length cOR3_0), (.slice AOR3_1 o0_1.length cOR3_1), (.slice AOR3_2 o0_2.length cOR3_2), (.slice AOR3_3 o0_3.length cOR3_3), (.slice AOR3_4 o0_4.length cOR3_4), (.slice AOR3_5 o0_5.length cOR3_5)] 74 (0, 0)) from (hb.block _ (blk_lt BK12.out)).trans BK12.out)
    have HZ26 := Aside0.mk (show w25_.heap.size ≤ w26_.heap.size from hb.size)
    have HB := Aside0.mk (below_step (show Below w.heap.size w _ from by (with_reducible repeat apply pw_below_drewN); exact HB.out) hb)
    (try clear hczBK1_0 hczBK1_1 hczBK1_2 hczBK4_0 hczBK4_1 hczBK4_2 hczBK4_3 hczBK4_4 hczBK4_5 hczBK6_0 hczBK6_1 hczBK6_2 hczBK7_0 hczBK7_1 hczBK7_2 hczBK7_3 hczBK7_4 hczBK7_5 hczBK12_0 hczBK12_1 hczBK12_2 hczBK12_3 hczBK12_4 hczBK12_5)
    have hczBK1_0 : w26_.cell? ⟨gBK1, 0, none⟩ = some (.slice A0_0 l0_0.length c0_0) := (blk_cell BK1.out 0).trans rfl
    have hczBK1_1 : w26_.cell? ⟨gBK1, 1, none⟩ = some (.slice A0_1 l0_1.length c0_1) := (blk_cell BK1.out 1).trans rfl
    have hczBK1_2 : w26_.cell? ⟨gBK1, 2, none⟩ = some (.slice A0_2 l0_2.length c0_2) := (blk_cell BK1.out 2).trans rfl
    have hczBK4_0 : w26_.cell? ⟨gBK4, 0, none⟩ = some ((.slice AOR1_0 o0_0.length cOR1_0)) := (blk_cell BK4.out 0).trans rfl
    have hczBK4_1 : w26_.cell? ⟨gBK4, 1, none⟩ = some ((.slice AOR1_1 o0_1.length cOR1_1)) := (blk_cell BK4.out 1).trans rfl
    have hczBK4_2 : w26_.cell? ⟨gBK4, 2, none⟩ = some ((.slice AOR1_2 o0_2.length cOR1_2)) := (blk_cell BK4.out 2).trans rfl
    have hczBK4_3 : w26_.cell? ⟨gBK4, 3, none⟩ = some ((.slice AOR1_3 o0_3.length cOR1_3)) := (blk_cell BK4.out 3).trans rfl
    have hczBK4_4 : w26_.cell? ⟨gBK4, 4, none⟩ = some ((.slice AOR1_4 o0_4.length cOR1_4)) := (blk_cell BK4.out 4).trans rfl
    have hczBK4_5 : w26_.cell? ⟨gBK4, 5, none⟩ = some ((.slice AOR1_5 o0_5.length cOR1_5)) := (blk_cell BK4.out 5).trans rfl
    have hczBK6_0 : w26_.cell? ⟨gBK6, 0, none⟩ = some ((.slice AOX2_0 e0_0.length cOX2_0)) := (blk_cell BK6.out 0).trans rfl
    have hczBK6_1 : w26_.cell? ⟨gBK6, 1, none⟩ = some ((.slice AOX2_1 e0_1.length cOX2_1)) := (blk_cell BK6.out 1).trans rfl
    have hczBK6_2 : w26_.cell? ⟨gBK6, 2, none⟩ = some ((.slice AOX2_2 e0_2.length cOX2_2)) := (blk_cell BK6.out 2).trans rfl
    have hczBK7_0 : w26_.cell? ⟨gBK7, 0, none⟩ = some ((.slice AOR2_0 o0_0.length cOR2_0)) := (blk_cell BK7.out 0).trans rfl
    have hczBK7_1 : w26_.cell? ⟨gBK7, 1, none⟩ = some ((.slice AOR2_1 o0_1.length cOR2_1)) := (blk_cell BK7.out 1).trans rfl
    have hczBK7_2 : w26_.cell? ⟨gBK7, 2, none⟩ = some ((.slice AOR2_2 o0_2.length cOR2_2)) := (blk_cell BK7.out 2).trans rfl
    have hczBK7_3 : w26_.cell? ⟨gBK7, 3, none⟩ = some ((.slice AOR2_3 o0_3.length cOR2_3)) := (blk_cell BK7.out 3).trans rfl
    have hczBK7_4 : w26_.cell? ⟨gBK7, 4, none⟩ = some ((.slice AOR2_4 o0_4.length cOR2_4)) := (blk_cell BK7.out 4).trans rfl
    have hczBK7_5 : w26_.cell? ⟨gBK7, 5, none⟩ = some ((.slice AOR2_5 o0_5.length cOR2_5)) := (blk_cell BK7.out 5).trans rfl
    have hczBK12_0 : w26_.cell? ⟨gBK12, 0, none⟩ = some ((.slice AOR3_0 o0_0.length cOR3_0)) := (blk_cell BK12.out 0).trans rfl
    have hczBK12_1 : w26_.cell? ⟨gBK12, 1, none⟩ = some ((.slice AOR3_1 o0_1.length cOR3_1)) := (blk_cell BK12.out 1).trans rfl
    have hczBK12_2 : w26_.cell? ⟨gBK12, 2, none⟩ = some ((.slice AOR3_2 o0_2.length cOR3_2)) := (blk_cell BK12.out 2).trans rfl
    have hczBK12_3 : w26_.cell? ⟨gBK12, 3, none⟩ = some ((.slice AOR3_3 o0_3.length cOR3_3)) := (blk_cell BK12.out 3).trans rfl
    have hczBK12_4 : w26_.cell? ⟨gBK12, 4, none⟩ = some ((.slice AOR3_4 o0_4.length cOR3_4)) := (blk_cell BK12.out 4).trans rfl
    have hczBK12_5 : w26_.cell? ⟨gBK12, 5, none⟩ = some ((.slice AOR3_5 o0_5.length cOR3_5)) := (blk_cell BK12.out 5).trans rfl
    clear hb
    (try have t2 : (mr < 0) = False := eq_false (by have := HFh0.out; omega))
    clear OR2
    go_wp2
    go_ret
    exact ⟨by first | rfl | (simp; done), by (with_reducible repeat apply pw_below_drewN); exact HB.out⟩

end Go.Proofs.Ytbijmhooamjgoaa.PFnExactPack
