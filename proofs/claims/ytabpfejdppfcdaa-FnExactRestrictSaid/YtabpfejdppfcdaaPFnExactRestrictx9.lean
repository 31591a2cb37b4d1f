-- Written by this session's own program (wip/pr.py) over the kit's printer; contracts that the printer does not know are given by hand.
import Derived.Test.YtabpfejdppfcdaaPFnExactRestrictx0
import Derived.Test.YtabpfejdppfcdaaPFnExactRestrictx1
import Derived.Test.YtabpfejdppfcdaaPFnExactRestrictx2
import Derived.Test.YtabpfejdppfcdaaPFnExactRestrictx5
import Derived.Test.YtabpfejdppfcdaaPFnExactRestrictx7
import Derived.Test.YtabpfejdppfcdaaPFnExactRestrictx8
namespace Go.Proofs.Ytabpfejdppfcdaa.PFnExactRestrict
open Go.RowKit Go.Proofs.YtabpfejdppfcdaaW.PrintWords Go.Proofs.YtabpfejdppfcdaaW.PrintLast Go.Proofs.YtabpfejdppfcdaaW.PrintMore
attribute [local go_sem] max2_int min2_int max_two min_two max_three min_three max_four min_four   -- for this text's walks alone
set_option linter.unusedVariables false
set_option linter.unusedSimpArgs false

/-! ### laws_FnExactRestrict: function 8 -/
def OwnDfa (D : Prop) (W : World) (b lo hi : Nat) (v0 v1 v2 : Value) (l0 : List Int) (l1 : List (List Int)) (l2 : List Int) : Prop := ∃ P0 P1 P2 : Nat → Prop, (Kd.R (Kd.int .i64) 2 W b P0 v0 l0 ∧ Kd.S (Kd.slice 2 (Kd.int .i64)) 60 W b P1 v1 l1 ∧ Kd.R (Kd.int .i64) 2 W b P2 v2 l2) ∧ (∀ k, P0 k ∨ P1 k ∨ P2 k → lo ≤ k ∧ k < hi) ∧ (D → (∀ k, P0 k → ¬ P1 k) ∧ (∀ k, P0 k → ¬ P2 k) ∧ (∀ k, P1 k → ¬ P2 k))
theorem OwnDfa.kept {D : Prop} {W W2 : World} {b lo hi : Nat} {v0 v1 v2 : Value} {l0 : List Int} {l1 : List (List Int)} {l2 : List Int} {S : Nat → Prop} (h : OwnDfa D W b lo hi v0 v1 v2 l0 l1 l2) (hk : Kept W W2 S) (hne : ∀ k, lo ≤ k → k < hi → ¬ S k) : OwnDfa D W2 b lo hi v0 v1 v2 l0 l1 l2 := by
  obtain ⟨P0, P1, P2, ⟨h0, h1, h2⟩, hi_, hd⟩ := h
  exact ⟨P0, P1, P2, ⟨Kd.R_kept h0 hk (fun k q => hne k (hi_ k (.inl (q))).1 (hi_ k (.inl (q))).2), Kd.S_kept h1 hk (fun k q => hne k (hi_ k (.inr (.inl (q)))).1 (hi_ k (.inr (.inl (q)))).2), Kd.R_kept h2 hk (fun k q => hne k (hi_ k (.inr (.inr (q)))).1 (hi_ k (.inr (.inr (q)))).2)⟩, hi_, hd⟩
theorem OwnDfa.below {D : Prop} {W W2 : World} {b lo hi : Nat} {v0 v1 v2 : Value} {l0 : List Int} {l1 : List (List Int)} {l2 : List Int} (h : OwnDfa D W b lo hi v0 v1 v2 l0 l1 l2) (hb : Below W.heap.size W W2) : OwnDfa D W2 b lo hi v0 v1 v2 l0 l1 l2 := h.kept (Kept.of_below hb (fun _ => False)) (fun _ _ _ q => q)
theorem OwnDfa.drewN {D : Prop} {W : World} {b lo hi : Nat} {v0 v1 v2 : Value} {l0 : List Int} {l1 : List (List Int)} {l2 : List Int} (h : OwnDfa D W b lo hi v0 v1 v2 l0 l1 l2) (m : Nat) : OwnDfa D (W.drewN m) b lo hi v0 v1 v2 l0 l1 l2 := by
  obtain ⟨P0, P1, P2, ⟨h0, h1, h2⟩, hi_, hd⟩ := h
  exact ⟨P0, P1, P2, ⟨Kd.R_drewN h0 m, Kd.S_drewN h1 m, Kd.R_drewN h2 m⟩, hi_, hd⟩
theorem OwnDfa.slices {D : Prop} {W : World} {b lo hi : Nat} {v0 v1 v2 : Value} {l0 : List Int} {l1 : List (List Int)} {l2 : List Int} (h : OwnDfa D W b lo hi v0 v1 v2 l0 l1 l2) : ∃ A0 c0 A1 c1 A2 c2, v0 = .slice A0 l0.length c0 ∧ v1 = .slice A1 l1.length c1 ∧ v2 = .slice A2 l2.length c2 := by
  obtain ⟨P0, P1, P2, ⟨h0, h1, h2⟩, hi_, hd⟩ := h
  obtain ⟨A0, c0, e0⟩ := Kd.R_slice h0
  obtain ⟨A1, c1, e1⟩ := Kd.S_slice h1
  obtain ⟨A2, c2, e2⟩ := Kd.R_slice h2
  exact ⟨A0, c0, A1, c1, A2, c2, e0, e1, e2⟩
theorem OwnDfa.rd0 {D : Prop} {W : World} {b lo hi : Nat} {v0 v1 v2 : Value} {l0 : List Int} {l1 : List (List Int)} {l2 : List Int} {A : Option Addr} {m c : Nat} (h : OwnDfa D W b lo hi v0 v1 v2 l0 l1 l2) (e : v0 = .slice A m c) : m = l0.length ∧ m ≤ c ∧ (Kd.int .i64).C W A l0.length l0 := by
  obtain ⟨P0, P1, P2, ⟨h0, h1, h2⟩, hi_, hd⟩ := h
  subst e
  exact Kd.R_reads' h0
theorem OwnDfa.rd1 {D : Prop} {W : World} {b lo hi : Nat} {v0 v1 v2 : Value} {l0 : List Int} {l1 : List (List Int)} {l2 : List Int} {A : Option Addr} {m c : Nat} (h : OwnDfa D W b lo hi v0 v1 v2 l0 l1 l2) (e : v1 = .slice A m c) : m = l1.length ∧ m ≤ c ∧ (Kd.slice 2 (Kd.int .i64)).C W A l1.length l1 := by
  obtain ⟨P0, P1, P2, ⟨h0, h1, h2⟩, hi_, hd⟩ := h
  subst e
  exact Kd.S_reads' h1
theorem OwnDfa.rd2 {D : Prop} {W : World} {b lo hi : Nat} {v0 v1 v2 : Value} {l0 : List Int} {l1 : List (List Int)} {l2 : List Int} {A : Option Addr} {m c : Nat} (h : OwnDfa D W b lo hi v0 v1 v2 l0 l1 l2) (e : v2 = .slice A m c) : m = l2.length ∧ m ≤ c ∧ (Kd.int .i64).C W A l2.length l2 := by
  obtain ⟨P0, P1, P2, ⟨h0, h1, h2⟩, hi_, hd⟩ := h
  subst e
  exact Kd.R_reads' h2
theorem OwnDfa.of {W : World} {b lo : Nat} {v0 v1 v2 : Value} {l0 : List Int} {l1 : List (List Int)} {l2 : List Int} {ok0 : Nat → Prop} {ok1 : Nat → Prop} {ok2 : Nat → Prop} (hb : b ≤ lo) (ho0 : Kd.R (Kd.int .i64) 2 W lo ok0 v0 l0) (ho1 : Kd.S (Kd.slice 2 (Kd.int .i64)) 60 W lo ok1 v1 l1) (ho2 : Kd.R (Kd.int .i64) 2 W lo ok2 v2 l2) (d0_2 : ∀ k, ok0 k → some k ≠ v2.ownBlock) (d1_0 : ∀ k, ok1 k → some k ≠ v0.ownBlock) (d1_2 : ∀ k, ok1 k → some k ≠ v2.ownBlock) : OwnDfa True W b lo W.heap.size v0 v1 v2 l0 l1 l2 :=
  ⟨(fun k => some k = v0.ownBlock ∧ lo ≤ k ∧ k < W.heap.size), (fun k => ok1 k ∧ lo ≤ k ∧ k < W.heap.size), (fun k => some k = v2.ownBlock ∧ lo ≤ k ∧ k < W.heap.size), ⟨Kd.R_lower (Kd.R_mono (Kd.R_bound (Kd.R_tight rfl ho0)) (ok' := fun k => some k = v0.ownBlock ∧ lo ≤ k ∧ k < W.heap.size) (fun k q => ⟨q.1, q.2.1, q.2.2.1⟩)) hb, Kd.S_lower (Kd.S_mono (Kd.S_bound ho1) (ok' := fun k => ok1 k ∧ lo ≤ k ∧ k < W.heap.size) (fun k q => ⟨q.1, q.2.1, q.2.2.1⟩)) hb, Kd.R_lower (Kd.R_mono (Kd.R_bound (Kd.R_tight rfl ho2)) (ok' := fun k => some k = v2.ownBlock ∧ lo ≤ k ∧ k < W.heap.size) (fun k q => ⟨q.1, q.2.1, q.2.2.1⟩)) hb⟩, fun k q => by rcases q with q | q | q <;> exact q.2, fun _ => ⟨fun k q q2 => d1_0 k q2.1 q.1, fun k q q2 => d0_2 k (ho0.1 k q.1.symm) q2.1, fun k q q2 => d1_2 k q.1 q2.1⟩⟩
theorem OwnDfa.of0 {W : World} {b lo : Nat} {v0 v1 v2 : Value} {l0 : List Int} {l1 : List (List Int)} {l2 : List Int} {ok0 : Nat → Prop} {ok1 : Nat → Prop} {ok2 : Nat → Prop} (hb : b ≤ lo) (ho0 : Kd.R (Kd.int .i64) 2 W lo ok0 v0 l0) (ho1 : Kd.S (Kd.slice 2 (Kd.int .i64)) 60 W lo ok1 v1 l1) (ho2 : Kd.R (Kd.int .i64) 2 W lo ok2 v2 l2) : OwnDfa False W b lo W.heap.size v0 v1 v2 l0 l1 l2 :=
  ⟨(fun k => some k = v0.ownBlock ∧ lo ≤ k ∧ k < W.heap.size), (fun k => ok1 k ∧ lo ≤ k ∧ k < W.heap.size), (fun k => some k = v2.ownBlock ∧ lo ≤ k ∧ k < W.heap.size), ⟨Kd.R_lower (Kd.R_mono (Kd.R_bound (Kd.R_tight rfl ho0)) (ok' := fun k => some k = v0.ownBlock ∧ lo ≤ k ∧ k < W.heap.size) (fun k q => ⟨q.1, q.2.1, q.2.2.1⟩)) hb, Kd.S_lower (Kd.S_mono (Kd.S_bound ho1) (ok' := fun k => ok1 k ∧ lo ≤ k ∧ k < W.heap.size) (fun k q => ⟨q.1, q.2.1, q.2.2.1⟩)) hb, Kd.R_lower (Kd.R_mono (Kd.R_bound (Kd.R_tight rfl ho2)) (ok' := fun k => some k = v2.ownBlock ∧ lo ≤ k ∧ k < W.heap.size) (fun k q => ⟨q.1, q.2.1, q.2.2.1⟩)) hb⟩, fun k q => by rcases q with q | q | q <;> exact q.2, fun q => q.elim⟩
theorem OwnDfa.mark {W w0 : World} {lo hi : Nat} {v0 v1 v2 : Value} {l0 : List Int} {l1 : List (List Int)} {l2 : List Int} (k : Nat) (a m : Int) (y0 : List Int) (y1 : List (List Int)) (y2 : List Int) (h : OwnDfa True W w0.heap.size lo hi v0 v1 v2 l0 l1 l2) (hB : Below w0.heap.size w0 W) (hlo : lo ≤ W.heap.size) (hf : laws_markDfa.f k l0 l1 l2 a = some (m, y0, y1, y2)) :
    Calls Try.prog 51 #[.agg #[v0, v1, v2], .int .i64 a] W fun e w' => e = .returned (.int .i64 m) ∧ OwnDfa False w' w0.heap.size lo w'.heap.size v0 v1 v2 y0 y1 y2 ∧ Below w0.heap.size w0 w' ∧ Kept W w' (fun k => lo ≤ k ∧ k < hi) := by
  obtain ⟨P0, P1, P2, ⟨h0, h1, h2⟩, hi_, hd⟩ := h
  obtain ⟨d0_1, d0_2, d1_2⟩ := hd trivial
  refine (laws_markDfa.calls k P0 v0 l0 P1 v1 l1 P2 v2 l2 a m y0 y1 y2 w0 W hB h0 d0_1 d0_2 h1 (fun k q q2 => d0_1 k q2 q) d1_2 h2 (fun k q q2 => d0_2 k q2 q) (fun k q q2 => d1_2 k q2 q) hf).mono ?_
  rintro e w' ⟨rfl, g0, g1, g2, hb, hk⟩
  refine ⟨rfl, ⟨(fun k => lo ≤ k ∧ k < w'.heap.size), (fun k => lo ≤ k ∧ k < w'.heap.size), (fun k => lo ≤ k ∧ k < w'.heap.size), ⟨Kd.R_mono (Kd.R_bound g0) (fun k q => ⟨q.1.elim (fun q => (hi_ k q).1) (fun q => Nat.le_trans hlo q), q.2.2.1⟩), Kd.S_mono (Kd.S_bound g1) (fun k q => ⟨q.1.elim (fun q => (hi_ k q).1) (fun q => Nat.le_trans hlo q), q.2.2.1⟩), Kd.R_mono (Kd.R_bound g2) (fun k q => ⟨q.1.elim (fun q => (hi_ k q).1) (fun q => Nat.le_trans hlo q), q.2.2.1⟩)⟩, fun k q => by rcases q with q | q | q <;> exact q, fun q => q.elim⟩, hb, hk.mono (fun k q => hi_ k q)⟩
def OwnInt64S (D : Prop) (W : World) (b lo hi : Nat) (v0 : Value) (l0 : List Int) : Prop := ∃ P0 : Nat → Prop, (Kd.R (Kd.int .i64) 2 W b P0 v0 l0) ∧ (∀ k, P0 k → lo ≤ k ∧ k < hi) ∧ (D → True)
theorem OwnInt64S.kept {D : Prop} {W W2 : World} {b lo hi : Nat} {v0 : Value} {l0 : List Int} {S : Nat → Prop} (h : OwnInt64S D W b lo hi v0 l0) (hk : Kept W W2 S) (hne : ∀ k, lo ≤ k → k < hi → ¬ S k) : OwnInt64S D W2 b lo hi v0 l0 := by
  obtain ⟨P0, h0, hi_, hd⟩ := h
  exact ⟨P0, Kd.R_kept h0 hk (fun k q => hne k (hi_ k (q)).1 (hi_ k (q)).2), hi_, hd⟩
theorem OwnInt64S.below {D : Prop} {W W2 : World} {b lo hi : Nat} {v0 : Value} {l0 : List Int} (h : OwnInt64S D W b lo hi v0 l0) (hb : Below W.heap.size W W2) : OwnInt64S D W2 b lo hi v0 l0 := h.kept (Kept.of_below hb (fun _ => False)) (fun _ _ _ q => q)
theorem OwnInt64S.drewN {D : Prop} {W : World} {b lo hi : Nat} {v0 : Value} {l0 : List Int} (h : OwnInt64S D W b lo hi v0 l0) (m : Nat) : OwnInt64S D (W.drewN m) b lo hi v0 l0 := by
  obtain ⟨P0, h0, hi_, hd⟩ := h
  exact ⟨P0, Kd.R_drewN h0 m, hi_, hd⟩
theorem OwnInt64S.slices {D : Prop} {W : World} {b lo hi : Nat} {v0 : Value} {l0 : List Int} (h : OwnInt64S D W b lo hi v0 l0) : ∃ A0 c0, v0 = .slice A0 l0.length c0 := by
  obtain ⟨P0, h0, hi_, hd⟩ := h
  obtain ⟨A0, c0, e0⟩ := Kd.R_slice h0
  exact ⟨A0, c0, e0⟩
theorem OwnInt64S.rd0 {D : Prop} {W : World} {b lo hi : Nat} {v0 : Value} {l0 : List Int} {A : Option Addr} {m c : Nat} (h : OwnInt64S D W b lo hi v0 l0) (e : v0 = .slice A m c) : m = l0.length ∧ m ≤ c ∧ (Kd.int .i64).C W A l0.length l0 := by
  obtain ⟨P0, h0, hi_, hd⟩ := h
  subst e
  exact Kd.R_reads' h0
theorem OwnInt64S.of {W : World} {b lo : Nat} {v0 : Value} {l0 : List Int} {ok0 : Nat → Prop} (hb : b ≤ lo) (ho0 : Kd.R (Kd.int .i64) 2 W lo ok0 v0 l0)  : OwnInt64S True W b lo W.heap.size v0 l0 :=
  ⟨(fun k => some k = v0.ownBlock ∧ lo ≤ k ∧ k < W.heap.size), Kd.R_lower (Kd.R_mono (Kd.R_bound (Kd.R_tight rfl ho0)) (ok' := fun k => some k = v0.ownBlock ∧ lo ≤ k ∧ k < W.heap.size) (fun k q => ⟨q.1, q.2.1, q.2.2.1⟩)) hb, fun k q => q.2, fun _ => trivial⟩
theorem OwnInt64S.of0 {W : World} {b lo : Nat} {v0 : Value} {l0 : List Int} {ok0 : Nat → Prop} (hb : b ≤ lo) (ho0 : Kd.R (Kd.int .i64) 2 W lo ok0 v0 l0) : OwnInt64S False W b lo W.heap.size v0 l0 :=
  ⟨(fun k => some k = v0.ownBlock ∧ lo ≤ k ∧ k < W.heap.size), Kd.R_lower (Kd.R_mono (Kd.R_bound (Kd.R_tight rfl ho0)) (ok' := fun k => some k = v0.ownBlock ∧ lo ≤ k ∧ k < W.heap.size) (fun k q => ⟨q.1, q.2.1, q.2.2.1⟩)) hb, fun k q => q.2, fun q => q.elim⟩
theorem OwnInt64S.mark {W w0 : World} {lo hi : Nat} {v0 : Value} {l0 : List Int} (k : Nat) (a m : Int) (y0 : List Int) (h : OwnInt64S True W w0.heap.size lo hi v0 l0) (hB : Below w0.heap.size w0 W) (hlo : lo ≤ W.heap.size) (hf : laws_markInt64S.f k l0 a = some (m, y0)) :
    Calls Try.prog 52 #[v0, .int .i64 a] W fun e w' => e = .returned (.int .i64 m) ∧ OwnInt64S False w' w0.heap.size lo w'.heap.size v0 y0 ∧ Below w0.heap.size w0 w' ∧ Kept W w' (fun k => lo ≤ k ∧ k < hi) := by
  obtain ⟨P0, h0, hi_, hd⟩ := h
  refine (laws_markInt64S.calls k P0 v0 l0 a m y0 w0 W hB h0  hf).mono ?_
  rintro e w' ⟨rfl, g0, hb, hk⟩
  refine ⟨rfl, ⟨(fun k => lo ≤ k ∧ k < w'.heap.size), Kd.R_mono (Kd.R_bound g0) (fun k q => ⟨q.1.elim (fun q => (hi_ k q).1) (fun q => Nat.le_trans hlo q), q.2.2.1⟩), fun k q => q, fun q => q.elim⟩, hb, hk.mono (fun k q => hi_ k q)⟩
theorem OwnDfa.held {D : Prop} {W : World} {b lo hi : Nat} {v0 v1 v2 : Value} {l0 : List Int} {l1 : List (List Int)} {l2 : List Int} (k : Nat) (a m : Int) (h : OwnDfa D W b lo hi v0 v1 v2 l0 l1 l2) (hf : laws_heldDfa.f k l0 l1 l2 a = some m) :
    Calls Try.prog 57 #[.agg #[v0, v1, v2], .int .i64 a] W fun e w' => e = .returned (.int .i64 m) ∧ Below W.heap.size W w' := by
  obtain ⟨A0, c0, A1, c1, A2, c2, e0, e1, e2⟩ := h.slices
  subst e0
  subst e1
  subst e2
  exact laws_heldDfa.calls k A0 c0 l0 A1 c1 l1 A2 c2 l2 a m W (h.rd0 rfl).2.2 (h.rd0 rfl).2.1 (h.rd1 rfl).2.2 (h.rd1 rfl).2.1 (h.rd2 rfl).2.2 (h.rd2 rfl).2.1 hf
def laws_FnExactRestrict.ok (k : Nat) (l0_0 : List Int) (l0_1 : List (List Int)) (l0_2 : List Int) (l1 : List Int) : Prop := ∃ (o0 : List Int) (o1 : List (List Int)) (o2 : List Int) (m m2 m3 : Int) (y0 : List Int) (y1 : List (List Int)) (y2 : List Int) (z0 : List Int) (z1 : List (List Int)) (z2 : List Int) (q0 : List Int), laws_toDfa.f k l0_0 l0_1 l0_2 = some (l0_0, l0_1, l0_2) ∧ spec_Restrict.f k l0_0 l0_1 l0_2 l1 = some (o0, o1, o2) ∧ impl_Restrict.f k l0_0 l0_1 l0_2 l1 = some (o0, o1, o2) ∧ laws_eqDfa.f k o0 o1 o2 o0 o1 o2 = some true ∧ laws_eqDfa.f k l0_0 l0_1 l0_2 l0_0 l0_1 l0_2 = some true ∧ laws_markDfa.f k l0_0 l0_1 l0_2 1 = some (m, y0, y1, y2) ∧ 0 ≤ m3 ∧ laws_markDfa.f k o0 o1 o2 1 = some (m2, z0, z1, z2) ∧ laws_heldDfa.f k z0 z1 z2 1 = some m2 ∧ 0 ≤ m2 ∧ laws_toInt64S.f k l1 = some l1 ∧ laws_eqInt64S.f k l1 l1 = some true ∧ laws_markInt64S.f k l1 m = some (m3, q0)
open Classical in
noncomputable def laws_FnExactRestrict.f (k : Nat) (l0_0 : List Int) (l0_1 : List (List Int)) (l0_2 : List Int) (l1 : List Int) : Option Bool := if (l1.length : Int) > 1048576 then some true else (laws_szDfa.f k l0_0 l0_1 l0_2 1048576).bind fun t => if t < 0 then some true else if laws_FnExactRestrict.ok k l0_0 l0_1 l0_2 l1 then some true else none
set_option maxHeartbeats 8000000 in
set_option maxRecDepth 100000 in
theorem laws_FnExactRestrict.calls (k : Nat) (A0_0 : Option Addr) (c0_0 : Nat) (l0_0 : List Int) (A0_1 : Option Addr) (c0_1 : Nat) (l0_1 : List (List Int)) (A0_2 : Option Addr) (c0_2 : Nat) (l0_2 : List Int) (A1 : Option Addr) (c1 : Nat) (l1 : List Int) (r : Bool) (w : World) (hr0_0 : Kd.C (Kd.int .i64) w A0_0 l0_0.length l0_0) (hc0_0 : l0_0.length ≤ c0_0) (hr0_1 : Kd.C (Kd.slice 2 (Kd.int .i64)) w A0_1 l0_1.length l0_1) (hc0_1 : l0_1.length ≤ c0_1) (hr0_2 : Kd.C (Kd.int .i64) w A0_2 l0_2.length l0_2) (hc0_2 : l0_2.length ≤ c0_2) (hr1 : Kd.C (Kd.int .i64) w A1 l1.length l1) (hc1 : l1.length ≤ c1) (h : laws_FnExactRestrict.f k l0_0 l0_1 l0_2 l1 = some r) :
    Calls Try.prog 8 #[.agg #[.slice A0_0 l0_0.length c0_0, .slice A0_1 l0_1.length c0_1, .slice A0_2 l0_2.length c0_2], .slice A1 l1.length c1] w fun e w' => e = .returned (.bool r) ∧ Below w.heap.size w w' := by
  have hu1 := Try.underlying63
  have hu2 := Try.underlying66
  have HR0_0 := Aside0.mk hr0_0
  have HR0_1 := Aside0.mk hr0_1
  have HR0_2 := Aside0.mk hr0_2
  have HR1 := Aside0.mk hr1
  have HC0_0 := Aside0.mk hc0_0
  have HC0_1 := Aside0.mk hc0_1
  have HC0_2 := Aside0.mk hc0_2
  have HC1 := Aside0.mk hc1
  clear hr0_0 hc0_0 hr0_1 hc0_1 hr0_2 hc0_2 hr1 hc1
  have HB := Aside0.mk (Below.refl w.heap.size w)
  unfold laws_FnExactRestrict.f at h
  by_cases cl : (l1.length : Int) > 1048576
  · rw [if_pos cl] at h
    obtain rfl := Option.some.inj h
    have cl1 : (1048576 < (l1.length : Int)) = True := eq_true cl
    have cl2 : decide (1048576 < (l1.length : Int)) = true := decide_eq_true cl
    have cl3 : (1048576 < l1.length) = True := eq_true (by omega)
    clear h cl
    go_enter Try.func8, Try.ntmps8
    go_wp2_with (first | ((with_reducible refine gate_dst (N := 2) rfl ?_); refine box_event ?hg (N := 2) ?hd (cs := #[.slice A0_0 l0_0.length c0_0, .slice A0_1 l0_1.length c0_1, .slice A0_2 l0_2.length c0_2]) (t := 63) ?hr ?_; (case hd => rfl); (case hg => rfl); (case hr => first | (go_simp; done) | (go_simp; rfl)); intro gBKP hg w1_ hbox hb; have HZ1 := Aside0.mk (show w.heap.size ≤ w1_.heap.size from hb.size); have HB := Aside0.mk (below_step (show Below w.heap.size w _ from by (with_reducible repeat apply pw_below_drewN); exact HB.out) hb); have BKP := Aside0.mk hbox; have HGBKP := Aside0.mk (show gBKP = w.heap.size ∧ gBKP < w1_.heap.size from ⟨hg, blk_lt hbox⟩); have GEBKP := Aside0.mk (show w.heap.size ≤ gBKP from by have z0_ := HZ1.out; have z1_ := HGBKP.out; omega); clear hb hbox hg; have hczBKP_0 : w1_.cell? ⟨gBKP, 0, none⟩ = some (.slice A0_0 l0_0.length c0_0) := (blk_cell BKP.out 0).trans rfl; have hczBKP_1 : w1_.cell? ⟨gBKP, 1, none⟩ = some (.slice A0_1 l0_1.length c0_1) := (blk_cell BKP.out 1).trans rfl; have hczBKP_2 : w1_.cell? ⟨gBKP, 2, none⟩ = some (.slice A0_2 l0_2.length c0_2) := (blk_cell BKP.out 2).trans rfl; have hfzBKP_0 := blk_frozen BKP.out 0; have hfzBKP_1 := blk_frozen BKP.out 1; have hfzBKP_2 := blk_frozen BKP.out 2))
    go_ret
    exact ⟨by first | rfl | (simp; done), by (with_reducible repeat apply pw_below_drewN); exact HB.out⟩
  rw [if_neg cl] at h
  have cl1 : (1048576 < (l1.length : Int)) = False := eq_false cl
  have cl2 : decide (1048576 < (l1.length : Int)) = false := decide_eq_false cl
  have cl3 : (1048576 < l1.length) = False := eq_false (by omega)
  clear cl
  obtain ⟨t, ht, h⟩ := Option.bind_eq_some_iff.1 h
  have HT := Aside0.mk ht
  clear ht
  by_cases c : t < 0
  · rw [if_pos c] at h
    obtain rfl := Option.some.inj h
    replace c := eq_true c
    go_enter Try.func8, Try.ntmps8
    go_wp2_with (first | ((with_reducible refine gate_dst (N := 2) rfl ?_); refine box_event ?hg (N := 2) ?hd (cs := #[.slice A0_0 l0_0.length c0_0, .slice A0_1 l0_1.length c0_1, .slice A0_2 l0_2.length c0_2]) (t := 63) ?hr ?_; (case hd => rfl); (case hg => rfl); (case hr => first | (go_simp; done) | (go_simp; rfl)); intro gBKP hg w1_ hbox hb; have HZ1 := Aside0.mk (show w.heap.size ≤ w1_.heap.size from hb.size); have HB := Aside0.mk (below_step (show Below w.heap.size w _ from by (with_reducible repeat apply pw_below_drewN); exact HB.out) hb); have BKP := Aside0.mk hbox; have HGBKP := Aside0.mk (show gBKP = w.heap.size ∧ gBKP < w1_.heap.size from ⟨hg, blk_lt hbox⟩); have GEBKP := Aside0.mk (show w.heap.size ≤ gBKP from by have z0_ := HZ1.out; have z1_ := HGBKP.out; omega); clear hb hbox hg; have hczBKP_0 : w1_.cell? ⟨gBKP, 0, none⟩ = some (.slice A0_0 l0_0.length c0_0) := (blk_cell BKP.out 0).trans rfl; have hczBKP_1 : w1_.cell? ⟨gBKP, 1, none⟩ = some (.slice A0_1 l0_1.length c0_1) := (blk_cell BKP.out 1).trans rfl; have hczBKP_2 : w1_.cell? ⟨gBKP, 2, none⟩ = some (.slice A0_2 l0_2.length c0_2) := (blk_cell BKP.out 2).trans rfl; have hfzBKP_0 := blk_frozen BKP.out 0; have hfzBKP_1 := blk_frozen BKP.out 1; have hfzBKP_2 := blk_frozen BKP.out 2))
    refine (laws_szDfa.calls k _ _ l0_0 _ _ l0_1 _ _ l0_2 1048576 t _ ?s1_ ?s2_ ?s3_ ?s4_ ?s5_ ?s6_ HT.out).mono ?_
    case s1_ => (with_reducible repeat refine Kd.C_drewN ?_ _); exact Kd.C_below HR0_0.out HB.out
    case s2_ => exact HC0_0.out
    case s3_ => (with_reducible repeat refine Kd.C_drewN ?_ _); exact Kd.C_below HR0_1.out HB.out
    case s4_ => exact HC0_1.out
    case s5_ => (with_reducible repeat refine Kd.C_drewN ?_ _); exact Kd.C_below HR0_2.out HB.out
    case s6_ => exact HC0_2.out
    rintro e w2_ ⟨rfl, hb⟩
    have BKP := Aside0.mk (show w2_.heap[gBKP]? = some (.cells #[.slice A0_0 l0_0.length c0_0, .slice A0_1 l0_1.length c0_1, .slice A0_2 l0_2.length c0_2] 63 (0, 0)) from (hb.block _ (blk_lt BKP.out)).trans BKP.out)
    have HZ2 := Aside0.mk (show w1_.heap.size ≤ w2_.heap.size from hb.size)
    have HB := Aside0.mk (below_step (show Below w.heap.size w _ from by (with_reducible repeat apply pw_below_drewN); exact HB.out) hb)
    (try clear hczBKP_0 hczBKP_1 hczBKP_2)
    have hczBKP_0 : w2_.cell? ⟨gBKP, 0, none⟩ = some (.slice A0_0 l0_0.length c0_0) := (blk_cell BKP.out 0).trans rfl
    have hczBKP_1 : w2_.cell? ⟨gBKP, 1, none⟩ = some (.slice A0_1 l0_1.length c0_1) := (blk_cell BKP.out 1).trans rfl
    have hczBKP_2 : w2_.cell? ⟨gBKP, 2, none⟩ = some (.slice A0_2 l0_2.length c0_2) := (blk_cell BKP.out 2).trans rfl
    clear hb
    go_wp2
    go_ret
    exact ⟨by first | rfl | (simp; done), by (with_reducible repeat apply pw_below_drewN); exact HB.out⟩
  · rw [if_neg c] at h
    replace c := eq_false c
    by_cases hok : ¬ laws_FnExactRestrict.ok k l0_0 l0_1 l0_2 l1
    · rw [if_neg hok] at h; exact absurd h (by simp)
    replace hok := Classical.not_not.1 hok
    rw [if_pos hok] at h
    obtain rfl := Option.some.inj h
    obtain ⟨o0, o1, o2, m, m2, m3, y0, y1, y2, z0, z1, z2, q0, f0, f1, f2, f3, f4, f5, f6, f7, f8, f9, f10, f11, f12⟩ := hok
    have HF0 := Aside0.mk f0
    have HF1 := Aside0.mk f1
    have HF2 := Aside0.mk f2
    have HF3 := Aside0.mk f3
    have HF4 := Aside0.mk f4
    have HF5 := Aside0.mk f5
    have HF6 := Aside0.mk f6
    have HF7 := Aside0.mk f7
    have HF8 := Aside0.mk f8
    have HF9 := Aside0.mk f9
    have HF10 := Aside0.mk f10
    have HF11 := Aside0.mk f11
    have HF12 := Aside0.mk f12
    clear h f0 f1 f2 f3 f4 f5 f6 f7 f8 f9 f10 f11 f12
    go_enter Try.func8, Try.ntmps8
    go_wp2_with (first | ((with_reducible refine gate_dst (N := 2) rfl ?_); refine box_event ?hg (N := 2) ?hd (cs := #[.slice A0_0 l0_0.length c0_0, .slice A0_1 l0_1.length c0_1, .slice A0_2 l0_2.length c0_2]) (t := 63) ?hr ?_; (case hd => rfl); (case hg => rfl); (case hr => first | (go_simp; done) | (go_simp; rfl)); intro gBKP hg w1_ hbox hb; have HZ1 := Aside0.mk (show w.heap.size ≤ w1_.heap.size from hb.size); have HB := Aside0.mk (below_step (show Below w.heap.size w _ from by (with_reducible repeat apply pw_below_drewN); exact HB.out) hb); have BKP := Aside0.mk hbox; have HGBKP := Aside0.mk (show gBKP = w.heap.size ∧ gBKP < w1_.heap.size from ⟨hg, blk_lt hbox⟩); have GEBKP := Aside0.mk (show w.heap.size ≤ gBKP from by have z0_ := HZ1.out; have z1_ := HGBKP.out; omega); clear hb hbox hg; have hczBKP_0 : w1_.cell? ⟨gBKP, 0, none⟩ = some (.slice A0_0 l0_0.length c0_0) := (blk_cell BKP.out 0).trans rfl; have hczBKP_1 : w1_.cell? ⟨gBKP, 1, none⟩ = some (.slice A0_1 l0_1.length c0_1) := (blk_cell BKP.out 1).trans rfl; have hczBKP_2 : w1_.cell? ⟨gBKP, 2, none⟩ = some (.slice A0_2 l0_2.length c0_2) := (blk_cell BKP.out 2).trans rfl; have hfzBKP_0 := blk_frozen BKP.out 0; have hfzBKP_1 := blk_frozen BKP.out 1; have hfzBKP_2 := blk_frozen BKP.out 2))
    refine (laws_szDfa.calls k _ _ l0_0 _ _ l0_1 _ _ l0_2 1048576 t _ ?s1_ ?s2_ ?s3_ ?s4_ ?s5_ ?s6_ HT.out).mono ?_
    case s1_ => (with_reducible repeat refine Kd.C_drewN ?_ _); exact Kd.C_below HR0_0.out HB.out
    case s2_ => exact HC0_0.out
    case s3_ => (with_reducible repeat refine Kd.C_drewN ?_ _); exact Kd.C_below HR0_1.out HB.out
    case s4_ => exact HC0_1.out
    case s5_ => (with_reducible repeat refine Kd.C_drewN ?_ _); exact Kd.C_below HR0_2.out HB.out
    case s6_ => exact HC0_2.out
    rintro e w2_ ⟨rfl, hb⟩
    have BKP := Aside0.mk (show w2_.heap[gBKP]? = some (.cells #[.slice A0_0 l0_0.length c0_0, .slice A0_1 l0_1.length c0_1, .slice A0_2 l0_2.length c0_2] 63 (0, 0)) from (hb.block _ (blk_lt BKP.out)).trans BKP.out)
    have HZ2 := Aside0.mk (show w1_.heap.size ≤ w2_.heap.size from hb.size)
    have HB := Aside0.mk (below_step (show Below w.heap.size w _ from by (with_reducible repeat apply pw_below_drewN); exact HB.out) hb)
    (try clear hczBKP_0 hczBKP_1 hczBKP_2)
    have hczBKP_0 : w2_.cell? ⟨gBKP, 0, none⟩ = some (.slice A0_0 l0_0.length c0_0) := (blk_cell BKP.out 0).trans rfl
    have hczBKP_1 : w2_.cell? ⟨gBKP, 1, none⟩ = some (.slice A0_1 l0_1.length c0_1) := (blk_cell BKP.out 1).trans rfl
    have hczBKP_2 : w2_.cell? ⟨gBKP, 2, none⟩ = some (.slice A0_2 l0_2.length c0_2) := (blk_cell BKP.out 2).trans rfl
    clear hb
    go_wp2_with fail
    refine (laws_toDfa.calls k _ _ l0_0 _ _ l0_1 _ _ l0_2 l0_0 l0_1 l0_2 _ ?s7_ ?s8_ ?s9_ ?s10_ ?s11_ ?s12_ HF0.out).mono ?_
    case s7_ => (with_reducible repeat refine Kd.C_drewN ?_ _); exact Kd.C_below HR0_0.out HB.out
    case s8_ => exact HC0_0.out
    case s9_ => (with_reducible repeat refine Kd.C_drewN ?_ _); exact Kd.C_below HR0_1.out HB.out
    case s10_ => exact HC0_1.out
    case s11_ => (with_reducible repeat refine Kd.C_drewN ?_ _); exact Kd.C_below HR0_2.out HB.out
    case s12_ => exact HC0_2.out
    rintro e w3_ ⟨vXA0, vXA1, vXA2, rfl, ho0, ho1, ho2, hb⟩
    have hXA : OwnDfa False w3_ w.heap.size w2_.heap.size w3_.heap.size vXA0 vXA1 vXA2 l0_0 l0_1 l0_2 := OwnDfa.of0 (show w.heap.size ≤ w2_.heap.size from by have z0_ := HZ1.out; have z1_ := HGBKP.out; have z2_ := HZ2.out; omega) ho0 ho1 ho2 
    obtain ⟨AXA_0, cXA_0, AXA_1, cXA_1, AXA_2, cXA_2, eXA_0, eXA_1, eXA_2⟩ := hXA.slices
    subst eXA_0
    subst eXA_1
    subst eXA_2
    have BKP := Aside0.mk (show w3_.heap[gBKP]? = some (.cells #[.slice A0_0 l0_0.length c0_0, .slice A0_1 l0_1.length c0_1, .slice A0_2 l0_2.length c0_2] 63 (0, 0)) from (hb.block _ (blk_lt BKP.out)).trans BKP.out)
    have HZ3 := Aside0.mk (show w2_.heap.size ≤ w3_.heap.size from hb.size)
    have HB := Aside0.mk (below_step (show Below w.heap.size w _ from by (with_reducible repeat apply pw_below_drewN); exact HB.out) hb)
    have XA := Aside0.mk hXA
    clear hXA hb ho0 ho1 ho2
    (try clear hczBKP_0 hczBKP_1 hczBKP_2)
    have hczBKP_0 : w3_.cell? ⟨gBKP, 0, none⟩ = some (.slice A0_0 l0_0.length c0_0) := (blk_cell BKP.out 0).trans rfl
    have hczBKP_1 : w3_.cell? ⟨gBKP, 1, none⟩ = some (.slice A0_1 l0_1.length c0_1) := (blk_cell BKP.out 1).trans rfl
    have hczBKP_2 : w3_.cell? ⟨gBKP, 2, none⟩ = some (.slice A0_2 l0_2.length c0_2) := (blk_cell BKP.out 2).trans rfl
    go_wp2_with fail
    refine (laws_toInt64S.calls k _ _ l1 l1 _ ?s13_ ?s14_ HF10.out).mono ?_
    case s13_ => (with_reducible repeat refine Kd.C_drewN ?_ _); exact Kd.C_below HR1.out HB.out
    case s14_ => exact HC1.out
    rintro e w4_ ⟨vXB0, rfl, ho0, hb⟩
    have hXB : OwnInt64S False w4_ w.heap.size w3_.heap.size w4_.heap.size vXB0 l1 := OwnInt64S.of0 (show w.heap.size ≤ w3_.heap.size from by have z0_ := HZ1.out; have z1_ := HGBKP.out; have z2_ := HZ2.out; have z3_ := HZ3.out; omega) ho0 
    obtain ⟨AXB_0, cXB_0, eXB_0⟩ := hXB.slices
    subst eXB_0
    have XA := Aside0.mk (OwnDfa.below (show OwnDfa _ _ _ _ _ _ _ _ _ _ _ from by (with_reducible repeat apply OwnDfa.drewN); exact XA.out) hb)
    have BKP := Aside0.mk (show w4_.heap[gBKP]? = some (.cells #[.slice A0_0 l0_0.length c0_0, .slice A0_1 l0_1.length c0_1, .slice A0_2 l0_2.length c0_2] 63 (0, 0)) from (hb.block _ (blk_lt BKP.out)).trans BKP.out)
    have HZ4 := Aside0.mk (show w3_.heap.size ≤ w4_.heap.size from hb.size)
    have HB := Aside0.mk (below_step (show Below w.heap.size w _ from by (with_reducible repeat apply pw_below_drewN); exact HB.out) hb)
    have XB := Aside0.mk hXB
    clear hXB hb ho0
    (try clear hczBKP_0 hczBKP_1 hczBKP_2)
    have hczBKP_0 : w4_.cell? ⟨gBKP, 0, none⟩ = some (.slice A0_0 l0_0.length c0_0) := (blk_cell BKP.out 0).trans rfl
    have hczBKP_1 : w4_.cell? ⟨gBKP, 1, none⟩ = some (.slice A0_1 l0_1.length c0_1) := (blk_cell BKP.out 1).trans rfl
    have hczBKP_2 : w4_.cell? ⟨gBKP, 2, none⟩ = some (.slice A0_2 l0_2.length c0_2) := (blk_cell BKP.out 2).trans rfl
    go_wp2_with fail
    refine (spec_Restrict.calls k _ _ l0_0 _ _ l0_1 _ _ l0_2 _ _ l1 o0 o1 o2 _ ?s15_ ?s16_ ?s17_ ?s18_ ?s19_ ?s20_ ?s21_ ?s22_ HF1.out).mono ?_
    case s15_ => exact (OwnDfa.rd0 (by (with_reducible repeat apply OwnDfa.drewN); exact XA.out) rfl).2.2
    case s16_ => exact (OwnDfa.rd0 XA.out rfl).2.1
    case s17_ => exact (OwnDfa.rd1 (by (with_reducible repeat apply OwnDfa.drewN); exact XA.out) rfl).2.2
    case s18_ => exact (OwnDfa.rd1 XA.out rfl).2.1
    case s19_ => exact (OwnDfa.rd2 (by (with_reducible repeat apply OwnDfa.drewN); exact XA.out) rfl).2.2
    case s20_ => exact (OwnDfa.rd2 XA.out rfl).2.1
    case s21_ => exact (OwnInt64S.rd0 (by (with_reducible repeat apply OwnInt64S.drewN); exact XB.out) rfl).2.2
    case s22_ => exact (OwnInt64S.rd0 XB.out rfl).2.1
    rintro e w5_ ⟨vOW0, vOW1, vOW2, rfl, ho0, ho1, ho2, hb⟩
    have hOW : OwnDfa False w5_ w.heap.size w4_.heap.size w5_.heap.size vOW0 vOW1 vOW2 o0 o1 o2 := OwnDfa.of0 (show w.heap.size ≤ w4_.heap.size from by have z0_ := HZ1.out; have z1_ := HGBKP.out; have z2_ := HZ2.out; have z3_ := HZ3.out; have z4_ := HZ4.out; omega) ho0 ho1 ho2 
    obtain ⟨AOW_0, cOW_0, AOW_1, cOW_1, AOW_2, cOW_2, eOW_0, eOW_1, eOW_2⟩ := hOW.slices
    subst eOW_0
    subst eOW_1
    subst eOW_2
    have XA := Aside0.mk (OwnDfa.below (show OwnDfa _ _ _ _ _ _ _ _ _ _ _ from by (with_reducible repeat apply OwnDfa.drewN); exact XA.out) hb)
    have XB := Aside0.mk (OwnInt64S.below (show OwnInt64S _ _ _ _ _ _ _ from by (with_reducible repeat apply OwnInt64S.drewN); exact XB.out) hb)
    have BKP := Aside0.mk (show w5_.heap[gBKP]? = some (.cells #[.slice A0_0 l0_0.length c0_0, .slice A0_1 l0_1.length c0_1, .slice A0_2 l0_2.length c0_2] 63 (0, 0)) from (hb.block _ (blk_lt BKP.out)).trans BKP.out)
    have HZ5 := Aside0.mk (show w4_.heap.size ≤ w5_.heap.size from hb.size)
    have HB := Aside0.mk (below_step (show Below w.heap.size w _ from by (with_reducible repeat apply pw_below_drewN); exact HB.out) hb)
    have OW := Aside0.mk hOW
    clear hOW hb ho0 ho1 ho2
    (try clear hczBKP_0 hczBKP_1 hczBKP_2)
    have hczBKP_0 : w5_.cell? ⟨gBKP, 0, none⟩ = some (.slice A0_0 l0_0.length c0_0) := (blk_cell BKP.out 0).trans rfl
    have hczBKP_1 : w5_.cell? ⟨gBKP, 1, none⟩ = some (.slice A0_1 l0_1.length c0_1) := (blk_cell BKP.out 1).trans rfl
    have hczBKP_2 : w5_.cell? ⟨gBKP, 2, none⟩ = some (.slice A0_2 l0_2.length c0_2) := (blk_cell BKP.out 2).trans rfl
    clear XA XB
    go_wp2_with (first | ((with_reducible refine gate_dst (N := 6) rfl ?_); refine box_event ?hg (N := 6) ?hd (cs := #[.slice none 0 0, .slice none 0 0, .slice none 0 0]) (t := 66) ?hr ?_; (case hd => rfl); (case hg => rfl); (case hr => first | (go_simp; done) | (go_simp; rfl)); intro gBKW hg w6_ hbox hb; have OW := Aside0.mk (OwnDfa.below (show OwnDfa _ _ _ _ _ _ _ _ _ _ _ from by (with_reducible repeat apply OwnDfa.drewN); exact OW.out) hb); have BKP := Aside0.mk (show w6_.heap[gBKP]? = some (.cells #[.slice A0_0 l0_0.length c0_0, .slice A0_1 l0_1.length c0_1, .slice A0_2 l0_2.length c0_2] 63 (0, 0)) from (hb.block _ (blk_lt BKP.out)).trans BKP.out); have HZ6 := Aside0.mk (show w5_.heap.size ≤ w6_.heap.size from hb.size); have HB := Aside0.mk (below_step (show Below w.heap.size w _ from by (with_reducible repeat apply pw_below_drewN); exact HB.out) hb); have BKW := Aside0.mk hbox; have HGBKW := Aside0.mk (show gBKW = w5_.heap.size ∧ gBKW < w6_.heap.size from ⟨hg, blk_lt hbox⟩); have GEBKW := Aside0.mk (show w.heap.size ≤ gBKW from by have z0_ := HZ1.out; have z1_ := HGBKP.out; have z2_ := HZ2.out; have z3_ := HZ3.out; have z4_ := HZ4.out; have z5_ := HZ5.out; have z6_ := HZ6.out; have z7_ := HGBKW.out; omega); clear hb hbox hg; (try clear hczBKP_0 hczBKP_1 hczBKP_2); have hczBKP_0 : w6_.cell? ⟨gBKP, 0, none⟩ = some (.slice A0_0 l0_0.length c0_0) := (blk_cell BKP.out 0).trans rfl; have hczBKP_1 : w6_.cell? ⟨gBKP, 1, none⟩ = some (.slice A0_1 l0_1.length c0_1) := (blk_cell BKP.out 1).trans rfl; have hczBKP_2 : w6_.cell? ⟨gBKP, 2, none⟩ = some (.slice A0_2 l0_2.length c0_2) := (blk_cell BKP.out 2).trans rfl; have hczBKW_0 : w6_.cell? ⟨gBKW, 0, none⟩ = some (.slice none 0 0) := (blk_cell BKW.out 0).trans rfl; have hczBKW_1 : w6_.cell? ⟨gBKW, 1, none⟩ = some (.slice none 0 0) := (blk_cell BKW.out 1).trans rfl; have hczBKW_2 : w6_.cell? ⟨gBKW, 2, none⟩ = some (.slice none 0 0) := (blk_cell BKW.out 2).trans rfl; have hfzBKW_0 := blk_frozen BKW.out 0; have hfzBKW_1 := blk_frozen BKW.out 1; have hfzBKW_2 := blk_frozen BKW.out 2) | ((with_reducible refine gate_store (t := 66) (p := 6) rfl ?_); refine store_event (t := 66) (p := 6) (v := ?vo_w7_) (w1 := (((w6_.setCell ⟨gBKW, 0, none⟩ ((.slice AOW_0 o0.length cOW_0))).setCell ⟨gBKW, 1, none⟩ ((.slice AOW_1 o1.length cOW_1))).setCell ⟨gBKW, 2, none⟩ ((.slice AOW_2 o2.length cOW_2)))) ?hg ?ho ?hn ?hr ?_; (case ho => rfl); (case hg => rfl); (case hn => rfl); (case hr => first | (go_simp; done) | (go_simp; rfl)); intro w7_ hw; have hk : Kept w6_ w7_ (fun k_ => k_ = gBKW) := (by rw [hw]; refine Kept.setCell (S := fun k_ => k_ = gBKW) (p := ⟨gBKW, 2, none⟩) ?_ (Or.inl (Eq.refl gBKW)) _; refine Kept.setCell (S := fun k_ => k_ = gBKW) (p := ⟨gBKW, 1, none⟩) ?_ (Or.inl (Eq.refl gBKW)) _; refine Kept.setCell (S := fun k_ => k_ = gBKW) (p := ⟨gBKW, 0, none⟩) ?_ (Or.inl (Eq.refl gBKW)) _; exact Kept.refl _ _); have hbox : w7_.heap[gBKW]? = some (.cells #[(.slice AOW_0 o0.length cOW_0), (.slice AOW_1 o1.length cOW_1), (.slice AOW_2 o2.length cOW_2)] 66 (0, 0)) := (by rw [hw]; refine blk_put (cs := #[(.slice AOW_0 o0.length cOW_0), (.slice AOW_1 o1.length cOW_1), .slice none 0 0]) ?_ 2 _ rfl; refine blk_put (cs := #[(.slice AOW_0 o0.length cOW_0), .slice none 0 0, .slice none 0 0]) ?_ 1 _ rfl; refine blk_put (cs := #[.slice none 0 0, .slice none 0 0, .slice none 0 0]) ?_ 0 _ rfl; exact BKW.out); have hB : Below w.heap.size w w7_ := (by rw [hw]; (with_reducible repeat refine below_set ?_ GEBKW.out); exact HB.out); have OW := Aside0.mk (OwnDfa.kept (show OwnDfa _ _ _ _ _ _ _ _ _ _ _ from by (with_reducible repeat apply OwnDfa.drewN); exact OW.out) hk (fun k_ h1 h2 h3 => by have z0_ := HZ1.out; have z1_ := HGBKP.out; have z2_ := HZ2.out; have z3_ := HZ3.out; have z4_ := HZ4.out; have z5_ := HZ5.out; have z6_ := HZ6.out; have z7_ := HGBKW.out; omega)); have BKP := Aside0.mk (show w7_.heap[gBKP]? = some (.cells #[.slice A0_0 l0_0.length c0_0, .slice A0_1 l0_1.length c0_1, .slice A0_2 l0_2.length c0_2] 63 (0, 0)) from (hk.2 _ (blk_lt BKP.out) (fun h3 => by have z0_ := HZ1.out; have z1_ := HGBKP.out; have z2_ := HZ2.out; have z3_ := HZ3.out; have z4_ := HZ4.out; have z5_ := HZ5.out; have z6_ := HZ6.out; have z7_ := HGBKW.out; omega)).trans BKP.out); have HZ7 := Aside0.mk (show w6_.heap.size ≤ w7_.heap.size from hk.1); have BKW := Aside0.mk hbox; have HB := Aside0.mk hB; clear hk hw hbox hB; clear hfzBKW_0 hfzBKW_1 hfzBKW_2; (try clear hczBKP_0 hczBKP_1 hczBKP_2 hczBKW_0 hczBKW_1 hczBKW_2); have hczBKP_0 : w7_.cell? ⟨gBKP, 0, none⟩ = some (.slice A0_0 l0_0.length c0_0) := (blk_cell BKP.out 0).trans rfl; have hczBKP_1 : w7_.cell? ⟨gBKP, 1, none⟩ = some (.slice A0_1 l0_1.length c0_1) := (blk_cell BKP.out 1).trans rfl; have hczBKP_2 : w7_.cell? ⟨gBKP, 2, none⟩ = some (.slice A0_2 l0_2.length c0_2) := (blk_cell BKP.out 2).trans rfl; have hczBKW_0 : w7_.cell? ⟨gBKW, 0, none⟩ = some ((.slice AOW_0 o0.length cOW_0)) := (blk_cell BKW.out 0).trans rfl; have hczBKW_1 : w7_.cell? ⟨gBKW, 1, none⟩ = some ((.slice AOW_1 o1.length cOW_1)) := (blk_cell BKW.out 1).trans rfl; have hczBKW_2 : w7_.cell? ⟨gBKW, 2, none⟩ = some ((.slice AOW_2 o2.length cOW_2)) := (blk_cell BKW.out 2).trans rfl))
    refine (laws_toDfa.calls k _ _ l0_0 _ _ l0_1 _ _ l0_2 l0_0 l0_1 l0_2 _ ?s23_ ?s24_ ?s25_ ?s26_ ?s27_ ?s28_ HF0.out).mono ?_
    case s23_ => (with_reducible repeat refine Kd.C_drewN ?_ _); exact Kd.C_below HR0_0.out HB.out
    case s24_ => exact HC0_0.out
    case s25_ => (with_reducible repeat refine Kd.C_drewN ?_ _); exact Kd.C_below HR0_1.out HB.out
    case s26_ => exact HC0_1.out
    case s27_ => (with_reducible repeat refine Kd.C_drewN ?_ _); exact Kd.C_below HR0_2.out HB.out
    case s28_ => exact HC0_2.out
    rintro e w8_ ⟨vOX0, vOX1, vOX2, rfl, ho0, ho1, ho2, hb⟩
    have hOX : OwnDfa True w8_ w.heap.size w7_.heap.size w8_.heap.size vOX0 vOX1 vOX2 l0_0 l0_1 l0_2 := OwnDfa.of (show w.heap.size ≤ w7_.heap.size from by have z0_ := HZ1.out; have z1_ := HGBKP.out; have z2_ := HZ2.out; have z3_ := HZ3.out; have z4_ := HZ4.out; have z5_ := HZ5.out; have z6_ := HZ6.out; have z7_ := HGBKW.out; have z8_ := HZ7.out; omega) ho0 ho1 ho2 (fun k_ q_ => by first | exact q_ | (simp only [ne_eq] at q_ ⊢; simp [q_])) (fun k_ q_ => by first | exact q_ | (simp only [ne_eq] at q_ ⊢; simp [q_])) (fun k_ q_ => by first | exact q_ | (simp only [ne_eq] at q_ ⊢; simp [q_]))
    obtain ⟨AOX_0, cOX_0, AOX_1, cOX_1, AOX_2, cOX_2, eOX_0, eOX_1, eOX_2⟩ := hOX.slices
    subst eOX_0
    subst eOX_1
    subst eOX_2
    have OW := Aside0.mk (OwnDfa.below (show OwnDfa _ _ _ _ _ _ _ _ _ _ _ from by (with_reducible repeat apply OwnDfa.drewN); exact OW.out) hb)
    have BKP := Aside0.mk (show w8_.heap[gBKP]? = some (.cells #[.slice A0_0 l0_0.length c0_0, .slice A0_1 l0_1.length c0_1, .slice A0_2 l0_2.length c0_2] 63 (0, 0)) from (hb.block _ (blk_lt BKP.out)).trans BKP.out)
    have BKW := Aside0.mk (show w8_.heap[gBKW]? = some (.cells #[(.slice AOW_0 o0.length cOW_0), (.slice AOW_1 o1.length cOW_1), (.slice AOW_2 o2.length cOW_2)] 66 (0, 0)) from (hb.block _ (blk_lt BKW.out)).trans BKW.out)
    have HZ8 := Aside0.mk (show w7_.heap.size ≤ w8_.heap.size from hb.size)
    have HB := Aside0.mk (below_step (show Below w.heap.size w _ from by (with_reducible repeat apply pw_below_drewN); exact HB.out) hb)
    have OX := Aside0.mk hOX
    clear hOX hb ho0 ho1 ho2
    (try clear hczBKP_0 hczBKP_1 hczBKP_2 hczBKW_0 hczBKW_1 hczBKW_2)
    have hczBKP_0 : w8_.cell? ⟨gBKP, 0, none⟩ = some (.slice A0_0 l0_0.length c0_0) := (blk_cell BKP.out 0).trans rfl
    have hczBKP_1 : w8_.cell? ⟨gBKP, 1, none⟩ = some (.slice A0_1 l0_1.length c0_1) := (blk_cell BKP.out 1).trans rfl
    have hczBKP_2 : w8_.cell? ⟨gBKP, 2, none⟩ = some (.slice A0_2 l0_2.length c0_2) := (blk_cell BKP.out 2).trans rfl
    have hczBKW_0 : w8_.cell? ⟨gBKW, 0, none⟩ = some ((.slice AOW_0 o0.length cOW_0)) := (blk_cell BKW.out 0).trans rfl
    have hczBKW_1 : w8_.cell? ⟨gBKW, 1, none⟩ = some ((.slice AOW_1 o1.length cOW_1)) := (blk_cell BKW.out 1).trans rfl
    have hczBKW_2 : w8_.cell? ⟨gBKW, 2, none⟩ = some ((.slice AOW_2 o2.length cOW_2)) := (blk_cell BKW.out 2).trans rfl
    go_wp2_with (first | ((with_reducible refine gate_dst (N := 7) rfl ?_); refine box_event ?hg (N := 7) ?hd (cs := #[.slice none 0 0, .slice none 0 0, .slice none 0 0]) (t := 66) ?hr ?_; (case hd => rfl); (case hg => rfl); (case hr => first | (go_simp; done) | (go_simp; rfl)); intro gBKX hg w9_ hbox hb; have OW := Aside0.mk (OwnDfa.below (show OwnDfa _ _ _ _ _ _ _ _ _ _ _ from by (with_reducible repeat apply OwnDfa.drewN); exact OW.out) hb); have OX := Aside0.mk (OwnDfa.below (show OwnDfa _ _ _ _ _ _ _ _ _ _ _ from by (with_reducible repeat apply OwnDfa.drewN); exact OX.out) hb); have BKP := Aside0.mk (show w9_.heap[gBKP]? = some (.cells #[.slice A0_0 l0_0.length c0_0, .slice A0_1 l0_1.length c0_1, .slice A0_2 l0_2.length c0_2] 63 (0, 0)) from (hb.block _ (blk_lt BKP.out)).trans BKP.out); have BKW := Aside0.mk (show w9_.heap[gBKW]? = some (.cells #[(.slice AOW_0 o0.length cOW_0), (.slice AOW_1 o1.length cOW_1), (.slice AOW_2 o2.length cOW_2)] 66 (0, 0)) from (hb.block _ (blk_lt BKW.out)).trans BKW.out); have HZ9 := Aside0.mk (show w8_.heap.size ≤ w9_.heap.size from hb.size); have HB := Aside0.mk (below_step (show Below w.heap.size w _ from by (with_reducible repeat apply pw_below_drewN); exact HB.out) hb); have BKX := Aside0.mk hbox; have HGBKX := Aside0.mk (show gBKX = w8_.heap.size ∧ gBKX < w9_.heap.size from ⟨hg, blk_lt hbox⟩); have GEBKX := Aside0.mk (show w.heap.size ≤ gBKX from by have z0_ := HZ1.out; have z1_ := HGBKP.out; have z2_ := HZ2.out; have z3_ := HZ3.out; have z4_ := HZ4.out; have z5_ := HZ5.out; have z6_ := HZ6.out; have z7_ := HGBKW.out; have z8_ := HZ7.out; have z9_ := HZ8.out; have z10_ := HZ9.out; have z11_ := HGBKX.out; omega); clear hb hbox hg; (try clear hczBKP_0 hczBKP_1 hczBKP_2 hczBKW_0 hczBKW_1 hczBKW_2); have hczBKP_0 : w9_.cell? ⟨gBKP, 0, none⟩ = some (.slice A0_0 l0_0.length c0_0) := (blk_cell BKP.out 0).trans rfl; have hczBKP_1 : w9_.cell? ⟨gBKP, 1, none⟩ = some (.slice A0_1 l0_1.length c0_1) := (blk_cell BKP.out 1).trans rfl; have hczBKP_2 : w9_.cell? ⟨gBKP, 2, none⟩ = some (.slice A0_2 l0_2.length c0_2) := (blk_cell BKP.out 2).trans rfl; have hczBKW_0 : w9_.cell? ⟨gBKW, 0, none⟩ = some ((.slice AOW_0 o0.length cOW_0)) := (blk_cell BKW.out 0).trans rfl; have hczBKW_1 : w9_.cell? ⟨gBKW, 1, none⟩ = some ((.slice AOW_1 o1.length cOW_1)) := (blk_cell BKW.out 1).trans rfl; have hczBKW_2 : w9_.cell? ⟨gBKW, 2, none⟩ = some ((.slice AOW_2 o2.length cOW_2)) := (blk_cell BKW.out 2).trans rfl; have hczBKX_0 : w9_.cell? ⟨gBKX, 0, none⟩ = some (.slice none 0 0) := (blk_cell BKX.out 0).trans rfl; have hczBKX_1 : w9_.cell? ⟨gBKX, 1, none⟩ = some (.slice none 0 0) := (blk_cell BKX.out 1).trans rfl; have hczBKX_2 : w9_.cell? ⟨gBKX, 2, none⟩ = some (.slice none 0 0) := (blk_cell BKX.out 2).trans rfl; have hfzBKX_0 := blk_frozen BKX.out 0; have hfzBKX_1 := blk_frozen BKX.out 1; have hfzBKX_2 := blk_frozen BKX.out 2) | ((with_reducible refine gate_store (t := 66) (p := 7) rfl ?_); refine store_event (t := 66) (p := 7) (v := ?vo_w10_) (w1 := (((w9_.setCell ⟨gBKX, 0, none⟩ ((.slice AOX_0 l0_0.length cOX_0))).setCell ⟨gBKX, 1, none⟩ ((.slice AOX_1 l0_1.length cOX_1))).setCell ⟨gBKX, 2, none⟩ ((.slice AOX_2 l0_2.length cOX_2)))) ?hg ?ho ?hn ?hr ?_; (case ho => rfl); (case hg => rfl); (case hn => rfl); (case hr => first | (go_simp; done) | (go_simp; rfl)); intro w10_ hw; have hk : Kept w9_ w10_ (fun k_ => k_ = gBKX) := (by rw [hw]; refine Kept.setCell (S := fun k_ => k_ = gBKX) (p := ⟨gBKX, 2, none⟩) ?_ (Or.inl (Eq.refl gBKX)) _; refine Kept.setCell (S := fun k_ => k_ = gBKX) (p := ⟨gBKX, 1, none⟩) ?_ (Or.inl (Eq.refl gBKX)) _; refine Kept.setCell (S := fun k_ => k_ = gBKX) (p := ⟨gBKX, 0, none⟩) ?_ (Or.inl (Eq.refl gBKX)) _; exact Kept.refl _ _); have hbox : w10_.heap[gBKX]? = some (.cells #[(.slice AOX_0 l0_0.length cOX_0), (.slice AOX_1 l0_1.length cOX_1), (.slice AOX_2 l0_2.length cOX_2)] 66 (0, 0)) := (by rw [hw]; refine blk_put (cs := #[(.slice AOX_0 l0_0.length cOX_0), (.slice AOX_1 l0_1.length cOX_1), .slice none 0 0]) ?_ 2 _ rfl; refine blk_put (cs := #[(.slice AOX_0 l0_0.length cOX_0), .slice none 0 0, .slice none 0 0]) ?_ 1 _ rfl; refine blk_put (cs := #[.slice none 0 0, .slice none 0 0, .slice none 0 0]) ?_ 0 _ rfl; exact BKX.out); have hB : Below w.heap.size w w10_ := (by rw [hw]; (with_reducible repeat refine below_set ?_ GEBKX.out); exact HB.out); have OW := Aside0.mk (OwnDfa.kept (show OwnDfa _ _ _ _ _ _ _ _ _ _ _ from by (with_reducible repeat apply OwnDfa.drewN); exact OW.out) hk (fun k_ h1 h2 h3 => by have z0_ := HZ1.out; have z1_ := HGBKP.out; have z2_ := HZ2.out; have z3_ := HZ3.out; have z4_ := HZ4.out; have z5_ := HZ5.out; have z6_ := HZ6.out; have z7_ := HGBKW.out; have z8_ := HZ7.out; have z9_ := HZ8.out; have z10_ := HZ9.out; have z11_ := HGBKX.out; omega)); have OX := Aside0.mk (OwnDfa.kept (show OwnDfa _ _ _ _ _ _ _ _ _ _ _ from by (with_reducible repeat apply OwnDfa.drewN); exact OX.out) hk (fun k_ h1 h2 h3 => by have z0_ := HZ1.out; have z1_ := HGBKP.out; have z2_ := HZ2.out; have z3_ := HZ3.out; have z4_ := HZ4.out; have z5_ := HZ5.out; have z6_ := HZ6.out; have z7_ := HGBKW.out; have z8_ := HZ7.out; have z9_ := HZ8.out; have z10_ := HZ9.out; have z11_ := HGBKX.out; omega)); have BKP := Aside0.mk (show w10_.heap[gBKP]? = some (.cells #[.slice A0_0 l0_0.length c0_0, .slice A0_1 l0_1.length c0_1, .slice A0_2 l0_2.length c0_2] 63 (0, 0)) from (hk.2 _ (blk_lt BKP.out) (fun h3 => by have z0_ := HZ1.out; have z1_ := HGBKP.out; have z2_ := HZ2.out; have z3_ := HZ3.out; have z4_ := HZ4.out; have z5_ := HZ5.out; have z6_ := HZ6.out; have z7_ := HGBKW.out; have z8_ := HZ7.out; have z9_ := HZ8.out; have z10_ := HZ9.out; have z11_ := HGBKX.out; omega)).trans BKP.out); have BKW := Aside0.mk (show w10_.heap[gBKW]? = some (.cells #[(.slice AOW_0 o0.length cOW_0), (.slice AOW_1 o1.length cOW_1), (.slice AOW_2 o2.length cOW_2)] 66 (0, 0)) from (hk.2 _ (blk_lt BKW.out) (fun h3 => by have z0_ := HZ1.out; have z1_ := HGBKP.out; have z2_ := HZ2.out; have z3_ := HZ3.out; have z4_ := HZ4.out; have z5_ := HZ5.out; have z6_ := HZ6.out; have z7_ := HGBKW.out; have z8_ := HZ7.out; have z9_ := HZ8.out; have z10_ := HZ9.out; have z11_ := HGBKX.out; omega)).trans BKW.out); have HZ10 := Aside0.mk (show w9_.heap.size ≤ w10_.heap.size from hk.1); have BKX := Aside0.mk hbox; have HB := Aside0.mk hB; clear hk hw hbox hB; clear hfzBKX_0 hfzBKX_1 hfzBKX_2; (try clear hczBKP_0 hczBKP_1 hczBKP_2 hczBKW_0 hczBKW_1 hczBKW_2 hczBKX_0 hczBKX_1 hczBKX_2); have hczBKP_0 : w10_.cell? ⟨gBKP, 0, none⟩ = some (.slice A0_0 l0_0.length c0_0) := (blk_cell BKP.out 0).trans rfl; have hczBKP_1 : w10_.cell? ⟨gBKP, 1, none⟩ = some (.slice A0_1 l0_1.length c0_1) := (blk_cell BKP.out 1).trans rfl; have hczBKP_2 : w10_.cell? ⟨gBKP, 2, none⟩ = some (.slice A0_2 l0_2.length c0_2) := (blk_cell BKP.out 2).trans rfl; have hczBKW_0 : w10_.cell? ⟨gBKW, 0, none⟩ = some ((.slice AOW_0 o0.length cOW_0)) := (blk_cell BKW.out 0).trans rfl; have hczBKW_1 : w10_.cell? ⟨gBKW, 1, none⟩ = some ((.slice AOW_1 o1.length cOW_1)) := (blk_cell BKW.out 1).trans rfl; have hczBKW_2 : w10_.cell? ⟨gBKW, 2, none⟩ = some ((.slice AOW_2 o2.length cOW_2)) := (blk_cell BKW.out 2).trans rfl; have hczBKX_0 : w10_.cell? ⟨gBKX, 0, none⟩ = some ((.slice AOX_0 l0_0.length cOX_0)) := (blk_cell BKX.out 0).trans rfl; have hczBKX_1 : w10_.cell? ⟨gBKX, 1, none⟩ = some ((.slice AOX_1 l0_1.length cOX_1)) := (blk_cell BKX.out 1).trans rfl; have hczBKX_2 : w10_.cell? ⟨gBKX, 2, none⟩ = some ((.slice AOX_2 l0_2.length cOX_2)) := (blk_cell BKX.out 2).trans rfl))
    refine (laws_toInt64S.calls k _ _ l1 l1 _ ?s29_ ?s30_ HF10.out).mono ?_
    case s29_ => (with_reducible repeat refine Kd.C_drewN ?_ _); exact Kd.C_below HR1.out HB.out
    case s30_ => exact HC1.out
    rintro e w11_ ⟨vOZ0, rfl, ho0, hb⟩
    have hOZ : OwnInt64S True w11_ w.heap.size w10_.heap.size w11_.heap.size vOZ0 l1 := OwnInt64S.of (show w.heap.size ≤ w10_.heap.size from by have z0_ := HZ1.out; have z1_ := HGBKP.out; have z2_ := HZ2.out; have z3_ := HZ3.out; have z4_ := HZ4.out; have z5_ := HZ5.out; have z6_ := HZ6.out; have z7_ := HGBKW.out; have z8_ := HZ7.out; have z9_ := HZ8.out; have z10_ := HZ9.out; have z11_ := HGBKX.out; have z12_ := HZ10.out; omega) ho0 
    obtain ⟨AOZ_0, cOZ_0, eOZ_0⟩ := hOZ.slices
    subst eOZ_0
    have OW := Aside0.mk (OwnDfa.below (show OwnDfa _ _ _ _ _ _ _ _ _ _ _ from by (with_reducible repeat apply OwnDfa.drewN); exact OW.out) hb)
    have OX := Aside0.mk (OwnDfa.below (show OwnDfa _ _ _ _ _ _ _ _ _ _ _ from by (with_reducible repeat apply OwnDfa.drewN); exact OX.out) hb)
    have BKP := Aside0.mk (show w11_.heap[gBKP]? = some (.cells #[.slice A0_0 l0_0.length c0_0, .slice A0_1 l0_1.length c0_1, .slice A0_2 l0_2.length c0_2] 63 (0, 0)) from (hb.block _ (blk_lt BKP.out)).trans BKP.out)
    have BKW := Aside0.mk (show w11_.heap[gBKW]? = some (.cells #[(.slice AOW_0 o0.length cOW_0), (.slice AOW_1 o1.length cOW_1), (.slice AOW_2 o2.length cOW_2)] 66 (0, 0)) from (hb.block _ (blk_lt BKW.out)).trans BKW.out)
    have BKX := Aside0.mk (show w11_.heap[gBKX]? = some (.cells #[(.slice AOX_0 l0_0.length cOX_0), (.slice AOX_1 l0_1.length cOX_1), (.slice AOX_2 l0_2.length cOX_2)] 66 (0, 0)) from (hb.block _ (blk_lt BKX.out)).trans BKX.out)
    have HZ11 := Aside0.mk (show w10_.heap.size ≤ w11_.heap.size from hb.size)
    have HB := Aside0.mk (below_step (show Below w.heap.size w _ from by (with_reducible repeat apply pw_below_drewN); exact HB.out) hb)
    have OZ := Aside0.mk hOZ
    clear hOZ hb ho0
    (try clear hczBKP_0 hczBKP_1 hczBKP_2 hczBKW_0 hczBKW_1 hczBKW_2 hczBKX_0 hczBKX_1 hczBKX_2)
    have hczBKP_0 : w11_.cell? ⟨gBKP, 0, none⟩ = some (.slice A0_0 l0_0.length c0_0) := (blk_cell BKP.out 0).trans rfl
    have hczBKP_1 : w11_.cell? ⟨gBKP, 1, none⟩ = some (.slice A0_1 l0_1.length c0_1) := (blk_cell BKP.out 1).trans rfl
    have hczBKP_2 : w11_.cell? ⟨gBKP, 2, none⟩ = some (.slice A0_2 l0_2.length c0_2) := (blk_cell BKP.out 2).trans rfl
    have hczBKW_0 : w11_.cell? ⟨gBKW, 0, none⟩ = some ((.slice AOW_0 o0.length cOW_0)) := (blk_cell BKW.out 0).trans rfl
    have hczBKW_1 : w11_.cell? ⟨gBKW, 1, none⟩ = some ((.slice AOW_1 o1.length cOW_1)) := (blk_cell BKW.out 1).trans rfl
    have hczBKW_2 : w11_.cell? ⟨gBKW, 2, none⟩ = some ((.slice AOW_2 o2.length cOW_2)) := (blk_cell BKW.out 2).trans rfl
    have hczBKX_0 : w11_.cell? ⟨gBKX, 0, none⟩ = some ((.slice AOX_0 l0_0.length cOX_0)) := (blk_cell BKX.out 0).trans rfl
    have hczBKX_1 : w11_.cell? ⟨gBKX, 1, none⟩ = some ((.slice AOX_1 l0_1.length cOX_1)) := (blk_cell BKX.out 1).trans rfl
    have hczBKX_2 : w11_.cell? ⟨gBKX, 2, none⟩ = some ((.slice AOX_2 l0_2.length cOX_2)) := (blk_cell BKX.out 2).trans rfl
    go_wp2_with fail
    refine (impl_Restrict.calls k _ _ l0_0 _ _ l0_1 _ _ l0_2 _ _ l1 o0 o1 o2 _ ?s31_ ?s32_ ?s33_ ?s34_ ?s35_ ?s36_ ?s37_ ?s38_ HF2.out).mono ?_
    case s31_ => exact (OwnDfa.rd0 (by (with_reducible repeat apply OwnDfa.drewN); exact OX.out) rfl).2.2
    case s32_ => exact (OwnDfa.rd0 OX.out rfl).2.1
    case s33_ => exact (OwnDfa.rd1 (by (with_reducible repeat apply OwnDfa.drewN); exact OX.out) rfl).2.2
    case s34_ => exact (OwnDfa.rd1 OX.out rfl).2.1
    case s35_ => exact (OwnDfa.rd2 (by (with_reducible repeat apply OwnDfa.drewN); exact OX.out) rfl).2.2
    case s36_ => exact (OwnDfa.rd2 OX.out rfl).2.1
    case s37_ => exact (OwnInt64S.rd0 (by (with_reducible repeat apply OwnInt64S.drewN); exact OZ.out) rfl).2.2
    case s38_ => exact (OwnInt64S.rd0 OZ.out rfl).2.1
    rintro e w12_ ⟨vOG0, vOG1, vOG2, rfl, ho0, ho1, ho2, hb⟩
    have hOG : OwnDfa True w12_ w.heap.size w11_.heap.size w12_.heap.size vOG0 vOG1 vOG2 o0 o1 o2 := OwnDfa.of (show w.heap.size ≤ w11_.heap.size from by have z0_ := HZ1.out; have z1_ := HGBKP.out; have z2_ := HZ2.out; have z3_ := HZ3.out; have z4_ := HZ4.out; have z5_ := HZ5.out; have z6_ := HZ6.out; have z7_ := HGBKW.out; have z8_ := HZ7.out; have z9_ := HZ8.out; have z10_ := HZ9.out; have z11_ := HGBKX.out; have z12_ := HZ10.out; have z13_ := HZ11.out; omega) ho0 ho1 ho2 (fun k_ q_ => by first | exact q_ | (simp only [ne_eq] at q_ ⊢; simp [q_])) (fun k_ q_ => by first | exact q_ | (simp only [ne_eq] at q_ ⊢; simp [q_])) (fun k_ q_ => by first | exact q_ | (simp only [ne_eq] at q_ ⊢; simp [q_]))
    obtain ⟨AOG_0, cOG_0, AOG_1, cOG_1, AOG_2, cOG_2, eOG_0, eOG_1, eOG_2⟩ := hOG.slices
    subst eOG_0
    subst eOG_1
    subst eOG_2
    have OW := Aside0.mk (OwnDfa.below (show OwnDfa _ _ _ _ _ _ _ _ _ _ _ from by (with_reducible repeat apply OwnDfa.drewN); exact OW.out) hb)
    have OX := Aside0.mk (OwnDfa.below (show OwnDfa _ _ _ _ _ _ _ _ _ _ _ from by (with_reducible repeat apply OwnDfa.drewN); exact OX.out) hb)
    have OZ := Aside0.mk (OwnInt64S.below (show OwnInt64S _ _ _ _ _ _ _ from by (with_reducible repeat apply OwnInt64S.drewN); exact OZ.out) hb)
    have BKP := Aside0.mk (show w12_.heap[gBKP]? = some (.cells #[.slice A0_0 l0_0.length c0_0, .slice A0_1 l0_1.length c0_1, .slice A0_2 l0_2.length c0_2] 63 (0, 0)) from (hb.block _ (blk_lt BKP.out)).trans BKP.out)
    have BKW := Aside0.mk (show w12_.heap[gBKW]? = some (.cells #[(.slice AOW_0 o0.length cOW_0), (.slice AOW_1 o1.length cOW_1), (.slice AOW_2 o2.length cOW_2)] 66 (0, 0)) from (hb.block _ (blk_lt BKW.out)).trans BKW.out)
    have BKX := Aside0.mk (show w12_.heap[gBKX]? = some (.cells #[(.slice AOX_0 l0_0.length cOX_0), (.slice AOX_1 l0_1.length cOX_1), (.slice AOX_2 l0_2.length cOX_2)] 66 (0, 0)) from (hb.block _ (blk_lt BKX.out)).trans BKX.out)
    have HZ12 := Aside0.mk (show w11_.heap.size ≤ w12_.heap.size from hb.size)
    have HB := Aside0.mk (below_step (show Below w.heap.size w _ from by (with_reducible repeat apply pw_below_drewN); exact HB.out) hb)
    have OG := Aside0.mk hOG
    clear hOG hb ho0 ho1 ho2
    (try clear hczBKP_0 hczBKP_1 hczBKP_2 hczBKW_0 hczBKW_1 hczBKW_2 hczBKX_0 hczBKX_1 hczBKX_2)
    have hczBKP_0 : w12_.cell? ⟨gBKP, 0, none⟩ = some (.slice A0_0 l0_0.length c0_0) := (blk_cell BKP.out 0).trans rfl
    have hczBKP_1 : w12_.cell? ⟨gBKP, 1, none⟩ = some (.slice A0_1 l0_1.length c0_1) := (blk_cell BKP.out 1).trans rfl
    have hczBKP_2 : w12_.cell? ⟨gBKP, 2, none⟩ = some (.slice A0_2 l0_2.length c0_2) := (blk_cell BKP.out 2).trans rfl
    have hczBKW_0 : w12_.cell? ⟨gBKW, 0, none⟩ = some ((.slice AOW_0 o0.length cOW_0)) := (blk_cell BKW.out 0).trans rfl
    have hczBKW_1 : w12_.cell? ⟨gBKW, 1, none⟩ = some ((.slice AOW_1 o1.length cOW_1)) := (blk_cell BKW.out 1).trans rfl
    have hczBKW_2 : w12_.cell? ⟨gBKW, 2, none⟩ = some ((.slice AOW_2 o2.length cOW_2)) := (blk_cell BKW.out 2).trans rfl
    have hczBKX_0 : w12_.cell? ⟨gBKX, 0, none⟩ = some ((.slice AOX_0 l0_0.length cOX_0)) := (blk_cell BKX.out 0).trans rfl
    have hczBKX_1 : w12_.cell? ⟨gBKX, 1, none⟩ = some ((.slice AOX_1 l0_1.length cOX_1)) := (blk_cell BKX.out 1).trans rfl
    have hczBKX_2 : w12_.cell? ⟨gBKX, 2, none⟩ = some ((.slice AOX_2 l0_2.length cOX_2)) := (blk_cell BKX.out 2).trans rfl
    go_wp2_with (first | ((with_reducible refine gate_dst (N := 9) rfl ?_); refine box_event ?hg (N := 9) ?hd (cs := #[.slice none 0 0, .slice none 0 0, .slice none 0 0]) (t := 66) ?hr ?_; (case hd => rfl); (case hg => rfl); (case hr => first | (go_simp; done) | (go_simp; rfl)); intro gBKG hg w13_ hbox hb; have OW := Aside0.mk (OwnDfa.below (show OwnDfa _ _ _ _ _ _ _ _ _ _ _ from by (with_reducible repeat apply OwnDfa.drewN); exact OW.out) hb); have OX := Aside0.mk (OwnDfa.below (show OwnDfa _ _ _ _ _ _ _ _ _ _ _ from by (with_reducible repeat apply OwnDfa.drewN); exact OX.out) hb); have OZ := Aside0.mk (OwnInt64S.below (show OwnInt64S _ _ _ _ _ _ _ from by (with_reducible repeat apply OwnInt64S.drewN); exact OZ.out) hb); have OG := Aside0.mk (OwnDfa.below (show OwnDfa _ _ _ _ _ _ _ _ _ _ _ from by (with_reducible repeat apply OwnDfa.drewN); exact OG.out) hb); have BKP := Aside0.mk (show w13_.heap[gBKP]? = some (.cells #[.slice A0_0 l0_0.length c0_0, .slice A0_1 l0_1.length c0_1, .slice A0_2 l0_2.length c0_2] 63 (0, 0)) from (hb.block _ (blk_lt BKP.out)).trans BKP.out); have BKW := Aside0.mk (show w13_.heap[gBKW]? = some (.cells #[(.slice AOW_0 o0.length cOW_0), (.slice AOW_1 o1.length cOW_1), (.slice AOW_2 o2.length cOW_2)] 66 (0, 0)) from (hb.block _ (blk_lt BKW.out)).trans BKW.out); have BKX := Aside0.mk (show w13_.heap[gBKX]? = some (.cells #[(.slice AOX_0 l0_0.length cOX_0), (.slice AOX_1 l0_1.length cOX_1), (.slice AOX_2 l0_2.length cOX_2)] 66 (0, 0)) from (hb.block _ (blk_lt BKX.out)).trans BKX.out); have HZ13 := Aside0.mk (show w12_.heap.size ≤ w13_.heap.size from hb.size); have HB := Aside0.mk (below_step (show Below w.heap.size w _ from by (with_reducible repeat apply pw_below_drewN); exact HB.out) hb); have BKG := Aside0.mk hbox; have HGBKG := Aside0.mk (show gBKG = w12_.heap.size ∧ gBKG < w13_.heap.size from ⟨hg, blk_lt hbox⟩); have GEBKG := Aside0.mk (show w.heap.size ≤ gBKG from by have z0_ := HZ1.out; have z1_ := HGBKP.out; have z2_ := HZ2.out; have z3_ := HZ3.out; have z4_ := HZ4.out; have z5_ := HZ5.out; have z6_ := HZ6.out; have z7_ := HGBKW.out; have z8_ := HZ7.out; have z9_ := HZ8.out; have z10_ := HZ9.out; have z11_ := HGBKX.out; have z12_ := HZ10.out; have z13_ := HZ11.out; have z14_ := HZ12.out; have z15_ := HZ13.out; have z16_ := HGBKG.out; omega); clear hb hbox hg; (try clear hczBKP_0 hczBKP_1 hczBKP_2 hczBKW_0 hczBKW_1 hczBKW_2 hczBKX_0 hczBKX_1 hczBKX_2); have hczBKP_0 : w13_.cell? ⟨gBKP, 0, none⟩ = some (.slice A0_0 l0_0.length c0_0) := (blk_cell BKP.out 0).trans rfl; have hczBKP_1 : w13_.cell? ⟨gBKP, 1, none⟩ = some (.slice A0_1 l0_1.length c0_1) := (blk_cell BKP.out 1).trans rfl; have hczBKP_2 : w13_.cell? ⟨gBKP, 2, none⟩ = some (.slice A0_2 l0_2.length c0_2) := (blk_cell BKP.out 2).trans rfl; have hczBKW_0 : w13_.cell? ⟨gBKW, 0, none⟩ = some ((.slice AOW_0 o0.length cOW_0)) := (blk_cell BKW.out 0).trans rfl; have hczBKW_1 : w13_.cell? ⟨gBKW, 1, none⟩ = some ((.slice AOW_1 o1.length cOW_1)) := (blk_cell BKW.out 1).trans rfl; have hczBKW_2 : w13_.cell? ⟨gBKW, 2, none⟩ = some ((.slice AOW_2 o2.length cOW_2)) := (blk_cell BKW.out 2).trans rfl; have hczBKX_0 : w13_.cell? ⟨gBKX, 0, none⟩ = some ((.slice AOX_0 l0_0.length cOX_0)) := (blk_cell BKX.out 0).trans rfl; have hczBKX_1 : w13_.cell? ⟨gBKX, 1, none⟩ = some ((.slice AOX_1 l0_1.length cOX_1)) := (blk_cell BKX.out 1).trans rfl; have hczBKX_2 : w13_.cell? ⟨gBKX, 2, none⟩ = some ((.slice AOX_2 l0_2.length cOX_2)) := (blk_cell BKX.out 2).trans rfl; have hczBKG_0 : w13_.cell? ⟨gBKG, 0, none⟩ = some (.slice none 0 0) := (blk_cell BKG.out 0).trans rfl; have hczBKG_1 : w13_.cell? ⟨gBKG, 1, none⟩ = some (.slice none 0 0) := (blk_cell BKG.out 1).trans rfl; have hczBKG_2 : w13_.cell? ⟨gBKG, 2, none⟩ = some (.slice none 0 0) := (blk_cell BKG.out 2).trans rfl; have hfzBKG_0 := blk_frozen BKG.out 0; have hfzBKG_1 := blk_frozen BKG.out 1; have hfzBKG_2 := blk_frozen BKG.out 2) | ((with_reducible refine gate_store (t := 66) (p := 9) rfl ?_); refine store_event (t := 66) (p := 9) (v := ?vo_w14_) (w1 := (((w13_.setCell ⟨gBKG, 0, none⟩ ((.slice AOG_0 o0.length cOG_0))).setCell ⟨gBKG, 1, none⟩ ((.slice AOG_1 o1.length cOG_1))).setCell ⟨gBKG, 2, none⟩ ((.slice AOG_2 o2.length cOG_2)))) ?hg ?ho ?hn ?hr ?_; (case ho => rfl); (case hg => rfl); (case hn => rfl); (case hr => first | (go_simp; done) | (go_simp; rfl)); intro w14_ hw; have hk : Kept w13_ w14_ (fun k_ => k_ = gBKG) := (by rw [hw]; refine Kept.setCell (S := fun k_ => k_ = gBKG) (p := ⟨gBKG, 2, none⟩) ?_ (Or.inl (Eq.refl gBKG)) _; refine Kept.setCell (S := fun k_ => k_ = gBKG) (p := ⟨gBKG, 1, none⟩) ?_ (Or.inl (Eq.refl gBKG)) _; refine Kept.setCell (S := fun k_ => k_ = gBKG) (p := ⟨gBKG, 0, none⟩) ?_ (Or.inl (Eq.refl gBKG)) _; exact Kept.refl _ _); have hbox : w14_.heap[gBKG]? = some (.cells #[(.slice AOG_0 o0.length cOG_0), (.slice AOG_1 o1.length cOG_1), (.slice AOG_2 o2.length cOG_2)] 66 (0, 0)) := (by rw [hw]; refine blk_put (cs := #[(.slice AOG_0 o0.length cOG_0), (.slice AOG_1 o1.length cOG_1), .slice none 0 0]) ?_ 2 _ rfl; refine blk_put (cs := #[(.slice AOG_0 o0.length cOG_0), .slice none 0 0, .slice none 0 0]) ?_ 1 _ rfl; refine blk_put (cs := #[.slice none 0 0, .slice none 0 0, .slice none 0 0]) ?_ 0 _ rfl; exact BKG.out); have hB : Below w.heap.size w w14_ := (by rw [hw]; (with_reducible repeat refine below_set ?_ GEBKG.out); exact HB.out); have OW := Aside0.mk (OwnDfa.kept (show OwnDfa _ _ _ _ _ _ _ _ _ _ _ from by (with_reducible repeat apply OwnDfa.drewN); exact OW.out) hk (fun k_ h1 h2 h3 => by have z0_ := HZ1.out; have z1_ := HGBKP.out; have z2_ := HZ2.out; have z3_ := HZ3.out; have z4_ := HZ4.out; have z5_ := HZ5.out; have z6_ := HZ6.out; have z7_ := HGBKW.out; have z8_ := HZ7.out; have z9_ := HZ8.out; have z10_ := HZ9.out; have z11_ := HGBKX.out; have z12_ := HZ10.out; have z13_ := HZ11.out; have z14_ := HZ12.out; have z15_ := HZ13.out; have z16_ := HGBKG.out; omega)); have OX := Aside0.mk (OwnDfa.kept (show OwnDfa _ _ _ _ _ _ _ _ _ _ _ from by (with_reducible repeat apply OwnDfa.drewN); exact OX.out) hk (fun k_ h1 h2 h3 => by have z0_ := HZ1.out; have z1_ := HGBKP.out; have z2_ := HZ2.out; have z3_ := HZ3.out; have z4_ := HZ4.out; have z5_ := HZ5.out; have z6_ := HZ6.out; have z7_ := HGBKW.out; have z8_ := HZ7.out; have z9_ := HZ8.out; have z10_ := HZ9.out; have z11_ := HGBKX.out; have z12_ := HZ10.out; have z13_ := HZ11.out; have z14_ := HZ12.out; have z15_ := HZ13.out; have z16_ := HGBKG.out; omega)); have OZ := Aside0.mk (OwnInt64S.kept (show OwnInt64S _ _ _ _ _ _ _ from by (with_reducible repeat apply OwnInt64S.drewN); exact OZ.out) hk (fun k_ h1 h2 h3 => by have z0_ := HZ1.out; have z1_ := HGBKP.out; have z2_ := HZ2.out; have z3_ := HZ3.out; have z4_ := HZ4.out; have z5_ := HZ5.out; have z6_ := HZ6.out; have z7_ := HGBKW.out; have z8_ := HZ7.out; have z9_ := HZ8.out; have z10_ := HZ9.out; have z11_ := HGBKX.out; have z12_ := HZ10.out; have z13_ := HZ11.out; have z14_ := HZ12.out; have z15_ := HZ13.out; have z16_ := HGBKG.out; omega)); have OG := Aside0.mk (OwnDfa.kept (show OwnDfa _ _ _ _ _ _ _ _ _ _ _ from by (with_reducible repeat apply OwnDfa.drewN); exact OG.out) hk (fun k_ h1 h2 h3 => by have z0_ := HZ1.out; have z1_ := HGBKP.out; have z2_ := HZ2.out; have z3_ := HZ3.out; have z4_ := HZ4.out; have z5_ := HZ5.out; have z6_ := HZ6.out; have z7_ := HGBKW.out; have z8_ := HZ7.out; have z9_ := HZ8.out; have z10_ := HZ9.out; have z11_ := HGBKX.out; have z12_ := HZ10.out; have z13_ := HZ11.out; have z14_ := HZ12.out; have z15_ := HZ13.out; have z16_ := HGBKG.out; omega)); have BKP := Aside0.mk (show w14_.heap[gBKP]? = some (.cells #[.slice A0_0 l0_0.length c0_0, .slice A0_1 l0_1.length c0_1, .slice A0_2 l0_2.length c0_2] 63 (0, 0)) from (hk.2 _ (blk_lt BKP.out) (fun h3 => by have z0_ := HZ1.out; have z1_ := HGBKP.out; have z2_ := HZ2.out; have z3_ := HZ3.out; have z4_ := HZ4.out; have z5_ := HZ5.out; have z6_ := HZ6.out; have z7_ := HGBKW.out; have z8_ := HZ7.out; have z9_ := HZ8.out; have z10_ := HZ9.out; have z11_ := HGBKX.out; have z12_ := HZ10.out; have z13_ := HZ11.out; have z14_ := HZ12.out; have z15_ := HZ13.out; have z16_ := HGBKG.out; omega)).trans BKP.out); have BKW := Aside0.mk (show w14_.heap[gBKW]? = some (.cells #[(.slice AOW_0 o0.length cOW_0), (.slice AOW_1 o1.length cOW_1), (.slice AOW_2 o2.length cOW_2)] 66 (0, 0)) from (hk.2 _ (blk_lt BKW.out) (fun h3 => by have z0_ := HZ1.out; have z1_ := HGBKP.out; have z2_ := HZ2.out; have z3_ := HZ3.out; have z4_ := HZ4.out; have z5_ := HZ5.out; have z6_ := HZ6.out; have z7_ := HGBKW.out; have z8_ := HZ7.out; have z9_ := HZ8.out; have z10_ := HZ9.out; have z11_ := HGBKX.out; have z12_ := HZ10.out; have z13_ := HZ11.out; have z14_ := HZ12.out; have z15_ := HZ13.out; have z16_ := HGBKG.out; omega)).trans BKW.out); have BKX := Aside0.mk (show w14_.heap[gBKX]? = some (.cells #[(.slice AOX_0 l0_0.length cOX_0), (.slice AOX_1 l0_1.length cOX_1), (.slice AOX_2 l0_2.length cOX_2)] 66 (0, 0)) from (hk.2 _ (blk_lt BKX.out) (fun h3 => by have z0_ := HZ1.out; have z1_ := HGBKP.out; have z2_ := HZ2.out; have z3_ := HZ3.out; have z4_ := HZ4.out; have z5_ := HZ5.out; have z6_ := HZ6.out; have z7_ := HGBKW.out; have z8_ := HZ7.out; have z9_ := HZ8.out; have z10_ := HZ9.out; have z11_ := HGBKX.out; have z12_ := HZ10.out; have z13_ := HZ11.out; have z14_ := HZ12.out; have z15_ := HZ13.out; have z16_ := HGBKG.out; omega)).trans BKX.out); have HZ14 := Aside0.mk (show w13_.heap.size ≤ w14_.heap.size from hk.1); have BKG := Aside0.mk hbox; have HB := Aside0.mk hB; clear hk hw hbox hB; clear hfzBKG_0 hfzBKG_1 hfzBKG_2; (try clear hczBKP_0 hczBKP_1 hczBKP_2 hczBKW_0 hczBKW_1 hczBKW_2 hczBKX_0 hczBKX_1 hczBKX_2 hczBKG_0 hczBKG_1 hczBKG_2); have hczBKP_0 : w14_.cell? ⟨gBKP, 0, none⟩ = some (.slice A0_0 l0_0.length c0_0) := (blk_cell BKP.out 0).trans rfl; have hczBKP_1 : w14_.cell? ⟨gBKP, 1, none⟩ = some (.slice A0_1 l0_1.length c0_1) := (blk_cell BKP.out 1).trans rfl; have hczBKP_2 : w14_.cell? ⟨gBKP, 2, none⟩ = some (.slice A0_2 l0_2.length c0_2) := (blk_cell BKP.out 2).trans rfl; have hczBKW_0 : w14_.cell? ⟨gBKW, 0, none⟩ = some ((.slice AOW_0 o0.length cOW_0)) := (blk_cell BKW.out 0).trans rfl; have hczBKW_1 : w14_.cell? ⟨gBKW, 1, none⟩ = some ((.slice AOW_1 o1.length cOW_1)) := (blk_cell BKW.out 1).trans rfl; have hczBKW_2 : w14_.cell? ⟨gBKW, 2, none⟩ = some ((.slice AOW_2 o2.length cOW_2)) := (blk_cell BKW.out 2).trans rfl; have hczBKX_0 : w14_.cell? ⟨gBKX, 0, none⟩ = some ((.slice AOX_0 l0_0.length cOX_0)) := (blk_cell BKX.out 0).trans rfl; have hczBKX_1 : w14_.cell? ⟨gBKX, 1, none⟩ = some ((.slice AOX_1 l0_1.length cOX_1)) := (blk_cell BKX.out 1).trans rfl; have hczBKX_2 : w14_.cell? ⟨gBKX, 2, none⟩ = some ((.slice AOX_2 l0_2.length cOX_2)) := (blk_cell BKX.out 2).trans rfl; have hczBKG_0 : w14_.cell? ⟨gBKG, 0, none⟩ = some ((.slice AOG_0 o0.length cOG_0)) := (blk_cell BKG.out 0).trans rfl; have hczBKG_1 : w14_.cell? ⟨gBKG, 1, none⟩ = some ((.slice AOG_1 o1.length cOG_1)) := (blk_cell BKG.out 1).trans rfl; have hczBKG_2 : w14_.cell? ⟨gBKG, 2, none⟩ = some ((.slice AOG_2 o2.length cOG_2)) := (blk_cell BKG.out 2).trans rfl))
    refine (laws_eqDfa.calls k _ _ o0 _ _ o1 _ _ o2 _ _ o0 _ _ o1 _ _ o2 true _ ?s39_ ?s40_ ?s41_ ?s42_ ?s43_ ?s44_ ?s45_ ?s46_ ?s47_ ?s48_ ?s49_ ?s50_ HF3.out).mono ?_
    case s39_ => exact (OwnDfa.rd0 (by (with_reducible repeat apply OwnDfa.drewN); exact OG.out) rfl).2.2
    case s40_ => exact (OwnDfa.rd0 OG.out rfl).2.1
    case s41_ => exact (OwnDfa.rd1 (by (with_reducible repeat apply OwnDfa.drewN); exact OG.out) rfl).2.2
    case s42_ => exact (OwnDfa.rd1 OG.out rfl).2.1
    case s43_ => exact (OwnDfa.rd2 (by (with_reducible repeat apply OwnDfa.drewN); exact OG.out) rfl).2.2
    case s44_ => exact (OwnDfa.rd2 OG.out rfl).2.1
    case s45_ => exact (OwnDfa.rd0 (by (with_reducible repeat apply OwnDfa.drewN); exact OW.out) rfl).2.2
    case s46_ => exact (OwnDfa.rd0 OW.out rfl).2.1
    case s47_ => exact (OwnDfa.rd1 (by (with_reducible repeat apply OwnDfa.drewN); exact OW.out) rfl).2.2
    case s48_ => exact (OwnDfa.rd1 OW.out rfl).2.1
    case s49_ => exact (OwnDfa.rd2 (by (with_reducible repeat apply OwnDfa.drewN); exact OW.out) rfl).2.2
    case s50_ => exact (OwnDfa.rd2 OW.out rfl).2.1
    rintro e w15_ ⟨rfl, hb⟩
    have OW := Aside0.mk (OwnDfa.below (show OwnDfa _ _ _ _ _ _ _ _ _ _ _ from by (with_reducible repeat apply OwnDfa.drewN); exact OW.out) hb)
    have OX := Aside0.mk (OwnDfa.below (show OwnDfa _ _ _ _ _ _ _ _ _ _ _ from by (with_reducible repeat apply OwnDfa.drewN); exact OX.out) hb)
    have OZ := Aside0.mk (OwnInt64S.below (show OwnInt64S _ _ _ _ _ _ _ from by (with_reducible repeat apply OwnInt64S.drewN); exact OZ.out) hb)
    have OG := Aside0.mk (OwnDfa.below (show OwnDfa _ _ _ _ _ _ _ _ _ _ _ from by (with_reducible repeat apply OwnDfa.drewN); exact OG.out) hb)
    have BKP := Aside0.mk (show w15_.heap[gBKP]? = some (.cells #[.slice A0_0 l0_0.length c0_0, .slice A0_1 l0_1.length c0_1, .slice A0_2 l0_2.length c0_2] 63 (0, 0)) from (hb.block _ (blk_lt BKP.out)).trans BKP.out)
    have BKW := Aside0.mk (show w15_.heap[gBKW]? = some (.cells #[(.slice AOW_0 o0.length cOW_0), (.slice AOW_1 o1.length cOW_1), (.slice AOW_2 o2.length cOW_2)] 66 (0, 0)) from (hb.block _ (blk_lt BKW.out)).trans BKW.out)
    have BKX := Aside0.mk (show w15_.heap[gBKX]? = some (.cells #[(.slice AOX_0 l0_0.length cOX_0), (.slice AOX_1 l0_1.length cOX_1), (.slice AOX_2 l0_2.length cOX_2)] 66 (0, 0)) from (hb.block _ (blk_lt BKX.out)).trans BKX.out)
    have BKG := Aside0.mk (show w15_.heap[gBKG]? = some (.cells #[(.slice AOG_0 o0.length cOG_0), (.slice AOG_1 o1.length cOG_1), (.slice AOG_2 o2.length cOG_2)] 66 (0, 0)) from (hb.block _ (blk_lt BKG.out)).trans BKG.out)
    have HZ15 := Aside0.mk (show w14_.heap.size ≤ w15_.heap.size from hb.size)
    have HB := Aside0.mk (below_step (show Below w.heap.size w _ from by (with_reducible repeat apply pw_below_drewN); exact HB.out) hb)
    (try clear hczBKP_0 hczBKP_1 hczBKP_2 hczBKW_0 hczBKW_1 hczBKW_2 hczBKX_0 hczBKX_1 hczBKX_2 hczBKG_0 hczBKG_1 hczBKG_2)
    have hczBKP_0 : w15_.cell? ⟨gBKP, 0, none⟩ = some (.slice A0_0 l0_0.length c0_0) := (blk_cell BKP.out 0).trans rfl
    have hczBKP_1 : w15_.cell? ⟨gBKP, 1, none⟩ = some (.slice A0_1 l0_1.length c0_1) := (blk_cell BKP.out 1).trans rfl
    have hczBKP_2 : w15_.cell? ⟨gBKP, 2, none⟩ = some (.slice A0_2 l0_2.length c0_2) := (blk_cell BKP.out 2).trans rfl
    have hczBKW_0 : w15_.cell? ⟨gBKW, 0, none⟩ = some ((.slice AOW_0 o0.length cOW_0)) := (blk_cell BKW.out 0).trans rfl
    have hczBKW_1 : w15_.cell? ⟨gBKW, 1, none⟩ = some ((.slice AOW_1 o1.length cOW_1)) := (blk_cell BKW.out 1).trans rfl
    have hczBKW_2 : w15_.cell? ⟨gBKW, 2, none⟩ = some ((.slice AOW_2 o2.length cOW_2)) := (blk_cell BKW.out 2).trans rfl
    have hczBKX_0 : w15_.cell? ⟨gBKX, 0, none⟩ = some ((.slice AOX_0 l0_0.length cOX_0)) := (blk_cell BKX.out 0).trans rfl
    have hczBKX_1 : w15_.cell? ⟨gBKX, 1, none⟩ = some ((.slice AOX_1 l0_1.length cOX_1)) := (blk_cell BKX.out 1).trans rfl
    have hczBKX_2 : w15_.cell? ⟨gBKX, 2, none⟩ = some ((.slice AOX_2 l0_2.length cOX_2)) := (blk_cell BKX.out 2).trans rfl
    have hczBKG_0 : w15_.cell? ⟨gBKG, 0, none⟩ = some ((.slice AOG_0 o0.length cOG_0)) := (blk_cell BKG.out 0).trans rfl
    have hczBKG_1 : w15_.cell? ⟨gBKG, 1, none⟩ = some ((.slice AOG_1 o1.length cOG_1)) := (blk_cell BKG.out 1).trans rfl
    have hczBKG_2 : w15_.cell? ⟨gBKG, 2, none⟩ = some ((.slice AOG_2 o2.length cOG_2)) := (blk_cell BKG.out 2).trans rfl
    clear hb
    go_wp2_with fail
    refine start_ (n := 5) (S := fun w' => w'.cell? ⟨gBKX, 0, none⟩ = some ((.slice AOX_0 l0_0.length cOX_0)) ∧ w'.cell? ⟨gBKX, 1, none⟩ = some ((.slice AOX_1 l0_1.length cOX_1)) ∧ w'.cell? ⟨gBKX, 2, none⟩ = some ((.slice AOX_2 l0_2.length cOX_2)) ∧ w'.cell? ⟨gBKP, 0, none⟩ = some (.slice A0_0 l0_0.length c0_0) ∧ w'.cell? ⟨gBKP, 1, none⟩ = some (.slice A0_1 l0_1.length c0_1) ∧ w'.cell? ⟨gBKP, 2, none⟩ = some (.slice A0_2 l0_2.length c0_2)) (ds := []) #[false, false, false, false, false] (by kernel_rfl) rfl rfl ⟨(blk_cell BKX.out 0).trans rfl, (blk_cell BKX.out 1).trans rfl, (blk_cell BKX.out 2).trans rfl, (blk_cell BKP.out 0).trans rfl, (blk_cell BKP.out 1).trans rfl, (blk_cell BKP.out 2).trans rfl⟩ (fun hHeld => ?_)
    have hb : Below w15_.heap.size w15_ w15_.drew := below_drew1 (Below.refl _ _)
    (try clear hczBKP_0 hczBKP_1 hczBKP_2 hczBKW_0 hczBKW_1 hczBKW_2 hczBKX_0 hczBKX_1 hczBKX_2 hczBKG_0 hczBKG_1 hczBKG_2)
    generalize w15_.drew = w16_ at hb hHeld ⊢
    have OW := Aside0.mk (OwnDfa.below (show OwnDfa _ _ _ _ _ _ _ _ _ _ _ from by (with_reducible repeat apply OwnDfa.drewN); exact OW.out) hb)
    have OX := Aside0.mk (OwnDfa.below (show OwnDfa _ _ _ _ _ _ _ _ _ _ _ from by (with_reducible repeat apply OwnDfa.drewN); exact OX.out) hb)
    have OZ := Aside0.mk (OwnInt64S.below (show OwnInt64S _ _ _ _ _ _ _ from by (with_reducible repeat apply OwnInt64S.drewN); exact OZ.out) hb)
    have OG := Aside0.mk (OwnDfa.below (show OwnDfa _ _ _ _ _ _ _ _ _ _ _ from by (with_reducible repeat apply OwnDfa.drewN); exact OG.out) hb)
    have BKP := Aside0.mk (show w16_.heap[gBKP]? = some (.cells #[.slice A0_0 l0_0.length c0_0, .slice A0_1 l0_1.length c0_1, .slice A0_2 l0_2.length c0_2] 63 (0, 0)) from (hb.block _ (blk_lt BKP.out)).trans BKP.out)
    have BKW := Aside0.mk (show w16_.heap[gBKW]? = some (.cells #[(.slice AOW_0 o0.length cOW_0), (.slice AOW_1 o1.length cOW_1), (.slice AOW_2 o2.length cOW_2)] 66 (0, 0)) from (hb.block _ (blk_lt BKW.out)).trans BKW.out)
    have BKX := Aside0.mk (show w16_.heap[gBKX]? = some (.cells #[(.slice AOX_0 l0_0.length cOX_0), (.slice AOX_1 l0_1.length cOX_1), (.slice AOX_2 l0_2.length cOX_2)] 66 (0, 0)) from (hb.block _ (blk_lt BKX.out)).trans BKX.out)
    have BKG := Aside0.mk (show w16_.heap[gBKG]? = some (.cells #[(.slice AOG_0 o0.length cOG_0), (.slice AOG_1 o1.length cOG_1), (.slice AOG_2 o2.length cOG_2)] 66 (0, 0)) from (hb.block _ (blk_lt BKG.out)).trans BKG.out)
    have HZ16 := Aside0.mk (show w15_.heap.size ≤ w16_.heap.size from hb.size)
    have HB := Aside0.mk (below_step (show Below w.heap.size w _ from by (with_reducible repeat apply pw_below_drewN); exact HB.out) hb)
    have hczBKP_0 : w16_.cell? ⟨gBKP, 0, none⟩ = some (.slice A0_0 l0_0.length c0_0) := (blk_cell BKP.out 0).trans rfl
    have hczBKP_1 : w16_.cell? ⟨gBKP, 1, none⟩ = some (.slice A0_1 l0_1.length c0_1) := (blk_cell BKP.out 1).trans rfl
    have hczBKP_2 : w16_.cell? ⟨gBKP, 2, none⟩ = some (.slice A0_2 l0_2.length c0_2) := (blk_cell BKP.out 2).trans rfl
    have hczBKW_0 : w16_.cell? ⟨gBKW, 0, none⟩ = some ((.slice AOW_0 o0.length cOW_0)) := (blk_cell BKW.out 0).trans rfl
    have hczBKW_1 : w16_.cell? ⟨gBKW, 1, none⟩ = some ((.slice AOW_1 o1.length cOW_1)) := (blk_cell BKW.out 1).trans rfl
    have hczBKW_2 : w16_.cell? ⟨gBKW, 2, none⟩ = some ((.slice AOW_2 o2.length cOW_2)) := (blk_cell BKW.out 2).trans rfl
    have hczBKX_0 : w16_.cell? ⟨gBKX, 0, none⟩ = some ((.slice AOX_0 l0_0.length cOX_0)) := (blk_cell BKX.out 0).trans rfl
    have hczBKX_1 : w16_.cell? ⟨gBKX, 1, none⟩ = some ((.slice AOX_1 l0_1.length cOX_1)) := (blk_cell BKX.out 1).trans rfl
    have hczBKX_2 : w16_.cell? ⟨gBKX, 2, none⟩ = some ((.slice AOX_2 l0_2.length cOX_2)) := (blk_cell BKX.out 2).trans rfl
    have hczBKG_0 : w16_.cell? ⟨gBKG, 0, none⟩ = some ((.slice AOG_0 o0.length cOG_0)) := (blk_cell BKG.out 0).trans rfl
    have hczBKG_1 : w16_.cell? ⟨gBKG, 1, none⟩ = some ((.slice AOG_1 o1.length cOG_1)) := (blk_cell BKG.out 1).trans rfl
    have hczBKG_2 : w16_.cell? ⟨gBKG, 2, none⟩ = some ((.slice AOG_2 o2.length cOG_2)) := (blk_cell BKG.out 2).trans rfl
    clear hb
    refine take_ (i := 0) (N := some 38) (v := ?_) (a' := ?_) #[true, false, false, false, false] rfl rfl (by kernel_rfl) (fun _ _ _ h => h) (Or.inl ⟨by rfl, ?_⟩) hHeld ?_ ?_
    rotate_left
    · rintro w' ⟨s0, s1, s2, s3, s4, s5⟩
      go_simp
      with_reducible rfl
    rotate_left
    · simp only [Act.put, List.setIfInBounds_toArray, List.set_cons_zero, List.set_cons_succ, i64_w, i32_w]
      rfl
    refine take_ (i := 1) (N := some 39) (v := ?_) (a' := ?_) #[true, true, false, false, false] rfl rfl (by kernel_rfl) (fun _ _ _ h => h) (Or.inl ⟨by rfl, ?_⟩) hHeld ?_ ?_
    rotate_left
    · rintro w' ⟨s0, s1, s2, s3, s4, s5⟩
      go_simp
      with_reducible rfl
    rotate_left
    · simp only [Act.put, List.setIfInBounds_toArray, List.set_cons_zero, List.set_cons_succ, i64_w, i32_w]
      rfl
    refine one_ (i := 2) (N := some 40) #[true, true, true, false, false] rfl rfl (by kernel_rfl) (by decide) (fun K hK => ?_)
    refine goes_ Try.func47 (by kernel_rfl) rfl #[.agg #[.slice A0_0 l0_0.length c0_0, .slice A0_1 l0_1.length c0_1, .slice A0_2 l0_2.length c0_2]] (by rfl) rfl rfl (by (try simp only [List.map_toArray, List.map_cons, List.map_nil]); first | done | rfl | (simp only [List.length_drop, List.length_take]; rfl)) ?_
    refine (laws_toDfa.calls k _ _ l0_0 _ _ l0_1 _ _ l0_2 l0_0 l0_1 l0_2 _ ?s51_ ?s52_ ?s53_ ?s54_ ?s55_ ?s56_ HF0.out).mono ?_
    case s51_ => (with_reducible repeat refine Kd.C_drewN ?_ _); exact Kd.C_below HR0_0.out HB.out
    case s52_ => exact HC0_0.out
    case s53_ => (with_reducible repeat refine Kd.C_drewN ?_ _); exact Kd.C_below HR0_1.out HB.out
    case s54_ => exact HC0_1.out
    case s55_ => (with_reducible repeat refine Kd.C_drewN ?_ _); exact Kd.C_below HR0_2.out HB.out
    case s56_ => exact HC0_2.out
    rintro e w17_ ⟨vY0, vY1, vY2, rfl, ho0, ho1, ho2, hb⟩
    refine ⟨_, rfl, ?_⟩
    have hOY : OwnDfa False w17_ w.heap.size w16_.heap.size w17_.heap.size vY0 vY1 vY2 l0_0 l0_1 l0_2 := OwnDfa.of0 (show w.heap.size ≤ w16_.heap.size from by have z0_ := HZ1.out; have z1_ := HGBKP.out; have z2_ := HZ2.out; have z3_ := HZ3.out; have z4_ := HZ4.out; have z5_ := HZ5.out; have z6_ := HZ6.out; have z7_ := HGBKW.out; have z8_ := HZ7.out; have z9_ := HZ8.out; have z10_ := HZ9.out; have z11_ := HGBKX.out; have z12_ := HZ10.out; have z13_ := HZ11.out; have z14_ := HZ12.out; have z15_ := HZ13.out; have z16_ := HGBKG.out; have z17_ := HZ14.out; have z18_ := HZ15.out; have z19_ := HZ16.out; omega) ho0 ho1 ho2 
    obtain ⟨AOY_0, cOY_0, AOY_1, cOY_1, AOY_2, cOY_2, eOY_0, eOY_1, eOY_2⟩ := hOY.slices
    subst eOY_0
    subst eOY_1
    subst eOY_2
    have OW := Aside0.mk (OwnDfa.below (show OwnDfa _ _ _ _ _ _ _ _ _ _ _ from by (with_reducible repeat apply OwnDfa.drewN); exact OW.out) hb)
    have OX := Aside0.mk (OwnDfa.below (show OwnDfa _ _ _ _ _ _ _ _ _ _ _ from by (with_reducible repeat apply OwnDfa.drewN); exact OX.out) hb)
    have OZ := Aside0.mk (OwnInt64S.below (show OwnInt64S _ _ _ _ _ _ _ from by (with_reducible repeat apply OwnInt64S.drewN); exact OZ.out) hb)
    have OG := Aside0.mk (OwnDfa.below (show OwnDfa _ _ _ _ _ _ _ _ _ _ _ from by (with_reducible repeat apply OwnDfa.drewN); exact OG.out) hb)
    have BKP := Aside0.mk (show w17_.heap[gBKP]? = some (.cells #[.slice A0_0 l0_0.length c0_0, .slice A0_1 l0_1.length c0_1, .slice A0_2 l0_2.length c0_2] 63 (0, 0)) from (hb.block _ (blk_lt BKP.out)).trans BKP.out)
    have BKW := Aside0.mk (show w17_.heap[gBKW]? = some (.cells #[(.slice AOW_0 o0.length cOW_0), (.slice AOW_1 o1.length cOW_1), (.slice AOW_2 o2.length cOW_2)] 66 (0, 0)) from (hb.block _ (blk_lt BKW.out)).trans BKW.out)
    have BKX := Aside0.mk (show w17_.heap[gBKX]? = some (.cells #[(.slice AOX_0 l0_0.length cOX_0), (.slice AOX_1 l0_1.length cOX_1), (.slice AOX_2 l0_2.length cOX_2)] 66 (0, 0)) from (hb.block _ (blk_lt BKX.out)).trans BKX.out)
    have BKG := Aside0.mk (show w17_.heap[gBKG]? = some (.cells #[(.slice AOG_0 o0.length cOG_0), (.slice AOG_1 o1.length cOG_1), (.slice AOG_2 o2.length cOG_2)] 66 (0, 0)) from (hb.block _ (blk_lt BKG.out)).trans BKG.out)
    have HZ17 := Aside0.mk (show w16_.heap.size ≤ w17_.heap.size from hb.size)
    have HB := Aside0.mk (below_step (show Below w.heap.size w _ from by (with_reducible repeat apply pw_below_drewN); exact HB.out) hb)
    have OY := Aside0.mk hOY
    clear hOY hb ho0 ho1 ho2
    (try clear hczBKP_0 hczBKP_1 hczBKP_2 hczBKW_0 hczBKW_1 hczBKW_2 hczBKX_0 hczBKX_1 hczBKX_2 hczBKG_0 hczBKG_1 hczBKG_2)
    have hczBKP_0 : w17_.cell? ⟨gBKP, 0, none⟩ = some (.slice A0_0 l0_0.length c0_0) := (blk_cell BKP.out 0).trans rfl
    have hczBKP_1 : w17_.cell? ⟨gBKP, 1, none⟩ = some (.slice A0_1 l0_1.length c0_1) := (blk_cell BKP.out 1).trans rfl
    have hczBKP_2 : w17_.cell? ⟨gBKP, 2, none⟩ = some (.slice A0_2 l0_2.length c0_2) := (blk_cell BKP.out 2).trans rfl
    have hczBKW_0 : w17_.cell? ⟨gBKW, 0, none⟩ = some ((.slice AOW_0 o0.length cOW_0)) := (blk_cell BKW.out 0).trans rfl
    have hczBKW_1 : w17_.cell? ⟨gBKW, 1, none⟩ = some ((.slice AOW_1 o1.length cOW_1)) := (blk_cell BKW.out 1).trans rfl
    have hczBKW_2 : w17_.cell? ⟨gBKW, 2, none⟩ = some ((.slice AOW_2 o2.length cOW_2)) := (blk_cell BKW.out 2).trans rfl
    have hczBKX_0 : w17_.cell? ⟨gBKX, 0, none⟩ = some ((.slice AOX_0 l0_0.length cOX_0)) := (blk_cell BKX.out 0).trans rfl
    have hczBKX_1 : w17_.cell? ⟨gBKX, 1, none⟩ = some ((.slice AOX_1 l0_1.length cOX_1)) := (blk_cell BKX.out 1).trans rfl
    have hczBKX_2 : w17_.cell? ⟨gBKX, 2, none⟩ = some ((.slice AOX_2 l0_2.length cOX_2)) := (blk_cell BKX.out 2).trans rfl
    have hczBKG_0 : w17_.cell? ⟨gBKG, 0, none⟩ = some ((.slice AOG_0 o0.length cOG_0)) := (blk_cell BKG.out 0).trans rfl
    have hczBKG_1 : w17_.cell? ⟨gBKG, 1, none⟩ = some ((.slice AOG_1 o1.length cOG_1)) := (blk_cell BKG.out 1).trans rfl
    have hczBKG_2 : w17_.cell? ⟨gBKG, 2, none⟩ = some ((.slice AOG_2 o2.length cOG_2)) := (blk_cell BKG.out 2).trans rfl
    refine hK.out _ _ ⟨(blk_cell BKX.out 0).trans rfl, (blk_cell BKX.out 1).trans rfl, (blk_cell BKX.out 2).trans rfl, (blk_cell BKP.out 0).trans rfl, (blk_cell BKP.out 1).trans rfl, (blk_cell BKP.out 2).trans rfl⟩ (fun hHeld => ?_)
    clear hK K
    refine norm_ (a' := ?_) ?_ ?_
    rotate_left
    · show Act.put _ (some 40) _ = _
      simp only [Act.put, List.setIfInBounds_toArray, List.set_cons_zero, List.set_cons_succ, i64_w, i32_w]
      rfl
    refine one_ (i := 3) (N := some 41) #[true, true, true, true, false] rfl rfl (by kernel_rfl) (by decide) (fun K hK => ?_)
    refine goes_ Try.func50 (by kernel_rfl) rfl #[.agg #[(.slice AOX_0 l0_0.length cOX_0), (.slice AOX_1 l0_1.length cOX_1), (.slice AOX_2 l0_2.length cOX_2)], .agg #[(.slice AOY_0 l0_0.length cOY_0), (.slice AOY_1 l0_1.length cOY_1), (.slice AOY_2 l0_2.length cOY_2)]] (by rfl) rfl rfl (by (try simp only [List.map_toArray, List.map_cons, List.map_nil]); first | done | rfl | (simp only [List.length_drop, List.length_take]; rfl)) ?_
    refine (laws_eqDfa.calls k _ _ l0_0 _ _ l0_1 _ _ l0_2 _ _ l0_0 _ _ l0_1 _ _ l0_2 true _ ?s57_ ?s58_ ?s59_ ?s60_ ?s61_ ?s62_ ?s63_ ?s64_ ?s65_ ?s66_ ?s67_ ?s68_ HF4.out).mono ?_
    case s57_ => exact (OwnDfa.rd0 (by (with_reducible repeat apply OwnDfa.drewN); exact OX.out) rfl).2.2
    case s58_ => exact (OwnDfa.rd0 OX.out rfl).2.1
    case s59_ => exact (OwnDfa.rd1 (by (with_reducible repeat apply OwnDfa.drewN); exact OX.out) rfl).2.2
    case s60_ => exact (OwnDfa.rd1 OX.out rfl).2.1
    case s61_ => exact (OwnDfa.rd2 (by (with_reducible repeat apply OwnDfa.drewN); exact OX.out) rfl).2.2
    case s62_ => exact (OwnDfa.rd2 OX.out rfl).2.1
    case s63_ => exact (OwnDfa.rd0 (by (with_reducible repeat apply OwnDfa.drewN); exact OY.out) rfl).2.2
    case s64_ => exact (OwnDfa.rd0 OY.out rfl).2.1
    case s65_ => exact (OwnDfa.rd1 (by (with_reducible repeat apply OwnDfa.drewN); exact OY.out) rfl).2.2
    case s66_ => exact (OwnDfa.rd1 OY.out rfl).2.1
    case s67_ => exact (OwnDfa.rd2 (by (with_reducible repeat apply OwnDfa.drewN); exact OY.out) rfl).2.2
    case s68_ => exact (OwnDfa.rd2 OY.out rfl).2.1
    rintro e w18_ ⟨rfl, hb⟩
    refine ⟨_, rfl, ?_⟩
    have OW := Aside0.mk (OwnDfa.below (show OwnDfa _ _ _ _ _ _ _ _ _ _ _ from by (with_reducible repeat apply OwnDfa.drewN); exact OW.out) hb)
    have OX := Aside0.mk (OwnDfa.below (show OwnDfa _ _ _ _ _ _ _ _ _ _ _ from by (with_reducible repeat apply OwnDfa.drewN); exact OX.out) hb)
    have OZ := Aside0.mk (OwnInt64S.below (show OwnInt64S _ _ _ _ _ _ _ from by (with_reducible repeat apply OwnInt64S.drewN); exact OZ.out) hb)
    have OG := Aside0.mk (OwnDfa.below (show OwnDfa _ _ _ _ _ _ _ _ _ _ _ from by (with_reducible repeat apply OwnDfa.drewN); exact OG.out) hb)
    have OY := Aside0.mk (OwnDfa.below (show OwnDfa _ _ _ _ _ _ _ _ _ _ _ from by (with_reducible repeat apply OwnDfa.drewN); exact OY.out) hb)
    have BKP := Aside0.mk (show w18_.heap[gBKP]? = some (.cells #[.slice A0_0 l0_0.length c0_0, .slice A0_1 l0_1.length c0_1, .slice A0_2 l0_2.length c0_2] 63 (0, 0)) from (hb.block _ (blk_lt BKP.out)).trans BKP.out)
    have BKW := Aside0.mk (show w18_.heap[gBKW]? = some (.cells #[(.slice AOW_0 o0.length cOW_0), (.slice AOW_1 o1.length cOW_1), (.slice AOW_2 o2.length cOW_2)] 66 (0, 0)) from (hb.block _ (blk_lt BKW.out)).trans BKW.out)
    have BKX := Aside0.mk (show w18_.heap[gBKX]? = some (.cells #[(.slice AOX_0 l0_0.length cOX_0), (.slice AOX_1 l0_1.length cOX_1), (.slice AOX_2 l0_2.length cOX_2)] 66 (0, 0)) from (hb.block _ (blk_lt BKX.out)).trans BKX.out)
    have BKG := Aside0.mk (show w18_.heap[gBKG]? = some (.cells #[(.slice AOG_0 o0.length cOG_0), (.slice AOG_1 o1.length cOG_1), (.slice AOG_2 o2.length cOG_2)] 66 (0, 0)) from (hb.block _ (blk_lt BKG.out)).trans BKG.out)
    have HZ18 := Aside0.mk (show w17_.heap.size ≤ w18_.heap.size from hb.size)
    have HB := Aside0.mk (below_step (show Below w.heap.size w _ from by (with_reducible repeat apply pw_below_drewN); exact HB.out) hb)
    (try clear hczBKP_0 hczBKP_1 hczBKP_2 hczBKW_0 hczBKW_1 hczBKW_2 hczBKX_0 hczBKX_1 hczBKX_2 hczBKG_0 hczBKG_1 hczBKG_2)
    have hczBKP_0 : w18_.cell? ⟨gBKP, 0, none⟩ = some (.slice A0_0 l0_0.length c0_0) := (blk_cell BKP.out 0).trans rfl
    have hczBKP_1 : w18_.cell? ⟨gBKP, 1, none⟩ = some (.slice A0_1 l0_1.length c0_1) := (blk_cell BKP.out 1).trans rfl
    have hczBKP_2 : w18_.cell? ⟨gBKP, 2, none⟩ = some (.slice A0_2 l0_2.length c0_2) := (blk_cell BKP.out 2).trans rfl
    have hczBKW_0 : w18_.cell? ⟨gBKW, 0, none⟩ = some ((.slice AOW_0 o0.length cOW_0)) := (blk_cell BKW.out 0).trans rfl
    have hczBKW_1 : w18_.cell? ⟨gBKW, 1, none⟩ = some ((.slice AOW_1 o1.length cOW_1)) := (blk_cell BKW.out 1).trans rfl
    have hczBKW_2 : w18_.cell? ⟨gBKW, 2, none⟩ = some ((.slice AOW_2 o2.length cOW_2)) := (blk_cell BKW.out 2).trans rfl
    have hczBKX_0 : w18_.cell? ⟨gBKX, 0, none⟩ = some ((.slice AOX_0 l0_0.length cOX_0)) := (blk_cell BKX.out 0).trans rfl
    have hczBKX_1 : w18_.cell? ⟨gBKX, 1, none⟩ = some ((.slice AOX_1 l0_1.length cOX_1)) := (blk_cell BKX.out 1).trans rfl
    have hczBKX_2 : w18_.cell? ⟨gBKX, 2, none⟩ = some ((.slice AOX_2 l0_2.length cOX_2)) := (blk_cell BKX.out 2).trans rfl
    have hczBKG_0 : w18_.cell? ⟨gBKG, 0, none⟩ = some ((.slice AOG_0 o0.length cOG_0)) := (blk_cell BKG.out 0).trans rfl
    have hczBKG_1 : w18_.cell? ⟨gBKG, 1, none⟩ = some ((.slice AOG_1 o1.length cOG_1)) := (blk_cell BKG.out 1).trans rfl
    have hczBKG_2 : w18_.cell? ⟨gBKG, 2, none⟩ = some ((.slice AOG_2 o2.length cOG_2)) := (blk_cell BKG.out 2).trans rfl
    clear hb
    refine hK.out _ _ ⟨(blk_cell BKX.out 0).trans rfl, (blk_cell BKX.out 1).trans rfl, (blk_cell BKX.out 2).trans rfl, (blk_cell BKP.out 0).trans rfl, (blk_cell BKP.out 1).trans rfl, (blk_cell BKP.out 2).trans rfl⟩ (fun hHeld => ?_)
    clear hK K
    refine norm_ (a' := ?_) ?_ ?_
    rotate_left
    · show Act.put _ (some 41) _ = _
      simp only [Act.put, List.setIfInBounds_toArray, List.set_cons_zero, List.set_cons_succ, i64_w, i32_w]
      rfl
    refine pure_ (i := 4) (N := some 42) (v := ?_) (a' := ?_) #[true, true, true, true, true] rfl rfl (by kernel_rfl) (fun _ _ _ h => h) (Or.inl ⟨by rfl, ?_⟩) ?_ ?_; rotate_left; (· intro w'; go_simp; with_reducible rfl); rotate_left; (· simp only [Act.put, List.setIfInBounds_toArray, List.set_cons_zero, List.set_cons_succ, i64_w, i32_w]; rfl)
    refine done_ (by kernel_rfl) ?_
    clear hHeld
    clear OY
    go_wp2_with fail
    refine (laws_toInt64S.calls k _ _ l1 l1 _ ?s69_ ?s70_ HF10.out).mono ?_
    case s69_ => (with_reducible repeat refine Kd.C_drewN ?_ _); exact Kd.C_below HR1.out HB.out
    case s70_ => exact HC1.out
    rintro e w19_ ⟨vOT0, rfl, ho0, hb⟩
    have hOT : OwnInt64S False w19_ w.heap.size w18_.heap.size w19_.heap.size vOT0 l1 := OwnInt64S.of0 (show w.heap.size ≤ w18_.heap.size from by have z0_ := HZ1.out; have z1_ := HGBKP.out; have z2_ := HZ2.out; have z3_ := HZ3.out; have z4_ := HZ4.out; have z5_ := HZ5.out; have z6_ := HZ6.out; have z7_ := HGBKW.out; have z8_ := HZ7.out; have z9_ := HZ8.out; have z10_ := HZ9.out; have z11_ := HGBKX.out; have z12_ := HZ10.out; have z13_ := HZ11.out; have z14_ := HZ12.out; have z15_ := HZ13.out; have z16_ := HGBKG.out; have z17_ := HZ14.out; have z18_ := HZ15.out; have z19_ := HZ16.out; have z20_ := HZ17.out; have z21_ := HZ18.out; omega) ho0 
    obtain ⟨AOT_0, cOT_0, eOT_0⟩ := hOT.slices
    subst eOT_0
    have OW := Aside0.mk (OwnDfa.below (show OwnDfa _ _ _ _ _ _ _ _ _ _ _ from by (with_reducible repeat apply OwnDfa.drewN); exact OW.out) hb)
    have OX := Aside0.mk (OwnDfa.below (show OwnDfa _ _ _ _ _ _ _ _ _ _ _ from by (with_reducible repeat apply OwnDfa.drewN); exact OX.out) hb)
    have OZ := Aside0.mk (OwnInt64S.below (show OwnInt64S _ _ _ _ _ _ _ from by (with_reducible repeat apply OwnInt64S.drewN); exact OZ.out) hb)
    have OG := Aside0.mk (OwnDfa.below (show OwnDfa _ _ _ _ _ _ _ _ _ _ _ from by (with_reducible repeat apply OwnDfa.drewN); exact OG.out) hb)
    have BKP := Aside0.mk (show w19_.heap[gBKP]? = some (.cells #[.slice A0_0 l0_0.length c0_0, .slice A0_1 l0_1.length c0_1, .slice A0_2 l0_2.length c0_2] 63 (0, 0)) from (hb.block _ (blk_lt BKP.out)).trans BKP.out)
    have BKW := Aside0.mk (show w19_.heap[gBKW]? = some (.cells #[(.slice AOW_0 o0.length cOW_0), (.slice AOW_1 o1.length cOW_1), (.slice AOW_2 o2.length cOW_2)] 66 (0, 0)) from (hb.block _ (blk_lt BKW.out)).trans BKW.out)
    have BKX := Aside0.mk (show w19_.heap[gBKX]? = some (.cells #[(.slice AOX_0 l0_0.length cOX_0), (.slice AOX_1 l0_1.length cOX_1), (.slice AOX_2 l0_2.length cOX_2)] 66 (0, 0)) from (hb.block _ (blk_lt BKX.out)).trans BKX.out)
    have BKG := Aside0.mk (show w19_.heap[gBKG]? = some (.cells #[(.slice AOG_0 o0.length cOG_0), (.slice AOG_1 o1.length cOG_1), (.slice AOG_2 o2.length cOG_2)] 66 (0, 0)) from (hb.block _ (blk_lt BKG.out)).trans BKG.out)
    have HZ19 := Aside0.mk (show w18_.heap.size ≤ w19_.heap.size from hb.size)
    have HB := Aside0.mk (below_step (show Below w.heap.size w _ from by (with_reducible repeat apply pw_below_drewN); exact HB.out) hb)
    have OT := Aside0.mk hOT
    clear hOT hb ho0
    (try clear hczBKP_0 hczBKP_1 hczBKP_2 hczBKW_0 hczBKW_1 hczBKW_2 hczBKX_0 hczBKX_1 hczBKX_2 hczBKG_0 hczBKG_1 hczBKG_2)
    have hczBKP_0 : w19_.cell? ⟨gBKP, 0, none⟩ = some (.slice A0_0 l0_0.length c0_0) := (blk_cell BKP.out 0).trans rfl
    have hczBKP_1 : w19_.cell? ⟨gBKP, 1, none⟩ = some (.slice A0_1 l0_1.length c0_1) := (blk_cell BKP.out 1).trans rfl
    have hczBKP_2 : w19_.cell? ⟨gBKP, 2, none⟩ = some (.slice A0_2 l0_2.length c0_2) := (blk_cell BKP.out 2).trans rfl
    have hczBKW_0 : w19_.cell? ⟨gBKW, 0, none⟩ = some ((.slice AOW_0 o0.length cOW_0)) := (blk_cell BKW.out 0).trans rfl
    have hczBKW_1 : w19_.cell? ⟨gBKW, 1, none⟩ = some ((.slice AOW_1 o1.length cOW_1)) := (blk_cell BKW.out 1).trans rfl
    have hczBKW_2 : w19_.cell? ⟨gBKW, 2, none⟩ = some ((.slice AOW_2 o2.length cOW_2)) := (blk_cell BKW.out 2).trans rfl
    have hczBKX_0 : w19_.cell? ⟨gBKX, 0, none⟩ = some ((.slice AOX_0 l0_0.length cOX_0)) := (blk_cell BKX.out 0).trans rfl
    have hczBKX_1 : w19_.cell? ⟨gBKX, 1, none⟩ = some ((.slice AOX_1 l0_1.length cOX_1)) := (blk_cell BKX.out 1).trans rfl
    have hczBKX_2 : w19_.cell? ⟨gBKX, 2, none⟩ = some ((.slice AOX_2 l0_2.length cOX_2)) := (blk_cell BKX.out 2).trans rfl
    have hczBKG_0 : w19_.cell? ⟨gBKG, 0, none⟩ = some ((.slice AOG_0 o0.length cOG_0)) := (blk_cell BKG.out 0).trans rfl
    have hczBKG_1 : w19_.cell? ⟨gBKG, 1, none⟩ = some ((.slice AOG_1 o1.length cOG_1)) := (blk_cell BKG.out 1).trans rfl
    have hczBKG_2 : w19_.cell? ⟨gBKG, 2, none⟩ = some ((.slice AOG_2 o2.length cOG_2)) := (blk_cell BKG.out 2).trans rfl
    go_wp2_with fail
    refine (laws_eqInt64S.calls k _ _ l1 _ _ l1 true _ ?s71_ ?s72_ ?s73_ ?s74_ HF11.out).mono ?_
    case s71_ => exact (OwnInt64S.rd0 (by (with_reducible repeat apply OwnInt64S.drewN); exact OZ.out) rfl).2.2
    case s72_ => exact (OwnInt64S.rd0 OZ.out rfl).2.1
    case s73_ => exact (OwnInt64S.rd0 (by (with_reducible repeat apply OwnInt64S.drewN); exact OT.out) rfl).2.2
    case s74_ => exact (OwnInt64S.rd0 OT.out rfl).2.1
    rintro e w20_ ⟨rfl, hb⟩
    replace hb := hb.below
    have OW := Aside0.mk (OwnDfa.below (show OwnDfa _ _ _ _ _ _ _ _ _ _ _ from by (with_reducible repeat apply OwnDfa.drewN); exact OW.out) hb)
    have OX := Aside0.mk (OwnDfa.below (show OwnDfa _ _ _ _ _ _ _ _ _ _ _ from by (with_reducible repeat apply OwnDfa.drewN); exact OX.out) hb)
    have OZ := Aside0.mk (OwnInt64S.below (show OwnInt64S _ _ _ _ _ _ _ from by (with_reducible repeat apply OwnInt64S.drewN); exact OZ.out) hb)
    have OG := Aside0.mk (OwnDfa.below (show OwnDfa _ _ _ _ _ _ _ _ _ _ _ from by (with_reducible repeat apply OwnDfa.drewN); exact OG.out) hb)
    have OT := Aside0.mk (OwnInt64S.below (show OwnInt64S _ _ _ _ _ _ _ from by (with_reducible repeat apply OwnInt64S.drewN); exact OT.out) hb)
    have BKP := Aside0.mk (show w20_.heap[gBKP]? = some (.cells #[.slice A0_0 l0_0.length c0_0, .slice A0_1 l0_1.length c0_1, .slice A0_2 l0_2.length c0_2] 63 (0, 0)) from (hb.block _ (blk_lt BKP.out)).trans BKP.out)
    have BKW := Aside0.mk (show w20_.heap[gBKW]? = some (.cells #[(.slice AOW_0 o0.length cOW_0), (.slice AOW_1 o1.length cOW_1), (.slice AOW_2 o2.length cOW_2)] 66 (0, 0)) from (hb.block _ (blk_lt BKW.out)).trans BKW.out)
    have BKX := Aside0.mk (show w20_.heap[gBKX]? = some (.cells #[(.slice AOX_0 l0_0.length cOX_0), (.slice AOX_1 l0_1.length cOX_1), (.slice AOX_2 l0_2.length cOX_2)] 66 (0, 0)) from (hb.block _ (blk_lt BKX.out)).trans BKX.out)
    have BKG := Aside0.mk (show w20_.heap[gBKG]? = some (.cells #[(.slice AOG_0 o0.length cOG_0), (.slice AOG_1 o1.length cOG_1), (.slice AOG_2 o2.length cOG_2)] 66 (0, 0)) from (hb.block _ (blk_lt BKG.out)).trans BKG.out)
    have HZ20 := Aside0.mk (show w19_.heap.size ≤ w20_.heap.size from hb.size)
    have HB := Aside0.mk (below_step (show Below w.heap.size w _ from by (with_reducible repeat apply pw_below_drewN); exact HB.out) hb)
    (try clear hczBKP_0 hczBKP_1 hczBKP_2 hczBKW_0 hczBKW_1 hczBKW_2 hczBKX_0 hczBKX_1 hczBKX_2 hczBKG_0 hczBKG_1 hczBKG_2)
    have hczBKP_0 : w20_.cell? ⟨gBKP, 0, none⟩ = some (.slice A0_0 l0_0.length c0_0) := (blk_cell BKP.out 0).trans rfl
    have hczBKP_1 : w20_.cell? ⟨gBKP, 1, none⟩ = some (.slice A0_1 l0_1.length c0_1) := (blk_cell BKP.out 1).trans rfl
    have hczBKP_2 : w20_.cell? ⟨gBKP, 2, none⟩ = some (.slice A0_2 l0_2.length c0_2) := (blk_cell BKP.out 2).trans rfl
    have hczBKW_0 : w20_.cell? ⟨gBKW, 0, none⟩ = some ((.slice AOW_0 o0.length cOW_0)) := (blk_cell BKW.out 0).trans rfl
    have hczBKW_1 : w20_.cell? ⟨gBKW, 1, none⟩ = some ((.slice AOW_1 o1.length cOW_1)) := (blk_cell BKW.out 1).trans rfl
    have hczBKW_2 : w20_.cell? ⟨gBKW, 2, none⟩ = some ((.slice AOW_2 o2.length cOW_2)) := (blk_cell BKW.out 2).trans rfl
    have hczBKX_0 : w20_.cell? ⟨gBKX, 0, none⟩ = some ((.slice AOX_0 l0_0.length cOX_0)) := (blk_cell BKX.out 0).trans rfl
    have hczBKX_1 : w20_.cell? ⟨gBKX, 1, none⟩ = some ((.slice AOX_1 l0_1.length cOX_1)) := (blk_cell BKX.out 1).trans rfl
    have hczBKX_2 : w20_.cell? ⟨gBKX, 2, none⟩ = some ((.slice AOX_2 l0_2.length cOX_2)) := (blk_cell BKX.out 2).trans rfl
    have hczBKG_0 : w20_.cell? ⟨gBKG, 0, none⟩ = some ((.slice AOG_0 o0.length cOG_0)) := (blk_cell BKG.out 0).trans rfl
    have hczBKG_1 : w20_.cell? ⟨gBKG, 1, none⟩ = some ((.slice AOG_1 o1.length cOG_1)) := (blk_cell BKG.out 1).trans rfl
    have hczBKG_2 : w20_.cell? ⟨gBKG, 2, none⟩ = some ((.slice AOG_2 o2.length cOG_2)) := (blk_cell BKG.out 2).trans rfl
    clear hb
    clear OT
    go_wp2_with fail
    refine (OwnDfa.mark k 1 m y0 y1 y2 (show OwnDfa _ _ _ _ _ _ _ _ _ _ _ from by (with_reducible repeat apply OwnDfa.drewN); exact OX.out) (show Below w.heap.size w _ from by (with_reducible repeat apply pw_below_drewN); exact HB.out) (show _ ≤ w20_.heap.size from by have z0_ := HZ1.out; have z1_ := HGBKP.out; have z2_ := HZ2.out; have z3_ := HZ3.out; have z4_ := HZ4.out; have z5_ := HZ5.out; have z6_ := HZ6.out; have z7_ := HGBKW.out; have z8_ := HZ7.out; have z9_ := HZ8.out; have z10_ := HZ9.out; have z11_ := HGBKX.out; have z12_ := HZ10.out; have z13_ := HZ11.out; have z14_ := HZ12.out; have z15_ := HZ13.out; have z16_ := HGBKG.out; have z17_ := HZ14.out; have z18_ := HZ15.out; have z19_ := HZ16.out; have z20_ := HZ17.out; have z21_ := HZ18.out; have z22_ := HZ19.out; have z23_ := HZ20.out; omega) HF5.out).mono ?_
    rintro e w21_ ⟨rfl, hY, hB, hk⟩
    have OW := Aside0.mk (OwnDfa.kept (show OwnDfa _ _ _ _ _ _ _ _ _ _ _ from by (with_reducible repeat apply OwnDfa.drewN); exact OW.out) hk (fun k_ h1 h2 h3 => by have z0_ := HZ1.out; have z1_ := HGBKP.out; have z2_ := HZ2.out; have z3_ := HZ3.out; have z4_ := HZ4.out; have z5_ := HZ5.out; have z6_ := HZ6.out; have z7_ := HGBKW.out; have z8_ := HZ7.out; have z9_ := HZ8.out; have z10_ := HZ9.out; have z11_ := HGBKX.out; have z12_ := HZ10.out; have z13_ := HZ11.out; have z14_ := HZ12.out; have z15_ := HZ13.out; have z16_ := HGBKG.out; have z17_ := HZ14.out; have z18_ := HZ15.out; have z19_ := HZ16.out; have z20_ := HZ17.out; have z21_ := HZ18.out; have z22_ := HZ19.out; have z23_ := HZ20.out; omega))
    have OZ := Aside0.mk (OwnInt64S.kept (show OwnInt64S _ _ _ _ _ _ _ from by (with_reducible repeat apply OwnInt64S.drewN); exact OZ.out) hk (fun k_ h1 h2 h3 => by have z0_ := HZ1.out; have z1_ := HGBKP.out; have z2_ := HZ2.out; have z3_ := HZ3.out; have z4_ := HZ4.out; have z5_ := HZ5.out; have z6_ := HZ6.out; have z7_ := HGBKW.out; have z8_ := HZ7.out; have z9_ := HZ8.out; have z10_ := HZ9.out; have z11_ := HGBKX.out; have z12_ := HZ10.out; have z13_ := HZ11.out; have z14_ := HZ12.out; have z15_ := HZ13.out; have z16_ := HGBKG.out; have z17_ := HZ14.out; have z18_ := HZ15.out; have z19_ := HZ16.out; have z20_ := HZ17.out; have z21_ := HZ18.out; have z22_ := HZ19.out; have z23_ := HZ20.out; omega))
    have OG := Aside0.mk (OwnDfa.kept (show OwnDfa _ _ _ _ _ _ _ _ _ _ _ from by (with_reducible repeat apply OwnDfa.drewN); exact OG.out) hk (fun k_ h1 h2 h3 => by have z0_ := HZ1.out; have z1_ := HGBKP.out; have z2_ := HZ2.out; have z3_ := HZ3.out; have z4_ := HZ4.out; have z5_ := HZ5.out; have z6_ := HZ6.out; have z7_ := HGBKW.out; have z8_ := HZ7.out; have z9_ := HZ8.out; have z10_ := HZ9.out; have z11_ := HGBKX.out; have z12_ := HZ10.out; have z13_ := HZ11.out; have z14_ := HZ12.out; have z15_ := HZ13.out; have z16_ := HGBKG.out; have z17_ := HZ14.out; have z18_ := HZ15.out; have z19_ := HZ16.out; have z20_ := HZ17.out; have z21_ := HZ18.out; have z22_ := HZ19.out; have z23_ := HZ20.out; omega))
    have BKP := Aside0.mk (show w21_.heap[gBKP]? = some (.cells #[.slice A0_0 l0_0.length c0_0, .slice A0_1 l0_1.length c0_1, .slice A0_2 l0_2.length c0_2] 63 (0, 0)) from (hk.2 _ (blk_lt BKP.out) (fun h3 => by have z0_ := HZ1.out; have z1_ := HGBKP.out; have z2_ := HZ2.out; have z3_ := HZ3.out; have z4_ := HZ4.out; have z5_ := HZ5.out; have z6_ := HZ6.out; have z7_ := HGBKW.out; have z8_ := HZ7.out; have z9_ := HZ8.out; have z10_ := HZ9.out; have z11_ := HGBKX.out; have z12_ := HZ10.out; have z13_ := HZ11.out; have z14_ := HZ12.out; have z15_ := HZ13.out; have z16_ := HGBKG.out; have z17_ := HZ14.out; have z18_ := HZ15.out; have z19_ := HZ16.out; have z20_ := HZ17.out; have z21_ := HZ18.out; have z22_ := HZ19.out; have z23_ := HZ20.out; omega)).trans BKP.out)
    have BKW := Aside0.mk (show w21_.heap[gBKW]? = some (.cells #[(.slice AOW_0 o0.length cOW_0), (.slice AOW_1 o1.length cOW_1), (.slice AOW_2 o2.length cOW_2)] 66 (0, 0)) from (hk.2 _ (blk_lt BKW.out) (fun h3 => by have z0_ := HZ1.out; have z1_ := HGBKP.out; have z2_ := HZ2.out; have z3_ := HZ3.out; have z4_ := HZ4.out; have z5_ := HZ5.out; have z6_ := HZ6.out; have z7_ := HGBKW.out; have z8_ := HZ7.out; have z9_ := HZ8.out; have z10_ := HZ9.out; have z11_ := HGBKX.out; have z12_ := HZ10.out; have z13_ := HZ11.out; have z14_ := HZ12.out; have z15_ := HZ13.out; have z16_ := HGBKG.out; have z17_ := HZ14.out; have z18_ := HZ15.out; have z19_ := HZ16.out; have z20_ := HZ17.out; have z21_ := HZ18.out; have z22_ := HZ19.out; have z23_ := HZ20.out; omega)).trans BKW.out)
    have BKX := Aside0.mk (show w21_.heap[gBKX]? = some (.cells #[(.slice AOX_0 l0_0.length cOX_0), (.slice AOX_1 l0_1.length cOX_1), (.slice AOX_2 l0_2.length cOX_2)] 66 (0, 0)) from (hk.2 _ (blk_lt BKX.out) (fun h3 => by have z0_ := HZ1.out; have z1_ := HGBKP.out; have z2_ := HZ2.out; have z3_ := HZ3.out; have z4_ := HZ4.out; have z5_ := HZ5.out; have z6_ := HZ6.out; have z7_ := HGBKW.out; have z8_ := HZ7.out; have z9_ := HZ8.out; have z10_ := HZ9.out; have z11_ := HGBKX.out; have z12_ := HZ10.out; have z13_ := HZ11.out; have z14_ := HZ12.out; have z15_ := HZ13.out; have z16_ := HGBKG.out; have z17_ := HZ14.out; have z18_ := HZ15.out; have z19_ := HZ16.out; have z20_ := HZ17.out; have z21_ := HZ18.out; have z22_ := HZ19.out; have z23_ := HZ20.out; omega)).trans BKX.out)
    have BKG := Aside0.mk (show w21_.heap[gBKG]? = some (.cells #[(.slice AOG_0 o0.length cOG_0), (.slice AOG_1 o1.length cOG_1), (.slice AOG_2 o2.length cOG_2)] 66 (0, 0)) from (hk.2 _ (blk_lt BKG.out) (fun h3 => by have z0_ := HZ1.out; have z1_ := HGBKP.out; have z2_ := HZ2.out; have z3_ := HZ3.out; have z4_ := HZ4.out; have z5_ := HZ5.out; have z6_ := HZ6.out; have z7_ := HGBKW.out; have z8_ := HZ7.out; have z9_ := HZ8.out; have z10_ := HZ9.out; have z11_ := HGBKX.out; have z12_ := HZ10.out; have z13_ := HZ11.out; have z14_ := HZ12.out; have z15_ := HZ13.out; have z16_ := HGBKG.out; have z17_ := HZ14.out; have z18_ := HZ15.out; have z19_ := HZ16.out; have z20_ := HZ17.out; have z21_ := HZ18.out; have z22_ := HZ19.out; have z23_ := HZ20.out; omega)).trans BKG.out)
    have HZ21 := Aside0.mk (show w20_.heap.size ≤ w21_.heap.size from hk.1)
    have OX := Aside0.mk hY
    have HB := Aside0.mk hB
    clear hY hB hk
    (try clear hczBKP_0 hczBKP_1 hczBKP_2 hczBKW_0 hczBKW_1 hczBKW_2 hczBKX_0 hczBKX_1 hczBKX_2 hczBKG_0 hczBKG_1 hczBKG_2)
    have hczBKP_0 : w21_.cell? ⟨gBKP, 0, none⟩ = some (.slice A0_0 l0_0.length c0_0) := (blk_cell BKP.out 0).trans rfl
    have hczBKP_1 : w21_.cell? ⟨gBKP, 1, none⟩ = some (.slice A0_1 l0_1.length c0_1) := (blk_cell BKP.out 1).trans rfl
    have hczBKP_2 : w21_.cell? ⟨gBKP, 2, none⟩ = some (.slice A0_2 l0_2.length c0_2) := (blk_cell BKP.out 2).trans rfl
    have hczBKW_0 : w21_.cell? ⟨gBKW, 0, none⟩ = some ((.slice AOW_0 o0.length cOW_0)) := (blk_cell BKW.out 0).trans rfl
    have hczBKW_1 : w21_.cell? ⟨gBKW, 1, none⟩ = some ((.slice AOW_1 o1.length cOW_1)) := (blk_cell BKW.out 1).trans rfl
    have hczBKW_2 : w21_.cell? ⟨gBKW, 2, none⟩ = some ((.slice AOW_2 o2.length cOW_2)) := (blk_cell BKW.out 2).trans rfl
    have hczBKX_0 : w21_.cell? ⟨gBKX, 0, none⟩ = some ((.slice AOX_0 l0_0.length cOX_0)) := (blk_cell BKX.out 0).trans rfl
    have hczBKX_1 : w21_.cell? ⟨gBKX, 1, none⟩ = some ((.slice AOX_1 l0_1.length cOX_1)) := (blk_cell BKX.out 1).trans rfl
    have hczBKX_2 : w21_.cell? ⟨gBKX, 2, none⟩ = some ((.slice AOX_2 l0_2.length cOX_2)) := (blk_cell BKX.out 2).trans rfl
    have hczBKG_0 : w21_.cell? ⟨gBKG, 0, none⟩ = some ((.slice AOG_0 o0.length cOG_0)) := (blk_cell BKG.out 0).trans rfl
    have hczBKG_1 : w21_.cell? ⟨gBKG, 1, none⟩ = some ((.slice AOG_1 o1.length cOG_1)) := (blk_cell BKG.out 1).trans rfl
    have hczBKG_2 : w21_.cell? ⟨gBKG, 2, none⟩ = some ((.slice AOG_2 o2.length cOG_2)) := (blk_cell BKG.out 2).trans rfl
    clear OX
    go_wp2_with fail
    refine (OwnInt64S.mark k m m3 q0 (show OwnInt64S _ _ _ _ _ _ _ from by (with_reducible repeat apply OwnInt64S.drewN); exact OZ.out) (show Below w.heap.size w _ from by (with_reducible repeat apply pw_below_drewN); exact HB.out) (show _ ≤ w21_.heap.size from by have z0_ := HZ1.out; have z1_ := HGBKP.out; have z2_ := HZ2.out; have z3_ := HZ3.out; have z4_ := HZ4.out; have z5_ := HZ5.out; have z6_ := HZ6.out; have z7_ := HGBKW.out; have z8_ := HZ7.out; have z9_ := HZ8.out; have z10_ := HZ9.out; have z11_ := HGBKX.out; have z12_ := HZ10.out; have z13_ := HZ11.out; have z14_ := HZ12.out; have z15_ := HZ13.out; have z16_ := HGBKG.out; have z17_ := HZ14.out; have z18_ := HZ15.out; have z19_ := HZ16.out; have z20_ := HZ17.out; have z21_ := HZ18.out; have z22_ := HZ19.out; have z23_ := HZ20.out; have z24_ := HZ21.out; omega) HF12.out).mono ?_
    rintro e w22_ ⟨rfl, hY, hB, hk⟩
    have OW := Aside0.mk (OwnDfa.kept (show OwnDfa _ _ _ _ _ _ _ _ _ _ _ from by (with_reducible repeat apply OwnDfa.drewN); exact OW.out) hk (fun k_ h1 h2 h3 => by have z0_ := HZ1.out; have z1_ := HGBKP.out; have z2_ := HZ2.out; have z3_ := HZ3.out; have z4_ := HZ4.out; have z5_ := HZ5.out; have z6_ := HZ6.out; have z7_ := HGBKW.out; have z8_ := HZ7.out; have z9_ := HZ8.out; have z10_ := HZ9.out; have z11_ := HGBKX.out; have z12_ := HZ10.out; have z13_ := HZ11.out; have z14_ := HZ12.out; have z15_ := HZ13.out; have z16_ := HGBKG.out; have z17_ := HZ14.out; have z18_ := HZ15.out; have z19_ := HZ16.out; have z20_ := HZ17.out; have z21_ := HZ18.out; have z22_ := HZ19.out; have z23_ := HZ20.out; have z24_ := HZ21.out; omega))
    have OG := Aside0.mk (OwnDfa.kept (show OwnDfa _ _ _ _ _ _ _ _ _ _ _ from by (with_reducible repeat apply OwnDfa.drewN); exact OG.out) hk (fun k_ h1 h2 h3 => by have z0_ := HZ1.out; have z1_ := HGBKP.out; have z2_ := HZ2.out; have z3_ := HZ3.out; have z4_ := HZ4.out; have z5_ := HZ5.out; have z6_ := HZ6.out; have z7_ := HGBKW.out; have z8_ := HZ7.out; have z9_ := HZ8.out; have z10_ := HZ9.out; have z11_ := HGBKX.out; have z12_ := HZ10.out; have z13_ := HZ11.out; have z14_ := HZ12.out; have z15_ := HZ13.out; have z16_ := HGBKG.out; have z17_ := HZ14.out; have z18_ := HZ15.out; have z19_ := HZ16.out; have z20_ := HZ17.out; have z21_ := HZ18.out; have z22_ := HZ19.out; have z23_ := HZ20.out; have z24_ := HZ21.out; omega))
    have BKP := Aside0.mk (show w22_.heap[gBKP]? = some (.cells #[.slice A0_0 l0_0.length c0_0, .slice A0_1 l0_1.length c0_1, .slice A0_2 l0_2.length c0_2] 63 (0, 0)) from (hk.2 _ (blk_lt BKP.out) (fun h3 => by have z0_ := HZ1.out; have z1_ := HGBKP.out; have z2_ := HZ2.out; have z3_ := HZ3.out; have z4_ := HZ4.out; have z5_ := HZ5.out; have z6_ := HZ6.out; have z7_ := HGBKW.out; have z8_ := HZ7.out; have z9_ := HZ8.out; have z10_ := HZ9.out; have z11_ := HGBKX.out; have z12_ := HZ10.out; have z13_ := HZ11.out; have z14_ := HZ12.out; have z15_ := HZ13.out; have z16_ := HGBKG.out; have z17_ := HZ14.out; have z18_ := HZ15.out; have z19_ := HZ16.out; have z20_ := HZ17.out; have z21_ := HZ18.out; have z22_ := HZ19.out; have z23_ := HZ20.out; have z24_ := HZ21.out; omega)).trans BKP.out)
    have BKW := Aside0.mk (show w22_.heap[gBKW]? = some (.cells #[(.slice AOW_0 o0.length cOW_0), (.slice AOW_1 o1.length cOW_1), (.slice AOW_2 o2.length cOW_2)] 66 (0, 0)) from (hk.2 _ (blk_lt BKW.out) (fun h3 => by have z0_ := HZ1.out; have z1_ := HGBKP.out; have z2_ := HZ2.out; have z3_ := HZ3.out; have z4_ := HZ4.out; have z5_ := HZ5.out; have z6_ := HZ6.out; have z7_ := HGBKW.out; have z8_ := HZ7.out; have z9_ := HZ8.out; have z10_ := HZ9.out; have z11_ := HGBKX.out; have z12_ := HZ10.out; have z13_ := HZ11.out; have z14_ := HZ12.out; have z15_ := HZ13.out; have z16_ := HGBKG.out; have z17_ := HZ14.out; have z18_ := HZ15.out; have z19_ := HZ16.out; have z20_ := HZ17.out; have z21_ := HZ18.out; have z22_ := HZ19.out; have z23_ := HZ20.out; have z24_ := HZ21.out; omega)).trans BKW.out)
    have BKX := Aside0.mk (show w22_.heap[gBKX]? = some (.cells #[(.slice AOX_0 l0_0.length cOX_0), (.slice AOX_1 l0_1.length cOX_1), (.slice AOX_2 l0_2.length cOX_2)] 66 (0, 0)) from (hk.2 _ (blk_lt BKX.out) (fun h3 => by have z0_ := HZ1.out; have z1_ := HGBKP.out; have z2_ := HZ2.out; have z3_ := HZ3.out; have z4_ := HZ4.out; have z5_ := HZ5.out; have z6_ := HZ6.out; have z7_ := HGBKW.out; have z8_ := HZ7.out; have z9_ := HZ8.out; have z10_ := HZ9.out; have z11_ := HGBKX.out; have z12_ := HZ10.out; have z13_ := HZ11.out; have z14_ := HZ12.out; have z15_ := HZ13.out; have z16_ := HGBKG.out; have z17_ := HZ14.out; have z18_ := HZ15.out; have z19_ := HZ16.out; have z20_ := HZ17.out; have z21_ := HZ18.out; have z22_ := HZ19.out; have z23_ := HZ20.out; have z24_ := HZ21.out; omega)).trans BKX.out)
    have BKG := Aside0.mk (show w22_.heap[gBKG]? = some (.cells #[(.slice AOG_0 o0.length cOG_0), (.slice AOG_1 o1.length cOG_1), (.slice AOG_2 o2.length cOG_2)] 66 (0, 0)) from (hk.2 _ (blk_lt BKG.out) (fun h3 => by have z0_ := HZ1.out; have z1_ := HGBKP.out; have z2_ := HZ2.out; have z3_ := HZ3.out; have z4_ := HZ4.out; have z5_ := HZ5.out; have z6_ := HZ6.out; have z7_ := HGBKW.out; have z8_ := HZ7.out; have z9_ := HZ8.out; have z10_ := HZ9.out; have z11_ := HGBKX.out; have z12_ := HZ10.out; have z13_ := HZ11.out; have z14_ := HZ12.out; have z15_ := HZ13.out; have z16_ := HGBKG.out; have z17_ := HZ14.out; have z18_ := HZ15.out; have z19_ := HZ16.out; have z20_ := HZ17.out; have z21_ := HZ18.out; have z22_ := HZ19.out; have z23_ := HZ20.out; have z24_ := HZ21.out; omega)).trans BKG.out)
    have HZ22 := Aside0.mk (show w21_.heap.size ≤ w22_.heap.size from hk.1)
    have OZ := Aside0.mk hY
    have HB := Aside0.mk hB
    clear hY hB hk
    have t1 : (m3 < 0) = False := eq_false (by have := HF6.out; omega)
    (try clear hczBKP_0 hczBKP_1 hczBKP_2 hczBKW_0 hczBKW_1 hczBKW_2 hczBKX_0 hczBKX_1 hczBKX_2 hczBKG_0 hczBKG_1 hczBKG_2)
    have hczBKP_0 : w22_.cell? ⟨gBKP, 0, none⟩ = some (.slice A0_0 l0_0.length c0_0) := (blk_cell BKP.out 0).trans rfl
    have hczBKP_1 : w22_.cell? ⟨gBKP, 1, none⟩ = some (.slice A0_1 l0_1.length c0_1) := (blk_cell BKP.out 1).trans rfl
    have hczBKP_2 : w22_.cell? ⟨gBKP, 2, none⟩ = some (.slice A0_2 l0_2.length c0_2) := (blk_cell BKP.out 2).trans rfl
    have hczBKW_0 : w22_.cell? ⟨gBKW, 0, none⟩ = some ((.slice AOW_0 o0.length cOW_0)) := (blk_cell BKW.out 0).trans rfl
    have hczBKW_1 : w22_.cell? ⟨gBKW, 1, none⟩ = some ((.slice AOW_1 o1.length cOW_1)) := (blk_cell BKW.out 1).trans rfl
    have hczBKW_2 : w22_.cell? ⟨gBKW, 2, none⟩ = some ((.slice AOW_2 o2.length cOW_2)) := (blk_cell BKW.out 2).trans rfl
    have hczBKX_0 : w22_.cell? ⟨gBKX, 0, none⟩ = some ((.slice AOX_0 l0_0.length cOX_0)) := (blk_cell BKX.out 0).trans rfl
    have hczBKX_1 : w22_.cell? ⟨gBKX, 1, none⟩ = some ((.slice AOX_1 l0_1.length cOX_1)) := (blk_cell BKX.out 1).trans rfl
    have hczBKX_2 : w22_.cell? ⟨gBKX, 2, none⟩ = some ((.slice AOX_2 l0_2.length cOX_2)) := (blk_cell BKX.out 2).trans rfl
    have hczBKG_0 : w22_.cell? ⟨gBKG, 0, none⟩ = some ((.slice AOG_0 o0.length cOG_0)) := (blk_cell BKG.out 0).trans rfl
    have hczBKG_1 : w22_.cell? ⟨gBKG, 1, none⟩ = some ((.slice AOG_1 o1.length cOG_1)) := (blk_cell BKG.out 1).trans rfl
    have hczBKG_2 : w22_.cell? ⟨gBKG, 2, none⟩ = some ((.slice AOG_2 o2.length cOG_2)) := (blk_cell BKG.out 2).trans rfl
    clear OZ
    go_wp2_with fail
    refine (laws_eqDfa.calls k _ _ o0 _ _ o1 _ _ o2 _ _ o0 _ _ o1 _ _ o2 true _ ?s75_ ?s76_ ?s77_ ?s78_ ?s79_ ?s80_ ?s81_ ?s82_ ?s83_ ?s84_ ?s85_ ?s86_ HF3.out).mono ?_
    case s75_ => exact (OwnDfa.rd0 (by (with_reducible repeat apply OwnDfa.drewN); exact OG.out) rfl).2.2
    case s76_ => exact (OwnDfa.rd0 OG.out rfl).2.1
    case s77_ => exact (OwnDfa.rd1 (by (with_reducible repeat apply OwnDfa.drewN); exact OG.out) rfl).2.2
    case s78_ => exact (OwnDfa.rd1 OG.out rfl).2.1
    case s79_ => exact (OwnDfa.rd2 (by (with_reducible repeat apply OwnDfa.drewN); exact OG.out) rfl).2.2
    case s80_ => exact (OwnDfa.rd2 OG.out rfl).2.1
    case s81_ => exact (OwnDfa.rd0 (by (with_reducible repeat apply OwnDfa.drewN); exact OW.out) rfl).2.2
    case s82_ => exact (OwnDfa.rd0 OW.out rfl).2.1
    case s83_ => exact (OwnDfa.rd1 (by (with_reducible repeat apply OwnDfa.drewN); exact OW.out) rfl).2.2
    case s84_ => exact (OwnDfa.rd1 OW.out rfl).2.1
    case s85_ => exact (OwnDfa.rd2 (by (with_reducible repeat apply OwnDfa.drewN); exact OW.out) rfl).2.2
    case s86_ => exact (OwnDfa.rd2 OW.out rfl).2.1
    rintro e w23_ ⟨rfl, hb⟩
    have OW := Aside0.mk (OwnDfa.below (show OwnDfa _ _ _ _ _ _ _ _ _ _ _ from by (with_reducible repeat apply OwnDfa.drewN); exact OW.out) hb)
    have OG := Aside0.mk (OwnDfa.below (show OwnDfa _ _ _ _ _ _ _ _ _ _ _ from by (with_reducible repeat apply OwnDfa.drewN); exact OG.out) hb)
    have BKP := Aside0.mk (show w23_.heap[gBKP]? = some (.cells #[.slice A0_0 l0_0.length c0_0, .slice A0_1 l0_1.length c0_1, .slice A0_2 l0_2.length c0_2] 63 (0, 0)) from (hb.block _ (blk_lt BKP.out)).trans BKP.out)
    have BKW := Aside0.mk (show w23_.heap[gBKW]? = some (.cells #[(.slice AOW_0 o0.length cOW_0), (.slice AOW_1 o1.length cOW_1), (.slice AOW_2 o2.length cOW_2)] 66 (0, 0)) from (hb.block _ (blk_lt BKW.out)).trans BKW.out)
    have BKX := Aside0.mk (show w23_.heap[gBKX]? = some (.cells #[(.slice AOX_0 l0_0.length cOX_0), (.slice AOX_1 l0_1.length cOX_1), (.slice AOX_2 l0_2.length cOX_2)] 66 (0, 0)) from (hb.block _ (blk_lt BKX.out)).trans BKX.out)
    have BKG := Aside0.mk (show w23_.heap[gBKG]? = some (.cells #[(.slice AOG_0 o0.length cOG_0), (.slice AOG_1 o1.length cOG_1), (.slice AOG_2 o2.length cOG_2)] 66 (0, 0)) from (hb.block _ (blk_lt BKG.out)).trans BKG.out)
    have HZ23 := Aside0.mk (show w22_.heap.size ≤ w23_.heap.size from hb.size)
    have HB := Aside0.mk (below_step (show Below w.heap.size w _ from by (with_reducible repeat apply pw_below_drewN); exact HB.out) hb)
    (try clear hczBKP_0 hczBKP_1 hczBKP_2 hczBKW_0 hczBKW_1 hczBKW_2 hczBKX_0 hczBKX_1 hczBKX_2 hczBKG_0 hczBKG_1 hczBKG_2)
    have hczBKP_0 : w23_.cell? ⟨gBKP, 0, none⟩ = some (.slice A0_0 l0_0.length c0_0) := (blk_cell BKP.out 0).trans rfl
    have hczBKP_1 : w23_.cell? ⟨gBKP, 1, none⟩ = some (.slice A0_1 l0_1.length c0_1) := (blk_cell BKP.out 1).trans rfl
    have hczBKP_2 : w23_.cell? ⟨gBKP, 2, none⟩ = some (.slice A0_2 l0_2.length c0_2) := (blk_cell BKP.out 2).trans rfl
    have hczBKW_0 : w23_.cell? ⟨gBKW, 0, none⟩ = some ((.slice AOW_0 o0.length cOW_0)) := (blk_cell BKW.out 0).trans rfl
    have hczBKW_1 : w23_.cell? ⟨gBKW, 1, none⟩ = some ((.slice AOW_1 o1.length cOW_1)) := (blk_cell BKW.out 1).trans rfl
    have hczBKW_2 : w23_.cell? ⟨gBKW, 2, none⟩ = some ((.slice AOW_2 o2.length cOW_2)) := (blk_cell BKW.out 2).trans rfl
    have hczBKX_0 : w23_.cell? ⟨gBKX, 0, none⟩ = some ((.slice AOX_0 l0_0.length cOX_0)) := (blk_cell BKX.out 0).trans rfl
    have hczBKX_1 : w23_.cell? ⟨gBKX, 1, none⟩ = some ((.slice AOX_1 l0_1.length cOX_1)) := (blk_cell BKX.out 1).trans rfl
    have hczBKX_2 : w23_.cell? ⟨gBKX, 2, none⟩ = some ((.slice AOX_2 l0_2.length cOX_2)) := (blk_cell BKX.out 2).trans rfl
    have hczBKG_0 : w23_.cell? ⟨gBKG, 0, none⟩ = some ((.slice AOG_0 o0.length cOG_0)) := (blk_cell BKG.out 0).trans rfl
    have hczBKG_1 : w23_.cell? ⟨gBKG, 1, none⟩ = some ((.slice AOG_1 o1.length cOG_1)) := (blk_cell BKG.out 1).trans rfl
    have hczBKG_2 : w23_.cell? ⟨gBKG, 2, none⟩ = some ((.slice AOG_2 o2.length cOG_2)) := (blk_cell BKG.out 2).trans rfl
    clear hb
    go_wp2_with fail
    refine (OwnDfa.mark k 1 m2 z0 z1 z2 (show OwnDfa _ _ _ _ _ _ _ _ _ _ _ from by (with_reducible repeat apply OwnDfa.drewN); exact OG.out) (show Below w.heap.size w _ from by (with_reducible repeat apply pw_below_drewN); exact HB.out) (show _ ≤ w23_.heap.size from by have z0_ := HZ1.out; have z1_ := HGBKP.out; have z2_ := HZ2.out; have z3_ := HZ3.out; have z4_ := HZ4.out; have z5_ := HZ5.out; have z6_ := HZ6.out; have z7_ := HGBKW.out; have z8_ := HZ7.out; have z9_ := HZ8.out; have z10_ := HZ9.out; have z11_ := HGBKX.out; have z12_ := HZ10.out; have z13_ := HZ11.out; have z14_ := HZ12.out; have z15_ := HZ13.out; have z16_ := HGBKG.out; have z17_ := HZ14.out; have z18_ := HZ15.out; have z19_ := HZ16.out; have z20_ := HZ17.out; have z21_ := HZ18.out; have z22_ := HZ19.out; have z23_ := HZ20.out; have z24_ := HZ21.out; have z25_ := HZ22.out; have z26_ := HZ23.out; omega) HF7.out).mono ?_
    rintro e w24_ ⟨rfl, hY, hB, hk⟩
    have OW := Aside0.mk (OwnDfa.kept (show OwnDfa _ _ _ _ _ _ _ _ _ _ _ from by (with_reducible repeat apply OwnDfa.drewN); exact OW.out) hk (fun k_ h1 h2 h3 => by have z0_ := HZ1.out; have z1_ := HGBKP.out; have z2_ := HZ2.out; have z3_ := HZ3.out; have z4_ := HZ4.out; have z5_ := HZ5.out; have z6_ := HZ6.out; have z7_ := HGBKW.out; have z8_ := HZ7.out; have z9_ := HZ8.out; have z10_ := HZ9.out; have z11_ := HGBKX.out; have z12_ := HZ10.out; have z13_ := HZ11.out; have z14_ := HZ12.out; have z15_ := HZ13.out; have z16_ := HGBKG.out; have z17_ := HZ14.out; have z18_ := HZ15.out; have z19_ := HZ16.out; have z20_ := HZ17.out; have z21_ := HZ18.out; have z22_ := HZ19.out; have z23_ := HZ20.out; have z24_ := HZ21.out; have z25_ := HZ22.out; have z26_ := HZ23.out; omega))
    have BKP := Aside0.mk (show w24_.heap[gBKP]? = some (.cells #[.slice A0_0 l0_0.length c0_0, .slice A0_1 l0_1.length c0_1, .slice A0_2 l0_2.length c0_2] 63 (0, 0)) from (hk.2 _ (blk_lt BKP.out) (fun h3 => by have z0_ := HZ1.out; have z1_ := HGBKP.out; have z2_ := HZ2.out; have z3_ := HZ3.out; have z4_ := HZ4.out; have z5_ := HZ5.out; have z6_ := HZ6.out; have z7_ := HGBKW.out; have z8_ := HZ7.out; have z9_ := HZ8.out; have z10_ := HZ9.out; have z11_ := HGBKX.out; have z12_ := HZ10.out; have z13_ := HZ11.out; have z14_ := HZ12.out; have z15_ := HZ13.out; have z16_ := HGBKG.out; have z17_ := HZ14.out; have z18_ := HZ15.out; have z19_ := HZ16.out; have z20_ := HZ17.out; have z21_ := HZ18.out; have z22_ := HZ19.out; have z23_ := HZ20.out; have z24_ := HZ21.out; have z25_ := HZ22.out; have z26_ := HZ23.out; omega)).trans BKP.out)
    have BKW := Aside0.mk (show w24_.heap[gBKW]? = some (.cells #[(.slice AOW_0 o0.length cOW_0), (.slice AOW_1 o1.length cOW_1), (.slice AOW_2 o2.length cOW_2)] 66 (0, 0)) from (hk.2 _ (blk_lt BKW.out) (fun h3 => by have z0_ := HZ1.out; have z1_ := HGBKP.out; have z2_ := HZ2.out; have z3_ := HZ3.out; have z4_ := HZ4.out; have z5_ := HZ5.out; have z6_ := HZ6.out; have z7_ := HGBKW.out; have z8_ := HZ7.out; have z9_ := HZ8.out; have z10_ := HZ9.out; have z11_ := HGBKX.out; have z12_ := HZ10.out; have z13_ := HZ11.out; have z14_ := HZ12.out; have z15_ := HZ13.out; have z16_ := HGBKG.out; have z17_ := HZ14.out; have z18_ := HZ15.out; have z19_ := HZ16.out; have z20_ := HZ17.out; have z21_ := HZ18.out; have z22_ := HZ19.out; have z23_ := HZ20.out; have z24_ := HZ21.out; have z25_ := HZ22.out; have z26_ := HZ23.out; omega)).trans BKW.out)
    have BKX := Aside0.mk (show w24_.heap[gBKX]? = some (.cells #[(.slice AOX_0 l0_0.length cOX_0), (.slice AOX_1 l0_1.length cOX_1), (.slice AOX_2 l0_2.length cOX_2)] 66 (0, 0)) from (hk.2 _ (blk_lt BKX.out) (fun h3 => by have z0_ := HZ1.out; have z1_ := HGBKP.out; have z2_ := HZ2.out; have z3_ := HZ3.out; have z4_ := HZ4.out; have z5_ := HZ5.out; have z6_ := HZ6.out; have z7_ := HGBKW.out; have z8_ := HZ7.out; have z9_ := HZ8.out; have z10_ := HZ9.out; have z11_ := HGBKX.out; have z12_ := HZ10.out; have z13_ := HZ11.out; have z14_ := HZ12.out; have z15_ := HZ13.out; have z16_ := HGBKG.out; have z17_ := HZ14.out; have z18_ := HZ15.out; have z19_ := HZ16.out; have z20_ := HZ17.out; have z21_ := HZ18.out; have z22_ := HZ19.out; have z23_ := HZ20.out; have z24_ := HZ21.out; have z25_ := HZ22.out; have z26_ := HZ23.out; omega)).trans BKX.out)
    have BKG := Aside0.mk (show w24_.heap[gBKG]? = some (.cells #[(.slice AOG_0 o0.length cOG_0), (.slice AOG_1 o1.length cOG_1), (.slice AOG_2 o2.length cOG_2)] 66 (0, 0)) from (hk.2 _ (blk_lt BKG.out) (fun h3 => by have z0_ := HZ1.out; have z1_ := HGBKP.out; have z2_ := HZ2.out; have z3_ := HZ3.out; have z4_ := HZ4.out; have z5_ := HZ5.out; have z6_ := HZ6.out; have z7_ := HGBKW.out; have z8_ := HZ7.out; have z9_ := HZ8.out; have z10_ := HZ9.out; have z11_ := HGBKX.out; have z12_ := HZ10.out; have z13_ := HZ11.out; have z14_ := HZ12.out; have z15_ := HZ13.out; have z16_ := HGBKG.out; have z17_ := HZ14.out; have z18_ := HZ15.out; have z19_ := HZ16.out; have z20_ := HZ17.out; have z21_ := HZ18.out; have z22_ := HZ19.out; have z23_ := HZ20.out; have z24_ := HZ21.out; have z25_ := HZ22.out; have z26_ := HZ23.out; omega)).trans BKG.out)
    have HZ24 := Aside0.mk (show w23_.heap.size ≤ w24_.heap.size from hk.1)
    have OG := Aside0.mk hY
    have HB := Aside0.mk hB
    clear hY hB hk
    have t2 : (m2 < 0) = False := eq_false (by have := HF9.out; omega)
    have t3 : (m2 != m2) = false := bne_self_eq_false m2
    (try clear hczBKP_0 hczBKP_1 hczBKP_2 hczBKW_0 hczBKW_1 hczBKW_2 hczBKX_0 hczBKX_1 hczBKX_2 hczBKG_0 hczBKG_1 hczBKG_2)
    have hczBKP_0 : w24_.cell? ⟨gBKP, 0, none⟩ = some (.slice A0_0 l0_0.length c0_0) := (blk_cell BKP.out 0).trans rfl
    have hczBKP_1 : w24_.cell? ⟨gBKP, 1, none⟩ = some (.slice A0_1 l0_1.length c0_1) := (blk_cell BKP.out 1).trans rfl
    have hczBKP_2 : w24_.cell? ⟨gBKP, 2, none⟩ = some (.slice A0_2 l0_2.length c0_2) := (blk_cell BKP.out 2).trans rfl
    have hczBKW_0 : w24_.cell? ⟨gBKW, 0, none⟩ = some ((.slice AOW_0 o0.length cOW_0)) := (blk_cell BKW.out 0).trans rfl
    have hczBKW_1 : w24_.cell? ⟨gBKW, 1, none⟩ = some ((.slice AOW_1 o1.length cOW_1)) := (blk_cell BKW.out 1).trans rfl
    have hczBKW_2 : w24_.cell? ⟨gBKW, 2, none⟩ = some ((.slice AOW_2 o2.length cOW_2)) := (blk_cell BKW.out 2).trans rfl
    have hczBKX_0 : w24_.cell? ⟨gBKX, 0, none⟩ = some ((.slice AOX_0 l0_0.length cOX_0)) := (blk_cell BKX.out 0).trans rfl
    have hczBKX_1 : w24_.cell? ⟨gBKX, 1, none⟩ = some ((.slice AOX_1 l0_1.length cOX_1)) := (blk_cell BKX.out 1).trans rfl
    have hczBKX_2 : w24_.cell? ⟨gBKX, 2, none⟩ = some ((.slice AOX_2 l0_2.length cOX_2)) := (blk_cell BKX.out 2).trans rfl
    have hczBKG_0 : w24_.cell? ⟨gBKG, 0, none⟩ = some ((.slice AOG_0 o0.length cOG_0)) := (blk_cell BKG.out 0).trans rfl
    have hczBKG_1 : w24_.cell? ⟨gBKG, 1, none⟩ = some ((.slice AOG_1 o1.length cOG_1)) := (blk_cell BKG.out 1).trans rfl
    have hczBKG_2 : w24_.cell? ⟨gBKG, 2, none⟩ = some ((.slice AOG_2 o2.length cOG_2)) := (blk_cell BKG.out 2).trans rfl
    go_wp2_with fail
    refine (OwnDfa.held k 1 m2 (show OwnDfa _ _ _ _ _ _ _ _ _ _ _ from by (with_reducible repeat apply OwnDfa.drewN); exact OG.out) HF8.out).mono ?_
    rintro e w25_ ⟨rfl, hb⟩
    have OW := Aside0.mk (OwnDfa.below (show OwnDfa _ _ _ _ _ _ _ _ _ _ _ from by (with_reducible repeat apply OwnDfa.drewN); exact OW.out) hb)
    have OG := Aside0.mk (OwnDfa.below (show OwnDfa _ _ _ _ _ _ _ _ _ _ _ from by (with_reducible repeat apply OwnDfa.drewN); exact OG.out) hb)
    have BKP := Aside0.mk (show w25_.heap[gBKP]? = some (.cells #[.slice A0_0 l0_0.length c0_0, .slice A0_1 l0_1.length c0_1, .slice A0_2 l0_2.length c0_2] 63 (0, 0)) from (hb.block _ (blk_lt BKP.out)).trans BKP.out)
    have BKW := Aside0.mk (show w25_.heap[gBKW]? = some (.cells #[(.slice AOW_0 o0.length cOW_0), (.slice AOW_1 o1.length cOW_1), (.slice AOW_2 o2.length cOW_2)] 66 (0, 0)) from (hb.block _ (blk_lt BKW.out)).trans BKW.out)
    have BKX := Aside0.mk (show w25_.heap[gBKX]? = some (.cells #[(.slice AOX_0 l0_0.length cOX_0), (.slice AOX_1 l0_1.length cOX_1), (.slice AOX_2 l0_2.length cOX_2)] 66 (0, 0)) from (hb.block _ (blk_lt BKX.out)).trans BKX.out)
    have BKG := Aside0.mk (show w25_.heap[gBKG]? = some (.cells #[(.slice AOG_0 o0.length cOG_0), (.slice AOG_1 o1.length cOG_1), (.slice AOG_2 o2.length cOG_2)] 66 (0, 0)) from (hb.block _ (blk_lt BKG.out)).trans BKG.out)
    have HZ25 := Aside0.mk (show w24_.heap.size ≤ w25_.heap.size from hb.size)
    have HB := Aside0.mk (below_step (show Below w.heap.size w _ from by (with_reducible repeat apply pw_below_drewN); exact HB.out) hb)
    (try clear hczBKP_0 hczBKP_1 hczBKP_2 hczBKW_0 hczBKW_1 hczBKW_2 hczBKX_0 hczBKX_1 hczBKX_2 hczBKG_0 hczBKG_1 hczBKG_2)
    have hczBKP_0 : w25_.cell? ⟨gBKP, 0, none⟩ = some (.slice A0_0 l0_0.length c0_0) := (blk_cell BKP.out 0).trans rfl
    have hczBKP_1 : w25_.cell? ⟨gBKP, 1, none⟩ = some (.slice A0_1 l0_1.length c0_1) := (blk_cell BKP.out 1).trans rfl
    have hczBKP_2 : w25_.cell? ⟨gBKP, 2, none⟩ = some (.slice A0_2 l0_2.length c0_2) := (blk_cell BKP.out 2).trans rfl
    have hczBKW_0 : w25_.cell? ⟨gBKW, 0, none⟩ = some ((.slice AOW_0 o0.length cOW_0)) := (blk_cell BKW.out 0).trans rfl
    have hczBKW_1 : w25_.cell? ⟨gBKW, 1, none⟩ = some ((.slice AOW_1 o1.length cOW_1)) := (blk_cell BKW.out 1).trans rfl
    have hczBKW_2 : w25_.cell? ⟨gBKW, 2, none⟩ = some ((.slice AOW_2 o2.length cOW_2)) := (blk_cell BKW.out 2).trans rfl
    have hczBKX_0 : w25_.cell? ⟨gBKX, 0, none⟩ = some ((.slice AOX_0 l0_0.length cOX_0)) := (blk_cell BKX.out 0).trans rfl
    have hczBKX_1 : w25_.cell? ⟨gBKX, 1, none⟩ = some ((.slice AOX_1 l0_1.length cOX_1)) := (blk_cell BKX.out 1).trans rfl
    have hczBKX_2 : w25_.cell? ⟨gBKX, 2, none⟩ = some ((.slice AOX_2 l0_2.length cOX_2)) := (blk_cell BKX.out 2).trans rfl
    have hczBKG_0 : w25_.cell? ⟨gBKG, 0, none⟩ = some ((.slice AOG_0 o0.length cOG_0)) := (blk_cell BKG.out 0).trans rfl
    have hczBKG_1 : w25_.cell? ⟨gBKG, 1, none⟩ = some ((.slice AOG_1 o1.length cOG_1)) := (blk_cell BKG.out 1).trans rfl
    have hczBKG_2 : w25_.cell? ⟨gBKG, 2, none⟩ = some ((.slice AOG_2 o2.length cOG_2)) := (blk_cell BKG.out 2).trans rfl
    clear hb
    go_wp2_with fail
    refine (laws_toDfa.calls k _ _ l0_0 _ _ l0_1 _ _ l0_2 l0_0 l0_1 l0_2 _ ?s87_ ?s88_ ?s89_ ?s90_ ?s91_ ?s92_ HF0.out).mono ?_
    case s87_ => (with_reducible repeat refine Kd.C_drewN ?_ _); exact Kd.C_below HR0_0.out HB.out
    case s88_ => exact HC0_0.out
    case s89_ => (with_reducible repeat refine Kd.C_drewN ?_ _); exact Kd.C_below HR0_1.out HB.out
    case s90_ => exact HC0_1.out
    case s91_ => (with_reducible repeat refine Kd.C_drewN ?_ _); exact Kd.C_below HR0_2.out HB.out
    case s92_ => exact HC0_2.out
    rintro e w26_ ⟨vOV0, vOV1, vOV2, rfl, ho0, ho1, ho2, hb⟩
    have hOV : OwnDfa True w26_ w.heap.size w25_.heap.size w26_.heap.size vOV0 vOV1 vOV2 l0_0 l0_1 l0_2 := OwnDfa.of (show w.heap.size ≤ w25_.heap.size from by have z0_ := HZ1.out; have z1_ := HGBKP.out; have z2_ := HZ2.out; have z3_ := HZ3.out; have z4_ := HZ4.out; have z5_ := HZ5.out; have z6_ := HZ6.out; have z7_ := HGBKW.out; have z8_ := HZ7.out; have z9_ := HZ8.out; have z10_ := HZ9.out; have z11_ := HGBKX.out; have z12_ := HZ10.out; have z13_ := HZ11.out; have z14_ := HZ12.out; have z15_ := HZ13.out; have z16_ := HGBKG.out; have z17_ := HZ14.out; have z18_ := HZ15.out; have z19_ := HZ16.out; have z20_ := HZ17.out; have z21_ := HZ18.out; have z22_ := HZ19.out; have z23_ := HZ20.out; have z24_ := HZ21.out; have z25_ := HZ22.out; have z26_ := HZ23.out; have z27_ := HZ24.out; have z28_ := HZ25.out; omega) ho0 ho1 ho2 (fun k_ q_ => by first | exact q_ | (simp only [ne_eq] at q_ ⊢; simp [q_])) (fun k_ q_ => by first | exact q_ | (simp only [ne_eq] at q_ ⊢; simp [q_])) (fun k_ q_ => by first | exact q_ | (simp only [ne_eq] at q_ ⊢; simp [q_]))
    obtain ⟨AOV_0, cOV_0, AOV_1, cOV_1, AOV_2, cOV_2, eOV_0, eOV_1, eOV_2⟩ := hOV.slices
    subst eOV_0
    subst eOV_1
    subst eOV_2
    have OW := Aside0.mk (OwnDfa.below (show OwnDfa _ _ _ _ _ _ _ _ _ _ _ from by (with_reducible repeat apply OwnDfa.drewN); exact OW.out) hb)
    have OG := Aside0.mk (OwnDfa.below (show OwnDfa _ _ _ _ _ _ _ _ _ _ _ from by (with_reducible repeat apply OwnDfa.drewN); exact OG.out) hb)
    have BKP := Aside0.mk (show w26_.heap[gBKP]? = some (.cells #[.slice A0_0 l0_0.length c0_0, .slice A0_1 l0_1.length c0_1, .slice A0_2 l0_2.length c0_2] 63 (0, 0)) from (hb.block _ (blk_lt BKP.out)).trans BKP.out)
    have BKW := Aside0.mk (show w26_.heap[gBKW]? = some (.cells #[(.slice AOW_0 o0.length cOW_0), (.slice AOW_1 o1.length cOW_1), (.slice AOW_2 o2.length cOW_2)] 66 (0, 0)) from (hb.block _ (blk_lt BKW.out)).trans BKW.out)
    have BKX := Aside0.mk (show w26_.heap[gBKX]? = some (.cells #[(.slice AOX_0 l0_0.length cOX_0), (.slice AOX_1 l0_1.length cOX_1), (.slice AOX_2 l0_2.length cOX_2)] 66 (0, 0)) from (hb.block _ (blk_lt BKX.out)).trans BKX.out)
    have BKG := Aside0.mk (show w26_.heap[gBKG]? = some (.cells #[(.slice AOG_0 o0.length cOG_0), (.slice AOG_1 o1.length cOG_1), (.slice AOG_2 o2.length cOG_2)] 66 (0, 0)) from (hb.block _ (blk_lt BKG.out)).trans BKG.out)
    have HZ26 := Aside0.mk (show w25_.heap.size ≤ w26_.heap.size from hb.size)
    have HB := Aside0.mk (below_step (show Below w.heap.size w _ from by (with_reducible repeat apply pw_below_drewN); exact HB.out) hb)
    have OV := Aside0.mk hOV
    clear hOV hb ho0 ho1 ho2
    (try clear hczBKP_0 hczBKP_1 hczBKP_2 hczBKW_0 hczBKW_1 hczBKW_2 hczBKX_0 hczBKX_1 hczBKX_2 hczBKG_0 hczBKG_1 hczBKG_2)
    have hczBKP_0 : w26_.cell? ⟨gBKP, 0, none⟩ = some (.slice A0_0 l0_0.length c0_0) := (blk_cell BKP.out 0).trans rfl
    have hczBKP_1 : w26_.cell? ⟨gBKP, 1, none⟩ = some (.slice A0_1 l0_1.length c0_1) := (blk_cell BKP.out 1).trans rfl
    have hczBKP_2 : w26_.cell? ⟨gBKP, 2, none⟩ = some (.slice A0_2 l0_2.length c0_2) := (blk_cell BKP.out 2).trans rfl
    have hczBKW_0 : w26_.cell? ⟨gBKW, 0, none⟩ = some ((.slice AOW_0 o0.length cOW_0)) := (blk_cell BKW.out 0).trans rfl
    have hczBKW_1 : w26_.cell? ⟨gBKW, 1, none⟩ = some ((.slice AOW_1 o1.length cOW_1)) := (blk_cell BKW.out 1).trans rfl
    have hczBKW_2 : w26_.cell? ⟨gBKW, 2, none⟩ = some ((.slice AOW_2 o2.length cOW_2)) := (blk_cell BKW.out 2).trans rfl
    have hczBKX_0 : w26_.cell? ⟨gBKX, 0, none⟩ = some ((.slice AOX_0 l0_0.length cOX_0)) := (blk_cell BKX.out 0).trans rfl
    have hczBKX_1 : w26_.cell? ⟨gBKX, 1, none⟩ = some ((.slice AOX_1 l0_1.length cOX_1)) := (blk_cell BKX.out 1).trans rfl
    have hczBKX_2 : w26_.cell? ⟨gBKX, 2, none⟩ = some ((.slice AOX_2 l0_2.length cOX_2)) := (blk_cell BKX.out 2).trans rfl
    have hczBKG_0 : w26_.cell? ⟨gBKG, 0, none⟩ = some ((.slice AOG_0 o0.length cOG_0)) := (blk_cell BKG.out 0).trans rfl
    have hczBKG_1 : w26_.cell? ⟨gBKG, 1, none⟩ = some ((.slice AOG_1 o1.length cOG_1)) := (blk_cell BKG.out 1).trans rfl
    have hczBKG_2 : w26_.cell? ⟨gBKG, 2, none⟩ = some ((.slice AOG_2 o2.length cOG_2)) := (blk_cell BKG.out 2).trans rfl
    go_wp2_with fail
    refine (laws_toInt64S.calls k _ _ l1 l1 _ ?s93_ ?s94_ HF10.out).mono ?_
    case s93_ => (with_reducible repeat refine Kd.C_drewN ?_ _); exact Kd.C_below HR1.out HB.out
    case s94_ => exact HC1.out
    rintro e w27_ ⟨vOS0, rfl, ho0, hb⟩
    have hOS : OwnInt64S True w27_ w.heap.size w26_.heap.size w27_.heap.size vOS0 l1 := OwnInt64S.of (show w.heap.size ≤ w26_.heap.size from by have z0_ := HZ1.out; have z1_ := HGBKP.out; have z2_ := HZ2.out; have z3_ := HZ3.out; have z4_ := HZ4.out; have z5_ := HZ5.out; have z6_ := HZ6.out; have z7_ := HGBKW.out; have z8_ := HZ7.out; have z9_ := HZ8.out; have z10_ := HZ9.out; have z11_ := HGBKX.out; have z12_ := HZ10.out; have z13_ := HZ11.out; have z14_ := HZ12.out; have z15_ := HZ13.out; have z16_ := HGBKG.out; have z17_ := HZ14.out; have z18_ := HZ15.out; have z19_ := HZ16.out; have z20_ := HZ17.out; have z21_ := HZ18.out; have z22_ := HZ19.out; have z23_ := HZ20.out; have z24_ := HZ21.out; have z25_ := HZ22.out; have z26_ := HZ23.out; have z27_ := HZ24.out; have z28_ := HZ25.out; have z29_ := HZ26.out; omega) ho0 
    obtain ⟨AOS_0, cOS_0, eOS_0⟩ := hOS.slices
    subst eOS_0
    have OW := Aside0.mk (OwnDfa.below (show OwnDfa _ _ _ _ _ _ _ _ _ _ _ from by (with_reducible repeat apply OwnDfa.drewN); exact OW.out) hb)
    have OG := Aside0.mk (OwnDfa.below (show OwnDfa _ _ _ _ _ _ _ _ _ _ _ from by (with_reducible repeat apply OwnDfa.drewN); exact OG.out) hb)
    have OV := Aside0.mk (OwnDfa.below (show OwnDfa _ _ _ _ _ _ _ _ _ _ _ from by (with_reducible repeat apply OwnDfa.drewN); exact OV.out) hb)
    have BKP := Aside0.mk (show w27_.heap[gBKP]? = some (.cells #[.slice A0_0 l0_0.length c0_0, .slice A0_1 l0_1.length c0_1, .slice A0_2 l0_2.length c0_2] 63 (0, 0)) from (hb.block _ (blk_lt BKP.out)).trans BKP.out)
    have BKW := Aside0.mk (show w27_.heap[gBKW]? = some (.cells #[(.slice AOW_0 o0.length cOW_0), (.slice AOW_1 o1.length cOW_1), (.slice AOW_2 o2.length cOW_2)] 66 (0, 0)) from (hb.block _ (blk_lt BKW.out)).trans BKW.out)
    have BKX := Aside0.mk (show w27_.heap[gBKX]? = some (.cells #[(.slice AOX_0 l0_0.length cOX_0), (.slice AOX_1 l0_1.length cOX_1), (.slice AOX_2 l0_2.length cOX_2)] 66 (0, 0)) from (hb.block _ (blk_lt BKX.out)).trans BKX.out)
    have BKG := Aside0.mk (show w27_.heap[gBKG]? = some (.cells #[(.slice AOG_0 o0.length cOG_0), (.slice AOG_1 o1.length cOG_1), (.slice AOG_2 o2.length cOG_2)] 66 (0, 0)) from (hb.block _ (blk_lt BKG.out)).trans BKG.out)
    have HZ27 := Aside0.mk (show w26_.heap.size ≤ w27_.heap.size from hb.size)
    have HB := Aside0.mk (below_step (show Below w.heap.size w _ from by (with_reducible repeat apply pw_below_drewN); exact HB.out) hb)
    have OS := Aside0.mk hOS
    clear hOS hb ho0
    (try clear hczBKP_0 hczBKP_1 hczBKP_2 hczBKW_0 hczBKW_1 hczBKW_2 hczBKX_0 hczBKX_1 hczBKX_2 hczBKG_0 hczBKG_1 hczBKG_2)
    have hczBKP_0 : w27_.cell? ⟨gBKP, 0, none⟩ = some (.slice A0_0 l0_0.length c0_0) := (blk_cell BKP.out 0).trans rfl
    have hczBKP_1 : w27_.cell? ⟨gBKP, 1, none⟩ = some (.slice A0_1 l0_1.length c0_1) := (blk_cell BKP.out 1).trans rfl
    have hczBKP_2 : w27_.cell? ⟨gBKP, 2, none⟩ = some (.slice A0_2 l0_2.length c0_2) := (blk_cell BKP.out 2).trans rfl
    have hczBKW_0 : w27_.cell? ⟨gBKW, 0, none⟩ = some ((.slice AOW_0 o0.length cOW_0)) := (blk_cell BKW.out 0).trans rfl
    have hczBKW_1 : w27_.cell? ⟨gBKW, 1, none⟩ = some ((.slice AOW_1 o1.length cOW_1)) := (blk_cell BKW.out 1).trans rfl
    have hczBKW_2 : w27_.cell? ⟨gBKW, 2, none⟩ = some ((.slice AOW_2 o2.length cOW_2)) := (blk_cell BKW.out 2).trans rfl
    have hczBKX_0 : w27_.cell? ⟨gBKX, 0, none⟩ = some ((.slice AOX_0 l0_0.length cOX_0)) := (blk_cell BKX.out 0).trans rfl
    have hczBKX_1 : w27_.cell? ⟨gBKX, 1, none⟩ = some ((.slice AOX_1 l0_1.length cOX_1)) := (blk_cell BKX.out 1).trans rfl
    have hczBKX_2 : w27_.cell? ⟨gBKX, 2, none⟩ = some ((.slice AOX_2 l0_2.length cOX_2)) := (blk_cell BKX.out 2).trans rfl
    have hczBKG_0 : w27_.cell? ⟨gBKG, 0, none⟩ = some ((.slice AOG_0 o0.length cOG_0)) := (blk_cell BKG.out 0).trans rfl
    have hczBKG_1 : w27_.cell? ⟨gBKG, 1, none⟩ = some ((.slice AOG_1 o1.length cOG_1)) := (blk_cell BKG.out 1).trans rfl
    have hczBKG_2 : w27_.cell? ⟨gBKG, 2, none⟩ = some ((.slice AOG_2 o2.length cOG_2)) := (blk_cell BKG.out 2).trans rfl
    go_wp2_with fail
    refine (impl_Restrict.calls k _ _ l0_0 _ _ l0_1 _ _ l0_2 _ _ l1 o0 o1 o2 _ ?s95_ ?s96_ ?s97_ ?s98_ ?s99_ ?s100_ ?s101_ ?s102_ HF2.out).mono ?_
    case s95_ => exact (OwnDfa.rd0 (by (with_reducible repeat apply OwnDfa.drewN); exact OV.out) rfl).2.2
    case s96_ => exact (OwnDfa.rd0 OV.out rfl).2.1
    case s97_ => exact (OwnDfa.rd1 (by (with_reducible repeat apply OwnDfa.drewN); exact OV.out) rfl).2.2
    case s98_ => exact (OwnDfa.rd1 OV.out rfl).2.1
    case s99_ => exact (OwnDfa.rd2 (by (with_reducible repeat apply OwnDfa.drewN); exact OV.out) rfl).2.2
    case s100_ => exact (OwnDfa.rd2 OV.out rfl).2.1
    case s101_ => exact (OwnInt64S.rd0 (by (with_reducible repeat apply OwnInt64S.drewN); exact OS.out) rfl).2.2
    case s102_ => exact (OwnInt64S.rd0 OS.out rfl).2.1
    rintro e w28_ ⟨vOH0, vOH1, vOH2, rfl, ho0, ho1, ho2, hb⟩
    have hOH : OwnDfa False w28_ w.heap.size w27_.heap.size w28_.heap.size vOH0 vOH1 vOH2 o0 o1 o2 := OwnDfa.of0 (show w.heap.size ≤ w27_.heap.size from by have z0_ := HZ1.out; have z1_ := HGBKP.out; have z2_ := HZ2.out; have z3_ := HZ3.out; have z4_ := HZ4.out; have z5_ := HZ5.out; have z6_ := HZ6.out; have z7_ := HGBKW.out; have z8_ := HZ7.out; have z9_ := HZ8.out; have z10_ := HZ9.out; have z11_ := HGBKX.out; have z12_ := HZ10.out; have z13_ := HZ11.out; have z14_ := HZ12.out; have z15_ := HZ13.out; have z16_ := HGBKG.out; have z17_ := HZ14.out; have z18_ := HZ15.out; have z19_ := HZ16.out; have z20_ := HZ17.out; have z21_ := HZ18.out; have z22_ := HZ19.out; have z23_ := HZ20.out; have z24_ := HZ21.out; have z25_ := HZ22.out; have z26_ := HZ23.out; have z27_ := HZ24.out; have z28_ := HZ25.out; have z29_ := HZ26.out; have z30_ := HZ27.out; omega) ho0 ho1 ho2 
    obtain ⟨AOH_0, cOH_0, AOH_1, cOH_1, AOH_2, cOH_2, eOH_0, eOH_1, eOH_2⟩ := hOH.slices
    subst eOH_0
    subst eOH_1
    subst eOH_2
    have OW := Aside0.mk (OwnDfa.below (show OwnDfa _ _ _ _ _ _ _ _ _ _ _ from by (with_reducible repeat apply OwnDfa.drewN); exact OW.out) hb)
    have OG := Aside0.mk (OwnDfa.below (show OwnDfa _ _ _ _ _ _ _ _ _ _ _ from by (with_reducible repeat apply OwnDfa.drewN); exact OG.out) hb)
    have OV := Aside0.mk (OwnDfa.below (show OwnDfa _ _ _ _ _ _ _ _ _ _ _ from by (with_reducible repeat apply OwnDfa.drewN); exact OV.out) hb)
    have OS := Aside0.mk (OwnInt64S.below (show OwnInt64S _ _ _ _ _ _ _ from by (with_reducible repeat apply OwnInt64S.drewN); exact OS.out) hb)
    have BKP := Aside0.mk (show w28_.heap[gBKP]? = some (.cells #[.slice A0_0 l0_0.length c0_0, .slice A0_1 l0_1.length c0_1, .slice A0_2 l0_2.length c0_2] 63 (0, 0)) from (hb.block _ (blk_lt BKP.out)).trans BKP.out)
    have BKW := Aside0.mk (show w28_.heap[gBKW]? = some (.cells #[(.slice AOW_0 o0.length cOW_0), (.slice AOW_1 o1.length cOW_1), (.slice AOW_2 o2.length cOW_2)] 66 (0, 0)) from (hb.block _ (blk_lt BKW.out)).trans BKW.out)
    have BKX := Aside0.mk (show w28_.heap[gBKX]? = some (.cells #[(.slice AOX_0 l0_0.length cOX_0), (.slice AOX_1 l0_1.length cOX_1), (.slice AOX_2 l0_2.length cOX_2)] 66 (0, 0)) from (hb.block _ (blk_lt BKX.out)).trans BKX.out)
    have BKG := Aside0.mk (show w28_.heap[gBKG]? = some (.cells #[(.slice AOG_0 o0.length cOG_0), (.slice AOG_1 o1.length cOG_1), (.slice AOG_2 o2.length cOG_2)] 66 (0, 0)) from (hb.block _ (blk_lt BKG.out)).trans BKG.out)
    have HZ28 := Aside0.mk (show w27_.heap.size ≤ w28_.heap.size from hb.size)
    have HB := Aside0.mk (below_step (show Below w.heap.size w _ from by (with_reducible repeat apply pw_below_drewN); exact HB.out) hb)
    have OH := Aside0.mk hOH
    clear hOH hb ho0 ho1 ho2
    (try clear hczBKP_0 hczBKP_1 hczBKP_2 hczBKW_0 hczBKW_1 hczBKW_2 hczBKX_0 hczBKX_1 hczBKX_2 hczBKG_0 hczBKG_1 hczBKG_2)
    have hczBKP_0 : w28_.cell? ⟨gBKP, 0, none⟩ = some (.slice A0_0 l0_0.length c0_0) := (blk_cell BKP.out 0).trans rfl
    have hczBKP_1 : w28_.cell? ⟨gBKP, 1, none⟩ = some (.slice A0_1 l0_1.length c0_1) := (blk_cell BKP.out 1).trans rfl
    have hczBKP_2 : w28_.cell? ⟨gBKP, 2, none⟩ = some (.slice A0_2 l0_2.length c0_2) := (blk_cell BKP.out 2).trans rfl
    have hczBKW_0 : w28_.cell? ⟨gBKW, 0, none⟩ = some ((.slice AOW_0 o0.length cOW_0)) := (blk_cell BKW.out 0).trans rfl
    have hczBKW_1 : w28_.cell? ⟨gBKW, 1, none⟩ = some ((.slice AOW_1 o1.length cOW_1)) := (blk_cell BKW.out 1).trans rfl
    have hczBKW_2 : w28_.cell? ⟨gBKW, 2, none⟩ = some ((.slice AOW_2 o2.length cOW_2)) := (blk_cell BKW.out 2).trans rfl
    have hczBKX_0 : w28_.cell? ⟨gBKX, 0, none⟩ = some ((.slice AOX_0 l0_0.length cOX_0)) := (blk_cell BKX.out 0).trans rfl
    have hczBKX_1 : w28_.cell? ⟨gBKX, 1, none⟩ = some ((.slice AOX_1 l0_1.length cOX_1)) := (blk_cell BKX.out 1).trans rfl
    have hczBKX_2 : w28_.cell? ⟨gBKX, 2, none⟩ = some ((.slice AOX_2 l0_2.length cOX_2)) := (blk_cell BKX.out 2).trans rfl
    have hczBKG_0 : w28_.cell? ⟨gBKG, 0, none⟩ = some ((.slice AOG_0 o0.length cOG_0)) := (blk_cell BKG.out 0).trans rfl
    have hczBKG_1 : w28_.cell? ⟨gBKG, 1, none⟩ = some ((.slice AOG_1 o1.length cOG_1)) := (blk_cell BKG.out 1).trans rfl
    have hczBKG_2 : w28_.cell? ⟨gBKG, 2, none⟩ = some ((.slice AOG_2 o2.length cOG_2)) := (blk_cell BKG.out 2).trans rfl
    clear OV OS
    go_wp2_with (first | ((with_reducible refine gate_dst (N := 13) rfl ?_); refine box_event ?hg (N := 13) ?hd (cs := #[.slice none 0 0, .slice none 0 0, .slice none 0 0]) (t := 66) ?hr ?_; (case hd => rfl); (case hg => rfl); (case hr => first | (go_simp; done) | (go_simp; rfl)); intro gBKH hg w29_ hbox hb; have OW := Aside0.mk (OwnDfa.below (show OwnDfa _ _ _ _ _ _ _ _ _ _ _ from by (with_reducible repeat apply OwnDfa.drewN); exact OW.out) hb); have OG := Aside0.mk (OwnDfa.below (show OwnDfa _ _ _ _ _ _ _ _ _ _ _ from by (with_reducible repeat apply OwnDfa.drewN); exact OG.out) hb); have OH := Aside0.mk (OwnDfa.below (show OwnDfa _ _ _ _ _ _ _ _ _ _ _ from by (with_reducible repeat apply OwnDfa.drewN); exact OH.out) hb); have BKP := Aside0.mk (show w29_.heap[gBKP]? = some (.cells #[.slice A0_0 l0_0.length c0_0, .slice A0_1 l0_1.length c0_1, .slice A0_2 l0_2.length c0_2] 63 (0, 0)) from (hb.block _ (blk_lt BKP.out)).trans BKP.out); have BKW := Aside0.mk (show w29_.heap[gBKW]? = some (.cells #[(.slice AOW_0 o0.length cOW_0), (.slice AOW_1 o1.length cOW_1), (.slice AOW_2 o2.length cOW_2)] 66 (0, 0)) from (hb.block _ (blk_lt BKW.out)).trans BKW.out); have BKX := Aside0.mk (show w29_.heap[gBKX]? = some (.cells #[(.slice AOX_0 l0_0.length cOX_0), (.slice AOX_1 l0_1.length cOX_1), (.slice AOX_2 l0_2.length cOX_2)] 66 (0, 0)) from (hb.block _ (blk_lt BKX.out)).trans BKX.out); have BKG := Aside0.mk (show w29_.heap[gBKG]? = some (.cells #[(.slice AOG_0 o0.length cOG_0), (.slice AOG_1 o1.length cOG_1), (.slice AOG_2 o2.length cOG_2)] 66 (0, 0)) from (hb.block _ (blk_lt BKG.out)).trans BKG.out); have HZ29 := Aside0.mk (show w28_.heap.size ≤ w29_.heap.size from hb.size); have HB := Aside0.mk (below_step (show Below w.heap.size w _ from by (with_reducible repeat apply pw_below_drewN); exact HB.out) hb); have BKH := Aside0.mk hbox; have HGBKH := Aside0.mk (show gBKH = w28_.heap.size ∧ gBKH < w29_.heap.size from ⟨hg, blk_lt hbox⟩); have GEBKH := Aside0.mk (show w.heap.size ≤ gBKH from by have z0_ := HZ1.out; have z1_ := HGBKP.out; have z2_ := HZ2.out; have z3_ := HZ3.out; have z4_ := HZ4.out; have z5_ := HZ5.out; have z6_ := HZ6.out; have z7_ := HGBKW.out; have z8_ := HZ7.out; have z9_ := HZ8.out; have z10_ := HZ9.out; have z11_ := HGBKX.out; have z12_ := HZ10.out; have z13_ := HZ11.out; have z14_ := HZ12.out; have z15_ := HZ13.out; have z16_ := HGBKG.out; have z17_ := HZ14.out; have z18_ := HZ15.out; have z19_ := HZ16.out; have z20_ := HZ17.out; have z21_ := HZ18.out; have z22_ := HZ19.out; have z23_ := HZ20.out; have z24_ := HZ21.out; have z25_ := HZ22.out; have z26_ := HZ23.out; have z27_ := HZ24.out; have z28_ := HZ25.out; have z29_ := HZ26.out; have z30_ := HZ27.out; have z31_ := HZ28.out; have z32_ := HZ29.out; have z33_ := HGBKH.out; omega); clear hb hbox hg; (try clear hczBKP_0 hczBKP_1 hczBKP_2 hczBKW_0 hczBKW_1 hczBKW_2 hczBKX_0 hczBKX_1 hczBKX_2 hczBKG_0 hczBKG_1 hczBKG_2); have hczBKP_0 : w29_.cell? ⟨gBKP, 0, none⟩ = some (.slice A0_0 l0_0.length c0_0) := (blk_cell BKP.out 0).trans rfl; have hczBKP_1 : w29_.cell? ⟨gBKP, 1, none⟩ = some (.slice A0_1 l0_1.length c0_1) := (blk_cell BKP.out 1).trans rfl; have hczBKP_2 : w29_.cell? ⟨gBKP, 2, none⟩ = some (.slice A0_2 l0_2.length c0_2) := (blk_cell BKP.out 2).trans rfl; have hczBKW_0 : w29_.cell? ⟨gBKW, 0, none⟩ = some ((.slice AOW_0 o0.length cOW_0)) := (blk_cell BKW.out 0).trans rfl; have hczBKW_1 : w29_.cell? ⟨gBKW, 1, none⟩ = some ((.slice AOW_1 o1.length cOW_1)) := (blk_cell BKW.out 1).trans rfl; have hczBKW_2 : w29_.cell? ⟨gBKW, 2, none⟩ = some ((.slice AOW_2 o2.length cOW_2)) := (blk_cell BKW.out 2).trans rfl; have hczBKX_0 : w29_.cell? ⟨gBKX, 0, none⟩ = some ((.slice AOX_0 l0_0.length cOX_0)) := (blk_cell BKX.out 0).trans rfl; have hczBKX_1 : w29_.cell? ⟨gBKX, 1, none⟩ = some ((.slice AOX_1 l0_1.length cOX_1)) := (blk_cell BKX.out 1).trans rfl; have hczBKX_2 : w29_.cell? ⟨gBKX, 2, none⟩ = some ((.slice AOX_2 l0_2.length cOX_2)) := (blk_cell BKX.out 2).trans rfl; have hczBKG_0 : w29_.cell? ⟨gBKG, 0, none⟩ = some ((.slice AOG_0 o0.length cOG_0)) := (blk_cell BKG.out 0).trans rfl; have hczBKG_1 : w29_.cell? ⟨gBKG, 1, none⟩ = some ((.slice AOG_1 o1.length cOG_1)) := (blk_cell BKG.out 1).trans rfl; have hczBKG_2 : w29_.cell? ⟨gBKG, 2, none⟩ = some ((.slice AOG_2 o2.length cOG_2)) := (blk_cell BKG.out 2).trans rfl; have hczBKH_0 : w29_.cell? ⟨gBKH, 0, none⟩ = some (.slice none 0 0) := (blk_cell BKH.out 0).trans rfl; have hczBKH_1 : w29_.cell? ⟨gBKH, 1, none⟩ = some (.slice none 0 0) := (blk_cell BKH.out 1).trans rfl; have hczBKH_2 : w29_.cell? ⟨gBKH, 2, none⟩ = some (.slice none 0 0) := (blk_cell BKH.out 2).trans rfl; have hfzBKH_0 := blk_frozen BKH.out 0; have hfzBKH_1 := blk_frozen BKH.out 1; have hfzBKH_2 := blk_frozen BKH.out 2) | ((with_reducible refine gate_store (t := 66) (p := 13) rfl ?_); refine store_event (t := 66) (p := 13) (v := ?vo_w30_) (w1 := (((w29_.setCell ⟨gBKH, 0, none⟩ ((.slice AOH_0 o0.length cOH_0))).setCell ⟨gBKH, 1, none⟩ ((.slice AOH_1 o1.length cOH_1))).setCell ⟨gBKH, 2, none⟩ ((.slice AOH_2 o2.length cOH_2)))) ?hg ?ho ?hn ?hr ?_; (case ho => rfl); (case hg => rfl); (case hn => rfl); (case hr => first | (go_simp; done) | (go_simp; rfl)); intro w30_ hw; have hk : Kept w29_ w30_ (fun k_ => k_ = gBKH) := (by rw [hw]; refine Kept.setCell (S := fun k_ => k_ = gBKH) (p := ⟨gBKH, 2, none⟩) ?_ (Or.inl (Eq.refl gBKH)) _; refine Kept.setCell (S := fun k_ => k_ = gBKH) (p := ⟨gBKH, 1, none⟩) ?_ (Or.inl (Eq.refl gBKH)) _; refine Kept.setCell (S := fun k_ => k_ = gBKH) (p := ⟨gBKH, 0, none⟩) ?_ (Or.inl (Eq.refl gBKH)) _; exact Kept.refl _ _); have hbox : w30_.heap[gBKH]? = some (.cells #[(.slice AOH_0 o0.length cOH_0), (.slice AOH_1 o1.length cOH_1), (.slice AOH_2 o2.length cOH_2)] 66 (0, 0)) := (by rw [hw]; refine blk_put (cs := #[(.slice AOH_0 o0.length cOH_0), (.slice AOH_1 o1.length cOH_1), .slice none 0 0]) ?_ 2 _ rfl; refine blk_put (cs := #[(.slice AOH_0 o0.length cOH_0), .slice none 0 0, .slice none 0 0]) ?_ 1 _ rfl; refine blk_put (cs := #[.slice none 0 0, .slice none 0 0, .slice none 0 0]) ?_ 0 _ rfl; exact BKH.out); have hB : Below w.heap.size w w30_ := (by rw [hw]; (with_reducible repeat refine below_set ?_ GEBKH.out); exact HB.out); have OW := Aside0.mk (OwnDfa.kept (show OwnDfa _ _ _ _ _ _ _ _ _ _ _ from by (with_reducible repeat apply OwnDfa.drewN); exact OW.out) hk (fun k_ h1 h2 h3 => by have z0_ := HZ1.out; have z1_ := HGBKP.out; have z2_ := HZ2.out; have z3_ := HZ3.out; have z4_ := HZ4.out; have z5_ := HZ5.out; have z6_ := HZ6.out; have z7_ := HGBKW.out; have z8_ := HZ7.out; have z9_ := HZ8.out; have z10_ := HZ9.out; have z11_ := HGBKX.out; have z12_ := HZ10.out; have z13_ := HZ11.out; have z14_ := HZ12.out; have z15_ := HZ13.out; have z16_ := HGBKG.out; have z17_ := HZ14.out; have z18_ := HZ15.out; have z19_ := HZ16.out; have z20_ := HZ17.out; have z21_ := HZ18.out; have z22_ := HZ19.out; have z23_ := HZ20.out; have z24_ := HZ21.out; have z25_ := HZ22.out; have z26_ := HZ23.out; have z27_ := HZ24.out; have z28_ := HZ25.out; have z29_ := HZ26.out; have z30_ := HZ27.out; have z31_ := HZ28.out; have z32_ := HZ29.out; have z33_ := HGBKH.out; omega)); have OG := Aside0.mk (OwnDfa.kept (show OwnDfa _ _ _ _ _ _ _ _ _ _ _ from by (with_reducible repeat apply OwnDfa.drewN); exact OG.out) hk (fun k_ h1 h2 h3 => by have z0_ := HZ1.out; have z1_ := HGBKP.out; have z2_ := HZ2.out; have z3_ := HZ3.out; have z4_ := HZ4.out; have z5_ := HZ5.out; have z6_ := HZ6.out; have z7_ := HGBKW.out; have z8_ := HZ7.out; have z9_ := HZ8.out; have z10_ := HZ9.out; have z11_ := HGBKX.out; have z12_ := HZ10.out; have z13_ := HZ11.out; have z14_ := HZ12.out; have z15_ := HZ13.out; have z16_ := HGBKG.out; have z17_ := HZ14.out; have z18_ := HZ15.out; have z19_ := HZ16.out; have z20_ := HZ17.out; have z21_ := HZ18.out; have z22_ := HZ19.out; have z23_ := HZ20.out; have z24_ := HZ21.out; have z25_ := HZ22.out; have z26_ := HZ23.out; have z27_ := HZ24.out; have z28_ := HZ25.out; have z29_ := HZ26.out; have z30_ := HZ27.out; have z31_ := HZ28.out; have z32_ := HZ29.out; have z33_ := HGBKH.out; omega)); have OH := Aside0.mk (OwnDfa.kept (show OwnDfa _ _ _ _ _ _ _ _ _ _ _ from by (with_reducible repeat apply OwnDfa.drewN); exact OH.out) hk (fun k_ h1 h2 h3 => by have z0_ := HZ1.out; have z1_ := HGBKP.out; have z2_ := HZ2.out; have z3_ := HZ3.out; have z4_ := HZ4.out; have z5_ := HZ5.out; have z6_ := HZ6.out; have z7_ := HGBKW.out; have z8_ := HZ7.out; have z9_ := HZ8.out; have z10_ := HZ9.out; have z11_ := HGBKX.out; have z12_ := HZ10.out; have z13_ := HZ11.out; have z14_ := HZ12.out; have z15_ := HZ13.out; have z16_ := HGBKG.out; have z17_ := HZ14.out; have z18_ := HZ15.out; have z19_ := HZ16.out; have z20_ := HZ17.out; have z21_ := HZ18.out; have z22_ := HZ19.out; have z23_ := HZ20.out; have z24_ := HZ21.out; have z25_ := HZ22.out; have z26_ := HZ23.out; have z27_ := HZ24.out; have z28_ := HZ25.out; have z29_ := HZ26.out; have z30_ := HZ27.out; have z31_ := HZ28.out; have z32_ := HZ29.out; have z33_ := HGBKH.out; omega)); have BKP := Aside0.mk (show w30_.heap[gBKP]? = some (.cells #[.slice A0_0 l0_0.length c0_0, .slice A0_1 l0_1.length c0_1, .slice A0_2 l0_2.length c0_2] 63 (0, 0)) from (hk.2 _ (blk_lt BKP.out) (fun h3 => by have z0_ := HZ1.out; have z1_ := HGBKP.out; have z2_ := HZ2.out; have z3_ := HZ3.out; have z4_ := HZ4.out; have z5_ := HZ5.out; have z6_ := HZ6.out; have z7_ := HGBKW.out; have z8_ := HZ7.out; have z9_ := HZ8.out; have z10_ := HZ9.out; have z11_ := HGBKX.out; have z12_ := HZ10.out; have z13_ := HZ11.out; have z14_ := HZ12.out; have z15_ := HZ13.out; have z16_ := HGBKG.out; have z17_ := HZ14.out; have z18_ := HZ15.out; have z19_ := HZ16.out; have z20_ := HZ17.out; have z21_ := HZ18.out; have z22_ := HZ19.out; have z23_ := HZ20.out; have z24_ := HZ21.out; have z25_ := HZ22.out; have z26_ := HZ23.out; have z27_ := HZ24.out; have z28_ := HZ25.out; have z29_ := HZ26.out; have z30_ := HZ27.out; have z31_ := HZ28.out; have z32_ := HZ29.out; have z33_ := HGBKH.out; omega)).trans BKP.out); have BKW := Aside0.mk (show w30_.heap[gBKW]? = some (.cells #[(.slice AOW_0 o0.length cOW_0), (.slice AOW_1 o1.length cOW_1), (.slice AOW_2 o2.length cOW_2)] 66 (0, 0)) from (hk.2 _ (blk_lt BKW.out) (fun h3 => by have z0_ := HZ1.out; have z1_ := HGBKP.out; have z2_ := HZ2.out; have z3_ := HZ3.out; have z4_ := HZ4.out; have z5_ := HZ5.out; have z6_ := HZ6.out; have z7_ := HGBKW.out; have z8_ := HZ7.out; have z9_ := HZ8.out; have z10_ := HZ9.out; have z11_ := HGBKX.out; have z12_ := HZ10.out; have z13_ := HZ11.out; have z14_ := HZ12.out; have z15_ := HZ13.out; have z16_ := HGBKG.out; have z17_ := HZ14.out; have z18_ := HZ15.out; have z19_ := HZ16.out; have z20_ := HZ17.out; have z21_ := HZ18.out; have z22_ := HZ19.out; have z23_ := HZ20.out; have z24_ := HZ21.out; have z25_ := HZ22.out; have z26_ := HZ23.out; have z27_ := HZ24.out; have z28_ := HZ25.out; have z29_ := HZ26.out; have z30_ := HZ27.out; have z31_ := HZ28.out; have z32_ := HZ29.out; have z33_ := HGBKH.out; omega)).trans BKW.out); have BKX := Aside0.mk (show w30_.heap[gBKX]? = some (.cells #[(.slice AOX_0 l0_0.length cOX_0), (.slice AOX_1 l0_1.length cOX_1), (.slice AOX_2 l0_2.length cOX_2)] 66 (0, 0)) from (hk.2 _ (blk_lt BKX.out) (fun h3 => by have z0_ := HZ1.out; have z1_ := HGBKP.out; have z2_ := HZ2.out; have z3_ := HZ3.out; have z4_ := HZ4.out; have z5_ := HZ5.out; have z6_ := HZ6.out; have z7_ := HGBKW.out; have z8_ := HZ7.out; have z9_ := HZ8.out; have z10_ := HZ9.out; have z11_ := HGBKX.out; have z12_ := HZ10.out; have z13_ := HZ11.out; have z14_ := HZ12.out; have z15_ := HZ13.out; have z16_ := HGBKG.out; have z17_ := HZ14.out; have z18_ := HZ15.out; have z19_ := HZ16.out; have z20_ := HZ17.out; have z21_ := HZ18.out; have z22_ := HZ19.out; have z23_ := HZ20.out; have z24_ := HZ21.out; have z25_ := HZ22.out; have z26_ := HZ23.out; have z27_ := HZ24.out; have z28_ := HZ25.out; have z29_ := HZ26.out; have z30_ := HZ27.out; have z31_ := HZ28.out; have z32_ := HZ29.out; have z33_ := HGBKH.out; omega)).trans BKX.out); have BKG := Aside0.mk (show w30_.heap[gBKG]? = some (.cells #[(.slice AOG_0 o0.length cOG_0), (.slice AOG_1 o1.length cOG_1), (.slice AOG_2 o2.length cOG_2)] 66 (0, 0)) from (hk.2 _ (blk_lt BKG.out) (fun h3 => by have z0_ := HZ1.out; have z1_ := HGBKP.out; have z2_ := HZ2.out; have z3_ := HZ3.out; have z4_ := HZ4.out; have z5_ := HZ5.out; have z6_ := HZ6.out; have z7_ := HGBKW.out; have z8_ := HZ7.out; have z9_ := HZ8.out; have z10_ := HZ9.out; have z11_ := HGBKX.out; have z12_ := HZ10.out; have z13_ := HZ11.out; have z14_ := HZ12.out; have z15_ := HZ13.out; have z16_ := HGBKG.out; have z17_ := HZ14.out; have z18_ := HZ15.out; have z19_ := HZ16.out; have z20_ := HZ17.out; have z21_ := HZ18.out; have z22_ := HZ19.out; have z23_ := HZ20.out; have z24_ := HZ21.out; have z25_ := HZ22.out; have z26_ := HZ23.out; have z27_ := HZ24.out; have z28_ := HZ25.out; have z29_ := HZ26.out; have z30_ := HZ27.out; have z31_ := HZ28.out; have z32_ := HZ29.out; have z33_ := HGBKH.out; omega)).trans BKG.out); have HZ30 := Aside0.mk (show w29_.heap.size ≤ w30_.heap.size from hk.1); have BKH := Aside0.mk hbox; have HB := Aside0.mk hB; clear hk hw hbox hB; clear hfzBKH_0 hfzBKH_1 hfzBKH_2; (try clear hczBKP_0 hczBKP_1 hczBKP_2 hczBKW_0 hczBKW_1 hczBKW_2 hczBKX_0 hczBKX_1 hczBKX_2 hczBKG_0 hczBKG_1 hczBKG_2 hczBKH_0 hczBKH_1 hczBKH_2); have hczBKP_0 : w30_.cell? ⟨gBKP, 0, none⟩ = some (.slice A0_0 l0_0.length c0_0) := (blk_cell BKP.out 0).trans rfl; have hczBKP_1 : w30_.cell? ⟨gBKP, 1, none⟩ = some (.slice A0_1 l0_1.length c0_1) := (blk_cell BKP.out 1).trans rfl; have hczBKP_2 : w30_.cell? ⟨gBKP, 2, none⟩ = some (.slice A0_2 l0_2.length c0_2) := (blk_cell BKP.out 2).trans rfl; have hczBKW_0 : w30_.cell? ⟨gBKW, 0, none⟩ = some ((.slice AOW_0 o0.length cOW_0)) := (blk_cell BKW.out 0).trans rfl; have hczBKW_1 : w30_.cell? ⟨gBKW, 1, none⟩ = some ((.slice AOW_1 o1.length cOW_1)) := (blk_cell BKW.out 1).trans rfl; have hczBKW_2 : w30_.cell? ⟨gBKW, 2, none⟩ = some ((.slice AOW_2 o2.length cOW_2)) := (blk_cell BKW.out 2).trans rfl; have hczBKX_0 : w30_.cell? ⟨gBKX, 0, none⟩ = some ((.slice AOX_0 l0_0.length cOX_0)) := (blk_cell BKX.out 0).trans rfl; have hczBKX_1 : w30_.cell? ⟨gBKX, 1, none⟩ = some ((.slice AOX_1 l0_1.length cOX_1)) := (blk_cell BKX.out 1).trans rfl; have hczBKX_2 : w30_.cell? ⟨gBKX, 2, none⟩ = some ((.slice AOX_2 l0_2.length cOX_2)) := (blk_cell BKX.out 2).trans rfl; have hczBKG_0 : w30_.cell? ⟨gBKG, 0, none⟩ = some ((.slice AOG_0 o0.length cOG_0)) := (blk_cell BKG.out 0).trans rfl; have hczBKG_1 : w30_.cell? ⟨gBKG, 1, none⟩ = some ((.slice AOG_1 o1.length cOG_1)) := (blk_cell BKG.out 1).trans rfl; have hczBKG_2 : w30_.cell? ⟨gBKG, 2, none⟩ = some ((.slice AOG_2 o2.length cOG_2)) := (blk_cell BKG.out 2).trans rfl; have hczBKH_0 : w30_.cell? ⟨gBKH, 0, none⟩ = some ((.slice AOH_0 o0.length cOH_0)) := (blk_cell BKH.out 0).trans rfl; have hczBKH_1 : w30_.cell? ⟨gBKH, 1, none⟩ = some ((.slice AOH_1 o1.length cOH_1)) := (blk_cell BKH.out 1).trans rfl; have hczBKH_2 : w30_.cell? ⟨gBKH, 2, none⟩ = some ((.slice AOH_2 o2.length cOH_2)) := (blk_cell BKH.out 2).trans rfl))
    refine (laws_eqDfa.calls k _ _ o0 _ _ o1 _ _ o2 _ _ o0 _ _ o1 _ _ o2 true _ ?s103_ ?s104_ ?s105_ ?s106_ ?s107_ ?s108_ ?s109_ ?s110_ ?s111_ ?s112_ ?s113_ ?s114_ HF3.out).mono ?_
    case s103_ => exact (OwnDfa.rd0 (by (with_reducible repeat apply OwnDfa.drewN); exact OH.out) rfl).2.2
    case s104_ => exact (OwnDfa.rd0 OH.out rfl).2.1
    case s105_ => exact (OwnDfa.rd1 (by (with_reducible repeat apply OwnDfa.drewN); exact OH.out) rfl).2.2
    case s106_ => exact (OwnDfa.rd1 OH.out rfl).2.1
    case s107_ => exact (OwnDfa.rd2 (by (with_reducible repeat apply OwnDfa.drewN); exact OH.out) rfl).2.2
    case s108_ => exact (OwnDfa.rd2 OH.out rfl).2.1
    case s109_ => exact (OwnDfa.rd0 (by (with_reducible repeat apply OwnDfa.drewN); exact OW.out) rfl).2.2
    case s110_ => exact (OwnDfa.rd0 OW.out rfl).2.1
    case s111_ => exact (OwnDfa.rd1 (by (with_reducible repeat apply OwnDfa.drewN); exact OW.out) rfl).2.2
    case s112_ => exact (OwnDfa.rd1 OW.out rfl).2.1
    case s113_ => exact (OwnDfa.rd2 (by (with_reducible repeat apply OwnDfa.drewN); exact OW.out) rfl).2.2
    case s114_ => exact (OwnDfa.rd2 OW.out rfl).2.1
    rintro e w31_ ⟨rfl, hb⟩
    have OW := Aside0.mk (OwnDfa.below (show OwnDfa _ _ _ _ _ _ _ _ _ _ _ from by (with_reducible repeat apply OwnDfa.drewN); exact OW.out) hb)
    have OG := Aside0.mk (OwnDfa.below (show OwnDfa _ _ _ _ _ _ _ _ _ _ _ from by (with_reducible repeat apply OwnDfa.drewN); exact OG.out) hb)
    have OH := Aside0.mk (OwnDfa.below (show OwnDfa _ _ _ _ _ _ _ _ _ _ _ from by (with_reducible repeat apply OwnDfa.drewN); exact OH.out) hb)
    have BKP := Aside0.mk (show w31_.heap[gBKP]? = some (.cells #[.slice A0_0 l0_0.length c0_0, .slice A0_1 l0_1.length c0_1, .slice A0_2 l0_2.length c0_2] 63 (0, 0)) from (hb.block _ (blk_lt BKP.out)).trans BKP.out)
    have BKW := Aside0.mk (show w31_.heap[gBKW]? = some (.cells #[(.slice AOW_0 o0.length cOW_0), (.slice AOW_1 o1.length cOW_1), (.slice AOW_2 o2.length cOW_2)] 66 (0, 0)) from (hb.block _ (blk_lt BKW.out)).trans BKW.out)
    have BKX := Aside0.mk (show w31_.heap[gBKX]? = some (.cells #[(.slice AOX_0 l0_0.length cOX_0), (.slice AOX_1 l0_1.length cOX_1), (.slice AOX_2 l0_2.length cOX_2)] 66 (0, 0)) from (hb.block _ (blk_lt BKX.out)).trans BKX.out)
    have BKG := Aside0.mk (show w31_.heap[gBKG]? = some (.cells #[(.slice AOG_0 o0.length cOG_0), (.slice AOG_1 o1.length cOG_1), (.slice AOG_2 o2.length cOG_2)] 66 (0, 0)) from (hb.block _ (blk_lt BKG.out)).trans BKG.out)
    have BKH := Aside0.mk (show w31_.heap[gBKH]? = some (.cells #[(.slice AOH_0 o0.length cOH_0), (.slice AOH_1 o1.length cOH_1), (.slice AOH_2 o2.length cOH_2)] 66 (0, 0)) from (hb.block _ (blk_lt BKH.out)).trans BKH.out)
    have HZ31 := Aside0.mk (show w30_.heap.size ≤ w31_.heap.size from hb.size)
    have HB := Aside0.mk (below_step (show Below w.heap.size w _ from by (with_reducible repeat apply pw_below_drewN); exact HB.out) hb)
    (try clear hczBKP_0 hczBKP_1 hczBKP_2 hczBKW_0 hczBKW_1 hczBKW_2 hczBKX_0 hczBKX_1 hczBKX_2 hczBKG_0 hczBKG_1 hczBKG_2 hczBKH_0 hczBKH_1 hczBKH_2)
    have hczBKP_0 : w31_.cell? ⟨gBKP, 0, none⟩ = some (.slice A0_0 l0_0.length c0_0) := (blk_cell BKP.out 0).trans rfl
    have hczBKP_1 : w31_.cell? ⟨gBKP, 1, none⟩ = some (.slice A0_1 l0_1.length c0_1) := (blk_cell BKP.out 1).trans rfl
    have hczBKP_2 : w31_.cell? ⟨gBKP, 2, none⟩ = some (.slice A0_2 l0_2.length c0_2) := (blk_cell BKP.out 2).trans rfl
    have hczBKW_0 : w31_.cell? ⟨gBKW, 0, none⟩ = some ((.slice AOW_0 o0.length cOW_0)) := (blk_cell BKW.out 0).trans rfl
    have hczBKW_1 : w31_.cell? ⟨gBKW, 1, none⟩ = some ((.slice AOW_1 o1.length cOW_1)) := (blk_cell BKW.out 1).trans rfl
    have hczBKW_2 : w31_.cell? ⟨gBKW, 2, none⟩ = some ((.slice AOW_2 o2.length cOW_2)) := (blk_cell BKW.out 2).trans rfl
    have hczBKX_0 : w31_.cell? ⟨gBKX, 0, none⟩ = some ((.slice AOX_0 l0_0.length cOX_0)) := (blk_cell BKX.out 0).trans rfl
    have hczBKX_1 : w31_.cell? ⟨gBKX, 1, none⟩ = some ((.slice AOX_1 l0_1.length cOX_1)) := (blk_cell BKX.out 1).trans rfl
    have hczBKX_2 : w31_.cell? ⟨gBKX, 2, none⟩ = some ((.slice AOX_2 l0_2.length cOX_2)) := (blk_cell BKX.out 2).trans rfl
    have hczBKG_0 : w31_.cell? ⟨gBKG, 0, none⟩ = some ((.slice AOG_0 o0.length cOG_0)) := (blk_cell BKG.out 0).trans rfl
    have hczBKG_1 : w31_.cell? ⟨gBKG, 1, none⟩ = some ((.slice AOG_1 o1.length cOG_1)) := (blk_cell BKG.out 1).trans rfl
    have hczBKG_2 : w31_.cell? ⟨gBKG, 2, none⟩ = some ((.slice AOG_2 o2.length cOG_2)) := (blk_cell BKG.out 2).trans rfl
    have hczBKH_0 : w31_.cell? ⟨gBKH, 0, none⟩ = some ((.slice AOH_0 o0.length cOH_0)) := (blk_cell BKH.out 0).trans rfl
    have hczBKH_1 : w31_.cell? ⟨gBKH, 1, none⟩ = some ((.slice AOH_1 o1.length cOH_1)) := (blk_cell BKH.out 1).trans rfl
    have hczBKH_2 : w31_.cell? ⟨gBKH, 2, none⟩ = some ((.slice AOH_2 o2.length cOH_2)) := (blk_cell BKH.out 2).trans rfl
    clear hb
    go_wp2_with fail
    refine (OwnDfa.held k 1 m2 (show OwnDfa _ _ _ _ _ _ _ _ _ _ _ from by (with_reducible repeat apply OwnDfa.drewN); exact OG.out) HF8.out).mono ?_
    rintro e w32_ ⟨rfl, hb⟩
    have OW := Aside0.mk (OwnDfa.below (show OwnDfa _ _ _ _ _ _ _ _ _ _ _ from by (with_reducible repeat apply OwnDfa.drewN); exact OW.out) hb)
    have OG := Aside0.mk (OwnDfa.below (show OwnDfa _ _ _ _ _ _ _ _ _ _ _ from by (with_reducible repeat apply OwnDfa.drewN); exact OG.out) hb)
    have OH := Aside0.mk (OwnDfa.below (show OwnDfa _ _ _ _ _ _ _ _ _ _ _ from by (with_reducible repeat apply OwnDfa.drewN); exact OH.out) hb)
    have BKP := Aside0.mk (show w32_.heap[gBKP]? = some (.cells #[.slice A0_0 l0_0.length c0_0, .slice A0_1 l0_1.length c0_1, .slice A0_2 l0_2.length c0_2] 63 (0, 0)) from (hb.block _ (blk_lt BKP.out)).trans BKP.out)
    have BKW := Aside0.mk (show w32_.heap[gBKW]? = some (.cells #[(.slice AOW_0 o0.length cOW_0), (.slice AOW_1 o1.length cOW_1), (.slice AOW_2 o2.length cOW_2)] 66 (0, 0)) from (hb.block _ (blk_lt BKW.out)).trans BKW.out)
    have BKX := Aside0.mk (show w32_.heap[gBKX]? = some (.cells #[(.slice AOX_0 l0_0.length cOX_0), (.slice AOX_1 l0_1.length cOX_1), (.slice AOX_2 l0_2.length cOX_2)] 66 (0, 0)) from (hb.block _ (blk_lt BKX.out)).trans BKX.out)
    have BKG := Aside0.mk (show w32_.heap[gBKG]? = some (.cells #[(.slice AOG_0 o0.length cOG_0), (.slice AOG_1 o1.length cOG_1), (.slice AOG_2 o2.length cOG_2)] 66 (0, 0)) from (hb.block _ (blk_lt BKG.out)).trans BKG.out)
    have BKH := Aside0.mk (show w32_.heap[gBKH]? = some (.cells #[(.slice AOH_0 o0.length cOH_0), (.slice AOH_1 o1.length cOH_1), (.slice AOH_2 o2.length cOH_2)] 66 (0, 0)) from (hb.block _ (blk_lt BKH.out)).trans BKH.out)
    have HZ32 := Aside0.mk (show w31_.heap.size ≤ w32_.heap.size from hb.size)
    have HB := Aside0.mk (below_step (show Below w.heap.size w _ from by (with_reducible repeat apply pw_below_drewN); exact HB.out) hb)
    (try clear hczBKP_0 hczBKP_1 hczBKP_2 hczBKW_0 hczBKW_1 hczBKW_2 hczBKX_0 hczBKX_1 hczBKX_2 hczBKG_0 hczBKG_1 hczBKG_2 hczBKH_0 hczBKH_1 hczBKH_2)
    have hczBKP_0 : w32_.cell? ⟨gBKP, 0, none⟩ = some (.slice A0_0 l0_0.length c0_0) := (blk_cell BKP.out 0).trans rfl
    have hczBKP_1 : w32_.cell? ⟨gBKP, 1, none⟩ = some (.slice A0_1 l0_1.length c0_1) := (blk_cell BKP.out 1).trans rfl
    have hczBKP_2 : w32_.cell? ⟨gBKP, 2, none⟩ = some (.slice A0_2 l0_2.length c0_2) := (blk_cell BKP.out 2).trans rfl
    have hczBKW_0 : w32_.cell? ⟨gBKW, 0, none⟩ = some ((.slice AOW_0 o0.length cOW_0)) := (blk_cell BKW.out 0).trans rfl
    have hczBKW_1 : w32_.cell? ⟨gBKW, 1, none⟩ = some ((.slice AOW_1 o1.length cOW_1)) := (blk_cell BKW.out 1).trans rfl
    have hczBKW_2 : w32_.cell? ⟨gBKW, 2, none⟩ = some ((.slice AOW_2 o2.length cOW_2)) := (blk_cell BKW.out 2).trans rfl
    have hczBKX_0 : w32_.cell? ⟨gBKX, 0, none⟩ = some ((.slice AOX_0 l0_0.length cOX_0)) := (blk_cell BKX.out 0).trans rfl
    have hczBKX_1 : w32_.cell? ⟨gBKX, 1, none⟩ = some ((.slice AOX_1 l0_1.length cOX_1)) := (blk_cell BKX.out 1).trans rfl
    have hczBKX_2 : w32_.cell? ⟨gBKX, 2, none⟩ = some ((.slice AOX_2 l0_2.length cOX_2)) := (blk_cell BKX.out 2).trans rfl
    have hczBKG_0 : w32_.cell? ⟨gBKG, 0, none⟩ = some ((.slice AOG_0 o0.length cOG_0)) := (blk_cell BKG.out 0).trans rfl
    have hczBKG_1 : w32_.cell? ⟨gBKG, 1, none⟩ = some ((.slice AOG_1 o1.length cOG_1)) := (blk_cell BKG.out 1).trans rfl
    have hczBKG_2 : w32_.cell? ⟨gBKG, 2, none⟩ = some ((.slice AOG_2 o2.length cOG_2)) := (blk_cell BKG.out 2).trans rfl
    have hczBKH_0 : w32_.cell? ⟨gBKH, 0, none⟩ = some ((.slice AOH_0 o0.length cOH_0)) := (blk_cell BKH.out 0).trans rfl
    have hczBKH_1 : w32_.cell? ⟨gBKH, 1, none⟩ = some ((.slice AOH_1 o1.length cOH_1)) := (blk_cell BKH.out 1).trans rfl
    have hczBKH_2 : w32_.cell? ⟨gBKH, 2, none⟩ = some ((.slice AOH_2 o2.length cOH_2)) := (blk_cell BKH.out 2).trans rfl
    clear hb
    go_wp2
    go_ret
    exact ⟨by first | rfl | (simp; done), by (with_reducible repeat apply pw_below_drewN); exact HB.out⟩

end Go.Proofs.Ytabpfejdppfcdaa.PFnExactRestrict
