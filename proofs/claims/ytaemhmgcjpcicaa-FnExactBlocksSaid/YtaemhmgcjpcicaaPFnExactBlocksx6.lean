-- Written by this session's own program (wip/pr.py) over the kit's printer; contracts that the printer does not know are given by hand.
import Derived.Test.YtaemhmgcjpcicaaPFnExactBlocksx0
import Derived.Test.YtaemhmgcjpcicaaPFnExactBlocksx1
import Derived.Test.YtaemhmgcjpcicaaPFnExactBlocksx3
import Derived.Test.YtaemhmgcjpcicaaPFnExactBlocksx4
import Derived.Test.YtaemhmgcjpcicaaPFnExactBlocksx5
namespace Go.Proofs.Ytaemhmgcjpcicaa.PFnExactBlocks
open Go.RowKit Go.Proofs.YtaemhmgcjpcicaaW.PrintWords Go.Proofs.YtaemhmgcjpcicaaW.PrintLast Go.Proofs.YtaemhmgcjpcicaaW.PrintMore
attribute [local go_sem] max2_int min2_int max_two min_two max_three min_three max_four min_four   -- for this text's walks alone
set_option linter.unusedVariables false
set_option linter.unusedSimpArgs false

/-! ### laws_markSpanSS: function 45 -/
def laws_markSpanSS.l0 : Nat → List (List S33) → Int → Int → Option (Int × List (List S33))
  | 0, _, _, _ => none
  | k + 1, x0, x1, x5 => if x5 < (x0.length : Int) then (if 0 ≤ x5 then ((laws_markSpanS.f k (x0.getD (x5 : Int).toNat []) x1).bind fun bt => (laws_markSpanSS.l0 k (x0.set (x5 : Int).toNat bt.2) bt.1 (wrap64 (x5 + 1)))) else (none)) else (some (x1, x0))
def laws_markSpanSS.f (k : Nat) (l0 : List (List S33)) (a1 : Int) : Option (Int × List (List S33)) := laws_markSpanSS.l0 k l0 a1 0
theorem laws_markSpanSS.mono_l : ∀ k, (∀ y0 y1 y2, LeO (laws_markSpanSS.l0 k y0 y1 y2) (laws_markSpanSS.l0 (k + 1) y0 y1 y2))
  | 0 => fun _ _ _ r h => by simp [laws_markSpanSS.l0] at h
  | k + 1 => by
    have ih := laws_markSpanSS.mono_l k
    intro y0 y1 y2
    unfold laws_markSpanSS.l0
    repeat' first
      | (with_reducible exact ih _ _ _)
      | (with_reducible exact laws_markSpanS.mono _ _ _)
      | (with_reducible exact LeO.refl _)
      | (with_reducible refine LeO.ite ?_ ?_)
      | (with_reducible refine LeO.bind ?_ (fun _ => ?_))
theorem laws_markSpanSS.mono : ∀ a0 a1 k, LeO (laws_markSpanSS.f k a0 a1) (laws_markSpanSS.f (k + 1) a0 a1) := fun a0 a1 k => laws_markSpanSS.mono_l k a0 a1 0
set_option maxHeartbeats 1000000 in
set_option maxRecDepth 100000 in
theorem laws_markSpanSS.calls (k : Nat) (P0_ : Nat → Prop) (u9000_ : Value) (l0 : List (List S33)) (a1 : Int) (r1 : Int) (r2 : List (List S33)) (w0 w : World) (hB : Below w0.heap.size w0 w) (ho0 : Kd.S (Kd.slice 33 k33) 31 w w0.heap.size P0_ u9000_ l0) (h : laws_markSpanSS.f k l0 a1 = some (r1, r2)) :
    Calls Try.prog 45 #[u9000_, .int .i64 a1] w fun e w' => e = .returned (.int .i64 r1) ∧ Kd.S (Kd.slice 33 k33) 31 w' w0.heap.size (fun k_ => (P0_ k_ ∨ w.heap.size ≤ k_)) u9000_ r2 ∧ Below w0.heap.size w0 w' ∧ Kept w w' (fun k_ => P0_ k_) := by
  have HS := Aside0.mk (Kd.S_mono ho0 (fun k_ hk => (show P0_ k_ ∨ w.heap.size ≤ k_ from .inl hk)))
  have HB := Aside0.mk hB
  have HK := Aside0.mk (Kept.refl w (fun k_ => P0_ k_))
  have H := Aside0.mk (show laws_markSpanSS.l0 k l0 a1 0 = some (r1, r2) from h)
  have HL0 := Aside0.mk hB.size
  clear hB h
  obtain ⟨A0, c0, rfl⟩ := Kd.R_slice (Kd.S_R ho0)
  clear ho0
  go_enter Try.func45, Try.ntmps45
  go_wp2
  go_loopg [1, 5] k (fun kq v1 v5 w' => ∃ (x0_1 : List (List S33)) (x1_1 : Int) (x5_1 : Int), v1 = .int .i64 x1_1 ∧ v5 = .int .i64 x5_1 ∧ x0_1.length = l0.length ∧ Aside0 (laws_markSpanSS.l0 kq x0_1 x1_1 x5_1 = some (r1, r2)) ∧ Aside0 (kq ≤ k) ∧ Aside0 (Kd.S (Kd.slice 33 k33) 31 w' w0.heap.size (fun k_ => (P0_ k_ ∨ w.heap.size ≤ k_)) (.slice A0 l0.length c0) x0_1) ∧ Aside0 (Kept w w' (fun k_ => P0_ k_)) ∧ Aside0 (Below w0.heap.size w0 w'))
  case atStart => exact ⟨l0, a1, 0, rfl, rfl, rfl, H, ⟨Nat.le_refl _⟩, HS, HK, HB⟩
  case round =>
    clear H HS HK HB
    obtain ⟨x0, x1, x5, rfl, rfl, hlen, HA, HK1, HS, HK, HB⟩ := hrel
    cases gk with
    | zero => exact absurd HA.out (by simp [laws_markSpanSS.l0])
    | succ k1 =>
      have H := HA.out
      clear HA
      simp only [laws_markSpanSS.l0] at H
      have HLen := Aside0.mk hlen
      by_cases c3 : x5 < (x0.length : Int)
      · rw [if_pos c3] at H
        by_cases c4 : 0 ≤ x5
        · rw [if_pos c4] at H
          obtain ⟨⟨c', row'⟩, HCall, H⟩ := Option.bind_eq_some_iff.mp H
          have HC := Aside0.mk HCall
          have H' := Aside0.mk H
          clear H HCall
          obtain ⟨g, cap, hv, _, _, _⟩ := Kd.R_form (Kd.S_R HS.out) (by omega)
          have hA : A0 = some ⟨g, 0, none⟩ := by injection hv
          have hc : c0 = cap := by injection hv
          clear hv
          subst hA
          subst hc
          obtain ⟨oki, c, hcl, hM, hcc, hoki, hH⟩ := Kd.S_lend HS.out [] x5 c4 (by omega)
          obtain ⟨v, rfl, hR⟩ := hM
          have hx := hcc 0 v rfl
          have d1 : (Kd.slice 33 k33).sz = 1 := rfl
          rw [d1, Nat.mul_one, Nat.add_zero] at hx
          have HR := Aside0.mk hR
          have HH := Aside0.mk hH
          have HO := Aside0.mk hoki
          have t0 := eq_true c4
          have t1 := eq_true (show x5 < (l0.length : Int) by omega)
          have C34 := Aside0.mk (And.intro c3 c4)
          clear hcl hcc hH hR hoki hlen c3 c4 d1
          go_wp2_with fail
          refine (laws_markSpanS.calls k1 oki v (x0.getD (x5 : Int).toNat []) x1 c' row' w0 _ HB.out HR.out HC.out).mono ?_
          rintro e w2 ⟨rfl, hR2, hB2, hK2⟩
          have HR2 := Aside0.mk hR2
          have HB2 := Aside0.mk hB2
          have HK2 := Aside0.mk hK2
          clear hR2 hB2 hK2
          go_wp2
          go_roundg k1
          case measure => have := HK1.out; omega
          case rel =>
            refine ⟨x0.set (x5 : Int).toNat row', c', wrap64 (x5 + 1), rfl, by first | rfl | (simp; done), by rw [List.length_set]; exact HLen.out, H', ⟨by have := HK1.out; omega⟩, ⟨?_⟩, ⟨?_⟩, HB2⟩
            · refine Kd.H_back (Kd.H_kept (Kd.H_widen HH.out) HK2.out (fun k_ _ hn hk => hn (.inl hk))) (okp := fun k_ => oki k_ ∨ wr.heap.size ≤ k_) ⟨_, rfl, HR2.out⟩ (fun k_ hk => ?_)
              rcases hk with hk | hk
              · exact .inl hk
              · exact .inr ⟨.inr (Nat.le_trans HK.out.1 hk), hk⟩
            · exact Kept.then_ HK.out HK2.out (fun k_ hk => (HO.out k_ hk).1)
        · rw [if_neg c4] at H
          exact absurd H (by simp)
      · rw [if_neg c3] at H
        have c3b := eq_false (show ¬ x5 < (l0.length : Int) by omega)
        obtain ⟨rfl, rfl⟩ := Prod.mk.inj (Option.some.inj H)
        clear H c3 hlen
        go_wp2
        go_ret
        exact ⟨by first | rfl | (simp; done), HS.out, HB.out, HK.out⟩

/-! ### laws_FnExactBlocks: function 8 -/
def OwnSpanSS (D : Prop) (W : World) (b lo hi : Nat) (v0 : Value) (l0 : List (List S33)) : Prop := ∃ P0 : Nat → Prop, (Kd.S (Kd.slice 33 k33) 31 W b P0 v0 l0) ∧ (∀ k, P0 k → lo ≤ k ∧ k < hi) ∧ (D → True)
theorem OwnSpanSS.kept {D : Prop} {W W2 : World} {b lo hi : Nat} {v0 : Value} {l0 : List (List S33)} {S : Nat → Prop} (h : OwnSpanSS D W b lo hi v0 l0) (hk : Kept W W2 S) (hne : ∀ k, lo ≤ k → k < hi → ¬ S k) : OwnSpanSS D W2 b lo hi v0 l0 := by
  obtain ⟨P0, h0, hi_, hd⟩ := h
  exact ⟨P0, Kd.S_kept h0 hk (fun k q => hne k (hi_ k (q)).1 (hi_ k (q)).2), hi_, hd⟩
theorem OwnSpanSS.below {D : Prop} {W W2 : World} {b lo hi : Nat} {v0 : Value} {l0 : List (List S33)} (h : OwnSpanSS D W b lo hi v0 l0) (hb : Below W.heap.size W W2) : OwnSpanSS D W2 b lo hi v0 l0 := h.kept (Kept.of_below hb (fun _ => False)) (fun _ _ _ q => q)
theorem OwnSpanSS.drewN {D : Prop} {W : World} {b lo hi : Nat} {v0 : Value} {l0 : List (List S33)} (h : OwnSpanSS D W b lo hi v0 l0) (m : Nat) : OwnSpanSS D (W.drewN m) b lo hi v0 l0 := by
  obtain ⟨P0, h0, hi_, hd⟩ := h
  exact ⟨P0, Kd.S_drewN h0 m, hi_, hd⟩
theorem OwnSpanSS.slices {D : Prop} {W : World} {b lo hi : Nat} {v0 : Value} {l0 : List (List S33)} (h : OwnSpanSS D W b lo hi v0 l0) : ∃ A0 c0, v0 = .slice A0 l0.length c0 := by
  obtain ⟨P0, h0, hi_, hd⟩ := h
  obtain ⟨A0, c0, e0⟩ := Kd.S_slice h0
  exact ⟨A0, c0, e0⟩
theorem OwnSpanSS.rd0 {D : Prop} {W : World} {b lo hi : Nat} {v0 : Value} {l0 : List (List S33)} {A : Option Addr} {m c : Nat} (h : OwnSpanSS D W b lo hi v0 l0) (e : v0 = .slice A m c) : m = l0.length ∧ m ≤ c ∧ (Kd.slice 33 k33).C W A l0.length l0 := by
  obtain ⟨P0, h0, hi_, hd⟩ := h
  subst e
  exact Kd.S_reads' h0
theorem OwnSpanSS.of {W : World} {b lo : Nat} {v0 : Value} {l0 : List (List S33)} {ok0 : Nat → Prop} (hb : b ≤ lo) (ho0 : Kd.S (Kd.slice 33 k33) 31 W lo ok0 v0 l0)  : OwnSpanSS True W b lo W.heap.size v0 l0 :=
  ⟨(fun k => ok0 k ∧ lo ≤ k ∧ k < W.heap.size), Kd.S_lower (Kd.S_mono (Kd.S_bound ho0) (ok' := fun k => ok0 k ∧ lo ≤ k ∧ k < W.heap.size) (fun k q => ⟨q.1, q.2.1, q.2.2.1⟩)) hb, fun k q => q.2, fun _ => trivial⟩
theorem OwnSpanSS.of0 {W : World} {b lo : Nat} {v0 : Value} {l0 : List (List S33)} {ok0 : Nat → Prop} (hb : b ≤ lo) (ho0 : Kd.S (Kd.slice 33 k33) 31 W lo ok0 v0 l0) : OwnSpanSS False W b lo W.heap.size v0 l0 :=
  ⟨(fun k => ok0 k ∧ lo ≤ k ∧ k < W.heap.size), Kd.S_lower (Kd.S_mono (Kd.S_bound ho0) (ok' := fun k => ok0 k ∧ lo ≤ k ∧ k < W.heap.size) (fun k q => ⟨q.1, q.2.1, q.2.2.1⟩)) hb, fun k q => q.2, fun q => q.elim⟩
theorem OwnSpanSS.mark {W w0 : World} {lo hi : Nat} {v0 : Value} {l0 : List (List S33)} (k : Nat)  (a m : Int) (y0 : List (List S33)) (h : OwnSpanSS True W w0.heap.size lo hi v0 l0) (hB : Below w0.heap.size w0 W) (hlo : lo ≤ W.heap.size) (hf : laws_markSpanSS.f k l0 a = some (m, y0)) :
    Calls Try.prog 45 #[v0, .int .i64 a] W fun e w' => e = .returned (.int .i64 m) ∧ OwnSpanSS False w' w0.heap.size lo w'.heap.size v0 y0 ∧ Below w0.heap.size w0 w' ∧ Kept W w' (fun k => lo ≤ k ∧ k < hi) := by
  obtain ⟨P0, h0, hi_, hd⟩ := h
  refine (laws_markSpanSS.calls k  P0 v0 l0 a m y0 w0 W hB h0  hf).mono ?_
  rintro e w' ⟨rfl, g0, hb, hk⟩
  refine ⟨rfl, ⟨(fun k => lo ≤ k ∧ k < w'.heap.size), Kd.S_mono (Kd.S_bound g0) (fun k q => ⟨q.1.elim (fun q => (hi_ k q).1) (fun q => Nat.le_trans hlo q), q.2.2.1⟩), fun k q => q, fun q => q.elim⟩, hb, hk.mono (fun k q => hi_ k q)⟩
def OwnInt64S (D : Prop) (W : World) (b lo hi : Nat) (v0 : Value) (l0 : List Int) : Prop := ∃ P0 : Nat → Prop, (Kd.R (Kd.int .i64) 2 W b P0 v0 l0) ∧ (∀ k, P0 k → lo ≤ k ∧ k < hi) ∧ (D → True)
theorem OwnInt64S.kept {D : Prop} {W W2 : World} {b lo hi : Nat} {v0 : Value} {l0 : List Int} {S : Nat → Prop} (h : OwnInt64S D W b lo hi v0 l0) (hk : Kept W W2 S) (hne : ∀ k, lo ≤ k → k < hi → ¬ S k) : OwnInt64S D W2 b lo hi v0 l0 := by
  obtain ⟨P0, h0, hi_, hd⟩ := h
  exact ⟨P0, Kd.R_kept h0 hk (fun k q => hne k (hi_ k (q)).1 (hi_ k (q)).2), hi_, hd⟩
theorem OwnInt64S.below {D : Prop} {W W2 : World} {b lo hi : Nat} {v0 : Value} {l0 : List Int} (h : OwnInt64S D W b lo hi v0 l0) (hb : Below W.heap.size W W2) : OwnInt64S D W2 b lo hi v0 l0 := h.kept (Kept.of_below hb (fun _ => False)) (fun _ _ _ q => q)
theorem OwnInt64S.drewN {D : Prop} {W : World} {b lo hi : Nat} {v0 : Value} {l0 : List Int} (h : OwnInt64S D W b lo hi v0 l0) (m : Nat) : OwnInt64S D (W.drewN m) b lo hi v0 l0 := by
  obtain ⟨P0, h0, hi_, hd⟩ := h
  exact ⟨P0, Kd.R_drewN h0 m, hi_, hd⟩
theorem OwnInt64S.slices {D : Prop} {W : World} {b lo hi : Nat} {v0 : Value} {l0 : List Int} (h : OwnInt64S D W b lo hi v0 l0) : ∃ A0 c0, v0 = .slice A0 l0.length c0 := by
  obtain ⟨P0, h0, hi_, hd⟩ := h
  obtain ⟨A0, c0, e0⟩ := Kd.R_slice h0
  exact ⟨A0, c0, e0⟩
theorem OwnInt64S.rd0 {D : Prop} {W : World} {b lo hi : Nat} {v0 : Value} {l0 : List Int} {A : Option Addr} {m c : Nat} (h : OwnInt64S D W b lo hi v0 l0) (e : v0 = .slice A m c) : m = l0.length ∧ m ≤ c ∧ (Kd.int .i64).C W A l0.length l0 := by
  obtain ⟨P0, h0, hi_, hd⟩ := h
  subst e
  exact Kd.R_reads' h0
theorem OwnInt64S.of {W : World} {b lo : Nat} {v0 : Value} {l0 : List Int} {ok0 : Nat → Prop} (hb : b ≤ lo) (ho0 : Kd.R (Kd.int .i64) 2 W lo ok0 v0 l0)  : OwnInt64S True W b lo W.heap.size v0 l0 :=
  ⟨(fun k => some k = v0.ownBlock ∧ lo ≤ k ∧ k < W.heap.size), Kd.R_lower (Kd.R_mono (Kd.R_bound (Kd.R_tight rfl ho0)) (ok' := fun k => some k = v0.ownBlock ∧ lo ≤ k ∧ k < W.heap.size) (fun k q => ⟨q.1, q.2.1, q.2.2.1⟩)) hb, fun k q => q.2, fun _ => trivial⟩
theorem OwnInt64S.of0 {W : World} {b lo : Nat} {v0 : Value} {l0 : List Int} {ok0 : Nat → Prop} (hb : b ≤ lo) (ho0 : Kd.R (Kd.int .i64) 2 W lo ok0 v0 l0) : OwnInt64S False W b lo W.heap.size v0 l0 :=
  ⟨(fun k => some k = v0.ownBlock ∧ lo ≤ k ∧ k < W.heap.size), Kd.R_lower (Kd.R_mono (Kd.R_bound (Kd.R_tight rfl ho0)) (ok' := fun k => some k = v0.ownBlock ∧ lo ≤ k ∧ k < W.heap.size) (fun k q => ⟨q.1, q.2.1, q.2.2.1⟩)) hb, fun k q => q.2, fun q => q.elim⟩
theorem OwnInt64S.mark {W w0 : World} {lo hi : Nat} {v0 : Value} {l0 : List Int} (k : Nat)  (a m : Int) (y0 : List Int) (h : OwnInt64S True W w0.heap.size lo hi v0 l0) (hB : Below w0.heap.size w0 W) (hlo : lo ≤ W.heap.size) (hf : laws_markInt64S.f k l0 a = some (m, y0)) :
    Calls Try.prog 27 #[v0, .int .i64 a] W fun e w' => e = .returned (.int .i64 m) ∧ OwnInt64S False w' w0.heap.size lo w'.heap.size v0 y0 ∧ Below w0.heap.size w0 w' ∧ Kept W w' (fun k => lo ≤ k ∧ k < hi) := by
  obtain ⟨P0, h0, hi_, hd⟩ := h
  refine (laws_markInt64S.calls k  P0 v0 l0 a m y0 w0 W hB h0  hf).mono ?_
  rintro e w' ⟨rfl, g0, hb, hk⟩
  refine ⟨rfl, ⟨(fun k => lo ≤ k ∧ k < w'.heap.size), Kd.R_mono (Kd.R_bound g0) (fun k q => ⟨q.1.elim (fun q => (hi_ k q).1) (fun q => Nat.le_trans hlo q), q.2.2.1⟩), fun k q => q, fun q => q.elim⟩, hb, hk.mono (fun k q => hi_ k q)⟩
theorem OwnInt64S.held {D : Prop} {W : World} {b lo hi : Nat} {v0 : Value} {l0 : List Int} (k : Nat) (a m : Int) (h : OwnInt64S D W b lo hi v0 l0) (hf : laws_heldInt64S.f k l0 a = some m) :
    Calls Try.prog 28 #[v0, .int .i64 a] W fun e w' => e = .returned (.int .i64 m) ∧ Below W.heap.size W w' := by
  obtain ⟨A0, c0, e0⟩ := h.slices
  subst e0
  exact (laws_heldInt64S.calls k A0 c0 l0 a m W (h.rd0 rfl).2.2 (h.rd0 rfl).2.1 hf).mono (fun e w' q => ⟨q.1, q.2.below⟩)
def laws_FnExactBlocks.ok (k : Nat) (l0 : List (List S220)) : Prop := ∃ (e0 : List (List S33)) (o0_0 : List Int) (b1 : Int) (m0 : Int) (y0_0 : List (List S33)) (mr : Int) (z0_ : List Int), laws_toSpanSS.f k l0 = some (e0) ∧ spec_Blocks.f k e0 = some (o0_0, b1) ∧ impl_Blocks.f k e0 = some (o0_0, b1) ∧ laws_eqInt64S.f k o0_0 o0_0 = some true ∧ laws_eqSpanSS.f k e0 e0 = some true ∧ laws_markSpanSS.f k e0 1 = some (m0, y0_0) ∧ 0 ≤ m0 ∧ laws_markInt64S.f k o0_0 1 = some (mr, z0_) ∧ laws_heldInt64S.f k z0_ 1 = some mr ∧ 0 ≤ mr
open Classical in
noncomputable def laws_FnExactBlocks.f (k : Nat) (l0 : List (List S220)) : Option Bool := (laws_szSpanSS.f k l0 1048576).bind fun t0_ => if t0_ < 0 then some true else (if laws_FnExactBlocks.ok k l0 then some true else none)
set_option maxHeartbeats 16000000 in
set_option maxRecDepth 100000 in
theorem laws_FnExactBlocks.calls (k : Nat) (A0 : Option Addr) (c0 : Nat) (l0 : List (List S220)) (r : Bool) (w : World) (hr0 : Kd.C (Kd.slice 220 k220) w A0 l0.length l0) (hc0 : l0.length ≤ c0) (h : laws_FnExactBlocks.f k l0 = some r) :
    Calls Try.prog 8 #[.slice A0 l0.length c0] w fun e w' => e = .returned (.bool r) ∧ Below w.heap.size w w' := by
  have HR0 := Aside0.mk hr0
  have HC0 := Aside0.mk hc0
  clear hr0 hc0
  have HB := Aside0.mk (Below.refl w.heap.size w)
  unfold laws_FnExactBlocks.f at h
  obtain ⟨t0_, ht_, h⟩ := Option.bind_eq_some_iff.1 h
  have HSt0_ := Aside0.mk ht_
  clear ht_
  by_cases ct0_ : t0_ < 0
  · rw [if_pos ct0_] at h
    obtain rfl := Option.some.inj h
    replace ct0_ := eq_true ct0_
    clear h
    go_enter Try.func8, Try.ntmps8
    go_wp2_with fail
    refine (laws_szSpanSS.calls k _ _ l0 1048576 t0_ _ ?s1_ ?s2_ HSt0_.out).mono ?_
    case s1_ => (with_reducible repeat refine Kd.C_drewN ?_ _); exact Kd.C_below HR0.out HB.out
    case s2_ => exact HC0.out
    rintro e w1_ ⟨rfl, hb⟩
    replace hb := hb.below
    have HZ1 := Aside0.mk (show w.heap.size ≤ w1_.heap.size from hb.size)
    have HB := Aside0.mk (below_step (show Below w.heap.size w _ from by (with_reducible repeat apply pw_below_drewN); exact HB.out) hb)
    clear hb
    go_wp2
    go_ret
    exact ⟨by first | rfl | (simp; done), by (with_reducible repeat apply pw_below_drewN); exact HB.out⟩
  rw [if_neg ct0_] at h
  replace ct0_ := eq_false ct0_
  by_cases hok : ¬ laws_FnExactBlocks.ok k l0
  · rw [if_neg hok] at h; exact absurd h (by simp)
  · replace hok := Classical.not_not.1 hok
    rw [if_pos hok] at h
    obtain rfl := Option.some.inj h
    obtain ⟨e0, o0_0, b1, m0, y0_0, mr, z0_, f0, f1, f2, f3, f4, f5, f6, f7, f8, f9⟩ := hok
    have HFt0 := Aside0.mk f0
    have HFspec := Aside0.mk f1
    have HFimpl := Aside0.mk f2
    have HFeR := Aside0.mk f3
    have HFeX0 := Aside0.mk f4
    have HFmP0 := Aside0.mk f5
    have HFm0 := Aside0.mk f6
    have HFmR := Aside0.mk f7
    have HFh := Aside0.mk f8
    have HFh0 := Aside0.mk f9
    clear h f0 f1 f2 f3 f4 f5 f6 f7 f8 f9
    have hbbb1 : (b1 != b1) = false := bne_self_eq_false b1
    go_enter Try.func8, Try.ntmps8
    go_wp2_with fail
    refine (laws_szSpanSS.calls k _ _ l0 1048576 t0_ _ ?s1_ ?s2_ HSt0_.out).mono ?_
    case s1_ => (with_reducible repeat refine Kd.C_drewN ?_ _); exact Kd.C_below HR0.out HB.out
    case s2_ => exact HC0.out
    rintro e w1_ ⟨rfl, hb⟩
    replace hb := hb.below
    have HZ1 := Aside0.mk (show w.heap.size ≤ w1_.heap.size from hb.size)
    have HB := Aside0.mk (below_step (show Below w.heap.size w _ from by (with_reducible repeat apply pw_below_drewN); exact HB.out) hb)
    clear hb
    go_wp2_with fail
    refine (laws_toSpanSS.calls k _ _ l0 e0 _ ?s3_ ?s4_ HFt0.out).mono ?_
    case s3_ => (with_reducible repeat refine Kd.C_drewN ?_ _); exact Kd.C_below HR0.out HB.out
    case s4_ => exact HC0.out
    rintro e w2_ ⟨vOX1_0, rfl, ho0, hb⟩
    have hOX1 : OwnSpanSS True w2_ w.heap.size w1_.heap.size w2_.heap.size vOX1_0 e0 := OwnSpanSS.of (show w.heap.size ≤ w1_.heap.size from by have z0_ := HZ1.out; omega) ho0 
    obtain ⟨AOX1_0, cOX1_0, eOX1_0⟩ := hOX1.slices
    subst eOX1_0
    have HZ2 := Aside0.mk (show w1_.heap.size ≤ w2_.heap.size from hb.size)
    have HB := Aside0.mk (below_step (show Below w.heap.size w _ from by (with_reducible repeat apply pw_below_drewN); exact HB.out) hb)
    have OX1 := Aside0.mk hOX1
    clear hOX1 hb ho0
    go_wp2_with fail
    refine (spec_Blocks.calls k _ _ e0 o0_0 b1 _ ?s5_ ?s6_ HFspec.out).mono ?_
    case s5_ => exact (OwnSpanSS.rd0 (by (with_reducible repeat apply OwnSpanSS.drewN); exact OX1.out) rfl).2.2
    case s6_ => exact (OwnSpanSS.rd0 OX1.out rfl).2.1
    rintro e w3_ ⟨vOR1_0, rfl, ho0, hb⟩
    have hOR1 : OwnInt64S True w3_ w.heap.size w2_.heap.size w3_.heap.size vOR1_0 o0_0 := OwnInt64S.of (show w.heap.size ≤ w2_.heap.size from by have z0_ := HZ1.out; have z1_ := HZ2.out; omega) ho0 
    obtain ⟨AOR1_0, cOR1_0, eOR1_0⟩ := hOR1.slices
    subst eOR1_0
    have OX1 := Aside0.mk (OwnSpanSS.below (show OwnSpanSS _ _ _ _ _ _ _ from by (with_reducible repeat apply OwnSpanSS.drewN); exact OX1.out) hb)
    have HZ3 := Aside0.mk (show w2_.heap.size ≤ w3_.heap.size from hb.size)
    have HB := Aside0.mk (below_step (show Below w.heap.size w _ from by (with_reducible repeat apply pw_below_drewN); exact HB.out) hb)
    have OR1 := Aside0.mk hOR1
    clear hOR1 hb ho0
    clear OX1
    go_wp2_with fail
    refine (laws_toSpanSS.calls k _ _ l0 e0 _ ?s7_ ?s8_ HFt0.out).mono ?_
    case s7_ => (with_reducible repeat refine Kd.C_drewN ?_ _); exact Kd.C_below HR0.out HB.out
    case s8_ => exact HC0.out
    rintro e w4_ ⟨vOX2_0, rfl, ho0, hb⟩
    have hOX2 : OwnSpanSS True w4_ w.heap.size w3_.heap.size w4_.heap.size vOX2_0 e0 := OwnSpanSS.of (show w.heap.size ≤ w3_.heap.size from by have z0_ := HZ1.out; have z1_ := HZ2.out; have z2_ := HZ3.out; omega) ho0 
    obtain ⟨AOX2_0, cOX2_0, eOX2_0⟩ := hOX2.slices
    subst eOX2_0
    have OR1 := Aside0.mk (OwnInt64S.below (show OwnInt64S _ _ _ _ _ _ _ from by (with_reducible repeat apply OwnInt64S.drewN); exact OR1.out) hb)
    have HZ4 := Aside0.mk (show w3_.heap.size ≤ w4_.heap.size from hb.size)
    have HB := Aside0.mk (below_step (show Below w.heap.size w _ from by (with_reducible repeat apply pw_below_drewN); exact HB.out) hb)
    have OX2 := Aside0.mk hOX2
    clear hOX2 hb ho0
    go_wp2_with fail
    refine (impl_Blocks.calls k _ _ e0 o0_0 b1 _ ?s9_ ?s10_ HFimpl.out).mono ?_
    case s9_ => exact (OwnSpanSS.rd0 (by (with_reducible repeat apply OwnSpanSS.drewN); exact OX2.out) rfl).2.2
    case s10_ => exact (OwnSpanSS.rd0 OX2.out rfl).2.1
    rintro e w5_ ⟨vOR2_0, rfl, ho0, hb⟩
    have hOR2 : OwnInt64S True w5_ w.heap.size w4_.heap.size w5_.heap.size vOR2_0 o0_0 := OwnInt64S.of (show w.heap.size ≤ w4_.heap.size from by have z0_ := HZ1.out; have z1_ := HZ2.out; have z2_ := HZ3.out; have z3_ := HZ4.out; omega) ho0 
    obtain ⟨AOR2_0, cOR2_0, eOR2_0⟩ := hOR2.slices
    subst eOR2_0
    have OR1 := Aside0.mk (OwnInt64S.below (show OwnInt64S _ _ _ _ _ _ _ from by (with_reducible repeat apply OwnInt64S.drewN); exact OR1.out) hb)
    have OX2 := Aside0.mk (OwnSpanSS.below (show OwnSpanSS _ _ _ _ _ _ _ from by (with_reducible repeat apply OwnSpanSS.drewN); exact OX2.out) hb)
    have HZ5 := Aside0.mk (show w4_.heap.size ≤ w5_.heap.size from hb.size)
    have HB := Aside0.mk (below_step (show Below w.heap.size w _ from by (with_reducible repeat apply pw_below_drewN); exact HB.out) hb)
    have OR2 := Aside0.mk hOR2
    clear hOR2 hb ho0
    go_wp2_with fail
    refine (laws_eqInt64S.calls k _ _ o0_0 _ _ o0_0 true _ ?s11_ ?s12_ ?s13_ ?s14_ HFeR.out).mono ?_
    case s11_ => exact (OwnInt64S.rd0 (by (with_reducible repeat apply OwnInt64S.drewN); exact OR2.out) rfl).2.2
    case s12_ => exact (OwnInt64S.rd0 OR2.out rfl).2.1
    case s13_ => exact (OwnInt64S.rd0 (by (with_reducible repeat apply OwnInt64S.drewN); exact OR1.out) rfl).2.2
    case s14_ => exact (OwnInt64S.rd0 OR1.out rfl).2.1
    rintro e w6_ ⟨rfl, hb⟩
    replace hb := hb.below
    have OR1 := Aside0.mk (OwnInt64S.below (show OwnInt64S _ _ _ _ _ _ _ from by (with_reducible repeat apply OwnInt64S.drewN); exact OR1.out) hb)
    have OX2 := Aside0.mk (OwnSpanSS.below (show OwnSpanSS _ _ _ _ _ _ _ from by (with_reducible repeat apply OwnSpanSS.drewN); exact OX2.out) hb)
    have OR2 := Aside0.mk (OwnInt64S.below (show OwnInt64S _ _ _ _ _ _ _ from by (with_reducible repeat apply OwnInt64S.drewN); exact OR2.out) hb)
    have HZ6 := Aside0.mk (show w5_.heap.size ≤ w6_.heap.size from hb.size)
    have HB := Aside0.mk (below_step (show Below w.heap.size w _ from by (with_reducible repeat apply pw_below_drewN); exact HB.out) hb)
    clear hb
    go_wp2_with fail
    refine (laws_toSpanSS.calls k _ _ l0 e0 _ ?s15_ ?s16_ HFt0.out).mono ?_
    case s15_ => (with_reducible repeat refine Kd.C_drewN ?_ _); exact Kd.C_below HR0.out HB.out
    case s16_ => exact HC0.out
    rintro e w7_ ⟨vOX3_0, rfl, ho0, hb⟩
    have hOX3 : OwnSpanSS True w7_ w.heap.size w6_.heap.size w7_.heap.size vOX3_0 e0 := OwnSpanSS.of (show w.heap.size ≤ w6_.heap.size from by have z0_ := HZ1.out; have z1_ := HZ2.out; have z2_ := HZ3.out; have z3_ := HZ4.out; have z4_ := HZ5.out; have z5_ := HZ6.out; omega) ho0 
    obtain ⟨AOX3_0, cOX3_0, eOX3_0⟩ := hOX3.slices
    subst eOX3_0
    have OR1 := Aside0.mk (OwnInt64S.below (show OwnInt64S _ _ _ _ _ _ _ from by (with_reducible repeat apply OwnInt64S.drewN); exact OR1.out) hb)
    have OX2 := Aside0.mk (OwnSpanSS.below (show OwnSpanSS _ _ _ _ _ _ _ from by (with_reducible repeat apply OwnSpanSS.drewN); exact OX2.out) hb)
    have OR2 := Aside0.mk (OwnInt64S.below (show OwnInt64S _ _ _ _ _ _ _ from by (with_reducible repeat apply OwnInt64S.drewN); exact OR2.out) hb)
    have HZ7 := Aside0.mk (show w6_.heap.size ≤ w7_.heap.size from hb.size)
    have HB := Aside0.mk (below_step (show Below w.heap.size w _ from by (with_reducible repeat apply pw_below_drewN); exact HB.out) hb)
    have OX3 := Aside0.mk hOX3
    clear hOX3 hb ho0
    go_wp2_with fail
    refine (laws_eqSpanSS.calls k _ _ e0 _ _ e0 true _ ?s17_ ?s18_ ?s19_ ?s20_ HFeX0.out).mono ?_
    case s17_ => exact (OwnSpanSS.rd0 (by (with_reducible repeat apply OwnSpanSS.drewN); exact OX2.out) rfl).2.2
    case s18_ => exact (OwnSpanSS.rd0 OX2.out rfl).2.1
    case s19_ => exact (OwnSpanSS.rd0 (by (with_reducible repeat apply OwnSpanSS.drewN); exact OX3.out) rfl).2.2
    case s20_ => exact (OwnSpanSS.rd0 OX3.out rfl).2.1
    rintro e w8_ ⟨rfl, hb⟩
    have OR1 := Aside0.mk (OwnInt64S.below (show OwnInt64S _ _ _ _ _ _ _ from by (with_reducible repeat apply OwnInt64S.drewN); exact OR1.out) hb)
    have OX2 := Aside0.mk (OwnSpanSS.below (show OwnSpanSS _ _ _ _ _ _ _ from by (with_reducible repeat apply OwnSpanSS.drewN); exact OX2.out) hb)
    have OR2 := Aside0.mk (OwnInt64S.below (show OwnInt64S _ _ _ _ _ _ _ from by (with_reducible repeat apply OwnInt64S.drewN); exact OR2.out) hb)
    have OX3 := Aside0.mk (OwnSpanSS.below (show OwnSpanSS _ _ _ _ _ _ _ from by (with_reducible repeat apply OwnSpanSS.drewN); exact OX3.out) hb)
    have HZ8 := Aside0.mk (show w7_.heap.size ≤ w8_.heap.size from hb.size)
    have HB := Aside0.mk (below_step (show Below w.heap.size w _ from by (with_reducible repeat apply pw_below_drewN); exact HB.out) hb)
    clear hb
    clear OX3
    go_wp2_with fail
    refine (OwnSpanSS.mark k  1 m0 y0_0 (show OwnSpanSS _ _ _ _ _ _ _ from by (with_reducible repeat apply OwnSpanSS.drewN); exact OX2.out) (show Below w.heap.size w _ from by (with_reducible repeat apply pw_below_drewN); exact HB.out) (show _ ≤ w8_.heap.size from by have z0_ := HZ1.out; have z1_ := HZ2.out; have z2_ := HZ3.out; have z3_ := HZ4.out; have z4_ := HZ5.out; have z5_ := HZ6.out; have z6_ := HZ7.out; have z7_ := HZ8.out; omega) HFmP0.out).mono ?_
    rintro e w9_ ⟨rfl, hY, hB, hk⟩
    have OR1 := Aside0.mk (OwnInt64S.kept (show OwnInt64S _ _ _ _ _ _ _ from by (with_reducible repeat apply OwnInt64S.drewN); exact OR1.out) hk (fun k_ h1 h2 h3 => by have z0_ := HZ1.out; have z1_ := HZ2.out; have z2_ := HZ3.out; have z3_ := HZ4.out; have z4_ := HZ5.out; have z5_ := HZ6.out; have z6_ := HZ7.out; have z7_ := HZ8.out; omega))
    have OR2 := Aside0.mk (OwnInt64S.kept (show OwnInt64S _ _ _ _ _ _ _ from by (with_reducible repeat apply OwnInt64S.drewN); exact OR2.out) hk (fun k_ h1 h2 h3 => by have z0_ := HZ1.out; have z1_ := HZ2.out; have z2_ := HZ3.out; have z3_ := HZ4.out; have z4_ := HZ5.out; have z5_ := HZ6.out; have z6_ := HZ7.out; have z7_ := HZ8.out; omega))
    have HZ9 := Aside0.mk (show w8_.heap.size ≤ w9_.heap.size from hk.1)
    have OX2 := Aside0.mk hY
    have HB := Aside0.mk hB
    clear hY hB hk
    (try have t1 : (m0 < 0) = False := eq_false (by have := HFm0.out; omega))
    clear OX2
    go_wp2_with fail
    refine (laws_eqInt64S.calls k _ _ o0_0 _ _ o0_0 true _ ?s21_ ?s22_ ?s23_ ?s24_ HFeR.out).mono ?_
    case s21_ => exact (OwnInt64S.rd0 (by (with_reducible repeat apply OwnInt64S.drewN); exact OR2.out) rfl).2.2
    case s22_ => exact (OwnInt64S.rd0 OR2.out rfl).2.1
    case s23_ => exact (OwnInt64S.rd0 (by (with_reducible repeat apply OwnInt64S.drewN); exact OR1.out) rfl).2.2
    case s24_ => exact (OwnInt64S.rd0 OR1.out rfl).2.1
    rintro e w10_ ⟨rfl, hb⟩
    replace hb := hb.below
    have OR1 := Aside0.mk (OwnInt64S.below (show OwnInt64S _ _ _ _ _ _ _ from by (with_reducible repeat apply OwnInt64S.drewN); exact OR1.out) hb)
    have OR2 := Aside0.mk (OwnInt64S.below (show OwnInt64S _ _ _ _ _ _ _ from by (with_reducible repeat apply OwnInt64S.drewN); exact OR2.out) hb)
    have HZ10 := Aside0.mk (show w9_.heap.size ≤ w10_.heap.size from hb.size)
    have HB := Aside0.mk (below_step (show Below w.heap.size w _ from by (with_reducible repeat apply pw_below_drewN); exact HB.out) hb)
    clear hb
    go_wp2_with fail
    refine (OwnInt64S.mark k  1 mr z0_ (show OwnInt64S _ _ _ _ _ _ _ from by (with_reducible repeat apply OwnInt64S.drewN); exact OR2.out) (show Below w.heap.size w _ from by (with_reducible repeat apply pw_below_drewN); exact HB.out) (show _ ≤ w10_.heap.size from by have z0_ := HZ1.out; have z1_ := HZ2.out; have z2_ := HZ3.out; have z3_ := HZ4.out; have z4_ := HZ5.out; have z5_ := HZ6.out; have z6_ := HZ7.out; have z7_ := HZ8.out; have z8_ := HZ9.out; have z9_ := HZ10.out; omega) HFmR.out).mono ?_
    rintro e w11_ ⟨rfl, hY, hB, hk⟩
    have OR1 := Aside0.mk (OwnInt64S.kept (show OwnInt64S _ _ _ _ _ _ _ from by (with_reducible repeat apply OwnInt64S.drewN); exact OR1.out) hk (fun k_ h1 h2 h3 => by have z0_ := HZ1.out; have z1_ := HZ2.out; have z2_ := HZ3.out; have z3_ := HZ4.out; have z4_ := HZ5.out; have z5_ := HZ6.out; have z6_ := HZ7.out; have z7_ := HZ8.out; have z8_ := HZ9.out; have z9_ := HZ10.out; omega))
    have HZ11 := Aside0.mk (show w10_.heap.size ≤ w11_.heap.size from hk.1)
    have OR2 := Aside0.mk hY
    have HB := Aside0.mk hB
    clear hY hB hk
    have t3 : (mr != mr) = false := bne_self_eq_false mr
    go_wp2_with fail
    refine (OwnInt64S.held k 1 mr (show OwnInt64S _ _ _ _ _ _ _ from by (with_reducible repeat apply OwnInt64S.drewN); exact OR2.out) HFh.out).mono ?_
    rintro e w12_ ⟨rfl, hb⟩
    have OR1 := Aside0.mk (OwnInt64S.below (show OwnInt64S _ _ _ _ _ _ _ from by (with_reducible repeat apply OwnInt64S.drewN); exact OR1.out) hb)
    have OR2 := Aside0.mk (OwnInt64S.below (show OwnInt64S _ _ _ _ _ _ _ from by (with_reducible repeat apply OwnInt64S.drewN); exact OR2.out) hb)
    have HZ12 := Aside0.mk (show w11_.heap.size ≤ w12_.heap.size from hb.size)
    have HB := Aside0.mk (below_step (show Below w.heap.size w _ from by (with_reducible repeat apply pw_below_drewN); exact HB.out) hb)
    clear hb
    (try have t2 : (mr < 0) = False := eq_false (by have := HFh0.out; omega))
    go_wp2_with fail
    refine (laws_toSpanSS.calls k _ _ l0 e0 _ ?s25_ ?s26_ HFt0.out).mono ?_
    case s25_ => (with_reducible repeat refine Kd.C_drewN ?_ _); exact Kd.C_below HR0.out HB.out
    case s26_ => exact HC0.out
    rintro e w13_ ⟨vOX4_0, rfl, ho0, hb⟩
    have hOX4 : OwnSpanSS True w13_ w.heap.size w12_.heap.size w13_.heap.size vOX4_0 e0 := OwnSpanSS.of (show w.heap.size ≤ w12_.heap.size from by have z0_ := HZ1.out; have z1_ := HZ2.out; have z2_ := HZ3.out; have z3_ := HZ4.out; have z4_ := HZ5.out; have z5_ := HZ6.out; have z6_ := HZ7.out; have z7_ := HZ8.out; have z8_ := HZ9.out; have z9_ := HZ10.out; have z10_ := HZ11.out; have z11_ := HZ12.out; omega) ho0 
    obtain ⟨AOX4_0, cOX4_0, eOX4_0⟩ := hOX4.slices
    subst eOX4_0
    have OR1 := Aside0.mk (OwnInt64S.below (show OwnInt64S _ _ _ _ _ _ _ from by (with_reducible repeat apply OwnInt64S.drewN); exact OR1.out) hb)
    have OR2 := Aside0.mk (OwnInt64S.below (show OwnInt64S _ _ _ _ _ _ _ from by (with_reducible repeat apply OwnInt64S.drewN); exact OR2.out) hb)
    have HZ13 := Aside0.mk (show w12_.heap.size ≤ w13_.heap.size from hb.size)
    have HB := Aside0.mk (below_step (show Below w.heap.size w _ from by (with_reducible repeat apply pw_below_drewN); exact HB.out) hb)
    have OX4 := Aside0.mk hOX4
    clear hOX4 hb ho0
    go_wp2_with fail
    refine (impl_Blocks.calls k _ _ e0 o0_0 b1 _ ?s27_ ?s28_ HFimpl.out).mono ?_
    case s27_ => exact (OwnSpanSS.rd0 (by (with_reducible repeat apply OwnSpanSS.drewN); exact OX4.out) rfl).2.2
    case s28_ => exact (OwnSpanSS.rd0 OX4.out rfl).2.1
    rintro e w14_ ⟨vOR3_0, rfl, ho0, hb⟩
    have hOR3 : OwnInt64S True w14_ w.heap.size w13_.heap.size w14_.heap.size vOR3_0 o0_0 := OwnInt64S.of (show w.heap.size ≤ w13_.heap.size from by have z0_ := HZ1.out; have z1_ := HZ2.out; have z2_ := HZ3.out; have z3_ := HZ4.out; have z4_ := HZ5.out; have z5_ := HZ6.out; have z6_ := HZ7.out; have z7_ := HZ8.out; have z8_ := HZ9.out; have z9_ := HZ10.out; have z10_ := HZ11.out; have z11_ := HZ12.out; have z12_ := HZ13.out; omega) ho0 
    obtain ⟨AOR3_0, cOR3_0, eOR3_0⟩ := hOR3.slices
    subst eOR3_0
    have OR1 := Aside0.mk (OwnInt64S.below (show OwnInt64S _ _ _ _ _ _ _ from by (with_reducible repeat apply OwnInt64S.drewN); exact OR1.out) hb)
    have OR2 := Aside0.mk (OwnInt64S.below (show OwnInt64S _ _ _ _ _ _ _ from by (with_reducible repeat apply OwnInt64S.drewN); exact OR2.out) hb)
    have OX4 := Aside0.mk (OwnSpanSS.below (show OwnSpanSS _ _ _ _ _ _ _ from by (with_reducible repeat apply OwnSpanSS.drewN); exact OX4.out) hb)
    have HZ14 := Aside0.mk (show w13_.heap.size ≤ w14_.heap.size from hb.size)
    have HB := Aside0.mk (below_step (show Below w.heap.size w _ from by (with_reducible repeat apply pw_below_drewN); exact HB.out) hb)
    have OR3 := Aside0.mk hOR3
    clear hOR3 hb ho0
    clear OX4
    go_wp2_with fail
    refine (laws_eqInt64S.calls k _ _ o0_0 _ _ o0_0 true _ ?s29_ ?s30_ ?s31_ ?s32_ HFeR.out).mono ?_
    case s29_ => exact (OwnInt64S.rd0 (by (with_reducible repeat apply OwnInt64S.drewN); exact OR3.out) rfl).2.2
    case s30_ => exact (OwnInt64S.rd0 OR3.out rfl).2.1
    case s31_ => exact (OwnInt64S.rd0 (by (with_reducible repeat apply OwnInt64S.drewN); exact OR1.out) rfl).2.2
    case s32_ => exact (OwnInt64S.rd0 OR1.out rfl).2.1
    rintro e w15_ ⟨rfl, hb⟩
    replace hb := hb.below
    have OR1 := Aside0.mk (OwnInt64S.below (show OwnInt64S _ _ _ _ _ _ _ from by (with_reducible repeat apply OwnInt64S.drewN); exact OR1.out) hb)
    have OR2 := Aside0.mk (OwnInt64S.below (show OwnInt64S _ _ _ _ _ _ _ from by (with_reducible repeat apply OwnInt64S.drewN); exact OR2.out) hb)
    have OR3 := Aside0.mk (OwnInt64S.below (show OwnInt64S _ _ _ _ _ _ _ from by (with_reducible repeat apply OwnInt64S.drewN); exact OR3.out) hb)
    have HZ15 := Aside0.mk (show w14_.heap.size ≤ w15_.heap.size from hb.size)
    have HB := Aside0.mk (below_step (show Below w.heap.size w _ from by (with_reducible repeat apply pw_below_drewN); exact HB.out) hb)
    clear hb
    clear OR1
    clear OR3
    go_wp2_with fail
    refine (OwnInt64S.held k 1 mr (show OwnInt64S _ _ _ _ _ _ _ from by (with_reducible repeat apply OwnInt64S.drewN); exact OR2.out) HFh.out).mono ?_
    rintro e w16_ ⟨rfl, hb⟩
    have OR2 := Aside0.mk (OwnInt64S.below (show OwnInt64S _ _ _ _ _ _ _ from by (with_reducible repeat apply OwnInt64S.drewN); exact OR2.out) hb)
    have HZ16 := Aside0.mk (show w15_.heap.size ≤ w16_.heap.size from hb.size)
    have HB := Aside0.mk (below_step (show Below w.heap.size w _ from by (with_reducible repeat apply pw_below_drewN); exact HB.out) hb)
    clear hb
    (try have t2 : (mr < 0) = False := eq_false (by have := HFh0.out; omega))
    clear OR2
    go_wp2
    go_ret
    exact ⟨by first | rfl | (simp; done), by (with_reducible repeat apply pw_below_drewN); exact HB.out⟩

end Go.Proofs.Ytaemhmgcjpcicaa.PFnExactBlocks
