-- Written by this session's own program (wip/pr.py) over the kit's printer; contracts that the printer does not know are given by hand.
import Derived.Test.YtaemhmgcjpcicaaPFnExactSameMapx0
import Derived.Test.YtaemhmgcjpcicaaPFnExactSameMapx5
import Derived.Test.YtaemhmgcjpcicaaPFnExactSameMapx6
import Derived.Test.YtaemhmgcjpcicaaPFnExactSameMapx7
namespace Go.Proofs.Ytaemhmgcjpcicaa.PFnExactSameMap
open Go.RowKit Go.Proofs.YtaemhmgcjpcicaaW.PrintWords Go.Proofs.YtaemhmgcjpcicaaW.PrintLast Go.Proofs.YtaemhmgcjpcicaaW.PrintMore
attribute [local go_sem] max2_int min2_int max_two min_two max_three min_three max_four min_four   -- for this text's walks alone
set_option linter.unusedVariables false
set_option linter.unusedSimpArgs false

/-! ### impl_SameMap: function 55 -/
theorem impl_find.mono_l (P : Int → Int → Option Bool) (c : Nat) (d0 : List Int) (d1 : List (List Int)) (d2 : List Int) (e0 : List Int) (e1 : List (List Int)) (e2 : List Int) (bs : List Int) : ∀ k, ∀ y0 y1 y2, LeO (impl_find.l0 P c d0 d1 d2 e0 e1 e2 bs k y0 y1 y2) (impl_find.l0 P c d0 d1 d2 e0 e1 e2 bs (k + 1) y0 y1 y2)
  | 0 => fun _ _ _ r h => by simp [impl_find.l0] at h
  | k + 1 => by
    have ih := impl_find.mono_l P c d0 d1 d2 e0 e1 e2 bs k
    intro y0 y1 y2
    rw [impl_find.l0, impl_find.l0]
    refine LeO.ite (LeO.ite ?_ (ih _ _ _)) (LeO.refl _)
    refine LeO.bind (LeO.refl _) (fun x => LeO.bind (LeO.refl _) (fun y => ?_))
    refine LeO.ite (LeO.ite (ih _ _ _) ?_) (LeO.refl _)
    refine LeO.bind (LeO.refl _) (fun b => ?_)
    refine LeO.ite (LeO.bind (impl_textTo.mono _ _ k) (fun _ => LeO.refl _)) (ih _ _ _)
theorem impl_find.mono (P : Int → Int → Option Bool) (first : Int) (d0 : List Int) (d1 : List (List Int)) (d2 : List Int) (e0 : List Int) (e1 : List (List Int)) (e2 : List Int) (k : Nat) : LeO (impl_find.f k P first d0 d1 d2 e0 e1 e2) (impl_find.f (k + 1) P first d0 d1 d2 e0 e1 e2) := by
  have hg : ∀ c, LeO (impl_find.g k P c d0 d1 d2 e0 e1 e2) (impl_find.g (k + 1) P c d0 d1 d2 e0 e1 e2) := fun c => by
    unfold impl_find.g
    exact LeO.bind (LeO.refl _) (fun bs => impl_find.mono_l P c d0 d1 d2 e0 e1 e2 bs k _ _ _)
  unfold impl_find.f
  refine LeO.ite (LeO.bind (LeO.refl _) (fun b => LeO.ite (LeO.refl _) (hg _))) (LeO.ite (hg _) (LeO.refl _))
def sameP (a b : List Int) (x y : Int) : Option Bool := if (0 ≤ x ∧ x < (a.length : Int)) ∧ (0 ≤ y ∧ y < (b.length : Int)) then some (rd a x != rd b y) else none
def impl_SameMap.f (k : Nat) (d0 : List Int) (d1 : List (List Int)) (d2 : List Int) (e0 : List Int) (e1 : List (List Int)) (e2 : List Int) : Option (Bool × ByteArray) :=
  (impl_DfaOk.f k d0 d1 d2).bind fun b => if b = true then ((impl_DfaOk.f k e0 e1 e2).bind fun b2 => if b2 = true then ((impl_find.f k (sameP d2 e2) 0 d0 d1 d2 e0 e1 e2).bind fun p => some (!p.2, p.1)) else some (false, ByteArray.empty)) else some (false, ByteArray.empty)
theorem impl_SameMap.mono : ∀ d0 d1 d2 e0 e1 e2 k, LeO (impl_SameMap.f k d0 d1 d2 e0 e1 e2) (impl_SameMap.f (k + 1) d0 d1 d2 e0 e1 e2) := by
  intro d0 d1 d2 e0 e1 e2 k
  unfold impl_SameMap.f
  exact LeO.bind (impl_DfaOk.mono _ _ _ k) (fun b => LeO.ite (LeO.bind (impl_DfaOk.mono _ _ _ k) (fun b2 => LeO.ite (LeO.bind (impl_find.mono _ _ _ _ _ _ _ _ k) (fun _ => LeO.refl _)) (LeO.refl _))) (LeO.refl _))
set_option maxHeartbeats 1000000 in
set_option maxRecDepth 100000 in
theorem impl_SameMap_1.calls (W : World) (g0 g1 : Nat) (v0 v1 : Value) (v3 v4 : Value) (A c : _) (l : List Int) (B e : _) (m : List Int) (h0 : W.heap[g0]? = some (.cells #[v0, v1, .slice A l.length c] 84 (0, 0))) (h1 : W.heap[g1]? = some (.cells #[v3, v4, .slice B m.length e] 84 (0, 0))) (hl : Kd.C (Kd.int .i64) W A l.length l) (hm : Kd.C (Kd.int .i64) W B m.length m) (x y : Int) (b : Bool) (hP : sameP l m x y = some b) :
    Calls Try.prog 131 (#[.int .i64 x, .int .i64 y] ++ #[.pointer (some ⟨g0, 0, none⟩), .pointer (some ⟨g1, 0, none⟩)]) W fun e w' => e = .returned (.bool b) ∧ Drawn0 W w' := by
  unfold sameP at hP
  by_cases hc : (0 ≤ x ∧ x < (l.length : Int)) ∧ (0 ≤ y ∧ y < (m.length : Int))
  case neg => rw [if_neg hc] at hP; cases hP
  rw [if_pos hc] at hP
  have hr := Option.some.inj hP
  obtain ⟨ad, e0, hx⟩ := Kd.at_int hl x hc.1.1 hc.1.2
  cases e0
  obtain ⟨ad2, e1, hy⟩ := Kd.at_int hm y hc.2.1 hc.2.2
  cases e1
  have t0 := eq_true hc.1.1
  have t1 := eq_true hc.1.2
  have t2 := eq_true hc.2.1
  have t3 := eq_true hc.2.2
  have hu := Try.underlying84
  have z0 : W.cell? ⟨g0, 2, none⟩ = some (.slice (some ad) l.length c) := (blk_cell h0 2).trans rfl
  have z1 : W.cell? ⟨g1, 2, none⟩ = some (.slice (some ad2) m.length e) := (blk_cell h1 2).trans rfl
  generalize rd l x = p at *
  generalize rd m y = q at *
  have HR := Aside0.mk hr
  clear h0 h1 hl hm hP hc hr
  go_enter Try.func131, Try.ntmps131
  go_wp2
  repeat (go_quiet (fail); try go_wp2)
  go_ret
  exact ⟨by rw [← HR.out]; first | rfl | (simp; done), by repeat (first | exact Drawn0.refl _ | apply Drawn0.step)⟩
set_option maxHeartbeats 4000000 in
set_option maxRecDepth 100000 in
theorem impl_SameMap.calls (k : Nat) (A0_0 : Option Addr) (c0_0 : Nat) (l0_0 : List Int) (A0_1 : Option Addr) (c0_1 : Nat) (l0_1 : List (List Int)) (A0_2 : Option Addr) (c0_2 : Nat) (l0_2 : List Int) (A1_0 : Option Addr) (c1_0 : Nat) (l1_0 : List Int) (A1_1 : Option Addr) (c1_1 : Nat) (l1_1 : List (List Int)) (A1_2 : Option Addr) (c1_2 : Nat) (l1_2 : List Int) (r1 : Bool) (r2 : ByteArray) (w : World) (hr0_0 : Kd.C (Kd.int .i64) w A0_0 l0_0.length l0_0) (hc0_0 : l0_0.length ≤ c0_0) (hr0_1 : Kd.C (Kd.slice 2 (Kd.int .i64)) w A0_1 l0_1.length l0_1) (hc0_1 : l0_1.length ≤ c0_1) (hr0_2 : Kd.C (Kd.int .i64) w A0_2 l0_2.length l0_2) (hc0_2 : l0_2.length ≤ c0_2) (hr1_0 : Kd.C (Kd.int .i64) w A1_0 l1_0.length l1_0) (hc1_0 : l1_0.length ≤ c1_0) (hr1_1 : Kd.C (Kd.slice 2 (Kd.int .i64)) w A1_1 l1_1.length l1_1) (hc1_1 : l1_1.length ≤ c1_1) (hr1_2 : Kd.C (Kd.int .i64) w A1_2 l1_2.length l1_2) (hc1_2 : l1_2.length ≤ c1_2) (h : impl_SameMap.f k l0_0 l0_1 l0_2 l1_0 l1_1 l1_2 = some (r1, r2)) :
    Calls Try.prog 55 #[.agg #[.slice A0_0 l0_0.length c0_0, .slice A0_1 l0_1.length c0_1, .slice A0_2 l0_2.length c0_2], .agg #[.slice A1_0 l1_0.length c1_0, .slice A1_1 l1_1.length c1_1, .slice A1_2 l1_2.length c1_2]] w fun e w' => e = .returned (.tuple #[.bool r1, .string r2]) ∧ Below w.heap.size w w' := by
  have HR0_0 := Aside0.mk hr0_0
  have HC0_0 := Aside0.mk hc0_0
  have HR0_1 := Aside0.mk hr0_1
  have HC0_1 := Aside0.mk hc0_1
  have HR0_2 := Aside0.mk hr0_2
  have HC0_2 := Aside0.mk hc0_2
  clear hr0_0 hc0_0 hr0_1 hc0_1 hr0_2 hc0_2
  have HR1_0 := Aside0.mk hr1_0
  have HC1_0 := Aside0.mk hc1_0
  have HR1_1 := Aside0.mk hr1_1
  have HC1_1 := Aside0.mk hc1_1
  have HR1_2 := Aside0.mk hr1_2
  have HC1_2 := Aside0.mk hc1_2
  clear hr1_0 hc1_0 hr1_1 hc1_1 hr1_2 hc1_2
  have hu := Try.underlying84
  obtain ⟨W, hWe⟩ : ∃ W, W = ((w.alloc (.cells #[.slice A0_0 l0_0.length c0_0, .slice A0_1 l0_1.length c0_1, .slice A0_2 l0_2.length c0_2] 84)).alloc (.cells #[.slice A1_0 l1_0.length c1_0, .slice A1_1 l1_1.length c1_1, .slice A1_2 l1_2.length c1_2] 84)) := ⟨_, rfl⟩
  have hB1 := (Below.refl w.heap.size w).alloc (Nat.le_refl _) (.cells #[.slice A0_0 l0_0.length c0_0, .slice A0_1 l0_1.length c0_1, .slice A0_2 l0_2.length c0_2] 84)
  have hBW : Below w.heap.size w W := by rw [hWe]; exact hB1.alloc hB1.size _
  have hk1 := (heap_alloc_new w (.cells #[.slice A0_0 l0_0.length c0_0, .slice A0_1 l0_1.length c0_1, .slice A0_2 l0_2.length c0_2] 84))
  have hk4 : W.heap[w.heap.size]? = some (.cells #[.slice A0_0 l0_0.length c0_0, .slice A0_1 l0_1.length c0_1, .slice A0_2 l0_2.length c0_2] 84 (0, 0)) := by rw [hWe]; exact blk_alloc hk1 _
  have hk5 : W.heap[w.heap.size + 1]? = some (.cells #[.slice A1_0 l1_0.length c1_0, .slice A1_1 l1_1.length c1_1, .slice A1_2 l1_2.length c1_2] 84 (0, 0)) := by rw [hWe]; have := heap_alloc_new (w.alloc (.cells #[.slice A0_0 l0_0.length c0_0, .slice A0_1 l0_1.length c0_1, .slice A0_2 l0_2.length c0_2] 84)) (.cells #[.slice A1_0 l1_0.length c1_0, .slice A1_1 l1_1.length c1_1, .slice A1_2 l1_2.length c1_2] 84); simpa using this
  have HWE := Aside0.mk hWe
  have HBW := Aside0.mk hBW
  have HK4 := Aside0.mk hk4
  have HK5 := Aside0.mk hk5
  clear hB1 hBW hk1 hk4 hk5 hWe
  unfold impl_SameMap.f at h
  obtain ⟨b, hd, h⟩ := Option.bind_eq_some_iff.1 h
  have HD0 := Aside0.mk hd
  have HH := Aside0.mk h
  clear hd h
  go_enter Try.func55, Try.ntmps55
  go_upto_region 1 with fail
  rw [← HWE.out]
  have y0_0 : W.cell? ⟨w.heap.size, 0, none⟩ = some (.slice A0_0 l0_0.length c0_0) := (blk_cell HK4.out 0).trans rfl
  have y0_1 : W.cell? ⟨w.heap.size, 1, none⟩ = some (.slice A0_1 l0_1.length c0_1) := (blk_cell HK4.out 1).trans rfl
  have y0_2 : W.cell? ⟨w.heap.size, 2, none⟩ = some (.slice A0_2 l0_2.length c0_2) := (blk_cell HK4.out 2).trans rfl
  go_wp2_with fail
  refine (impl_DfaOk.calls k _ _ l0_0 _ _ l0_1 _ _ l0_2 b _ (Kd.C_below HR0_0.out HBW.out) HC0_0.out (Kd.C_below HR0_1.out HBW.out) HC0_1.out (Kd.C_below HR0_2.out HBW.out) HC0_2.out HD0.out).mono ?_
  rintro e w1 ⟨rfl, hb⟩
  have HB1 := Aside0.mk (below_step HBW.out hb)
  replace HK4 := Aside0.mk (blk_below HK4.out hb)
  replace HK5 := Aside0.mk (blk_below HK5.out hb)
  clear hb y0_0 y0_1 y0_2
  have y0_0 : w1.cell? ⟨w.heap.size, 0, none⟩ = some (.slice A0_0 l0_0.length c0_0) := (blk_cell HK4.out 0).trans rfl
  have y0_1 : w1.cell? ⟨w.heap.size, 1, none⟩ = some (.slice A0_1 l0_1.length c0_1) := (blk_cell HK4.out 1).trans rfl
  have y0_2 : w1.cell? ⟨w.heap.size, 2, none⟩ = some (.slice A0_2 l0_2.length c0_2) := (blk_cell HK4.out 2).trans rfl
  have y1_0 : w1.cell? ⟨w.heap.size + 1, 0, none⟩ = some (.slice A1_0 l1_0.length c1_0) := (blk_cell HK5.out 0).trans rfl
  have y1_1 : w1.cell? ⟨w.heap.size + 1, 1, none⟩ = some (.slice A1_1 l1_1.length c1_1) := (blk_cell HK5.out 1).trans rfl
  have y1_2 : w1.cell? ⟨w.heap.size + 1, 2, none⟩ = some (.slice A1_2 l1_2.length c1_2) := (blk_cell HK5.out 2).trans rfl
  cases b with
  | false =>
    have hr := HH.out
    rw [if_neg (by decide)] at hr
    injection hr with hr
    injection hr with hr1 hr2
    subst hr1 hr2
    clear HH
    go_wp2
    go_ret2
    exact ⟨rfl, HB1.out⟩
  | true =>
    have h2 := HH.out
    rw [if_pos rfl] at h2
    obtain ⟨b, hd, h⟩ := Option.bind_eq_some_iff.1 h2
    have HD1 := Aside0.mk hd
    replace HH := Aside0.mk h
    clear hd h h2
    go_wp2_with fail
    refine (impl_DfaOk.calls k _ _ l1_0 _ _ l1_1 _ _ l1_2 b _ (Kd.C_below HR1_0.out HB1.out) HC1_0.out (Kd.C_below HR1_1.out HB1.out) HC1_1.out (Kd.C_below HR1_2.out HB1.out) HC1_2.out HD1.out).mono ?_
    rintro e w2 ⟨rfl, hb⟩
    have HB2 := Aside0.mk (below_step HB1.out hb)
    replace HK4 := Aside0.mk (blk_below HK4.out hb)
    replace HK5 := Aside0.mk (blk_below HK5.out hb)
    clear hb y0_0 y0_1 y0_2 y1_0 y1_1 y1_2
    have y0_0 : w2.cell? ⟨w.heap.size, 0, none⟩ = some (.slice A0_0 l0_0.length c0_0) := (blk_cell HK4.out 0).trans rfl
    have y0_1 : w2.cell? ⟨w.heap.size, 1, none⟩ = some (.slice A0_1 l0_1.length c0_1) := (blk_cell HK4.out 1).trans rfl
    have y0_2 : w2.cell? ⟨w.heap.size, 2, none⟩ = some (.slice A0_2 l0_2.length c0_2) := (blk_cell HK4.out 2).trans rfl
    have y1_0 : w2.cell? ⟨w.heap.size + 1, 0, none⟩ = some (.slice A1_0 l1_0.length c1_0) := (blk_cell HK5.out 0).trans rfl
    have y1_1 : w2.cell? ⟨w.heap.size + 1, 1, none⟩ = some (.slice A1_1 l1_1.length c1_1) := (blk_cell HK5.out 1).trans rfl
    have y1_2 : w2.cell? ⟨w.heap.size + 1, 2, none⟩ = some (.slice A1_2 l1_2.length c1_2) := (blk_cell HK5.out 2).trans rfl
    cases b with
    | false =>
      have hr := HH.out
      rw [if_neg (by decide)] at hr
      injection hr with hr
      injection hr with hr1 hr2
      subst hr1 hr2
      clear HH
      go_wp2
      go_ret2
      exact ⟨rfl, HB2.out⟩
    | true =>
      have h2 := HH.out
      rw [if_pos rfl] at h2
      obtain ⟨p, hf, h⟩ := Option.bind_eq_some_iff.1 h2
      injection h with hr
      injection hr with hr1 hr2
      subst hr1 hr2
      have HF := Aside0.mk hf
      clear HH hf h2
      go_wp2_with fail
      refine (impl_find.calls k (sameP l0_2 l1_2) 0 _ _ l0_0 _ _ l0_1 _ _ l0_2 _ _ l1_0 _ _ l1_1 _ _ l1_2 p _ (Kd.C_below HR0_0.out HB2.out) HC0_0.out (Kd.C_below HR0_1.out HB2.out) HC0_1.out (Kd.C_below HR0_2.out HB2.out) HC0_2.out (Kd.C_below HR1_0.out HB2.out) HC1_0.out (Kd.C_below HR1_1.out HB2.out) HC1_1.out (Kd.C_below HR1_2.out HB2.out) HC1_2.out 131 _ (fun a v => Try.call131 a v) ?hp HF.out).mono ?_
      case hp =>
        intro W' x y b hbw hP
        exact impl_SameMap_1.calls W' _ _ _ _ _ _ _ _ l0_2 _ _ l1_2 (blk_below HK4.out hbw) (blk_below HK5.out hbw) (Kd.C_below HR0_2.out (below_step HB2.out hbw)) (Kd.C_below HR1_2.out (below_step HB2.out hbw)) x y b hP
      rintro e w3 ⟨rfl, hb⟩
      have HB3 := Aside0.mk (below_step HB2.out hb)
      clear hb y0_0 y0_1 y0_2 y1_0 y1_1 y1_2
      go_wp2
      go_ret2
      exact ⟨rfl, HB3.out⟩

end Go.Proofs.Ytaemhmgcjpcicaa.PFnExactSameMap
