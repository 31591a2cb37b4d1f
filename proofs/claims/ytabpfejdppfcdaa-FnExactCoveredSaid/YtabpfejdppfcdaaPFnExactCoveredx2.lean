-- Written by this session's own program (wip/pr.py) over the kit's printer; contracts that the printer does not know are given by hand.
import Derived.Test.YtabpfejdppfcdaaPFnExactCoveredx0
import Derived.Test.YtabpfejdppfcdaaPFnExactCoveredx1
namespace Go.Proofs.Ytabpfejdppfcdaa.PFnExactCovered
open Go.RowKit Go.Proofs.YtabpfejdppfcdaaW.PrintWords Go.Proofs.YtabpfejdppfcdaaW.PrintLast Go.Proofs.YtabpfejdppfcdaaW.PrintMore
attribute [local go_sem] max2_int min2_int max_two min_two max_three min_three max_four min_four   -- for this text's walks alone
set_option linter.unusedVariables false
set_option linter.unusedSimpArgs false

/-! ### spec_Covered: function 25 -/
mutual
def spec_Covered.j0 : Nat → List (S125) → Int → List (S127) → Bool → Option ((List (S127)))
  | 0, _, _, _, _ => none
  | k + 1, x0, x1, x5, x19 => if x19 = true then (some x5) else (if 0 ≤ x1 then (if (x1 : Int).toNat ≤ 281474976710656 then (spec_Covered.l0 k x0 x1 x5 (List.replicate (x1 : Int).toNat false) 0) else (none)) else (none))
def spec_Covered.l0 : Nat → List (S125) → Int → List (S127) → List Bool → Int → Option ((List (S127)))
  | 0, _, _, _, _, _ => none
  | k + 1, x0, x1, x5, x6, x7 => if x7 < (x0.length : Int) then (if 0 ≤ x7 then ((spec_l1In.f ((rd_T125 x0 x7).f2) 0 (wrap64 (x1 - 1))).bind fun t110 => (if t110 = true then ((spec_l1In.f ((rd_T125 x0 x7).f3) (wrap64 (((rd_T125 x0 x7).f2) + 1)) x1).bind fun t111 => (spec_Covered.j2 k x0 x1 x5 x6 x7 (!t111) ((rd_T125 x0 x7).f0) ((rd_T125 x0 x7).f1) ((rd_T125 x0 x7).f2) ((rd_T125 x0 x7).f3) ((rd_T125 x0 x7).f4) ((rd_T125 x0 x7).f5))) else (spec_Covered.j2 k x0 x1 x5 x6 x7 true ((rd_T125 x0 x7).f0) ((rd_T125 x0 x7).f1) ((rd_T125 x0 x7).f2) ((rd_T125 x0 x7).f3) ((rd_T125 x0 x7).f4) ((rd_T125 x0 x7).f5)))) else (none)) else (spec_Covered.l2 k x1 x5 x6 0)
def spec_Covered.j2 : Nat → List (S125) → Int → List (S127) → List Bool → Int → Bool → Int → Int → Int → Int → Int → Int → Option ((List (S127)))
  | 0, _, _, _, _, _, _, _, _, _, _, _, _ => none
  | k + 1, x0, x1, x5, x6, x7, x48, x110000, x110001, x110002, x110003, x110004, x110005 => if x48 = true then (some (([] : List (S127)))) else (spec_Covered.l1 k x0 x1 x5 x6 x7 x110002 x110000 x110001 x110002 x110003 x110004 x110005)
def spec_Covered.l1 : Nat → List (S125) → Int → List (S127) → List Bool → Int → Int → Int → Int → Int → Int → Int → Int → Option ((List (S127)))
  | 0, _, _, _, _, _, _, _, _, _, _, _, _ => none
  | k + 1, x0, x1, x5, x6, x7, x9, x110000, x110001, x110002, x110003, x110004, x110005 => if x9 < x110003 then (if 0 ≤ x9 then (if x9 < (x6.length : Int) then (spec_Covered.l1 k x0 x1 x5 (x6.set (x9 : Int).toNat true) x7 (wrap64 (x9 + 1)) x110000 x110001 x110002 x110003 x110004 x110005) else (none)) else (none)) else (spec_Covered.l0 k x0 x1 x5 x6 (wrap64 (x7 + 1)))
def spec_Covered.l2 : Nat → Int → List (S127) → List Bool → Int → Option ((List (S127)))
  | 0, _, _, _, _ => none
  | k + 1, x1, x5, x6, x10 => if x10 < x1 then (if 0 ≤ x10 then (if x10 < (x6.length : Int) then (if rdOf false x6 x10 = true then (spec_Covered.l2 k x1 x5 x6 (wrap64 (x10 + 1))) else (if (x5.length : Int) > 0 then (if 0 ≤ (wrap64 ((x5.length : Int) - 1)) then (if (wrap64 ((x5.length : Int) - 1)) < (x5.length : Int) then (if ((rd_T127 x5 (wrap64 ((x5.length : Int) - 1))).f1) = x10 then (spec_Covered.l2 k x1 (x5.set ((wrap64 ((x5.length : Int) - 1)) : Int).toNat (⟨(rd_T127 x5 (wrap64 ((x5.length : Int) - 1))).f0, wrap64 (x10 + 1)⟩ : S127)) x6 (wrap64 (x10 + 1))) else (if x5.length < 8796093022208 then (spec_Covered.l2 k x1 (x5 ++ [(⟨x10, wrap64 (x10 + 1)⟩ : S127)]) x6 (wrap64 (x10 + 1))) else (none))) else (none)) else (none)) else (if x5.length < 8796093022208 then (spec_Covered.l2 k x1 (x5 ++ [(⟨x10, wrap64 (x10 + 1)⟩ : S127)]) x6 (wrap64 (x10 + 1))) else (none)))) else (none)) else (none)) else (some x5)
end
def spec_Covered.f (k : Nat) (l0 : List (S125)) (a1 : Int) : Option ((List (S127))) := (some (([] : List (S127)) : List (S127))).bind fun y101 => (if (l0.length : Int) > 20000 then (spec_Covered.j0 k l0 a1 y101 true) else ((spec_l1In.f a1 0 20000).bind fun t104 => (spec_Covered.j0 k l0 a1 y101 (!t104))))
theorem spec_Covered.mono_l : ∀ k, (∀ y0 y1 y2 y3, LeO (spec_Covered.j0 k y0 y1 y2 y3) (spec_Covered.j0 (k + 1) y0 y1 y2 y3)) ∧ (∀ y0 y1 y2 y3 y4, LeO (spec_Covered.l0 k y0 y1 y2 y3 y4) (spec_Covered.l0 (k + 1) y0 y1 y2 y3 y4)) ∧ (∀ y0 y1 y2 y3 y4 y5 y6 y7 y8 y9 y10 y11, LeO (spec_Covered.j2 k y0 y1 y2 y3 y4 y5 y6 y7 y8 y9 y10 y11) (spec_Covered.j2 (k + 1) y0 y1 y2 y3 y4 y5 y6 y7 y8 y9 y10 y11)) ∧ (∀ y0 y1 y2 y3 y4 y5 y6 y7 y8 y9 y10 y11, LeO (spec_Covered.l1 k y0 y1 y2 y3 y4 y5 y6 y7 y8 y9 y10 y11) (spec_Covered.l1 (k + 1) y0 y1 y2 y3 y4 y5 y6 y7 y8 y9 y10 y11)) ∧ (∀ y0 y1 y2 y3, LeO (spec_Covered.l2 k y0 y1 y2 y3) (spec_Covered.l2 (k + 1) y0 y1 y2 y3))
  | 0 => ⟨fun _ _ _ _ r h => by simp [spec_Covered.j0] at h, fun _ _ _ _ _ r h => by simp [spec_Covered.l0] at h, fun _ _ _ _ _ _ _ _ _ _ _ _ r h => by simp [spec_Covered.j2] at h, fun _ _ _ _ _ _ _ _ _ _ _ _ r h => by simp [spec_Covered.l1] at h, fun _ _ _ _ r h => by simp [spec_Covered.l2] at h⟩
  | k + 1 => by
    obtain ⟨ih0, ih1, ih2, ih3, ih4⟩ := spec_Covered.mono_l k
    refine ⟨?_, ?_, ?_, ?_, ?_⟩
    · intro y0 y1 y2 y3
      unfold spec_Covered.j0
      repeat' first
      | (with_reducible exact ih0 _ _ _ _)
      | (with_reducible exact ih1 _ _ _ _ _)
      | (with_reducible exact ih2 _ _ _ _ _ _ _ _ _ _ _ _)
      | (with_reducible exact ih3 _ _ _ _ _ _ _ _ _ _ _ _)
      | (with_reducible exact ih4 _ _ _ _)
      | (with_reducible exact LeO.refl _)
      | (with_reducible exact LeO.none _)
      | (with_reducible refine LeO.ite ?_ ?_)
      | (with_reducible refine LeO.bind ?_ (fun _ => ?_))
      | exact ih0 _ _ _ _
      | exact ih1 _ _ _ _ _
      | exact ih2 _ _ _ _ _ _ _ _ _ _ _ _
      | exact ih3 _ _ _ _ _ _ _ _ _ _ _ _
      | exact ih4 _ _ _ _
      | exact LeO.none _
      | refine LeO.ite ?_ ?_
      | refine LeO.bind ?_ (fun _ => ?_)
    · intro y0 y1 y2 y3 y4
      unfold spec_Covered.l0
      repeat' first
      | (with_reducible exact ih0 _ _ _ _)
      | (with_reducible exact ih1 _ _ _ _ _)
      | (with_reducible exact ih2 _ _ _ _ _ _ _ _ _ _ _ _)
      | (with_reducible exact ih3 _ _ _ _ _ _ _ _ _ _ _ _)
      | (with_reducible exact ih4 _ _ _ _)
      | (with_reducible exact LeO.refl _)
      | (with_reducible exact LeO.none _)
      | (with_reducible refine LeO.ite ?_ ?_)
      | (with_reducible refine LeO.bind ?_ (fun _ => ?_))
      | exact ih0 _ _ _ _
      | exact ih1 _ _ _ _ _
      | exact ih2 _ _ _ _ _ _ _ _ _ _ _ _
      | exact ih3 _ _ _ _ _ _ _ _ _ _ _ _
      | exact ih4 _ _ _ _
      | exact LeO.none _
      | refine LeO.ite ?_ ?_
      | refine LeO.bind ?_ (fun _ => ?_)
    · intro y0 y1 y2 y3 y4 y5 y6 y7 y8 y9 y10 y11
      unfold spec_Covered.j2
      repeat' first
      | (with_reducible exact ih0 _ _ _ _)
      | (with_reducible exact ih1 _ _ _ _ _)
      | (with_reducible exact ih2 _ _ _ _ _ _ _ _ _ _ _ _)
      | (with_reducible exact ih3 _ _ _ _ _ _ _ _ _ _ _ _)
      | (with_reducible exact ih4 _ _ _ _)
      | (with_reducible exact LeO.refl _)
      | (with_reducible exact LeO.none _)
      | (with_reducible refine LeO.ite ?_ ?_)
      | (with_reducible refine LeO.bind ?_ (fun _ => ?_))
      | exact ih0 _ _ _ _
      | exact ih1 _ _ _ _ _
      | exact ih2 _ _ _ _ _ _ _ _ _ _ _ _
      | exact ih3 _ _ _ _ _ _ _ _ _ _ _ _
      | exact ih4 _ _ _ _
      | exact LeO.none _
      | refine LeO.ite ?_ ?_
      | refine LeO.bind ?_ (fun _ => ?_)
    · intro y0 y1 y2 y3 y4 y5 y6 y7 y8 y9 y10 y11
      unfold spec_Covered.l1
      repeat' first
      | (with_reducible exact ih0 _ _ _ _)
      | (with_reducible exact ih1 _ _ _ _ _)
      | (with_reducible exact ih2 _ _ _ _ _ _ _ _ _ _ _ _)
      | (with_reducible exact ih3 _ _ _ _ _ _ _ _ _ _ _ _)
      | (with_reducible exact ih4 _ _ _ _)
      | (with_reducible exact LeO.refl _)
      | (with_reducible exact LeO.none _)
      | (with_reducible refine LeO.ite ?_ ?_)
      | (with_reducible refine LeO.bind ?_ (fun _ => ?_))
      | exact ih0 _ _ _ _
      | exact ih1 _ _ _ _ _
      | exact ih2 _ _ _ _ _ _ _ _ _ _ _ _
      | exact ih3 _ _ _ _ _ _ _ _ _ _ _ _
      | exact ih4 _ _ _ _
      | exact LeO.none _
      | refine LeO.ite ?_ ?_
      | refine LeO.bind ?_ (fun _ => ?_)
    · intro y0 y1 y2 y3
      unfold spec_Covered.l2
      repeat' first
      | (with_reducible exact ih0 _ _ _ _)
      | (with_reducible exact ih1 _ _ _ _ _)
      | (with_reducible exact ih2 _ _ _ _ _ _ _ _ _ _ _ _)
      | (with_reducible exact ih3 _ _ _ _ _ _ _ _ _ _ _ _)
      | (with_reducible exact ih4 _ _ _ _)
      | (with_reducible exact LeO.refl _)
      | (with_reducible exact LeO.none _)
      | (with_reducible refine LeO.ite ?_ ?_)
      | (with_reducible refine LeO.bind ?_ (fun _ => ?_))
      | exact ih0 _ _ _ _
      | exact ih1 _ _ _ _ _
      | exact ih2 _ _ _ _ _ _ _ _ _ _ _ _
      | exact ih3 _ _ _ _ _ _ _ _ _ _ _ _
      | exact ih4 _ _ _ _
      | exact LeO.none _
      | refine LeO.ite ?_ ?_
      | refine LeO.bind ?_ (fun _ => ?_)
theorem spec_Covered.mono : ∀ a0 a1 k, LeO (spec_Covered.f k a0 a1) (spec_Covered.f (k + 1) a0 a1) := by
  intro a0 a1 k
  obtain ⟨ih0, ih1, ih2, ih3, ih4⟩ := spec_Covered.mono_l k
  unfold spec_Covered.f
  repeat' first
      | (with_reducible exact ih0 _ _ _ _)
      | (with_reducible exact ih1 _ _ _ _ _)
      | (with_reducible exact ih2 _ _ _ _ _ _ _ _ _ _ _ _)
      | (with_reducible exact ih3 _ _ _ _ _ _ _ _ _ _ _ _)
      | (with_reducible exact ih4 _ _ _ _)
      | (with_reducible exact LeO.refl _)
      | (with_reducible exact LeO.none _)
      | (with_reducible refine LeO.ite ?_ ?_)
      | (with_reducible refine LeO.bind ?_ (fun _ => ?_))
      | exact ih0 _ _ _ _
      | exact ih1 _ _ _ _ _
      | exact ih2 _ _ _ _ _ _ _ _ _ _ _ _
      | exact ih3 _ _ _ _ _ _ _ _ _ _ _ _
      | exact ih4 _ _ _ _
      | exact LeO.none _
      | refine LeO.ite ?_ ?_
      | refine LeO.bind ?_ (fun _ => ?_)
set_option maxHeartbeats 8000000 in
set_option maxRecDepth 100000 in
theorem spec_Covered.calls (k : Nat) (A0 : Option Addr) (c0 : Nat) (l0 : List (S125)) (a1 : Int) (r : List (S127)) (w : World) (hr0 : Kd.C k125 w A0 l0.length l0) (hc0 : l0.length ≤ c0) (h : spec_Covered.f k l0 a1 = some r) :
    Calls Try.prog 25 #[.slice A0 l0.length c0, .int .i64 a1] w fun e w' => ∃ v0_ : Value, e = .returned (v0_) ∧ Kd.R k127 127 w' w.heap.size (fun _ => True) v0_ r ∧ Below w.heap.size w w' := by
  have hu125 := Try.underlying125
  have hu127 := Try.underlying127
  have HR0 := Aside0.mk hr0
  have HC0 := Aside0.mk hc0
  clear hr0 hc0
  have HB := Aside0.mk (Below.refl w.heap.size w)
  have H : ((some (([] : List (S127)) : List (S127))).bind fun y101 => (if (l0.length : Int) > 20000 then (spec_Covered.j0 k l0 a1 y101 true) else ((spec_l1In.f a1 0 20000).bind fun t104 => (spec_Covered.j0 k l0 a1 y101 (!t104))))) = some r := h
  clear h
  obtain ⟨y101, hy101⟩ : ∃ y_ : List (S127), y_ = (([] : List (S127))) := ⟨_, rfl⟩
  replace H : (if (l0.length : Int) > 20000 then (spec_Covered.j0 k l0 a1 y101 true) else ((spec_l1In.f a1 0 20000).bind fun t104 => (spec_Covered.j0 k l0 a1 y101 (!t104)))) = some r := by first | (rw [hy101]; with_reducible exact H) | (have H2_ := (Option.bind_some _ _).symm.trans H; rw [hy101]; with_reducible exact H2_) | (have H2_ := (Option.bind_some _ _).symm.trans H; with_reducible exact H2_) | with_reducible exact H | (rw [hy101]; exact H) | exact H
  have Ny101 := Aside0.mk hy101
  clear hy101
  have HC3 := Aside0.mk H
  clear H
  go_enter Try.func25, Try.ntmps25
  go_upto_region 2 with (first | ((with_reducible refine gate_dst (N := 11) rfl ?_); (try (refine gate_guard (by rfl) ?_; dsimp only)); refine Kd.R_lit k127 _ 127 ?hg (N := 11) ?hd (xs := ([] : List (S127))) (inner := []) (ok := fun _ => True) (okp := fun _ => True) ?hr ?hp (fun _ hk => hk) trivial (Below.refl _ _) (Nat.le_refl _) (by simp) ?_; (case hd => rfl); (case hg => rfl); (case hr => first | (go_simp; done) | (go_simp; rfl)); (case hp => exact (Reps.none _ _)); intro v102 w4 ho5 hb hg_ hnew_; clear hg_ hnew_; (first | rw [← Ny101.out] at ho5 | (simp only [Int.reduceToNat] at ho5; rw [← Ny101.out] at ho5)); have n0_ := Aside0.mk (Kd.R_lower ho5 (below_size (by repeat (first | (with_reducible first | exact HB.out | apply below_alloc | apply pw_below_drewN | apply below_drew1) | exact HB.out)))); have n1_ := Aside0.mk (below_step (by repeat (first | (with_reducible first | exact HB.out | apply below_alloc | apply pw_below_drewN | apply below_drew1) | exact HB.out)) hb); clear HB; have HO103 := n0_; have HB := n1_; clear n0_ n1_; clear hb ho5))
  (try simp only [Act.put, List.setIfInBounds_toArray, List.set_cons_zero, List.set_cons_succ])
  go_cut [19] (fun v19 wc => ∃ (kq : Nat) (x19_2 : Bool), v19 = .bool x19_2 ∧ Aside0 (spec_Covered.j0 kq l0 a1 y101 x19_2 = some r) ∧ Aside0 (kq ≤ k) ∧ Aside0 (Kd.R k127 127 wc w.heap.size (fun _ => True) v102 y101) ∧ Aside0 (Below w.heap.size w wc))
  case first =>
    have H := HC3.out
    clear HC3
    by_cases c6 : (l0.length : Int) > 20000
    · rw [if_pos c6] at H
      have c6b0 : decide (20000 < (l0.length : Int)) = true := decide_eq_true c6
      have c6b1 : decide (20000 < l0.length) = true := decide_eq_true (by omega)
      clear c6
      (first | rw [c6b0] | (simp only [i64_w, i32_w]; rw [c6b0]) | skip)
      have H' := Aside0.mk H
      clear H
      go_wp2
      go_meet
      case rel => exact ⟨_, (true), (by first | rfl | (simp; done) | (simp [*]; done)), H', ⟨by first | omega | exact Nat.le_refl _⟩, ⟨by (with_reducible repeat (first | apply Kd.R_alloc | apply Kd.R_drewN | apply Kd.R_drew)); exact HO103.out⟩, ⟨by repeat (first | (with_reducible first | exact HB.out | apply below_alloc | apply pw_below_drewN | apply below_drew1) | exact HB.out)⟩⟩
    · rw [if_neg c6] at H
      have c6b0 : decide (20000 < (l0.length : Int)) = false := decide_eq_false c6
      have c6b1 : decide (20000 < l0.length) = false := decide_eq_false (by omega)
      clear c6
      (first | rw [c6b0] | (simp only [i64_w, i32_w]; rw [c6b0]) | skip)
      replace H := Option.bind_eq_some_iff.mp H
      obtain ⟨t104, A70, H⟩ := H
      replace H : (spec_Covered.j0 k l0 a1 y101 (!t104)) = some r := H
      have A7 := Aside0.mk A70
      clear A70
      have H' := Aside0.mk H
      clear H
      go_wp2_with (first | (go_at_call 96; (with_reducible refine (spec_l1In.calls a1 0 20000 t104 _ A7.out).mono ?_); rintro e w' ⟨rfl, ⟨nd, rfl⟩⟩))
      go_meet
      case rel => exact ⟨_, (!t104), (by first | rfl | (simp; done) | (simp [*]; done)), H', ⟨by first | omega | exact Nat.le_refl _⟩, ⟨by (with_reducible repeat (first | apply Kd.R_alloc | apply Kd.R_drewN | apply Kd.R_drew)); exact HO103.out⟩, ⟨by repeat (first | (with_reducible first | exact HB.out | apply below_alloc | apply pw_below_drewN | apply below_drew1) | exact HB.out)⟩⟩
  case rest =>
    clear HC3
    try clear c2
    try clear p2
    try clear c6
    try clear c6b0
    try clear c6b1
    obtain ⟨kq, x19_2, rfl, HA, HJ2, HO_5, HB⟩ := hcut
    cases kq with
    | zero => exact absurd HA.out (by simp [spec_Covered.j0])
    | succ kj2 =>
      have H := HA.out
      clear HA
      simp only [spec_Covered.j0] at H
      by_cases c8 : x19_2 = true
      · subst c8
        have H1 : (some y101) = some r := by rw [if_pos rfl] at H; exact H
        clear H
        have H := H1
        clear H1
        obtain rfl := Option.some.inj H
        go_wp2
        go_ret
        exact ⟨_, by first | rfl | (simp [errW_none, errW_some] <;> rfl) | (simp [*, errW_none, errW_some] <;> rfl), by (with_reducible repeat (first | apply Kd.R_alloc | apply Kd.R_drewN | apply Kd.R_drew)); exact HO_5.out, by repeat (first | (with_reducible first | exact HB.out | apply below_alloc | apply pw_below_drewN | apply below_drew1) | exact HB.out)⟩
      · replace c8 := Bool.eq_false_iff.mpr c8
        subst c8
        have H1 : (if 0 ≤ a1 then (if (a1 : Int).toNat ≤ 281474976710656 then (spec_Covered.l0 kj2 l0 a1 y101 (List.replicate (a1 : Int).toNat false) 0) else (none)) else (none)) = some r := by rw [if_neg (show ¬ (false = true) by decide)] at H; exact H
        clear H
        have H := H1
        clear H1
        by_cases c9 : 0 ≤ a1
        · rw [if_pos c9] at H
          have c9b0 := eq_true c9
          have c9b1 : decide (0 ≤ a1) = true := decide_eq_true c9
          clear c9
          by_cases c10 : (a1 : Int).toNat ≤ 281474976710656
          · rw [if_pos c10] at H
            have c10b0 := eq_true c10
            have c10b1 : decide ((a1 : Int).toNat ≤ 281474976710656) = true := decide_eq_true c10
            clear c10
            obtain ⟨y105, hy105⟩ : ∃ y_ : List Bool, y_ = (List.replicate (a1 : Int).toNat false) := ⟨_, rfl⟩
            replace H : (spec_Covered.l0 kj2 l0 a1 y101 y105 0) = some r := by first | (rw [hy105]; with_reducible exact H) | (have H2_ := (Option.bind_some _ _).symm.trans H; rw [hy105]; with_reducible exact H2_) | (have H2_ := (Option.bind_some _ _).symm.trans H; with_reducible exact H2_) | with_reducible exact H | (rw [hy105]; exact H) | exact H
            have Ny105 := Aside0.mk hy105
            clear hy105
            have H' := Aside0.mk H
            clear H
            go_wp2_with (first | ((with_reducible refine gate_dst (N := 22) rfl ?_); (try (refine gate_guard (by rfl) ?_; dsimp only)); refine Kd.R_make Kd.bool _ 4 rfl (N := 22) rfl 123 _ _ rfl a1 rfl rfl Try.underlying123 (.bool false) 1 info4 rfl (by decide) (by omega) false (ok := fun _ => True) (okp := fun _ => True) rfl (fun _ hk => hk) trivial (of_decide_eq_true (by first | (with_reducible assumption) | assumption)) (Nat.le_trans (Nat.mul_le_mul_right _ (of_decide_eq_true (by first | (with_reducible assumption) | assumption) : a1.toNat ≤ 281474976710656)) (by omega)) (Below.refl _ _) (Nat.le_refl _) ?_; intro v106 w11 ho12 hb hg_ hnew_; clear hg_ hnew_; (first | rw [← Ny105.out] at ho12 | (simp only [Int.reduceToNat] at ho12; rw [← Ny105.out] at ho12)); have n0_ := Aside0.mk (Kd.R_below (by (with_reducible repeat (first | apply Kd.R_alloc | apply Kd.R_drewN | apply Kd.R_drew)); exact HO_5.out) hb); have n1_ := Aside0.mk (Kd.R_lower ho12 (below_size (by repeat (first | (with_reducible first | exact HB.out | apply below_alloc | apply pw_below_drewN | apply below_drew1) | exact HB.out)))); have n2_ := Aside0.mk (below_step (by repeat (first | (with_reducible first | exact HB.out | apply below_alloc | apply pw_below_drewN | apply below_drew1) | exact HB.out)) hb); clear HO_5; clear HB; have HO_5 := n0_; have HO107 := n1_; have HB := n2_; clear n0_ n1_ n2_; clear hb ho12))
            go_loopg [7] kj2 (fun kq v7 w' => ∃ (x6_2 : List Bool) (x7_2 : Int), v7 = .int .i64 x7_2 ∧ Aside0 (spec_Covered.l0 kq l0 a1 y101 x6_2 x7_2 = some r) ∧ Aside0 (kq ≤ kj2) ∧ Aside0 (Kd.R k127 127 w' w.heap.size (fun _ => True) v102 y101) ∧ Aside0 (Kd.R Kd.bool 4 w' w.heap.size (fun _ => True) v106 x6_2) ∧ Aside0 (Below w.heap.size w w'))
            case atStart => exact ⟨(y105), (0), (by first | rfl | (simp; done) | (simp [*]; done)), H', ⟨Nat.le_refl _⟩, ⟨by (with_reducible repeat (first | apply Kd.R_alloc | apply Kd.R_drewN | apply Kd.R_drew)); exact HO_5.out⟩, ⟨by (with_reducible repeat (first | apply Kd.R_alloc | apply Kd.R_drewN | apply Kd.R_drew)); exact HO107.out⟩, ⟨by repeat (first | (with_reducible first | exact HB.out | apply below_alloc | apply pw_below_drewN | apply below_drew1) | exact HB.out)⟩⟩
            case round =>
              clear H'
              try clear c1
              try clear c2
              try clear p2
              try clear c6
              try clear c6b0
              try clear c6b1
              try clear c8
              try clear c9
              try clear c9b0
              try clear c9b1
              try clear c10
              try clear c10b0
              try clear c10b1
              try clear p2
              obtain ⟨x6_2, x7_2, rfl, HA, HK2, HO_5, HO_6, HB⟩ := hrel
              cases gk with
              | zero => exact absurd HA.out (by simp [spec_Covered.l0])
              | succ k2 =>
                have H := HA.out
                clear HA
                simp only [spec_Covered.l0] at H
                by_cases c13 : x7_2 < (l0.length : Int)
                · rw [if_pos c13] at H
                  have c13b0 : decide (x7_2 < (l0.length : Int)) = true := decide_eq_true c13
                  clear c13
                  by_cases c14 : 0 ≤ x7_2
                  · rw [if_pos c14] at H
                    have c14b0 : decide (0 ≤ x7_2) = true := decide_eq_true c14
                    clear c14
                    have HC15 := Aside0.mk H
                    clear H
                    have p108 : 0 ≤ (x7_2 : Int) := of_decide_eq_true (by first | (with_reducible assumption) | assumption)
                    have q108 : x7_2 < (l0.length : Int) := of_decide_eq_true (by first | (with_reducible assumption) | assumption)
                    obtain ⟨ad108, e108, hx108_0, hx108_1, hx108_2, hx108_3, hx108_4, hx108_5⟩ := at_T125 HR0.out x7_2 p108 q108
                    cases e108
                    replace hx108_0 := (HB.out.cell (World.block_lt_of_cell? w _ hx108_0)).trans hx108_0
                    replace hx108_1 := (HB.out.cell (World.block_lt_of_cell? w _ hx108_1)).trans hx108_1
                    replace hx108_2 := (HB.out.cell (World.block_lt_of_cell? w _ hx108_2)).trans hx108_2
                    replace hx108_3 := (HB.out.cell (World.block_lt_of_cell? w _ hx108_3)).trans hx108_3
                    replace hx108_4 := (HB.out.cell (World.block_lt_of_cell? w _ hx108_4)).trans hx108_4
                    replace hx108_5 := (HB.out.cell (World.block_lt_of_cell? w _ hx108_5)).trans hx108_5
                    replace p108 := eq_true p108
                    replace q108 := eq_true q108
                    go_upto_region 9 with (first | ((with_reducible refine gate_dst (N := 8) rfl ?_); (try (refine gate_guard (by rfl) ?_; dsimp only)); refine box_event ?hg (N := 8) ?hd (cs := #[.int .i64 0, .int .i64 0, .int .i64 0, .int .i64 0, .int .i64 0, .int .i64 0]) (t := 125) ?hr ?_; (case hd => rfl); (case hg => rfl); (case hr => first | (go_simp; done) | (go_simp; rfl)); intro gb109 hg w16 hbox hb; have n0_ := Aside0.mk (Kd.R_below (by (with_reducible repeat (first | apply Kd.R_alloc | apply Kd.R_drewN | apply Kd.R_drew)); exact HO_5.out) hb); have n1_ := Aside0.mk (Kd.R_below (by (with_reducible repeat (first | apply Kd.R_alloc | apply Kd.R_drewN | apply Kd.R_drew)); exact HO_6.out) hb); have n2_ := Aside0.mk (below_step (by repeat (first | (with_reducible first | exact HB.out | apply below_alloc | apply pw_below_drewN | apply below_drew1) | exact HB.out)) hb); have n3_ := Aside0.mk (hbox); have n4_ := Aside0.mk ((by rw [hg]; exact (below_size (by repeat (first | (with_reducible first | exact HB.out | apply below_alloc | apply pw_below_drewN | apply below_drew1) | exact HB.out))) : w.heap.size ≤ gb109)); have n5_ := Aside0.mk ((by rw [hg]; exact (below_size (by repeat (first | (with_reducible first | exact HB.out | apply below_alloc | apply pw_below_drewN | apply below_drew1) | exact HB.out))) : w.heap.size ≤ gb109)); clear HO_5; clear HO_6; clear HB; have HO_5 := n0_; have HO_6 := n1_; have HB := n2_; have BK109 := n3_; have GW109 := n4_; have GE109 := n5_; clear n0_ n1_ n2_ n3_ n4_ n5_; clear hb hbox hg; have hcz17_0 : w16.cell? ⟨gb109, 0, none⟩ = some (.int .i64 0) := (blk_cell BK109.out 0).trans rfl; have hcz17_1 : w16.cell? ⟨gb109, 1, none⟩ = some (.int .i64 0) := (blk_cell BK109.out 1).trans rfl; have hcz17_2 : w16.cell? ⟨gb109, 2, none⟩ = some (.int .i64 0) := (blk_cell BK109.out 2).trans rfl; have hcz17_3 : w16.cell? ⟨gb109, 3, none⟩ = some (.int .i64 0) := (blk_cell BK109.out 3).trans rfl; have hcz17_4 : w16.cell? ⟨gb109, 4, none⟩ = some (.int .i64 0) := (blk_cell BK109.out 4).trans rfl; have hcz17_5 : w16.cell? ⟨gb109, 5, none⟩ = some (.int .i64 0) := (blk_cell BK109.out 5).trans rfl; have hfz17_0 := blk_frozen BK109.out 0; have hfz17_1 := blk_frozen BK109.out 1; have hfz17_2 := blk_frozen BK109.out 2; have hfz17_3 := blk_frozen BK109.out 3; have hfz17_4 := blk_frozen BK109.out 4; have hfz17_5 := blk_frozen BK109.out 5))
                    (try simp only [Act.put, List.setIfInBounds_toArray, List.set_cons_zero, List.set_cons_succ])
                    go_cut [48] (fun v48 wc => ∃ (kq : Nat) (x48_14 : Bool), v48 = .bool x48_14 ∧ Aside0 (spec_Covered.j2 kq l0 a1 y101 x6_2 x7_2 x48_14 ((rd_T125 l0 x7_2).f0) ((rd_T125 l0 x7_2).f1) ((rd_T125 l0 x7_2).f2) ((rd_T125 l0 x7_2).f3) ((rd_T125 l0 x7_2).f4) ((rd_T125 l0 x7_2).f5) = some r) ∧ Aside0 (kq ≤ k2) ∧ Aside0 (Kd.R k127 127 wc w.heap.size (fun _ => True) v102 y101) ∧ Aside0 (Kd.R Kd.bool 4 wc w.heap.size (fun _ => True) v106 x6_2) ∧ Aside0 (wc.heap[gb109]? = some (.cells #[.int .i64 ((rd_T125 l0 x7_2).f0), .int .i64 ((rd_T125 l0 x7_2).f1), .int .i64 ((rd_T125 l0 x7_2).f2), .int .i64 ((rd_T125 l0 x7_2).f3), .int .i64 ((rd_T125 l0 x7_2).f4), .int .i64 ((rd_T125 l0 x7_2).f5)] 125 (0, 0))) ∧ Aside0 (Below w.heap.size w wc))
                    case first =>
                      have H := HC15.out
                      clear HC15
                      replace H := Option.bind_eq_some_iff.mp H
                      obtain ⟨t110, A180, H⟩ := H
                      replace H : (if t110 = true then ((spec_l1In.f ((rd_T125 l0 x7_2).f3) (wrap64 (((rd_T125 l0 x7_2).f2) + 1)) a1).bind fun t111 => (spec_Covered.j2 k2 l0 a1 y101 x6_2 x7_2 (!t111) ((rd_T125 l0 x7_2).f0) ((rd_T125 l0 x7_2).f1) ((rd_T125 l0 x7_2).f2) ((rd_T125 l0 x7_2).f3) ((rd_T125 l0 x7_2).f4) ((rd_T125 l0 x7_2).f5))) else (spec_Covered.j2 k2 l0 a1 y101 x6_2 x7_2 true ((rd_T125 l0 x7_2).f0) ((rd_T125 l0 x7_2).f1) ((rd_T125 l0 x7_2).f2) ((rd_T125 l0 x7_2).f3) ((rd_T125 l0 x7_2).f4) ((rd_T125 l0 x7_2).f5))) = some r := H
                      have A18 := Aside0.mk A180
                      clear A180
                      by_cases c19 : t110 = true
                      · subst c19
                        have H1 : ((spec_l1In.f ((rd_T125 l0 x7_2).f3) (wrap64 (((rd_T125 l0 x7_2).f2) + 1)) a1).bind fun t111 => (spec_Covered.j2 k2 l0 a1 y101 x6_2 x7_2 (!t111) ((rd_T125 l0 x7_2).f0) ((rd_T125 l0 x7_2).f1) ((rd_T125 l0 x7_2).f2) ((rd_T125 l0 x7_2).f3) ((rd_T125 l0 x7_2).f4) ((rd_T125 l0 x7_2).f5))) = some r := by rw [if_pos rfl] at H; exact H
                        clear H
                        have H := H1
                        clear H1
                        replace H := Option.bind_eq_some_iff.mp H
                        obtain ⟨t111, A200, H⟩ := H
                        replace H : (spec_Covered.j2 k2 l0 a1 y101 x6_2 x7_2 (!t111) ((rd_T125 l0 x7_2).f0) ((rd_T125 l0 x7_2).f1) ((rd_T125 l0 x7_2).f2) ((rd_T125 l0 x7_2).f3) ((rd_T125 l0 x7_2).f4) ((rd_T125 l0 x7_2).f5)) = some r := H
                        have A20 := Aside0.mk A200
                        clear A200
                        have H' := Aside0.mk H
                        clear H
                        have hcz21_0 : w16.cell? ⟨gb109, 0, none⟩ = some (.int .i64 0) := (blk_cell BK109.out 0).trans rfl
                        have hcz21_1 : w16.cell? ⟨gb109, 1, none⟩ = some (.int .i64 0) := (blk_cell BK109.out 1).trans rfl
                        have hcz21_2 : w16.cell? ⟨gb109, 2, none⟩ = some (.int .i64 0) := (blk_cell BK109.out 2).trans rfl
                        have hcz21_3 : w16.cell? ⟨gb109, 3, none⟩ = some (.int .i64 0) := (blk_cell BK109.out 3).trans rfl
                        have hcz21_4 : w16.cell? ⟨gb109, 4, none⟩ = some (.int .i64 0) := (blk_cell BK109.out 4).trans rfl
                        have hcz21_5 : w16.cell? ⟨gb109, 5, none⟩ = some (.int .i64 0) := (blk_cell BK109.out 5).trans rfl
                        have hfz21_0 := blk_frozen BK109.out 0
                        have hfz21_1 := blk_frozen BK109.out 1
                        have hfz21_2 := blk_frozen BK109.out 2
                        have hfz21_3 := blk_frozen BK109.out 3
                        have hfz21_4 := blk_frozen BK109.out 4
                        have hfz21_5 := blk_frozen BK109.out 5
                        go_wp2_with (first | ((with_reducible refine gate_callee (f := 96) rfl ?_); refine goesL_ (some 37) rfl rfl Try.func96 (by kernel_rfl) rfl #[.int .i64 ((rd_T125 l0 x7_2).f2), .int .i64 0, .int .i64 (wrap64 (a1 - 1))] rfl (by (try simp only [List.map_toArray, List.map_cons, List.map_nil]); first | done | rfl | (simp only [List.length_drop, List.length_take]; rfl)) ?_; (with_reducible refine (spec_l1In.calls ((rd_T125 l0 x7_2).f2) 0 (wrap64 (a1 - 1)) true _ A18.out).mono ?_); rintro e w' ⟨rfl, ⟨nd, rfl⟩⟩; refine ⟨_, rfl, ?_⟩) | (go_at_call 96; (with_reducible refine (spec_l1In.calls ((rd_T125 l0 x7_2).f3) (wrap64 (((rd_T125 l0 x7_2).f2) + 1)) a1 t111 _ A20.out).mono ?_); rintro e w' ⟨rfl, ⟨nd, rfl⟩⟩))
                        go_meet
                        case rel => exact ⟨_, (!t111), (by first | rfl | (simp; done) | (simp [*]; done)), H', ⟨by have := HJ2.out; have := HK2.out; first | omega | exact Nat.le_refl _⟩, ⟨by (with_reducible repeat (first | apply Kd.R_alloc | apply Kd.R_drewN | apply Kd.R_drew)); exact Kd.R_mono (Kd.R_far (p := ⟨gb109, 5, none⟩) (Kd.R_far (p := ⟨gb109, 4, none⟩) (Kd.R_far (p := ⟨gb109, 3, none⟩) (Kd.R_far (p := ⟨gb109, 2, none⟩) (Kd.R_far (p := ⟨gb109, 1, none⟩) (Kd.R_far (p := ⟨gb109, 0, none⟩) (Kd.R_types HO_5.out BK109.out (by decide)) (fun _ hk => hk.2) (.int .i64 ((rd_T125 l0 x7_2).f0))) (fun _ hk => hk.2) (.int .i64 ((rd_T125 l0 x7_2).f1))) (fun _ hk => hk.2) (.int .i64 ((rd_T125 l0 x7_2).f2))) (fun _ hk => hk.2) (.int .i64 ((rd_T125 l0 x7_2).f3))) (fun _ hk => hk.2) (.int .i64 ((rd_T125 l0 x7_2).f4))) (fun _ hk => hk.2) (.int .i64 ((rd_T125 l0 x7_2).f5))) (fun _ hk => trivial)⟩, ⟨by (with_reducible repeat (first | apply Kd.R_alloc | apply Kd.R_drewN | apply Kd.R_drew)); exact Kd.R_mono (Kd.R_far (p := ⟨gb109, 5, none⟩) (Kd.R_far (p := ⟨gb109, 4, none⟩) (Kd.R_far (p := ⟨gb109, 3, none⟩) (Kd.R_far (p := ⟨gb109, 2, none⟩) (Kd.R_far (p := ⟨gb109, 1, none⟩) (Kd.R_far (p := ⟨gb109, 0, none⟩) (Kd.R_types HO_6.out BK109.out (by decide)) (fun _ hk => hk.2) (.int .i64 ((rd_T125 l0 x7_2).f0))) (fun _ hk => hk.2) (.int .i64 ((rd_T125 l0 x7_2).f1))) (fun _ hk => hk.2) (.int .i64 ((rd_T125 l0 x7_2).f2))) (fun _ hk => hk.2) (.int .i64 ((rd_T125 l0 x7_2).f3))) (fun _ hk => hk.2) (.int .i64 ((rd_T125 l0 x7_2).f4))) (fun _ hk => hk.2) (.int .i64 ((rd_T125 l0 x7_2).f5))) (fun _ hk => trivial)⟩, ⟨by (with_reducible repeat (first | refine blk_drewN ?_ _ | refine blk_drew ?_ | refine blk_alloc ?_ _)); refine blk_put (cs := #[.int .i64 ((rd_T125 l0 x7_2).f0), .int .i64 ((rd_T125 l0 x7_2).f1), .int .i64 ((rd_T125 l0 x7_2).f2), .int .i64 ((rd_T125 l0 x7_2).f3), .int .i64 ((rd_T125 l0 x7_2).f4), .int .i64 0]) ?_ 5 _ rfl; (with_reducible repeat (first | refine blk_drewN ?_ _ | refine blk_drew ?_ | refine blk_alloc ?_ _)); refine blk_put (cs := #[.int .i64 ((rd_T125 l0 x7_2).f0), .int .i64 ((rd_T125 l0 x7_2).f1), .int .i64 ((rd_T125 l0 x7_2).f2), .int .i64 ((rd_T125 l0 x7_2).f3), .int .i64 0, .int .i64 0]) ?_ 4 _ rfl; (with_reducible repeat (first | refine blk_drewN ?_ _ | refine blk_drew ?_ | refine blk_alloc ?_ _)); refine blk_put (cs := #[.int .i64 ((rd_T125 l0 x7_2).f0), .int .i64 ((rd_T125 l0 x7_2).f1), .int .i64 ((rd_T125 l0 x7_2).f2), .int .i64 0, .int .i64 0, .int .i64 0]) ?_ 3 _ rfl; (with_reducible repeat (first | refine blk_drewN ?_ _ | refine blk_drew ?_ | refine blk_alloc ?_ _)); refine blk_put (cs := #[.int .i64 ((rd_T125 l0 x7_2).f0), .int .i64 ((rd_T125 l0 x7_2).f1), .int .i64 0, .int .i64 0, .int .i64 0, .int .i64 0]) ?_ 2 _ rfl; (with_reducible repeat (first | refine blk_drewN ?_ _ | refine blk_drew ?_ | refine blk_alloc ?_ _)); refine blk_put (cs := #[.int .i64 ((rd_T125 l0 x7_2).f0), .int .i64 0, .int .i64 0, .int .i64 0, .int .i64 0, .int .i64 0]) ?_ 1 _ rfl; (with_reducible repeat (first | refine blk_drewN ?_ _ | refine blk_drew ?_ | refine blk_alloc ?_ _)); refine blk_put (cs := #[.int .i64 0, .int .i64 0, .int .i64 0, .int .i64 0, .int .i64 0, .int .i64 0]) ?_ 0 _ rfl; (with_reducible repeat (first | refine blk_drewN ?_ _ | refine blk_drew ?_ | refine blk_alloc ?_ _)); exact BK109.out⟩, ⟨by repeat (first | (with_reducible first | exact HB.out | apply below_alloc | apply pw_below_drewN | apply below_drew1 | refine below_set ?_ GE109.out) | exact HB.out)⟩⟩
                      · replace c19 := Bool.eq_false_iff.mpr c19
                        subst c19
                        have H1 : (spec_Covered.j2 k2 l0 a1 y101 x6_2 x7_2 true ((rd_T125 l0 x7_2).f0) ((rd_T125 l0 x7_2).f1) ((rd_T125 l0 x7_2).f2) ((rd_T125 l0 x7_2).f3) ((rd_T125 l0 x7_2).f4) ((rd_T125 l0 x7_2).f5)) = some r := by rw [if_neg (show ¬ (false = true) by decide)] at H; exact H
                        clear H
                        have H := H1
                        clear H1
                        have H' := Aside0.mk H
                        clear H
                        have hcz22_0 : w16.cell? ⟨gb109, 0, none⟩ = some (.int .i64 0) := (blk_cell BK109.out 0).trans rfl
                        have hcz22_1 : w16.cell? ⟨gb109, 1, none⟩ = some (.int .i64 0) := (blk_cell BK109.out 1).trans rfl
                        have hcz22_2 : w16.cell? ⟨gb109, 2, none⟩ = some (.int .i64 0) := (blk_cell BK109.out 2).trans rfl
                        have hcz22_3 : w16.cell? ⟨gb109, 3, none⟩ = some (.int .i64 0) := (blk_cell BK109.out 3).trans rfl
                        have hcz22_4 : w16.cell? ⟨gb109, 4, none⟩ = some (.int .i64 0) := (blk_cell BK109.out 4).trans rfl
                        have hcz22_5 : w16.cell? ⟨gb109, 5, none⟩ = some (.int .i64 0) := (blk_cell BK109.out 5).trans rfl
                        have hfz22_0 := blk_frozen BK109.out 0
                        have hfz22_1 := blk_frozen BK109.out 1
                        have hfz22_2 := blk_frozen BK109.out 2
                        have hfz22_3 := blk_frozen BK109.out 3
                        have hfz22_4 := blk_frozen BK109.out 4
                        have hfz22_5 := blk_frozen BK109.out 5
                        go_wp2_with (first | ((with_reducible refine gate_callee (f := 96) rfl ?_); refine goesL_ (some 37) rfl rfl Try.func96 (by kernel_rfl) rfl #[.int .i64 ((rd_T125 l0 x7_2).f2), .int .i64 0, .int .i64 (wrap64 (a1 - 1))] rfl (by (try simp only [List.map_toArray, List.map_cons, List.map_nil]); first | done | rfl | (simp only [List.length_drop, List.length_take]; rfl)) ?_; (with_reducible refine (spec_l1In.calls ((rd_T125 l0 x7_2).f2) 0 (wrap64 (a1 - 1)) false _ A18.out).mono ?_); rintro e w' ⟨rfl, ⟨nd, rfl⟩⟩; refine ⟨_, rfl, ?_⟩))
                        go_meet
                        case rel => exact ⟨_, (true), (by first | rfl | (simp; done) | (simp [*]; done)), H', ⟨by have := HJ2.out; have := HK2.out; first | omega | exact Nat.le_refl _⟩, ⟨by (with_reducible repeat (first | apply Kd.R_alloc | apply Kd.R_drewN | apply Kd.R_drew)); exact Kd.R_mono (Kd.R_far (p := ⟨gb109, 5, none⟩) (Kd.R_far (p := ⟨gb109, 4, none⟩) (Kd.R_far (p := ⟨gb109, 3, none⟩) (Kd.R_far (p := ⟨gb109, 2, none⟩) (Kd.R_far (p := ⟨gb109, 1, none⟩) (Kd.R_far (p := ⟨gb109, 0, none⟩) (Kd.R_types HO_5.out BK109.out (by decide)) (fun _ hk => hk.2) (.int .i64 ((rd_T125 l0 x7_2).f0))) (fun _ hk => hk.2) (.int .i64 ((rd_T125 l0 x7_2).f1))) (fun _ hk => hk.2) (.int .i64 ((rd_T125 l0 x7_2).f2))) (fun _ hk => hk.2) (.int .i64 ((rd_T125 l0 x7_2).f3))) (fun _ hk => hk.2) (.int .i64 ((rd_T125 l0 x7_2).f4))) (fun _ hk => hk.2) (.int .i64 ((rd_T125 l0 x7_2).f5))) (fun _ hk => trivial)⟩, ⟨by (with_reducible repeat (first | apply Kd.R_alloc | apply Kd.R_drewN | apply Kd.R_drew)); exact Kd.R_mono (Kd.R_far (p := ⟨gb109, 5, none⟩) (Kd.R_far (p := ⟨gb109, 4, none⟩) (Kd.R_far (p := ⟨gb109, 3, none⟩) (Kd.R_far (p := ⟨gb109, 2, none⟩) (Kd.R_far (p := ⟨gb109, 1, none⟩) (Kd.R_far (p := ⟨gb109, 0, none⟩) (Kd.R_types HO_6.out BK109.out (by decide)) (fun _ hk => hk.2) (.int .i64 ((rd_T125 l0 x7_2).f0))) (fun _ hk => hk.2) (.int .i64 ((rd_T125 l0 x7_2).f1))) (fun _ hk => hk.2) (.int .i64 ((rd_T125 l0 x7_2).f2))) (fun _ hk => hk.2) (.int .i64 ((rd_T125 l0 x7_2).f3))) (fun _ hk => hk.2) (.int .i64 ((rd_T125 l0 x7_2).f4))) (fun _ hk => hk.2) (.int .i64 ((rd_T125 l0 x7_2).f5))) (fun _ hk => trivial)⟩, ⟨by (with_reducible repeat (first | refine blk_drewN ?_ _ | refine blk_drew ?_ | refine blk_alloc ?_ _)); refine blk_put (cs := #[.int .i64 ((rd_T125 l0 x7_2).f0), .int .i64 ((rd_T125 l0 x7_2).f1), .int .i64 ((rd_T125 l0 x7_2).f2), .int .i64 ((rd_T125 l0 x7_2).f3), .int .i64 ((rd_T125 l0 x7_2).f4), .int .i64 0]) ?_ 5 _ rfl; (with_reducible repeat (first | refine blk_drewN ?_ _ | refine blk_drew ?_ | refine blk_alloc ?_ _)); refine blk_put (cs := #[.int .i64 ((rd_T125 l0 x7_2).f0), .int .i64 ((rd_T125 l0 x7_2).f1), .int .i64 ((rd_T125 l0 x7_2).f2), .int .i64 ((rd_T125 l0 x7_2).f3), .int .i64 0, .int .i64 0]) ?_ 4 _ rfl; (with_reducible repeat (first | refine blk_drewN ?_ _ | refine blk_drew ?_ | refine blk_alloc ?_ _)); refine blk_put (cs := #[.int .i64 ((rd_T125 l0 x7_2).f0), .int .i64 ((rd_T125 l0 x7_2).f1), .int .i64 ((rd_T125 l0 x7_2).f2), .int .i64 0, .int .i64 0, .int .i64 0]) ?_ 3 _ rfl; (with_reducible repeat (first | refine blk_drewN ?_ _ | refine blk_drew ?_ | refine blk_alloc ?_ _)); refine blk_put (cs := #[.int .i64 ((rd_T125 l0 x7_2).f0), .int .i64 ((rd_T125 l0 x7_2).f1), .int .i64 0, .int .i64 0, .int .i64 0, .int .i64 0]) ?_ 2 _ rfl; (with_reducible repeat (first | refine blk_drewN ?_ _ | refine blk_drew ?_ | refine blk_alloc ?_ _)); refine blk_put (cs := #[.int .i64 ((rd_T125 l0 x7_2).f0), .int .i64 0, .int .i64 0, .int .i64 0, .int .i64 0, .int .i64 0]) ?_ 1 _ rfl; (with_reducible repeat (first | refine blk_drewN ?_ _ | refine blk_drew ?_ | refine blk_alloc ?_ _)); refine blk_put (cs := #[.int .i64 0, .int .i64 0, .int .i64 0, .int .i64 0, .int .i64 0, .int .i64 0]) ?_ 0 _ rfl; (with_reducible repeat (first | refine blk_drewN ?_ _ | refine blk_drew ?_ | refine blk_alloc ?_ _)); exact BK109.out⟩, ⟨by repeat (first | (with_reducible first | exact HB.out | apply below_alloc | apply pw_below_drewN | apply below_drew1 | refine below_set ?_ GE109.out) | exact HB.out)⟩⟩
                    case rest =>
                      clear HC15
                      try clear c1
                      try clear p1
                      try clear q1
                      try clear hx1
                      try clear c2
                      try clear p2
                      try clear c6
                      try clear c6b0
                      try clear c6b1
                      try clear p6
                      try clear c8
                      try clear c9
                      try clear c9b0
                      try clear c9b1
                      try clear c10
                      try clear c10b0
                      try clear c10b1
                      try clear p10
                      try clear q10
                      try clear hx10
                      try clear c13
                      try clear c13b0
                      try clear c14
                      try clear c14b0
                      try clear c19
                      try clear hcz17_0
                      try clear hcz17_1
                      try clear hcz17_2
                      try clear hcz17_3
                      try clear hcz17_4
                      try clear hcz17_5
                      try clear hcz21_0
                      try clear hcz21_1
                      try clear hcz21_2
                      try clear hcz21_3
                      try clear hcz21_4
                      try clear hcz21_5
                      try clear hcz22_0
                      try clear hcz22_1
                      try clear hcz22_2
                      try clear hcz22_3
                      try clear hcz22_4
                      try clear hcz22_5
                      try clear hfz17_0
                      try clear hfz17_1
                      try clear hfz17_2
                      try clear hfz17_3
                      try clear hfz17_4
                      try clear hfz17_5
                      try clear hfz21_0
                      try clear hfz21_1
                      try clear hfz21_2
                      try clear hfz21_3
                      try clear hfz21_4
                      try clear hfz21_5
                      try clear hfz22_0
                      try clear hfz22_1
                      try clear hfz22_2
                      try clear hfz22_3
                      try clear hfz22_4
                      try clear hfz22_5
                      try clear hx108_0
                      try clear hx108_1
                      try clear hx108_2
                      try clear hx108_3
                      try clear hx108_4
                      try clear hx108_5
                      try clear p108
                      try clear p2
                      try clear q108
                      obtain ⟨kq, x48_14, rfl, HA, HJ14, HO_5, HO_6, BK109, HB⟩ := hcut
                      cases kq with
                      | zero => exact absurd HA.out (by simp [spec_Covered.j2])
                      | succ kj14 =>
                        have H := HA.out
                        clear HA
                        simp only [spec_Covered.j2] at H
                        by_cases c23 : x48_14 = true
                        · subst c23
                          have H1 : (some (([] : List (S127)))) = some r := by rw [if_pos rfl] at H; exact H
                          clear H
                          have H := H1
                          clear H1
                          obtain ⟨y112, hy112⟩ : ∃ y_ : List (S127), y_ = (([] : List (S127))) := ⟨_, rfl⟩
                          replace H : (some y112) = some r := by first | (rw [hy112]; with_reducible exact H) | (have H2_ := (Option.bind_some _ _).symm.trans H; rw [hy112]; with_reducible exact H2_) | (have H2_ := (Option.bind_some _ _).symm.trans H; with_reducible exact H2_) | with_reducible exact H | (rw [hy112]; exact H) | exact H
                          have Ny112 := Aside0.mk hy112
                          clear hy112
                          obtain rfl := Option.some.inj H
                          go_wp2_with (first | ((with_reducible refine gate_dst (N := 49) rfl ?_); (try (refine gate_guard (by rfl) ?_; dsimp only)); refine Kd.R_lit k127 _ 127 ?hg (N := 49) ?hd (xs := ([] : List (S127))) (inner := []) (ok := fun _ => True) (okp := fun _ => True) ?hr ?hp (fun _ hk => hk) trivial (Below.refl _ _) (Nat.le_refl _) (by simp) ?_; (case hd => rfl); (case hg => rfl); (case hr => first | (go_simp; done) | (go_simp; rfl)); (case hp => exact (Reps.none _ _)); intro v113 w24 ho25 hb hg_ hnew_; clear hg_ hnew_; (first | rw [← Ny112.out] at ho25 | (simp only [Int.reduceToNat] at ho25; rw [← Ny112.out] at ho25)); have n0_ := Aside0.mk (Kd.R_elder' (by (with_reducible repeat (first | apply Kd.R_alloc | apply Kd.R_drewN | apply Kd.R_drew)); exact HO_5.out) (Kd.R_base ho25) hb); have n1_ := Aside0.mk (Kd.R_below (by (with_reducible repeat (first | apply Kd.R_alloc | apply Kd.R_drewN | apply Kd.R_drew)); exact HO_6.out) hb); have n2_ := Aside0.mk (Kd.R_lower (Kd.R_new' ho25 (Kd.R_lt (by (with_reducible repeat (first | apply Kd.R_alloc | apply Kd.R_drewN | apply Kd.R_drew)); exact HO_5.out))) (below_size (by repeat (first | (with_reducible first | exact HB.out | apply below_alloc | apply pw_below_drewN | apply below_drew1 | refine below_set ?_ GE109.out) | exact HB.out)))); have n3_ := Aside0.mk (blk_below (g := gb109) (o := .cells #[.int .i64 ((rd_T125 l0 x7_2).f0), .int .i64 ((rd_T125 l0 x7_2).f1), .int .i64 ((rd_T125 l0 x7_2).f2), .int .i64 ((rd_T125 l0 x7_2).f3), .int .i64 ((rd_T125 l0 x7_2).f4), .int .i64 ((rd_T125 l0 x7_2).f5)] 125 (0, 0)) (by (with_reducible repeat (first | refine blk_drewN ?_ _ | refine blk_drew ?_ | refine blk_alloc ?_ _)); exact BK109.out) hb); have n4_ := Aside0.mk (below_step (by repeat (first | (with_reducible first | exact HB.out | apply below_alloc | apply pw_below_drewN | apply below_drew1 | refine below_set ?_ GE109.out) | exact HB.out)) hb); clear HO_5; clear HO_6; clear BK109; clear HB; have HO_5 := n0_; have HO_6 := n1_; have HO114 := n2_; have BK109 := n3_; have HB := n4_; clear n0_ n1_ n2_ n3_ n4_; clear hb ho25))
                          go_ret
                          exact ⟨_, by first | rfl | (simp [errW_none, errW_some] <;> rfl) | (simp [*, errW_none, errW_some] <;> rfl), by (with_reducible repeat (first | apply Kd.R_alloc | apply Kd.R_drewN | apply Kd.R_drew)); exact Kd.R_mono HO114.out (fun _ hk => trivial), by repeat (first | (with_reducible first | exact HB.out | apply below_alloc | apply pw_below_drewN | apply below_drew1 | refine below_set ?_ GE109.out) | exact HB.out)⟩
                        · replace c23 := Bool.eq_false_iff.mpr c23
                          subst c23
                          have H1 : (spec_Covered.l1 kj14 l0 a1 y101 x6_2 x7_2 ((rd_T125 l0 x7_2).f2) ((rd_T125 l0 x7_2).f0) ((rd_T125 l0 x7_2).f1) ((rd_T125 l0 x7_2).f2) ((rd_T125 l0 x7_2).f3) ((rd_T125 l0 x7_2).f4) ((rd_T125 l0 x7_2).f5)) = some r := by rw [if_neg (show ¬ (false = true) by decide)] at H; exact H
                          clear H
                          have H := H1
                          clear H1
                          have H' := Aside0.mk H
                          clear H
                          have hcz26_0 : wc.cell? ⟨gb109, 0, none⟩ = some (.int .i64 ((rd_T125 l0 x7_2).f0)) := (blk_cell BK109.out 0).trans rfl
                          have hcz26_1 : wc.cell? ⟨gb109, 1, none⟩ = some (.int .i64 ((rd_T125 l0 x7_2).f1)) := (blk_cell BK109.out 1).trans rfl
                          have hcz26_2 : wc.cell? ⟨gb109, 2, none⟩ = some (.int .i64 ((rd_T125 l0 x7_2).f2)) := (blk_cell BK109.out 2).trans rfl
                          have hcz26_3 : wc.cell? ⟨gb109, 3, none⟩ = some (.int .i64 ((rd_T125 l0 x7_2).f3)) := (blk_cell BK109.out 3).trans rfl
                          have hcz26_4 : wc.cell? ⟨gb109, 4, none⟩ = some (.int .i64 ((rd_T125 l0 x7_2).f4)) := (blk_cell BK109.out 4).trans rfl
                          have hcz26_5 : wc.cell? ⟨gb109, 5, none⟩ = some (.int .i64 ((rd_T125 l0 x7_2).f5)) := (blk_cell BK109.out 5).trans rfl
                          have hfz26_0 := blk_frozen BK109.out 0
                          have hfz26_1 := blk_frozen BK109.out 1
                          have hfz26_2 := blk_frozen BK109.out 2
                          have hfz26_3 := blk_frozen BK109.out 3
                          have hfz26_4 := blk_frozen BK109.out 4
                          have hfz26_5 := blk_frozen BK109.out 5
                          go_wp2
                          go_loopg [9] kj14 (fun kq v9 w' => ∃ (x6_4 : List Bool) (x9_4 : Int), v9 = .int .i64 x9_4 ∧ Aside0 (spec_Covered.l1 kq l0 a1 y101 x6_4 x7_2 x9_4 ((rd_T125 l0 x7_2).f0) ((rd_T125 l0 x7_2).f1) ((rd_T125 l0 x7_2).f2) ((rd_T125 l0 x7_2).f3) ((rd_T125 l0 x7_2).f4) ((rd_T125 l0 x7_2).f5) = some r) ∧ Aside0 (kq ≤ kj14) ∧ Aside0 (Kd.R k127 127 w' w.heap.size (fun _ => True) v102 y101) ∧ Aside0 (Kd.R Kd.bool 4 w' w.heap.size (fun _ => True) v106 x6_4) ∧ Aside0 (w'.heap[gb109]? = some (.cells #[.int .i64 ((rd_T125 l0 x7_2).f0), .int .i64 ((rd_T125 l0 x7_2).f1), .int .i64 ((rd_T125 l0 x7_2).f2), .int .i64 ((rd_T125 l0 x7_2).f3), .int .i64 ((rd_T125 l0 x7_2).f4), .int .i64 ((rd_T125 l0 x7_2).f5)] 125 (0, 0))) ∧ Aside0 (Below w.heap.size w w'))
                          case atStart => exact ⟨(x6_2), (((rd_T125 l0 x7_2).f2)), (by first | rfl | (simp; done) | (simp [*]; done)), H', ⟨Nat.le_refl _⟩, ⟨by (with_reducible repeat (first | apply Kd.R_alloc | apply Kd.R_drewN | apply Kd.R_drew)); exact HO_5.out⟩, ⟨by (with_reducible repeat (first | apply Kd.R_alloc | apply Kd.R_drewN | apply Kd.R_drew)); exact HO_6.out⟩, ⟨by (with_reducible repeat (first | refine blk_drewN ?_ _ | refine blk_drew ?_ | refine blk_alloc ?_ _)); exact BK109.out⟩, ⟨by repeat (first | (with_reducible first | exact HB.out | apply below_alloc | apply pw_below_drewN | apply below_drew1 | refine below_set ?_ GE109.out) | exact HB.out)⟩⟩
                          case round =>
                            clear H'
                            try clear c1
                            try clear p1
                            try clear q1
                            try clear hx1
                            try clear c2
                            try clear p2
                            try clear c6
                            try clear c6b0
                            try clear c6b1
                            try clear p6
                            try clear c8
                            try clear c9
                            try clear c9b0
                            try clear c9b1
                            try clear c10
                            try clear c10b0
                            try clear c10b1
                            try clear p10
                            try clear q10
                            try clear hx10
                            try clear c13
                            try clear c13b0
                            try clear c14
                            try clear c14b0
                            try clear c19
                            try clear c23
                            try clear c25
                            try clear hcz17_0
                            try clear hcz17_1
                            try clear hcz17_2
                            try clear hcz17_3
                            try clear hcz17_4
                            try clear hcz17_5
                            try clear hcz21_0
                            try clear hcz21_1
                            try clear hcz21_2
                            try clear hcz21_3
                            try clear hcz21_4
                            try clear hcz21_5
                            try clear hcz22_0
                            try clear hcz22_1
                            try clear hcz22_2
                            try clear hcz22_3
                            try clear hcz22_4
                            try clear hcz22_5
                            try clear hcz26_0
                            try clear hcz26_1
                            try clear hcz26_2
                            try clear hcz26_3
                            try clear hcz26_4
                            try clear hcz26_5
                            try clear hfz17_0
                            try clear hfz17_1
                            try clear hfz17_2
                            try clear hfz17_3
                            try clear hfz17_4
                            try clear hfz17_5
                            try clear hfz21_0
                            try clear hfz21_1
                            try clear hfz21_2
                            try clear hfz21_3
                            try clear hfz21_4
                            try clear hfz21_5
                            try clear hfz22_0
                            try clear hfz22_1
                            try clear hfz22_2
                            try clear hfz22_3
                            try clear hfz22_4
                            try clear hfz22_5
                            try clear hfz26_0
                            try clear hfz26_1
                            try clear hfz26_2
                            try clear hfz26_3
                            try clear hfz26_4
                            try clear hfz26_5
                            try clear hx108_0
                            try clear hx108_1
                            try clear hx108_2
                            try clear hx108_3
                            try clear hx108_4
                            try clear hx108_5
                            try clear p1
                            try clear p10
                            try clear p108
                            try clear p2
                            try clear p6
                            try clear q1
                            try clear q10
                            try clear q108
                            obtain ⟨x6_4, x9_4, rfl, HA, HK4, HO_5, HO_6, BK109, HB⟩ := hrel
                            cases gk with
                            | zero => exact absurd HA.out (by simp [spec_Covered.l1])
                            | succ k4 =>
                              have H := HA.out
                              clear HA
                              simp only [spec_Covered.l1] at H
                              by_cases c27 : x9_4 < ((rd_T125 l0 x7_2).f3)
                              · rw [if_pos c27] at H
                                have c27b0 : decide (x9_4 < ((rd_T125 l0 x7_2).f3)) = true := decide_eq_true c27
                                clear c27
                                by_cases c28 : 0 ≤ x9_4
                                · rw [if_pos c28] at H
                                  have c28b0 : decide (0 ≤ x9_4) = true := decide_eq_true c28
                                  clear c28
                                  by_cases c29 : x9_4 < (x6_4.length : Int)
                                  · rw [if_pos c29] at H
                                    have c29b0 : decide (x9_4 < (x6_4.length : Int)) = true := decide_eq_true c29
                                    clear c29
                                    obtain ⟨y115, hy115⟩ : ∃ y_ : List Bool, y_ = (x6_4.set (x9_4 : Int).toNat true) := ⟨_, rfl⟩
                                    replace H : (spec_Covered.l1 k4 l0 a1 y101 y115 x7_2 (wrap64 (x9_4 + 1)) ((rd_T125 l0 x7_2).f0) ((rd_T125 l0 x7_2).f1) ((rd_T125 l0 x7_2).f2) ((rd_T125 l0 x7_2).f3) ((rd_T125 l0 x7_2).f4) ((rd_T125 l0 x7_2).f5)) = some r := by first | (rw [hy115]; with_reducible exact H) | (have H2_ := (Option.bind_some _ _).symm.trans H; rw [hy115]; with_reducible exact H2_) | (have H2_ := (Option.bind_some _ _).symm.trans H; with_reducible exact H2_) | with_reducible exact H | (rw [hy115]; exact H) | exact H
                                    have Ny115 := Aside0.mk hy115
                                    clear hy115
                                    have H' := Aside0.mk H
                                    clear H
                                    have hcz31_0 : wr.cell? ⟨gb109, 0, none⟩ = some (.int .i64 ((rd_T125 l0 x7_2).f0)) := (blk_cell BK109.out 0).trans rfl
                                    have hcz31_1 : wr.cell? ⟨gb109, 1, none⟩ = some (.int .i64 ((rd_T125 l0 x7_2).f1)) := (blk_cell BK109.out 1).trans rfl
                                    have hcz31_2 : wr.cell? ⟨gb109, 2, none⟩ = some (.int .i64 ((rd_T125 l0 x7_2).f2)) := (blk_cell BK109.out 2).trans rfl
                                    have hcz31_3 : wr.cell? ⟨gb109, 3, none⟩ = some (.int .i64 ((rd_T125 l0 x7_2).f3)) := (blk_cell BK109.out 3).trans rfl
                                    have hcz31_4 : wr.cell? ⟨gb109, 4, none⟩ = some (.int .i64 ((rd_T125 l0 x7_2).f4)) := (blk_cell BK109.out 4).trans rfl
                                    have hcz31_5 : wr.cell? ⟨gb109, 5, none⟩ = some (.int .i64 ((rd_T125 l0 x7_2).f5)) := (blk_cell BK109.out 5).trans rfl
                                    have hfz31_0 := blk_frozen BK109.out 0
                                    have hfz31_1 := blk_frozen BK109.out 1
                                    have hfz31_2 := blk_frozen BK109.out 2
                                    have hfz31_3 := blk_frozen BK109.out 3
                                    have hfz31_4 := blk_frozen BK109.out 4
                                    have hfz31_5 := blk_frozen BK109.out 5
                                    have p30 : 0 ≤ (x9_4 : Int) := of_decide_eq_true (by first | (with_reducible assumption) | assumption)
                                    have q30 : (x9_4 : Int) < ((x6_4.length : Int) : Int) := of_decide_eq_true (by first | (with_reducible assumption) | assumption)
                                    obtain ⟨go30, co30, eo30, gb30, gl30, cl30, HG30⟩ := Kd.R_form HO_6.out (by omega)
                                    (first | cases eo30 | (injection eo30 with ea_ en_ ec_; (first | subst ea_ | (injection ea_ with ea_; subst ea_)); subst ec_; clear en_))
                                    have GB30 := Aside0.mk gb30
                                    have GG30 := Aside0.mk HG30
                                    clear gb30 gl30 HG30
                                    obtain ⟨hx30_0, hf30_0⟩ := Kd.R_celln false HO_6.out (x9_4 : Int) p30 q30
                                    replace p30 := eq_true p30
                                    replace q30 := eq_true q30
                                    have HP32 := Kd.R_putg HO_6.out (x9_4 : Int) true
                                    go_wp2_with (first | ((with_reducible refine gate_store (t := 4) (p := 60) rfl ?_); refine store_event (t := 4) (p := 60) (v := ?vo_w33) (w1 := (wr.setCell ⟨go30, (x9_4 : Int).toNat, none⟩ (.bool true))) ?hg ?ho ?hn ?hr ?_; (case ho => rfl); (case hg => rfl); (case hn => rfl); (case hr => first | (go_simp; done) | (go_simp; rfl)); intro w33 hw; have hg : wr.grownBy w33 (some go30) := (by rw [hw]; exact HP32.2); have hp_ : Kd.R Kd.bool 4 w33 w.heap.size (fun _ => True) (.slice (some ⟨go30, 0, none⟩) x6_4.length co30) y115 := (by rw [hw, Ny115.out]; exact HP32.1); clear HP32; have n0_ := Aside0.mk (Kd.R_over' (v := (.slice (some ⟨go30, 0, none⟩) x6_4.length co30)) (by (with_reducible repeat (first | apply Kd.R_alloc | apply Kd.R_drewN | apply Kd.R_drew)); exact HO_5.out) (Kd.R_typed HO_6.out) (by decide) hg); have n1_ := Aside0.mk (hp_); have n2_ := Aside0.mk (blk_grown (g := gb109) (o := .cells #[.int .i64 ((rd_T125 l0 x7_2).f0), .int .i64 ((rd_T125 l0 x7_2).f1), .int .i64 ((rd_T125 l0 x7_2).f2), .int .i64 ((rd_T125 l0 x7_2).f3), .int .i64 ((rd_T125 l0 x7_2).f4), .int .i64 ((rd_T125 l0 x7_2).f5)] 125 (0, 0)) (by (with_reducible repeat (first | refine blk_drewN ?_ _ | refine blk_drew ?_ | refine blk_alloc ?_ _)); exact BK109.out) hg (Kd.R_ne HO_6.out BK109.out (by decide))); have n3_ := Aside0.mk ((by rw [hw]; exact below_set (HB.out) GB30.out : Below w.heap.size w w33)); clear HO_5; clear HO_6; clear BK109; clear HB; have HO_5 := n0_; have HO_6 := n1_; have BK109 := n2_; have HB := n3_; clear n0_ n1_ n2_ n3_; clear hg hw hp_))
                                    go_roundg k4
                                    case measure => have := HJ2.out; have := HK2.out; have := HJ14.out; have := HK4.out; omega
                                    case rel => exact ⟨(y115), (wrap64 (x9_4 + 1)), (by first | rfl | (simp; done) | (simp [*]; done)), H', ⟨by have := HJ2.out; have := HK2.out; have := HJ14.out; have := HK4.out; omega⟩, ⟨by (with_reducible repeat (first | apply Kd.R_alloc | apply Kd.R_drewN | apply Kd.R_drew)); exact HO_5.out⟩, ⟨by (with_reducible repeat (first | apply Kd.R_alloc | apply Kd.R_drewN | apply Kd.R_drew)); exact HO_6.out⟩, ⟨by (with_reducible repeat (first | refine blk_drewN ?_ _ | refine blk_drew ?_ | refine blk_alloc ?_ _)); exact BK109.out⟩, ⟨by repeat (first | (with_reducible first | exact HB.out | apply below_alloc | apply pw_below_drewN | apply below_drew1 | refine below_set ?_ GE109.out) | exact HB.out)⟩⟩
                                  · rw [if_neg c29] at H
                                    exact absurd H (by simp)
                                · rw [if_neg c28] at H
                                  exact absurd H (by simp)
                              · rw [if_neg c27] at H
                                have c27b0 : decide (x9_4 < ((rd_T125 l0 x7_2).f3)) = false := decide_eq_false c27
                                clear c27
                                have H' := Aside0.mk H
                                clear H
                                have hcz34_0 : wr.cell? ⟨gb109, 0, none⟩ = some (.int .i64 ((rd_T125 l0 x7_2).f0)) := (blk_cell BK109.out 0).trans rfl
                                have hcz34_1 : wr.cell? ⟨gb109, 1, none⟩ = some (.int .i64 ((rd_T125 l0 x7_2).f1)) := (blk_cell BK109.out 1).trans rfl
                                have hcz34_2 : wr.cell? ⟨gb109, 2, none⟩ = some (.int .i64 ((rd_T125 l0 x7_2).f2)) := (blk_cell BK109.out 2).trans rfl
                                have hcz34_3 : wr.cell? ⟨gb109, 3, none⟩ = some (.int .i64 ((rd_T125 l0 x7_2).f3)) := (blk_cell BK109.out 3).trans rfl
                                have hcz34_4 : wr.cell? ⟨gb109, 4, none⟩ = some (.int .i64 ((rd_T125 l0 x7_2).f4)) := (blk_cell BK109.out 4).trans rfl
                                have hcz34_5 : wr.cell? ⟨gb109, 5, none⟩ = some (.int .i64 ((rd_T125 l0 x7_2).f5)) := (blk_cell BK109.out 5).trans rfl
                                have hfz34_0 := blk_frozen BK109.out 0
                                have hfz34_1 := blk_frozen BK109.out 1
                                have hfz34_2 := blk_frozen BK109.out 2
                                have hfz34_3 := blk_frozen BK109.out 3
                                have hfz34_4 := blk_frozen BK109.out 4
                                have hfz34_5 := blk_frozen BK109.out 5
                                go_wp2
                                go_roundg k4
                                case measure => have := HJ2.out; have := HK2.out; have := HJ14.out; have := HK4.out; omega
                                case rel => exact ⟨(x6_4), (wrap64 (x7_2 + 1)), (by first | rfl | (simp; done) | (simp [*]; done)), H', ⟨by have := HJ2.out; have := HK2.out; have := HJ14.out; have := HK4.out; omega⟩, ⟨by (with_reducible repeat (first | apply Kd.R_alloc | apply Kd.R_drewN | apply Kd.R_drew)); exact HO_5.out⟩, ⟨by (with_reducible repeat (first | apply Kd.R_alloc | apply Kd.R_drewN | apply Kd.R_drew)); exact HO_6.out⟩, ⟨by repeat (first | (with_reducible first | exact HB.out | apply below_alloc | apply pw_below_drewN | apply below_drew1 | refine below_set ?_ GE109.out) | exact HB.out)⟩⟩
                  · rw [if_neg c14] at H
                    exact absurd H (by simp)
                · rw [if_neg c13] at H
                  have c13b0 : decide (x7_2 < (l0.length : Int)) = false := decide_eq_false c13
                  clear c13
                  have H' := Aside0.mk H
                  clear H
                  go_wp2
                  go_loopg [5, 10] k2 (fun kq v5 v10 w' => ∃ (x5_3 : List (S127)) (x10_3 : Int), v10 = .int .i64 x10_3 ∧ Aside0 (spec_Covered.l2 kq a1 x5_3 x6_2 x10_3 = some r) ∧ Aside0 (kq ≤ k2) ∧ Aside0 (Kd.R k127 127 w' w.heap.size (fun _ => True) v5 x5_3) ∧ Aside0 (Kd.R Kd.bool 4 w' w.heap.size (fun _ => True) v106 x6_2) ∧ Aside0 (Below w.heap.size w w'))
                  case atStart => exact ⟨(y101), (0), (by first | rfl | (simp; done) | (simp [*]; done)), H', ⟨Nat.le_refl _⟩, ⟨by (with_reducible repeat (first | apply Kd.R_alloc | apply Kd.R_drewN | apply Kd.R_drew)); exact HO_5.out⟩, ⟨by (with_reducible repeat (first | apply Kd.R_alloc | apply Kd.R_drewN | apply Kd.R_drew)); exact HO_6.out⟩, ⟨by repeat (first | (with_reducible first | exact HB.out | apply below_alloc | apply pw_below_drewN | apply below_drew1) | exact HB.out)⟩⟩
                  case round =>
                    clear H'
                    try clear c1
                    try clear p1
                    try clear q1
                    try clear hx1
                    try clear c2
                    try clear p2
                    try clear p3
                    try clear q3
                    try clear hx3
                    try clear hf3
                    try clear c6
                    try clear c6b0
                    try clear c6b1
                    try clear p6
                    try clear c8
                    try clear c9
                    try clear c9b0
                    try clear c9b1
                    try clear c10
                    try clear c10b0
                    try clear c10b1
                    try clear p10
                    try clear q10
                    try clear hx10
                    try clear c13
                    try clear c13b0
                    try clear c14
                    try clear c14b0
                    try clear c19
                    try clear c23
                    try clear c25
                    try clear c27
                    try clear c27b0
                    try clear c28
                    try clear c28b0
                    try clear c29
                    try clear c29b0
                    try clear p30
                    try clear q30
                    try clear hx30
                    try clear hf30
                    try clear hcz17_0
                    try clear hcz17_1
                    try clear hcz17_2
                    try clear hcz17_3
                    try clear hcz17_4
                    try clear hcz17_5
                    try clear hcz21_0
                    try clear hcz21_1
                    try clear hcz21_2
                    try clear hcz21_3
                    try clear hcz21_4
                    try clear hcz21_5
                    try clear hcz22_0
                    try clear hcz22_1
                    try clear hcz22_2
                    try clear hcz22_3
                    try clear hcz22_4
                    try clear hcz22_5
                    try clear hcz26_0
                    try clear hcz26_1
                    try clear hcz26_2
                    try clear hcz26_3
                    try clear hcz26_4
                    try clear hcz26_5
                    try clear hcz31_0
                    try clear hcz31_1
                    try clear hcz31_2
                    try clear hcz31_3
                    try clear hcz31_4
                    try clear hcz31_5
                    try clear hcz34_0
                    try clear hcz34_1
                    try clear hcz34_2
                    try clear hcz34_3
                    try clear hcz34_4
                    try clear hcz34_5
                    try clear hfz17_0
                    try clear hfz17_1
                    try clear hfz17_2
                    try clear hfz17_3
                    try clear hfz17_4
                    try clear hfz17_5
                    try clear hfz21_0
                    try clear hfz21_1
                    try clear hfz21_2
                    try clear hfz21_3
                    try clear hfz21_4
                    try clear hfz21_5
                    try clear hfz22_0
                    try clear hfz22_1
                    try clear hfz22_2
                    try clear hfz22_3
                    try clear hfz22_4
                    try clear hfz22_5
                    try clear hfz26_0
                    try clear hfz26_1
                    try clear hfz26_2
                    try clear hfz26_3
                    try clear hfz26_4
                    try clear hfz26_5
                    try clear hfz31_0
                    try clear hfz31_1
                    try clear hfz31_2
                    try clear hfz31_3
                    try clear hfz31_4
                    try clear hfz31_5
                    try clear hfz34_0
                    try clear hfz34_1
                    try clear hfz34_2
                    try clear hfz34_3
                    try clear hfz34_4
                    try clear hfz34_5
                    try clear hx108_0
                    try clear hx108_1
                    try clear hx108_2
                    try clear hx108_3
                    try clear hx108_4
                    try clear hx108_5
                    try clear hx30_0
                    try clear p1
                    try clear p10
                    try clear p108
                    try clear p2
                    try clear p30
                    try clear p6
                    try clear q1
                    try clear q10
                    try clear q108
                    try clear q30
                    obtain ⟨x5_3, x10_3, rfl, HA, HK3, HO_5, HO_6, HB⟩ := hrel
                    cases gk with
                    | zero => exact absurd HA.out (by simp [spec_Covered.l2])
                    | succ k3 =>
                      have H := HA.out
                      clear HA
                      simp only [spec_Covered.l2] at H
                      by_cases c35 : x10_3 < a1
                      · rw [if_pos c35] at H
                        have c35b0 : decide (x10_3 < a1) = true := decide_eq_true c35
                        clear c35
                        by_cases c36 : 0 ≤ x10_3
                        · rw [if_pos c36] at H
                          have c36b0 : decide (0 ≤ x10_3) = true := decide_eq_true c36
                          clear c36
                          by_cases c37 : x10_3 < (x6_2.length : Int)
                          · rw [if_pos c37] at H
                            have c37b0 : decide (x10_3 < (x6_2.length : Int)) = true := decide_eq_true c37
                            clear c37
                            obtain ⟨bq38, hbq38⟩ : ∃ b_ : Bool, b_ = (rdOf false x6_2 x10_3) := ⟨_, rfl⟩
                            replace H : (if bq38 = true then (spec_Covered.l2 k3 a1 x5_3 x6_2 (wrap64 (x10_3 + 1))) else (if (x5_3.length : Int) > 0 then (if 0 ≤ (wrap64 ((x5_3.length : Int) - 1)) then (if (wrap64 ((x5_3.length : Int) - 1)) < (x5_3.length : Int) then (if ((rd_T127 x5_3 (wrap64 ((x5_3.length : Int) - 1))).f1) = x10_3 then (spec_Covered.l2 k3 a1 (x5_3.set ((wrap64 ((x5_3.length : Int) - 1)) : Int).toNat (⟨(rd_T127 x5_3 (wrap64 ((x5_3.length : Int) - 1))).f0, wrap64 (x10_3 + 1)⟩ : S127)) x6_2 (wrap64 (x10_3 + 1))) else (if x5_3.length < 8796093022208 then (spec_Covered.l2 k3 a1 (x5_3 ++ [(⟨x10_3, wrap64 (x10_3 + 1)⟩ : S127)]) x6_2 (wrap64 (x10_3 + 1))) else (none))) else (none)) else (none)) else (if x5_3.length < 8796093022208 then (spec_Covered.l2 k3 a1 (x5_3 ++ [(⟨x10_3, wrap64 (x10_3 + 1)⟩ : S127)]) x6_2 (wrap64 (x10_3 + 1))) else (none)))) = some r := by rw [← hbq38] at H; exact H
                            have Nbq38 := Aside0.mk hbq38
                            clear hbq38
                            by_cases c39 : bq38 = true
                            · subst c39
                              have H1 : (spec_Covered.l2 k3 a1 x5_3 x6_2 (wrap64 (x10_3 + 1))) = some r := by rw [if_pos rfl] at H; exact H
                              clear H
                              have H := H1
                              clear H1
                              have H' := Aside0.mk H
                              clear H
                              obtain ⟨Ao40, co40, eo40⟩ := Kd.R_slice HO_6.out
                              subst eo40
                              have p116 : 0 ≤ (x10_3 : Int) := of_decide_eq_true (by first | (with_reducible assumption) | assumption)
                              have q116 : x10_3 < (x6_2.length : Int) := of_decide_eq_true (by first | (with_reducible assumption) | assumption)
                              obtain ⟨ad116, e116, hx116_0⟩ := Kd.at_bool (Kd.R_reads' HO_6.out).2.2 x10_3 p116 q116
                              (try rw [← Nbq38.out] at hx116_0)
                              cases e116
                              replace p116 := eq_true p116
                              replace q116 := eq_true q116
                              go_wp2
                              go_roundg k3
                              case measure => have := HJ2.out; have := HK2.out; have := HK3.out; omega
                              case rel => exact ⟨(x5_3), (wrap64 (x10_3 + 1)), (by first | rfl | (simp; done) | (simp [*]; done)), H', ⟨by have := HJ2.out; have := HK2.out; have := HK3.out; omega⟩, ⟨by (with_reducible repeat (first | apply Kd.R_alloc | apply Kd.R_drewN | apply Kd.R_drew)); exact HO_5.out⟩, ⟨by (with_reducible repeat (first | apply Kd.R_alloc | apply Kd.R_drewN | apply Kd.R_drew)); exact HO_6.out⟩, ⟨by repeat (first | (with_reducible first | exact HB.out | apply below_alloc | apply pw_below_drewN | apply below_drew1) | exact HB.out)⟩⟩
                            · replace c39 := Bool.eq_false_iff.mpr c39
                              subst c39
                              have H1 : (if (x5_3.length : Int) > 0 then (if 0 ≤ (wrap64 ((x5_3.length : Int) - 1)) then (if (wrap64 ((x5_3.length : Int) - 1)) < (x5_3.length : Int) then (if ((rd_T127 x5_3 (wrap64 ((x5_3.length : Int) - 1))).f1) = x10_3 then (spec_Covered.l2 k3 a1 (x5_3.set ((wrap64 ((x5_3.length : Int) - 1)) : Int).toNat (⟨(rd_T127 x5_3 (wrap64 ((x5_3.length : Int) - 1))).f0, wrap64 (x10_3 + 1)⟩ : S127)) x6_2 (wrap64 (x10_3 + 1))) else (if x5_3.length < 8796093022208 then (spec_Covered.l2 k3 a1 (x5_3 ++ [(⟨x10_3, wrap64 (x10_3 + 1)⟩ : S127)]) x6_2 (wrap64 (x10_3 + 1))) else (none))) else (none)) else (none)) else (if x5_3.length < 8796093022208 then (spec_Covered.l2 k3 a1 (x5_3 ++ [(⟨x10_3, wrap64 (x10_3 + 1)⟩ : S127)]) x6_2 (wrap64 (x10_3 + 1))) else (none))) = some r := by rw [if_neg (show ¬ (false = true) by decide)] at H; exact H
                              clear H
                              have H := H1
                              clear H1
                              by_cases c41 : (x5_3.length : Int) > 0
                              · rw [if_pos c41] at H
                                have c41b0 : decide (0 < (x5_3.length : Int)) = true := decide_eq_true c41
                                have c41b1 : decide (0 < x5_3.length) = true := decide_eq_true (by omega)
                                clear c41
                                obtain ⟨ji42, hji42⟩ : ∃ j_ : Int, (wrap64 ((x5_3.length : Int) - 1)) = j_ := ⟨_, rfl⟩
                                replace H : (if 0 ≤ (ji42) then (if (ji42) < (x5_3.length : Int) then (if ((rd_T127 x5_3 (ji42)).f1) = x10_3 then (spec_Covered.l2 k3 a1 (x5_3.set ((ji42) : Int).toNat (⟨(rd_T127 x5_3 (ji42)).f0, wrap64 (x10_3 + 1)⟩ : S127)) x6_2 (wrap64 (x10_3 + 1))) else (if x5_3.length < 8796093022208 then (spec_Covered.l2 k3 a1 (x5_3 ++ [(⟨x10_3, wrap64 (x10_3 + 1)⟩ : S127)]) x6_2 (wrap64 (x10_3 + 1))) else (none))) else (none)) else (none)) = some r := by first | (rw [hji42] at H; exact H) | (simp only [hji42] at H ⊢; exact H)
                                have hji42w : (IntKind.i64.wrap ((x5_3.length : Int) - 1)) = ji42 := (i64_w _).trans hji42
                                by_cases c43 : 0 ≤ (ji42)
                                · rw [if_pos c43] at H
                                  have c43b0 : decide (0 ≤ (ji42)) = true := decide_eq_true c43
                                  clear c43
                                  by_cases c44 : (ji42) < (x5_3.length : Int)
                                  · rw [if_pos c44] at H
                                    have c44b0 : decide ((ji42) < (x5_3.length : Int)) = true := decide_eq_true c44
                                    clear c44
                                    by_cases c45 : ((rd_T127 x5_3 (ji42)).f1) = x10_3
                                    · rw [if_pos c45] at H
                                      have c45b0 : (((rd_T127 x5_3 (ji42)).f1) == x10_3) = true := beq_iff_eq.mpr c45
                                      have c45b1 : (((rd_T127 x5_3 (ji42)).f1) != x10_3) = false := bne_eq_false_iff_eq.mpr c45
                                      clear c45
                                      obtain ⟨y118, hy118⟩ : ∃ y_ : List (S127), y_ = (x5_3.set ((ji42) : Int).toNat (⟨(rd_T127 x5_3 (ji42)).f0, wrap64 (x10_3 + 1)⟩ : S127)) := ⟨_, rfl⟩
                                      replace H : (spec_Covered.l2 k3 a1 y118 x6_2 (wrap64 (x10_3 + 1))) = some r := by first | (rw [hy118]; with_reducible exact H) | (have H2_ := (Option.bind_some _ _).symm.trans H; rw [hy118]; with_reducible exact H2_) | (have H2_ := (Option.bind_some _ _).symm.trans H; with_reducible exact H2_) | with_reducible exact H | (rw [hy118]; exact H) | exact H
                                      have Ny118 := Aside0.mk hy118
                                      clear hy118
                                      have H' := Aside0.mk H
                                      clear H
                                      obtain ⟨Ao47, co47, eo47⟩ := Kd.R_slice HO_6.out
                                      subst eo47
                                      have p116 : 0 ≤ (x10_3 : Int) := of_decide_eq_true (by first | (with_reducible assumption) | assumption)
                                      have q116 : x10_3 < (x6_2.length : Int) := of_decide_eq_true (by first | (with_reducible assumption) | assumption)
                                      obtain ⟨ad116, e116, hx116_0⟩ := Kd.at_bool (Kd.R_reads' HO_6.out).2.2 x10_3 p116 q116
                                      (try rw [← Nbq38.out] at hx116_0)
                                      cases e116
                                      replace p116 := eq_true p116
                                      replace q116 := eq_true q116
                                      obtain ⟨Ao48, co48, eo48⟩ := Kd.R_slice HO_5.out
                                      subst eo48
                                      have p117 : 0 ≤ ((ji42) : Int) := of_decide_eq_true (by first | (with_reducible assumption) | assumption)
                                      have q117 : (ji42) < (x5_3.length : Int) := of_decide_eq_true (by first | (with_reducible assumption) | assumption)
                                      obtain ⟨ad117, e117, hx117_0, hx117_1⟩ := at_T127 (Kd.R_reads' HO_5.out).2.2 (ji42) p117 q117
                                      cases e117
                                      replace p117 := eq_true p117
                                      replace q117 := eq_true q117
                                      have p46 : 0 ≤ ((ji42) : Int) := of_decide_eq_true (by first | (with_reducible assumption) | assumption)
                                      have q46 : ((ji42) : Int) < ((x5_3.length : Int) : Int) := of_decide_eq_true (by first | (with_reducible assumption) | assumption)
                                      obtain ⟨go46, co46, eo46, gb46, gl46, cl46, HG46⟩ := Kd.R_form HO_5.out (by omega)
                                      (first | cases eo46 | (injection eo46 with ea_ en_ ec_; (first | subst ea_ | (injection ea_ with ea_; subst ea_)); subst ec_; clear en_))
                                      have GB46 := Aside0.mk gb46
                                      have GG46 := Aside0.mk HG46
                                      clear gb46 gl46 HG46
                                      (first | simp only [add_plain] at hx117_0 | skip)
                                      (first | simp only [add_plain] at hx117_1 | skip)
                                      obtain ⟨ce46, hcl46, hM46, hcc46, hfr46⟩ := Kd.R_elem HO_5.out z127 ((ji42) : Int) p46 q46
                                      obtain rfl := k127_openM hM46
                                      have hx46_0 : wr.cell? ⟨go46, ((ji42) : Int).toNat * 2, none⟩ = some (.int .i64 ((rd_T127 x5_3 (ji42)).f0)) := hcc46 0 _ rfl
                                      have hx46_1 : wr.cell? ⟨go46, ((ji42) : Int).toNat * 2 + 1, none⟩ = some (.int .i64 ((rd_T127 x5_3 (ji42)).f1)) := hcc46 1 _ rfl
                                      have hf46_0 : wr.frozen? ⟨go46, ((ji42) : Int).toNat * 2, none⟩ = false := hfr46 0
                                      have hf46_1 : wr.frozen? ⟨go46, ((ji42) : Int).toNat * 2 + 1, none⟩ = false := hfr46 1
                                      clear hcl46 hcc46 hfr46 hM46
                                      replace p46 := eq_true p46
                                      replace q46 := eq_true q46
                                      have HX49 := Aside0.mk (show Kd.R k127 127 wr w.heap.size (fun _ => True) (.slice (some ⟨go46, 0, none⟩) x5_3.length co48) x5_3 from (by (with_reducible repeat (first | apply Kd.R_alloc | apply Kd.R_drewN | apply Kd.R_drew)); exact HO_5.out))
                                      obtain ⟨ce49, hcl49, hM49, hcc49, hfr49⟩ := Kd.R_elem HX49.out z127 ((ji42) : Int) (of_decide_eq_true (by first | (with_reducible assumption) | assumption)) (by have h_ : ((ji42) : Int) < ((x5_3.length : Int) : Int) := of_decide_eq_true (by first | (with_reducible assumption) | assumption); first | exact h_ | (have e_ := (Kd.R_reads' HO_5.out).1; omega) | simpa using h_)
                                      obtain rfl := k127_openM hM49
                                      have HP49 := Kd.R_seg HX49.out ((ji42) : Int) (of_decide_eq_true (by first | (with_reducible assumption) | assumption)) (by have h_ : ((ji42) : Int) < ((x5_3.length : Int) : Int) := of_decide_eq_true (by first | (with_reducible assumption) | assumption); first | exact h_ | (have e_ := (Kd.R_reads' HO_5.out).1; omega) | simpa using h_) (seg := [.int .i64 (wrap64 (x10_3 + 1))]) (j := 1) hcl49 hcc49 (show 2 ≤ 2 from by decide) (x' := (⟨(rd_T127 x5_3 (ji42)).f0, wrap64 (x10_3 + 1)⟩ : S127)) (k127_mkM _ _ _ (⟨(rd_T127 x5_3 (ji42)).f0, wrap64 (x10_3 + 1)⟩ : S127) ) (fun _ hk => hk)
                                      have hx49_1 := hcc49 1 _ rfl
                                      (try simp only [show (k127).sz = 2 from rfl, Nat.mul_one, Nat.add_zero] at hx49_1)
                                      have hf49_1 := hfr49 1
                                      (try simp only [show (k127).sz = 2 from rfl, Nat.mul_one, Nat.add_zero] at hf49_1)
                                      clear hcl49 hcc49 hfr49 hM49
                                      go_wp2_with (first | ((with_reducible refine gate_store (t := 2) (p := 91) rfl ?_); refine store_event (t := 2) (p := 91) (v := ?vo_w50) (w1 := (wr.setCell ⟨go46, ((ji42) : Int).toNat * 2 + 1, none⟩ (.int .i64 (wrap64 (x10_3 + 1))))) ?hg ?ho ?hn ?hr ?_; (case ho => rfl); (case hg => rfl); (case hn => rfl); (case hr => first | (go_simp; done) | (go_simp; rfl)); intro w50 hw; have hg : wr.grownBy w50 (some go46) := (by rw [hw]; exact HP49.2); have hp_ : Kd.R k127 127 w50 w.heap.size (fun _ => True) (.slice (some ⟨go46, 0, none⟩) x5_3.length co48) y118 := (by rw [hw, Ny118.out]; exact HP49.1); clear HP49; have n0_ := Aside0.mk (hp_); have n1_ := Aside0.mk (Kd.R_over' (v := (.slice (some ⟨go46, 0, none⟩) x5_3.length co48)) (by (with_reducible repeat (first | apply Kd.R_alloc | apply Kd.R_drewN | apply Kd.R_drew)); exact HO_6.out) (Kd.R_typed HO_5.out) (by decide) hg); have n2_ := Aside0.mk ((by rw [hw]; exact below_set (HB.out) GB46.out : Below w.heap.size w w50)); clear HO_5; clear HO_6; clear HB; have HO_5 := n0_; have HO_6 := n1_; have HB := n2_; clear n0_ n1_ n2_; clear hg hw hp_))
                                      go_roundg k3
                                      case measure => have := HJ2.out; have := HK2.out; have := HK3.out; omega
                                      case rel => exact ⟨(y118), (wrap64 (x10_3 + 1)), (by first | rfl | (simp; done) | (simp [*]; done)), H', ⟨by have := HJ2.out; have := HK2.out; have := HK3.out; omega⟩, ⟨by (with_reducible repeat (first | apply Kd.R_alloc | apply Kd.R_drewN | apply Kd.R_drew)); exact HO_5.out⟩, ⟨by (with_reducible repeat (first | apply Kd.R_alloc | apply Kd.R_drewN | apply Kd.R_drew)); exact HO_6.out⟩, ⟨by repeat (first | (with_reducible first | exact HB.out | apply below_alloc | apply pw_below_drewN | apply below_drew1) | exact HB.out)⟩⟩
                                    · rw [if_neg c45] at H
                                      have c45b0 : (((rd_T127 x5_3 (ji42)).f1) == x10_3) = false := beq_eq_false_iff_ne.mpr c45
                                      have c45b1 : (((rd_T127 x5_3 (ji42)).f1) != x10_3) = true := bne_iff_ne.mpr c45
                                      by_cases c51 : x5_3.length < 8796093022208
                                      · rw [if_pos c51] at H
                                        have LMc51 := Aside0.mk c51
                                        clear c51
                                        obtain ⟨y119, hy119⟩ : ∃ y_ : List (S127), y_ = (x5_3 ++ [(⟨x10_3, wrap64 (x10_3 + 1)⟩ : S127)]) := ⟨_, rfl⟩
                                        replace H : (spec_Covered.l2 k3 a1 y119 x6_2 (wrap64 (x10_3 + 1))) = some r := by first | (rw [hy119]; with_reducible exact H) | (have H2_ := (Option.bind_some _ _).symm.trans H; rw [hy119]; with_reducible exact H2_) | (have H2_ := (Option.bind_some _ _).symm.trans H; with_reducible exact H2_) | with_reducible exact H | (rw [hy119]; exact H) | exact H
                                        have Ny119 := Aside0.mk hy119
                                        clear hy119
                                        have H' := Aside0.mk H
                                        clear H
                                        obtain ⟨Ao52, co52, eo52⟩ := Kd.R_slice HO_6.out
                                        subst eo52
                                        have p116 : 0 ≤ (x10_3 : Int) := of_decide_eq_true (by first | (with_reducible assumption) | assumption)
                                        have q116 : x10_3 < (x6_2.length : Int) := of_decide_eq_true (by first | (with_reducible assumption) | assumption)
                                        obtain ⟨ad116, e116, hx116_0⟩ := Kd.at_bool (Kd.R_reads' HO_6.out).2.2 x10_3 p116 q116
                                        (try rw [← Nbq38.out] at hx116_0)
                                        cases e116
                                        replace p116 := eq_true p116
                                        replace q116 := eq_true q116
                                        obtain ⟨Ao53, co53, eo53⟩ := Kd.R_slice HO_5.out
                                        subst eo53
                                        have p117 : 0 ≤ ((ji42) : Int) := of_decide_eq_true (by first | (with_reducible assumption) | assumption)
                                        have q117 : (ji42) < (x5_3.length : Int) := of_decide_eq_true (by first | (with_reducible assumption) | assumption)
                                        obtain ⟨ad117, e117, hx117_0, hx117_1⟩ := at_T127 (Kd.R_reads' HO_5.out).2.2 (ji42) p117 q117
                                        cases e117
                                        replace p117 := eq_true p117
                                        replace q117 := eq_true q117
                                        go_wp2_with (first | ((with_reducible refine gate_builtin (b := .append) (xs := #[.tmp 92, .tmp 97]) rfl ?_); (try (refine gate_guard (by rfl) ?_; dsimp only)); at_builtin; refine Kd.R_append k127 (w0 := w) w.heap.size rfl (.tmp 92) (.tmp 97) 36 127 (.agg #[(.int .i64 0), (.int .i64 0)]) 16 rfl Try.underlying36 info127 rfl (by decide) (by omega) (.slice (some ad117) x5_3.length co53) x5_3 (⟨x10_3, wrap64 (x10_3 + 1)⟩ : S127) [.int .i64 x10_3, .int .i64 (wrap64 (x10_3 + 1))] (fun _ => True) (fun _ => False) rfl rfl ?aP (fun _ hk => hk.elim) ?aF ?aO ?aB ?aS ?aL ?_; (case aP => exact k127_mkM _ _ _ (⟨x10_3, wrap64 (x10_3 + 1)⟩ : S127)); (case aB => exact (by repeat (first | (with_reducible first | exact HB.out | apply below_alloc | apply pw_below_drewN | apply below_drew1) | exact HB.out))); (case aF => exact (fun _ _ => trivial)); (case aO => exact (by (with_reducible repeat (first | apply Kd.R_alloc | apply Kd.R_drewN | apply Kd.R_drew)); exact HO_5.out)); (case aS => exact (below_size (by repeat (first | (with_reducible first | exact HB.out | apply below_alloc | apply pw_below_drewN | apply below_drew1) | exact HB.out)))); (case aL => have := LMc51.out; omega); intro v120 w54 ho hb hg hat; rw [← Ny119.out] at ho; have n0_ := Aside0.mk (Kd.R_over' (by (with_reducible repeat (first | apply Kd.R_alloc | apply Kd.R_drewN | apply Kd.R_drew)); exact HO_6.out) (Kd.R_typed (by (with_reducible repeat (first | apply Kd.R_alloc | apply Kd.R_drewN | apply Kd.R_drew)); exact HO_5.out)) (by decide) hg); have n1_ := Aside0.mk (hb); have n2_ := Aside0.mk (ho); clear HO_6; clear HB; clear HO_5; have HO_6 := n0_; have HB := n1_; have HO121 := n2_; clear n0_ n1_ n2_; clear ho hb hg hat))
                                        go_roundg k3
                                        case measure => have := HJ2.out; have := HK2.out; have := HK3.out; omega
                                        case rel => exact ⟨(y119), (wrap64 (x10_3 + 1)), (by first | rfl | (simp; done) | (simp [*]; done)), H', ⟨by have := HJ2.out; have := HK2.out; have := HK3.out; omega⟩, ⟨by (with_reducible repeat (first | apply Kd.R_alloc | apply Kd.R_drewN | apply Kd.R_drew)); exact HO121.out⟩, ⟨by (with_reducible repeat (first | apply Kd.R_alloc | apply Kd.R_drewN | apply Kd.R_drew)); exact HO_6.out⟩, ⟨by repeat (first | (with_reducible first | exact HB.out | apply below_alloc | apply pw_below_drewN | apply below_drew1) | exact HB.out)⟩⟩
                                      · rw [if_neg c51] at H
                                        exact absurd H (by simp)
                                  · rw [if_neg c44] at H
                                    exact absurd H (by simp)
                                · rw [if_neg c43] at H
                                  exact absurd H (by simp)
                              · rw [if_neg c41] at H
                                have c41b0 : decide (0 < (x5_3.length : Int)) = false := decide_eq_false c41
                                have c41b1 : decide (0 < x5_3.length) = false := decide_eq_false (by omega)
                                clear c41
                                by_cases c55 : x5_3.length < 8796093022208
                                · rw [if_pos c55] at H
                                  have LMc55 := Aside0.mk c55
                                  clear c55
                                  obtain ⟨y122, hy122⟩ : ∃ y_ : List (S127), y_ = (x5_3 ++ [(⟨x10_3, wrap64 (x10_3 + 1)⟩ : S127)]) := ⟨_, rfl⟩
                                  replace H : (spec_Covered.l2 k3 a1 y122 x6_2 (wrap64 (x10_3 + 1))) = some r := by first | (rw [hy122]; with_reducible exact H) | (have H2_ := (Option.bind_some _ _).symm.trans H; rw [hy122]; with_reducible exact H2_) | (have H2_ := (Option.bind_some _ _).symm.trans H; with_reducible exact H2_) | with_reducible exact H | (rw [hy122]; exact H) | exact H
                                  have Ny122 := Aside0.mk hy122
                                  clear hy122
                                  have H' := Aside0.mk H
                                  clear H
                                  obtain ⟨Ao56, co56, eo56⟩ := Kd.R_slice HO_6.out
                                  subst eo56
                                  have p116 : 0 ≤ (x10_3 : Int) := of_decide_eq_true (by first | (with_reducible assumption) | assumption)
                                  have q116 : x10_3 < (x6_2.length : Int) := of_decide_eq_true (by first | (with_reducible assumption) | assumption)
                                  obtain ⟨ad116, e116, hx116_0⟩ := Kd.at_bool (Kd.R_reads' HO_6.out).2.2 x10_3 p116 q116
                                  (try rw [← Nbq38.out] at hx116_0)
                                  cases e116
                                  replace p116 := eq_true p116
                                  replace q116 := eq_true q116
                                  obtain ⟨Ao57, co57, eo57⟩ := Kd.R_slice HO_5.out
                                  subst eo57
                                  go_wp2_with (first | ((with_reducible refine gate_builtin (b := .append) (xs := #[.tmp 92, .tmp 97]) rfl ?_); (try (refine gate_guard (by rfl) ?_; dsimp only)); at_builtin; refine Kd.R_append k127 (w0 := w) w.heap.size rfl (.tmp 92) (.tmp 97) 36 127 (.agg #[(.int .i64 0), (.int .i64 0)]) 16 rfl Try.underlying36 info127 rfl (by decide) (by omega) (.slice Ao57 x5_3.length co57) x5_3 (⟨x10_3, wrap64 (x10_3 + 1)⟩ : S127) [.int .i64 x10_3, .int .i64 (wrap64 (x10_3 + 1))] (fun _ => True) (fun _ => False) rfl rfl ?aP (fun _ hk => hk.elim) ?aF ?aO ?aB ?aS ?aL ?_; (case aP => exact k127_mkM _ _ _ (⟨x10_3, wrap64 (x10_3 + 1)⟩ : S127)); (case aB => exact (by repeat (first | (with_reducible first | exact HB.out | apply below_alloc | apply pw_below_drewN | apply below_drew1) | exact HB.out))); (case aF => exact (fun _ _ => trivial)); (case aO => exact (by (with_reducible repeat (first | apply Kd.R_alloc | apply Kd.R_drewN | apply Kd.R_drew)); exact HO_5.out)); (case aS => exact (below_size (by repeat (first | (with_reducible first | exact HB.out | apply below_alloc | apply pw_below_drewN | apply below_drew1) | exact HB.out)))); (case aL => have := LMc55.out; omega); intro v123 w58 ho hb hg hat; rw [← Ny122.out] at ho; have n0_ := Aside0.mk (Kd.R_over' (by (with_reducible repeat (first | apply Kd.R_alloc | apply Kd.R_drewN | apply Kd.R_drew)); exact HO_6.out) (Kd.R_typed (by (with_reducible repeat (first | apply Kd.R_alloc | apply Kd.R_drewN | apply Kd.R_drew)); exact HO_5.out)) (by decide) hg); have n1_ := Aside0.mk (hb); have n2_ := Aside0.mk (ho); clear HO_6; clear HB; clear HO_5; have HO_6 := n0_; have HB := n1_; have HO124 := n2_; clear n0_ n1_ n2_; clear ho hb hg hat))
                                  go_roundg k3
                                  case measure => have := HJ2.out; have := HK2.out; have := HK3.out; omega
                                  case rel => exact ⟨(y122), (wrap64 (x10_3 + 1)), (by first | rfl | (simp; done) | (simp [*]; done)), H', ⟨by have := HJ2.out; have := HK2.out; have := HK3.out; omega⟩, ⟨by (with_reducible repeat (first | apply Kd.R_alloc | apply Kd.R_drewN | apply Kd.R_drew)); exact HO124.out⟩, ⟨by (with_reducible repeat (first | apply Kd.R_alloc | apply Kd.R_drewN | apply Kd.R_drew)); exact HO_6.out⟩, ⟨by repeat (first | (with_reducible first | exact HB.out | apply below_alloc | apply pw_below_drewN | apply below_drew1) | exact HB.out)⟩⟩
                                · rw [if_neg c55] at H
                                  exact absurd H (by simp)
                          · rw [if_neg c37] at H
                            exact absurd H (by simp)
                        · rw [if_neg c36] at H
                          exact absurd H (by simp)
                      · rw [if_neg c35] at H
                        have c35b0 : decide (x10_3 < a1) = false := decide_eq_false c35
                        clear c35
                        obtain rfl := Option.some.inj H
                        go_wp2
                        go_ret
                        exact ⟨_, by first | rfl | (simp [errW_none, errW_some] <;> rfl) | (simp [*, errW_none, errW_some] <;> rfl), by (with_reducible repeat (first | apply Kd.R_alloc | apply Kd.R_drewN | apply Kd.R_drew)); exact HO_5.out, by repeat (first | (with_reducible first | exact HB.out | apply below_alloc | apply pw_below_drewN | apply below_drew1) | exact HB.out)⟩
          · rw [if_neg c10] at H
            exact absurd H (by simp)
        · rw [if_neg c9] at H
          exact absurd H (by simp)

end Go.Proofs.Ytabpfejdppfcdaa.PFnExactCovered
