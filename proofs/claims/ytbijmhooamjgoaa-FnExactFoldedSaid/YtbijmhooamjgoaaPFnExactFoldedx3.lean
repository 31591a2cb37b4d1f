-- Written by this session's own program (wip/pr.py) over the kit's printer; contracts that the printer does not know are given by hand.
import Derived.Test.YtbijmhooamjgoaaPFnExactFoldedx0
import Derived.Test.YtbijmhooamjgoaaPFnExactFoldedx2
namespace Go.Proofs.Ytbijmhooamjgoaa.PFnExactFolded
open Go.RowKit Go.Proofs.YtbijmhooamjgoaaW.PrintWords Go.Proofs.YtbijmhooamjgoaaW.PrintLast Go.Proofs.YtbijmhooamjgoaaW.PrintMore
attribute [local go_sem] max2_int min2_int max_two min_two max_three min_three max_four min_four   -- for this text's walks alone
set_option linter.unusedVariables false
set_option linter.unusedSimpArgs false

/-! ### spec_RxOk: function 146 -/
mutual
def spec_RxOk.j0 : Nat → Int → Bool → List (S181) → Option (Bool)
  | 0, _, _, _ => none
  | k + 1, x3, x18, x130000 => if x18 = true then (some false) else (if 0 ≤ x3 then (if (x3 : Int).toNat ≤ 35184372088832 then (spec_RxOk.l0 k x3 (List.replicate (x3 : Int).toNat 0) 0 x130000) else (none)) else (none))
def spec_RxOk.l0 : Nat → Int → List Int → Int → List (S181) → Option (Bool)
  | 0, _, _, _, _ => none
  | k + 1, x3, x4, x5, x130000 => if x5 < x3 then (if 0 ≤ x5 then (if x5 < (x130000.length : Int) then ((spec_l3Node.f k ((rd_T181 x130000 x5).f0) ((rd_T181 x130000 x5).f1) ((rd_T181 x130000 x5).f2) ((rd_T181 x130000 x5).f3) ((rd_T181 x130000 x5).f4) x5).bind fun t134 => (if t134 = true then (spec_RxOk.l1 k x3 x4 x5 0 x130000) else (some false))) else (none)) else (none)) else (if 0 ≤ x3 then (if (x3 : Int).toNat ≤ 35184372088832 then (spec_RxOk.l2 k x3 x4 (List.replicate (x3 : Int).toNat 0) (wrap64 (x3 - 1)) x130000) else (none)) else (none))
def spec_RxOk.l1 : Nat → Int → List Int → Int → Int → List (S181) → Option (Bool)
  | 0, _, _, _, _, _ => none
  | k + 1, x3, x4, x5, x6, x130000 => if 0 ≤ x5 then (if x5 < (x130000.length : Int) then (if x6 < (((rd_T181 x130000 x5).f2).length : Int) then (if 0 ≤ x6 then (if 0 ≤ (rd ((rd_T181 x130000 x5).f2) x6) then (if (rd ((rd_T181 x130000 x5).f2) x6) < (x4.length : Int) then (spec_RxOk.l1 k x3 (x4.set ((rd ((rd_T181 x130000 x5).f2) x6) : Int).toNat (wrap64 ((rd x4 (rd ((rd_T181 x130000 x5).f2) x6)) + 1))) x5 (wrap64 (x6 + 1)) x130000) else (none)) else (none)) else (none)) else (spec_RxOk.l0 k x3 x4 (wrap64 (x5 + 1)) x130000)) else (none)) else (none)
def spec_RxOk.l2 : Nat → Int → List Int → List Int → Int → List (S181) → Option (Bool)
  | 0, _, _, _, _, _ => none
  | k + 1, x3, x4, x7, x8, x130000 => if x8 ≥ 0 then (if x8 < (wrap64 (x3 - 1)) then (if 0 ≤ x8 then (if x8 < (x4.length : Int) then (if (rd x4 x8) = 1 then (if x8 < (x7.length : Int) then (spec_RxOk.j4 k x3 x4 x7 x8 (decide ((rd x7 x8) > 150)) x130000) else (none)) else (spec_RxOk.j4 k x3 x4 x7 x8 true x130000)) else (none)) else (none)) else (if 0 ≤ x8 then (if x8 < (x7.length : Int) then (spec_RxOk.j4 k x3 x4 x7 x8 (decide ((rd x7 x8) > 150)) x130000) else (none)) else (none))) else (some true)
def spec_RxOk.j4 : Nat → Int → List Int → List Int → Int → Bool → List (S181) → Option (Bool)
  | 0, _, _, _, _, _, _ => none
  | k + 1, x3, x4, x7, x8, x84, x130000 => if x84 = true then (some false) else (spec_RxOk.l3 k x3 x4 x7 x8 0 x130000)
def spec_RxOk.l3 : Nat → Int → List Int → List Int → Int → Int → List (S181) → Option (Bool)
  | 0, _, _, _, _, _, _ => none
  | k + 1, x3, x4, x7, x8, x9, x130000 => if 0 ≤ x8 then (if x8 < (x130000.length : Int) then (if x9 < (((rd_T181 x130000 x8).f2).length : Int) then (if 0 ≤ x9 then (if x8 < (x7.length : Int) then (if 0 ≤ (rd ((rd_T181 x130000 x8).f2) x9) then (if (rd ((rd_T181 x130000 x8).f2) x9) < (x7.length : Int) then (spec_RxOk.l3 k x3 x4 (x7.set ((rd ((rd_T181 x130000 x8).f2) x9) : Int).toNat (wrap64 ((rd x7 x8) + 1))) x8 (wrap64 (x9 + 1)) x130000) else (none)) else (none)) else (none)) else (none)) else (spec_RxOk.l2 k x3 x4 x7 (wrap64 (x8 - 1)) x130000)) else (none)) else (none)
end
def spec_RxOk.f (k : Nat) (l0_0 : List (S181)) : Option (Bool) := if (l0_0.length : Int) < 1 then (spec_RxOk.j0 k (l0_0.length : Int) true l0_0) else (spec_RxOk.j0 k (l0_0.length : Int) (decide ((l0_0.length : Int) > 300)) l0_0)
theorem spec_RxOk.mono_l : ∀ k, (∀ y0 y1 y2, LeO (spec_RxOk.j0 k y0 y1 y2) (spec_RxOk.j0 (k + 1) y0 y1 y2)) ∧ (∀ y0 y1 y2 y3, LeO (spec_RxOk.l0 k y0 y1 y2 y3) (spec_RxOk.l0 (k + 1) y0 y1 y2 y3)) ∧ (∀ y0 y1 y2 y3 y4, LeO (spec_RxOk.l1 k y0 y1 y2 y3 y4) (spec_RxOk.l1 (k + 1) y0 y1 y2 y3 y4)) ∧ (∀ y0 y1 y2 y3 y4, LeO (spec_RxOk.l2 k y0 y1 y2 y3 y4) (spec_RxOk.l2 (k + 1) y0 y1 y2 y3 y4)) ∧ (∀ y0 y1 y2 y3 y4 y5, LeO (spec_RxOk.j4 k y0 y1 y2 y3 y4 y5) (spec_RxOk.j4 (k + 1) y0 y1 y2 y3 y4 y5)) ∧ (∀ y0 y1 y2 y3 y4 y5, LeO (spec_RxOk.l3 k y0 y1 y2 y3 y4 y5) (spec_RxOk.l3 (k + 1) y0 y1 y2 y3 y4 y5))
  | 0 => ⟨fun _ _ _ r h => by simp [spec_RxOk.j0] at h, fun _ _ _ _ r h => by simp [spec_RxOk.l0] at h, fun _ _ _ _ _ r h => by simp [spec_RxOk.l1] at h, fun _ _ _ _ _ r h => by simp [spec_RxOk.l2] at h, fun _ _ _ _ _ _ r h => by simp [spec_RxOk.j4] at h, fun _ _ _ _ _ _ r h => by simp [spec_RxOk.l3] at h⟩
  | k + 1 => by
    obtain ⟨ih0, ih1, ih2, ih3, ih4, ih5⟩ := spec_RxOk.mono_l k
    refine ⟨?_, ?_, ?_, ?_, ?_, ?_⟩
    · intro y0 y1 y2
      unfold spec_RxOk.j0
      repeat' first
      | (with_reducible exact LeO.refl _)
      | exact ih0 _ _ _
      | exact ih1 _ _ _ _
      | exact ih2 _ _ _ _ _
      | exact ih3 _ _ _ _ _
      | exact ih4 _ _ _ _ _ _
      | exact ih5 _ _ _ _ _ _
      | exact spec_l3Node.mono _ _ _ _ _ _ _
      | exact LeO.none _
      | refine LeO.ite ?_ ?_
      | refine LeO.bind ?_ (fun _ => ?_)
    · intro y0 y1 y2 y3
      unfold spec_RxOk.l0
      repeat' first
      | (with_reducible exact LeO.refl _)
      | exact ih0 _ _ _
      | exact ih1 _ _ _ _
      | exact ih2 _ _ _ _ _
      | exact ih3 _ _ _ _ _
      | exact ih4 _ _ _ _ _ _
      | exact ih5 _ _ _ _ _ _
      | exact spec_l3Node.mono _ _ _ _ _ _ _
      | exact LeO.none _
      | refine LeO.ite ?_ ?_
      | refine LeO.bind ?_ (fun _ => ?_)
    · intro y0 y1 y2 y3 y4
      unfold spec_RxOk.l1
      repeat' first
      | (with_reducible exact LeO.refl _)
      | exact ih0 _ _ _
      | exact ih1 _ _ _ _
      | exact ih2 _ _ _ _ _
      | exact ih3 _ _ _ _ _
      | exact ih4 _ _ _ _ _ _
      | exact ih5 _ _ _ _ _ _
      | exact spec_l3Node.mono _ _ _ _ _ _ _
      | exact LeO.none _
      | refine LeO.ite ?_ ?_
      | refine LeO.bind ?_ (fun _ => ?_)
    · intro y0 y1 y2 y3 y4
      unfold spec_RxOk.l2
      repeat' first
      | (with_reducible exact LeO.refl _)
      | exact ih0 _ _ _
      | exact ih1 _ _ _ _
      | exact ih2 _ _ _ _ _
      | exact ih3 _ _ _ _ _
      | exact ih4 _ _ _ _ _ _
      | exact ih5 _ _ _ _ _ _
      | exact spec_l3Node.mono _ _ _ _ _ _ _
      | exact LeO.none _
      | refine LeO.ite ?_ ?_
      | refine LeO.bind ?_ (fun _ => ?_)
    · intro y0 y1 y2 y3 y4 y5
      unfold spec_RxOk.j4
      repeat' first
      | (with_reducible exact LeO.refl _)
      | exact ih0 _ _ _
      | exact ih1 _ _ _ _
      | exact ih2 _ _ _ _ _
      | exact ih3 _ _ _ _ _
      | exact ih4 _ _ _ _ _ _
      | exact ih5 _ _ _ _ _ _
      | exact spec_l3Node.mono _ _ _ _ _ _ _
      | exact LeO.none _
      | refine LeO.ite ?_ ?_
      | refine LeO.bind ?_ (fun _ => ?_)
    · intro y0 y1 y2 y3 y4 y5
      unfold spec_RxOk.l3
      repeat' first
      | (with_reducible exact LeO.refl _)
      | exact ih0 _ _ _
      | exact ih1 _ _ _ _
      | exact ih2 _ _ _ _ _
      | exact ih3 _ _ _ _ _
      | exact ih4 _ _ _ _ _ _
      | exact ih5 _ _ _ _ _ _
      | exact spec_l3Node.mono _ _ _ _ _ _ _
      | exact LeO.none _
      | refine LeO.ite ?_ ?_
      | refine LeO.bind ?_ (fun _ => ?_)
theorem spec_RxOk.mono : ∀ a0 k, LeO (spec_RxOk.f k a0) (spec_RxOk.f (k + 1) a0) := by
  intro a0 k
  obtain ⟨ih0, ih1, ih2, ih3, ih4, ih5⟩ := spec_RxOk.mono_l k
  unfold spec_RxOk.f
  repeat' first
      | (with_reducible exact LeO.refl _)
      | exact ih0 _ _ _
      | exact ih1 _ _ _ _
      | exact ih2 _ _ _ _ _
      | exact ih3 _ _ _ _ _
      | exact ih4 _ _ _ _ _ _
      | exact ih5 _ _ _ _ _ _
      | exact spec_l3Node.mono _ _ _ _ _ _ _
      | exact LeO.none _
      | refine LeO.ite ?_ ?_
      | refine LeO.bind ?_ (fun _ => ?_)
def spec_RxOk.T23 : Bool × List (List Nat × List Nat) := (true, [([], []), ([], []), ([1], [1]), ([], []), ([2, 3], [2, 3]), ([4], [4]), ([5], [5]), ([], []), ([6, 7], [6, 7]), ([8], [8]), ([], []), ([], []), ([10, 11], [10, 11]), ([12], [12]), ([13], [13]), ([0, 9, 0, 1, 2, 3, 4, 5, 6, 7, 8, 9, 10, 11, 12, 13, 14], [0, 9]), ([15, 14, 0, 1, 2, 3, 4, 5, 6, 7, 8, 9, 10, 11, 12, 13, 14], [14, 15])])
def spec_RxOk.B23 : List Nat := [0, 0, 2, 0, 14, 30, 62, 0, 254, 510, 0, 0, 3072, 7168, 15360, 32767, 65535]
theorem spec_RxOk.tab23 : rtab .any (opsOf Try.f146 23) = spec_RxOk.T23 := by kernel_rfl
theorem spec_RxOk.bits23 : waitsOk spec_RxOk.T23.2 spec_RxOk.B23 = true := by kernel_rfl
set_option maxHeartbeats 8000000 in
set_option maxRecDepth 100000 in
theorem spec_RxOk.calls (k : Nat) (A0_0 : Option Addr) (c0_0 : Nat) (l0_0 : List (S181)) (r : Bool) (w : World) (hr0_0 : Kd.C k181 w A0_0 l0_0.length l0_0) (hc0_0 : l0_0.length ≤ c0_0) (h : spec_RxOk.f k l0_0 = some r) :
    Calls Try.prog 146 #[.agg #[.slice A0_0 l0_0.length c0_0]] w fun e w' => e = .returned (.bool r) ∧ Below w.heap.size w w' := by
  have hu106 := Try.underlying106
  have hu181 := Try.underlying181
  have HR0_0 := Aside0.mk hr0_0
  have HC0_0 := Aside0.mk hc0_0
  clear hr0_0 hc0_0
  have HB := Aside0.mk (Below.refl w.heap.size w)
  have H : (if (l0_0.length : Int) < 1 then (spec_RxOk.j0 k (l0_0.length : Int) true l0_0) else (spec_RxOk.j0 k (l0_0.length : Int) (decide ((l0_0.length : Int) > 300)) l0_0)) = some r := h
  clear h
  have HC2 := Aside0.mk H
  clear H
  go_enter Try.func146, Try.ntmps146
  go_upto_region 2 with (first | ((with_reducible refine gate_dst (N := 1) rfl ?_); refine box_event ?hg (N := 1) ?hd (cs := #[.slice A0_0 l0_0.length c0_0]) (t := 106) ?hr ?_; (case hd => rfl); (case hg => rfl); (case hr => first | (go_simp; done) | (go_simp; rfl)); intro gb129 hg w3 hbox hb; have BK129 := Aside0.mk (hbox); have GW129 := Aside0.mk ((by rw [hg]; exact (below_size (by repeat (first | (with_reducible first | exact HB.out | apply below_alloc | apply pw_below_drewN | apply below_drew1) | exact HB.out))) : w.heap.size ≤ gb129)); have GE129 := Aside0.mk ((by rw [hg]; exact (below_size (by repeat (first | (with_reducible first | exact HB.out | apply below_alloc | apply pw_below_drewN | apply below_drew1) | exact HB.out))) : w.heap.size ≤ gb129)); replace HB := Aside0.mk (below_step (by repeat (first | (with_reducible first | exact HB.out | apply below_alloc | apply pw_below_drewN | apply below_drew1) | exact HB.out)) hb); clear hb hbox hg; have hcz4_0 : w3.cell? ⟨gb129, 0, none⟩ = some (.slice A0_0 l0_0.length c0_0) := (blk_cell BK129.out 0).trans rfl; have hfz4_0 := blk_frozen BK129.out 0))
  (try simp only [Act.put, List.setIfInBounds_toArray, List.set_cons_zero, List.set_cons_succ])
  go_cut [18] (fun v18 wc => ∃ (kq : Nat) (x18_1 : Bool), v18 = .bool x18_1 ∧ Aside0 (spec_RxOk.j0 kq (l0_0.length : Int) x18_1 l0_0 = some r) ∧ Aside0 (kq ≤ k) ∧ Aside0 (wc.heap[gb129]? = some (.cells #[(.slice A0_0 l0_0.length c0_0)] 106 (0, 0))) ∧ Aside0 (Below w.heap.size w wc))
  case first =>
    have H := HC2.out; clear HC2
    by_cases c5 : (l0_0.length : Int) < 1
    · rw [if_pos c5] at H
      have c5b0 : decide ((l0_0.length : Int) < 1) = true := decide_eq_true c5; have c5b1 : decide (l0_0.length < 1) = true := decide_eq_true (by omega); clear c5
      (first | rw [c5b0] | (simp only [i64_w, i32_w]; rw [c5b0]) | skip)
      have H' := Aside0.mk H; clear H
      go_wp2
      go_meet
      case rel => exact ⟨_, (true), (by first | rfl | (simp; done) | (simp [*]; done)), H', ⟨by first | omega | exact Nat.le_refl _⟩, ⟨by (with_reducible repeat (first | refine blk_drewN ?_ _ | refine blk_drew ?_ | refine blk_alloc ?_ _)); exact BK129.out⟩, ⟨by repeat (first | (with_reducible first | exact HB.out | apply below_alloc | apply pw_below_drewN | apply below_drew1 | refine below_set ?_ GE129.out) | exact HB.out)⟩⟩
    · rw [if_neg c5] at H
      have c5b0 : decide ((l0_0.length : Int) < 1) = false := decide_eq_false c5; have c5b1 : decide (l0_0.length < 1) = false := decide_eq_false (by omega); clear c5
      (first | rw [c5b0] | (simp only [i64_w, i32_w]; rw [c5b0]) | skip)
      have H' := Aside0.mk H; clear H
      go_wp2
      go_meet
      case rel => exact ⟨_, (decide ((l0_0.length : Int) > 300)), (by first | rfl | (simp; done) | (simp [*]; done)), H', ⟨by first | omega | exact Nat.le_refl _⟩, ⟨by (with_reducible repeat (first | refine blk_drewN ?_ _ | refine blk_drew ?_ | refine blk_alloc ?_ _)); exact BK129.out⟩, ⟨by repeat (first | (with_reducible first | exact HB.out | apply below_alloc | apply pw_below_drewN | apply below_drew1 | refine below_set ?_ GE129.out) | exact HB.out)⟩⟩
  case rest =>
    clear HC2; (try clear c1); (try clear p2); (try clear c5); (try clear c5b0); (try clear c5b1); (try clear hcz4_0); (try clear hfz4_0); obtain ⟨kq, x18_1, rfl, HA, HJ1, BK129, HB⟩ := hcut
    cases kq with
    | zero => exact absurd HA.out (by simp [spec_RxOk.j0])
    | succ kj1 =>
      have H := HA.out; clear HA
      simp only [spec_RxOk.j0] at H
      by_cases c6 : x18_1 = true
      · subst c6
        have H1 : (some false) = some r := by rw [if_pos rfl] at H; exact H
        clear H; have H := H1; clear H1; obtain rfl := Option.some.inj H
        go_wp2
        go_ret
        exact ⟨by first | rfl | (simp [errW_none, errW_some] <;> rfl) | (simp [*, errW_none, errW_some] <;> rfl), by repeat (first | (with_reducible first | exact HB.out | apply below_alloc | apply pw_below_drewN | apply below_drew1 | refine below_set ?_ GE129.out) | exact HB.out)⟩
      · replace c6 := Bool.eq_false_iff.mpr c6
        subst c6
        have H1 : (if 0 ≤ (l0_0.length : Int) then (if ((l0_0.length : Int) : Int).toNat ≤ 35184372088832 then (spec_RxOk.l0 kj1 (l0_0.length : Int) (List.replicate ((l0_0.length : Int) : Int).toNat 0) 0 l0_0) else (none)) else (none)) = some r := by rw [if_neg (show ¬ (false = true) by decide)] at H; exact H
        clear H; have H := H1; clear H1
        by_cases c7 : 0 ≤ (l0_0.length : Int)
        · rw [if_pos c7] at H
          have c7b0 := eq_true c7; have c7b1 : decide (0 ≤ (l0_0.length : Int)) = true := decide_eq_true c7; clear c7
          by_cases c8 : ((l0_0.length : Int) : Int).toNat ≤ 35184372088832
          · rw [if_pos c8] at H
            have c8b0 := eq_true c8; have c8b1 : decide (((l0_0.length : Int) : Int).toNat ≤ 35184372088832) = true := decide_eq_true c8; clear c8; obtain ⟨y130, hy130⟩ : ∃ y_ : List Int, y_ = (List.replicate ((l0_0.length : Int) : Int).toNat 0) := ⟨_, rfl⟩
            replace H : (spec_RxOk.l0 kj1 (l0_0.length : Int) y130 0 l0_0) = some r := by first | (rw [hy130]; with_reducible exact H) | (have H2_ := (Option.bind_some _ _).symm.trans H; rw [hy130]; with_reducible exact H2_) | (have H2_ := (Option.bind_some _ _).symm.trans H; with_reducible exact H2_) | with_reducible exact H | (rw [hy130]; exact H) | exact H
            have Ny130 := Aside0.mk hy130; clear hy130; have H' := Aside0.mk H; clear H
            go_wp2_with (first | ((with_reducible refine gate_dst (N := 20) rfl ?_); refine Kd.R_make (Kd.int .i64) _ 3 rfl (N := 20) rfl 228 _ _ rfl (l0_0.length : Int) rfl rfl Try.underlying228 (.int .i64 0) 8 info3 rfl (by decide) (by omega) 0 (ok := fun _ => True) (okp := fun _ => True) rfl (fun _ hk => hk) trivial (of_decide_eq_true (by assumption)) (Nat.le_trans (Nat.mul_le_mul_right _ (of_decide_eq_true (by assumption) : (l0_0.length : Int).toNat ≤ 35184372088832)) (by omega)) (Below.refl _ _) (Nat.le_refl _) ?_; intro v131 w9 ho10 hb hg_ hnew_; clear hg_ hnew_; (first | rw [← Ny130.out] at ho10 | (simp only [Int.reduceToNat] at ho10; rw [← Ny130.out] at ho10)); have HO132 := Aside0.mk (Kd.R_lower ho10 (below_size (by repeat (first | (with_reducible first | exact HB.out | apply below_alloc | apply pw_below_drewN | apply below_drew1 | refine below_set ?_ GE129.out) | exact HB.out)))); replace BK129 := Aside0.mk (blk_below (g := gb129) (o := .cells #[.slice A0_0 l0_0.length c0_0] 106 (0, 0)) (by (with_reducible repeat (first | refine blk_drewN ?_ _ | refine blk_drew ?_ | refine blk_alloc ?_ _)); exact BK129.out) hb); replace HB := Aside0.mk (below_step (by repeat (first | (with_reducible first | exact HB.out | apply below_alloc | apply pw_below_drewN | apply below_drew1 | refine below_set ?_ GE129.out) | exact HB.out)) hb); clear hb ho10))
            go_loopg [5] kj1 (fun kq v5 w' => ∃ (x4_2 : List Int) (x5_2 : Int), v5 = .int .i64 x5_2 ∧ Aside0 (spec_RxOk.l0 kq (l0_0.length : Int) x4_2 x5_2 l0_0 = some r) ∧ Aside0 (kq ≤ kj1) ∧ Aside0 (Kd.R (Kd.int .i64) 3 w' w.heap.size (fun _ => True) v131 x4_2) ∧ Aside0 (w'.heap[gb129]? = some (.cells #[(.slice A0_0 l0_0.length c0_0)] 106 (0, 0))) ∧ Aside0 (Below w.heap.size w w'))
            case atStart => exact ⟨(y130), (0), (by first | rfl | (simp; done) | (simp [*]; done)), H', ⟨Nat.le_refl _⟩, ⟨by (with_reducible repeat (first | apply Kd.R_alloc | apply Kd.R_drewN | apply Kd.R_drew)); exact HO132.out⟩, ⟨by (with_reducible repeat (first | refine blk_drewN ?_ _ | refine blk_drew ?_ | refine blk_alloc ?_ _)); exact BK129.out⟩, ⟨by repeat (first | (with_reducible first | exact HB.out | apply below_alloc | apply pw_below_drewN | apply below_drew1 | refine below_set ?_ GE129.out) | exact HB.out)⟩⟩
            case round =>
              clear H'; (try clear c1); (try clear p2); (try clear c5); (try clear c5b0); (try clear c5b1); (try clear c6); (try clear c7); (try clear c7b0); (try clear c7b1); (try clear c8); (try clear c8b0); (try clear c8b1); (try clear hcz4_0); (try clear hfz4_0); (try clear p2); obtain ⟨x4_2, x5_2, rfl, HA, HK2, HO_4, BK129, HB⟩ := hrel
              cases gk with
              | zero => exact absurd HA.out (by simp [spec_RxOk.l0])
              | succ k2 =>
                have H := HA.out; clear HA
                simp only [spec_RxOk.l0] at H
                by_cases c11 : x5_2 < (l0_0.length : Int)
                · rw [if_pos c11] at H
                  have c11b0 : decide (x5_2 < (l0_0.length : Int)) = true := decide_eq_true c11; clear c11
                  by_cases c12 : 0 ≤ x5_2
                  · rw [if_pos c12] at H
                    have c12b0 : decide (0 ≤ x5_2) = true := decide_eq_true c12; clear c12
                    by_cases c13 : x5_2 < (l0_0.length : Int)
                    · rw [if_pos c13] at H
                      have c13b0 : decide (x5_2 < (l0_0.length : Int)) = true := decide_eq_true c13; clear c13; replace H := Option.bind_eq_some_iff.mp H; obtain ⟨t134, A140, H⟩ := H; replace H : (if t134 = true then (spec_RxOk.l1 k2 (l0_0.length : Int) x4_2 x5_2 0 l0_0) else (some false)) = some r := H; have A14 := Aside0.mk A140; clear A140
                      by_cases c15 : t134 = true
                      · subst c15
                        have H1 : (spec_RxOk.l1 k2 (l0_0.length : Int) x4_2 x5_2 0 l0_0) = some r := by rw [if_pos rfl] at H; exact H
                        clear H; have H := H1; clear H1; have H' := Aside0.mk H; clear H; have hcz16_0 : wr.cell? ⟨gb129, 0, none⟩ = some (.slice A0_0 l0_0.length c0_0) := (blk_cell BK129.out 0).trans rfl; have hfz16_0 := blk_frozen BK129.out 0; have p133 : 0 ≤ (x5_2 : Int) := of_decide_eq_true (by assumption); have q133 : x5_2 < (l0_0.length : Int) := of_decide_eq_true (by assumption); obtain ⟨ad133, A133_1, c133_1, A133_2, c133_2, e133, hx133_0, hx133_1, hx133_2, hx133_3, hx133_4, hl133_1, hi133_1, hl133_2, hi133_2⟩ := at_T181 HR0_0.out x5_2 p133 q133; cases e133; replace hx133_0 := (HB.out.cell (World.block_lt_of_cell? w _ hx133_0)).trans hx133_0; replace hx133_1 := (HB.out.cell (World.block_lt_of_cell? w _ hx133_1)).trans hx133_1; replace hx133_2 := (HB.out.cell (World.block_lt_of_cell? w _ hx133_2)).trans hx133_2; replace hx133_3 := (HB.out.cell (World.block_lt_of_cell? w _ hx133_3)).trans hx133_3; replace hx133_4 := (HB.out.cell (World.block_lt_of_cell? w _ hx133_4)).trans hx133_4; have HR133_1 := Aside0.mk hi133_1; have HC133_1 := Aside0.mk hl133_1; clear hi133_1 hl133_1; have HR133_2 := Aside0.mk hi133_2; have HC133_2 := Aside0.mk hl133_2; clear hi133_2 hl133_2; replace p133 := eq_true p133; replace q133 := eq_true q133
                        go_wp2_with (first | ((with_reducible refine gate_callee (f := 188) rfl ?_); refine goesL_ (some 32) rfl rfl Try.func188 (by kernel_rfl) rfl #[.agg #[.int .i64 ((rd_T181 l0_0 x5_2).f0), .slice A133_1 ((rd_T181 l0_0 x5_2).f1).length c133_1, .slice A133_2 ((rd_T181 l0_0 x5_2).f2).length c133_2, .int .i64 ((rd_T181 l0_0 x5_2).f3), .int .i64 ((rd_T181 l0_0 x5_2).f4)], .int .i64 x5_2] rfl (by (try simp only [List.map_toArray, List.map_cons, List.map_nil]); first | done | rfl | (simp only [List.length_drop, List.length_take]; rfl)) ?_; (with_reducible refine (spec_l3Node.calls k2 ((rd_T181 l0_0 x5_2).f0) _ _ ((rd_T181 l0_0 x5_2).f1) _ _ ((rd_T181 l0_0 x5_2).f2) ((rd_T181 l0_0 x5_2).f3) ((rd_T181 l0_0 x5_2).f4) x5_2 true _ ?side1 ?side2 ?side3 ?side4 A14.out).mono ?_); (case side1 => repeat (first | exact (Kd.C_below HR133_1.out HB.out) | (with_reducible refine Kd.C_alloc ?_ _) | (with_reducible refine Kd.C_drewN ?_ _) | (with_reducible refine Kd.C_drew ?_))); (case side2 => exact HC133_1.out); (case side3 => repeat (first | exact (Kd.C_below HR133_2.out HB.out) | (with_reducible refine Kd.C_alloc ?_ _) | (with_reducible refine Kd.C_drewN ?_ _) | (with_reducible refine Kd.C_drew ?_))); (case side4 => exact HC133_2.out); rintro e w17 ⟨rfl, hb⟩; refine ⟨_, rfl, ?_⟩; replace HO_4 := Aside0.mk (Kd.R_below (by (with_reducible repeat (first | apply Kd.R_alloc | apply Kd.R_drewN | apply Kd.R_drew)); exact HO_4.out) hb); replace BK129 := Aside0.mk (blk_below (g := gb129) (o := .cells #[.slice (some ad133) l0_0.length c0_0] 106 (0, 0)) (by (with_reducible repeat (first | refine blk_drewN ?_ _ | refine blk_drew ?_ | refine blk_alloc ?_ _)); exact BK129.out) hb); replace HB := Aside0.mk (below_step (by repeat (first | (with_reducible first | exact HB.out | apply below_alloc | apply pw_below_drewN | apply below_drew1 | refine below_set ?_ GE129.out) | exact HB.out)) hb); (try clear hb); (try clear hb2); (try clear hk); (try clear hi)))
                        go_loopg [6] k2 (fun kq v6 w' => ∃ (x4_3 : List Int) (x6_3 : Int), v6 = .int .i64 x6_3 ∧ Aside0 (spec_RxOk.l1 kq (l0_0.length : Int) x4_3 x5_2 x6_3 l0_0 = some r) ∧ Aside0 (kq ≤ k2) ∧ Aside0 (Kd.R (Kd.int .i64) 3 w' w.heap.size (fun _ => True) v131 x4_3) ∧ Aside0 (w'.heap[gb129]? = some (.cells #[(.slice (some ad133) l0_0.length c0_0)] 106 (0, 0))) ∧ Aside0 (Below w.heap.size w w'))
                        case atStart => exact ⟨(x4_2), (0), (by first | rfl | (simp; done) | (simp [*]; done)), H', ⟨Nat.le_refl _⟩, ⟨by (with_reducible repeat (first | apply Kd.R_alloc | apply Kd.R_drewN | apply Kd.R_drew)); exact HO_4.out⟩, ⟨by (with_reducible repeat (first | refine blk_drewN ?_ _ | refine blk_drew ?_ | refine blk_alloc ?_ _)); exact BK129.out⟩, ⟨by repeat (first | (with_reducible first | exact HB.out | apply below_alloc | apply pw_below_drewN | apply below_drew1 | refine below_set ?_ GE129.out) | exact HB.out)⟩⟩
                        case round =>
                          clear H'; (try clear c1); (try clear p1); (try clear q1); (try clear hx1); (try clear p2); (try clear c5); (try clear c5b0); (try clear c5b1); (try clear c6); (try clear c7); (try clear c7b0); (try clear c7b1); (try clear c8); (try clear c8b0); (try clear c8b1); (try clear c11); (try clear c11b0); (try clear c12); (try clear c12b0); (try clear c13); (try clear c13b0); (try clear p13); (try clear q13); (try clear hx13); (try clear c14); (try clear c15); (try clear hcz16_0); (try clear hcz4_0); (try clear hfz16_0); (try clear hfz4_0); (try clear hx133_0); (try clear hx133_1); (try clear hx133_2); (try clear hx133_3); (try clear hx133_4); (try clear p133); (try clear p2); (try clear q133); obtain ⟨x4_3, x6_3, rfl, HA, HK3, HO_4, BK129, HB⟩ := hrel
                          cases gk with
                          | zero => exact absurd HA.out (by simp [spec_RxOk.l1])
                          | succ k3 =>
                            have H := HA.out; clear HA
                            simp only [spec_RxOk.l1] at H
                            by_cases c18 : 0 ≤ x5_2
                            · rw [if_pos c18] at H
                              have c18b0 : decide (0 ≤ x5_2) = true := decide_eq_true c18; clear c18
                              by_cases c19 : x5_2 < (l0_0.length : Int)
                              · rw [if_pos c19] at H
                                have c19b0 : decide (x5_2 < (l0_0.length : Int)) = true := decide_eq_true c19; clear c19
                                by_cases c20 : x6_3 < (((rd_T181 l0_0 x5_2).f2).length : Int)
                                · rw [if_pos c20] at H
                                  have c20b0 : decide (x6_3 < (((rd_T181 l0_0 x5_2).f2).length : Int)) = true := decide_eq_true c20; clear c20
                                  by_cases c21 : 0 ≤ x6_3
                                  · rw [if_pos c21] at H
                                    have c21b0 : decide (0 ≤ x6_3) = true := decide_eq_true c21; clear c21
                                    by_cases c22 : 0 ≤ (rd ((rd_T181 l0_0 x5_2).f2) x6_3)
                                    · rw [if_pos c22] at H
                                      have c22b0 : decide (0 ≤ (rd ((rd_T181 l0_0 x5_2).f2) x6_3)) = true := decide_eq_true c22; clear c22
                                      by_cases c23 : (rd ((rd_T181 l0_0 x5_2).f2) x6_3) < (x4_3.length : Int)
                                      · rw [if_pos c23] at H
                                        have c23b0 : decide ((rd ((rd_T181 l0_0 x5_2).f2) x6_3) < (x4_3.length : Int)) = true := decide_eq_true c23; clear c23; obtain ⟨y139, hy139⟩ : ∃ y_ : List Int, y_ = (x4_3.set ((rd ((rd_T181 l0_0 x5_2).f2) x6_3) : Int).toNat (wrap64 ((rd x4_3 (rd ((rd_T181 l0_0 x5_2).f2) x6_3)) + 1))) := ⟨_, rfl⟩
                                        replace H : (spec_RxOk.l1 k3 (l0_0.length : Int) y139 x5_2 (wrap64 (x6_3 + 1)) l0_0) = some r := by first | (rw [hy139]; with_reducible exact H) | (have H2_ := (Option.bind_some _ _).symm.trans H; rw [hy139]; with_reducible exact H2_) | (have H2_ := (Option.bind_some _ _).symm.trans H; with_reducible exact H2_) | with_reducible exact H | (rw [hy139]; exact H) | exact H
                                        have Ny139 := Aside0.mk hy139; clear hy139; have H' := Aside0.mk H; clear H; have hcz25_0 : wr.cell? ⟨gb129, 0, none⟩ = some (.slice (some ad133) l0_0.length c0_0) := (blk_cell BK129.out 0).trans rfl; have hfz25_0 := blk_frozen BK129.out 0; have p135 : 0 ≤ (x5_2 : Int) := of_decide_eq_true (by assumption); have q135 : x5_2 < (l0_0.length : Int) := of_decide_eq_true (by assumption); obtain ⟨ad135, A135_1, c135_1, A135_2, c135_2, e135, hx135_0, hx135_1, hx135_2, hx135_3, hx135_4, hl135_1, hi135_1, hl135_2, hi135_2⟩ := at_T181 HR0_0.out x5_2 p135 q135; obtain rfl : ad133 = ad135 := (by injection e135); replace hx135_0 := (HB.out.cell (World.block_lt_of_cell? w _ hx135_0)).trans hx135_0; replace hx135_1 := (HB.out.cell (World.block_lt_of_cell? w _ hx135_1)).trans hx135_1; replace hx135_2 := (HB.out.cell (World.block_lt_of_cell? w _ hx135_2)).trans hx135_2; replace hx135_3 := (HB.out.cell (World.block_lt_of_cell? w _ hx135_3)).trans hx135_3; replace hx135_4 := (HB.out.cell (World.block_lt_of_cell? w _ hx135_4)).trans hx135_4; have HR135_1 := Aside0.mk hi135_1; have HC135_1 := Aside0.mk hl135_1; clear hi135_1 hl135_1; have HR135_2 := Aside0.mk hi135_2; have HC135_2 := Aside0.mk hl135_2; clear hi135_2 hl135_2; replace p135 := eq_true p135; replace q135 := eq_true q135; have p136 : 0 ≤ (x5_2 : Int) := of_decide_eq_true (by assumption); have q136 : x5_2 < (l0_0.length : Int) := of_decide_eq_true (by assumption); obtain ⟨ad136, A136_1, c136_1, A136_2, c136_2, e136, hx136_0, hx136_1, hx136_2, hx136_3, hx136_4, hl136_1, hi136_1, hl136_2, hi136_2⟩ := at_T181 HR0_0.out x5_2 p136 q136; obtain rfl : ad133 = ad136 := (by injection e136); replace hx136_0 := (HB.out.cell (World.block_lt_of_cell? w _ hx136_0)).trans hx136_0; replace hx136_1 := (HB.out.cell (World.block_lt_of_cell? w _ hx136_1)).trans hx136_1; replace hx136_2 := (HB.out.cell (World.block_lt_of_cell? w _ hx136_2)).trans hx136_2; replace hx136_3 := (HB.out.cell (World.block_lt_of_cell? w _ hx136_3)).trans hx136_3; replace hx136_4 := (HB.out.cell (World.block_lt_of_cell? w _ hx136_4)).trans hx136_4; have HR136_1 := Aside0.mk hi136_1; have HC136_1 := Aside0.mk hl136_1; clear hi136_1 hl136_1; have HR136_2 := Aside0.mk hi136_2; have HC136_2 := Aside0.mk hl136_2; clear hi136_2 hl136_2; replace p136 := eq_true p136; replace q136 := eq_true q136; have ea_ := Option.some.inj (hx135_1.symm.trans hx136_1)
                                        injection ea_ with ea_ en_ ec_
                                        subst ea_; subst ec_; clear en_; have ea_ := Option.some.inj (hx135_2.symm.trans hx136_2)
                                        injection ea_ with ea_ en_ ec_
                                        subst ea_; subst ec_; clear en_; have p137 : 0 ≤ (x6_3 : Int) := of_decide_eq_true (by assumption); have q137 : x6_3 < (((rd_T181 l0_0 x5_2).f2).length : Int) := of_decide_eq_true (by assumption); obtain ⟨ad137, e137, hx137_0⟩ := Kd.at_int HR136_2.out x6_3 p137 q137; cases e137; replace hx137_0 := (HB.out.cell (World.block_lt_of_cell? w _ hx137_0)).trans hx137_0; replace p137 := eq_true p137; replace q137 := eq_true q137; obtain ⟨Ao26, co26, eo26⟩ := Kd.R_slice HO_4.out; subst eo26; have p138 : 0 ≤ ((rd ((rd_T181 l0_0 x5_2).f2) x6_3) : Int) := of_decide_eq_true (by assumption); have q138 : (rd ((rd_T181 l0_0 x5_2).f2) x6_3) < (x4_3.length : Int) := of_decide_eq_true (by assumption); obtain ⟨ad138, e138, hx138_0⟩ := Kd.at_int (Kd.R_reads' HO_4.out).2.2 (rd ((rd_T181 l0_0 x5_2).f2) x6_3) p138 q138; cases e138; replace p138 := eq_true p138; replace q138 := eq_true q138; have p24 : 0 ≤ ((rd ((rd_T181 l0_0 x5_2).f2) x6_3) : Int) := of_decide_eq_true (by assumption); have q24 : ((rd ((rd_T181 l0_0 x5_2).f2) x6_3) : Int) < ((x4_3.length : Int) : Int) := of_decide_eq_true (by assumption); obtain ⟨go24, co24, eo24, gb24, gl24, cl24, HG24⟩ := Kd.R_form HO_4.out (by omega)
                                        (first | cases eo24 | (injection eo24 with ea_ en_ ec_; (first | subst ea_ | (injection ea_ with ea_; subst ea_)); subst ec_; clear en_))
                                        have GB24 := Aside0.mk gb24; have GG24 := Aside0.mk HG24; clear gb24 gl24 HG24
                                        (first | simp only [add_plain] at hx138_0 | skip)
                                        obtain ⟨hx24_0, hf24_0⟩ := Kd.R_celln 0 HO_4.out ((rd ((rd_T181 l0_0 x5_2).f2) x6_3) : Int) p24 q24; replace p24 := eq_true p24; replace q24 := eq_true q24; have HP27 := Kd.R_putg HO_4.out ((rd ((rd_T181 l0_0 x5_2).f2) x6_3) : Int) (wrap64 ((rd x4_3 (rd ((rd_T181 l0_0 x5_2).f2) x6_3)) + 1))
                                        go_wp2_with (first | ((with_reducible refine gate_store (t := 3) (p := 58) rfl ?_); refine store_event (t := 3) (p := 58) (v := ?vo_w28) (w1 := (wr.setCell ⟨go24, ((rd ((rd_T181 l0_0 x5_2).f2) x6_3) : Int).toNat, none⟩ (.int .i64 (wrap64 ((rd x4_3 (rd ((rd_T181 l0_0 x5_2).f2) x6_3)) + 1))))) ?hg ?ho ?hn ?hr ?_; (case ho => rfl); (case hg => rfl); (case hn => rfl); (case hr => first | (go_simp; done) | (go_simp; rfl)); intro w28 hw; have hg : wr.grownBy w28 (some go24) := (by rw [hw]; exact HP27.2); have hp_ : Kd.R (Kd.int .i64) 3 w28 w.heap.size (fun _ => True) (.slice (some ⟨go24, 0, none⟩) x4_3.length co26) y139 := (by rw [hw, Ny139.out]; exact HP27.1); clear HP27; replace BK129 := Aside0.mk (blk_grown (g := gb129) (o := .cells #[.slice (some ad133) l0_0.length c0_0] 106 (0, 0)) (by (with_reducible repeat (first | refine blk_drewN ?_ _ | refine blk_drew ?_ | refine blk_alloc ?_ _)); exact BK129.out) hg (Kd.R_ne HO_4.out BK129.out (by decide))); replace HO_4 := Aside0.mk (hp_); replace HB := Aside0.mk ((by rw [hw]; exact below_set (HB.out) GB24.out : Below w.heap.size w w28)); clear hg hw hp_))
                                        go_roundg k3
                                        case measure => have := HJ1.out; have := HK2.out; have := HK3.out; omega
                                        case rel => exact ⟨(y139), (wrap64 (x6_3 + 1)), (by first | rfl | (simp; done) | (simp [*]; done)), H', ⟨by have := HJ1.out; have := HK2.out; have := HK3.out; omega⟩, ⟨by (with_reducible repeat (first | apply Kd.R_alloc | apply Kd.R_drewN | apply Kd.R_drew)); exact HO_4.out⟩, ⟨by (with_reducible repeat (first | refine blk_drewN ?_ _ | refine blk_drew ?_ | refine blk_alloc ?_ _)); exact BK129.out⟩, ⟨by repeat (first | (with_reducible first | exact HB.out | apply below_alloc | apply pw_below_drewN | apply below_drew1 | refine below_set ?_ GE129.out) | exact HB.out)⟩⟩
                                      · rw [if_neg c23] at H
                                        exact absurd H (by simp)
                                    · rw [if_neg c22] at H
                                      exact absurd H (by simp)
                                  · rw [if_neg c21] at H
                                    exact absurd H (by simp)
                                · rw [if_neg c20] at H
                                  have c20b0 : decide (x6_3 < (((rd_T181 l0_0 x5_2).f2).length : Int)) = false := decide_eq_false c20; clear c20; have H' := Aside0.mk H; clear H; have hcz29_0 : wr.cell? ⟨gb129, 0, none⟩ = some (.slice (some ad133) l0_0.length c0_0) := (blk_cell BK129.out 0).trans rfl; have hfz29_0 := blk_frozen BK129.out 0; have p135 : 0 ≤ (x5_2 : Int) := of_decide_eq_true (by assumption); have q135 : x5_2 < (l0_0.length : Int) := of_decide_eq_true (by assumption); obtain ⟨ad135, A135_1, c135_1, A135_2, c135_2, e135, hx135_0, hx135_1, hx135_2, hx135_3, hx135_4, hl135_1, hi135_1, hl135_2, hi135_2⟩ := at_T181 HR0_0.out x5_2 p135 q135; obtain rfl : ad133 = ad135 := (by injection e135); replace hx135_0 := (HB.out.cell (World.block_lt_of_cell? w _ hx135_0)).trans hx135_0; replace hx135_1 := (HB.out.cell (World.block_lt_of_cell? w _ hx135_1)).trans hx135_1; replace hx135_2 := (HB.out.cell (World.block_lt_of_cell? w _ hx135_2)).trans hx135_2; replace hx135_3 := (HB.out.cell (World.block_lt_of_cell? w _ hx135_3)).trans hx135_3; replace hx135_4 := (HB.out.cell (World.block_lt_of_cell? w _ hx135_4)).trans hx135_4; have HR135_1 := Aside0.mk hi135_1; have HC135_1 := Aside0.mk hl135_1; clear hi135_1 hl135_1; have HR135_2 := Aside0.mk hi135_2; have HC135_2 := Aside0.mk hl135_2; clear hi135_2 hl135_2; replace p135 := eq_true p135; replace q135 := eq_true q135
                                  go_wp2
                                  go_roundg k3
                                  case measure => have := HJ1.out; have := HK2.out; have := HK3.out; omega
                                  case rel => exact ⟨(x4_3), (wrap64 (x5_2 + 1)), (by first | rfl | (simp; done) | (simp [*]; done)), H', ⟨by have := HJ1.out; have := HK2.out; have := HK3.out; omega⟩, ⟨by (with_reducible repeat (first | apply Kd.R_alloc | apply Kd.R_drewN | apply Kd.R_drew)); exact HO_4.out⟩, ⟨by (with_reducible repeat (first | refine blk_drewN ?_ _ | refine blk_drew ?_ | refine blk_alloc ?_ _)); exact BK129.out⟩, ⟨by repeat (first | (with_reducible first | exact HB.out | apply below_alloc | apply pw_below_drewN | apply below_drew1 | refine below_set ?_ GE129.out) | exact HB.out)⟩⟩
                              · rw [if_neg c19] at H
                                exact absurd H (by simp)
                            · rw [if_neg c18] at H
                              exact absurd H (by simp)
                      · replace c15 := Bool.eq_false_iff.mpr c15
                        subst c15
                        have H1 : (some false) = some r := by rw [if_neg (show ¬ (false = true) by decide)] at H; exact H
                        clear H; have H := H1; clear H1; obtain rfl := Option.some.inj H; have hcz30_0 : wr.cell? ⟨gb129, 0, none⟩ = some (.slice A0_0 l0_0.length c0_0) := (blk_cell BK129.out 0).trans rfl; have hfz30_0 := blk_frozen BK129.out 0; have p133 : 0 ≤ (x5_2 : Int) := of_decide_eq_true (by assumption); have q133 : x5_2 < (l0_0.length : Int) := of_decide_eq_true (by assumption); obtain ⟨ad133, A133_1, c133_1, A133_2, c133_2, e133, hx133_0, hx133_1, hx133_2, hx133_3, hx133_4, hl133_1, hi133_1, hl133_2, hi133_2⟩ := at_T181 HR0_0.out x5_2 p133 q133; cases e133; replace hx133_0 := (HB.out.cell (World.block_lt_of_cell? w _ hx133_0)).trans hx133_0; replace hx133_1 := (HB.out.cell (World.block_lt_of_cell? w _ hx133_1)).trans hx133_1; replace hx133_2 := (HB.out.cell (World.block_lt_of_cell? w _ hx133_2)).trans hx133_2; replace hx133_3 := (HB.out.cell (World.block_lt_of_cell? w _ hx133_3)).trans hx133_3; replace hx133_4 := (HB.out.cell (World.block_lt_of_cell? w _ hx133_4)).trans hx133_4; have HR133_1 := Aside0.mk hi133_1; have HC133_1 := Aside0.mk hl133_1; clear hi133_1 hl133_1; have HR133_2 := Aside0.mk hi133_2; have HC133_2 := Aside0.mk hl133_2; clear hi133_2 hl133_2; replace p133 := eq_true p133; replace q133 := eq_true q133
                        go_wp2_with (first | ((with_reducible refine gate_callee (f := 188) rfl ?_); refine goesL_ (some 32) rfl rfl Try.func188 (by kernel_rfl) rfl #[.agg #[.int .i64 ((rd_T181 l0_0 x5_2).f0), .slice A133_1 ((rd_T181 l0_0 x5_2).f1).length c133_1, .slice A133_2 ((rd_T181 l0_0 x5_2).f2).length c133_2, .int .i64 ((rd_T181 l0_0 x5_2).f3), .int .i64 ((rd_T181 l0_0 x5_2).f4)], .int .i64 x5_2] rfl (by (try simp only [List.map_toArray, List.map_cons, List.map_nil]); first | done | rfl | (simp only [List.length_drop, List.length_take]; rfl)) ?_; (with_reducible refine (spec_l3Node.calls k2 ((rd_T181 l0_0 x5_2).f0) _ _ ((rd_T181 l0_0 x5_2).f1) _ _ ((rd_T181 l0_0 x5_2).f2) ((rd_T181 l0_0 x5_2).f3) ((rd_T181 l0_0 x5_2).f4) x5_2 false _ ?side1 ?side2 ?side3 ?side4 A14.out).mono ?_); (case side1 => repeat (first | exact (Kd.C_below HR133_1.out HB.out) | (with_reducible refine Kd.C_alloc ?_ _) | (with_reducible refine Kd.C_drewN ?_ _) | (with_reducible refine Kd.C_drew ?_))); (case side2 => exact HC133_1.out); (case side3 => repeat (first | exact (Kd.C_below HR133_2.out HB.out) | (with_reducible refine Kd.C_alloc ?_ _) | (with_reducible refine Kd.C_drewN ?_ _) | (with_reducible refine Kd.C_drew ?_))); (case side4 => exact HC133_2.out); rintro e w31 ⟨rfl, hb⟩; refine ⟨_, rfl, ?_⟩; replace HO_4 := Aside0.mk (Kd.R_below (by (with_reducible repeat (first | apply Kd.R_alloc | apply Kd.R_drewN | apply Kd.R_drew)); exact HO_4.out) hb); replace BK129 := Aside0.mk (blk_below (g := gb129) (o := .cells #[.slice (some ad133) l0_0.length c0_0] 106 (0, 0)) (by (with_reducible repeat (first | refine blk_drewN ?_ _ | refine blk_drew ?_ | refine blk_alloc ?_ _)); exact BK129.out) hb); replace HB := Aside0.mk (below_step (by repeat (first | (with_reducible first | exact HB.out | apply below_alloc | apply pw_below_drewN | apply below_drew1 | refine below_set ?_ GE129.out) | exact HB.out)) hb); (try clear hb); (try clear hb2); (try clear hk); (try clear hi)))
                        go_ret
                        exact ⟨by first | rfl | (simp [errW_none, errW_some] <;> rfl) | (simp [*, errW_none, errW_some] <;> rfl), by repeat (first | (with_reducible first | exact HB.out | apply below_alloc | apply pw_below_drewN | apply below_drew1 | refine below_set ?_ GE129.out) | exact HB.out)⟩
                    · rw [if_neg c13] at H
                      exact absurd H (by simp)
                  · rw [if_neg c12] at H
                    exact absurd H (by simp)
                · rw [if_neg c11] at H
                  have c11b0 : decide (x5_2 < (l0_0.length : Int)) = false := decide_eq_false c11; clear c11
                  by_cases c32 : 0 ≤ (l0_0.length : Int)
                  · rw [if_pos c32] at H
                    have c32b0 := eq_true c32; have c32b1 : decide (0 ≤ (l0_0.length : Int)) = true := decide_eq_true c32; clear c32
                    by_cases c33 : ((l0_0.length : Int) : Int).toNat ≤ 35184372088832
                    · rw [if_pos c33] at H
                      have c33b0 := eq_true c33; have c33b1 : decide (((l0_0.length : Int) : Int).toNat ≤ 35184372088832) = true := decide_eq_true c33; clear c33; obtain ⟨y140, hy140⟩ : ∃ y_ : List Int, y_ = (List.replicate ((l0_0.length : Int) : Int).toNat 0) := ⟨_, rfl⟩
                      replace H : (spec_RxOk.l2 k2 (l0_0.length : Int) x4_2 y140 (wrap64 ((l0_0.length : Int) - 1)) l0_0) = some r := by first | (rw [hy140]; with_reducible exact H) | (have H2_ := (Option.bind_some _ _).symm.trans H; rw [hy140]; with_reducible exact H2_) | (have H2_ := (Option.bind_some _ _).symm.trans H; with_reducible exact H2_) | with_reducible exact H | (rw [hy140]; exact H) | exact H
                      have Ny140 := Aside0.mk hy140; clear hy140; have H' := Aside0.mk H; clear H
                      go_wp2_with (first | ((with_reducible refine gate_dst (N := 60) rfl ?_); refine Kd.R_make (Kd.int .i64) _ 3 rfl (N := 60) rfl 228 _ _ rfl (l0_0.length : Int) rfl rfl Try.underlying228 (.int .i64 0) 8 info3 rfl (by decide) (by omega) 0 (ok := fun _ => True) (okp := fun _ => True) rfl (fun _ hk => hk) trivial (of_decide_eq_true (by assumption)) (Nat.le_trans (Nat.mul_le_mul_right _ (of_decide_eq_true (by assumption) : (l0_0.length : Int).toNat ≤ 35184372088832)) (by omega)) (Below.refl _ _) (Nat.le_refl _) ?_; intro v141 w34 ho35 hb hg_ hnew_; clear hg_ hnew_; (first | rw [← Ny140.out] at ho35 | (simp only [Int.reduceToNat] at ho35; rw [← Ny140.out] at ho35)); have HO142 := Aside0.mk (Kd.R_lower (Kd.R_new' ho35 (Kd.R_lt (by (with_reducible repeat (first | apply Kd.R_alloc | apply Kd.R_drewN | apply Kd.R_drew)); exact HO_4.out))) (below_size (by repeat (first | (with_reducible first | exact HB.out | apply below_alloc | apply pw_below_drewN | apply below_drew1 | refine below_set ?_ GE129.out) | exact HB.out)))); replace HO_4 := Aside0.mk (Kd.R_elder' (by (with_reducible repeat (first | apply Kd.R_alloc | apply Kd.R_drewN | apply Kd.R_drew)); exact HO_4.out) (Kd.R_base ho35) hb); replace BK129 := Aside0.mk (blk_below (g := gb129) (o := .cells #[.slice A0_0 l0_0.length c0_0] 106 (0, 0)) (by (with_reducible repeat (first | refine blk_drewN ?_ _ | refine blk_drew ?_ | refine blk_alloc ?_ _)); exact BK129.out) hb); replace HB := Aside0.mk (below_step (by repeat (first | (with_reducible first | exact HB.out | apply below_alloc | apply pw_below_drewN | apply below_drew1 | refine below_set ?_ GE129.out) | exact HB.out)) hb); clear hb ho35))
                      go_loopg [8] k2 (fun kq v8 w' => ∃ (x7_3 : List Int) (x8_3 : Int), v8 = .int .i64 x8_3 ∧ Aside0 (spec_RxOk.l2 kq (l0_0.length : Int) x4_2 x7_3 x8_3 l0_0 = some r) ∧ Aside0 (kq ≤ k2) ∧ Aside0 (Kd.R (Kd.int .i64) 3 w' w.heap.size (fun k_ => some k_ ≠ (v141 : Value).ownBlock) v131 x4_2) ∧ Aside0 (Kd.R (Kd.int .i64) 3 w' w.heap.size (fun k_ => some k_ ≠ (v131 : Value).ownBlock) v141 x7_3) ∧ Aside0 (w'.heap[gb129]? = some (.cells #[(.slice A0_0 l0_0.length c0_0)] 106 (0, 0))) ∧ Aside0 (Below w.heap.size w w'))
                      case atStart => exact ⟨(y140), (wrap64 ((l0_0.length : Int) - 1)), (by first | rfl | (simp; done) | (simp [*]; done)), H', ⟨Nat.le_refl _⟩, ⟨by (with_reducible repeat (first | apply Kd.R_alloc | apply Kd.R_drewN | apply Kd.R_drew)); exact Kd.R_mono HO_4.out (fun _ hk => hk.2)⟩, ⟨by (with_reducible repeat (first | apply Kd.R_alloc | apply Kd.R_drewN | apply Kd.R_drew)); exact Kd.R_mono HO142.out (fun _ hk => hk.2)⟩, ⟨by (with_reducible repeat (first | refine blk_drewN ?_ _ | refine blk_drew ?_ | refine blk_alloc ?_ _)); exact BK129.out⟩, ⟨by repeat (first | (with_reducible first | exact HB.out | apply below_alloc | apply pw_below_drewN | apply below_drew1 | refine below_set ?_ GE129.out) | exact HB.out)⟩⟩
                      case round =>
                        clear H'; (try clear c1); (try clear p1); (try clear q1); (try clear hx1); (try clear c2); (try clear p2); (try clear q2); (try clear hx2); (try clear hf2); (try clear c3); (try clear c5); (try clear c5b0); (try clear c5b1); (try clear c6); (try clear p6); (try clear c7); (try clear c7b0); (try clear c7b1); (try clear c8); (try clear c8b0); (try clear c8b1); (try clear c11); (try clear c11b0); (try clear c12); (try clear c12b0); (try clear c13); (try clear c13b0); (try clear p13); (try clear q13); (try clear hx13); (try clear c14); (try clear c15); (try clear c18); (try clear c18b0); (try clear c19); (try clear c19b0); (try clear c20); (try clear c20b0); (try clear c21); (try clear c21b0); (try clear c22); (try clear c22b0); (try clear c23); (try clear c23b0); (try clear p24); (try clear q24); (try clear hx24); (try clear hf24); (try clear c32); (try clear c32b0); (try clear c32b1); (try clear c33); (try clear c33b0); (try clear c33b1); (try clear hcz16_0); (try clear hcz25_0); (try clear hcz29_0); (try clear hcz30_0); (try clear hcz4_0); (try clear hfz16_0); (try clear hfz25_0); (try clear hfz29_0); (try clear hfz30_0); (try clear hfz4_0); (try clear hx133_0); (try clear hx133_1); (try clear hx133_2); (try clear hx133_3); (try clear hx133_4); (try clear hx135_0); (try clear hx135_1); (try clear hx135_2); (try clear hx135_3); (try clear hx135_4); (try clear hx136_0); (try clear hx136_1); (try clear hx136_2); (try clear hx136_3); (try clear hx136_4); (try clear hx137_0); (try clear hx138_0); (try clear hx24_0); (try clear p1); (try clear p13); (try clear p133); (try clear p135); (try clear p136); (try clear p137); (try clear p138); (try clear p2); (try clear p24); (try clear q1); (try clear q13); (try clear q133); (try clear q135); (try clear q136); (try clear q137); (try clear q138); (try clear q24); obtain ⟨x7_3, x8_3, rfl, HA, HK3, HO_4, HO_7, BK129, HB⟩ := hrel
                        cases gk with
                        | zero => exact absurd HA.out (by simp [spec_RxOk.l2])
                        | succ k3 =>
                          have H := HA.out; clear HA
                          simp only [spec_RxOk.l2] at H
                          by_cases c36 : x8_3 ≥ 0
                          · rw [if_pos c36] at H
                            have c36b0 : decide (0 ≤ x8_3) = true := decide_eq_true c36; clear c36; have HC37 := Aside0.mk H; clear H
                            go_upto_region 18 with (fail)
                            go_cut [84] (fun v84 wc => ∃ (kq : Nat) (x84_36 : Bool), v84 = .bool x84_36 ∧ Aside0 (spec_RxOk.j4 kq (l0_0.length : Int) x4_2 x7_3 x8_3 x84_36 l0_0 = some r) ∧ Aside0 (kq ≤ k3) ∧ Aside0 (Kd.R (Kd.int .i64) 3 wc w.heap.size (fun k_ => some k_ ≠ (v141 : Value).ownBlock) v131 x4_2) ∧ Aside0 (Kd.R (Kd.int .i64) 3 wc w.heap.size (fun k_ => some k_ ≠ (v131 : Value).ownBlock) v141 x7_3) ∧ Aside0 (wc.heap[gb129]? = some (.cells #[(.slice A0_0 l0_0.length c0_0)] 106 (0, 0))) ∧ Aside0 (Below w.heap.size w wc))
                            case first =>
                              have H := HC37.out; clear HC37
                              by_cases c38 : x8_3 < (wrap64 ((l0_0.length : Int) - 1))
                              · rw [if_pos c38] at H
                                have c38b0 : decide (x8_3 < (wrap64 ((l0_0.length : Int) - 1))) = true := decide_eq_true c38; clear c38
                                (first | rw [c38b0] | (simp only [i64_w, i32_w]; rw [c38b0]) | skip)
                                by_cases c39 : 0 ≤ x8_3
                                · rw [if_pos c39] at H
                                  have c39b0 : decide (0 ≤ x8_3) = true := decide_eq_true c39; clear c39
                                  by_cases c40 : x8_3 < (x4_2.length : Int)
                                  · rw [if_pos c40] at H
                                    have c40b0 : decide (x8_3 < (x4_2.length : Int)) = true := decide_eq_true c40; clear c40
                                    by_cases c41 : (rd x4_2 x8_3) = 1
                                    · rw [if_pos c41] at H
                                      have c41b0 : ((rd x4_2 x8_3) == 1) = true := beq_iff_eq.mpr c41; have c41b1 : ((rd x4_2 x8_3) != 1) = false := bne_eq_false_iff_eq.mpr c41; clear c41
                                      by_cases c42 : x8_3 < (x7_3.length : Int)
                                      · rw [if_pos c42] at H
                                        have c42b0 : decide (x8_3 < (x7_3.length : Int)) = true := decide_eq_true c42; clear c42; have H' := Aside0.mk H; clear H; obtain ⟨Ao43, co43, eo43⟩ := Kd.R_slice HO_4.out; subst eo43; have p143 : 0 ≤ (x8_3 : Int) := of_decide_eq_true (by assumption); have q143 : x8_3 < (x4_2.length : Int) := of_decide_eq_true (by assumption); obtain ⟨ad143, e143, hx143_0⟩ := Kd.at_int (Kd.R_reads' HO_4.out).2.2 x8_3 p143 q143; cases e143; replace p143 := eq_true p143; replace q143 := eq_true q143; obtain ⟨Ao44, co44, eo44⟩ := Kd.R_slice HO_7.out; subst eo44; have p144 : 0 ≤ (x8_3 : Int) := of_decide_eq_true (by assumption); have q144 : x8_3 < (x7_3.length : Int) := of_decide_eq_true (by assumption); obtain ⟨ad144, e144, hx144_0⟩ := Kd.at_int (Kd.R_reads' HO_7.out).2.2 x8_3 p144 q144; cases e144; replace p144 := eq_true p144; replace q144 := eq_true q144
                                        go_wp2
                                        go_meet
                                        case rel => exact ⟨_, (decide ((rd x7_3 x8_3) > 150)), (by first | rfl | (simp; done) | (simp [*]; done)), H', ⟨by have := HJ1.out; have := HK2.out; have := HK3.out; first | omega | exact Nat.le_refl _⟩, ⟨by (with_reducible repeat (first | apply Kd.R_alloc | apply Kd.R_drewN | apply Kd.R_drew)); exact HO_4.out⟩, ⟨by (with_reducible repeat (first | apply Kd.R_alloc | apply Kd.R_drewN | apply Kd.R_drew)); exact HO_7.out⟩, ⟨by (with_reducible repeat (first | refine blk_drewN ?_ _ | refine blk_drew ?_ | refine blk_alloc ?_ _)); exact BK129.out⟩, ⟨by repeat (first | (with_reducible first | exact HB.out | apply below_alloc | apply pw_below_drewN | apply below_drew1 | refine below_set ?_ GE129.out) | exact HB.out)⟩⟩
                                      · rw [if_neg c42] at H
                                        exact absurd H (by simp)
                                    · rw [if_neg c41] at H
                                      have c41b0 : ((rd x4_2 x8_3) == 1) = false := beq_eq_false_iff_ne.mpr c41; have c41b1 : ((rd x4_2 x8_3) != 1) = true := bne_iff_ne.mpr c41; have H' := Aside0.mk H; clear H; obtain ⟨Ao45, co45, eo45⟩ := Kd.R_slice HO_4.out; subst eo45; have p143 : 0 ≤ (x8_3 : Int) := of_decide_eq_true (by assumption); have q143 : x8_3 < (x4_2.length : Int) := of_decide_eq_true (by assumption); obtain ⟨ad143, e143, hx143_0⟩ := Kd.at_int (Kd.R_reads' HO_4.out).2.2 x8_3 p143 q143; cases e143; replace p143 := eq_true p143; replace q143 := eq_true q143
                                      go_wp2
                                      go_meet
                                      case rel => exact ⟨_, (true), (by first | rfl | (simp; done) | (simp [*]; done)), H', ⟨by have := HJ1.out; have := HK2.out; have := HK3.out; first | omega | exact Nat.le_refl _⟩, ⟨by (with_reducible repeat (first | apply Kd.R_alloc | apply Kd.R_drewN | apply Kd.R_drew)); exact HO_4.out⟩, ⟨by (with_reducible repeat (first | apply Kd.R_alloc | apply Kd.R_drewN | apply Kd.R_drew)); exact HO_7.out⟩, ⟨by (with_reducible repeat (first | refine blk_drewN ?_ _ | refine blk_drew ?_ | refine blk_alloc ?_ _)); exact BK129.out⟩, ⟨by repeat (first | (with_reducible first | exact HB.out | apply below_alloc | apply pw_below_drewN | apply below_drew1 | refine below_set ?_ GE129.out) | exact HB.out)⟩⟩
                                  · rw [if_neg c40] at H
                                    exact absurd H (by simp)
                                · rw [if_neg c39] at H
                                  exact absurd H (by simp)
                              · rw [if_neg c38] at H
                                have c38b0 : decide (x8_3 < (wrap64 ((l0_0.length : Int) - 1))) = false := decide_eq_false c38; clear c38
                                (first | rw [c38b0] | (simp only [i64_w, i32_w]; rw [c38b0]) | skip)
                                by_cases c46 : 0 ≤ x8_3
                                · rw [if_pos c46] at H
                                  have c46b0 : decide (0 ≤ x8_3) = true := decide_eq_true c46; clear c46
                                  by_cases c47 : x8_3 < (x7_3.length : Int)
                                  · rw [if_pos c47] at H
                                    have c47b0 : decide (x8_3 < (x7_3.length : Int)) = true := decide_eq_true c47; clear c47; have H' := Aside0.mk H; clear H; obtain ⟨Ao48, co48, eo48⟩ := Kd.R_slice HO_7.out; subst eo48; have p145 : 0 ≤ (x8_3 : Int) := of_decide_eq_true (by assumption); have q145 : x8_3 < (x7_3.length : Int) := of_decide_eq_true (by assumption); obtain ⟨ad145, e145, hx145_0⟩ := Kd.at_int (Kd.R_reads' HO_7.out).2.2 x8_3 p145 q145; cases e145; replace p145 := eq_true p145; replace q145 := eq_true q145
                                    go_wp2
                                    go_meet
                                    case rel => exact ⟨_, (decide ((rd x7_3 x8_3) > 150)), (by first | rfl | (simp; done) | (simp [*]; done)), H', ⟨by have := HJ1.out; have := HK2.out; have := HK3.out; first | omega | exact Nat.le_refl _⟩, ⟨by (with_reducible repeat (first | apply Kd.R_alloc | apply Kd.R_drewN | apply Kd.R_drew)); exact HO_4.out⟩, ⟨by (with_reducible repeat (first | apply Kd.R_alloc | apply Kd.R_drewN | apply Kd.R_drew)); exact HO_7.out⟩, ⟨by (with_reducible repeat (first | refine blk_drewN ?_ _ | refine blk_drew ?_ | refine blk_alloc ?_ _)); exact BK129.out⟩, ⟨by repeat (first | (with_reducible first | exact HB.out | apply below_alloc | apply pw_below_drewN | apply below_drew1 | refine below_set ?_ GE129.out) | exact HB.out)⟩⟩
                                  · rw [if_neg c47] at H
                                    exact absurd H (by simp)
                                · rw [if_neg c46] at H
                                  exact absurd H (by simp)
                            case rest =>
                              clear HC37; (try clear c1); (try clear p1); (try clear q1); (try clear hx1); (try clear c2); (try clear p2); (try clear q2); (try clear hx2); (try clear hf2); (try clear c3); (try clear c4); (try clear c5); (try clear c5b0); (try clear c5b1); (try clear c6); (try clear p6); (try clear c7); (try clear c7b0); (try clear c7b1); (try clear c8); (try clear c8b0); (try clear c8b1); (try clear c11); (try clear c11b0); (try clear c12); (try clear c12b0); (try clear c13); (try clear c13b0); (try clear p13); (try clear q13); (try clear hx13); (try clear c14); (try clear p14); (try clear q14); (try clear hx14); (try clear c15); (try clear c18); (try clear c18b0); (try clear c19); (try clear c19b0); (try clear c20); (try clear c20b0); (try clear c21); (try clear c21b0); (try clear c22); (try clear c22b0); (try clear c23); (try clear c23b0); (try clear p24); (try clear q24); (try clear hx24); (try clear hf24); (try clear c32); (try clear c32b0); (try clear c32b1); (try clear c33); (try clear c33b0); (try clear c33b1); (try clear c36); (try clear c36b0); (try clear c38); (try clear c38b0); (try clear c39); (try clear c39b0); (try clear c40); (try clear c40b0); (try clear c41); (try clear c41b0); (try clear c41b1); (try clear c42); (try clear c42b0); (try clear c46); (try clear c46b0); (try clear c47); (try clear c47b0); (try clear hcz16_0); (try clear hcz25_0); (try clear hcz29_0); (try clear hcz30_0); (try clear hcz4_0); (try clear hfz16_0); (try clear hfz25_0); (try clear hfz29_0); (try clear hfz30_0); (try clear hfz4_0); (try clear hx133_0); (try clear hx133_1); (try clear hx133_2); (try clear hx133_3); (try clear hx133_4); (try clear hx135_0); (try clear hx135_1); (try clear hx135_2); (try clear hx135_3); (try clear hx135_4); (try clear hx136_0); (try clear hx136_1); (try clear hx136_2); (try clear hx136_3); (try clear hx136_4); (try clear hx137_0); (try clear hx138_0); (try clear hx143_0); (try clear hx144_0); (try clear hx145_0); (try clear hx24_0); (try clear p1); (try clear p13); (try clear p133); (try clear p135); (try clear p136); (try clear p137); (try clear p138); (try clear p143); (try clear p144); (try clear p145); (try clear p2); (try clear p24); (try clear p6); (try clear q1); (try clear q13); (try clear q133); (try clear q135); (try clear q136); (try clear q137); (try clear q138); (try clear q143); (try clear q144); (try clear q145); (try clear q2); (try clear q24); obtain ⟨kq, x84_36, rfl, HA, HJ36, HO_4, HO_7, BK129, HB⟩ := hcut
                              cases kq with
                              | zero => exact absurd HA.out (by simp [spec_RxOk.j4])
                              | succ kj36 =>
                                have H := HA.out; clear HA
                                simp only [spec_RxOk.j4] at H
                                by_cases c49 : x84_36 = true
                                · subst c49
                                  have H1 : (some false) = some r := by rw [if_pos rfl] at H; exact H
                                  clear H; have H := H1; clear H1; obtain rfl := Option.some.inj H
                                  go_wp2
                                  go_ret
                                  exact ⟨by first | rfl | (simp [errW_none, errW_some] <;> rfl) | (simp [*, errW_none, errW_some] <;> rfl), by repeat (first | (with_reducible first | exact HB.out | apply below_alloc | apply pw_below_drewN | apply below_drew1 | refine below_set ?_ GE129.out) | exact HB.out)⟩
                                · replace c49 := Bool.eq_false_iff.mpr c49
                                  subst c49
                                  have H1 : (spec_RxOk.l3 kj36 (l0_0.length : Int) x4_2 x7_3 x8_3 0 l0_0) = some r := by rw [if_neg (show ¬ (false = true) by decide)] at H; exact H
                                  clear H; have H := H1; clear H1; have H' := Aside0.mk H; clear H
                                  go_wp2
                                  go_loopg [9] kj36 (fun kq v9 w' => ∃ (x7_5 : List Int) (x9_5 : Int), v9 = .int .i64 x9_5 ∧ Aside0 (spec_RxOk.l3 kq (l0_0.length : Int) x4_2 x7_5 x8_3 x9_5 l0_0 = some r) ∧ Aside0 (kq ≤ kj36) ∧ Aside0 (Kd.R (Kd.int .i64) 3 w' w.heap.size (fun k_ => some k_ ≠ (v141 : Value).ownBlock) v131 x4_2) ∧ Aside0 (Kd.R (Kd.int .i64) 3 w' w.heap.size (fun k_ => some k_ ≠ (v131 : Value).ownBlock) v141 x7_5) ∧ Aside0 (w'.heap[gb129]? = some (.cells #[(.slice A0_0 l0_0.length c0_0)] 106 (0, 0))) ∧ Aside0 (Below w.heap.size w w'))
                                  case atStart => exact ⟨(x7_3), (0), (by first | rfl | (simp; done) | (simp [*]; done)), H', ⟨Nat.le_refl _⟩, ⟨by (with_reducible repeat (first | apply Kd.R_alloc | apply Kd.R_drewN | apply Kd.R_drew)); exact HO_4.out⟩, ⟨by (with_reducible repeat (first | apply Kd.R_alloc | apply Kd.R_drewN | apply Kd.R_drew)); exact HO_7.out⟩, ⟨by (with_reducible repeat (first | refine blk_drewN ?_ _ | refine blk_drew ?_ | refine blk_alloc ?_ _)); exact BK129.out⟩, ⟨by repeat (first | (with_reducible first | exact HB.out | apply below_alloc | apply pw_below_drewN | apply below_drew1 | refine below_set ?_ GE129.out) | exact HB.out)⟩⟩
                                  case round =>
                                    clear H'; (try clear c1); (try clear p1); (try clear q1); (try clear hx1); (try clear c2); (try clear p2); (try clear q2); (try clear hx2); (try clear hf2); (try clear c3); (try clear c4); (try clear c5); (try clear c5b0); (try clear c5b1); (try clear c6); (try clear p6); (try clear c7); (try clear c7b0); (try clear c7b1); (try clear c8); (try clear c8b0); (try clear c8b1); (try clear c11); (try clear c11b0); (try clear c12); (try clear c12b0); (try clear c13); (try clear c13b0); (try clear p13); (try clear q13); (try clear hx13); (try clear c14); (try clear p14); (try clear q14); (try clear hx14); (try clear c15); (try clear c18); (try clear c18b0); (try clear c19); (try clear c19b0); (try clear c20); (try clear c20b0); (try clear c21); (try clear c21b0); (try clear c22); (try clear c22b0); (try clear c23); (try clear c23b0); (try clear p24); (try clear q24); (try clear hx24); (try clear hf24); (try clear c32); (try clear c32b0); (try clear c32b1); (try clear c33); (try clear c33b0); (try clear c33b1); (try clear c36); (try clear c36b0); (try clear c38); (try clear c38b0); (try clear c39); (try clear c39b0); (try clear c40); (try clear c40b0); (try clear c41); (try clear c41b0); (try clear c41b1); (try clear c42); (try clear c42b0); (try clear c46); (try clear c46b0); (try clear c47); (try clear c47b0); (try clear c49); (try clear hcz16_0); (try clear hcz25_0); (try clear hcz29_0); (try clear hcz30_0); (try clear hcz4_0); (try clear hfz16_0); (try clear hfz25_0); (try clear hfz29_0); (try clear hfz30_0); (try clear hfz4_0); (try clear hx133_0); (try clear hx133_1); (try clear hx133_2); (try clear hx133_3); (try clear hx133_4); (try clear hx135_0); (try clear hx135_1); (try clear hx135_2); (try clear hx135_3); (try clear hx135_4); (try clear hx136_0); (try clear hx136_1); (try clear hx136_2); (try clear hx136_3); (try clear hx136_4); (try clear hx137_0); (try clear hx138_0); (try clear hx143_0); (try clear hx144_0); (try clear hx145_0); (try clear hx24_0); (try clear p1); (try clear p13); (try clear p133); (try clear p135); (try clear p136); (try clear p137); (try clear p138); (try clear p14); (try clear p143); (try clear p144); (try clear p145); (try clear p2); (try clear p24); (try clear p6); (try clear q1); (try clear q13); (try clear q133); (try clear q135); (try clear q136); (try clear q137); (try clear q138); (try clear q14); (try clear q143); (try clear q144); (try clear q145); (try clear q2); (try clear q24); obtain ⟨x7_5, x9_5, rfl, HA, HK5, HO_4, HO_7, BK129, HB⟩ := hrel
                                    cases gk with
                                    | zero => exact absurd HA.out (by simp [spec_RxOk.l3])
                                    | succ k5 =>
                                      have H := HA.out; clear HA
                                      simp only [spec_RxOk.l3] at H
                                      by_cases c50 : 0 ≤ x8_3
                                      · rw [if_pos c50] at H
                                        have c50b0 : decide (0 ≤ x8_3) = true := decide_eq_true c50; clear c50
                                        by_cases c51 : x8_3 < (l0_0.length : Int)
                                        · rw [if_pos c51] at H
                                          have c51b0 : decide (x8_3 < (l0_0.length : Int)) = true := decide_eq_true c51; clear c51
                                          by_cases c52 : x9_5 < (((rd_T181 l0_0 x8_3).f2).length : Int)
                                          · rw [if_pos c52] at H
                                            have c52b0 : decide (x9_5 < (((rd_T181 l0_0 x8_3).f2).length : Int)) = true := decide_eq_true c52; clear c52
                                            by_cases c53 : 0 ≤ x9_5
                                            · rw [if_pos c53] at H
                                              have c53b0 : decide (0 ≤ x9_5) = true := decide_eq_true c53; clear c53
                                              by_cases c54 : x8_3 < (x7_5.length : Int)
                                              · rw [if_pos c54] at H
                                                have c54b0 : decide (x8_3 < (x7_5.length : Int)) = true := decide_eq_true c54; clear c54
                                                by_cases c55 : 0 ≤ (rd ((rd_T181 l0_0 x8_3).f2) x9_5)
                                                · rw [if_pos c55] at H
                                                  have c55b0 : decide (0 ≤ (rd ((rd_T181 l0_0 x8_3).f2) x9_5)) = true := decide_eq_true c55; clear c55
                                                  by_cases c56 : (rd ((rd_T181 l0_0 x8_3).f2) x9_5) < (x7_5.length : Int)
                                                  · rw [if_pos c56] at H
                                                    have c56b0 : decide ((rd ((rd_T181 l0_0 x8_3).f2) x9_5) < (x7_5.length : Int)) = true := decide_eq_true c56; clear c56; obtain ⟨y150, hy150⟩ : ∃ y_ : List Int, y_ = (x7_5.set ((rd ((rd_T181 l0_0 x8_3).f2) x9_5) : Int).toNat (wrap64 ((rd x7_5 x8_3) + 1))) := ⟨_, rfl⟩
                                                    replace H : (spec_RxOk.l3 k5 (l0_0.length : Int) x4_2 y150 x8_3 (wrap64 (x9_5 + 1)) l0_0) = some r := by first | (rw [hy150]; with_reducible exact H) | (have H2_ := (Option.bind_some _ _).symm.trans H; rw [hy150]; with_reducible exact H2_) | (have H2_ := (Option.bind_some _ _).symm.trans H; with_reducible exact H2_) | with_reducible exact H | (rw [hy150]; exact H) | exact H
                                                    have Ny150 := Aside0.mk hy150; clear hy150; have H' := Aside0.mk H; clear H; have hcz58_0 : wr.cell? ⟨gb129, 0, none⟩ = some (.slice A0_0 l0_0.length c0_0) := (blk_cell BK129.out 0).trans rfl; have hfz58_0 := blk_frozen BK129.out 0; have p146 : 0 ≤ (x8_3 : Int) := of_decide_eq_true (by assumption); have q146 : x8_3 < (l0_0.length : Int) := of_decide_eq_true (by assumption); obtain ⟨ad146, A146_1, c146_1, A146_2, c146_2, e146, hx146_0, hx146_1, hx146_2, hx146_3, hx146_4, hl146_1, hi146_1, hl146_2, hi146_2⟩ := at_T181 HR0_0.out x8_3 p146 q146; cases e146; replace hx146_0 := (HB.out.cell (World.block_lt_of_cell? w _ hx146_0)).trans hx146_0; replace hx146_1 := (HB.out.cell (World.block_lt_of_cell? w _ hx146_1)).trans hx146_1; replace hx146_2 := (HB.out.cell (World.block_lt_of_cell? w _ hx146_2)).trans hx146_2; replace hx146_3 := (HB.out.cell (World.block_lt_of_cell? w _ hx146_3)).trans hx146_3; replace hx146_4 := (HB.out.cell (World.block_lt_of_cell? w _ hx146_4)).trans hx146_4; have HR146_1 := Aside0.mk hi146_1; have HC146_1 := Aside0.mk hl146_1; clear hi146_1 hl146_1; have HR146_2 := Aside0.mk hi146_2; have HC146_2 := Aside0.mk hl146_2; clear hi146_2 hl146_2; replace p146 := eq_true p146; replace q146 := eq_true q146
                                                    try go_wp2
                                                    replace HO_4 := Aside0.mk (Kd.R_drew HO_4.out); replace HO_7 := Aside0.mk (Kd.R_drew HO_7.out); replace BK129 := Aside0.mk (blk_drew BK129.out); replace HB := Aside0.mk (below_drew1 HB.out); have p147 : 0 ≤ (x8_3 : Int) := of_decide_eq_true (by assumption); have q147 : x8_3 < (l0_0.length : Int) := of_decide_eq_true (by assumption); obtain ⟨ad147, A147_1, c147_1, A147_2, c147_2, e147, hx147_0, hx147_1, hx147_2, hx147_3, hx147_4, hl147_1, hi147_1, hl147_2, hi147_2⟩ := at_T181 HR0_0.out x8_3 p147 q147; have hw147_4 := hx147_4; have hw147_3 := hx147_3; have hw147_2 := hx147_2; have hw147_1 := hx147_1; have hw147_0 := hx147_0; obtain rfl : ad146 = ad147 := (by injection e147); replace hx147_0 := (HB.out.cell (World.block_lt_of_cell? w _ hx147_0)).trans hx147_0; replace hx147_1 := (HB.out.cell (World.block_lt_of_cell? w _ hx147_1)).trans hx147_1; replace hx147_2 := (HB.out.cell (World.block_lt_of_cell? w _ hx147_2)).trans hx147_2; replace hx147_3 := (HB.out.cell (World.block_lt_of_cell? w _ hx147_3)).trans hx147_3; replace hx147_4 := (HB.out.cell (World.block_lt_of_cell? w _ hx147_4)).trans hx147_4; have HR147_1 := Aside0.mk hi147_1; have HC147_1 := Aside0.mk hl147_1; clear hi147_1 hl147_1; have HR147_2 := Aside0.mk hi147_2; have HC147_2 := Aside0.mk hl147_2; clear hi147_2 hl147_2; replace p147 := eq_true p147; replace q147 := eq_true q147; have p148 : 0 ≤ (x9_5 : Int) := of_decide_eq_true (by assumption); have q148 : x9_5 < (((rd_T181 l0_0 x8_3).f2).length : Int) := of_decide_eq_true (by assumption); obtain ⟨ad148, e148, hx148_0⟩ := Kd.at_int HR147_2.out x9_5 p148 q148; have hw148_0 := hx148_0; cases e148; replace hx148_0 := (HB.out.cell (World.block_lt_of_cell? w _ hx148_0)).trans hx148_0; replace p148 := eq_true p148; replace q148 := eq_true q148; obtain ⟨Ao60, co60, eo60⟩ := Kd.R_slice HO_7.out
                                                    (first | subst eo60 | (injection eo60 with f1_ f2_ f3_; have f4_ := f1_.symm; have f5_ := f3_.symm; clear f1_ f2_ f3_; subst f4_; subst f5_))
                                                    have p149 : 0 ≤ (x8_3 : Int) := of_decide_eq_true (by assumption); have q149 : x8_3 < (x7_5.length : Int) := of_decide_eq_true (by assumption); obtain ⟨ad149, e149, hx149_0⟩ := Kd.at_int (Kd.R_reads' HO_7.out).2.2 x8_3 p149 q149; cases e149; replace p149 := eq_true p149; replace q149 := eq_true q149; have p57 : 0 ≤ ((rd ((rd_T181 l0_0 x8_3).f2) x9_5) : Int) := of_decide_eq_true (by assumption); have q57 : ((rd ((rd_T181 l0_0 x8_3).f2) x9_5) : Int) < ((x7_5.length : Int) : Int) := of_decide_eq_true (by assumption); obtain ⟨go57, co57, eo57, gb57, gl57, cl57, HG57⟩ := Kd.R_form HO_7.out (by omega)
                                                    (first | cases eo57 | (injection eo57 with ea_ en_ ec_; (first | subst ea_ | (injection ea_ with ea_; subst ea_)); subst ec_; clear en_))
                                                    have GB57 := Aside0.mk gb57; have GG57 := Aside0.mk HG57; clear gb57 gl57 HG57
                                                    (first | simp only [add_plain] at hx149_0 | skip)
                                                    obtain ⟨hx57_0, hf57_0⟩ := Kd.R_celln 0 HO_7.out ((rd ((rd_T181 l0_0 x8_3).f2) x9_5) : Int) p57 q57; replace p57 := eq_true p57; replace q57 := eq_true q57; have HP61 := Kd.R_putn HO_7.out ((rd ((rd_T181 l0_0 x8_3).f2) x9_5) : Int) (wrap64 ((rd x7_5 x8_3) + 1))
                                                    rw [← Ny150.out] at HP61
                                                    have HQ61 := Aside0.mk HP61; clear HP61
                                                    refine start_ (n := 17) (S := fun w' => w'.cell? ⟨gb129, 0, none⟩ = some (.slice (some ad146) l0_0.length c0_0) ∧ w'.cell? (ad146.add ((x8_3).toNat * 5)) = some (.int .i64 ((rd_T181 l0_0 x8_3).f0)) ∧ w'.cell? ⟨(ad146.add ((x8_3).toNat * 5)).block, (ad146.add ((x8_3).toNat * 5)).off + 1, none⟩ = some (.slice A147_1 ((rd_T181 l0_0 x8_3).f1).length c147_1) ∧ w'.cell? ⟨(ad146.add ((x8_3).toNat * 5)).block, (ad146.add ((x8_3).toNat * 5)).off + 2, none⟩ = some (.slice (some ad148) ((rd_T181 l0_0 x8_3).f2).length c147_2) ∧ w'.cell? ⟨(ad146.add ((x8_3).toNat * 5)).block, (ad146.add ((x8_3).toNat * 5)).off + 3, none⟩ = some (.int .i64 ((rd_T181 l0_0 x8_3).f3)) ∧ w'.cell? ⟨(ad146.add ((x8_3).toNat * 5)).block, (ad146.add ((x8_3).toNat * 5)).off + 4, none⟩ = some (.int .i64 ((rd_T181 l0_0 x8_3).f4)) ∧ w'.cell? (ad148.add (x9_5).toNat) = some (.int .i64 (rd ((rd_T181 l0_0 x8_3).f2) x9_5)) ∧ w'.cell? ⟨go57, (x8_3).toNat, none⟩ = some (.int .i64 (rd x7_5 x8_3))) (ds := [16]) #[On,On,On,On,On,On,On,On,On,On,On,On,On,On,On,On,On] (by kernel_rfl) rfl rfl ⟨(blk_cell BK129.out 0).trans rfl, ((HB.out.cell (World.block_lt_of_cell? w _ hw147_0)).trans hw147_0), ((HB.out.cell (World.block_lt_of_cell? w _ hw147_1)).trans hw147_1), ((HB.out.cell (World.block_lt_of_cell? w _ hw147_2)).trans hw147_2), ((HB.out.cell (World.block_lt_of_cell? w _ hw147_3)).trans hw147_3), ((HB.out.cell (World.block_lt_of_cell? w _ hw147_4)).trans hw147_4), ((HB.out.cell (World.block_lt_of_cell? w _ hw148_0)).trans hw148_0), hx149_0⟩ (fun hHeld => ?_); refine with_tabW spec_RxOk.tab23 spec_RxOk.bits23 (fun HT_ HW_ => ?_)
                                                    generalize wr.drew = w59 at HO_4 HO_7 BK129 HB GG57 HQ61 HR147_1 HR147_2 hf57_0 hx147_0 hx147_1 hx147_2 hx147_3 hx147_4 hx148_0 hx149_0 hx57_0 hHeld ⊢
                                                    refine pure_ (i := 0) (N := some 96) (v := ?_) (a' := ?_) #[Iy,On,On,On,On,On,On,On,On,On,On,On,On,On,On,On,On] rfl rfl (any_of HT_.out (by kernel_rfl)) (fun _ _ _ h => h) (Or.inl ⟨by rfl, ?_⟩) ?_ ?_; rotate_left; (· intro w'; go_simp; with_reducible rfl); rotate_left; (· simp only [Act.put, List.setIfInBounds_toArray, List.set_cons_zero, List.set_cons_succ, i64_w, i32_w]; rfl)
                                                    refine pure_ (i := 1) (N := some 97) (v := ?_) (a' := ?_) #[Iy,Iy,On,On,On,On,On,On,On,On,On,On,On,On,On,On,On] rfl rfl (any_of HT_.out (by kernel_rfl)) (fun _ _ _ h => h) (Or.inl ⟨by rfl, ?_⟩) ?_ ?_; rotate_left; (· intro w'; go_simp; with_reducible rfl); rotate_left; (· simp only [Act.put, List.setIfInBounds_toArray, List.set_cons_zero, List.set_cons_succ, i64_w, i32_w]; rfl)
                                                    refine pure_ (i := 3) (N := some 99) (v := ?_) (a' := ?_) #[Iy,Iy,On,Iy,On,On,On,On,On,On,On,On,On,On,On,On,On] rfl rfl (any_of HT_.out (by kernel_rfl)) (fun _ _ _ h => h) (Or.inl ⟨by rfl, ?_⟩) ?_ ?_; rotate_left; (· intro w'; go_simp; with_reducible rfl); rotate_left; (· simp only [Act.put, List.setIfInBounds_toArray, List.set_cons_zero, List.set_cons_succ, i64_w, i32_w]; rfl)
                                                    refine pure_ (i := 7) (N := some 103) (v := ?_) (a' := ?_) #[Iy,Iy,On,Iy,On,On,On,Iy,On,On,On,On,On,On,On,On,On] rfl rfl (any_of HT_.out (by kernel_rfl)) (fun _ _ _ h => h) (Or.inl ⟨by rfl, ?_⟩) ?_ ?_; rotate_left; (· intro w'; go_simp; with_reducible rfl); rotate_left; (· simp only [Act.put, List.setIfInBounds_toArray, List.set_cons_zero, List.set_cons_succ, i64_w, i32_w]; rfl)
                                                    refine pure_ (i := 10) (N := some 106) (v := ?_) (a' := ?_) #[Iy,Iy,On,Iy,On,On,On,Iy,On,On,Iy,On,On,On,On,On,On] rfl rfl (any_of HT_.out (by kernel_rfl)) (fun _ _ _ h => h) (Or.inl ⟨by rfl, ?_⟩) ?_ ?_; rotate_left; (· intro w'; go_simp; with_reducible rfl); rotate_left; (· simp only [Act.put, List.setIfInBounds_toArray, List.set_cons_zero, List.set_cons_succ, i64_w, i32_w]; rfl)
                                                    refine pure_ (i := 11) (N := some 107) (v := ?_) (a' := ?_) #[Iy,Iy,On,Iy,On,On,On,Iy,On,On,Iy,Iy,On,On,On,On,On] rfl rfl (any_of HT_.out (by kernel_rfl)) (fun _ _ _ h => h) (Or.inl ⟨by rfl, ?_⟩) ?_ ?_; rotate_left; (· intro w'; go_simp; with_reducible rfl); rotate_left; (· simp only [Act.put, List.setIfInBounds_toArray, List.set_cons_zero, List.set_cons_succ, i64_w, i32_w]; rfl)
                                                    refine pure_ (i := 12) (N := some 108) (v := ?_) (a' := ?_) #[Iy,Iy,On,Iy,On,On,On,Iy,On,On,Iy,Iy,Iy,On,On,On,On] rfl rfl (any_of HT_.out (by kernel_rfl)) (fun _ _ _ h => h) (Or.inl ⟨by rfl, ?_⟩) ?_ ?_; rotate_left; (· intro w'; go_simp; with_reducible rfl); rotate_left; (· simp only [Act.put, List.setIfInBounds_toArray, List.set_cons_zero, List.set_cons_succ, i64_w, i32_w]; rfl)
                                                    refine take_ (i := 2) (N := some 98) (v := ?_) (a' := ?_) #[Iy,Iy,Iy,Iy,On,On,On,Iy,On,On,Iy,Iy,Iy,On,On,On,On] rfl rfl (take_ofW HT_.out HW_.out (by kernel_rfl)) (fun _ _ _ h => h) (Or.inl ⟨by rfl, ?_⟩) hHeld ?_ ?_
                                                    rotate_left
                                                    · rintro w' ⟨s0, s1, s2, s3, s4, s5, s6, s7⟩
                                                      go_simp
                                                      with_reducible rfl
                                                    rotate_left
                                                    · simp only [Act.put, List.setIfInBounds_toArray, List.set_cons_zero, List.set_cons_succ, i64_w, i32_w]
                                                      rfl
                                                    refine pure_ (i := 4) (N := some 100) (v := ?_) (a' := ?_) #[Iy,Iy,Iy,Iy,Iy,On,On,Iy,On,On,Iy,Iy,Iy,On,On,On,On] rfl rfl (any_of HT_.out (by kernel_rfl)) (fun _ _ _ h => h) (Or.inl ⟨by rfl, ?_⟩) ?_ ?_; rotate_left; (· intro w'; go_simp; with_reducible rfl); rotate_left; (· simp only [Act.put, List.setIfInBounds_toArray, List.set_cons_zero, List.set_cons_succ, i64_w, i32_w]; rfl)
                                                    refine pure_ (i := 5) (N := some 101) (v := ?_) (a' := ?_) #[Iy,Iy,Iy,Iy,Iy,Iy,On,Iy,On,On,Iy,Iy,Iy,On,On,On,On] rfl rfl (any_of HT_.out (by kernel_rfl)) (fun _ _ _ h => h) (Or.inl ⟨by rfl, ?_⟩) ?_ ?_; rotate_left; (· intro w'; go_simp; with_reducible rfl); rotate_left; (· simp only [Act.put, List.setIfInBounds_toArray, List.set_cons_zero, List.set_cons_succ, i64_w, i32_w]; rfl)
                                                    refine take_ (i := 6) (N := some 102) (v := ?_) (a' := ?_) #[Iy,Iy,Iy,Iy,Iy,Iy,Iy,Iy,On,On,Iy,Iy,Iy,On,On,On,On] rfl rfl (take_ofW HT_.out HW_.out (by kernel_rfl)) (fun _ _ _ h => h) (Or.inl ⟨by rfl, ?_⟩) hHeld ?_ ?_
                                                    rotate_left
                                                    · rintro w' ⟨s0, s1, s2, s3, s4, s5, s6, s7⟩
                                                      go_simp
                                                      with_reducible rfl
                                                    rotate_left
                                                    · simp only [Act.put, List.setIfInBounds_toArray, List.set_cons_zero, List.set_cons_succ, i64_w, i32_w]
                                                      rfl
                                                    refine pure_ (i := 8) (N := some 104) (v := ?_) (a' := ?_) #[Iy,Iy,Iy,Iy,Iy,Iy,Iy,Iy,Iy,On,Iy,Iy,Iy,On,On,On,On] rfl rfl (any_of HT_.out (by kernel_rfl)) (fun _ _ _ h => h) (Or.inl ⟨by rfl, ?_⟩) ?_ ?_; rotate_left; (· intro w'; go_simp; with_reducible rfl); rotate_left; (· simp only [Act.put, List.setIfInBounds_toArray, List.set_cons_zero, List.set_cons_succ, i64_w, i32_w]; rfl)
                                                    refine take_ (i := 9) (N := some 105) (v := ?_) (a' := ?_) #[Iy,Iy,Iy,Iy,Iy,Iy,Iy,Iy,Iy,Iy,Iy,Iy,Iy,On,On,On,On] rfl rfl (take_ofW HT_.out HW_.out (by kernel_rfl)) (fun _ _ _ h => h) (Or.inl ⟨by rfl, ?_⟩) hHeld ?_ ?_
                                                    rotate_left
                                                    · rintro w' ⟨s0, s1, s2, s3, s4, s5, s6, s7⟩
                                                      go_simp
                                                      with_reducible rfl
                                                    rotate_left
                                                    · simp only [Act.put, List.setIfInBounds_toArray, List.set_cons_zero, List.set_cons_succ, i64_w, i32_w]
                                                      rfl
                                                    refine take_ (i := 13) (N := some 109) (v := ?_) (a' := ?_) #[Iy,Iy,Iy,Iy,Iy,Iy,Iy,Iy,Iy,Iy,Iy,Iy,Iy,Iy,On,On,On] rfl rfl (take_ofW HT_.out HW_.out (by kernel_rfl)) (fun _ _ _ h => h) (Or.inl ⟨by rfl, ?_⟩) hHeld ?_ ?_
                                                    rotate_left
                                                    · rintro w' ⟨s0, s1, s2, s3, s4, s5, s6, s7⟩
                                                      go_simp
                                                      with_reducible rfl
                                                    rotate_left
                                                    · simp only [Act.put, List.setIfInBounds_toArray, List.set_cons_zero, List.set_cons_succ, i64_w, i32_w]
                                                      rfl
                                                    refine pure_ (i := 14) (N := some 110) (v := ?_) (a' := ?_) #[Iy,Iy,Iy,Iy,Iy,Iy,Iy,Iy,Iy,Iy,Iy,Iy,Iy,Iy,Iy,On,On] rfl rfl (any_of HT_.out (by kernel_rfl)) (fun _ _ _ h => h) (Or.inl ⟨by rfl, ?_⟩) ?_ ?_; rotate_left; (· intro w'; go_simp; with_reducible rfl); rotate_left; (· simp only [Act.put, List.setIfInBounds_toArray, List.set_cons_zero, List.set_cons_succ, i64_w, i32_w]; rfl)
                                                    refine pure_ (i := 15) (N := some 111) (v := ?_) (a' := ?_) #[Iy,Iy,Iy,Iy,Iy,Iy,Iy,Iy,Iy,Iy,Iy,Iy,Iy,Iy,Iy,Iy,On] rfl rfl (any_of HT_.out (by kernel_rfl)) (fun _ _ _ h => h) (Or.inl ⟨by rfl, ?_⟩) ?_ ?_; rotate_left; (· intro w'; go_simp; with_reducible rfl); rotate_left; (· simp only [Act.put, List.setIfInBounds_toArray, List.set_cons_zero, List.set_cons_succ, i64_w, i32_w]; rfl)
                                                    refine last_ (i := 16) (N := none) #[Iy,Iy,Iy,Iy,Iy,Iy,Iy,Iy,Iy,Iy,Iy,Iy,Iy,Iy,Iy,Iy,Iy] rfl rfl (one_of HT_.out (by kernel_rfl)) (by decide) (fun K hK => ?_)
                                                    refine skip_ (w1 := ?_) (by rfl) rfl ?_ ?_
                                                    rotate_left
                                                    · go_simp
                                                      rfl
                                                    refine hK.out _ _ ?_
                                                    clear hK K
                                                    refine done_ (done_of HT_.out (by kernel_rfl)) ?_
                                                    try go_wp2
                                                    go_roundg k5
                                                    case measure => have := HJ1.out; have := HK2.out; have := HK3.out; have := HJ36.out; have := HK5.out; omega
                                                    case rel => exact ⟨(y150), (wrap64 (x9_5 + 1)), (by first | rfl | (simp; done) | (simp [*]; done)), H', ⟨by have := HJ1.out; have := HK2.out; have := HK3.out; have := HJ36.out; have := HK5.out; omega⟩, ⟨by (with_reducible repeat (first | apply Kd.R_alloc | apply Kd.R_drewN | apply Kd.R_drew)); exact Kd.R_mono (Kd.R_far (p := ⟨go57, ((rd ((rd_T181 l0_0 x8_3).f2) x9_5) : Int).toNat, none⟩) (Kd.R_mono HO_4.out (fun k_ hk => (⟨hk, fun e_ => hk (by rw [e_]; rfl)⟩ : _ ∧ k_ ≠ go57))) (fun _ hk => hk.2) (.int .i64 (wrap64 ((rd x7_5 x8_3) + 1)))) (fun _ hk => hk.1)⟩, ⟨by (with_reducible repeat (first | apply Kd.R_alloc | apply Kd.R_drewN | apply Kd.R_drew)); exact HQ61.out⟩, ⟨by (with_reducible repeat (first | refine blk_drewN ?_ _ | refine blk_drew ?_ | refine blk_alloc ?_ _)); refine blk_far ?_ (by have h_ := Kd.R_ne HO_7.out BK129.out (by decide); intro e_; exact h_ (by rw [e_]; rfl)) _; (with_reducible repeat (first | refine blk_drewN ?_ _ | refine blk_drew ?_ | refine blk_alloc ?_ _)); exact BK129.out⟩, ⟨by repeat (first | (with_reducible first | exact HB.out | apply below_alloc | apply pw_below_drewN | apply below_drew1 | refine below_set ?_ GB57.out | refine below_set ?_ GE129.out) | exact HB.out)⟩⟩
                                                  · rw [if_neg c56] at H
                                                    exact absurd H (by simp)
                                                · rw [if_neg c55] at H
                                                  exact absurd H (by simp)
                                              · rw [if_neg c54] at H
                                                exact absurd H (by simp)
                                            · rw [if_neg c53] at H
                                              exact absurd H (by simp)
                                          · rw [if_neg c52] at H
                                            have c52b0 : decide (x9_5 < (((rd_T181 l0_0 x8_3).f2).length : Int)) = false := decide_eq_false c52; clear c52; have H' := Aside0.mk H; clear H; have hcz62_0 : wr.cell? ⟨gb129, 0, none⟩ = some (.slice A0_0 l0_0.length c0_0) := (blk_cell BK129.out 0).trans rfl; have hfz62_0 := blk_frozen BK129.out 0; have p146 : 0 ≤ (x8_3 : Int) := of_decide_eq_true (by assumption); have q146 : x8_3 < (l0_0.length : Int) := of_decide_eq_true (by assumption); obtain ⟨ad146, A146_1, c146_1, A146_2, c146_2, e146, hx146_0, hx146_1, hx146_2, hx146_3, hx146_4, hl146_1, hi146_1, hl146_2, hi146_2⟩ := at_T181 HR0_0.out x8_3 p146 q146; cases e146; replace hx146_0 := (HB.out.cell (World.block_lt_of_cell? w _ hx146_0)).trans hx146_0; replace hx146_1 := (HB.out.cell (World.block_lt_of_cell? w _ hx146_1)).trans hx146_1; replace hx146_2 := (HB.out.cell (World.block_lt_of_cell? w _ hx146_2)).trans hx146_2; replace hx146_3 := (HB.out.cell (World.block_lt_of_cell? w _ hx146_3)).trans hx146_3; replace hx146_4 := (HB.out.cell (World.block_lt_of_cell? w _ hx146_4)).trans hx146_4; have HR146_1 := Aside0.mk hi146_1; have HC146_1 := Aside0.mk hl146_1; clear hi146_1 hl146_1; have HR146_2 := Aside0.mk hi146_2; have HC146_2 := Aside0.mk hl146_2; clear hi146_2 hl146_2; replace p146 := eq_true p146; replace q146 := eq_true q146
                                            go_wp2
                                            go_roundg k5
                                            case measure => have := HJ1.out; have := HK2.out; have := HK3.out; have := HJ36.out; have := HK5.out; omega
                                            case rel => exact ⟨(x7_5), (wrap64 (x8_3 - 1)), (by first | rfl | (simp; done) | (simp [*]; done)), H', ⟨by have := HJ1.out; have := HK2.out; have := HK3.out; have := HJ36.out; have := HK5.out; omega⟩, ⟨by (with_reducible repeat (first | apply Kd.R_alloc | apply Kd.R_drewN | apply Kd.R_drew)); exact HO_4.out⟩, ⟨by (with_reducible repeat (first | apply Kd.R_alloc | apply Kd.R_drewN | apply Kd.R_drew)); exact HO_7.out⟩, ⟨by (with_reducible repeat (first | refine blk_drewN ?_ _ | refine blk_drew ?_ | refine blk_alloc ?_ _)); exact BK129.out⟩, ⟨by repeat (first | (with_reducible first | exact HB.out | apply below_alloc | apply pw_below_drewN | apply below_drew1 | refine below_set ?_ GE129.out) | exact HB.out)⟩⟩
                                        · rw [if_neg c51] at H
                                          exact absurd H (by simp)
                                      · rw [if_neg c50] at H
                                        exact absurd H (by simp)
                          · rw [if_neg c36] at H
                            have c36b0 : decide (0 ≤ x8_3) = false := decide_eq_false c36; clear c36; obtain rfl := Option.some.inj H
                            go_wp2
                            go_ret
                            exact ⟨by first | rfl | (simp [errW_none, errW_some] <;> rfl) | (simp [*, errW_none, errW_some] <;> rfl), by repeat (first | (with_reducible first | exact HB.out | apply below_alloc | apply pw_below_drewN | apply below_drew1 | refine below_set ?_ GE129.out) | exact HB.out)⟩
                    · rw [if_neg c33] at H
                      exact absurd H (by simp)
                  · rw [if_neg c32] at H
                    exact absurd H (by simp)
          · rw [if_neg c8] at H
            exact absurd H (by simp)
        · rw [if_neg c7] at H
          exact absurd H (by simp)

end Go.Proofs.Ytbijmhooamjgoaa.PFnExactFolded
