-- Written by this session's own program (wip/pr.py) over the kit's printer; contracts that the printer does not know are given by hand.
import Derived.Test.YtfajfjgkkgigoaaPFnDeadx0
import Derived.Test.YtfajfjgkkgigoaaPFnDeadx1
import Derived.Test.YtfajfjgkkgigoaaPFnDeadx5
namespace Go.Proofs.Ytfajfjgkkgigoaa.PFnDead
open Go.RowKit Go.Proofs.YtfajfjgkkgigoaaW.PrintWords Go.Proofs.YtfajfjgkkgigoaaW.PrintLast Go.Proofs.YtfajfjgkkgigoaaW.PrintMore
attribute [local go_sem] max2_int min2_int max_two min_two max_three min_three max_four min_four   -- for this text's walks alone
set_option linter.unusedVariables false
set_option linter.unusedSimpArgs false

/-! ### spec_l6Step: function 57 -/
mutual
def spec_l6Step.l0 : Nat → List Bool → Int → List Bool → Int → Int → List (S85) → List (S156) → Option (List Bool)
 | 0, _, _, _, _, _, _, _ => none
 | k + 1, x1, x2, x7, x8, x193000, x193001, x193002 => if x8 < (x193001.length : Int) then (if 0 ≤ x8 then (if 0 ≤ ((rd_T85 x193001 x8).f0) then (if ((rd_T85 x193001 x8).f0) < (x1.length : Int) then (if (rdOf false x1 ((rd_T85 x193001 x8).f0) = true) then (spec_l6Step.l1 k x1 x2 x7 x8 0 x193000 x193001 x193002 ((rd_T85 x193001 x8).f0) ((rd_T85 x193001 x8).f1) ((rd_T85 x193001 x8).f2)) else (spec_l6Step.l0 k x1 x2 x7 (wrap64 (x8 + 1)) x193000 x193001 x193002)) else (none)) else (none)) else (none)) else ((spec_l6Close.f k x193000 x193001 x193002 x7).bind fun t196 => (some t196))
def spec_l6Step.l1 : Nat → List Bool → Int → List Bool → Int → Int → Int → List (S85) → List (S156) → Int → Int → List (S160) → Option (List Bool)
 | 0, _, _, _, _, _, _, _, _, _, _, _ => none
 | k + 1, x1, x2, x7, x8, x10, x193000, x193001, x193002, x201000, x201001, x201002 => if x10 < (x201002.length : Int) then (if 0 ≤ x10 then ((spec_l1In.f (wrap64 (x2)) ((rd_T160 x201002 x10).f0) ((rd_T160 x201002 x10).f1)).bind fun t204 => (if t204 = true then (if 0 ≤ x201001 then (if x201001 < (x7.length : Int) then (spec_l6Step.l1 k x1 x2 (x7.set (x201001 : Int).toNat true) x8 (wrap64 (x10 + 1)) x193000 x193001 x193002 x201000 x201001 x201002) else (none)) else (none)) else (spec_l6Step.l1 k x1 x2 x7 x8 (wrap64 (x10 + 1)) x193000 x193001 x193002 x201000 x201001 x201002))) else (none)) else (spec_l6Step.l0 k x1 x2 x7 (wrap64 (x8 + 1)) x193000 x193001 x193002)
end
def spec_l6Step.f (k : Nat) (a0_0 : Int) (l0_1 : List (S85)) (l0_2 : List (S156)) (l1 : List Bool) (a2 : Int) : Option (List Bool) := if 0 ≤ a0_0 then (if (a0_0 : Int).toNat ≤ 281474976710656 then (spec_l6Step.l0 k l1 a2 (List.replicate (a0_0 : Int).toNat false) 0 a0_0 l0_1 l0_2) else (none)) else (none)
theorem spec_l6Step.mono_l : ∀ k, (∀ y0 y1 y2 y3 y4 y5 y6, LeO (spec_l6Step.l0 k y0 y1 y2 y3 y4 y5 y6) (spec_l6Step.l0 (k + 1) y0 y1 y2 y3 y4 y5 y6)) ∧ (∀ y0 y1 y2 y3 y4 y5 y6 y7 y8 y9 y10, LeO (spec_l6Step.l1 k y0 y1 y2 y3 y4 y5 y6 y7 y8 y9 y10) (spec_l6Step.l1 (k + 1) y0 y1 y2 y3 y4 y5 y6 y7 y8 y9 y10))
 | 0 => ⟨fun _ _ _ _ _ _ _ r h => by simp [spec_l6Step.l0] at h, fun _ _ _ _ _ _ _ _ _ _ _ r h => by simp [spec_l6Step.l1] at h⟩
 | k + 1 => by
  obtain ⟨ih0, ih1⟩ := spec_l6Step.mono_l k
  refine ⟨?_, ?_⟩
  ·intro y0 y1 y2 y3 y4 y5 y6
   unfold spec_l6Step.l0
   repeat' first
   | (with_reducible exact LeO.refl _)
   | exact ih0 _ _ _ _ _ _ _
   | exact ih1 _ _ _ _ _ _ _ _ _ _ _
   | exact spec_l6Close.mono _ _ _ _ _
   | exact LeO.none _
   | refine LeO.ite ?_ ?_
   | refine LeO.bind ?_ (fun _ => ?_)
  ·intro y0 y1 y2 y3 y4 y5 y6 y7 y8 y9 y10
   unfold spec_l6Step.l1
   repeat' first
   | (with_reducible exact LeO.refl _)
   | exact ih0 _ _ _ _ _ _ _
   | exact ih1 _ _ _ _ _ _ _ _ _ _ _
   | exact spec_l6Close.mono _ _ _ _ _
   | exact LeO.none _
   | refine LeO.ite ?_ ?_
   | refine LeO.bind ?_ (fun _ => ?_)
theorem spec_l6Step.mono : ∀ a0 a1 a2 a3 a4 k, LeO (spec_l6Step.f k a0 a1 a2 a3 a4) (spec_l6Step.f (k + 1) a0 a1 a2 a3 a4) := by
 intro a0 a1 a2 a3 a4 k
 obtain ⟨ih0, ih1⟩ := spec_l6Step.mono_l k
 unfold spec_l6Step.f
 repeat' first
   | (with_reducible exact LeO.refl _)
   | exact ih0 _ _ _ _ _ _ _
   | exact ih1 _ _ _ _ _ _ _ _ _ _ _
   | exact spec_l6Close.mono _ _ _ _ _
   | exact LeO.none _
   | refine LeO.ite ?_ ?_
   | refine LeO.bind ?_ (fun _ => ?_)
set_option maxHeartbeats 8000000 in
set_option maxRecDepth 100000 in
theorem spec_l6Step.calls (k : Nat) (a0_0 : Int) (A0_1 : Option Addr) (c0_1 : Nat) (l0_1 : List (S85)) (A0_2 : Option Addr) (c0_2 : Nat) (l0_2 : List (S156)) (A1 : Option Addr) (c1 : Nat) (l1 : List Bool) (a2 : Int) (r : List Bool) (w : World) (hr0_1 : Kd.C k85 w A0_1 l0_1.length l0_1) (hc0_1 : l0_1.length ≤ c0_1) (hr0_2 : Kd.C k156 w A0_2 l0_2.length l0_2) (hc0_2 : l0_2.length ≤ c0_2) (hr1 : Kd.C Kd.bool w A1 l1.length l1) (hc1 : l1.length ≤ c1) (h : spec_l6Step.f k a0_0 l0_1 l0_2 l1 a2 = some r) :
  Calls Try.prog 57 #[.agg #[.int .i64 a0_0, .slice A0_1 l0_1.length c0_1, .slice A0_2 l0_2.length c0_2], .slice A1 l1.length c1, .int .u8 a2] w fun e w' => ∃ v0_ : Value, e = .returned (v0_) ∧ Kd.R Kd.bool 4 w' w.heap.size (fun _ => True) v0_ r ∧ Below w.heap.size w w' := by
 have hu36 := Try.underlying36
 have hu85 := Try.underlying85
 have HR0_1 := Aside0.mk hr0_1
 have HC0_1 := Aside0.mk hc0_1
 clear hr0_1 hc0_1
 have HR0_2 := Aside0.mk hr0_2
 have HC0_2 := Aside0.mk hc0_2
 clear hr0_2 hc0_2
 have HR1 := Aside0.mk hr1
 have HC1 := Aside0.mk hc1
 clear hr1 hc1
 have HB := Aside0.mk (Below.refl w.heap.size w)
 have H : (if 0 ≤ a0_0 then (if (a0_0 : Int).toNat ≤ 281474976710656 then (spec_l6Step.l0 k l1 a2 (List.replicate (a0_0 : Int).toNat false) 0 a0_0 l0_1 l0_2) else (none)) else (none)) = some r := h
 clear h
 by_cases c4 : 0 ≤ a0_0
 ·rw [if_pos c4] at H
  have c4b0 := eq_true c4; have c4b1 : decide (0 ≤ a0_0) = true := decide_eq_true c4; clear c4
  by_cases c5 : (a0_0 : Int).toNat ≤ 281474976710656
  ·rw [if_pos c5] at H
   have c5b0 := eq_true c5; have c5b1 : decide ((a0_0 : Int).toNat ≤ 281474976710656) = true := decide_eq_true c5; clear c5; obtain ⟨y193, hy193⟩ : ∃ y_ : List Bool, y_ = (List.replicate (a0_0 : Int).toNat false) := ⟨_, rfl⟩
   replace H : (spec_l6Step.l0 k l1 a2 y193 0 a0_0 l0_1 l0_2) = some r := by first | (rw [hy193]; with_reducible exact H) | (have H2_ := (Option.bind_some _ _).symm.trans H; rw [hy193]; with_reducible exact H2_) | (have H2_ := (Option.bind_some _ _).symm.trans H; with_reducible exact H2_) | with_reducible exact H | (rw [hy193]; exact H) | exact H
   have Ny193 := Aside0.mk hy193; clear hy193; have H' := Aside0.mk H; clear H
   go_enter Try.func57, Try.ntmps57
   go_wp2_with (first | ((with_reducible refine gate_dst (N := 3) rfl ?_); refine box_event ?hg (N := 3) ?hd (cs := #[.int .i64 a0_0, .slice A0_1 l0_1.length c0_1, .slice A0_2 l0_2.length c0_2]) (t := 36) ?hr ?_; (case hd => rfl); (case hg => rfl); (case hr => first | (go_simp; done) | (go_simp; rfl)); intro gb192 hg w6 hbox hb; have BK192 := Aside0.mk (hbox); have GW192 := Aside0.mk ((by rw [hg]; exact (below_size (by repeat (first | (with_reducible first | exact HB.out | apply below_alloc | apply pw_below_drewN | apply below_drew1) | exact HB.out))) : w.heap.size ≤ gb192)); have GE192 := Aside0.mk ((by rw [hg]; exact (below_size (by repeat (first | (with_reducible first | exact HB.out | apply below_alloc | apply pw_below_drewN | apply below_drew1) | exact HB.out))) : w.heap.size ≤ gb192)); replace HB := Aside0.mk (below_step (by repeat (first | (with_reducible first | exact HB.out | apply below_alloc | apply pw_below_drewN | apply below_drew1) | exact HB.out)) hb); clear hb hbox hg; have hcz7_0 : w6.cell? ⟨gb192, 0, none⟩ = some (.int .i64 a0_0) := (blk_cell BK192.out 0).trans rfl; have hcz7_1 : w6.cell? ⟨gb192, 1, none⟩ = some (.slice A0_1 l0_1.length c0_1) := (blk_cell BK192.out 1).trans rfl; have hcz7_2 : w6.cell? ⟨gb192, 2, none⟩ = some (.slice A0_2 l0_2.length c0_2) := (blk_cell BK192.out 2).trans rfl; have hfz7_0 := blk_frozen BK192.out 0; have hfz7_1 := blk_frozen BK192.out 1; have hfz7_2 := blk_frozen BK192.out 2) | ((with_reducible refine gate_dst (N := 13) rfl ?_); refine Kd.R_make Kd.bool _ 4 rfl (N := 13) rfl 88 _ _ rfl a0_0 rfl rfl Try.underlying88 (.bool false) 1 info4 rfl (by decide) (by omega) false (ok := fun _ => True) (okp := fun _ => True) rfl (fun _ hk => hk) trivial (of_decide_eq_true (by assumption)) (Nat.le_trans (Nat.mul_le_mul_right _ (of_decide_eq_true (by assumption) : a0_0.toNat ≤ 281474976710656)) (by omega)) (Below.refl _ _) (Nat.le_refl _) ?_; intro v194 w8 ho9 hb hg_ hnew_; clear hg_ hnew_; (first | rw [← Ny193.out] at ho9 | (simp only [Int.reduceToNat] at ho9; rw [← Ny193.out] at ho9)); have HO195 := Aside0.mk (Kd.R_lower ho9 (below_size (by repeat (first | (with_reducible first | exact HB.out | apply below_alloc | apply pw_below_drewN | apply below_drew1 | refine below_set ?_ GE192.out) | exact HB.out)))); replace BK192 := Aside0.mk (blk_below (g := gb192) (o := .cells #[.int .i64 a0_0, .slice A0_1 l0_1.length c0_1, .slice A0_2 l0_2.length c0_2] 36 (0, 0)) (by (with_reducible repeat (first | refine blk_drewN ?_ _ | refine blk_drew ?_ | refine blk_alloc ?_ _)); exact BK192.out) hb); replace HB := Aside0.mk (below_step (by repeat (first | (with_reducible first | exact HB.out | apply below_alloc | apply pw_below_drewN | apply below_drew1 | refine below_set ?_ GE192.out) | exact HB.out)) hb); clear hb ho9))
   go_loopg [8] k (fun kq v8 w' => ∃ (x7_1 : List Bool) (x8_1 : Int), v8 = .int .i64 x8_1 ∧ Aside0 (spec_l6Step.l0 kq l1 a2 x7_1 x8_1 a0_0 l0_1 l0_2 = some r) ∧ Aside0 (kq ≤ k) ∧ Aside0 (Kd.R Kd.bool 4 w' w.heap.size (fun _ => True) v194 x7_1) ∧ Aside0 (w'.heap[gb192]? = some (.cells #[.int .i64 a0_0, (.slice A0_1 l0_1.length c0_1), (.slice A0_2 l0_2.length c0_2)] 36 (0, 0))) ∧ Aside0 (Below w.heap.size w w'))
   case atStart => exact ⟨(y193), (0), (by first | rfl | (simp; done) | (simp [*]; done)), H', ⟨Nat.le_refl _⟩, ⟨by (with_reducible repeat (first | apply Kd.R_alloc | apply Kd.R_drewN | apply Kd.R_drew)); exact HO195.out⟩, ⟨by (with_reducible repeat (first | refine blk_drewN ?_ _ | refine blk_drew ?_ | refine blk_alloc ?_ _)); exact BK192.out⟩, ⟨by repeat (first | (with_reducible first | exact HB.out | apply below_alloc | apply pw_below_drewN | apply below_drew1 | refine below_set ?_ GE192.out) | exact HB.out)⟩⟩
   case round =>
    clear H'; (try clear c1); (try clear p2); (try clear c4); (try clear c4b0); (try clear c4b1); (try clear c5); (try clear c5b0); (try clear c5b1); (try clear hcz7_0); (try clear hcz7_1); (try clear hcz7_2); (try clear hfz7_0); (try clear hfz7_1); (try clear hfz7_2); obtain ⟨x7_1, x8_1, rfl, HA, HK1, HO_7, BK192, HB⟩ := hrel
    cases gk with
    | zero => exact absurd HA.out (by simp [spec_l6Step.l0])
    | succ k1 =>
     have H := HA.out; clear HA
     simp only [spec_l6Step.l0] at H
     by_cases c10 : x8_1 < (l0_1.length : Int)
     ·rw [if_pos c10] at H
      have c10b0 : decide (x8_1 < (l0_1.length : Int)) = true := decide_eq_true c10; clear c10
      by_cases c11 : 0 ≤ x8_1
      ·rw [if_pos c11] at H
       have c11b0 : decide (0 ≤ x8_1) = true := decide_eq_true c11; clear c11
       by_cases c12 : 0 ≤ ((rd_T85 l0_1 x8_1).f0)
       ·rw [if_pos c12] at H
        have c12b0 : decide (0 ≤ ((rd_T85 l0_1 x8_1).f0)) = true := decide_eq_true c12; clear c12
        by_cases c13 : ((rd_T85 l0_1 x8_1).f0) < (l1.length : Int)
        ·rw [if_pos c13] at H
         have c13b0 : decide (((rd_T85 l0_1 x8_1).f0) < (l1.length : Int)) = true := decide_eq_true c13; clear c13; obtain ⟨bq14, hbq14⟩ : ∃ b_ : Bool, b_ = (rdOf false l1 ((rd_T85 l0_1 x8_1).f0)) := ⟨_, rfl⟩
         replace H : (if (bq14 = true) then (spec_l6Step.l1 k1 l1 a2 x7_1 x8_1 0 a0_0 l0_1 l0_2 ((rd_T85 l0_1 x8_1).f0) ((rd_T85 l0_1 x8_1).f1) ((rd_T85 l0_1 x8_1).f2)) else (spec_l6Step.l0 k1 l1 a2 x7_1 (wrap64 (x8_1 + 1)) a0_0 l0_1 l0_2)) = some r := by rw [← hbq14] at H; exact H
         have Nbq14 := Aside0.mk hbq14; clear hbq14
         by_cases c15 : (bq14 = true)
         ·subst c15
          have H1 : (spec_l6Step.l1 k1 l1 a2 x7_1 x8_1 0 a0_0 l0_1 l0_2 ((rd_T85 l0_1 x8_1).f0) ((rd_T85 l0_1 x8_1).f1) ((rd_T85 l0_1 x8_1).f2)) = some r := by rw [if_pos rfl] at H; exact H
          clear H; have H := H1; clear H1; have H' := Aside0.mk H; clear H; have hcz16_0 : wr.cell? ⟨gb192, 0, none⟩ = some (.int .i64 a0_0) := (blk_cell BK192.out 0).trans rfl; have hcz16_1 : wr.cell? ⟨gb192, 1, none⟩ = some (.slice A0_1 l0_1.length c0_1) := (blk_cell BK192.out 1).trans rfl; have hcz16_2 : wr.cell? ⟨gb192, 2, none⟩ = some (.slice A0_2 l0_2.length c0_2) := (blk_cell BK192.out 2).trans rfl; have hfz16_0 := blk_frozen BK192.out 0; have hfz16_1 := blk_frozen BK192.out 1; have hfz16_2 := blk_frozen BK192.out 2; have p199 : 0 ≤ (x8_1 : Int) := of_decide_eq_true (by assumption); have q199 : x8_1 < (l0_1.length : Int) := of_decide_eq_true (by assumption); obtain ⟨ad199, A199_2, c199_2, e199, hx199_0, hx199_1, hx199_2, hl199_2, hi199_2⟩ := at_T85 HR0_1.out x8_1 p199 q199; cases e199; replace hx199_0 := (HB.out.cell (World.block_lt_of_cell? w _ hx199_0)).trans hx199_0; replace hx199_1 := (HB.out.cell (World.block_lt_of_cell? w _ hx199_1)).trans hx199_1; replace hx199_2 := (HB.out.cell (World.block_lt_of_cell? w _ hx199_2)).trans hx199_2; have HR199_2 := Aside0.mk hi199_2; have HC199_2 := Aside0.mk hl199_2; clear hi199_2 hl199_2; replace p199 := eq_true p199; replace q199 := eq_true q199
          go_wp2_with (first | ((with_reducible refine gate_dst (N := 9) rfl ?_); refine box_event ?hg (N := 9) ?hd (cs := #[.int .i64 0, .int .i64 0, .slice none 0 0]) (t := 85) ?hr ?_; (case hd => rfl); (case hg => rfl); (case hr => first | (go_simp; done) | (go_simp; rfl)); intro gb200 hg w17 hbox hb; replace HO_7 := Aside0.mk (Kd.R_below (by (with_reducible repeat (first | apply Kd.R_alloc | apply Kd.R_drewN | apply Kd.R_drew)); exact HO_7.out) hb); have BK200 := Aside0.mk (hbox); have GW200 := Aside0.mk ((by rw [hg]; exact (below_size (by repeat (first | (with_reducible first | exact HB.out | apply below_alloc | apply pw_below_drewN | apply below_drew1 | refine below_set ?_ GE192.out) | exact HB.out))) : w.heap.size ≤ gb200)); have GE200 := Aside0.mk ((by rw [hg]; exact (below_size (by repeat (first | (with_reducible first | exact HB.out | apply below_alloc | apply pw_below_drewN | apply below_drew1 | refine below_set ?_ GE192.out) | exact HB.out))) : w.heap.size ≤ gb200)); replace HB := Aside0.mk (below_step (by repeat (first | (with_reducible first | exact HB.out | apply below_alloc | apply pw_below_drewN | apply below_drew1 | refine below_set ?_ GE192.out) | exact HB.out)) hb); have NB192_200 := Aside0.mk ((by rw [hg]; exact Nat.ne_of_lt (blk_lt (g := gb192) (o := .cells #[.int .i64 a0_0, .slice (some ad199) l0_1.length c0_1, .slice A0_2 l0_2.length c0_2] 36 (0, 0)) (by (with_reducible repeat (first | refine blk_drewN ?_ _ | refine blk_drew ?_ | refine blk_alloc ?_ _)); exact BK192.out)) : gb192 ≠ gb200)); have NB200_192 := Aside0.mk ((by rw [hg]; exact Nat.ne_of_gt (blk_lt (g := gb192) (o := .cells #[.int .i64 a0_0, .slice (some ad199) l0_1.length c0_1, .slice A0_2 l0_2.length c0_2] 36 (0, 0)) (by (with_reducible repeat (first | refine blk_drewN ?_ _ | refine blk_drew ?_ | refine blk_alloc ?_ _)); exact BK192.out)) : gb200 ≠ gb192)); replace BK192 := Aside0.mk (blk_below (g := gb192) (o := .cells #[.int .i64 a0_0, .slice (some ad199) l0_1.length c0_1, .slice A0_2 l0_2.length c0_2] 36 (0, 0)) (by (with_reducible repeat (first | refine blk_drewN ?_ _ | refine blk_drew ?_ | refine blk_alloc ?_ _)); exact BK192.out) hb); clear hb hbox hg; have hnb18 := NB200_192.out; have hnc18 := NB192_200.out; have hcz19_0 : w17.cell? ⟨gb200, 0, none⟩ = some (.int .i64 0) := (blk_cell BK200.out 0).trans rfl; have hcz19_1 : w17.cell? ⟨gb200, 1, none⟩ = some (.int .i64 0) := (blk_cell BK200.out 1).trans rfl; have hcz19_2 : w17.cell? ⟨gb200, 2, none⟩ = some (.slice none 0 0) := (blk_cell BK200.out 2).trans rfl; have hfz19_0 := blk_frozen BK200.out 0; have hfz19_1 := blk_frozen BK200.out 1; have hfz19_2 := blk_frozen BK200.out 2; have p201 : 0 ≤ (((rd_T85 l0_1 x8_1).f0) : Int) := of_decide_eq_true (by assumption); have q201 : ((rd_T85 l0_1 x8_1).f0) < (l1.length : Int) := of_decide_eq_true (by assumption); obtain ⟨ad201, e201, hx201_0⟩ := Kd.at_bool HR1.out ((rd_T85 l0_1 x8_1).f0) p201 q201; (try rw [← Nbq14.out] at hx201_0); cases e201; have hn201_0 : ad201.block ≠ gb200 := Nat.ne_of_lt (Nat.lt_of_lt_of_le (by have := World.block_lt_of_cell? _ _ hx201_0; first | rwa [add_block] at this | exact this) GW200.out); have hn201_1 : ad201.block ≠ gb200 := Nat.ne_of_lt (Nat.lt_of_lt_of_le (by have := World.block_lt_of_cell? _ _ hx201_0; first | rwa [add_block] at this | exact this) GW200.out); have hn201_2 : ad201.block ≠ gb200 := Nat.ne_of_lt (Nat.lt_of_lt_of_le (by have := World.block_lt_of_cell? _ _ hx201_0; first | rwa [add_block] at this | exact this) GW200.out); replace hx201_0 := (HB.out.cell (World.block_lt_of_cell? w _ hx201_0)).trans hx201_0; replace hx201_0 := (cell_far (p := ⟨gb200, 0, none⟩) (by first | (rw [add_block]; exact hn201_0) | (show (Addr.add _ _).block ≠ _; rw [add_block]; exact hn201_0) | exact hn201_0) (.int .i64 ((rd_T85 l0_1 x8_1).f0))).trans hx201_0; replace hx201_0 := (cell_far (p := ⟨gb200, 1, none⟩) (by first | (rw [add_block]; exact hn201_1) | (show (Addr.add _ _).block ≠ _; rw [add_block]; exact hn201_1) | exact hn201_1) (.int .i64 ((rd_T85 l0_1 x8_1).f1))).trans hx201_0; replace hx201_0 := (cell_far (p := ⟨gb200, 2, none⟩) (by first | (rw [add_block]; exact hn201_2) | (show (Addr.add _ _).block ≠ _; rw [add_block]; exact hn201_2) | exact hn201_2) (.slice A199_2 ((rd_T85 l0_1 x8_1).f2).length c199_2)).trans hx201_0; (try have hy201_0 := fun (n_ : Nat) => (show (((((w17.drewN n_).setCell ⟨gb200, 0, none⟩ (.int .i64 ((rd_T85 l0_1 x8_1).f0))).setCell ⟨gb200, 1, none⟩ (.int .i64 ((rd_T85 l0_1 x8_1).f1))).setCell ⟨gb200, 2, none⟩ (.slice A199_2 ((rd_T85 l0_1 x8_1).f2).length c199_2))).cell? _ = some _ from hx201_0)); clear hn201_0; clear hn201_1; clear hn201_2; replace p201 := eq_true p201; replace q201 := eq_true q201))
          go_loopg [10] k1 (fun kq v10 w' => ∃ (x7_2 : List Bool) (x10_2 : Int), v10 = .int .i64 x10_2 ∧ Aside0 (spec_l6Step.l1 kq l1 a2 x7_2 x8_1 x10_2 a0_0 l0_1 l0_2 ((rd_T85 l0_1 x8_1).f0) ((rd_T85 l0_1 x8_1).f1) ((rd_T85 l0_1 x8_1).f2) = some r) ∧ Aside0 (kq ≤ k1) ∧ Aside0 (Kd.R Kd.bool 4 w' w.heap.size (fun _ => True) v194 x7_2) ∧ Aside0 (w'.heap[gb192]? = some (.cells #[.int .i64 a0_0, (.slice (some ad199) l0_1.length c0_1), (.slice A0_2 l0_2.length c0_2)] 36 (0, 0))) ∧ Aside0 (w'.heap[gb200]? = some (.cells #[.int .i64 ((rd_T85 l0_1 x8_1).f0), .int .i64 ((rd_T85 l0_1 x8_1).f1), (.slice A199_2 ((rd_T85 l0_1 x8_1).f2).length c199_2)] 85 (0, 0))) ∧ Aside0 (Below w.heap.size w w'))
          case atStart => exact ⟨(x7_1), (0), (by first | rfl | (simp; done) | (simp [*]; done)), H', ⟨Nat.le_refl _⟩, ⟨by (with_reducible repeat (first | apply Kd.R_alloc | apply Kd.R_drewN | apply Kd.R_drew)); exact Kd.R_mono (Kd.R_far (p := ⟨gb200, 2, none⟩) (Kd.R_far (p := ⟨gb200, 1, none⟩) (Kd.R_far (p := ⟨gb200, 0, none⟩) (Kd.R_types HO_7.out BK200.out (by decide)) (fun _ hk => hk.2) (.int .i64 ((rd_T85 l0_1 x8_1).f0))) (fun _ hk => hk.2) (.int .i64 ((rd_T85 l0_1 x8_1).f1))) (fun _ hk => hk.2) (.slice A199_2 ((rd_T85 l0_1 x8_1).f2).length c199_2)) (fun _ hk => trivial)⟩, ⟨by (with_reducible repeat (first | refine blk_drewN ?_ _ | refine blk_drew ?_ | refine blk_alloc ?_ _)); refine blk_far ?_ NB192_200.out _; (with_reducible repeat (first | refine blk_drewN ?_ _ | refine blk_drew ?_ | refine blk_alloc ?_ _)); refine blk_far ?_ NB192_200.out _; (with_reducible repeat (first | refine blk_drewN ?_ _ | refine blk_drew ?_ | refine blk_alloc ?_ _)); refine blk_far ?_ NB192_200.out _; (with_reducible repeat (first | refine blk_drewN ?_ _ | refine blk_drew ?_ | refine blk_alloc ?_ _)); exact BK192.out⟩, ⟨by (with_reducible repeat (first | refine blk_drewN ?_ _ | refine blk_drew ?_ | refine blk_alloc ?_ _)); refine blk_put (cs := #[.int .i64 ((rd_T85 l0_1 x8_1).f0), .int .i64 ((rd_T85 l0_1 x8_1).f1), .slice none 0 0]) ?_ 2 _ rfl; (with_reducible repeat (first | refine blk_drewN ?_ _ | refine blk_drew ?_ | refine blk_alloc ?_ _)); refine blk_put (cs := #[.int .i64 ((rd_T85 l0_1 x8_1).f0), .int .i64 0, .slice none 0 0]) ?_ 1 _ rfl; (with_reducible repeat (first | refine blk_drewN ?_ _ | refine blk_drew ?_ | refine blk_alloc ?_ _)); refine blk_put (cs := #[.int .i64 0, .int .i64 0, .slice none 0 0]) ?_ 0 _ rfl; (with_reducible repeat (first | refine blk_drewN ?_ _ | refine blk_drew ?_ | refine blk_alloc ?_ _)); exact BK200.out⟩, ⟨by repeat (first | (with_reducible first | exact HB.out | apply below_alloc | apply pw_below_drewN | apply below_drew1 | refine below_set ?_ GE192.out | refine below_set ?_ GE200.out) | exact HB.out)⟩⟩
          case round =>
           clear H'; (try clear c1); (try clear p1); (try clear q1); (try clear hx1); (try clear p2); (try clear q2); (try clear hx2); (try clear c4); (try clear c4b0); (try clear c4b1); (try clear c5); (try clear c5b0); (try clear c5b1); (try clear p6); (try clear c10); (try clear c10b0); (try clear c11); (try clear c11b0); (try clear c12); (try clear c12b0); (try clear c13); (try clear c13b0); (try clear q14); (try clear c15); (try clear c18); (try clear c19); (try clear p19); (try clear q19); (try clear hx19); (try clear hcz16_0); (try clear hcz16_1); (try clear hcz16_2); (try clear hcz19_0); (try clear hcz19_1); (try clear hcz19_2); (try clear hcz7_0); (try clear hcz7_1); (try clear hcz7_2); (try clear hfz16_0); (try clear hfz16_1); (try clear hfz16_2); (try clear hfz19_0); (try clear hfz19_1); (try clear hfz19_2); (try clear hfz7_0); (try clear hfz7_1); (try clear hfz7_2); (try clear hx199_0); (try clear hx199_1); (try clear hx199_2); (try clear hx201_0); (try clear p199); (try clear p2); (try clear p201); (try clear q199); (try clear q201); obtain ⟨x7_2, x10_2, rfl, HA, HK2, HO_7, BK192, BK200, HB⟩ := hrel
           cases gk with
           | zero => exact absurd HA.out (by simp [spec_l6Step.l1])
           | succ k2 =>
            have H := HA.out; clear HA
            simp only [spec_l6Step.l1] at H
            by_cases c20 : x10_2 < (((rd_T85 l0_1 x8_1).f2).length : Int)
            ·rw [if_pos c20] at H
             have c20b0 : decide (x10_2 < (((rd_T85 l0_1 x8_1).f2).length : Int)) = true := decide_eq_true c20; clear c20
             by_cases c21 : 0 ≤ x10_2
             ·rw [if_pos c21] at H
              have c21b0 : decide (0 ≤ x10_2) = true := decide_eq_true c21; clear c21; replace H := Option.bind_eq_some_iff.mp H; obtain ⟨t204, A220, H⟩ := H; replace H : (if t204 = true then (if 0 ≤ ((rd_T85 l0_1 x8_1).f1) then (if ((rd_T85 l0_1 x8_1).f1) < (x7_2.length : Int) then (spec_l6Step.l1 k2 l1 a2 (x7_2.set (((rd_T85 l0_1 x8_1).f1) : Int).toNat true) x8_1 (wrap64 (x10_2 + 1)) a0_0 l0_1 l0_2 ((rd_T85 l0_1 x8_1).f0) ((rd_T85 l0_1 x8_1).f1) ((rd_T85 l0_1 x8_1).f2)) else (none)) else (none)) else (spec_l6Step.l1 k2 l1 a2 x7_2 x8_1 (wrap64 (x10_2 + 1)) a0_0 l0_1 l0_2 ((rd_T85 l0_1 x8_1).f0) ((rd_T85 l0_1 x8_1).f1) ((rd_T85 l0_1 x8_1).f2))) = some r := H; have A22 := Aside0.mk A220; clear A220
              by_cases c23 : t204 = true
              ·subst c23
               have H1 : (if 0 ≤ ((rd_T85 l0_1 x8_1).f1) then (if ((rd_T85 l0_1 x8_1).f1) < (x7_2.length : Int) then (spec_l6Step.l1 k2 l1 a2 (x7_2.set (((rd_T85 l0_1 x8_1).f1) : Int).toNat true) x8_1 (wrap64 (x10_2 + 1)) a0_0 l0_1 l0_2 ((rd_T85 l0_1 x8_1).f0) ((rd_T85 l0_1 x8_1).f1) ((rd_T85 l0_1 x8_1).f2)) else (none)) else (none)) = some r := by rw [if_pos rfl] at H; exact H
               clear H; have H := H1; clear H1
               by_cases c24 : 0 ≤ ((rd_T85 l0_1 x8_1).f1)
               ·rw [if_pos c24] at H
                have c24b0 : decide (0 ≤ ((rd_T85 l0_1 x8_1).f1)) = true := decide_eq_true c24; clear c24
                by_cases c25 : ((rd_T85 l0_1 x8_1).f1) < (x7_2.length : Int)
                ·rw [if_pos c25] at H
                 have c25b0 : decide (((rd_T85 l0_1 x8_1).f1) < (x7_2.length : Int)) = true := decide_eq_true c25; clear c25; obtain ⟨y205, hy205⟩ : ∃ y_ : List Bool, y_ = (x7_2.set (((rd_T85 l0_1 x8_1).f1) : Int).toNat true) := ⟨_, rfl⟩
                 replace H : (spec_l6Step.l1 k2 l1 a2 y205 x8_1 (wrap64 (x10_2 + 1)) a0_0 l0_1 l0_2 ((rd_T85 l0_1 x8_1).f0) ((rd_T85 l0_1 x8_1).f1) ((rd_T85 l0_1 x8_1).f2)) = some r := by first | (rw [hy205]; with_reducible exact H) | (have H2_ := (Option.bind_some _ _).symm.trans H; rw [hy205]; with_reducible exact H2_) | (have H2_ := (Option.bind_some _ _).symm.trans H; with_reducible exact H2_) | with_reducible exact H | (rw [hy205]; exact H) | exact H
                 have Ny205 := Aside0.mk hy205; clear hy205; have H' := Aside0.mk H; clear H; have hnb27 := NB200_192.out; have hnc27 := NB192_200.out; have hcz28_0 : wr.cell? ⟨gb200, 0, none⟩ = some (.int .i64 ((rd_T85 l0_1 x8_1).f0)) := (blk_cell BK200.out 0).trans rfl; have hcz28_1 : wr.cell? ⟨gb200, 1, none⟩ = some (.int .i64 ((rd_T85 l0_1 x8_1).f1)) := (blk_cell BK200.out 1).trans rfl; have hcz28_2 : wr.cell? ⟨gb200, 2, none⟩ = some (.slice A199_2 ((rd_T85 l0_1 x8_1).f2).length c199_2) := (blk_cell BK200.out 2).trans rfl; have hfz28_0 := blk_frozen BK200.out 0; have hfz28_1 := blk_frozen BK200.out 1; have hfz28_2 := blk_frozen BK200.out 2; have p202 : 0 ≤ (x10_2 : Int) := of_decide_eq_true (by assumption); have q202 : x10_2 < (((rd_T85 l0_1 x8_1).f2).length : Int) := of_decide_eq_true (by assumption); obtain ⟨ad202, e202, hx202_0, hx202_1⟩ := at_T160 HR199_2.out x10_2 p202 q202; cases e202; replace hx202_0 := (HB.out.cell (World.block_lt_of_cell? w _ hx202_0)).trans hx202_0; replace hx202_1 := (HB.out.cell (World.block_lt_of_cell? w _ hx202_1)).trans hx202_1; replace p202 := eq_true p202; replace q202 := eq_true q202; have p203 : 0 ≤ (x10_2 : Int) := of_decide_eq_true (by assumption); have q203 : x10_2 < (((rd_T85 l0_1 x8_1).f2).length : Int) := of_decide_eq_true (by assumption); obtain ⟨ad203, e203, hx203_0, hx203_1⟩ := at_T160 HR199_2.out x10_2 p203 q203; obtain rfl : ad202 = ad203 := (by injection e203); replace hx203_0 := (HB.out.cell (World.block_lt_of_cell? w _ hx203_0)).trans hx203_0; replace hx203_1 := (HB.out.cell (World.block_lt_of_cell? w _ hx203_1)).trans hx203_1; replace p203 := eq_true p203; replace q203 := eq_true q203
                 (have p26 : 0 ≤ (((rd_T85 l0_1 x8_1).f1) : Int) := of_decide_eq_true (by assumption); have q26 : (((rd_T85 l0_1 x8_1).f1) : Int) < ((x7_2.length : Int) : Int) := of_decide_eq_true (by assumption); obtain ⟨go26, co26, eo26, gb26, gl26, cl26, HG26⟩ := Kd.R_form HO_7.out (by omega); (first | cases eo26 | (injection eo26 with ea_ en_ ec_; (first | subst ea_ | (injection ea_ with ea_; subst ea_)); subst ec_; clear en_)); have GB26 := Aside0.mk gb26; have GG26 := Aside0.mk HG26; clear gb26 gl26 HG26; obtain ⟨hx26_0, hf26_0⟩ := Kd.R_celln false HO_7.out (((rd_T85 l0_1 x8_1).f1) : Int) p26 q26; replace p26 := eq_true p26; replace q26 := eq_true q26; obtain ⟨hy29_, hz29_⟩ := Kd.R_celln false HO_7.out (((rd_T85 l0_1 x8_1).f1) : Int) (of_decide_eq_true (by assumption)) (of_decide_eq_true (by assumption)); have HP29 := Kd.R_putg HO_7.out (((rd_T85 l0_1 x8_1).f1) : Int) true)
                 go_wp2_with (first | (go_at_call 54; (with_reducible refine (spec_l1In.calls (wrap64 (a2)) ((rd_T160 ((rd_T85 l0_1 x8_1).f2) x10_2).f0) ((rd_T160 ((rd_T85 l0_1 x8_1).f2) x10_2).f1) true _ A22.out).mono ?_); rintro e w' ⟨rfl, ⟨nd, rfl⟩⟩; (try first | exact ⟨rfl, _, World.drewN_drewN _ _ _⟩ | exact ⟨rfl, _, Eq.trans (World.drewN_drewN _ _ _) (congrArg (World.drewN _) (Nat.add_assoc _ _ _))⟩)) | ((with_reducible refine gate_store (t := 4) (p := 57) rfl ?_); (try (rw [drewN_self wr]; generalize hq_ : World.drewN wr _ = wr; replace HO_7 := Aside0.mk (Kd.R_at hq_ HO_7.out); replace BK192 := Aside0.mk (blk_at hq_ BK192.out); replace BK200 := Aside0.mk (blk_at hq_ BK200.out); replace HB := Aside0.mk (below_at hq_ HB.out); clear hq_; (try (obtain ⟨hy29_, hz29_⟩ := Kd.R_celln false HO_7.out (((rd_T85 l0_1 x8_1).f1) : Int) (of_decide_eq_true (by assumption)) (of_decide_eq_true (by assumption)))); (try (have HP29 := Kd.R_putg HO_7.out (((rd_T85 l0_1 x8_1).f1) : Int) true)))); refine store_event (t := 4) (p := 57) (v := ?vo_w30) (w1 := (wr.setCell ⟨go26, (((rd_T85 l0_1 x8_1).f1) : Int).toNat, none⟩ (.bool true))) ?hg ?ho ?hn ?hr ?_; (case ho => rfl); (case hg => rfl); (case hn => rfl); (case hr => first | (go_simp; done) | (go_simp; rfl)); intro w30 hw; have hg : wr.grownBy w30 (some go26) := (by rw [hw]; exact HP29.2); have hp_ : Kd.R Kd.bool 4 w30 w.heap.size (fun _ => True) (.slice (some ⟨go26, 0, none⟩) x7_2.length co26) y205 := (by rw [hw, Ny205.out]; exact HP29.1); clear HP29; replace BK192 := Aside0.mk (blk_grown (g := gb192) (o := .cells #[.int .i64 a0_0, .slice (some ad199) l0_1.length c0_1, .slice A0_2 l0_2.length c0_2] 36 (0, 0)) (by (with_reducible repeat (first | refine blk_drewN ?_ _ | refine blk_drew ?_ | refine blk_alloc ?_ _)); exact BK192.out) hg (Kd.R_ne HO_7.out BK192.out (by decide))); replace BK200 := Aside0.mk (blk_grown (g := gb200) (o := .cells #[.int .i64 ((rd_T85 l0_1 x8_1).f0), .int .i64 ((rd_T85 l0_1 x8_1).f1), .slice (some ad202) ((rd_T85 l0_1 x8_1).f2).length c199_2] 85 (0, 0)) (by (with_reducible repeat (first | refine blk_drewN ?_ _ | refine blk_drew ?_ | refine blk_alloc ?_ _)); exact BK200.out) hg (Kd.R_ne HO_7.out BK200.out (by decide))); replace HO_7 := Aside0.mk (hp_); replace HB := Aside0.mk ((by rw [hw]; exact below_set (HB.out) GB26.out : Below w.heap.size w w30)); clear hg hw hp_))
                 repeat (go_quiet (first | (go_at_call 54; (with_reducible refine (spec_l1In.calls (wrap64 (a2)) ((rd_T160 ((rd_T85 l0_1 x8_1).f2) x10_2).f0) ((rd_T160 ((rd_T85 l0_1 x8_1).f2) x10_2).f1) true _ A22.out).mono ?_); rintro e w' ⟨rfl, ⟨nd, rfl⟩⟩; (try first | exact ⟨rfl, _, World.drewN_drewN _ _ _⟩ | exact ⟨rfl, _, Eq.trans (World.drewN_drewN _ _ _) (congrArg (World.drewN _) (Nat.add_assoc _ _ _))⟩)) | ((with_reducible refine gate_store (t := 4) (p := 57) rfl ?_); (try (rw [drewN_self wr]; generalize hq_ : World.drewN wr _ = wr; replace HO_7 := Aside0.mk (Kd.R_at hq_ HO_7.out); replace BK192 := Aside0.mk (blk_at hq_ BK192.out); replace BK200 := Aside0.mk (blk_at hq_ BK200.out); replace HB := Aside0.mk (below_at hq_ HB.out); clear hq_; (try (obtain ⟨hy29_, hz29_⟩ := Kd.R_celln false HO_7.out (((rd_T85 l0_1 x8_1).f1) : Int) (of_decide_eq_true (by assumption)) (of_decide_eq_true (by assumption)))); (try (have HP29 := Kd.R_putg HO_7.out (((rd_T85 l0_1 x8_1).f1) : Int) true)))); refine store_event (t := 4) (p := 57) (v := ?vo_w30) (w1 := (wr.setCell ⟨go26, (((rd_T85 l0_1 x8_1).f1) : Int).toNat, none⟩ (.bool true))) ?hg ?ho ?hn ?hr ?_; (case ho => rfl); (case hg => rfl); (case hn => rfl); (case hr => first | (go_simp; done) | (go_simp; rfl)); intro w30 hw; have hg : wr.grownBy w30 (some go26) := (by rw [hw]; exact HP29.2); have hp_ : Kd.R Kd.bool 4 w30 w.heap.size (fun _ => True) (.slice (some ⟨go26, 0, none⟩) x7_2.length co26) y205 := (by rw [hw, Ny205.out]; exact HP29.1); clear HP29; replace BK192 := Aside0.mk (blk_grown (g := gb192) (o := .cells #[.int .i64 a0_0, .slice (some ad199) l0_1.length c0_1, .slice A0_2 l0_2.length c0_2] 36 (0, 0)) (by (with_reducible repeat (first | refine blk_drewN ?_ _ | refine blk_drew ?_ | refine blk_alloc ?_ _)); exact BK192.out) hg (Kd.R_ne HO_7.out BK192.out (by decide))); replace BK200 := Aside0.mk (blk_grown (g := gb200) (o := .cells #[.int .i64 ((rd_T85 l0_1 x8_1).f0), .int .i64 ((rd_T85 l0_1 x8_1).f1), .slice (some ad202) ((rd_T85 l0_1 x8_1).f2).length c199_2] 85 (0, 0)) (by (with_reducible repeat (first | refine blk_drewN ?_ _ | refine blk_drew ?_ | refine blk_alloc ?_ _)); exact BK200.out) hg (Kd.R_ne HO_7.out BK200.out (by decide))); replace HO_7 := Aside0.mk (hp_); replace HB := Aside0.mk ((by rw [hw]; exact below_set (HB.out) GB26.out : Below w.heap.size w w30)); clear hg hw hp_)); try go_wp2_with (first | (go_at_call 54; (with_reducible refine (spec_l1In.calls (wrap64 (a2)) ((rd_T160 ((rd_T85 l0_1 x8_1).f2) x10_2).f0) ((rd_T160 ((rd_T85 l0_1 x8_1).f2) x10_2).f1) true _ A22.out).mono ?_); rintro e w' ⟨rfl, ⟨nd, rfl⟩⟩; (try first | exact ⟨rfl, _, World.drewN_drewN _ _ _⟩ | exact ⟨rfl, _, Eq.trans (World.drewN_drewN _ _ _) (congrArg (World.drewN _) (Nat.add_assoc _ _ _))⟩)) | ((with_reducible refine gate_store (t := 4) (p := 57) rfl ?_); (try (rw [drewN_self wr]; generalize hq_ : World.drewN wr _ = wr; replace HO_7 := Aside0.mk (Kd.R_at hq_ HO_7.out); replace BK192 := Aside0.mk (blk_at hq_ BK192.out); replace BK200 := Aside0.mk (blk_at hq_ BK200.out); replace HB := Aside0.mk (below_at hq_ HB.out); clear hq_; (try (obtain ⟨hy29_, hz29_⟩ := Kd.R_celln false HO_7.out (((rd_T85 l0_1 x8_1).f1) : Int) (of_decide_eq_true (by assumption)) (of_decide_eq_true (by assumption)))); (try (have HP29 := Kd.R_putg HO_7.out (((rd_T85 l0_1 x8_1).f1) : Int) true)))); refine store_event (t := 4) (p := 57) (v := ?vo_w30) (w1 := (wr.setCell ⟨go26, (((rd_T85 l0_1 x8_1).f1) : Int).toNat, none⟩ (.bool true))) ?hg ?ho ?hn ?hr ?_; (case ho => rfl); (case hg => rfl); (case hn => rfl); (case hr => first | (go_simp; done) | (go_simp; rfl)); intro w30 hw; have hg : wr.grownBy w30 (some go26) := (by rw [hw]; exact HP29.2); have hp_ : Kd.R Kd.bool 4 w30 w.heap.size (fun _ => True) (.slice (some ⟨go26, 0, none⟩) x7_2.length co26) y205 := (by rw [hw, Ny205.out]; exact HP29.1); clear HP29; replace BK192 := Aside0.mk (blk_grown (g := gb192) (o := .cells #[.int .i64 a0_0, .slice (some ad199) l0_1.length c0_1, .slice A0_2 l0_2.length c0_2] 36 (0, 0)) (by (with_reducible repeat (first | refine blk_drewN ?_ _ | refine blk_drew ?_ | refine blk_alloc ?_ _)); exact BK192.out) hg (Kd.R_ne HO_7.out BK192.out (by decide))); replace BK200 := Aside0.mk (blk_grown (g := gb200) (o := .cells #[.int .i64 ((rd_T85 l0_1 x8_1).f0), .int .i64 ((rd_T85 l0_1 x8_1).f1), .slice (some ad202) ((rd_T85 l0_1 x8_1).f2).length c199_2] 85 (0, 0)) (by (with_reducible repeat (first | refine blk_drewN ?_ _ | refine blk_drew ?_ | refine blk_alloc ?_ _)); exact BK200.out) hg (Kd.R_ne HO_7.out BK200.out (by decide))); replace HO_7 := Aside0.mk (hp_); replace HB := Aside0.mk ((by rw [hw]; exact below_set (HB.out) GB26.out : Below w.heap.size w w30)); clear hg hw hp_)))
                 go_roundg k2
                 case measure => have := HK1.out; have := HK2.out; omega
                 case rel => exact ⟨(y205), (wrap64 (x10_2 + 1)), (by first | rfl | (simp; done) | (simp [*]; done)), H', ⟨by have := HK1.out; have := HK2.out; omega⟩, ⟨by (with_reducible repeat (first | apply Kd.R_alloc | apply Kd.R_drewN | apply Kd.R_drew)); exact HO_7.out⟩, ⟨by (with_reducible repeat (first | refine blk_drewN ?_ _ | refine blk_drew ?_ | refine blk_alloc ?_ _)); exact BK192.out⟩, ⟨by (with_reducible repeat (first | refine blk_drewN ?_ _ | refine blk_drew ?_ | refine blk_alloc ?_ _)); exact BK200.out⟩, ⟨by repeat (first | (with_reducible first | exact HB.out | apply below_alloc | apply pw_below_drewN | apply below_drew1 | refine below_set ?_ GE192.out | refine below_set ?_ GE200.out) | exact HB.out)⟩⟩
                ·rw [if_neg c25] at H
                 exact absurd H (by simp)
               ·rw [if_neg c24] at H
                exact absurd H (by simp)
              ·replace c23 := Bool.eq_false_iff.mpr c23
               subst c23
               have H1 : (spec_l6Step.l1 k2 l1 a2 x7_2 x8_1 (wrap64 (x10_2 + 1)) a0_0 l0_1 l0_2 ((rd_T85 l0_1 x8_1).f0) ((rd_T85 l0_1 x8_1).f1) ((rd_T85 l0_1 x8_1).f2)) = some r := by rw [if_neg (show ¬ (false = true) by decide)] at H; exact H
               clear H; have H := H1; clear H1; have H' := Aside0.mk H; clear H; have hnb31 := NB200_192.out; have hnc31 := NB192_200.out; have hcz32_0 : wr.cell? ⟨gb200, 0, none⟩ = some (.int .i64 ((rd_T85 l0_1 x8_1).f0)) := (blk_cell BK200.out 0).trans rfl; have hcz32_1 : wr.cell? ⟨gb200, 1, none⟩ = some (.int .i64 ((rd_T85 l0_1 x8_1).f1)) := (blk_cell BK200.out 1).trans rfl; have hcz32_2 : wr.cell? ⟨gb200, 2, none⟩ = some (.slice A199_2 ((rd_T85 l0_1 x8_1).f2).length c199_2) := (blk_cell BK200.out 2).trans rfl; have hfz32_0 := blk_frozen BK200.out 0; have hfz32_1 := blk_frozen BK200.out 1; have hfz32_2 := blk_frozen BK200.out 2; have p202 : 0 ≤ (x10_2 : Int) := of_decide_eq_true (by assumption); have q202 : x10_2 < (((rd_T85 l0_1 x8_1).f2).length : Int) := of_decide_eq_true (by assumption); obtain ⟨ad202, e202, hx202_0, hx202_1⟩ := at_T160 HR199_2.out x10_2 p202 q202; cases e202; replace hx202_0 := (HB.out.cell (World.block_lt_of_cell? w _ hx202_0)).trans hx202_0; replace hx202_1 := (HB.out.cell (World.block_lt_of_cell? w _ hx202_1)).trans hx202_1; replace p202 := eq_true p202; replace q202 := eq_true q202; have p203 : 0 ≤ (x10_2 : Int) := of_decide_eq_true (by assumption); have q203 : x10_2 < (((rd_T85 l0_1 x8_1).f2).length : Int) := of_decide_eq_true (by assumption); obtain ⟨ad203, e203, hx203_0, hx203_1⟩ := at_T160 HR199_2.out x10_2 p203 q203; obtain rfl : ad202 = ad203 := (by injection e203); replace hx203_0 := (HB.out.cell (World.block_lt_of_cell? w _ hx203_0)).trans hx203_0; replace hx203_1 := (HB.out.cell (World.block_lt_of_cell? w _ hx203_1)).trans hx203_1; replace p203 := eq_true p203; replace q203 := eq_true q203
               go_wp2_with (first | (go_at_call 54; (with_reducible refine (spec_l1In.calls (wrap64 (a2)) ((rd_T160 ((rd_T85 l0_1 x8_1).f2) x10_2).f0) ((rd_T160 ((rd_T85 l0_1 x8_1).f2) x10_2).f1) false _ A22.out).mono ?_); rintro e w' ⟨rfl, ⟨nd, rfl⟩⟩; (try first | exact ⟨rfl, _, World.drewN_drewN _ _ _⟩ | exact ⟨rfl, _, Eq.trans (World.drewN_drewN _ _ _) (congrArg (World.drewN _) (Nat.add_assoc _ _ _))⟩)))
               repeat (go_quiet (first | (go_at_call 54; (with_reducible refine (spec_l1In.calls (wrap64 (a2)) ((rd_T160 ((rd_T85 l0_1 x8_1).f2) x10_2).f0) ((rd_T160 ((rd_T85 l0_1 x8_1).f2) x10_2).f1) false _ A22.out).mono ?_); rintro e w' ⟨rfl, ⟨nd, rfl⟩⟩; (try first | exact ⟨rfl, _, World.drewN_drewN _ _ _⟩ | exact ⟨rfl, _, Eq.trans (World.drewN_drewN _ _ _) (congrArg (World.drewN _) (Nat.add_assoc _ _ _))⟩))); try go_wp2_with (first | (go_at_call 54; (with_reducible refine (spec_l1In.calls (wrap64 (a2)) ((rd_T160 ((rd_T85 l0_1 x8_1).f2) x10_2).f0) ((rd_T160 ((rd_T85 l0_1 x8_1).f2) x10_2).f1) false _ A22.out).mono ?_); rintro e w' ⟨rfl, ⟨nd, rfl⟩⟩; (try first | exact ⟨rfl, _, World.drewN_drewN _ _ _⟩ | exact ⟨rfl, _, Eq.trans (World.drewN_drewN _ _ _) (congrArg (World.drewN _) (Nat.add_assoc _ _ _))⟩))))
               go_roundg k2
               case measure => have := HK1.out; have := HK2.out; omega
               case rel => exact ⟨(x7_2), (wrap64 (x10_2 + 1)), (by first | rfl | (simp; done) | (simp [*]; done)), H', ⟨by have := HK1.out; have := HK2.out; omega⟩, ⟨by (with_reducible repeat (first | apply Kd.R_alloc | apply Kd.R_drewN | apply Kd.R_drew)); exact HO_7.out⟩, ⟨by (with_reducible repeat (first | refine blk_drewN ?_ _ | refine blk_drew ?_ | refine blk_alloc ?_ _)); exact BK192.out⟩, ⟨by (with_reducible repeat (first | refine blk_drewN ?_ _ | refine blk_drew ?_ | refine blk_alloc ?_ _)); exact BK200.out⟩, ⟨by repeat (first | (with_reducible first | exact HB.out | apply below_alloc | apply pw_below_drewN | apply below_drew1 | refine below_set ?_ GE192.out | refine below_set ?_ GE200.out) | exact HB.out)⟩⟩
             ·rw [if_neg c21] at H
              exact absurd H (by simp)
            ·rw [if_neg c20] at H
             have c20b0 : decide (x10_2 < (((rd_T85 l0_1 x8_1).f2).length : Int)) = false := decide_eq_false c20; clear c20; have H' := Aside0.mk H; clear H; have hnb33 := NB200_192.out; have hnc33 := NB192_200.out; have hcz34_0 : wr.cell? ⟨gb200, 0, none⟩ = some (.int .i64 ((rd_T85 l0_1 x8_1).f0)) := (blk_cell BK200.out 0).trans rfl; have hcz34_1 : wr.cell? ⟨gb200, 1, none⟩ = some (.int .i64 ((rd_T85 l0_1 x8_1).f1)) := (blk_cell BK200.out 1).trans rfl; have hcz34_2 : wr.cell? ⟨gb200, 2, none⟩ = some (.slice A199_2 ((rd_T85 l0_1 x8_1).f2).length c199_2) := (blk_cell BK200.out 2).trans rfl; have hfz34_0 := blk_frozen BK200.out 0; have hfz34_1 := blk_frozen BK200.out 1; have hfz34_2 := blk_frozen BK200.out 2
             go_wp2
             go_roundg k2
             case measure => have := HK1.out; have := HK2.out; omega
             case rel => exact ⟨(x7_2), (wrap64 (x8_1 + 1)), (by first | rfl | (simp; done) | (simp [*]; done)), H', ⟨by have := HK1.out; have := HK2.out; omega⟩, ⟨by (with_reducible repeat (first | apply Kd.R_alloc | apply Kd.R_drewN | apply Kd.R_drew)); exact HO_7.out⟩, ⟨by (with_reducible repeat (first | refine blk_drewN ?_ _ | refine blk_drew ?_ | refine blk_alloc ?_ _)); exact BK192.out⟩, ⟨by repeat (first | (with_reducible first | exact HB.out | apply below_alloc | apply pw_below_drewN | apply below_drew1 | refine below_set ?_ GE192.out | refine below_set ?_ GE200.out) | exact HB.out)⟩⟩
         ·replace c15 := Bool.eq_false_iff.mpr c15
          subst c15
          have H1 : (spec_l6Step.l0 k1 l1 a2 x7_1 (wrap64 (x8_1 + 1)) a0_0 l0_1 l0_2) = some r := by rw [if_neg (show ¬ (false = true) by decide)] at H; exact H
          clear H; have H := H1; clear H1; have H' := Aside0.mk H; clear H; have hcz35_0 : wr.cell? ⟨gb192, 0, none⟩ = some (.int .i64 a0_0) := (blk_cell BK192.out 0).trans rfl; have hcz35_1 : wr.cell? ⟨gb192, 1, none⟩ = some (.slice A0_1 l0_1.length c0_1) := (blk_cell BK192.out 1).trans rfl; have hcz35_2 : wr.cell? ⟨gb192, 2, none⟩ = some (.slice A0_2 l0_2.length c0_2) := (blk_cell BK192.out 2).trans rfl; have hfz35_0 := blk_frozen BK192.out 0; have hfz35_1 := blk_frozen BK192.out 1; have hfz35_2 := blk_frozen BK192.out 2; have p199 : 0 ≤ (x8_1 : Int) := of_decide_eq_true (by assumption); have q199 : x8_1 < (l0_1.length : Int) := of_decide_eq_true (by assumption); obtain ⟨ad199, A199_2, c199_2, e199, hx199_0, hx199_1, hx199_2, hl199_2, hi199_2⟩ := at_T85 HR0_1.out x8_1 p199 q199; cases e199; replace hx199_0 := (HB.out.cell (World.block_lt_of_cell? w _ hx199_0)).trans hx199_0; replace hx199_1 := (HB.out.cell (World.block_lt_of_cell? w _ hx199_1)).trans hx199_1; replace hx199_2 := (HB.out.cell (World.block_lt_of_cell? w _ hx199_2)).trans hx199_2; have HR199_2 := Aside0.mk hi199_2; have HC199_2 := Aside0.mk hl199_2; clear hi199_2 hl199_2; replace p199 := eq_true p199; replace q199 := eq_true q199
          go_wp2_with (first | ((with_reducible refine gate_dst (N := 9) rfl ?_); refine box_event ?hg (N := 9) ?hd (cs := #[.int .i64 0, .int .i64 0, .slice none 0 0]) (t := 85) ?hr ?_; (case hd => rfl); (case hg => rfl); (case hr => first | (go_simp; done) | (go_simp; rfl)); intro gb200 hg w36 hbox hb; replace HO_7 := Aside0.mk (Kd.R_below (by (with_reducible repeat (first | apply Kd.R_alloc | apply Kd.R_drewN | apply Kd.R_drew)); exact HO_7.out) hb); have BK200 := Aside0.mk (hbox); have GW200 := Aside0.mk ((by rw [hg]; exact (below_size (by repeat (first | (with_reducible first | exact HB.out | apply below_alloc | apply pw_below_drewN | apply below_drew1 | refine below_set ?_ GE192.out) | exact HB.out))) : w.heap.size ≤ gb200)); have GE200 := Aside0.mk ((by rw [hg]; exact (below_size (by repeat (first | (with_reducible first | exact HB.out | apply below_alloc | apply pw_below_drewN | apply below_drew1 | refine below_set ?_ GE192.out) | exact HB.out))) : w.heap.size ≤ gb200)); replace HB := Aside0.mk (below_step (by repeat (first | (with_reducible first | exact HB.out | apply below_alloc | apply pw_below_drewN | apply below_drew1 | refine below_set ?_ GE192.out) | exact HB.out)) hb); have NB192_200 := Aside0.mk ((by rw [hg]; exact Nat.ne_of_lt (blk_lt (g := gb192) (o := .cells #[.int .i64 a0_0, .slice (some ad199) l0_1.length c0_1, .slice A0_2 l0_2.length c0_2] 36 (0, 0)) (by (with_reducible repeat (first | refine blk_drewN ?_ _ | refine blk_drew ?_ | refine blk_alloc ?_ _)); exact BK192.out)) : gb192 ≠ gb200)); have NB200_192 := Aside0.mk ((by rw [hg]; exact Nat.ne_of_gt (blk_lt (g := gb192) (o := .cells #[.int .i64 a0_0, .slice (some ad199) l0_1.length c0_1, .slice A0_2 l0_2.length c0_2] 36 (0, 0)) (by (with_reducible repeat (first | refine blk_drewN ?_ _ | refine blk_drew ?_ | refine blk_alloc ?_ _)); exact BK192.out)) : gb200 ≠ gb192)); replace BK192 := Aside0.mk (blk_below (g := gb192) (o := .cells #[.int .i64 a0_0, .slice (some ad199) l0_1.length c0_1, .slice A0_2 l0_2.length c0_2] 36 (0, 0)) (by (with_reducible repeat (first | refine blk_drewN ?_ _ | refine blk_drew ?_ | refine blk_alloc ?_ _)); exact BK192.out) hb); clear hb hbox hg; have hnb37 := NB200_192.out; have hnc37 := NB192_200.out; have hcz38_0 : w36.cell? ⟨gb200, 0, none⟩ = some (.int .i64 0) := (blk_cell BK200.out 0).trans rfl; have hcz38_1 : w36.cell? ⟨gb200, 1, none⟩ = some (.int .i64 0) := (blk_cell BK200.out 1).trans rfl; have hcz38_2 : w36.cell? ⟨gb200, 2, none⟩ = some (.slice none 0 0) := (blk_cell BK200.out 2).trans rfl; have hfz38_0 := blk_frozen BK200.out 0; have hfz38_1 := blk_frozen BK200.out 1; have hfz38_2 := blk_frozen BK200.out 2; have p201 : 0 ≤ (((rd_T85 l0_1 x8_1).f0) : Int) := of_decide_eq_true (by assumption); have q201 : ((rd_T85 l0_1 x8_1).f0) < (l1.length : Int) := of_decide_eq_true (by assumption); obtain ⟨ad201, e201, hx201_0⟩ := Kd.at_bool HR1.out ((rd_T85 l0_1 x8_1).f0) p201 q201; (try rw [← Nbq14.out] at hx201_0); cases e201; have hn201_0 : ad201.block ≠ gb200 := Nat.ne_of_lt (Nat.lt_of_lt_of_le (by have := World.block_lt_of_cell? _ _ hx201_0; first | rwa [add_block] at this | exact this) GW200.out); have hn201_1 : ad201.block ≠ gb200 := Nat.ne_of_lt (Nat.lt_of_lt_of_le (by have := World.block_lt_of_cell? _ _ hx201_0; first | rwa [add_block] at this | exact this) GW200.out); have hn201_2 : ad201.block ≠ gb200 := Nat.ne_of_lt (Nat.lt_of_lt_of_le (by have := World.block_lt_of_cell? _ _ hx201_0; first | rwa [add_block] at this | exact this) GW200.out); replace hx201_0 := (HB.out.cell (World.block_lt_of_cell? w _ hx201_0)).trans hx201_0; replace hx201_0 := (cell_far (p := ⟨gb200, 0, none⟩) (by first | (rw [add_block]; exact hn201_0) | (show (Addr.add _ _).block ≠ _; rw [add_block]; exact hn201_0) | exact hn201_0) (.int .i64 ((rd_T85 l0_1 x8_1).f0))).trans hx201_0; replace hx201_0 := (cell_far (p := ⟨gb200, 1, none⟩) (by first | (rw [add_block]; exact hn201_1) | (show (Addr.add _ _).block ≠ _; rw [add_block]; exact hn201_1) | exact hn201_1) (.int .i64 ((rd_T85 l0_1 x8_1).f1))).trans hx201_0; replace hx201_0 := (cell_far (p := ⟨gb200, 2, none⟩) (by first | (rw [add_block]; exact hn201_2) | (show (Addr.add _ _).block ≠ _; rw [add_block]; exact hn201_2) | exact hn201_2) (.slice A199_2 ((rd_T85 l0_1 x8_1).f2).length c199_2)).trans hx201_0; (try have hy201_0 := fun (n_ : Nat) => (show (((((w36.drewN n_).setCell ⟨gb200, 0, none⟩ (.int .i64 ((rd_T85 l0_1 x8_1).f0))).setCell ⟨gb200, 1, none⟩ (.int .i64 ((rd_T85 l0_1 x8_1).f1))).setCell ⟨gb200, 2, none⟩ (.slice A199_2 ((rd_T85 l0_1 x8_1).f2).length c199_2))).cell? _ = some _ from hx201_0)); clear hn201_0; clear hn201_1; clear hn201_2; replace p201 := eq_true p201; replace q201 := eq_true q201))
          go_roundg k1
          case measure => have := HK1.out; omega
          case rel => exact ⟨(x7_1), (wrap64 (x8_1 + 1)), (by first | rfl | (simp; done) | (simp [*]; done)), H', ⟨by have := HK1.out; omega⟩, ⟨by (with_reducible repeat (first | apply Kd.R_alloc | apply Kd.R_drewN | apply Kd.R_drew)); exact Kd.R_mono (Kd.R_far (p := ⟨gb200, 2, none⟩) (Kd.R_far (p := ⟨gb200, 1, none⟩) (Kd.R_far (p := ⟨gb200, 0, none⟩) (Kd.R_types HO_7.out BK200.out (by decide)) (fun _ hk => hk.2) (.int .i64 ((rd_T85 l0_1 x8_1).f0))) (fun _ hk => hk.2) (.int .i64 ((rd_T85 l0_1 x8_1).f1))) (fun _ hk => hk.2) (.slice A199_2 ((rd_T85 l0_1 x8_1).f2).length c199_2)) (fun _ hk => trivial)⟩, ⟨by (with_reducible repeat (first | refine blk_drewN ?_ _ | refine blk_drew ?_ | refine blk_alloc ?_ _)); refine blk_far ?_ NB192_200.out _; (with_reducible repeat (first | refine blk_drewN ?_ _ | refine blk_drew ?_ | refine blk_alloc ?_ _)); refine blk_far ?_ NB192_200.out _; (with_reducible repeat (first | refine blk_drewN ?_ _ | refine blk_drew ?_ | refine blk_alloc ?_ _)); refine blk_far ?_ NB192_200.out _; (with_reducible repeat (first | refine blk_drewN ?_ _ | refine blk_drew ?_ | refine blk_alloc ?_ _)); exact BK192.out⟩, ⟨by repeat (first | (with_reducible first | exact HB.out | apply below_alloc | apply pw_below_drewN | apply below_drew1 | refine below_set ?_ GE192.out | refine below_set ?_ GE200.out) | exact HB.out)⟩⟩
        ·rw [if_neg c13] at H
         exact absurd H (by simp)
       ·rw [if_neg c12] at H
        exact absurd H (by simp)
      ·rw [if_neg c11] at H
       exact absurd H (by simp)
     ·rw [if_neg c10] at H
      have c10b0 : decide (x8_1 < (l0_1.length : Int)) = false := decide_eq_false c10; clear c10; replace H := Option.bind_eq_some_iff.mp H; obtain ⟨t196, A390, H⟩ := H; replace H : (some t196) = some r := H; have A39 := Aside0.mk A390; clear A390; obtain rfl := Option.some.inj H; have hcz40_0 : wr.cell? ⟨gb192, 0, none⟩ = some (.int .i64 a0_0) := (blk_cell BK192.out 0).trans rfl; have hcz40_1 : wr.cell? ⟨gb192, 1, none⟩ = some (.slice A0_1 l0_1.length c0_1) := (blk_cell BK192.out 1).trans rfl; have hcz40_2 : wr.cell? ⟨gb192, 2, none⟩ = some (.slice A0_2 l0_2.length c0_2) := (blk_cell BK192.out 2).trans rfl; have hfz40_0 := blk_frozen BK192.out 0; have hfz40_1 := blk_frozen BK192.out 1; have hfz40_2 := blk_frozen BK192.out 2; obtain ⟨Ao41, co41, eo41⟩ := Kd.R_slice HO_7.out; subst eo41
      go_wp2_with (first | (go_at_call 56; (with_reducible refine (spec_l6Close.calls k1 a0_0 _ _ l0_1 _ _ l0_2 _ _ x7_1 t196 _ ?side1 ?side2 ?side3 ?side4 ?side5 ?side6 A39.out).mono ?_); (case side1 => repeat (first | exact (Kd.C_below HR0_1.out HB.out) | (with_reducible refine Kd.C_alloc ?_ _) | (with_reducible refine Kd.C_drewN ?_ _) | (with_reducible refine Kd.C_drew ?_))); (case side2 => exact HC0_1.out); (case side3 => repeat (first | exact (Kd.C_below HR0_2.out HB.out) | (with_reducible refine Kd.C_alloc ?_ _) | (with_reducible refine Kd.C_drewN ?_ _) | (with_reducible refine Kd.C_drew ?_))); (case side4 => exact HC0_2.out); (case side5 => repeat (first | exact (Kd.R_reads' HO_7.out).2.2 | (with_reducible refine Kd.C_alloc ?_ _) | (with_reducible refine Kd.C_drewN ?_ _) | (with_reducible refine Kd.C_drew ?_))); (case side6 => exact (Kd.R_reads' HO_7.out).2.1); rintro e w42 ⟨v197, rfl, ho0, hb⟩; have HO198 := Aside0.mk (Kd.R_lower (Kd.R_new' ho0 (Kd.R_lt (by (with_reducible repeat (first | apply Kd.R_alloc | apply Kd.R_drewN | apply Kd.R_drew)); exact HO_7.out))) (below_size (by repeat (first | (with_reducible first | exact HB.out | apply below_alloc | apply pw_below_drewN | apply below_drew1 | refine below_set ?_ GE192.out) | exact HB.out)))); replace HO_7 := Aside0.mk (Kd.R_elder' (by (with_reducible repeat (first | apply Kd.R_alloc | apply Kd.R_drewN | apply Kd.R_drew)); exact HO_7.out) (Kd.R_base ho0) hb); replace BK192 := Aside0.mk (blk_below (g := gb192) (o := .cells #[.int .i64 a0_0, .slice A0_1 l0_1.length c0_1, .slice A0_2 l0_2.length c0_2] 36 (0, 0)) (by (with_reducible repeat (first | refine blk_drewN ?_ _ | refine blk_drew ?_ | refine blk_alloc ?_ _)); exact BK192.out) hb); replace HB := Aside0.mk (below_step (by repeat (first | (with_reducible first | exact HB.out | apply below_alloc | apply pw_below_drewN | apply below_drew1 | refine below_set ?_ GE192.out) | exact HB.out)) hb); (try clear hb); (try clear hb2); (try clear hk); (try clear hi); (try clear ho0)))
      go_ret
      exact ⟨_, by first | rfl | (simp [errW_none, errW_some] <;> rfl) | (simp [*, errW_none, errW_some] <;> rfl), by (with_reducible repeat (first | apply Kd.R_alloc | apply Kd.R_drewN | apply Kd.R_drew)); exact Kd.R_mono HO198.out (fun _ hk => trivial), by repeat (first | (with_reducible first | exact HB.out | apply below_alloc | apply pw_below_drewN | apply below_drew1 | refine below_set ?_ GE192.out) | exact HB.out)⟩
  ·rw [if_neg c5] at H
   exact absurd H (by simp)
 ·rw [if_neg c4] at H
  exact absurd H (by simp)

/-! ### spec_l7SameMarks: function 58 -/
def spec_l7SameMarks.l0 : Nat → List Bool → List Bool → Int → Option (Bool)
 | 0, _, _, _ => none
 | k + 1, x0, x1, x5 => if x5 < (x0.length : Int) then (if 0 ≤ x5 then (if x5 < (x1.length : Int) then (if ((rdOf false x0 x5) != (rdOf false x1 x5)) = true then (some false) else (spec_l7SameMarks.l0 k x0 x1 (wrap64 (x5 + 1)))) else (none)) else (none)) else (some true)
def spec_l7SameMarks.f (k : Nat) (l0 : List Bool) (l1 : List Bool) : Option (Bool) := spec_l7SameMarks.l0 k l0 l1 0
theorem spec_l7SameMarks.mono_l : ∀ k, (∀ y0 y1 y2, LeO (spec_l7SameMarks.l0 k y0 y1 y2) (spec_l7SameMarks.l0 (k + 1) y0 y1 y2))
 | 0 => fun _ _ _ r h => by simp [spec_l7SameMarks.l0] at h
 | k + 1 => by
  have ih0 := spec_l7SameMarks.mono_l k
  ·intro y0 y1 y2
   unfold spec_l7SameMarks.l0
   repeat' first
   | (with_reducible exact LeO.refl _)
   | exact ih0 _ _ _
   | exact LeO.none _
   | refine LeO.ite ?_ ?_
   | refine LeO.bind ?_ (fun _ => ?_)
theorem spec_l7SameMarks.mono : ∀ a0 a1 k, LeO (spec_l7SameMarks.f k a0 a1) (spec_l7SameMarks.f (k + 1) a0 a1) := by
 intro a0 a1 k
 have ih0 := spec_l7SameMarks.mono_l k
 unfold spec_l7SameMarks.f
 repeat' first
   | (with_reducible exact LeO.refl _)
   | exact ih0 _ _ _
   | exact LeO.none _
   | refine LeO.ite ?_ ?_
   | refine LeO.bind ?_ (fun _ => ?_)
set_option maxHeartbeats 8000000 in
set_option maxRecDepth 100000 in
theorem spec_l7SameMarks.calls (k : Nat) (A0 : Option Addr) (c0 : Nat) (l0 : List Bool) (A1 : Option Addr) (c1 : Nat) (l1 : List Bool) (r : Bool) (w : World) (hr0 : Kd.C Kd.bool w A0 l0.length l0) (hc0 : l0.length ≤ c0) (hr1 : Kd.C Kd.bool w A1 l1.length l1) (hc1 : l1.length ≤ c1) (h : spec_l7SameMarks.f k l0 l1 = some r) :
  Calls Try.prog 58 #[.slice A0 l0.length c0, .slice A1 l1.length c1] w fun e w' => e = .returned (.bool r) ∧ Drawn0 w w' := by
 have HR0 := Aside0.mk hr0
 have HC0 := Aside0.mk hc0
 clear hr0 hc0
 have HR1 := Aside0.mk hr1
 have HC1 := Aside0.mk hc1
 clear hr1 hc1
 have H : (spec_l7SameMarks.l0 k l0 l1 0) = some r := h
 clear h
 have H' := Aside0.mk H
 clear H
 go_enter Try.func58, Try.ntmps58
 go_wp2
 repeat (go_quiet (fail); try go_wp2)
 go_loopg [5] k (fun kq v5 w' => ∃ (x5_1 : Int), v5 = .int .i64 x5_1 ∧ Aside0 (spec_l7SameMarks.l0 kq l0 l1 x5_1 = some r) ∧ Aside0 (kq ≤ k) ∧ Drawn0 w w')
 case atStart => exact ⟨(0), (by first | rfl | (simp; done) | (simp [*]; done)), H', ⟨Nat.le_refl _⟩, by repeat (first | exact Drawn0.refl _ | apply Drawn0.step)⟩
 case round =>
  clear H'; (try clear c1); (try clear p2); obtain ⟨x5_1, rfl, HA, HK1, ⟨m1, rfl⟩⟩ := hrel
  cases gk with
  | zero => exact absurd HA.out (by simp [spec_l7SameMarks.l0])
  | succ k1 =>
   have H := HA.out; clear HA
   simp only [spec_l7SameMarks.l0] at H
   by_cases c3 : x5_1 < (l0.length : Int)
   ·rw [if_pos c3] at H
    have c3b0 : decide (x5_1 < (l0.length : Int)) = true := decide_eq_true c3; clear c3
    by_cases c4 : 0 ≤ x5_1
    ·rw [if_pos c4] at H
     have c4b0 : decide (0 ≤ x5_1) = true := decide_eq_true c4; clear c4
     by_cases c5 : x5_1 < (l1.length : Int)
     ·rw [if_pos c5] at H
      have c5b0 : decide (x5_1 < (l1.length : Int)) = true := decide_eq_true c5; clear c5
      by_cases c6 : ((rdOf false l0 x5_1) != (rdOf false l1 x5_1)) = true
      ·rw [if_pos c6] at H
       have c6b0 : ((rdOf false l0 x5_1) != (rdOf false l1 x5_1)) = true := c6; (try (have c6b1 : decide ((rdOf false l0 x5_1) = (rdOf false l1 x5_1)) = false := by simpa using c6)); (try (have c6b2 : ((rdOf false l0 x5_1) == (rdOf false l1 x5_1)) = false := by simpa using c6)); (try (have c6b3 : ¬ ((rdOf false l0 x5_1) = (rdOf false l1 x5_1)) := by simpa using c6)); clear c6; obtain rfl := Option.some.inj H; have p206 : 0 ≤ (x5_1 : Int) := of_decide_eq_true (by assumption); have q206 : x5_1 < (l0.length : Int) := of_decide_eq_true (by assumption); obtain ⟨ad206, e206, hx206_0⟩ := Kd.at_bool HR0.out x5_1 p206 q206; cases e206; replace p206 := eq_true p206; replace q206 := eq_true q206; have p207 : 0 ≤ (x5_1 : Int) := of_decide_eq_true (by assumption); have q207 : x5_1 < (l1.length : Int) := of_decide_eq_true (by assumption); obtain ⟨ad207, e207, hx207_0⟩ := Kd.at_bool HR1.out x5_1 p207 q207; cases e207; replace p207 := eq_true p207; replace q207 := eq_true q207
       go_wp2
       repeat (go_quiet (fail); try go_wp2)
       go_ret
       exact ⟨by first | rfl | (simp; done) | (simp [*]; done), by repeat (first | exact Drawn0.refl _ | apply Drawn0.step)⟩
      ·rw [if_neg c6] at H
       have c6b0 : ((rdOf false l0 x5_1) != (rdOf false l1 x5_1)) = false := by simpa using c6
       (try (have c6b1 : decide ((rdOf false l0 x5_1) = (rdOf false l1 x5_1)) = true := by simpa using c6)); (try (have c6b2 : ((rdOf false l0 x5_1) == (rdOf false l1 x5_1)) = true := by simpa using c6)); clear c6; have H' := Aside0.mk H; clear H; have p206 : 0 ≤ (x5_1 : Int) := of_decide_eq_true (by assumption); have q206 : x5_1 < (l0.length : Int) := of_decide_eq_true (by assumption); obtain ⟨ad206, e206, hx206_0⟩ := Kd.at_bool HR0.out x5_1 p206 q206; cases e206; replace p206 := eq_true p206; replace q206 := eq_true q206; have p207 : 0 ≤ (x5_1 : Int) := of_decide_eq_true (by assumption); have q207 : x5_1 < (l1.length : Int) := of_decide_eq_true (by assumption); obtain ⟨ad207, e207, hx207_0⟩ := Kd.at_bool HR1.out x5_1 p207 q207; cases e207; replace p207 := eq_true p207; replace q207 := eq_true q207
       go_wp2
       repeat (go_quiet (fail); try go_wp2)
       go_roundg k1
       case measure => have := HK1.out; omega
       case rel => exact ⟨(wrap64 (x5_1 + 1)), (by first | rfl | (simp; done) | (simp [*]; done)), H', ⟨by have := HK1.out; omega⟩, by repeat (first | exact Drawn0.refl _ | apply Drawn0.step)⟩
     ·rw [if_neg c5] at H
      exact absurd H (by simp)
    ·rw [if_neg c4] at H
     exact absurd H (by simp)
   ·rw [if_neg c3] at H
    have c3b0 : decide (x5_1 < (l0.length : Int)) = false := decide_eq_false c3; clear c3; obtain rfl := Option.some.inj H
    go_wp2
    repeat (go_quiet (fail); try go_wp2)
    go_ret
    exact ⟨by first | rfl | (simp; done) | (simp [*]; done), by repeat (first | exact Drawn0.refl _ | apply Drawn0.step)⟩

/-! ### spec_l7Accept: function 59 -/
def spec_l7Accept.l0 : Nat → List Bool → Int → Int → List (S85) → List (S156) → Option (Int)
 | 0, _, _, _, _, _ => none
 | k + 1, x1, x5, x209000, x209001, x209002 => if x5 < (x209002.length : Int) then (if 0 ≤ x5 then (if 0 ≤ ((rd_T156 x209002 x5).f0) then (if ((rd_T156 x209002 x5).f0) < (x1.length : Int) then (if rdOf false x1 ((rd_T156 x209002 x5).f0) = true then (some ((rd_T156 x209002 x5).f1)) else (spec_l7Accept.l0 k x1 (wrap64 (x5 + 1)) x209000 x209001 x209002)) else (none)) else (none)) else (none)) else (some (-1))
def spec_l7Accept.f (k : Nat) (a0_0 : Int) (l0_1 : List (S85)) (l0_2 : List (S156)) (l1 : List Bool) : Option (Int) := spec_l7Accept.l0 k l1 0 a0_0 l0_1 l0_2
theorem spec_l7Accept.mono_l : ∀ k, (∀ y0 y1 y2 y3 y4, LeO (spec_l7Accept.l0 k y0 y1 y2 y3 y4) (spec_l7Accept.l0 (k + 1) y0 y1 y2 y3 y4))
 | 0 => fun _ _ _ _ _ r h => by simp [spec_l7Accept.l0] at h
 | k + 1 => by
  have ih0 := spec_l7Accept.mono_l k
  ·intro y0 y1 y2 y3 y4
   unfold spec_l7Accept.l0
   repeat' first
   | (with_reducible exact LeO.refl _)
   | exact ih0 _ _ _ _ _
   | exact LeO.none _
   | refine LeO.ite ?_ ?_
   | refine LeO.bind ?_ (fun _ => ?_)
theorem spec_l7Accept.mono : ∀ a0 a1 a2 a3 k, LeO (spec_l7Accept.f k a0 a1 a2 a3) (spec_l7Accept.f (k + 1) a0 a1 a2 a3) := by
 intro a0 a1 a2 a3 k
 have ih0 := spec_l7Accept.mono_l k
 unfold spec_l7Accept.f
 repeat' first
   | (with_reducible exact LeO.refl _)
   | exact ih0 _ _ _ _ _
   | exact LeO.none _
   | refine LeO.ite ?_ ?_
   | refine LeO.bind ?_ (fun _ => ?_)
set_option maxHeartbeats 8000000 in
set_option maxRecDepth 100000 in
theorem spec_l7Accept.calls (k : Nat) (a0_0 : Int) (A0_1 : Option Addr) (c0_1 : Nat) (l0_1 : List (S85)) (A0_2 : Option Addr) (c0_2 : Nat) (l0_2 : List (S156)) (A1 : Option Addr) (c1 : Nat) (l1 : List Bool) (r : Int) (w : World) (hr0_1 : Kd.C k85 w A0_1 l0_1.length l0_1) (hc0_1 : l0_1.length ≤ c0_1) (hr0_2 : Kd.C k156 w A0_2 l0_2.length l0_2) (hc0_2 : l0_2.length ≤ c0_2) (hr1 : Kd.C Kd.bool w A1 l1.length l1) (hc1 : l1.length ≤ c1) (h : spec_l7Accept.f k a0_0 l0_1 l0_2 l1 = some r) :
  Calls Try.prog 59 #[.agg #[.int .i64 a0_0, .slice A0_1 l0_1.length c0_1, .slice A0_2 l0_2.length c0_2], .slice A1 l1.length c1] w fun e w' => e = .returned (.int .i64 r) ∧ Below w.heap.size w w' := by
 have hu36 := Try.underlying36
 have HR0_1 := Aside0.mk hr0_1
 have HC0_1 := Aside0.mk hc0_1
 clear hr0_1 hc0_1
 have HR0_2 := Aside0.mk hr0_2
 have HC0_2 := Aside0.mk hc0_2
 clear hr0_2 hc0_2
 have HR1 := Aside0.mk hr1
 have HC1 := Aside0.mk hc1
 clear hr1 hc1
 have HB := Aside0.mk (Below.refl w.heap.size w)
 have H : (spec_l7Accept.l0 k l1 0 a0_0 l0_1 l0_2) = some r := h
 clear h
 have H' := Aside0.mk H
 clear H
 go_enter Try.func59, Try.ntmps59
 go_wp2_with (first | ((with_reducible refine gate_dst (N := 2) rfl ?_); refine box_event ?hg (N := 2) ?hd (cs := #[.int .i64 a0_0, .slice A0_1 l0_1.length c0_1, .slice A0_2 l0_2.length c0_2]) (t := 36) ?hr ?_; (case hd => rfl); (case hg => rfl); (case hr => first | (go_simp; done) | (go_simp; rfl)); intro gb208 hg w3 hbox hb; have BK208 := Aside0.mk (hbox); have GW208 := Aside0.mk ((by rw [hg]; exact (below_size (by repeat (first | (with_reducible first | exact HB.out | apply below_alloc | apply pw_below_drewN | apply below_drew1) | exact HB.out))) : w.heap.size ≤ gb208)); have GE208 := Aside0.mk ((by rw [hg]; exact (below_size (by repeat (first | (with_reducible first | exact HB.out | apply below_alloc | apply pw_below_drewN | apply below_drew1) | exact HB.out))) : w.heap.size ≤ gb208)); replace HB := Aside0.mk (below_step (by repeat (first | (with_reducible first | exact HB.out | apply below_alloc | apply pw_below_drewN | apply below_drew1) | exact HB.out)) hb); clear hb hbox hg))
 go_loopg [5] k (fun kq v5 w' => ∃ (x5_1 : Int), v5 = .int .i64 x5_1 ∧ Aside0 (spec_l7Accept.l0 kq l1 x5_1 a0_0 l0_1 l0_2 = some r) ∧ Aside0 (kq ≤ k) ∧ Aside0 (w'.heap[gb208]? = some (.cells #[.int .i64 a0_0, (.slice A0_1 l0_1.length c0_1), (.slice A0_2 l0_2.length c0_2)] 36 (0, 0))) ∧ Aside0 (Below w.heap.size w w'))
 case atStart => exact ⟨(0), (by first | rfl | (simp; done) | (simp [*]; done)), H', ⟨Nat.le_refl _⟩, ⟨by (with_reducible repeat (first | refine blk_drewN ?_ _ | refine blk_drew ?_ | refine blk_alloc ?_ _)); exact BK208.out⟩, ⟨by repeat (first | (with_reducible first | exact HB.out | apply below_alloc | apply pw_below_drewN | apply below_drew1 | refine below_set ?_ GE208.out) | exact HB.out)⟩⟩
 case round =>
  clear H'; (try clear c1); (try clear p2); obtain ⟨x5_1, rfl, HA, HK1, BK208, HB⟩ := hrel
  cases gk with
  | zero => exact absurd HA.out (by simp [spec_l7Accept.l0])
  | succ k1 =>
   have H := HA.out; clear HA
   simp only [spec_l7Accept.l0] at H
   by_cases c4 : x5_1 < (l0_2.length : Int)
   ·rw [if_pos c4] at H
    have c4b0 : decide (x5_1 < (l0_2.length : Int)) = true := decide_eq_true c4; clear c4
    by_cases c5 : 0 ≤ x5_1
    ·rw [if_pos c5] at H
     have c5b0 : decide (0 ≤ x5_1) = true := decide_eq_true c5; clear c5
     by_cases c6 : 0 ≤ ((rd_T156 l0_2 x5_1).f0)
     ·rw [if_pos c6] at H
      have c6b0 : decide (0 ≤ ((rd_T156 l0_2 x5_1).f0)) = true := decide_eq_true c6; clear c6
      by_cases c7 : ((rd_T156 l0_2 x5_1).f0) < (l1.length : Int)
      ·rw [if_pos c7] at H
       have c7b0 : decide (((rd_T156 l0_2 x5_1).f0) < (l1.length : Int)) = true := decide_eq_true c7; clear c7; obtain ⟨bq8, hbq8⟩ : ∃ b_ : Bool, b_ = (rdOf false l1 ((rd_T156 l0_2 x5_1).f0)) := ⟨_, rfl⟩
       replace H : (if bq8 = true then (some ((rd_T156 l0_2 x5_1).f1)) else (spec_l7Accept.l0 k1 l1 (wrap64 (x5_1 + 1)) a0_0 l0_1 l0_2)) = some r := by rw [← hbq8] at H; exact H
       have Nbq8 := Aside0.mk hbq8; clear hbq8
       by_cases c9 : bq8 = true
       ·subst c9
        have H1 : (some ((rd_T156 l0_2 x5_1).f1)) = some r := by rw [if_pos rfl] at H; exact H
        clear H; have H := H1; clear H1; obtain rfl := Option.some.inj H; have hcz10_0 : wr.cell? ⟨gb208, 0, none⟩ = some (.int .i64 a0_0) := (blk_cell BK208.out 0).trans rfl; have hcz10_1 : wr.cell? ⟨gb208, 1, none⟩ = some (.slice A0_1 l0_1.length c0_1) := (blk_cell BK208.out 1).trans rfl; have hcz10_2 : wr.cell? ⟨gb208, 2, none⟩ = some (.slice A0_2 l0_2.length c0_2) := (blk_cell BK208.out 2).trans rfl; have hfz10_0 := blk_frozen BK208.out 0; have hfz10_1 := blk_frozen BK208.out 1; have hfz10_2 := blk_frozen BK208.out 2; have p209 : 0 ≤ (x5_1 : Int) := of_decide_eq_true (by assumption); have q209 : x5_1 < (l0_2.length : Int) := of_decide_eq_true (by assumption); obtain ⟨ad209, e209, hx209_0, hx209_1⟩ := at_T156 HR0_2.out x5_1 p209 q209; cases e209; replace hx209_0 := (HB.out.cell (World.block_lt_of_cell? w _ hx209_0)).trans hx209_0; replace hx209_1 := (HB.out.cell (World.block_lt_of_cell? w _ hx209_1)).trans hx209_1; replace p209 := eq_true p209; replace q209 := eq_true q209; have p210 : 0 ≤ (((rd_T156 l0_2 x5_1).f0) : Int) := of_decide_eq_true (by assumption); have q210 : ((rd_T156 l0_2 x5_1).f0) < (l1.length : Int) := of_decide_eq_true (by assumption); obtain ⟨ad210, e210, hx210_0⟩ := Kd.at_bool HR1.out ((rd_T156 l0_2 x5_1).f0) p210 q210; (try rw [← Nbq8.out] at hx210_0); cases e210; replace hx210_0 := (HB.out.cell (World.block_lt_of_cell? w _ hx210_0)).trans hx210_0; replace p210 := eq_true p210; replace q210 := eq_true q210; have p211 : 0 ≤ (x5_1 : Int) := of_decide_eq_true (by assumption); have q211 : x5_1 < (l0_2.length : Int) := of_decide_eq_true (by assumption); obtain ⟨ad211, e211, hx211_0, hx211_1⟩ := at_T156 HR0_2.out x5_1 p211 q211; obtain rfl : ad209 = ad211 := (by injection e211); replace hx211_0 := (HB.out.cell (World.block_lt_of_cell? w _ hx211_0)).trans hx211_0; replace hx211_1 := (HB.out.cell (World.block_lt_of_cell? w _ hx211_1)).trans hx211_1; replace p211 := eq_true p211; replace q211 := eq_true q211
        go_wp2
        go_ret
        exact ⟨by first | rfl | (simp [errW_none, errW_some] <;> rfl) | (simp [*, errW_none, errW_some] <;> rfl), by repeat (first | (with_reducible first | exact HB.out | apply below_alloc | apply pw_below_drewN | apply below_drew1 | refine below_set ?_ GE208.out) | exact HB.out)⟩
       ·replace c9 := Bool.eq_false_iff.mpr c9
        subst c9
        have H1 : (spec_l7Accept.l0 k1 l1 (wrap64 (x5_1 + 1)) a0_0 l0_1 l0_2) = some r := by rw [if_neg (show ¬ (false = true) by decide)] at H; exact H
        clear H; have H := H1; clear H1; have H' := Aside0.mk H; clear H; have hcz11_0 : wr.cell? ⟨gb208, 0, none⟩ = some (.int .i64 a0_0) := (blk_cell BK208.out 0).trans rfl; have hcz11_1 : wr.cell? ⟨gb208, 1, none⟩ = some (.slice A0_1 l0_1.length c0_1) := (blk_cell BK208.out 1).trans rfl; have hcz11_2 : wr.cell? ⟨gb208, 2, none⟩ = some (.slice A0_2 l0_2.length c0_2) := (blk_cell BK208.out 2).trans rfl; have hfz11_0 := blk_frozen BK208.out 0; have hfz11_1 := blk_frozen BK208.out 1; have hfz11_2 := blk_frozen BK208.out 2; have p209 : 0 ≤ (x5_1 : Int) := of_decide_eq_true (by assumption); have q209 : x5_1 < (l0_2.length : Int) := of_decide_eq_true (by assumption); obtain ⟨ad209, e209, hx209_0, hx209_1⟩ := at_T156 HR0_2.out x5_1 p209 q209; cases e209; replace hx209_0 := (HB.out.cell (World.block_lt_of_cell? w _ hx209_0)).trans hx209_0; replace hx209_1 := (HB.out.cell (World.block_lt_of_cell? w _ hx209_1)).trans hx209_1; replace p209 := eq_true p209; replace q209 := eq_true q209; have p210 : 0 ≤ (((rd_T156 l0_2 x5_1).f0) : Int) := of_decide_eq_true (by assumption); have q210 : ((rd_T156 l0_2 x5_1).f0) < (l1.length : Int) := of_decide_eq_true (by assumption); obtain ⟨ad210, e210, hx210_0⟩ := Kd.at_bool HR1.out ((rd_T156 l0_2 x5_1).f0) p210 q210; (try rw [← Nbq8.out] at hx210_0); cases e210; replace hx210_0 := (HB.out.cell (World.block_lt_of_cell? w _ hx210_0)).trans hx210_0; replace p210 := eq_true p210; replace q210 := eq_true q210
        go_wp2
        go_roundg k1
        case measure => have := HK1.out; omega
        case rel => exact ⟨(wrap64 (x5_1 + 1)), (by first | rfl | (simp; done) | (simp [*]; done)), H', ⟨by have := HK1.out; omega⟩, ⟨by (with_reducible repeat (first | refine blk_drewN ?_ _ | refine blk_drew ?_ | refine blk_alloc ?_ _)); exact BK208.out⟩, ⟨by repeat (first | (with_reducible first | exact HB.out | apply below_alloc | apply pw_below_drewN | apply below_drew1 | refine below_set ?_ GE208.out) | exact HB.out)⟩⟩
      ·rw [if_neg c7] at H
       exact absurd H (by simp)
     ·rw [if_neg c6] at H
      exact absurd H (by simp)
    ·rw [if_neg c5] at H
     exact absurd H (by simp)
   ·rw [if_neg c4] at H
    have c4b0 : decide (x5_1 < (l0_2.length : Int)) = false := decide_eq_false c4; clear c4; obtain rfl := Option.some.inj H; have hcz12_0 : wr.cell? ⟨gb208, 0, none⟩ = some (.int .i64 a0_0) := (blk_cell BK208.out 0).trans rfl; have hcz12_1 : wr.cell? ⟨gb208, 1, none⟩ = some (.slice A0_1 l0_1.length c0_1) := (blk_cell BK208.out 1).trans rfl; have hcz12_2 : wr.cell? ⟨gb208, 2, none⟩ = some (.slice A0_2 l0_2.length c0_2) := (blk_cell BK208.out 2).trans rfl; have hfz12_0 := blk_frozen BK208.out 0; have hfz12_1 := blk_frozen BK208.out 1; have hfz12_2 := blk_frozen BK208.out 2
    go_wp2
    go_ret
    exact ⟨by first | rfl | (simp [errW_none, errW_some] <;> rfl) | (simp [*, errW_none, errW_some] <;> rfl), by repeat (first | (with_reducible first | exact HB.out | apply below_alloc | apply pw_below_drewN | apply below_drew1 | refine below_set ?_ GE208.out) | exact HB.out)⟩

end Go.Proofs.Ytfajfjgkkgigoaa.PFnDead
