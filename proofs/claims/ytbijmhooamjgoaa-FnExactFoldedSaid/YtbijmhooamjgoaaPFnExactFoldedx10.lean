-- Written by this session's own program (wip/pr.py) over the kit's printer; contracts that the printer does not know are given by hand.
import Derived.Test.YtbijmhooamjgoaaPFnExactFoldedx0
import Derived.Test.YtbijmhooamjgoaaPFnExactFoldedx4
import Derived.Test.YtbijmhooamjgoaaPFnExactFoldedx8
import Derived.Test.YtbijmhooamjgoaaPFnExactFoldedx9
namespace Go.Proofs.Ytbijmhooamjgoaa.PFnExactFolded
open Go.RowKit Go.Proofs.YtbijmhooamjgoaaW.PrintWords Go.Proofs.YtbijmhooamjgoaaW.PrintLast Go.Proofs.YtbijmhooamjgoaaW.PrintMore
attribute [local go_sem] max2_int min2_int max_two min_two max_three min_three max_four min_four   -- for this text's walks alone
set_option linter.unusedVariables false
set_option linter.unusedSimpArgs false

/-! ### impl_folded: function 152 -/
section
open Go.Proofs.Ytbijmhooamjgoaa.Kit (flags flags_size flags_get flags_one)
set_option maxHeartbeats 8000000 in
set_option maxRecDepth 100000 in
theorem impl_class.calls (k : Nat) (l0 : List Bool) (r : List S33) (w : World) (hl : l0.length = 256) (h : spec_l1Class.f k l0 = some r) :
    Calls Try.prog 193 #[.agg (flags l0)] w fun e w' => ∃ v0_ : Value, e = .returned (v0_) ∧ Kd.R k33 33 w' w.heap.size (fun _ => True) v0_ r ∧ Below w.heap.size w w' := by
  have hu33 := Try.underlying33
  have HL := Aside0.mk hl
  have HB0 := Aside0.mk (((Below.refl w.heap.size w).alloc (Nat.le_refl _) (.cells (flags l0) 131)) : Below w.heap.size w (w.alloc (.cells (flags l0) 131)))
  have HX0 := Aside0.mk (show (w.alloc (.cells (flags l0) 131)).heap[w.heap.size]? = some (.cells (flags l0) 131 (0, 0)) from heap_alloc_new _ _)
  have HS0 := Aside0.mk (show (w.alloc (.cells (flags l0) 131)).heap.size = w.heap.size + 1 by simp)
  have HE0 := Aside0.mk (show (flags l0).size = 256 by rw [flags_size, hl])
  clear hl
  have H : (spec_l1Class.l0 k l0 (([] : List (S33))) 0) = some r := h
  clear h
  obtain ⟨y106, hy106⟩ : ∃ y_ : List (S33), y_ = (([] : List (S33))) := ⟨_, rfl⟩
  replace H : (spec_l1Class.l0 k l0 y106 0) = some r := by first | (rw [hy106]; with_reducible exact H) | (have H2_ := (Option.bind_some _ _).symm.trans H; rw [hy106]; with_reducible exact H2_) | (have H2_ := (Option.bind_some _ _).symm.trans H; with_reducible exact H2_) | with_reducible exact H | (rw [hy106]; exact H) | exact H
  have Ny106 := Aside0.mk hy106
  clear hy106
  have H' := Aside0.mk H
  clear H
  go_enter Try.func193, Try.ntmps193
  go_wp2_with (first | ((with_reducible refine gate_dst (N := 6) rfl ?_); (try (refine gate_guard (by rfl) ?_; dsimp only)); (generalize (w.alloc (.cells (flags l0) 131)) = w1 at *); have HB := Aside0.mk (Below.refl w1.heap.size w1); refine Kd.R_lit k33 _ 33 ?hg (N := 6) ?hd (xs := ([] : List (S33))) (inner := []) (ok := fun _ => True) (okp := fun _ => True) ?hr ?hp (fun _ hk => hk) trivial (Below.refl _ _) (Nat.le_refl _) (by simp) ?_; (case hd => rfl); (case hg => rfl); (case hr => first | (go_simp; done) | (go_simp; rfl)); (case hp => exact (Reps.none _ _)); intro v107 w2 ho3 hb hg_ hnew_; clear hg_ hnew_; (first | rw [← Ny106.out] at ho3 | (simp only [Int.reduceToNat] at ho3; rw [← Ny106.out] at ho3)); have HO108 := Aside0.mk (Kd.R_lower ho3 (below_size (by repeat (first | (with_reducible first | exact HB.out | apply below_alloc | apply pw_below_drewN | apply below_drew1) | exact HB.out)))); replace HB := Aside0.mk (below_step (by repeat (first | (with_reducible first | exact HB.out | apply below_alloc | apply pw_below_drewN | apply below_drew1) | exact HB.out)) hb); clear hb ho3))
  go_loopg [3, 7] k (fun kq v3 v7 w' => ∃ (x3_1 : List (S33)) (x4_1 : Int), v7 = .int .i64 x4_1 ∧ Aside0 (spec_l1Class.l0 kq l0 x3_1 x4_1 = some r) ∧ Aside0 (kq ≤ k) ∧ Aside0 (Kd.R k33 33 w' w1.heap.size (fun _ => True) v3 x3_1) ∧ Aside0 (Below w1.heap.size w1 w'))
  case atStart => exact ⟨(y106), (0), (by first | rfl | (simp; done) | (simp [*]; done)), H', ⟨Nat.le_refl _⟩, ⟨by (with_reducible repeat (first | apply Kd.R_alloc | apply Kd.R_drewN | apply Kd.R_drew)); exact HO108.out⟩, ⟨by repeat (first | (with_reducible first | exact HB.out | apply below_alloc | apply pw_below_drewN | apply below_drew1) | exact HB.out)⟩⟩
  case round =>
    clear H'; (try clear p2); obtain ⟨x3_1, x4_1, rfl, HA, HK1, HO_3, HB⟩ := hrel
    cases gk with
    | zero => exact absurd HA.out (by simp [spec_l1Class.l0])
    | succ k1 =>
      have H := HA.out; clear HA
      simp only [spec_l1Class.l0] at H
      by_cases c4 : x4_1 < 256
      · rw [if_pos c4] at H
        have c4b0 : decide (x4_1 < 256) = true := decide_eq_true c4; clear c4
        by_cases c5 : 0 ≤ x4_1
        · rw [if_pos c5] at H
          have c5b0 : decide (0 ≤ x4_1) = true := decide_eq_true c5; clear c5
          by_cases c6 : x4_1 < (l0.length : Int)
          · rw [if_pos c6] at H
            have c6b0 : decide (x4_1 < (l0.length : Int)) = true := decide_eq_true c6; clear c6; obtain ⟨bq7, hbq7⟩ : ∃ b_ : Bool, b_ = (rdOf false l0 x4_1) := ⟨_, rfl⟩
            replace H : (if bq7 = true then (if (x3_1.length : Int) > 0 then (if 0 ≤ (wrap64 ((x3_1.length : Int) - 1)) then (if (wrap64 ((x3_1.length : Int) - 1)) < (x3_1.length : Int) then (if ((rd_T33 x3_1 (wrap64 ((x3_1.length : Int) - 1))).f1) = (wrap64 (x4_1 - 1)) then (spec_l1Class.l0 k1 l0 (x3_1.set ((wrap64 ((x3_1.length : Int) - 1)) : Int).toNat (⟨(rd_T33 x3_1 (wrap64 ((x3_1.length : Int) - 1))).f0, x4_1⟩ : S33)) (wrap64 (x4_1 + 1))) else (if x3_1.length < 8796093022208 then (spec_l1Class.l0 k1 l0 (x3_1 ++ [(⟨x4_1, x4_1⟩ : S33)]) (wrap64 (x4_1 + 1))) else (none))) else (none)) else (none)) else (if x3_1.length < 8796093022208 then (spec_l1Class.l0 k1 l0 (x3_1 ++ [(⟨x4_1, x4_1⟩ : S33)]) (wrap64 (x4_1 + 1))) else (none))) else (spec_l1Class.l0 k1 l0 x3_1 (wrap64 (x4_1 + 1)))) = some r := by rw [← hbq7] at H; exact H
            have Nbq7 := Aside0.mk hbq7; clear hbq7
            by_cases c8 : bq7 = true
            · subst c8
              have H1 : (if (x3_1.length : Int) > 0 then (if 0 ≤ (wrap64 ((x3_1.length : Int) - 1)) then (if (wrap64 ((x3_1.length : Int) - 1)) < (x3_1.length : Int) then (if ((rd_T33 x3_1 (wrap64 ((x3_1.length : Int) - 1))).f1) = (wrap64 (x4_1 - 1)) then (spec_l1Class.l0 k1 l0 (x3_1.set ((wrap64 ((x3_1.length : Int) - 1)) : Int).toNat (⟨(rd_T33 x3_1 (wrap64 ((x3_1.length : Int) - 1))).f0, x4_1⟩ : S33)) (wrap64 (x4_1 + 1))) else (if x3_1.length < 8796093022208 then (spec_l1Class.l0 k1 l0 (x3_1 ++ [(⟨x4_1, x4_1⟩ : S33)]) (wrap64 (x4_1 + 1))) else (none))) else (none)) else (none)) else (if x3_1.length < 8796093022208 then (spec_l1Class.l0 k1 l0 (x3_1 ++ [(⟨x4_1, x4_1⟩ : S33)]) (wrap64 (x4_1 + 1))) else (none))) = some r := by rw [if_pos rfl] at H; exact H
              clear H; have H := H1; clear H1
              by_cases c9 : (x3_1.length : Int) > 0
              · rw [if_pos c9] at H
                have c9b0 : decide (0 < (x3_1.length : Int)) = true := decide_eq_true c9; have c9b1 : decide (0 < x3_1.length) = true := decide_eq_true (by omega); clear c9; obtain ⟨ji10, hji10⟩ : ∃ j_ : Int, (wrap64 ((x3_1.length : Int) - 1)) = j_ := ⟨_, rfl⟩
                replace H : (if 0 ≤ (ji10) then (if (ji10) < (x3_1.length : Int) then (if ((rd_T33 x3_1 (ji10)).f1) = (wrap64 (x4_1 - 1)) then (spec_l1Class.l0 k1 l0 (x3_1.set ((ji10) : Int).toNat (⟨(rd_T33 x3_1 (ji10)).f0, x4_1⟩ : S33)) (wrap64 (x4_1 + 1))) else (if x3_1.length < 8796093022208 then (spec_l1Class.l0 k1 l0 (x3_1 ++ [(⟨x4_1, x4_1⟩ : S33)]) (wrap64 (x4_1 + 1))) else (none))) else (none)) else (none)) = some r := by first | (rw [hji10] at H; exact H) | (simp only [hji10] at H ⊢; exact H)
                have hji10w : (IntKind.i64.wrap ((x3_1.length : Int) - 1)) = ji10 := (i64_w _).trans hji10
                by_cases c11 : 0 ≤ (ji10)
                · rw [if_pos c11] at H
                  have c11b0 : decide (0 ≤ (ji10)) = true := decide_eq_true c11; clear c11
                  by_cases c12 : (ji10) < (x3_1.length : Int)
                  · rw [if_pos c12] at H
                    have c12b0 : decide ((ji10) < (x3_1.length : Int)) = true := decide_eq_true c12; clear c12
                    by_cases c13 : ((rd_T33 x3_1 (ji10)).f1) = (wrap64 (x4_1 - 1))
                    · rw [if_pos c13] at H
                      have c13b0 : (((rd_T33 x3_1 (ji10)).f1) == (wrap64 (x4_1 - 1))) = true := beq_iff_eq.mpr c13; have c13b1 : (((rd_T33 x3_1 (ji10)).f1) != (wrap64 (x4_1 - 1))) = false := bne_eq_false_iff_eq.mpr c13; clear c13; obtain ⟨y111, hy111⟩ : ∃ y_ : List (S33), y_ = (x3_1.set ((ji10) : Int).toNat (⟨(rd_T33 x3_1 (ji10)).f0, x4_1⟩ : S33)) := ⟨_, rfl⟩
                      replace H : (spec_l1Class.l0 k1 l0 y111 (wrap64 (x4_1 + 1))) = some r := by first | (rw [hy111]; with_reducible exact H) | (have H2_ := (Option.bind_some _ _).symm.trans H; rw [hy111]; with_reducible exact H2_) | (have H2_ := (Option.bind_some _ _).symm.trans H; with_reducible exact H2_) | with_reducible exact H | (rw [hy111]; exact H) | exact H
                      have Ny111 := Aside0.mk hy111; clear hy111; have H' := Aside0.mk H; clear H; have p109 : 0 ≤ (x4_1 : Int) := of_decide_eq_true (by assumption); have q109 : x4_1 < (l0.length : Int) := of_decide_eq_true (by assumption); have q109b : (x4_1 < 256) = True := eq_true (by have := HL.out; omega); have hx109_0 : w1.cell? ⟨w.heap.size, x4_1.toNat, none⟩ = some (.bool (rdOf false l0 x4_1)) := (blk_cell HX0.out x4_1.toNat).trans (flags_get l0 _ (by have := HL.out; omega)); (try rw [← Nbq7.out] at hx109_0); replace hx109_0 := (HB.out.cell (World.block_lt_of_cell? w1 _ hx109_0)).trans hx109_0; replace p109 := eq_true p109; replace q109 := eq_true q109; obtain ⟨Ao15, co15, eo15⟩ := Kd.R_slice HO_3.out; subst eo15; have p110 : 0 ≤ ((ji10) : Int) := of_decide_eq_true (by assumption); have q110 : (ji10) < (x3_1.length : Int) := of_decide_eq_true (by assumption); obtain ⟨ad110, e110, hx110_0, hx110_1⟩ := at_T33 (Kd.R_reads' HO_3.out).2.2 (ji10) p110 q110; cases e110; replace p110 := eq_true p110; replace q110 := eq_true q110; have p14 : 0 ≤ ((ji10) : Int) := of_decide_eq_true (by assumption); have q14 : ((ji10) : Int) < ((x3_1.length : Int) : Int) := of_decide_eq_true (by assumption); obtain ⟨go14, co14, eo14, gb14, gl14, cl14, HG14⟩ := Kd.R_form HO_3.out (by omega)
                      (first | cases eo14 | (injection eo14 with ea_ en_ ec_; (first | subst ea_ | (injection ea_ with ea_; subst ea_)); subst ec_; clear en_))
                      have GB14 := Aside0.mk gb14; have GG14 := Aside0.mk HG14; clear gb14 gl14 HG14
                      (first | simp only [add_plain] at hx110_0 | skip)
                      (first | simp only [add_plain] at hx110_1 | skip)
                      obtain ⟨ce14, hcl14, hM14, hcc14, hfr14⟩ := Kd.R_elem HO_3.out z33 ((ji10) : Int) p14 q14; obtain rfl := k33_openM hM14; have hx14_0 : wr.cell? ⟨go14, ((ji10) : Int).toNat * 2, none⟩ = some (.int .i64 ((rd_T33 x3_1 (ji10)).f0)) := hcc14 0 _ rfl; have hx14_1 : wr.cell? ⟨go14, ((ji10) : Int).toNat * 2 + 1, none⟩ = some (.int .i64 ((rd_T33 x3_1 (ji10)).f1)) := hcc14 1 _ rfl; have hf14_0 : wr.frozen? ⟨go14, ((ji10) : Int).toNat * 2, none⟩ = false := hfr14 0; have hf14_1 : wr.frozen? ⟨go14, ((ji10) : Int).toNat * 2 + 1, none⟩ = false := hfr14 1; clear hcl14 hcc14 hfr14 hM14; replace p14 := eq_true p14; replace q14 := eq_true q14; have HX16 := Aside0.mk (show Kd.R k33 33 wr w1.heap.size (fun _ => True) (.slice (some ⟨go14, 0, none⟩) x3_1.length co15) x3_1 from (by (with_reducible repeat (first | apply Kd.R_alloc | apply Kd.R_drewN | apply Kd.R_drew)); exact HO_3.out)); obtain ⟨ce16, hcl16, hM16, hcc16, hfr16⟩ := Kd.R_elem HX16.out z33 ((ji10) : Int) (of_decide_eq_true (by assumption)) (by have h_ : ((ji10) : Int) < ((x3_1.length : Int) : Int) := of_decide_eq_true (by assumption); first | exact h_ | (have e_ := (Kd.R_reads' HO_3.out).1; omega) | simpa using h_); obtain rfl := k33_openM hM16; have HP16 := Kd.R_seg HX16.out ((ji10) : Int) (of_decide_eq_true (by assumption)) (by have h_ : ((ji10) : Int) < ((x3_1.length : Int) : Int) := of_decide_eq_true (by assumption); first | exact h_ | (have e_ := (Kd.R_reads' HO_3.out).1; omega) | simpa using h_) (seg := [.int .i64 x4_1]) (j := 1) hcl16 hcc16 (show 2 ≤ 2 from by decide) (x' := (⟨(rd_T33 x3_1 (ji10)).f0, x4_1⟩ : S33)) (k33_mkM _ _ _ (⟨(rd_T33 x3_1 (ji10)).f0, x4_1⟩ : S33) ) (fun _ hk => hk); have hx16_1 := hcc16 1 _ rfl; (try simp only [show (k33).sz = 2 from rfl, Nat.mul_one, Nat.add_zero] at hx16_1); have hf16_1 := hfr16 1; (try simp only [show (k33).sz = 2 from rfl, Nat.mul_one, Nat.add_zero] at hf16_1); clear hcl16 hcc16 hfr16 hM16
                      go_wp2_with (first | ((with_reducible refine gate_store (t := 2) (p := 41) rfl ?_); refine store_event (t := 2) (p := 41) (v := ?vo_w17) (w1 := (wr.setCell ⟨go14, ((ji10) : Int).toNat * 2 + 1, none⟩ (.int .i64 x4_1))) ?hg ?ho ?hn ?hr ?_; (case ho => rfl); (case hg => rfl); (case hn => rfl); (case hr => first | (go_simp; done) | (go_simp; rfl)); intro w17 hw; have hg : wr.grownBy w17 (some go14) := (by rw [hw]; exact HP16.2); have hp_ : Kd.R k33 33 w17 w1.heap.size (fun _ => True) (.slice (some ⟨go14, 0, none⟩) x3_1.length co15) y111 := (by rw [hw, Ny111.out]; exact HP16.1); clear HP16; replace HO_3 := Aside0.mk (hp_); replace HB := Aside0.mk ((by rw [hw]; exact below_set (HB.out) GB14.out : Below w1.heap.size w1 w17)); clear hg hw hp_))
                      go_roundg k1
                      case measure => have := HK1.out; omega
                      case rel => exact ⟨(y111), (wrap64 (x4_1 + 1)), (by first | rfl | (simp; done) | (simp [*]; done)), H', ⟨by have := HK1.out; omega⟩, ⟨by (with_reducible repeat (first | apply Kd.R_alloc | apply Kd.R_drewN | apply Kd.R_drew)); exact HO_3.out⟩, ⟨by repeat (first | (with_reducible first | exact HB.out | apply below_alloc | apply pw_below_drewN | apply below_drew1) | exact HB.out)⟩⟩
                    · rw [if_neg c13] at H
                      have c13b0 : (((rd_T33 x3_1 (ji10)).f1) == (wrap64 (x4_1 - 1))) = false := beq_eq_false_iff_ne.mpr c13; have c13b1 : (((rd_T33 x3_1 (ji10)).f1) != (wrap64 (x4_1 - 1))) = true := bne_iff_ne.mpr c13
                      by_cases c18 : x3_1.length < 8796093022208
                      · rw [if_pos c18] at H
                        have LMc18 := Aside0.mk c18; clear c18; obtain ⟨y112, hy112⟩ : ∃ y_ : List (S33), y_ = (x3_1 ++ [(⟨x4_1, x4_1⟩ : S33)]) := ⟨_, rfl⟩
                        replace H : (spec_l1Class.l0 k1 l0 y112 (wrap64 (x4_1 + 1))) = some r := by first | (rw [hy112]; with_reducible exact H) | (have H2_ := (Option.bind_some _ _).symm.trans H; rw [hy112]; with_reducible exact H2_) | (have H2_ := (Option.bind_some _ _).symm.trans H; with_reducible exact H2_) | with_reducible exact H | (rw [hy112]; exact H) | exact H
                        have Ny112 := Aside0.mk hy112; clear hy112; have H' := Aside0.mk H; clear H; have p109 : 0 ≤ (x4_1 : Int) := of_decide_eq_true (by assumption); have q109 : x4_1 < (l0.length : Int) := of_decide_eq_true (by assumption); have q109b : (x4_1 < 256) = True := eq_true (by have := HL.out; omega); have hx109_0 : w1.cell? ⟨w.heap.size, x4_1.toNat, none⟩ = some (.bool (rdOf false l0 x4_1)) := (blk_cell HX0.out x4_1.toNat).trans (flags_get l0 _ (by have := HL.out; omega)); (try rw [← Nbq7.out] at hx109_0); replace hx109_0 := (HB.out.cell (World.block_lt_of_cell? w1 _ hx109_0)).trans hx109_0; replace p109 := eq_true p109; replace q109 := eq_true q109; obtain ⟨Ao19, co19, eo19⟩ := Kd.R_slice HO_3.out; subst eo19; have p110 : 0 ≤ ((ji10) : Int) := of_decide_eq_true (by assumption); have q110 : (ji10) < (x3_1.length : Int) := of_decide_eq_true (by assumption); obtain ⟨ad110, e110, hx110_0, hx110_1⟩ := at_T33 (Kd.R_reads' HO_3.out).2.2 (ji10) p110 q110; cases e110; replace p110 := eq_true p110; replace q110 := eq_true q110
                        go_wp2_with (first | ((with_reducible refine gate_builtin (b := .append) (xs := #[.tmp 13, .tmp 17]) rfl ?_); (try (refine gate_guard (by rfl) ?_; dsimp only)); at_builtin; refine Kd.R_append k33 (w0 := w1) w1.heap.size rfl (.tmp 13) (.tmp 17) 31 33 (.agg #[(.int .i64 0), (.int .i64 0)]) 16 rfl Try.underlying31 info33 rfl (by decide) (by omega) (.slice (some ad110) x3_1.length co19) x3_1 (⟨x4_1, x4_1⟩ : S33) [.int .i64 x4_1, .int .i64 x4_1] (fun _ => True) (fun _ => False) rfl rfl ?aP (fun _ hk => hk.elim) ?aF ?aO ?aB ?aS ?aL ?_; (case aP => exact k33_mkM _ _ _ (⟨x4_1, x4_1⟩ : S33)); (case aB => exact (by repeat (first | (with_reducible first | exact HB.out | apply below_alloc | apply pw_below_drewN | apply below_drew1) | exact HB.out))); (case aF => exact (fun _ _ => trivial)); (case aO => exact (by (with_reducible repeat (first | apply Kd.R_alloc | apply Kd.R_drewN | apply Kd.R_drew)); exact HO_3.out)); (case aS => exact (below_size (by repeat (first | (with_reducible first | exact HB.out | apply below_alloc | apply pw_below_drewN | apply below_drew1) | exact HB.out)))); (case aL => have := LMc18.out; omega); intro v113 w20 ho hb hg hat; rw [← Ny112.out] at ho; replace HB := Aside0.mk (hb); have HO114 := Aside0.mk (ho); clear HO_3; clear ho hb hg hat))
                        go_roundg k1
                        case measure => have := HK1.out; omega
                        case rel => exact ⟨(y112), (wrap64 (x4_1 + 1)), (by first | rfl | (simp; done) | (simp [*]; done)), H', ⟨by have := HK1.out; omega⟩, ⟨by (with_reducible repeat (first | apply Kd.R_alloc | apply Kd.R_drewN | apply Kd.R_drew)); exact HO114.out⟩, ⟨by repeat (first | (with_reducible first | exact HB.out | apply below_alloc | apply pw_below_drewN | apply below_drew1) | exact HB.out)⟩⟩
                      · rw [if_neg c18] at H
                        exact absurd H (by simp)
                  · rw [if_neg c12] at H
                    exact absurd H (by simp)
                · rw [if_neg c11] at H
                  exact absurd H (by simp)
              · rw [if_neg c9] at H
                have c9b0 : decide (0 < (x3_1.length : Int)) = false := decide_eq_false c9; have c9b1 : decide (0 < x3_1.length) = false := decide_eq_false (by omega)
                have c9b2 : decide (0 ≤ (wrap64 ((x3_1.length : Int) - 1))) = false := by rw [show (wrap64 ((x3_1.length : Int) - 1)) = -1 by unfold wrap64; omega]; rfl
                clear c9
                by_cases c21 : x3_1.length < 8796093022208
                · rw [if_pos c21] at H
                  have LMc21 := Aside0.mk c21; clear c21; obtain ⟨y115, hy115⟩ : ∃ y_ : List (S33), y_ = (x3_1 ++ [(⟨x4_1, x4_1⟩ : S33)]) := ⟨_, rfl⟩
                  replace H : (spec_l1Class.l0 k1 l0 y115 (wrap64 (x4_1 + 1))) = some r := by first | (rw [hy115]; with_reducible exact H) | (have H2_ := (Option.bind_some _ _).symm.trans H; rw [hy115]; with_reducible exact H2_) | (have H2_ := (Option.bind_some _ _).symm.trans H; with_reducible exact H2_) | with_reducible exact H | (rw [hy115]; exact H) | exact H
                  have Ny115 := Aside0.mk hy115; clear hy115; have H' := Aside0.mk H; clear H; have p109 : 0 ≤ (x4_1 : Int) := of_decide_eq_true (by assumption); have q109 : x4_1 < (l0.length : Int) := of_decide_eq_true (by assumption); have q109b : (x4_1 < 256) = True := eq_true (by have := HL.out; omega); have hx109_0 : w1.cell? ⟨w.heap.size, x4_1.toNat, none⟩ = some (.bool (rdOf false l0 x4_1)) := (blk_cell HX0.out x4_1.toNat).trans (flags_get l0 _ (by have := HL.out; omega)); (try rw [← Nbq7.out] at hx109_0); replace hx109_0 := (HB.out.cell (World.block_lt_of_cell? w1 _ hx109_0)).trans hx109_0; replace p109 := eq_true p109; replace q109 := eq_true q109; obtain ⟨Ao22, co22, eo22⟩ := Kd.R_slice HO_3.out; subst eo22
                  go_wp2_with (first | ((with_reducible refine gate_builtin (b := .append) (xs := #[.tmp 13, .tmp 17]) rfl ?_); (try (refine gate_guard (by rfl) ?_; dsimp only)); at_builtin; refine Kd.R_append k33 (w0 := w1) w1.heap.size rfl (.tmp 13) (.tmp 17) 31 33 (.agg #[(.int .i64 0), (.int .i64 0)]) 16 rfl Try.underlying31 info33 rfl (by decide) (by omega) (.slice Ao22 x3_1.length co22) x3_1 (⟨x4_1, x4_1⟩ : S33) [.int .i64 x4_1, .int .i64 x4_1] (fun _ => True) (fun _ => False) rfl rfl ?aP (fun _ hk => hk.elim) ?aF ?aO ?aB ?aS ?aL ?_; (case aP => exact k33_mkM _ _ _ (⟨x4_1, x4_1⟩ : S33)); (case aB => exact (by repeat (first | (with_reducible first | exact HB.out | apply below_alloc | apply pw_below_drewN | apply below_drew1) | exact HB.out))); (case aF => exact (fun _ _ => trivial)); (case aO => exact (by (with_reducible repeat (first | apply Kd.R_alloc | apply Kd.R_drewN | apply Kd.R_drew)); exact HO_3.out)); (case aS => exact (below_size (by repeat (first | (with_reducible first | exact HB.out | apply below_alloc | apply pw_below_drewN | apply below_drew1) | exact HB.out)))); (case aL => have := LMc21.out; omega); intro v116 w23 ho hb hg hat; rw [← Ny115.out] at ho; replace HB := Aside0.mk (hb); have HO117 := Aside0.mk (ho); clear HO_3; clear ho hb hg hat))
                  go_roundg k1
                  case measure => have := HK1.out; omega
                  case rel => exact ⟨(y115), (wrap64 (x4_1 + 1)), (by first | rfl | (simp; done) | (simp [*]; done)), H', ⟨by have := HK1.out; omega⟩, ⟨by (with_reducible repeat (first | apply Kd.R_alloc | apply Kd.R_drewN | apply Kd.R_drew)); exact HO117.out⟩, ⟨by repeat (first | (with_reducible first | exact HB.out | apply below_alloc | apply pw_below_drewN | apply below_drew1) | exact HB.out)⟩⟩
                · rw [if_neg c21] at H
                  exact absurd H (by simp)
            · replace c8 := Bool.eq_false_iff.mpr c8
              subst c8
              have H1 : (spec_l1Class.l0 k1 l0 x3_1 (wrap64 (x4_1 + 1))) = some r := by rw [if_neg (show ¬ (false = true) by decide)] at H; exact H
              clear H; have H := H1; clear H1; have H' := Aside0.mk H; clear H; have p109 : 0 ≤ (x4_1 : Int) := of_decide_eq_true (by assumption); have q109 : x4_1 < (l0.length : Int) := of_decide_eq_true (by assumption); have q109b : (x4_1 < 256) = True := eq_true (by have := HL.out; omega); have hx109_0 : w1.cell? ⟨w.heap.size, x4_1.toNat, none⟩ = some (.bool (rdOf false l0 x4_1)) := (blk_cell HX0.out x4_1.toNat).trans (flags_get l0 _ (by have := HL.out; omega)); (try rw [← Nbq7.out] at hx109_0); replace hx109_0 := (HB.out.cell (World.block_lt_of_cell? w1 _ hx109_0)).trans hx109_0; replace p109 := eq_true p109; replace q109 := eq_true q109; obtain ⟨Ao23, co23, eo23⟩ := Kd.R_slice HO_3.out; subst eo23
              go_wp2
              go_roundg k1
              case measure => have := HK1.out; omega
              case rel => exact ⟨(x3_1), (wrap64 (x4_1 + 1)), (by first | rfl | (simp; done) | (simp [*]; done)), H', ⟨by have := HK1.out; omega⟩, ⟨by (with_reducible repeat (first | apply Kd.R_alloc | apply Kd.R_drewN | apply Kd.R_drew)); exact HO_3.out⟩, ⟨by repeat (first | (with_reducible first | exact HB.out | apply below_alloc | apply pw_below_drewN | apply below_drew1) | exact HB.out)⟩⟩
          · rw [if_neg c6] at H
            exact absurd H (by simp)
        · rw [if_neg c5] at H
          exact absurd H (by simp)
      · rw [if_neg c4] at H
        have c4b0 : decide (x4_1 < 256) = false := decide_eq_false c4; clear c4; obtain rfl := Option.some.inj H
        go_wp2
        go_ret
        exact ⟨_, rfl, Kd.R_lower (by (with_reducible repeat (first | apply Kd.R_alloc | apply Kd.R_drewN | apply Kd.R_drew)); exact HO_3.out) (by have := HS0.out; omega), HB0.out.trans ((show Below w1.heap.size w1 _ by repeat (first | (with_reducible first | exact HB.out | apply below_alloc | apply pw_below_drewN | apply below_drew1) | exact HB.out)).mono HB0.out.size)⟩
end
section
open Go.Proofs.Ytbijmhooamjgoaa.Kit (flags flags_size flags_get flags_one flags_set classOk w64)
/-- the marks of a class -/
def marks0 (l : List S33) : List Bool := (List.range 256).map (fun b => decide (InTo (l.map spP) l.length b))
theorem marks0_len (l : List S33) : (marks0 l).length = 256 := by simp [marks0]
theorem marks0_of (l : List S33) (arr : List Bool) (ha : arr.length = 256) (hm : ∀ b, b < 256 → (arr.getD b false = true ↔ InTo (l.map spP) l.length b)) : arr = marks0 l := by
  unfold marks0
  apply List.ext_getElem
  · simp [ha]
  · intro i h1 h2
    simp only [List.getElem_map, List.getElem_range]
    have := hm i (by omega)
    rw [List.getD_eq_getElem?_getD, List.getElem?_eq_getElem h1, Option.getD_some] at this
    cases hv : arr[i]
    · rw [hv] at this; exact (decide_eq_false (fun q => by simpa using this.2 q)).symm
    · rw [hv] at this; exact (decide_eq_true (this.1 rfl)).symm
def foldE (m : List Bool) (i : Nat) : Bool := m.getD (97 + i) false || m.getD (65 + i) false
def foldM (m : List Bool) : Nat → List Bool
  | 0 => m
  | i + 1 => ((foldM m i).set (97 + i) (foldE (foldM m i) i)).set (65 + i) (foldE (foldM m i) i)
theorem foldM_len (m : List Bool) : ∀ i, (foldM m i).length = m.length
  | 0 => rfl
  | i + 1 => by rw [foldM, List.length_set, List.length_set, foldM_len m i]
def impl_folded.f (k : Nat) (l0 : List S33) : Option (List S33) := if classOk (l0.map spP) then spec_l1Class.f k (foldM (marks0 l0) 26) else none
theorem impl_folded.mono : ∀ a0 k, LeO (impl_folded.f k a0) (impl_folded.f (k + 1) a0) := by
  intro a0 k
  unfold impl_folded.f
  exact LeO.ite (spec_l1Class.mono _ k) (LeO.refl _)
theorem zero_sizeF : Try.zeroCells131.size = 256 := by kernel_rfl
set_option maxHeartbeats 4000000 in
set_option maxRecDepth 100000 in
theorem impl_folded.calls (k : Nat) (A0 : Option Addr) (c0 : Nat) (l0 : List S33) (r : List S33) (w : World) (hr0 : Kd.C k33 w A0 l0.length l0) (hc0 : l0.length ≤ c0) (h : impl_folded.f k l0 = some r) :
    Calls Try.prog 152 #[.slice A0 l0.length c0] w fun e w' => ∃ v0_ : Value, e = .returned (v0_) ∧ Kd.R k33 33 w' w.heap.size (fun _ => True) v0_ r ∧ Below w.heap.size w w' := by
  unfold impl_folded.f at h
  by_cases hok : classOk (l0.map spP)
  case neg => rw [if_neg hok] at h; cases h
  rw [if_pos hok] at h
  have HH := Aside0.mk h
  have HR0 := Aside0.mk hr0
  have HC0 := Aside0.mk hc0
  have HOK := Aside0.mk hok
  clear h hr0 hc0 hok
  go_enter Try.func152, Try.ntmps152
  go_wp2_with fail
  refine (bytesOf_calls A0 c0 l0 _ HR0.out HC0.out HOK.out).mono ?_
  rintro e w1 ⟨arr, rfl, ha, hm, hb⟩
  have earr := marks0_of l0 arr ha hm
  subst earr
  have hst := run_storeCells_new (P := Try.prog) w1 131 Try.zeroCells131 (flags (marks0 l0)) (by rw [flags_size, marks0_len]; kernel_rfl) (by rw [flags_size, marks0_len]; exact zero_sizeF) (flags_one _)
  obtain ⟨gp, egp⟩ : ∃ q, q = w1.heap.size := ⟨_, rfl⟩
  have HX := Aside0.mk (heap_alloc_last w1 (.cells (flags (marks0 l0)) 131))
  have HB := Aside0.mk (hb.alloc hb.size (.cells (flags (marks0 l0)) 131))
  have GP := Aside0.mk (show w.heap.size ≤ gp by rw [egp]; exact hb.size)
  clear ha hm hb
  go_upto_region 2 with fail
  generalize w1.alloc (.cells (flags (marks0 l0)) 131) = W at HX HB ⊢
  rw [← egp] at HX ⊢
  clear egp hst
  go_wp2
  go_loopg [4] 26 (fun gk v4 wr => ∃ (i : Nat), i ≤ 26 ∧ 26 - i ≤ gk ∧ v4 = .int .i32 (97 + (i : Int)) ∧ Aside0 (wr.heap[gp]? = some (.cells (flags (foldM (marks0 l0) i)) 131 (0, 0))) ∧ Aside0 (Below w.heap.size w wr))
  case atStart => exact ⟨0, Nat.zero_le _, by omega, rfl, HX, HB⟩
  case round =>
    clear HX HB; obtain ⟨i, hi, hg, rfl, HX, HB⟩ := hrel
    by_cases hlt : i < 26
    · have hcond := eq_true (show (97 + (i : Int)) ≤ 122 by omega)
      have HLT := Aside0.mk hlt
      have hln : (foldM (marks0 l0) i).length = 256 := by rw [foldM_len, marks0_len]
      have ca := (blk_cell HX.out (97 + i)).trans (flags_get _ _ (by omega)); have cb := (blk_cell HX.out (65 + i)).trans (flags_get _ _ (by omega)); have fa := blk_frozen HX.out (97 + i); have fb := blk_frozen HX.out (65 + i)
      have e1 : IntKind.i32.wrap (97 + (i : Int) - 32) = 65 + (i : Int) := by
        unfold IntKind.wrap
        simp only [IntKind.bits, IntKind.signed, Bool.true_and]
        rw [if_neg (by simp; omega)]
        omega
      have t0 : (97 + (i : Int)).toNat = 97 + i := by omega
      have t1 : (65 + (i : Int)).toNat = 65 + i := by omega
      have t2 := eq_true (show 97 + (i : Int) < 256 by omega); have t3 := eq_true (show 65 + (i : Int) < 256 by omega); have t4 := eq_true (show 0 ≤ 97 + (i : Int) by omega); have t5 := eq_true (show 0 ≤ 65 + (i : Int) by omega)
      have e2 : IntKind.i32.wrap (97 + (i : Int) + 1) = 97 + ((i + 1 : Nat) : Int) := by
        unfold IntKind.wrap
        simp only [IntKind.bits, IntKind.signed, Bool.true_and]
        rw [if_neg (by simp; omega)]
        omega
      have HE2 := Aside0.mk e2
      have HNX : ∀ E : Bool, E = foldE (foldM (marks0 l0) i) i → ((wr.setCell ⟨gp, 97 + i, none⟩ (.bool E)).setCell ⟨gp, 65 + i, none⟩ (.bool E)).heap[gp]? = some (.cells (flags (foldM (marks0 l0) (i + 1))) 131 (0, 0)) := by
        intro E hE; have h1 := blk_set HX.out (97 + i) (.bool E)
        rw [flags_set] at h1
        have h2 := blk_set h1 (65 + i) (.bool E)
        rw [flags_set, hE] at h2
        rw [hE]
        exact h2
      have HN := Aside0.mk HNX; have HBN := Aside0.mk (show ∀ E : Bool, Below w.heap.size w ((wr.setCell ⟨gp, 97 + i, none⟩ (.bool E)).setCell ⟨gp, 65 + i, none⟩ (.bool E)) from fun E => (HB.out.setCell GP.out _).setCell GP.out _); clear hi hlt HNX e2
      cases hv : (foldM (marks0 l0) i).getD (97 + i) false with
      | true =>
        rw [hv] at ca
        have HE := Aside0.mk (show true = foldE (foldM (marks0 l0) i) i by unfold foldE; rw [hv]; rfl); clear hv
        go_wp2
        go_roundg (26 - (i + 1))
        case measure => have := HLT.out; omega
        case rel => exact ⟨i + 1, by have := HLT.out; omega, by omega, by have q := HE2.out; rw [i32_w] at q; rw [q], ⟨HN.out true HE.out⟩, ⟨HBN.out true⟩⟩
      | false =>
        rw [hv] at ca
        have HE := Aside0.mk (show (foldM (marks0 l0) i).getD (65 + i) false = foldE (foldM (marks0 l0) i) i by unfold foldE; rw [hv]; rfl); generalize (foldM (marks0 l0) i).getD (65 + i) false = E at cb HE; clear hv
        go_wp2
        go_roundg (26 - (i + 1))
        case measure => have := HLT.out; omega
        case rel => exact ⟨i + 1, by have := HLT.out; omega, by omega, by have q := HE2.out; rw [i32_w] at q; rw [q], ⟨HN.out E HE.out⟩, ⟨HBN.out E⟩⟩
    · have hcond := eq_false (show ¬ (97 + (i : Int)) ≤ 122 by omega)
      have ei : i = 26 := by omega
      subst ei; clear hlt hi hg
      go_wp2_with (first | (refine wpList_load_row rfl 131 _ rfl gp (by first | rfl | simp) 131 _ (0, 0) _ HX.out Try.underlying131 rfl (by rw [flags_size, foldM_len, marks0_len]; kernel_rfl) ?_) | fail)
      refine (impl_class.calls k _ r _ (by rw [foldM_len, marks0_len]) HH.out).mono ?_
      rintro e w' ⟨v0, rfl, ho, hb⟩
      have HO := Aside0.mk (Kd.R_lower ho HB.out.size); have HB2 := Aside0.mk (below_step HB.out hb); clear ho hb
      go_wp2
      go_ret
      exact ⟨_, rfl, HO.out, HB2.out⟩
end

/-! ### impl_Folded: function 68 -/
section
open Go.Proofs.Ytbijmhooamjgoaa.Kit (w64)
def impl_Folded.l0 : Nat → List S181 → Nat → Option (List S181)
  | 0, _, _ => none
  | k + 1, x, i => if i < x.length then (if (rd_T181 x (i : Int)).f0 = 2 then ((impl_folded.f k (rd_T181 x (i : Int)).f1).bind fun s => impl_Folded.l0 k (x.set i ⟨(rd_T181 x (i : Int)).f0, s, (rd_T181 x (i : Int)).f2, (rd_T181 x (i : Int)).f3, (rd_T181 x (i : Int)).f4⟩) (i + 1)) else impl_Folded.l0 k x (i + 1)) else some x
def impl_Folded.f (k : Nat) (l0 : List S181) : Option (List S181) := (impl_RxOk.f k l0).bind fun b => if b = true then ((impl_copyRx.f k l0).bind fun x => impl_Folded.l0 k x 0) else some []
theorem impl_Folded.mono_l : ∀ k, ∀ x i, LeO (impl_Folded.l0 k x i) (impl_Folded.l0 (k + 1) x i)
  | 0 => fun _ _ r h => by simp [impl_Folded.l0] at h
  | k + 1 => by
    have ih := impl_Folded.mono_l k; intro x i
    rw [impl_Folded.l0, impl_Folded.l0]
    exact LeO.ite (LeO.ite (LeO.bind (impl_folded.mono _ k) (fun _ => ih _ _)) (ih _ _)) (LeO.refl _)
theorem impl_Folded.mono : ∀ a0 k, LeO (impl_Folded.f k a0) (impl_Folded.f (k + 1) a0) := by
  intro a0 k
  unfold impl_Folded.f
  exact LeO.bind (impl_RxOk.mono _ k) (fun b => LeO.ite (LeO.bind (impl_copyRx.mono _ k) (fun _ => impl_Folded.mono_l k _ _)) (LeO.refl _))
set_option maxHeartbeats 8000000 in
set_option maxRecDepth 100000 in
theorem impl_Folded.calls (k : Nat) (A0_0 : Option Addr) (c0_0 : Nat) (l0_0 : List S181) (r : List S181) (w : World) (hr0_0 : Kd.C k181 w A0_0 l0_0.length l0_0) (hc0_0 : l0_0.length ≤ c0_0) (h : impl_Folded.f k l0_0 = some r) :
    Calls Try.prog 68 #[.agg #[.slice A0_0 l0_0.length c0_0]] w fun e w' => ∃ v0_ : Value, e = .returned (.agg #[v0_]) ∧ Kd.S k181 181 w' w.heap.size (fun _ => True) v0_ r ∧ Below w.heap.size w w' := by
  have hu := Try.underlying106
  have hu2 := Try.underlying181
  have HR0 := Aside0.mk hr0_0
  have HC0 := Aside0.mk hc0_0
  unfold impl_Folded.f at h
  obtain ⟨b, hb, h⟩ := Option.bind_eq_some_iff.1 h
  have HOK := Aside0.mk hb
  have HH := Aside0.mk h
  obtain ⟨W, hWe⟩ : ∃ W, W = ((w.alloc (.cells #[.slice A0_0 l0_0.length c0_0] 106)).alloc (.cells #[.slice none 0 0] 106)) := ⟨_, rfl⟩
  have hB1 := (Below.refl w.heap.size w).alloc (Nat.le_refl _) (.cells #[.slice A0_0 l0_0.length c0_0] 106)
  have hBW : Below w.heap.size w W := by rw [hWe]; exact hB1.alloc hB1.size _
  have hk1 := (heap_alloc_new w (.cells #[.slice A0_0 l0_0.length c0_0] 106))
  have hk4 : W.heap[w.heap.size]? = some (.cells #[.slice A0_0 l0_0.length c0_0] 106 (0, 0)) := by rw [hWe]; exact blk_alloc hk1 _
  have hk5 : W.heap[w.heap.size + 1]? = some (.cells #[.slice none 0 0] 106 (0, 0)) := by rw [hWe]; have := heap_alloc_new (w.alloc (.cells #[.slice A0_0 l0_0.length c0_0] 106)) (.cells #[.slice none 0 0] 106); simpa using this
  have HWE := Aside0.mk hWe
  have HBW := Aside0.mk hBW
  have HK1 := Aside0.mk hk4
  have HK2 := Aside0.mk hk5
  clear hr0_0 hc0_0 hb h hB1 hBW hk1 hk4 hk5 hWe
  go_enter Try.func68, Try.ntmps68
  go_upto_region 1 with fail
  rw [← HWE.out]
  have z1 : W.cell? ⟨w.heap.size, 0, none⟩ = some (.slice A0_0 l0_0.length c0_0) := (blk_cell HK1.out 0).trans rfl
  go_wp2_with fail
  refine (impl_RxOk.calls k A0_0 c0_0 l0_0 b _ (Kd.C_below HR0.out HBW.out) HC0.out HOK.out).mono ?_
  rintro e w1 ⟨rfl, hb⟩
  have HB1 := Aside0.mk (below_step HBW.out hb)
  replace HK1 := Aside0.mk (blk_below HK1.out hb)
  replace HK2 := Aside0.mk (blk_below HK2.out hb)
  clear hb z1
  have z1 : w1.cell? ⟨w.heap.size, 0, none⟩ = some (.slice A0_0 l0_0.length c0_0) := (blk_cell HK1.out 0).trans rfl
  have z2 : w1.cell? ⟨w.heap.size + 1, 0, none⟩ = some (.slice none 0 0) := (blk_cell HK2.out 0).trans rfl
  have f2 := blk_frozen HK2.out 0
  cases b with
  | false =>
    have hr := HH.out
    rw [if_neg (by decide)] at hr
    have er := Option.some.inj hr; subst er; clear HH hr
    go_wp2
    refine bodyPost_ret (results_cell_row rfl _ _ (w.heap.size + 1) 106 #[.slice none 0 0] (0, 0) _ rfl (blk_put (cs := #[.slice none 0 0]) HK2.out 0 _ rfl) Try.underlying106 rfl (by kernel_rfl)) rfl ?_
    exact ⟨_, rfl, Kd.S_nil _ _ _ _ _, HB1.out.setCell (by simp) _⟩
  | true =>
    have hr := HH.out
    rw [if_pos rfl] at hr
    obtain ⟨x0, hc, hl⟩ := Option.bind_eq_some_iff.1 hr; have HCP := Aside0.mk hc; have HL := Aside0.mk hl; clear HH hr hc hl
    go_wp2_with fail
    refine (impl_copyRx.calls k A0_0 c0_0 l0_0 x0 _ (Kd.C_below HR0.out HB1.out) HC0.out HCP.out).mono ?_
    rintro e w2 ⟨v0, rfl, ho, hb⟩
    have HS := Aside0.mk (Kd.S_lower ho HB1.out.size); have HB2 := Aside0.mk (below_step HB1.out hb); replace HK2 := Aside0.mk (blk_below HK2.out hb); clear hb ho HK1 z1 z2 f2; obtain ⟨g3, eg3⟩ : ∃ q, q = w2.heap.size := ⟨_, rfl⟩; have HG3 := Aside0.mk (show w.heap.size ≤ g3 by rw [eg3]; exact HB2.out.size); obtain ⟨As, cs, rfl⟩ := Kd.S_slice HS.out; have hnew := heap_alloc_new w2 (.cells #[.slice As x0.length cs] 106); have hbx : Below w2.heap.size w2 (w2.alloc (.cells #[.slice As x0.length cs] 106)) := below_alloc (Below.refl _ _) _; replace HS := Aside0.mk (Kd.S_below HS.out hbx); replace HB2 := Aside0.mk (below_step HB2.out hbx); replace HK2 := Aside0.mk (blk_below HK2.out hbx); have HNW := Aside0.mk hnew; clear hbx hnew
    go_upto_region 4 with fail
    generalize w2.alloc (.cells #[.slice As x0.length cs] 106) = W3 at HS HB2 HK2 HNW ⊢
    rw [← eg3] at HNW ⊢
    clear eg3; have HK3 := Aside0.mk (show W3.heap[g3]? = some (.cells #[.slice As x0.length cs] 106 (0, 0)) from HNW.out); clear HNW; have z3 : W3.cell? ⟨g3, 0, none⟩ = some (.slice As x0.length cs) := (blk_cell HK3.out 0).trans rfl
    go_wp2
    go_loopg [15] k (fun gk v15 wr => ∃ (x : List S181) (i : Nat), v15 = .int .i64 i ∧ x.length = x0.length ∧ i ≤ x0.length ∧ Aside0 (impl_Folded.l0 gk x i = some r) ∧ Aside0 (gk ≤ k) ∧ Aside0 (Kd.S k181 181 wr w.heap.size (fun _ => True) (.slice As x0.length cs) x) ∧ Aside0 (wr.heap[g3]? = some (.cells #[.slice As x0.length cs] 106 (0, 0))) ∧ Aside0 (wr.heap[w.heap.size + 1]? = some (.cells #[.slice none 0 0] 106 (0, 0))) ∧ Aside0 (Below w.heap.size w wr))
    case atStart => exact ⟨x0, 0, rfl, rfl, Nat.zero_le _, HL, ⟨Nat.le_refl _⟩, HS, HK3, HK2, HB2⟩
    case round =>
      clear z3 HL HS HK3 HK2 HB2; obtain ⟨x, i, rfl, hlen, hi, HA, HGK, HS, HK3, HK2, HB⟩ := hrel
      cases gk with
      | zero => exact absurd HA.out (by simp [impl_Folded.l0])
      | succ k1 =>
        have H := HA.out
        rw [impl_Folded.l0] at H
        by_cases hlt : i < x.length
        · rw [if_pos hlt] at H
          have hcond := eq_true (show (i : Int) < (x0.length : Int) by omega); have hcond0 := eq_true (show (0 : Int) ≤ (i : Int) by omega); have HLT := Aside0.mk hlt; have HLEN := Aside0.mk hlen; obtain ⟨gs, cs', eS, gsb, gsl, _, HGS⟩ := Kd.R_form (Kd.S_R HS.out) (by omega)
          rw [hlen] at eS
          cases eS; obtain ⟨oki, c, hcl, hM, hcc, hfr, hoki, hH⟩ := Kd.S_elem HS.out z181 (i : Int) (by omega) (by omega); have hM2 : k181.M wr w.heap.size oki (rd_T181 x (i : Int)) c := hM; obtain ⟨v1, v2, rfl, hR1, hR2⟩ := k181_openM hM2; obtain ⟨A1, c1, rfl⟩ := Kd.R_slice hR1; obtain ⟨A2, c2, rfl⟩ := Kd.R_slice hR2; have d1 : (k181).sz = 5 := rfl; have hx0 := hcc 0 _ rfl; have hx1 := hcc 1 _ rfl; have hx2 := hcc 2 _ rfl; have hx3 := hcc 3 _ rfl; have hx4 := hcc 4 _ rfl; have hf1 := hfr 1
          rw [d1] at hx0 hx1 hx2 hx3 hx4 hf1
          rw [Nat.add_zero] at hx0
          rw [Int.toNat_natCast] at hx0 hx1 hx2 hx3 hx4 hf1
          have z3 : wr.cell? ⟨g3, 0, none⟩ = some (.slice (some ⟨gs, 0, none⟩) x0.length cs) := (blk_cell HK3.out 0).trans rfl; have HH := Aside0.mk hH; have HOK := Aside0.mk hoki; have HR1 := Aside0.mk hR1; have HR2 := Aside0.mk hR2; have HREST := Aside0.mk H; clear hcl hcc hfr hH hM hM2 hoki hR1 hR2 hlen hlt hi HA H d1 gsb gsl HGS; have HXS := Aside0.mk (And.intro hx1 hf1); have hCL := Aside0.mk (below_alloc (Below.refl wr.heap.size wr) (.cells #[.int .i64 (rd_T181 x (i : Int)).f0, .slice A1 (rd_T181 x (i : Int)).f1.length c1, .slice A2 (rd_T181 x (i : Int)).f2.length c2, .int .i64 (rd_T181 x (i : Int)).f3, .int .i64 (rd_T181 x (i : Int)).f4] 181)); have hNW := Aside0.mk (heap_alloc_new wr (.cells #[.int .i64 (rd_T181 x (i : Int)).f0, .slice A1 (rd_T181 x (i : Int)).f1.length c1, .slice A2 (rd_T181 x (i : Int)).f2.length c2, .int .i64 (rd_T181 x (i : Int)).f3, .int .i64 (rd_T181 x (i : Int)).f4] 181)); obtain ⟨g5, eg5⟩ : ∃ q, q = wr.heap.size := ⟨_, rfl⟩; have HG5 := Aside0.mk (show w.heap.size ≤ g5 by rw [eg5]; exact HB.out.size)
          go_upto_region 7 with fail
          generalize wr.alloc (.cells #[.int .i64 (rd_T181 x (i : Int)).f0, .slice A1 (rd_T181 x (i : Int)).f1.length c1, .slice A2 (rd_T181 x (i : Int)).f2.length c2, .int .i64 (rd_T181 x (i : Int)).f3, .int .i64 (rd_T181 x (i : Int)).f4] 181) = wr2 at hCL hNW ⊢
          rw [← eg5] at hNW ⊢
          replace hNW := Aside0.mk (show wr2.heap[g5]? = some (.cells #[.int .i64 (rd_T181 x (i : Int)).f0, .slice A1 (rd_T181 x (i : Int)).f1.length c1, .slice A2 (rd_T181 x (i : Int)).f2.length c2, .int .i64 (rd_T181 x (i : Int)).f3, .int .i64 (rd_T181 x (i : Int)).f4] 181 (0, 0)) from hNW.out); replace HS := Aside0.mk (Kd.S_below HS.out hCL.out); replace HH := Aside0.mk (Kd.H_below HH.out hCL.out); replace HR1 := Aside0.mk (Kd.R_below HR1.out hCL.out); replace HR2 := Aside0.mk (Kd.R_below HR2.out hCL.out); replace HK3 := Aside0.mk (blk_below HK3.out hCL.out); replace HK2 := Aside0.mk (blk_below HK2.out hCL.out); replace HB := Aside0.mk (below_step HB.out hCL.out); replace HXS := Aside0.mk ((hCL.out.cell (World.block_lt_of_cell? _ _ HXS.out.1)).trans HXS.out.1); clear hx0 hx1 hx2 hx3 hx4 hf1 z3 eg5 hCL; have z5 : wr2.cell? ⟨g5, 0, none⟩ = some (.int .i64 (rd_T181 x (i : Int)).f0) := (blk_cell hNW.out 0).trans rfl; have hrest := HREST.out
          by_cases hop : (rd_T181 x (i : Int)).f0 = 2
          · rw [if_pos hop] at hrest
            obtain ⟨s, hfo, hl2⟩ := Option.bind_eq_some_iff.1 hrest; have HFO := Aside0.mk hfo; have HN := Aside0.mk hl2; have hopb : ((rd_T181 x (i : Int)).f0 == 2) = true := beq_iff_eq.2 hop; have HC1 := Aside0.mk (Kd.R_reads' HR1.out).2.2; have HL1 := Aside0.mk (Kd.R_reads' HR1.out).2.1; have y3 : wr2.cell? ⟨g3, 0, none⟩ = some (.slice (some ⟨gs, 0, none⟩) x0.length cs) := (blk_cell HK3.out 0).trans rfl; have y5 : wr2.cell? ⟨g5, 1, none⟩ = some (.slice A1 (rd_T181 x (i : Int)).f1.length c1) := (blk_cell hNW.out 1).trans rfl; clear hrest hfo hl2 hop HREST
            go_wp2_with fail
            refine start_ (n := 9) (S := fun w' => w'.cell? ⟨g3, 0, none⟩ = some (.slice (some ⟨gs, 0, none⟩) x0.length cs) ∧ w'.cell? ⟨g5, 1, none⟩ = some (.slice A1 (rd_T181 x (i : Int)).f1.length c1)) (ds := [8]) #[On,On,On,On,On,On,On,On,On] (by kernel_rfl) rfl rfl ⟨y3, y5⟩ (fun hHeld => ?_)
            refine take_ (i := 0) (N := some 23) (v := ?_) (a' := ?_) #[Iy,On,On,On,On,On,On,On,On] rfl rfl (by kernel_rfl) (fun _ _ _ h => h) (Or.inl ⟨by rfl, ?_⟩) hHeld ?_ ?_
            rotate_left
            · rintro w' ⟨s0, s1⟩
              go_simp
              with_reducible rfl
            rotate_left
            · simp only [Act.put, List.setIfInBounds_toArray, List.set_cons_zero, List.set_cons_succ, i64_w, i32_w]
              rfl
            refine take_ (i := 1) (N := some 24) (v := ?_) (a' := ?_) #[Iy,Iy,On,On,On,On,On,On,On] rfl rfl (by kernel_rfl) (fun _ _ _ h => h) (Or.inl ⟨by rfl, ?_⟩) hHeld ?_ ?_
            rotate_left
            · rintro w' ⟨s0, s1⟩
              go_simp
              with_reducible rfl
            rotate_left
            · simp only [Act.put, List.setIfInBounds_toArray, List.set_cons_zero, List.set_cons_succ, i64_w, i32_w]
              rfl
            refine take_ (i := 2) (N := some 25) (v := ?_) (a' := ?_) #[Iy,Iy,Iy,On,On,On,On,On,On] rfl rfl (by kernel_rfl) (fun _ _ _ h => h) (Or.inl ⟨by rfl, ?_⟩) hHeld ?_ ?_
            rotate_left
            · rintro w' ⟨s0, s1⟩
              go_simp
              with_reducible rfl
            rotate_left
            · simp only [Act.put, List.setIfInBounds_toArray, List.set_cons_zero, List.set_cons_succ, i64_w, i32_w]
              rfl
            refine take_ (i := 3) (N := some 26) (v := ?_) (a' := ?_) #[Iy,Iy,Iy,Iy,On,On,On,On,On] rfl rfl (by kernel_rfl) (fun _ _ _ h => h) (Or.inl ⟨by rfl, ?_⟩) hHeld ?_ ?_
            rotate_left
            · rintro w' ⟨s0, s1⟩
              go_simp
              with_reducible rfl
            rotate_left
            · simp only [Act.put, List.setIfInBounds_toArray, List.set_cons_zero, List.set_cons_succ, i64_w, i32_w]
              rfl
            refine take_ (i := 4) (N := some 27) (v := ?_) (a' := ?_) #[Iy,Iy,Iy,Iy,Iy,On,On,On,On] rfl rfl (by kernel_rfl) (fun _ _ _ h => h) (Or.inl ⟨by rfl, ?_⟩) hHeld ?_ ?_
            rotate_left
            · rintro w' ⟨s0, s1⟩
              go_simp
              with_reducible rfl
            rotate_left
            · simp only [Act.put, List.setIfInBounds_toArray, List.set_cons_zero, List.set_cons_succ, i64_w, i32_w]
              rfl
            have hd := below_drew1 (Below.refl wr2.heap.size wr2); generalize wr2.drew = w4 at hd hHeld ⊢
            refine one_ (i := 5) (N := some 28) #[Iy,Iy,Iy,Iy,Iy,Iy,On,On,On] rfl rfl (by kernel_rfl) (by decide) (fun K hK => ?_)
            refine goes_ Try.func152 (by kernel_rfl) rfl #[.slice A1 (rd_T181 x (i : Int)).f1.length c1] (by rfl) rfl rfl (by (try simp only [List.map_toArray, List.map_cons, List.map_nil]); first | done | rfl) ?_
            refine (impl_folded.calls k1 A1 c1 (rd_T181 x (i : Int)).f1 s w4 (Kd.C_below HC1.out hd) HL1.out HFO.out).mono ?_
            rintro e w5 ⟨v0, rfl, ho, hb⟩
            obtain ⟨A9, c9, rfl⟩ := Kd.R_slice ho
            refine ⟨_, rfl, ?_⟩
            have HV0 := Aside0.mk ho; have HB5 := Aside0.mk (below_step hd hb); have HB45 := Aside0.mk hb; have HD4 := Aside0.mk hd.size
            refine hK.out _ _ ⟨(hb.cell (World.block_lt_of_cell? _ _ hHeld.1)).trans hHeld.1, (hb.cell (World.block_lt_of_cell? _ _ hHeld.2)).trans hHeld.2⟩ (fun hHeld2 => ?_)
            clear hK K
            refine norm_ (a' := ?_) ?_ ?_
            rotate_left
            · show Act.put _ (some 28) _ = _
              simp only [Act.put, List.setIfInBounds_toArray, List.set_cons_zero, List.set_cons_succ, i64_w, i32_w]
              rfl
            refine take_ (i := 6) (N := some 29) (v := ?_) (a' := ?_) #[Iy,Iy,Iy,Iy,Iy,Iy,Iy,On,On] rfl rfl (by kernel_rfl) (fun _ _ _ h => h) (Or.inl ⟨by rfl, ?_⟩) hHeld2 ?_ ?_
            rotate_left
            · rintro w' ⟨s0, s1⟩
              go_simp
              with_reducible rfl
            rotate_left
            · simp only [Act.put, List.setIfInBounds_toArray, List.set_cons_zero, List.set_cons_succ, i64_w, i32_w]
              rfl
            refine take_ (i := 7) (N := some 30) (v := ?_) (a' := ?_) #[Iy,Iy,Iy,Iy,Iy,Iy,Iy,Iy,On] rfl rfl (by kernel_rfl) (fun _ _ _ h => h) (Or.inl ⟨by rfl, ?_⟩) hHeld2 ?_ ?_
            rotate_left
            · rintro w' ⟨s0, s1⟩
              go_simp
              with_reducible rfl
            rotate_left
            · simp only [Act.put, List.setIfInBounds_toArray, List.set_cons_zero, List.set_cons_succ, i64_w, i32_w]
              rfl
            refine last_ (i := 8) (N := none) #[Iy,Iy,Iy,Iy,Iy,Iy,Iy,Iy,Iy] rfl rfl (by kernel_rfl) (by decide) (fun K hK => ?_)
            have HS5 := Aside0.mk (Kd.S_below HS.out HB5.out); obtain ⟨gs', cs', eS, GSB, _, cS, HGS⟩ := Kd.R_form (Kd.S_R HS5.out) (by have := HLT.out; omega)
            have egs : gs = gs' := by injection eS with ea _ _; injection ea with ea; injection ea
            subst egs; clear eS; have x1 : w5.cell? ⟨gs, i * 5 + 1, none⟩ = some (.slice A1 (rd_T181 x (i : Int)).f1.length c1) := (HB5.out.cell (World.block_lt_of_cell? _ _ HXS.out)).trans HXS.out; have x2 := blk_frozen HGS (i * 5 + 1)
            refine skip_ (w1 := ?_) (by rfl) rfl ?_ ?_
            rotate_left
            · go_simp
              rfl
            refine hK.out _ _ ?_
            clear hK K
            refine done_ (by kernel_rfl) ?_
            have hgl : gs < wr2.heap.size := World.block_lt_of_cell? _ _ HXS.out; have H5 := Kd.H_below (Kd.H_widen HH.out) HB5.out; obtain ⟨h1, g1⟩ := Kd.H_seg H5 (Int.natCast_nonneg i) (show (i : Int) < (x0.length : Nat) by have := HLT.out; have := HLEN.out; omega) (seg := [.slice A9 s.length c9]) (j := 1) (show 1 + 1 ≤ 5 by decide) (fun q_ hq_ => by rw [List.mem_singleton.1 hq_]; rfl); have hd := HB45.out.size; have WE : w5.setCells gs ((i : Int).toNat * (k181).sz + 1) [.slice A9 s.length c9] = w5.setCell ⟨gs, i * 5 + 1, none⟩ (.slice A9 s.length c9) := rfl
            rw [WE] at h1 g1
            have HVR := Aside0.mk (Kd.R_mono (Kd.R_grown (Kd.R_bound HV0.out) g1 (fun k_ hk e_ => by have e2_ := Option.some.inj e_; have := hk.2.1; have := HD4.out; omega)) (ok' := fun k_ => oki k_ ∨ wr2.heap.size ≤ k_) (fun k_ hk => .inr (Nat.le_trans HD4.out hk.2.1))); have HKR := Aside0.mk (Kd.R_mono (Kd.R_grown (Kd.R_below HR2.out HB5.out) g1 (fun k_ hk e_ => (HOK.out k_ hk).2 (Option.some.inj e_))) (ok' := fun k_ => oki k_ ∨ wr2.heap.size ≤ k_) (fun k_ hk => .inl hk)); have HNS := Aside0.mk (Kd.H_back h1 (okp := fun k_ => oki k_ ∨ wr2.heap.size ≤ k_) (k181_mkM _ _ _ (⟨(rd_T181 x (i : Int)).f0, s, (rd_T181 x (i : Int)).f2, (rd_T181 x (i : Int)).f3, (rd_T181 x (i : Int)).f4⟩ : S181) (Kd.R_lower HVR.out (Nat.le_trans HB.out.size HD4.out)) HKR.out) (fun k_ hk => hk.elim .inl (fun q => .inr ⟨trivial, q⟩))); have HK3' := Aside0.mk (blk_grown (blk_below HK3.out HB5.out) g1 (fun e_ => blk_ne (blk_below HK3.out HB5.out) HGS (by decide) (Option.some.inj e_))); have HK2' := Aside0.mk (blk_grown (blk_below HK2.out HB5.out) g1 (fun e_ => blk_ne (blk_below HK2.out HB5.out) HGS (by decide) (Option.some.inj e_))); have HB' := Aside0.mk (show Below w.heap.size w (w5.setCell ⟨gs, i * 5 + 1, none⟩ (.slice A9 s.length c9)) from (below_step HB.out HB5.out).setCell GSB _); clear h1 g1 H5 WE hd hgl HGS x1 x2 hHeld hHeld2
            go_wp2
            go_roundg k1
            case measure => have := HGK.out; omega
            case rel => exact ⟨x.set (i : Int).toNat ⟨(rd_T181 x (i : Int)).f0, s, (rd_T181 x (i : Int)).f2, (rd_T181 x (i : Int)).f3, (rd_T181 x (i : Int)).f4⟩, i + 1, by have := HLT.out; have := (Kd.R_reads' (Kd.S_R HS.out)).2.2.2.1; have := HLEN.out; show Value.int .i64 (wrap64 ((i : Int) + 1)) = _; rw [w64 (by omega) (by omega)]; rfl, by rw [List.length_set]; exact HLEN.out, by have := HLT.out; have := HLEN.out; omega, HN, ⟨by have := HGK.out; omega⟩, HNS, HK3', HK2', HB'⟩
          · rw [if_neg hop] at hrest
            have HN := Aside0.mk hrest; have hopb : ((rd_T181 x (i : Int)).f0 == 2) = false := beq_eq_false_iff_ne.2 hop; clear hrest hop HREST
            go_wp2
            go_roundg k1
            case measure => have := HGK.out; omega
            case rel => exact ⟨x, i + 1, by have := HLT.out; have := (Kd.R_reads' (Kd.S_R HS.out)).2.2.2.1; have := HLEN.out; show Value.int .i64 (wrap64 ((i : Int) + 1)) = _; rw [w64 (by omega) (by omega)]; rfl, HLEN.out, by have := HLT.out; have := HLEN.out; omega, HN, ⟨by have := HGK.out; omega⟩, HS, HK3, HK2, HB⟩
        · rw [if_neg hlt] at H
          have er := Option.some.inj H; subst er; have hcond := eq_false (show ¬ (i : Int) < (x0.length : Int) by omega); have z3 : wr.cell? ⟨g3, 0, none⟩ = some (.slice As x0.length cs) := (blk_cell HK3.out 0).trans rfl; have z2 : wr.cell? ⟨w.heap.size + 1, 0, none⟩ = some (.slice none 0 0) := (blk_cell HK2.out 0).trans rfl; have f2 := blk_frozen HK2.out 0; clear H HA hlt hi hlen
          go_wp2
          refine bodyPost_ret (results_cell_row rfl _ _ (w.heap.size + 1) 106 #[.slice As x0.length cs] (0, 0) _ rfl (blk_put (cs := #[.slice none 0 0]) HK2.out 0 _ rfl) Try.underlying106 rfl (by kernel_rfl)) rfl ?_
          exact ⟨_, rfl, Kd.S_mono (Kd.S_far (p := ⟨w.heap.size + 1, 0, none⟩) (Kd.S_types HS.out HK2.out (by decide)) (fun _ hk => hk.2) _) (fun _ _ => trivial), HB.out.setCell (by simp) _⟩
end

/-! ### laws_eqInt64S: function 23 -/
def laws_eqInt64S.l0 : Nat → List Int → List Int → Int → Option (Bool)
  | 0, _, _, _ => none
  | k + 1, x0, x1, x5 => if x5 < (x0.length : Int) then (if 0 ≤ x5 then (if x5 < (x1.length : Int) then (if (rd x0 x5) = (rd x1 x5) then (laws_eqInt64S.l0 k x0 x1 (wrap64 (x5 + 1))) else (some false)) else (none)) else (none)) else (some true)
def laws_eqInt64S.f (k : Nat) (l0 : List Int) (l1 : List Int) : Option (Bool) := if (l0.length : Int) = (l1.length : Int) then (laws_eqInt64S.l0 k l0 l1 0) else (some false)
theorem laws_eqInt64S.mono_l : ∀ k, (∀ y0 y1 y2, LeO (laws_eqInt64S.l0 k y0 y1 y2) (laws_eqInt64S.l0 (k + 1) y0 y1 y2))
  | 0 => fun _ _ _ r h => by simp [laws_eqInt64S.l0] at h
  | k + 1 => by
    have ih0 := laws_eqInt64S.mono_l k
    · intro y0 y1 y2
      unfold laws_eqInt64S.l0
      repeat' first
      | (with_reducible exact LeO.refl _)
      | exact ih0 _ _ _
      | exact LeO.none _
      | refine LeO.ite ?_ ?_
      | refine LeO.bind ?_ (fun _ => ?_)
theorem laws_eqInt64S.mono : ∀ a0 a1 k, LeO (laws_eqInt64S.f k a0 a1) (laws_eqInt64S.f (k + 1) a0 a1) := by
  intro a0 a1 k
  have ih0 := laws_eqInt64S.mono_l k
  unfold laws_eqInt64S.f
  repeat' first
      | (with_reducible exact LeO.refl _)
      | exact ih0 _ _ _
      | exact LeO.none _
      | refine LeO.ite ?_ ?_
      | refine LeO.bind ?_ (fun _ => ?_)
set_option maxHeartbeats 8000000 in
set_option maxRecDepth 100000 in
theorem laws_eqInt64S.calls (k : Nat) (A0 : Option Addr) (c0 : Nat) (l0 : List Int) (A1 : Option Addr) (c1 : Nat) (l1 : List Int) (r : Bool) (w : World) (hr0 : Kd.C (Kd.int .i64) w A0 l0.length l0) (hc0 : l0.length ≤ c0) (hr1 : Kd.C (Kd.int .i64) w A1 l1.length l1) (hc1 : l1.length ≤ c1) (h : laws_eqInt64S.f k l0 l1 = some r) :
    Calls Try.prog 23 #[.slice A0 l0.length c0, .slice A1 l1.length c1] w fun e w' => e = .returned (.bool r) ∧ Drawn0 w w' := by
  have HR0 := Aside0.mk hr0
  have HC0 := Aside0.mk hc0
  clear hr0 hc0
  have HR1 := Aside0.mk hr1
  have HC1 := Aside0.mk hc1
  clear hr1 hc1
  have H : (if (l0.length : Int) = (l1.length : Int) then (laws_eqInt64S.l0 k l0 l1 0) else (some false)) = some r := h
  clear h
  by_cases c3 : (l0.length : Int) = (l1.length : Int)
  · rw [if_pos c3] at H
    have c3b0 : ((l0.length : Int) == (l1.length : Int)) = true := beq_iff_eq.mpr c3; have c3b1 : ((l0.length : Int) != (l1.length : Int)) = false := bne_eq_false_iff_eq.mpr c3
    have c3b2 : (l0.length == l1.length) = true := by first | simpa using c3 | (simp at c3 ⊢; omega)
    clear c3; have H' := Aside0.mk H; clear H
    go_enter Try.func23, Try.ntmps23
    go_wp2
    repeat (go_quiet (fail); try go_wp2)
    go_loopg [5] k (fun kq v5 w' => ∃ (x5_1 : Int), v5 = .int .i64 x5_1 ∧ Aside0 (laws_eqInt64S.l0 kq l0 l1 x5_1 = some r) ∧ Aside0 (kq ≤ k) ∧ Drawn0 w w')
    case atStart => exact ⟨(0), (by first | rfl | (simp; done) | (simp [*]; done)), H', ⟨Nat.le_refl _⟩, by repeat (first | exact Drawn0.refl _ | apply Drawn0.step)⟩
    case round =>
      clear H'; (try clear c1); (try clear c2); (try clear p2); (try clear c3); (try clear c3b0); (try clear c3b1); (try clear c3b2); obtain ⟨x5_1, rfl, HA, HK1, ⟨m1, rfl⟩⟩ := hrel
      cases gk with
      | zero => exact absurd HA.out (by simp [laws_eqInt64S.l0])
      | succ k1 =>
        have H := HA.out; clear HA
        simp only [laws_eqInt64S.l0] at H
        by_cases c4 : x5_1 < (l0.length : Int)
        · rw [if_pos c4] at H
          have c4b0 : decide (x5_1 < (l0.length : Int)) = true := decide_eq_true c4; clear c4
          by_cases c5 : 0 ≤ x5_1
          · rw [if_pos c5] at H
            have c5b0 : decide (0 ≤ x5_1) = true := decide_eq_true c5; clear c5
            by_cases c6 : x5_1 < (l1.length : Int)
            · rw [if_pos c6] at H
              have c6b0 : decide (x5_1 < (l1.length : Int)) = true := decide_eq_true c6; clear c6
              by_cases c7 : (rd l0 x5_1) = (rd l1 x5_1)
              · rw [if_pos c7] at H
                have c7b0 : ((rd l0 x5_1) == (rd l1 x5_1)) = true := beq_iff_eq.mpr c7; have c7b1 : ((rd l0 x5_1) != (rd l1 x5_1)) = false := bne_eq_false_iff_eq.mpr c7; clear c7; have H' := Aside0.mk H; clear H; have p289 : 0 ≤ (x5_1 : Int) := of_decide_eq_true (by assumption); have q289 : x5_1 < (l0.length : Int) := of_decide_eq_true (by assumption); obtain ⟨ad289, e289, hx289_0⟩ := Kd.at_int HR0.out x5_1 p289 q289; cases e289; replace p289 := eq_true p289; replace q289 := eq_true q289; have p290 : 0 ≤ (x5_1 : Int) := of_decide_eq_true (by assumption); have q290 : x5_1 < (l1.length : Int) := of_decide_eq_true (by assumption); obtain ⟨ad290, e290, hx290_0⟩ := Kd.at_int HR1.out x5_1 p290 q290; cases e290; replace p290 := eq_true p290; replace q290 := eq_true q290
                go_wp2
                repeat (go_quiet (fail); try go_wp2)
                go_roundg k1
                case measure => have := HK1.out; omega
                case rel => exact ⟨(wrap64 (x5_1 + 1)), (by first | rfl | (simp; done) | (simp [*]; done)), H', ⟨by have := HK1.out; omega⟩, by repeat (first | exact Drawn0.refl _ | apply Drawn0.step)⟩
              · rw [if_neg c7] at H
                have c7b0 : ((rd l0 x5_1) == (rd l1 x5_1)) = false := beq_eq_false_iff_ne.mpr c7; have c7b1 : ((rd l0 x5_1) != (rd l1 x5_1)) = true := bne_iff_ne.mpr c7; obtain rfl := Option.some.inj H; have p289 : 0 ≤ (x5_1 : Int) := of_decide_eq_true (by assumption); have q289 : x5_1 < (l0.length : Int) := of_decide_eq_true (by assumption); obtain ⟨ad289, e289, hx289_0⟩ := Kd.at_int HR0.out x5_1 p289 q289; cases e289; replace p289 := eq_true p289; replace q289 := eq_true q289; have p290 : 0 ≤ (x5_1 : Int) := of_decide_eq_true (by assumption); have q290 : x5_1 < (l1.length : Int) := of_decide_eq_true (by assumption); obtain ⟨ad290, e290, hx290_0⟩ := Kd.at_int HR1.out x5_1 p290 q290; cases e290; replace p290 := eq_true p290; replace q290 := eq_true q290
                go_wp2
                repeat (go_quiet (fail); try go_wp2)
                go_ret
                exact ⟨by first | rfl | (simp; done) | (simp [*]; done), by repeat (first | exact Drawn0.refl _ | apply Drawn0.step)⟩
            · rw [if_neg c6] at H
              exact absurd H (by simp)
          · rw [if_neg c5] at H
            exact absurd H (by simp)
        · rw [if_neg c4] at H
          have c4b0 : decide (x5_1 < (l0.length : Int)) = false := decide_eq_false c4; clear c4; obtain rfl := Option.some.inj H
          go_wp2
          repeat (go_quiet (fail); try go_wp2)
          go_ret
          exact ⟨by first | rfl | (simp; done) | (simp [*]; done), by repeat (first | exact Drawn0.refl _ | apply Drawn0.step)⟩
  · rw [if_neg c3] at H
    have c3b0 : ((l0.length : Int) == (l1.length : Int)) = false := beq_eq_false_iff_ne.mpr c3; have c3b1 : ((l0.length : Int) != (l1.length : Int)) = true := bne_iff_ne.mpr c3
    have c3b2 : (l0.length == l1.length) = false := by first | simpa using c3 | (simp at c3 ⊢; omega)
    obtain rfl := Option.some.inj H
    go_enter Try.func23, Try.ntmps23
    go_wp2
    repeat (go_quiet (fail); try go_wp2)
    go_ret
    exact ⟨by first | rfl | (simp; done) | (simp [*]; done), by repeat (first | exact Drawn0.refl _ | apply Drawn0.step)⟩

/-! ### laws_eqSpan: function 163 -/
def laws_eqSpan.f (a0_0 : Int) (a0_1 : Int) (a1_0 : Int) (a1_1 : Int) : Option (Bool) := if a0_0 = a1_0 then (if a0_1 = a1_1 then (some true) else (some false)) else (some false)
set_option maxHeartbeats 8000000 in
set_option maxRecDepth 100000 in
theorem laws_eqSpan.calls (a0_0 : Int) (a0_1 : Int) (a1_0 : Int) (a1_1 : Int) (r : Bool) (w : World) (h : laws_eqSpan.f a0_0 a0_1 a1_0 a1_1 = some r) :
    Calls Try.prog 163 #[.agg #[.int .i64 a0_0, .int .i64 a0_1], .agg #[.int .i64 a1_0, .int .i64 a1_1]] w fun e w' => e = .returned (.bool r) ∧ Below w.heap.size w w' := by
  have hu33 := Try.underlying33
  have HB := Aside0.mk (Below.refl w.heap.size w)
  have H : (if a0_0 = a1_0 then (if a0_1 = a1_1 then (some true) else (some false)) else (some false)) = some r := h
  clear h
  by_cases c3 : a0_0 = a1_0
  · rw [if_pos c3] at H
    have c3b0 : (a0_0 == a1_0) = true := beq_iff_eq.mpr c3; have c3b1 : (a0_0 != a1_0) = false := bne_eq_false_iff_eq.mpr c3; clear c3
    by_cases c4 : a0_1 = a1_1
    · rw [if_pos c4] at H
      have c4b0 : (a0_1 == a1_1) = true := beq_iff_eq.mpr c4; have c4b1 : (a0_1 != a1_1) = false := bne_eq_false_iff_eq.mpr c4; clear c4; obtain rfl := Option.some.inj H
      go_enter Try.func163, Try.ntmps163
      go_wp2_with (first | ((with_reducible refine gate_dst (N := 2) rfl ?_); refine box_event ?hg (N := 2) ?hd (cs := #[.int .i64 a0_0, .int .i64 a0_1]) (t := 33) ?hr ?_; (case hd => rfl); (case hg => rfl); (case hr => first | (go_simp; done) | (go_simp; rfl)); intro gb291 hg w5 hbox hb; have BK291 := Aside0.mk (hbox); have GW291 := Aside0.mk ((by rw [hg]; exact (below_size (by repeat (first | (with_reducible first | exact HB.out | apply below_alloc | apply pw_below_drewN | apply below_drew1) | exact HB.out))) : w.heap.size ≤ gb291)); have GE291 := Aside0.mk ((by rw [hg]; exact (below_size (by repeat (first | (with_reducible first | exact HB.out | apply below_alloc | apply pw_below_drewN | apply below_drew1) | exact HB.out))) : w.heap.size ≤ gb291)); replace HB := Aside0.mk (below_step (by repeat (first | (with_reducible first | exact HB.out | apply below_alloc | apply pw_below_drewN | apply below_drew1) | exact HB.out)) hb); clear hb hbox hg) | ((with_reducible refine gate_dst (N := 3) rfl ?_); refine box_event ?hg (N := 3) ?hd (cs := #[.int .i64 a1_0, .int .i64 a1_1]) (t := 33) ?hr ?_; (case hd => rfl); (case hg => rfl); (case hr => first | (go_simp; done) | (go_simp; rfl)); intro gb292 hg w6 hbox hb; have BK292 := Aside0.mk (hbox); have GW292 := Aside0.mk ((by rw [hg]; exact (below_size (by repeat (first | (with_reducible first | exact HB.out | apply below_alloc | apply pw_below_drewN | apply below_drew1 | refine below_set ?_ GE291.out) | exact HB.out))) : w.heap.size ≤ gb292)); have GE292 := Aside0.mk ((by rw [hg]; exact (below_size (by repeat (first | (with_reducible first | exact HB.out | apply below_alloc | apply pw_below_drewN | apply below_drew1 | refine below_set ?_ GE291.out) | exact HB.out))) : w.heap.size ≤ gb292)); replace HB := Aside0.mk (below_step (by repeat (first | (with_reducible first | exact HB.out | apply below_alloc | apply pw_below_drewN | apply below_drew1 | refine below_set ?_ GE291.out) | exact HB.out)) hb); have NB291_292 := Aside0.mk ((by rw [hg]; exact Nat.ne_of_lt (blk_lt (g := gb291) (o := .cells #[.int .i64 a0_0, .int .i64 a0_1] 33 (0, 0)) (by (with_reducible repeat (first | refine blk_drewN ?_ _ | refine blk_drew ?_ | refine blk_alloc ?_ _)); exact BK291.out)) : gb291 ≠ gb292)); have NB292_291 := Aside0.mk ((by rw [hg]; exact Nat.ne_of_gt (blk_lt (g := gb291) (o := .cells #[.int .i64 a0_0, .int .i64 a0_1] 33 (0, 0)) (by (with_reducible repeat (first | refine blk_drewN ?_ _ | refine blk_drew ?_ | refine blk_alloc ?_ _)); exact BK291.out)) : gb292 ≠ gb291)); replace BK291 := Aside0.mk (blk_below (g := gb291) (o := .cells #[.int .i64 a0_0, .int .i64 a0_1] 33 (0, 0)) (by (with_reducible repeat (first | refine blk_drewN ?_ _ | refine blk_drew ?_ | refine blk_alloc ?_ _)); exact BK291.out) hb); clear hb hbox hg; have hnb7 := NB291_292.out; have hnc7 := NB292_291.out; have hcz8_0 : w6.cell? ⟨gb291, 0, none⟩ = some (.int .i64 a0_0) := (blk_cell BK291.out 0).trans rfl; have hcz8_1 : w6.cell? ⟨gb291, 1, none⟩ = some (.int .i64 a0_1) := (blk_cell BK291.out 1).trans rfl; have hfz8_0 := blk_frozen BK291.out 0; have hfz8_1 := blk_frozen BK291.out 1; have hcz9_0 : w6.cell? ⟨gb292, 0, none⟩ = some (.int .i64 a1_0) := (blk_cell BK292.out 0).trans rfl; have hcz9_1 : w6.cell? ⟨gb292, 1, none⟩ = some (.int .i64 a1_1) := (blk_cell BK292.out 1).trans rfl; have hfz9_0 := blk_frozen BK292.out 0; have hfz9_1 := blk_frozen BK292.out 1))
      go_ret
      exact ⟨by first | rfl | (simp [errW_none, errW_some] <;> rfl) | (simp [*, errW_none, errW_some] <;> rfl), by repeat (first | (with_reducible first | exact HB.out | apply below_alloc | apply pw_below_drewN | apply below_drew1 | refine below_set ?_ GE291.out | refine below_set ?_ GE292.out) | exact HB.out)⟩
    · rw [if_neg c4] at H
      have c4b0 : (a0_1 == a1_1) = false := beq_eq_false_iff_ne.mpr c4; have c4b1 : (a0_1 != a1_1) = true := bne_iff_ne.mpr c4; obtain rfl := Option.some.inj H
      go_enter Try.func163, Try.ntmps163
      go_wp2_with (first | ((with_reducible refine gate_dst (N := 2) rfl ?_); refine box_event ?hg (N := 2) ?hd (cs := #[.int .i64 a0_0, .int .i64 a0_1]) (t := 33) ?hr ?_; (case hd => rfl); (case hg => rfl); (case hr => first | (go_simp; done) | (go_simp; rfl)); intro gb291 hg w10 hbox hb; have BK291 := Aside0.mk (hbox); have GW291 := Aside0.mk ((by rw [hg]; exact (below_size (by repeat (first | (with_reducible first | exact HB.out | apply below_alloc | apply pw_below_drewN | apply below_drew1) | exact HB.out))) : w.heap.size ≤ gb291)); have GE291 := Aside0.mk ((by rw [hg]; exact (below_size (by repeat (first | (with_reducible first | exact HB.out | apply below_alloc | apply pw_below_drewN | apply below_drew1) | exact HB.out))) : w.heap.size ≤ gb291)); replace HB := Aside0.mk (below_step (by repeat (first | (with_reducible first | exact HB.out | apply below_alloc | apply pw_below_drewN | apply below_drew1) | exact HB.out)) hb); clear hb hbox hg) | ((with_reducible refine gate_dst (N := 3) rfl ?_); refine box_event ?hg (N := 3) ?hd (cs := #[.int .i64 a1_0, .int .i64 a1_1]) (t := 33) ?hr ?_; (case hd => rfl); (case hg => rfl); (case hr => first | (go_simp; done) | (go_simp; rfl)); intro gb292 hg w11 hbox hb; have BK292 := Aside0.mk (hbox); have GW292 := Aside0.mk ((by rw [hg]; exact (below_size (by repeat (first | (with_reducible first | exact HB.out | apply below_alloc | apply pw_below_drewN | apply below_drew1 | refine below_set ?_ GE291.out) | exact HB.out))) : w.heap.size ≤ gb292)); have GE292 := Aside0.mk ((by rw [hg]; exact (below_size (by repeat (first | (with_reducible first | exact HB.out | apply below_alloc | apply pw_below_drewN | apply below_drew1 | refine below_set ?_ GE291.out) | exact HB.out))) : w.heap.size ≤ gb292)); replace HB := Aside0.mk (below_step (by repeat (first | (with_reducible first | exact HB.out | apply below_alloc | apply pw_below_drewN | apply below_drew1 | refine below_set ?_ GE291.out) | exact HB.out)) hb); have NB291_292 := Aside0.mk ((by rw [hg]; exact Nat.ne_of_lt (blk_lt (g := gb291) (o := .cells #[.int .i64 a0_0, .int .i64 a0_1] 33 (0, 0)) (by (with_reducible repeat (first | refine blk_drewN ?_ _ | refine blk_drew ?_ | refine blk_alloc ?_ _)); exact BK291.out)) : gb291 ≠ gb292)); have NB292_291 := Aside0.mk ((by rw [hg]; exact Nat.ne_of_gt (blk_lt (g := gb291) (o := .cells #[.int .i64 a0_0, .int .i64 a0_1] 33 (0, 0)) (by (with_reducible repeat (first | refine blk_drewN ?_ _ | refine blk_drew ?_ | refine blk_alloc ?_ _)); exact BK291.out)) : gb292 ≠ gb291)); replace BK291 := Aside0.mk (blk_below (g := gb291) (o := .cells #[.int .i64 a0_0, .int .i64 a0_1] 33 (0, 0)) (by (with_reducible repeat (first | refine blk_drewN ?_ _ | refine blk_drew ?_ | refine blk_alloc ?_ _)); exact BK291.out) hb); clear hb hbox hg; have hnb12 := NB291_292.out; have hnc12 := NB292_291.out; have hcz13_0 : w11.cell? ⟨gb291, 0, none⟩ = some (.int .i64 a0_0) := (blk_cell BK291.out 0).trans rfl; have hcz13_1 : w11.cell? ⟨gb291, 1, none⟩ = some (.int .i64 a0_1) := (blk_cell BK291.out 1).trans rfl; have hfz13_0 := blk_frozen BK291.out 0; have hfz13_1 := blk_frozen BK291.out 1; have hcz14_0 : w11.cell? ⟨gb292, 0, none⟩ = some (.int .i64 a1_0) := (blk_cell BK292.out 0).trans rfl; have hcz14_1 : w11.cell? ⟨gb292, 1, none⟩ = some (.int .i64 a1_1) := (blk_cell BK292.out 1).trans rfl; have hfz14_0 := blk_frozen BK292.out 0; have hfz14_1 := blk_frozen BK292.out 1))
      go_ret
      exact ⟨by first | rfl | (simp [errW_none, errW_some] <;> rfl) | (simp [*, errW_none, errW_some] <;> rfl), by repeat (first | (with_reducible first | exact HB.out | apply below_alloc | apply pw_below_drewN | apply below_drew1 | refine below_set ?_ GE291.out | refine below_set ?_ GE292.out) | exact HB.out)⟩
  · rw [if_neg c3] at H
    have c3b0 : (a0_0 == a1_0) = false := beq_eq_false_iff_ne.mpr c3; have c3b1 : (a0_0 != a1_0) = true := bne_iff_ne.mpr c3; obtain rfl := Option.some.inj H
    go_enter Try.func163, Try.ntmps163
    go_wp2_with (first | ((with_reducible refine gate_dst (N := 2) rfl ?_); refine box_event ?hg (N := 2) ?hd (cs := #[.int .i64 a0_0, .int .i64 a0_1]) (t := 33) ?hr ?_; (case hd => rfl); (case hg => rfl); (case hr => first | (go_simp; done) | (go_simp; rfl)); intro gb291 hg w15 hbox hb; have BK291 := Aside0.mk (hbox); have GW291 := Aside0.mk ((by rw [hg]; exact (below_size (by repeat (first | (with_reducible first | exact HB.out | apply below_alloc | apply pw_below_drewN | apply below_drew1) | exact HB.out))) : w.heap.size ≤ gb291)); have GE291 := Aside0.mk ((by rw [hg]; exact (below_size (by repeat (first | (with_reducible first | exact HB.out | apply below_alloc | apply pw_below_drewN | apply below_drew1) | exact HB.out))) : w.heap.size ≤ gb291)); replace HB := Aside0.mk (below_step (by repeat (first | (with_reducible first | exact HB.out | apply below_alloc | apply pw_below_drewN | apply below_drew1) | exact HB.out)) hb); clear hb hbox hg) | ((with_reducible refine gate_dst (N := 3) rfl ?_); refine box_event ?hg (N := 3) ?hd (cs := #[.int .i64 a1_0, .int .i64 a1_1]) (t := 33) ?hr ?_; (case hd => rfl); (case hg => rfl); (case hr => first | (go_simp; done) | (go_simp; rfl)); intro gb292 hg w16 hbox hb; have BK292 := Aside0.mk (hbox); have GW292 := Aside0.mk ((by rw [hg]; exact (below_size (by repeat (first | (with_reducible first | exact HB.out | apply below_alloc | apply pw_below_drewN | apply below_drew1 | refine below_set ?_ GE291.out) | exact HB.out))) : w.heap.size ≤ gb292)); have GE292 := Aside0.mk ((by rw [hg]; exact (below_size (by repeat (first | (with_reducible first | exact HB.out | apply below_alloc | apply pw_below_drewN | apply below_drew1 | refine below_set ?_ GE291.out) | exact HB.out))) : w.heap.size ≤ gb292)); replace HB := Aside0.mk (below_step (by repeat (first | (with_reducible first | exact HB.out | apply below_alloc | apply pw_below_drewN | apply below_drew1 | refine below_set ?_ GE291.out) | exact HB.out)) hb); have NB291_292 := Aside0.mk ((by rw [hg]; exact Nat.ne_of_lt (blk_lt (g := gb291) (o := .cells #[.int .i64 a0_0, .int .i64 a0_1] 33 (0, 0)) (by (with_reducible repeat (first | refine blk_drewN ?_ _ | refine blk_drew ?_ | refine blk_alloc ?_ _)); exact BK291.out)) : gb291 ≠ gb292)); have NB292_291 := Aside0.mk ((by rw [hg]; exact Nat.ne_of_gt (blk_lt (g := gb291) (o := .cells #[.int .i64 a0_0, .int .i64 a0_1] 33 (0, 0)) (by (with_reducible repeat (first | refine blk_drewN ?_ _ | refine blk_drew ?_ | refine blk_alloc ?_ _)); exact BK291.out)) : gb292 ≠ gb291)); replace BK291 := Aside0.mk (blk_below (g := gb291) (o := .cells #[.int .i64 a0_0, .int .i64 a0_1] 33 (0, 0)) (by (with_reducible repeat (first | refine blk_drewN ?_ _ | refine blk_drew ?_ | refine blk_alloc ?_ _)); exact BK291.out) hb); clear hb hbox hg; have hnb17 := NB291_292.out; have hnc17 := NB292_291.out; have hcz18_0 : w16.cell? ⟨gb291, 0, none⟩ = some (.int .i64 a0_0) := (blk_cell BK291.out 0).trans rfl; have hcz18_1 : w16.cell? ⟨gb291, 1, none⟩ = some (.int .i64 a0_1) := (blk_cell BK291.out 1).trans rfl; have hfz18_0 := blk_frozen BK291.out 0; have hfz18_1 := blk_frozen BK291.out 1; have hcz19_0 : w16.cell? ⟨gb292, 0, none⟩ = some (.int .i64 a1_0) := (blk_cell BK292.out 0).trans rfl; have hcz19_1 : w16.cell? ⟨gb292, 1, none⟩ = some (.int .i64 a1_1) := (blk_cell BK292.out 1).trans rfl; have hfz19_0 := blk_frozen BK292.out 0; have hfz19_1 := blk_frozen BK292.out 1))
    go_ret
    exact ⟨by first | rfl | (simp [errW_none, errW_some] <;> rfl) | (simp [*, errW_none, errW_some] <;> rfl), by repeat (first | (with_reducible first | exact HB.out | apply below_alloc | apply pw_below_drewN | apply below_drew1 | refine below_set ?_ GE291.out | refine below_set ?_ GE292.out) | exact HB.out)⟩

end Go.Proofs.Ytbijmhooamjgoaa.PFnExactFolded
