-- Written by this session's own program (wip/pr.py) over the kit's printer; contracts that the printer does not know are given by hand.
import Derived.Test.YtfajfjgkkgigoaaPFnDeadx0
import Derived.Test.YtfajfjgkkgigoaaPFnDeadx7
import Derived.Test.YtfajfjgkkgigoaaPFnDeadx14
import Derived.Test.YtfajfjgkkgigoaaPFnDeadx16
namespace Go.Proofs.Ytfajfjgkkgigoaa.PFnDead
open Go.RowKit Go.Proofs.YtfajfjgkkgigoaaW.PrintWords Go.Proofs.YtfajfjgkkgigoaaW.PrintLast Go.Proofs.YtfajfjgkkgigoaaW.PrintMore
attribute [local go_sem] max2_int min2_int max_two min_two max_three min_three max_four min_four   -- for this text's walks alone
set_option linter.unusedVariables false
set_option linter.unusedSimpArgs false

/-! ### spec_l1Rd_dfa: function 152 -/
section
open Go.Proofs.Ytfajfjgkkgigoaa.Kit
/-- a table that has been built, if it has -/
def BdG (r : List Int × List (List Int) × List Int × Bool) : Prop := r.2.2.2 = true → r.1.length = 256 ∧ (1 ≤ r.2.1.length ∧ r.2.1.length ≤ 1000) ∧ r.2.2.1.length = r.2.1.length ∧ ∃ c, (1 ≤ c ∧ c ≤ 256) ∧ ∀ row ∈ r.2.1, row.length = c
/-- the reference's way to a table comes to an end -/
def BdOK : Prop := ∀ (s : Int) (es : List S85) (fs : List S156), es.length ≤ 20000 → fs.length ≤ 40 → (∀ e ∈ es, e.f2.length ≤ 128) → ∃ k r, spec_BuildDfa.f k s es fs 60 = some r ∧ BdG r
/-- a drawn table -/
def TabB (b : List Int) (nx : List (List Int)) (ac : List Int) : Prop := b.length = 256 ∧ (1 ≤ nx.length ∧ nx.length ≤ 1000) ∧ ac.length = nx.length ∧ ∃ c, (1 ≤ c ∧ c ≤ 256) ∧ ∀ row ∈ nx, row.length = c
def DfPost (base : Nat) (w0 : World) (L : List Fact) (e : Ending) (w' : World) : Prop := ∃ (vb : Value) (b : List Int) (vn : Value) (nx : List (List Int)) (va : Value) (ac : List Int), e = .returned (.agg #[vb, vn, va]) ∧ TabB b nx ac ∧ Hp base w0 w' (fR (Kd.int .i64) 2 base vb b :: fS (Kd.slice 2 (Kd.int .i64)) 27 base vn nx :: fR (Kd.int .i64) 2 base va ac :: L)
theorem spec_l1Rd_dfa.need25 : (rtab .any (opsOf Try.f152 25)).2.map Prod.fst = [[], [0], [], [2], [3], [4], [1, 5, 3], [0, 1, 2, 3, 4, 5, 6], [7, 6, 6, 0, 1, 2, 3, 4, 5, 6]] := by kernel_rfl
theorem spec_l1Rd_dfa.dst25 : (opsOf Try.f152 25).toList.map Oper.dst = [some 92, some 93, some 94, some 95, some 96, some 97, some 98, some 99, none] := by kernel_rfl
set_option maxHeartbeats 4000000 in
set_option maxRecDepth 100000 in
theorem spec_l1Rd_dfa.calls {base : Nat} {w0 w : World} {L : List Fact} (S : Hp base w0 w L) (i g : Nat) (Ab : Option Addr) (cb : Nat) (bs : List Int) (hB : RdOK base w0 Ab bs) (hi : L[i]? = some (fRd 179 base g (.slice Ab bs.length cb))) (hbd : BdOK) :
  Calls Try.prog 152 #[.pointer (some ⟨g, 0, none⟩)] w (DfPost base w0 L) := by
 replace S := Aside0.mk S
 have HB := Aside0.mk hB
 have HI := Aside0.mk hi
 clear hB hi
 have HBD := Aside0.mk hbd
 clear hbd
 go_enter Try.func152, Try.ntmps152
 go_wp2_with (first | ((with_reducible refine gate_dst (N := 2) rfl ?_); refine ev_box S rfl rfl (cs := #[.slice none 0 0, .slice none 0 0, .slice none 0 0]) (t := 30) (by first | (go_simp; done) | (go_simp; rfl)) (fun g2 w_ Gg2 S1 => ?_); clear S; have S := S1; clear S1))
 refine (spec_l1Rd_once.calls S.out (i + 1) g Ab cb bs HB.out (show (_ :: L)[i + 1]? = _ from HI.out) 2 (by omega)).mono ?_
 rintro e w_ ⟨b, rfl, S1⟩
 replace S := Aside0.mk S1
 clear S1
 go_upto_if 16 with fail
 (try simp only [Act.put, List.setIfInBounds_toArray, List.set_cons_zero, List.set_cons_succ])
 go_cut [] (fun wc => Aside0 (Hp base w0 wc (fB base g2 #[.slice none 0 0, .slice none 0 0, .slice none 0 0] 30 :: L)))
 case first =>
  cases b with
  | false =>
   go_wp2_with fail
   go_meet
   case rel => exact S
  | true =>
   go_wp2_with fail
   refine (spec_l1Rd_rxs.calls S.out (i + 1) g Ab cb bs HB.out (show (_ :: L)[i + 1]? = _ from HI.out)).mono ?_
   rintro e w_ ⟨v, xs, rfl, hx, hb, S1⟩
   obtain ⟨Ax, cx, rfl⟩ := S1.slice 0 rfl; replace S := Aside0.mk S1; clear S1
   go_wp2_with fail
   refine (spec_BuildNfa.calls S.out 0 Ax cx xs rfl hb).mono ?_
   rintro e w_ ⟨s, ve, es, vf, fs, ok, rfl, -, he, hf, hs, S1⟩
   obtain ⟨Ae, ce, rfl⟩ := S1.slice 0 rfl; obtain ⟨Af, cf_, rfl⟩ := S1.slice 1 rfl; have HE0 := Aside0.mk (And.intro he (And.intro hf hs)); replace S := Aside0.mk S1; clear S1 he hf hs hx hb
   go_wp2_with (first | ((with_reducible refine gate_dst (N := 3) rfl ?_); refine ev_box S rfl rfl (cs := #[.int .i64 0, .slice none 0 0, .slice none 0 0]) (t := 36) (by first | (go_simp; done) | (go_simp; rfl)) (fun g3 w_ Gg3 S1 => ?_); clear S; have S := S1; clear S1; have z0 := S.out.cell 0 0 rfl rfl; have z1 := S.out.cell 0 1 rfl rfl; have z2 := S.out.cell 0 2 rfl rfl; have f0 := S.out.frozen 0 0 rfl; have f1 := S.out.frozen 0 1 rfl; have f2 := S.out.frozen 0 2 rfl) | ((with_reducible refine gate_store (t := 36) (p := 3) rfl ?_); refine ev_run (w1 := ((((_ : World)).setCell ⟨g3, 0, none⟩ (.int .i64 s)).setCell ⟨g3, 1, none⟩ (.slice Ae es.length ce)).setCell ⟨g3, 2, none⟩ (.slice Af fs.length cf_)) rfl rfl (by first | (go_simp; done) | (go_simp; rfl)) (fun w_ hw => ?_); have S1 := Aside0.mk ((((S.out).put 0 0 (u := .int .i64 s) rfl rfl).put 0 1 (u := .slice Ae es.length ce) rfl rfl).put 0 2 (u := .slice Af fs.length cf_) rfl rfl); rw [← hw] at S1; clear hw; clear S; have S := S1; clear S1; clear z0 z1 z2 f0 f1 f2; have z0 := S.out.cell 0 0 rfl rfl; have z1 := S.out.cell 0 1 rfl rfl; have z2 := S.out.cell 0 2 rfl rfl))
   obtain ⟨k, ⟨r1, r2, r3, r4⟩, hf, hg⟩ := HBD.out s es fs HE0.out.1 HE0.out.2.1 HE0.out.2.2; have RE := (S.out.row 1 rfl).2; have RF := (S.out.row 2 rfl).2
   refine (spec_BuildDfa.calls k s _ _ es _ _ fs 60 r1 r2 r3 r4 _ RE.2 RE.1 RF.2 RF.1 hf).mono ?_
   rintro e w_ ⟨v0, v1, v2, rfl, h0, h1, h2, hb⟩
   replace S := Aside0.mk (hp_tab S.out h0 h1 h2 hb); clear h0 h1 h2 hb hf RE RF z0 z1 z2; obtain ⟨A0, c0, rfl⟩ := S.out.slice 0 rfl; obtain ⟨A1, c1, rfl⟩ := S.out.sliceS 1 rfl; obtain ⟨A2, c2, rfl⟩ := S.out.slice 2 rfl; have HG := Aside0.mk hg; clear hg
   cases ok with
   | false =>
    go_wp2_with (first | ((with_reducible refine gate_dst (N := 5) rfl ?_); refine ev_box S rfl rfl (cs := #[.slice none 0 0, .slice none 0 0, .slice none 0 0]) (t := 30) (by first | (go_simp; done) | (go_simp; rfl)) (fun g5 w_ Gg5 S1 => ?_); clear S; have S := S1; clear S1; have z0 := S.out.cell 0 0 rfl rfl; have z1 := S.out.cell 0 1 rfl rfl; have z2 := S.out.cell 0 2 rfl rfl; have f0 := S.out.frozen 0 0 rfl; have f1 := S.out.frozen 0 1 rfl; have f2 := S.out.frozen 0 2 rfl) | ((with_reducible refine gate_store (t := 30) (p := 5) rfl ?_); refine ev_run (w1 := ((((_ : World)).setCell ⟨g5, 0, none⟩ (.slice A0 r1.length c0)).setCell ⟨g5, 1, none⟩ (.slice A1 r2.length c1)).setCell ⟨g5, 2, none⟩ (.slice A2 r3.length c2)) rfl rfl (by first | (go_simp; done) | (go_simp; rfl)) (fun w_ hw => ?_); have S1 := Aside0.mk ((((S.out).put 0 0 (u := .slice A0 r1.length c0) rfl rfl).put 0 1 (u := .slice A1 r2.length c1) rfl rfl).put 0 2 (u := .slice A2 r3.length c2) rfl rfl); rw [← hw] at S1; clear hw; clear S; have S := S1; clear S1; clear z0 z1 z2 f0 f1 f2))
    go_meet
    case rel => exact ⟨Hp.pick (A := [_, _, _, _, _, _, _, _, _]) [8] S.out (by decide) (by simp)⟩
   | true =>
    cases r4 with
    | false =>
     go_wp2_with (first | ((with_reducible refine gate_dst (N := 5) rfl ?_); refine ev_box S rfl rfl (cs := #[.slice none 0 0, .slice none 0 0, .slice none 0 0]) (t := 30) (by first | (go_simp; done) | (go_simp; rfl)) (fun g5 w_ Gg5 S1 => ?_); clear S; have S := S1; clear S1; have z0 := S.out.cell 0 0 rfl rfl; have z1 := S.out.cell 0 1 rfl rfl; have z2 := S.out.cell 0 2 rfl rfl; have f0 := S.out.frozen 0 0 rfl; have f1 := S.out.frozen 0 1 rfl; have f2 := S.out.frozen 0 2 rfl) | ((with_reducible refine gate_store (t := 30) (p := 5) rfl ?_); refine ev_run (w1 := ((((_ : World)).setCell ⟨g5, 0, none⟩ (.slice A0 r1.length c0)).setCell ⟨g5, 1, none⟩ (.slice A1 r2.length c1)).setCell ⟨g5, 2, none⟩ (.slice A2 r3.length c2)) rfl rfl (by first | (go_simp; done) | (go_simp; rfl)) (fun w_ hw => ?_); have S1 := Aside0.mk ((((S.out).put 0 0 (u := .slice A0 r1.length c0) rfl rfl).put 0 1 (u := .slice A1 r2.length c1) rfl rfl).put 0 2 (u := .slice A2 r3.length c2) rfl rfl); rw [← hw] at S1; clear hw; clear S; have S := S1; clear S1; clear z0 z1 z2 f0 f1 f2))
     go_meet
     case rel => exact ⟨Hp.pick (A := [_, _, _, _, _, _, _, _, _]) [8] S.out (by decide) (by simp)⟩
    | true =>
     go_wp2_with (first | ((with_reducible refine gate_dst (N := 5) rfl ?_); refine ev_box S rfl rfl (cs := #[.slice none 0 0, .slice none 0 0, .slice none 0 0]) (t := 30) (by first | (go_simp; done) | (go_simp; rfl)) (fun g5 w_ Gg5 S1 => ?_); clear S; have S := S1; clear S1; have z0 := S.out.cell 0 0 rfl rfl; have z1 := S.out.cell 0 1 rfl rfl; have z2 := S.out.cell 0 2 rfl rfl; have f0 := S.out.frozen 0 0 rfl; have f1 := S.out.frozen 0 1 rfl; have f2 := S.out.frozen 0 2 rfl) | ((with_reducible refine gate_store (t := 30) (p := 5) rfl ?_); refine ev_run (w1 := ((((_ : World)).setCell ⟨g5, 0, none⟩ (.slice A0 r1.length c0)).setCell ⟨g5, 1, none⟩ (.slice A1 r2.length c1)).setCell ⟨g5, 2, none⟩ (.slice A2 r3.length c2)) rfl rfl (by first | (go_simp; done) | (go_simp; rfl)) (fun w_ hw => ?_); have S1 := Aside0.mk ((((S.out).put 0 0 (u := .slice A0 r1.length c0) rfl rfl).put 0 1 (u := .slice A1 r2.length c1) rfl rfl).put 0 2 (u := .slice A2 r3.length c2) rfl rfl); rw [← hw] at S1; clear hw; clear S; have S := S1; clear S1; clear z0 z1 z2 f0 f1 f2; have z0 := S.out.cell 0 0 rfl rfl; have z1 := S.out.cell 0 1 rfl rfl; have z2 := S.out.cell 0 2 rfl rfl; have y0 := S.out.cell 8 0 rfl rfl; have y1 := S.out.cell 8 1 rfl rfl; have y2 := S.out.cell 8 2 rfl rfl; have f0 := S.out.frozen 8 0 rfl; have f1 := S.out.frozen 8 1 rfl; have f2 := S.out.frozen 8 2 rfl))
     have S1 := Aside0.mk ((((S.out).put 8 0 (u := .slice A0 r1.length c0) rfl rfl).put 8 1 (u := .slice A1 r2.length c1) rfl rfl).put 8 2 (u := .slice A2 r3.length c2) rfl rfl)
     refine bodyPost_ret (results_cell_row rfl _ _ g2 30 #[.slice A0 r1.length c0, .slice A1 r2.length c1, .slice A2 r3.length c2] (0, 0) _ rfl (S1.out.blk 8 rfl) Try.underlying30 rfl (by kernel_rfl)) rfl ?_
     obtain ⟨g1, g2_, g3_, g4⟩ := HG.out (by first | rfl | trivial)
     exact ⟨_, r1, _, r2, _, r3, rfl, ⟨g1, g2_, g3_, g4⟩, Hp.pick (A := [_, _, _, _, _, _, _, _, _]) [1, 2, 3] S1.out (by decide) (by simp)⟩
 case rest =>
  clear S; have S := hcut; clear hcut
  go_wp2_with fail
  refine (spec_l1Rd_below.calls S.out (i + 1) g Ab cb bs HB.out (show (_ :: L)[i + 1]? = _ from HI.out) 3 (by omega)).mono ?_
  rintro e w_ ⟨m, rfl, hm, S1⟩
  replace S := Aside0.mk S1; clear S1; have Hm := Aside0.mk hm; clear hm; obtain ⟨T, eT⟩ : ∃ T : Nat, wrap64 (1 + m) = (T : Int) := ⟨(1 + m).toNat, by rw [w64 (by have := Hm.out; omega) (by have := Hm.out; omega)]; have := Hm.out; omega⟩; have HT := Aside0.mk (show 1 ≤ T ∧ T ≤ 3 by rw [w64 (by have := Hm.out; omega) (by have := Hm.out; omega)] at eT; have := Hm.out; omega)
  go_wp2_with (first | ((with_reducible refine gate_dst (N := 8) rfl ?_); refine ev_box S rfl rfl (cs := #[.slice none 0 0, .slice none 0 0, .slice none 0 0]) (t := 30) (by first | (go_simp; done) | (go_simp; rfl)) (fun g8 w_ Gg8 S1 => ?_); clear S; have S := S1; clear S1; have z0 := S.out.cell 0 0 rfl rfl; have z1 := S.out.cell 0 1 rfl rfl; have z2 := S.out.cell 0 2 rfl rfl; have f0 := S.out.frozen 0 0 rfl; have f1 := S.out.frozen 0 1 rfl; have f2 := S.out.frozen 0 2 rfl) | ((with_reducible refine gate_store (t := 30) (p := 8) rfl ?_); refine ev_run (w1 := ((((_ : World)).setCell ⟨g8, 0, none⟩ (.slice none 0 0)).setCell ⟨g8, 1, none⟩ (.slice none 0 0)).setCell ⟨g8, 2, none⟩ (.slice none 0 0)) rfl rfl (by first | (go_simp; done) | (go_simp; rfl)) (fun w_ hw => ?_); have S1 := Aside0.mk ((((S.out).put 0 0 (u := .slice none 0 0) rfl rfl).put 0 1 (u := .slice none 0 0) rfl rfl).put 0 2 (u := .slice none 0 0) rfl rfl); rw [← hw] at S1; clear hw; clear S; have S := S1; clear S1; clear z0 z1 z2 f0 f1 f2))
  (try simp only [eT]); clear eT; replace S := Aside0.mk (show Hp base w0 _ (fB base g8 #[.slice none 0 0, .slice none 0 0, .slice none 0 0] 30 :: fR (Kd.int .i64) 2 base (.slice none 0 0) [] :: fB base g2 #[.slice none 0 0, .slice none 0 0, .slice none 0 0] 30 :: L) from Hp.pick (A := [_, _, _]) [1, 0, 2] (S.out.none_ (Kd.int .i64) 2) (by decide) (by simp))
  go_loopg [9] 256 (fun gk v9 wr => ∃ (n : Nat) (Al : Option Addr) (cl : Nat) (bl : List Int), v9 = .int .i64 (n : Int) ∧ n + gk = 256 ∧ bl.length = n ∧ Aside0 (Hp base w0 wr (fB base g8 #[.slice Al bl.length cl, .slice none 0 0, .slice none 0 0] 30 :: fR (Kd.int .i64) 2 base (.slice Al bl.length cl) bl :: fB base g2 #[.slice none 0 0, .slice none 0 0, .slice none 0 0] 30 :: L)))
  case atStart => exact ⟨0, none, 0, [], rfl, rfl, rfl, S⟩
  case round =>
   clear S; obtain ⟨n, Al, cl, bl, rfl, hn, hbl, S⟩ := hrel
   by_cases cn : n < 256
   case pos =>
    have h1 := eq_true (show (n : Int) < 256 by omega); have HN := Aside0.mk (And.intro hn (And.intro hbl cn)); have WN := Aside0.mk (show wrap64 ((n : Int) + 1) = ((n + 1 : Nat) : Int) from nat_next (by omega)); clear hn hbl cn
    go_upto_region 12 with fail
    (try simp only [Act.put, List.setIfInBounds_toArray, List.set_cons_zero, List.set_cons_succ])
    go_cut [49] (fun v49 wc => ∃ b : Bool, v49 = .bool b ∧ Aside0 (Hp base w0 wc (fB base g8 #[.slice Al bl.length cl, .slice none 0 0, .slice none 0 0] 30 :: fR (Kd.int .i64) 2 base (.slice Al bl.length cl) bl :: fB base g2 #[.slice none 0 0, .slice none 0 0, .slice none 0 0] 30 :: L)))
    case first =>
     by_cases c1 : (97 : Int) ≤ (n : Int)
     ·have h2 := eq_true c1
      by_cases c2 : (n : Int) < wrap64 (wrap64 (97 + (T : Int)) - 1)
      ·have h3 := eq_true c2
       go_wp2_with fail
       go_meet
       case rel => exact ⟨_, rfl, S⟩
      ·have h3 := eq_false c2
       go_wp2_with fail
       go_meet
       case rel => exact ⟨_, rfl, S⟩
     ·have h2 := eq_false c1
      go_wp2_with fail
      go_meet
      case rel => exact ⟨_, rfl, S⟩
    case rest =>
     clear S; obtain ⟨b, rfl, S⟩ := hcut
     go_upto_if 49 with fail
     (try simp only [Act.put, List.setIfInBounds_toArray, List.set_cons_zero, List.set_cons_succ])
     go_cut [10] (fun v10 wc => ∃ x : Int, v10 = .int .i64 x ∧ Aside0 (Hp base w0 wc (fB base g8 #[.slice Al bl.length cl, .slice none 0 0, .slice none 0 0] 30 :: fR (Kd.int .i64) 2 base (.slice Al bl.length cl) bl :: fB base g2 #[.slice none 0 0, .slice none 0 0, .slice none 0 0] 30 :: L)))
     case first =>
      cases b with
      | false =>
       go_wp2_with fail
       go_meet
       case rel => exact ⟨_, rfl, S⟩
      | true =>
       go_wp2_with fail
       go_meet
       case rel => exact ⟨_, rfl, S⟩
     case rest =>
      clear S; obtain ⟨x, rfl, S⟩ := hcut; have z0 := S.out.cell 0 0 rfl rfl
      go_wp2_with (first | ((with_reducible refine gate_dst (N := 55) rfl ?_); refine ev_lit S (Kd.int .i64) (2) rfl rfl (xs := [x]) (inner := [.int .i64 x]) (by first | (go_simp; done) | (go_simp; rfl)) (Reps.one rfl (Reps.none _ _)) (by simp) (fun v55 w_ S1 => ?_); clear S; have S := S1; clear S1; obtain ⟨A55, c55, rfl⟩ := S.out.slice 0 rfl) | ((with_reducible refine gate_dst (N := 56) rfl ?_); refine ev_app S 2 rfl rfl (.tmp 53) (.tmp 55) (27) (.int .i64 0) (8) rfl Try.underlying27 (by kernel_rfl) rfl (by decide) (by omega) rfl rfl (S.out.row 0 rfl).2.2 (fun _ _ h => h) (by have := HN.out; simp only [List.length_singleton]; omega) (fun v56 w_ S1 => ?_); clear S; have S := Aside0.mk S1.out.tail; clear S1; obtain ⟨A56, c56, rfl⟩ := S.out.slice 1 rfl; (try clear z0); have z0 := S.out.cell 0 0 rfl rfl; have f0 := S.out.frozen 0 0 rfl) | ((with_reducible refine gate_store (t := 27) (p := 57) rfl ?_); refine ev_run (w1 := ((_ : World)).setCell ⟨g8, 0, none⟩ (.slice A56 (bl ++ [x]).length c56)) rfl rfl (by first | (go_simp; done) | (go_simp; rfl)) (fun w_ hw => ?_); have S1 := Aside0.mk ((S.out).put 0 0 (u := .slice A56 (bl ++ [x]).length c56) rfl rfl); rw [← hw] at S1; clear hw; clear S; have S := S1; clear S1; clear z0 f0))
      go_roundg (256 - (n + 1))
      case measure => have := HN.out; omega
      case rel => exact ⟨n + 1, A56, c56, bl ++ [x], congrArg (Value.int .i64) WN.out, by have := HN.out; omega, by rw [List.length_append, List.length_singleton, HN.out.2.1], S⟩
   case neg =>
    have h1 := eq_false (show ¬ (n : Int) < 256 by omega); have HL := Aside0.mk (show bl.length = 256 by omega); clear hn hbl cn; obtain ⟨q, eq⟩ : ∃ q, q = Int.tdiv (bs.length : Int) 5 := ⟨_, rfl⟩
    have hd : 0 ≤ q ∧ q ≤ 300000 := by have := HB.out.1; rw [eq, Int.tdiv_eq_ediv_of_nonneg (by omega)]; omega
    have HDV := Aside0.mk hd; have E5 := eq.symm; have W0 : wrap64 q = q := w64 (by omega) (by omega); have W1 : wrap64 (1 + q) = 1 + q := w64 (by omega) (by omega); clear hd eq
    go_upto_region 15 with fail
    (try simp only [Act.put, List.setIfInBounds_toArray, List.set_cons_zero, List.set_cons_succ])
    go_cut [11] (fun v11 wc => ∃ N : Nat, v11 = .int .i64 (N : Int) ∧ Aside0 (1 ≤ N ∧ N ≤ 7) ∧ Aside0 (Hp base w0 wc (fB base g8 #[.slice Al bl.length cl, .slice none 0 0, .slice none 0 0] 30 :: fR (Kd.int .i64) 2 base (.slice Al bl.length cl) bl :: fB base g2 #[.slice none 0 0, .slice none 0 0, .slice none 0 0] 30 :: L)))
    case first =>
     obtain ⟨p, hp, S1⟩ := S.out.rdOpen (i + 3) (show (_ :: _ :: _ :: L)[i + 3]? = _ from HI.out); have z0 := S1.cell (i + 3) 0 (List.getElem?_set_self (by have := (List.getElem?_eq_some_iff.1 HI.out).1; simp; omega)) rfl; clear S1 hp
     go_wp2_with fail
     all_goals
      clear E5 z0
      refine (spec_l1Rd_below.calls S.out (i + 3) g Ab cb bs HB.out (show (_ :: _ :: _ :: L)[i + 3]? = _ from HI.out) _ (by have := HDV.out; omega)).mono ?_
      rintro e w_ ⟨m2, rfl, hm2, S1⟩
      have HM2 := Aside0.mk (show 0 ≤ m2 ∧ m2 ≤ 6 by have := HDV.out; omega); replace S := Aside0.mk S1; have WM : wrap64 (1 + m2) = 1 + m2 := w64 (by have := HM2.out; omega) (by have := HM2.out; omega); clear S1 hm2
      go_wp2_with fail
      go_meet
      case rel => exact ⟨(1 + m2).toNat, by first | (congr 1; rw [WM]; have := HM2.out; omega) | (rw [WM]; congr 1; have := HM2.out; omega) | (congr 1; have := HM2.out; omega), ⟨by have := HM2.out; omega⟩, S⟩
    case rest =>
     clear S E5 W0 W1 HDV; obtain ⟨N, rfl, HNN, S⟩ := hcut; replace S := Aside0.mk (show Hp base w0 _ (fS (Kd.slice 2 (Kd.int .i64)) 27 base (.slice none 0 0) [] :: fR (Kd.int .i64) 2 base (.slice none 0 0) [] :: fB base g8 #[.slice Al bl.length cl, .slice none 0 0, .slice none 0 0] 30 :: fR (Kd.int .i64) 2 base (.slice Al bl.length cl) bl :: fB base g2 #[.slice none 0 0, .slice none 0 0, .slice none 0 0] 30 :: L) from Hp.pick (A := [_, _, _, _, _]) [0, 1, 2, 3, 4] ((S.out.none_ (Kd.int .i64) 2).noneS (Kd.slice 2 (Kd.int .i64)) 27) (by decide) (by simp))
     go_wp2_with fail
     go_loopg [12] N (fun gk v12 wr => ∃ (s : Nat) (An : Option Addr) (cn : Nat) (nx : List (List Int)) (Aa : Option Addr) (ca : Nat) (ac : List Int), v12 = .int .i64 (s : Int) ∧ s + gk = N ∧ (nx.length = s ∧ ac.length = s ∧ ∀ y ∈ nx, y.length = T) ∧ Aside0 (Hp base w0 wr (fS (Kd.slice 2 (Kd.int .i64)) 27 base (.slice An nx.length cn) nx :: fR (Kd.int .i64) 2 base (.slice Aa ac.length ca) ac :: fB base g8 #[.slice Al bl.length cl, .slice An nx.length cn, .slice Aa ac.length ca] 30 :: fR (Kd.int .i64) 2 base (.slice Al bl.length cl) bl :: fB base g2 #[.slice none 0 0, .slice none 0 0, .slice none 0 0] 30 :: L)))
     case atStart => exact ⟨0, none, 0, [], none, 0, [], rfl, by omega, ⟨rfl, rfl, fun y hy => by cases hy⟩, S⟩
     case round =>
      clear S; obtain ⟨s, An, cn, nx, Aa, ca, ac, rfl, hs, hq, S⟩ := hrel
      by_cases cs : s < N
      case pos =>
       have h2 := eq_true (show (s : Int) < (N : Int) by omega); have HS := Aside0.mk (show s + (N - s) = N ∧ nx.length = s ∧ ac.length = s ∧ (∀ y ∈ nx, y.length = T) ∧ s < N ∧ N ≤ 7 from ⟨by omega, hq.1, hq.2.1, hq.2.2, cs, HNN.out.2⟩); obtain ⟨gko, egk⟩ : ∃ q, q = gk := ⟨_, rfl⟩; have HGK := Aside0.mk (show s + gko = N ∧ gko = gk from ⟨by omega, egk⟩); have WS := Aside0.mk (show wrap64 ((s : Int) + 1) = ((s + 1 : Nat) : Int) from nat_next (by have := HNN.out; omega)); clear hs hq cs egk
       go_wp2_with (first | ((with_reducible refine gate_dst (N := 74) rfl ?_); refine ev_lit S (Kd.int .i64) (2) rfl rfl (xs := ([] : List Int)) (inner := []) (by first | (go_simp; done) | (go_simp; rfl)) (Reps.none _ _) (by simp) (fun v74 w_ S1 => ?_); clear S; have S := S1; clear S1; obtain ⟨A74, c74, rfl⟩ := S.out.slice 0 rfl))
       go_loopg [13, 14] T (fun gk v13 v14 wr => ∃ (Ar : Option Addr) (cr : Nat) (row : List Int), v13 = .slice Ar row.length cr ∧ v14 = .int .i64 (row.length : Int) ∧ row.length + gk = T ∧ Aside0 (Hp base w0 wr (fR (Kd.int .i64) 2 base (.slice Ar row.length cr) row :: fS (Kd.slice 2 (Kd.int .i64)) 27 base (.slice An nx.length cn) nx :: fR (Kd.int .i64) 2 base (.slice Aa ac.length ca) ac :: fB base g8 #[.slice Al bl.length cl, .slice An nx.length cn, .slice Aa ac.length ca] 30 :: fR (Kd.int .i64) 2 base (.slice Al bl.length cl) bl :: fB base g2 #[.slice none 0 0, .slice none 0 0, .slice none 0 0] 30 :: L)))
       case atStart => exact ⟨A74, c74, [], rfl, rfl, by simp, S⟩
       case round =>
        clear S; obtain ⟨Ar, cr, row, rfl, rfl, hr, S⟩ := hrel
        by_cases ck : row.length < T
        case pos =>
         have h3 := eq_true (show (row.length : Int) < (T : Int) by omega); have HR := Aside0.mk (And.intro hr ck); have WN := Aside0.mk (show wrap64 ((row.length : Int) + 1) = ((row.length + 1 : Nat) : Int) from nat_next (by have := HT.out; omega)); clear hr ck
         go_wp2_with fail
         refine (spec_l1Rd_below.calls S.out (i + 6) g Ab cb bs HB.out (show (_ :: _ :: _ :: _ :: _ :: _ :: L)[i + 6]? = _ from HI.out) (N : Int) (by have := HNN.out; omega)).mono ?_
         rintro e w_ ⟨x, rfl, -, S1⟩
         replace S := Aside0.mk S1; clear S1
         go_wp2_with (first | ((with_reducible refine gate_dst (N := 84) rfl ?_); refine ev_lit S (Kd.int .i64) (2) rfl rfl (xs := [x]) (inner := [.int .i64 x]) (by first | (go_simp; done) | (go_simp; rfl)) (Reps.one rfl (Reps.none _ _)) (by simp) (fun v84 w_ S1 => ?_); clear S; have S := S1; clear S1; obtain ⟨A84, c84, rfl⟩ := S.out.slice 0 rfl) | ((with_reducible refine gate_dst (N := 85) rfl ?_); refine ev_app S 1 rfl rfl (.tmp 80) (.tmp 84) (27) (.int .i64 0) (8) rfl Try.underlying27 (by kernel_rfl) rfl (by decide) (by omega) rfl rfl (S.out.row 0 rfl).2.2 (fun _ _ h => h) (by have := HR.out; have := HT.out; simp only [List.length_singleton]; omega) (fun v85 w_ S1 => ?_); clear S; have S := Aside0.mk S1.out.tail; clear S1; obtain ⟨A85, c85, rfl⟩ := S.out.slice 0 rfl))
         go_roundg (T - (row.length + 1))
         case measure => have := HR.out; omega
         case rel => exact ⟨A85, c85, row ++ [x], by rw [List.length_append, List.length_singleton], by rw [List.length_append, List.length_singleton]; exact congrArg (Value.int .i64) WN.out, by rw [List.length_append, List.length_singleton]; have := HR.out; omega, S⟩
        case neg =>
         have h3 := eq_false (show ¬ (row.length : Int) < (T : Int) by omega); have HRW := Aside0.mk (show row.length = T by omega); clear hr ck; have z1 := S.out.cell 3 1 rfl rfl
         go_wp2_with (first | ((with_reducible refine gate_dst (N := 89) rfl ?_); refine ev_litM S 0 rfl (Kd.slice 2 (Kd.int .i64)) 27 rfl rfl rfl M_of_R (by first | (go_simp; done) | (go_simp; rfl)) (fun v89 w_ S1 => ?_); clear S; have S := S1; clear S1; obtain ⟨A50, c50, rfl⟩ := S.out.slice 0 rfl) | ((with_reducible refine gate_dst (N := 90) rfl ?_); refine ev_appS S 1 0 (by decide) rfl rfl rfl (.tmp 87) (.tmp 89) (28) (.slice none 0 0) (24) rfl Try.underlying28 (by kernel_rfl) rfl (by decide) (by omega) rfl rfl (by have := HS.out; have := HNN.out; omega) (fun v90 w_ S1 => ?_); clear S; have S := Aside0.mk S1.out.tail; clear S1; obtain ⟨NX, eNX⟩ : ∃ q, q = nx ++ [row] := ⟨_, rfl⟩; rw [show nx ++ [row] = NX from eNX.symm] at S; have ENX := Aside0.mk eNX; clear eNX; obtain ⟨A51, c51, rfl⟩ := S.out.sliceS 0 rfl; (try clear z1); have z1 := S.out.cell 2 1 rfl rfl; have f1 := S.out.frozen 2 1 rfl) | ((with_reducible refine gate_store (t := 28) (p := 91) rfl ?_); refine ev_run (w1 := ((_ : World)).setCell ⟨g8, 1, none⟩ (.slice A51 NX.length c51)) rfl rfl (by first | (go_simp; done) | (go_simp; rfl)) (fun w_ hw => ?_); have S1 := Aside0.mk ((S.out).put 2 1 (u := .slice A51 NX.length c51) rfl rfl); rw [← hw] at S1; clear hw; clear S; have S := S1; clear S1; clear z1 f1))
         refine mask_ (n := 9) (fun l v W => (l 0 = true → v 0 = .pointer (some ⟨g8, 2, none⟩)) ∧ (l 1 = true → v 1 = .slice Aa ac.length ca) ∧ (l 2 = true → v 2 = .pointer (some ⟨g, 0, none⟩)) ∧ (l 3 = true → ∃ x : Int, v 3 = .int .i64 x) ∧ (l 4 = true → ∃ x : Int, v 4 = .int .i64 x) ∧ (l 7 = true → v 7 = .pointer (some ⟨g8, 2, none⟩)) ∧ (bif l 8 then (∃ x : Int, Hp base w0 W (fS (Kd.slice 2 (Kd.int .i64)) 27 base (.slice A51 NX.length c51) NX :: fR (Kd.int .i64) 2 base (v 6) (ac ++ [x]) :: fB base g8 #[.slice Al bl.length cl, .slice A51 NX.length c51, v 6] 30 :: fR (Kd.int .i64) 2 base (.slice Al bl.length cl) bl :: fB base g2 #[.slice none 0 0, .slice none 0 0, .slice none 0 0] 30 :: L)) else (bif l 6 then (∃ x : Int, Hp base w0 W (fS (Kd.slice 2 (Kd.int .i64)) 27 base (.slice A51 NX.length c51) NX :: fR (Kd.int .i64) 2 base (v 6) (ac ++ [x]) :: fB base g8 #[.slice Al bl.length cl, .slice A51 NX.length c51, .slice Aa ac.length ca] 30 :: fR (Kd.int .i64) 2 base (.slice Al bl.length cl) bl :: fB base g2 #[.slice none 0 0, .slice none 0 0, .slice none 0 0] 30 :: L)) else (bif l 5 then (∃ x : Int, Hp base w0 W (fR (Kd.int .i64) 2 base (v 5) [x] :: fS (Kd.slice 2 (Kd.int .i64)) 27 base (.slice A51 NX.length c51) NX :: fR (Kd.int .i64) 2 base (.slice Aa ac.length ca) ac :: fB base g8 #[.slice Al bl.length cl, .slice A51 NX.length c51, .slice Aa ac.length ca] 30 :: fR (Kd.int .i64) 2 base (.slice Al bl.length cl) bl :: fB base g2 #[.slice none 0 0, .slice none 0 0, .slice none 0 0] 30 :: L)) else Hp base w0 W (fS (Kd.slice 2 (Kd.int .i64)) 27 base (.slice A51 NX.length c51) NX :: fR (Kd.int .i64) 2 base (.slice Aa ac.length ca) ac :: fB base g8 #[.slice Al bl.length cl, .slice A51 NX.length c51, .slice Aa ac.length ca] 30 :: fR (Kd.int .i64) 2 base (.slice Al bl.length cl) bl :: fB base g2 #[.slice none 0 0, .slice none 0 0, .slice none 0 0] 30 :: L))))) [[], [0], [], [2], [3], [4], [1, 5, 3], [0, 1, 2, 3, 4, 5, 6], [7, 6, 6, 0, 1, 2, 3, 4, 5, 6]] [some 92, some 93, some 94, some 95, some 96, some 97, some 98, some 99, none] 101 (by kernel_rfl) spec_l1Rd_dfa.need25 spec_l1Rd_dfa.dst25 (by decide) rfl ⟨fun h => absurd h (by decide), fun h => absurd h (by decide), fun h => absurd h (by decide), fun h => absurd h (by decide), fun h => absurd h (by decide), fun h => absurd h (by decide), ?_⟩ ⟨?_, ?_, ?_, ?_, ?_, ?_, ?_, ?_, ?_, trivial⟩ (fun v W hJ => ?_)
         ·exact S.out.drew
         ·rintro l v W zb HZ hsz ⟨p0, p1, p2, p3, p4, p7, S⟩ hi hn hc K hK
          have e8 := oth_ (N := 8) (x := .pointer (some ⟨g8, 0, none⟩)) HZ rfl rfl
          refine yields_ (N := some 92) (x := .pointer (some ⟨g8, 2, none⟩)) rfl rfl ?_ (hK.out _ _ ⟨fun _ => rfl, p1, p2, p3, p4, p7, S⟩)
          clear hK HZ hn hc p0 p1 p2 p3 p4 p7; (try simp only [Array.getD_eq_getD_getElem?] at *); go_simp; try with_reducible rfl
         ·rintro l v W zb HZ hsz ⟨p0, p1, p2, p3, p4, p7, S⟩ hi hn hc K hK
          have e92 := at1 HZ hsz (hn 0 (by decide)) p0 rfl rfl (by decide); have S0 := S
          rw [show l 6 = false from hc 6 1 (by decide) hi, show l 8 = false from hc 8 1 (by decide) hi] at S
          simp only [cond_true, cond_false] at S
          have z : W.cell? ⟨g8, 2, none⟩ = some (.slice Aa ac.length ca) := by
           cases q_ : l 5 with
           | false => rw [q_] at S; exact S.cell 2 2 rfl rfl
           | true => rw [q_] at S; obtain ⟨_, S⟩ := S; exact S.cell 3 2 rfl rfl
          refine yields_ (N := some 93) (x := .slice Aa ac.length ca) rfl rfl ?_ (hK.out _ _ ⟨p0, fun _ => rfl, p2, p3, p4, p7, S0⟩)
          clear hK HZ hn hc p0 p1 p2 p3 p4 p7; (try simp only [Array.getD_eq_getD_getElem?] at *); go_simp; try with_reducible rfl
         ·rintro l v W zb HZ hsz ⟨p0, p1, p2, p3, p4, p7, S⟩ hi hn hc K hK
          have e0 := oth_ (N := 0) (x := .pointer (some ⟨g, 0, none⟩)) HZ rfl rfl
          refine yields_ (N := some 94) (x := .pointer (some ⟨g, 0, none⟩)) rfl rfl ?_ (hK.out _ _ ⟨p0, p1, fun _ => rfl, p3, p4, p7, S⟩)
          clear hK HZ hn hc p0 p1 p2 p3 p4 p7; (try simp only [Array.getD_eq_getD_getElem?] at *); go_simp; try with_reducible rfl
         ·rintro l v W zb HZ hsz ⟨p0, p1, p2, p3, p4, p7, S⟩ hi hn hc K hK
          have e94 := at1 HZ hsz (hn 2 (by decide)) p2 rfl rfl (by decide); clear HZ
          rw [show l 5 = false from hc 5 4 (by decide) (hc 4 3 (by decide) hi), show l 6 = false from hc 6 3 (by decide) hi, show l 8 = false from hc 8 3 (by decide) hi] at S
          simp only [cond_true, cond_false] at S
          refine goes_ Try.func85 (by kernel_rfl) rfl #[.pointer (some ⟨g, 0, none⟩), .int .i64 4] rfl rfl rfl (by simp only [List.map_toArray, List.map_cons, List.map_nil]; show #[zb.tmps.getD 94 undef, _] = _; simp only [e94]; rfl) ?_
          refine (spec_l1Rd_below.calls S (i + 5) g Ab cb bs HB.out (show (_ :: _ :: _ :: _ :: _ :: L)[i + 5]? = _ from HI.out) 4 (by omega)).mono ?_
          rintro e w' ⟨x, rfl, hx, S1⟩
          refine ⟨_, rfl, hK.out _ _ ⟨p0, p1, p2, fun _ => ⟨x, rfl⟩, p4, p7, ?_⟩⟩
          rw [show upd l 3 5 = false from hc 5 4 (by decide) (hc 4 3 (by decide) hi), show upd l 3 6 = false from hc 6 3 (by decide) hi, show upd l 3 8 = false from hc 8 3 (by decide) hi]
          exact S1
         ·rintro l v W zb HZ hsz ⟨p0, p1, p2, p3, p4, p7, S⟩ hi hn hc K hK
          have e95 := at0 HZ hsz (hn 3 (by decide)) rfl rfl (by decide); obtain ⟨x3, q3⟩ := p3 (hn 3 (by decide))
          rw [q3] at e95
          clear HZ
          refine yields_ (N := some 96) (x := .int .i64 (IntKind.i64.wrap (x3 - 1))) rfl rfl ?_ (hK.out _ _ ⟨p0, p1, p2, p3, fun _ => ⟨_, rfl⟩, p7, S⟩)
          clear hK hn hc p0 p1 p2 p3 p4 p7; (try simp only [Array.getD_eq_getD_getElem?] at *); go_simp; try with_reducible rfl
         ·rintro l v W zb HZ hsz ⟨p0, p1, p2, p3, p4, p7, S⟩ hi hn hc K hK
          have e96 := at0 HZ hsz (hn 4 (by decide)) rfl rfl (by decide); obtain ⟨x4, q4⟩ := p4 (hn 4 (by decide))
          rw [q4] at e96
          clear HZ
          rw [show l 6 = false from hc 6 5 (by decide) hi, show l 8 = false from hc 8 5 (by decide) hi, hi] at S
          simp only [cond_true, cond_false] at S
          refine st_lit S (Kd.int .i64) (2) rfl rfl (xs := [x4]) (inner := [.int .i64 x4]) (by (try simp only [Array.getD_eq_getD_getElem?] at *); first | (go_simp; done) | (go_simp; rfl)) (Reps.one rfl (Reps.none _ _)) (by simp) (fun x w1 S1 => hK.out _ _ ⟨p0, p1, p2, p3, p4, p7, ?_⟩)
          rw [show upd l 5 6 = false from hc 6 5 (by decide) hi, show upd l 5 8 = false from hc 8 5 (by decide) hi]
          exact ⟨x4, S1⟩
         ·rintro l v W zb HZ hsz ⟨p0, p1, p2, p3, p4, p7, S⟩ hi hn hc K hK
          have e93 := at1 HZ hsz (hn 1 (by decide)) p1 rfl rfl (by decide); have e97 := at0 HZ hsz (hn 5 (by decide)) rfl rfl (by decide); clear HZ
          rw [show l 8 = false from hc 8 6 (by decide) hi, show l 5 = true from hn 5 (by decide), hi] at S
          simp only [cond_true, cond_false] at S
          obtain ⟨x, S⟩ := S; obtain ⟨ok, HO⟩ := S.get 0 rfl; obtain ⟨As, cs, qs, -, hrs⟩ := Kd.R_reads HO
          rw [qs] at e97
          refine st_app S 2 rfl rfl (.tmp 93) (.tmp 97) (27) (.int .i64 0) (8) rfl Try.underlying27 (by kernel_rfl) rfl (by decide) (by omega) e93 e97 hrs (fun _ _ h => h) (by have := HS.out; simp only [List.length_singleton]; omega) (fun y w1 S1 => hK.out _ _ ⟨p0, p1, p2, p3, p4, p7, ?_⟩)
          rw [show upd l 6 8 = false from hc 8 6 (by decide) hi, show upd l 6 5 = true from hn 5 (by decide)]
          exact ⟨x, S1.tail⟩
         ·rintro l v W zb HZ hsz ⟨p0, p1, p2, p3, p4, p7, S⟩ hi hn hc K hK
          have e8 := oth_ (N := 8) (x := .pointer (some ⟨g8, 0, none⟩)) HZ rfl rfl
          refine yields_ (N := some 99) (x := .pointer (some ⟨g8, 2, none⟩)) rfl rfl ?_ (hK.out _ _ ⟨p0, p1, p2, p3, p4, fun _ => rfl, S⟩)
          clear hK HZ hn hc p0 p1 p2 p3 p4 p7; (try simp only [Array.getD_eq_getD_getElem?] at *); go_simp; try with_reducible rfl
         ·rintro l v W zb HZ hsz ⟨p0, p1, p2, p3, p4, p7, S⟩ hi hn hc K hK
          have e98 := at0 HZ hsz (hn 6 (by decide)) rfl rfl (by decide); have e99 := at1 HZ hsz (hn 7 (by decide)) p7 rfl rfl (by decide); clear HZ
          rw [show l 5 = true from hn 5 (by decide), show l 6 = true from hn 6 (by decide), hi] at S
          simp only [cond_true, cond_false] at S
          obtain ⟨x, S⟩ := S; have hk := hK.out; obtain ⟨Az, cz, qz⟩ := S.slice (d := Kd.int .i64) (e := 2) (v := v 6) 1 rfl; have zp := S.cell 2 2 rfl rfl; have fp := S.frozen 2 2 rfl; have S1 := S.put 2 2 (u := v 6) rfl rfl
          rw [qz] at e98
          refine st_run (w1 := W.setCell _ (v 6)) rfl rfl (by rw [qz]; simp only [Array.getD_eq_getD_getElem?] at *; go_simp; try rfl) ?_
          refine hk undef _ ⟨p0, p1, p2, p3, p4, p7, ⟨x, S1⟩⟩
         obtain ⟨-, -, -, -, -, -, S⟩ := hJ; obtain ⟨x, S1⟩ := (show ∃ x : Int, Hp base w0 W (fS (Kd.slice 2 (Kd.int .i64)) 27 base (.slice A51 NX.length c51) NX :: fR (Kd.int .i64) 2 base (v 6) (ac ++ [x]) :: fB base g8 #[.slice Al bl.length cl, .slice A51 NX.length c51, v 6] 30 :: fR (Kd.int .i64) 2 base (.slice Al bl.length cl) bl :: fB base g2 #[.slice none 0 0, .slice none 0 0, .slice none 0 0] 30 :: L) from S); obtain ⟨A6, c6, q6⟩ := S1.slice (d := Kd.int .i64) (e := 2) (v := v 6) 1 rfl
         rw [q6] at S1
         have S2 := Aside0.mk S1; clear S S1
         simp only [putIf, ↓reduceIte, Act.put, List.setIfInBounds_toArray, List.set_cons_succ, List.set_cons_zero]
         clear q6
         go_wp2_with fail
         go_roundg (gko - 1)
         case measure => have := HGK.out; have := HS.out; omega
         case rel => exact ⟨s + 1, A51, c51, NX, A6, c6, ac ++ [x], congrArg (Value.int .i64) WS.out, by have := HGK.out; have := HS.out; omega, ⟨by rw [ENX.out, List.length_append, List.length_singleton, HS.out.2.1], by rw [List.length_append, List.length_singleton, HS.out.2.2.1], fun y hy => by rw [ENX.out] at hy; exact (List.mem_append.1 hy).elim (fun q => HS.out.2.2.2.1 y q) (fun q => by rw [List.mem_singleton.1 q]; exact HRW.out)⟩, S2⟩
      case neg =>
       have h2 := eq_false (show ¬ (s : Int) < (N : Int) by omega); have HS := Aside0.mk (show nx.length = N ∧ ac.length = N ∧ ∀ y ∈ nx, y.length = T from ⟨by omega, by omega, hq.2.2⟩); clear hs hq cs; have z0 := S.out.cell 2 0 rfl rfl; have z1 := S.out.cell 2 1 rfl rfl; have z2 := S.out.cell 2 2 rfl rfl; have y0 := S.out.cell 4 0 rfl rfl; have y1 := S.out.cell 4 1 rfl rfl; have y2 := S.out.cell 4 2 rfl rfl; have f0 := S.out.frozen 4 0 rfl; have f1 := S.out.frozen 4 1 rfl; have f2 := S.out.frozen 4 2 rfl
       go_wp2
       have S1 := Aside0.mk ((((S.out).put 4 0 (u := .slice Al bl.length cl) rfl rfl).put 4 1 (u := .slice An nx.length cn) rfl rfl).put 4 2 (u := .slice Aa ac.length ca) rfl rfl)
       refine bodyPost_ret (results_cell_row rfl _ _ g2 30 #[.slice Al bl.length cl, .slice An nx.length cn, .slice Aa ac.length ca] (0, 0) _ rfl (S1.out.blk 4 rfl) Try.underlying30 rfl (by kernel_rfl)) rfl ?_
       exact ⟨_, bl, _, nx, _, ac, rfl, ⟨HL.out, by have := HS.out; have := HNN.out; omega, by have := HS.out; omega, T, by have := HT.out; omega, HS.out.2.2⟩, Hp.pick (A := [_, _, _, _, _]) [3, 0, 1] S1.out (by decide) (by simp)⟩
end

/-! ### spec_l1Rd_oddDfa: function 95 -/
section
open Go.Proofs.Ytfajfjgkkgigoaa.Kit
/-- a table that may be wrong -/
def OddB (b : List Int) (nx : List (List Int)) (ac : List Int) : Prop := b.length = 256 ∧ (1 ≤ nx.length ∧ nx.length ≤ 1000) ∧ ac.length ≤ 1001 ∧ ∀ y ∈ nx, y.length ≤ 256
def ODPost (base : Nat) (w0 : World) (L : List Fact) (e : Ending) (w' : World) : Prop := ∃ (vb : Value) (b : List Int) (vn : Value) (nx : List (List Int)) (va : Value) (ac : List Int), e = .returned (.agg #[vb, vn, va]) ∧ OddB b nx ac ∧ Hp base w0 w' (fF (Kd.int .i64) vb b :: fF (Kd.slice 2 (Kd.int .i64)) vn nx :: fF (Kd.int .i64) va ac :: L)
theorem rows_set {nx : List (List Int)} {s : Nat} {x : List Int} (h : ∀ y ∈ nx, y.length ≤ 256) (hx : x.length ≤ 256) : ∀ y ∈ nx.set s x, y.length ≤ 256 := fun y hy => by
 rcases List.mem_or_eq_of_mem_set hy with q | q
 ·exact h y q
 ·rw [q]; exact hx
theorem spec_l1Rd_oddDfa.need5 : (rtab .any (opsOf Try.f95 5)).2.map Prod.fst = [[], [0], [], [1, 2], [3], [], [], [6], [7], [8], [5, 9], [4, 0, 1, 2, 3, 4, 5, 6, 7, 8, 9, 10], [11, 10, 10, 0, 1, 2, 3, 4, 5, 6, 7, 8, 9, 10]] := by kernel_rfl
theorem spec_l1Rd_oddDfa.dst5 : (opsOf Try.f95 5).toList.map Oper.dst = [some 16, some 17, some 18, some 19, some 20, some 21, some 22, some 23, some 24, some 25, some 26, some 27, none] := by kernel_rfl
theorem spec_l1Rd_oddDfa.need7 : (rtab .any (opsOf Try.f95 7)).2.map Prod.fst = [[], [0], [], [], [3], [1, 2, 0, 1, 2, 3, 4], [5, 4, 4, 0, 1, 2, 3, 4]] := by kernel_rfl
theorem spec_l1Rd_oddDfa.dst7 : (opsOf Try.f95 7).toList.map Oper.dst = [some 30, some 31, some 32, some 33, some 34, some 35, none] := by kernel_rfl
theorem spec_l1Rd_oddDfa.need9 : (rtab .any (opsOf Try.f95 9)).2.map Prod.fst = [[], [0], [], [2], [], [4, 3], [1, 3, 0, 1, 2, 3, 4, 5], [6, 5, 5, 0, 1, 2, 3, 4, 5]] := by kernel_rfl
theorem spec_l1Rd_oddDfa.dst9 : (opsOf Try.f95 9).toList.map Oper.dst = [some 38, some 39, some 40, some 41, some 42, some 43, some 44, none] := by kernel_rfl
theorem spec_l1Rd_oddDfa.need11 : (rtab .any (opsOf Try.f95 11)).2.map Prod.fst = [[], [0], [], [], [3], [], [4, 5], [6], [7], [1, 2, 0, 1, 2, 3, 4, 5, 6, 7, 8], [9, 8, 0, 1, 2, 3, 4, 5, 6, 7, 8]] := by kernel_rfl
theorem spec_l1Rd_oddDfa.dst11 : (opsOf Try.f95 11).toList.map Oper.dst = [some 47, some 48, some 49, some 50, some 51, some 52, some 53, some 54, some 55, some 56, none] := by kernel_rfl
set_option maxHeartbeats 4000000 in
set_option maxRecDepth 100000 in
theorem spec_l1Rd_oddDfa.calls {base : Nat} {w0 w : World} {L : List Fact} (S : Hp base w0 w L) (i g : Nat) (Ab : Option Addr) (cb : Nat) (bs : List Int) (hB : RdOK base w0 Ab bs) (hi : L[i]? = some (fRd 179 base g (.slice Ab bs.length cb))) (hbd : BdOK) :
  Calls Try.prog 95 #[.pointer (some ⟨g, 0, none⟩)] w (ODPost base w0 L) := by
 replace S := Aside0.mk S
 have HB := Aside0.mk hB
 have HI := Aside0.mk hi
 clear hB hi
 have HBD := Aside0.mk hbd
 clear hbd
 go_enter Try.func95, Try.ntmps95
 go_wp2_with (first | ((with_reducible refine gate_dst (N := 2) rfl ?_); refine ev_box S rfl rfl (cs := #[.slice none 0 0, .slice none 0 0, .slice none 0 0]) (t := 30) (by first | (go_simp; done) | (go_simp; rfl)) (fun g2 w_ Gg2 S1 => ?_); clear S; have S := S1; clear S1))
 refine (spec_l1Rd_dfa.calls S.out (i + 1) g Ab cb bs HB.out (show (_ :: L)[i + 1]? = _ from HI.out) HBD.out).mono ?_
 rintro e w_ ⟨vb, b, vn, nx, va, ac, rfl, ht, S1⟩
 obtain ⟨Aq, cq, rfl⟩ := S1.slice 0 rfl
 obtain ⟨An, cn, rfl⟩ := S1.sliceS 1 rfl
 obtain ⟨Aa, ca, rfl⟩ := S1.slice 2 rfl
 have HTB := Aside0.mk ht
 replace S := Aside0.mk S1
 clear S1 ht HBD
 go_wp2_with (first | ((with_reducible refine gate_dst (N := 3) rfl ?_); refine ev_box S rfl rfl (cs := #[.slice none 0 0, .slice none 0 0, .slice none 0 0]) (t := 30) (by first | (go_simp; done) | (go_simp; rfl)) (fun g3 w_ Gg3 S1 => ?_); clear S; have S := S1; clear S1; have z0 := S.out.cell 0 0 rfl rfl; have z1 := S.out.cell 0 1 rfl rfl; have z2 := S.out.cell 0 2 rfl rfl; have f0 := S.out.frozen 0 0 rfl; have f1 := S.out.frozen 0 1 rfl; have f2 := S.out.frozen 0 2 rfl) | ((with_reducible refine gate_store (t := 30) (p := 3) rfl ?_); refine ev_run (w1 := ((((_ : World)).setCell ⟨g3, 0, none⟩ (.slice Aq b.length cq)).setCell ⟨g3, 1, none⟩ (.slice An nx.length cn)).setCell ⟨g3, 2, none⟩ (.slice Aa ac.length ca)) rfl rfl (by first | (go_simp; done) | (go_simp; rfl)) (fun w_ hw => ?_); have S1 := Aside0.mk ((((S.out).put 0 0 (u := .slice Aq b.length cq) rfl rfl).put 0 1 (u := .slice An nx.length cn) rfl rfl).put 0 2 (u := .slice Aa ac.length ca) rfl rfl); rw [← hw] at S1; clear hw; clear S; have S := S1; clear S1; clear z0 z1 z2 f0 f1 f2; have z1 := S.out.cell 0 1 rfl rfl))
 refine (spec_l1Rd_below.calls S.out (i + 5) g Ab cb bs HB.out (show (_ :: _ :: _ :: _ :: _ :: L)[i + 5]? = _ from HI.out) (nx.length : Int) (by have := HTB.out.2.1; omega)).mono ?_
 rintro e w_ ⟨sx, rfl, hs, S1⟩
 obtain ⟨sn, rfl⟩ : ∃ sn : Nat, sx = (sn : Int) := ⟨sx.toNat, by omega⟩
 have HS := Aside0.mk (show sn < nx.length by have := HTB.out.2.1; omega)
 replace S := Aside0.mk S1
 clear S1 hs z1
 go_wp2_with fail
 refine (spec_l1Rd_below.calls S.out (i + 5) g Ab cb bs HB.out (show (_ :: _ :: _ :: _ :: _ :: L)[i + 5]? = _ from HI.out) 30 (by omega)).mono ?_
 rintro e w_ ⟨m, rfl, hm, S1⟩
 replace S := Aside0.mk S1
 clear S1
 have Hm := Aside0.mk hm
 clear hm
 go_upto_block 0 with fail
 (try simp only [Act.put, List.setIfInBounds_toArray, List.set_cons_zero, List.set_cons_succ])
 go_cut [] (fun wc => ∃ (vb : Value) (b : List Int) (vn : Value) (nx : List (List Int)) (va : Value) (ac : List Int), Aside0 (OddB b nx ac) ∧ Aside0 (Hp base w0 wc (fB base g3 #[vb, vn, va] 30 :: fF (Kd.int .i64) vb b :: fF (Kd.slice 2 (Kd.int .i64)) vn nx :: fF (Kd.int .i64) va ac :: fB base g2 #[.slice none 0 0, .slice none 0 0, .slice none 0 0] 30 :: L)))
 case first =>
  obtain ⟨gb, cq_, eg⟩ := S.out.form 1 rfl (by have := HTB.out.1; omega); cases eg; obtain ⟨gn, cn_, eg⟩ := S.out.formS 2 rfl (by have := HTB.out.2.1; omega); cases eg; obtain ⟨ga, ca_, eg⟩ := S.out.form 3 rfl (by have := HTB.out.2.2.1; have := HTB.out.2.1; omega); cases eg
  have hrw : 1 ≤ (nx.getD sn []).length ∧ (nx.getD sn []).length ≤ 256 := by
   obtain ⟨c, hc, hr⟩ := HTB.out.2.2.2; have := hr (nx.getD sn []) (by rw [List.getD_eq_getElem?_getD, List.getElem?_eq_getElem HS.out]; exact List.getElem_mem _)
   omega
  have HRB := Aside0.mk (show ∀ y ∈ nx, y.length ≤ 256 from fun y hy => by obtain ⟨c, hc, hr⟩ := HTB.out.2.2.2; have := hr y hy; omega); obtain ⟨gr, cr, hx, hcr, -⟩ := S.out.elemS 2 rfl sn HS.out hrw.1; obtain ⟨rl, erl⟩ : ∃ q, q = (nx.getD sn []).length := ⟨_, rfl⟩; have HRL := Aside0.mk (show 0 < (nx.getD sn []).length ∧ 0 < rl ∧ (nx.getD sn []).length ≤ 256 ∧ rl ≤ cr from ⟨hrw.1, by rw [erl]; exact hrw.1, hrw.2, by rw [erl]; exact hcr⟩)
  rw [← erl] at hx
  have HX := Aside0.mk hx; clear hx erl hrw hcr
  by_cases c0 : m = 0
  case pos =>
   have e0 := beq_iff_eq.2 c0; clear c0; replace S := Aside0.mk (S.out.noteS 2 rfl (ad := ⟨gn, 0, none⟩) (s := sn) (u := .slice (some ⟨gr, 0, none⟩) rl cr) (by rw [add_plain]; exact HX.out)); have WN1 := Aside0.mk (show wrap64 ((nx.length : Int) - 1) = (nx.length : Int) - 1 from w64 (by omega) (by have := HTB.out.2.1; omega))
   go_wp2_with fail
   refine mask_ (n := 13) (fun l v W => (l 0 = true → v 0 = .pointer (some ⟨g3, 1, none⟩)) ∧ (l 1 = true → v 1 = .slice (some ⟨gn, 0, none⟩) nx.length cn) ∧ (l 2 = true → v 2 = .int .i64 (sn : Int)) ∧ (l 3 = true → v 3 = .pointer (some ⟨gn, sn, none⟩)) ∧ (l 4 = true → v 4 = .slice (some ⟨gr, 0, none⟩) rl cr) ∧ (l 5 = true → v 5 = .pointer (some ⟨g, 0, none⟩)) ∧ (l 6 = true → v 6 = .pointer (some ⟨g3, 1, none⟩)) ∧ (l 7 = true → v 7 = .slice (some ⟨gn, 0, none⟩) nx.length cn) ∧ (l 8 = true → v 8 = .int .i64 (nx.length : Int)) ∧ (l 9 = true → v 9 = .int .i64 ((nx.length : Int) - 1)) ∧ (l 10 = true → ∃ x : Int, v 10 = .int .i64 x) ∧ (l 11 = true → v 11 = .pointer (some ⟨gr, 0, none⟩)) ∧ (bif l 12 then (∃ nx2 : List (List Int), (nx2.length = nx.length ∧ ∀ y ∈ nx2, y.length ≤ 256) ∧ Hp base w0 W (fB base g3 #[.slice (some ⟨gb, 0, none⟩) b.length cq, .slice (some ⟨gn, 0, none⟩) nx.length cn, .slice (some ⟨ga, 0, none⟩) ac.length ca] 30 :: fR (Kd.int .i64) 2 base (.slice (some ⟨gb, 0, none⟩) b.length cq) b :: fS (Kd.slice 2 (Kd.int .i64)) 27 base (.slice (some ⟨gn, 0, none⟩) nx.length cn) nx2 :: fR (Kd.int .i64) 2 base (.slice (some ⟨ga, 0, none⟩) ac.length ca) ac :: fB base g2 #[.slice none 0 0, .slice none 0 0, .slice none 0 0] 30 :: L)) else Hp base w0 W (fB base g3 #[.slice (some ⟨gb, 0, none⟩) b.length cq, .slice (some ⟨gn, 0, none⟩) nx.length cn, .slice (some ⟨ga, 0, none⟩) ac.length ca] 30 :: fR (Kd.int .i64) 2 base (.slice (some ⟨gb, 0, none⟩) b.length cq) b :: fAnd (fS (Kd.slice 2 (Kd.int .i64)) 27 base (.slice (some ⟨gn, 0, none⟩) nx.length cn) nx) (fC ⟨gn, 0, none⟩ sn (.slice (some ⟨gr, 0, none⟩) rl cr)) :: fR (Kd.int .i64) 2 base (.slice (some ⟨ga, 0, none⟩) ac.length ca) ac :: fB base g2 #[.slice none 0 0, .slice none 0 0, .slice none 0 0] 30 :: L))) [[], [0], [], [1, 2], [3], [], [], [6], [7], [8], [5, 9], [4, 0, 1, 2, 3, 4, 5, 6, 7, 8, 9, 10], [11, 10, 10, 0, 1, 2, 3, 4, 5, 6, 7, 8, 9, 10]] [some 16, some 17, some 18, some 19, some 20, some 21, some 22, some 23, some 24, some 25, some 26, some 27, none] 65 (by kernel_rfl) spec_l1Rd_oddDfa.need5 spec_l1Rd_oddDfa.dst5 (by decide) rfl ⟨fun h => absurd h (by decide), fun h => absurd h (by decide), fun h => absurd h (by decide), fun h => absurd h (by decide), fun h => absurd h (by decide), fun h => absurd h (by decide), fun h => absurd h (by decide), fun h => absurd h (by decide), fun h => absurd h (by decide), fun h => absurd h (by decide), fun h => absurd h (by decide), fun h => absurd h (by decide), ?_⟩ ⟨?_, ?_, ?_, ?_, ?_, ?_, ?_, ?_, ?_, ?_, ?_, ?_, ?_, trivial⟩ (fun v W hJ => ?_)
   ·exact S.out.drew
   ·rintro l v W zb HZ hsz ⟨p0, p1, p2, p3, p4, p5, p6, p7, p8, p9, p10, p11, S⟩ hi hn hc K hK
    have e3 := oth_ (N := 3) (x := .pointer (some ⟨g3, 0, none⟩)) HZ rfl rfl
    refine yields_ (N := some 16) (x := .pointer (some ⟨g3, 1, none⟩)) rfl rfl ?_ (hK.out _ _ ⟨fun _ => rfl, p1, p2, p3, p4, p5, p6, p7, p8, p9, p10, p11, S⟩)
    clear hK HZ hn hc p0 p1 p2 p3 p4 p5 p6 p7 p8 p9 p10 p11; (try simp only [Array.getD_eq_getD_getElem?] at *); go_simp; try with_reducible rfl
   ·rintro l v W zb HZ hsz ⟨p0, p1, p2, p3, p4, p5, p6, p7, p8, p9, p10, p11, S⟩ hi hn hc K hK
    have e16 := at1 HZ hsz (hn 0 (by decide)) p0 rfl rfl (by decide); have S0 := S
    rw [show l 12 = false from hc 12 1 (by decide) hi] at S
    simp only [cond_true, cond_false] at S
    have z := S.cell 0 1 rfl rfl
    refine yields_ (N := some 17) (x := .slice (some ⟨gn, 0, none⟩) nx.length cn) rfl rfl ?_ (hK.out _ _ ⟨p0, fun _ => rfl, p2, p3, p4, p5, p6, p7, p8, p9, p10, p11, S0⟩)
    clear hK HZ hn hc p0 p1 p2 p3 p4 p5 p6 p7 p8 p9 p10 p11; (try simp only [Array.getD_eq_getD_getElem?] at *); go_simp; try with_reducible rfl
   ·rintro l v W zb HZ hsz ⟨p0, p1, p2, p3, p4, p5, p6, p7, p8, p9, p10, p11, S⟩ hi hn hc K hK
    have e4 := oth_ (N := 4) (x := .int .i64 (sn : Int)) HZ rfl rfl
    refine yields_ (N := some 18) (x := .int .i64 (sn : Int)) rfl rfl ?_ (hK.out _ _ ⟨p0, p1, fun _ => rfl, p3, p4, p5, p6, p7, p8, p9, p10, p11, S⟩)
    clear hK HZ hn hc p0 p1 p2 p3 p4 p5 p6 p7 p8 p9 p10 p11; (try simp only [Array.getD_eq_getD_getElem?] at *); go_simp; try with_reducible rfl
   ·rintro l v W zb HZ hsz ⟨p0, p1, p2, p3, p4, p5, p6, p7, p8, p9, p10, p11, S⟩ hi hn hc K hK
    have e17 := at1 HZ hsz (hn 1 (by decide)) p1 rfl rfl (by decide); have e18 := at1 HZ hsz (hn 2 (by decide)) p2 rfl rfl (by decide); have S0 := S
    rw [show l 12 = false from hc 12 3 (by decide) hi] at S
    simp only [cond_true, cond_false] at S
    have hb1 := eq_true HS.out; have hb2 := eq_true (show (sn : Int) < (nx.length : Int) by have := HS.out; omega); have hb3 := eq_true (show (0 : Int) ≤ (sn : Int) by omega)
    refine yields_ (N := some 19) (x := .pointer (some ⟨gn, sn, none⟩)) rfl rfl ?_ (hK.out _ _ ⟨p0, p1, p2, fun _ => rfl, p4, p5, p6, p7, p8, p9, p10, p11, S0⟩)
    clear hK HZ hn hc p0 p1 p2 p3 p4 p5 p6 p7 p8 p9 p10 p11; (try simp only [Array.getD_eq_getD_getElem?] at *); go_simp; try with_reducible rfl
   ·rintro l v W zb HZ hsz ⟨p0, p1, p2, p3, p4, p5, p6, p7, p8, p9, p10, p11, S⟩ hi hn hc K hK
    have e19 := at1 HZ hsz (hn 3 (by decide)) p3 rfl rfl (by decide); have S0 := S
    rw [show l 12 = false from hc 12 4 (by decide) hi] at S
    simp only [cond_true, cond_false] at S
    have z := (S.elemAt 2 rfl HS.out HRL.out.1).1
    refine yields_ (N := some 20) (x := .slice (some ⟨gr, 0, none⟩) rl cr) rfl rfl ?_ (hK.out _ _ ⟨p0, p1, p2, p3, fun _ => rfl, p5, p6, p7, p8, p9, p10, p11, S0⟩)
    clear hK HZ hn hc p0 p1 p2 p3 p4 p5 p6 p7 p8 p9 p10 p11; (try simp only [Array.getD_eq_getD_getElem?] at *); go_simp; try with_reducible rfl
   ·rintro l v W zb HZ hsz ⟨p0, p1, p2, p3, p4, p5, p6, p7, p8, p9, p10, p11, S⟩ hi hn hc K hK
    have e0 := oth_ (N := 0) (x := .pointer (some ⟨g, 0, none⟩)) HZ rfl rfl
    refine yields_ (N := some 21) (x := .pointer (some ⟨g, 0, none⟩)) rfl rfl ?_ (hK.out _ _ ⟨p0, p1, p2, p3, p4, fun _ => rfl, p6, p7, p8, p9, p10, p11, S⟩)
    clear hK HZ hn hc p0 p1 p2 p3 p4 p5 p6 p7 p8 p9 p10 p11; (try simp only [Array.getD_eq_getD_getElem?] at *); go_simp; try with_reducible rfl
   ·rintro l v W zb HZ hsz ⟨p0, p1, p2, p3, p4, p5, p6, p7, p8, p9, p10, p11, S⟩ hi hn hc K hK
    have e3 := oth_ (N := 3) (x := .pointer (some ⟨g3, 0, none⟩)) HZ rfl rfl
    refine yields_ (N := some 22) (x := .pointer (some ⟨g3, 1, none⟩)) rfl rfl ?_ (hK.out _ _ ⟨p0, p1, p2, p3, p4, p5, fun _ => rfl, p7, p8, p9, p10, p11, S⟩)
    clear hK HZ hn hc p0 p1 p2 p3 p4 p5 p6 p7 p8 p9 p10 p11; (try simp only [Array.getD_eq_getD_getElem?] at *); go_simp; try with_reducible rfl
   ·rintro l v W zb HZ hsz ⟨p0, p1, p2, p3, p4, p5, p6, p7, p8, p9, p10, p11, S⟩ hi hn hc K hK
    have e22 := at1 HZ hsz (hn 6 (by decide)) p6 rfl rfl (by decide); have S0 := S
    rw [show l 12 = false from hc 12 7 (by decide) hi] at S
    simp only [cond_true, cond_false] at S
    have z := S.cell 0 1 rfl rfl
    refine yields_ (N := some 23) (x := .slice (some ⟨gn, 0, none⟩) nx.length cn) rfl rfl ?_ (hK.out _ _ ⟨p0, p1, p2, p3, p4, p5, p6, fun _ => rfl, p8, p9, p10, p11, S0⟩)
    clear hK HZ hn hc p0 p1 p2 p3 p4 p5 p6 p7 p8 p9 p10 p11; (try simp only [Array.getD_eq_getD_getElem?] at *); go_simp; try with_reducible rfl
   ·rintro l v W zb HZ hsz ⟨p0, p1, p2, p3, p4, p5, p6, p7, p8, p9, p10, p11, S⟩ hi hn hc K hK
    have e23 := at1 HZ hsz (hn 7 (by decide)) p7 rfl rfl (by decide)
    refine yields_ (N := some 24) (x := .int .i64 (nx.length : Int)) rfl rfl ?_ (hK.out _ _ ⟨p0, p1, p2, p3, p4, p5, p6, p7, fun _ => rfl, p9, p10, p11, S⟩)
    clear hK HZ hn hc p0 p1 p2 p3 p4 p5 p6 p7 p8 p9 p10 p11; (try simp only [Array.getD_eq_getD_getElem?] at *); go_simp; try with_reducible rfl
   ·rintro l v W zb HZ hsz ⟨p0, p1, p2, p3, p4, p5, p6, p7, p8, p9, p10, p11, S⟩ hi hn hc K hK
    have e24 := at1 HZ hsz (hn 8 (by decide)) p8 rfl rfl (by decide); have S0 := S
    rw [show l 12 = false from hc 12 9 (by decide) hi] at S
    simp only [cond_true, cond_false] at S
    have WL := WN1.out
    refine yields_ (N := some 25) (x := .int .i64 ((nx.length : Int) - 1)) rfl rfl ?_ (hK.out _ _ ⟨p0, p1, p2, p3, p4, p5, p6, p7, p8, fun _ => rfl, p10, p11, S0⟩)
    clear hK HZ hn hc p0 p1 p2 p3 p4 p5 p6 p7 p8 p9 p10 p11; (try simp only [Array.getD_eq_getD_getElem?] at *); go_simp; rw [i64_w, WL]
   ·rintro l v W zb HZ hsz ⟨p0, p1, p2, p3, p4, p5, p6, p7, p8, p9, p10, p11, S⟩ hi hn hc K hK
    have e21 := at1 HZ hsz (hn 5 (by decide)) p5 rfl rfl (by decide); have e25 := at1 HZ hsz (hn 9 (by decide)) p9 rfl rfl (by decide); clear HZ
    rw [show l 12 = false from hc 12 10 (by decide) hi] at S
    simp only [cond_true, cond_false] at S
    refine goes_ Try.func112 (by kernel_rfl) rfl #[.pointer (some ⟨g, 0, none⟩), .int .i64 0, .int .i64 ((nx.length : Int) - 1)] rfl rfl rfl (by simp only [List.map_toArray, List.map_cons, List.map_nil]; show #[zb.tmps.getD 21 undef, _, zb.tmps.getD 25 undef] = _; simp only [e21, e25]; rfl) ?_
    refine (spec_l1Rd_off.calls S (i + 5) g Ab cb bs HB.out (show (_ :: _ :: _ :: _ :: _ :: L)[i + 5]? = _ from HI.out) 0 ((nx.length : Int) - 1) (by omega) ⟨by omega, by omega⟩ ⟨by omega, by have := HTB.out.2.1; omega⟩).mono ?_
    rintro e w' ⟨x, rfl, hx, S1⟩
    refine ⟨_, rfl, hK.out _ _ ⟨p0, p1, p2, p3, p4, p5, p6, p7, p8, p9, fun _ => ⟨x, rfl⟩, p11, ?_⟩⟩
    rw [show upd l 10 12 = false from hc 12 10 (by decide) hi]
    exact S1
   ·rintro l v W zb HZ hsz ⟨p0, p1, p2, p3, p4, p5, p6, p7, p8, p9, p10, p11, S⟩ hi hn hc K hK
    have e20 := at1 HZ hsz (hn 4 (by decide)) p4 rfl rfl (by decide); have S0 := S
    rw [show l 12 = false from hc 12 11 (by decide) hi] at S
    simp only [cond_true, cond_false] at S
    have hb1 := eq_true HRL.out.2.1; have hb2 := eq_true (show (0 : Int) < (rl : Int) by have := HRL.out.2.1; omega)
    refine yields_ (N := some 27) (x := .pointer (some ⟨gr, 0, none⟩)) rfl rfl ?_ (hK.out _ _ ⟨p0, p1, p2, p3, p4, p5, p6, p7, p8, p9, p10, fun _ => rfl, S0⟩)
    clear hK HZ hn hc p0 p1 p2 p3 p4 p5 p6 p7 p8 p9 p10 p11; (try simp only [Array.getD_eq_getD_getElem?] at *); go_simp; try with_reducible rfl
   ·rintro l v W zb HZ hsz ⟨p0, p1, p2, p3, p4, p5, p6, p7, p8, p9, p10, p11, S⟩ hi hn hc K hK
    have e26 := at0 HZ hsz (hn 10 (by decide)) rfl rfl (by decide); obtain ⟨x10, q10⟩ := p10 (hn 10 (by decide))
    rw [q10] at e26
    have e27 := at1 HZ hsz (hn 11 (by decide)) p11 rfl rfl (by decide); clear HZ
    rw [hi] at S
    simp only [cond_true, cond_false] at S
    have hk := hK.out; obtain ⟨zp, fp⟩ := (S.elemAt 2 rfl HS.out HRL.out.1).2.2 (0 : Int) (by omega) (by have := HRL.out.2.1; omega)
    rw [show (0 : Int).toNat = 0 from rfl] at zp fp
    have S1 := S.putAt 2 rfl HS.out HRL.out.1 (0 : Int) x10
    rw [show (0 : Int).toNat = 0 from rfl] at S1
    refine st_run (w1 := W.setCell ⟨gr, 0, none⟩ (.int .i64 x10)) rfl rfl (by simp only [Array.getD_eq_getD_getElem?] at *; go_simp; try rfl) ?_
    refine hk undef _ ⟨p0, p1, p2, p3, p4, p5, p6, p7, p8, p9, p10, p11, ⟨nx.set sn ((nx.getD sn []).set 0 x10), ⟨by rw [List.length_set], rows_set HRB.out (by rw [List.length_set]; exact HRL.out.2.2.1)⟩, S1⟩⟩
   obtain ⟨-, -, -, -, -, -, -, -, -, -, -, -, S⟩ := hJ; obtain ⟨nx2, ⟨hl2, hr2⟩, S1⟩ := (show ∃ nx2 : List (List Int), (nx2.length = nx.length ∧ ∀ y ∈ nx2, y.length ≤ 256) ∧ Hp base w0 W (fB base g3 #[.slice (some ⟨gb, 0, none⟩) b.length cq, .slice (some ⟨gn, 0, none⟩) nx.length cn, .slice (some ⟨ga, 0, none⟩) ac.length ca] 30 :: fR (Kd.int .i64) 2 base (.slice (some ⟨gb, 0, none⟩) b.length cq) b :: fS (Kd.slice 2 (Kd.int .i64)) 27 base (.slice (some ⟨gn, 0, none⟩) nx.length cn) nx2 :: fR (Kd.int .i64) 2 base (.slice (some ⟨ga, 0, none⟩) ac.length ca) ac :: fB base g2 #[.slice none 0 0, .slice none 0 0, .slice none 0 0] 30 :: L) from S); have H2 := Aside0.mk (And.intro hl2 hr2); have S2 := Aside0.mk S1; clear S S1 hl2 hr2
   simp only [putIf, ↓reduceIte, Act.put, List.setIfInBounds_toArray, List.set_cons_succ, List.set_cons_zero]
   go_wp2_with fail
   go_meet
   case rel => exact ⟨_, b, _, nx2, _, ac, ⟨HTB.out.1, by rw [H2.out.1]; exact HTB.out.2.1, by have := HTB.out.2.2.1; have := HTB.out.2.1; omega, H2.out.2⟩, ⟨((Hp.imp S2.out 1 rfl fF_R).imp 2 rfl fF_S).imp 3 rfl fF_R⟩⟩
  by_cases c1 : m = 1
  case pos =>
   have e0 := beq_eq_false_iff_ne.2 c0; have e1 := beq_iff_eq.2 c1; clear c0 c1
   go_wp2_with fail
   refine mask_ (n := 7) (fun l v W => (l 0 = true → v 0 = .pointer (some ⟨g3, 2, none⟩)) ∧ (l 1 = true → v 1 = .slice (some ⟨ga, 0, none⟩) ac.length ca) ∧ (l 2 = true → v 2 = .int .i64 (sn : Int)) ∧ (l 3 = true → v 3 = .pointer (some ⟨g, 0, none⟩)) ∧ (l 4 = true → ∃ x : Int, v 4 = .int .i64 x) ∧ (l 5 = true → v 5 = .pointer (some ⟨ga, sn, none⟩)) ∧ (bif l 6 then (∃ ac2 : List Int, ac2.length = ac.length ∧ Hp base w0 W (fB base g3 #[.slice (some ⟨gb, 0, none⟩) b.length cq, .slice (some ⟨gn, 0, none⟩) nx.length cn, .slice (some ⟨ga, 0, none⟩) ac.length ca] 30 :: fR (Kd.int .i64) 2 base (.slice (some ⟨gb, 0, none⟩) b.length cq) b :: fS (Kd.slice 2 (Kd.int .i64)) 27 base (.slice (some ⟨gn, 0, none⟩) nx.length cn) nx :: fR (Kd.int .i64) 2 base (.slice (some ⟨ga, 0, none⟩) ac.length ca) ac2 :: fB base g2 #[.slice none 0 0, .slice none 0 0, .slice none 0 0] 30 :: L)) else Hp base w0 W (fB base g3 #[.slice (some ⟨gb, 0, none⟩) b.length cq, .slice (some ⟨gn, 0, none⟩) nx.length cn, .slice (some ⟨ga, 0, none⟩) ac.length ca] 30 :: fR (Kd.int .i64) 2 base (.slice (some ⟨gb, 0, none⟩) b.length cq) b :: fS (Kd.slice 2 (Kd.int .i64)) 27 base (.slice (some ⟨gn, 0, none⟩) nx.length cn) nx :: fR (Kd.int .i64) 2 base (.slice (some ⟨ga, 0, none⟩) ac.length ca) ac :: fB base g2 #[.slice none 0 0, .slice none 0 0, .slice none 0 0] 30 :: L))) [[], [0], [], [], [3], [1, 2, 0, 1, 2, 3, 4], [5, 4, 4, 0, 1, 2, 3, 4]] [some 30, some 31, some 32, some 33, some 34, some 35, none] 65 (by kernel_rfl) spec_l1Rd_oddDfa.need7 spec_l1Rd_oddDfa.dst7 (by decide) rfl ⟨fun h => absurd h (by decide), fun h => absurd h (by decide), fun h => absurd h (by decide), fun h => absurd h (by decide), fun h => absurd h (by decide), fun h => absurd h (by decide), ?_⟩ ⟨?_, ?_, ?_, ?_, ?_, ?_, ?_, trivial⟩ (fun v W hJ => ?_)
   ·exact S.out.drew
   ·rintro l v W zb HZ hsz ⟨p0, p1, p2, p3, p4, p5, S⟩ hi hn hc K hK
    have e3 := oth_ (N := 3) (x := .pointer (some ⟨g3, 0, none⟩)) HZ rfl rfl
    refine yields_ (N := some 30) (x := .pointer (some ⟨g3, 2, none⟩)) rfl rfl ?_ (hK.out _ _ ⟨fun _ => rfl, p1, p2, p3, p4, p5, S⟩)
    clear hK HZ hn hc p0 p1 p2 p3 p4 p5; (try simp only [Array.getD_eq_getD_getElem?] at *); go_simp; try with_reducible rfl
   ·rintro l v W zb HZ hsz ⟨p0, p1, p2, p3, p4, p5, S⟩ hi hn hc K hK
    have e30 := at1 HZ hsz (hn 0 (by decide)) p0 rfl rfl (by decide); have S0 := S
    rw [show l 6 = false from hc 6 1 (by decide) hi] at S
    simp only [cond_true, cond_false] at S
    have z := S.cell 0 2 rfl rfl
    refine yields_ (N := some 31) (x := .slice (some ⟨ga, 0, none⟩) ac.length ca) rfl rfl ?_ (hK.out _ _ ⟨p0, fun _ => rfl, p2, p3, p4, p5, S0⟩)
    clear hK HZ hn hc p0 p1 p2 p3 p4 p5; (try simp only [Array.getD_eq_getD_getElem?] at *); go_simp; try with_reducible rfl
   ·rintro l v W zb HZ hsz ⟨p0, p1, p2, p3, p4, p5, S⟩ hi hn hc K hK
    have e4 := oth_ (N := 4) (x := .int .i64 (sn : Int)) HZ rfl rfl
    refine yields_ (N := some 32) (x := .int .i64 (sn : Int)) rfl rfl ?_ (hK.out _ _ ⟨p0, p1, fun _ => rfl, p3, p4, p5, S⟩)
    clear hK HZ hn hc p0 p1 p2 p3 p4 p5; (try simp only [Array.getD_eq_getD_getElem?] at *); go_simp; try with_reducible rfl
   ·rintro l v W zb HZ hsz ⟨p0, p1, p2, p3, p4, p5, S⟩ hi hn hc K hK
    have e0 := oth_ (N := 0) (x := .pointer (some ⟨g, 0, none⟩)) HZ rfl rfl
    refine yields_ (N := some 33) (x := .pointer (some ⟨g, 0, none⟩)) rfl rfl ?_ (hK.out _ _ ⟨p0, p1, p2, fun _ => rfl, p4, p5, S⟩)
    clear hK HZ hn hc p0 p1 p2 p3 p4 p5; (try simp only [Array.getD_eq_getD_getElem?] at *); go_simp; try with_reducible rfl
   ·rintro l v W zb HZ hsz ⟨p0, p1, p2, p3, p4, p5, S⟩ hi hn hc K hK
    have e33 := at1 HZ hsz (hn 3 (by decide)) p3 rfl rfl (by decide); clear HZ
    rw [show l 6 = false from hc 6 4 (by decide) hi] at S
    simp only [cond_true, cond_false] at S
    refine goes_ Try.func112 (by kernel_rfl) rfl #[.pointer (some ⟨g, 0, none⟩), .int .i64 (-1), .int .i64 39] rfl rfl rfl (by simp only [List.map_toArray, List.map_cons, List.map_nil]; show #[zb.tmps.getD 33 undef, _, _] = _; simp only [e33]; rfl) ?_
    refine (spec_l1Rd_off.calls S (i + 5) g Ab cb bs HB.out (show (_ :: _ :: _ :: _ :: _ :: L)[i + 5]? = _ from HI.out) (-1) 39 (by omega) ⟨by omega, by omega⟩ ⟨by omega, by omega⟩).mono ?_
    rintro e w' ⟨x, rfl, hx, S1⟩
    refine ⟨_, rfl, hK.out _ _ ⟨p0, p1, p2, p3, fun _ => ⟨x, rfl⟩, p5, ?_⟩⟩
    rw [show upd l 4 6 = false from hc 6 4 (by decide) hi]
    exact S1
   ·rintro l v W zb HZ hsz ⟨p0, p1, p2, p3, p4, p5, S⟩ hi hn hc K hK
    have e31 := at1 HZ hsz (hn 1 (by decide)) p1 rfl rfl (by decide); have e32 := at1 HZ hsz (hn 2 (by decide)) p2 rfl rfl (by decide); have S0 := S
    rw [show l 6 = false from hc 6 5 (by decide) hi] at S
    simp only [cond_true, cond_false] at S
    have hb1 := eq_true (show sn < ac.length by have := HS.out; have := HTB.out.2.2.1; omega); have hb2 := eq_true (show (sn : Int) < (ac.length : Int) by have := HS.out; have := HTB.out.2.2.1; omega); have hb3 := eq_true (show (0 : Int) ≤ (sn : Int) by omega)
    refine yields_ (N := some 35) (x := .pointer (some ⟨ga, sn, none⟩)) rfl rfl ?_ (hK.out _ _ ⟨p0, p1, p2, p3, p4, fun _ => rfl, S0⟩)
    clear hK HZ hn hc p0 p1 p2 p3 p4 p5; (try simp only [Array.getD_eq_getD_getElem?] at *); go_simp; try with_reducible rfl
   ·rintro l v W zb HZ hsz ⟨p0, p1, p2, p3, p4, p5, S⟩ hi hn hc K hK
    have e34 := at0 HZ hsz (hn 4 (by decide)) rfl rfl (by decide); obtain ⟨x4, q4⟩ := p4 (hn 4 (by decide))
    rw [q4] at e34
    have e35 := at1 HZ hsz (hn 5 (by decide)) p5 rfl rfl (by decide); clear HZ
    rw [hi] at S
    simp only [cond_true, cond_false] at S
    have hk := hK.out; obtain ⟨zp, fp⟩ := S.cellR 3 (0 : Int) rfl (sn : Int) (by omega) (by have := HS.out; have := HTB.out.2.2.1; omega); have S1 := S.putRow 3 rfl (sn : Int) x4
    rw [Int.toNat_natCast] at zp fp S1
    refine st_run (w1 := W.setCell ⟨ga, sn, none⟩ (.int .i64 x4)) rfl rfl (by simp only [Array.getD_eq_getD_getElem?] at *; go_simp; try rfl) ?_
    refine hk undef _ ⟨p0, p1, p2, p3, p4, p5, ⟨ac.set sn x4, by rw [List.length_set], S1⟩⟩
   obtain ⟨-, -, -, -, -, -, S⟩ := hJ; obtain ⟨ac2, hl2, S1⟩ := (show ∃ ac2 : List Int, ac2.length = ac.length ∧ Hp base w0 W (fB base g3 #[.slice (some ⟨gb, 0, none⟩) b.length cq, .slice (some ⟨gn, 0, none⟩) nx.length cn, .slice (some ⟨ga, 0, none⟩) ac.length ca] 30 :: fR (Kd.int .i64) 2 base (.slice (some ⟨gb, 0, none⟩) b.length cq) b :: fS (Kd.slice 2 (Kd.int .i64)) 27 base (.slice (some ⟨gn, 0, none⟩) nx.length cn) nx :: fR (Kd.int .i64) 2 base (.slice (some ⟨ga, 0, none⟩) ac.length ca) ac2 :: fB base g2 #[.slice none 0 0, .slice none 0 0, .slice none 0 0] 30 :: L) from S); have H2 := Aside0.mk hl2; have S2 := Aside0.mk S1; clear S S1 hl2
   simp only [putIf, ↓reduceIte, Act.put, List.setIfInBounds_toArray, List.set_cons_succ, List.set_cons_zero]
   go_wp2_with fail
   go_meet
   case rel => exact ⟨_, b, _, nx, _, ac2, ⟨HTB.out.1, HTB.out.2.1, by rw [H2.out]; have := HTB.out.2.2.1; have := HTB.out.2.1; omega, HRB.out⟩, ⟨((Hp.imp S2.out 1 rfl fF_R).imp 2 rfl fF_S).imp 3 rfl fF_R⟩⟩
  by_cases c2 : m = 2
  case pos =>
   have e0 := beq_eq_false_iff_ne.2 c0; have e1 := beq_eq_false_iff_ne.2 c1; have e2 := beq_iff_eq.2 c2; clear c0 c1 c2
   go_wp2_with fail
   refine mask_ (n := 8) (fun l v W => (l 0 = true → v 0 = .pointer (some ⟨g3, 0, none⟩)) ∧ (l 1 = true → v 1 = .slice (some ⟨gb, 0, none⟩) b.length cq) ∧ (l 2 = true → v 2 = .pointer (some ⟨g, 0, none⟩)) ∧ (l 3 = true → ∃ x : Nat, x ≤ 255 ∧ v 3 = .int .i64 (x : Int)) ∧ (l 4 = true → v 4 = .pointer (some ⟨g, 0, none⟩)) ∧ (l 5 = true → ∃ x : Int, v 5 = .int .i64 x) ∧ (l 6 = true → ∃ x : Nat, x ≤ 255 ∧ v 6 = .pointer (some ⟨gb, x, none⟩)) ∧ (bif l 7 then (∃ b2 : List Int, b2.length = b.length ∧ Hp base w0 W (fB base g3 #[.slice (some ⟨gb, 0, none⟩) b.length cq, .slice (some ⟨gn, 0, none⟩) nx.length cn, .slice (some ⟨ga, 0, none⟩) ac.length ca] 30 :: fR (Kd.int .i64) 2 base (.slice (some ⟨gb, 0, none⟩) b.length cq) b2 :: fS (Kd.slice 2 (Kd.int .i64)) 27 base (.slice (some ⟨gn, 0, none⟩) nx.length cn) nx :: fR (Kd.int .i64) 2 base (.slice (some ⟨ga, 0, none⟩) ac.length ca) ac :: fB base g2 #[.slice none 0 0, .slice none 0 0, .slice none 0 0] 30 :: L)) else Hp base w0 W (fB base g3 #[.slice (some ⟨gb, 0, none⟩) b.length cq, .slice (some ⟨gn, 0, none⟩) nx.length cn, .slice (some ⟨ga, 0, none⟩) ac.length ca] 30 :: fR (Kd.int .i64) 2 base (.slice (some ⟨gb, 0, none⟩) b.length cq) b :: fS (Kd.slice 2 (Kd.int .i64)) 27 base (.slice (some ⟨gn, 0, none⟩) nx.length cn) nx :: fR (Kd.int .i64) 2 base (.slice (some ⟨ga, 0, none⟩) ac.length ca) ac :: fB base g2 #[.slice none 0 0, .slice none 0 0, .slice none 0 0] 30 :: L))) [[], [0], [], [2], [], [4, 3], [1, 3, 0, 1, 2, 3, 4, 5], [6, 5, 5, 0, 1, 2, 3, 4, 5]] [some 38, some 39, some 40, some 41, some 42, some 43, some 44, none] 65 (by kernel_rfl) spec_l1Rd_oddDfa.need9 spec_l1Rd_oddDfa.dst9 (by decide) rfl ⟨fun h => absurd h (by decide), fun h => absurd h (by decide), fun h => absurd h (by decide), fun h => absurd h (by decide), fun h => absurd h (by decide), fun h => absurd h (by decide), fun h => absurd h (by decide), ?_⟩ ⟨?_, ?_, ?_, ?_, ?_, ?_, ?_, ?_, trivial⟩ (fun v W hJ => ?_)
   ·exact S.out.drew
   ·rintro l v W zb HZ hsz ⟨p0, p1, p2, p3, p4, p5, p6, S⟩ hi hn hc K hK
    have e3 := oth_ (N := 3) (x := .pointer (some ⟨g3, 0, none⟩)) HZ rfl rfl
    refine yields_ (N := some 38) (x := .pointer (some ⟨g3, 0, none⟩)) rfl rfl ?_ (hK.out _ _ ⟨fun _ => rfl, p1, p2, p3, p4, p5, p6, S⟩)
    clear hK HZ hn hc p0 p1 p2 p3 p4 p5 p6; (try simp only [Array.getD_eq_getD_getElem?] at *); go_simp; try with_reducible rfl
   ·rintro l v W zb HZ hsz ⟨p0, p1, p2, p3, p4, p5, p6, S⟩ hi hn hc K hK
    have e38 := at1 HZ hsz (hn 0 (by decide)) p0 rfl rfl (by decide); have S0 := S
    rw [show l 7 = false from hc 7 1 (by decide) hi] at S
    simp only [cond_true, cond_false] at S
    have z := S.cell 0 0 rfl rfl
    refine yields_ (N := some 39) (x := .slice (some ⟨gb, 0, none⟩) b.length cq) rfl rfl ?_ (hK.out _ _ ⟨p0, fun _ => rfl, p2, p3, p4, p5, p6, S0⟩)
    clear hK HZ hn hc p0 p1 p2 p3 p4 p5 p6; (try simp only [Array.getD_eq_getD_getElem?] at *); go_simp; try with_reducible rfl
   ·rintro l v W zb HZ hsz ⟨p0, p1, p2, p3, p4, p5, p6, S⟩ hi hn hc K hK
    have e0 := oth_ (N := 0) (x := .pointer (some ⟨g, 0, none⟩)) HZ rfl rfl
    refine yields_ (N := some 40) (x := .pointer (some ⟨g, 0, none⟩)) rfl rfl ?_ (hK.out _ _ ⟨p0, p1, fun _ => rfl, p3, p4, p5, p6, S⟩)
    clear hK HZ hn hc p0 p1 p2 p3 p4 p5 p6; (try simp only [Array.getD_eq_getD_getElem?] at *); go_simp; try with_reducible rfl
   ·rintro l v W zb HZ hsz ⟨p0, p1, p2, p3, p4, p5, p6, S⟩ hi hn hc K hK
    have e40 := at1 HZ hsz (hn 2 (by decide)) p2 rfl rfl (by decide); clear HZ
    rw [show l 7 = false from hc 7 3 (by decide) hi] at S
    simp only [cond_true, cond_false] at S
    refine goes_ Try.func85 (by kernel_rfl) rfl #[.pointer (some ⟨g, 0, none⟩), .int .i64 256] rfl rfl rfl (by simp only [List.map_toArray, List.map_cons, List.map_nil]; show #[zb.tmps.getD 40 undef, _] = _; simp only [e40]; rfl) ?_
    refine (spec_l1Rd_below.calls S (i + 5) g Ab cb bs HB.out (show (_ :: _ :: _ :: _ :: _ :: L)[i + 5]? = _ from HI.out) 256 (by omega)).mono ?_
    rintro e w' ⟨x, rfl, hx, S1⟩
    obtain ⟨xn, rfl⟩ : ∃ xn : Nat, x = (xn : Int) := ⟨x.toNat, by omega⟩
    refine ⟨_, rfl, hK.out _ _ ⟨p0, p1, p2, fun _ => ⟨xn, by omega, rfl⟩, p4, p5, p6, ?_⟩⟩
    rw [show upd l 3 7 = false from hc 7 3 (by decide) hi]
    exact S1
   ·rintro l v W zb HZ hsz ⟨p0, p1, p2, p3, p4, p5, p6, S⟩ hi hn hc K hK
    have e0 := oth_ (N := 0) (x := .pointer (some ⟨g, 0, none⟩)) HZ rfl rfl
    refine yields_ (N := some 42) (x := .pointer (some ⟨g, 0, none⟩)) rfl rfl ?_ (hK.out _ _ ⟨p0, p1, p2, p3, fun _ => rfl, p5, p6, S⟩)
    clear hK HZ hn hc p0 p1 p2 p3 p4 p5 p6; (try simp only [Array.getD_eq_getD_getElem?] at *); go_simp; try with_reducible rfl
   ·rintro l v W zb HZ hsz ⟨p0, p1, p2, p3, p4, p5, p6, S⟩ hi hn hc K hK
    have e42 := at1 HZ hsz (hn 4 (by decide)) p4 rfl rfl (by decide); clear HZ
    rw [show l 7 = false from hc 7 5 (by decide) hi] at S
    simp only [cond_true, cond_false] at S
    refine goes_ Try.func112 (by kernel_rfl) rfl #[.pointer (some ⟨g, 0, none⟩), .int .i64 0, .int .i64 3] rfl rfl rfl (by simp only [List.map_toArray, List.map_cons, List.map_nil]; show #[zb.tmps.getD 42 undef, _, _] = _; simp only [e42]; rfl) ?_
    refine (spec_l1Rd_off.calls S (i + 5) g Ab cb bs HB.out (show (_ :: _ :: _ :: _ :: _ :: L)[i + 5]? = _ from HI.out) 0 3 (by omega) ⟨by omega, by omega⟩ ⟨by omega, by omega⟩).mono ?_
    rintro e w' ⟨x, rfl, hx, S1⟩
    refine ⟨_, rfl, hK.out _ _ ⟨p0, p1, p2, p3, p4, fun _ => ⟨x, rfl⟩, p6, ?_⟩⟩
    rw [show upd l 5 7 = false from hc 7 5 (by decide) hi]
    exact S1
   ·rintro l v W zb HZ hsz ⟨p0, p1, p2, p3, p4, p5, p6, S⟩ hi hn hc K hK
    have e39 := at1 HZ hsz (hn 1 (by decide)) p1 rfl rfl (by decide); have e41 := at0 HZ hsz (hn 3 (by decide)) rfl rfl (by decide); obtain ⟨x3, b3, q3⟩ := p3 (hn 3 (by decide))
    rw [q3] at e41
    clear HZ; have hb1 := eq_true (show x3 < b.length by have := HTB.out.1; omega); have hb2 := eq_true (show (x3 : Int) < (b.length : Int) by have := HTB.out.1; omega); have hb3 := eq_true (show (0 : Int) ≤ (x3 : Int) by omega)
    refine yields_ (N := some 44) (x := .pointer (some ⟨gb, x3, none⟩)) rfl rfl ?_ (hK.out _ _ ⟨p0, p1, p2, p3, p4, p5, fun _ => ⟨x3, b3, rfl⟩, S⟩)
    clear hK hn hc p0 p1 p2 p3 p4 p5 p6; (try simp only [Array.getD_eq_getD_getElem?] at *); go_simp; try with_reducible rfl
   ·rintro l v W zb HZ hsz ⟨p0, p1, p2, p3, p4, p5, p6, S⟩ hi hn hc K hK
    have e43 := at0 HZ hsz (hn 5 (by decide)) rfl rfl (by decide); obtain ⟨x5, q5⟩ := p5 (hn 5 (by decide))
    rw [q5] at e43
    have e44 := at0 HZ hsz (hn 6 (by decide)) rfl rfl (by decide); obtain ⟨x6, b6, q6⟩ := p6 (hn 6 (by decide))
    rw [q6] at e44
    clear HZ
    rw [hi] at S
    simp only [cond_true, cond_false] at S
    have hk := hK.out; obtain ⟨zp, fp⟩ := S.cellR 1 (0 : Int) rfl (x6 : Int) (by omega) (by have := HTB.out.1; omega); have S1 := S.putRow 1 rfl (x6 : Int) x5
    rw [Int.toNat_natCast] at zp fp S1
    refine st_run (w1 := W.setCell ⟨gb, x6, none⟩ (.int .i64 x5)) rfl rfl (by simp only [Array.getD_eq_getD_getElem?] at *; go_simp; try rfl) ?_
    refine hk undef _ ⟨p0, p1, p2, p3, p4, p5, p6, ⟨b.set x6 x5, by rw [List.length_set], S1⟩⟩
   obtain ⟨-, -, -, -, -, -, -, S⟩ := hJ; obtain ⟨b2, hl2, S1⟩ := (show ∃ b2 : List Int, b2.length = b.length ∧ Hp base w0 W (fB base g3 #[.slice (some ⟨gb, 0, none⟩) b.length cq, .slice (some ⟨gn, 0, none⟩) nx.length cn, .slice (some ⟨ga, 0, none⟩) ac.length ca] 30 :: fR (Kd.int .i64) 2 base (.slice (some ⟨gb, 0, none⟩) b.length cq) b2 :: fS (Kd.slice 2 (Kd.int .i64)) 27 base (.slice (some ⟨gn, 0, none⟩) nx.length cn) nx :: fR (Kd.int .i64) 2 base (.slice (some ⟨ga, 0, none⟩) ac.length ca) ac :: fB base g2 #[.slice none 0 0, .slice none 0 0, .slice none 0 0] 30 :: L) from S); have H2 := Aside0.mk hl2; have S2 := Aside0.mk S1; clear S S1 hl2
   simp only [putIf, ↓reduceIte, Act.put, List.setIfInBounds_toArray, List.set_cons_succ, List.set_cons_zero]
   go_wp2_with fail
   go_meet
   case rel => exact ⟨_, b2, _, nx, _, ac, ⟨by rw [H2.out]; exact HTB.out.1, HTB.out.2.1, by have := HTB.out.2.2.1; have := HTB.out.2.1; omega, HRB.out⟩, ⟨((Hp.imp S2.out 1 rfl fF_R).imp 2 rfl fF_S).imp 3 rfl fF_R⟩⟩
  by_cases c3 : m = 3
  case pos =>
   have e0 := beq_eq_false_iff_ne.2 c0; have e1 := beq_eq_false_iff_ne.2 c1; have e2 := beq_eq_false_iff_ne.2 c2; have e3 := beq_iff_eq.2 c3; clear c0 c1 c2 c3; replace S := Aside0.mk (S.out.noteS 2 rfl (ad := ⟨gn, 0, none⟩) (s := sn) (u := .slice (some ⟨gr, 0, none⟩) rl cr) (by rw [add_plain]; exact HX.out)); have FRZ := Aside0.mk (show ∀ W, Hp base w0 W (fB base g3 #[.slice (some ⟨gb, 0, none⟩) b.length cq, .slice (some ⟨gn, 0, none⟩) nx.length cn, .slice (some ⟨ga, 0, none⟩) ac.length ca] 30 :: fR (Kd.int .i64) 2 base (.slice (some ⟨gb, 0, none⟩) b.length cq) b :: fAnd (fS (Kd.slice 2 (Kd.int .i64)) 27 base (.slice (some ⟨gn, 0, none⟩) nx.length cn) nx) (fC ⟨gn, 0, none⟩ sn (.slice (some ⟨gr, 0, none⟩) rl cr)) :: fR (Kd.int .i64) 2 base (.slice (some ⟨ga, 0, none⟩) ac.length ca) ac :: fB base g2 #[.slice none 0 0, .slice none 0 0, .slice none 0 0] 30 :: L) → W.frozen? ⟨gn, sn, none⟩ = false from fun W S => by obtain ⟨ok, q⟩ := S.get 2 rfl; have := (Kd.R_elem (Kd.S_R q.1) [] (sn : Int) (by omega) (by have := HS.out; omega)).elim (fun cs q2 => q2.2.2.2 0); rw [Int.toNat_natCast] at this; rw [show sn * (Kd.slice 2 (Kd.int .i64)).sz + 0 = sn by show sn * 1 + 0 = sn; omega] at this; exact this); obtain ⟨A9, eA9⟩ : ∃ q : Option Addr, q = (if cr = 1 then some ⟨gr, 0, none⟩ else some ⟨gr, 1, none⟩) := ⟨_, rfl⟩; have HA9 := Aside0.mk (show 1 < rl → A9 = some ⟨gr, 1, none⟩ from fun h => by rw [eA9, if_neg (by have := HRL.out.2.2.2; omega)]); have EA9 := Aside0.mk eA9.symm; clear eA9
   go_wp2_with fail
   refine mask_ (n := 11) (fun l v W => (l 0 = true → v 0 = .pointer (some ⟨g3, 1, none⟩)) ∧ (l 1 = true → v 1 = .slice (some ⟨gn, 0, none⟩) nx.length cn) ∧ (l 2 = true → v 2 = .int .i64 (sn : Int)) ∧ (l 3 = true → v 3 = .pointer (some ⟨g3, 1, none⟩)) ∧ (l 4 = true → v 4 = .slice (some ⟨gn, 0, none⟩) nx.length cn) ∧ (l 5 = true → v 5 = .int .i64 (sn : Int)) ∧ (l 6 = true → v 6 = .pointer (some ⟨gn, sn, none⟩)) ∧ (l 7 = true → v 7 = .slice (some ⟨gr, 0, none⟩) rl cr) ∧ (l 8 = true → v 8 = .slice A9 (rl - 1) (cr - 1)) ∧ (l 9 = true → v 9 = .pointer (some ⟨gn, sn, none⟩)) ∧ Hp base w0 W (bif l 10 then (fB base g3 #[.slice (some ⟨gb, 0, none⟩) b.length cq, .slice (some ⟨gn, 0, none⟩) nx.length cn, .slice (some ⟨ga, 0, none⟩) ac.length ca] 30 :: fR (Kd.int .i64) 2 base (.slice (some ⟨gb, 0, none⟩) b.length cq) b :: fF (Kd.slice 2 (Kd.int .i64)) (.slice (some ⟨gn, 0, none⟩) nx.length cn) (nx.set sn (nx.getD sn []).tail) :: fR (Kd.int .i64) 2 base (.slice (some ⟨ga, 0, none⟩) ac.length ca) ac :: fB base g2 #[.slice none 0 0, .slice none 0 0, .slice none 0 0] 30 :: L) else (fB base g3 #[.slice (some ⟨gb, 0, none⟩) b.length cq, .slice (some ⟨gn, 0, none⟩) nx.length cn, .slice (some ⟨ga, 0, none⟩) ac.length ca] 30 :: fR (Kd.int .i64) 2 base (.slice (some ⟨gb, 0, none⟩) b.length cq) b :: fAnd (fS (Kd.slice 2 (Kd.int .i64)) 27 base (.slice (some ⟨gn, 0, none⟩) nx.length cn) nx) (fC ⟨gn, 0, none⟩ sn (.slice (some ⟨gr, 0, none⟩) rl cr)) :: fR (Kd.int .i64) 2 base (.slice (some ⟨ga, 0, none⟩) ac.length ca) ac :: fB base g2 #[.slice none 0 0, .slice none 0 0, .slice none 0 0] 30 :: L))) [[], [0], [], [], [3], [], [4, 5], [6], [7], [1, 2, 0, 1, 2, 3, 4, 5, 6, 7, 8], [9, 8, 0, 1, 2, 3, 4, 5, 6, 7, 8]] [some 47, some 48, some 49, some 50, some 51, some 52, some 53, some 54, some 55, some 56, none] 65 (by kernel_rfl) spec_l1Rd_oddDfa.need11 spec_l1Rd_oddDfa.dst11 (by decide) rfl ⟨fun h => absurd h (by decide), fun h => absurd h (by decide), fun h => absurd h (by decide), fun h => absurd h (by decide), fun h => absurd h (by decide), fun h => absurd h (by decide), fun h => absurd h (by decide), fun h => absurd h (by decide), fun h => absurd h (by decide), fun h => absurd h (by decide), ?_⟩ ⟨?_, ?_, ?_, ?_, ?_, ?_, ?_, ?_, ?_, ?_, ?_, trivial⟩ (fun v W hJ => ?_)
   ·exact S.out.drew
   ·rintro l v W zb HZ hsz ⟨p0, p1, p2, p3, p4, p5, p6, p7, p8, p9, S⟩ hi hn hc K hK
    have e3 := oth_ (N := 3) (x := .pointer (some ⟨g3, 0, none⟩)) HZ rfl rfl
    refine yields_ (N := some 47) (x := .pointer (some ⟨g3, 1, none⟩)) rfl rfl ?_ (hK.out _ _ ⟨fun _ => rfl, p1, p2, p3, p4, p5, p6, p7, p8, p9, S⟩)
    clear hK HZ hn hc p0 p1 p2 p3 p4 p5 p6 p7 p8 p9; (try simp only [Array.getD_eq_getD_getElem?] at *); go_simp; try with_reducible rfl
   ·rintro l v W zb HZ hsz ⟨p0, p1, p2, p3, p4, p5, p6, p7, p8, p9, S⟩ hi hn hc K hK
    have e47 := at1 HZ hsz (hn 0 (by decide)) p0 rfl rfl (by decide); have S0 := S
    rw [show l 10 = false from hc 10 1 (by decide) hi] at S
    simp only [cond_true, cond_false] at S
    have z := S.cell 0 1 rfl rfl
    refine yields_ (N := some 48) (x := .slice (some ⟨gn, 0, none⟩) nx.length cn) rfl rfl ?_ (hK.out _ _ ⟨p0, fun _ => rfl, p2, p3, p4, p5, p6, p7, p8, p9, S0⟩)
    clear hK HZ hn hc p0 p1 p2 p3 p4 p5 p6 p7 p8 p9; (try simp only [Array.getD_eq_getD_getElem?] at *); go_simp; try with_reducible rfl
   ·rintro l v W zb HZ hsz ⟨p0, p1, p2, p3, p4, p5, p6, p7, p8, p9, S⟩ hi hn hc K hK
    have e4 := oth_ (N := 4) (x := .int .i64 (sn : Int)) HZ rfl rfl
    refine yields_ (N := some 49) (x := .int .i64 (sn : Int)) rfl rfl ?_ (hK.out _ _ ⟨p0, p1, fun _ => rfl, p3, p4, p5, p6, p7, p8, p9, S⟩)
    clear hK HZ hn hc p0 p1 p2 p3 p4 p5 p6 p7 p8 p9; (try simp only [Array.getD_eq_getD_getElem?] at *); go_simp; try with_reducible rfl
   ·rintro l v W zb HZ hsz ⟨p0, p1, p2, p3, p4, p5, p6, p7, p8, p9, S⟩ hi hn hc K hK
    have e3 := oth_ (N := 3) (x := .pointer (some ⟨g3, 0, none⟩)) HZ rfl rfl
    refine yields_ (N := some 50) (x := .pointer (some ⟨g3, 1, none⟩)) rfl rfl ?_ (hK.out _ _ ⟨p0, p1, p2, fun _ => rfl, p4, p5, p6, p7, p8, p9, S⟩)
    clear hK HZ hn hc p0 p1 p2 p3 p4 p5 p6 p7 p8 p9; (try simp only [Array.getD_eq_getD_getElem?] at *); go_simp; try with_reducible rfl
   ·rintro l v W zb HZ hsz ⟨p0, p1, p2, p3, p4, p5, p6, p7, p8, p9, S⟩ hi hn hc K hK
    have e50 := at1 HZ hsz (hn 3 (by decide)) p3 rfl rfl (by decide); have S0 := S
    rw [show l 10 = false from hc 10 4 (by decide) hi] at S
    simp only [cond_true, cond_false] at S
    have z := S.cell 0 1 rfl rfl
    refine yields_ (N := some 51) (x := .slice (some ⟨gn, 0, none⟩) nx.length cn) rfl rfl ?_ (hK.out _ _ ⟨p0, p1, p2, p3, fun _ => rfl, p5, p6, p7, p8, p9, S0⟩)
    clear hK HZ hn hc p0 p1 p2 p3 p4 p5 p6 p7 p8 p9; (try simp only [Array.getD_eq_getD_getElem?] at *); go_simp; try with_reducible rfl
   ·rintro l v W zb HZ hsz ⟨p0, p1, p2, p3, p4, p5, p6, p7, p8, p9, S⟩ hi hn hc K hK
    have e4 := oth_ (N := 4) (x := .int .i64 (sn : Int)) HZ rfl rfl
    refine yields_ (N := some 52) (x := .int .i64 (sn : Int)) rfl rfl ?_ (hK.out _ _ ⟨p0, p1, p2, p3, p4, fun _ => rfl, p6, p7, p8, p9, S⟩)
    clear hK HZ hn hc p0 p1 p2 p3 p4 p5 p6 p7 p8 p9; (try simp only [Array.getD_eq_getD_getElem?] at *); go_simp; try with_reducible rfl
   ·rintro l v W zb HZ hsz ⟨p0, p1, p2, p3, p4, p5, p6, p7, p8, p9, S⟩ hi hn hc K hK
    have e51 := at1 HZ hsz (hn 4 (by decide)) p4 rfl rfl (by decide); have e52 := at1 HZ hsz (hn 5 (by decide)) p5 rfl rfl (by decide); have S0 := S
    rw [show l 10 = false from hc 10 6 (by decide) hi] at S
    simp only [cond_true, cond_false] at S
    have hb1 := eq_true HS.out; have hb2 := eq_true (show (sn : Int) < (nx.length : Int) by have := HS.out; omega); have hb3 := eq_true (show (0 : Int) ≤ (sn : Int) by omega)
    refine yields_ (N := some 53) (x := .pointer (some ⟨gn, sn, none⟩)) rfl rfl ?_ (hK.out _ _ ⟨p0, p1, p2, p3, p4, p5, fun _ => rfl, p7, p8, p9, S0⟩)
    clear hK HZ hn hc p0 p1 p2 p3 p4 p5 p6 p7 p8 p9; (try simp only [Array.getD_eq_getD_getElem?] at *); go_simp; try with_reducible rfl
   ·rintro l v W zb HZ hsz ⟨p0, p1, p2, p3, p4, p5, p6, p7, p8, p9, S⟩ hi hn hc K hK
    have e53 := at1 HZ hsz (hn 6 (by decide)) p6 rfl rfl (by decide); have S0 := S
    rw [show l 10 = false from hc 10 7 (by decide) hi] at S
    simp only [cond_true, cond_false] at S
    have z := (S.elemAt 2 rfl HS.out HRL.out.1).1
    refine yields_ (N := some 54) (x := .slice (some ⟨gr, 0, none⟩) rl cr) rfl rfl ?_ (hK.out _ _ ⟨p0, p1, p2, p3, p4, p5, p6, fun _ => rfl, p8, p9, S0⟩)
    clear hK HZ hn hc p0 p1 p2 p3 p4 p5 p6 p7 p8 p9; (try simp only [Array.getD_eq_getD_getElem?] at *); go_simp; try with_reducible rfl
   ·rintro l v W zb HZ hsz ⟨p0, p1, p2, p3, p4, p5, p6, p7, p8, p9, S⟩ hi hn hc K hK
    have e54 := at1 HZ hsz (hn 7 (by decide)) p7 rfl rfl (by decide); have S0 := S
    rw [show l 10 = false from hc 10 8 (by decide) hi] at S
    simp only [cond_true, cond_false] at S
    have hb1 := eq_true (show 1 ≤ rl from HRL.out.2.1); have hb2 := eq_true (show 1 ≤ cr by have := HRL.out.2.2.2; have := HRL.out.2.1; omega); have hb3 := EA9.out
    refine yields_ (N := some 55) (x := .slice A9 (rl - 1) (cr - 1)) rfl rfl ?_ (hK.out _ _ ⟨p0, p1, p2, p3, p4, p5, p6, p7, fun _ => rfl, p9, S0⟩)
    clear hK HZ hn hc p0 p1 p2 p3 p4 p5 p6 p7 p8 p9; (try simp only [Array.getD_eq_getD_getElem?] at *); go_simp; (try with_reducible rfl); try (intro q; exact absurd q (by have := HRL.out.2.1; omega))
   ·rintro l v W zb HZ hsz ⟨p0, p1, p2, p3, p4, p5, p6, p7, p8, p9, S⟩ hi hn hc K hK
    have e48 := at1 HZ hsz (hn 1 (by decide)) p1 rfl rfl (by decide); have e49 := at1 HZ hsz (hn 2 (by decide)) p2 rfl rfl (by decide); have S0 := S
    rw [show l 10 = false from hc 10 9 (by decide) hi] at S
    simp only [cond_true, cond_false] at S
    have hb1 := eq_true HS.out; have hb2 := eq_true (show (sn : Int) < (nx.length : Int) by have := HS.out; omega); have hb3 := eq_true (show (0 : Int) ≤ (sn : Int) by omega)
    refine yields_ (N := some 56) (x := .pointer (some ⟨gn, sn, none⟩)) rfl rfl ?_ (hK.out _ _ ⟨p0, p1, p2, p3, p4, p5, p6, p7, p8, fun _ => rfl, S0⟩)
    clear hK HZ hn hc p0 p1 p2 p3 p4 p5 p6 p7 p8 p9; (try simp only [Array.getD_eq_getD_getElem?] at *); go_simp; try with_reducible rfl
   ·rintro l v W zb HZ hsz ⟨p0, p1, p2, p3, p4, p5, p6, p7, p8, p9, S⟩ hi hn hc K hK
    have e55 := at1 HZ hsz (hn 8 (by decide)) p8 rfl rfl (by decide); have e56 := at1 HZ hsz (hn 9 (by decide)) p9 rfl rfl (by decide); clear HZ
    rw [hi] at S
    simp only [cond_true, cond_false] at S
    have hk := hK.out; obtain ⟨zp, _⟩ := S.elemAt 2 rfl HS.out HRL.out.1; have fp := FRZ.out W S; have S1 := S.tailAt 2 rfl HS.out HRL.out.1 A9 HA9.out
    refine st_run (w1 := W.setCell ⟨gn, sn, none⟩ (.slice A9 (rl - 1) (cr - 1))) rfl rfl (by simp only [Array.getD_eq_getD_getElem?] at *; go_simp; try rfl) ?_
    refine hk undef _ ⟨p0, p1, p2, p3, p4, p5, p6, p7, p8, p9, ?_⟩
    exact S1
   obtain ⟨-, -, -, -, -, -, -, -, -, -, S⟩ := hJ; replace S := (show Hp base w0 W (fB base g3 #[.slice (some ⟨gb, 0, none⟩) b.length cq, .slice (some ⟨gn, 0, none⟩) nx.length cn, .slice (some ⟨ga, 0, none⟩) ac.length ca] 30 :: fR (Kd.int .i64) 2 base (.slice (some ⟨gb, 0, none⟩) b.length cq) b :: fF (Kd.slice 2 (Kd.int .i64)) (.slice (some ⟨gn, 0, none⟩) nx.length cn) (nx.set sn (nx.getD sn []).tail) :: fR (Kd.int .i64) 2 base (.slice (some ⟨ga, 0, none⟩) ac.length ca) ac :: fB base g2 #[.slice none 0 0, .slice none 0 0, .slice none 0 0] 30 :: L) from S); have S2 := Aside0.mk S; clear S
   simp only [putIf, ↓reduceIte, Act.put, List.setIfInBounds_toArray, List.set_cons_succ, List.set_cons_zero]
   go_wp2_with fail
   go_meet
   case rel => exact ⟨_, b, _, nx.set sn (nx.getD sn []).tail, _, ac, ⟨HTB.out.1, by rw [List.length_set]; exact HTB.out.2.1, by have := HTB.out.2.2.1; have := HTB.out.2.1; omega, rows_set HRB.out (by rw [List.length_tail]; have := HRL.out.2.2.1; omega)⟩, ⟨(Hp.imp S2.out 1 rfl fF_R).imp 3 rfl fF_R⟩⟩
  by_cases c4 : m = 4
  case pos =>
   have e0 := beq_eq_false_iff_ne.2 c0; have e1 := beq_eq_false_iff_ne.2 c1; have e2 := beq_eq_false_iff_ne.2 c2; have e3 := beq_eq_false_iff_ne.2 c3; have e4 := beq_iff_eq.2 c4; clear c0 c1 c2 c3 c4; have z2 := S.out.cell 0 2 rfl rfl
   go_wp2_with (first | ((with_reducible refine gate_dst (N := 61) rfl ?_); refine ev_lit S (Kd.int .i64) (2) rfl rfl (xs := [0]) (inner := [.int .i64 0]) (by first | (go_simp; done) | (go_simp; rfl)) (Reps.one rfl (Reps.none _ _)) (by simp) (fun v61 w_ S1 => ?_); clear S; have S := S1; clear S1; obtain ⟨A61, c61, rfl⟩ := S.out.slice 0 rfl) | ((with_reducible refine gate_dst (N := 62) rfl ?_); refine ev_app S 4 rfl rfl (.tmp 60) (.tmp 61) (27) (.int .i64 0) (8) rfl Try.underlying27 (by kernel_rfl) rfl (by decide) (by omega) rfl rfl (S.out.row 0 rfl).2.2 (fun _ _ h => h) (by have := HTB.out.2.2.1; have := HTB.out.2.1; simp only [List.length_singleton]; omega) (fun v62 w_ S1 => ?_); clear S; have S := Aside0.mk S1.out.tail; clear S1; obtain ⟨A62, c62, rfl⟩ := S.out.slice 3 rfl; (try clear z2); have z2 := S.out.cell 0 2 rfl rfl; have f2 := S.out.frozen 0 2 rfl) | ((with_reducible refine gate_store (t := 27) (p := 63) rfl ?_); refine ev_run (w1 := ((_ : World)).setCell ⟨g3, 2, none⟩ (.slice A62 (ac ++ [0]).length c62)) rfl rfl (by first | (go_simp; done) | (go_simp; rfl)) (fun w_ hw => ?_); have S1 := Aside0.mk ((S.out).put 0 2 (u := .slice A62 (ac ++ [0]).length c62) rfl rfl); rw [← hw] at S1; clear hw; clear S; have S := S1; clear S1; clear z2 f2))
   go_meet
   case rel => exact ⟨_, b, _, nx, _, (ac ++ [0]), ⟨HTB.out.1, HTB.out.2.1, by rw [List.length_append, List.length_singleton]; have := HTB.out.2.2.1; have := HTB.out.2.1; omega, HRB.out⟩, ⟨((Hp.imp S.out 1 rfl fF_R).imp 2 rfl fF_S).imp 3 rfl fF_R⟩⟩
  have e0 := beq_eq_false_iff_ne.2 c0; have e1 := beq_eq_false_iff_ne.2 c1; have e2 := beq_eq_false_iff_ne.2 c2; have e3 := beq_eq_false_iff_ne.2 c3; have e4 := beq_eq_false_iff_ne.2 c4; clear c0 c1 c2 c3 c4
  go_wp2_with fail
  go_meet
  case rel => exact ⟨_, b, _, nx, _, ac, ⟨HTB.out.1, HTB.out.2.1, by have := HTB.out.2.2.1; have := HTB.out.2.1; omega, HRB.out⟩, ⟨((Hp.imp S.out 1 rfl fF_R).imp 2 rfl fF_S).imp 3 rfl fF_R⟩⟩
 case rest =>
  clear S HTB HS; obtain ⟨vb, b, vn, nx, va, ac, HO, S⟩ := hcut; obtain ⟨Aq, cq, rfl⟩ := S.out.sliceF 1 rfl; obtain ⟨An, cn, rfl⟩ := S.out.sliceF 2 rfl; obtain ⟨Aa, ca, rfl⟩ := S.out.sliceF 3 rfl; have z0 := S.out.cell 0 0 rfl rfl; have z1 := S.out.cell 0 1 rfl rfl; have z2 := S.out.cell 0 2 rfl rfl; have y0 := S.out.cell 4 0 rfl rfl; have y1 := S.out.cell 4 1 rfl rfl; have y2 := S.out.cell 4 2 rfl rfl; have f0 := S.out.frozen 4 0 rfl; have f1 := S.out.frozen 4 1 rfl; have f2 := S.out.frozen 4 2 rfl
  go_wp2
  have S1 := Aside0.mk ((((S.out).put 4 0 (u := .slice Aq b.length cq) rfl rfl).put 4 1 (u := .slice An nx.length cn) rfl rfl).put 4 2 (u := .slice Aa ac.length ca) rfl rfl)
  refine bodyPost_ret (results_cell_row rfl _ _ g2 30 #[.slice Aq b.length cq, .slice An nx.length cn, .slice Aa ac.length ca] (0, 0) _ rfl (S1.out.blk 4 rfl) Try.underlying30 rfl (by kernel_rfl)) rfl ?_
  exact ⟨_, b, _, nx, _, ac, rfl, HO.out, Hp.pick (A := [_, _, _, _, _]) [1, 2, 3] S1.out (by decide) (by simp)⟩
end

/-! ### spec_DrawDfaOk: function 90 -/
section
open Go.Proofs.Ytfajfjgkkgigoaa.Kit
set_option maxHeartbeats 4000000 in
set_option maxRecDepth 100000 in
theorem spec_DrawDfaOk.w {base : Nat} {w0 w : World} {L : List Fact} (S : Hp base w0 w L) (Ab : Option Addr) (cb : Nat) (bs : List Int) (hB : RdOK base w0 Ab bs) (hbd : BdOK) :
  Calls Try.prog 90 #[.slice Ab bs.length cb] w (ODPost base w0 L) := by
 replace S := Aside0.mk S
 have HB := Aside0.mk hB
 have HBD := Aside0.mk hbd
 clear hB hbd
 go_enter Try.func90, Try.ntmps90
 go_wp2_with (first | ((with_reducible refine gate_dst (N := 2) rfl ?_); refine ev_box S rfl rfl (cs := #[.slice none 0 0, .slice none 0 0, .slice none 0 0]) (t := 30) (by first | (go_simp; done) | (go_simp; rfl)) (fun g2 w_ Gg2 S1 => ?_); clear S; have S := S1; clear S1))
 refine (spec_l1Open.w S.out Ab cb bs).mono ?_
 rintro e w_ ⟨g, rfl, S1⟩
 replace S := Aside0.mk S1
 clear S1
 go_wp2_with fail
 refine (spec_l1Rd_oddDfa.calls S.out 0 g Ab cb bs HB.out rfl HBD.out).mono ?_
 rintro e w_ ⟨vb, b, vn, nx, va, ac, rfl, ho, S1⟩
 obtain ⟨Aq, cq, rfl⟩ := S1.sliceF 0 rfl
 obtain ⟨An, cn, rfl⟩ := S1.sliceF 1 rfl
 obtain ⟨Aa, ca, rfl⟩ := S1.sliceF 2 rfl
 have HO := Aside0.mk ho
 replace S := Aside0.mk S1
 clear S1 ho
 have y0 := S.out.cell 4 0 rfl rfl
 have y1 := S.out.cell 4 1 rfl rfl
 have y2 := S.out.cell 4 2 rfl rfl
 have f0 := S.out.frozen 4 0 rfl
 have f1 := S.out.frozen 4 1 rfl
 have f2 := S.out.frozen 4 2 rfl
 go_wp2
 have S1 := Aside0.mk ((((S.out).put 4 0 (u := .slice Aq b.length cq) rfl rfl).put 4 1 (u := .slice An nx.length cn) rfl rfl).put 4 2 (u := .slice Aa ac.length ca) rfl rfl)
 refine bodyPost_ret (results_cell_row rfl _ _ g2 30 #[.slice Aq b.length cq, .slice An nx.length cn, .slice Aa ac.length ca] (0, 0) _ rfl (S1.out.blk 4 rfl) Try.underlying30 rfl (by kernel_rfl)) rfl ?_
 exact ⟨_, b, _, nx, _, ac, rfl, HO.out, Hp.pick (A := [_, _, _, _, _]) [0, 1, 2] S1.out (by decide) (by simp)⟩
end

end Go.Proofs.Ytfajfjgkkgigoaa.PFnDead
