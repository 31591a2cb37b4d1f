-- Written by this session's own program (wip/pr.py) over the kit's printer; contracts that the printer does not know are given by hand.
import Derived.Test.YtfajfjgkkgigoaaPFnClosedx0
import Derived.Test.YtfajfjgkkgigoaaPFnClosedx13
import Derived.Test.YtfajfjgkkgigoaaPFnClosedx14
import Derived.Test.YtfajfjgkkgigoaaPFnClosedx15
namespace Go.Proofs.Ytfajfjgkkgigoaa.PFnClosed
open Go.RowKit Go.Proofs.YtfajfjgkkgigoaaW.PrintWords Go.Proofs.YtfajfjgkkgigoaaW.PrintLast Go.Proofs.YtfajfjgkkgigoaaW.PrintMore
attribute [local go_sem] max2_int min2_int max_two min_two max_three min_three max_four min_four   -- for this text's walks alone
set_option linter.unusedVariables false
set_option linter.unusedSimpArgs false

/-! ### spec_l1Rd_nfa: function 84 -/
section
open Go.Proofs.Ytfajfjgkkgigoaa.Kit
/-- a network is told, of bounded size -/
def NfPost (base : Nat) (w0 : World) (L : List Fact) (e : Ending) (w' : World) : Prop := ∃ (s : Int) (ve : Value) (es : List S85) (vf : Value) (fs : List S156), e = .returned (.agg #[.int .i64 s, ve, vf]) ∧ I64 s ∧ es.length ≤ 30000 ∧ fs.length ≤ 40 ∧ (∀ e ∈ es, e.f2.length ≤ 1000) ∧ Hp base w0 w' (fR k85 85 base ve es :: fR k156 156 base vf fs :: L)
theorem set_sets {es : List S85} {j : Nat} {x : S85} (h : ∀ e ∈ es, e.f2.length ≤ 1000) (hx : x.f2.length ≤ 1000) : ∀ e ∈ es.set j x, e.f2.length ≤ 1000 := fun e he => by
 rcases List.mem_or_eq_of_mem_set he with q | q
 ·exact h e q
 ·rw [q]; exact hx
theorem spec_l1Rd_nfa.need7 : (rtab .any (opsOf Try.f84 7)).2.map Prod.fst = [[], [0], [], [], [], [4], [5], [3, 6], [1, 2, 0, 1, 2, 3, 4, 5, 6, 7], [8, 0, 1, 2, 3, 4, 5, 6, 7], [9, 7, 7, 0, 1, 2, 3, 4, 5, 6, 7]] := by kernel_rfl
theorem spec_l1Rd_nfa.dst7 : (opsOf Try.f84 7).toList.map Oper.dst = [some 24, some 25, some 26, some 27, some 28, some 29, some 30, some 31, some 32, some 33, none] := by kernel_rfl
theorem spec_l1Rd_nfa.need9 : (rtab .any (opsOf Try.f84 9)).2.map Prod.fst = [[], [0], [], [], [3], [1, 2, 0, 1, 2, 3, 4], [5, 0, 1, 2, 3, 4], [6, 4, 4, 0, 1, 2, 3, 4]] := by kernel_rfl
theorem spec_l1Rd_nfa.dst9 : (opsOf Try.f84 9).toList.map Oper.dst = [some 36, some 37, some 38, some 39, some 40, some 41, some 42, none] := by kernel_rfl
theorem spec_l1Rd_nfa.need11 : (rtab .any (opsOf Try.f84 11)).2.map Prod.fst = [[], [0], [], [2], [1, 0, 1, 2, 3], [4, 0, 1, 2, 3], [5, 3, 3, 0, 1, 2, 3]] := by kernel_rfl
theorem spec_l1Rd_nfa.dst11 : (opsOf Try.f84 11).toList.map Oper.dst = [some 45, some 46, some 47, some 48, some 49, some 50, none] := by kernel_rfl
theorem spec_l1Rd_nfa.need15 : (rtab .any (opsOf Try.f84 15)).2.map Prod.fst = [[], [0], [], [], [3], [4], [2, 5], [], [], [8], [9], [7, 10, 6], [6, 11], [12], [1, 13, 11], [0, 1, 2, 3, 4, 5, 6, 7, 8, 9, 10, 11, 12, 13, 14], [15, 14, 14, 0, 1, 2, 3, 4, 5, 6, 7, 8, 9, 10, 11, 12, 13, 14]] := by kernel_rfl
theorem spec_l1Rd_nfa.dst15 : (opsOf Try.f84 15).toList.map Oper.dst = [some 60, some 61, some 62, some 63, some 64, some 65, some 66, some 67, some 68, some 69, some 70, some 71, some 72, some 73, some 74, some 75, none] := by kernel_rfl
set_option maxHeartbeats 4000000 in
set_option maxRecDepth 100000 in
theorem spec_l1Rd_nfa.calls {base : Nat} {w0 w : World} {L : List Fact} (S : Hp base w0 w L) (i g : Nat) (Ab : Option Addr) (cb : Nat) (bs : List Int) (hB : RdOK base w0 Ab bs) (hi : L[i]? = some (fRd 179 base g (.slice Ab bs.length cb))) :
  Calls Try.prog 84 #[.pointer (some ⟨g, 0, none⟩)] w (NfPost base w0 L) := by
 replace S := Aside0.mk S
 have HB := Aside0.mk hB
 have HI := Aside0.mk hi
 clear hB hi
 go_enter Try.func84, Try.ntmps84
 go_wp2_with (first | ((with_reducible refine gate_dst (N := 2) rfl ?_); refine ev_box S rfl rfl (cs := #[.int .i64 0, .slice none 0 0, .slice none 0 0]) (t := 36) (by first | (go_simp; done) | (go_simp; rfl)) (fun g2 w_ Gg2 S1 => ?_); clear S; have S := S1; clear S1))
 refine (spec_l1Rd_rxs.calls S.out (i + 1) g Ab cb bs HB.out (show (_ :: L)[i + 1]? = _ from HI.out)).mono ?_
 rintro e w_ ⟨v, xs, rfl, hx, hb, S1⟩
 obtain ⟨Ax, cx, rfl⟩ := S1.slice 0 rfl
 replace S := Aside0.mk S1
 clear S1
 go_wp2_with fail
 refine (spec_BuildNfa.calls S.out 0 Ax cx xs rfl hb).mono ?_
 rintro e w_ ⟨s, ve, es, vf, fs, ok, rfl, hok, he, hf, hs, S1⟩
 obtain ⟨Ae, ce, rfl⟩ := S1.slice 0 rfl
 obtain ⟨Af, cf_, rfl⟩ := S1.slice 1 rfl
 have HOK := Aside0.mk hok
 have HE0 := Aside0.mk (And.intro he (And.intro hf hs))
 replace S := Aside0.mk S1
 clear S1 hok he hf hs hx hb
 cases ok with
 | false =>
  go_wp2_with (first | ((with_reducible refine gate_dst (N := 3) rfl ?_); refine ev_box S rfl rfl (cs := #[.int .i64 0, .slice none 0 0, .slice none 0 0]) (t := 36) (by first | (go_simp; done) | (go_simp; rfl)) (fun g3 w_ Gg3 S1 => ?_); clear S; have S := S1; clear S1; have z0 := S.out.cell 0 0 rfl rfl; have z1 := S.out.cell 0 1 rfl rfl; have z2 := S.out.cell 0 2 rfl rfl; have f0 := S.out.frozen 0 0 rfl; have f1 := S.out.frozen 0 1 rfl; have f2 := S.out.frozen 0 2 rfl) | ((with_reducible refine gate_store (t := 36) (p := 3) rfl ?_); refine ev_run (w1 := ((((_ : World)).setCell ⟨g3, 0, none⟩ (.int .i64 s)).setCell ⟨g3, 1, none⟩ (.slice Ae es.length ce)).setCell ⟨g3, 2, none⟩ (.slice Af fs.length cf_)) rfl rfl (by first | (go_simp; done) | (go_simp; rfl)) (fun w_ hw => ?_); have S1 := Aside0.mk ((((S.out).put 0 0 (u := .int .i64 s) rfl rfl).put 0 1 (u := .slice Ae es.length ce) rfl rfl).put 0 2 (u := .slice Af fs.length cf_) rfl rfl); rw [← hw] at S1; clear hw; clear S; have S := S1; clear S1; clear z0 z1 z2 f0 f1 f2; have y0 := S.out.cell 4 0 rfl rfl; have y1 := S.out.cell 4 1 rfl rfl; have y2 := S.out.cell 4 2 rfl rfl; have f0 := S.out.frozen 4 0 rfl; have f1 := S.out.frozen 4 1 rfl; have f2 := S.out.frozen 4 2 rfl))
  have S1 := Aside0.mk ((((S.out).put 4 0 (u := .int .i64 1) rfl rfl).put 4 1 (u := .slice none 0 0) rfl rfl).put 4 2 (u := .slice none 0 0) rfl rfl)
  refine bodyPost_ret (results_cell_row rfl _ _ g2 36 #[.int .i64 1, .slice none 0 0, .slice none 0 0] (0, 0) _ rfl (S1.out.blk 4 rfl) Try.underlying36 rfl (by kernel_rfl)) rfl ?_
  exact ⟨1, _, [], _, [], rfl, ⟨by omega, by omega⟩, by simp, by simp, fun _ h => absurd h (by simp), (S1.out.tail.tail.tail.tail.tail.none_ k156 156).none_ k85 85⟩
 | true =>
  have HS0 := Aside0.mk (HOK.out (by first | rfl | trivial)); have HE := Aside0.mk (show es.length ≤ 30000 ∧ fs.length ≤ 40 ∧ ∀ e ∈ es, e.f2.length ≤ 1000 from ⟨by have := HE0.out; omega, HE0.out.2.1, fun e q => by have := HE0.out.2.2 e q; omega⟩); have HS := Aside0.mk (show I64 s from ⟨by have := HS0.out; omega, by have := HS0.out; omega⟩); clear HOK
  go_wp2_with (first | ((with_reducible refine gate_dst (N := 3) rfl ?_); refine ev_box S rfl rfl (cs := #[.int .i64 0, .slice none 0 0, .slice none 0 0]) (t := 36) (by first | (go_simp; done) | (go_simp; rfl)) (fun g3 w_ Gg3 S1 => ?_); clear S; have S := S1; clear S1; have z0 := S.out.cell 0 0 rfl rfl; have z1 := S.out.cell 0 1 rfl rfl; have z2 := S.out.cell 0 2 rfl rfl; have f0 := S.out.frozen 0 0 rfl; have f1 := S.out.frozen 0 1 rfl; have f2 := S.out.frozen 0 2 rfl) | ((with_reducible refine gate_store (t := 36) (p := 3) rfl ?_); refine ev_run (w1 := ((((_ : World)).setCell ⟨g3, 0, none⟩ (.int .i64 s)).setCell ⟨g3, 1, none⟩ (.slice Ae es.length ce)).setCell ⟨g3, 2, none⟩ (.slice Af fs.length cf_)) rfl rfl (by first | (go_simp; done) | (go_simp; rfl)) (fun w_ hw => ?_); have S1 := Aside0.mk ((((S.out).put 0 0 (u := .int .i64 s) rfl rfl).put 0 1 (u := .slice Ae es.length ce) rfl rfl).put 0 2 (u := .slice Af fs.length cf_) rfl rfl); rw [← hw] at S1; clear hw; clear S; have S := S1; clear S1; clear z0 z1 z2 f0 f1 f2; have z1 := S.out.cell 0 1 rfl rfl))
  have S2 := Aside0.mk (show Hp base w0 _ (fB base g3 #[.int .i64 s, (.slice Ae es.length ce), (.slice Af fs.length cf_)] 36 :: fR k85 85 base (.slice Ae es.length ce) es :: fR k156 156 base (.slice Af fs.length cf_) fs :: fB base g2 #[.int .i64 0, .slice none 0 0, .slice none 0 0] 36 :: L) from Hp.pick (A := [_, _, _, _, _]) [0, 1, 2, 4] S.out (by decide) (by simp)); clear S; have S := S2; clear S2
  refine (spec_l1Rd_below.calls S.out (i + 4) g Ab cb bs HB.out (show (_ :: _ :: _ :: _ :: L)[i + 4]? = _ from HI.out) (es.length : Int) (by have := HE0.out.1; omega)).mono ?_
  rintro e w_ ⟨j, rfl, hj, S1⟩
  have HJ := Aside0.mk (show 0 ≤ j ∧ j < (es.length : Int) by have := HS0.out; omega); replace S := Aside0.mk S1; clear S1 hj z1
  go_wp2_with fail
  refine (spec_l1Rd_below.calls S.out (i + 4) g Ab cb bs HB.out (show (_ :: _ :: _ :: _ :: L)[i + 4]? = _ from HI.out) 30 (by omega)).mono ?_
  rintro e w_ ⟨m, rfl, hm, S1⟩
  replace S := Aside0.mk S1; clear S1; have Hm := Aside0.mk hm; clear hm; obtain ⟨ge, ce_, eg⟩ := S.out.form 1 rfl (by have := HS0.out; omega); cases eg; obtain ⟨j, rfl⟩ : ∃ jn : Nat, j = (jn : Int) := ⟨j.toNat, by have := HJ.out; omega⟩; replace HJ := Aside0.mk (show j < es.length by have := HJ.out; omega); have WS1 := Aside0.mk (show wrap64 (s - 1) = s - 1 from w64 (by have := HS0.out; omega) (by have := HS0.out; omega))
  go_upto_block 0 with fail
  (try simp only [Act.put, List.setIfInBounds_toArray, List.set_cons_zero, List.set_cons_succ])
  go_cut [] (fun wc => ∃ (s : Int) (ve : Value) (es : List S85) (vf : Value) (fs : List S156), Aside0 (I64 s) ∧ Aside0 (es.length ≤ 30000 ∧ fs.length ≤ 40 ∧ ∀ e ∈ es, e.f2.length ≤ 1000) ∧ Aside0 (Hp base w0 wc (fB base g3 #[.int .i64 s, ve, vf] 36 :: fR k85 85 base ve es :: fR k156 156 base vf fs :: fB base g2 #[.int .i64 0, .slice none 0 0, .slice none 0 0] 36 :: L)))
  case first =>
   by_cases c0 : m = 0
   case pos =>
    have e0 := beq_iff_eq.2 c0; clear c0
    go_wp2_with fail
    refine mask_ (n := 11) (fun l v W => (l 0 = true → v 0 = .pointer (some ⟨g3, 1, none⟩)) ∧ (l 1 = true → v 1 = .slice (some ⟨ge, 0, none⟩) es.length ce) ∧ (l 2 = true → v 2 = .int .i64 (j : Int)) ∧ (l 3 = true → v 3 = .pointer (some ⟨g, 0, none⟩)) ∧ (l 4 = true → v 4 = .pointer (some ⟨g3, 0, none⟩)) ∧ (l 5 = true → v 5 = .int .i64 s) ∧ (l 6 = true → v 6 = .int .i64 (s - 1)) ∧ (l 7 = true → ∃ x : Int, v 7 = .int .i64 x) ∧ (l 8 = true → v 8 = .pointer (some ⟨ge, j * 3, none⟩)) ∧ (l 9 = true → v 9 = .pointer (some ⟨ge, j * 3 + 1, none⟩)) ∧ (bif l 10 then (∃ es2 : List S85, (es2.length = es.length ∧ ∀ e ∈ es2, e.f2.length ≤ 1000) ∧ Hp base w0 W (fB base g3 #[.int .i64 s, (.slice (some ⟨ge, 0, none⟩) es.length ce), (.slice Af fs.length cf_)] 36 :: fR k85 85 base (.slice (some ⟨ge, 0, none⟩) es.length ce) es2 :: fR k156 156 base (.slice Af fs.length cf_) fs :: fB base g2 #[.int .i64 0, .slice none 0 0, .slice none 0 0] 36 :: L)) else Hp base w0 W (fB base g3 #[.int .i64 s, (.slice (some ⟨ge, 0, none⟩) es.length ce), (.slice Af fs.length cf_)] 36 :: fR k85 85 base (.slice (some ⟨ge, 0, none⟩) es.length ce) es :: fR k156 156 base (.slice Af fs.length cf_) fs :: fB base g2 #[.int .i64 0, .slice none 0 0, .slice none 0 0] 36 :: L))) [[], [0], [], [], [], [4], [5], [3, 6], [1, 2, 0, 1, 2, 3, 4, 5, 6, 7], [8, 0, 1, 2, 3, 4, 5, 6, 7], [9, 7, 7, 0, 1, 2, 3, 4, 5, 6, 7]] [some 24, some 25, some 26, some 27, some 28, some 29, some 30, some 31, some 32, some 33, none] 77 (by kernel_rfl) spec_l1Rd_nfa.need7 spec_l1Rd_nfa.dst7 (by decide) rfl ⟨fun h => absurd h (by decide), fun h => absurd h (by decide), fun h => absurd h (by decide), fun h => absurd h (by decide), fun h => absurd h (by decide), fun h => absurd h (by decide), fun h => absurd h (by decide), fun h => absurd h (by decide), fun h => absurd h (by decide), fun h => absurd h (by decide), ?_⟩ ⟨?_, ?_, ?_, ?_, ?_, ?_, ?_, ?_, ?_, ?_, ?_, trivial⟩ (fun v W hJ => ?_)
    ·exact S.out.drew
    ·rintro l v W zb HZ hsz ⟨p0, p1, p2, p3, p4, p5, p6, p7, p8, p9, S⟩ hi hn hc K hK
     have e3 := oth_ (N := 3) (x := .pointer (some ⟨g3, 0, none⟩)) HZ rfl rfl
     refine yields_ (N := some 24) (x := .pointer (some ⟨g3, 1, none⟩)) rfl rfl ?_ (hK.out _ _ ⟨fun _ => rfl, p1, p2, p3, p4, p5, p6, p7, p8, p9, S⟩)
     clear hK HZ hn hc p0 p1 p2 p3 p4 p5 p6 p7 p8 p9; (try simp only [Array.getD_eq_getD_getElem?] at *); go_simp; try with_reducible rfl
    ·rintro l v W zb HZ hsz ⟨p0, p1, p2, p3, p4, p5, p6, p7, p8, p9, S⟩ hi hn hc K hK
     have e24 := at1 HZ hsz (hn 0 (by decide)) p0 rfl rfl (by decide); have S0 := S
     rw [show l 10 = false from hc 10 1 (by decide) hi] at S
     simp only [cond_true, cond_false] at S
     have z := S.cell 0 1 rfl rfl
     refine yields_ (N := some 25) (x := .slice (some ⟨ge, 0, none⟩) es.length ce) rfl rfl ?_ (hK.out _ _ ⟨p0, fun _ => rfl, p2, p3, p4, p5, p6, p7, p8, p9, S0⟩)
     clear hK HZ hn hc p0 p1 p2 p3 p4 p5 p6 p7 p8 p9; (try simp only [Array.getD_eq_getD_getElem?] at *); go_simp; try with_reducible rfl
    ·rintro l v W zb HZ hsz ⟨p0, p1, p2, p3, p4, p5, p6, p7, p8, p9, S⟩ hi hn hc K hK
     have e5 := oth_ (N := 5) (x := .int .i64 (j : Int)) HZ rfl rfl
     refine yields_ (N := some 26) (x := .int .i64 (j : Int)) rfl rfl ?_ (hK.out _ _ ⟨p0, p1, fun _ => rfl, p3, p4, p5, p6, p7, p8, p9, S⟩)
     clear hK HZ hn hc p0 p1 p2 p3 p4 p5 p6 p7 p8 p9; (try simp only [Array.getD_eq_getD_getElem?] at *); go_simp; try with_reducible rfl
    ·rintro l v W zb HZ hsz ⟨p0, p1, p2, p3, p4, p5, p6, p7, p8, p9, S⟩ hi hn hc K hK
     have e0 := oth_ (N := 0) (x := .pointer (some ⟨g, 0, none⟩)) HZ rfl rfl
     refine yields_ (N := some 27) (x := .pointer (some ⟨g, 0, none⟩)) rfl rfl ?_ (hK.out _ _ ⟨p0, p1, p2, fun _ => rfl, p4, p5, p6, p7, p8, p9, S⟩)
     clear hK HZ hn hc p0 p1 p2 p3 p4 p5 p6 p7 p8 p9; (try simp only [Array.getD_eq_getD_getElem?] at *); go_simp; try with_reducible rfl
    ·rintro l v W zb HZ hsz ⟨p0, p1, p2, p3, p4, p5, p6, p7, p8, p9, S⟩ hi hn hc K hK
     have e3 := oth_ (N := 3) (x := .pointer (some ⟨g3, 0, none⟩)) HZ rfl rfl
     refine yields_ (N := some 28) (x := .pointer (some ⟨g3, 0, none⟩)) rfl rfl ?_ (hK.out _ _ ⟨p0, p1, p2, p3, fun _ => rfl, p5, p6, p7, p8, p9, S⟩)
     clear hK HZ hn hc p0 p1 p2 p3 p4 p5 p6 p7 p8 p9; (try simp only [Array.getD_eq_getD_getElem?] at *); go_simp; try with_reducible rfl
    ·rintro l v W zb HZ hsz ⟨p0, p1, p2, p3, p4, p5, p6, p7, p8, p9, S⟩ hi hn hc K hK
     have e28 := at1 HZ hsz (hn 4 (by decide)) p4 rfl rfl (by decide); have S0 := S
     rw [show l 10 = false from hc 10 5 (by decide) hi] at S
     simp only [cond_true, cond_false] at S
     have z := S.cell 0 0 rfl rfl
     refine yields_ (N := some 29) (x := .int .i64 s) rfl rfl ?_ (hK.out _ _ ⟨p0, p1, p2, p3, p4, fun _ => rfl, p6, p7, p8, p9, S0⟩)
     clear hK HZ hn hc p0 p1 p2 p3 p4 p5 p6 p7 p8 p9; (try simp only [Array.getD_eq_getD_getElem?] at *); go_simp; try with_reducible rfl
    ·rintro l v W zb HZ hsz ⟨p0, p1, p2, p3, p4, p5, p6, p7, p8, p9, S⟩ hi hn hc K hK
     have e29 := at1 HZ hsz (hn 5 (by decide)) p5 rfl rfl (by decide); have S0 := S
     rw [show l 10 = false from hc 10 6 (by decide) hi] at S
     simp only [cond_true, cond_false] at S
     have WL := WS1.out
     refine yields_ (N := some 30) (x := .int .i64 (s - 1)) rfl rfl ?_ (hK.out _ _ ⟨p0, p1, p2, p3, p4, p5, fun _ => rfl, p7, p8, p9, S0⟩)
     clear hK HZ hn hc p0 p1 p2 p3 p4 p5 p6 p7 p8 p9; (try simp only [Array.getD_eq_getD_getElem?] at *); go_simp; rw [i64_w, WL]
    ·rintro l v W zb HZ hsz ⟨p0, p1, p2, p3, p4, p5, p6, p7, p8, p9, S⟩ hi hn hc K hK
     have e27 := at1 HZ hsz (hn 3 (by decide)) p3 rfl rfl (by decide); have e30 := at1 HZ hsz (hn 6 (by decide)) p6 rfl rfl (by decide); clear HZ
     rw [show l 10 = false from hc 10 7 (by decide) hi] at S
     simp only [cond_true, cond_false] at S
     refine goes_ Try.func112 (by kernel_rfl) rfl #[.pointer (some ⟨g, 0, none⟩), .int .i64 0, .int .i64 (s - 1)] rfl rfl rfl (by simp only [List.map_toArray, List.map_cons, List.map_nil]; show #[zb.tmps.getD 27 undef, _, zb.tmps.getD 30 undef] = _; simp only [e27, e30]; rfl) ?_
     refine (spec_l1Rd_off.calls S (i + 4) g Ab cb bs HB.out (show (_ :: _ :: _ :: _ :: L)[i + 4]? = _ from HI.out) 0 (s - 1) (by omega) ⟨by omega, by omega⟩ ⟨by have := HS0.out; omega, by have := HS0.out; omega⟩).mono ?_
     rintro e w' ⟨x, rfl, hx, S1⟩
     refine ⟨_, rfl, hK.out _ _ ⟨p0, p1, p2, p3, p4, p5, p6, fun _ => ⟨x, rfl⟩, p8, p9, ?_⟩⟩
     rw [show upd l 7 10 = false from hc 10 7 (by decide) hi]
     exact S1
    ·rintro l v W zb HZ hsz ⟨p0, p1, p2, p3, p4, p5, p6, p7, p8, p9, S⟩ hi hn hc K hK
     have e25 := at1 HZ hsz (hn 1 (by decide)) p1 rfl rfl (by decide); have e26 := at1 HZ hsz (hn 2 (by decide)) p2 rfl rfl (by decide); have S0 := S
     rw [show l 10 = false from hc 10 9 (by decide) (hc 9 8 (by decide) hi)] at S
     simp only [cond_true, cond_false] at S
     have hb1 := eq_true HJ.out; have hb2 := eq_true (show (j : Int) < (es.length : Int) by have := HJ.out; omega); have hb3 := eq_true (show (0 : Int) ≤ (j : Int) by omega)
     refine yields_ (N := some 32) (x := .pointer (some ⟨ge, j * 3, none⟩)) rfl rfl ?_ (hK.out _ _ ⟨p0, p1, p2, p3, p4, p5, p6, p7, fun _ => rfl, p9, S0⟩)
     clear hK HZ hn hc p0 p1 p2 p3 p4 p5 p6 p7 p8 p9; (try simp only [Array.getD_eq_getD_getElem?] at *); go_simp; try with_reducible rfl
    ·rintro l v W zb HZ hsz ⟨p0, p1, p2, p3, p4, p5, p6, p7, p8, p9, S⟩ hi hn hc K hK
     have e32 := at1 HZ hsz (hn 8 (by decide)) p8 rfl rfl (by decide)
     refine yields_ (N := some 33) (x := .pointer (some ⟨ge, j * 3 + 1, none⟩)) rfl rfl ?_ (hK.out _ _ ⟨p0, p1, p2, p3, p4, p5, p6, p7, p8, fun _ => rfl, S⟩)
     clear hK HZ hn hc p0 p1 p2 p3 p4 p5 p6 p7 p8 p9; (try simp only [Array.getD_eq_getD_getElem?] at *); go_simp; try with_reducible rfl
    ·rintro l v W zb HZ hsz ⟨p0, p1, p2, p3, p4, p5, p6, p7, p8, p9, S⟩ hi hn hc K hK
     have e31 := at0 HZ hsz (hn 7 (by decide)) rfl rfl (by decide); obtain ⟨x7, q7⟩ := p7 (hn 7 (by decide))
     rw [q7] at e31
     have e33 := at1 HZ hsz (hn 9 (by decide)) p9 rfl rfl (by decide); clear HZ
     rw [hi] at S
     simp only [cond_true, cond_false] at S
     have hk := hK.out; obtain ⟨ad, A2, c2, ea, x0, x1, x2, -, -⟩ := at_T85 (S.row 1 rfl).2.2 (j : Int) (by omega) (by have := HJ.out; omega); cases ea
     rw [Int.toNat_natCast, off_add] at x1 x2
     have fz := (S.get 1 rfl).elim (fun ok q => (Kd.R_elem q z85 (j : Int) (by omega) (by have := HJ.out; omega)).elim (fun cs q2 => q2.2.2.2)); have f1 : W.frozen? ⟨ge, j * 3 + 1, none⟩ = false := fz 1; have HEL := HE.out.2.2 (es.getD j z85) (by rw [List.getD_eq_getElem?_getD, List.getElem?_eq_getElem HJ.out]; exact List.getElem_mem _); have S1 := Hp.seg S.blank 2 0 (by decide) rfl rfl z85 (j : Int) (by omega) (by have := HJ.out; omega) 1 (.int .i64 x7) (⟨(es.getD j z85).f0, x7, (es.getD j z85).f2⟩ : S85) (by decide) (fun ok c _ h _ => by obtain ⟨v2, rfl, hv⟩ := k85_openM h; exact k85_mkM _ _ _ _ hv)
     refine st_run (w1 := W.setCell ⟨ge, j * 3 + 1, none⟩ (.int .i64 x7)) rfl rfl (by simp only [Array.getD_eq_getD_getElem?] at *; go_simp; try rfl) ?_
     refine hk undef _ ⟨p0, p1, p2, p3, p4, p5, p6, p7, p8, p9, ⟨es.set j (⟨(es.getD j z85).f0, x7, (es.getD j z85).f2⟩ : S85), ⟨by rw [List.length_set], set_sets HE.out.2.2 HEL⟩, S1.tail⟩⟩
    obtain ⟨-, -, -, -, -, -, -, -, -, -, S⟩ := hJ; obtain ⟨es2, ⟨hl2, hs2⟩, S1⟩ := (show ∃ es2 : List S85, (es2.length = es.length ∧ ∀ e ∈ es2, e.f2.length ≤ 1000) ∧ Hp base w0 W (fB base g3 #[.int .i64 s, (.slice (some ⟨ge, 0, none⟩) es.length ce), (.slice Af fs.length cf_)] 36 :: fR k85 85 base (.slice (some ⟨ge, 0, none⟩) es.length ce) es2 :: fR k156 156 base (.slice Af fs.length cf_) fs :: fB base g2 #[.int .i64 0, .slice none 0 0, .slice none 0 0] 36 :: L) from S); have HE2 := Aside0.mk (show es2.length ≤ 30000 ∧ fs.length ≤ 40 ∧ ∀ e ∈ es2, e.f2.length ≤ 1000 from ⟨by rw [hl2]; exact HE.out.1, HE.out.2.1, hs2⟩); have S2 := Aside0.mk S1; clear S S1 hl2 hs2
    simp only [putIf, ↓reduceIte, Act.put, List.setIfInBounds_toArray, List.set_cons_succ, List.set_cons_zero]
    go_wp2_with fail
    go_meet
    case rel => exact ⟨s, _, es2, _, fs, HS, HE2, S2⟩
   by_cases c1 : m = 1
   case pos =>
    have e0 := beq_eq_false_iff_ne.2 c0; have e1 := beq_iff_eq.2 c1; clear c0 c1
    go_wp2_with fail
    refine mask_ (n := 8) (fun l v W => (l 0 = true → v 0 = .pointer (some ⟨g3, 1, none⟩)) ∧ (l 1 = true → v 1 = .slice (some ⟨ge, 0, none⟩) es.length ce) ∧ (l 2 = true → v 2 = .int .i64 (j : Int)) ∧ (l 3 = true → v 3 = .pointer (some ⟨g, 0, none⟩)) ∧ (l 5 = true → v 5 = .pointer (some ⟨ge, j * 3, none⟩)) ∧ (l 6 = true → v 6 = .pointer (some ⟨ge, j * 3 + 2, none⟩)) ∧ (bif l 7 then (∃ es2 : List S85, (es2.length = es.length ∧ ∀ e ∈ es2, e.f2.length ≤ 1000) ∧ Hp base w0 W (fB base g3 #[.int .i64 s, (.slice (some ⟨ge, 0, none⟩) es.length ce), (.slice Af fs.length cf_)] 36 :: fR k85 85 base (.slice (some ⟨ge, 0, none⟩) es.length ce) es2 :: fR k156 156 base (.slice Af fs.length cf_) fs :: fB base g2 #[.int .i64 0, .slice none 0 0, .slice none 0 0] 36 :: L)) else (bif l 4 then (∃ zs : List S160, zs.length ≤ 257 ∧ Hp base w0 W (fR k160 160 base (v 4) zs :: fB base g3 #[.int .i64 s, (.slice (some ⟨ge, 0, none⟩) es.length ce), (.slice Af fs.length cf_)] 36 :: fR k85 85 base (.slice (some ⟨ge, 0, none⟩) es.length ce) es :: fR k156 156 base (.slice Af fs.length cf_) fs :: fB base g2 #[.int .i64 0, .slice none 0 0, .slice none 0 0] 36 :: L)) else Hp base w0 W (fB base g3 #[.int .i64 s, (.slice (some ⟨ge, 0, none⟩) es.length ce), (.slice Af fs.length cf_)] 36 :: fR k85 85 base (.slice (some ⟨ge, 0, none⟩) es.length ce) es :: fR k156 156 base (.slice Af fs.length cf_) fs :: fB base g2 #[.int .i64 0, .slice none 0 0, .slice none 0 0] 36 :: L)))) [[], [0], [], [], [3], [1, 2, 0, 1, 2, 3, 4], [5, 0, 1, 2, 3, 4], [6, 4, 4, 0, 1, 2, 3, 4]] [some 36, some 37, some 38, some 39, some 40, some 41, some 42, none] 77 (by kernel_rfl) spec_l1Rd_nfa.need9 spec_l1Rd_nfa.dst9 (by decide) rfl ⟨fun h => absurd h (by decide), fun h => absurd h (by decide), fun h => absurd h (by decide), fun h => absurd h (by decide), fun h => absurd h (by decide), fun h => absurd h (by decide), ?_⟩ ⟨?_, ?_, ?_, ?_, ?_, ?_, ?_, ?_, trivial⟩ (fun v W hJ => ?_)
    ·exact S.out.drew
    ·rintro l v W zb HZ hsz ⟨p0, p1, p2, p3, p5, p6, S⟩ hi hn hc K hK
     have e3 := oth_ (N := 3) (x := .pointer (some ⟨g3, 0, none⟩)) HZ rfl rfl
     refine yields_ (N := some 36) (x := .pointer (some ⟨g3, 1, none⟩)) rfl rfl ?_ (hK.out _ _ ⟨fun _ => rfl, p1, p2, p3, p5, p6, S⟩)
     clear hK HZ hn hc p0 p1 p2 p3 p5 p6; (try simp only [Array.getD_eq_getD_getElem?] at *); go_simp; try with_reducible rfl
    ·rintro l v W zb HZ hsz ⟨p0, p1, p2, p3, p5, p6, S⟩ hi hn hc K hK
     have e36 := at1 HZ hsz (hn 0 (by decide)) p0 rfl rfl (by decide); have S0 := S
     rw [show l 7 = false from hc 7 1 (by decide) hi] at S
     simp only [cond_true, cond_false] at S
     have z : W.cell? ⟨g3, 1, none⟩ = some (.slice (some ⟨ge, 0, none⟩) es.length ce) := by
      cases q_ : l 4 with
      | false => rw [q_] at S; exact S.cell 0 1 rfl rfl
      | true => rw [q_] at S; obtain ⟨_, _, S⟩ := S; exact S.cell 1 1 rfl rfl
     refine yields_ (N := some 37) (x := .slice (some ⟨ge, 0, none⟩) es.length ce) rfl rfl ?_ (hK.out _ _ ⟨p0, fun _ => rfl, p2, p3, p5, p6, S0⟩)
     clear hK HZ hn hc p0 p1 p2 p3 p5 p6; (try simp only [Array.getD_eq_getD_getElem?] at *); go_simp; try with_reducible rfl
    ·rintro l v W zb HZ hsz ⟨p0, p1, p2, p3, p5, p6, S⟩ hi hn hc K hK
     have e5 := oth_ (N := 5) (x := .int .i64 (j : Int)) HZ rfl rfl
     refine yields_ (N := some 38) (x := .int .i64 (j : Int)) rfl rfl ?_ (hK.out _ _ ⟨p0, p1, fun _ => rfl, p3, p5, p6, S⟩)
     clear hK HZ hn hc p0 p1 p2 p3 p5 p6; (try simp only [Array.getD_eq_getD_getElem?] at *); go_simp; try with_reducible rfl
    ·rintro l v W zb HZ hsz ⟨p0, p1, p2, p3, p5, p6, S⟩ hi hn hc K hK
     have e0 := oth_ (N := 0) (x := .pointer (some ⟨g, 0, none⟩)) HZ rfl rfl
     refine yields_ (N := some 39) (x := .pointer (some ⟨g, 0, none⟩)) rfl rfl ?_ (hK.out _ _ ⟨p0, p1, p2, fun _ => rfl, p5, p6, S⟩)
     clear hK HZ hn hc p0 p1 p2 p3 p5 p6; (try simp only [Array.getD_eq_getD_getElem?] at *); go_simp; try with_reducible rfl
    ·rintro l v W zb HZ hsz ⟨p0, p1, p2, p3, p5, p6, S⟩ hi hn hc K hK
     have e39 := at1 HZ hsz (hn 3 (by decide)) p3 rfl rfl (by decide); clear HZ
     rw [show l 7 = false from hc 7 4 (by decide) hi, hi] at S
     simp only [cond_true, cond_false] at S
     refine goes_ Try.func142 (by kernel_rfl) rfl #[.pointer (some ⟨g, 0, none⟩)] rfl rfl rfl (by simp only [List.map_toArray, List.map_cons, List.map_nil]; show #[zb.tmps.getD 39 undef] = _; simp only [e39]) ?_
     refine (spec_l1Rd_oddClass.calls S (i + 4) g Ab cb bs HB.out (show (_ :: _ :: _ :: _ :: L)[i + 4]? = _ from HI.out)).mono ?_
     rintro e w' ⟨v0, zs, rfl, hz, S1⟩
     refine ⟨_, rfl, hK.out _ _ ⟨p0, p1, p2, p3, p5, p6, ?_⟩⟩
     rw [show upd l 4 7 = false from hc 7 4 (by decide) hi]
     exact ⟨zs, hz, S1⟩
    ·rintro l v W zb HZ hsz ⟨p0, p1, p2, p3, p5, p6, S⟩ hi hn hc K hK
     have e37 := at1 HZ hsz (hn 1 (by decide)) p1 rfl rfl (by decide); have e38 := at1 HZ hsz (hn 2 (by decide)) p2 rfl rfl (by decide); have S0 := S
     rw [show l 7 = false from hc 7 6 (by decide) (hc 6 5 (by decide) hi), show l 4 = true from hn 4 (by decide)] at S
     simp only [cond_true, cond_false] at S
     have hb1 := eq_true HJ.out; have hb2 := eq_true (show (j : Int) < (es.length : Int) by have := HJ.out; omega); have hb3 := eq_true (show (0 : Int) ≤ (j : Int) by omega)
     refine yields_ (N := some 41) (x := .pointer (some ⟨ge, j * 3, none⟩)) rfl rfl ?_ (hK.out _ _ ⟨p0, p1, p2, p3, fun _ => rfl, p6, S0⟩)
     clear hK HZ hn hc p0 p1 p2 p3 p5 p6; (try simp only [Array.getD_eq_getD_getElem?] at *); go_simp; try with_reducible rfl
    ·rintro l v W zb HZ hsz ⟨p0, p1, p2, p3, p5, p6, S⟩ hi hn hc K hK
     have e41 := at1 HZ hsz (hn 5 (by decide)) p5 rfl rfl (by decide)
     refine yields_ (N := some 42) (x := .pointer (some ⟨ge, j * 3 + 2, none⟩)) rfl rfl ?_ (hK.out _ _ ⟨p0, p1, p2, p3, p5, fun _ => rfl, S⟩)
     clear hK HZ hn hc p0 p1 p2 p3 p5 p6; (try simp only [Array.getD_eq_getD_getElem?] at *); go_simp; try with_reducible rfl
    ·rintro l v W zb HZ hsz ⟨p0, p1, p2, p3, p5, p6, S⟩ hi hn hc K hK
     have e40 := at0 HZ hsz (hn 4 (by decide)) rfl rfl (by decide); have e42 := at1 HZ hsz (hn 6 (by decide)) p6 rfl rfl (by decide); clear HZ
     rw [show l 4 = true from hn 4 (by decide), hi] at S
     simp only [cond_true, cond_false] at S
     obtain ⟨zs, hz, S⟩ := S; have hk := hK.out; obtain ⟨Az, cz, qz⟩ := S.slice 0 rfl; obtain ⟨ad, A2, c2, ea, x0, x1, x2, -, -⟩ := at_T85 (S.row 2 rfl).2.2 (j : Int) (by omega) (by have := HJ.out; omega); cases ea
     rw [Int.toNat_natCast, off_add] at x1 x2
     have fz := (S.get 2 rfl).elim (fun ok q => (Kd.R_elem q z85 (j : Int) (by omega) (by have := HJ.out; omega)).elim (fun cs q2 => q2.2.2.2)); have f1 : W.frozen? ⟨ge, j * 3 + 2, none⟩ = false := fz 2; have S1 := Hp.seg S 2 0 (by decide) rfl rfl z85 (j : Int) (by omega) (by have := HJ.out; omega) 2 (v 4) (⟨(es.getD j z85).f0, (es.getD j z85).f1, zs⟩ : S85) (by decide) (fun ok c _ h hG => by obtain ⟨v2, rfl, hv⟩ := k85_openM h; exact k85_mkM _ _ _ _ hG)
     rw [qz] at e40
     refine st_run (w1 := W.setCell ⟨ge, j * 3 + 2, none⟩ (v 4)) rfl rfl (by rw [qz]; simp only [Array.getD_eq_getD_getElem?] at *; go_simp; try rfl) ?_
     refine hk undef _ ⟨p0, p1, p2, p3, p5, p6, ⟨es.set j (⟨(es.getD j z85).f0, (es.getD j z85).f1, zs⟩ : S85), ⟨by rw [List.length_set], set_sets HE.out.2.2 (show zs.length ≤ 1000 by omega)⟩, S1.tail⟩⟩
    obtain ⟨-, -, -, -, -, -, S⟩ := hJ; obtain ⟨es2, ⟨hl2, hs2⟩, S1⟩ := (show ∃ es2 : List S85, (es2.length = es.length ∧ ∀ e ∈ es2, e.f2.length ≤ 1000) ∧ Hp base w0 W (fB base g3 #[.int .i64 s, (.slice (some ⟨ge, 0, none⟩) es.length ce), (.slice Af fs.length cf_)] 36 :: fR k85 85 base (.slice (some ⟨ge, 0, none⟩) es.length ce) es2 :: fR k156 156 base (.slice Af fs.length cf_) fs :: fB base g2 #[.int .i64 0, .slice none 0 0, .slice none 0 0] 36 :: L) from S); have HE2 := Aside0.mk (show es2.length ≤ 30000 ∧ fs.length ≤ 40 ∧ ∀ e ∈ es2, e.f2.length ≤ 1000 from ⟨by rw [hl2]; exact HE.out.1, HE.out.2.1, hs2⟩); have S2 := Aside0.mk S1; clear S S1 hl2 hs2
    simp only [putIf, ↓reduceIte, Act.put, List.setIfInBounds_toArray, List.set_cons_succ, List.set_cons_zero]
    go_wp2_with fail
    go_meet
    case rel => exact ⟨s, _, es2, _, fs, HS, HE2, S2⟩
   by_cases c2 : m = 2
   case pos =>
    have e0 := beq_eq_false_iff_ne.2 c0; have e1 := beq_eq_false_iff_ne.2 c1; have e2 := beq_iff_eq.2 c2; clear c0 c1 c2; have HFP := Aside0.mk (show 0 < fs.length by have := HS0.out; omega); obtain ⟨gf, cf0, eg⟩ := S.out.form 2 rfl HFP.out; cases eg
    go_wp2_with fail
    refine mask_ (n := 7) (fun l v W => (l 0 = true → v 0 = .pointer (some ⟨g3, 2, none⟩)) ∧ (l 1 = true → v 1 = .slice (some ⟨gf, 0, none⟩) fs.length cf_) ∧ (l 2 = true → v 2 = .pointer (some ⟨g, 0, none⟩)) ∧ (l 3 = true → ∃ x : Int, v 3 = .int .i64 x) ∧ (l 4 = true → v 4 = .pointer (some ⟨gf, 0, none⟩)) ∧ (l 5 = true → v 5 = .pointer (some ⟨gf, 1, none⟩)) ∧ (bif l 6 then (∃ fs2 : List S156, fs2.length = fs.length ∧ Hp base w0 W (fB base g3 #[.int .i64 s, (.slice (some ⟨ge, 0, none⟩) es.length ce), (.slice (some ⟨gf, 0, none⟩) fs.length cf_)] 36 :: fR k85 85 base (.slice (some ⟨ge, 0, none⟩) es.length ce) es :: fR k156 156 base (.slice (some ⟨gf, 0, none⟩) fs.length cf_) fs2 :: fB base g2 #[.int .i64 0, .slice none 0 0, .slice none 0 0] 36 :: L)) else Hp base w0 W (fB base g3 #[.int .i64 s, (.slice (some ⟨ge, 0, none⟩) es.length ce), (.slice (some ⟨gf, 0, none⟩) fs.length cf_)] 36 :: fR k85 85 base (.slice (some ⟨ge, 0, none⟩) es.length ce) es :: fR k156 156 base (.slice (some ⟨gf, 0, none⟩) fs.length cf_) fs :: fB base g2 #[.int .i64 0, .slice none 0 0, .slice none 0 0] 36 :: L))) [[], [0], [], [2], [1, 0, 1, 2, 3], [4, 0, 1, 2, 3], [5, 3, 3, 0, 1, 2, 3]] [some 45, some 46, some 47, some 48, some 49, some 50, none] 77 (by kernel_rfl) spec_l1Rd_nfa.need11 spec_l1Rd_nfa.dst11 (by decide) rfl ⟨fun h => absurd h (by decide), fun h => absurd h (by decide), fun h => absurd h (by decide), fun h => absurd h (by decide), fun h => absurd h (by decide), fun h => absurd h (by decide), ?_⟩ ⟨?_, ?_, ?_, ?_, ?_, ?_, ?_, trivial⟩ (fun v W hJ => ?_)
    ·exact S.out.drew
    ·rintro l v W zb HZ hsz ⟨p0, p1, p2, p3, p4, p5, S⟩ hi hn hc K hK
     have e3 := oth_ (N := 3) (x := .pointer (some ⟨g3, 0, none⟩)) HZ rfl rfl
     refine yields_ (N := some 45) (x := .pointer (some ⟨g3, 2, none⟩)) rfl rfl ?_ (hK.out _ _ ⟨fun _ => rfl, p1, p2, p3, p4, p5, S⟩)
     clear hK HZ hn hc p0 p1 p2 p3 p4 p5; (try simp only [Array.getD_eq_getD_getElem?] at *); go_simp; try with_reducible rfl
    ·rintro l v W zb HZ hsz ⟨p0, p1, p2, p3, p4, p5, S⟩ hi hn hc K hK
     have e45 := at1 HZ hsz (hn 0 (by decide)) p0 rfl rfl (by decide); have S0 := S
     rw [show l 6 = false from hc 6 1 (by decide) hi] at S
     simp only [cond_true, cond_false] at S
     have z := S.cell 0 2 rfl rfl
     refine yields_ (N := some 46) (x := .slice (some ⟨gf, 0, none⟩) fs.length cf_) rfl rfl ?_ (hK.out _ _ ⟨p0, fun _ => rfl, p2, p3, p4, p5, S0⟩)
     clear hK HZ hn hc p0 p1 p2 p3 p4 p5; (try simp only [Array.getD_eq_getD_getElem?] at *); go_simp; try with_reducible rfl
    ·rintro l v W zb HZ hsz ⟨p0, p1, p2, p3, p4, p5, S⟩ hi hn hc K hK
     have e0 := oth_ (N := 0) (x := .pointer (some ⟨g, 0, none⟩)) HZ rfl rfl
     refine yields_ (N := some 47) (x := .pointer (some ⟨g, 0, none⟩)) rfl rfl ?_ (hK.out _ _ ⟨p0, p1, fun _ => rfl, p3, p4, p5, S⟩)
     clear hK HZ hn hc p0 p1 p2 p3 p4 p5; (try simp only [Array.getD_eq_getD_getElem?] at *); go_simp; try with_reducible rfl
    ·rintro l v W zb HZ hsz ⟨p0, p1, p2, p3, p4, p5, S⟩ hi hn hc K hK
     have e47 := at1 HZ hsz (hn 2 (by decide)) p2 rfl rfl (by decide); clear HZ
     rw [show l 6 = false from hc 6 3 (by decide) hi] at S
     simp only [cond_true, cond_false] at S
     refine goes_ Try.func112 (by kernel_rfl) rfl #[.pointer (some ⟨g, 0, none⟩), .int .i64 0, .int .i64 1] rfl rfl rfl (by simp only [List.map_toArray, List.map_cons, List.map_nil]; show #[zb.tmps.getD 47 undef, _, _] = _; simp only [e47]; rfl) ?_
     refine (spec_l1Rd_off.calls S (i + 4) g Ab cb bs HB.out (show (_ :: _ :: _ :: _ :: L)[i + 4]? = _ from HI.out) 0 1 (by omega) ⟨by omega, by omega⟩ ⟨by omega, by omega⟩).mono ?_
     rintro e w' ⟨x, rfl, hx, S1⟩
     refine ⟨_, rfl, hK.out _ _ ⟨p0, p1, p2, fun _ => ⟨x, rfl⟩, p4, p5, ?_⟩⟩
     rw [show upd l 3 6 = false from hc 6 3 (by decide) hi]
     exact S1
    ·rintro l v W zb HZ hsz ⟨p0, p1, p2, p3, p4, p5, S⟩ hi hn hc K hK
     have e46 := at1 HZ hsz (hn 1 (by decide)) p1 rfl rfl (by decide); have S0 := S
     rw [show l 6 = false from hc 6 5 (by decide) (hc 5 4 (by decide) hi)] at S
     simp only [cond_true, cond_false] at S
     have hb1 := eq_true HFP.out; have hb2 := eq_true (show (0 : Int) < (fs.length : Int) by have := HFP.out; omega); have hb3 := eq_false (show ¬ fs = [] from fun q => by have := HFP.out; rw [q] at this; cases this)
     refine yields_ (N := some 49) (x := .pointer (some ⟨gf, 0, none⟩)) rfl rfl ?_ (hK.out _ _ ⟨p0, p1, p2, p3, fun _ => rfl, p5, S0⟩)
     clear hK HZ hn hc p0 p1 p2 p3 p4 p5; (try simp only [Array.getD_eq_getD_getElem?] at *); go_simp; try with_reducible rfl
    ·rintro l v W zb HZ hsz ⟨p0, p1, p2, p3, p4, p5, S⟩ hi hn hc K hK
     have e49 := at1 HZ hsz (hn 4 (by decide)) p4 rfl rfl (by decide)
     refine yields_ (N := some 50) (x := .pointer (some ⟨gf, 1, none⟩)) rfl rfl ?_ (hK.out _ _ ⟨p0, p1, p2, p3, p4, fun _ => rfl, S⟩)
     clear hK HZ hn hc p0 p1 p2 p3 p4 p5; (try simp only [Array.getD_eq_getD_getElem?] at *); go_simp; try with_reducible rfl
    ·rintro l v W zb HZ hsz ⟨p0, p1, p2, p3, p4, p5, S⟩ hi hn hc K hK
     have e48 := at0 HZ hsz (hn 3 (by decide)) rfl rfl (by decide); obtain ⟨x3, q3⟩ := p3 (hn 3 (by decide))
     rw [q3] at e48
     have e50 := at1 HZ hsz (hn 5 (by decide)) p5 rfl rfl (by decide); clear HZ
     rw [hi] at S
     simp only [cond_true, cond_false] at S
     have hk := hK.out; obtain ⟨ad, ea, x0, x1⟩ := at_T156 (S.row 2 rfl).2.2 (0 : Int) (by omega) (by have := HFP.out; omega); cases ea; replace x1 : W.cell? ⟨gf, 1, none⟩ = _ := x1; have fz := (S.get 2 rfl).elim (fun ok q => (Kd.R_elem q z156 (0 : Int) (by omega) (by have := HFP.out; omega)).elim (fun cs q2 => q2.2.2.2)); have f1 : W.frozen? ⟨gf, 1, none⟩ = false := fz 1; have S1 := Hp.seg S.blank 3 0 (by decide) rfl rfl z156 (0 : Int) (by omega) (by have := HFP.out; omega) 1 (.int .i64 x3) (⟨(fs.getD 0 z156).f0, x3⟩ : S156) (by decide) (fun ok c _ h _ => by obtain rfl := k156_openM h; exact k156_mkM _ _ _ _)
     refine st_run (w1 := W.setCell ⟨gf, 1, none⟩ (.int .i64 x3)) rfl rfl (by simp only [Array.getD_eq_getD_getElem?] at *; go_simp; try rfl) ?_
     refine hk undef _ ⟨p0, p1, p2, p3, p4, p5, ⟨fs.set 0 (⟨(fs.getD 0 z156).f0, x3⟩ : S156), by rw [List.length_set], S1.tail⟩⟩
    obtain ⟨-, -, -, -, -, -, S⟩ := hJ; obtain ⟨fs2, hl2, S1⟩ := (show ∃ fs2 : List S156, fs2.length = fs.length ∧ Hp base w0 W (fB base g3 #[.int .i64 s, (.slice (some ⟨ge, 0, none⟩) es.length ce), (.slice (some ⟨gf, 0, none⟩) fs.length cf_)] 36 :: fR k85 85 base (.slice (some ⟨ge, 0, none⟩) es.length ce) es :: fR k156 156 base (.slice (some ⟨gf, 0, none⟩) fs.length cf_) fs2 :: fB base g2 #[.int .i64 0, .slice none 0 0, .slice none 0 0] 36 :: L) from S); have HE2 := Aside0.mk (show es.length ≤ 30000 ∧ fs2.length ≤ 40 ∧ ∀ e ∈ es, e.f2.length ≤ 1000 from ⟨HE.out.1, by rw [hl2]; exact HE.out.2.1, HE.out.2.2⟩); have S2 := Aside0.mk S1; clear S S1 hl2
    simp only [putIf, ↓reduceIte, Act.put, List.setIfInBounds_toArray, List.set_cons_succ, List.set_cons_zero]
    go_wp2_with fail
    go_meet
    case rel => exact ⟨s, _, es, _, fs2, HS, HE2, S2⟩
   by_cases c3 : m = 3
   case pos =>
    have e0 := beq_eq_false_iff_ne.2 c0; have e1 := beq_eq_false_iff_ne.2 c1; have e2 := beq_eq_false_iff_ne.2 c2; have e3 := beq_iff_eq.2 c3; clear c0 c1 c2 c3; have z0 := S.out.cell 0 0 rfl rfl
    go_wp2_with fail
    refine (spec_l1Rd_off.calls S.out (i + 4) g Ab cb bs HB.out (show (_ :: _ :: _ :: _ :: L)[i + 4]? = _ from HI.out) 1 s (by omega) ⟨by omega, by omega⟩ HS.out).mono ?_
    rintro e w_ ⟨s2, rfl, hs2, S1⟩
    have HS2 := Aside0.mk hs2; replace S := Aside0.mk S1; clear S1 hs2 z0; have z0 := S.out.cell 0 0 rfl rfl; have f0 := S.out.frozen 0 0 rfl
    go_wp2_with (first | ((with_reducible refine gate_store (t := 2) (p := 57) rfl ?_); refine ev_run (w1 := ((_ : World)).setCell ⟨g3, 0, none⟩ (.int .i64 s2)) rfl rfl (by first | (go_simp; done) | (go_simp; rfl)) (fun w_ hw => ?_); have S1 := Aside0.mk ((S.out).put 0 0 (u := .int .i64 s2) rfl rfl); rw [← hw] at S1; clear hw; clear S; have S := S1; clear S1; clear z0 f0))
    go_meet
    case rel => exact ⟨s2, _, es, _, fs, HS2, HE, S⟩
   by_cases c4 : m = 4
   case pos =>
    have e0 := beq_eq_false_iff_ne.2 c0; have e1 := beq_eq_false_iff_ne.2 c1; have e2 := beq_eq_false_iff_ne.2 c2; have e3 := beq_eq_false_iff_ne.2 c3; have e4 := beq_iff_eq.2 c4; clear c0 c1 c2 c3 c4
    go_wp2_with fail
    refine mask_ (n := 17) (fun l v W => (l 0 = true → v 0 = .pointer (some ⟨g3, 1, none⟩)) ∧ (l 1 = true → v 1 = .slice (some ⟨ge, 0, none⟩) es.length ce) ∧ (l 2 = true → v 2 = .pointer (some ⟨g, 0, none⟩)) ∧ (l 3 = true → v 3 = .pointer (some ⟨g3, 0, none⟩)) ∧ (l 4 = true → v 4 = .int .i64 s) ∧ (l 5 = true → v 5 = .int .i64 (s - 1)) ∧ (l 6 = true → ∃ x : Int, v 6 = .int .i64 x) ∧ (l 7 = true → v 7 = .pointer (some ⟨g, 0, none⟩)) ∧ (l 8 = true → v 8 = .pointer (some ⟨g3, 0, none⟩)) ∧ (l 9 = true → v 9 = .int .i64 s) ∧ (l 10 = true → v 10 = .int .i64 (s - 1)) ∧ (l 11 = true → ∃ x : Int, v 11 = .int .i64 x) ∧ (l 12 = true → ∃ x y : Int, v 12 = .agg #[.int .i64 x, .int .i64 y, .slice none 0 0]) ∧ (l 15 = true → v 15 = .pointer (some ⟨g3, 1, none⟩)) ∧ (bif l 16 then (∃ es2 : List S85, (es2.length = es.length + 1 ∧ ∀ e ∈ es2, e.f2.length ≤ 1000) ∧ Hp base w0 W (fB base g3 #[.int .i64 s, (v 14), (.slice Af fs.length cf_)] 36 :: fR k85 85 base (v 14) es2 :: fR k156 156 base (.slice Af fs.length cf_) fs :: fB base g2 #[.int .i64 0, .slice none 0 0, .slice none 0 0] 36 :: L)) else (bif l 14 then (∃ es2 : List S85, (es2.length = es.length + 1 ∧ ∀ e ∈ es2, e.f2.length ≤ 1000) ∧ Hp base w0 W (fB base g3 #[.int .i64 s, (.slice (some ⟨ge, 0, none⟩) es.length ce), (.slice Af fs.length cf_)] 36 :: fR k85 85 base (v 14) es2 :: fR k156 156 base (.slice Af fs.length cf_) fs :: fB base g2 #[.int .i64 0, .slice none 0 0, .slice none 0 0] 36 :: L)) else (bif l 13 then (∃ x : S85, x.f2 = [] ∧ Hp base w0 W (fR k85 85 base (v 13) [x] :: fB base g3 #[.int .i64 s, (.slice (some ⟨ge, 0, none⟩) es.length ce), (.slice Af fs.length cf_)] 36 :: fR k85 85 base (.slice (some ⟨ge, 0, none⟩) es.length ce) es :: fR k156 156 base (.slice Af fs.length cf_) fs :: fB base g2 #[.int .i64 0, .slice none 0 0, .slice none 0 0] 36 :: L)) else Hp base w0 W (fB base g3 #[.int .i64 s, (.slice (some ⟨ge, 0, none⟩) es.length ce), (.slice Af fs.length cf_)] 36 :: fR k85 85 base (.slice (some ⟨ge, 0, none⟩) es.length ce) es :: fR k156 156 base (.slice Af fs.length cf_) fs :: fB base g2 #[.int .i64 0, .slice none 0 0, .slice none 0 0] 36 :: L))))) [[], [0], [], [], [3], [4], [2, 5], [], [], [8], [9], [7, 10, 6], [6, 11], [12], [1, 13, 11], [0, 1, 2, 3, 4, 5, 6, 7, 8, 9, 10, 11, 12, 13, 14], [15, 14, 14, 0, 1, 2, 3, 4, 5, 6, 7, 8, 9, 10, 11, 12, 13, 14]] [some 60, some 61, some 62, some 63, some 64, some 65, some 66, some 67, some 68, some 69, some 70, some 71, some 72, some 73, some 74, some 75, none] 77 (by kernel_rfl) spec_l1Rd_nfa.need15 spec_l1Rd_nfa.dst15 (by decide) rfl ⟨fun h => absurd h (by decide), fun h => absurd h (by decide), fun h => absurd h (by decide), fun h => absurd h (by decide), fun h => absurd h (by decide), fun h => absurd h (by decide), fun h => absurd h (by decide), fun h => absurd h (by decide), fun h => absurd h (by decide), fun h => absurd h (by decide), fun h => absurd h (by decide), fun h => absurd h (by decide), fun h => absurd h (by decide), fun h => absurd h (by decide), ?_⟩ ⟨?_, ?_, ?_, ?_, ?_, ?_, ?_, ?_, ?_, ?_, ?_, ?_, ?_, ?_, ?_, ?_, ?_, trivial⟩ (fun v W hJ => ?_)
    ·exact S.out.drew
    ·rintro l v W zb HZ hsz ⟨p0, p1, p2, p3, p4, p5, p6, p7, p8, p9, p10, p11, p12, p15, S⟩ hi hn hc K hK
     have e3 := oth_ (N := 3) (x := .pointer (some ⟨g3, 0, none⟩)) HZ rfl rfl
     refine yields_ (N := some 60) (x := .pointer (some ⟨g3, 1, none⟩)) rfl rfl ?_ (hK.out _ _ ⟨fun _ => rfl, p1, p2, p3, p4, p5, p6, p7, p8, p9, p10, p11, p12, p15, S⟩)
     clear hK HZ hn hc p0 p1 p2 p3 p4 p5 p6 p7 p8 p9 p10 p11 p12 p15; (try simp only [Array.getD_eq_getD_getElem?] at *); go_simp; try with_reducible rfl
    ·rintro l v W zb HZ hsz ⟨p0, p1, p2, p3, p4, p5, p6, p7, p8, p9, p10, p11, p12, p15, S⟩ hi hn hc K hK
     have e60 := at1 HZ hsz (hn 0 (by decide)) p0 rfl rfl (by decide); have S0 := S
     rw [show l 14 = false from hc 14 1 (by decide) hi, show l 16 = false from hc 16 1 (by decide) hi] at S
     simp only [cond_true, cond_false] at S
     have z : W.cell? ⟨g3, 1, none⟩ = some (.slice (some ⟨ge, 0, none⟩) es.length ce) := by
      cases q_ : l 13 with
      | false => rw [q_] at S; exact S.cell 0 1 rfl rfl
      | true => rw [q_] at S; obtain ⟨_, _, S⟩ := S; exact S.cell 1 1 rfl rfl
     refine yields_ (N := some 61) (x := .slice (some ⟨ge, 0, none⟩) es.length ce) rfl rfl ?_ (hK.out _ _ ⟨p0, fun _ => rfl, p2, p3, p4, p5, p6, p7, p8, p9, p10, p11, p12, p15, S0⟩)
     clear hK HZ hn hc p0 p1 p2 p3 p4 p5 p6 p7 p8 p9 p10 p11 p12 p15; (try simp only [Array.getD_eq_getD_getElem?] at *); go_simp; try with_reducible rfl
    ·rintro l v W zb HZ hsz ⟨p0, p1, p2, p3, p4, p5, p6, p7, p8, p9, p10, p11, p12, p15, S⟩ hi hn hc K hK
     have e0 := oth_ (N := 0) (x := .pointer (some ⟨g, 0, none⟩)) HZ rfl rfl
     refine yields_ (N := some 62) (x := .pointer (some ⟨g, 0, none⟩)) rfl rfl ?_ (hK.out _ _ ⟨p0, p1, fun _ => rfl, p3, p4, p5, p6, p7, p8, p9, p10, p11, p12, p15, S⟩)
     clear hK HZ hn hc p0 p1 p2 p3 p4 p5 p6 p7 p8 p9 p10 p11 p12 p15; (try simp only [Array.getD_eq_getD_getElem?] at *); go_simp; try with_reducible rfl
    ·rintro l v W zb HZ hsz ⟨p0, p1, p2, p3, p4, p5, p6, p7, p8, p9, p10, p11, p12, p15, S⟩ hi hn hc K hK
     have e3 := oth_ (N := 3) (x := .pointer (some ⟨g3, 0, none⟩)) HZ rfl rfl
     refine yields_ (N := some 63) (x := .pointer (some ⟨g3, 0, none⟩)) rfl rfl ?_ (hK.out _ _ ⟨p0, p1, p2, fun _ => rfl, p4, p5, p6, p7, p8, p9, p10, p11, p12, p15, S⟩)
     clear hK HZ hn hc p0 p1 p2 p3 p4 p5 p6 p7 p8 p9 p10 p11 p12 p15; (try simp only [Array.getD_eq_getD_getElem?] at *); go_simp; try with_reducible rfl
    ·rintro l v W zb HZ hsz ⟨p0, p1, p2, p3, p4, p5, p6, p7, p8, p9, p10, p11, p12, p15, S⟩ hi hn hc K hK
     have e63 := at1 HZ hsz (hn 3 (by decide)) p3 rfl rfl (by decide); have S0 := S
     rw [show l 13 = false from hc 13 12 (by decide) (hc 12 6 (by decide) (hc 6 5 (by decide) (hc 5 4 (by decide) hi))), show l 14 = false from hc 14 13 (by decide) (hc 13 12 (by decide) (hc 12 6 (by decide) (hc 6 5 (by decide) (hc 5 4 (by decide) hi)))), show l 16 = false from hc 16 4 (by decide) hi] at S
     simp only [cond_true, cond_false] at S
     have z := S.cell 0 0 rfl rfl
     refine yields_ (N := some 64) (x := .int .i64 s) rfl rfl ?_ (hK.out _ _ ⟨p0, p1, p2, p3, fun _ => rfl, p5, p6, p7, p8, p9, p10, p11, p12, p15, S0⟩)
     clear hK HZ hn hc p0 p1 p2 p3 p4 p5 p6 p7 p8 p9 p10 p11 p12 p15; (try simp only [Array.getD_eq_getD_getElem?] at *); go_simp; try with_reducible rfl
    ·rintro l v W zb HZ hsz ⟨p0, p1, p2, p3, p4, p5, p6, p7, p8, p9, p10, p11, p12, p15, S⟩ hi hn hc K hK
     have e64 := at1 HZ hsz (hn 4 (by decide)) p4 rfl rfl (by decide); have S0 := S
     rw [show l 13 = false from hc 13 12 (by decide) (hc 12 6 (by decide) (hc 6 5 (by decide) hi)), show l 14 = false from hc 14 13 (by decide) (hc 13 12 (by decide) (hc 12 6 (by decide) (hc 6 5 (by decide) hi))), show l 16 = false from hc 16 5 (by decide) hi] at S
     simp only [cond_true, cond_false] at S
     have WL := WS1.out
     refine yields_ (N := some 65) (x := .int .i64 (s - 1)) rfl rfl ?_ (hK.out _ _ ⟨p0, p1, p2, p3, p4, fun _ => rfl, p6, p7, p8, p9, p10, p11, p12, p15, S0⟩)
     clear hK HZ hn hc p0 p1 p2 p3 p4 p5 p6 p7 p8 p9 p10 p11 p12 p15; (try simp only [Array.getD_eq_getD_getElem?] at *); go_simp; rw [i64_w, WL]
    ·rintro l v W zb HZ hsz ⟨p0, p1, p2, p3, p4, p5, p6, p7, p8, p9, p10, p11, p12, p15, S⟩ hi hn hc K hK
     have e62 := at1 HZ hsz (hn 2 (by decide)) p2 rfl rfl (by decide); have e65 := at1 HZ hsz (hn 5 (by decide)) p5 rfl rfl (by decide); clear HZ
     rw [show l 13 = false from hc 13 12 (by decide) (hc 12 6 (by decide) hi), show l 14 = false from hc 14 13 (by decide) (hc 13 12 (by decide) (hc 12 6 (by decide) hi)), show l 16 = false from hc 16 6 (by decide) hi] at S
     simp only [cond_true, cond_false] at S
     refine goes_ Try.func86 (by kernel_rfl) rfl #[.pointer (some ⟨g, 0, none⟩), .int .i64 0, .int .i64 (s - 1)] rfl rfl rfl (by simp only [List.map_toArray, List.map_cons, List.map_nil]; show #[zb.tmps.getD 62 undef, _, zb.tmps.getD 65 undef] = _; simp only [e62, e65]; rfl) ?_
     refine (spec_l1Rd_near.calls S (i + 4) g Ab cb bs HB.out (show (_ :: _ :: _ :: _ :: L)[i + 4]? = _ from HI.out) 0 (s - 1) (by omega) ⟨by omega, by omega⟩ ⟨by have := HS0.out; omega, by have := HS0.out; omega⟩).mono ?_
     rintro e w' ⟨x, rfl, hx, S1⟩
     refine ⟨_, rfl, hK.out _ _ ⟨p0, p1, p2, p3, p4, p5, fun _ => ⟨x, rfl⟩, p7, p8, p9, p10, p11, p12, p15, ?_⟩⟩
     rw [show upd l 6 13 = false from hc 13 12 (by decide) (hc 12 6 (by decide) hi), show upd l 6 14 = false from hc 14 13 (by decide) (hc 13 12 (by decide) (hc 12 6 (by decide) hi)), show upd l 6 16 = false from hc 16 6 (by decide) hi]
     exact S1
    ·rintro l v W zb HZ hsz ⟨p0, p1, p2, p3, p4, p5, p6, p7, p8, p9, p10, p11, p12, p15, S⟩ hi hn hc K hK
     have e0 := oth_ (N := 0) (x := .pointer (some ⟨g, 0, none⟩)) HZ rfl rfl
     refine yields_ (N := some 67) (x := .pointer (some ⟨g, 0, none⟩)) rfl rfl ?_ (hK.out _ _ ⟨p0, p1, p2, p3, p4, p5, p6, fun _ => rfl, p8, p9, p10, p11, p12, p15, S⟩)
     clear hK HZ hn hc p0 p1 p2 p3 p4 p5 p6 p7 p8 p9 p10 p11 p12 p15; (try simp only [Array.getD_eq_getD_getElem?] at *); go_simp; try with_reducible rfl
    ·rintro l v W zb HZ hsz ⟨p0, p1, p2, p3, p4, p5, p6, p7, p8, p9, p10, p11, p12, p15, S⟩ hi hn hc K hK
     have e3 := oth_ (N := 3) (x := .pointer (some ⟨g3, 0, none⟩)) HZ rfl rfl
     refine yields_ (N := some 68) (x := .pointer (some ⟨g3, 0, none⟩)) rfl rfl ?_ (hK.out _ _ ⟨p0, p1, p2, p3, p4, p5, p6, p7, fun _ => rfl, p9, p10, p11, p12, p15, S⟩)
     clear hK HZ hn hc p0 p1 p2 p3 p4 p5 p6 p7 p8 p9 p10 p11 p12 p15; (try simp only [Array.getD_eq_getD_getElem?] at *); go_simp; try with_reducible rfl
    ·rintro l v W zb HZ hsz ⟨p0, p1, p2, p3, p4, p5, p6, p7, p8, p9, p10, p11, p12, p15, S⟩ hi hn hc K hK
     have e68 := at1 HZ hsz (hn 8 (by decide)) p8 rfl rfl (by decide); have S0 := S
     rw [show l 13 = false from hc 13 12 (by decide) (hc 12 11 (by decide) (hc 11 10 (by decide) (hc 10 9 (by decide) hi))), show l 14 = false from hc 14 13 (by decide) (hc 13 12 (by decide) (hc 12 11 (by decide) (hc 11 10 (by decide) (hc 10 9 (by decide) hi)))), show l 16 = false from hc 16 9 (by decide) hi] at S
     simp only [cond_true, cond_false] at S
     have z := S.cell 0 0 rfl rfl
     refine yields_ (N := some 69) (x := .int .i64 s) rfl rfl ?_ (hK.out _ _ ⟨p0, p1, p2, p3, p4, p5, p6, p7, p8, fun _ => rfl, p10, p11, p12, p15, S0⟩)
     clear hK HZ hn hc p0 p1 p2 p3 p4 p5 p6 p7 p8 p9 p10 p11 p12 p15; (try simp only [Array.getD_eq_getD_getElem?] at *); go_simp; try with_reducible rfl
    ·rintro l v W zb HZ hsz ⟨p0, p1, p2, p3, p4, p5, p6, p7, p8, p9, p10, p11, p12, p15, S⟩ hi hn hc K hK
     have e69 := at1 HZ hsz (hn 9 (by decide)) p9 rfl rfl (by decide); have S0 := S
     rw [show l 13 = false from hc 13 12 (by decide) (hc 12 11 (by decide) (hc 11 10 (by decide) hi)), show l 14 = false from hc 14 13 (by decide) (hc 13 12 (by decide) (hc 12 11 (by decide) (hc 11 10 (by decide) hi))), show l 16 = false from hc 16 10 (by decide) hi] at S
     simp only [cond_true, cond_false] at S
     have WL := WS1.out
     refine yields_ (N := some 70) (x := .int .i64 (s - 1)) rfl rfl ?_ (hK.out _ _ ⟨p0, p1, p2, p3, p4, p5, p6, p7, p8, p9, fun _ => rfl, p11, p12, p15, S0⟩)
     clear hK HZ hn hc p0 p1 p2 p3 p4 p5 p6 p7 p8 p9 p10 p11 p12 p15; (try simp only [Array.getD_eq_getD_getElem?] at *); go_simp; rw [i64_w, WL]
    ·rintro l v W zb HZ hsz ⟨p0, p1, p2, p3, p4, p5, p6, p7, p8, p9, p10, p11, p12, p15, S⟩ hi hn hc K hK
     have e67 := at1 HZ hsz (hn 7 (by decide)) p7 rfl rfl (by decide); have e70 := at1 HZ hsz (hn 10 (by decide)) p10 rfl rfl (by decide); clear HZ
     rw [show l 13 = false from hc 13 12 (by decide) (hc 12 11 (by decide) hi), show l 14 = false from hc 14 11 (by decide) hi, show l 16 = false from hc 16 11 (by decide) hi] at S
     simp only [cond_true, cond_false] at S
     refine goes_ Try.func86 (by kernel_rfl) rfl #[.pointer (some ⟨g, 0, none⟩), .int .i64 0, .int .i64 (s - 1)] rfl rfl rfl (by simp only [List.map_toArray, List.map_cons, List.map_nil]; show #[zb.tmps.getD 67 undef, _, zb.tmps.getD 70 undef] = _; simp only [e67, e70]; rfl) ?_
     refine (spec_l1Rd_near.calls S (i + 4) g Ab cb bs HB.out (show (_ :: _ :: _ :: _ :: L)[i + 4]? = _ from HI.out) 0 (s - 1) (by omega) ⟨by omega, by omega⟩ ⟨by have := HS0.out; omega, by have := HS0.out; omega⟩).mono ?_
     rintro e w' ⟨x, rfl, hx, S1⟩
     refine ⟨_, rfl, hK.out _ _ ⟨p0, p1, p2, p3, p4, p5, p6, p7, p8, p9, p10, fun _ => ⟨x, rfl⟩, p12, p15, ?_⟩⟩
     rw [show upd l 11 13 = false from hc 13 12 (by decide) (hc 12 11 (by decide) hi), show upd l 11 14 = false from hc 14 11 (by decide) hi, show upd l 11 16 = false from hc 16 11 (by decide) hi]
     exact S1
    ·rintro l v W zb HZ hsz ⟨p0, p1, p2, p3, p4, p5, p6, p7, p8, p9, p10, p11, p12, p15, S⟩ hi hn hc K hK
     have e66 := at0 HZ hsz (hn 6 (by decide)) rfl rfl (by decide); obtain ⟨x6, q6⟩ := p6 (hn 6 (by decide))
     rw [q6] at e66
     have e71 := at0 HZ hsz (hn 11 (by decide)) rfl rfl (by decide); obtain ⟨x11, q11⟩ := p11 (hn 11 (by decide))
     rw [q11] at e71
     clear HZ
     refine yields_ (N := some 72) (x := .agg #[.int .i64 x6, .int .i64 x11, .slice none 0 0]) rfl rfl ?_ (hK.out _ _ ⟨p0, p1, p2, p3, p4, p5, p6, p7, p8, p9, p10, p11, fun _ => ⟨x6, x11, rfl⟩, p15, S⟩)
     clear hK hn hc p0 p1 p2 p3 p4 p5 p6 p7 p8 p9 p10 p11 p12 p15; (try simp only [Array.getD_eq_getD_getElem?] at *); go_simp; try with_reducible rfl
    ·rintro l v W zb HZ hsz ⟨p0, p1, p2, p3, p4, p5, p6, p7, p8, p9, p10, p11, p12, p15, S⟩ hi hn hc K hK
     have e72 := at0 HZ hsz (hn 12 (by decide)) rfl rfl (by decide); obtain ⟨xa, ya, q12⟩ := p12 (hn 12 (by decide))
     rw [q12] at e72
     clear HZ
     rw [show l 14 = false from hc 14 13 (by decide) hi, show l 16 = false from hc 16 13 (by decide) hi, hi] at S
     simp only [cond_true, cond_false] at S
     refine st_litG (S.none_ k160 160) 0 rfl (k85) (85) rfl rfl (p := (⟨xa, ya, []⟩ : S85)) (cs := [.int .i64 xa, .int .i64 ya, .slice none 0 0]) rfl (fun ok h => k85_mkM W base ok (⟨xa, ya, []⟩ : S85) h) (by (try simp only [Array.getD_eq_getD_getElem?] at *); first | (go_simp; done) | (go_simp; rfl)) (fun x w1 S1 => hK.out _ _ ⟨p0, p1, p2, p3, p4, p5, p6, p7, p8, p9, p10, p11, p12, p15, ?_⟩)
     rw [show upd l 13 14 = false from hc 14 13 (by decide) hi, show upd l 13 16 = false from hc 16 13 (by decide) hi]
     exact ⟨_, rfl, S1⟩
    ·rintro l v W zb HZ hsz ⟨p0, p1, p2, p3, p4, p5, p6, p7, p8, p9, p10, p11, p12, p15, S⟩ hi hn hc K hK
     have e61 := at1 HZ hsz (hn 1 (by decide)) p1 rfl rfl (by decide); have e73 := at0 HZ hsz (hn 13 (by decide)) rfl rfl (by decide); clear HZ
     rw [show l 16 = false from hc 16 14 (by decide) hi, show l 13 = true from hn 13 (by decide), hi] at S
     simp only [cond_true, cond_false] at S
     obtain ⟨x, hx, S⟩ := S
     refine st_appM S 2 0 (by decide) rfl rfl rfl (.tmp 61) (.tmp 73) (33) (.agg #[.int .i64 0, .int .i64 0, .slice none 0 0]) (40) rfl Try.underlying33 (by kernel_rfl) rfl (by decide) (by omega) e61 e73 (by have := HE.out.1; simp only [List.length_singleton]; omega) (fun y w1 S1 => hK.out _ _ ⟨p0, p1, p2, p3, p4, p5, p6, p7, p8, p9, p10, p11, p12, p15, ?_⟩)
     rw [show upd l 14 16 = false from hc 16 14 (by decide) hi, show upd l 14 13 = true from hn 13 (by decide)]
     exact ⟨es ++ [x], ⟨by rw [List.length_append, List.length_singleton], fun e he => by rcases List.mem_append.1 he with q | q; exact HE.out.2.2 e q; rw [List.mem_singleton.1 q, hx]; simp⟩, S1.tail⟩
    ·rintro l v W zb HZ hsz ⟨p0, p1, p2, p3, p4, p5, p6, p7, p8, p9, p10, p11, p12, p15, S⟩ hi hn hc K hK
     have e3 := oth_ (N := 3) (x := .pointer (some ⟨g3, 0, none⟩)) HZ rfl rfl
     refine yields_ (N := some 75) (x := .pointer (some ⟨g3, 1, none⟩)) rfl rfl ?_ (hK.out _ _ ⟨p0, p1, p2, p3, p4, p5, p6, p7, p8, p9, p10, p11, p12, fun _ => rfl, S⟩)
     clear hK HZ hn hc p0 p1 p2 p3 p4 p5 p6 p7 p8 p9 p10 p11 p12 p15; (try simp only [Array.getD_eq_getD_getElem?] at *); go_simp; try with_reducible rfl
    ·rintro l v W zb HZ hsz ⟨p0, p1, p2, p3, p4, p5, p6, p7, p8, p9, p10, p11, p12, p15, S⟩ hi hn hc K hK
     have e74 := at0 HZ hsz (hn 14 (by decide)) rfl rfl (by decide); have e75 := at1 HZ hsz (hn 15 (by decide)) p15 rfl rfl (by decide); clear HZ
     rw [show l 13 = true from hn 13 (by decide), show l 14 = true from hn 14 (by decide), hi] at S
     simp only [cond_true, cond_false] at S
     obtain ⟨es2, hes2, S⟩ := S; have hk := hK.out; obtain ⟨Az, cz, qz⟩ := S.slice (d := k85) (e := 85) (v := v 14) 1 rfl; have zp := S.cell 0 1 rfl rfl; have fp := S.frozen 0 1 rfl; have S1 := S.put 0 1 (u := v 14) rfl rfl
     rw [qz] at e74
     refine st_run (w1 := W.setCell _ (v 14)) rfl rfl (by rw [qz]; simp only [Array.getD_eq_getD_getElem?] at *; go_simp; try rfl) ?_
     refine hk undef _ ⟨p0, p1, p2, p3, p4, p5, p6, p7, p8, p9, p10, p11, p12, p15, ⟨es2, hes2, S1⟩⟩
    obtain ⟨-, -, -, -, -, -, -, -, -, -, -, -, -, -, S⟩ := hJ; obtain ⟨es2, ⟨hl2, hs2⟩, S1⟩ := (show ∃ es2 : List S85, (es2.length = es.length + 1 ∧ ∀ e ∈ es2, e.f2.length ≤ 1000) ∧ Hp base w0 W (fB base g3 #[.int .i64 s, (v 14), (.slice Af fs.length cf_)] 36 :: fR k85 85 base (v 14) es2 :: fR k156 156 base (.slice Af fs.length cf_) fs :: fB base g2 #[.int .i64 0, .slice none 0 0, .slice none 0 0] 36 :: L) from S); have HE2 := Aside0.mk (show es2.length ≤ 30000 ∧ fs.length ≤ 40 ∧ ∀ e ∈ es2, e.f2.length ≤ 1000 from ⟨by rw [hl2]; have := HE0.out.1; omega, HE.out.2.1, hs2⟩); have S2 := Aside0.mk S1; clear S S1 hl2 hs2
    simp only [putIf, ↓reduceIte, Act.put, List.setIfInBounds_toArray, List.set_cons_succ, List.set_cons_zero]
    go_wp2_with fail
    go_meet
    case rel => exact ⟨s, _, es2, _, fs, HS, HE2, S2⟩
   have e0 := beq_eq_false_iff_ne.2 c0; have e1 := beq_eq_false_iff_ne.2 c1; have e2 := beq_eq_false_iff_ne.2 c2; have e3 := beq_eq_false_iff_ne.2 c3; have e4 := beq_eq_false_iff_ne.2 c4; clear c0 c1 c2 c3 c4
   go_wp2_with fail
   go_meet
   case rel => exact ⟨s, _, es, _, fs, HS, HE, S⟩
  case rest =>
   clear S HS HE HJ; obtain ⟨s, ve, es, vf, fs, HS, HE, S⟩ := hcut; obtain ⟨Ae, ce, rfl⟩ := S.out.slice 1 rfl; obtain ⟨Af, cf_, rfl⟩ := S.out.slice 2 rfl; have z0 := S.out.cell 0 0 rfl rfl; have z1 := S.out.cell 0 1 rfl rfl; have z2 := S.out.cell 0 2 rfl rfl; have y0 := S.out.cell 3 0 rfl rfl; have y1 := S.out.cell 3 1 rfl rfl; have y2 := S.out.cell 3 2 rfl rfl; have f0 := S.out.frozen 3 0 rfl; have f1 := S.out.frozen 3 1 rfl; have f2 := S.out.frozen 3 2 rfl
   go_wp2
   have S1 := Aside0.mk ((((S.out).put 3 0 (u := .int .i64 s) rfl rfl).put 3 1 (u := .slice Ae es.length ce) rfl rfl).put 3 2 (u := .slice Af fs.length cf_) rfl rfl)
   refine bodyPost_ret (results_cell_row rfl _ _ g2 36 #[.int .i64 s, .slice Ae es.length ce, .slice Af fs.length cf_] (0, 0) _ rfl (S1.out.blk 3 rfl) Try.underlying36 rfl (by kernel_rfl)) rfl ?_
   exact ⟨s, _, es, _, fs, rfl, HS.out, HE.out.1, HE.out.2.1, HE.out.2.2, Hp.pick (A := [_, _, _, _]) [1, 2] S1.out (by decide) (by simp)⟩
end

/-! ### spec_l1Open: function 83 -/
section
open Go.Proofs.Ytfajfjgkkgigoaa.Kit
/-- a reader is told, of the bytes that it reads -/
def OPost (base : Nat) (w0 : World) (L : List Fact) (vb : Value) (e : Ending) (w' : World) : Prop := ∃ g : Nat, e = .returned (.pointer (some ⟨g, 0, none⟩)) ∧ Hp base w0 w' (fRd 179 base g vb :: L)
set_option maxHeartbeats 4000000 in
set_option maxRecDepth 100000 in
theorem spec_l1Open.w {base : Nat} {w0 w : World} {L : List Fact} (S : Hp base w0 w L) (Ab : Option Addr) (cb : Nat) (bs : List Int) :
  Calls Try.prog 83 #[.slice Ab bs.length cb] w (OPost base w0 L (.slice Ab bs.length cb)) := by
 replace S := Aside0.mk S
 go_enter Try.func83, Try.ntmps83
 go_wp2_with (first | ((with_reducible refine gate_dst (N := 5) rfl ?_); refine ev_box S rfl rfl (cs := #[.slice Ab bs.length cb, .int .i64 0]) (t := 179) (by first | (go_simp; done) | (go_simp; rfl)) (fun g5 w_ Gg5 S1 => ?_); clear S; have S := S1; clear S1))
 go_ret
 exact ⟨g5, rfl, S.out.imp 0 rfl (fun ok q => ⟨0, by omega, q⟩)⟩
end

/-! ### spec_DrawMoveOn: function 19 -/
section
open Go.Proofs.Ytfajfjgkkgigoaa.Kit
/-- a network, some states and a byte are told -/
def MvPost (base : Nat) (w0 : World) (L : List Fact) (e : Ending) (w' : World) : Prop := ∃ (s : Int) (ve : Value) (es : List S85) (vf : Value) (fs : List S156) (va : Value) (st : List Int) (b : Int), e = .returned (.tuple #[.agg #[.int .i64 s, ve, vf], va, .int .u8 b]) ∧ I64 s ∧ (es.length ≤ 30000 ∧ fs.length ≤ 40 ∧ ∀ e ∈ es, e.f2.length ≤ 1000) ∧ st.length ≤ 6 ∧ (0 ≤ b ∧ b ≤ 255) ∧ Hp base w0 w' (fR k85 85 base ve es :: fR k156 156 base vf fs :: fR (Kd.int .i64) 2 base va st :: L)
theorem spec_DrawMoveOn.need8 : (rtab .any (opsOf Try.f19 8)).2.map Prod.fst = [[], [], [], [2], [3], [0, 3, 0], [1, 5, 0, 1, 5], [4, 6, 0, 1, 2, 3, 4, 5, 6]] := by kernel_rfl
theorem spec_DrawMoveOn.dst8 : (opsOf Try.f19 8).toList.map Oper.dst = [some 29, some 30, some 31, some 32, some 33, none, some 3, some 4] := by kernel_rfl
set_option maxHeartbeats 4000000 in
set_option maxRecDepth 100000 in
theorem spec_DrawMoveOn.w {base : Nat} {w0 w : World} {L : List Fact} (S : Hp base w0 w L) (Ab : Option Addr) (cb : Nat) (bs : List Int) (hB : RdOK base w0 Ab bs) :
  Calls Try.prog 19 #[.slice Ab bs.length cb] w (MvPost base w0 L) := by
 replace S := Aside0.mk S
 have HB := Aside0.mk hB
 clear hB
 go_enter Try.func19, Try.ntmps19
 go_wp2_with (first | ((with_reducible refine gate_dst (N := 2) rfl ?_); refine ev_box S rfl rfl (cs := #[.int .i64 0, .slice none 0 0, .slice none 0 0]) (t := 36) (by first | (go_simp; done) | (go_simp; rfl)) (fun g2 w_ Gg2 S1 => ?_); clear S; have S := S1; clear S1))
 refine (spec_l1Open.w S.out Ab cb bs).mono ?_
 rintro e w_ ⟨g, rfl, S1⟩
 replace S := Aside0.mk S1
 clear S1
 go_wp2_with fail
 refine (spec_l1Rd_nfa.calls S.out 0 g Ab cb bs HB.out rfl).mono ?_
 rintro e w_ ⟨s, ve, es, vf, fs, rfl, hs, he, hf, hc, S1⟩
 obtain ⟨Ae, ce, rfl⟩ := S1.slice 0 rfl
 obtain ⟨Af, cf_, rfl⟩ := S1.slice 1 rfl
 have HS := Aside0.mk hs
 have HE := Aside0.mk (show es.length ≤ 30000 ∧ fs.length ≤ 40 ∧ ∀ e ∈ es, e.f2.length ≤ 1000 from ⟨he, hf, hc⟩)
 replace S := Aside0.mk S1
 clear S1 hs he hf hc
 go_wp2_with (first | ((with_reducible refine gate_dst (N := 6) rfl ?_); refine ev_box S rfl rfl (cs := #[.int .i64 0, .slice none 0 0, .slice none 0 0]) (t := 36) (by first | (go_simp; done) | (go_simp; rfl)) (fun g6 w_ Gg6 S1 => ?_); clear S; have S := S1; clear S1; have z0 := S.out.cell 0 0 rfl rfl; have z1 := S.out.cell 0 1 rfl rfl; have z2 := S.out.cell 0 2 rfl rfl; have f0 := S.out.frozen 0 0 rfl; have f1 := S.out.frozen 0 1 rfl; have f2 := S.out.frozen 0 2 rfl) | ((with_reducible refine gate_store (t := 36) (p := 6) rfl ?_); refine ev_run (w1 := ((((_ : World)).setCell ⟨g6, 0, none⟩ (.int .i64 s)).setCell ⟨g6, 1, none⟩ (.slice Ae es.length ce)).setCell ⟨g6, 2, none⟩ (.slice Af fs.length cf_)) rfl rfl (by first | (go_simp; done) | (go_simp; rfl)) (fun w_ hw => ?_); have S1 := Aside0.mk ((((S.out).put 0 0 (u := .int .i64 s) rfl rfl).put 0 1 (u := .slice Ae es.length ce) rfl rfl).put 0 2 (u := .slice Af fs.length cf_) rfl rfl); rw [← hw] at S1; clear hw; clear S; have S := S1; clear S1; clear z0 z1 z2 f0 f1 f2) | ((with_reducible refine gate_dst (N := 13) rfl ?_); refine ev_lit S (Kd.int .i64) (2) rfl rfl (xs := [0]) (inner := [.int .i64 0]) (by first | (go_simp; done) | (go_simp; rfl)) (Reps.one rfl (Reps.none _ _)) (by simp) (fun v13 w_ S1 => ?_); clear S; have S := S1; clear S1; obtain ⟨A13, c13, rfl⟩ := S.out.slice 0 rfl))
 replace S := Aside0.mk (show Hp base w0 _ (fR (Kd.int .i64) 2 base (.slice A13 ([0] : List Int).length c13) [0] :: fB base g6 #[.int .i64 s, (.slice Ae es.length ce), (.slice Af fs.length cf_)] 36 :: fR k85 85 base (.slice Ae es.length ce) es :: fR k156 156 base (.slice Af fs.length cf_) fs :: fRd 179 base g (.slice Ab bs.length cb) :: fB base g2 #[.int .i64 0, .slice none 0 0, .slice none 0 0] 36 :: L) from S.out)
 refine (spec_l1Rd_below.calls S.out 4 g Ab cb bs HB.out rfl 6 (by omega)).mono ?_
 rintro e w_ ⟨m, rfl, hm, S1⟩
 have HM := Aside0.mk hm
 replace S := Aside0.mk S1
 clear S1 hm
 go_wp2
 go_loopg [7, 8] m.toNat (fun gk v7 v8 wr => ∃ (Aa : Option Addr) (ca : Nat) (st : List Int) (n : Int), v7 = .slice Aa st.length ca ∧ v8 = .int .i64 n ∧ (0 ≤ n ∧ n.toNat = gk) ∧ (st.length : Int) + n = 1 + m ∧ Aside0 (Hp base w0 wr (fR (Kd.int .i64) 2 base (.slice Aa st.length ca) st :: fB base g6 #[.int .i64 s, (.slice Ae es.length ce), (.slice Af fs.length cf_)] 36 :: fR k85 85 base (.slice Ae es.length ce) es :: fR k156 156 base (.slice Af fs.length cf_) fs :: fRd 179 base g (.slice Ab bs.length cb) :: fB base g2 #[.int .i64 0, .slice none 0 0, .slice none 0 0] 36 :: L)))
 case atStart => exact ⟨A13, c13, [0], m, rfl, rfl, ⟨HM.out.1, rfl⟩, by simp, S⟩
 case round =>
  clear S; obtain ⟨Aa, ca, st, n, rfl, rfl, hn, hx, S⟩ := hrel; obtain ⟨gk_, egk⟩ : ∃ q, q = gk := ⟨_, rfl⟩; have HN := Aside0.mk (show ((0 ≤ n ∧ n.toNat = gk_) ∧ (st.length : Int) + n = 1 + m) ∧ gk_ = gk from ⟨⟨by rw [egk]; exact hn, hx⟩, egk⟩); clear egk hx
  by_cases cn : 0 < n
  case neg =>
   have h1 := eq_false cn; have HST := Aside0.mk (show st.length ≤ 6 by have := HN.out; have := HM.out; omega); clear hn cn
   go_wp2_with fail
   refine mask_ (n := 8) (fun l v W => (l 0 = true → v 0 = .agg #[.int .i64 s, .slice Ae es.length ce, .slice Af fs.length cf_]) ∧ (l 1 = true → v 1 = .slice Aa st.length ca) ∧ (l 2 = true → v 2 = .pointer (some ⟨g, 0, none⟩)) ∧ (l 3 = true → ∃ x : Nat, x ≤ 5 ∧ v 3 = .int .i64 (x : Int)) ∧ (l 4 = true → ∃ b : Int, (0 ≤ b ∧ b ≤ 255) ∧ v 4 = .int .u8 b) ∧ (l 6 = true → v 6 = .slice Aa st.length ca) ∧ (l 7 = true → ∃ b : Int, (0 ≤ b ∧ b ≤ 255) ∧ v 7 = .int .u8 b) ∧ Hp base w0 W (fR (Kd.int .i64) 2 base (.slice Aa st.length ca) st :: fB base g6 #[.int .i64 s, (.slice Ae es.length ce), (.slice Af fs.length cf_)] 36 :: fR k85 85 base (.slice Ae es.length ce) es :: fR k156 156 base (.slice Af fs.length cf_) fs :: fRd 179 base g (.slice Ab bs.length cb) :: fB base g2 (bif l 5 then #[.int .i64 s, .slice Ae es.length ce, .slice Af fs.length cf_] else #[.int .i64 0, .slice none 0 0, .slice none 0 0]) 36 :: L)) [[], [], [], [2], [3], [0, 3, 0], [1, 5, 0, 1, 5], [4, 6, 0, 1, 2, 3, 4, 5, 6]] [some 29, some 30, some 31, some 32, some 33, none, some 3, some 4] 34 (by kernel_rfl) spec_DrawMoveOn.need8 spec_DrawMoveOn.dst8 (by decide) rfl ⟨fun h => absurd h (by decide), fun h => absurd h (by decide), fun h => absurd h (by decide), fun h => absurd h (by decide), fun h => absurd h (by decide), fun h => absurd h (by decide), fun h => absurd h (by decide), ?_⟩ ⟨?_, ?_, ?_, ?_, ?_, ?_, ?_, ?_, trivial⟩ (fun v W hJ => ?_)
   ·exact S.out.drew
   ·rintro l v W zb HZ hsz ⟨p0, p1, p2, p3, p4, p6, p7, S⟩ hi hn hc K hK
    have e6 := oth_ (N := 6) (x := .pointer (some ⟨g6, 0, none⟩)) HZ rfl rfl; have S0 := S
    rw [show l 5 = false from hc 5 0 (by decide) hi] at S
    simp only [cond_true, cond_false] at S
    have zz0 := S.cell 1 0 rfl rfl; have zz1 := S.cell 1 1 rfl rfl; have zz2 := S.cell 1 2 rfl rfl
    refine yields_ (N := some 29) (x := .agg #[.int .i64 s, .slice Ae es.length ce, .slice Af fs.length cf_]) rfl rfl ?_ (hK.out _ _ ⟨fun _ => rfl, p1, p2, p3, p4, p6, p7, S0⟩)
    clear hK HZ hn hc p0 p1 p2 p3 p4 p6 p7; (try simp only [Array.getD_eq_getD_getElem?] at *); go_simp; try with_reducible rfl
   ·rintro l v W zb HZ hsz ⟨p0, p1, p2, p3, p4, p6, p7, S⟩ hi hn hc K hK
    have e7 := oth_ (N := 7) (x := .slice Aa st.length ca) HZ rfl rfl
    refine yields_ (N := some 30) (x := .slice Aa st.length ca) rfl rfl ?_ (hK.out _ _ ⟨p0, fun _ => rfl, p2, p3, p4, p6, p7, S⟩)
    clear hK HZ hn hc p0 p1 p2 p3 p4 p6 p7; (try simp only [Array.getD_eq_getD_getElem?] at *); go_simp; try with_reducible rfl
   ·rintro l v W zb HZ hsz ⟨p0, p1, p2, p3, p4, p6, p7, S⟩ hi hn hc K hK
    have e5 := oth_ (N := 5) (x := .pointer (some ⟨g, 0, none⟩)) HZ rfl rfl
    refine yields_ (N := some 31) (x := .pointer (some ⟨g, 0, none⟩)) rfl rfl ?_ (hK.out _ _ ⟨p0, p1, fun _ => rfl, p3, p4, p6, p7, S⟩)
    clear hK HZ hn hc p0 p1 p2 p3 p4 p6 p7; (try simp only [Array.getD_eq_getD_getElem?] at *); go_simp; try with_reducible rfl
   ·rintro l v W zb HZ hsz ⟨p0, p1, p2, p3, p4, p6, p7, S⟩ hi hn hc K hK
    have e31 := at1 HZ hsz (hn 2 (by decide)) p2 rfl rfl (by decide); clear HZ
    rw [show l 5 = false from hc 5 3 (by decide) hi] at S
    simp only [cond_true, cond_false] at S
    refine goes_ Try.func85 (by kernel_rfl) rfl #[.pointer (some ⟨g, 0, none⟩), .int .i64 6] rfl rfl rfl (by simp only [List.map_toArray, List.map_cons, List.map_nil]; show #[zb.tmps.getD 31 undef, _] = _; simp only [e31]; rfl) ?_
    refine (spec_l1Rd_below.calls S 4 g Ab cb bs HB.out rfl 6 (by omega)).mono ?_
    rintro e w' ⟨x, rfl, hx, S1⟩
    obtain ⟨xn, rfl⟩ : ∃ xn : Nat, x = (xn : Int) := ⟨x.toNat, by omega⟩
    refine ⟨_, rfl, hK.out _ _ ⟨p0, p1, p2, fun _ => ⟨xn, by omega, rfl⟩, p4, p6, p7, ?_⟩⟩
    rw [show upd l 3 5 = false from hc 5 3 (by decide) hi]
    exact S1
   ·rintro l v W zb HZ hsz ⟨p0, p1, p2, p3, p4, p6, p7, S⟩ hi hn hc K hK
    have e32 := at0 HZ hsz (hn 3 (by decide)) rfl rfl (by decide); obtain ⟨x3, b3, q3⟩ := p3 (hn 3 (by decide))
    rw [q3] at e32
    clear HZ
    have hb : 0 ≤ ([97, 98, 99, 120, 122, 57] : List Int).getD x3 0 ∧ ([97, 98, 99, 120, 122, 57] : List Int).getD x3 0 ≤ 255 := by rcases (show x3 = 0 ∨ x3 = 1 ∨ x3 = 2 ∨ x3 = 3 ∨ x3 = 4 ∨ x3 = 5 by omega) with e | e | e | e | e | e <;> subst e <;> decide
    refine yields_ (N := some 33) (x := .int .u8 (([97, 98, 99, 120, 122, 57] : List Int).getD x3 0)) rfl rfl ?_ (hK.out _ _ ⟨p0, p1, p2, p3, fun _ => ⟨_, hb, rfl⟩, p6, p7, S⟩)
    clear hK hn hc p0 p1 p2 p3 p4 p6 p7 hb
    rcases (show x3 = 0 ∨ x3 = 1 ∨ x3 = 2 ∨ x3 = 3 ∨ x3 = 4 ∨ x3 = 5 by omega) with e | e | e | e | e | e
    all_goals (subst e; (try simp only [Array.getD_eq_getD_getElem?] at *); go_simp; try rfl)
   ·rintro l v W zb HZ hsz ⟨p0, p1, p2, p3, p4, p6, p7, S⟩ hi hn hc K hK
    have e2 := oth_ (N := 2) (x := .pointer (some ⟨g2, 0, none⟩)) HZ rfl rfl; have e29 := at1 HZ hsz (hn 0 (by decide)) p0 rfl rfl (by decide); clear HZ
    rw [hi] at S
    simp only [cond_true, cond_false] at S
    have hk := hK.out; have zp0 := S.cell 5 0 rfl rfl; have zp1 := S.cell 5 1 rfl rfl; have zp2 := S.cell 5 2 rfl rfl; have fp0 := S.frozen 5 0 rfl; have fp1 := S.frozen 5 1 rfl; have fp2 := S.frozen 5 2 rfl; have S1 := (((S).put 5 0 (u := .int .i64 s) rfl rfl).put 5 1 (u := .slice Ae es.length ce) rfl rfl).put 5 2 (u := .slice Af fs.length cf_) rfl rfl
    refine st_run (w1 := (((W).setCell ⟨g2, 0, none⟩ (.int .i64 s)).setCell ⟨g2, 1, none⟩ (.slice Ae es.length ce)).setCell ⟨g2, 2, none⟩ (.slice Af fs.length cf_)) rfl rfl (by simp only [Array.getD_eq_getD_getElem?] at *; go_simp; try rfl) ?_
    refine hk undef _ ⟨p0, p1, p2, p3, p4, p6, p7, ?_⟩
    exact S1
   ·rintro l v W zb HZ hsz ⟨p0, p1, p2, p3, p4, p6, p7, S⟩ hi hn hc K hK
    have e30 := at1 HZ hsz (hn 1 (by decide)) p1 rfl rfl (by decide)
    refine yields_ (N := some 3) (x := .slice Aa st.length ca) rfl rfl ?_ (hK.out _ _ ⟨p0, p1, p2, p3, p4, fun _ => rfl, p7, S⟩)
    clear hK HZ hn hc p0 p1 p2 p3 p4 p6 p7; (try simp only [Array.getD_eq_getD_getElem?] at *); go_simp; try with_reducible rfl
   ·rintro l v W zb HZ hsz ⟨p0, p1, p2, p3, p4, p6, p7, S⟩ hi hn hc K hK
    have e33 := at0 HZ hsz (hn 4 (by decide)) rfl rfl (by decide); obtain ⟨y4, b4, q4⟩ := p4 (hn 4 (by decide))
    rw [q4] at e33
    clear HZ
    refine yields_ (N := some 4) (x := .int .u8 y4) rfl rfl ?_ (hK.out _ _ ⟨p0, p1, p2, p3, p4, p6, fun _ => ⟨y4, b4, rfl⟩, S⟩)
    clear hK hn hc p0 p1 p2 p3 p4 p6 p7; (try simp only [Array.getD_eq_getD_getElem?] at *); go_simp; try with_reducible rfl
   obtain ⟨-, -, -, -, -, p6, p7, S⟩ := hJ; obtain ⟨b, hb, q7⟩ := p7 rfl; have HBB := Aside0.mk hb; replace S := Aside0.mk (show Hp base w0 W (fR (Kd.int .i64) 2 base (.slice Aa st.length ca) st :: fB base g6 #[.int .i64 s, (.slice Ae es.length ce), (.slice Af fs.length cf_)] 36 :: fR k85 85 base (.slice Ae es.length ce) es :: fR k156 156 base (.slice Af fs.length cf_) fs :: fRd 179 base g (.slice Ab bs.length cb) :: fB base g2 #[.int .i64 s, .slice Ae es.length ce, .slice Af fs.length cf_] 36 :: L) from S)
   simp only [putIf, ↓reduceIte, Act.put, List.setIfInBounds_toArray, List.set_cons_succ, List.set_cons_zero, q7, p6 rfl]
   clear p6 p7 hb
   go_wp2
   refine bodyPost_ret (results_ctt rfl _ _ g2 36 #[.int .i64 s, .slice Ae es.length ce, .slice Af fs.length cf_] (0, 0) _ rfl (S.out.blk 5 rfl) Try.underlying36 rfl (by kernel_rfl)) rfl ?_
   exact ⟨s, _, es, _, fs, _, st, b, rfl, HS.out, HE.out, HST.out, HBB.out, Hp.pick (A := [_, _, _, _, _, _]) [2, 3, 0] S.out (by decide) (by simp)⟩
  have h1 := eq_true cn; have HC := Aside0.mk cn; clear hn cn; have z0 := S.out.cell 1 0 rfl rfl
  go_wp2_with fail
  all_goals
   refine (spec_l1Rd_near.calls S.out 4 g Ab cb bs HB.out rfl 0 _ (by omega) ⟨by omega, by omega⟩ ?hh).mono ?_
   case hh => first | exact ⟨by omega, by omega⟩ | exact wrap_i64 _
   rintro e w_ ⟨x, rfl, -, S1⟩
   replace S := Aside0.mk S1; clear S1 z0
   go_wp2_with (first | ((with_reducible refine gate_dst (N := 27) rfl ?_); refine ev_lit S (Kd.int .i64) (2) rfl rfl (xs := [x]) (inner := [.int .i64 x]) (by first | (go_simp; done) | (go_simp; rfl)) (Reps.one rfl (Reps.none _ _)) (by simp) (fun v27 w_ S1 => ?_); clear S; have S := S1; clear S1; obtain ⟨A27, c27, rfl⟩ := S.out.slice 0 rfl) | ((with_reducible refine gate_dst (N := 28) rfl ?_); refine ev_app S 1 rfl rfl (.tmp 20) (.tmp 27) (27) (.int .i64 0) (8) rfl Try.underlying27 (by kernel_rfl) rfl (by decide) (by omega) rfl rfl (S.out.row 0 rfl).2.2 (fun _ _ h => h) (by have := HN.out; have := HM.out; simp only [List.length_singleton]; omega) (fun v28 w_ S1 => ?_); clear S; have S := Aside0.mk S1.out.tail; clear S1; obtain ⟨A28, c28, rfl⟩ := S.out.slice 0 rfl))
   have WN := Aside0.mk (show wrap64 (n - 1) = n - 1 from w64 (by have := HC.out; omega) (by have := HN.out; have := HM.out; omega))
   go_wp2
   go_roundg (gk_ - 1)
   case measure => have := HN.out; have := HC.out; omega
   case rel => exact ⟨A28, c28, st ++ [x], n - 1, by rw [List.length_append, List.length_singleton], congrArg (Value.int .i64) WN.out, ⟨by have := HC.out; omega, by have := HN.out; have := HC.out; omega⟩, by rw [List.length_append, List.length_singleton]; have := HN.out; omega, S⟩
end

end Go.Proofs.Ytfajfjgkkgigoaa.PFnClosed
