-- Written by this session's own program (wip/pr.py) over the kit's printer; contracts that the printer does not know are given by hand.
import Derived.Test.YtfajfjgkkgigoaaPFnDeadx0
import Derived.Test.YtfajfjgkkgigoaaPFnDeadx8
import Derived.Test.YtfajfjgkkgigoaaPFnDeadx12
import Derived.Test.YtfajfjgkkgigoaaPFnDeadx14
import Derived.Test.YtfajfjgkkgigoaaPFnDeadx15
namespace Go.Proofs.Ytfajfjgkkgigoaa.PFnDead
open Go.RowKit Go.Proofs.YtfajfjgkkgigoaaW.PrintWords Go.Proofs.YtfajfjgkkgigoaaW.PrintLast Go.Proofs.YtfajfjgkkgigoaaW.PrintMore
attribute [local go_sem] max2_int min2_int max_two min_two max_three min_three max_four min_four   -- for this text's walks alone
set_option linter.unusedVariables false
set_option linter.unusedSimpArgs false

/-! ### spec_l1Rd_grow: function 193 -/
section
open Go.Proofs.Ytfajfjgkkgigoaa.Kit
/-- more nodes are told, at most so many -/
def GPost (base : Nat) (w0 : World) (L : List Fact) (n m : Nat) (e : Ending) (w' : World) : Prop := ∃ (v : Value) (ns : List S230), e = .returned v ∧ n < ns.length ∧ ns.length + 1 ≤ n + m ∧ RxB ns ∧ Hp base w0 w' (fR k230 230 base v ns :: L)
theorem rxb_snoc {ns : List S230} {x : S230} (h : RxB ns) (h1 : x.f1.length ≤ 1048576) (h2 : x.f2.length ≤ 1048576) : RxB (ns ++ [x]) := by
 intro i hi
 unfold rd_T230
 rw [Int.toNat_natCast, List.getD_eq_getElem?_getD]
 by_cases c : i < ns.length
 ·have := h i c
  unfold rd_T230 at this
  rw [Int.toNat_natCast, List.getD_eq_getElem?_getD] at this
  rw [List.getElem?_append_left c]
  exact this
 ·rw [List.getElem?_append_right (by omega)]
  rw [List.length_append, List.length_singleton] at hi
  rw [show i - ns.length = 0 by omega]
  exact ⟨h1, h2⟩
theorem spec_l1Rd_grow.need23 : (rtab .any (opsOf Try.f193 23)).2.map Prod.fst = [[], [0], [], [2], [1, 3], [0, 1, 2, 3, 4], [5, 4, 3, 0, 1, 2, 3, 4]] := by kernel_rfl
theorem spec_l1Rd_grow.dst23 : (opsOf Try.f193 23).toList.map Oper.dst = [some 75, some 76, some 77, some 78, some 79, some 80, none] := by kernel_rfl
set_option maxHeartbeats 4000000 in
set_option maxRecDepth 100000 in
theorem spec_l1Rd_grow.calls {base : Nat} {w0 : World} (g : Nat) (Ab : Option Addr) (cb : Nat) (bs : List Int) (hB : RdOK base w0 Ab bs) : ∀ (d : Nat) {w : World} {L : List Fact} (i : Nat) (A : Option Addr) (cn : Nat) (ns : List S230), d ≤ 5 → L[i]? = some (fRd 179 base g (.slice Ab bs.length cb)) → Hp base w0 w (fR k230 230 base (.slice A ns.length cn) ns :: L) → ns.length + 2 * 2 ^ d ≤ 2000 → RxB ns →
  Calls Try.prog 193 #[.pointer (some ⟨g, 0, none⟩), .slice A ns.length cn, .int .i64 (d : Int)] w (GPost base w0 L ns.length (2 * 2 ^ d)) := by
 intro d
 induction d using Nat.strongRecOn with
 | ind d ih =>
  intro w L i A cn ns hd hi S hns hbd; replace S := Aside0.mk S; have HI := Aside0.mk hi; have HD := Aside0.mk hd; have HNS := Aside0.mk hns; have HBD := Aside0.mk hbd; have HB := Aside0.mk hB; have IH := Aside0.mk ih; clear hi hd hns hbd hB ih
  go_enter Try.func193, Try.ntmps193
  go_wp2_with fail
  refine (spec_l1Rd_near.calls S.out (i + 1) g Ab cb bs HB.out (show (_ :: L)[i + 1]? = _ from HI.out) 3 8 (by omega) ⟨by omega, by omega⟩ ⟨by omega, by omega⟩).mono ?_
  rintro e w_ ⟨op0, rfl, -, S1⟩
  replace S := Aside0.mk S1; clear S1
  go_upto_region 2 with fail
  (try simp only [Act.put, List.setIfInBounds_toArray, List.set_cons_zero, List.set_cons_succ])
  go_cut [18] (fun v18 wc => ∃ b : Bool, v18 = .bool b ∧ Aside0 (b = false → 0 < d) ∧ Aside0 (Hp base w0 wc (fR k230 230 base (.slice A ns.length cn) ns :: L)))
  case first =>
   by_cases c0 : d = 0
   ·have h1 := eq_true c0
    have h2 : ((d : Int) == 0) = true := beq_iff_eq.2 (by omega)
    go_wp2_with fail
    go_meet
    case rel => exact ⟨true, rfl, ⟨fun q => absurd q (by decide)⟩, S⟩
   ·have h1 := eq_false c0
    have h2 : ((d : Int) == 0) = false := beq_eq_false_iff_ne.2 (by omega); have HC := Aside0.mk (show 0 < d by omega); clear c0
    go_wp2_with fail
    refine (spec_l1Rd_once.calls S.out (i + 1) g Ab cb bs HB.out (show (_ :: L)[i + 1]? = _ from HI.out) 3 (by omega)).mono ?_
    rintro e w_ ⟨b, rfl, S1⟩
    replace S := Aside0.mk S1; clear S1
    go_wp2_with fail
    go_meet
    case rel => exact ⟨b, rfl, ⟨fun _ => HC.out⟩, S⟩
  case rest =>
   clear S; obtain ⟨b, rfl, HD0, S⟩ := hcut
   go_upto_if 18 with fail
   (try simp only [Act.put, List.setIfInBounds_toArray, List.set_cons_zero, List.set_cons_succ])
   go_cut [7] (fun v7 wc => ∃ op : Int, v7 = .int .i64 op ∧ Aside0 (op ≠ 1 → op ≠ 2 → 0 < d) ∧ Aside0 (Hp base w0 wc (fR k230 230 base (.slice A ns.length cn) ns :: L)))
   case first =>
    cases b with
    | false =>
     go_wp2_with fail
     go_meet
     case rel => exact ⟨op0, rfl, ⟨fun _ _ => HD0.out (by first | rfl | trivial)⟩, S⟩
    | true =>
     go_wp2_with fail
     refine (spec_l1Rd_once.calls S.out (i + 1) g Ab cb bs HB.out (show (_ :: L)[i + 1]? = _ from HI.out) 12 (by omega)).mono ?_
     rintro e w_ ⟨b2, rfl, S1⟩
     replace S := Aside0.mk S1; clear S1
     cases b2 with
     | false =>
      go_wp2_with fail
      go_meet
      case rel => exact ⟨2, rfl, ⟨fun _ q => absurd rfl q⟩, S⟩
     | true =>
      go_wp2_with fail
      go_meet
      case rel => exact ⟨1, rfl, ⟨fun q _ => absurd rfl q⟩, S⟩
   case rest =>
    clear S HD0; obtain ⟨op, rfl, HOP, S⟩ := hcut
    by_cases c2 : op = 2
    ·have h1 := beq_iff_eq.2 c2
     have HC2 := Aside0.mk c2; clear c2
     go_wp2_with (first | ((with_reducible refine gate_dst (N := 8) rfl ?_); refine ev_box S rfl rfl (cs := #[.int .i64 0, .slice none 0 0, .slice none 0 0, .int .i64 0, .int .i64 0]) (t := 230) (by first | (go_simp; done) | (go_simp; rfl)) (fun g8 w_ Gg8 S1 => ?_); clear S; have S := S1; clear S1; have z0 := S.out.cell 0 0 rfl rfl; have z1 := S.out.cell 0 1 rfl rfl; have z2 := S.out.cell 0 2 rfl rfl; have z3 := S.out.cell 0 3 rfl rfl; have z4 := S.out.cell 0 4 rfl rfl; have f0 := S.out.frozen 0 0 rfl; have f1 := S.out.frozen 0 1 rfl; have f2 := S.out.frozen 0 2 rfl; have f3 := S.out.frozen 0 3 rfl; have f4 := S.out.frozen 0 4 rfl) | ((with_reducible refine gate_store (t := 230) (p := 8) rfl ?_); refine ev_run (w1 := ((((((_ : World)).setCell ⟨g8, 0, none⟩ (.int .i64 op)).setCell ⟨g8, 1, none⟩ (.slice none 0 0)).setCell ⟨g8, 2, none⟩ (.slice none 0 0)).setCell ⟨g8, 3, none⟩ (.int .i64 0)).setCell ⟨g8, 4, none⟩ (.int .i64 0)) rfl rfl (by first | (go_simp; done) | (go_simp; rfl)) (fun w_ hw => ?_); have S1 := Aside0.mk ((((((S.out).put 0 0 (u := .int .i64 op) rfl rfl).put 0 1 (u := .slice none 0 0) rfl rfl).put 0 2 (u := .slice none 0 0) rfl rfl).put 0 3 (u := .int .i64 0) rfl rfl).put 0 4 (u := .int .i64 0) rfl rfl); rw [← hw] at S1; clear hw; clear S; have S := S1; clear S1; clear z0 z1 z2 z3 z4 f0 f1 f2 f3 f4) | ((with_reducible refine gate_dst (N := 25) rfl ?_); refine ev_lit S (Kd.string) (9) rfl rfl (xs := ([⟨#[97]⟩, ⟨#[98]⟩, ⟨#[99]⟩, ⟨#[97, 98]⟩, ⟨#[97, 98, 99]⟩, ⟨#[120]⟩, ⟨#[10]⟩, ⟨#[45]⟩, ⟨#[122, 57]⟩] : List ByteArray)) (inner := [.string ⟨#[97]⟩, .string ⟨#[98]⟩, .string ⟨#[99]⟩, .string ⟨#[97, 98]⟩, .string ⟨#[97, 98, 99]⟩, .string ⟨#[120]⟩, .string ⟨#[10]⟩, .string ⟨#[45]⟩, .string ⟨#[122, 57]⟩]) (by first | (go_simp; done) | (go_simp; rfl)) (Reps.one rfl (Reps.one rfl (Reps.one rfl (Reps.one rfl (Reps.one rfl (Reps.one rfl (Reps.one rfl (Reps.one rfl (Reps.one rfl (Reps.none _ _)))))))))) (by simp) (fun v25 w_ S1 => ?_); clear S; have S := S1; clear S1; obtain ⟨A25, c25, rfl⟩ := S.out.slice 0 rfl))
     have S2 := Aside0.mk (show Hp base w0 _ (fR Kd.string 9 base (.slice A25 ([⟨#[97]⟩, ⟨#[98]⟩, ⟨#[99]⟩, ⟨#[97, 98]⟩, ⟨#[97, 98, 99]⟩, ⟨#[120]⟩, ⟨#[10]⟩, ⟨#[45]⟩, ⟨#[122, 57]⟩] : List ByteArray).length c25) ([⟨#[97]⟩, ⟨#[98]⟩, ⟨#[99]⟩, ⟨#[97, 98]⟩, ⟨#[97, 98, 99]⟩, ⟨#[120]⟩, ⟨#[10]⟩, ⟨#[45]⟩, ⟨#[122, 57]⟩] : List ByteArray) :: fR k230 230 base (.slice A ns.length cn) ns :: fB base g8 #[.int .i64 op, .slice none 0 0, .slice none 0 0, .int .i64 0, .int .i64 0] 230 :: fR k160 160 base (.slice none 0 0) [] :: fR (Kd.int .i64) 2 base (.slice none 0 0) [] :: L) from Hp.pick (A := [_, _, _, _, _]) [2, 4, 3, 1, 0] ((S.out.none_ k160 160).none_ (Kd.int .i64) 2) (by decide) (by simp)); clear S; have S := S2; clear S2
     refine (spec_l1Rd_below.calls S.out (i + 5) g Ab cb bs HB.out (show (_ :: _ :: _ :: _ :: _ :: L)[i + 5]? = _ from HI.out) 9 (by omega)).mono ?_
     rintro e w_ ⟨m, rfl, hm, S1⟩
     replace S := Aside0.mk S1; clear S1; have Hm := Aside0.mk hm; clear hm; obtain ⟨ad, ek, hx⟩ := Kd.at_string (S.out.row 0 rfl).2.2 m Hm.out.1 (by have := Hm.out; simp only [List.length_cons, List.length_nil]; omega); cases ek; obtain ⟨s, es⟩ : ∃ s, s = rdOf ByteArray.empty ([⟨#[97]⟩, ⟨#[98]⟩, ⟨#[99]⟩, ⟨#[97, 98]⟩, ⟨#[97, 98, 99]⟩, ⟨#[120]⟩, ⟨#[10]⟩, ⟨#[45]⟩, ⟨#[122, 57]⟩] : List ByteArray) m := ⟨_, rfl⟩
     rw [← es] at hx
     have HSZ : Aside0 (s.size ≤ 1000000) := ⟨by
      have : m = 0 ∨ m = 1 ∨ m = 2 ∨ m = 3 ∨ m = 4 ∨ m = 5 ∨ m = 6 ∨ m = 7 ∨ m = 8 := by have := Hm.out; omega
      rw [es]
      rcases this with e | e | e | e | e | e | e | e | e <;> subst e <;> decide⟩
     have hm0 := eq_true Hm.out.1; have hm1 := eq_true (show m < (9 : Int) by have := Hm.out; omega); clear es
     go_wp2_with fail
     refine (spec_ClassOf.w S.out s HSZ.out).mono ?_
     rintro e w_ ⟨v, xs, rfl, hxs, S1⟩
     replace S := Aside0.mk S1; have HXS := Aside0.mk (show xs.length ≤ 1000 by omega); clear S1 hxs hx hm0 hm1; obtain ⟨Av, cv, rfl⟩ := S.out.slice 0 rfl; have z1 := S.out.cell 3 1 rfl rfl; have f1 := S.out.frozen 3 1 rfl
     go_wp2_with (first | ((with_reducible refine gate_store (t := 83) (p := 31) rfl ?_); refine ev_run (w1 := ((_ : World)).setCell ⟨g8, 1, none⟩ (.slice Av xs.length cv)) rfl rfl (by first | (go_simp; done) | (go_simp; rfl)) (fun w_ hw => ?_); have S1 := Aside0.mk ((S.out).put 3 1 (u := .slice Av xs.length cv) rfl rfl); rw [← hw] at S1; clear hw; clear S; have S := S1; clear S1; clear z1 f1))
     have S2 := Aside0.mk (show Hp base w0 _ (fR k230 230 base (.slice A ns.length cn) ns :: fB base g8 #[.int .i64 op, (.slice Av xs.length cv), .slice none 0 0, .int .i64 0, .int .i64 0] 230 :: fR k160 160 base (.slice Av xs.length cv) xs :: fR (Kd.int .i64) 2 base (.slice none 0 0) [] :: L) from Hp.pick (A := [_, _, _, _, _, _]) [2, 3, 0, 5] S.out (by decide) (by simp)); clear S; have S := S2; clear S2
     refine (spec_l1Rd_once.calls S.out (i + 4) g Ab cb bs HB.out (show (_ :: _ :: _ :: _ :: L)[i + 4]? = _ from HI.out) 5 (by omega)).mono ?_
     rintro e w_ ⟨b5, rfl, S1⟩
     replace S := Aside0.mk S1; clear S1
     go_upto_if 33 with fail
     (try simp only [Act.put, List.setIfInBounds_toArray, List.set_cons_zero, List.set_cons_succ])
     go_cut [] (fun wc => ∃ (As : Option Addr) (cs : Nat) (sp : List S160), Aside0 (sp.length ≤ 1000) ∧ Aside0 (Hp base w0 wc (fR k230 230 base (.slice A ns.length cn) ns :: fB base g8 #[.int .i64 op, (.slice As sp.length cs), .slice none 0 0, .int .i64 0, .int .i64 0] 230 :: fR k160 160 base (.slice As sp.length cs) sp :: fR (Kd.int .i64) 2 base (.slice none 0 0) [] :: L)))
     case first =>
      cases b5 with
      | false =>
       go_wp2_with fail
       go_meet
       case rel => exact ⟨Av, cv, xs, HXS, S⟩
      | true =>
       go_wp2_with fail
       refine (spec_l1Rd_class.calls S.out (i + 4) g Ab cb bs HB.out (show (_ :: _ :: _ :: _ :: L)[i + 4]? = _ from HI.out)).mono ?_
       rintro e w_ ⟨v9, ys, rfl, hy, S1⟩
       replace S := Aside0.mk S1; have HY := Aside0.mk (show ys.length ≤ 1000 by omega); clear S1 hy; obtain ⟨A9, c9, rfl⟩ := S.out.slice 0 rfl
       by_cases cy : ys.length = 0
       ·have h3 := eq_true cy
        have h4 := eq_false (show ¬ 0 < ys.length by omega); have h5 := eq_true (List.length_eq_zero_iff.1 cy); have h6 := eq_false (show ¬ (0 : Int) < (ys.length : Int) by omega); clear cy
        go_wp2_with fail
        go_meet
        case rel => exact ⟨Av, cv, xs, HXS, ⟨S.out.tail⟩⟩
       ·have h3 := eq_false cy
        have h4 := eq_true (show 0 < ys.length by omega); have h5 := eq_false (show ¬ ys = [] from fun q => cy (by rw [q]; rfl)); have h6 := eq_true (show (0 : Int) < (ys.length : Int) by omega); clear cy; have z1 := S.out.cell 2 1 rfl rfl; have f1 := S.out.frozen 2 1 rfl
        go_wp2_with (first | ((with_reducible refine gate_store (t := 83) (p := 40) rfl ?_); refine ev_run (w1 := ((_ : World)).setCell ⟨g8, 1, none⟩ (.slice A9 ys.length c9)) rfl rfl (by first | (go_simp; done) | (go_simp; rfl)) (fun w_ hw => ?_); have S1 := Aside0.mk ((S.out).put 2 1 (u := .slice A9 ys.length c9) rfl rfl); rw [← hw] at S1; clear hw; clear S; have S := S1; clear S1; clear z1 f1))
        go_meet
        case rel => exact ⟨A9, c9, ys, HY, ⟨Hp.pick (A := [_, _, _, _, _]) [1, 2, 0, 4] S.out (by decide) (by simp)⟩⟩
     case rest =>
      clear S HXS; obtain ⟨As, cs, sp, HSP, S⟩ := hcut
      go_wp2_with fail
      refine (spec_l1Rd_once.calls S.out (i + 4) g Ab cb bs HB.out (show (_ :: _ :: _ :: _ :: L)[i + 4]? = _ from HI.out) 16 (by omega)).mono ?_
      rintro e w_ ⟨b6, rfl, S1⟩
      replace S := Aside0.mk S1; clear S1
      go_upto_if 42 with fail
      (try simp only [Act.put, List.setIfInBounds_toArray, List.set_cons_zero, List.set_cons_succ])
      go_cut [] (fun wc => ∃ (As : Option Addr) (cs : Nat) (sp : List S160), Aside0 (sp.length ≤ 1000) ∧ Aside0 (Hp base w0 wc (fR k230 230 base (.slice A ns.length cn) ns :: fB base g8 #[.int .i64 op, (.slice As sp.length cs), .slice none 0 0, .int .i64 0, .int .i64 0] 230 :: fR k160 160 base (.slice As sp.length cs) sp :: fR (Kd.int .i64) 2 base (.slice none 0 0) [] :: L)))
      case first =>
       cases b6 with
       | false =>
        go_wp2_with fail
        go_meet
        case rel => exact ⟨As, cs, sp, HSP, S⟩
       | true =>
        have z1 := S.out.cell 1 1 rfl rfl
        go_wp2_with fail
        refine (spec_Others.w S.out As cs sp (fun W q => (q.row 2 rfl).2.2) (by have := HSP.out; omega) (S.out.row 2 rfl).2.1).mono ?_
        rintro e w_ ⟨v9, ys, rfl, hy, S1⟩
        replace S := Aside0.mk S1; have HY := Aside0.mk (show ys.length ≤ 1000 by omega); clear S1 hy z1; obtain ⟨A9, c9, rfl⟩ := S.out.slice 0 rfl; have z1 := S.out.cell 2 1 rfl rfl; have f1 := S.out.frozen 2 1 rfl
        go_wp2_with (first | ((with_reducible refine gate_store (t := 83) (p := 46) rfl ?_); refine ev_run (w1 := ((_ : World)).setCell ⟨g8, 1, none⟩ (.slice A9 ys.length c9)) rfl rfl (by first | (go_simp; done) | (go_simp; rfl)) (fun w_ hw => ?_); have S1 := Aside0.mk ((S.out).put 2 1 (u := .slice A9 ys.length c9) rfl rfl); rw [← hw] at S1; clear hw; clear S; have S := S1; clear S1; clear z1 f1))
        go_meet
        case rel => exact ⟨A9, c9, ys, HY, ⟨Hp.pick (A := [_, _, _, _, _]) [1, 2, 0, 4] S.out (by decide) (by simp)⟩⟩
      case rest =>
       clear S HSP; obtain ⟨As, cs, sp, HSP, S⟩ := hcut; have z0 := S.out.cell 1 0 rfl rfl; have z1 := S.out.cell 1 1 rfl rfl; have z2 := S.out.cell 1 2 rfl rfl; have z3 := S.out.cell 1 3 rfl rfl; have z4 := S.out.cell 1 4 rfl rfl; replace S := Aside0.mk (S.out.merge 2 3 (by decide) rfl rfl)
       go_wp2_with (first | ((with_reducible refine gate_dst (N := 49) rfl ?_); refine ev_litG S 2 rfl k230 230 rfl rfl (p := (⟨op, sp, [], 0, 0⟩ : S230)) (cs := [.int .i64 op, .slice As sp.length cs, .slice none 0 0, .int .i64 0, .int .i64 0]) rfl (fun ok h => k230_mkM _ base ok (⟨op, sp, [], 0, 0⟩ : S230) h.1 h.2) (by first | (go_simp; done) | (go_simp; rfl)) (fun v_l w_ S1 => ?_); clear S; have S := S1; clear S1; obtain ⟨Al, cl, rfl⟩ := S.out.slice 2 rfl) | ((with_reducible refine gate_dst (N := 50) rfl ?_); refine ev_appM S 0 2 (by decide) rfl rfl rfl (.tmp 47) (.tmp 49) (212) (.agg #[.int .i64 0, .slice none 0 0, .slice none 0 0, .int .i64 0, .int .i64 0]) (72) rfl Try.underlying212 (by kernel_rfl) rfl (by decide) (by omega) rfl rfl (by have := HNS.out; simp only [List.length_singleton]; omega) (fun v_a w_ S1 => ?_); clear S; have S := S1; clear S1))
       go_ret
       exact ⟨_, ns ++ [(⟨op, sp, [], 0, 0⟩ : S230)], rfl, by simp only [List.length_append, List.length_singleton]; have : 1 ≤ 2 ^ d := Nat.one_le_two_pow; omega, by simp only [List.length_append, List.length_singleton]; have : 1 ≤ 2 ^ d := Nat.one_le_two_pow; omega, rxb_snoc (HBD.out) (by show sp.length ≤ 1048576; have := HSP.out; omega) (by simp), Hp.pick (A := [_, _, _, _]) [0] S.out (by decide) (by simp)⟩
    ·have h1 := beq_eq_false_iff_ne.2 c2
     have HC2 := Aside0.mk c2; clear c2
     go_wp2_with (first | ((with_reducible refine gate_dst (N := 8) rfl ?_); refine ev_box S rfl rfl (cs := #[.int .i64 0, .slice none 0 0, .slice none 0 0, .int .i64 0, .int .i64 0]) (t := 230) (by first | (go_simp; done) | (go_simp; rfl)) (fun g8 w_ Gg8 S1 => ?_); clear S; have S := S1; clear S1; have z0 := S.out.cell 0 0 rfl rfl; have z1 := S.out.cell 0 1 rfl rfl; have z2 := S.out.cell 0 2 rfl rfl; have z3 := S.out.cell 0 3 rfl rfl; have z4 := S.out.cell 0 4 rfl rfl; have f0 := S.out.frozen 0 0 rfl; have f1 := S.out.frozen 0 1 rfl; have f2 := S.out.frozen 0 2 rfl; have f3 := S.out.frozen 0 3 rfl; have f4 := S.out.frozen 0 4 rfl) | ((with_reducible refine gate_store (t := 230) (p := 8) rfl ?_); refine ev_run (w1 := ((((((_ : World)).setCell ⟨g8, 0, none⟩ (.int .i64 op)).setCell ⟨g8, 1, none⟩ (.slice none 0 0)).setCell ⟨g8, 2, none⟩ (.slice none 0 0)).setCell ⟨g8, 3, none⟩ (.int .i64 0)).setCell ⟨g8, 4, none⟩ (.int .i64 0)) rfl rfl (by first | (go_simp; done) | (go_simp; rfl)) (fun w_ hw => ?_); have S1 := Aside0.mk ((((((S.out).put 0 0 (u := .int .i64 op) rfl rfl).put 0 1 (u := .slice none 0 0) rfl rfl).put 0 2 (u := .slice none 0 0) rfl rfl).put 0 3 (u := .int .i64 0) rfl rfl).put 0 4 (u := .int .i64 0) rfl rfl); rw [← hw] at S1; clear hw; clear S; have S := S1; clear S1; clear z0 z1 z2 z3 z4 f0 f1 f2 f3 f4))
     have S2 := Aside0.mk (show Hp base w0 _ (fR k230 230 base (.slice A ns.length cn) ns :: fB base g8 #[.int .i64 op, .slice none 0 0, .slice none 0 0, .int .i64 0, .int .i64 0] 230 :: fR k160 160 base (.slice none 0 0) [] :: fR (Kd.int .i64) 2 base (.slice none 0 0) [] :: L) from Hp.pick (A := [_, _, _, _]) [3, 2, 1, 0] ((S.out.none_ k160 160).none_ (Kd.int .i64) 2) (by decide) (by simp)); clear S; have S := S2; clear S2
     go_wp2_with fail
     have KK : 0 ≤ kk op ∧ kk op ≤ 2 := by unfold kk; split <;> (try split) <;> omega
     have K1 : 0 < kk op → 0 < d := fun q => HOP.out (fun e => by rw [e] at q; exact absurd q (by decide)) HC2.out
     have HK := Aside0.mk (And.intro KK K1); clear KK K1
     go_loopg [1, 10] (kk op).toNat (fun gk v1 v10 wr => ∃ (At : Option Addr) (ct : Nat) (nt : List S230) (k : Nat) (Ak : Option Addr) (ck : Nat) (kd : List Int), v1 = .slice At nt.length ct ∧ v10 = .int .i64 (k : Int) ∧ (k : Int) + (gk : Int) = kk op ∧ ((k = 0 ∧ nt.length = ns.length) ∨ (k = 1 ∧ ns.length ≤ nt.length ∧ nt.length + 1 ≤ ns.length + 2 * 2 ^ (d - 1)) ∨ (k = 2 ∧ ns.length ≤ nt.length ∧ nt.length + 2 ≤ ns.length + 4 * 2 ^ (d - 1))) ∧ RxB nt ∧ kd.length = k ∧ Aside0 (Hp base w0 wr (fR k230 230 base (.slice At nt.length ct) nt :: fB base g8 #[.int .i64 op, .slice none 0 0, (.slice Ak kd.length ck), .int .i64 0, .int .i64 0] 230 :: fR k160 160 base (.slice none 0 0) [] :: fR (Kd.int .i64) 2 base (.slice Ak kd.length ck) kd :: L)))
     case atStart => exact ⟨A, cn, ns, 0, none, 0, [], rfl, rfl, by have := HK.out.1; omega, .inl ⟨rfl, rfl⟩, HBD.out, rfl, S⟩
     case round =>
      clear S; obtain ⟨At, ct, nt, k, Ak, ck, kd, rfl, rfl, hk, hl, hrx, hkd, S⟩ := hrel; have HL := Aside0.mk hl; have HRX := Aside0.mk hrx; have HKD := Aside0.mk hkd; obtain ⟨gk_, egk⟩ : ∃ q, q = gk := ⟨_, rfl⟩; have HGK := Aside0.mk (show (k : Int) + (gk_ : Int) = kk op ∧ gk_ = gk from ⟨by rw [egk]; exact hk, egk⟩); clear hk hl hrx hkd egk
      go_wp2_with fail
      refine (spec_l3Kids.calls 1 op _ _ (sKids 0 op)).mono ?_
      rintro e w_ ⟨rfl, ⟨nd, rfl⟩⟩
      replace S := Aside0.mk (S.out.drewN nd); generalize World.drewN _ nd = w4 at S ⊢
      by_cases ck_ : (k : Int) < kk op
      ·have h2 := eq_true ck_
       have HC := Aside0.mk (And.intro ck_ (HK.out.2 (by omega)))
       have WD : wrap64 ((d : Int) - 1) = ((d - 1 : Nat) : Int) := by rw [w64 (by omega) (by have := HD.out; omega)]; have := HC.out.2; omega
       clear ck_
       go_wp2_with fail
       rw [WD]
       have EP : 2 ^ d = 2 * 2 ^ (d - 1) := by have := HC.out.2; rw [← Nat.pow_succ']; congr 1; omega
       have HEP := Aside0.mk EP; have HGR := IH.out (d - 1) (by have := HC.out.2; omega) (w := w4) (L := (fB base g8 #[.int .i64 op, .slice none 0 0, (.slice Ak kd.length ck), .int .i64 0, .int .i64 0] 230 :: fR k160 160 base (.slice none 0 0) [] :: fR (Kd.int .i64) 2 base (.slice Ak kd.length ck) kd :: L)) (i + 3) At ct nt (by have := HD.out; omega) (show (_ :: _ :: _ :: L)[i + 3]? = _ from HI.out) S.out (by have := HNS.out; have := HL.out; have := HC.out; have := HK.out; omega) HRX.out; clear EP
       refine HGR.mono ?_
       rintro e w_ ⟨v, nu, rfl, q1, q2, q3, S1⟩
       have HQ := Aside0.mk (And.intro q1 (And.intro q2 q3)); clear HGR q1 q2 q3; obtain ⟨Au, cu, rfl⟩ := S1.slice 0 rfl; replace S := Aside0.mk S1; clear S1 WD; have z2 := S.out.cell 1 2 rfl rfl
       go_wp2_with (first | ((with_reducible refine gate_dst (N := 67) rfl ?_); refine ev_lit S (Kd.int .i64) (2) rfl rfl (xs := [wrap64 ((nu.length : Int) - 1)]) (inner := [.int .i64 (wrap64 ((nu.length : Int) - 1))]) (by first | (go_simp; done) | (go_simp; rfl)) (Reps.one rfl (Reps.none _ _)) (by simp) (fun v67 w_ S1 => ?_); clear S; have S := S1; clear S1; obtain ⟨A67, c67, rfl⟩ := S.out.slice 0 rfl) | ((with_reducible refine gate_dst (N := 68) rfl ?_); refine ev_app S 4 rfl rfl (.tmp 63) (.tmp 67) (27) (.int .i64 0) (8) rfl Try.underlying27 (by kernel_rfl) rfl (by decide) (by omega) rfl rfl (S.out.row 0 rfl).2.2 (fun _ _ h => h) (by have := HKD.out; have := HK.out; have := HC.out; simp only [List.length_singleton]; omega) (fun v68 w_ S1 => ?_); clear S; have S := Aside0.mk S1.out.tail; clear S1; obtain ⟨A68, c68, rfl⟩ := S.out.slice 3 rfl; have f2 := S.out.frozen 1 2 rfl; clear z2; have z2 := S.out.cell 1 2 rfl rfl) | ((with_reducible refine gate_store (t := 27) (p := 69) rfl ?_); refine ev_run (w1 := ((_ : World)).setCell ⟨g8, 2, none⟩ (.slice A68 (kd ++ [wrap64 ((nu.length : Int) - 1)]).length c68)) rfl rfl (by first | (go_simp; done) | (go_simp; rfl)) (fun w_ hw => ?_); have S1 := Aside0.mk ((S.out).put 1 2 (u := .slice A68 (kd ++ [wrap64 ((nu.length : Int) - 1)]).length c68) rfl rfl); rw [← hw] at S1; clear hw; clear S; have S := S1; clear S1; clear z2 f2))
       have WN := Aside0.mk (show wrap64 ((k : Int) + 1) = ((k + 1 : Nat) : Int) from nat_next (by have := HK.out; have := HC.out; omega))
       go_wp2
       go_roundg (gk_ - 1)
       case measure => have := HGK.out; have := HC.out; omega
       case rel => exact ⟨Au, cu, nu, k + 1, _, _, kd ++ [wrap64 ((nu.length : Int) - 1)], rfl, congrArg (Value.int .i64) WN.out, by have := HGK.out; have := HC.out; omega, by have := HL.out; have := HQ.out; have := HK.out; have := HC.out; omega, HQ.out.2.2, by rw [List.length_append, List.length_singleton, HKD.out], S⟩
      ·have h2 := eq_false ck_
       have HC := Aside0.mk (show (k : Int) = kk op by have := HGK.out; omega); clear ck_
       have HNL := Aside0.mk (show ns.length ≤ nt.length ∧ nt.length + 2 ≤ ns.length + 2 * 2 ^ d ∧ nt.length ≤ 2000 from by
        have hP : 1 ≤ 2 ^ d := Nat.one_le_two_pow; have hL := HL.out; have hN := HNS.out
        by_cases k0 : k = 0
        ·omega
        ·have hd := HK.out.2 (by have := HC.out; omega)
         have EP : 2 ^ d = 2 * 2 ^ (d - 1) := by rw [← Nat.pow_succ']; congr 1; omega
         generalize 2 ^ (d - 1) = P at EP hL; generalize 2 ^ d = R at *
         omega)
       go_upto_if 71 with fail
       (try simp only [Act.put, List.setIfInBounds_toArray, List.set_cons_zero, List.set_cons_succ])
       go_cut [] (fun wc => ∃ mn mx : Int, Aside0 (Hp base w0 wc (fR k230 230 base (.slice At nt.length ct) nt :: fB base g8 #[.int .i64 op, .slice none 0 0, (.slice Ak kd.length ck), .int .i64 mn, .int .i64 mx] 230 :: fR k160 160 base (.slice none 0 0) [] :: fR (Kd.int .i64) 2 base (.slice Ak kd.length ck) kd :: L)))
       case first =>
        clear h2
        by_cases c8 : op = 8
        ·have h8 := beq_iff_eq.2 c8
         clear c8
         go_wp2_with fail
         refine (spec_l1Rd_below.calls S.out (i + 4) g Ab cb bs HB.out (show (_ :: _ :: _ :: _ :: L)[i + 4]? = _ from HI.out) 3 (by omega)).mono ?_
         rintro e w_ ⟨mn, rfl, hmn, S1⟩
         replace S := Aside0.mk S1; clear S1; have Hmn := Aside0.mk hmn; clear hmn; have z3 := S.out.cell 1 3 rfl rfl; have f3 := S.out.frozen 1 3 rfl
         go_wp2_with (first | ((with_reducible refine gate_store (t := 2) (p := 74) rfl ?_); refine ev_run (w1 := ((_ : World)).setCell ⟨g8, 3, none⟩ (.int .i64 mn)) rfl rfl (by first | (go_simp; done) | (go_simp; rfl)) (fun w_ hw => ?_); have S1 := Aside0.mk ((S.out).put 1 3 (u := .int .i64 mn) rfl rfl); rw [← hw] at S1; clear hw; clear S; have S := S1; clear S1; clear z3 f3))
         refine mask_ (n := 7) (fun l v W => (l 0 = true → v 0 = .pointer (some ⟨g8, 3, none⟩)) ∧ (l 1 = true → v 1 = .int .i64 mn) ∧ (l 2 = true → v 2 = .pointer (some ⟨g, 0, none⟩)) ∧ (l 3 = true → ∃ x : Int, v 3 = .int .i64 x) ∧ (l 4 = true → ∃ x : Int, v 4 = .int .i64 x) ∧ (l 5 = true → v 5 = .pointer (some ⟨g8, 4, none⟩)) ∧ Hp base w0 W (fR k230 230 base (.slice At nt.length ct) nt :: fB base g8 #[.int .i64 op, .slice none 0 0, (.slice Ak kd.length ck), .int .i64 mn, (bif l 6 then v 4 else .int .i64 0)] 230 :: fR k160 160 base (.slice none 0 0) [] :: fR (Kd.int .i64) 2 base (.slice Ak kd.length ck) kd :: L)) [[], [0], [], [2], [1, 3], [0, 1, 2, 3, 4], [5, 4, 3, 0, 1, 2, 3, 4]] [some 75, some 76, some 77, some 78, some 79, some 80, none] 96 (by kernel_rfl) spec_l1Rd_grow.need23 spec_l1Rd_grow.dst23 (by decide) rfl ⟨fun h => absurd h (by decide), fun h => absurd h (by decide), fun h => absurd h (by decide), fun h => absurd h (by decide), fun h => absurd h (by decide), fun h => absurd h (by decide), ?_⟩ ⟨?_, ?_, ?_, ?_, ?_, ?_, ?_, trivial⟩ (fun v W hJ => ?_)
         ·exact S.out.drew
         ·rintro l v W zb HZ hsz ⟨p0, p1, p2, p3, p4, p5, S⟩ hi hn hc K hK
          have e8 := oth_ (N := 8) (x := .pointer (some ⟨g8, 0, none⟩)) HZ rfl rfl
          refine yields_ (N := some 75) (x := .pointer (some ⟨g8, 3, none⟩)) rfl rfl ?_ (hK.out _ _ ⟨fun _ => rfl, p1, p2, p3, p4, p5, S⟩)
          clear hK HZ hn hc p0 p1 p2 p3 p4 p5; (try simp only [Array.getD_eq_getD_getElem?] at *); go_simp; try with_reducible rfl
         ·rintro l v W zb HZ hsz ⟨p0, p1, p2, p3, p4, p5, S⟩ hi hn hc K hK
          have e75 := at1 HZ hsz (hn 0 (by decide)) p0 rfl rfl (by decide); have S0 := S
          rw [show l 6 = false from hc 6 1 (by decide) hi] at S
          simp only [cond_true, cond_false] at S
          have z := S.cell 1 3 rfl rfl
          refine yields_ (N := some 76) (x := .int .i64 mn) rfl rfl ?_ (hK.out _ _ ⟨p0, fun _ => rfl, p2, p3, p4, p5, S0⟩)
          clear hK HZ hn hc p0 p1 p2 p3 p4 p5; (try simp only [Array.getD_eq_getD_getElem?] at *); go_simp; try with_reducible rfl
         ·rintro l v W zb HZ hsz ⟨p0, p1, p2, p3, p4, p5, S⟩ hi hn hc K hK
          have e0 := oth_ (N := 0) (x := .pointer (some ⟨g, 0, none⟩)) HZ rfl rfl
          refine yields_ (N := some 77) (x := .pointer (some ⟨g, 0, none⟩)) rfl rfl ?_ (hK.out _ _ ⟨p0, p1, fun _ => rfl, p3, p4, p5, S⟩)
          clear hK HZ hn hc p0 p1 p2 p3 p4 p5; (try simp only [Array.getD_eq_getD_getElem?] at *); go_simp; try with_reducible rfl
         ·rintro l v W zb HZ hsz ⟨p0, p1, p2, p3, p4, p5, S⟩ hi hn hc K hK
          have e77 := at1 HZ hsz (hn 2 (by decide)) p2 rfl rfl (by decide); clear HZ
          rw [show l 6 = false from hc 6 3 (by decide) hi] at S
          simp only [cond_true, cond_false] at S
          refine goes_ Try.func85 (by kernel_rfl) rfl #[.pointer (some ⟨g, 0, none⟩), .int .i64 3] rfl rfl rfl (by simp only [List.map_toArray, List.map_cons, List.map_nil]; show #[zb.tmps.getD 77 undef, _] = _; simp only [e77]; rfl) ?_
          refine (spec_l1Rd_below.calls S (i + 4) g Ab cb bs HB.out (show (_ :: _ :: _ :: _ :: L)[i + 4]? = _ from HI.out) 3 (by omega)).mono ?_
          rintro e w' ⟨x, rfl, hx, S1⟩
          refine ⟨_, rfl, hK.out _ _ ⟨p0, p1, p2, fun _ => ⟨x, rfl⟩, p4, p5, ?_⟩⟩
          rw [show upd l 3 6 = false from hc 6 3 (by decide) hi]
          exact S1
         ·rintro l v W zb HZ hsz ⟨p0, p1, p2, p3, p4, p5, S⟩ hi hn hc K hK
          have e76 := at1 HZ hsz (hn 1 (by decide)) p1 rfl rfl (by decide); have e78 := at0 HZ hsz (hn 3 (by decide)) rfl rfl (by decide); obtain ⟨x3, q3⟩ := p3 (hn 3 (by decide))
          rw [q3] at e78
          clear HZ
          rw [show l 6 = false from hc 6 4 (by decide) hi] at S
          simp only [cond_true, cond_false] at S
          refine yields_ (N := some 79) (x := .int .i64 (IntKind.i64.wrap (mn + x3))) rfl rfl ?_ (hK.out _ _ ⟨p0, p1, p2, p3, fun _ => ⟨_, rfl⟩, p5, ?_⟩)
          ·clear hK hn hc p0 p1 p2 p3 p4 p5; (try simp only [Array.getD_eq_getD_getElem?] at *); go_simp; try with_reducible rfl
          ·rw [show upd l 4 6 = false from hc 6 4 (by decide) hi]
           exact S
         ·rintro l v W zb HZ hsz ⟨p0, p1, p2, p3, p4, p5, S⟩ hi hn hc K hK
          have e8 := oth_ (N := 8) (x := .pointer (some ⟨g8, 0, none⟩)) HZ rfl rfl
          refine yields_ (N := some 80) (x := .pointer (some ⟨g8, 4, none⟩)) rfl rfl ?_ (hK.out _ _ ⟨p0, p1, p2, p3, p4, fun _ => rfl, S⟩)
          clear hK HZ hn hc p0 p1 p2 p3 p4 p5; (try simp only [Array.getD_eq_getD_getElem?] at *); go_simp; try with_reducible rfl
         ·rintro l v W zb HZ hsz ⟨p0, p1, p2, p3, p4, p5, S⟩ hi hn hc K hK
          have e79 := at0 HZ hsz (hn 4 (by decide)) rfl rfl (by decide); obtain ⟨x4, q4⟩ := p4 (hn 4 (by decide))
          rw [q4] at e79
          have e80 := at1 HZ hsz (hn 5 (by decide)) p5 rfl rfl (by decide); clear HZ
          rw [hi] at S
          simp only [cond_true, cond_false] at S
          have hk := hK.out; have zp := S.cell 1 4 rfl rfl; have fp := S.frozen 1 4 rfl; have S1 := S.put 1 4 (u := v 4) rfl rfl
          rw [q4] at S1
          refine st_run (w1 := W.setCell ⟨g8, 4, none⟩ (.int .i64 x4)) rfl rfl (by (try rw [q4] at *); simp only [Array.getD_eq_getD_getElem?] at *; go_simp; try rfl) ?_
          refine hk undef _ ⟨p0, p1, p2, p3, p4, p5, ?_⟩
          exact Eq.mpr (congrArg (fun y => Hp base w0 (W.setCell ⟨g8, 4, none⟩ (.int .i64 x4)) (fR k230 230 base (.slice At nt.length ct) nt :: fB base g8 #[.int .i64 op, .slice none 0 0, (.slice Ak kd.length ck), .int .i64 mn, y] 230 :: fR k160 160 base (.slice none 0 0) [] :: fR (Kd.int .i64) 2 base (.slice Ak kd.length ck) kd :: L)) (show v 4 = .int .i64 x4 from q4)) S1
         obtain ⟨-, -, -, p3, p4, -, S⟩ := hJ; obtain ⟨mx, q4⟩ := p4 rfl; replace S := Aside0.mk (show Hp base w0 W (fR k230 230 base (.slice At nt.length ct) nt :: fB base g8 #[.int .i64 op, .slice none 0 0, (.slice Ak kd.length ck), .int .i64 mn, .int .i64 mx] 230 :: fR k160 160 base (.slice none 0 0) [] :: fR (Kd.int .i64) 2 base (.slice Ak kd.length ck) kd :: L) from by rw [← q4]; exact S)
         simp only [putIf, ↓reduceIte, Act.put, List.setIfInBounds_toArray, List.set_cons_succ, List.set_cons_zero]
         clear p3 p4
         rw [q4]
         have z4 := S.out.cell 1 4 rfl rfl
         go_upto_region 24 with fail
         (try simp only [Act.put, List.setIfInBounds_toArray, List.set_cons_zero, List.set_cons_succ])
         go_cut [87] (fun v87 wc => ∃ b : Bool, v87 = .bool b ∧ Aside0 (Hp base w0 wc (fR k230 230 base (.slice At nt.length ct) nt :: fB base g8 #[.int .i64 op, .slice none 0 0, (.slice Ak kd.length ck), .int .i64 mn, .int .i64 mx] 230 :: fR k160 160 base (.slice none 0 0) [] :: fR (Kd.int .i64) 2 base (.slice Ak kd.length ck) kd :: L)))
         case first =>
          by_cases cm : mx = 0
          ·have h9 := beq_iff_eq.2 cm
           clear cm
           go_wp2_with fail
           go_meet
           case rel => exact ⟨true, rfl, S⟩
          ·have h9 := beq_eq_false_iff_ne.2 cm
           clear cm
           go_wp2_with fail
           refine (spec_l1Rd_once.calls S.out (i + 4) g Ab cb bs HB.out (show (_ :: _ :: _ :: _ :: L)[i + 4]? = _ from HI.out) 4 (by omega)).mono ?_
           rintro e w_ ⟨b9, rfl, S1⟩
           replace S := Aside0.mk S1; clear S1; clear z4
           go_wp2_with fail
           go_meet
           case rel => exact ⟨b9, rfl, S⟩
         case rest =>
          clear S z4; obtain ⟨b9, rfl, S⟩ := hcut
          go_upto_if 87 with fail
          (try simp only [Act.put, List.setIfInBounds_toArray, List.set_cons_zero, List.set_cons_succ])
          go_cut [] (fun wc => ∃ mn mx : Int, Aside0 (Hp base w0 wc (fR k230 230 base (.slice At nt.length ct) nt :: fB base g8 #[.int .i64 op, .slice none 0 0, (.slice Ak kd.length ck), .int .i64 mn, .int .i64 mx] 230 :: fR k160 160 base (.slice none 0 0) [] :: fR (Kd.int .i64) 2 base (.slice Ak kd.length ck) kd :: L)))
          case first =>
           cases b9 with
           | false =>
            go_wp2_with fail
            go_meet
            case rel => exact ⟨mn, mx, S⟩
           | true =>
            have z4 := S.out.cell 1 4 rfl rfl; have f4 := S.out.frozen 1 4 rfl
            go_wp2_with (first | ((with_reducible refine gate_store (t := 2) (p := 88) rfl ?_); refine ev_run (w1 := ((_ : World)).setCell ⟨g8, 4, none⟩ (.int .i64 (-1))) rfl rfl (by first | (go_simp; done) | (go_simp; rfl)) (fun w_ hw => ?_); have S1 := Aside0.mk ((S.out).put 1 4 (u := .int .i64 (-1)) rfl rfl); rw [← hw] at S1; clear hw; clear S; have S := S1; clear S1; clear z4 f4))
            go_meet
            case rel => exact ⟨mn, -1, S⟩
          case rest =>
           clear S; obtain ⟨mn2, mx2, S⟩ := hcut
           go_wp2_with fail
           refine (spec_l1Rd_once.calls S.out (i + 4) g Ab cb bs HB.out (show (_ :: _ :: _ :: _ :: L)[i + 4]? = _ from HI.out) 16 (by omega)).mono ?_
           rintro e w_ ⟨b0, rfl, S1⟩
           replace S := Aside0.mk S1; clear S1
           cases b0 with
           | false =>
            go_wp2_with fail
            go_meet
            case rel => exact ⟨mn2, mx2, S⟩
           | true =>
            have z4 := S.out.cell 1 4 rfl rfl; have f4 := S.out.frozen 1 4 rfl
            go_wp2_with (first | ((with_reducible refine gate_store (t := 2) (p := 91) rfl ?_); refine ev_run (w1 := ((_ : World)).setCell ⟨g8, 4, none⟩ (.int .i64 30)) rfl rfl (by first | (go_simp; done) | (go_simp; rfl)) (fun w_ hw => ?_); have S1 := Aside0.mk ((S.out).put 1 4 (u := .int .i64 30) rfl rfl); rw [← hw] at S1; clear hw; clear S; have S := S1; clear S1; clear z4 f4))
            go_meet
            case rel => exact ⟨mn2, 30, S⟩
        ·have h8 := beq_eq_false_iff_ne.2 c8
         clear c8
         go_wp2_with fail
         go_meet
         case rel => exact ⟨0, 0, S⟩
       case rest =>
        clear S; obtain ⟨mn, mx, S⟩ := hcut; have z0 := S.out.cell 1 0 rfl rfl; have z1 := S.out.cell 1 1 rfl rfl; have z2 := S.out.cell 1 2 rfl rfl; have z3 := S.out.cell 1 3 rfl rfl; have z4 := S.out.cell 1 4 rfl rfl; replace S := Aside0.mk (S.out.merge 2 3 (by decide) rfl rfl)
        go_wp2_with (first | ((with_reducible refine gate_dst (N := 94) rfl ?_); refine ev_litG S 2 rfl k230 230 rfl rfl (p := (⟨op, [], kd, mn, mx⟩ : S230)) (cs := [.int .i64 op, .slice none 0 0, .slice Ak kd.length ck, .int .i64 mn, .int .i64 mx]) rfl (fun ok h => k230_mkM _ base ok (⟨op, [], kd, mn, mx⟩ : S230) h.1 h.2) (by first | (go_simp; done) | (go_simp; rfl)) (fun v_l w_ S1 => ?_); clear S; have S := S1; clear S1; obtain ⟨Al, cl, rfl⟩ := S.out.slice 2 rfl) | ((with_reducible refine gate_dst (N := 95) rfl ?_); refine ev_appM S 0 2 (by decide) rfl rfl rfl (.tmp 92) (.tmp 94) (212) (.agg #[.int .i64 0, .slice none 0 0, .slice none 0 0, .int .i64 0, .int .i64 0]) (72) rfl Try.underlying212 (by kernel_rfl) rfl (by decide) (by omega) rfl rfl (by have := HNL.out; simp only [List.length_singleton]; omega) (fun v_a w_ S1 => ?_); clear S; have S := S1; clear S1))
        go_ret
        exact ⟨_, nt ++ [(⟨op, [], kd, mn, mx⟩ : S230)], rfl, by simp only [List.length_append, List.length_singleton]; have := HNL.out; omega, by simp only [List.length_append, List.length_singleton]; have := HNL.out; omega, rxb_snoc (HRX.out) (by simp) (by show kd.length ≤ 1048576; have := HKD.out; have := HC.out; have := HK.out; omega), Hp.pick (A := [_, _, _, _]) [0] S.out (by decide) (by simp)⟩
end

/-! ### spec_l1Rd_rx: function 177 -/
section
open Go.Proofs.Ytfajfjgkkgigoaa.Kit
/-- an expression is told -/
def XPost (base : Nat) (w0 : World) (L : List Fact) (e : Ending) (w' : World) : Prop := ∃ (v : Value) (ns : List S230), e = .returned (.agg #[v]) ∧ ns.length ≤ 4000 ∧ RxB ns ∧ Hp base w0 w' (fR k230 230 base v ns :: L)
set_option maxHeartbeats 4000000 in
set_option maxRecDepth 100000 in
theorem spec_l1Rd_rx.calls {base : Nat} {w0 w : World} {L : List Fact} (S : Hp base w0 w L) (i g : Nat) (Ab : Option Addr) (cb : Nat) (bs : List Int) (hB : RdOK base w0 Ab bs) (hi : L[i]? = some (fRd 179 base g (.slice Ab bs.length cb))) (d : Nat) (hd : d ≤ 5) :
  Calls Try.prog 177 #[.pointer (some ⟨g, 0, none⟩), .int .i64 (d : Int)] w (XPost base w0 L) := by
 replace S := Aside0.mk S
 have HB := Aside0.mk hB
 have HI := Aside0.mk hi
 clear hB hi
 have HD := Aside0.mk hd
 clear hd
 go_enter Try.func177, Try.ntmps177
 go_wp2_with (first | ((with_reducible refine gate_dst (N := 4) rfl ?_); refine ev_box S rfl rfl (cs := #[.slice none 0 0]) (t := 214) (by first | (go_simp; done) | (go_simp; rfl)) (fun g4 w_ Gg4 S1 => ?_); clear S; have S := S1; clear S1) | ((with_reducible refine gate_dst (N := 7) rfl ?_); refine ev_lit S (k230) (230) rfl rfl (xs := ([] : List S230)) (inner := []) (by first | (go_simp; done) | (go_simp; rfl)) (Reps.none _ _) (by simp) (fun v7 w_ S1 => ?_); clear S; have S := S1; clear S1; obtain ⟨A7, c7, rfl⟩ := S.out.slice 0 rfl))
 have HG := spec_l1Rd_grow.calls g Ab cb bs HB.out d (w := _) (L := (fB base g4 #[.slice none 0 0] 214 :: L)) (i + 1) A7 c7 [] HD.out (show (_ :: L)[i + 1]? = _ from HI.out) S.out (by have : 2 ^ d ≤ 2 ^ 5 := Nat.pow_le_pow_right (by omega) HD.out; simp only [List.length_nil]; omega) (fun i h => absurd h (Nat.not_lt_zero _))
 refine HG.mono ?_
 rintro e w_ ⟨v, ns, rfl, q1, q2, q3, S1⟩
 have HQ := Aside0.mk (And.intro (show ns.length ≤ 100 by have : 2 ^ d ≤ 2 ^ 5 := Nat.pow_le_pow_right (by omega) HD.out; simp only [List.length_nil] at q2; omega) q3)
 obtain ⟨An, cn, rfl⟩ := S1.slice 0 rfl
 replace S := Aside0.mk S1
 clear HG S1 q1 q2 q3
 go_wp2_with (first | ((with_reducible refine gate_dst (N := 5) rfl ?_); refine ev_box S rfl rfl (cs := #[.slice none 0 0]) (t := 214) (by first | (go_simp; done) | (go_simp; rfl)) (fun g5 w_ Gg5 S1 => ?_); clear S; have S := S1; clear S1; have z0 := S.out.cell 0 0 rfl rfl; have f0 := S.out.frozen 0 0 rfl) | ((with_reducible refine gate_store (t := 214) (p := 5) rfl ?_); refine ev_run (w1 := ((_ : World)).setCell ⟨g5, 0, none⟩ (.slice An ns.length cn)) rfl rfl (by first | (go_simp; done) | (go_simp; rfl)) (fun w_ hw => ?_); have S1 := Aside0.mk ((S.out).put 0 0 (u := .slice An ns.length cn) rfl rfl); rw [← hw] at S1; clear hw; clear S; have S := S1; clear S1; clear z0 f0; have z0 := S.out.cell 0 0 rfl rfl))
 obtain ⟨A', c', F', ev, hl, S1, k1, k2⟩ := nodes_open S.out 1 rfl (v := .slice An ns.length cn) (ns := ns) (fun _ _ q => q)
 cases ev
 replace S := Aside0.mk S1
 have HK1 := Aside0.mk k1
 have HN := Aside0.mk (k2 (fB base g5 #[.slice An ns.length cn] 214 :: F' :: fB base g4 #[.slice none 0 0] 214 :: L) 1 rfl)
 clear S1 k1 k2
 refine (spec_RxOk.calls S.out An cn ns HN.out HQ.out.2).mono ?_
 rintro e w_ ⟨b, rfl, -, S1⟩
 replace S := Aside0.mk (show Hp base w0 w_ (fB base g5 #[.slice An ns.length cn] 214 :: fR k230 230 base (.slice An ns.length cn) ns :: fB base g4 #[.slice none 0 0] 214 :: L) from Hp.back (k := 1) (show Hp base w0 w_ ((fB base g5 #[.slice An ns.length cn] 214 :: fR k230 230 base (.slice An ns.length cn) ns :: fB base g4 #[.slice none 0 0] 214 :: L).set 1 F') from S1) rfl HK1.out)
 clear S1 z0
 cases b with
 | true =>
  have z0 := S.out.cell 0 0 rfl rfl; have y0 := S.out.cell 2 0 rfl rfl; have f0 := S.out.frozen 2 0 rfl
  go_wp2
  have S1 := Aside0.mk (S.out.put 2 0 (u := .slice An ns.length cn) rfl rfl)
  refine bodyPost_ret (results_cell_row rfl _ _ g4 214 #[.slice An ns.length cn] (0, 0) _ rfl (S1.out.blk 2 rfl) Try.underlying214 rfl (by kernel_rfl)) rfl ?_
  exact ⟨_, ns, rfl, by have := HQ.out.1; omega, HQ.out.2, Hp.pick (A := [_, _, _]) [1] S1.out (by decide) (by simp)⟩
 | false =>
  go_wp2_with fail
  refine (spec_ClassOf.w S.out ⟨#[97]⟩ (by decide)).mono ?_
  rintro e w_ ⟨v, xs, rfl, hxs, S1⟩
  obtain ⟨Av, cv, rfl⟩ := S1.slice 0 rfl; have HXS := Aside0.mk hxs; replace S := Aside0.mk ((S1.none_ (Kd.int .i64) 2).merge 1 0 (by decide) rfl rfl); clear S1 hxs; have y0 := S.out.cell 4 0 rfl rfl; have f0 := S.out.frozen 4 0 rfl
  go_wp2_with (first | ((with_reducible refine gate_dst (N := 16) rfl ?_); refine ev_litG S 1 rfl k230 230 rfl rfl (p := (⟨2, xs, [], 0, 0⟩ : S230)) (cs := [.int .i64 2, .slice Av xs.length cv, .slice none 0 0, .int .i64 0, .int .i64 0]) rfl (fun ok h => k230_mkM _ base ok (⟨2, xs, [], 0, 0⟩ : S230) h.1 h.2) (by first | (go_simp; done) | (go_simp; rfl)) (fun v_l w_ S1 => ?_); clear S; have S := S1; clear S1; obtain ⟨Al, cl, rfl⟩ := S.out.slice 1 rfl; clear y0 f0; have y0 := S.out.cell 4 0 rfl rfl; have f0 := S.out.frozen 4 0 rfl))
  have S1 := Aside0.mk (S.out.put 4 0 (u := .slice Al ([(⟨2, xs, [], 0, 0⟩ : S230)] : List S230).length cl) rfl rfl)
  refine bodyPost_ret (results_cell_row rfl _ _ g4 214 #[.slice Al ([(⟨2, xs, [], 0, 0⟩ : S230)] : List S230).length cl] (0, 0) _ rfl (S1.out.blk 4 rfl) Try.underlying214 rfl (by kernel_rfl)) rfl ?_
  exact ⟨_, [(⟨2, xs, [], 0, 0⟩ : S230)], rfl, by simp, rxb_snoc (ns := []) (fun i h => absurd h (Nat.not_lt_zero _)) (by show xs.length ≤ 1048576; have := HXS.out; omega) (by simp), Hp.pick (A := [_, _, _, _, _]) [1] S1.out (by decide) (by simp)⟩
end

/-! ### spec_l1Rd_rxs: function 141 -/
section
open Go.Proofs.Ytfajfjgkkgigoaa.Kit
/-- a row of expressions is told -/
def XSPost (base : Nat) (w0 : World) (L : List Fact) (e : Ending) (w' : World) : Prop := ∃ (v : Value) (xs : List S214), e = .returned v ∧ (1 ≤ xs.length ∧ xs.length ≤ 4) ∧ (∀ i : Nat, i < xs.length → RxB (rd_T214 xs i).f0) ∧ Hp base w0 w' (fR k214 214 base v xs :: L)
theorem rxs_snoc {xs : List S214} {x : S214} (h : ∀ i : Nat, i < xs.length → RxB (rd_T214 xs i).f0) (hx : RxB x.f0) : ∀ i : Nat, i < (xs ++ [x]).length → RxB (rd_T214 (xs ++ [x]) i).f0 := by
 intro i hi
 unfold rd_T214
 rw [Int.toNat_natCast, List.getD_eq_getElem?_getD]
 by_cases c : i < xs.length
 ·have := h i c
  unfold rd_T214 at this
  rw [Int.toNat_natCast, List.getD_eq_getElem?_getD] at this
  rw [List.getElem?_append_left c]
  exact this
 ·rw [List.getElem?_append_right (by omega)]
  rw [List.length_append, List.length_singleton] at hi
  rw [show i - xs.length = 0 by omega]
  exact hx
set_option maxHeartbeats 4000000 in
set_option maxRecDepth 100000 in
theorem spec_l1Rd_rxs.calls {base : Nat} {w0 w : World} {L : List Fact} (S : Hp base w0 w L) (i g : Nat) (Ab : Option Addr) (cb : Nat) (bs : List Int) (hB : RdOK base w0 Ab bs) (hi : L[i]? = some (fRd 179 base g (.slice Ab bs.length cb))) :
  Calls Try.prog 141 #[.pointer (some ⟨g, 0, none⟩)] w (XSPost base w0 L) := by
 replace S := Aside0.mk S
 have HB := Aside0.mk hB
 have HI := Aside0.mk hi
 clear hB hi
 obtain ⟨q, eq⟩ : ∃ q, q = Int.tdiv (bs.length : Int) 8 := ⟨_, rfl⟩
 have hd : 0 ≤ q ∧ q ≤ 200000 := by have := HB.out.1; rw [eq, Int.tdiv_eq_ediv_of_nonneg (by omega)]; omega
 have HDV := Aside0.mk hd
 have E8 := eq.symm
 have W0 : wrap64 q = q := w64 (by omega) (by omega)
 have W1 : wrap64 (1 + q) = 1 + q := w64 (by omega) (by omega)
 clear hd eq
 go_enter Try.func141, Try.ntmps141
 go_wp2_with (first | ((with_reducible refine gate_dst (N := 5) rfl ?_); refine ev_lit S (k214) (214) rfl rfl (xs := ([] : List S214)) (inner := []) (by first | (go_simp; done) | (go_simp; rfl)) (Reps.none _ _) (by simp) (fun v5 w_ S1 => ?_); clear S; have S := S1; clear S1; obtain ⟨A5, c5, rfl⟩ := S.out.slice 0 rfl; obtain ⟨p, hp, S1⟩ := S.out.rdOpen (i + 1) (show (_ :: L)[i + 1]? = _ from HI.out); have z0 := S1.cell (i + 1) 0 (List.getElem?_set_self (by have := (List.getElem?_eq_some_iff.1 HI.out).1; simp; omega)) rfl; clear S1 hp))
 all_goals
  clear E8 z0
  refine (spec_l1Rd_below.calls S.out (i + 1) g Ab cb bs HB.out (show (_ :: L)[i + 1]? = _ from HI.out) _ (by have := HDV.out; omega)).mono ?_
  rintro e w_ ⟨m, rfl, hm, S1⟩
  have HMM := Aside0.mk (show 0 ≤ m ∧ m ≤ 3 by have := HDV.out; omega); replace S := Aside0.mk S1; have WM : wrap64 (1 + m) = 1 + m := w64 (by have := HMM.out; omega) (by have := HMM.out; omega); clear S1 hm
  go_wp2
  (try simp only [W0]); (try simp only [W1]); (try simp only [WM]); clear W0 W1 WM
  go_loopg [3, 4] (1 + m).toNat (fun gk v3 v4 wr => ∃ (Ax : Option Addr) (cx : Nat) (xs : List S214) (n : Int), v3 = .slice Ax xs.length cx ∧ v4 = .int .i64 n ∧ (0 ≤ n ∧ n.toNat = gk) ∧ (xs.length : Int) + n = 1 + m ∧ (∀ i : Nat, i < xs.length → RxB (rd_T214 xs i).f0) ∧ Aside0 (Hp base w0 wr (fR k214 214 base (.slice Ax xs.length cx) xs :: L)))
  case atStart => exact ⟨A5, c5, [], 1 + m, rfl, rfl, ⟨by have := HMM.out; omega, rfl⟩, by simp, fun i h => absurd h (Nat.not_lt_zero _), S⟩
  case round =>
   clear S; obtain ⟨Ax, cx, xs, n, rfl, rfl, hn, hx, hr, S⟩ := hrel; obtain ⟨gk_, egk⟩ : ∃ q, q = gk := ⟨_, rfl⟩; have HN := Aside0.mk (show ((0 ≤ n ∧ n.toNat = gk_) ∧ (xs.length : Int) + n = 1 + m) ∧ gk_ = gk from ⟨⟨by rw [egk]; exact hn, hx⟩, egk⟩); have HR := Aside0.mk hr; clear egk hx hr
   by_cases cn : 0 < n
   case neg =>
    have h1 := eq_false cn
    go_wp2
    go_ret
    exact ⟨_, xs, rfl, by have := HN.out; have := HMM.out; omega, HR.out, S.out⟩
   have h1 := eq_true cn; have HC := Aside0.mk cn; clear hn cn
   go_wp2_with fail
   refine (spec_l1Rd_below.calls S.out (i + 1) g Ab cb bs HB.out (show (_ :: L)[i + 1]? = _ from HI.out) 3 (by omega)).mono ?_
   rintro e w_ ⟨m2, rfl, hm2, S1⟩
   replace S := Aside0.mk S1; clear S1; have Hm2 := Aside0.mk hm2; clear hm2; obtain ⟨d, ed⟩ : ∃ d : Nat, wrap64 (1 + m2) = (d : Int) := ⟨(1 + m2).toNat, by rw [w64 (by have := Hm2.out; omega) (by have := Hm2.out; omega)]; have := Hm2.out; omega⟩; have HD := Aside0.mk (show d ≤ 5 by rw [w64 (by have := Hm2.out; omega) (by have := Hm2.out; omega)] at ed; have := Hm2.out; omega)
   go_wp2_with fail
   (try rw [ed])
   refine (spec_l1Rd_rx.calls S.out (i + 1) g Ab cb bs HB.out (show (_ :: L)[i + 1]? = _ from HI.out) d HD.out).mono ?_
   rintro e w_ ⟨v, ns, rfl, hl, hb, S1⟩
   obtain ⟨An, cn, rfl⟩ := S1.slice 0 rfl; have HXB := Aside0.mk hb; replace S := Aside0.mk S1; clear S1 hl hb ed
   go_wp2_with (first | ((with_reducible refine gate_dst (N := 27) rfl ?_); refine ev_litG S 0 rfl k214 214 rfl rfl (p := (⟨ns⟩ : S214)) (cs := [.slice An ns.length cn]) rfl (fun ok h => k214_mkM _ base ok (⟨ns⟩ : S214) h) (by first | (go_simp; done) | (go_simp; rfl)) (fun v_l w_ S1 => ?_); clear S; have S := S1; clear S1; obtain ⟨Al, cl, rfl⟩ := S.out.slice 0 rfl) | ((with_reducible refine gate_dst (N := 28) rfl ?_); refine ev_appM S 1 0 (by decide) rfl rfl rfl (.tmp 21) (.tmp 27) (182) (.agg #[.slice none 0 0]) (24) rfl Try.underlying182 (by kernel_rfl) rfl (by decide) (by omega) rfl rfl (by have := HN.out; have := HMM.out; have := HC.out; simp only [List.length_singleton]; omega) (fun v_a w_ S1 => ?_); clear S; have S := Aside0.mk S1.out.tail; clear S1; obtain ⟨Ac, cc, rfl⟩ := S.out.slice 0 rfl))
   have WN := Aside0.mk (show wrap64 (n - 1) = n - 1 from w64 (by have := HC.out; omega) (by have := HN.out; have := HMM.out; omega))
   go_wp2
   go_roundg (gk_ - 1)
   case measure => have := HN.out; have := HC.out; omega
   case rel => exact ⟨Ac, cc, xs ++ [(⟨ns⟩ : S214)], n - 1, by rw [List.length_append, List.length_singleton], congrArg (Value.int .i64) WN.out, ⟨by have := HC.out; omega, by have := HN.out; have := HC.out; omega⟩, by rw [List.length_append, List.length_singleton]; have := HN.out; omega, rxs_snoc HR.out HXB.out, S⟩
end

/-! ### spec_l1Open: function 83 -/
section
open Go.Proofs.Ytfajfjgkkgigoaa.Kit
/-- a reader is told, of the bytes that it reads -/
def OPost (base : Nat) (w0 : World) (L : List Fact) (vb : Value) (e : Ending) (w' : World) : Prop := ∃ g : Nat, e = .returned (.pointer (some ⟨g, 0, none⟩)) ∧ Hp base w0 w' (fRd 179 base g vb :: L)
set_option maxHeartbeats 4000000 in
set_option maxRecDepth 100000 in
theorem spec_l1Open.w {base : Nat} {w0 w : World} {L : List Fact} (S : Hp base w0 w L) (Ab : Option Addr) (cb : Nat) (bs : List Int) :
  Calls Try.prog 83 #[.slice Ab bs.length cb] w (OPost base w0 L (.slice Ab bs.length cb)) := by
 replace S := Aside0.mk S
 go_enter Try.func83, Try.ntmps83
 go_wp2_with (first | ((with_reducible refine gate_dst (N := 5) rfl ?_); refine ev_box S rfl rfl (cs := #[.slice Ab bs.length cb, .int .i64 0]) (t := 179) (by first | (go_simp; done) | (go_simp; rfl)) (fun g5 w_ Gg5 S1 => ?_); clear S; have S := S1; clear S1))
 go_ret
 exact ⟨g5, rfl, S.out.imp 0 rfl (fun ok q => ⟨0, by omega, q⟩)⟩
end

end Go.Proofs.Ytfajfjgkkgigoaa.PFnDead
