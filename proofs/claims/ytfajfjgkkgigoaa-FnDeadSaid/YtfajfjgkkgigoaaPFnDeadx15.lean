-- Written by this session's own program (wip/pr.py) over the kit's printer; contracts that the printer does not know are given by hand.
import Derived.Test.YtfajfjgkkgigoaaPFnDeadx0
import Derived.Test.YtfajfjgkkgigoaaPFnDeadx1
import Derived.Test.YtfajfjgkkgigoaaPFnDeadx12
import Derived.Test.YtfajfjgkkgigoaaPFnDeadx14
namespace Go.Proofs.Ytfajfjgkkgigoaa.PFnDead
open Go.RowKit Go.Proofs.YtfajfjgkkgigoaaW.PrintWords Go.Proofs.YtfajfjgkkgigoaaW.PrintLast Go.Proofs.YtfajfjgkkgigoaaW.PrintMore
attribute [local go_sem] max2_int min2_int max_two min_two max_three min_three max_four min_four   -- for this text's walks alone
set_option linter.unusedVariables false
set_option linter.unusedSimpArgs false

/-! ### spec_l1Class: function 195 -/
section
open Go.Proofs.Ytfajfjgkkgigoaa.Kit
/-- a row of spans is told, at most so many -/
def RPost (base : Nat) (w0 : World) (L : List Fact) (n : Nat) (e : Ending) (w' : World) : Prop := ∃ (v : Value) (xs : List S160), e = .returned v ∧ xs.length ≤ n ∧ Hp base w0 w' (fR k160 160 base v xs :: L)
theorem off_add (g n : Nat) : Addr.add ⟨g, 0, none⟩ n = ⟨g, n, none⟩ := by
 unfold Addr.add
 split
 ·next h => subst h; rfl
 ·simp
set_option maxHeartbeats 4000000 in
set_option maxRecDepth 100000 in
theorem spec_l1Class.w {base : Nat} {w0 w : World} {L : List Fact} (S : Hp base w0 w L) (i : Nat) (Am : Option Addr) (cm : Nat) (ms : List Bool) (hi : L[i]? = some (fR Kd.bool 4 base (.slice Am 256 cm) ms)) :
  Calls Try.prog 195 #[.slice Am 256 cm] w (RPost base w0 L 256) := by
 replace S := Aside0.mk S
 have HI := Aside0.mk hi
 have HMS := Aside0.mk (S.out.row i hi).1
 clear hi
 go_enter Try.func195, Try.ntmps195
 go_wp2_with (first | ((with_reducible refine gate_dst (N := 5) rfl ?_); refine ev_lit S (k160) (160) rfl rfl (xs := ([] : List S160)) (inner := []) (by first | (go_simp; done) | (go_simp; rfl)) (Reps.none _ _) (by simp) (fun v5 w_ S1 => ?_); clear S; have S := S1; clear S1))
 go_loopg [3, 4] 256 (fun gk v3 v4 wr => ∃ (b : Int) (v : Value) (xs : List S160), v3 = v ∧ v4 = .int .i64 b ∧ (0 ≤ b ∧ b + gk = 256) ∧ (xs.length : Int) ≤ b ∧ Aside0 (Hp base w0 wr (fR k160 160 base v xs :: L)))
 case atStart => exact ⟨0, _, [], rfl, rfl, ⟨Int.le_refl _, rfl⟩, by simp, S⟩
 case round =>
  clear S; obtain ⟨b, v, xs, rfl, rfl, hb, hx, S⟩ := hrel
  by_cases cc : b < 256
  case neg =>
   have h1 := eq_false cc
   go_wp2
   go_ret
   exact ⟨_, xs, rfl, by omega, S.out⟩
  have h1 := eq_true cc; obtain ⟨gk_, egk⟩ : ∃ q, q = gk := ⟨_, rfl⟩; have HB := Aside0.mk (show (0 ≤ b ∧ b + (gk_ : Int) = 256 ∧ b < 256) ∧ gk_ = gk from ⟨⟨hb.1, by rw [egk]; exact hb.2, cc⟩, egk⟩); have HX := Aside0.mk hx; have h2 := eq_true hb.1; clear egk hb hx cc; obtain ⟨A, cx, rfl⟩ := S.out.slice 0 rfl; obtain ⟨ad, ek, hx⟩ := Kd.at_bool (S.out.row (i + 1) (show (_ :: L)[i + 1]? = _ from HI.out)).2.2 b (by have := HB.out; omega) (by have := HMS.out; have := HB.out; omega); cases ek; generalize rdOf false ms b = mb at hx
  cases mb with
  | false =>
   clear h1 h2; have h1 := eq_true (show b < 256 by have := HB.out; omega); have h2 := eq_true (show 0 ≤ b by have := HB.out; omega); have WN := Aside0.mk (show wrap64 (b + 1) = b + 1 from w64 (by have := HB.out; omega) (by have := HB.out; omega))
   go_wp2
   go_roundg (gk_ - 1)
   case measure => have := HB.out; omega
   case rel => exact ⟨b + 1, _, xs, rfl, congrArg (Value.int .i64) WN.out, by have := HB.out; omega, by have := HX.out; omega, S⟩
  | true =>
   by_cases c0 : xs.length = 0
   ·have h3 := eq_true c0
    have h4 := eq_false (show ¬ 0 < xs.length by omega); have h5 := eq_true (List.length_eq_zero_iff.1 c0); clear c0
    go_wp2_with (first | ((with_reducible refine gate_dst (N := 41) rfl ?_); refine ev_lit S (k160) (160) rfl rfl (xs := [(⟨b, b⟩ : S160)]) (inner := [.int .i64 b, .int .i64 b]) (by first | (go_simp; done) | (go_simp; rfl)) (Reps.c2 (show Kd.M k160 _ _ _ (⟨b, b⟩ : S160) [.int .i64 (b), .int .i64 (b)] from k160_mkM _ _ _ (⟨b, b⟩ : S160)) (Reps.none _ _)) (by simp) (fun v41 w_ S1 => ?_); clear S; have S := S1; clear S1; obtain ⟨A41, c41, rfl⟩ := S.out.slice 0 rfl) | ((with_reducible refine gate_dst (N := 42) rfl ?_); refine ev_app S 1 rfl rfl (.tmp 37) (.tmp 41) (83) (.agg #[.int .i64 0, .int .i64 0]) (16) rfl Try.underlying83 (by kernel_rfl) rfl (by decide) (by omega) rfl rfl (S.out.row 0 rfl).2.2 (fun _ _ h => h) (by have := HX.out; have := HB.out; simp only [List.length_singleton]; omega) (fun v42 w_ S1 => ?_); clear S; have S := Aside0.mk S1.out.tail; clear S1))
    have WN := Aside0.mk (show wrap64 (b + 1) = b + 1 from w64 (by have := HB.out; omega) (by have := HB.out; omega))
    go_wp2
    go_roundg (gk_ - 1)
    case measure => have := HB.out; omega
    case rel => exact ⟨b + 1, _, xs ++ [(⟨b, b⟩ : S160)], rfl, congrArg (Value.int .i64) WN.out, by have := HB.out; omega, by rw [List.length_append, List.length_singleton]; have := HX.out; omega, S⟩
   ·obtain ⟨m, em⟩ : ∃ m, xs.length = m + 1 := ⟨xs.length - 1, by omega⟩
    obtain ⟨g1, cap, e1⟩ := S.out.form 0 rfl (by omega); cases e1; obtain ⟨ad2, e2, x0, x1⟩ := at_T160 (S.out.row 0 rfl).2.2 (m : Int) (by omega) (by omega); cases e2
    rw [Int.toNat_natCast, off_add] at x1
    generalize (rd_T160 xs (m : Int)).f1 = hv at x1; have f1 := (S.out.get 0 rfl).elim (fun ok q => (Kd.R_elem q z160 (m : Int) (by omega) (by omega)).elim (fun cs q2 => q2.2.2.2 1))
    rw [Int.toNat_natCast] at f1
    replace f1 : _ = false := (show wr.frozen? ⟨g1, m * 2 + 1, none⟩ = false from f1); have h3 := eq_false c0; have h4 := eq_true (show 0 < xs.length by omega); have h5 := eq_false (show ¬ xs = [] from fun q => c0 (by rw [q]; rfl))
    have WL : wrap64 ((xs.length : Int) - 1) = (m : Int) := by rw [em, w64 (by omega) (by have := HX.out; have := HB.out; omega)]; omega
    have WB : wrap64 (b - 1) = b - 1 := w64 (by have := HB.out; omega) (by have := HB.out; omega); have h6 := eq_true (show (m : Int) < (xs.length : Int) by omega); have h7 := eq_true (show (0 : Int) ≤ (m : Int) by omega); have h8 := eq_true (show m < xs.length by omega); have HM := Aside0.mk em; clear c0 x0 em
    by_cases ch : hv = b - 1
    ·have h9 := beq_iff_eq.2 ch
     have WN := Aside0.mk (show wrap64 (b + 1) = b + 1 from w64 (by have := HB.out; omega) (by have := HB.out; omega))
     go_wp2
     have S3 := Hp.seg S.out.blank 1 0 (by decide) rfl rfl z160 (m : Int) (by omega) (by have := HM.out; omega) 1 (.int .i64 b) (⟨(xs.getD m z160).f0, b⟩ : S160) (by decide) (fun ok c _ h _ => by obtain rfl := k160_openM h; exact k160_mkM _ _ _ _)
     go_roundg (gk_ - 1)
     case measure => have := HB.out; omega
     case rel => exact ⟨b + 1, _, xs.set m (⟨(xs.getD m z160).f0, b⟩ : S160), rfl, congrArg (Value.int .i64) WN.out, by have := HB.out; omega, by rw [List.length_set]; have := HX.out; omega, ⟨S3.tail⟩⟩
    ·have h9 := beq_eq_false_iff_ne.2 ch
     clear ch
     go_wp2_with (first | ((with_reducible refine gate_dst (N := 41) rfl ?_); refine ev_lit S (k160) (160) rfl rfl (xs := [(⟨b, b⟩ : S160)]) (inner := [.int .i64 b, .int .i64 b]) (by first | (go_simp; done) | (go_simp; rfl)) (Reps.c2 (show Kd.M k160 _ _ _ (⟨b, b⟩ : S160) [.int .i64 (b), .int .i64 (b)] from k160_mkM _ _ _ (⟨b, b⟩ : S160)) (Reps.none _ _)) (by simp) (fun v41 w_ S1 => ?_); clear S; have S := S1; clear S1; obtain ⟨A41, c41, rfl⟩ := S.out.slice 0 rfl) | ((with_reducible refine gate_dst (N := 42) rfl ?_); refine ev_app S 1 rfl rfl (.tmp 37) (.tmp 41) (83) (.agg #[.int .i64 0, .int .i64 0]) (16) rfl Try.underlying83 (by kernel_rfl) rfl (by decide) (by omega) rfl rfl (S.out.row 0 rfl).2.2 (fun _ _ h => h) (by have := HX.out; have := HB.out; simp only [List.length_singleton]; omega) (fun v42 w_ S1 => ?_); clear S; have S := Aside0.mk S1.out.tail; clear S1))
     have WN := Aside0.mk (show wrap64 (b + 1) = b + 1 from w64 (by have := HB.out; omega) (by have := HB.out; omega))
     go_wp2
     go_roundg (gk_ - 1)
     case measure => have := HB.out; omega
     case rel => exact ⟨b + 1, _, xs ++ [(⟨b, b⟩ : S160)], rfl, congrArg (Value.int .i64) WN.out, by have := HB.out; omega, by rw [List.length_append, List.length_singleton]; have := HX.out; omega, S⟩
end

/-! ### spec_l1Rd_class: function 178 -/
section
open Go.Proofs.Ytfajfjgkkgigoaa.Kit
set_option maxHeartbeats 4000000 in
set_option maxRecDepth 100000 in
theorem spec_l1Rd_class.calls {base : Nat} {w0 w : World} {L : List Fact} (S : Hp base w0 w L) (i g : Nat) (A : Option Addr) (c : Nat) (bs : List Int) (hB : RdOK base w0 A bs) (hi : L[i]? = some (fRd 179 base g (.slice A bs.length c))) :
  Calls Try.prog 178 #[.pointer (some ⟨g, 0, none⟩)] w (RPost base w0 L 256) := by
 replace S := Aside0.mk S
 have HB := Aside0.mk hB
 have HI := Aside0.mk hi
 clear hB hi
 go_enter Try.func178, Try.ntmps178
 go_wp2_with (first | ((with_reducible refine gate_dst (N := 7) rfl ?_); refine ev_make S Kd.bool 4 rfl (N := 7) rfl 88 _ _ rfl 256 rfl rfl Try.underlying88 (.bool false) 1 (by kernel_rfl) rfl (by decide) (by omega) false rfl (by omega) (by omega) (fun v7 w_ S1 => ?_); clear S; have S := S1; clear S1))
 obtain ⟨ms, ems⟩ : ∃ q, q = List.replicate (256 : Int).toNat false := ⟨_, rfl⟩
 rw [← ems] at S
 have hms : ms.length = 256 := by rw [ems]; rfl
 clear ems
 obtain ⟨gm, cm, eg⟩ := S.out.form 0 rfl (by omega)
 rw [hms] at eg
 subst eg
 have HMS := Aside0.mk hms
 clear hms
 refine (spec_l1Rd_below.calls S.out (i + 1) g A c bs HB.out (show (_ :: L)[i + 1]? = _ from HI.out) 5 (by omega)).mono ?_
 rintro e w_ ⟨m0, rfl, hm0, S1⟩
 replace S := Aside0.mk S1
 clear S1
 have Hm0 := Aside0.mk hm0
 clear hm0
 go_wp2
 go_loopg [4] m0.toNat (fun gk v4 wr => ∃ (n : Int) (ms : List Bool), v4 = .int .i64 n ∧ (n.toNat = gk ∧ n ≤ 4) ∧ ms.length = 256 ∧ Aside0 (Hp base w0 wr (fR Kd.bool 4 base (.slice (some ⟨gm, 0, none⟩) 256 cm) ms :: L)))
 case atStart => exact ⟨m0, ms, rfl, ⟨rfl, by have := Hm0.out; omega⟩, HMS.out, S⟩
 case round =>
  clear S HMS ms; obtain ⟨n, ms, rfl, hn, hms, S⟩ := hrel; have HMS := Aside0.mk hms; obtain ⟨gk_, egk⟩ : ∃ q, q = gk := ⟨_, rfl⟩
  by_cases cn : 0 < n
  case neg =>
   have h1 := eq_false cn; clear hn hms
   go_wp2_with fail
   refine (spec_l1Class.w S.out 0 _ _ ms rfl).mono ?_
   rintro e w_ ⟨v, xs, rfl, hx, S1⟩
   have HX := Aside0.mk hx; have S2 := Aside0.mk (Hp.pick (A := [_, _]) [0] S1 (by decide) (by simp)); clear S S1 hx
   go_wp2
   go_ret
   exact ⟨v, xs, rfl, HX.out, S2.out⟩
  have h0 := eq_true cn; have HN := Aside0.mk (show (n.toNat = gk_ ∧ n ≤ 4 ∧ 0 < n) ∧ gk_ = gk from ⟨by rw [egk]; exact ⟨hn.1, hn.2, cn⟩, egk⟩); clear egk hn hms cn
  go_wp2_with fail
  refine (spec_l1Rd_below.calls S.out (i + 1) g A c bs HB.out (show (_ :: L)[i + 1]? = _ from HI.out) 256 (by omega)).mono ?_
  rintro e w_ ⟨m1, rfl, hm1, S1⟩
  replace S := Aside0.mk S1; clear S1; have Hm1 := Aside0.mk hm1; clear hm1
  go_wp2_with fail
  refine (spec_l1Rd_once.calls S.out (i + 1) g A c bs HB.out (show (_ :: L)[i + 1]? = _ from HI.out) 2 (by omega)).mono ?_
  rintro e w_ ⟨b2, rfl, S1⟩
  replace S := Aside0.mk S1; clear S1
  cases b2 with
  | false =>
   have HLW := Aside0.mk (show 0 ≤ m1 ∧ m1 ≤ 255 by have := Hm1.out; omega)
   go_wp2
   go_loopg [6] (256 - m1).toNat (fun gk v6 wr => ∃ (b : Int) (ms : List Bool), v6 = .int .i64 b ∧ (0 ≤ b ∧ b ≤ 256 ∧ (256 - b).toNat = gk) ∧ ms.length = 256 ∧ Aside0 (Hp base w0 wr (fR Kd.bool 4 base (.slice (some ⟨gm, 0, none⟩) 256 cm) ms :: L)))
   case atStart => exact ⟨m1, ms, rfl, ⟨HLW.out.1, by have := HLW.out; omega, rfl⟩, HMS.out, S⟩
   case round =>
    clear S HMS ms; obtain ⟨b, ms, rfl, hb, hms, S⟩ := hrel; have HMS := Aside0.mk hms; obtain ⟨gk2, egk2⟩ : ∃ q, q = gk := ⟨_, rfl⟩; have HBB := Aside0.mk (show (0 ≤ b ∧ b ≤ 256 ∧ (256 - b).toNat = gk2) ∧ gk2 = gk from ⟨by rw [egk2]; exact hb, egk2⟩); clear egk2 hb hms; have WN := Aside0.mk (show wrap64 (n - 1) = n - 1 from w64 (by have := HN.out; omega) (by have := HN.out; omega))
    by_cases cb : b < 256
    case neg =>
     have h1 := eq_false cb
     go_wp2
     go_roundg (gk_ - 1)
     case measure => have := HN.out; omega
     case rel => exact ⟨n - 1, ms, congrArg (Value.int .i64) WN.out, by have := HN.out; omega, HMS.out, S⟩
    have h1 := eq_true cb; have HCB := Aside0.mk cb; clear cb
    go_wp2_with fail
    refine (spec_l1Rd_below.calls S.out (i + 1) g A c bs HB.out (show (_ :: L)[i + 1]? = _ from HI.out) 6 (by omega)).mono ?_
    rintro e w_ ⟨m6, rfl, hm6, S1⟩
    replace S := Aside0.mk S1; clear S1; have Hm6 := Aside0.mk hm6; clear hm6; have W6 : wrap64 (m1 + m6) = m1 + m6 := w64 (by have := HLW.out; have := Hm6.out; omega) (by have := HLW.out; have := Hm6.out; omega)
    by_cases c6 : b ≤ m1 + m6
    case neg =>
     have h2 := eq_false c6
     go_wp2
     go_roundg (gk_ - 1)
     case measure => have := HN.out; omega
     case rel => exact ⟨n - 1, ms, congrArg (Value.int .i64) WN.out, by have := HN.out; omega, HMS.out, S⟩
    have h2 := eq_true c6; clear c6; obtain ⟨zk, fk⟩ := S.out.cellR 0 false rfl b HBB.out.1.1 (by have := HCB.out; omega); have h3 := eq_true HBB.out.1.1; have WB := Aside0.mk (show wrap64 (b + 1) = b + 1 from w64 (by have := HBB.out; omega) (by have := HCB.out; omega))
    go_wp2
    have S3 := Aside0.mk (S.out.putRow 0 rfl b true)
    go_roundg (256 - (b + 1)).toNat
    case measure => have := HBB.out; have := HCB.out; omega
    case rel => exact ⟨b + 1, ms.set b.toNat true, congrArg (Value.int .i64) WB.out, ⟨by have := HBB.out; omega, by have := HCB.out; omega, rfl⟩, by rw [List.length_set]; exact HMS.out, S3⟩
  | true =>
   go_wp2_with fail
   refine (spec_l1Rd_below.calls S.out (i + 1) g A c bs HB.out (show (_ :: L)[i + 1]? = _ from HI.out) 8 (by omega)).mono ?_
   rintro e w_ ⟨m2, rfl, hm2, S1⟩
   replace S := Aside0.mk S1; clear S1; have Hm2 := Aside0.mk hm2; clear hm2; have W2 : wrap64 (97 + m2) = 97 + m2 := w64 (by have := Hm2.out; omega) (by have := Hm2.out; omega); have HLW := Aside0.mk (show 0 ≤ 97 + m2 ∧ 97 + m2 ≤ 255 by have := Hm2.out; omega)
   go_wp2
   simp only [W2]
   clear W2
   go_loopg [6] (256 - (97 + m2)).toNat (fun gk v6 wr => ∃ (b : Int) (ms : List Bool), v6 = .int .i64 b ∧ (0 ≤ b ∧ b ≤ 256 ∧ (256 - b).toNat = gk) ∧ ms.length = 256 ∧ Aside0 (Hp base w0 wr (fR Kd.bool 4 base (.slice (some ⟨gm, 0, none⟩) 256 cm) ms :: L)))
   case atStart => exact ⟨(97 + m2), ms, rfl, ⟨HLW.out.1, by have := HLW.out; omega, rfl⟩, HMS.out, S⟩
   case round =>
    clear S HMS ms; obtain ⟨b, ms, rfl, hb, hms, S⟩ := hrel; have HMS := Aside0.mk hms; obtain ⟨gk2, egk2⟩ : ∃ q, q = gk := ⟨_, rfl⟩; have HBB := Aside0.mk (show (0 ≤ b ∧ b ≤ 256 ∧ (256 - b).toNat = gk2) ∧ gk2 = gk from ⟨by rw [egk2]; exact hb, egk2⟩); clear egk2 hb hms; have WN := Aside0.mk (show wrap64 (n - 1) = n - 1 from w64 (by have := HN.out; omega) (by have := HN.out; omega))
    by_cases cb : b < 256
    case neg =>
     have h1 := eq_false cb
     go_wp2
     go_roundg (gk_ - 1)
     case measure => have := HN.out; omega
     case rel => exact ⟨n - 1, ms, congrArg (Value.int .i64) WN.out, by have := HN.out; omega, HMS.out, S⟩
    have h1 := eq_true cb; have HCB := Aside0.mk cb; clear cb
    go_wp2_with fail
    refine (spec_l1Rd_below.calls S.out (i + 1) g A c bs HB.out (show (_ :: L)[i + 1]? = _ from HI.out) 6 (by omega)).mono ?_
    rintro e w_ ⟨m6, rfl, hm6, S1⟩
    replace S := Aside0.mk S1; clear S1; have Hm6 := Aside0.mk hm6; clear hm6; have W6 : wrap64 ((97 + m2) + m6) = (97 + m2) + m6 := w64 (by have := HLW.out; have := Hm6.out; omega) (by have := HLW.out; have := Hm6.out; omega)
    by_cases c6 : b ≤ (97 + m2) + m6
    case neg =>
     have h2 := eq_false c6
     go_wp2
     go_roundg (gk_ - 1)
     case measure => have := HN.out; omega
     case rel => exact ⟨n - 1, ms, congrArg (Value.int .i64) WN.out, by have := HN.out; omega, HMS.out, S⟩
    have h2 := eq_true c6; clear c6; obtain ⟨zk, fk⟩ := S.out.cellR 0 false rfl b HBB.out.1.1 (by have := HCB.out; omega); have h3 := eq_true HBB.out.1.1; have WB := Aside0.mk (show wrap64 (b + 1) = b + 1 from w64 (by have := HBB.out; omega) (by have := HCB.out; omega))
    go_wp2
    have S3 := Aside0.mk (S.out.putRow 0 rfl b true)
    go_roundg (256 - (b + 1)).toNat
    case measure => have := HBB.out; have := HCB.out; omega
    case rel => exact ⟨b + 1, ms.set b.toNat true, congrArg (Value.int .i64) WB.out, ⟨by have := HBB.out; omega, by have := HCB.out; omega, rfl⟩, by rw [List.length_set]; exact HMS.out, S3⟩
end

/-! ### spec_ClassOf: function 194 -/
section
open Go.Proofs.Ytfajfjgkkgigoaa.Kit
set_option maxHeartbeats 4000000 in
set_option maxRecDepth 100000 in
theorem spec_ClassOf.w {base : Nat} {w0 w : World} {L : List Fact} (S : Hp base w0 w L) (s : ByteArray) (hs : s.size ≤ 1000000) :
  Calls Try.prog 194 #[.string s] w (RPost base w0 L 256) := by
 replace S := Aside0.mk S
 have HS := Aside0.mk hs
 clear hs
 go_enter Try.func194, Try.ntmps194
 go_wp2_with (first | ((with_reducible refine gate_dst (N := 5) rfl ?_); refine ev_make S Kd.bool 4 rfl (N := 5) rfl 88 _ _ rfl 256 rfl rfl Try.underlying88 (.bool false) 1 (by kernel_rfl) rfl (by decide) (by omega) false rfl (by omega) (by omega) (fun v5 w_ S1 => ?_); clear S; have S := S1; clear S1))
 obtain ⟨ms, ems⟩ : ∃ q, q = List.replicate (256 : Int).toNat false := ⟨_, rfl⟩
 rw [← ems] at S
 have hms : ms.length = 256 := by rw [ems]; rfl
 clear ems
 obtain ⟨gm, cm, eg⟩ := S.out.form 0 rfl (by omega)
 rw [hms] at eg
 subst eg
 have HMS := Aside0.mk hms
 clear hms
 go_loopg [4] s.size (fun gk v4 wr => ∃ (k : Nat) (ms : List Bool), v4 = .int .i64 (k : Int) ∧ k + gk = s.size ∧ ms.length = 256 ∧ Aside0 (Hp base w0 wr (fR Kd.bool 4 base (.slice (some ⟨gm, 0, none⟩) 256 cm) ms :: L)))
 case atStart => exact ⟨0, ms, rfl, by omega, HMS.out, S⟩
 case round =>
  clear S HMS ms; obtain ⟨k, ms, rfl, hk, hms, S⟩ := hrel
  by_cases cc : k < s.size
  case neg =>
   have h1 := eq_false (show ¬ (k : Int) < (s.size : Int) by omega); clear hk
   go_wp2_with fail
   refine (spec_l1Class.w S.out 0 _ _ ms rfl).mono ?_
   rintro e w_ ⟨v, xs, rfl, hx, S1⟩
   have HX := Aside0.mk hx; have S2 := Aside0.mk (Hp.pick (A := [_, _]) [0] S1 (by decide) (by simp)); clear S S1 hx
   go_wp2
   go_ret
   exact ⟨v, xs, rfl, HX.out, S2.out⟩
  have h1 := eq_true (show (k : Int) < (s.size : Int) by omega); have h2 := eq_true (show (0 : Int) ≤ (k : Int) by omega); obtain ⟨y, hy⟩ : ∃ y, (s[k]'cc).toNat = y := ⟨_, rfl⟩
  have hb : y < 256 := by rw [← hy]; exact UInt8.toNat_lt _
  obtain ⟨zk, fk⟩ := S.out.cellR 0 false rfl (y : Int) (by omega) (by omega)
  rw [Int.toNat_natCast] at zk fk
  have h3 := eq_true (show (0 : Int) ≤ (y : Int) by omega); have h4 := eq_true (show (y : Int) < (256 : Int) by omega); have h5 := eq_true hb; have HCC := cc; have WN := Aside0.mk (show wrap64 ((k : Int) + 1) = ((k + 1 : Nat) : Int) from nat_next (by have := HS.out; omega)); have HK := Aside0.mk (And.intro hk (And.intro cc hms)); clear hk hms hb
  go_wp2
  have S3 := Aside0.mk (S.out.putRow 0 rfl (y : Int) true)
  go_roundg (s.size - (k + 1))
  case measure => have := HK.out; omega
  case rel => exact ⟨k + 1, ms.set (y : Int).toNat true, congrArg (Value.int .i64) WN.out, by have := HK.out; omega, by rw [List.length_set]; exact HK.out.2.2, S3⟩
end

/-! ### spec_l1Marks_w: function 128 -/
section
open Go.Proofs.Ytfajfjgkkgigoaa.Kit
/-- 256 flags are told -/
def MPost (base : Nat) (w0 : World) (L : List Fact) (e : Ending) (w' : World) : Prop := ∃ (g c : Nat) (ms : List Bool), e = .returned (.slice (some ⟨g, 0, none⟩) 256 c) ∧ ms.length = 256 ∧ Hp base w0 w' (fR Kd.bool 4 base (.slice (some ⟨g, 0, none⟩) 256 c) ms :: L)
open Classical in
theorem clsTot2 (ls : List S160) (hl : ls.length ≤ 1048576) : ∃ b : Bool, spec_ClassOk.f (ls.length + 1) ls = some b ∧ (b = true → ls.length ≤ 128 ∧ ∀ j : Nat, j < ls.length → 0 ≤ (rd_T160 ls j).f0 ∧ (rd_T160 ls j).f1 ≤ 255) :=
 ⟨_, sClassOk ls hl (ls.length + 1) (Nat.lt_succ_self _), fun h => ⟨by have := classOk_len (of_decide_eq_true h); simpa using this, fun j hj => by
  have := of_decide_eq_true h j (by simpa using hj)
  rw [toP_lo, toP_hi, Int.toNat_natCast]
  exact ⟨this.1, this.2.2.1⟩⟩⟩
set_option maxHeartbeats 4000000 in
set_option maxRecDepth 100000 in
theorem spec_l1Marks.w {base : Nat} {w0 w : World} {L : List Fact} (S : Hp base w0 w L) (A : Option Addr) (c : Nat) (xs : List S160) (hC : ∀ W, Hp base w0 W L → Kd.C k160 W A xs.length xs) (hl : xs.length ≤ 128) (hr : ∀ j : Nat, j < xs.length → 0 ≤ (rd_T160 xs j).f0 ∧ (rd_T160 xs j).f1 ≤ 255) :
  Calls Try.prog 128 #[.slice A xs.length c] w (MPost base w0 L) := by
 replace S := Aside0.mk S
 have HC := Aside0.mk hC
 have HL := Aside0.mk hl
 have HR := Aside0.mk hr
 clear hC hl hr
 go_enter Try.func128, Try.ntmps128
 go_wp2_with (first | ((with_reducible refine gate_dst (N := 6) rfl ?_); refine ev_make S Kd.bool 4 rfl (N := 6) rfl 88 _ _ rfl 256 rfl rfl Try.underlying88 (.bool false) 1 (by kernel_rfl) rfl (by decide) (by omega) false rfl (by omega) (by omega) (fun v6 w_ S1 => ?_); clear S; have S := S1; clear S1))
 obtain ⟨ms, ems⟩ : ∃ q, q = List.replicate (256 : Int).toNat false := ⟨_, rfl⟩
 rw [← ems] at S
 have hms : ms.length = 256 := by rw [ems]; rfl
 clear ems
 obtain ⟨gm, cm, eg⟩ := S.out.form 0 rfl (by omega)
 rw [hms] at eg
 subst eg
 have HMS := Aside0.mk hms
 clear hms
 go_loopg [4] xs.length (fun gk v4 wr => ∃ (k : Nat) (ms : List Bool), v4 = .int .i64 (k : Int) ∧ k + gk = xs.length ∧ ms.length = 256 ∧ Aside0 (Hp base w0 wr (fR Kd.bool 4 base (.slice (some ⟨gm, 0, none⟩) 256 cm) ms :: L)))
 case atStart => exact ⟨0, ms, rfl, by omega, HMS.out, S⟩
 case round =>
  clear S HMS ms; obtain ⟨k, ms, rfl, hk, hms, S⟩ := hrel
  by_cases cc : k < xs.length
  case neg =>
   have h1 := eq_false (show ¬ (k : Int) < (xs.length : Int) by omega); clear hk
   go_wp2
   go_ret
   exact ⟨gm, cm, ms, rfl, hms, S.out⟩
  have h1 := eq_true (show (k : Int) < (xs.length : Int) by omega); have h2 := eq_true (show (0 : Int) ≤ (k : Int) by omega); have HK := Aside0.mk (And.intro hk (And.intro cc hms)); have hsp := HR.out k cc; obtain ⟨ad, e0, x0, x1⟩ := at_T160 (HC.out _ S.out.tail) (k : Int) (by omega) (by omega); cases e0
  rw [Int.toNat_natCast] at x0 x1
  clear x1 hk cc hms; generalize esp : rd_T160 xs (k : Int) = sp at hsp x0; have HSP := Aside0.mk hsp; have HES := Aside0.mk esp; clear esp
  go_wp2
  clear x0
  go_loopg [5] (256 - sp.f0).toNat (fun gk v5 wr => ∃ (b : Int) (ms : List Bool), v5 = .int .i64 b ∧ (0 ≤ b ∧ (256 - b).toNat = gk) ∧ ms.length = 256 ∧ Aside0 (Hp base w0 wr (fR Kd.bool 4 base (.slice (some ⟨gm, 0, none⟩) 256 cm) ms :: L)))
  case atStart => exact ⟨sp.f0, ms, rfl, ⟨HSP.out.1, rfl⟩, HK.out.2.2, S⟩
  case round =>
   clear S; obtain ⟨b, ms2, rfl, hb, hms2, S⟩ := hrel; obtain ⟨ad2, e0, -, x1⟩ := at_T160 (HC.out _ S.out.tail) (k : Int) (by omega) (by have := HK.out; omega); cases e0
   rw [Int.toNat_natCast, HES.out] at x1
   by_cases cb : b ≤ sp.f1
   ·have h3 := eq_true cb
    obtain ⟨zk, fk⟩ := S.out.cellR 0 false rfl b hb.1 (by have := HSP.out; omega); have h4 := eq_true hb.1; have h5 := eq_true (show b < (256 : Int) by have := HSP.out; omega); have WN := Aside0.mk (show wrap64 (b + 1) = b + 1 from w64 (by omega) (by have := HSP.out; omega)); obtain ⟨gk2, egk⟩ : ∃ q, q = gk := ⟨_, rfl⟩; have HB := Aside0.mk (show ((0 ≤ b ∧ (256 - b).toNat = gk2) ∧ b ≤ sp.f1 ∧ ms2.length = 256) ∧ gk2 = gk from ⟨⟨by rw [egk]; exact hb, cb, hms2⟩, egk⟩); clear hb cb hms2 egk
    go_wp2
    have S3 := Aside0.mk (S.out.putRow 0 rfl b true)
    go_roundg (256 - (b + 1)).toNat
    case measure => have := HB.out; have := HSP.out; omega
    case rel => exact ⟨b + 1, ms2.set b.toNat true, congrArg (Value.int .i64) WN.out, ⟨by have := HB.out; omega, rfl⟩, by rw [List.length_set]; exact HB.out.1.2.2, S3⟩
   ·have h3 := eq_false cb
    have WN := Aside0.mk (show wrap64 ((k : Int) + 1) = ((k + 1 : Nat) : Int) from nat_next (by have := HL.out; have := HK.out; omega)); have HMS2 := Aside0.mk hms2; clear hb cb hms2
    go_wp2
    go_roundg (xs.length - (k + 1))
    case measure => have := HK.out; omega
    case rel => exact ⟨k + 1, ms2, congrArg (Value.int .i64) WN.out, by have := HK.out; omega, HMS2.out, S⟩
end

/-! ### spec_l1Both: function 200 -/
section
open Go.Proofs.Ytfajfjgkkgigoaa.Kit
set_option maxHeartbeats 4000000 in
set_option maxRecDepth 100000 in
theorem spec_l1Both.w {base : Nat} {w0 w : World} {L : List Fact} (S : Hp base w0 w L) (A1 A2 : Option Addr) (c1 c2 : Nat) (xs ys : List S160) (hC1 : ∀ W, Hp base w0 W L → Kd.C k160 W A1 xs.length xs) (hC2 : ∀ W, Hp base w0 W L → Kd.C k160 W A2 ys.length ys) (hl1 : xs.length ≤ 1048576) (hl2 : ys.length ≤ 1048576) (hc1 : xs.length ≤ c1) (hc2 : ys.length ≤ c2) :
  Calls Try.prog 200 #[.slice A1 xs.length c1, .slice A2 ys.length c2, .int .i64 2] w (RPost base w0 L 256) := by
 replace S := Aside0.mk S
 have HC1 := Aside0.mk hC1
 have HC2 := Aside0.mk hC2
 have HLC := Aside0.mk (And.intro hc1 hc2)
 clear hC1 hC2
 obtain ⟨b1, hb1⟩ := clsTot2 xs hl1
 have Hb1 := Aside0.mk hb1
 clear hb1
 obtain ⟨b2, hb2⟩ := clsTot2 ys hl2
 have Hb2 := Aside0.mk hb2
 clear hb2
 clear hl1 hl2 hc1 hc2
 go_enter Try.func200, Try.ntmps200
 go_wp2_with fail
 have hcl := spec_ClassOk.calls (xs.length + 1) A1 c1 xs b1 _ (HC1.out _ S.out) HLC.out.1 (Hb1.out.1)
 refine hcl.mono ?_
 clear hcl
 rintro e w_ ⟨rfl, hb⟩
 replace S := Aside0.mk (S.out.go hb)
 clear hb
 cases b1 with
 | false =>
  go_wp2_with (first | ((with_reducible refine gate_dst (N := 18) rfl ?_); refine ev_lit S (k160) (160) rfl rfl (xs := ([] : List S160)) (inner := []) (by first | (go_simp; done) | (go_simp; rfl)) (Reps.none _ _) (by simp) (fun v18 w_ S1 => ?_); clear S; have S := S1; clear S1))
  go_ret
  exact ⟨_, [], rfl, by simp, S.out⟩
 | true =>
  go_wp2_with fail
  have hcl := spec_ClassOk.calls (ys.length + 1) A2 c2 ys b2 _ (HC2.out _ S.out) HLC.out.2 (Hb2.out.1)
  refine hcl.mono ?_
  clear hcl
  rintro e w_ ⟨rfl, hb⟩
  replace S := Aside0.mk (S.out.go hb); clear hb
  cases b2 with
  | false =>
   go_wp2_with (first | ((with_reducible refine gate_dst (N := 18) rfl ?_); refine ev_lit S (k160) (160) rfl rfl (xs := ([] : List S160)) (inner := []) (by first | (go_simp; done) | (go_simp; rfl)) (Reps.none _ _) (by simp) (fun v18 w_ S1 => ?_); clear S; have S := S1; clear S1))
   go_ret
   exact ⟨_, [], rfl, by simp, S.out⟩
  | true =>
   have HT1 := Aside0.mk (Hb1.out.2 (by first | rfl | trivial)); have HT2 := Aside0.mk (Hb2.out.2 (by first | rfl | trivial))
   go_wp2_with fail
   refine (spec_l1Marks.w S.out A1 c1 xs HC1.out HT1.out.1 HT1.out.2).mono ?_
   rintro e w_ ⟨ga, ca, ma, rfl, hma, S1⟩
   replace S := Aside0.mk S1; clear S1
   go_wp2_with fail
   refine (spec_l1Marks.w S.out A2 c2 ys (fun W q => HC2.out W q.tail) HT2.out.1 HT2.out.2).mono ?_
   rintro e w_ ⟨gb, cb, mb, rfl, hmb, S1⟩
   replace S := Aside0.mk S1; have HMB := Aside0.mk hmb; clear S1 hmb
   go_wp2
   go_loopg [9] 256 (fun gk v9 wr => ∃ (k : Int) (ma : List Bool), v9 = .int .i64 k ∧ (0 ≤ k ∧ k + gk = 256) ∧ ma.length = 256 ∧ Aside0 (Hp base w0 wr (fR Kd.bool 4 base (.slice (some ⟨gb, 0, none⟩) 256 cb) mb :: fR Kd.bool 4 base (.slice (some ⟨ga, 0, none⟩) 256 ca) ma :: L)))
   case atStart => exact ⟨0, ma, rfl, ⟨Int.le_refl _, rfl⟩, hma, S⟩
   case round =>
    clear S hma ma; obtain ⟨k, ma, rfl, hk, hma, S⟩ := hrel
    by_cases cc : k < 256
    case neg =>
     have h1 := eq_false cc
     go_wp2_with fail
     refine (spec_l1Class.w S.out 1 _ _ ma rfl).mono ?_
     rintro e w_ ⟨v, zs, rfl, hx, S1⟩
     have HX := Aside0.mk hx; have S2 := Aside0.mk (Hp.pick (A := [_, _, _]) [0] S1 (by decide) (by simp)); clear S S1 hx
     go_wp2
     go_ret
     exact ⟨v, zs, rfl, HX.out, S2.out⟩
    have h1 := eq_true cc; have h2 := eq_true hk.1; obtain ⟨za, fa⟩ := S.out.cellR 1 false rfl k hk.1 (by omega); obtain ⟨zb, -⟩ := S.out.cellR 0 false rfl k hk.1 (by omega); generalize rdOf false ma k = ba at za; generalize rdOf false mb k = bb at zb; obtain ⟨gk2, egk⟩ : ∃ q, q = gk := ⟨_, rfl⟩; have HK := Aside0.mk (show ((0 ≤ k ∧ k + (gk2 : Int) = 256) ∧ k < 256 ∧ ma.length = 256) ∧ gk2 = gk from ⟨⟨by rw [egk]; exact hk, cc, hma⟩, egk⟩); have WN := Aside0.mk (show wrap64 (k + 1) = k + 1 from w64 (by omega) (by omega)); clear hk cc hma egk
    have key : ∀ r : Bool, Aside0 (Hp base w0 (wr.setCell ⟨ga, k.toNat, none⟩ (.bool r)) (fR Kd.bool 4 base (.slice (some ⟨gb, 0, none⟩) 256 cb) mb :: fR Kd.bool 4 base (.slice (some ⟨ga, 0, none⟩) 256 ca) (ma.set k.toNat r) :: L)) := fun r => ⟨S.out.putRow 1 rfl k r⟩
    clear S
    cases ba <;> cases bb
    all_goals
     go_wp2
     go_roundg (gk2 - 1)
     case measure => have := HK.out; omega
     case rel => exact ⟨k + 1, _, congrArg (Value.int .i64) WN.out, by have := HK.out; omega, by rw [List.length_set]; exact HK.out.1.2.2, key _⟩
end

/-! ### spec_Without: function 199 -/
section
open Go.Proofs.Ytfajfjgkkgigoaa.Kit
set_option maxHeartbeats 4000000 in
set_option maxRecDepth 100000 in
theorem spec_Without.w {base : Nat} {w0 w : World} {L : List Fact} (S : Hp base w0 w L) (A1 A2 : Option Addr) (c1 c2 : Nat) (xs ys : List S160) (hC1 : ∀ W, Hp base w0 W L → Kd.C k160 W A1 xs.length xs) (hC2 : ∀ W, Hp base w0 W L → Kd.C k160 W A2 ys.length ys) (hl1 : xs.length ≤ 1048576) (hl2 : ys.length ≤ 1048576) (hc1 : xs.length ≤ c1) (hc2 : ys.length ≤ c2) :
  Calls Try.prog 199 #[.slice A1 xs.length c1, .slice A2 ys.length c2] w (RPost base w0 L 256) := by
 replace S := Aside0.mk S
 have HX := Aside0.mk (spec_l1Both.w S.out A1 A2 c1 c2 xs ys hC1 hC2 hl1 hl2 hc1 hc2)
 clear hC1 hC2 hl1 hl2 hc1 hc2
 go_enter Try.func199, Try.ntmps199
 go_wp2_with fail
 refine HX.out.mono ?_
 rintro e w_ ⟨v, zs, rfl, hx, S1⟩
 have HX1 := Aside0.mk hx
 replace S := Aside0.mk S1
 clear S1 hx HX
 go_wp2
 go_ret
 exact ⟨v, zs, rfl, HX1.out, S.out⟩
end

/-! ### spec_Others: function 198 -/
section
open Go.Proofs.Ytfajfjgkkgigoaa.Kit
set_option maxHeartbeats 4000000 in
set_option maxRecDepth 100000 in
theorem spec_Others.w {base : Nat} {w0 w : World} {L : List Fact} (S : Hp base w0 w L) (A : Option Addr) (c : Nat) (xs : List S160) (hC : ∀ W, Hp base w0 W L → Kd.C k160 W A xs.length xs) (hl : xs.length ≤ 1048576) (hcl : xs.length ≤ c) :
  Calls Try.prog 198 #[.slice A xs.length c] w (RPost base w0 L 256) := by
 replace S := Aside0.mk S
 have HC := Aside0.mk hC
 have HLC := Aside0.mk hcl
 obtain ⟨b1, hb1⟩ := clsTot2 xs hl
 have Hb1 := Aside0.mk hb1
 clear hb1
 have HL := Aside0.mk hl
 clear hC hl hcl
 go_enter Try.func198, Try.ntmps198
 go_wp2_with fail
 have hcl := spec_ClassOk.calls (xs.length + 1) A c xs b1 _ (HC.out _ S.out) HLC.out (Hb1.out.1)
 refine hcl.mono ?_
 clear hcl
 rintro e w_ ⟨rfl, hb⟩
 replace S := Aside0.mk (S.out.go hb)
 clear hb
 cases b1 with
 | false =>
  go_wp2_with (first | ((with_reducible refine gate_dst (N := 6) rfl ?_); refine ev_lit S (k160) (160) rfl rfl (xs := ([] : List S160)) (inner := []) (by first | (go_simp; done) | (go_simp; rfl)) (Reps.none _ _) (by simp) (fun v18 w_ S1 => ?_); clear S; have S := S1; clear S1))
  go_ret
  exact ⟨_, [], rfl, by simp, S.out⟩
 | true =>
  go_wp2_with (first | ((with_reducible refine gate_dst (N := 8) rfl ?_); refine ev_lit S (k160) (160) rfl rfl (xs := [(⟨0, 255⟩ : S160)]) (inner := [.int .i64 0, .int .i64 255]) (by first | (go_simp; done) | (go_simp; rfl)) (Reps.c2 (show Kd.M k160 _ _ _ (⟨0, 255⟩ : S160) [.int .i64 (0), .int .i64 (255)] from k160_mkM _ _ _ (⟨0, 255⟩ : S160)) (Reps.none _ _)) (by simp) (fun v8 w_ S1 => ?_); clear S; have S := S1; clear S1; obtain ⟨A8, c8, rfl⟩ := S.out.slice 0 rfl))
  have HF := Aside0.mk (show ∀ W, Hp base w0 W (fR k160 160 base (.slice A8 ([(⟨0, 255⟩ : S160)] : List S160).length c8) [(⟨0, 255⟩ : S160)] :: L) → Kd.C k160 W A8 ([(⟨0, 255⟩ : S160)] : List S160).length [(⟨0, 255⟩ : S160)] from fun W q => (q.row 0 rfl).2.2)
  refine (spec_Without.w S.out A8 A c8 c [(⟨0, 255⟩ : S160)] xs HF.out (fun W q => HC.out W q.tail) (by simp) HL.out (S.out.row 0 rfl).2.1 HLC.out).mono ?_
  rintro e w_ ⟨v, zs, rfl, hx, S1⟩
  have HX1 := Aside0.mk hx; have S2 := Aside0.mk (Hp.pick (A := [_, _]) [0] S1 (by decide) (by simp)); clear S S1 hx
  go_wp2
  go_ret
  exact ⟨v, zs, rfl, HX1.out, S2.out⟩
end

end Go.Proofs.Ytfajfjgkkgigoaa.PFnDead
