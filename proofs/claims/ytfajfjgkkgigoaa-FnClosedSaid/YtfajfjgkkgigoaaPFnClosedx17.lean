-- Written by this session's own program (wip/pr.py) over the kit's printer; contracts that the printer does not know are given by hand.
import Derived.Test.YtfajfjgkkgigoaaPFnClosedx0
import Derived.Test.YtfajfjgkkgigoaaPFnClosedx1
import Derived.Test.YtfajfjgkkgigoaaPFnClosedx7
import Derived.Test.YtfajfjgkkgigoaaPFnClosedx8
import Derived.Test.YtfajfjgkkgigoaaPFnClosedx9
import Derived.Test.YtfajfjgkkgigoaaPFnClosedx10
import Derived.Test.YtfajfjgkkgigoaaPFnClosedx16
namespace Go.Proofs.Ytfajfjgkkgigoaa.PFnClosed
open Go.RowKit Go.Proofs.YtfajfjgkkgigoaaW.PrintWords Go.Proofs.YtfajfjgkkgigoaaW.PrintLast Go.Proofs.YtfajfjgkkgigoaaW.PrintMore
attribute [local go_sem] max2_int min2_int max_two min_two max_three min_three max_four min_four   -- for this text's walks alone
set_option linter.unusedVariables false
set_option linter.unusedSimpArgs false

/-! ### laws_FnClosed: function 4 -/
section
open Go.Proofs.Ytfajfjgkkgigoaa.Kit
theorem hp_res {base : Nat} {w0 W W' : World} {L : List Fact} (h : Hp base w0 W L) {α : Type} {d : Kd α} {e : Nat} {v : Value} {xs : List α} (hv : d.R e W' W.heap.size (fun _ => True) v xs) (hb : Below W.heap.size W W') : Hp base w0 W' (fR d e base v xs :: L) := h.add hb _ (hp_new hv h.size)
/-- what a closure is, and moving on -/
def ClosedAt (k : Nat) (s : Int) (es : List S85) (fs : List S156) (st : List Int) (b : Int) (c m : List Int) : Prop :=
 impl_Closure.f k s es fs st = some c ∧ impl_MoveOn.f k s es fs st b = some m ∧ spec_Closure.f k s es fs st = some c ∧ spec_MoveOn.f k s es fs st b = some m ∧ laws_sameInts.f k c c = some true ∧ laws_sameInts.f k m m = some true ∧ (c.length ≠ 0 → (∀ x ∈ st, laws_has.f k c x = some true) ∧ impl_Closure.f k s es fs c = some c ∧ impl_MoveOn.f k s es fs c b = some m ∧ (m.length ≠ 0 → impl_Closure.f k s es fs m = some m))
def laws_FnClosed.ok (l0 : List Int) : Prop := (∀ x ∈ l0, 0 ≤ x ∧ x ≤ 255) ∧ ∀ (s : Int) (es : List S85) (fs : List S156) (st : List Int) (b : Int), I64 s → (es.length ≤ 30000 ∧ fs.length ≤ 40 ∧ ∀ e ∈ es, e.f2.length ≤ 1000) → st.length ≤ 6 → (0 ≤ b ∧ b ≤ 255) → ∃ k c m, ClosedAt k s es fs st b c m
open Classical in
noncomputable def laws_FnClosed.f (k : Nat) (l0 : List Int) : Option Bool := if laws_FnClosed.ok l0 then some true else none
set_option maxHeartbeats 8000000 in
set_option maxRecDepth 100000 in
theorem laws_FnClosed.calls (k : Nat) (A0 : Option Addr) (c0 : Nat) (l0 : List Int) (r : Bool) (w : World) (hr0 : Kd.C (Kd.int .u8) w A0 l0.length l0) (hc0 : l0.length ≤ c0) (h : laws_FnClosed.f k l0 = some r) :
  Calls Try.prog 4 #[.slice A0 l0.length c0] w fun e w' => e = .returned (.bool r) ∧ Below w.heap.size w w' := by
 unfold laws_FnClosed.f at h
 by_cases ho : laws_FnClosed.ok l0
 case neg => rw [if_neg ho] at h; cases h
 rw [if_pos ho] at h
 obtain rfl := Option.some.inj h
 obtain ⟨hb8, hok⟩ := ho
 have HOK := Aside0.mk hok
 have HR := Aside0.mk hr0
 have HC := Aside0.mk hc0
 have HB8 := Aside0.mk hb8
 clear h hok hr0 hc0 hb8 k
 go_enter Try.func4, Try.ntmps4
 go_wp2_with fail
 refine (laws_big.calls _ _ l0 _ _ HR.out HC.out rfl).mono ?_
 rintro e w_ ⟨rfl, hd⟩
 have S := Aside0.mk ((Hp.start w).go hd.below)
 clear hd
 by_cases cb : (l0.length : Int) > 1048576
 ·rw [decide_eq_true cb]
  clear cb
  go_wp2
  go_ret
  exact ⟨rfl, S.out.below⟩
 have HB := Aside0.mk (show RdOK w.heap.size w A0 l0 from ⟨by omega, HB8.out, fun W hW => Kd.C_below HR.out hW⟩)
 rw [decide_eq_false cb]
 clear cb HB8
 go_wp2_with fail
 refine (spec_DrawMoveOn.w S.out A0 c0 l0 HB.out).mono ?_
 rintro e w_ ⟨s, ve, es, vf, fs, va, st, b, rfl, hs, he, hst, hb, S1⟩
 obtain ⟨k, c, m, h1, h2, h3, h4, h5, h6, h7⟩ := HOK.out s es fs st b hs he hst hb
 have H1 := Aside0.mk h1
 have H2 := Aside0.mk h2
 have H3 := Aside0.mk h3
 have H4 := Aside0.mk h4
 have H5 := Aside0.mk h5
 have H6 := Aside0.mk h6
 have H7 := Aside0.mk h7
 have HST := Aside0.mk hst
 obtain ⟨Ae, ce, rfl⟩ := S1.slice 0 rfl
 obtain ⟨Af, cf_, rfl⟩ := S1.slice 1 rfl
 obtain ⟨Aa, ca, rfl⟩ := S1.slice 2 rfl
 replace S := Aside0.mk S1
 clear S1 hs he hst hb h1 h2 h3 h4 h5 h6 h7 HOK HR HC HB
 go_wp2_with (first | ((with_reducible refine gate_dst (N := 3) rfl ?_); refine ev_box S rfl rfl (cs := #[.int .i64 0, .slice none 0 0, .slice none 0 0]) (t := 36) (by first | (go_simp; done) | (go_simp; rfl)) (fun g3 w_ Gg3 S1 => ?_); clear S; have S := S1; clear S1; have z0 := S.out.cell 0 0 rfl rfl; have z1 := S.out.cell 0 1 rfl rfl; have z2 := S.out.cell 0 2 rfl rfl; have f0 := S.out.frozen 0 0 rfl; have f1 := S.out.frozen 0 1 rfl; have f2 := S.out.frozen 0 2 rfl) | ((with_reducible refine gate_store (t := 36) (p := 3) rfl ?_); refine ev_run (w1 := ((((_ : World)).setCell ⟨g3, 0, none⟩ (.int .i64 s)).setCell ⟨g3, 1, none⟩ (.slice Ae es.length ce)).setCell ⟨g3, 2, none⟩ (.slice Af fs.length cf_)) rfl rfl (by first | (go_simp; done) | (go_simp; rfl)) (fun w_ hw => ?_); have S1 := Aside0.mk ((((S.out).put 0 0 (u := .int .i64 s) rfl rfl).put 0 1 (u := .slice Ae es.length ce) rfl rfl).put 0 2 (u := .slice Af fs.length cf_) rfl rfl); rw [← hw] at S1; clear hw; clear S; have S := S1; clear S1; clear z0 z1 z2 f0 f1 f2; replace S := Aside0.mk (show Hp w.heap.size w _ (fB w.heap.size g3 #[.int .i64 s, (.slice Ae es.length ce), (.slice Af fs.length cf_)] 36 :: fR k85 85 w.heap.size (.slice Ae es.length ce) es :: fR k156 156 w.heap.size (.slice Af fs.length cf_) fs :: fR (Kd.int .i64) 2 w.heap.size (.slice Aa st.length ca) st :: []) from S.out); have z0 := S.out.cell 0 0 rfl rfl; have z1 := S.out.cell 0 1 rfl rfl; have z2 := S.out.cell 0 2 rfl rfl))
 have RE := (S.out.row 1 rfl).2
 have RF := (S.out.row 2 rfl).2
 have RI := (S.out.row 3 rfl).2
 refine (impl_Closure.calls k _ _ _ es _ _ fs _ _ st c _ RE.2 RE.1 RF.2 RF.1 RI.2 RI.1 H1.out).mono ?_
 rintro e w_ ⟨v, rfl, hv, hb⟩
 replace S := Aside0.mk (hp_res S.out hv hb)
 obtain ⟨Ac, cc, rfl⟩ := S.out.slice 0 rfl
 clear hv hb z0 z1 z2 RE RF RI H1
 have z0 := S.out.cell 1 0 rfl rfl
 have z1 := S.out.cell 1 1 rfl rfl
 have z2 := S.out.cell 1 2 rfl rfl
 go_wp2_with fail
 have RE := (S.out.row 2 rfl).2
 have RF := (S.out.row 3 rfl).2
 have RI := (S.out.row 4 rfl).2
 refine (impl_MoveOn.calls k _ _ _ es _ _ fs _ _ st b m _ RE.2 RE.1 RF.2 RF.1 RI.2 RI.1 H2.out).mono ?_
 rintro e w_ ⟨v, rfl, hv, hb⟩
 replace S := Aside0.mk (hp_res S.out hv hb)
 obtain ⟨Am, cm, rfl⟩ := S.out.slice 0 rfl
 clear hv hb z0 z1 z2 RE RF RI H2
 have z0 := S.out.cell 2 0 rfl rfl
 have z1 := S.out.cell 2 1 rfl rfl
 have z2 := S.out.cell 2 2 rfl rfl
 go_wp2_with fail
 have RE := (S.out.row 3 rfl).2
 have RF := (S.out.row 4 rfl).2
 have RI := (S.out.row 5 rfl).2
 refine (spec_Closure.calls k _ _ _ es _ _ fs _ _ st c _ RE.2 RE.1 RF.2 RF.1 RI.2 RI.1 H3.out).mono ?_
 rintro e w_ ⟨v, rfl, hv, hb⟩
 replace S := Aside0.mk (hp_res S.out hv hb)
 obtain ⟨Ax, cx, rfl⟩ := S.out.slice 0 rfl
 clear hv hb z0 z1 z2 RE RF RI H3
 go_wp2_with fail
 have RC := (S.out.row 2 rfl).2
 have RX := (S.out.row 0 rfl).2
 refine (laws_sameInts.calls k _ _ c _ _ c true _ RC.2 RC.1 RX.2 RX.1 H5.out).mono ?_
 rintro e w_ ⟨rfl, hd⟩
 replace S := Aside0.mk (S.out.go hd.below).tail
 clear hd RC RX
 have z0 := S.out.cell 2 0 rfl rfl
 have z1 := S.out.cell 2 1 rfl rfl
 have z2 := S.out.cell 2 2 rfl rfl
 go_wp2_with fail
 have RE := (S.out.row 3 rfl).2
 have RF := (S.out.row 4 rfl).2
 have RI := (S.out.row 5 rfl).2
 refine (spec_MoveOn.calls k _ _ _ es _ _ fs _ _ st b m _ RE.2 RE.1 RF.2 RF.1 RI.2 RI.1 H4.out).mono ?_
 rintro e w_ ⟨v, rfl, hv, hb⟩
 replace S := Aside0.mk (hp_res S.out hv hb)
 obtain ⟨Ax, cx, rfl⟩ := S.out.slice 0 rfl
 clear hv hb z0 z1 z2 RE RF RI H4
 go_wp2_with fail
 have RC := (S.out.row 1 rfl).2
 have RX := (S.out.row 0 rfl).2
 refine (laws_sameInts.calls k _ _ m _ _ m true _ RC.2 RC.1 RX.2 RX.1 H6.out).mono ?_
 rintro e w_ ⟨rfl, hd⟩
 replace S := Aside0.mk (S.out.go hd.below).tail
 clear hd RC RX
 by_cases cc0 : c.length = 0
 ·have n0 := eq_true (show (c.length : Int) = 0 from by omega)
  have n1 := beq_iff_eq.2 (show (c.length : Int) = 0 from by omega)
  go_wp2
  go_ret
  exact ⟨rfl, S.out.below⟩
 obtain ⟨g1, g2, g3_, g4⟩ := H7.out cc0
 have G1 := Aside0.mk g1
 have G2 := Aside0.mk g2
 have G3 := Aside0.mk g3_
 have G4 := Aside0.mk g4
 have n0 := eq_false (show ¬ (c.length : Int) = 0 from by omega)
 have n1 := beq_eq_false_iff_ne.2 (show ¬ (c.length : Int) = 0 from by omega)
 clear H7 g1 g2 g3_ g4 cc0
 go_wp2
 go_loopg [8] st.length (fun gk v8 wr => ∃ i : Nat, v8 = .int .i64 (i : Int) ∧ i + gk = st.length ∧ Aside0 (Hp w.heap.size w wr (fR (Kd.int .i64) 2 w.heap.size (.slice Am m.length cm) m :: fR (Kd.int .i64) 2 w.heap.size (.slice Ac c.length cc) c :: fB w.heap.size g3 #[.int .i64 s, (.slice Ae es.length ce), (.slice Af fs.length cf_)] 36 :: fR k85 85 w.heap.size (.slice Ae es.length ce) es :: fR k156 156 w.heap.size (.slice Af fs.length cf_) fs :: fR (Kd.int .i64) 2 w.heap.size (.slice Aa st.length ca) st :: [])))
 case atStart => exact ⟨0, rfl, by omega, S⟩
 case round =>
  clear S; obtain ⟨i, rfl, hi, S⟩ := hrel; obtain ⟨gk_, egk⟩ : ∃ q, q = gk := ⟨_, rfl⟩; have HI := Aside0.mk (show i + gk_ = st.length ∧ gk_ = gk from ⟨by omega, egk⟩); clear egk hi
  by_cases ci : i < st.length
  case neg =>
   have h1 := eq_false (show ¬ (i : Int) < (st.length : Int) from by omega); clear ci; have z0 := S.out.cell 2 0 rfl rfl; have z1 := S.out.cell 2 1 rfl rfl; have z2 := S.out.cell 2 2 rfl rfl
   go_wp2_with fail
   have RE := (S.out.row 3 rfl).2; have RF := (S.out.row 4 rfl).2; have RI := (S.out.row 1 rfl).2
   refine (impl_Closure.calls k _ _ _ es _ _ fs _ _ c c _ RE.2 RE.1 RF.2 RF.1 RI.2 RI.1 G2.out).mono ?_
   rintro e w_ ⟨v, rfl, hv, hb⟩
   replace S := Aside0.mk (hp_res S.out hv hb); obtain ⟨Ax, cx, rfl⟩ := S.out.slice 0 rfl; clear hv hb z0 z1 z2 RE RF RI G2
   go_wp2_with fail
   have RC := (S.out.row 2 rfl).2; have RX := (S.out.row 0 rfl).2
   refine (laws_sameInts.calls k _ _ c _ _ c true _ RX.2 RX.1 RC.2 RC.1 H5.out).mono ?_
   rintro e w_ ⟨rfl, hd⟩
   replace S := Aside0.mk (S.out.go hd.below).tail; clear hd RC RX; have z0 := S.out.cell 2 0 rfl rfl; have z1 := S.out.cell 2 1 rfl rfl; have z2 := S.out.cell 2 2 rfl rfl
   go_wp2_with fail
   have RE := (S.out.row 3 rfl).2; have RF := (S.out.row 4 rfl).2; have RI := (S.out.row 1 rfl).2
   refine (impl_MoveOn.calls k _ _ _ es _ _ fs _ _ c b m _ RE.2 RE.1 RF.2 RF.1 RI.2 RI.1 G3.out).mono ?_
   rintro e w_ ⟨v, rfl, hv, hb⟩
   replace S := Aside0.mk (hp_res S.out hv hb); obtain ⟨Ax, cx, rfl⟩ := S.out.slice 0 rfl; clear hv hb z0 z1 z2 RE RF RI G3
   go_wp2_with fail
   have RC := (S.out.row 1 rfl).2; have RX := (S.out.row 0 rfl).2
   refine (laws_sameInts.calls k _ _ m _ _ m true _ RX.2 RX.1 RC.2 RC.1 H6.out).mono ?_
   rintro e w_ ⟨rfl, hd⟩
   replace S := Aside0.mk (S.out.go hd.below).tail; clear hd RC RX; have z0 := S.out.cell 2 0 rfl rfl; have z1 := S.out.cell 2 1 rfl rfl; have z2 := S.out.cell 2 2 rfl rfl
   by_cases cm0 : m.length = 0
   ·have m0 := eq_true (show (m.length : Int) = 0 from by omega)
    have m1 := beq_iff_eq.2 (show (m.length : Int) = 0 from by omega)
    go_wp2
    go_ret
    exact ⟨rfl, S.out.below⟩
   have G5 := Aside0.mk (G4.out cm0); have m0 := eq_false (show ¬ (m.length : Int) = 0 from by omega); have m1 := beq_eq_false_iff_ne.2 (show ¬ (m.length : Int) = 0 from by omega); clear cm0 G4
   go_wp2_with fail
   have RE := (S.out.row 3 rfl).2; have RF := (S.out.row 4 rfl).2; have RI := (S.out.row 0 rfl).2
   refine (impl_Closure.calls k _ _ _ es _ _ fs _ _ m m _ RE.2 RE.1 RF.2 RF.1 RI.2 RI.1 G5.out).mono ?_
   rintro e w_ ⟨v, rfl, hv, hb⟩
   replace S := Aside0.mk (hp_res S.out hv hb); obtain ⟨Ax, cx, rfl⟩ := S.out.slice 0 rfl; clear hv hb z0 z1 z2 RE RF RI G5
   go_wp2_with fail
   have RC := (S.out.row 1 rfl).2; have RX := (S.out.row 0 rfl).2
   refine (laws_sameInts.calls k _ _ m _ _ m true _ RX.2 RX.1 RC.2 RC.1 H6.out).mono ?_
   rintro e w_ ⟨rfl, hd⟩
   replace S := Aside0.mk (S.out.go hd.below).tail; clear hd RC RX
   go_wp2
   go_ret
   exact ⟨rfl, S.out.below⟩
  have h1 := eq_true (show (i : Int) < (st.length : Int) from by omega); obtain ⟨ga, ca2, ef⟩ := S.out.form 5 rfl (by omega)
  injection ef with ef _ ef2
  subst ef; subst ef2; have zi := (S.out.cellR 5 (0 : Int) rfl (i : Int) (by omega) (by omega)).1
  simp only [rdOf, Int.toNat_natCast] at zi
  have HX := Aside0.mk (G1.out (st.getD i 0) (by rw [List.getD_eq_getElem?_getD, List.getElem?_eq_getElem ci]; exact List.getElem_mem ci)); have HCI := Aside0.mk ci; clear ci
  go_wp2_with fail
  have RC := (S.out.row 1 rfl).2
  refine (laws_has.calls k _ _ c _ true _ RC.2 RC.1 HX.out).mono ?_
  rintro e w_ ⟨rfl, hd⟩
  replace S := Aside0.mk (S.out.go hd.below); clear hd RC zi HX; have WN := Aside0.mk (show wrap64 ((i : Int) + 1) = ((i + 1 : Nat) : Int) from by rw [w64 (by omega) (by have := HST.out; have := HCI.out; omega)]; omega)
  go_wp2
  go_roundg (gk_ - 1)
  case measure => have := HI.out; have := HCI.out; omega
  case rel => exact ⟨i + 1, congrArg (Value.int .i64) WN.out, by have := HI.out; have := HCI.out; omega, S⟩
end

end Go.Proofs.Ytfajfjgkkgigoaa.PFnClosed
