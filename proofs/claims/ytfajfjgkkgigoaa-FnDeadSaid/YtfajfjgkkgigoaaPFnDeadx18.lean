-- Written by this session's own program (wip/pr.py) over the kit's printer; contracts that the printer does not know are given by hand.
import Derived.Test.YtfajfjgkkgigoaaPFnDeadx0
import Derived.Test.YtfajfjgkkgigoaaPFnDeadx1
import Derived.Test.YtfajfjgkkgigoaaPFnDeadx9
import Derived.Test.YtfajfjgkkgigoaaPFnDeadx10
import Derived.Test.YtfajfjgkkgigoaaPFnDeadx11
import Derived.Test.YtfajfjgkkgigoaaPFnDeadx17
namespace Go.Proofs.Ytfajfjgkkgigoaa.PFnDead
open Go.RowKit Go.Proofs.YtfajfjgkkgigoaaW.PrintWords Go.Proofs.YtfajfjgkkgigoaaW.PrintLast Go.Proofs.YtfajfjgkkgigoaaW.PrintMore
attribute [local go_sem] max2_int min2_int max_two min_two max_three min_three max_four min_four   -- for this text's walks alone
set_option linter.unusedVariables false
set_option linter.unusedSimpArgs false

/-! ### spec_DrawDeadOf: function 26 -/
section
open Go.Proofs.Ytfajfjgkkgigoaa.Kit
set_option maxHeartbeats 4000000 in
set_option maxRecDepth 100000 in
theorem spec_DrawDeadOf.w {base : Nat} {w0 w : World} {L : List Fact} (S : Hp base w0 w L) (Ab : Option Addr) (cb : Nat) (bs : List Int) (hB : RdOK base w0 Ab bs) (hbd : BdOK) :
  Calls Try.prog 26 #[.slice Ab bs.length cb] w (ODPost base w0 L) := by
 replace S := Aside0.mk S
 have HB := Aside0.mk hB
 have HBD := Aside0.mk hbd
 clear hB hbd
 go_enter Try.func26, Try.ntmps26
 go_wp2_with (first | ((with_reducible refine gate_dst (N := 2) rfl ?_); refine ev_box S rfl rfl (cs := #[.slice none 0 0, .slice none 0 0, .slice none 0 0]) (t := 30) (by first | (go_simp; done) | (go_simp; rfl)) (fun g2 w_ Gg2 S1 => ?_); clear S; have S := S1; clear S1))
 refine (spec_DrawDfaOk.w S.out Ab cb bs HB.out HBD.out).mono ?_
 rintro e w_ ⟨vb, b, vn, nx, va, ac, rfl, ho, S1⟩
 obtain ⟨Aq, cq, rfl⟩ := S1.sliceF 0 rfl
 obtain ⟨An, cn, rfl⟩ := S1.sliceF 1 rfl
 obtain ⟨Aa, ca, rfl⟩ := S1.sliceF 2 rfl
 have HO := Aside0.mk ho
 replace S := Aside0.mk S1
 clear S1 ho
 have y0 := S.out.cell 3 0 rfl rfl
 have y1 := S.out.cell 3 1 rfl rfl
 have y2 := S.out.cell 3 2 rfl rfl
 have f0 := S.out.frozen 3 0 rfl
 have f1 := S.out.frozen 3 1 rfl
 have f2 := S.out.frozen 3 2 rfl
 go_wp2
 have S1 := Aside0.mk ((((S.out).put 3 0 (u := .slice Aq b.length cq) rfl rfl).put 3 1 (u := .slice An nx.length cn) rfl rfl).put 3 2 (u := .slice Aa ac.length ca) rfl rfl)
 refine bodyPost_ret (results_cell_row rfl _ _ g2 30 #[.slice Aq b.length cq, .slice An nx.length cn, .slice Aa ac.length ca] (0, 0) _ rfl (S1.out.blk 3 rfl) Try.underlying30 rfl (by kernel_rfl)) rfl ?_
 exact ⟨_, b, _, nx, _, ac, rfl, HO.out, Hp.pick (A := [_, _, _, _]) [0, 1, 2] S1.out (by decide) (by simp)⟩
end

/-! ### laws_FnDead: function 5 -/
section
open Go.Proofs.Ytfajfjgkkgigoaa.Kit
theorem hp_res {base : Nat} {w0 W W' : World} {L : List Fact} (h : Hp base w0 W L) {α : Type} {d : Kd α} {e : Nat} {v : Value} {xs : List α} (hv : d.R e W' W.heap.size (fun _ => True) v xs) (hb : Below W.heap.size W W') : Hp base w0 W' (fR d e base v xs :: L) := h.add hb _ (hp_new hv h.size)
/-- what the dead states are -/
def DeadAt (k : Nat) (b : List Int) (nx : List (List Int)) (ac dead : List Int) (okb : Bool) (D : Int → Bool) : Prop :=
 impl_DeadOf.f k b nx ac = some dead ∧ spec_DeadOf.f k b nx ac = some dead ∧ laws_sameInts.f k dead dead = some true ∧ spec_DfaOk.f k b nx ac = some okb ∧ (∀ x, laws_has.f k dead x = some (D x)) ∧ (okb = false → dead.length = 0) ∧ (okb = true → ac.length = nx.length ∧ ∀ s : Nat, s < nx.length → (D s = false → 0 ≤ rd ac (s : Int) ∨ ∃ j : Nat, j < (nx.getD s []).length ∧ D (rd (nx.getD s []) (j : Int)) = false) ∧ (D s = true → rd ac (s : Int) < 0 ∧ ∀ j : Nat, j < (nx.getD s []).length → D (rd (nx.getD s []) (j : Int)) = true))
def laws_FnDead.ok (l0 : List Int) : Prop := (∀ x ∈ l0, 0 ≤ x ∧ x ≤ 255) ∧ BdOK ∧ ∀ (b : List Int) (nx : List (List Int)) (ac : List Int), OddB b nx ac → ∃ k dead okb D, DeadAt k b nx ac dead okb D
open Classical in
noncomputable def laws_FnDead.f (k : Nat) (l0 : List Int) : Option Bool := if laws_FnDead.ok l0 then some true else none
set_option maxHeartbeats 8000000 in
set_option maxRecDepth 100000 in
theorem laws_FnDead.calls (k : Nat) (A0 : Option Addr) (c0 : Nat) (l0 : List Int) (r : Bool) (w : World) (hr0 : Kd.C (Kd.int .u8) w A0 l0.length l0) (hc0 : l0.length ≤ c0) (h : laws_FnDead.f k l0 = some r) :
  Calls Try.prog 5 #[.slice A0 l0.length c0] w fun e w' => e = .returned (.bool r) ∧ Below w.heap.size w w' := by
 unfold laws_FnDead.f at h
 by_cases ho : laws_FnDead.ok l0
 case neg => rw [if_neg ho] at h; cases h
 rw [if_pos ho] at h
 obtain rfl := Option.some.inj h
 obtain ⟨hb8, hbd, hok⟩ := ho
 have HOK := Aside0.mk hok
 have HBD := Aside0.mk hbd
 have HR := Aside0.mk hr0
 have HC := Aside0.mk hc0
 have HB8 := Aside0.mk hb8
 clear h hok hbd hr0 hc0 hb8 k
 go_enter Try.func5, Try.ntmps5
 go_wp2_with fail
 refine (laws_big.calls _ _ l0 _ _ HR.out HC.out rfl).mono ?_
 rintro e w_ ⟨rfl, hd⟩
 have S := Aside0.mk ((Hp.start w).go hd.below)
 clear hd
 by_cases cb : (l0.length : Int) > 1048576
 ·rw [decide_eq_true cb]
  clear cb
  go_wp2
  go_ret
  exact ⟨rfl, S.out.below⟩
 have HB := Aside0.mk (show RdOK w.heap.size w A0 l0 from ⟨by omega, HB8.out, fun W hW => Kd.C_below HR.out hW⟩)
 rw [decide_eq_false cb]
 clear cb HB8
 go_wp2_with fail
 refine (spec_DrawDeadOf.w S.out A0 c0 l0 HB.out HBD.out).mono ?_
 rintro e w_ ⟨vb, b, vn, nx, va, ac, rfl, hodd, S1⟩
 obtain ⟨Aq, cq, rfl⟩ := S1.sliceF 0 rfl
 obtain ⟨An, cn, rfl⟩ := S1.sliceF 1 rfl
 obtain ⟨Aa, ca, rfl⟩ := S1.sliceF 2 rfl
 obtain ⟨k, dead, okb, D, h1, h2, h3, h4, h5, h6, h7⟩ := HOK.out b nx ac hodd
 have H1 := Aside0.mk h1
 have H2 := Aside0.mk h2
 have H3 := Aside0.mk h3
 have H4 := Aside0.mk h4
 have H6 := Aside0.mk h6
 have H7 := Aside0.mk h7
 have HH := Aside0.mk h5
 have HO := Aside0.mk (show nx.length ≤ 1000 ∧ (∀ y ∈ nx, y.length ≤ 256) ∧ 1 ≤ nx.length from ⟨hodd.2.1.2, hodd.2.2.2, hodd.2.1.1⟩)
 replace S := Aside0.mk S1
 clear S1 hodd h1 h2 h3 h4 h5 h6 h7 HOK HR HC HB HBD
 go_wp2_with (first | ((with_reducible refine gate_dst (N := 3) rfl ?_); refine ev_box S rfl rfl (cs := #[.slice none 0 0, .slice none 0 0, .slice none 0 0]) (t := 30) (by first | (go_simp; done) | (go_simp; rfl)) (fun g3 w_ Gg3 S1 => ?_); clear S; have S := S1; clear S1; have z0 := S.out.cell 0 0 rfl rfl; have z1 := S.out.cell 0 1 rfl rfl; have z2 := S.out.cell 0 2 rfl rfl; have f0 := S.out.frozen 0 0 rfl; have f1 := S.out.frozen 0 1 rfl; have f2 := S.out.frozen 0 2 rfl) | ((with_reducible refine gate_store (t := 30) (p := 3) rfl ?_); refine ev_run (w1 := ((((_ : World)).setCell ⟨g3, 0, none⟩ (.slice Aq b.length cq)).setCell ⟨g3, 1, none⟩ (.slice An nx.length cn)).setCell ⟨g3, 2, none⟩ (.slice Aa ac.length ca)) rfl rfl (by first | (go_simp; done) | (go_simp; rfl)) (fun w_ hw => ?_); have S1 := Aside0.mk ((((S.out).put 0 0 (u := .slice Aq b.length cq) rfl rfl).put 0 1 (u := .slice An nx.length cn) rfl rfl).put 0 2 (u := .slice Aa ac.length ca) rfl rfl); rw [← hw] at S1; clear hw; clear S; have S := S1; clear S1; clear z0 z1 z2 f0 f1 f2; replace S := Aside0.mk (show Hp w.heap.size w _ [fB w.heap.size g3 #[.slice Aq b.length cq, .slice An nx.length cn, .slice Aa ac.length ca] 30, fF (Kd.int .i64) (.slice Aq b.length cq) b, fF (Kd.slice 2 (Kd.int .i64)) (.slice An nx.length cn) nx, fF (Kd.int .i64) (.slice Aa ac.length ca) ac] from S.out); have z0 := S.out.cell 0 0 rfl rfl; have z1 := S.out.cell 0 1 rfl rfl; have z2 := S.out.cell 0 2 rfl rfl))
 have RB := (S.out.rowF 1 rfl).2
 have RN := (S.out.rowF 2 rfl).2
 have RA := (S.out.rowF 3 rfl).2
 refine (impl_DeadOf.calls k _ _ b _ _ nx _ _ ac dead _ RB.2 RB.1 RN.2 RN.1 RA.2 RA.1 H1.out).mono ?_
 rintro e w_ ⟨v, rfl, hv, hb⟩
 replace S := Aside0.mk (hp_res S.out hv hb)
 obtain ⟨Ad, cd, rfl⟩ := S.out.slice 0 rfl
 clear hv hb z0 z1 z2 RB RN RA H1
 have z0 := S.out.cell 1 0 rfl rfl
 have z1 := S.out.cell 1 1 rfl rfl
 have z2 := S.out.cell 1 2 rfl rfl
 go_wp2_with fail
 have RB := (S.out.rowF 2 rfl).2
 have RN := (S.out.rowF 3 rfl).2
 have RA := (S.out.rowF 4 rfl).2
 refine (spec_DeadOf.calls k _ _ b _ _ nx _ _ ac dead _ RB.2 RB.1 RN.2 RN.1 RA.2 RA.1 H2.out).mono ?_
 rintro e w_ ⟨v, rfl, hv, hb⟩
 replace S := Aside0.mk (hp_res S.out hv hb)
 obtain ⟨Ax, cx, rfl⟩ := S.out.slice 0 rfl
 clear hv hb z0 z1 z2 RB RN RA H2
 go_wp2_with fail
 have RC := (S.out.row 1 rfl).2
 have RX := (S.out.row 0 rfl).2
 refine (laws_sameInts.calls k _ _ dead _ _ dead true _ RC.2 RC.1 RX.2 RX.1 H3.out).mono ?_
 rintro e w_ ⟨rfl, hd⟩
 replace S := Aside0.mk (S.out.go hd.below).tail
 clear hd RC RX
 have z0 := S.out.cell 1 0 rfl rfl
 have z1 := S.out.cell 1 1 rfl rfl
 have z2 := S.out.cell 1 2 rfl rfl
 go_wp2_with fail
 have RB := (S.out.rowF 2 rfl).2
 have RN := (S.out.rowF 3 rfl).2
 have RA := (S.out.rowF 4 rfl).2
 refine (spec_DfaOk.calls k _ _ b _ _ nx _ _ ac okb _ RB.2 RB.1 RN.2 RN.1 RA.2 RA.1 H4.out).mono ?_
 rintro e w_ ⟨rfl, hb⟩
 replace S := Aside0.mk (S.out.go hb)
 clear hb z0 z1 z2 RB RN RA H4
 cases okb with
 | false =>
  have hz := H6.out rfl; have n0 := eq_true (show (dead.length : Int) = 0 from by omega); have n1 := beq_iff_eq.2 (show (dead.length : Int) = 0 from by omega)
  go_wp2
  go_ret
  exact ⟨rfl, S.out.below⟩
 | true =>
  obtain ⟨hal, hall⟩ := H7.out rfl; have HAL := Aside0.mk hal; have HA := Aside0.mk hall; clear hal hall H6 H7; obtain ⟨ada, ea, -⟩ := Kd.at_int (S.out.rowF 4 rfl).2.2 (0 : Int) (by omega) (by have := HAL.out; have := HO.out.2.2; omega); cases ea; obtain ⟨adn, A9_, c9_, ea, -⟩ := at_rowG (S.out.rowF 3 rfl).2.2 0 (by have := HO.out.2.2; omega); cases ea; clear A9_ c9_
  go_wp2
  go_loopg [5] nx.length (fun gk v5 wr => ∃ s : Nat, v5 = .int .i64 (s : Int) ∧ s + gk = nx.length ∧ Aside0 (Hp w.heap.size w wr [fR (Kd.int .i64) 2 w.heap.size (.slice Ad dead.length cd) dead, fB w.heap.size g3 #[.slice Aq b.length cq, .slice (some adn) nx.length cn, .slice (some ada) ac.length ca] 30, fF (Kd.int .i64) (.slice Aq b.length cq) b, fF (Kd.slice 2 (Kd.int .i64)) (.slice (some adn) nx.length cn) nx, fF (Kd.int .i64) (.slice (some ada) ac.length ca) ac]))
  case atStart => exact ⟨0, rfl, by omega, S⟩
  case round =>
   clear S; obtain ⟨s, rfl, hs, S⟩ := hrel; have z1 := S.out.cell 1 1 rfl rfl
   by_cases cs : s < nx.length
   case neg =>
    have h1 := eq_false (show ¬ (s : Int) < (nx.length : Int) by omega)
    go_wp2
    go_ret
    exact ⟨rfl, S.out.below⟩
   have h1 := eq_true (show (s : Int) < (nx.length : Int) by omega); obtain ⟨gko, egk⟩ : ∃ q, q = gk := ⟨_, rfl⟩; have HS := Aside0.mk (show s + gko = nx.length ∧ s < nx.length ∧ nx.length ≤ 1000 ∧ ac.length = nx.length ∧ gko = gk from ⟨by omega, cs, HO.out.1, HAL.out, egk⟩); have WS := Aside0.mk (show wrap64 ((s : Int) + 1) = ((s + 1 : Nat) : Int) from nat_next (by have := HO.out.1; omega)); obtain ⟨row, erow⟩ : ∃ q, q = nx.getD s [] := ⟨_, rfl⟩; have HRL := Aside0.mk (show row.length ≤ 256 from HO.out.2.1 _ (by rw [erow, List.getD_eq_getElem?_getD, List.getElem?_eq_getElem cs]; exact List.getElem_mem _)); obtain ⟨ha1, ha2⟩ := HA.out s cs
   rw [← erow] at ha1 ha2
   have EROW := Aside0.mk erow; clear erow; have HA1 := Aside0.mk ha1; have HA2 := Aside0.mk ha2; clear ha1 ha2 hs cs egk
   go_wp2_with fail
   have RDD := (S.out.row 0 rfl).2
   refine (laws_has.calls k _ _ dead ((s : Int)) (D ((s : Int))) _ RDD.2 RDD.1 (HH.out _)).mono ?_
   rintro e w_ ⟨rfl, hd⟩
   replace S := Aside0.mk (S.out.go hd.below); clear hd RDD; clear z1 h1
   cases hD : D (s : Int) with
   | false =>
    have HL := Aside0.mk (HA1.out hD); clear hD HA1 HA2; obtain ⟨ad, ea, hx⟩ := Kd.at_int (S.out.rowF 4 rfl).2.2 (s : Int) (by omega) (by have := HS.out; omega); cases ea
    rw [Int.toNat_natCast] at hx
    have hm0 := eq_true (show (0 : Int) ≤ (s : Int) by omega); have hm1 := eq_true (show (s : Int) < (ac.length : Int) by have := HS.out; omega); have hm2 := eq_true (show s < ac.length by have := HS.out; omega); have z2 := S.out.cell 1 2 rfl rfl
    by_cases cx : 0 ≤ rd ac (s : Int)
    ·have hc := eq_true cx
     have HX := Aside0.mk cx; clear cx
     go_wp2_with fail
     clear hx hm0 hm1 hm2 z2 hc
     go_loopg [6, 7] row.length (fun gk v6 v7 wr => ∃ (j : Nat) (lv : Bool), v6 = .bool lv ∧ v7 = .int .i64 (j : Int) ∧ j + gk = row.length ∧ Aside0 (lv = true ↔ (0 ≤ rd ac (s : Int) ∨ ∃ j2 : Nat, j2 < j ∧ D (rd row (j2 : Int)) = false)) ∧ Aside0 (Hp w.heap.size w wr [fR (Kd.int .i64) 2 w.heap.size (.slice Ad dead.length cd) dead, fB w.heap.size g3 #[.slice Aq b.length cq, .slice (some adn) nx.length cn, .slice (some ada) ac.length ca] 30, fF (Kd.int .i64) (.slice Aq b.length cq) b, fF (Kd.slice 2 (Kd.int .i64)) (.slice (some adn) nx.length cn) nx, fF (Kd.int .i64) (.slice (some ada) ac.length ca) ac]))
     case atStart => exact ⟨0, true, rfl, rfl, by omega, ⟨⟨fun _ => .inl HX.out, fun _ => rfl⟩⟩, S⟩
     case round =>
      clear S; obtain ⟨j, lv, rfl, rfl, hj, HV, S⟩ := hrel; obtain ⟨ad2, A2, c2, ea, hx2, hl2, hr2⟩ := at_rowG (S.out.rowF 3 rfl).2.2 s HS.out.2.1
      rw [← EROW.out] at hx2 hl2 hr2
      cases ea; have hm0 := eq_true (show (0 : Int) ≤ (s : Int) by omega); have hm1 := eq_true (show (s : Int) < (nx.length : Int) by have := HS.out; omega); have z1 := S.out.cell 1 1 rfl rfl
      by_cases cj : j < row.length
      case neg =>
       have h2 := eq_false (show ¬ (j : Int) < (row.length : Int) by omega); have hlv : lv = true := HV.out.2 (HL.out.elim .inl (fun ⟨j2, q1, q2⟩ => .inr ⟨j2, by omega, q2⟩)); subst hlv; clear HV
       go_wp2_with fail
       go_roundg (gko - 1)
       case measure => have := HS.out; omega
       case rel => exact ⟨s + 1, congrArg (Value.int .i64) WS.out, by have := HS.out; omega, S⟩
      have h2 := eq_true (show (j : Int) < (row.length : Int) by omega); obtain ⟨gki, egi⟩ : ∃ q, q = gk := ⟨_, rfl⟩; have HJ := Aside0.mk (show j + gki = row.length ∧ j < row.length ∧ gki = gk from ⟨by omega, cj, egi⟩); have WJ := Aside0.mk (show wrap64 ((j : Int) + 1) = ((j + 1 : Nat) : Int) from nat_next (by have := HJ.out; have := HRL.out; omega)); clear hj cj egi
      cases lv with
      | true =>
       have HQ := HV.out.1 rfl; clear HV
       go_wp2_with fail
       go_roundg (gki - 1)
       case measure => have := HJ.out; omega
       case rel => exact ⟨j + 1, true, rfl, congrArg (Value.int .i64) WJ.out, by have := HJ.out; omega, ⟨⟨fun _ => HQ.elim .inl (fun ⟨j2, q1, q2⟩ => .inr ⟨j2, by omega, q2⟩), fun _ => rfl⟩⟩, S⟩
      | false =>
       obtain ⟨ad3, eb, hx3⟩ := Kd.at_int hr2 (j : Int) (by omega) (by have := HJ.out; omega); cases eb
       rw [Int.toNat_natCast] at hx3
       have hj0 := eq_true (show (0 : Int) ≤ (j : Int) by omega); have hj1 := eq_true (show (j : Int) < (row.length : Int) by have := HJ.out; omega); have hj2 := eq_true (show j < row.length by have := HJ.out; omega)
       go_wp2_with fail
       have RDD := (S.out.row 0 rfl).2
       refine (laws_has.calls k _ _ dead (rd row (j : Int)) (D (rd row (j : Int))) _ RDD.2 RDD.1 (HH.out _)).mono ?_
       rintro e w_ ⟨rfl, hd⟩
       replace S := Aside0.mk (S.out.go hd.below); clear hd RDD; clear hx2 hl2 hr2 hx3 hm0 hm1 z1 h2 hj0 hj1 hj2
       cases hD : D (rd row (j : Int)) with
       | false =>
        have HQ := Aside0.mk hD; clear hD
        go_wp2_with fail
        go_roundg (gki - 1)
        case measure => have := HJ.out; omega
        case rel => exact ⟨j + 1, true, rfl, congrArg (Value.int .i64) WJ.out, by have := HJ.out; omega, ⟨⟨fun _ => .inr ⟨j, by omega, HQ.out⟩, fun _ => rfl⟩⟩, S⟩
       | true =>
        have HQ := Aside0.mk hD; clear hD
        go_wp2_with fail
        go_roundg (gki - 1)
        case measure => have := HJ.out; omega
        case rel => exact ⟨j + 1, false, rfl, congrArg (Value.int .i64) WJ.out, by have := HJ.out; omega, ⟨⟨fun q => (by cases q), fun q => by have := HV.out.2 (q.elim .inl (fun ⟨j2, q1, q2⟩ => .inr ⟨j2, (Nat.lt_or_ge j2 j).resolve_right (fun q3 => by obtain rfl : j2 = j := (by omega); rw [HQ.out] at q2; cases q2), q2⟩)); cases this⟩⟩, S⟩
    ·have hc := eq_false cx
     have HX := Aside0.mk cx; clear cx
     go_wp2_with fail
     clear hx hm0 hm1 hm2 z2 hc
     go_loopg [6, 7] row.length (fun gk v6 v7 wr => ∃ (j : Nat) (lv : Bool), v6 = .bool lv ∧ v7 = .int .i64 (j : Int) ∧ j + gk = row.length ∧ Aside0 (lv = true ↔ (0 ≤ rd ac (s : Int) ∨ ∃ j2 : Nat, j2 < j ∧ D (rd row (j2 : Int)) = false)) ∧ Aside0 (Hp w.heap.size w wr [fR (Kd.int .i64) 2 w.heap.size (.slice Ad dead.length cd) dead, fB w.heap.size g3 #[.slice Aq b.length cq, .slice (some adn) nx.length cn, .slice (some ada) ac.length ca] 30, fF (Kd.int .i64) (.slice Aq b.length cq) b, fF (Kd.slice 2 (Kd.int .i64)) (.slice (some adn) nx.length cn) nx, fF (Kd.int .i64) (.slice (some ada) ac.length ca) ac]))
     case atStart => exact ⟨0, false, rfl, rfl, by omega, ⟨⟨fun q => (by cases q), fun q => q.elim (fun q => absurd q (by have := HX.out; omega)) (fun ⟨_, q, _⟩ => absurd q (Nat.not_lt_zero _))⟩⟩, S⟩
     case round =>
      clear S; obtain ⟨j, lv, rfl, rfl, hj, HV, S⟩ := hrel; obtain ⟨ad2, A2, c2, ea, hx2, hl2, hr2⟩ := at_rowG (S.out.rowF 3 rfl).2.2 s HS.out.2.1
      rw [← EROW.out] at hx2 hl2 hr2
      cases ea; have hm0 := eq_true (show (0 : Int) ≤ (s : Int) by omega); have hm1 := eq_true (show (s : Int) < (nx.length : Int) by have := HS.out; omega); have z1 := S.out.cell 1 1 rfl rfl
      by_cases cj : j < row.length
      case neg =>
       have h2 := eq_false (show ¬ (j : Int) < (row.length : Int) by omega); have hlv : lv = true := HV.out.2 (HL.out.elim .inl (fun ⟨j2, q1, q2⟩ => .inr ⟨j2, by omega, q2⟩)); subst hlv; clear HV
       go_wp2_with fail
       go_roundg (gko - 1)
       case measure => have := HS.out; omega
       case rel => exact ⟨s + 1, congrArg (Value.int .i64) WS.out, by have := HS.out; omega, S⟩
      have h2 := eq_true (show (j : Int) < (row.length : Int) by omega); obtain ⟨gki, egi⟩ : ∃ q, q = gk := ⟨_, rfl⟩; have HJ := Aside0.mk (show j + gki = row.length ∧ j < row.length ∧ gki = gk from ⟨by omega, cj, egi⟩); have WJ := Aside0.mk (show wrap64 ((j : Int) + 1) = ((j + 1 : Nat) : Int) from nat_next (by have := HJ.out; have := HRL.out; omega)); clear hj cj egi
      cases lv with
      | true =>
       have HQ := HV.out.1 rfl; clear HV
       go_wp2_with fail
       go_roundg (gki - 1)
       case measure => have := HJ.out; omega
       case rel => exact ⟨j + 1, true, rfl, congrArg (Value.int .i64) WJ.out, by have := HJ.out; omega, ⟨⟨fun _ => HQ.elim .inl (fun ⟨j2, q1, q2⟩ => .inr ⟨j2, by omega, q2⟩), fun _ => rfl⟩⟩, S⟩
      | false =>
       obtain ⟨ad3, eb, hx3⟩ := Kd.at_int hr2 (j : Int) (by omega) (by have := HJ.out; omega); cases eb
       rw [Int.toNat_natCast] at hx3
       have hj0 := eq_true (show (0 : Int) ≤ (j : Int) by omega); have hj1 := eq_true (show (j : Int) < (row.length : Int) by have := HJ.out; omega); have hj2 := eq_true (show j < row.length by have := HJ.out; omega)
       go_wp2_with fail
       have RDD := (S.out.row 0 rfl).2
       refine (laws_has.calls k _ _ dead (rd row (j : Int)) (D (rd row (j : Int))) _ RDD.2 RDD.1 (HH.out _)).mono ?_
       rintro e w_ ⟨rfl, hd⟩
       replace S := Aside0.mk (S.out.go hd.below); clear hd RDD; clear hx2 hl2 hr2 hx3 hm0 hm1 z1 h2 hj0 hj1 hj2
       cases hD : D (rd row (j : Int)) with
       | false =>
        have HQ := Aside0.mk hD; clear hD
        go_wp2_with fail
        go_roundg (gki - 1)
        case measure => have := HJ.out; omega
        case rel => exact ⟨j + 1, true, rfl, congrArg (Value.int .i64) WJ.out, by have := HJ.out; omega, ⟨⟨fun _ => .inr ⟨j, by omega, HQ.out⟩, fun _ => rfl⟩⟩, S⟩
       | true =>
        have HQ := Aside0.mk hD; clear hD
        go_wp2_with fail
        go_roundg (gki - 1)
        case measure => have := HJ.out; omega
        case rel => exact ⟨j + 1, false, rfl, congrArg (Value.int .i64) WJ.out, by have := HJ.out; omega, ⟨⟨fun q => (by cases q), fun q => by have := HV.out.2 (q.elim .inl (fun ⟨j2, q1, q2⟩ => .inr ⟨j2, (Nat.lt_or_ge j2 j).resolve_right (fun q3 => by obtain rfl : j2 = j := (by omega); rw [HQ.out] at q2; cases q2), q2⟩)); cases this⟩⟩, S⟩
   | true =>
    obtain ⟨hn, hall⟩ := HA2.out hD; have HALL := Aside0.mk hall; clear hD HA1 HA2 hall; obtain ⟨ad, ea, hx⟩ := Kd.at_int (S.out.rowF 4 rfl).2.2 (s : Int) (by omega) (by have := HS.out; omega); cases ea
    rw [Int.toNat_natCast] at hx
    have hm0 := eq_true (show (0 : Int) ≤ (s : Int) by omega); have hm1 := eq_true (show (s : Int) < (ac.length : Int) by have := HS.out; omega); have hm2 := eq_true (show s < ac.length by have := HS.out; omega); have z2 := S.out.cell 1 2 rfl rfl; have hc := eq_false (show ¬ 0 ≤ rd ac (s : Int) by omega); clear hn
    go_wp2_with fail
    clear hx hm0 hm1 hm2 z2 hc
    go_loopg [8] row.length (fun gk v8 wr => ∃ (j : Nat), v8 = .int .i64 (j : Int) ∧ j + gk = row.length ∧ Aside0 (Hp w.heap.size w wr [fR (Kd.int .i64) 2 w.heap.size (.slice Ad dead.length cd) dead, fB w.heap.size g3 #[.slice Aq b.length cq, .slice (some adn) nx.length cn, .slice (some ada) ac.length ca] 30, fF (Kd.int .i64) (.slice Aq b.length cq) b, fF (Kd.slice 2 (Kd.int .i64)) (.slice (some adn) nx.length cn) nx, fF (Kd.int .i64) (.slice (some ada) ac.length ca) ac]))
    case atStart => exact ⟨0, rfl, by omega, S⟩
    case round =>
     clear S; obtain ⟨j, rfl, hj, S⟩ := hrel; obtain ⟨ad2, A2, c2, ea, hx2, hl2, hr2⟩ := at_rowG (S.out.rowF 3 rfl).2.2 s HS.out.2.1
     rw [← EROW.out] at hx2 hl2 hr2
     cases ea; have hm0 := eq_true (show (0 : Int) ≤ (s : Int) by omega); have hm1 := eq_true (show (s : Int) < (nx.length : Int) by have := HS.out; omega); have z1 := S.out.cell 1 1 rfl rfl
     by_cases cj : j < row.length
     case neg =>
      have h2 := eq_false (show ¬ (j : Int) < (row.length : Int) by omega)
      go_wp2_with fail
      go_roundg (gko - 1)
      case measure => have := HS.out; omega
      case rel => exact ⟨s + 1, congrArg (Value.int .i64) WS.out, by have := HS.out; omega, S⟩
     have h2 := eq_true (show (j : Int) < (row.length : Int) by omega); obtain ⟨gki, egi⟩ : ∃ q, q = gk := ⟨_, rfl⟩; have HJ := Aside0.mk (show j + gki = row.length ∧ j < row.length ∧ gki = gk from ⟨by omega, cj, egi⟩); have WJ := Aside0.mk (show wrap64 ((j : Int) + 1) = ((j + 1 : Nat) : Int) from nat_next (by have := HJ.out; have := HRL.out; omega)); clear hj cj egi; obtain ⟨ad3, eb, hx3⟩ := Kd.at_int hr2 (j : Int) (by omega) (by have := HJ.out; omega); cases eb
     rw [Int.toNat_natCast] at hx3
     have hj0 := eq_true (show (0 : Int) ≤ (j : Int) by omega); have hj1 := eq_true (show (j : Int) < (row.length : Int) by have := HJ.out; omega); have hj2 := eq_true (show j < row.length by have := HJ.out; omega)
     go_wp2_with fail
     have RDD := (S.out.row 0 rfl).2
     refine (laws_has.calls k _ _ dead (rd row (j : Int)) (D (rd row (j : Int))) _ RDD.2 RDD.1 (HH.out _)).mono ?_
     rintro e w_ ⟨rfl, hd⟩
     replace S := Aside0.mk (S.out.go hd.below); clear hd RDD; clear hx2 hl2 hr2 hx3 hm0 hm1 z1 h2 hj0 hj1 hj2
     rw [HALL.out j HJ.out.2.1]
     go_wp2_with fail
     go_roundg (gki - 1)
     case measure => have := HJ.out; omega
     case rel => exact ⟨j + 1, congrArg (Value.int .i64) WJ.out, by have := HJ.out; omega, S⟩
end

end Go.Proofs.Ytfajfjgkkgigoaa.PFnDead
