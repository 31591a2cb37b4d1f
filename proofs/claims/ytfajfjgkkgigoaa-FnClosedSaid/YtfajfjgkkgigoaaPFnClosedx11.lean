-- Written by this session's own program (wip/pr.py) over the kit's printer; contracts that the printer does not know are given by hand.
import Derived.Test.YtfajfjgkkgigoaaPFnClosedx0
import Derived.Test.YtfajfjgkkgigoaaPFnClosedx10
namespace Go.Proofs.Ytfajfjgkkgigoaa.PFnClosed
open Go.RowKit Go.Proofs.YtfajfjgkkgigoaaW.PrintWords Go.Proofs.YtfajfjgkkgigoaaW.PrintLast Go.Proofs.YtfajfjgkkgigoaaW.PrintMore
attribute [local go_sem] max2_int min2_int max_two min_two max_three min_three max_four min_four   -- for this text's walks alone
set_option linter.unusedVariables false
set_option linter.unusedSimpArgs false

/-! ### spec_RxOk: function 174 -/
section
open Go.Proofs.Ytfajfjgkkgigoaa.Kit
/-- the nodes of an expression, readable as long as L holds -/
def NodesAt (base : Nat) (w0 : World) (L : List Fact) (An : Option Addr) (ns : List S230) : Prop := ∀ i : Nat, i < ns.length → ∃ ad A1 c1 A2 c2, An = some ad ∧ (((rd_T230 ns i).f1.length ≤ c1 ∧ (rd_T230 ns i).f2.length ≤ c2) ∧ ∀ W, Hp base w0 W L → W.cell? (ad.add (i * 5)) = some (.int .i64 (rd_T230 ns i).f0) ∧ W.cell? ⟨(ad.add (i * 5)).block, (ad.add (i * 5)).off + 1, none⟩ = some (.slice A1 (rd_T230 ns i).f1.length c1) ∧ W.cell? ⟨(ad.add (i * 5)).block, (ad.add (i * 5)).off + 2, none⟩ = some (.slice A2 (rd_T230 ns i).f2.length c2) ∧ W.cell? ⟨(ad.add (i * 5)).block, (ad.add (i * 5)).off + 3, none⟩ = some (.int .i64 (rd_T230 ns i).f3) ∧ W.cell? ⟨(ad.add (i * 5)).block, (ad.add (i * 5)).off + 4, none⟩ = some (.int .i64 (rd_T230 ns i).f4) ∧ Kd.C k160 W A1 (rd_T230 ns i).f1.length (rd_T230 ns i).f1 ∧ Kd.C (Kd.int .i64) W A2 (rd_T230 ns i).f2.length (rd_T230 ns i).f2)
theorem NodesAt.more {base : Nat} {w0 : World} {L : List Fact} {An : Option Addr} {ns : List S230} (h : NodesAt base w0 L An ns) (M : List Fact) : NodesAt base w0 (M ++ L) An ns := fun i hi => by
 obtain ⟨ad, A1, c1, A2, c2, e, hl, hW⟩ := h i hi
 exact ⟨ad, A1, c1, A2, c2, e, hl, fun W q => hW W (q.drop M)⟩
/-- what is asked of a node -/
def NodeOK (ns : List S230) (i : Nat) : Prop := (rd_T230 ns i).f1.length ≤ 128 ∧ (((rd_T230 ns i).f0 = 1 ∨ (rd_T230 ns i).f0 = 2) ∨ (1 ≤ (rd_T230 ns i).f2.length ∧ 0 ≤ rd (rd_T230 ns i).f2 0 ∧ rd (rd_T230 ns i).f2 0 < i)) ∧ (((rd_T230 ns i).f0 = 3 ∨ (rd_T230 ns i).f0 = 4) → 2 ≤ (rd_T230 ns i).f2.length ∧ 0 ≤ rd (rd_T230 ns i).f2 1 ∧ rd (rd_T230 ns i).f2 1 < i) ∧ ((rd_T230 ns i).f0 = 8 → 0 ≤ (rd_T230 ns i).f3 ∧ (rd_T230 ns i).f3 ≤ 30 ∧ (rd_T230 ns i).f4 ≤ 30)
/-- lengths that fit -/
def RxB (ns : List S230) : Prop := ∀ i : Nat, i < ns.length → (rd_T230 ns i).f1.length ≤ 1048576 ∧ (rd_T230 ns i).f2.length ≤ 1048576
/-- a flag is told, and what holds if it is set -/
def BPost (base : Nat) (w0 : World) (L : List Fact) (Q : Prop) (e : Ending) (w' : World) : Prop := ∃ b : Bool, e = .returned (.bool b) ∧ (b = true → Q) ∧ Hp base w0 w' L
def NodeCat (ns : List S230) (i : Nat) : Prop := NodeC (rd_T230 ns i).f0 (rd_T230 ns i).f1.length (rd_T230 ns i).f2 (rd_T230 ns i).f3 (rd_T230 ns i).f4 i
theorem nodeC_at {ns : List S230} {i : Nat} (h : NodeC (rd_T230 ns i).f0 (rd_T230 ns i).f1.length (rd_T230 ns i).f2 (rd_T230 ns i).f3 (rd_T230 ns i).f4 i) : NodeCat ns i := h
theorem nodeC_ok {ns : List S230} {i : Nat} (h : NodeC (rd_T230 ns i).f0 (rd_T230 ns i).f1.length (rd_T230 ns i).f2 (rd_T230 ns i).f3 (rd_T230 ns i).f4 i) : NodeOK ns i := by
 unfold NodeC at h
 unfold NodeOK
 generalize rd_T230 ns (i : Int) = nd at *
 obtain ⟨h1, h2, h3, h4, h5⟩ := h
 have hr : ∀ j : Nat, j < nd.f2.length → 0 ≤ rd nd.f2 j ∧ rd nd.f2 j < i := fun j hj => by
  have := h4 (rd nd.f2 j) (by unfold rd; rw [Int.toNat_natCast, List.getD_eq_getElem?_getD, List.getElem?_eq_getElem hj]; exact List.getElem_mem _)
  omega
 have e0 := hr 0
 have e1 := hr 1
 unfold kk at h3
 refine ⟨h1, ?_, fun q => ?_, fun q => h5 q⟩
 ·by_cases c : nd.f0 = 1 ∨ nd.f0 = 2
  ·exact .inl c
  ·have : 1 ≤ nd.f2.length := by split at h3 <;> (try split at h3) <;> omega
   exact .inr ⟨this, e0 (by omega)⟩
 ·have : 2 ≤ nd.f2.length := by split at h3 <;> (try split at h3) <;> omega
  exact ⟨this, e1 (by omega)⟩
set_option maxHeartbeats 4000000 in
set_option maxRecDepth 100000 in
theorem spec_RxOk.calls {base : Nat} {w0 w : World} {L : List Fact} (S : Hp base w0 w L) (An : Option Addr) (cn : Nat) (ns : List S230) (hN : NodesAt base w0 L An ns) (hb : ∀ i : Nat, i < ns.length → (rd_T230 ns i).f1.length ≤ 1048576 ∧ (rd_T230 ns i).f2.length ≤ 1048576) :
  Calls Try.prog 174 #[.agg #[.slice An ns.length cn]] w (BPost base w0 L (1 ≤ ns.length ∧ ns.length ≤ 300 ∧ ∀ i : Nat, i < ns.length → NodeOK ns i)) := by
 replace S := Aside0.mk S
 have HNA := Aside0.mk hN
 have HBD := Aside0.mk hb
 clear hN hb
 obtain ⟨nn, enn⟩ : ∃ q, q = ns.length := ⟨_, rfl⟩
 have HNN := Aside0.mk enn
 rw [← enn]
 by_cases cl : 1 ≤ nn ∧ nn ≤ 300
 case neg =>
  clear enn
  rcases (show nn < 1 ∨ 300 < nn by omega) with c | c
  ·obtain rfl : nn = 0 := by omega
   go_enter Try.func174, Try.ntmps174
   go_wp2_with (first | ((with_reducible refine gate_dst (N := 1) rfl ?_); refine ev_box S rfl rfl (cs := #[.slice An 0 cn]) (t := 214) (by first | (go_simp; done) | (go_simp; rfl)) (fun g1 w_ Gg1 S1 => ?_); clear S; have S := S1; clear S1; have z0 := S.out.cell 0 0 rfl rfl))
   go_ret
   exact ⟨_, rfl, fun q => absurd q (by decide), S.out.tail⟩
  ·have h1 := eq_false (show ¬ (nn : Int) < 1 by omega)
   have h2 := eq_true (show (300 : Int) < (nn : Int) by omega); have h3 := eq_true (show 300 < nn by omega); have h4 := eq_false (show ¬ nn < 1 by omega); have h5 := eq_false (show ¬ nn = 0 by omega)
   go_enter Try.func174, Try.ntmps174
   go_wp2_with (first | ((with_reducible refine gate_dst (N := 1) rfl ?_); refine ev_box S rfl rfl (cs := #[.slice An nn cn]) (t := 214) (by first | (go_simp; done) | (go_simp; rfl)) (fun g1 w_ Gg1 S1 => ?_); clear S; have S := S1; clear S1; have z0 := S.out.cell 0 0 rfl rfl))
   go_ret
   exact ⟨_, rfl, fun q => absurd q (by decide), S.out.tail⟩
 have HN := Aside0.mk cl
 clear cl enn
 obtain ⟨ad0, eA0⟩ : ∃ ad0, An = some ad0 := by
  obtain ⟨ad, _, _, _, _, e, _⟩ := HNA.out 0 (by have := HNN.out; have := HN.out; omega)
  exact ⟨ad, e⟩
 subst eA0
 have h1 := eq_false (show ¬ (nn : Int) < 1 by have := HN.out; omega)
 have h2 := eq_false (show ¬ (300 : Int) < (nn : Int) by have := HN.out; omega)
 have h3 := eq_false (show ¬ 300 < nn by have := HN.out; omega)
 have h4 := eq_false (show ¬ nn < 1 by have := HN.out; omega)
 have h5 := eq_false (show ¬ nn = 0 by have := HN.out; omega)
 have h6 := eq_true (show (0 : Int) ≤ (nn : Int) by omega)
 go_enter Try.func174, Try.ntmps174
 go_wp2_with (first | ((with_reducible refine gate_dst (N := 1) rfl ?_); refine ev_box S rfl rfl (cs := #[.slice (some ad0) nn cn]) (t := 214) (by first | (go_simp; done) | (go_simp; rfl)) (fun g1 w_ Gg1 S1 => ?_); clear S; have S := S1; clear S1; have z0 := S.out.cell 0 0 rfl rfl) | ((with_reducible refine gate_dst (N := 20) rfl ?_); refine ev_make S (Kd.int .i64) 3 rfl (N := 20) rfl 167 _ _ rfl (nn : Int) rfl rfl Try.underlying167 (.int .i64 0) 8 (by kernel_rfl) rfl (by decide) (by omega) 0 rfl (by omega) (by have := HN.out; omega) (fun v20 w_ S1 => ?_); clear S; have S := S1; clear S1; (try clear z0)))
 obtain ⟨us, eXS⟩ : ∃ q, q = List.replicate (nn : Int).toNat (0 : Int) := ⟨_, rfl⟩
 rw [← eXS] at S
 have hus : us.length = nn := by rw [eXS, List.length_replicate, Int.toNat_natCast]
 clear eXS
 obtain ⟨gu, cu, eg⟩ := S.out.form 0 rfl (by have := HN.out; omega)
 rw [hus] at eg
 subst eg
 have Hus := Aside0.mk hus
 clear hus
 clear h1 h2 h3 h4 h5 h6
 go_wp2_with fail
 go_loopg [5] nn (fun gk v5 wr => ∃ (i : Nat) (us : List Int), v5 = .int .i64 (i : Int) ∧ i + gk = nn ∧ us.length = nn ∧ Aside0 (∀ j : Nat, j < i → NodeCat ns j) ∧ Aside0 (Hp base w0 wr (fR (Kd.int .i64) 3 base (.slice (some ⟨gu, 0, none⟩) nn cu) us :: fB base g1 #[.slice (some ad0) nn cn] 214 :: L)))
 case atStart => exact ⟨0, us, rfl, by omega, Hus.out, ⟨fun j hj => absurd hj (Nat.not_lt_zero _)⟩, S⟩
 case round =>
  clear S Hus us; obtain ⟨i, us, rfl, hi, hus, HJ, S⟩ := hrel; have HI := Aside0.mk hi; have HUS := Aside0.mk hus
  by_cases c : i < nn
  case pos =>
   obtain ⟨ad, A1, c1, A2, c2, eA, ⟨hl1, hl2⟩, hW⟩ := HNA.out i (by have := HNN.out; omega); obtain rfl := Option.some.inj eA; have HB1 := Aside0.mk (HBD.out i (by have := HNN.out; omega)); have HW := Aside0.mk hW; have HL2 := Aside0.mk (And.intro hl1 hl2); have HOK := Aside0.mk (@nodeC_at ns i); clear hW hl1 hl2 eA; generalize rd_T230 ns (i : Int) = nd at *; have hm0 := eq_true (show (i : Int) < (nn : Int) by omega); have hm1 := eq_true (show (0 : Int) ≤ (i : Int) by omega); have HCI := Aside0.mk c; clear c hi hus; obtain ⟨x0, x1, x2, x3, x4, -, -⟩ := HW.out _ S.out.tail.tail; have y0 := S.out.cell 1 0 rfl rfl
   go_wp2_with fail
   refine (spec_l3Node.calls S.out nd.f0 nd.f3 nd.f4 (i : Int) A1 A2 c1 c2 nd.f1.length nd.f1 rfl nd.f2 (fun W q => (HW.out W q.tail.tail).2.2.2.2.2.1) (fun W q => (HW.out W q.tail.tail).2.2.2.2.2.2) HB1.out.1 HB1.out.2 HL2.out.1 (by have := HCI.out; have := HN.out; omega)).mono ?_
   rintro e w_ ⟨b, rfl, hq, S1⟩
   replace S := Aside0.mk S1; clear S1 x0 x1 x2 x3 x4 y0
   cases b with
   | false =>
    clear hq
    go_wp2
    go_ret
    exact ⟨_, rfl, fun q => absurd q (by decide), S.out.tail.tail⟩
   | true =>
    have HC := Aside0.mk (hq rfl); clear hq
    go_wp2_with fail
    go_loopg [6] nd.f2.length (fun gk v6 wr => ∃ (k : Nat) (us2 : List Int), v6 = .int .i64 (k : Int) ∧ k + gk = nd.f2.length ∧ us2.length = nn ∧ Aside0 (Hp base w0 wr (fR (Kd.int .i64) 3 base (.slice (some ⟨gu, 0, none⟩) nn cu) us2 :: fB base g1 #[.slice (some ad0) nn cn] 214 :: L)))
    case atStart => exact ⟨0, us, rfl, by omega, HUS.out, S⟩
    case round =>
     clear S; obtain ⟨k, us2, rfl, hk, hus2, S⟩ := hrel; have y0 := S.out.cell 1 0 rfl rfl; obtain ⟨-, -, x2, -, -, -, -⟩ := HW.out _ S.out.tail.tail
     by_cases c : k < nd.f2.length
     ·have hb2 := HCI.out
      obtain ⟨ad2, ek, hx⟩ := Kd.at_int (HW.out _ S.out.tail.tail).2.2.2.2.2.2 (k : Int) (by omega) (by omega); cases ek
      rw [Int.toNat_natCast] at hx
      have hq := HC.out.2.2.2.1 (rd nd.f2 (k : Int)) (by unfold rd; rw [Int.toNat_natCast, List.getD_eq_getElem?_getD, List.getElem?_eq_getElem (by omega)]; exact List.getElem_mem _); generalize rd nd.f2 (k : Int) = q at hx hq; have hq0 := eq_true hq.1; have hq1 := eq_true (show q < (nn : Int) by omega); have hk0 := eq_true (show (k : Int) < (nd.f2.length : Int) by omega); have hk1 := eq_true (show (0 : Int) ≤ (k : Int) by omega); have HQ := Aside0.mk hq; clear hq; obtain ⟨zk, fk⟩ := S.out.cellR 0 (0 : Int) rfl q HQ.out.1 (by have := HQ.out; omega); have WN := Aside0.mk (show wrap64 ((k : Int) + 1) = ((k + 1 : Nat) : Int) from nat_next (by have := HB1.out; omega)); have HK := Aside0.mk (And.intro (And.intro hk c) hus2); clear hk c hus2 hb2
      go_wp2_with (first | ((with_reducible refine gate_store (t := 3) (p := 58) rfl ?_); refine ev_run (w1 := (_ : World).setCell ⟨gu, (q).toNat, none⟩ (.int .i64 (wrap64 (rdOf 0 us2 q + 1)))) rfl rfl (by first | (go_simp; done) | (go_simp; rfl)) (fun w_ hw => ?_); have S1 := Aside0.mk (S.out.putRow 0 rfl (q) (wrap64 (rdOf 0 us2 q + 1))); rw [← hw] at S1; clear hw; clear S; have S := S1; clear S1; clear zk fk hx x2 y0))
      go_roundg (nd.f2.length - (k + 1))
      case measure => have := HK.out; omega
      case rel => exact ⟨k + 1, _, congrArg (Value.int .i64) WN.out, by have := HK.out; omega, by rw [List.length_set]; exact HK.out.2, S⟩
     ·have hcond := eq_false (show ¬ (k : Int) < (nd.f2.length : Int) by omega)
      have HU2 := Aside0.mk hus2; have WN := Aside0.mk (show wrap64 ((i : Int) + 1) = ((i + 1 : Nat) : Int) from nat_next (by have := HN.out; have := HCI.out; omega)); have HJ2 := Aside0.mk (show ∀ j : Nat, j < i + 1 → NodeCat ns j from fun j hj => (Nat.lt_or_eq_of_le (Nat.le_of_lt_succ hj)).elim (HJ.out j) (fun q => q ▸ HOK.out HC.out)); clear c hk hus2
      go_wp2
      go_roundg (nn - (i + 1))
      case measure => have := HI.out; have := HCI.out; omega
      case rel => exact ⟨i + 1, us2, congrArg (Value.int .i64) WN.out, by have := HI.out; have := HCI.out; omega, HU2.out, HJ2, S⟩
  have hcond := eq_false (show ¬ (i : Int) < (nn : Int) by omega); have HALL := Aside0.mk (show ∀ j : Nat, j < nn → NodeCat ns j from fun j hj => HJ.out j (by omega)); have h6 := eq_true (show (0 : Int) ≤ (nn : Int) by omega); clear c hi hus HJ
  go_wp2_with (first | ((with_reducible refine gate_dst (N := 60) rfl ?_); refine ev_make S (Kd.int .i64) 3 rfl (N := 60) rfl 167 _ _ rfl (nn : Int) rfl rfl Try.underlying167 (.int .i64 0) 8 (by kernel_rfl) rfl (by decide) (by omega) 0 rfl (by omega) (by have := HN.out; omega) (fun v60 w_ S1 => ?_); clear S; have S := S1; clear S1))
  obtain ⟨ds, eXS⟩ : ∃ q, q = List.replicate (nn : Int).toNat (0 : Int) := ⟨_, rfl⟩
  rw [← eXS] at S
  have hds : ds.length = nn := by rw [eXS, List.length_replicate, Int.toNat_natCast]
  clear eXS; obtain ⟨gd, cd, eg⟩ := S.out.form 0 rfl (by have := HN.out; omega)
  rw [hds] at eg
  subst eg; have Hds := Aside0.mk hds; clear hds; clear h6 hcond; have WM := Aside0.mk (show wrap64 ((nn : Int) - 1) = (nn : Int) - 1 from w64 (by omega) (by have := HN.out; omega))
  go_wp2_with fail
  rw [WM.out]
  go_loopg [8] nn (fun gk v8 wr => ∃ (i : Int) (ds : List Int), v8 = .int .i64 i ∧ i + 1 = (gk : Int) ∧ (gk ≤ nn ∧ ds.length = nn) ∧ Aside0 (Hp base w0 wr (fR (Kd.int .i64) 3 base (.slice (some ⟨gd, 0, none⟩) nn cd) ds :: fR (Kd.int .i64) 3 base (.slice (some ⟨gu, 0, none⟩) nn cu) us :: fB base g1 #[.slice (some ad0) nn cn] 214 :: L)))
  case atStart => exact ⟨(nn : Int) - 1, ds, rfl, by omega, ⟨Nat.le_refl _, Hds.out⟩, S⟩
  case round =>
   clear S Hds ds; obtain ⟨i, ds, rfl, hi, ⟨hgk, hds⟩, S⟩ := hrel
   by_cases c : 0 ≤ i
   case neg =>
    have hcond := eq_false c
    go_wp2
    go_ret
    exact ⟨_, rfl, fun _ => ⟨HN.out.1, HN.out.2, fun j hj => nodeC_ok (HALL.out j hj)⟩, S.out.tail.tail.tail⟩
   obtain ⟨m, rfl⟩ : ∃ m : Nat, i = (m : Int) := ⟨i.toNat, by omega⟩; obtain ⟨gk_, egk⟩ : ∃ q, q = gk := ⟨_, rfl⟩; have HGK := Aside0.mk (show (m : Int) + 1 = (gk_ : Int) ∧ gk_ ≤ nn ∧ gk_ = gk from ⟨by rw [egk]; exact hi, by rw [egk]; exact hgk, egk⟩); clear egk; have HDS := Aside0.mk hds; have HM := Aside0.mk (show m < nn by omega); obtain ⟨ad, A1, c1, A2, c2, eA, ⟨hl1, hl2⟩, hW⟩ := HNA.out m (by have := HNN.out; omega); obtain rfl := Option.some.inj eA; have HB1 := Aside0.mk (HBD.out m (by have := HNN.out; omega)); have HW := Aside0.mk hW; have HL2 := Aside0.mk (And.intro hl1 hl2); have HOK := Aside0.mk (@nodeC_at ns m); clear hW hl1 hl2 eA; have HC := Aside0.mk (show NodeC (rd_T230 ns m).f0 (rd_T230 ns m).f1.length (rd_T230 ns m).f2 (rd_T230 ns m).f3 (rd_T230 ns m).f4 m from HALL.out m HM.out); generalize rd_T230 ns (m : Int) = nd at *; have hm0 := eq_true (show (0 : Int) ≤ (m : Int) by omega); have hm1 := eq_true (show (m : Int) < (nn : Int) by omega); obtain ⟨zu, -⟩ := S.out.cellR 1 (0 : Int) rfl (m : Int) (by omega) (by omega); obtain ⟨zd, -⟩ := S.out.cellR 0 (0 : Int) rfl (m : Int) (by omega) (by omega)
   rw [Int.toNat_natCast] at zu zd
   generalize rdOf (0 : Int) us (m : Int) = u at zu; generalize rdOf (0 : Int) ds (m : Int) = d at zd; have WM1 := WM.out; clear c hi hgk hds
   by_cases bad : ((m : Int) < (nn : Int) - 1 ∧ u ≠ 1) ∨ 150 < d
   case pos =>
    rcases (show ((m : Int) < (nn : Int) - 1 ∧ u ≠ 1) ∨ (((m : Int) < (nn : Int) - 1 ∧ u = 1) ∧ 150 < d) ∨ (¬ (m : Int) < (nn : Int) - 1 ∧ 150 < d) by omega) with c | c | c
    all_goals first | have hc1 := eq_true (show (m : Int) < (nn : Int) - 1 by omega) | have hc1 := eq_false (show ¬ (m : Int) < (nn : Int) - 1 by omega)
    all_goals first | have hc2 := bne_eq_false_iff_eq.2 (show u = 1 by omega) | have hc2 := bne_iff_ne.2 (show u ≠ 1 by omega) | skip
    all_goals first | have hc3 := eq_true (show 150 < d by omega) | have hc3 := eq_false (show ¬ 150 < d by omega) | skip
    all_goals clear c
    all_goals (clear bad; go_wp2; go_ret; exact ⟨_, rfl, fun q => absurd q (by decide), S.out.tail.tail.tail⟩)
   rcases (show ((m : Int) < (nn : Int) - 1 ∧ u = 1 ∧ ¬ 150 < d) ∨ (¬ (m : Int) < (nn : Int) - 1 ∧ ¬ 150 < d) by omega) with c | c
   all_goals first | have hc1 := eq_true (show (m : Int) < (nn : Int) - 1 by omega) | have hc1 := eq_false (show ¬ (m : Int) < (nn : Int) - 1 by omega)
   all_goals first | have hc2 := bne_eq_false_iff_eq.2 (show u = 1 by omega) | have hc2 := bne_iff_ne.2 (show u ≠ 1 by omega) | skip
   all_goals first | have hc3 := eq_true (show 150 < d by omega) | have hc3 := eq_false (show ¬ 150 < d by omega) | skip
   all_goals clear c
   all_goals
    clear bad
    go_wp2_with fail
    try simp only [WM1]
    try simp only [hc1, decide_true, decide_false]
    try simp only [hc2]
    try simp only [hc3, decide_true, decide_false]
    clear zu zd WM1; (try clear hc1); (try clear hc2); (try clear hc3)
    go_loopg [9] nd.f2.length (fun gk v9 wr => ∃ (k : Nat) (ds2 : List Int), v9 = .int .i64 (k : Int) ∧ k + gk = nd.f2.length ∧ ds2.length = nn ∧ Aside0 (Hp base w0 wr (fR (Kd.int .i64) 3 base (.slice (some ⟨gd, 0, none⟩) nn cd) ds2 :: fR (Kd.int .i64) 3 base (.slice (some ⟨gu, 0, none⟩) nn cu) us :: fB base g1 #[.slice (some ad0) nn cn] 214 :: L)))
    case atStart => exact ⟨0, ds, rfl, by omega, HDS.out, S⟩
    case round =>
     clear S; obtain ⟨k, ds2, rfl, hk, hds2, S⟩ := hrel; have y0 := S.out.cell 2 0 rfl rfl; obtain ⟨-, -, x2, -, -, -, -⟩ := HW.out _ S.out.tail.tail.tail
     by_cases c : k < nd.f2.length
     ·have hb2 := HM.out
      obtain ⟨ad2, ek, hx⟩ := Kd.at_int (HW.out _ S.out.tail.tail.tail).2.2.2.2.2.2 (k : Int) (by omega) (by omega); cases ek
      rw [Int.toNat_natCast] at hx
      have hq := HC.out.2.2.2.1 (rd nd.f2 (k : Int)) (by unfold rd; rw [Int.toNat_natCast, List.getD_eq_getElem?_getD, List.getElem?_eq_getElem (by omega)]; exact List.getElem_mem _); generalize rd nd.f2 (k : Int) = q at hx hq; have hq0 := eq_true hq.1; have hq1 := eq_true (show q < (nn : Int) by omega); have hk0 := eq_true (show (k : Int) < (nd.f2.length : Int) by omega); have hk1 := eq_true (show (0 : Int) ≤ (k : Int) by omega); have HQ := Aside0.mk hq; clear hq; obtain ⟨zm, -⟩ := S.out.cellR 0 (0 : Int) rfl (m : Int) (by omega) (by omega)
      rw [Int.toNat_natCast] at zm
      have WN := Aside0.mk (show wrap64 ((k : Int) + 1) = ((k + 1 : Nat) : Int) from nat_next (by have := HB1.out; omega)); have HK := Aside0.mk (And.intro (And.intro hk c) hds2); clear hk c hds2 hb2
      go_wp2_with fail
      go_still_tail 16, (by kernel_rfl)
      change wpList _ _ _ _ _ wr.drew
      replace S := Aside0.mk S.out.drew; clear y0 x2 hx zm; generalize wr.drew = w5 at S ⊢; obtain ⟨zk, fk⟩ := S.out.cellR 0 (0 : Int) rfl q HQ.out.1 (by have := HQ.out; have := HM.out; omega)
      go_wp2
      replace S := Aside0.mk (S.out.putRow 0 rfl q (wrap64 (rdOf 0 ds2 (m : Int) + 1)))
      go_roundg (nd.f2.length - (k + 1))
      case measure => have := HK.out; omega
      case rel => exact ⟨k + 1, _, congrArg (Value.int .i64) WN.out, by have := HK.out; omega, by rw [List.length_set]; exact HK.out.2, S⟩
     ·have hcond := eq_false (show ¬ (k : Int) < (nd.f2.length : Int) by omega)
      have HD2 := Aside0.mk hds2; have WN := Aside0.mk (show wrap64 ((m : Int) - 1) = (m : Int) - 1 from w64 (by omega) (by have := HN.out; have := HM.out; omega)); clear c hk hds2
      go_wp2
      go_roundg (gk_ - 1)
      case measure => have := HGK.out; omega
      case rel => exact ⟨(m : Int) - 1, ds2, congrArg (Value.int .i64) WN.out, by have := HGK.out; omega, ⟨by have := HGK.out; omega, HD2.out⟩, S⟩
end

/-! ### spec_l6Maker_state: function 190 -/
section
open Go.Proofs.Ytfajfjgkkgigoaa.Kit
set_option maxHeartbeats 4000000 in
set_option maxRecDepth 100000 in
theorem spec_l6Maker_state.calls {base : Nat} {w0 w : World} {L : List Fact} (i g : Nat) (s : Int) (ve vf : Value) (hi : L[i]? = some (fB base g #[.int .i64 s, ve, vf] 217)) (h0 : 0 ≤ s ∧ s ≤ 1000000) (S : Hp base w0 w L) :
  Calls Try.prog 190 #[.pointer (some ⟨g, 0, none⟩)] w fun e w' => e = .returned (.int .i64 s) ∧ Hp base w0 w' (L.set i (fB base g #[.int .i64 (s + 1), ve, vf] 217)) := by
 replace S := Aside0.mk S
 have z0 := S.out.cell i 0 hi rfl
 have f0 := S.out.frozen i 0 hi
 have e1 : wrap64 (s + 1) = s + 1 := w64 (by omega) (by omega)
 have e2 : wrap64 (s + 1 - 1) = s := by rw [w64 (by omega) (by omega)]; omega
 have HI := Aside0.mk hi
 have E1 := Aside0.mk e1
 have E2 := Aside0.mk e2
 clear hi h0 e1 e2
 go_enter Try.func190, Try.ntmps190
 go_wp2
 go_ret
 exact ⟨by first | (rw [E1.out, E2.out]; done) | (rw [E1.out, E2.out]; rfl), by rw [E1.out]; exact S.out.put i 0 HI.out rfl⟩
end

/-! ### spec_l6Maker_full: function 189 -/
section
open Go.Proofs.Ytfajfjgkkgigoaa.Kit
set_option maxHeartbeats 4000000 in
set_option maxRecDepth 100000 in
theorem spec_l6Maker_full.calls {base : Nat} {w0 w : World} {L : List Fact} (i g n c : Nat) (A : Option Addr) (s : Int) (vf : Value) (hi : L[i]? = some (fB base g #[.int .i64 s, (.slice A n c), vf] 217)) (S : Hp base w0 w L) :
  Calls Try.prog 189 #[.pointer (some ⟨g, 0, none⟩)] w fun e w' => e = .returned (.bool (decide (3000 < s ∨ 12000 < n))) ∧ Hp base w0 w' L := by
 replace S := Aside0.mk S
 have z0 := S.out.cell i 0 hi rfl
 have z1 := S.out.cell i 1 hi rfl
 clear hi
 by_cases c : 3000 < s
 ·have hc := eq_true c
  go_enter Try.func189, Try.ntmps189
  go_wp2
  go_ret
  exact ⟨by simp [c], S.out⟩
 ·have hc := eq_false c
  go_enter Try.func189, Try.ntmps189
  go_wp2
  go_ret
  exact ⟨by simp [c]; omega, S.out⟩
end

/-! ### spec_l6Maker_edge: function 176 -/
section
open Go.Proofs.Ytfajfjgkkgigoaa.Kit
theorem spec_l6Maker_edge.need0 : (rtab .any (opsOf Try.f176 0)).2.map Prod.fst = [[], [], [1], [2], [3], [4], [], [], [], [], [8, 9], [6, 7, 10], [11], [5, 12, 10], [0, 0, 1, 2, 3, 4, 5, 6, 7, 8, 9, 10, 11, 12, 13], [14, 0, 1, 2, 3, 4, 5, 6, 7, 8, 9, 10, 11, 12, 13], [15, 0, 1, 2, 3, 4, 5, 6, 7, 8, 9, 10, 11, 12, 13], [16, 13, 13, 0, 1, 2, 3, 4, 5, 6, 7, 8, 9, 10, 11, 12, 13]] := by kernel_rfl
theorem spec_l6Maker_edge.dst0 : (opsOf Try.f176 0).toList.map Oper.dst = [some 8, some 9, some 10, some 11, some 12, some 13, some 14, some 15, some 16, some 17, some 18, some 19, some 20, some 21, some 22, some 23, some 24, none] := by kernel_rfl
set_option maxHeartbeats 4000000 in
set_option maxRecDepth 100000 in
theorem spec_l6Maker_edge.calls {base : Nat} {w0 w : World} {L : List Fact} (g : Nat) (s x y : Int) (ve vf : Value) (es : List S85) (A : Option Addr) (c : Nat) (sp : List S160) (hC : ∀ W, Hp base w0 W L → Kd.C k160 W A sp.length sp) (hl : sp.length ≤ 1000000) (he : es.length ≤ 1000000) (S : Hp base w0 w (fB base g #[.int .i64 s, ve, vf] 217 :: fR k85 85 base ve es :: L)) :
  Calls Try.prog 176 #[.pointer (some ⟨g, 0, none⟩), .int .i64 x, .int .i64 y, .slice A sp.length c] w fun e w' => ∃ ve' : Value, e = .returned (.tuple #[]) ∧ Hp base w0 w' (fB base g #[.int .i64 s, ve', vf] 217 :: fR k85 85 base ve' (es ++ [⟨x, y, sp⟩]) :: L) := by
 replace S := Aside0.mk S
 have HC := Aside0.mk hC
 have HL := Aside0.mk hl
 have HE := Aside0.mk he
 clear hC hl he
 obtain ⟨Ae, ce, rfl⟩ := S.out.slice 1 rfl
 go_enter Try.func176, Try.ntmps176
 go_wp2_with fail
 refine mask_ (n := 18) (fun l v W => (l 0 = true → v 0 = .pointer (some ⟨g, 0, none⟩)) ∧ (l 1 = true → v 1 = .pointer (some ⟨g, 0, none⟩)) ∧ (l 2 = true → v 2 = .pointer (some ⟨g, 0, none⟩)) ∧ (l 3 = true → v 3 = .pointer (some ⟨g, 0, none⟩)) ∧ (l 4 = true → v 4 = .pointer (some ⟨g, 1, none⟩)) ∧ (l 5 = true → v 5 = .slice Ae es.length ce) ∧ (l 6 = true → v 6 = .int .i64 x) ∧ (l 7 = true → v 7 = .int .i64 y) ∧ (l 9 = true → v 9 = .slice A sp.length c) ∧ (l 11 = true → v 11 = .agg #[.int .i64 x, .int .i64 y, v 10]) ∧ (l 14 = true → v 14 = .pointer (some ⟨g, 0, none⟩)) ∧ (l 15 = true → v 15 = .pointer (some ⟨g, 0, none⟩)) ∧ (l 16 = true → v 16 = .pointer (some ⟨g, 1, none⟩)) ∧ Hp base w0 W (cf (l 13) fT (cf (l 12) (fR k85 85 base (v 12) [⟨x, y, sp⟩]) (cf (l 10) (fR k160 160 base (v 10) sp) (cf (l 8) (fR k160 160 base (v 8) []) fT))) :: fB base g #[.int .i64 s, bif l 17 then v 13 else .slice Ae es.length ce, vf] 217 :: cf (l 13) (fR k85 85 base (v 13) (es ++ [⟨x, y, sp⟩])) (fR k85 85 base (.slice Ae es.length ce) es) :: L)) [[], [], [1], [2], [3], [4], [], [], [], [], [8, 9], [6, 7, 10], [11], [5, 12, 10], [0, 0, 1, 2, 3, 4, 5, 6, 7, 8, 9, 10, 11, 12, 13], [14, 0, 1, 2, 3, 4, 5, 6, 7, 8, 9, 10, 11, 12, 13], [15, 0, 1, 2, 3, 4, 5, 6, 7, 8, 9, 10, 11, 12, 13], [16, 13, 13, 0, 1, 2, 3, 4, 5, 6, 7, 8, 9, 10, 11, 12, 13]] [some 8, some 9, some 10, some 11, some 12, some 13, some 14, some 15, some 16, some 17, some 18, some 19, some 20, some 21, some 22, some 23, some 24, none] 25 (by kernel_rfl) spec_l6Maker_edge.need0 spec_l6Maker_edge.dst0 (by decide) rfl ⟨fun h => absurd h (by decide), fun h => absurd h (by decide), fun h => absurd h (by decide), fun h => absurd h (by decide), fun h => absurd h (by decide), fun h => absurd h (by decide), fun h => absurd h (by decide), fun h => absurd h (by decide), fun h => absurd h (by decide), fun h => absurd h (by decide), fun h => absurd h (by decide), fun h => absurd h (by decide), fun h => absurd h (by decide), ?_⟩ ⟨?_, ?_, ?_, ?_, ?_, ?_, ?_, ?_, ?_, ?_, ?_, ?_, ?_, ?_, ?_, ?_, ?_, ?_, trivial⟩ (fun v W hJ => ?_)
 ·exact S.out.drew.blank
 ·rintro l v W zb HZ hsz ⟨p0, p1, p2, p3, p4, p5, p6, p7, p9, p11, p14, p15, p16, S⟩ hi hn hc K hK
  have e0 := oth_ (N := 0) (x := .pointer (some ⟨g, 0, none⟩)) HZ rfl rfl
  refine yields_ (N := some 8) (x := .pointer (some ⟨g, 0, none⟩)) rfl rfl ?_ (hK.out _ _ ⟨fun _ => rfl, p1, p2, p3, p4, p5, p6, p7, p9, p11, p14, p15, p16, S⟩)
  clear hK HZ hn hc p0 p1 p2 p3 p4 p5 p6 p7 p9 p11 p14 p15 p16; (try simp only [Array.getD_eq_getD_getElem?] at *); go_simp; try with_reducible rfl
 ·rintro l v W zb HZ hsz ⟨p0, p1, p2, p3, p4, p5, p6, p7, p9, p11, p14, p15, p16, S⟩ hi hn hc K hK
  have e0 := oth_ (N := 0) (x := .pointer (some ⟨g, 0, none⟩)) HZ rfl rfl
  refine yields_ (N := some 9) (x := .pointer (some ⟨g, 0, none⟩)) rfl rfl ?_ (hK.out _ _ ⟨p0, fun _ => rfl, p2, p3, p4, p5, p6, p7, p9, p11, p14, p15, p16, S⟩)
  clear hK HZ hn hc p0 p1 p2 p3 p4 p5 p6 p7 p9 p11 p14 p15 p16; (try simp only [Array.getD_eq_getD_getElem?] at *); go_simp; try with_reducible rfl
 ·rintro l v W zb HZ hsz ⟨p0, p1, p2, p3, p4, p5, p6, p7, p9, p11, p14, p15, p16, S⟩ hi hn hc K hK
  have e9 := at1 HZ hsz (hn 1 (by decide)) p1 rfl rfl (by decide)
  refine yields_ (N := some 10) (x := .pointer (some ⟨g, 0, none⟩)) rfl rfl ?_ (hK.out _ _ ⟨p0, p1, fun _ => rfl, p3, p4, p5, p6, p7, p9, p11, p14, p15, p16, S⟩)
  clear hK HZ hn hc p0 p1 p2 p3 p4 p5 p6 p7 p9 p11 p14 p15 p16; (try simp only [Array.getD_eq_getD_getElem?] at *); go_simp; try with_reducible rfl
 ·rintro l v W zb HZ hsz ⟨p0, p1, p2, p3, p4, p5, p6, p7, p9, p11, p14, p15, p16, S⟩ hi hn hc K hK
  have e10 := at1 HZ hsz (hn 2 (by decide)) p2 rfl rfl (by decide)
  refine yields_ (N := some 11) (x := .pointer (some ⟨g, 0, none⟩)) rfl rfl ?_ (hK.out _ _ ⟨p0, p1, p2, fun _ => rfl, p4, p5, p6, p7, p9, p11, p14, p15, p16, S⟩)
  clear hK HZ hn hc p0 p1 p2 p3 p4 p5 p6 p7 p9 p11 p14 p15 p16; (try simp only [Array.getD_eq_getD_getElem?] at *); go_simp; try with_reducible rfl
 ·rintro l v W zb HZ hsz ⟨p0, p1, p2, p3, p4, p5, p6, p7, p9, p11, p14, p15, p16, S⟩ hi hn hc K hK
  have e11 := at1 HZ hsz (hn 3 (by decide)) p3 rfl rfl (by decide)
  refine yields_ (N := some 12) (x := .pointer (some ⟨g, 1, none⟩)) rfl rfl ?_ (hK.out _ _ ⟨p0, p1, p2, p3, fun _ => rfl, p5, p6, p7, p9, p11, p14, p15, p16, S⟩)
  clear hK HZ hn hc p0 p1 p2 p3 p4 p5 p6 p7 p9 p11 p14 p15 p16; (try simp only [Array.getD_eq_getD_getElem?] at *); go_simp; try with_reducible rfl
 ·rintro l v W zb HZ hsz ⟨p0, p1, p2, p3, p4, p5, p6, p7, p9, p11, p14, p15, p16, S⟩ hi hn hc K hK
  have e12 := at1 HZ hsz (hn 4 (by decide)) p4 rfl rfl (by decide); have S0 := S
  rw [show l 13 = false from hc 13 5 (by decide) hi, show l 17 = false from hc 17 5 (by decide) hi] at S
  have z := S.cell 1 1 rfl rfl
  refine yields_ (N := some 13) (x := .slice Ae es.length ce) rfl rfl ?_ (hK.out _ _ ⟨p0, p1, p2, p3, p4, fun _ => rfl, p6, p7, p9, p11, p14, p15, p16, S0⟩)
  clear hK HZ hn hc p0 p1 p2 p3 p4 p5 p6 p7 p9 p11 p14 p15 p16; (try simp only [Array.getD_eq_getD_getElem?] at *); go_simp; try with_reducible rfl
 ·rintro l v W zb HZ hsz ⟨p0, p1, p2, p3, p4, p5, p6, p7, p9, p11, p14, p15, p16, S⟩ hi hn hc K hK
  have e1 := oth_ (N := 1) (x := .int .i64 x) HZ rfl rfl
  refine yields_ (N := some 14) (x := .int .i64 x) rfl rfl ?_ (hK.out _ _ ⟨p0, p1, p2, p3, p4, p5, fun _ => rfl, p7, p9, p11, p14, p15, p16, S⟩)
  clear hK HZ hn hc p0 p1 p2 p3 p4 p5 p6 p7 p9 p11 p14 p15 p16; (try simp only [Array.getD_eq_getD_getElem?] at *); go_simp; try with_reducible rfl
 ·rintro l v W zb HZ hsz ⟨p0, p1, p2, p3, p4, p5, p6, p7, p9, p11, p14, p15, p16, S⟩ hi hn hc K hK
  have e2 := oth_ (N := 2) (x := .int .i64 y) HZ rfl rfl
  refine yields_ (N := some 15) (x := .int .i64 y) rfl rfl ?_ (hK.out _ _ ⟨p0, p1, p2, p3, p4, p5, p6, fun _ => rfl, p9, p11, p14, p15, p16, S⟩)
  clear hK HZ hn hc p0 p1 p2 p3 p4 p5 p6 p7 p9 p11 p14 p15 p16; (try simp only [Array.getD_eq_getD_getElem?] at *); go_simp; try with_reducible rfl
 ·rintro l v W zb HZ hsz ⟨p0, p1, p2, p3, p4, p5, p6, p7, p9, p11, p14, p15, p16, S⟩ hi hn hc K hK
  clear HZ
  rw [show l 10 = false from hc 10 8 (by decide) hi, show l 12 = false from hc 12 11 (by decide) (hc 11 10 (by decide) (hc 10 8 (by decide) hi)), show l 13 = false from hc 13 12 (by decide) (hc 12 11 (by decide) (hc 11 10 (by decide) (hc 10 8 (by decide) hi))), show l 17 = false from hc 17 8 (by decide) hi, hi] at S
  refine st_litF S 0 rfl (k160) (160) rfl rfl (xs := ([] : List S160)) (inner := []) (by (try simp only [Array.getD_eq_getD_getElem?] at *); first | (go_simp; done) | (go_simp; rfl)) (Reps.none _ _) (by simp) (fun x w1 S1 => hK.out _ _ ⟨p0, p1, p2, p3, p4, p5, p6, p7, p9, p11, p14, p15, p16, ?_⟩)
  rw [show upd l 8 10 = false from hc 10 8 (by decide) hi, show upd l 8 12 = false from hc 12 11 (by decide) (hc 11 10 (by decide) (hc 10 8 (by decide) hi)), show upd l 8 13 = false from hc 13 12 (by decide) (hc 12 11 (by decide) (hc 11 10 (by decide) (hc 10 8 (by decide) hi))), show upd l 8 17 = false from hc 17 8 (by decide) hi]
  exact S1
 ·rintro l v W zb HZ hsz ⟨p0, p1, p2, p3, p4, p5, p6, p7, p9, p11, p14, p15, p16, S⟩ hi hn hc K hK
  have e3 := oth_ (N := 3) (x := .slice A sp.length c) HZ rfl rfl
  refine yields_ (N := some 17) (x := .slice A sp.length c) rfl rfl ?_ (hK.out _ _ ⟨p0, p1, p2, p3, p4, p5, p6, p7, fun _ => rfl, p11, p14, p15, p16, S⟩)
  clear hK HZ hn hc p0 p1 p2 p3 p4 p5 p6 p7 p9 p11 p14 p15 p16; (try simp only [Array.getD_eq_getD_getElem?] at *); go_simp; try with_reducible rfl
 ·rintro l v W zb HZ hsz ⟨p0, p1, p2, p3, p4, p5, p6, p7, p9, p11, p14, p15, p16, S⟩ hi hn hc K hK
  have e16 := at0 HZ hsz (hn 8 (by decide)) rfl rfl (by decide); have e17 := at1 HZ hsz (hn 9 (by decide)) p9 rfl rfl (by decide); clear HZ
  rw [show l 12 = false from hc 12 11 (by decide) (hc 11 10 (by decide) hi), show l 13 = false from hc 13 10 (by decide) hi, show l 17 = false from hc 17 10 (by decide) hi, show l 8 = true from hn 8 (by decide), hi] at S
  refine st_app S 0 rfl rfl (.tmp 16) (.tmp 17) (83) (.agg #[.int .i64 0, .int .i64 0]) (16) rfl Try.underlying83 (by kernel_rfl) rfl (by decide) (by omega) e16 e17 (HC.out W S.tail.tail.tail) (fun _ _ h => h) (by have := HL.out; simp only [List.length_nil]; omega) (fun x w1 S1 => hK.out _ _ ⟨p0, p1, p2, p3, p4, p5, p6, p7, p9, no_ (hc 11 10 (by decide) hi), p14, p15, p16, ?_⟩)
  rw [show upd l 10 12 = false from hc 12 11 (by decide) (hc 11 10 (by decide) hi), show upd l 10 13 = false from hc 13 10 (by decide) hi, show upd l 10 17 = false from hc 17 10 (by decide) hi, show upd l 10 8 = true from hn 8 (by decide)]
  exact S1
 ·rintro l v W zb HZ hsz ⟨p0, p1, p2, p3, p4, p5, p6, p7, p9, p11, p14, p15, p16, S⟩ hi hn hc K hK
  have e14 := at1 HZ hsz (hn 6 (by decide)) p6 rfl rfl (by decide); have e15 := at1 HZ hsz (hn 7 (by decide)) p7 rfl rfl (by decide); have e18 := at0 HZ hsz (hn 10 (by decide)) rfl rfl (by decide); have S0 := S
  rw [show l 12 = false from hc 12 11 (by decide) hi, show l 13 = false from hc 13 12 (by decide) (hc 12 11 (by decide) hi), show l 17 = false from hc 17 11 (by decide) hi, show l 8 = true from up_ hc (j := 10) (m := 8) (by decide) (hn 10 (by decide)), show l 10 = true from hn 10 (by decide)] at S
  obtain ⟨A1, c1, q1⟩ := S.slice (d := k160) (e := 160) (v := v 10) (xs := sp) 0 rfl
  refine yields_ (N := some 19) (x := .agg #[.int .i64 x, .int .i64 y, v 10]) rfl rfl ?_ (hK.out _ _ ⟨p0, p1, p2, p3, p4, p5, p6, p7, p9, fun _ => rfl, p14, p15, p16, S0⟩)
  rw [q1] at e18
  rw [q1]
  clear hK HZ hn hc p0 p1 p2 p3 p4 p5 p6 p7 p9 p11 p14 p15 p16; (try simp only [Array.getD_eq_getD_getElem?] at *); go_simp; try with_reducible rfl
 ·rintro l v W zb HZ hsz ⟨p0, p1, p2, p3, p4, p5, p6, p7, p9, p11, p14, p15, p16, S⟩ hi hn hc K hK
  have e19 := at1 HZ hsz (hn 11 (by decide)) p11 rfl rfl (by decide); clear HZ
  rw [show l 13 = false from hc 13 12 (by decide) hi, show l 17 = false from hc 17 12 (by decide) hi, show l 8 = true from up_ hc (j := 10) (m := 8) (by decide) (up_ hc (j := 11) (m := 10) (by decide) (hn 11 (by decide))), show l 10 = true from up_ hc (j := 11) (m := 10) (by decide) (hn 11 (by decide)), hi] at S
  obtain ⟨A1, c1, q1⟩ := S.slice (d := k160) (e := 160) (v := v 10) (xs := sp) 0 rfl
  rw [q1] at e19
  refine st_litG S 0 rfl (k85) (85) rfl rfl (p := ⟨x, y, sp⟩) (cs := [.int .i64 x, .int .i64 y, v 10]) rfl (fun ok h => k85_mkM W base ok ⟨x, y, sp⟩ h) (by rw [q1]; simp only [Array.getD_eq_getD_getElem?] at *; first | (go_simp; done) | (go_simp; rfl)) (fun x w1 S1 => hK.out _ _ ⟨p0, p1, p2, p3, p4, p5, p6, p7, p9, p11, p14, p15, p16, ?_⟩)
  rw [show upd l 12 13 = false from hc 13 12 (by decide) hi, show upd l 12 17 = false from hc 17 12 (by decide) hi, show upd l 12 8 = true from up_ hc (j := 10) (m := 8) (by decide) (up_ hc (j := 11) (m := 10) (by decide) (hn 11 (by decide))), show upd l 12 10 = true from up_ hc (j := 11) (m := 10) (by decide) (hn 11 (by decide))]
  exact S1
 ·rintro l v W zb HZ hsz ⟨p0, p1, p2, p3, p4, p5, p6, p7, p9, p11, p14, p15, p16, S⟩ hi hn hc K hK
  have e13 := at1 HZ hsz (hn 5 (by decide)) p5 rfl rfl (by decide); have e20 := at0 HZ hsz (hn 12 (by decide)) rfl rfl (by decide); clear HZ
  rw [show l 17 = false from hc 17 13 (by decide) hi, show l 8 = true from up_ hc (j := 10) (m := 8) (by decide) (up_ hc (j := 11) (m := 10) (by decide) (up_ hc (j := 12) (m := 11) (by decide) (hn 12 (by decide)))), show l 10 = true from hn 10 (by decide), show l 12 = true from hn 12 (by decide), hi] at S
  refine st_appM S 2 0 (by decide) rfl rfl rfl (.tmp 13) (.tmp 20) (33) (.agg #[.int .i64 0, .int .i64 0, .slice none 0 0]) (40) rfl Try.underlying33 (by kernel_rfl) rfl (by decide) (by omega) e13 e20 (by have := HE.out; simp only [List.length_singleton]; omega) (fun x w1 S1 => hK.out _ _ ⟨p0, p1, p2, p3, p4, p5, p6, p7, p9, p11, p14, p15, p16, ?_⟩)
  rw [show upd l 13 17 = false from hc 17 13 (by decide) hi, show upd l 13 8 = true from up_ hc (j := 10) (m := 8) (by decide) (up_ hc (j := 11) (m := 10) (by decide) (up_ hc (j := 12) (m := 11) (by decide) (hn 12 (by decide)))), show upd l 13 10 = true from hn 10 (by decide), show upd l 13 12 = true from hn 12 (by decide)]
  exact S1
 ·rintro l v W zb HZ hsz ⟨p0, p1, p2, p3, p4, p5, p6, p7, p9, p11, p14, p15, p16, S⟩ hi hn hc K hK
  have e8 := at1 HZ hsz (hn 0 (by decide)) p0 rfl rfl (by decide)
  refine yields_ (N := some 22) (x := .pointer (some ⟨g, 0, none⟩)) rfl rfl ?_ (hK.out _ _ ⟨p0, p1, p2, p3, p4, p5, p6, p7, p9, p11, fun _ => rfl, p15, p16, S⟩)
  clear hK HZ hn hc p0 p1 p2 p3 p4 p5 p6 p7 p9 p11 p14 p15 p16; (try simp only [Array.getD_eq_getD_getElem?] at *); go_simp; try with_reducible rfl
 ·rintro l v W zb HZ hsz ⟨p0, p1, p2, p3, p4, p5, p6, p7, p9, p11, p14, p15, p16, S⟩ hi hn hc K hK
  have e22 := at1 HZ hsz (hn 14 (by decide)) p14 rfl rfl (by decide)
  refine yields_ (N := some 23) (x := .pointer (some ⟨g, 0, none⟩)) rfl rfl ?_ (hK.out _ _ ⟨p0, p1, p2, p3, p4, p5, p6, p7, p9, p11, p14, fun _ => rfl, p16, S⟩)
  clear hK HZ hn hc p0 p1 p2 p3 p4 p5 p6 p7 p9 p11 p14 p15 p16; (try simp only [Array.getD_eq_getD_getElem?] at *); go_simp; try with_reducible rfl
 ·rintro l v W zb HZ hsz ⟨p0, p1, p2, p3, p4, p5, p6, p7, p9, p11, p14, p15, p16, S⟩ hi hn hc K hK
  have e23 := at1 HZ hsz (hn 15 (by decide)) p15 rfl rfl (by decide)
  refine yields_ (N := some 24) (x := .pointer (some ⟨g, 1, none⟩)) rfl rfl ?_ (hK.out _ _ ⟨p0, p1, p2, p3, p4, p5, p6, p7, p9, p11, p14, p15, fun _ => rfl, S⟩)
  clear hK HZ hn hc p0 p1 p2 p3 p4 p5 p6 p7 p9 p11 p14 p15 p16; (try simp only [Array.getD_eq_getD_getElem?] at *); go_simp; try with_reducible rfl
 ·rintro l v W zb HZ hsz ⟨p0, p1, p2, p3, p4, p5, p6, p7, p9, p11, p14, p15, p16, S⟩ hi hn hc K hK
  have e21 := at0 HZ hsz (hn 13 (by decide)) rfl rfl (by decide); have e24 := at1 HZ hsz (hn 16 (by decide)) p16 rfl rfl (by decide); clear HZ
  rw [show l 8 = true from hn 8 (by decide), show l 10 = true from hn 10 (by decide), show l 12 = true from hn 12 (by decide), show l 13 = true from hn 13 (by decide), hi] at S
  have hk := hK.out; obtain ⟨A1, c1, q1⟩ := S.slice (d := k85) (e := 85) (v := v 13) 2 rfl; have zp := S.cell 1 1 rfl rfl; have fp := S.frozen 1 1 rfl; have S1 := S.put 1 1 (u := v 13) rfl rfl
  rw [q1] at e21
  refine st_run (w1 := W.setCell _ (v 13)) rfl rfl (by rw [q1]; simp only [Array.getD_eq_getD_getElem?] at *; go_simp; try rfl) ?_
  refine hk undef _ ⟨p0, p1, p2, p3, p4, p5, p6, p7, p9, p11, p14, p15, p16, ?_⟩
  rw [show upd l 17 8 = true from hn 8 (by decide), show upd l 17 10 = true from hn 10 (by decide), show upd l 17 12 = true from hn 12 (by decide), show upd l 17 13 = true from hn 13 (by decide)]
  exact S1
 obtain ⟨-, -, -, -, -, -, -, -, -, -, -, -, -, S⟩ := hJ
 replace S := (show Hp base w0 W (fT :: fB base g #[.int .i64 s, (v 13), vf] 217 :: fR k85 85 base (v 13) (es ++ [⟨x, y, sp⟩]) :: L) from S).tail
 simp only [putIf, ↓reduceIte, Act.put, List.setIfInBounds_toArray, List.set_cons_succ, List.set_cons_zero]
 go_wp2
 go_end0
 exact ⟨_, rfl, S⟩
end

/-! ### spec_l6Maker_loop: function 192 -/
section
open Go.Proofs.Ytfajfjgkkgigoaa.Kit
def MkP (base : Nat) (w0 : World) (L : List Fact) (g : Nat) (vf : Value) (w : World) (s : Int) (lo n : Nat) : Prop := 0 ≤ s ∧ ∃ (ve : Value) (es : List S85), (lo ≤ es.length ∧ es.length ≤ n ∧ ∀ e ∈ es, e.f2.length ≤ 128) ∧ Hp base w0 w (fB base g #[.int .i64 s, ve, vf] 217 :: fR k85 85 base ve es :: L)
theorem MkP.up {base : Nat} {w0 : World} {L : List Fact} {g : Nat} {vf : Value} {w : World} {s : Int} {lo n n' : Nat} (h : MkP base w0 L g vf w s lo n) (hn : n ≤ n') : MkP base w0 L g vf w s lo n' := by
 obtain ⟨h0, ve, es, h1, h2⟩ := h
 exact ⟨h0, ve, es, ⟨h1.1, by omega, h1.2.2⟩, h2⟩
theorem MkP.state {base : Nat} {w0 : World} {L : List Fact} {g : Nat} {vf : Value} {w : World} {s : Int} {lo n : Nat} (h : MkP base w0 L g vf w s lo n) (hs : s ≤ 1000000) :
  Calls Try.prog 190 #[.pointer (some ⟨g, 0, none⟩)] w fun e w' => e = .returned (.int .i64 s) ∧ MkP base w0 L g vf w' (s + 1) lo n := by
 obtain ⟨h0, ve, es, h1, h2⟩ := h
 refine (spec_l6Maker_state.calls 0 g s ve vf rfl ⟨h0, hs⟩ h2).mono ?_
 rintro e w' ⟨rfl, S⟩
 exact ⟨rfl, by omega, ve, es, h1, S⟩
theorem MkP.full {base : Nat} {w0 : World} {L : List Fact} {g : Nat} {vf : Value} {w : World} {s : Int} {lo n : Nat} (h : MkP base w0 L g vf w s lo n) :
  Calls Try.prog 189 #[.pointer (some ⟨g, 0, none⟩)] w fun e w' => ∃ b : Bool, e = .returned (.bool b) ∧ (b = false → s ≤ 3000 ∧ MkP base w0 L g vf w' s lo 12000) ∧ MkP base w0 L g vf w' s lo n := by
 obtain ⟨h0, ve, es, h1, h2⟩ := h
 obtain ⟨A, c, rfl⟩ := h2.slice 1 rfl
 refine (spec_l6Maker_full.calls 0 g es.length c A s vf rfl h2).mono ?_
 rintro e w' ⟨rfl, S⟩
 refine ⟨_, rfl, fun hb => ?_, h0, _, es, h1, S⟩
 have := of_decide_eq_false hb
 exact ⟨by omega, h0, _, es, ⟨h1.1, by omega, h1.2.2⟩, S⟩
theorem MkP.edge {base : Nat} {w0 : World} {L : List Fact} {g : Nat} {vf : Value} {w : World} {s : Int} {lo n : Nat} (h : MkP base w0 L g vf w s lo n) (x y : Int) {A : Option Addr} {c : Nat} {sp : List S160} (hC : ∀ W, Hp base w0 W L → Kd.C k160 W A sp.length sp) (hl : sp.length ≤ 128) (hn : n ≤ 1000000) :
  Calls Try.prog 176 #[.pointer (some ⟨g, 0, none⟩), .int .i64 x, .int .i64 y, .slice A sp.length c] w fun e w' => e = .returned (.tuple #[]) ∧ MkP base w0 L g vf w' s (lo + 1) (n + 1) := by
 obtain ⟨h0, ve, es, h1, h2⟩ := h
 refine (spec_l6Maker_edge.calls g s x y ve vf es A c sp hC (by omega) (by omega) h2).mono ?_
 rintro e w' ⟨ve', rfl, S⟩
 refine ⟨rfl, h0, ve', _, ⟨by simp; omega, by simp; omega, fun e he => ?_⟩, S⟩
 rcases List.mem_append.1 he with q | q
 ·exact h1.2.2 e q
 ·rw [List.mem_singleton.1 q]; exact hl
theorem MkP.edge0 {base : Nat} {w0 : World} {L : List Fact} {g : Nat} {vf : Value} {w : World} {s : Int} {lo n : Nat} (h : MkP base w0 L g vf w s lo n) (x y : Int) (hn : n ≤ 1000000) :
  Calls Try.prog 176 #[.pointer (some ⟨g, 0, none⟩), .int .i64 x, .int .i64 y, .slice none 0 0] w fun e w' => e = .returned (.tuple #[]) ∧ MkP base w0 L g vf w' s (lo + 1) (n + 1) :=
 h.edge x y (sp := []) (fun W _ => Kd.C_nil _ _) (by simp) hn
set_option maxHeartbeats 4000000 in
set_option maxRecDepth 100000 in
theorem MkP.loop {base : Nat} {w0 : World} {L : List Fact} {g : Nat} {vf : Value} {w : World} {s : Int} {lo n : Nat} (h : MkP base w0 L g vf w s lo n) (op a z : Int) (hs : s ≤ 100000) (hn : n ≤ 100000) :
  Calls Try.prog 192 #[.pointer (some ⟨g, 0, none⟩), .int .i64 op, .int .i64 a, .int .i64 z] w fun e w' => ∃ p q : Int, e = .returned (.tuple #[.int .i64 p, .int .i64 q]) ∧ MkP base w0 L g vf w' (s + 2) lo (n + 4) := by
 replace h := Aside0.mk h
 replace hs := Aside0.mk hs
 replace hn := Aside0.mk hn
 go_enter Try.func192, Try.ntmps192
 go_wp2_with fail
 refine (h.out.state (by have := hs.out; omega)).mono ?_
 rintro e w_ ⟨rfl, h1⟩
 replace h := Aside0.mk h1
 clear h1
 go_wp2_with fail
 refine (h.out.state (by have := hs.out; omega)).mono ?_
 rintro e w_ ⟨rfl, h1⟩
 replace h := Aside0.mk h1
 clear h1
 go_wp2_with fail
 refine (h.out.edge0 s a (by have := hn.out; omega)).mono ?_
 rintro e w_ ⟨rfl, h1⟩
 replace h := Aside0.mk h1
 clear h1
 by_cases c6 : op = 6
 ·have hc := eq_true c6
  by_cases c7 : op = 7
  ·have hc := eq_true c7
   omega
  ·have hc := eq_false c7
   go_wp2_with fail
   refine (h.out.edge0 z a (by have := hn.out; omega)).mono ?_
   rintro e w_ ⟨rfl, h1⟩
   replace h := Aside0.mk h1; clear h1
   go_wp2_with fail
   refine (h.out.edge0 z (s + 1) (by have := hn.out; omega)).mono ?_
   rintro e w_ ⟨rfl, h1⟩
   replace h := Aside0.mk h1; clear h1
   go_wp2
   go_ret2
   exact ⟨_, _, rfl, by have := h.out; exact ⟨by have := this.1; omega, by obtain ⟨_, ve, es, q, S⟩ := this; rw [show s + 1 + 1 = s + 2 by omega] at S; exact ⟨ve, es, ⟨by omega, by omega, q.2.2⟩, S⟩⟩⟩
 ·have hc := eq_false c6
  by_cases c7 : op = 7
  ·have hc := eq_true c7
   go_wp2_with fail
   refine (h.out.edge0 s (s + 1) (by have := hn.out; omega)).mono ?_
   rintro e w_ ⟨rfl, h1⟩
   replace h := Aside0.mk h1; clear h1
   go_wp2_with fail
   refine (h.out.edge0 z (s + 1) (by have := hn.out; omega)).mono ?_
   rintro e w_ ⟨rfl, h1⟩
   replace h := Aside0.mk h1; clear h1
   go_wp2
   go_ret2
   exact ⟨_, _, rfl, by have := h.out; exact ⟨by have := this.1; omega, by obtain ⟨_, ve, es, q, S⟩ := this; rw [show s + 1 + 1 = s + 2 by omega] at S; exact ⟨ve, es, ⟨by omega, by omega, q.2.2⟩, S⟩⟩⟩
  ·have hc := eq_false c7
   go_wp2_with fail
   refine (h.out.edge0 s (s + 1) (by have := hn.out; omega)).mono ?_
   rintro e w_ ⟨rfl, h1⟩
   replace h := Aside0.mk h1; clear h1
   go_wp2_with fail
   refine (h.out.edge0 z a (by have := hn.out; omega)).mono ?_
   rintro e w_ ⟨rfl, h1⟩
   replace h := Aside0.mk h1; clear h1
   go_wp2_with fail
   refine (h.out.edge0 z (s + 1) (by have := hn.out; omega)).mono ?_
   rintro e w_ ⟨rfl, h1⟩
   replace h := Aside0.mk h1; clear h1
   go_wp2
   go_ret2
   exact ⟨_, _, rfl, by have := h.out; exact ⟨by have := this.1; omega, by obtain ⟨_, ve, es, q, S⟩ := this; rw [show s + 1 + 1 = s + 2 by omega] at S; exact ⟨ve, es, ⟨by omega, by omega, q.2.2⟩, S⟩⟩⟩
end

/-! ### spec_l6Maker_times: function 191 -/
section
open Go.Proofs.Ytfajfjgkkgigoaa.Kit
theorem MkP.hp {base : Nat} {w0 : World} {L : List Fact} {g : Nat} {vf : Value} {w : World} {s : Int} {lo n : Nat} (h : MkP base w0 L g vf w s lo n) : Hp base w0 w L := by
 obtain ⟨_, ve, es, _, S⟩ := h
 exact S.tail.tail
theorem MkP.low {base : Nat} {w0 : World} {L : List Fact} {g : Nat} {vf : Value} {w : World} {s : Int} {lo lo' n : Nat} (h : MkP base w0 L g vf w s lo n) (hn : lo' ≤ lo) : MkP base w0 L g vf w s lo' n := by
 obtain ⟨h0, ve, es, h1, h2⟩ := h
 exact ⟨h0, ve, es, ⟨by omega, h1.2⟩, h2⟩
theorem MkP.drop {base : Nat} {w0 : World} {L : List Fact} {g : Nat} {vf : Value} {w : World} {s : Int} {lo n : Nat} {F : Fact} (h : MkP base w0 (F :: L) g vf w s lo n) : MkP base w0 L g vf w s lo n := by
 obtain ⟨h0, ve, es, h1, h2⟩ := h
 exact ⟨h0, ve, es, h1, Hp.pick (A := [_, _, F]) [0, 1] h2 (by decide) (by simp)⟩
theorem MkP.cell {base : Nat} {w0 : World} {L : List Fact} {gm : Nat} {vf : Value} {w : World} {s : Int} {lo n : Nat} (h : MkP base w0 L gm vf w s lo n) (i j : Nat) {g : Nat} {cs : Array Value} {t : TypeId} {v : Value} (hi : L[i]? = some (fB base g cs t)) (hv : cs[j]? = some v) : w.cell? ⟨g, j, none⟩ = some v := h.hp.cell i j hi hv
theorem MkP.frozen {base : Nat} {w0 : World} {L : List Fact} {gm : Nat} {vf : Value} {w : World} {s : Int} {lo n : Nat} (h : MkP base w0 L gm vf w s lo n) (i j : Nat) {g : Nat} {cs : Array Value} {t : TypeId} (hi : L[i]? = some (fB base g cs t)) : w.frozen? ⟨g, j, none⟩ = false := h.hp.frozen i j hi
theorem MkP.put {base : Nat} {w0 : World} {L : List Fact} {gm : Nat} {vf : Value} {w : World} {s : Int} {lo n : Nat} (h : MkP base w0 L gm vf w s lo n) (i j : Nat) {g : Nat} {cs cs' : Array Value} {t : TypeId} {u : Value} (hi : L[i]? = some (fB base g cs t)) (e : cs.setIfInBounds j u = cs') : MkP base w0 (L.set i (fB base g cs' t)) gm vf (w.setCell ⟨g, j, none⟩ u) s lo n := by
 obtain ⟨h0, ve, es, h1, h2⟩ := h
 exact ⟨h0, ve, es, h1, h2.put (i + 2) j (by simpa using hi) e⟩
theorem MkP.drewN {base : Nat} {w0 : World} {L : List Fact} {gm : Nat} {vf : Value} {w : World} {s : Int} {lo n : Nat} (h : MkP base w0 L gm vf w s lo n) (m : Nat) : MkP base w0 L gm vf (w.drewN m) s lo n := by
 obtain ⟨h0, ve, es, h1, h2⟩ := h
 exact ⟨h0, ve, es, h1, h2.drewN m⟩
theorem MkP.drew {base : Nat} {w0 : World} {L : List Fact} {gm : Nat} {vf : Value} {w : World} {s : Int} {lo n : Nat} (h : MkP base w0 L gm vf w s lo n) : MkP base w0 L gm vf w.drew s lo n := by
 obtain ⟨h0, ve, es, h1, h2⟩ := h
 exact ⟨h0, ve, es, h1, h2.drew⟩
theorem ev_boxM {P : Program} {rest : List Oper} {o : Oper} {a : Act} {Q : Exit → Act → World → Prop} {ops : Array Oper} {base : Nat} {w0 W : World} {L : List Fact} {gm : Nat} {vf : Value} {s : Int} {lo n : Nat} (h : Aside0 (MkP base w0 L gm vf W s lo n)) (hgd : o.guard = none) {N : Tmp} (hd : o.dst = some N) {cs : Array Value} {t : TypeId}
  (hrun : (execOp a.eval o).run P W = .ok (.value (.pointer (some ⟨W.heap.size, 0, none⟩))) (W.alloc (.cells cs t (0, 0))))
  (k : ∀ g w1, Aside0 (MkP base w0 (fB base g cs t :: L) gm vf w1 s lo n) → wpList P ops Q rest (a.put (some N) (.pointer (some ⟨g, 0, none⟩))) w1) : wpList P ops Q (o :: rest) a W := by
 obtain ⟨h0, ve, es, h1, S⟩ := h.out
 refine ev_box ⟨S⟩ hgd hd hrun (fun g w1 _ S1 => k g w1 ⟨h0, ve, es, h1, ?_⟩)
 exact Hp.pick (A := [fB base g cs t, _, _]) [1, 2, 0] S1.out (by decide) (by simp)
/-- two states are told, and the maker has grown no more than to S states and N edges -/
def PairPost (base : Nat) (w0 : World) (L : List Fact) (g : Nat) (vf : Value) (lo : Nat) (S : Int) (N : Nat) (e : Ending) (w' : World) : Prop := ∃ (x z s' : Int) (n' : Nat), e = .returned (.tuple #[.int .i64 x, .int .i64 z]) ∧ s' ≤ S ∧ n' ≤ N ∧ MkP base w0 L g vf w' s' lo n'
/-- a part of an expression is laid -/
def PartOK (g : Nat) (vf : Value) (An : Option Addr) (cn : Nat) (ns : List S230) (m : Nat) : Prop := ∀ {base : Nat} {w0 w : World} {L : List Fact} {s : Int} {lo n : Nat}, NodesAt base w0 L An ns → MkP base w0 L g vf w s lo n → s ≤ 50000 → n ≤ 50000 →
  Calls Try.prog 175 #[.pointer (some ⟨g, 0, none⟩), .agg #[.slice An ns.length cn], .int .i64 (m : Int)] w (PairPost base w0 L g vf lo (max s (3002 + 2 * (m + 1))) (max n (12001 + 5 * (m + 1))))
theorem spec_l6Maker_times.need9 : (rtab .any (opsOf Try.f191 9)).2.map Prod.fst = [[], [], [], [2], [3], [4], [0, 1, 5], [6], [7], [7], [8, 6, 0, 1, 2, 3, 4, 5, 6, 7, 8], [9, 10, 0, 1, 2, 3, 4, 5, 6, 7, 8, 9, 10]] := by kernel_rfl
theorem spec_l6Maker_times.dst9 : (opsOf Try.f191 9).toList.map Oper.dst = [some 34, some 35, some 36, some 37, some 38, some 39, some 40, some 33, some 41, some 42, some 12, some 13] := by kernel_rfl
set_option maxHeartbeats 4000000 in
set_option maxRecDepth 100000 in
theorem spec_l6Maker_times.calls (g : Nat) (vf : Value) (An : Option Addr) (cn : Nat) (ns : List S230) (kid : Nat) (hP : PartOK g vf An cn ns kid) (hkid : kid ≤ 300) {base : Nat} {w0 w : World} {L : List Fact} {s : Int} {lo n : Nat} (hN : NodesAt base w0 L An ns) (h : MkP base w0 L g vf w s lo n) (hs : s ≤ 50000) (hn : n ≤ 50000) (op mn mx : Int) (A1 : Option Addr) (n1 c1 : Nat) (A2 : Option Addr) (c2 : Nat) (kd : List Int) (hk : ∀ W, Hp base w0 W L → Kd.C (Kd.int .i64) W A2 kd.length kd) (hk1 : 1 ≤ kd.length) (hk0 : rd kd 0 = (kid : Int)) (hm : 0 ≤ mn ∧ mn ≤ 30 ∧ mx ≤ 30) :
  Calls Try.prog 191 #[.pointer (some ⟨g, 0, none⟩), .agg #[.slice An ns.length cn], .agg #[.int .i64 op, .slice A1 n1 c1, .slice A2 kd.length c2, .int .i64 mn, .int .i64 mx]] w (PairPost base w0 L g vf lo (max s (3002 + 2 * ((kid : Int) + 2))) (max n (12001 + 5 * (kid + 2)))) := by
 replace h := Aside0.mk h
 replace hs := Aside0.mk hs
 replace hn := Aside0.mk hn
 replace hm := Aside0.mk hm
 replace hk := Aside0.mk hk
 replace hkid := Aside0.mk hkid
 replace hk1 := Aside0.mk hk1
 replace hk0 := Aside0.mk hk0
 replace hP := Aside0.mk @hP
 replace hN := Aside0.mk hN
 obtain ⟨ad, ek, -⟩ := Kd.at_int (hk.out _ h.out.hp) 0 (Int.le_refl _) (by have := hk1.out; omega)
 cases ek
 have WB := Aside0.mk (show wrap64 (mn + 1) = mn + 1 from w64 (by have := hm.out; omega) (by have := hm.out; omega))
 rcases Int.lt_or_le mx 0 with cm | cm
 all_goals first | (have hc := eq_true (show mx < 0 from cm); obtain ⟨M, eM⟩ : ∃ M : Int, Aside0 (M = wrap64 (mn + 1) ∧ M ≤ 31) := ⟨_, rfl, by have := WB.out; have := hm.out; omega⟩) | (have hc := eq_false (Int.not_lt.2 cm); obtain ⟨M, eM⟩ : ∃ M : Int, Aside0 (M = mx ∧ M ≤ 31) := ⟨_, rfl, by have := hm.out; omega⟩)
 all_goals
  go_enter Try.func191, Try.ntmps191
  go_wp2_with (first | ((with_reducible refine gate_dst (N := 4) rfl ?_); refine ev_boxM h rfl rfl (cs := #[.slice An ns.length cn]) (t := 214) (by first | (go_simp; done) | (go_simp; rfl)) (fun g4 w_ h1 => ?_); clear h; have h := h1; clear h1) | ((with_reducible refine gate_dst (N := 5) rfl ?_); refine ev_boxM h rfl rfl (cs := #[.int .i64 op, .slice A1 n1 c1, .slice (some ad) kd.length c2, .int .i64 mn, .int .i64 mx]) (t := 230) (by first | (go_simp; done) | (go_simp; rfl)) (fun g5 w_ h1 => ?_); clear h; have h := h1; clear h1; have z3 := h.out.cell 0 3 rfl rfl; have z4 := h.out.cell 0 4 rfl rfl))
  clear z3 z4
  rw [← eM.out.1]
  go_loopg [8, 9, 11] (M).toNat (fun gk v8 v9 v11 wr => ∃ (x z i s' : Int) (n' : Nat), v8 = .int .i64 x ∧ v9 = .int .i64 z ∧ v11 = .int .i64 i ∧ (0 ≤ i ∧ (M - i).toNat = gk) ∧ Aside0 (s' ≤ max s (3002 + 2 * ((kid : Int) + 2)) ∧ n' ≤ max n (12001 + 5 * (kid + 2))) ∧ Aside0 (MkP base w0 (fB base g5 #[.int .i64 op, .slice A1 n1 c1, .slice (some ad) kd.length c2, .int .i64 mn, .int .i64 mx] 230 :: fB base g4 #[.slice An ns.length cn] 214 :: L) g vf wr s' lo n'))
  case atStart => exact ⟨-1, -1, 0, s, n, rfl, rfl, rfl, ⟨Int.le_refl _, by rw [Int.sub_zero]⟩, ⟨by omega, by omega⟩, h⟩
  case round =>
   clear h; obtain ⟨x, z, i, s', n', rfl, rfl, rfl, ⟨hi0, hgk⟩, hb, h⟩ := hrel; have HI := Aside0.mk (And.intro hi0 hgk); clear hi0 hgk
   by_cases c : i < M
   ·have hcond := eq_true c
    go_wp2_with fail
    refine (h.out.full).mono ?_
    rintro e w_ ⟨b, rfl, hf, h1⟩
    clear h
    cases b with
    | true =>
     clear hf
     go_wp2
     all_goals (go_ret2; exact ⟨_, _, s', n', rfl, hb.out.1, hb.out.2, h1.drop.drop⟩)
    | false =>
     obtain ⟨hs3, h3⟩ := hf rfl; have h := Aside0.mk h3; have HS3 := Aside0.mk hs3; clear hf h1 h3 hs3; have zx := h.out.cell 1 0 rfl rfl; have zk := h.out.cell 0 2 rfl rfl
     go_wp2_with fail
     refine mask_ (n := 12) (fun l v W => (l 0 = true → v 0 = .pointer (some ⟨g, 0, none⟩)) ∧ (l 1 = true → v 1 = .agg #[.slice An ns.length cn]) ∧ (l 2 = true → v 2 = .pointer (some ⟨g5, 2, none⟩)) ∧ (l 3 = true → v 3 = .slice (some ad) kd.length c2) ∧ (l 4 = true → v 4 = .pointer (some (ad.add 0))) ∧ (l 5 = true → v 5 = .int .i64 (kid : Int)) ∧ (l 6 = true → ∃ x z : Int, v 6 = .tuple #[.int .i64 x, .int .i64 z]) ∧ (l 7 = true → ∃ x z : Int, v 7 = .tuple #[.int .i64 x, .int .i64 z]) ∧ (l 8 = true → ∃ x : Int, v 8 = .int .i64 x) ∧ (l 9 = true → ∃ x : Int, v 9 = .int .i64 x) ∧ (l 10 = true → ∃ x : Int, v 10 = .int .i64 x) ∧ (l 11 = true → ∃ x : Int, v 11 = .int .i64 x) ∧ (bif l 6 then (∃ (s1 : Int) (n1_ : Nat), s1 ≤ max s' (3002 + 2 * ((kid : Int) + 1)) ∧ n1_ ≤ max 12000 (12001 + 5 * (kid + 1)) ∧ MkP base w0 (fB base g5 #[.int .i64 op, .slice A1 n1 c1, .slice (some ad) kd.length c2, .int .i64 mn, .int .i64 mx] 230 :: fB base g4 #[.slice An ns.length cn] 214 :: L) g vf W s1 lo n1_) else (MkP base w0 (fB base g5 #[.int .i64 op, .slice A1 n1 c1, .slice (some ad) kd.length c2, .int .i64 mn, .int .i64 mx] 230 :: fB base g4 #[.slice An ns.length cn] 214 :: L) g vf W s' lo 12000))) [[], [], [], [2], [3], [4], [0, 1, 5], [6], [7], [7], [8, 6, 0, 1, 2, 3, 4, 5, 6, 7, 8], [9, 10, 0, 1, 2, 3, 4, 5, 6, 7, 8, 9, 10]] [some 34, some 35, some 36, some 37, some 38, some 39, some 40, some 33, some 41, some 42, some 12, some 13] 70 (by kernel_rfl) spec_l6Maker_times.need9 spec_l6Maker_times.dst9 (by decide) rfl ⟨fun h => absurd h (by decide), fun h => absurd h (by decide), fun h => absurd h (by decide), fun h => absurd h (by decide), fun h => absurd h (by decide), fun h => absurd h (by decide), fun h => absurd h (by decide), fun h => absurd h (by decide), fun h => absurd h (by decide), fun h => absurd h (by decide), fun h => absurd h (by decide), fun h => absurd h (by decide), ?_⟩ ⟨?_, ?_, ?_, ?_, ?_, ?_, ?_, ?_, ?_, ?_, ?_, ?_, trivial⟩ (fun v W hJ => ?_)
     ·exact h.out.drew
     ·rintro l v W zb HZ hsz ⟨p0, p1, p2, p3, p4, p5, p6, p7, p8, p9, p10, p11, S⟩ hi hn hc K hK
      have e0 := oth_ (N := 0) (x := .pointer (some ⟨g, 0, none⟩)) HZ rfl rfl
      refine yields_ (N := some 34) (x := .pointer (some ⟨g, 0, none⟩)) rfl rfl ?_ (hK.out _ _ ⟨fun _ => rfl, p1, p2, p3, p4, p5, p6, p7, p8, p9, p10, p11, S⟩)
      clear hK HZ hn hc p0 p1 p2 p3 p4 p5 p6 p7 p8 p9 p10 p11; (try simp only [Array.getD_eq_getD_getElem?] at *); go_simp; try with_reducible rfl
     ·rintro l v W zb HZ hsz ⟨p0, p1, p2, p3, p4, p5, p6, p7, p8, p9, p10, p11, S⟩ hi hn hc K hK
      have e4 := oth_ (N := 4) (x := .pointer (some ⟨g4, 0, none⟩)) HZ rfl rfl; have S0 := S
      rw [show l 6 = false from hc 6 1 (by decide) hi] at S
      simp only [cond_true, cond_false] at S
      have z := S.cell 1 0 rfl rfl
      refine yields_ (N := some 35) (x := .agg #[.slice An ns.length cn]) rfl rfl ?_ (hK.out _ _ ⟨p0, fun _ => rfl, p2, p3, p4, p5, p6, p7, p8, p9, p10, p11, S0⟩)
      clear hK HZ hn hc p0 p1 p2 p3 p4 p5 p6 p7 p8 p9 p10 p11; (try simp only [Array.getD_eq_getD_getElem?] at *); go_simp; try with_reducible rfl
     ·rintro l v W zb HZ hsz ⟨p0, p1, p2, p3, p4, p5, p6, p7, p8, p9, p10, p11, S⟩ hi hn hc K hK
      have e5 := oth_ (N := 5) (x := .pointer (some ⟨g5, 0, none⟩)) HZ rfl rfl
      refine yields_ (N := some 36) (x := .pointer (some ⟨g5, 2, none⟩)) rfl rfl ?_ (hK.out _ _ ⟨p0, p1, fun _ => rfl, p3, p4, p5, p6, p7, p8, p9, p10, p11, S⟩)
      clear hK HZ hn hc p0 p1 p2 p3 p4 p5 p6 p7 p8 p9 p10 p11; (try simp only [Array.getD_eq_getD_getElem?] at *); go_simp; try with_reducible rfl
     ·rintro l v W zb HZ hsz ⟨p0, p1, p2, p3, p4, p5, p6, p7, p8, p9, p10, p11, S⟩ hi hn hc K hK
      have e36 := at1 HZ hsz (hn 2 (by decide)) p2 rfl rfl (by decide); have S0 := S
      rw [show l 6 = false from hc 6 5 (by decide) (hc 5 4 (by decide) (hc 4 3 (by decide) hi))] at S
      simp only [cond_true, cond_false] at S
      have z := S.cell 0 2 rfl rfl
      refine yields_ (N := some 37) (x := .slice (some ad) kd.length c2) rfl rfl ?_ (hK.out _ _ ⟨p0, p1, p2, fun _ => rfl, p4, p5, p6, p7, p8, p9, p10, p11, S0⟩)
      clear hK HZ hn hc p0 p1 p2 p3 p4 p5 p6 p7 p8 p9 p10 p11; (try simp only [Array.getD_eq_getD_getElem?] at *); go_simp; try with_reducible rfl
     ·rintro l v W zb HZ hsz ⟨p0, p1, p2, p3, p4, p5, p6, p7, p8, p9, p10, p11, S⟩ hi hn hc K hK
      have e37 := at1 HZ hsz (hn 3 (by decide)) p3 rfl rfl (by decide); have S0 := S
      rw [show l 6 = false from hc 6 5 (by decide) (hc 5 4 (by decide) hi)] at S
      simp only [cond_true, cond_false] at S
      have hb1 := eq_true (show (0 : Int) < (kd.length : Int) by have := hk1.out; omega)
      have hb2 : ¬ kd = [] := fun q => by have := hk1.out; rw [q] at this; cases this
      refine yields_ (N := some 38) (x := .pointer (some (ad.add 0))) rfl rfl ?_ (hK.out _ _ ⟨p0, p1, p2, p3, fun _ => rfl, p5, p6, p7, p8, p9, p10, p11, S0⟩)
      clear hK HZ hn hc p0 p1 p2 p3 p4 p5 p6 p7 p8 p9 p10 p11; (try simp only [Array.getD_eq_getD_getElem?] at *); go_simp; try with_reducible rfl
     ·rintro l v W zb HZ hsz ⟨p0, p1, p2, p3, p4, p5, p6, p7, p8, p9, p10, p11, S⟩ hi hn hc K hK
      have e38 := at1 HZ hsz (hn 4 (by decide)) p4 rfl rfl (by decide); have S0 := S
      rw [show l 6 = false from hc 6 5 (by decide) hi] at S
      simp only [cond_true, cond_false] at S
      obtain ⟨ad', ek, hx⟩ := Kd.at_int (hk.out _ S.hp.tail.tail) 0 (Int.le_refl _) (by have := hk1.out; omega); cases ek
      rw [hk0.out] at hx
      have hx2 : W.cell? ad = some (.int .i64 (kid : Int)) := by rw [← Addr.add_zero' ad]; exact hx
      refine yields_ (N := some 39) (x := .int .i64 (kid : Int)) rfl rfl ?_ (hK.out _ _ ⟨p0, p1, p2, p3, p4, fun _ => rfl, p6, p7, p8, p9, p10, p11, S0⟩)
      clear hK HZ hn hc p0 p1 p2 p3 p4 p5 p6 p7 p8 p9 p10 p11; (try simp only [Array.getD_eq_getD_getElem?] at *); go_simp; try with_reducible rfl
     ·rintro l v W zb HZ hsz ⟨p0, p1, p2, p3, p4, p5, p6, p7, p8, p9, p10, p11, S⟩ hi hn hc K hK
      have e34 := at1 HZ hsz (hn 0 (by decide)) p0 rfl rfl (by decide); have e35 := at1 HZ hsz (hn 1 (by decide)) p1 rfl rfl (by decide); have e39 := at1 HZ hsz (hn 5 (by decide)) p5 rfl rfl (by decide); clear HZ
      rw [hi] at S
      simp only [cond_true, cond_false] at S
      refine goes_ Try.func175 (by kernel_rfl) rfl #[.pointer (some ⟨g, 0, none⟩), .agg #[.slice An ns.length cn], .int .i64 (kid : Int)] rfl rfl rfl (by simp only [List.map_toArray, List.map_cons, List.map_nil]; show #[zb.tmps.getD 34 undef, zb.tmps.getD 35 undef, zb.tmps.getD 39 undef] = _; simp only [e34, e35, e39]) ?_
      refine (hP.out (hN.out.more [_, _]) S (by have := HS3.out; omega) (by omega)).mono ?_
      rintro e w' ⟨x, z, s1, n1_, rfl, b1, b2, h1⟩
      exact ⟨_, rfl, hK.out _ _ ⟨p0, p1, p2, p3, p4, p5, fun _ => ⟨x, z, rfl⟩, p7, p8, p9, p10, p11, ⟨s1, n1_, b1, b2, h1⟩⟩⟩
     ·rintro l v W zb HZ hsz ⟨p0, p1, p2, p3, p4, p5, p6, p7, p8, p9, p10, p11, S⟩ hi hn hc K hK
      have e40 := at0 HZ hsz (hn 6 (by decide)) rfl rfl (by decide); obtain ⟨x0, z0, q6⟩ := p6 (hn 6 (by decide))
      rw [q6] at e40
      clear HZ
      refine yields_ (N := some 33) (x := .tuple #[.int .i64 x0, .int .i64 z0]) rfl rfl ?_ (hK.out _ _ ⟨p0, p1, p2, p3, p4, p5, p6, fun _ => ⟨x0, z0, rfl⟩, p8, p9, p10, p11, S⟩)
      clear hK hn hc p0 p1 p2 p3 p4 p5 p6 p7 p8 p9 p10 p11; (try simp only [Array.getD_eq_getD_getElem?] at *); go_simp; try with_reducible rfl
     ·rintro l v W zb HZ hsz ⟨p0, p1, p2, p3, p4, p5, p6, p7, p8, p9, p10, p11, S⟩ hi hn hc K hK
      have e33 := at0 HZ hsz (hn 7 (by decide)) rfl rfl (by decide); obtain ⟨x1, z1, q7⟩ := p7 (hn 7 (by decide))
      rw [q7] at e33
      clear HZ
      refine yields_ (N := some 41) (x := .int .i64 x1) rfl rfl ?_ (hK.out _ _ ⟨p0, p1, p2, p3, p4, p5, p6, p7, fun _ => ⟨x1, rfl⟩, p9, p10, p11, S⟩)
      clear hK hn hc p0 p1 p2 p3 p4 p5 p6 p7 p8 p9 p10 p11; (try simp only [Array.getD_eq_getD_getElem?] at *); go_simp; try with_reducible rfl
     ·rintro l v W zb HZ hsz ⟨p0, p1, p2, p3, p4, p5, p6, p7, p8, p9, p10, p11, S⟩ hi hn hc K hK
      have e33 := at0 HZ hsz (hn 7 (by decide)) rfl rfl (by decide); obtain ⟨x1, z1, q7⟩ := p7 (hn 7 (by decide))
      rw [q7] at e33
      clear HZ
      refine yields_ (N := some 42) (x := .int .i64 z1) rfl rfl ?_ (hK.out _ _ ⟨p0, p1, p2, p3, p4, p5, p6, p7, p8, fun _ => ⟨z1, rfl⟩, p10, p11, S⟩)
      clear hK hn hc p0 p1 p2 p3 p4 p5 p6 p7 p8 p9 p10 p11; (try simp only [Array.getD_eq_getD_getElem?] at *); go_simp; try with_reducible rfl
     ·rintro l v W zb HZ hsz ⟨p0, p1, p2, p3, p4, p5, p6, p7, p8, p9, p10, p11, S⟩ hi hn hc K hK
      have e41 := at0 HZ hsz (hn 8 (by decide)) rfl rfl (by decide); obtain ⟨x2, q8⟩ := p8 (hn 8 (by decide))
      rw [q8] at e41
      clear HZ
      refine yields_ (N := some 12) (x := .int .i64 x2) rfl rfl ?_ (hK.out _ _ ⟨p0, p1, p2, p3, p4, p5, p6, p7, p8, p9, fun _ => ⟨x2, rfl⟩, p11, S⟩)
      clear hK hn hc p0 p1 p2 p3 p4 p5 p6 p7 p8 p9 p10 p11; (try simp only [Array.getD_eq_getD_getElem?] at *); go_simp; try with_reducible rfl
     ·rintro l v W zb HZ hsz ⟨p0, p1, p2, p3, p4, p5, p6, p7, p8, p9, p10, p11, S⟩ hi hn hc K hK
      have e42 := at0 HZ hsz (hn 9 (by decide)) rfl rfl (by decide); obtain ⟨x3, q9⟩ := p9 (hn 9 (by decide))
      rw [q9] at e42
      clear HZ
      refine yields_ (N := some 13) (x := .int .i64 x3) rfl rfl ?_ (hK.out _ _ ⟨p0, p1, p2, p3, p4, p5, p6, p7, p8, p9, p10, fun _ => ⟨x3, rfl⟩, S⟩)
      clear hK hn hc p0 p1 p2 p3 p4 p5 p6 p7 p8 p9 p10 p11; (try simp only [Array.getD_eq_getD_getElem?] at *); go_simp; try with_reducible rfl
     obtain ⟨-, -, -, -, -, -, p6, p7, p8, p9, p10, p11, S⟩ := hJ; obtain ⟨xa, qa⟩ := p10 rfl; obtain ⟨za, qz⟩ := p11 rfl; obtain ⟨s1, n1_, b1, b2, h1⟩ := (show ∃ (s1 : Int) (n1_ : Nat), s1 ≤ max s' (3002 + 2 * ((kid : Int) + 1)) ∧ n1_ ≤ max 12000 (12001 + 5 * (kid + 1)) ∧ MkP base w0 (fB base g5 #[.int .i64 op, .slice A1 n1 c1, .slice (some ad) kd.length c2, .int .i64 mn, .int .i64 mx] 230 :: fB base g4 #[.slice An ns.length cn] 214 :: L) g vf W s1 lo n1_ from S); have h := Aside0.mk h1; have HB1 := Aside0.mk (And.intro b1 b2); clear S h1 b1 b2 p6 p7 p8 p9 p10 p11
     simp only [putIf, ↓reduceIte, Act.put, List.setIfInBounds_toArray, List.set_cons_succ, List.set_cons_zero, qa, qz]
     have z3 := h.out.cell 0 3 rfl rfl; have z4 := h.out.cell 0 4 rfl rfl
     by_cases ci : mn ≤ i
     ·have hci := eq_true ci
      go_wp2_with fail
      refine (h.out.loop _ _ _ (by have := HB1.out; have := HS3.out; have := hkid.out; omega) (by have := HB1.out; have := hkid.out; omega)).mono ?_
      rintro e w_ ⟨xb, zb, rfl, h1⟩
      replace h := Aside0.mk h1; clear h1; have WN := Aside0.mk (show wrap64 (i + 1) = i + 1 from w64 (by have := HI.out; omega) (by have := HI.out; have := eM.out.2; omega))
      by_cases cx : x < 0
      ·have hcx := eq_true cx
       go_wp2
       go_roundg (M - (i + 1)).toNat
       case measure => have := HI.out; omega
       case rel => exact ⟨_, _, i + 1, _, _, rfl, rfl, congrArg (Value.int .i64) WN.out, ⟨by have := HI.out; omega, rfl⟩, ⟨by have := HB1.out; have := HS3.out; have := hb.out; omega, by have := HB1.out; have := hb.out; omega⟩, h⟩
      ·have hcx := eq_false cx
       go_wp2_with fail
       refine (h.out.edge0 _ _ (by have := HB1.out; have := hkid.out; omega)).mono ?_
       rintro e w_ ⟨rfl, h1⟩
       have h2 := Aside0.mk (h1.low (Nat.le_succ lo)); clear h h1; have h := h2; clear h2
       go_wp2
       go_roundg (M - (i + 1)).toNat
       case measure => have := HI.out; omega
       case rel => exact ⟨_, _, i + 1, _, _, rfl, rfl, congrArg (Value.int .i64) WN.out, ⟨by have := HI.out; omega, rfl⟩, ⟨by have := HB1.out; have := HS3.out; have := hb.out; omega, by have := HB1.out; have := hb.out; omega⟩, h⟩
     ·have hci := eq_false ci
      have WN := Aside0.mk (show wrap64 (i + 1) = i + 1 from w64 (by have := HI.out; omega) (by have := HI.out; have := eM.out.2; omega))
      by_cases cx : x < 0
      ·have hcx := eq_true cx
       go_wp2
       go_roundg (M - (i + 1)).toNat
       case measure => have := HI.out; omega
       case rel => exact ⟨_, _, i + 1, _, _, rfl, rfl, congrArg (Value.int .i64) WN.out, ⟨by have := HI.out; omega, rfl⟩, ⟨by have := HB1.out; have := HS3.out; have := hb.out; omega, by have := HB1.out; have := hb.out; omega⟩, h⟩
      ·have hcx := eq_false cx
       go_wp2_with fail
       refine (h.out.edge0 _ _ (by have := HB1.out; have := hkid.out; omega)).mono ?_
       rintro e w_ ⟨rfl, h1⟩
       have h2 := Aside0.mk (h1.low (Nat.le_succ lo)); clear h h1; have h := h2; clear h2
       go_wp2
       go_roundg (M - (i + 1)).toNat
       case measure => have := HI.out; omega
       case rel => exact ⟨_, _, i + 1, _, _, rfl, rfl, congrArg (Value.int .i64) WN.out, ⟨by have := HI.out; omega, rfl⟩, ⟨by have := HB1.out; have := HS3.out; have := hb.out; omega, by have := HB1.out; have := hb.out; omega⟩, h⟩
   ·have hcond := eq_false c
    have HX := h
    go_wp2
    all_goals (go_ret2; exact ⟨_, _, s', n', rfl, hb.out.1, hb.out.2, HX.out.drop.drop⟩)
end

end Go.Proofs.Ytfajfjgkkgigoaa.PFnClosed
