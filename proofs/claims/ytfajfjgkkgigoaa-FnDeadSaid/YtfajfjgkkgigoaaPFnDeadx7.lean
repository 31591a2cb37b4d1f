-- Written by this session's own program (wip/pr.py) over the kit's printer; contracts that the printer does not know are given by hand.
import Derived.Test.YtfajfjgkkgigoaaPFnDeadx0
import Derived.Test.YtfajfjgkkgigoaaPFnDeadx1
import Derived.Test.YtfajfjgkkgigoaaPFnDeadx2
import Derived.Test.YtfajfjgkkgigoaaPFnDeadx4
import Derived.Test.YtfajfjgkkgigoaaPFnDeadx5
import Derived.Test.YtfajfjgkkgigoaaPFnDeadx6
namespace Go.Proofs.Ytfajfjgkkgigoaa.PFnDead
open Go.RowKit Go.Proofs.YtfajfjgkkgigoaaW.PrintWords Go.Proofs.YtfajfjgkkgigoaaW.PrintLast Go.Proofs.YtfajfjgkkgigoaaW.PrintMore
attribute [local go_sem] max2_int min2_int max_two min_two max_three min_three max_four min_four   -- for this text's walks alone
set_option linter.unusedVariables false
set_option linter.unusedSimpArgs false

/-! ### spec_BuildDfa: function 10 -/
section
open Go.Proofs.Ytfajfjgkkgigoaa.Kit
def spec_BuildDfa.sets (es : List S85) : List (List S160) := (es.map (fun e => e.f2)).filter (fun s => decide (0 < s.length))
theorem spec_BuildDfa.sets_succ (es : List S85) (i : Nat) (h : i < es.length) : spec_BuildDfa.sets (es.take (i + 1)) = if 0 < (rd_T85 es (i : Int)).f2.length then spec_BuildDfa.sets (es.take i) ++ [(rd_T85 es (i : Int)).f2] else spec_BuildDfa.sets (es.take i) := by
 have e : es[i]? = some (rd_T85 es (i : Int)) := by unfold rd_T85; rw [Int.toNat_natCast, List.getD_eq_getElem?_getD, List.getElem?_eq_getElem h]; rfl
 unfold spec_BuildDfa.sets
 rw [List.take_add_one, e, Option.toList_some, List.map_append, List.filter_append]
 by_cases c : 0 < (rd_T85 es (i : Int)).f2.length
 ·rw [if_pos c]; simp [c]
 ·rw [if_neg c]; simp [c]
def spec_BuildDfa.l1 (n : Int) (es : List S85) (fs : List S156) (most : Int) (bs : List Int) (cur : List Bool) : Nat → Nat → List (List Bool) → List Int → Option (List (List Bool) × List Int × Bool)
 | 0, _, _, _ => none
 | k + 1, j, st, row => if j < bs.length then (spec_l6Step.f k n es fs cur (bs.getD j 0)).bind fun x =>
   if x.length = n.toNat then (if most < ((addS st x).length : Int) then some (st, row, false) else spec_BuildDfa.l1 n es fs most bs cur k (j + 1) (addS st x) (row ++ [(st.idxOf x : Int)])) else none
   else some (st, row, true)
def spec_BuildDfa.l0 (n : Int) (es : List S85) (fs : List S156) (most : Int) (bs : List Int) : Nat → Nat → List (List Bool) → List (List Int) → List Int → Option (List (List Int) × List Int × Bool)
 | 0, _, _, _, _ => none
 | k + 1, s, st, nx, ac => if s < st.length then (spec_BuildDfa.l1 n es fs most bs (st.getD s []) k 0 st []).bind fun q => if q.2.2 = true then (spec_l7Accept.f k n es fs (st.getD s [])).bind fun a => spec_BuildDfa.l0 n es fs most bs k (s + 1) q.1 (nx ++ [q.2.1]) (ac ++ [a]) else some ([], [], false)
   else some (nx, ac, true)
def spec_BuildDfa.f (k : Nat) (a0_0 : Int) (l0_1 : List S85) (l0_2 : List S156) (a1 : Int) : Option (List Int × List (List Int) × List Int × Bool) :=
 (spec_NfaOk.f k a0_0 l0_1 l0_2).bind fun ok => if ok = true ∧ 1 ≤ a1 ∧ a1 ≤ 1000 then
  (if 1 ≤ a0_0 ∧ a0_0 ≤ 3000 ∧ l0_1.length ≤ 1000000 then
   (spec_Blocks.f k (spec_BuildDfa.sets l0_1)).bind fun q => if q.1 = [] then some ([], [], [], false) else
    if q.1.length = 256 ∧ 0 ≤ q.2 ∧ q.2 ≤ 256 ∧ (∀ b ∈ q.1, 0 ≤ b ∧ b < q.2) then
     (spec_l6Close.f k a0_0 l0_1 l0_2 ((List.replicate a0_0.toNat false).set 0 true)).bind fun s0 => if s0.length = a0_0.toNat then
      (spec_BuildDfa.l0 a0_0 l0_1 l0_2 a1 (byteM q.1 q.2.toNat 256) k 0 [s0] [] []).bind fun z => some (if z.2.2 = true then (q.1, z.1, z.2.1, true) else ([], [], [], false)) else none
    else none
  else none) else some ([], [], [], false)
theorem spec_BuildDfa.mono_1 (n : Int) (es : List S85) (fs : List S156) (most : Int) (bs : List Int) (cur : List Bool) : ∀ k, ∀ j st row, LeO (spec_BuildDfa.l1 n es fs most bs cur k j st row) (spec_BuildDfa.l1 n es fs most bs cur (k + 1) j st row)
 | 0 => fun _ _ _ r h => by simp [spec_BuildDfa.l1] at h
 | k + 1 => by
  have ih := spec_BuildDfa.mono_1 n es fs most bs cur k; intro j st row
  rw [spec_BuildDfa.l1, spec_BuildDfa.l1]
  exact LeO.ite (LeO.bind (spec_l6Step.mono _ _ _ _ _ k) (fun _ => LeO.ite (LeO.ite (LeO.refl _) (ih _ _ _)) (LeO.refl _))) (LeO.refl _)
theorem spec_BuildDfa.mono_0 (n : Int) (es : List S85) (fs : List S156) (most : Int) (bs : List Int) : ∀ k, ∀ s st nx ac, LeO (spec_BuildDfa.l0 n es fs most bs k s st nx ac) (spec_BuildDfa.l0 n es fs most bs (k + 1) s st nx ac)
 | 0 => fun _ _ _ _ r h => by simp [spec_BuildDfa.l0] at h
 | k + 1 => by
  have ih := spec_BuildDfa.mono_0 n es fs most bs k; intro s st nx ac
  rw [spec_BuildDfa.l0, spec_BuildDfa.l0]
  exact LeO.ite (LeO.bind (spec_BuildDfa.mono_1 _ _ _ _ _ _ k _ _ _) (fun _ => LeO.ite (LeO.bind (spec_l7Accept.mono _ _ _ _ k) (fun _ => ih _ _ _ _)) (LeO.refl _))) (LeO.refl _)
theorem spec_BuildDfa.mono : ∀ a0 a1 a2 a3 k, LeO (spec_BuildDfa.f k a0 a1 a2 a3) (spec_BuildDfa.f (k + 1) a0 a1 a2 a3) := by
 intro a0 a1 a2 a3 k
 unfold spec_BuildDfa.f
 exact LeO.bind (spec_NfaOk.mono _ _ _ k) (fun _ => LeO.ite (LeO.ite (LeO.bind (spec_Blocks.mono _ k) (fun _ => LeO.ite (LeO.refl _) (LeO.ite (LeO.bind (spec_l6Close.mono _ _ _ _ k) (fun _ => LeO.ite (LeO.bind (spec_BuildDfa.mono_0 _ _ _ _ _ k _ _ _ _) (fun _ => LeO.refl _)) (LeO.refl _))) (LeO.refl _)))) (LeO.refl _)) (LeO.refl _))
theorem spec_BuildDfa.same (a b : List Bool) (hl : a.length = b.length) (hb : a.length ≤ 1000000) : ∀ (g i : Nat), i + g = a.length → (∀ j, j < i → a[j]? = b[j]?) → spec_l7SameMarks.l0 (g + 1) a b i = some (decide (a = b))
 | 0, i, h, hj => by
  have e : a = b := List.ext_getElem? fun j => by
   by_cases c : j < i
   ·exact hj j c
   ·rw [List.getElem?_eq_none (by omega), List.getElem?_eq_none (by omega)]
  simp only [spec_l7SameMarks.l0]
  rw [if_neg (by omega), decide_eq_true e]
 | g + 1, i, h, hj => by
  rw [spec_l7SameMarks.l0, if_pos (by omega), if_pos (by omega), if_pos (by omega), w64 (by omega) (by omega)]
  have ha : rdOf false a (i : Int) = a.getD i false := by unfold rdOf; rw [Int.toNat_natCast]
  have hb : rdOf false b (i : Int) = b.getD i false := by unfold rdOf; rw [Int.toNat_natCast]
  have h1 : a[i]? = some (a.getD i false) := by rw [List.getD_eq_getElem?_getD, List.getElem?_eq_getElem (by omega)]; rfl
  have h2 : b[i]? = some (b.getD i false) := by rw [List.getD_eq_getElem?_getD, List.getElem?_eq_getElem (by omega)]; rfl
  rw [ha, hb]
  by_cases c : a.getD i false = b.getD i false
  ·rw [if_neg (by rw [c]; simp)]
   exact spec_BuildDfa.same a b hl (by assumption) g (i + 1) (by omega) (fun j q => by
    by_cases q2 : j < i
    ·exact hj j q2
    ·obtain rfl : j = i := by omega
     rw [h1, h2, c])
  ·rw [if_pos (by simpa using c), decide_eq_false (fun e => c (by rw [e]))]

theorem spec_BuildDfa.need29 : (rtab .any (opsOf Try.f10 29)).2.map Prod.fst = [[], [], [], [1, 2], [3], [], [], [5, 6], [7], [0, 4, 8], [9, 9, 0, 1, 2, 3, 4, 5, 6, 7, 8, 9]] := by kernel_rfl
theorem spec_BuildDfa.dst29 : (opsOf Try.f10 29).toList.map Oper.dst = [some 103, some 104, some 105, some 106, some 107, some 108, some 109, some 110, some 111, some 112, some 19] := by kernel_rfl
theorem spec_BuildDfa.need43 : (rtab .any (opsOf Try.f10 43)).2.map Prod.fst = [[], [0], [], [], [], [3, 4], [5], [2, 6], [7], [1, 8, 7], [0, 1, 2, 3, 4, 5, 6, 7, 8, 9], [10, 9, 9, 0, 1, 2, 3, 4, 5, 6, 7, 8, 9]] := by kernel_rfl
theorem spec_BuildDfa.dst43 : (opsOf Try.f10 43).toList.map Oper.dst = [some 153, some 154, some 155, some 156, some 157, some 158, some 159, some 160, some 161, some 162, some 163, none] := by kernel_rfl
set_option maxHeartbeats 8000000 in
set_option maxRecDepth 100000 in
theorem spec_BuildDfa.calls (k : Nat) (a0_0 : Int) (A0_1 : Option Addr) (c0_1 : Nat) (l0_1 : List S85) (A0_2 : Option Addr) (c0_2 : Nat) (l0_2 : List S156) (a1 : Int) (r1 : List Int) (r2 : List (List Int)) (r3 : List Int) (r4 : Bool) (w : World) (hr0_1 : Kd.C k85 w A0_1 l0_1.length l0_1) (hc0_1 : l0_1.length ≤ c0_1) (hr0_2 : Kd.C k156 w A0_2 l0_2.length l0_2) (hc0_2 : l0_2.length ≤ c0_2) (h : spec_BuildDfa.f k a0_0 l0_1 l0_2 a1 = some (r1, r2, r3, r4)) :
  Calls Try.prog 10 #[.agg #[.int .i64 a0_0, .slice A0_1 l0_1.length c0_1, .slice A0_2 l0_2.length c0_2], .int .i64 a1] w fun e w' => ∃ v0_ v1_ v2_ : Value, e = .returned (.tuple #[.agg #[v0_, v1_, v2_], .bool r4]) ∧ Kd.R (Kd.int .i64) 2 w' w.heap.size (fun k_ => some k_ ≠ (v1_ : Value).ownBlock ∧ some k_ ≠ (v2_ : Value).ownBlock) v0_ r1 ∧ Kd.S (Kd.slice 2 (Kd.int .i64)) 27 w' w.heap.size (fun k_ => some k_ ≠ (v0_ : Value).ownBlock ∧ some k_ ≠ (v2_ : Value).ownBlock) v1_ r2 ∧ Kd.R (Kd.int .i64) 2 w' w.heap.size (fun k_ => some k_ ≠ (v0_ : Value).ownBlock ∧ some k_ ≠ (v1_ : Value).ownBlock) v2_ r3 ∧ Below w.heap.size w w' := by
 have hu30 := Try.underlying30
 have hu36 := Try.underlying36
 have HR1 := Aside0.mk hr0_1
 have HC1 := Aside0.mk hc0_1
 have HR2 := Aside0.mk hr0_2
 have HC2 := Aside0.mk hc0_2
 clear hr0_1 hc0_1 hr0_2 hc0_2
 unfold spec_BuildDfa.f at h
 obtain ⟨b, hb, hh⟩ := Option.bind_eq_some_iff.1 h
 have HOK := Aside0.mk hb
 have HH := Aside0.mk hh
 clear hb hh h
 have S := Aside0.mk (Hp.start w)
 go_enter Try.func10, Try.ntmps10
 go_wp2_with (first | ((with_reducible refine gate_dst (N := 2) rfl ?_); refine ev_box S rfl rfl (cs := #[.int .i64 a0_0, .slice A0_1 l0_1.length c0_1, .slice A0_2 l0_2.length c0_2]) (t := 36) (by first | (go_simp; done) | (go_simp; rfl)) (fun g2 w_ Gg2 S1 => ?_); clear S; have S := S1; clear S1) | ((with_reducible refine gate_dst (N := 4) rfl ?_); refine ev_box S rfl rfl (cs := #[.slice none 0 0, .slice none 0 0, .slice none 0 0]) (t := 30) (by first | (go_simp; done) | (go_simp; rfl)) (fun g4 w_ Gg4 S1 => ?_); clear S; have S := S1; clear S1) | ((with_reducible refine gate_dst (N := 6) rfl ?_); refine ev_box S rfl rfl (cs := #[.slice none 0 0, .slice none 0 0, .slice none 0 0]) (t := 30) (by first | (go_simp; done) | (go_simp; rfl)) (fun g6 w_ Gg6 S1 => ?_); clear S; have S := S1; clear S1; have z0 := S.out.cell 0 0 rfl rfl; have z1 := S.out.cell 0 1 rfl rfl; have z2 := S.out.cell 0 2 rfl rfl; have f0 := S.out.frozen 0 0 rfl; have f1 := S.out.frozen 0 1 rfl; have f2 := S.out.frozen 0 2 rfl) | ((with_reducible refine gate_store (t := 30) (p := 6) rfl ?_); refine ev_run (w1 := ((((_ : World)).setCell ⟨g6, 0, none⟩ (.slice none 0 0)).setCell ⟨g6, 1, none⟩ (.slice none 0 0)).setCell ⟨g6, 2, none⟩ (.slice none 0 0)) rfl rfl (by first | (go_simp; done) | (go_simp; rfl)) (fun w_ hw => ?_); have S1 := Aside0.mk ((((S.out).put 0 0 (u := .slice none 0 0) rfl rfl).put 0 1 (u := .slice none 0 0) rfl rfl).put 0 2 (u := .slice none 0 0) rfl rfl); rw [← hw] at S1; clear hw; clear S; have S := S1; clear S1; (try clear z0 z1 z2 f0 f1 f2); have z0 := S.out.cell 2 0 rfl rfl; have z1 := S.out.cell 2 1 rfl rfl; have z2 := S.out.cell 2 2 rfl rfl))
 replace S := Aside0.mk (show Hp w.heap.size w w_ [fB w.heap.size g6 #[.slice none 0 0, .slice none 0 0, .slice none 0 0] 30, fB w.heap.size g4 #[.slice none 0 0, .slice none 0 0, .slice none 0 0] 30, fB w.heap.size g2 #[.int .i64 a0_0, .slice A0_1 l0_1.length c0_1, .slice A0_2 l0_2.length c0_2] 36] from S.out)
 refine (spec_NfaOk.calls k a0_0 A0_1 c0_1 l0_1 A0_2 c0_2 l0_2 b _ (Kd.C_below HR1.out S.out.below) HC1.out (Kd.C_below HR2.out S.out.below) HC2.out HOK.out).mono ?_
 rintro e w1 ⟨rfl, hb⟩
 replace S := Aside0.mk (S.out.go hb)
 clear hb z0 z1 z2
 cases b with
 | false =>
  have hr := HH.out
  rw [if_neg (fun q => absurd q.1 (by decide))] at hr
  simp only [Option.some.injEq, Prod.mk.injEq] at hr
  obtain ⟨rfl, rfl, rfl, rfl⟩ := hr; clear HH; have x0 := S.out.cell 0 0 rfl rfl; have x1 := S.out.cell 0 1 rfl rfl; have x2 := S.out.cell 0 2 rfl rfl; have y0 := S.out.cell 1 0 rfl rfl; have y1 := S.out.cell 1 1 rfl rfl; have y2 := S.out.cell 1 2 rfl rfl; have f0 := S.out.frozen 1 0 rfl; have f1 := S.out.frozen 1 1 rfl; have f2 := S.out.frozen 1 2 rfl
  go_wp2
  have S1 := Aside0.mk ((((S.out).put 1 0 (u := .slice none 0 0) rfl rfl).put 1 1 (u := .slice none 0 0) rfl rfl).put 1 2 (u := .slice none 0 0) rfl rfl)
  refine bodyPost_ret (results_ct rfl _ _ g4 30 #[.slice none 0 0, .slice none 0 0, .slice none 0 0] (0, 0) _ rfl (S1.out.blk 1 rfl) Try.underlying30 rfl (by kernel_rfl)) rfl ?_
  exact ⟨_, _, _, rfl, Kd.R_nil _ _ _ _ _, Kd.S_nil _ _ _ _ _, Kd.R_nil _ _ _ _ _, S1.out.below⟩
 | true =>
  go_wp2_with fail
  refine (spec_l1In.calls a1 1 1000 (decide (1 ≤ a1 ∧ a1 ≤ 1000)) _ ?_).mono ?_
  ·by_cases c1 : 1 ≤ a1 <;> by_cases c2 : a1 ≤ 1000 <;> simp [spec_l1In.f, c1, c2]
  rintro e w2 ⟨rfl, ⟨nd, rfl⟩⟩
  replace S := Aside0.mk (S.out.drewN nd); generalize w1.drewN nd = w2 at S ⊢
  by_cases hm : 1 ≤ a1 ∧ a1 ≤ 1000
  case neg =>
   have hr := HH.out
   rw [if_neg (fun q => hm q.2)] at hr
   simp only [Option.some.injEq, Prod.mk.injEq] at hr
   obtain ⟨rfl, rfl, rfl, rfl⟩ := hr; clear HH
   rw [decide_eq_false hm]
   have x0 := S.out.cell 0 0 rfl rfl; have x1 := S.out.cell 0 1 rfl rfl; have x2 := S.out.cell 0 2 rfl rfl; have y0 := S.out.cell 1 0 rfl rfl; have y1 := S.out.cell 1 1 rfl rfl; have y2 := S.out.cell 1 2 rfl rfl; have f0 := S.out.frozen 1 0 rfl; have f1 := S.out.frozen 1 1 rfl; have f2 := S.out.frozen 1 2 rfl
   go_wp2
   have S1 := Aside0.mk ((((S.out).put 1 0 (u := .slice none 0 0) rfl rfl).put 1 1 (u := .slice none 0 0) rfl rfl).put 1 2 (u := .slice none 0 0) rfl rfl)
   refine bodyPost_ret (results_ct rfl _ _ g4 30 #[.slice none 0 0, .slice none 0 0, .slice none 0 0] (0, 0) _ rfl (S1.out.blk 1 rfl) Try.underlying30 rfl (by kernel_rfl)) rfl ?_
   exact ⟨_, _, _, rfl, Kd.R_nil _ _ _ _ _, Kd.S_nil _ _ _ _ _, Kd.R_nil _ _ _ _ _, S1.out.below⟩
  have hr := HH.out
  rw [if_pos ⟨by first | rfl | trivial, hm⟩] at hr
  rw [decide_eq_true hm]
  by_cases hg : 1 ≤ a0_0 ∧ a0_0 ≤ 3000 ∧ l0_1.length ≤ 1000000
  case neg => rw [if_neg hg] at hr; cases hr
  rw [if_pos hg] at hr
  replace hr := Option.bind_eq_some_iff.1 hr; obtain ⟨⟨bl, cnt⟩, hbl, hr⟩ := hr; have HM := Aside0.mk hm; have HG := Aside0.mk hg; have HBL := Aside0.mk hbl; have HRES := Aside0.mk hr; clear HH hr hbl hg hm
  go_wp2_with (first | ((with_reducible refine gate_dst (N := 32) rfl ?_); refine ev_lit S (Kd.raw 1) (83) rfl rfl (xs := ([] : List (List Value))) (inner := []) (by first | (go_simp; done) | (go_simp; rfl)) (Reps.none _ _) (by simp) (fun v32 w_ S1 => ?_); clear S; have S := S1; clear S1))
  replace S := Aside0.mk (S.out.imp 0 rfl (G := fW k160 83 w.heap.size w v32 []) (fun ok q => ⟨[], q, rfl, fun j u s hu _ => by simp at hu⟩))
  go_loopg [7, 8] l0_1.length (fun gk v7 v8 wr => ∃ (i : Nat), v8 = .int .i64 (i : Int) ∧ i + gk = l0_1.length ∧ Aside0 (Hp w.heap.size w wr [fW k160 83 w.heap.size w v7 (spec_BuildDfa.sets (l0_1.take i)), fB w.heap.size g6 #[.slice none 0 0, .slice none 0 0, .slice none 0 0] 30, fB w.heap.size g4 #[.slice none 0 0, .slice none 0 0, .slice none 0 0] 30, fB w.heap.size g2 #[.int .i64 a0_0, .slice A0_1 l0_1.length c0_1, .slice A0_2 l0_2.length c0_2] 36]))
  case atStart => exact ⟨0, rfl, by omega, S⟩
  case round =>
   clear S; obtain ⟨i, rfl, hgi, S⟩ := hrel; have zp := S.out.cell 3 1 rfl rfl
   by_cases c : i < l0_1.length
   ·obtain ⟨ad, A2, c2, e1, -, -, hx, hl2, hr2⟩ := at_T85 HR1.out (i : Int) (by omega) (by omega)
    cases e1; have HV : viewP w k160 (.slice A2 (rd_T85 l0_1 (i : Int)).f2.length c2) (rd_T85 l0_1 (i : Int)).f2 := ⟨_, _, rfl, hl2, hr2⟩; have HSU := spec_BuildDfa.sets_succ l0_1 i c; replace hx := (S.out.below.cell (World.block_lt_of_cell? w _ hx)).trans hx
    rw [Int.toNat_natCast] at hx
    generalize rd_T85 l0_1 (i : Int) = ed at *; have hcond := eq_true (show (i : Int) < (l0_1.length : Int) by omega); have hcond0 := eq_true (show (0 : Int) ≤ (i : Int) by omega); have WN := Aside0.mk (show wrap64 ((i : Int) + 1) = ((i + 1 : Nat) : Int) from nat_next (by have := HG.out; omega)); have HGI := Aside0.mk (And.intro hgi c); have HLS := Aside0.mk (show (spec_BuildDfa.sets (l0_1.take i)).length ≤ i from Nat.le_trans (List.length_filter_le _ _) (by rw [List.length_map, List.length_take]; omega)); clear hgi c hl2 hr2
    by_cases cs : 0 < ed.f2.length
    ·have hc1 := eq_true (show (0 : Int) < (ed.f2.length : Int) by omega)
     have hc2 := eq_true cs
     rw [if_pos cs] at HSU
     have HS2 := Aside0.mk HSU; clear HSU cs
     go_wp2_with (first | ((with_reducible refine gate_dst (N := 55) rfl ?_); refine ev_lit S (Kd.raw 1) (83) rfl rfl (xs := [[.slice A2 ed.f2.length c2]]) (inner := [.slice A2 ed.f2.length c2]) (by first | (go_simp; done) | (go_simp; rfl)) (Reps.one ⟨rfl, rfl, fun u hu => by rw [List.mem_singleton.1 hu]; rfl⟩ (Reps.none _ _)) (by simp) (fun v55 w_ S1 => ?_); clear S; have S := S1; clear S1) | ((with_reducible refine gate_dst (N := 56) rfl ?_); refine ev_appW S 1 0 (by decide) rfl rfl HV rfl (.tmp 48) (.tmp 55) (82) (.slice none 0 0) (24) rfl Try.underlying82 (by kernel_rfl) rfl (by omega) rfl rfl (by have := HG.out; have := HGI.out; have := HLS.out; omega) (fun v56 w_ S1 => ?_); clear S; have S := Aside0.mk S1.out.tail; clear S1))
     go_roundg (l0_1.length - (i + 1))
     case measure => have := HGI.out; omega
     case rel => exact ⟨i + 1, congrArg (Value.int .i64) WN.out, by have := HGI.out; omega, by rw [HS2.out]; exact S⟩
    ·have hc1 := eq_false (show ¬ (0 : Int) < (ed.f2.length : Int) by omega)
     have hc2 := eq_false cs
     rw [if_neg cs] at HSU
     have HS2 := Aside0.mk HSU; clear HSU cs
     go_wp2
     go_roundg (l0_1.length - (i + 1))
     case measure => have := HGI.out; omega
     case rel => exact ⟨i + 1, congrArg (Value.int .i64) WN.out, by have := HGI.out; omega, by rw [HS2.out]; exact S⟩
   have hcond := eq_false (show ¬ (i : Int) < (l0_1.length : Int) by omega)
   obtain rfl : i = l0_1.length := by omega
   rw [List.take_length] at S
   obtain ⟨As, cs, rfl⟩ := S.out.sliceW 0 rfl; have RS := S.out.rowW (e0 := 160) 0 rfl
   go_wp2_with fail
   refine (spec_Blocks.calls k As cs (spec_BuildDfa.sets l0_1) bl cnt _ RS.2.2 RS.2.1 HBL.out).mono ?_
   rintro e w3 ⟨v9, rfl, ho, hb⟩
   replace S := Aside0.mk (S.out.add hb (fR (Kd.int .i64) 2 w.heap.size v9 bl) (hp_new ho S.out.1)); clear hb ho RS hcond zp; replace S := Aside0.mk (S.out.forget 1 rfl); obtain ⟨A9, c9, rfl⟩ := S.out.slice 0 rfl; have hr := HRES.out; clear HRES hgi
   by_cases hbe : bl = []
   ·subst hbe
    rw [if_pos rfl] at hr
    simp only [Option.some.injEq, Prod.mk.injEq] at hr
    obtain ⟨rfl, rfl, rfl, rfl⟩ := hr; have x0 := S.out.cell 2 0 rfl rfl; have x1 := S.out.cell 2 1 rfl rfl; have x2 := S.out.cell 2 2 rfl rfl; have y0 := S.out.cell 3 0 rfl rfl; have y1 := S.out.cell 3 1 rfl rfl; have y2 := S.out.cell 3 2 rfl rfl; have f0 := S.out.frozen 3 0 rfl; have f1 := S.out.frozen 3 1 rfl; have f2 := S.out.frozen 3 2 rfl
    go_wp2
    have S1 := Aside0.mk ((((S.out).put 3 0 (u := .slice none 0 0) rfl rfl).put 3 1 (u := .slice none 0 0) rfl rfl).put 3 2 (u := .slice none 0 0) rfl rfl)
    refine bodyPost_ret (results_ct rfl _ _ g4 30 #[.slice none 0 0, .slice none 0 0, .slice none 0 0] (0, 0) _ rfl (S1.out.blk 3 rfl) Try.underlying30 rfl (by kernel_rfl)) rfl ?_
    exact ⟨_, _, _, rfl, Kd.R_nil _ _ _ _ _, Kd.S_nil _ _ _ _ _, Kd.R_nil _ _ _ _ _, S1.out.below⟩
   rw [if_neg hbe] at hr
   by_cases hk : bl.length = 256 ∧ 0 ≤ cnt ∧ cnt ≤ 256 ∧ (∀ b ∈ bl, 0 ≤ b ∧ b < cnt)
   case neg => rw [if_neg hk] at hr; cases hr
   rw [if_pos hk] at hr
   replace hr := Option.bind_eq_some_iff.1 hr; obtain ⟨s0, hs0, hr⟩ := hr
   by_cases hsl : s0.length = a0_0.toNat
   case neg => rw [if_neg hsl] at hr; cases hr
   rw [if_pos hsl] at hr
   replace hr := Option.bind_eq_some_iff.1 hr; obtain ⟨⟨o1, o2, o3⟩, hl, hr⟩ := hr; have HRES := Aside0.mk hr; have HL := Aside0.mk hl; have HS0 := Aside0.mk hs0; have HSL := Aside0.mk hsl; have HK := Aside0.mk hk; have hcz := beq_eq_false_iff_ne.2 (show (bl.length : Int) ≠ 0 by have := hk.1; omega); have hcz2 := eq_false hbe; have hcnt := eq_true hk.2.1; clear hr hl hs0 hsl hk hbe
   go_wp2_with (first | ((with_reducible refine gate_dst (N := 67) rfl ?_); refine ev_make S (Kd.int .u8) 5 rfl (N := 67) rfl 43 _ _ rfl cnt rfl rfl Try.underlying43 (.int .u8 0) 1 (by kernel_rfl) rfl (by decide) (by omega) 0 rfl HK.out.2.1 (by have := HK.out; omega) (fun v67 w_ S1 => ?_); clear S; have S := S1; clear S1))
   replace S := Aside0.mk (show Hp w.heap.size w _ [fR (Kd.int .u8) 5 w.heap.size v67 (byteM bl cnt.toNat 0), fR (Kd.int .i64) 2 w.heap.size (.slice A9 bl.length c9) bl, fT, fB w.heap.size g6 #[.slice none 0 0, .slice none 0 0, .slice none 0 0] 30, fB w.heap.size g4 #[.slice none 0 0, .slice none 0 0, .slice none 0 0] 30, fB w.heap.size g2 #[.int .i64 a0_0, .slice A0_1 l0_1.length c0_1, .slice A0_2 l0_2.length c0_2] 36] from S.out)
   have hcp : 0 < cnt.toNat := by have hk := HK.out; have := hk.2.2.2 (bl.getD 0 0) (by rw [List.getD_eq_getElem?_getD, List.getElem?_eq_getElem (by omega)]; exact List.getElem_mem _); omega
   have HCP := Aside0.mk hcp; clear hcp; obtain ⟨g11, c11, e11⟩ := S.out.form 0 rfl (by rw [byteM_length]; exact HCP.out)
   rw [byteM_length] at e11
   obtain ⟨nb, enb⟩ : ∃ q, q = cnt.toNat := ⟨_, rfl⟩
   rw [← enb] at e11 S
   have ENB := Aside0.mk enb; clear enb; subst e11
   go_wp2_with fail
   go_loopg [12] 256 (fun gk v12 wr => ∃ (g : Nat) (b : Int), v12 = .int .i64 b ∧ g + gk = 256 ∧ b = 255 - (g : Int) ∧ Aside0 (Hp w.heap.size w wr [fR (Kd.int .u8) 5 w.heap.size (.slice (some ⟨g11, 0, none⟩) nb c11) (byteM bl nb g), fR (Kd.int .i64) 2 w.heap.size (.slice A9 bl.length c9) bl, fT, fB w.heap.size g6 #[.slice none 0 0, .slice none 0 0, .slice none 0 0] 30, fB w.heap.size g4 #[.slice none 0 0, .slice none 0 0, .slice none 0 0] 30, fB w.heap.size g2 #[.int .i64 a0_0, .slice A0_1 l0_1.length c0_1, .slice A0_2 l0_2.length c0_2] 36]))
   case atStart => exact ⟨0, 255, rfl, rfl, rfl, S⟩
   case round =>
    clear S; obtain ⟨g, b, rfl, hgk, hbb, S⟩ := hrel
    by_cases c : g < 256
    ·have hc1 := eq_true (show 0 ≤ b by omega)
     have hc2 := eq_true (show b < (bl.length : Int) by have := HK.out.1; omega); have RB := S.out.row 1 rfl; obtain ⟨ad, e1, hx⟩ := Kd.at_int RB.2.2 b (by omega) (by have := HK.out.1; omega); cases e1
     have er : rd bl b = bl.getD (255 - g) 0 := by unfold rd; rw [show b.toNat = 255 - g by omega]
     have hxb := HK.out.2.2.2 (bl.getD (255 - g) 0) (by rw [List.getD_eq_getElem?_getD, List.getElem?_eq_getElem (by have := HK.out.1; omega)]; exact List.getElem_mem _)
     rw [er] at hx
     obtain ⟨x, ex⟩ : ∃ q, q = bl.getD (255 - g) 0 := ⟨_, rfl⟩
     rw [← ex] at hx hxb
     have hi0 := eq_true hxb.1; have hi1 := eq_true (show x < (nb : Int) by have := ENB.out; omega); obtain ⟨zk, fk⟩ := S.out.cellR 0 (0 : Int) rfl x hxb.1 (by have := ENB.out; omega); have WN := Aside0.mk (show wrap64 (b - 1) = b - 1 from w64 (by omega) (by omega)); have EX := Aside0.mk ex; have HGK := Aside0.mk (And.intro hgk (And.intro hbb c)); clear er ex RB hgk c hbb hxb
     go_wp2_with (first | ((with_reducible refine gate_store (t := 5) (p := 79) rfl ?_); refine ev_run (w1 := (_ : World).setCell ⟨g11, (x).toNat, none⟩ (.int .u8 (b % 256))) rfl rfl (by first | (go_simp; done) | (go_simp; rfl)) (fun w_ hw => ?_); have S1 := Aside0.mk (S.out.putRow 0 rfl (x) (b % 256)); rw [← hw] at S1; clear hw; clear S; have S := S1; clear S1; clear zk fk))
     go_roundg (256 - (g + 1))
     case measure => have := HGK.out; omega
     case rel => exact ⟨g + 1, b - 1, congrArg (Value.int .i64) WN.out, by have := HGK.out; omega, by have := HGK.out; omega, by rw [byteM, ← EX.out, show ((255 - g : Nat) : Int) = b % 256 by have := HGK.out; omega]; exact S⟩
    have hc1 := eq_false (show ¬ 0 ≤ b by omega)
    obtain rfl : g = 256 := by omega
    clear hcz hcz2 hgk c; have zp := S.out.cell 5 0 rfl rfl; have hn0 := eq_true (show 0 ≤ a0_0 by have := HG.out; omega)
    go_wp2_with (first | ((with_reducible refine gate_dst (N := 82) rfl ?_); refine ev_make S Kd.bool 4 rfl (N := 82) rfl 88 _ _ rfl a0_0 rfl rfl Try.underlying88 (.bool false) 1 (by kernel_rfl) rfl (by decide) (by omega) false rfl (by have := HG.out; omega) (by have := HG.out; omega) (fun v82 w_ S1 => ?_); clear S; have S := S1; clear S1))
    obtain ⟨RP, eRP⟩ : ∃ q, q = List.replicate a0_0.toNat false := ⟨_, rfl⟩
    rw [← eRP] at S
    have hRP : RP.length = a0_0.toNat := by rw [eRP, List.length_replicate]
    have HRP := Aside0.mk (And.intro eRP hRP); clear eRP; obtain ⟨g13, c13, e13⟩ := S.out.form 0 rfl (by rw [hRP]; have := HG.out; omega); obtain ⟨na, ena⟩ : ∃ q, q = RP.length := ⟨_, rfl⟩
    rw [← ena] at e13
    have HNA := Aside0.mk (And.intro (show 0 < na by rw [ena, hRP]; have := HG.out; omega) ena); clear ena; subst e13; clear zp hRP; have hi2 := eq_true (show (0 : Int) < (na : Int) by have := HNA.out; omega); obtain ⟨zk, fk⟩ := S.out.cellR 0 false rfl (0 : Int) (by omega) (by have := HNA.out; omega)
    rw [show (0 : Int).toNat = 0 from rfl] at zk fk
    have hi3 := eq_true HNA.out.1
    go_wp2_with fail
    go_simp
    go_wp2_with (first | ((with_reducible refine gate_store (t := 4) (p := 84) rfl ?_); refine ev_run (w1 := (_ : World).setCell ⟨g13, ((0 : Int)).toNat, none⟩ (.bool true)) rfl rfl (by first | (go_simp; done) | (go_simp; rfl)) (fun w_ hw => ?_); have S1 := Aside0.mk (S.out.putRow 0 rfl ((0 : Int)) (true)); rw [← hw] at S1; clear hw; clear S; have S := S1; clear S1; clear zk fk; have z0 := S.out.cell 6 0 rfl rfl; have z1 := S.out.cell 6 1 rfl rfl; have z2 := S.out.cell 6 2 rfl rfl))
    obtain ⟨SL0, eSL⟩ : ∃ q, q = RP.set (0 : Int).toNat true := ⟨_, rfl⟩; replace S := Aside0.mk (show Hp w.heap.size w _ [fR Kd.bool 4 w.heap.size (.slice (some ⟨g13, 0, none⟩) na c13) SL0, fR (Kd.int .u8) 5 w.heap.size (.slice (some ⟨g11, 0, none⟩) nb c11) (byteM bl nb 256), fR (Kd.int .i64) 2 w.heap.size (.slice A9 bl.length c9) bl, fT, fB w.heap.size g6 #[.slice none 0 0, .slice none 0 0, .slice none 0 0] 30, fB w.heap.size g4 #[.slice none 0 0, .slice none 0 0, .slice none 0 0] 30, fB w.heap.size g2 #[.int .i64 a0_0, .slice A0_1 l0_1.length c0_1, .slice A0_2 l0_2.length c0_2] 36] by rw [eSL]; exact S.out); obtain ⟨A13, d13, e13⟩ := S.out.slice 0 rfl
    rw [e13] at S ⊢
    have RS := S.out.row 0 rfl
    refine (spec_l6Close.calls k a0_0 A0_1 c0_1 l0_1 A0_2 c0_2 l0_2 A13 d13 SL0 s0 _ (Kd.C_below HR1.out S.out.below) HC1.out (Kd.C_below HR2.out S.out.below) HC2.out RS.2.2 RS.2.1 (by rw [eSL, HRP.out.1]; exact HS0.out)).mono ?_
    rintro e w4 ⟨v87, rfl, ho, hb⟩
    replace S := Aside0.mk (S.out.add hb (fR Kd.bool 4 w.heap.size v87 s0) (hp_new ho S.out.1)); clear hb ho RS z0 z1 z2 hi2 hi3 hn0 hcnt hc1 hbb e13 eSL; obtain ⟨A87, c87, rfl⟩ := S.out.slice 0 rfl
    go_wp2_with (first | ((with_reducible refine gate_dst (N := 88) rfl ?_); refine ev_litM S 0 rfl (Kd.slice 4 Kd.bool) 88 rfl rfl rfl M_of_R (by first | (go_simp; done) | (go_simp; rfl)) (fun v88 w_ S1 => ?_); clear S; have S := S1; clear S1) | ((with_reducible refine gate_dst (N := 15) rfl ?_); refine ev_box S rfl rfl (cs := #[.slice none 0 0, .slice none 0 0, .slice none 0 0]) (t := 30) (by first | (go_simp; done) | (go_simp; rfl)) (fun g15 w_ Gg15 S1 => ?_); clear S; have S := S1; clear S1; have z0 := S.out.cell 0 0 rfl rfl; have z1 := S.out.cell 0 1 rfl rfl; have z2 := S.out.cell 0 2 rfl rfl; have f0 := S.out.frozen 0 0 rfl; have f1 := S.out.frozen 0 1 rfl; have f2 := S.out.frozen 0 2 rfl) | ((with_reducible refine gate_store (t := 30) (p := 15) rfl ?_); refine ev_run (w1 := ((((_ : World)).setCell ⟨g15, 0, none⟩ (.slice A9 bl.length c9)).setCell ⟨g15, 1, none⟩ (.slice none 0 0)).setCell ⟨g15, 2, none⟩ (.slice none 0 0)) rfl rfl (by first | (go_simp; done) | (go_simp; rfl)) (fun w_ hw => ?_); have S1 := Aside0.mk ((((S.out).put 0 0 (u := .slice A9 bl.length c9) rfl rfl).put 0 1 (u := .slice none 0 0) rfl rfl).put 0 2 (u := .slice none 0 0) rfl rfl); rw [← hw] at S1; clear hw; clear S; have S := S1; clear S1; (try clear z0 z1 z2 f0 f1 f2)))
    obtain ⟨BS, eBS⟩ : ∃ q, q = byteM bl nb 256 := ⟨_, rfl⟩
    have hBS : BS.length = nb := by rw [eBS, byteM_length]
    have hl := HL.out
    rw [← ENB.out, ← eBS] at hl
    clear HL; have HL := Aside0.mk hl; have HBS := Aside0.mk hBS; clear hl hBS; replace S := Aside0.mk (((show Hp w.heap.size w _ [fB w.heap.size g15 #[.slice A9 bl.length c9, .slice none 0 0, .slice none 0 0] 30, fR (Kd.slice 4 Kd.bool) 88 w.heap.size v88 [s0], fT, fR (Kd.int .u8) 5 w.heap.size (.slice (some ⟨g11, 0, none⟩) nb c11) BS, fR (Kd.int .i64) 2 w.heap.size (.slice A9 bl.length c9) bl, fT, fB w.heap.size g6 #[.slice none 0 0, .slice none 0 0, .slice none 0 0] 30, fB w.heap.size g4 #[.slice none 0 0, .slice none 0 0, .slice none 0 0] 30, fB w.heap.size g2 #[.int .i64 a0_0, .slice A0_1 l0_1.length c0_1, .slice A0_2 l0_2.length c0_2] 36] by rw [eBS]; exact S.out.forget 2 rfl).noneS (Kd.slice 2 (Kd.int .i64)) 27).none_ (Kd.int .i64) 2); clear eBS
    go_loopg [14, 16] k (fun gk v14 v16 wr => ∃ (s : Nat) (st : List (List Bool)) (nx : List (List Int)) (ac : List Int) (nv av : Value), v16 = .int .i64 (s : Int) ∧ Aside0 (s ≤ st.length ∧ nx.length = s ∧ ac.length = s ∧ st.length ≤ 1000 ∧ ∀ x ∈ st, x.length = a0_0.toNat) ∧ Aside0 (spec_BuildDfa.l0 a0_0 l0_1 l0_2 a1 BS gk s st nx ac = some (o1, o2, o3)) ∧ Aside0 (gk ≤ k) ∧ Aside0 (Hp w.heap.size w wr [fR (Kd.int .i64) 2 w.heap.size av ac, fS (Kd.slice 2 (Kd.int .i64)) 27 w.heap.size nv nx, fB w.heap.size g15 #[.slice A9 bl.length c9, nv, av] 30, fR (Kd.slice 4 Kd.bool) 88 w.heap.size v14 st, fT, fR (Kd.int .u8) 5 w.heap.size (.slice (some ⟨g11, 0, none⟩) nb c11) BS, fR (Kd.int .i64) 2 w.heap.size (.slice A9 bl.length c9) bl, fT, fB w.heap.size g6 #[.slice none 0 0, .slice none 0 0, .slice none 0 0] 30, fB w.heap.size g4 #[.slice none 0 0, .slice none 0 0, .slice none 0 0] 30, fB w.heap.size g2 #[.int .i64 a0_0, .slice A0_1 l0_1.length c0_1, .slice A0_2 l0_2.length c0_2] 36]))
    case atStart => exact ⟨0, [s0], [], [], _, _, rfl, ⟨Nat.zero_le _, rfl, rfl, by simp, fun x hx => by rw [List.mem_singleton.1 hx]; exact HSL.out⟩, HL, ⟨Nat.le_refl _⟩, S⟩
    case round =>
     clear S HL; obtain ⟨s, st, nx, ac, nv, av, rfl, HS, HA, HK1, S⟩ := hrel
     cases gk with
     | zero => exact absurd HA.out (by simp [spec_BuildDfa.l0])
     | succ k1 =>
      have H := HA.out
      rw [spec_BuildDfa.l0] at H
      obtain ⟨Ast, cst, rfl⟩ := S.out.slice 3 rfl; clear HA
      by_cases c : s < st.length
      ·rw [if_pos c] at H
       replace H := Option.bind_eq_some_iff.1 H; obtain ⟨⟨st', row', okr⟩, hq, H⟩ := H; obtain ⟨cur, ecur⟩ : ∃ q, q = st.getD s [] := ⟨_, rfl⟩
       rw [← ecur] at hq H
       have HQ := Aside0.mk hq; have HN := Aside0.mk H; have HCU := Aside0.mk ecur; have HSC := Aside0.mk c; have hcond := eq_true (show (s : Int) < (st.length : Int) by omega); clear hq H ecur c
       go_wp2_with (first | ((with_reducible refine gate_dst (N := 97) rfl ?_); refine ev_lit S (Kd.int .i64) (2) rfl rfl (xs := ([] : List Int)) (inner := []) (by first | (go_simp; done) | (go_simp; rfl)) (Reps.none _ _) (by simp) (fun v97 w_ S1 => ?_); clear S; have S := S1; clear S1))
       go_loopg [14, 17, 18] k1 (fun gk v14 v17 v18 wr => ∃ (j : Nat) (st2 : List (List Bool)) (row : List Int), v18 = .int .i64 (j : Int) ∧ Aside0 (j ≤ nb ∧ row.length = j ∧ s < st2.length ∧ st2.length ≤ 1000 ∧ st2.getD s [] = cur ∧ ∀ x ∈ st2, x.length = a0_0.toNat) ∧ Aside0 (spec_BuildDfa.l1 a0_0 l0_1 l0_2 a1 BS cur gk j st2 row = some (st', row', okr)) ∧ Aside0 (gk ≤ k1) ∧ Aside0 (Hp w.heap.size w wr (fR (Kd.int .i64) 2 w.heap.size v17 row :: [fR (Kd.int .i64) 2 w.heap.size av ac, fS (Kd.slice 2 (Kd.int .i64)) 27 w.heap.size nv nx, fB w.heap.size g15 #[.slice A9 bl.length c9, nv, av] 30, fR (Kd.slice 4 Kd.bool) 88 w.heap.size v14 st2, fT, fR (Kd.int .u8) 5 w.heap.size (.slice (some ⟨g11, 0, none⟩) nb c11) BS, fR (Kd.int .i64) 2 w.heap.size (.slice A9 bl.length c9) bl, fT, fB w.heap.size g6 #[.slice none 0 0, .slice none 0 0, .slice none 0 0] 30, fB w.heap.size g4 #[.slice none 0 0, .slice none 0 0, .slice none 0 0] 30, fB w.heap.size g2 #[.int .i64 a0_0, .slice A0_1 l0_1.length c0_1, .slice A0_2 l0_2.length c0_2] 36])))
       case atStart => exact ⟨0, st, [], rfl, ⟨Nat.zero_le _, rfl, HSC.out, HS.out.2.2.2.1, HCU.out.symm, HS.out.2.2.2.2⟩, HQ, ⟨Nat.le_refl _⟩, S⟩
       case round =>
        clear S HQ hcond; obtain ⟨j, st2, row, rfl, HJ, HA, HK2, S⟩ := hrel
        cases gk with
        | zero => exact absurd HA.out (by simp [spec_BuildDfa.l1])
        | succ k2 =>
         have H := HA.out
         rw [spec_BuildDfa.l1] at H
         obtain ⟨Ast2, cst2, rfl⟩ := S.out.slice 4 rfl; clear HA
         by_cases cj : j < BS.length
         ·rw [if_pos cj] at H
          replace H := Option.bind_eq_some_iff.1 H; obtain ⟨x, hx, H⟩ := H
          by_cases hxl : x.length = a0_0.toNat
          case neg => rw [if_neg hxl] at H; cases H
          rw [if_pos hxl] at H
          have HX := Aside0.mk hx; have HXL := Aside0.mk hxl; have HN2 := Aside0.mk H; clear hx hxl H; have HCJ := Aside0.mk (show j < nb by rw [← HBS.out]; exact cj); have hcond := eq_true (show (j : Int) < cnt by have := HCJ.out; have := ENB.out; have := HK.out; omega); obtain ⟨ad, Ac, cc, e1, hx, hl1, hi1⟩ := at_rowG (S.out.row 4 rfl).2.2 s HJ.out.2.2.1; cases e1
          rw [HJ.out.2.2.2.2.1] at hx hl1 hi1
          obtain ⟨zk, fk⟩ := S.out.cellR 6 (0 : Int) rfl (j : Int) (by omega) (by have := HCJ.out; omega)
          rw [show rdOf 0 BS (j : Int) = BS.getD j 0 from by unfold rdOf; rw [Int.toNat_natCast], Int.toNat_natCast] at zk
          have hm0 := eq_true (show (s : Int) < (st2.length : Int) by have := HJ.out.2.2.1; omega); have hm1 := eq_true (show (0 : Int) ≤ (s : Int) by omega); have hm2 := eq_true (show (j : Int) < (nb : Int) by have := HCJ.out; omega); have hm3 := eq_true (show (0 : Int) ≤ (j : Int) by omega); have ZX := Aside0.mk hx; have ZB := Aside0.mk zk; have HCL := Aside0.mk hl1; have HCC := Aside0.mk hi1; have ZP0 := Aside0.mk (S.out.cell 11 0 rfl rfl); have ZP1 := Aside0.mk (S.out.cell 11 1 rfl rfl); have ZP2 := Aside0.mk (S.out.cell 11 2 rfl rfl); have HRW1 := Aside0.mk (Kd.C_below HR1.out S.out.below); have HRW2 := Aside0.mk (Kd.C_below HR2.out S.out.below); clear hx zk fk hl1 hi1 cj
          go_wp2_with fail
          refine mask_ (n := 11) (fun l v W => (l 0 = true → v 0 = .agg #[.int .i64 a0_0, .slice A0_1 l0_1.length c0_1, .slice A0_2 l0_2.length c0_2]) ∧ (l 1 = true → v 1 = .slice (some ad) st2.length cst2) ∧ (l 2 = true → v 2 = .int .i64 (s : Int)) ∧ (l 3 = true → v 3 = .pointer (some (ad.add s))) ∧ (l 4 = true → v 4 = .slice Ac cur.length cc) ∧ (l 5 = true → v 5 = .slice (some ⟨g11, 0, none⟩) nb c11) ∧ (l 6 = true → v 6 = .int .i64 (j : Int)) ∧ (l 7 = true → v 7 = .pointer (some ⟨g11, j, none⟩)) ∧ (l 8 = true → v 8 = .int .u8 (BS.getD j 0)) ∧ (l 10 = true → v 10 = v 9) ∧ Hp wr.heap.size wr W [cf (l 9) (fR Kd.bool 4 wr.heap.size (v 9) x) fT]) [[], [], [], [1, 2], [3], [], [], [5, 6], [7], [0, 4, 8], [9, 9, 0, 1, 2, 3, 4, 5, 6, 7, 8, 9]] [some 103, some 104, some 105, some 106, some 107, some 108, some 109, some 110, some 111, some 112, some 19] 165 (by kernel_rfl) spec_BuildDfa.need29 spec_BuildDfa.dst29 (by decide) rfl ⟨fun h => absurd h (by decide), fun h => absurd h (by decide), fun h => absurd h (by decide), fun h => absurd h (by decide), fun h => absurd h (by decide), fun h => absurd h (by decide), fun h => absurd h (by decide), fun h => absurd h (by decide), fun h => absurd h (by decide), fun h => absurd h (by decide), ?_⟩ ⟨?_, ?_, ?_, ?_, ?_, ?_, ?_, ?_, ?_, ?_, ?_, trivial⟩ (fun v W hJ => ?_)
          ·exact (Hp.start wr).drew.blank
          ·intro l v W zb hzb hsz hJ hi hn hc K hK
           have HZ := Aside0.mk hzb; clear hzb; obtain ⟨p0, p1, p2, p3, p4, p5, p6, p7, p8, p10, S⟩ := hJ
           have e2 : zb.tmps.getD 2 undef = .pointer (some ⟨g2, 0, none⟩) := by rw [HZ.out, putIf_other _ 0 _ rfl]; rfl
           have S0 := S
           rw [hc 9 0 (by decide) hi] at S
           have z0 := (S.below.cell (World.block_lt_of_cell? wr _ ZP0.out)).trans ZP0.out; have z1 := (S.below.cell (World.block_lt_of_cell? wr _ ZP1.out)).trans ZP1.out; have z2 := (S.below.cell (World.block_lt_of_cell? wr _ ZP2.out)).trans ZP2.out
           refine yields_ (N := some 103) (x := .agg #[.int .i64 a0_0, .slice A0_1 l0_1.length c0_1, .slice A0_2 l0_2.length c0_2]) rfl rfl ?_ (hK.out _ _ ⟨fun _ => rfl, p1, p2, p3, p4, p5, p6, p7, p8, p10, S0⟩)
           clear hK HZ hn hc p0 p1 p2 p3 p4 p5 p6 p7 p8 p10; (try simp only [Array.getD_eq_getD_getElem?] at *); go_simp; try with_reducible rfl
          ·intro l v W zb hzb hsz hJ hi hn hc K hK
           have HZ := Aside0.mk hzb; clear hzb; obtain ⟨p0, p1, p2, p3, p4, p5, p6, p7, p8, p10, S⟩ := hJ
           have e14 : zb.tmps.getD 14 undef = .slice (some ad) st2.length cst2 := by rw [HZ.out, putIf_other _ 0 _ rfl]; rfl
           refine yields_ (N := some 104) (x := .slice (some ad) st2.length cst2) rfl rfl ?_ (hK.out _ _ ⟨p0, fun _ => rfl, p2, p3, p4, p5, p6, p7, p8, p10, S⟩)
           clear hK HZ hn hc p0 p1 p2 p3 p4 p5 p6 p7 p8 p10; (try simp only [Array.getD_eq_getD_getElem?] at *); go_simp; try with_reducible rfl
          ·intro l v W zb hzb hsz hJ hi hn hc K hK
           have HZ := Aside0.mk hzb; clear hzb; obtain ⟨p0, p1, p2, p3, p4, p5, p6, p7, p8, p10, S⟩ := hJ
           have e16 : zb.tmps.getD 16 undef = .int .i64 (s : Int) := by rw [HZ.out, putIf_other _ 0 _ rfl]; rfl
           refine yields_ (N := some 105) (x := .int .i64 (s : Int)) rfl rfl ?_ (hK.out _ _ ⟨p0, p1, fun _ => rfl, p3, p4, p5, p6, p7, p8, p10, S⟩)
           clear hK HZ hn hc p0 p1 p2 p3 p4 p5 p6 p7 p8 p10; (try simp only [Array.getD_eq_getD_getElem?] at *); go_simp; try with_reducible rfl
          ·intro l v W zb hzb hsz hJ hi hn hc K hK
           have HZ := Aside0.mk hzb; clear hzb; obtain ⟨p0, p1, p2, p3, p4, p5, p6, p7, p8, p10, S⟩ := hJ
           have e104 : zb.tmps.getD 104 undef = .slice (some ad) st2.length cst2 := by rw [HZ.out, putIf_at (hn 1 (by decide)) _ 0 _ (Nat.zero_le _) rfl rfl (by rw [hsz]; decide)]; exact p1 (hn 1 (by decide))
           have e105 : zb.tmps.getD 105 undef = .int .i64 (s : Int) := by rw [HZ.out, putIf_at (hn 2 (by decide)) _ 0 _ (Nat.zero_le _) rfl rfl (by rw [hsz]; decide)]; exact p2 (hn 2 (by decide))
           refine yields_ (N := some 106) (x := .pointer (some (ad.add s))) rfl rfl ?_ (hK.out _ _ ⟨p0, p1, p2, fun _ => rfl, p4, p5, p6, p7, p8, p10, S⟩)
           clear hK HZ hn hc p0 p1 p2 p3 p4 p5 p6 p7 p8 p10; (try simp only [Array.getD_eq_getD_getElem?] at *); go_simp; try with_reducible rfl
          ·intro l v W zb hzb hsz hJ hi hn hc K hK
           have HZ := Aside0.mk hzb; clear hzb; obtain ⟨p0, p1, p2, p3, p4, p5, p6, p7, p8, p10, S⟩ := hJ
           have e106 : zb.tmps.getD 106 undef = .pointer (some (ad.add s)) := by rw [HZ.out, putIf_at (hn 3 (by decide)) _ 0 _ (Nat.zero_le _) rfl rfl (by rw [hsz]; decide)]; exact p3 (hn 3 (by decide))
           have S0 := S
           rw [hc 9 4 (by decide) hi] at S
           have z := (S.below.cell (World.block_lt_of_cell? wr _ ZX.out)).trans ZX.out
           refine yields_ (N := some 107) (x := .slice Ac cur.length cc) rfl rfl ?_ (hK.out _ _ ⟨p0, p1, p2, p3, fun _ => rfl, p5, p6, p7, p8, p10, S0⟩)
           clear hK HZ hn hc p0 p1 p2 p3 p4 p5 p6 p7 p8 p10; (try simp only [Array.getD_eq_getD_getElem?] at *); go_simp; try with_reducible rfl
          ·intro l v W zb hzb hsz hJ hi hn hc K hK
           have HZ := Aside0.mk hzb; clear hzb; obtain ⟨p0, p1, p2, p3, p4, p5, p6, p7, p8, p10, S⟩ := hJ
           have e11 : zb.tmps.getD 11 undef = .slice (some ⟨g11, 0, none⟩) nb c11 := by rw [HZ.out, putIf_other _ 0 _ rfl]; rfl
           refine yields_ (N := some 108) (x := .slice (some ⟨g11, 0, none⟩) nb c11) rfl rfl ?_ (hK.out _ _ ⟨p0, p1, p2, p3, p4, fun _ => rfl, p6, p7, p8, p10, S⟩)
           clear hK HZ hn hc p0 p1 p2 p3 p4 p5 p6 p7 p8 p10; (try simp only [Array.getD_eq_getD_getElem?] at *); go_simp; try with_reducible rfl
          ·intro l v W zb hzb hsz hJ hi hn hc K hK
           have HZ := Aside0.mk hzb; clear hzb; obtain ⟨p0, p1, p2, p3, p4, p5, p6, p7, p8, p10, S⟩ := hJ
           have e18 : zb.tmps.getD 18 undef = .int .i64 (j : Int) := by rw [HZ.out, putIf_other _ 0 _ rfl]; rfl
           refine yields_ (N := some 109) (x := .int .i64 (j : Int)) rfl rfl ?_ (hK.out _ _ ⟨p0, p1, p2, p3, p4, p5, fun _ => rfl, p7, p8, p10, S⟩)
           clear hK HZ hn hc p0 p1 p2 p3 p4 p5 p6 p7 p8 p10; (try simp only [Array.getD_eq_getD_getElem?] at *); go_simp; try with_reducible rfl
          ·intro l v W zb hzb hsz hJ hi hn hc K hK
           have HZ := Aside0.mk hzb; clear hzb; obtain ⟨p0, p1, p2, p3, p4, p5, p6, p7, p8, p10, S⟩ := hJ
           have e108 : zb.tmps.getD 108 undef = .slice (some ⟨g11, 0, none⟩) nb c11 := by rw [HZ.out, putIf_at (hn 5 (by decide)) _ 0 _ (Nat.zero_le _) rfl rfl (by rw [hsz]; decide)]; exact p5 (hn 5 (by decide))
           have e109 : zb.tmps.getD 109 undef = .int .i64 (j : Int) := by rw [HZ.out, putIf_at (hn 6 (by decide)) _ 0 _ (Nat.zero_le _) rfl rfl (by rw [hsz]; decide)]; exact p6 (hn 6 (by decide))
           refine yields_ (N := some 110) (x := .pointer (some ⟨g11, j, none⟩)) rfl rfl ?_ (hK.out _ _ ⟨p0, p1, p2, p3, p4, p5, p6, fun _ => rfl, p8, p10, S⟩)
           clear hK HZ hn hc p0 p1 p2 p3 p4 p5 p6 p7 p8 p10; (try simp only [Array.getD_eq_getD_getElem?] at *); go_simp; try with_reducible rfl
          ·intro l v W zb hzb hsz hJ hi hn hc K hK
           have HZ := Aside0.mk hzb; clear hzb; obtain ⟨p0, p1, p2, p3, p4, p5, p6, p7, p8, p10, S⟩ := hJ
           have e110 : zb.tmps.getD 110 undef = .pointer (some ⟨g11, j, none⟩) := by rw [HZ.out, putIf_at (hn 7 (by decide)) _ 0 _ (Nat.zero_le _) rfl rfl (by rw [hsz]; decide)]; exact p7 (hn 7 (by decide))
           have S0 := S
           rw [hc 9 8 (by decide) hi] at S
           have z := (S.below.cell (World.block_lt_of_cell? wr _ ZB.out)).trans ZB.out
           refine yields_ (N := some 111) (x := .int .u8 (BS.getD j 0)) rfl rfl ?_ (hK.out _ _ ⟨p0, p1, p2, p3, p4, p5, p6, p7, fun _ => rfl, p10, S0⟩)
           clear hK HZ hn hc p0 p1 p2 p3 p4 p5 p6 p7 p8 p10; (try simp only [Array.getD_eq_getD_getElem?] at *); go_simp; try with_reducible rfl
          ·intro l v W zb hzb hsz hJ hi hn hc K hK
           have HZ := Aside0.mk hzb; clear hzb; obtain ⟨p0, p1, p2, p3, p4, p5, p6, p7, p8, p10, S⟩ := hJ
           have e103 : zb.tmps.getD 103 undef = .agg #[.int .i64 a0_0, .slice A0_1 l0_1.length c0_1, .slice A0_2 l0_2.length c0_2] := by rw [HZ.out, putIf_at (hn 0 (by decide)) _ 0 _ (Nat.zero_le _) rfl rfl (by rw [hsz]; decide)]; exact p0 (hn 0 (by decide))
           have e107 : zb.tmps.getD 107 undef = .slice Ac cur.length cc := by rw [HZ.out, putIf_at (hn 4 (by decide)) _ 0 _ (Nat.zero_le _) rfl rfl (by rw [hsz]; decide)]; exact p4 (hn 4 (by decide))
           have e111 : zb.tmps.getD 111 undef = .int .u8 (BS.getD j 0) := by rw [HZ.out, putIf_at (hn 8 (by decide)) _ 0 _ (Nat.zero_le _) rfl rfl (by rw [hsz]; decide)]; exact p8 (hn 8 (by decide))
           rw [hi] at S
           refine goes_ Try.func57 (by kernel_rfl) rfl #[.agg #[.int .i64 a0_0, .slice A0_1 l0_1.length c0_1, .slice A0_2 l0_2.length c0_2], .slice Ac cur.length cc, .int .u8 (BS.getD j 0)] rfl rfl rfl (by simp only [List.map_toArray, List.map_cons, List.map_nil]; first | done | (show #[zb.tmps.getD 103 undef, zb.tmps.getD 107 undef, zb.tmps.getD 111 undef] = _; simp only [e103, e107, e111])) ?_
           refine (spec_l6Step.calls k2 a0_0 A0_1 c0_1 l0_1 A0_2 c0_2 l0_2 Ac cc cur (BS.getD j 0) x W (Kd.C_below HRW1.out S.below) HC1.out (Kd.C_below HRW2.out S.below) HC2.out (Kd.C_below HCC.out S.below) HCL.out HX.out).mono ?_
           rintro e w' ⟨v0_, rfl, ho, hb'⟩
           refine ⟨_, rfl, hK.out _ _ ⟨p0, p1, p2, p3, p4, p5, p6, p7, p8, no_ (hc 10 9 (by decide) hi), ?_⟩⟩
           exact S.fill 0 rfl hb' (fR Kd.bool 4 wr.heap.size v0_ x) (hp_new ho S.1)
          ·intro l v W zb hzb hsz hJ hi hn hc K hK
           have HZ := Aside0.mk hzb; clear hzb; obtain ⟨p0, p1, p2, p3, p4, p5, p6, p7, p8, p10, S⟩ := hJ
           have e112 : zb.tmps.getD 112 undef = v 9 := by rw [HZ.out, putIf_at (hn 9 (by decide)) _ 0 _ (Nat.zero_le _) rfl rfl (by rw [hsz]; decide)]
           refine yields_ (N := some 19) (x := v 9) rfl rfl ?_ (hK.out _ _ ⟨p0, p1, p2, p3, p4, p5, p6, p7, p8, fun _ => rfl, S⟩)
           clear hK HZ hn hc p0 p1 p2 p3 p4 p5 p6 p7 p8 p10; (try simp only [Array.getD_eq_getD_getElem?] at *); go_simp; try with_reducible rfl
          clear hm0 hm1 hm2 hm3 hcond ZX ZB HCL HCC HRW1 HRW2 ZP0 ZP1 ZP2; obtain ⟨-, -, -, -, -, -, -, -, -, p10, S1⟩ := hJ; have e10 := p10 rfl; obtain ⟨ok, ho⟩ := S1.get 0 rfl; replace S := Aside0.mk (S.out.add S1.below (fR Kd.bool 4 w.heap.size (v 9) x) (hp_new (Kd.R_mono ho (fun _ _ => trivial)) S.out.1)); clear S1 ho p10; obtain ⟨A19, c19, q19⟩ := S.out.slice 0 rfl
          rw [q19] at S
          simp only [putIf, ↓reduceIte, Act.put, List.setIfInBounds_toArray, List.set_cons_succ, List.set_cons_zero]
          rw [e10, q19]
          clear e10 q19; obtain ⟨Aw, cw, rfl⟩ := S.out.slice 1 rfl
          go_wp2_with fail
          go_loopg [20, 21] st2.length (fun gk v20 v21 wr => ∃ (i : Nat) (a : Int), v20 = .int .i64 a ∧ v21 = .int .i64 (i : Int) ∧ i + gk = st2.length ∧ Aside0 ((a = -1 ∧ ∀ j2, j2 < i → st2[j2]? ≠ some x) ∨ (x ∈ st2 ∧ a = (st2.idxOf x : Int))) ∧ Aside0 (Hp w.heap.size w wr (fR Kd.bool 4 w.heap.size (.slice A19 x.length c19) x :: fR (Kd.int .i64) 2 w.heap.size (.slice Aw row.length cw) row :: [fR (Kd.int .i64) 2 w.heap.size av ac, fS (Kd.slice 2 (Kd.int .i64)) 27 w.heap.size nv nx, fB w.heap.size g15 #[.slice A9 bl.length c9, nv, av] 30, fR (Kd.slice 4 Kd.bool) 88 w.heap.size (.slice (some ad) st2.length cst2) st2, fT, fR (Kd.int .u8) 5 w.heap.size (.slice (some ⟨g11, 0, none⟩) nb c11) BS, fR (Kd.int .i64) 2 w.heap.size (.slice A9 bl.length c9) bl, fT, fB w.heap.size g6 #[.slice none 0 0, .slice none 0 0, .slice none 0 0] 30, fB w.heap.size g4 #[.slice none 0 0, .slice none 0 0, .slice none 0 0] 30, fB w.heap.size g2 #[.int .i64 a0_0, .slice A0_1 l0_1.length c0_1, .slice A0_2 l0_2.length c0_2] 36])))
          case atStart => exact ⟨0, -1, rfl, rfl, by omega, ⟨Or.inl ⟨rfl, fun j2 h => absurd h (by omega)⟩⟩, S⟩
          case round =>
           clear S; obtain ⟨i, a, rfl, rfl, hig, HF, S⟩ := hrel
           rcases HF.out with ⟨rfl, hne⟩ | ⟨hmem, ha⟩
           ·have HNE := Aside0.mk hne
            clear hne HF
            by_cases ci : i < st2.length
            ·obtain ⟨ad5, Ai, c5, e5, hx5, hl5, hr5⟩ := at_rowG (S.out.row 5 rfl).2.2 i ci
             cases e5
             have hyi : st2[i]? = some (st2.getD i []) := by rw [List.getD_eq_getElem?_getD, List.getElem?_eq_getElem ci]; rfl
             have hyl : (st2.getD i []).length = a0_0.toNat := HJ.out.2.2.2.2.2 _ (List.mem_of_getElem? hyi); generalize st2.getD i [] = yi at *; have RX := S.out.row 0 rfl; have hcond := eq_true (show (i : Int) < (st2.length : Int) by omega); have hcond0 := eq_true (show (0 : Int) ≤ (i : Int) by omega); have WN := Aside0.mk (show wrap64 ((i : Int) + 1) = ((i + 1 : Nat) : Int) from nat_next (by have := HJ.out.2.2.2.1; omega)); have HGI := Aside0.mk (And.intro hig ci); have HYI := Aside0.mk hyi; have HYL := Aside0.mk hyl; clear hig ci hyi hyl
             go_wp2_with fail
             refine (spec_l7SameMarks.calls (yi.length + 1) Ai c5 yi A19 c19 x (decide (yi = x)) _ hr5 hl5 RX.2.2 RX.2.1 (spec_BuildDfa.same yi x (HYL.out.trans HXL.out.symm) (by rw [HYL.out]; have := HG.out; omega) yi.length 0 (by omega) (fun _ h => absurd h (by omega)))).mono ?_
             rintro e w6 ⟨rfl, ⟨nd, rfl⟩⟩
             replace S := Aside0.mk (S.out.drewN nd); generalize wr.drewN nd = w7 at S ⊢; clear RX hx5 hl5 hr5
             by_cases heq : yi = x
             ·rw [decide_eq_true heq]
              have HIT := Aside0.mk (idx_hit (x := x) (st := st2) (i := i) (by rw [HYI.out, heq]) HNE.out); clear heq
              go_wp2
              go_roundg (st2.length - (i + 1))
              case measure => have := HGI.out; omega
              case rel => exact ⟨i + 1, (i : Int), rfl, congrArg (Value.int .i64) WN.out, by have := HGI.out; omega, ⟨Or.inr ⟨HIT.out.1, by rw [HIT.out.2]⟩⟩, S⟩
             ·rw [decide_eq_false heq]
              have HMI := Aside0.mk heq; clear heq
              go_wp2
              go_roundg (st2.length - (i + 1))
              case measure => have := HGI.out; omega
              case rel => exact ⟨i + 1, -1, rfl, congrArg (Value.int .i64) WN.out, by have := HGI.out; omega, ⟨Or.inl ⟨rfl, fun j2 h q => (Nat.lt_or_ge j2 i).elim (fun h2 => HNE.out j2 h2 q) (fun h2 => HMI.out (Option.some.inj (HYI.out.symm.trans ((show j2 = i by omega) ▸ q))))⟩⟩, S⟩
            ·have hcond := eq_false (show ¬ (i : Int) < (st2.length : Int) by omega)
             have hnm : x ∉ st2 := idx_none (fun j2 h => HNE.out j2 (by omega)); have HAD := Aside0.mk (And.intro (show addS st2 x = st2 ++ [x] from if_neg hnm) (List.idxOf_eq_length hnm)); clear hnm ci hig
             go_upto_region 39 with (first | ((with_reducible refine gate_dst (N := 136) rfl ?_); refine ev_litM S 0 rfl (Kd.slice 4 Kd.bool) 88 rfl rfl rfl M_of_R (by first | (go_simp; done) | (go_simp; rfl)) (fun v136 w_ S1 => ?_); clear S; have S := S1; clear S1; obtain ⟨A36, c36, rfl⟩ := S.out.slice 0 rfl) | ((with_reducible refine gate_dst (N := 137) rfl ?_); refine ev_appM S 5 0 (by decide) rfl rfl rfl (.tmp 134) (.tmp 136) (90) (.slice none 0 0) (24) rfl Try.underlying90 (by kernel_rfl) rfl (by decide) (by omega) rfl rfl (by have := HJ.out.2.2.2.1; simp only [List.length_singleton]; omega) (fun v137 w_ S1 => ?_); clear S; have S := Aside0.mk S1.out.tail; clear S1; obtain ⟨ST, eST⟩ : ∃ q, q = st2 ++ [x] := ⟨_, rfl⟩; rw [show st2 ++ [x] = ST from eST.symm] at S; have EST := Aside0.mk eST; clear eST; obtain ⟨A14, c14, rfl⟩ := S.out.slice 4 rfl))
             have hst : s < ST.length ∧ ST.getD s [] = cur ∧ ∀ y ∈ ST, y.length = a0_0.toNat := by
              rw [EST.out]
              refine ⟨by rw [List.length_append]; have := HJ.out.2.2.1; omega, by rw [List.getD_eq_getElem?_getD, List.getElem?_append_left HJ.out.2.2.1, ← List.getD_eq_getElem?_getD]; exact HJ.out.2.2.2.2.1, fun y hy => ?_⟩
              rcases List.mem_append.1 hy with h | h
              ·exact HJ.out.2.2.2.2.2 y h
              ·rw [List.mem_singleton.1 h]; exact HXL.out
             have HST := Aside0.mk hst; clear hst hcond; have HN3 := HN2.out
             rw [show addS st2 x = ST from by rw [HAD.out.1]; exact EST.out.symm, show ((st2.idxOf x : Nat) : Int) = (st2.length : Int) from by rw [HAD.out.2]] at HN3
             by_cases hov : a1 < (ST.length : Int)
             ·have hov2 := eq_true hov
              rw [if_pos hov] at HN3
              simp only [Option.some.injEq, Prod.mk.injEq] at HN3
              obtain ⟨rfl, rfl, rfl⟩ := HN3; have hr := HN.out
              rw [if_neg (by decide)] at hr
              simp only [Option.some.injEq, Prod.mk.injEq] at hr
              obtain ⟨rfl, rfl, rfl⟩ := hr; have hr := HRES.out
              rw [if_neg (by decide)] at hr
              simp only [Option.some.injEq, Prod.mk.injEq] at hr
              obtain ⟨rfl, rfl, rfl, rfl⟩ := hr; have x0 := S.out.cell 9 0 rfl rfl; have x1 := S.out.cell 9 1 rfl rfl; have x2 := S.out.cell 9 2 rfl rfl; have y0 := S.out.cell 10 0 rfl rfl; have y1 := S.out.cell 10 1 rfl rfl; have y2 := S.out.cell 10 2 rfl rfl; have f0 := S.out.frozen 10 0 rfl; have f1 := S.out.frozen 10 1 rfl; have f2 := S.out.frozen 10 2 rfl
              go_wp2
              have S1 := Aside0.mk ((((S.out).put 10 0 (u := .slice none 0 0) rfl rfl).put 10 1 (u := .slice none 0 0) rfl rfl).put 10 2 (u := .slice none 0 0) rfl rfl)
              refine bodyPost_ret (results_ct rfl _ _ g4 30 #[.slice none 0 0, .slice none 0 0, .slice none 0 0] (0, 0) _ rfl (S1.out.blk 10 rfl) Try.underlying30 rfl (by kernel_rfl)) rfl ?_
              exact ⟨_, _, _, rfl, Kd.R_nil _ _ _ _ _, Kd.S_nil _ _ _ _ _, Kd.R_nil _ _ _ _ _, S1.out.below⟩
             ·have hov2 := eq_false hov
              rw [if_neg hov] at HN3
              have HN4 := Aside0.mk HN3; have HOV := Aside0.mk hov; have WJ := Aside0.mk (show wrap64 ((j : Int) + 1) = ((j + 1 : Nat) : Int) from nat_next (by have := HCJ.out; have := ENB.out; have := HK.out; omega)); clear HN3 hov
              go_wp2_with (first | ((with_reducible refine gate_dst (N := 145) rfl ?_); refine ev_lit S (Kd.int .i64) (2) rfl rfl (xs := [(st2.length : Int)]) (inner := [.int .i64 (st2.length : Int)]) (by first | (go_simp; done) | (go_simp; rfl)) (Reps.one rfl (Reps.none _ _)) (by simp) (fun v145 w_ S1 => ?_); clear S; have S := S1; clear S1; obtain ⟨A145, c145, rfl⟩ := S.out.slice 0 rfl) | ((with_reducible refine gate_dst (N := 146) rfl ?_); refine ev_app S 1 rfl rfl (.tmp 143) (.tmp 145) (27) (.int .i64 0) (8) rfl Try.underlying27 (by kernel_rfl) rfl (by decide) (by omega) rfl rfl (S.out.row 0 rfl).2.2 (fun _ _ h => h) (by have := HJ.out.2.1; have := HCJ.out; have := ENB.out; have := HK.out; simp only [List.length_singleton]; omega) (fun v146 w_ S1 => ?_); clear S; have S := Aside0.mk S1.out.tail; clear S1))
              go_roundg k2
              case measure => omega
              case rel => exact ⟨j + 1, ST, row ++ [(st2.length : Int)], congrArg (Value.int .i64) WJ.out, ⟨HCJ.out, by rw [List.length_append, HJ.out.2.1]; rfl, HST.out.1, by have := HOV.out; have := HM.out; omega, HST.out.2⟩, HN4, ⟨by have := HK2.out; omega⟩, S⟩
           ·have HAD := Aside0.mk (And.intro (show addS st2 x = st2 from if_pos hmem) ha)
            have hneg := eq_false (show ¬ a < 0 by rw [ha]; omega); clear hmem HF ha hig; have hst : s < st2.length ∧ st2.getD s [] = cur ∧ ∀ y ∈ st2, y.length = a0_0.toNat := ⟨HJ.out.2.2.1, HJ.out.2.2.2.2⟩
            by_cases ci : i < st2.length
            ·have hcond := eq_true (show (i : Int) < (st2.length : Int) by omega)
             clear ci
             go_upto_region 39 with fail
             replace S := Aside0.mk S.out.tail; have HST := Aside0.mk hst; clear hst hcond; have HN3 := HN2.out
             rw [show addS st2 x = st2 from HAD.out.1, show ((st2.idxOf x : Nat) : Int) = a from HAD.out.2.symm] at HN3
             by_cases hov : a1 < (st2.length : Int)
             ·have hov2 := eq_true hov
              rw [if_pos hov] at HN3
              simp only [Option.some.injEq, Prod.mk.injEq] at HN3
              obtain ⟨rfl, rfl, rfl⟩ := HN3; have hr := HN.out
              rw [if_neg (by decide)] at hr
              simp only [Option.some.injEq, Prod.mk.injEq] at hr
              obtain ⟨rfl, rfl, rfl⟩ := hr; have hr := HRES.out
              rw [if_neg (by decide)] at hr
              simp only [Option.some.injEq, Prod.mk.injEq] at hr
              obtain ⟨rfl, rfl, rfl, rfl⟩ := hr; have x0 := S.out.cell 9 0 rfl rfl; have x1 := S.out.cell 9 1 rfl rfl; have x2 := S.out.cell 9 2 rfl rfl; have y0 := S.out.cell 10 0 rfl rfl; have y1 := S.out.cell 10 1 rfl rfl; have y2 := S.out.cell 10 2 rfl rfl; have f0 := S.out.frozen 10 0 rfl; have f1 := S.out.frozen 10 1 rfl; have f2 := S.out.frozen 10 2 rfl
              go_wp2
              have S1 := Aside0.mk ((((S.out).put 10 0 (u := .slice none 0 0) rfl rfl).put 10 1 (u := .slice none 0 0) rfl rfl).put 10 2 (u := .slice none 0 0) rfl rfl)
              refine bodyPost_ret (results_ct rfl _ _ g4 30 #[.slice none 0 0, .slice none 0 0, .slice none 0 0] (0, 0) _ rfl (S1.out.blk 10 rfl) Try.underlying30 rfl (by kernel_rfl)) rfl ?_
              exact ⟨_, _, _, rfl, Kd.R_nil _ _ _ _ _, Kd.S_nil _ _ _ _ _, Kd.R_nil _ _ _ _ _, S1.out.below⟩
             ·have hov2 := eq_false hov
              rw [if_neg hov] at HN3
              have HN4 := Aside0.mk HN3; have HOV := Aside0.mk hov; have WJ := Aside0.mk (show wrap64 ((j : Int) + 1) = ((j + 1 : Nat) : Int) from nat_next (by have := HCJ.out; have := ENB.out; have := HK.out; omega)); clear HN3 hov
              go_wp2_with (first | ((with_reducible refine gate_dst (N := 145) rfl ?_); refine ev_lit S (Kd.int .i64) (2) rfl rfl (xs := [a]) (inner := [.int .i64 a]) (by first | (go_simp; done) | (go_simp; rfl)) (Reps.one rfl (Reps.none _ _)) (by simp) (fun v145 w_ S1 => ?_); clear S; have S := S1; clear S1; obtain ⟨A145, c145, rfl⟩ := S.out.slice 0 rfl) | ((with_reducible refine gate_dst (N := 146) rfl ?_); refine ev_app S 1 rfl rfl (.tmp 143) (.tmp 145) (27) (.int .i64 0) (8) rfl Try.underlying27 (by kernel_rfl) rfl (by decide) (by omega) rfl rfl (S.out.row 0 rfl).2.2 (fun _ _ h => h) (by have := HJ.out.2.1; have := HCJ.out; have := ENB.out; have := HK.out; simp only [List.length_singleton]; omega) (fun v146 w_ S1 => ?_); clear S; have S := Aside0.mk S1.out.tail; clear S1))
              go_roundg k2
              case measure => omega
              case rel => exact ⟨j + 1, st2, row ++ [a], congrArg (Value.int .i64) WJ.out, ⟨HCJ.out, by rw [List.length_append, HJ.out.2.1]; rfl, HST.out.1, by have := HOV.out; have := HM.out; omega, HST.out.2⟩, HN4, ⟨by have := HK2.out; omega⟩, S⟩
            ·have hcond := eq_false (show ¬ (i : Int) < (st2.length : Int) by omega)
             clear ci
             go_upto_region 39 with fail
             replace S := Aside0.mk S.out.tail; have HST := Aside0.mk hst; clear hst hcond; have HN3 := HN2.out
             rw [show addS st2 x = st2 from HAD.out.1, show ((st2.idxOf x : Nat) : Int) = a from HAD.out.2.symm] at HN3
             by_cases hov : a1 < (st2.length : Int)
             ·have hov2 := eq_true hov
              rw [if_pos hov] at HN3
              simp only [Option.some.injEq, Prod.mk.injEq] at HN3
              obtain ⟨rfl, rfl, rfl⟩ := HN3; have hr := HN.out
              rw [if_neg (by decide)] at hr
              simp only [Option.some.injEq, Prod.mk.injEq] at hr
              obtain ⟨rfl, rfl, rfl⟩ := hr; have hr := HRES.out
              rw [if_neg (by decide)] at hr
              simp only [Option.some.injEq, Prod.mk.injEq] at hr
              obtain ⟨rfl, rfl, rfl, rfl⟩ := hr; have x0 := S.out.cell 9 0 rfl rfl; have x1 := S.out.cell 9 1 rfl rfl; have x2 := S.out.cell 9 2 rfl rfl; have y0 := S.out.cell 10 0 rfl rfl; have y1 := S.out.cell 10 1 rfl rfl; have y2 := S.out.cell 10 2 rfl rfl; have f0 := S.out.frozen 10 0 rfl; have f1 := S.out.frozen 10 1 rfl; have f2 := S.out.frozen 10 2 rfl
              go_wp2
              have S1 := Aside0.mk ((((S.out).put 10 0 (u := .slice none 0 0) rfl rfl).put 10 1 (u := .slice none 0 0) rfl rfl).put 10 2 (u := .slice none 0 0) rfl rfl)
              refine bodyPost_ret (results_ct rfl _ _ g4 30 #[.slice none 0 0, .slice none 0 0, .slice none 0 0] (0, 0) _ rfl (S1.out.blk 10 rfl) Try.underlying30 rfl (by kernel_rfl)) rfl ?_
              exact ⟨_, _, _, rfl, Kd.R_nil _ _ _ _ _, Kd.S_nil _ _ _ _ _, Kd.R_nil _ _ _ _ _, S1.out.below⟩
             ·have hov2 := eq_false hov
              rw [if_neg hov] at HN3
              have HN4 := Aside0.mk HN3; have HOV := Aside0.mk hov; have WJ := Aside0.mk (show wrap64 ((j : Int) + 1) = ((j + 1 : Nat) : Int) from nat_next (by have := HCJ.out; have := ENB.out; have := HK.out; omega)); clear HN3 hov
              go_wp2_with (first | ((with_reducible refine gate_dst (N := 145) rfl ?_); refine ev_lit S (Kd.int .i64) (2) rfl rfl (xs := [a]) (inner := [.int .i64 a]) (by first | (go_simp; done) | (go_simp; rfl)) (Reps.one rfl (Reps.none _ _)) (by simp) (fun v145 w_ S1 => ?_); clear S; have S := S1; clear S1; obtain ⟨A145, c145, rfl⟩ := S.out.slice 0 rfl) | ((with_reducible refine gate_dst (N := 146) rfl ?_); refine ev_app S 1 rfl rfl (.tmp 143) (.tmp 145) (27) (.int .i64 0) (8) rfl Try.underlying27 (by kernel_rfl) rfl (by decide) (by omega) rfl rfl (S.out.row 0 rfl).2.2 (fun _ _ h => h) (by have := HJ.out.2.1; have := HCJ.out; have := ENB.out; have := HK.out; simp only [List.length_singleton]; omega) (fun v146 w_ S1 => ?_); clear S; have S := Aside0.mk S1.out.tail; clear S1))
              go_roundg k2
              case measure => omega
              case rel => exact ⟨j + 1, st2, row ++ [a], congrArg (Value.int .i64) WJ.out, ⟨HCJ.out, by rw [List.length_append, HJ.out.2.1]; rfl, HST.out.1, by have := HOV.out; have := HM.out; omega, HST.out.2⟩, HN4, ⟨by have := HK2.out; omega⟩, S⟩
         ·rw [if_neg cj] at H
          simp only [Option.some.injEq, Prod.mk.injEq] at H
          obtain ⟨rfl, rfl, rfl⟩ := H; have hn := HN.out
          rw [if_pos rfl] at hn
          replace hn := Option.bind_eq_some_iff.1 hn; obtain ⟨av1, ha1, hn⟩ := hn; have HA1 := Aside0.mk ha1; have HN5 := Aside0.mk hn; have hcond := eq_false (show ¬ (j : Int) < cnt by have := HBS.out; have := ENB.out; have := HK.out; omega); have HNX := Aside0.mk (And.intro HS.out.2.1 HS.out.2.2.1); have HJ2 := Aside0.mk (And.intro HJ.out.2.2.1 HJ.out.2.2.2); clear ha1 hn cj HN HJ; obtain ⟨Aw, cw, rfl⟩ := S.out.slice 0 rfl; obtain ⟨An, cn, rfl⟩ := S.out.sliceS 2 rfl; obtain ⟨Aa, ca, rfl⟩ := S.out.slice 1 rfl; have z1 := S.out.cell 3 1 rfl rfl
          go_wp2_with (first | ((with_reducible refine gate_dst (N := 150) rfl ?_); refine ev_litM S 0 rfl (Kd.slice 2 (Kd.int .i64)) 27 rfl rfl rfl M_of_R (by first | (go_simp; done) | (go_simp; rfl)) (fun v150 w_ S1 => ?_); clear S; have S := S1; clear S1; obtain ⟨A50, c50, rfl⟩ := S.out.slice 0 rfl; (try clear z1)) | ((with_reducible refine gate_dst (N := 151) rfl ?_); refine ev_appS S 2 0 (by decide) rfl rfl rfl (.tmp 148) (.tmp 150) (28) (.slice none 0 0) (24) rfl Try.underlying28 (by kernel_rfl) rfl (by decide) (by omega) rfl rfl (by have := HNX.out.1; have := HSC.out; have := HS.out.2.2.2.1; omega) (fun v151 w_ S1 => ?_); clear S; have S := Aside0.mk S1.out.tail; clear S1; obtain ⟨NX, eNX⟩ : ∃ q, q = nx ++ [row] := ⟨_, rfl⟩; rw [show nx ++ [row] = NX from eNX.symm] at S; have ENX := Aside0.mk eNX; clear eNX; obtain ⟨A51, c51, rfl⟩ := S.out.sliceS 1 rfl; have z1 := S.out.cell 2 1 rfl rfl; have f1 := S.out.frozen 2 1 rfl) | ((with_reducible refine gate_store (t := 28) (p := 152) rfl ?_); refine ev_run (w1 := ((_ : World)).setCell ⟨g15, 1, none⟩ (.slice A51 NX.length c51)) rfl rfl (by first | (go_simp; done) | (go_simp; rfl)) (fun w_ hw => ?_); have S1 := Aside0.mk ((S.out).put 2 1 (u := .slice A51 NX.length c51) rfl rfl); rw [← hw] at S1; clear hw; clear S; have S := S1; clear S1; clear z1 f1))
          obtain ⟨ad, Ac, cc, e1, hx, hl1, hi1⟩ := at_rowG (S.out.row 3 rfl).2.2 s HJ2.out.1; cases e1
          rw [HJ2.out.2.2.1] at hx hl1
          replace S := Aside0.mk (S.out.noteCell 3 rfl hx); have HCL := Aside0.mk hl1; clear hx hl1 hi1 hcond; have hm0 := eq_true (show (s : Int) < (st2.length : Int) by have := HJ2.out.1; omega); have hm1 := eq_true (show (0 : Int) ≤ (s : Int) by omega)
          go_wp2_with fail
          refine mask_ (n := 12) (fun l v W => (l 0 = true → v 0 = .pointer (some ⟨g15, 2, none⟩)) ∧ (l 1 = true → v 1 = .slice Aa ac.length ca) ∧ (l 2 = true → v 2 = .agg #[.int .i64 a0_0, .slice A0_1 l0_1.length c0_1, .slice A0_2 l0_2.length c0_2]) ∧ (l 3 = true → v 3 = .slice (some ad) st2.length cst2) ∧ (l 4 = true → v 4 = .int .i64 (s : Int)) ∧ (l 5 = true → v 5 = .pointer (some (ad.add s))) ∧ (l 6 = true → v 6 = .slice Ac cur.length cc) ∧ (l 7 = true → v 7 = .int .i64 av1) ∧ (l 10 = true → v 10 = .pointer (some ⟨g15, 2, none⟩)) ∧ Hp w.heap.size w W [cf (l 8) (fR (Kd.int .i64) 2 w.heap.size (v 8) [av1]) fT, cf (l 9) (fR (Kd.int .i64) 2 w.heap.size (v 9) (ac ++ [av1])) (fR (Kd.int .i64) 2 w.heap.size (.slice Aa ac.length ca) ac), fS (Kd.slice 2 (Kd.int .i64)) 27 w.heap.size (.slice A51 NX.length c51) NX, fB w.heap.size g15 #[.slice A9 bl.length c9, .slice A51 NX.length c51, (bif l 11 then v 9 else .slice Aa ac.length ca)] 30, fAnd (fR (Kd.slice 4 Kd.bool) 88 w.heap.size (.slice (some ad) st2.length cst2) st2) (fC ad s (.slice Ac cur.length cc)), fT, fR (Kd.int .u8) 5 w.heap.size (.slice (some ⟨g11, 0, none⟩) nb c11) BS, fR (Kd.int .i64) 2 w.heap.size (.slice A9 bl.length c9) bl, fT, fB w.heap.size g6 #[.slice none 0 0, .slice none 0 0, .slice none 0 0] 30, fB w.heap.size g4 #[.slice none 0 0, .slice none 0 0, .slice none 0 0] 30, fB w.heap.size g2 #[.int .i64 a0_0, .slice A0_1 l0_1.length c0_1, .slice A0_2 l0_2.length c0_2] 36]) [[], [0], [], [], [], [3, 4], [5], [2, 6], [7], [1, 8, 7], [0, 1, 2, 3, 4, 5, 6, 7, 8, 9], [10, 9, 9, 0, 1, 2, 3, 4, 5, 6, 7, 8, 9]] [some 153, some 154, some 155, some 156, some 157, some 158, some 159, some 160, some 161, some 162, some 163, none] 165 (by kernel_rfl) spec_BuildDfa.need43 spec_BuildDfa.dst43 (by decide) rfl ⟨fun h => absurd h (by decide), fun h => absurd h (by decide), fun h => absurd h (by decide), fun h => absurd h (by decide), fun h => absurd h (by decide), fun h => absurd h (by decide), fun h => absurd h (by decide), fun h => absurd h (by decide), fun h => absurd h (by decide), ?_⟩ ⟨?_, ?_, ?_, ?_, ?_, ?_, ?_, ?_, ?_, ?_, ?_, ?_, trivial⟩ (fun v W hJ => ?_)
          ·exact S.out.drew.blank
          ·intro l v W zb hzb hsz hJ hi hn hc K hK
           have HZ := Aside0.mk hzb; clear hzb; obtain ⟨p0, p1, p2, p3, p4, p5, p6, p7, p10, S⟩ := hJ
           have e15 : zb.tmps.getD 15 undef = .pointer (some ⟨g15, 0, none⟩) := by rw [HZ.out, putIf_other _ 0 _ rfl]; rfl
           refine yields_ (N := some 153) (x := .pointer (some ⟨g15, 2, none⟩)) rfl rfl ?_ (hK.out _ _ ⟨fun _ => rfl, p1, p2, p3, p4, p5, p6, p7, p10, S⟩)
           clear hK HZ hn hc p0 p1 p2 p3 p4 p5 p6 p7 p10; (try simp only [Array.getD_eq_getD_getElem?] at *); go_simp; try with_reducible rfl
          ·intro l v W zb hzb hsz hJ hi hn hc K hK
           have HZ := Aside0.mk hzb; clear hzb; obtain ⟨p0, p1, p2, p3, p4, p5, p6, p7, p10, S⟩ := hJ
           have e153 : zb.tmps.getD 153 undef = .pointer (some ⟨g15, 2, none⟩) := by rw [HZ.out, putIf_at (hn 0 (by decide)) _ 0 _ (Nat.zero_le _) rfl rfl (by rw [hsz]; decide)]; exact p0 (hn 0 (by decide))
           have S0 := S
           rw [hc 9 1 (by decide) hi] at S
           rw [hc 11 1 (by decide) hi] at S
           have z := S.cell 3 2 rfl rfl
           refine yields_ (N := some 154) (x := .slice Aa ac.length ca) rfl rfl ?_ (hK.out _ _ ⟨p0, fun _ => rfl, p2, p3, p4, p5, p6, p7, p10, S0⟩)
           clear hK HZ hn hc p0 p1 p2 p3 p4 p5 p6 p7 p10; (try simp only [Array.getD_eq_getD_getElem?] at *); go_simp; try with_reducible rfl
          ·intro l v W zb hzb hsz hJ hi hn hc K hK
           have HZ := Aside0.mk hzb; clear hzb; obtain ⟨p0, p1, p2, p3, p4, p5, p6, p7, p10, S⟩ := hJ
           have e2 : zb.tmps.getD 2 undef = .pointer (some ⟨g2, 0, none⟩) := by rw [HZ.out, putIf_other _ 0 _ rfl]; rfl
           have S0 := S
           rw [hc 11 2 (by decide) hi] at S
           have z0 := S.cell 11 0 rfl rfl; have z1 := S.cell 11 1 rfl rfl; have z2 := S.cell 11 2 rfl rfl
           refine yields_ (N := some 155) (x := .agg #[.int .i64 a0_0, .slice A0_1 l0_1.length c0_1, .slice A0_2 l0_2.length c0_2]) rfl rfl ?_ (hK.out _ _ ⟨p0, p1, fun _ => rfl, p3, p4, p5, p6, p7, p10, S0⟩)
           clear hK HZ hn hc p0 p1 p2 p3 p4 p5 p6 p7 p10; (try simp only [Array.getD_eq_getD_getElem?] at *); go_simp; try with_reducible rfl
          ·intro l v W zb hzb hsz hJ hi hn hc K hK
           have HZ := Aside0.mk hzb; clear hzb; obtain ⟨p0, p1, p2, p3, p4, p5, p6, p7, p10, S⟩ := hJ
           have e14 : zb.tmps.getD 14 undef = .slice (some ad) st2.length cst2 := by rw [HZ.out, putIf_other _ 0 _ rfl]; rfl
           refine yields_ (N := some 156) (x := .slice (some ad) st2.length cst2) rfl rfl ?_ (hK.out _ _ ⟨p0, p1, p2, fun _ => rfl, p4, p5, p6, p7, p10, S⟩)
           clear hK HZ hn hc p0 p1 p2 p3 p4 p5 p6 p7 p10; (try simp only [Array.getD_eq_getD_getElem?] at *); go_simp; try with_reducible rfl
          ·intro l v W zb hzb hsz hJ hi hn hc K hK
           have HZ := Aside0.mk hzb; clear hzb; obtain ⟨p0, p1, p2, p3, p4, p5, p6, p7, p10, S⟩ := hJ
           have e16 : zb.tmps.getD 16 undef = .int .i64 (s : Int) := by rw [HZ.out, putIf_other _ 0 _ rfl]; rfl
           refine yields_ (N := some 157) (x := .int .i64 (s : Int)) rfl rfl ?_ (hK.out _ _ ⟨p0, p1, p2, p3, fun _ => rfl, p5, p6, p7, p10, S⟩)
           clear hK HZ hn hc p0 p1 p2 p3 p4 p5 p6 p7 p10; (try simp only [Array.getD_eq_getD_getElem?] at *); go_simp; try with_reducible rfl
          ·intro l v W zb hzb hsz hJ hi hn hc K hK
           have HZ := Aside0.mk hzb; clear hzb; obtain ⟨p0, p1, p2, p3, p4, p5, p6, p7, p10, S⟩ := hJ
           have e156 : zb.tmps.getD 156 undef = .slice (some ad) st2.length cst2 := by rw [HZ.out, putIf_at (hn 3 (by decide)) _ 0 _ (Nat.zero_le _) rfl rfl (by rw [hsz]; decide)]; exact p3 (hn 3 (by decide))
           have e157 : zb.tmps.getD 157 undef = .int .i64 (s : Int) := by rw [HZ.out, putIf_at (hn 4 (by decide)) _ 0 _ (Nat.zero_le _) rfl rfl (by rw [hsz]; decide)]; exact p4 (hn 4 (by decide))
           refine yields_ (N := some 158) (x := .pointer (some (ad.add s))) rfl rfl ?_ (hK.out _ _ ⟨p0, p1, p2, p3, p4, fun _ => rfl, p6, p7, p10, S⟩)
           clear hK HZ hn hc p0 p1 p2 p3 p4 p5 p6 p7 p10; (try simp only [Array.getD_eq_getD_getElem?] at *); go_simp; try with_reducible rfl
          ·intro l v W zb hzb hsz hJ hi hn hc K hK
           have HZ := Aside0.mk hzb; clear hzb; obtain ⟨p0, p1, p2, p3, p4, p5, p6, p7, p10, S⟩ := hJ
           have e158 : zb.tmps.getD 158 undef = .pointer (some (ad.add s)) := by rw [HZ.out, putIf_at (hn 5 (by decide)) _ 0 _ (Nat.zero_le _) rfl rfl (by rw [hsz]; decide)]; exact p5 (hn 5 (by decide))
           have S0 := S
           rw [hc 11 6 (by decide) hi] at S
           have z := S.theCell 4 rfl
           refine yields_ (N := some 159) (x := .slice Ac cur.length cc) rfl rfl ?_ (hK.out _ _ ⟨p0, p1, p2, p3, p4, p5, fun _ => rfl, p7, p10, S0⟩)
           clear hK HZ hn hc p0 p1 p2 p3 p4 p5 p6 p7 p10; (try simp only [Array.getD_eq_getD_getElem?] at *); go_simp; try with_reducible rfl
          ·intro l v W zb hzb hsz hJ hi hn hc K hK
           have HZ := Aside0.mk hzb; clear hzb; obtain ⟨p0, p1, p2, p3, p4, p5, p6, p7, p10, S⟩ := hJ
           have e155 : zb.tmps.getD 155 undef = .agg #[.int .i64 a0_0, .slice A0_1 l0_1.length c0_1, .slice A0_2 l0_2.length c0_2] := by rw [HZ.out, putIf_at (hn 2 (by decide)) _ 0 _ (Nat.zero_le _) rfl rfl (by rw [hsz]; decide)]; exact p2 (hn 2 (by decide))
           have e159 : zb.tmps.getD 159 undef = .slice Ac cur.length cc := by rw [HZ.out, putIf_at (hn 6 (by decide)) _ 0 _ (Nat.zero_le _) rfl rfl (by rw [hsz]; decide)]; exact p6 (hn 6 (by decide))
           rw [hc 8 7 (by decide) hi] at S
           rw [hc 9 7 (by decide) hi] at S
           rw [hc 11 7 (by decide) hi] at S
           have HCC := S.curRow 4 rfl HJ2.out.1
           rw [HJ2.out.2.2.1] at HCC
           refine goes_ Try.func59 (by kernel_rfl) rfl #[.agg #[.int .i64 a0_0, .slice A0_1 l0_1.length c0_1, .slice A0_2 l0_2.length c0_2], .slice Ac cur.length cc] rfl rfl rfl (by simp only [List.map_toArray, List.map_cons, List.map_nil]; first | done | (show #[zb.tmps.getD 155 undef, zb.tmps.getD 159 undef] = _; simp only [e155, e159])) ?_
           refine (spec_l7Accept.calls k1 a0_0 A0_1 c0_1 l0_1 A0_2 c0_2 l0_2 Ac cc cur av1 W (Kd.C_below HR1.out S.below) HC1.out (Kd.C_below HR2.out S.below) HC2.out HCC HCL.out HA1.out).mono ?_
           rintro e w' ⟨rfl, hb'⟩
           refine ⟨_, rfl, hK.out _ _ ⟨p0, p1, p2, p3, p4, p5, p6, fun _ => rfl, p10, ?_⟩⟩
           rw [show upd l 7 8 = false from hc 8 7 (by decide) hi, show upd l 7 9 = false from hc 9 7 (by decide) hi, show upd l 7 11 = false from hc 11 7 (by decide) hi]
           exact S.go hb'
          ·intro l v W zb hzb hsz hJ hi hn hc K hK
           have HZ := Aside0.mk hzb; clear hzb; obtain ⟨p0, p1, p2, p3, p4, p5, p6, p7, p10, S⟩ := hJ
           have e160 : zb.tmps.getD 160 undef = .int .i64 av1 := by rw [HZ.out, putIf_at (hn 7 (by decide)) _ 0 _ (Nat.zero_le _) rfl rfl (by rw [hsz]; decide)]; exact p7 (hn 7 (by decide))
           rw [hc 9 8 (by decide) hi] at S
           rw [hc 11 8 (by decide) hi] at S
           rw [hi] at S
           refine st_litF S 0 rfl (Kd.int .i64) (2) rfl rfl (xs := [av1]) (inner := [.int .i64 av1]) (by (try simp only [Array.getD_eq_getD_getElem?] at *); first | (go_simp; done) | (go_simp; rfl)) (Reps.one rfl (Reps.none _ _)) (by simp) (fun x w1 S1 => hK.out _ _ ⟨p0, p1, p2, p3, p4, p5, p6, p7, p10, ?_⟩)
           rw [show upd l 8 9 = false from hc 9 8 (by decide) hi, show upd l 8 11 = false from hc 11 8 (by decide) hi]
           exact S1
          ·intro l v W zb hzb hsz hJ hi hn hc K hK
           have HZ := Aside0.mk hzb; clear hzb; obtain ⟨p0, p1, p2, p3, p4, p5, p6, p7, p10, S⟩ := hJ
           have e154 : zb.tmps.getD 154 undef = .slice Aa ac.length ca := by rw [HZ.out, putIf_at (hn 1 (by decide)) _ 0 _ (Nat.zero_le _) rfl rfl (by rw [hsz]; decide)]; exact p1 (hn 1 (by decide))
           have e161 : zb.tmps.getD 161 undef = v 8 := by rw [HZ.out, putIf_at (hn 8 (by decide)) _ 0 _ (Nat.zero_le _) rfl rfl (by rw [hsz]; decide)]
           rw [hc 11 9 (by decide) hi] at S
           rw [hn 8 (by decide)] at S
           rw [hi] at S
           obtain ⟨As, cs, qs, _, hrs⟩ := S.rowC 0 rfl rfl
           rw [qs] at e161
           refine st_app S 1 rfl rfl (.tmp 154) (.tmp 161) (27) (.int .i64 0) (8) rfl Try.underlying27 (by kernel_rfl) rfl (by decide) (by omega) e154 e161 hrs (fun _ _ h => h) (by have := HNX.out.2; have := HS.out; simp only [List.length_singleton]; omega) (fun x w1 S1 => hK.out _ _ ⟨p0, p1, p2, p3, p4, p5, p6, p7, p10, ?_⟩)
           rw [show upd l 9 11 = false from hc 11 9 (by decide) hi, show upd l 9 8 = true from hn 8 (by decide)]
           exact S1
          ·intro l v W zb hzb hsz hJ hi hn hc K hK
           have HZ := Aside0.mk hzb; clear hzb; obtain ⟨p0, p1, p2, p3, p4, p5, p6, p7, p10, S⟩ := hJ
           have e15 : zb.tmps.getD 15 undef = .pointer (some ⟨g15, 0, none⟩) := by rw [HZ.out, putIf_other _ 0 _ rfl]; rfl
           refine yields_ (N := some 163) (x := .pointer (some ⟨g15, 2, none⟩)) rfl rfl ?_ (hK.out _ _ ⟨p0, p1, p2, p3, p4, p5, p6, p7, fun _ => rfl, S⟩)
           clear hK HZ hn hc p0 p1 p2 p3 p4 p5 p6 p7 p10; (try simp only [Array.getD_eq_getD_getElem?] at *); go_simp; try with_reducible rfl
          ·intro l v W zb hzb hsz hJ hi hn hc K hK
           have HZ := Aside0.mk hzb; clear hzb; obtain ⟨p0, p1, p2, p3, p4, p5, p6, p7, p10, S⟩ := hJ
           have e162 : zb.tmps.getD 162 undef = v 9 := by rw [HZ.out, putIf_at (hn 9 (by decide)) _ 0 _ (Nat.zero_le _) rfl rfl (by rw [hsz]; decide)]
           have e163 : zb.tmps.getD 163 undef = .pointer (some ⟨g15, 2, none⟩) := by rw [HZ.out, putIf_at (hn 10 (by decide)) _ 0 _ (Nat.zero_le _) rfl rfl (by rw [hsz]; decide)]; exact p10 (hn 10 (by decide))
           rw [hn 8 (by decide)] at S
           rw [hn 9 (by decide)] at S
           rw [hi] at S
           have hk := hK.out; have zp := S.cell 3 2 rfl rfl; have fp := S.frozen 3 2 rfl; have S1 := S.put 3 2 (u := v 9) rfl rfl; obtain ⟨As, cs, qs⟩ := S.sliceC 1 rfl rfl
           rw [qs] at e162
           refine st_run (w1 := W.setCell _ (v 9)) rfl rfl (by rw [qs]; simp only [Array.getD_eq_getD_getElem?] at *; go_simp; try rfl) ?_
           refine hk undef _ ⟨p0, p1, p2, p3, p4, p5, p6, p7, p10, ?_⟩
           rw [show upd l 11 8 = true from hn 8 (by decide), show upd l 11 9 = true from hn 9 (by decide)]
           exact S1
          clear hm0 hm1; obtain ⟨-, -, -, -, -, -, -, -, -, S⟩ := hJ; replace S := Aside0.mk (((show Hp w.heap.size w W [fR (Kd.int .i64) 2 w.heap.size (v 8) [av1], fR (Kd.int .i64) 2 w.heap.size (v 9) (ac ++ [av1]), fS (Kd.slice 2 (Kd.int .i64)) 27 w.heap.size (.slice A51 NX.length c51) NX, fB w.heap.size g15 #[.slice A9 bl.length c9, .slice A51 NX.length c51, (v 9)] 30, fAnd (fR (Kd.slice 4 Kd.bool) 88 w.heap.size (.slice (some ad) st2.length cst2) st2) (fC ad s (.slice Ac cur.length cc)), fT, fR (Kd.int .u8) 5 w.heap.size (.slice (some ⟨g11, 0, none⟩) nb c11) BS, fR (Kd.int .i64) 2 w.heap.size (.slice A9 bl.length c9) bl, fT, fB w.heap.size g6 #[.slice none 0 0, .slice none 0 0, .slice none 0 0] 30, fB w.heap.size g4 #[.slice none 0 0, .slice none 0 0, .slice none 0 0] 30, fB w.heap.size g2 #[.int .i64 a0_0, .slice A0_1 l0_1.length c0_1, .slice A0_2 l0_2.length c0_2] 36] from S).left 4 rfl).tail); have WS := Aside0.mk (show wrap64 ((s : Int) + 1) = ((s + 1 : Nat) : Int) from nat_next (by have := HSC.out; have := HS.out; omega)); have HN6 := Aside0.mk (show spec_BuildDfa.l0 a0_0 l0_1 l0_2 a1 BS k1 (s + 1) st2 NX (ac ++ [av1]) = some (o1, o2, o3) by rw [ENX.out]; exact HN5.out)
          simp only [putIf, ↓reduceIte, Act.put, List.setIfInBounds_toArray, List.set_cons_succ, List.set_cons_zero]
          go_wp2
          go_roundg k1
          case measure => omega
          case rel => exact ⟨s + 1, st2, NX, ac ++ [av1], _, _, congrArg (Value.int .i64) WS.out, ⟨HJ2.out.1, by rw [ENX.out, List.length_append, HNX.out.1]; rfl, by rw [List.length_append, HNX.out.2]; rfl, HJ2.out.2.1, HJ2.out.2.2.2⟩, HN6, ⟨by have := HK1.out; omega⟩, S⟩
      ·rw [if_neg c] at H
       simp only [Option.some.injEq, Prod.mk.injEq] at H
       obtain ⟨rfl, rfl, rfl⟩ := H; have hr := HRES.out
       rw [if_pos rfl] at hr
       simp only [Option.some.injEq, Prod.mk.injEq] at hr
       obtain ⟨rfl, rfl, rfl, rfl⟩ := hr; have hcond := eq_false (show ¬ (s : Int) < (st.length : Int) by omega); obtain ⟨An, cn, rfl⟩ := S.out.sliceS 1 rfl; obtain ⟨Aa, ca, rfl⟩ := S.out.slice 0 rfl; clear c HRES; have x0 := S.out.cell 2 0 rfl rfl; have x1 := S.out.cell 2 1 rfl rfl; have x2 := S.out.cell 2 2 rfl rfl; have y0 := S.out.cell 9 0 rfl rfl; have y1 := S.out.cell 9 1 rfl rfl; have y2 := S.out.cell 9 2 rfl rfl; have f0 := S.out.frozen 9 0 rfl; have f1 := S.out.frozen 9 1 rfl; have f2 := S.out.frozen 9 2 rfl
       go_wp2
       have S1 := Aside0.mk ((((S.out).put 9 0 (u := .slice A9 bl.length c9) rfl rfl).put 9 1 (u := .slice An nx.length cn) rfl rfl).put 9 2 (u := .slice Aa ac.length ca) rfl rfl)
       refine bodyPost_ret (results_ct rfl _ _ g4 30 #[.slice A9 bl.length c9, .slice An nx.length cn, .slice Aa ac.length ca] (0, 0) _ rfl (S1.out.blk 9 rfl) Try.underlying30 rfl (by kernel_rfl)) rfl ?_
       obtain ⟨hB, cl, hc⟩ := S1.out.cells; have q0 := hc 6 _ rfl; have q1 := hc 1 _ rfl; have q2 := hc 0 _ rfl; have q3 := q1; obtain ⟨f, q3⟩ := q3
       exact ⟨_, _, _, rfl, Kd.R_mono q0 (fun _ hk => ⟨nc_ hk q3.1 (by decide), nc_ hk q2.1 (by decide)⟩), Kd.S_mono q1 (fun _ hk => ⟨nc_ hk q0.1 (by decide), nc_ hk q2.1 (by decide)⟩), Kd.R_mono q2 (fun _ hk => ⟨nc_ hk q0.1 (by decide), nc_ hk q3.1 (by decide)⟩), hB⟩
end

end Go.Proofs.Ytfajfjgkkgigoaa.PFnDead
