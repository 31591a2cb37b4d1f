-- Written by this session's own program (wip/pr.py) over the kit's printer; contracts that the printer does not know are given by hand.
import Derived.Test.YtbijmhooamjgoaaPFnExactPackx0
import Derived.Test.YtbijmhooamjgoaaPFnExactPackx3
import Derived.Test.YtbijmhooamjgoaaPFnExactPackx4
namespace Go.Proofs.Ytbijmhooamjgoaa.PFnExactPack
open Go.RowKit Go.Proofs.YtbijmhooamjgoaaW.PrintWords Go.Proofs.YtbijmhooamjgoaaW.PrintLast Go.Proofs.YtbijmhooamjgoaaW.PrintMore
attribute [local go_sem] max2_int min2_int max_two min_two max_three min_three max_four min_four   -- for this text's walks alone
set_option linter.unusedVariables false
set_option linter.unusedSimpArgs false

/-! ### spec_Pack: function 48 -/
section
open Go.Proofs.Ytbijmhooamjgoaa.Kit
def spec_Pack.l1 : Nat → List Int → List Int → Int → Int → Option Int
  | 0, _, _, _, _ => none
  | k + 1, ck, row, u, b => if b ≤ 1000000000 then (spec_l10Meets.f k ck row u b).bind fun t => if t = true then spec_Pack.l1 k ck row u (b + 1) else some b else none
def spec_Pack.l0 : Nat → List (List Int) → Nat → List Int → List Int → List Int → List Int → Option (List Int × List Int × List Int × List Int × Bool)
  | 0, _, _, _, _, _, _ => none
  | k + 1, x, s, bs, df, ck, vl => if s < x.length then ((spec_l10Default.f k (x.getD s []) (x.length : Int)).bind fun u => ((spec_Pack.l1 k ck (x.getD s []) u 0).bind fun b =>
      if (x.getD s []).length ≤ 1000000 ∧ 0 ≤ b ∧ b ≤ 1000000000 ∧ vl.length = ck.length ∧ ck.length ≤ 2000000000 ∧ bs.length ≤ 1000000000 ∧ df.length ≤ 1000000000 then
        (if (marksI (x.getD s []) u (x.getD s []).length).any (fun m => decide (200000 ≤ b + m)) = true then some ([], [], [], [], false)
         else spec_Pack.l0 k x (s + 1) (bs ++ [b]) (df ++ [u]) (placeM (s : Int) (x.getD s []) b (marksI (x.getD s []) u (x.getD s []).length) (ck, vl)).1 (placeM (s : Int) (x.getD s []) b (marksI (x.getD s []) u (x.getD s []).length) (ck, vl)).2)
      else none))
      else some (bs, df, ck, vl, true)
def spec_Pack.f (k : Nat) (l0_0 : List Int) (l0_1 : List (List Int)) (l0_2 : List Int) : Option (List Int × List Int × List Int × List Int × List Int × List Int × Bool) :=
  (spec_DfaOk.f k l0_0 l0_1 l0_2).bind fun ok => if ok = true then (if l0_0.length ≤ 1000000000 ∧ l0_2.length ≤ 1000000000 then ((spec_Pack.l0 k l0_1 0 [] [] [] []).bind fun q => some (if q.2.2.2.2 = true then (l0_0, q.1, q.2.1, q.2.2.1, q.2.2.2.1, l0_2, true) else ([], [], [], [], [], [], false))) else none) else some ([], [], [], [], [], [], false)
theorem spec_Pack.mono_1 (ck row : List Int) (u : Int) : ∀ k, ∀ b, LeO (spec_Pack.l1 k ck row u b) (spec_Pack.l1 (k + 1) ck row u b)
  | 0 => fun _ r h => by simp [spec_Pack.l1] at h
  | k + 1 => by
    have ih := spec_Pack.mono_1 ck row u k
    intro b
    rw [spec_Pack.l1, spec_Pack.l1]
    exact LeO.ite (LeO.bind (spec_l10Meets.mono _ _ _ _ k) (fun _ => LeO.ite (ih _) (LeO.refl _))) (LeO.refl _)
theorem spec_Pack.mono_l (x : List (List Int)) : ∀ k, ∀ s bs df ck vl, LeO (spec_Pack.l0 k x s bs df ck vl) (spec_Pack.l0 (k + 1) x s bs df ck vl)
  | 0 => fun _ _ _ _ _ r h => by simp [spec_Pack.l0] at h
  | k + 1 => by
    have ih := spec_Pack.mono_l x k
    intro s bs df ck vl
    rw [spec_Pack.l0, spec_Pack.l0]
    exact LeO.ite (LeO.bind (spec_l10Default.mono _ _ k) (fun _ => LeO.bind (spec_Pack.mono_1 _ _ _ k _) (fun _ => LeO.ite (LeO.ite (LeO.refl _) (ih _ _ _ _ _)) (LeO.refl _)))) (LeO.refl _)
theorem spec_Pack.mono : ∀ a0 a1 a2 k, LeO (spec_Pack.f k a0 a1 a2) (spec_Pack.f (k + 1) a0 a1 a2) := by
  intro a0 a1 a2 k
  unfold spec_Pack.f
  exact LeO.bind (spec_DfaOk.mono _ _ _ k) (fun _ => LeO.ite (LeO.ite (LeO.bind (spec_Pack.mono_l _ k _ _ _ _ _) (fun _ => LeO.refl _)) (LeO.refl _)) (LeO.refl _))

theorem spec_Pack.need4 : (rtab .any (opsOf Try.f48 4)).2.map Prod.fst = [[], [], [1], [0, 2], [], [], [5], [4, 6, 3], [3, 7], [], [9, 8, 7, 0, 1, 2, 3, 4, 5, 6, 7, 8, 9]] := by kernel_rfl
theorem spec_Pack.dst4 : (opsOf Try.f48 4).toList.map Oper.dst = [some 16, some 17, some 18, some 19, some 20, some 21, some 22, some 23, some 24, some 5, none] := by kernel_rfl
theorem spec_Pack.need23 : (rtab .any (opsOf Try.f48 23)).2.map Prod.fst = [[], [0], [], [], [2, 3], [], [], [5, 6], [7], [1, 4, 0, 1, 2, 3, 4, 5, 6, 7, 8], [9, 8, 0, 1, 2, 3, 4, 5, 6, 7, 8]] := by kernel_rfl
theorem spec_Pack.dst23 : (opsOf Try.f48 23).toList.map Oper.dst = [some 91, some 92, some 93, some 94, some 95, some 96, some 97, some 98, some 99, some 100, none] := by kernel_rfl
set_option maxHeartbeats 8000000 in
set_option maxRecDepth 100000 in
theorem spec_Pack.calls (k : Nat) (A0_0 : Option Addr) (c0_0 : Nat) (l0_0 : List Int) (A0_1 : Option Addr) (c0_1 : Nat) (l0_1 : List (List Int)) (A0_2 : Option Addr) (c0_2 : Nat) (l0_2 : List Int) (r1 r2 r3 r4 r5 r6 : List Int) (r7 : Bool) (w : World) (hr0_0 : Kd.C (Kd.int .i64) w A0_0 l0_0.length l0_0) (hc0_0 : l0_0.length ≤ c0_0) (hr0_1 : Kd.C (Kd.slice 2 (Kd.int .i64)) w A0_1 l0_1.length l0_1) (hc0_1 : l0_1.length ≤ c0_1) (hr0_2 : Kd.C (Kd.int .i64) w A0_2 l0_2.length l0_2) (hc0_2 : l0_2.length ≤ c0_2) (h : spec_Pack.f k l0_0 l0_1 l0_2 = some (r1, r2, r3, r4, r5, r6, r7)) :
    Calls Try.prog 48 #[.agg #[.slice A0_0 l0_0.length c0_0, .slice A0_1 l0_1.length c0_1, .slice A0_2 l0_2.length c0_2]] w fun e w' => ∃ v0_ v1_ v2_ v3_ v4_ v5_ : Value, e = .returned (.tuple #[.agg #[v0_, v1_, v2_, v3_, v4_, v5_], .bool r7]) ∧ Kd.R (Kd.int .i64) 2 w' w.heap.size (fun k_ => some k_ ≠ (v1_ : Value).ownBlock ∧ some k_ ≠ (v2_ : Value).ownBlock ∧ some k_ ≠ (v3_ : Value).ownBlock ∧ some k_ ≠ (v4_ : Value).ownBlock ∧ some k_ ≠ (v5_ : Value).ownBlock) v0_ r1 ∧ Kd.R (Kd.int .i64) 2 w' w.heap.size (fun k_ => some k_ ≠ (v0_ : Value).ownBlock ∧ some k_ ≠ (v2_ : Value).ownBlock ∧ some k_ ≠ (v3_ : Value).ownBlock ∧ some k_ ≠ (v4_ : Value).ownBlock ∧ some k_ ≠ (v5_ : Value).ownBlock) v1_ r2 ∧ Kd.R (Kd.int .i64) 2 w' w.heap.size (fun k_ => some k_ ≠ (v0_ : Value).ownBlock ∧ some k_ ≠ (v1_ : Value).ownBlock ∧ some k_ ≠ (v3_ : Value).ownBlock ∧ some k_ ≠ (v4_ : Value).ownBlock ∧ some k_ ≠ (v5_ : Value).ownBlock) v2_ r3 ∧ Kd.R (Kd.int .i64) 2 w' w.heap.size (fun k_ => some k_ ≠ (v0_ : Value).ownBlock ∧ some k_ ≠ (v1_ : Value).ownBlock ∧ some k_ ≠ (v2_ : Value).ownBlock ∧ some k_ ≠ (v4_ : Value).ownBlock ∧ some k_ ≠ (v5_ : Value).ownBlock) v3_ r4 ∧ Kd.R (Kd.int .i64) 2 w' w.heap.size (fun k_ => some k_ ≠ (v0_ : Value).ownBlock ∧ some k_ ≠ (v1_ : Value).ownBlock ∧ some k_ ≠ (v2_ : Value).ownBlock ∧ some k_ ≠ (v3_ : Value).ownBlock ∧ some k_ ≠ (v5_ : Value).ownBlock) v4_ r5 ∧ Kd.R (Kd.int .i64) 2 w' w.heap.size (fun k_ => some k_ ≠ (v0_ : Value).ownBlock ∧ some k_ ≠ (v1_ : Value).ownBlock ∧ some k_ ≠ (v2_ : Value).ownBlock ∧ some k_ ≠ (v3_ : Value).ownBlock ∧ some k_ ≠ (v4_ : Value).ownBlock) v5_ r6 ∧ Below w.heap.size w w' := by
  have hu30 := Try.underlying53
  have hu61 := Try.underlying74
  have HR0 := Aside0.mk hr0_0
  have HC0 := Aside0.mk hc0_0
  have HR1 := Aside0.mk hr0_1
  have HC1 := Aside0.mk hc0_1
  have HR2 := Aside0.mk hr0_2
  have HC2 := Aside0.mk hc0_2
  clear hr0_0 hc0_0 hr0_1 hc0_1 hr0_2 hc0_2
  unfold spec_Pack.f at h
  obtain ⟨b, hb, hh⟩ := Option.bind_eq_some_iff.1 h
  have HOK := Aside0.mk hb
  have HH := Aside0.mk hh
  clear hb hh h
  have S := Aside0.mk (Hp.start w)
  go_enter Try.func48, Try.ntmps48
  go_wp2_with (first | ((with_reducible refine gate_dst (N := 1) rfl ?_); refine ev_box S rfl rfl (cs := #[.slice A0_0 l0_0.length c0_0, .slice A0_1 l0_1.length c0_1, .slice A0_2 l0_2.length c0_2]) (t := 53) (by first | (go_simp; done) | (go_simp; rfl)) (fun g1 w_ Gg1 S1 => ?_); clear S; have S := S1; clear S1) | ((with_reducible refine gate_dst (N := 2) rfl ?_); refine ev_box S rfl rfl (cs := #[.slice none 0 0, .slice none 0 0, .slice none 0 0, .slice none 0 0, .slice none 0 0, .slice none 0 0]) (t := 74) (by first | (go_simp; done) | (go_simp; rfl)) (fun g2 w_ Gg2 S1 => ?_); clear S; have S := S1; clear S1) | ((with_reducible refine gate_dst (N := 4) rfl ?_); refine ev_box S rfl rfl (cs := #[.slice none 0 0, .slice none 0 0, .slice none 0 0, .slice none 0 0, .slice none 0 0, .slice none 0 0]) (t := 74) (by first | (go_simp; done) | (go_simp; rfl)) (fun g4 w_ Gg4 S1 => ?_); clear S; have S := S1; clear S1; have z0 := S.out.cell 0 0 rfl rfl; have z1 := S.out.cell 0 1 rfl rfl; have z2 := S.out.cell 0 2 rfl rfl; have z3 := S.out.cell 0 3 rfl rfl; have z4 := S.out.cell 0 4 rfl rfl; have z5 := S.out.cell 0 5 rfl rfl; have f0 := S.out.frozen 0 0 rfl; have f1 := S.out.frozen 0 1 rfl; have f2 := S.out.frozen 0 2 rfl; have f3 := S.out.frozen 0 3 rfl; have f4 := S.out.frozen 0 4 rfl; have f5 := S.out.frozen 0 5 rfl) | ((with_reducible refine gate_store (t := 74) (p := 4) rfl ?_); refine ev_run (w1 := (((((((_ : World)).setCell ⟨g4, 0, none⟩ (.slice none 0 0)).setCell ⟨g4, 1, none⟩ (.slice none 0 0)).setCell ⟨g4, 2, none⟩ (.slice none 0 0)).setCell ⟨g4, 3, none⟩ (.slice none 0 0)).setCell ⟨g4, 4, none⟩ (.slice none 0 0)).setCell ⟨g4, 5, none⟩ (.slice none 0 0)) rfl rfl (by first | (go_simp; done) | (go_simp; rfl)) (fun w_ hw => ?_); have S1 := Aside0.mk (((((((S.out).put 0 0 (u := .slice none 0 0) rfl rfl).put 0 1 (u := .slice none 0 0) rfl rfl).put 0 2 (u := .slice none 0 0) rfl rfl).put 0 3 (u := .slice none 0 0) rfl rfl).put 0 4 (u := .slice none 0 0) rfl rfl).put 0 5 (u := .slice none 0 0) rfl rfl); rw [← hw] at S1; clear hw; clear S; have S := S1; clear S1; (try clear z0 z1 z2 z3 z4 z5 f0 f1 f2 f3 f4 f5); have z0 := S.out.cell 2 0 rfl rfl; have z1 := S.out.cell 2 1 rfl rfl; have z2 := S.out.cell 2 2 rfl rfl))
  refine (spec_DfaOk.calls k A0_0 c0_0 l0_0 A0_1 c0_1 l0_1 A0_2 c0_2 l0_2 b _ (Kd.C_below HR0.out S.out.below) HC0.out (Kd.C_below HR1.out S.out.below) HC1.out (Kd.C_below HR2.out S.out.below) HC2.out HOK.out).mono ?_
  rintro e w1 ⟨rfl, hb⟩
  replace S := Aside0.mk (S.out.go hb)
  clear hb z0 z1 z2
  cases b with
  | false =>
    have hr := HH.out
    rw [if_neg (by decide)] at hr
    simp only [Option.some.injEq, Prod.mk.injEq] at hr
    obtain ⟨rfl, rfl, rfl, rfl, rfl, rfl, rfl⟩ := hr
    clear HH
    have z0 := S.out.cell 0 0 rfl rfl
    have z1 := S.out.cell 0 1 rfl rfl
    have z2 := S.out.cell 0 2 rfl rfl
    have z3 := S.out.cell 0 3 rfl rfl
    have z4 := S.out.cell 0 4 rfl rfl
    have z5 := S.out.cell 0 5 rfl rfl
    have y0 := S.out.cell 1 0 rfl rfl
    have y1 := S.out.cell 1 1 rfl rfl
    have y2 := S.out.cell 1 2 rfl rfl
    have y3 := S.out.cell 1 3 rfl rfl
    have y4 := S.out.cell 1 4 rfl rfl
    have y5 := S.out.cell 1 5 rfl rfl
    have f0 := S.out.frozen 1 0 rfl
    have f1 := S.out.frozen 1 1 rfl
    have f2 := S.out.frozen 1 2 rfl
    have f3 := S.out.frozen 1 3 rfl
    have f4 := S.out.frozen 1 4 rfl
    have f5 := S.out.frozen 1 5 rfl
    go_wp2
    have S1 := Aside0.mk (((((((S.out).put 1 0 (u := .slice none 0 0) rfl rfl).put 1 1 (u := .slice none 0 0) rfl rfl).put 1 2 (u := .slice none 0 0) rfl rfl).put 1 3 (u := .slice none 0 0) rfl rfl).put 1 4 (u := .slice none 0 0) rfl rfl).put 1 5 (u := .slice none 0 0) rfl rfl)
    refine bodyPost_ret (results_ct rfl _ _ g2 74 #[.slice none 0 0, .slice none 0 0, .slice none 0 0, .slice none 0 0, .slice none 0 0, .slice none 0 0] (0, 0) _ rfl (S1.out.blk 1 rfl) Try.underlying74 rfl (by kernel_rfl)) rfl ?_
    exact ⟨_, _, _, _, _, _, rfl, Kd.R_nil _ _ _ _ _, Kd.R_nil _ _ _ _ _, Kd.R_nil _ _ _ _ _, Kd.R_nil _ _ _ _ _, Kd.R_nil _ _ _ _ _, Kd.R_nil _ _ _ _ _, S1.out.below⟩
  | true =>
    have hr := HH.out
    rw [if_pos rfl] at hr
    by_cases hgl : l0_0.length ≤ 1000000000 ∧ l0_2.length ≤ 1000000000
    case neg => rw [if_neg hgl] at hr; cases hr
    rw [if_pos hgl] at hr
    replace hr := Option.bind_eq_some_iff.1 hr
    obtain ⟨⟨o1, o2, o3, o4, o5⟩, hl, hr⟩ := hr
    have HGL := Aside0.mk hgl
    have HL := Aside0.mk hl
    have HRES := Aside0.mk hr
    clear HH hr hl hgl
    go_wp2_with fail
    refine mask_ (n := 11) (fun l v W => (l 1 = true → v 1 = .pointer (some ⟨g1, 0, none⟩)) ∧ (l 2 = true → v 2 = .slice A0_0 l0_0.length c0_0) ∧ (l 5 = true → v 5 = .pointer (some ⟨g1, 2, none⟩)) ∧ (l 6 = true → v 6 = .slice A0_2 l0_2.length c0_2) ∧ (l 8 = true → v 8 = .agg #[v 3, .slice none 0 0, .slice none 0 0, .slice none 0 0, .slice none 0 0, v 7]) ∧ Hp w.heap.size w W [cf (l 9) (fV w.heap.size (v 9) (bif l 10 then #[v 3, .slice none 0 0, .slice none 0 0, .slice none 0 0, .slice none 0 0, v 7] else #[.slice none 0 0, .slice none 0 0, .slice none 0 0, .slice none 0 0, .slice none 0 0, .slice none 0 0]) 74) fT, cf (l 7) (fR (Kd.int .i64) 2 w.heap.size (v 7) l0_2) (cf (l 4) (fR (Kd.int .i64) 2 w.heap.size (v 4) ([] : List Int)) fT), cf (l 3) (fR (Kd.int .i64) 2 w.heap.size (v 3) l0_0) (cf (l 0) (fR (Kd.int .i64) 2 w.heap.size (v 0) ([] : List Int)) fT), fB w.heap.size g4 #[.slice none 0 0, .slice none 0 0, .slice none 0 0, .slice none 0 0, .slice none 0 0, .slice none 0 0] 74, fB w.heap.size g2 #[.slice none 0 0, .slice none 0 0, .slice none 0 0, .slice none 0 0, .slice none 0 0, .slice none 0 0] 74, fB w.heap.size g1 #[.slice A0_0 l0_0.length c0_0, .slice A0_1 l0_1.length c0_1, .slice A0_2 l0_2.length c0_2] 53]) [[], [], [1], [0, 2], [], [], [5], [4, 6, 3], [3, 7], [], [9, 8, 7, 0, 1, 2, 3, 4, 5, 6, 7, 8, 9]] [some 16, some 17, some 18, some 19, some 20, some 21, some 22, some 23, some 24, some 5, none] 114 (by kernel_rfl) spec_Pack.need4 spec_Pack.dst4 (by decide) rfl ⟨fun h => absurd h (by decide), fun h => absurd h (by decide), fun h => absurd h (by decide), fun h => absurd h (by decide), fun h => absurd h (by decide), ?_⟩ ⟨?_, ?_, ?_, ?_, ?_, ?_, ?_, ?_, ?_, ?_, ?_, trivial⟩ (fun v W hJ => ?_)
    · exact S.out.drew.blank.blank.blank
    · intro l v W zb hzb hsz hJ hi hn hc K hK
      have HZ := Aside0.mk hzb; clear hzb
      obtain ⟨p1, p2, p5, p6, p8, S⟩ := hJ
      rw [hc 3 0 (by decide) hi] at S
      rw [hc 10 0 (by decide) hi] at S
      rw [hi] at S
      refine st_litF S 2 rfl (Kd.int .i64) (2) rfl rfl (xs := ([] : List Int)) (inner := []) (by (try simp only [Array.getD_eq_getD_getElem?] at *); first | (go_simp; done) | (go_simp; rfl)) (Reps.none _ _) (by simp) (fun x w1 S1 => hK.out _ _ ⟨p1, p2, p5, p6, p8, ?_⟩)
      rw [show upd l 0 3 = false from hc 3 0 (by decide) hi, show upd l 0 10 = false from hc 10 0 (by decide) hi]
      exact S1
    · intro l v W zb hzb hsz hJ hi hn hc K hK
      have HZ := Aside0.mk hzb; clear hzb
      obtain ⟨p1, p2, p5, p6, p8, S⟩ := hJ
      have e1 : zb.tmps.getD 1 undef = .pointer (some ⟨g1, 0, none⟩) := by rw [HZ.out, putIf_other _ 0 _ rfl]; rfl
      refine yields_ (N := some 17) (x := .pointer (some ⟨g1, 0, none⟩)) rfl rfl ?_ (hK.out _ _ ⟨fun _ => rfl, p2, p5, p6, p8, S⟩)
      clear hK HZ hn hc p1 p2 p5 p6 p8; (try simp only [Array.getD_eq_getD_getElem?] at *); go_simp; try with_reducible rfl
    · intro l v W zb hzb hsz hJ hi hn hc K hK
      have HZ := Aside0.mk hzb; clear hzb
      obtain ⟨p1, p2, p5, p6, p8, S⟩ := hJ
      have e17 : zb.tmps.getD 17 undef = .pointer (some ⟨g1, 0, none⟩) := by rw [HZ.out, putIf_at (hn 1 (by decide)) _ 0 _ (Nat.zero_le _) rfl rfl (by rw [hsz]; decide)]; exact p1 (hn 1 (by decide))
      have S0 := S
      rw [hc 3 2 (by decide) hi] at S
      rw [hc 10 2 (by decide) hi] at S
      have z := S.cell 5 0 rfl rfl
      refine yields_ (N := some 18) (x := .slice A0_0 l0_0.length c0_0) rfl rfl ?_ (hK.out _ _ ⟨p1, fun _ => rfl, p5, p6, p8, S0⟩)
      clear hK HZ hn hc p1 p2 p5 p6 p8; (try simp only [Array.getD_eq_getD_getElem?] at *); go_simp; try with_reducible rfl
    · intro l v W zb hzb hsz hJ hi hn hc K hK
      have HZ := Aside0.mk hzb; clear hzb
      obtain ⟨p1, p2, p5, p6, p8, S⟩ := hJ
      have e16 : zb.tmps.getD 16 undef = v 0 := by rw [HZ.out, putIf_at (hn 0 (by decide)) _ 0 _ (Nat.zero_le _) rfl rfl (by rw [hsz]; decide)]
      have e18 : zb.tmps.getD 18 undef = .slice A0_0 l0_0.length c0_0 := by rw [HZ.out, putIf_at (hn 2 (by decide)) _ 0 _ (Nat.zero_le _) rfl rfl (by rw [hsz]; decide)]; exact p2 (hn 2 (by decide))
      rw [hc 7 3 (by decide) hi] at S
      rw [hc 10 3 (by decide) hi] at S
      rw [hn 0 (by decide)] at S
      rw [hi] at S
      obtain ⟨At, ct, qt⟩ := S.slice 2 rfl
      rw [qt] at S e16
      refine st_app S 2 rfl rfl (.tmp 16) (.tmp 18) (29) (.int .i64 0) (8) rfl Try.underlying29 info2 rfl (by decide) (by omega) e16 e18 (Kd.C_below HR0.out S.below) (fun _ _ h => h) (by have := HGL.out; simp only [List.length_nil]; omega) (fun x w1 S1 => hK.out _ _ ⟨p1, p2, p5, p6, no_ (hc 8 3 (by decide) hi), ?_⟩)
      rw [show upd l 3 7 = false from hc 7 3 (by decide) hi, show upd l 3 10 = false from hc 10 3 (by decide) hi, show upd l 3 0 = true from hn 0 (by decide)]
      exact S1
    · intro l v W zb hzb hsz hJ hi hn hc K hK
      have HZ := Aside0.mk hzb; clear hzb
      obtain ⟨p1, p2, p5, p6, p8, S⟩ := hJ
      rw [hc 7 4 (by decide) hi] at S
      rw [hc 10 4 (by decide) hi] at S
      rw [hi] at S
      refine st_litF S 1 rfl (Kd.int .i64) (2) rfl rfl (xs := ([] : List Int)) (inner := []) (by (try simp only [Array.getD_eq_getD_getElem?] at *); first | (go_simp; done) | (go_simp; rfl)) (Reps.none _ _) (by simp) (fun x w1 S1 => hK.out _ _ ⟨p1, p2, p5, p6, p8, ?_⟩)
      rw [show upd l 4 7 = false from hc 7 4 (by decide) hi, show upd l 4 10 = false from hc 10 4 (by decide) hi]
      exact S1
    · intro l v W zb hzb hsz hJ hi hn hc K hK
      have HZ := Aside0.mk hzb; clear hzb
      obtain ⟨p1, p2, p5, p6, p8, S⟩ := hJ
      have e1 : zb.tmps.getD 1 undef = .pointer (some ⟨g1, 0, none⟩) := by rw [HZ.out, putIf_other _ 0 _ rfl]; rfl
      refine yields_ (N := some 21) (x := .pointer (some ⟨g1, 2, none⟩)) rfl rfl ?_ (hK.out _ _ ⟨p1, p2, fun _ => rfl, p6, p8, S⟩)
      clear hK HZ hn hc p1 p2 p5 p6 p8; (try simp only [Array.getD_eq_getD_getElem?] at *); go_simp; try with_reducible rfl
    · intro l v W zb hzb hsz hJ hi hn hc K hK
      have HZ := Aside0.mk hzb; clear hzb
      obtain ⟨p1, p2, p5, p6, p8, S⟩ := hJ
      have e21 : zb.tmps.getD 21 undef = .pointer (some ⟨g1, 2, none⟩) := by rw [HZ.out, putIf_at (hn 5 (by decide)) _ 0 _ (Nat.zero_le _) rfl rfl (by rw [hsz]; decide)]; exact p5 (hn 5 (by decide))
      have S0 := S
      rw [hc 7 6 (by decide) hi] at S
      rw [hc 10 6 (by decide) hi] at S
      have z := S.cell 5 2 rfl rfl
      refine yields_ (N := some 22) (x := .slice A0_2 l0_2.length c0_2) rfl rfl ?_ (hK.out _ _ ⟨p1, p2, p5, fun _ => rfl, p8, S0⟩)
      clear hK HZ hn hc p1 p2 p5 p6 p8; (try simp only [Array.getD_eq_getD_getElem?] at *); go_simp; try with_reducible rfl
    · intro l v W zb hzb hsz hJ hi hn hc K hK
      have HZ := Aside0.mk hzb; clear hzb
      obtain ⟨p1, p2, p5, p6, p8, S⟩ := hJ
      have e20 : zb.tmps.getD 20 undef = v 4 := by rw [HZ.out, putIf_at (hn 4 (by decide)) _ 0 _ (Nat.zero_le _) rfl rfl (by rw [hsz]; decide)]
      have e22 : zb.tmps.getD 22 undef = .slice A0_2 l0_2.length c0_2 := by rw [HZ.out, putIf_at (hn 6 (by decide)) _ 0 _ (Nat.zero_le _) rfl rfl (by rw [hsz]; decide)]; exact p6 (hn 6 (by decide))
      rw [hc 10 7 (by decide) hi] at S
      rw [hn 3 (by decide)] at S
      rw [hn 4 (by decide)] at S
      rw [hi] at S
      obtain ⟨At, ct, qt⟩ := S.slice 1 rfl
      rw [qt] at S e20
      refine st_app S 1 rfl rfl (.tmp 20) (.tmp 22) (29) (.int .i64 0) (8) rfl Try.underlying29 info2 rfl (by decide) (by omega) e20 e22 (Kd.C_below HR2.out S.below) (fun _ _ h => h) (by have := HGL.out; simp only [List.length_nil]; omega) (fun x w1 S1 => hK.out _ _ ⟨p1, p2, p5, p6, no_ (hc 8 7 (by decide) hi), ?_⟩)
      rw [show upd l 7 10 = false from hc 10 7 (by decide) hi, show upd l 7 3 = true from hn 3 (by decide), show upd l 7 4 = true from hn 4 (by decide)]
      exact S1
    · intro l v W zb hzb hsz hJ hi hn hc K hK
      have HZ := Aside0.mk hzb; clear hzb
      obtain ⟨p1, p2, p5, p6, p8, S⟩ := hJ
      have e19 : zb.tmps.getD 19 undef = v 3 := by rw [HZ.out, putIf_at (hn 3 (by decide)) _ 0 _ (Nat.zero_le _) rfl rfl (by rw [hsz]; decide)]
      have e23 : zb.tmps.getD 23 undef = v 7 := by rw [HZ.out, putIf_at (hn 7 (by decide)) _ 0 _ (Nat.zero_le _) rfl rfl (by rw [hsz]; decide)]
      have S0 := S
      rw [hc 10 8 (by decide) hi] at S
      rw [hn 3 (by decide)] at S
      rw [hn 7 (by decide)] at S
      obtain ⟨A2, c2, q2⟩ := S.sliceC 2 rfl rfl
      obtain ⟨A5, c5, q5⟩ := S.sliceC 1 rfl rfl
      refine yields_ (N := some 24) (x := .agg #[v 3, .slice none 0 0, .slice none 0 0, .slice none 0 0, .slice none 0 0, v 7]) rfl rfl ?_ (hK.out _ _ ⟨p1, p2, p5, p6, fun _ => rfl, S0⟩)
      rw [q2] at e19
      rw [q5] at e23
      rw [q2, q5]
      clear hK HZ hn hc p1 p2 p5 p6 p8; (try simp only [Array.getD_eq_getD_getElem?] at *); go_simp; try with_reducible rfl
    · intro l v W zb hzb hsz hJ hi hn hc K hK
      have HZ := Aside0.mk hzb; clear hzb
      obtain ⟨p1, p2, p5, p6, p8, S⟩ := hJ
      rw [hc 10 9 (by decide) hi] at S
      rw [hi] at S
      refine st_boxV S 0 rfl rfl rfl (by go_simp; rfl) (fun x w1 S1 => hK.out _ _ ⟨p1, p2, p5, p6, p8, ?_⟩)
      rw [show upd l 9 10 = false from hc 10 9 (by decide) hi]
      exact S1
    · intro l v W zb hzb hsz hJ hi hn hc K hK
      have HZ := Aside0.mk hzb; clear hzb
      obtain ⟨p1, p2, p5, p6, p8, S⟩ := hJ
      have e5 : zb.tmps.getD 5 undef = v 9 := by rw [HZ.out, putIf_at (hn 9 (by decide)) _ 0 _ (Nat.zero_le _) rfl rfl (by rw [hsz]; decide)]
      have e24 : zb.tmps.getD 24 undef = .agg #[v 3, .slice none 0 0, .slice none 0 0, .slice none 0 0, .slice none 0 0, v 7] := by rw [HZ.out, putIf_at (hn 8 (by decide)) _ 0 _ (Nat.zero_le _) rfl rfl (by rw [hsz]; decide)]; exact p8 (hn 8 (by decide))
      rw [hn 0 (by decide)] at S
      rw [hn 3 (by decide)] at S
      rw [hn 4 (by decide)] at S
      rw [hn 7 (by decide)] at S
      rw [hn 9 (by decide)] at S
      rw [hi] at S
      obtain ⟨A2, c2, q2⟩ := S.sliceC 2 rfl rfl
      obtain ⟨A5, c5, q5⟩ := S.sliceC 1 rfl rfl
      rw [q2, q5] at S
      obtain ⟨g, eg, S1⟩ := S.varC 0 rfl rfl
      have z0 := S1.cell 0 0 rfl rfl
      have z1 := S1.cell 0 1 rfl rfl
      have z2 := S1.cell 0 2 rfl rfl
      have z3 := S1.cell 0 3 rfl rfl
      have z4 := S1.cell 0 4 rfl rfl
      have z5 := S1.cell 0 5 rfl rfl
      have f0 := S1.frozen 0 0 rfl
      have f1 := S1.frozen 0 1 rfl
      have f2 := S1.frozen 0 2 rfl
      have f3 := S1.frozen 0 3 rfl
      have f4 := S1.frozen 0 4 rfl
      have f5 := S1.frozen 0 5 rfl
      rw [eg] at e5
      rw [q2, q5] at e24
      have hk := hK.out
      have h0 := hn 0 (by decide)
      have h3 := hn 3 (by decide)
      have h4 := hn 4 (by decide)
      have h7 := hn 7 (by decide)
      have h9 := hn 9 (by decide)
      clear HZ hK hn hc
      simp only [Array.getD_eq_getD_getElem?] at e5 e24
      refine st_run (w1 := ?_) rfl rfl (by go_simp; rfl) ?_
      refine hk undef _ ⟨p1, p2, p5, p6, p8, ?_⟩
      rw [show upd l 10 0 = true from h0, show upd l 10 3 = true from h3, show upd l 10 4 = true from h4, show upd l 10 7 = true from h7, show upd l 10 9 = true from h9, show updv v 10 undef 3 = _ from q2, show updv v 10 undef 7 = _ from q5, show updv v 10 undef 9 = _ from eg]
      exact (((((((S1).put 0 0 (u := .slice A2 l0_0.length c2) rfl rfl).put 0 1 (u := .slice none 0 0) rfl rfl).put 0 2 (u := .slice none 0 0) rfl rfl).put 0 3 (u := .slice none 0 0) rfl rfl).put 0 4 (u := .slice none 0 0) rfl rfl).put 0 5 (u := .slice A5 l0_2.length c5) rfl rfl).varB 0 rfl
    clear S
    obtain ⟨-, -, -, -, -, S⟩ := hJ
    obtain ⟨A2, c2, q2⟩ := S.sliceC 2 rfl rfl
    obtain ⟨A5, c5, q5⟩ := S.sliceC 1 rfl rfl
    rw [q2, q5] at S
    obtain ⟨g5, q7, S1⟩ := S.varC 0 rfl rfl
    replace S := Aside0.mk (((((show Hp w.heap.size w W [fB w.heap.size g5 #[(.slice A2 l0_0.length c2), .slice none 0 0, .slice none 0 0, .slice none 0 0, .slice none 0 0, (.slice A5 l0_2.length c5)] 74, fR (Kd.int .i64) 2 w.heap.size (.slice A5 l0_2.length c5) l0_2, fR (Kd.int .i64) 2 w.heap.size (.slice A2 l0_0.length c2) l0_0, fB w.heap.size g4 #[.slice none 0 0, .slice none 0 0, .slice none 0 0, .slice none 0 0, .slice none 0 0, .slice none 0 0] 74, fB w.heap.size g2 #[.slice none 0 0, .slice none 0 0, .slice none 0 0, .slice none 0 0, .slice none 0 0, .slice none 0 0] 74, fB w.heap.size g1 #[.slice A0_0 l0_0.length c0_0, .slice A0_1 l0_1.length c0_1, .slice A0_2 l0_2.length c0_2] 53] from S1).none_ (Kd.int .i64) 2).none_ (Kd.int .i64) 2).none_ (Kd.int .i64) 2).none_ (Kd.int .i64) 2)
    clear S1
    simp only [putIf, ↓reduceIte, Act.put, List.setIfInBounds_toArray, List.set_cons_succ, List.set_cons_zero]
    rw [q7]
    go_wp2
    go_loopg [6] k (fun gk v6 wr => ∃ (s : Nat) (bs df ck vl : List Int) (u1 u2 u3 u4 : Value), v6 = .int .i64 s ∧ s ≤ l0_1.length ∧ Aside0 (spec_Pack.l0 gk l0_1 s bs df ck vl = some (o1, o2, o3, o4, o5)) ∧ Aside0 (gk ≤ k) ∧ Aside0 (Hp w.heap.size w wr [fR (Kd.int .i64) 2 w.heap.size u4 vl, fR (Kd.int .i64) 2 w.heap.size u3 ck, fR (Kd.int .i64) 2 w.heap.size u2 df, fR (Kd.int .i64) 2 w.heap.size u1 bs, fB w.heap.size g5 #[(.slice A2 l0_0.length c2), u1, u2, u3, u4, (.slice A5 l0_2.length c5)] 74, fR (Kd.int .i64) 2 w.heap.size (.slice A5 l0_2.length c5) l0_2, fR (Kd.int .i64) 2 w.heap.size (.slice A2 l0_0.length c2) l0_0, fB w.heap.size g4 #[.slice none 0 0, .slice none 0 0, .slice none 0 0, .slice none 0 0, .slice none 0 0, .slice none 0 0] 74, fB w.heap.size g2 #[.slice none 0 0, .slice none 0 0, .slice none 0 0, .slice none 0 0, .slice none 0 0, .slice none 0 0] 74, fB w.heap.size g1 #[.slice A0_0 l0_0.length c0_0, .slice A0_1 l0_1.length c0_1, .slice A0_2 l0_2.length c0_2] 53]))
    case atStart => exact ⟨0, [], [], [], [], _, _, _, _, rfl, Nat.zero_le _, HL, ⟨Nat.le_refl _⟩, S⟩
    case round =>
      clear S HL q2 q5 q7
      obtain ⟨s, bs, df, ck, vl, u1, u2, u3, u4, rfl, hs, HA, HK, S⟩ := hrel
      cases gk with
      | zero => exact absurd HA.out (by simp [spec_Pack.l0])
      | succ k1 =>
        have H := HA.out
        rw [spec_Pack.l0] at H
        have zp := S.out.cell 9 1 rfl rfl
        have HLN := Aside0.mk HR1.out.2.1
        by_cases c : s < l0_1.length
        · rw [if_pos c] at H
          replace H := Option.bind_eq_some_iff.1 H
          obtain ⟨u, hu, H⟩ := H
          replace H := Option.bind_eq_some_iff.1 H
          obtain ⟨b, hb, H⟩ := H
          by_cases hg : (l0_1.getD s []).length ≤ 1000000 ∧ 0 ≤ b ∧ b ≤ 1000000000 ∧ vl.length = ck.length ∧ ck.length ≤ 2000000000 ∧ bs.length ≤ 1000000000 ∧ df.length ≤ 1000000000
          case neg => rw [if_neg hg] at H; cases H
          rw [if_pos hg] at H
          obtain ⟨ad, A1, c1, e1, hx, hl1, hi1⟩ := at_rowI HR1.out s c
          cases e1
          replace hx := (S.out.below.cell (World.block_lt_of_cell? w _ hx)).trans hx
          have hcond := eq_true (show (s : Int) < (l0_1.length : Int) by omega)
          have hcond0 := eq_true (show (0 : Int) ≤ (s : Int) by omega)
          have HU := Aside0.mk hu
          have HBF := Aside0.mk hb
          have HG := Aside0.mk hg
          have HN := Aside0.mk H
          have HROW := Aside0.mk hi1
          have HRC := Aside0.mk hl1
          have HS := Aside0.mk c
          generalize hrow : l0_1.getD s [] = row at *
          clear hu hb hg hi1 hl1 c hs H HA
          go_wp2_with fail
          refine (spec_l10Default.calls k1 A1 c1 row (l0_1.length : Int) u _ (Kd.C_below HROW.out S.out.below) HRC.out HU.out).mono ?_
          rintro e w2 ⟨rfl, hb⟩
          replace S := Aside0.mk (S.out.go hb)
          clear hb hx hcond hcond0 zp
          go_wp2
          obtain ⟨hb1, hb2, hb3, hb4, hb5, hb6, hb7⟩ := HG.out
          go_loopg [9] k1 (fun gk v9 wr => ∃ bb : Int, v9 = .int .i64 bb ∧ 0 ≤ bb ∧ Aside0 (spec_Pack.l1 gk ck row u bb = some b) ∧ Aside0 (gk ≤ k1) ∧ Aside0 (Hp w.heap.size w wr [fR (Kd.int .i64) 2 w.heap.size u4 vl, fR (Kd.int .i64) 2 w.heap.size u3 ck, fR (Kd.int .i64) 2 w.heap.size u2 df, fR (Kd.int .i64) 2 w.heap.size u1 bs, fB w.heap.size g5 #[(.slice A2 l0_0.length c2), u1, u2, u3, u4, (.slice A5 l0_2.length c5)] 74, fR (Kd.int .i64) 2 w.heap.size (.slice A5 l0_2.length c5) l0_2, fR (Kd.int .i64) 2 w.heap.size (.slice A2 l0_0.length c2) l0_0, fB w.heap.size g4 #[.slice none 0 0, .slice none 0 0, .slice none 0 0, .slice none 0 0, .slice none 0 0, .slice none 0 0] 74, fB w.heap.size g2 #[.slice none 0 0, .slice none 0 0, .slice none 0 0, .slice none 0 0, .slice none 0 0, .slice none 0 0] 74, fB w.heap.size g1 #[.slice A0_0 l0_0.length c0_0, .slice (some ad) l0_1.length c0_1, .slice A0_2 l0_2.length c0_2] 53]))
          case atStart => exact ⟨0, rfl, Int.le_refl _, HBF, ⟨Nat.le_refl _⟩, S⟩
          case round =>
            clear S HBF
            obtain ⟨bb, rfl, hbb, HA, HK2, S⟩ := hrel
            cases gk with
            | zero => exact absurd HA.out (by simp [spec_Pack.l1])
            | succ k2 =>
              have H := HA.out
              rw [spec_Pack.l1] at H
              by_cases cb : bb ≤ 1000000000
              case neg => rw [if_neg cb] at H; cases H
              rw [if_pos cb] at H
              replace H := Option.bind_eq_some_iff.1 H
              obtain ⟨t, ht, H⟩ := H
              have HT := Aside0.mk ht
              have HN1 := Aside0.mk H
              have HBB := Aside0.mk (And.intro hbb cb)
              obtain ⟨Ak, ckc, rfl⟩ := S.out.slice 1 rfl
              have z3 := S.out.cell 4 3 rfl rfl
              have CK := Aside0.mk (S.out.row 1 rfl)
              clear ht H hbb cb HA hb1 hb2 hb3 hb4 hb5 hb6 hb7
              go_wp2_with fail
              refine (spec_l10Meets.calls k2 Ak ckc ck A1 c1 row u bb t _ CK.out.2.2 CK.out.2.1 (Kd.C_below HROW.out S.out.below) HRC.out HT.out).mono ?_
              rintro e w3 ⟨rfl, ⟨nd, rfl⟩⟩
              replace S := Aside0.mk (S.out.drewN nd)
              generalize wr.drewN nd = w3 at S ⊢
              clear z3 CK
              cases t with
              | true =>
                have hn := HN1.out
                rw [if_pos rfl] at hn
                have HN2 := Aside0.mk hn
                have WB := Aside0.mk (show wrap64 (bb + 1) = bb + 1 from w64 (by have := HBB.out; omega) (by have := HBB.out; omega))
                clear hn HN1
                go_wp2
                go_roundg k2
                case measure => omega
                case rel => exact ⟨bb + 1, congrArg (Value.int .i64) WB.out, by have := HBB.out; omega, HN2, ⟨by have := HK2.out; omega⟩, S⟩
              | false =>
                have hn := HN1.out
                rw [if_neg (by decide)] at hn
                obtain rfl := Option.some.inj hn
                clear hn HN1
                go_wp2
                go_loopg [10] row.length (fun gk v10 wr => ∃ (i : Nat) (u3 u4 : Value) (ck' vl' : List Int), v10 = .int .i64 (i : Int) ∧ i + gk = row.length ∧ Aside0 (placeM (s : Int) row bb (marksI row u i) (ck, vl) = (ck', vl')) ∧ Aside0 (∀ m ∈ marksI row u i, bb + m < 200000) ∧ Aside0 (Hp w.heap.size w wr [fR (Kd.int .i64) 2 w.heap.size u4 vl', fR (Kd.int .i64) 2 w.heap.size u3 ck', fR (Kd.int .i64) 2 w.heap.size u2 df, fR (Kd.int .i64) 2 w.heap.size u1 bs, fB w.heap.size g5 #[(.slice A2 l0_0.length c2), u1, u2, u3, u4, (.slice A5 l0_2.length c5)] 74, fR (Kd.int .i64) 2 w.heap.size (.slice A5 l0_2.length c5) l0_2, fR (Kd.int .i64) 2 w.heap.size (.slice A2 l0_0.length c2) l0_0, fB w.heap.size g4 #[.slice none 0 0, .slice none 0 0, .slice none 0 0, .slice none 0 0, .slice none 0 0, .slice none 0 0] 74, fB w.heap.size g2 #[.slice none 0 0, .slice none 0 0, .slice none 0 0, .slice none 0 0, .slice none 0 0, .slice none 0 0] 74, fB w.heap.size g1 #[.slice A0_0 l0_0.length c0_0, .slice (some ad) l0_1.length c0_1, .slice A0_2 l0_2.length c0_2] 53]))
                case atStart => exact ⟨0, _, _, ck, vl, rfl, by omega, ⟨rfl⟩, ⟨fun m hm => by have := marksI_rng row u 0 m hm; omega⟩, S⟩
                case round =>
                  clear S
                  obtain ⟨i, u3, u4, ck', vl', rfl, hgi, HP, HLT, S⟩ := hrel
                  by_cases c : i < row.length
                  · obtain ⟨ad2, e2, hx⟩ := Kd.at_int HROW.out (i : Int) (by omega) (by omega)
                    cases e2
                    rw [Int.toNat_natCast] at hx
                    have er : rd row (i : Int) = row.getD i 0 := by unfold rd; rw [Int.toNat_natCast]
                    obtain ⟨xi, exi⟩ : ∃ q, q = row.getD i 0 := ⟨_, rfl⟩
                    rw [er, ← exi] at hx
                    have EXI := Aside0.mk exi
                    have HXR := Aside0.mk hx
                    replace hx := (S.out.below.cell (World.block_lt_of_cell? w _ hx)).trans hx
                    have hcond := eq_true (show (i : Int) < (row.length : Int) by omega)
                    have hcond0 := eq_true (show (0 : Int) ≤ (i : Int) by omega)
                    have WN := Aside0.mk (show wrap64 ((i : Int) + 1) = ((i + 1 : Nat) : Int) from nat_next (by have := HG.out; omega))
                    have HGI := Aside0.mk (And.intro hgi c)
                    clear hgi er exi
                    by_cases cu : xi = u
                    · have ceq := beq_iff_eq.2 cu
                      go_wp2
                      go_roundg (row.length - (i + 1))
                      case measure => have := HGI.out; omega
                      case rel => exact ⟨i + 1, u3, u4, ck', vl', congrArg (Value.int .i64) WN.out, by have := HGI.out; omega, by rw [marksI_succ, if_neg (by rw [← EXI.out]; simpa using cu)]; exact HP, by rw [marksI_succ, if_neg (by rw [← EXI.out]; simpa using cu)]; exact HLT, S⟩
                    · have ceq := beq_eq_false_iff_ne.2 cu
                      have HNE := Aside0.mk (show row.getD i 0 ≠ u by rw [← EXI.out]; exact cu)
                      have WB : wrap64 (bb + (i : Int)) = bb + (i : Int) := w64 (by have := HBB.out; omega) (by have := HBB.out; have := HG.out; have := HGI.out; omega)
                      clear cu c
                      by_cases big : bb + (i : Int) ≥ 200000
                      · have big2 := eq_true big
                        have hnn := HN.out
                        rw [if_pos (List.any_eq_true.2 ⟨(i : Int), marksI_mem HNE.out HGI.out.2, decide_eq_true big⟩)] at hnn
                        simp only [Option.some.injEq, Prod.mk.injEq] at hnn
                        obtain ⟨rfl, rfl, rfl, rfl, rfl⟩ := hnn
                        have hr := HRES.out
                        rw [if_neg (by decide)] at hr
                        simp only [Option.some.injEq, Prod.mk.injEq] at hr
                        obtain ⟨rfl, rfl, rfl, rfl, rfl, rfl, rfl⟩ := hr
                        clear HRES HN
                        have z0 := S.out.cell 7 0 rfl rfl
                        have z1 := S.out.cell 7 1 rfl rfl
                        have z2 := S.out.cell 7 2 rfl rfl
                        have z3 := S.out.cell 7 3 rfl rfl
                        have z4 := S.out.cell 7 4 rfl rfl
                        have z5 := S.out.cell 7 5 rfl rfl
                        have y0 := S.out.cell 8 0 rfl rfl
                        have y1 := S.out.cell 8 1 rfl rfl
                        have y2 := S.out.cell 8 2 rfl rfl
                        have y3 := S.out.cell 8 3 rfl rfl
                        have y4 := S.out.cell 8 4 rfl rfl
                        have y5 := S.out.cell 8 5 rfl rfl
                        have f0 := S.out.frozen 8 0 rfl
                        have f1 := S.out.frozen 8 1 rfl
                        have f2 := S.out.frozen 8 2 rfl
                        have f3 := S.out.frozen 8 3 rfl
                        have f4 := S.out.frozen 8 4 rfl
                        have f5 := S.out.frozen 8 5 rfl
                        go_wp2
                        have S1 := Aside0.mk (((((((S.out).put 8 0 (u := .slice none 0 0) rfl rfl).put 8 1 (u := .slice none 0 0) rfl rfl).put 8 2 (u := .slice none 0 0) rfl rfl).put 8 3 (u := .slice none 0 0) rfl rfl).put 8 4 (u := .slice none 0 0) rfl rfl).put 8 5 (u := .slice none 0 0) rfl rfl)
                        refine bodyPost_ret (results_ct rfl _ _ g2 74 #[.slice none 0 0, .slice none 0 0, .slice none 0 0, .slice none 0 0, .slice none 0 0, .slice none 0 0] (0, 0) _ rfl (S1.out.blk 8 rfl) Try.underlying74 rfl (by kernel_rfl)) rfl ?_
                        exact ⟨_, _, _, _, _, _, rfl, Kd.R_nil _ _ _ _ _, Kd.R_nil _ _ _ _ _, Kd.R_nil _ _ _ _ _, Kd.R_nil _ _ _ _ _, Kd.R_nil _ _ _ _ _, Kd.R_nil _ _ _ _ _, S1.out.below⟩
                      · have big2 := eq_false big
                        have hq := placeM_len (s := (s : Int)) (row := row) (b := bb) (n := 2001000001) (marksI row u i) (ck, vl) HG.out.2.2.2.1 (by have := HG.out.2.2.2.2.1; simp only; omega) (fun x hx => by have := marksI_rng row u i x hx; have := HG.out; have := HGI.out; omega)
                        rw [HP.out] at hq
                        have HQ := Aside0.mk hq
                        have HBG := Aside0.mk big
                        clear hq big
                        go_wp2_with fail
                        go_loopg [] ((bb + (i : Int) + 1).toNat - ck'.length) (fun gk wr => ∃ (p : Nat) (u3 u4 : Value), p + gk = (bb + (i : Int) + 1).toNat - ck'.length ∧ Aside0 (Hp w.heap.size w wr [fR (Kd.int .i64) 2 w.heap.size u4 (vl' ++ List.replicate p 0), fR (Kd.int .i64) 2 w.heap.size u3 (ck' ++ List.replicate p (-1)), fR (Kd.int .i64) 2 w.heap.size u2 df, fR (Kd.int .i64) 2 w.heap.size u1 bs, fB w.heap.size g5 #[(.slice A2 l0_0.length c2), u1, u2, u3, u4, (.slice A5 l0_2.length c5)] 74, fR (Kd.int .i64) 2 w.heap.size (.slice A5 l0_2.length c5) l0_2, fR (Kd.int .i64) 2 w.heap.size (.slice A2 l0_0.length c2) l0_0, fB w.heap.size g4 #[.slice none 0 0, .slice none 0 0, .slice none 0 0, .slice none 0 0, .slice none 0 0, .slice none 0 0] 74, fB w.heap.size g2 #[.slice none 0 0, .slice none 0 0, .slice none 0 0, .slice none 0 0, .slice none 0 0, .slice none 0 0] 74, fB w.heap.size g1 #[.slice A0_0 l0_0.length c0_0, .slice (some ad) l0_1.length c0_1, .slice A0_2 l0_2.length c0_2] 53]))
                        case atStart => exact ⟨0, u3, u4, by omega, by simpa using S⟩
                        case round =>
                          clear S hx
                          obtain ⟨p, u3, u4, hp, S⟩ := hrel
                          obtain ⟨CL, eCL⟩ : ∃ q, q = ck' ++ List.replicate p (-1) := ⟨_, rfl⟩
                          obtain ⟨VL, eVL⟩ : ∃ q, q = vl' ++ List.replicate p 0 := ⟨_, rfl⟩
                          rw [← eCL, ← eVL] at S
                          obtain ⟨Ak, ckc, rfl⟩ := S.out.slice 1 rfl
                          obtain ⟨Av, cvc, rfl⟩ := S.out.slice 0 rfl
                          have HPP := Aside0.mk (And.intro hp (And.intro (show CL.length = ck'.length + p by rw [eCL]; simp) (show VL.length = vl'.length + p by rw [eVL]; simp)))
                          have ECL := Aside0.mk eCL
                          have EVL := Aside0.mk eVL
                          have z3 := S.out.cell 4 3 rfl rfl
                          clear hp hcond hcond0 eCL eVL big2 ceq
                          by_cases hc5 : (CL.length : Int) ≤ bb + (i : Int)
                          · have hc6 := eq_true hc5
                            go_wp2_with (first | ((with_reducible refine gate_dst (N := 76) rfl ?_); refine ev_lit S (Kd.int .i64) (2) rfl rfl (xs := [(-1 : Int)]) (inner := [.int .i64 (-1)]) (by first | (go_simp; done) | (go_simp; rfl)) (Reps.one rfl (Reps.none _ _)) (by simp) (fun v76 w_ S1 => ?_); clear S; have S := S1; clear S1; obtain ⟨A76, c76, rfl⟩ := S.out.slice 0 rfl; (try clear z3)) | ((with_reducible refine gate_dst (N := 77) rfl ?_); refine ev_app S 2 rfl rfl (.tmp 75) (.tmp 76) (29) (.int .i64 0) (8) rfl Try.underlying29 info2 rfl (by decide) (by omega) rfl rfl (S.out.row 0 rfl).2.2 (fun _ _ h => h) (by have := HG.out; have := HPP.out; have := HGI.out; simp only [List.length_singleton]; omega) (fun v77 w_ S1 => ?_); clear S; have S := Aside0.mk S1.out.tail; clear S1; obtain ⟨CM, eCM⟩ : ∃ q, q = CL ++ [(-1 : Int)] := ⟨_, rfl⟩; rw [show CL ++ [(-1 : Int)] = CM from eCM.symm] at S; have ECM := Aside0.mk eCM; clear eCM; obtain ⟨A77, c77, rfl⟩ := S.out.slice 1 rfl; have z3 := S.out.cell 4 3 rfl rfl; have f3 := S.out.frozen 4 3 rfl) | ((with_reducible refine gate_store (t := 29) (p := 78) rfl ?_); refine ev_run (w1 := ((_ : World)).setCell ⟨g5, 3, none⟩ (.slice A77 CM.length c77)) rfl rfl (by first | (go_simp; done) | (go_simp; rfl)) (fun w_ hw => ?_); have S1 := Aside0.mk ((S.out).put 4 3 (u := .slice A77 CM.length c77) rfl rfl); rw [← hw] at S1; clear hw; clear S; have S := S1; clear S1; clear z3 f3; have z4 := S.out.cell 4 4 rfl rfl) | ((with_reducible refine gate_dst (N := 81) rfl ?_); refine ev_lit S (Kd.int .i64) (2) rfl rfl (xs := [(0 : Int)]) (inner := [.int .i64 0]) (by first | (go_simp; done) | (go_simp; rfl)) (Reps.one rfl (Reps.none _ _)) (by simp) (fun v81 w_ S1 => ?_); clear S; have S := S1; clear S1; obtain ⟨A81, c81, rfl⟩ := S.out.slice 0 rfl; (try clear z4)) | ((with_reducible refine gate_dst (N := 82) rfl ?_); refine ev_app S 1 rfl rfl (.tmp 80) (.tmp 81) (29) (.int .i64 0) (8) rfl Try.underlying29 info2 rfl (by decide) (by omega) rfl rfl (S.out.row 0 rfl).2.2 (fun _ _ h => h) (by have := HG.out; have := HPP.out; have := HGI.out; have := HQ.out; simp only [List.length_singleton]; omega) (fun v82 w_ S1 => ?_); clear S; have S := Aside0.mk S1.out.tail; clear S1; obtain ⟨VM, eVM⟩ : ∃ q, q = VL ++ [(0 : Int)] := ⟨_, rfl⟩; rw [show VL ++ [(0 : Int)] = VM from eVM.symm] at S; have EVM := Aside0.mk eVM; clear eVM; obtain ⟨A82, c82, rfl⟩ := S.out.slice 0 rfl; have z4 := S.out.cell 4 4 rfl rfl; have f4 := S.out.frozen 4 4 rfl) | ((with_reducible refine gate_store (t := 29) (p := 83) rfl ?_); refine ev_run (w1 := ((_ : World)).setCell ⟨g5, 4, none⟩ (.slice A82 VM.length c82)) rfl rfl (by first | (go_simp; done) | (go_simp; rfl)) (fun w_ hw => ?_); have S1 := Aside0.mk ((S.out).put 4 4 (u := .slice A82 VM.length c82) rfl rfl); rw [← hw] at S1; clear hw; clear S; have S := S1; clear S1; clear z4 f4))
                            go_roundg ((bb + (i : Int) + 1).toNat - ck'.length - (p + 1))
                            case measure => have := HPP.out; have := HG.out; omega
                            case rel => exact ⟨p + 1, _, _, by have := HPP.out; have := HG.out; omega, by rw [List.replicate_succ', List.replicate_succ', ← List.append_assoc, ← List.append_assoc, ← ECL.out, ← EVL.out, ← ECM.out, ← EVM.out]; exact S⟩
                          · have hc6 := eq_false hc5
                            obtain ⟨gk_, ck_, e3⟩ := S.out.form 1 rfl (by have := HBB.out; omega)
                            cases e3
                            obtain ⟨gv_, cv_, e4⟩ := S.out.form 0 rfl (by have := HBB.out; have := HPP.out; have := HQ.out; omega)
                            cases e4
                            have hi0 := eq_true (show 0 ≤ bb + (i : Int) by have := HBB.out; omega)
                            have hi1 := eq_true (show bb + (i : Int) < (CL.length : Int) by omega)
                            have hi2 := eq_true (show bb + (i : Int) < (VL.length : Int) by have := HPP.out; have := HQ.out; omega)
                            have hm0 := eq_true (show (0 : Int) ≤ (i : Int) by omega)
                            have hm1 := eq_true (show (i : Int) < (row.length : Int) by have := HGI.out; omega)
                            have HPL := Aside0.mk (show bb + (i : Int) < (VL.length : Int) by have := HPP.out; have := HQ.out; omega)
                            obtain ⟨zk, fk⟩ := S.out.cellR 1 (0 : Int) rfl (bb + (i : Int)) (by have := HBB.out; omega) (by omega)
                            go_wp2_with (first | ((with_reducible refine gate_store (t := 2) (p := 90) rfl ?_); refine ev_run (w1 := (_ : World).setCell ⟨gk_, (bb + (i : Int)).toNat, none⟩ (.int .i64 (s : Int))) rfl rfl (by first | (go_simp; done) | (go_simp; rfl)) (fun w_ hw => ?_); have S1 := Aside0.mk (S.out.putRow 1 rfl (bb + (i : Int)) ((s : Int))); rw [← hw] at S1; clear hw; clear S; have S := S1; clear S1; clear zk fk z3))
                            refine mask_ (n := 11) (fun l v W => (l 0 = true → v 0 = .pointer (some ⟨g5, 4, none⟩)) ∧ (l 1 = true → v 1 = .slice (some ⟨gv_, 0, none⟩) VL.length cvc) ∧ (l 2 = true → v 2 = .int .i64 bb) ∧ (l 3 = true → v 3 = .int .i64 (i : Int)) ∧ (l 4 = true → v 4 = .int .i64 (bb + (i : Int))) ∧ (l 5 = true → v 5 = .slice (some ad2) row.length c1) ∧ (l 6 = true → v 6 = .int .i64 (i : Int)) ∧ (l 7 = true → v 7 = .pointer (some (ad2.add i))) ∧ (l 8 = true → v 8 = .int .i64 xi) ∧ (l 9 = true → v 9 = .pointer (some ⟨gv_, (bb + (i : Int)).toNat, none⟩)) ∧ Hp w.heap.size w W [cf (l 10) (fR (Kd.int .i64) 2 w.heap.size (.slice (some ⟨gv_, 0, none⟩) VL.length cvc) (VL.set (bb + (i : Int)).toNat xi)) (fR (Kd.int .i64) 2 w.heap.size (.slice (some ⟨gv_, 0, none⟩) VL.length cvc) VL), fR (Kd.int .i64) 2 w.heap.size (.slice (some ⟨gk_, 0, none⟩) CL.length ckc) (CL.set (bb + (i : Int)).toNat (s : Int)), fR (Kd.int .i64) 2 w.heap.size u2 df, fR (Kd.int .i64) 2 w.heap.size u1 bs, fB w.heap.size g5 #[(.slice A2 l0_0.length c2), u1, u2, (.slice (some ⟨gk_, 0, none⟩) CL.length ckc), (.slice (some ⟨gv_, 0, none⟩) VL.length cvc), (.slice A5 l0_2.length c5)] 74, fR (Kd.int .i64) 2 w.heap.size (.slice A5 l0_2.length c5) l0_2, fR (Kd.int .i64) 2 w.heap.size (.slice A2 l0_0.length c2) l0_0, fB w.heap.size g4 #[.slice none 0 0, .slice none 0 0, .slice none 0 0, .slice none 0 0, .slice none 0 0, .slice none 0 0] 74, fB w.heap.size g2 #[.slice none 0 0, .slice none 0 0, .slice none 0 0, .slice none 0 0, .slice none 0 0, .slice none 0 0] 74, fB w.heap.size g1 #[.slice A0_0 l0_0.length c0_0, .slice (some ad) l0_1.length c0_1, .slice A0_2 l0_2.length c0_2] 53]) [[], [0], [], [], [2, 3], [], [], [5, 6], [7], [1, 4, 0, 1, 2, 3, 4, 5, 6, 7, 8], [9, 8, 0, 1, 2, 3, 4, 5, 6, 7, 8]] [some 91, some 92, some 93, some 94, some 95, some 96, some 97, some 98, some 99, some 100, none] 114 (by kernel_rfl) spec_Pack.need23 spec_Pack.dst23 (by decide) rfl ⟨fun h => absurd h (by decide), fun h => absurd h (by decide), fun h => absurd h (by decide), fun h => absurd h (by decide), fun h => absurd h (by decide), fun h => absurd h (by decide), fun h => absurd h (by decide), fun h => absurd h (by decide), fun h => absurd h (by decide), fun h => absurd h (by decide), ?_⟩ ⟨?_, ?_, ?_, ?_, ?_, ?_, ?_, ?_, ?_, ?_, ?_, trivial⟩ (fun v W hJ => ?_)
                            · exact S.out.drew
                            · intro l v W zb hzb hsz hJ hi hn hc K hK
                              have HZ := Aside0.mk hzb; clear hzb
                              obtain ⟨p0, p1, p2, p3, p4, p5, p6, p7, p8, p9, S⟩ := hJ
                              have e5 : zb.tmps.getD 5 undef = .pointer (some ⟨g5, 0, none⟩) := by rw [HZ.out, putIf_other _ 0 _ rfl]; rfl
                              refine yields_ (N := some 91) (x := .pointer (some ⟨g5, 4, none⟩)) rfl rfl ?_ (hK.out _ _ ⟨fun _ => rfl, p1, p2, p3, p4, p5, p6, p7, p8, p9, S⟩)
                              clear hK HZ hn hc p0 p1 p2 p3 p4 p5 p6 p7 p8 p9; (try simp only [Array.getD_eq_getD_getElem?] at *); go_simp; try with_reducible rfl
                            · intro l v W zb hzb hsz hJ hi hn hc K hK
                              have HZ := Aside0.mk hzb; clear hzb
                              obtain ⟨p0, p1, p2, p3, p4, p5, p6, p7, p8, p9, S⟩ := hJ
                              have e91 : zb.tmps.getD 91 undef = .pointer (some ⟨g5, 4, none⟩) := by rw [HZ.out, putIf_at (hn 0 (by decide)) _ 0 _ (Nat.zero_le _) rfl rfl (by rw [hsz]; decide)]; exact p0 (hn 0 (by decide))
                              have S0 := S
                              rw [hc 10 1 (by decide) hi] at S
                              have z := S.cell 4 4 rfl rfl
                              refine yields_ (N := some 92) (x := .slice (some ⟨gv_, 0, none⟩) VL.length cvc) rfl rfl ?_ (hK.out _ _ ⟨p0, fun _ => rfl, p2, p3, p4, p5, p6, p7, p8, p9, S0⟩)
                              clear hK HZ hn hc p0 p1 p2 p3 p4 p5 p6 p7 p8 p9; (try simp only [Array.getD_eq_getD_getElem?] at *); go_simp; try with_reducible rfl
                            · intro l v W zb hzb hsz hJ hi hn hc K hK
                              have HZ := Aside0.mk hzb; clear hzb
                              obtain ⟨p0, p1, p2, p3, p4, p5, p6, p7, p8, p9, S⟩ := hJ
                              have e9 : zb.tmps.getD 9 undef = .int .i64 bb := by rw [HZ.out, putIf_other _ 0 _ rfl]; rfl
                              refine yields_ (N := some 93) (x := .int .i64 bb) rfl rfl ?_ (hK.out _ _ ⟨p0, p1, fun _ => rfl, p3, p4, p5, p6, p7, p8, p9, S⟩)
                              clear hK HZ hn hc p0 p1 p2 p3 p4 p5 p6 p7 p8 p9; (try simp only [Array.getD_eq_getD_getElem?] at *); go_simp; try with_reducible rfl
                            · intro l v W zb hzb hsz hJ hi hn hc K hK
                              have HZ := Aside0.mk hzb; clear hzb
                              obtain ⟨p0, p1, p2, p3, p4, p5, p6, p7, p8, p9, S⟩ := hJ
                              have e10 : zb.tmps.getD 10 undef = .int .i64 (i : Int) := by rw [HZ.out, putIf_other _ 0 _ rfl]; rfl
                              refine yields_ (N := some 94) (x := .int .i64 (i : Int)) rfl rfl ?_ (hK.out _ _ ⟨p0, p1, p2, fun _ => rfl, p4, p5, p6, p7, p8, p9, S⟩)
                              clear hK HZ hn hc p0 p1 p2 p3 p4 p5 p6 p7 p8 p9; (try simp only [Array.getD_eq_getD_getElem?] at *); go_simp; try with_reducible rfl
                            · intro l v W zb hzb hsz hJ hi hn hc K hK
                              have HZ := Aside0.mk hzb; clear hzb
                              obtain ⟨p0, p1, p2, p3, p4, p5, p6, p7, p8, p9, S⟩ := hJ
                              have e93 : zb.tmps.getD 93 undef = .int .i64 bb := by rw [HZ.out, putIf_at (hn 2 (by decide)) _ 0 _ (Nat.zero_le _) rfl rfl (by rw [hsz]; decide)]; exact p2 (hn 2 (by decide))
                              have e94 : zb.tmps.getD 94 undef = .int .i64 (i : Int) := by rw [HZ.out, putIf_at (hn 3 (by decide)) _ 0 _ (Nat.zero_le _) rfl rfl (by rw [hsz]; decide)]; exact p3 (hn 3 (by decide))
                              refine yields_ (N := some 95) (x := .int .i64 (bb + (i : Int))) rfl rfl ?_ (hK.out _ _ ⟨p0, p1, p2, p3, fun _ => rfl, p5, p6, p7, p8, p9, S⟩)
                              clear hK HZ hn hc p0 p1 p2 p3 p4 p5 p6 p7 p8 p9; (try simp only [Array.getD_eq_getD_getElem?] at *); go_simp; rw [i64_w, WB]
                            · intro l v W zb hzb hsz hJ hi hn hc K hK
                              have HZ := Aside0.mk hzb; clear hzb
                              obtain ⟨p0, p1, p2, p3, p4, p5, p6, p7, p8, p9, S⟩ := hJ
                              have e7 : zb.tmps.getD 7 undef = .slice (some ad2) row.length c1 := by rw [HZ.out, putIf_other _ 0 _ rfl]; rfl
                              refine yields_ (N := some 96) (x := .slice (some ad2) row.length c1) rfl rfl ?_ (hK.out _ _ ⟨p0, p1, p2, p3, p4, fun _ => rfl, p6, p7, p8, p9, S⟩)
                              clear hK HZ hn hc p0 p1 p2 p3 p4 p5 p6 p7 p8 p9; (try simp only [Array.getD_eq_getD_getElem?] at *); go_simp; try with_reducible rfl
                            · intro l v W zb hzb hsz hJ hi hn hc K hK
                              have HZ := Aside0.mk hzb; clear hzb
                              obtain ⟨p0, p1, p2, p3, p4, p5, p6, p7, p8, p9, S⟩ := hJ
                              have e10 : zb.tmps.getD 10 undef = .int .i64 (i : Int) := by rw [HZ.out, putIf_other _ 0 _ rfl]; rfl
                              refine yields_ (N := some 97) (x := .int .i64 (i : Int)) rfl rfl ?_ (hK.out _ _ ⟨p0, p1, p2, p3, p4, p5, fun _ => rfl, p7, p8, p9, S⟩)
                              clear hK HZ hn hc p0 p1 p2 p3 p4 p5 p6 p7 p8 p9; (try simp only [Array.getD_eq_getD_getElem?] at *); go_simp; try with_reducible rfl
                            · intro l v W zb hzb hsz hJ hi hn hc K hK
                              have HZ := Aside0.mk hzb; clear hzb
                              obtain ⟨p0, p1, p2, p3, p4, p5, p6, p7, p8, p9, S⟩ := hJ
                              have e96 : zb.tmps.getD 96 undef = .slice (some ad2) row.length c1 := by rw [HZ.out, putIf_at (hn 5 (by decide)) _ 0 _ (Nat.zero_le _) rfl rfl (by rw [hsz]; decide)]; exact p5 (hn 5 (by decide))
                              have e97 : zb.tmps.getD 97 undef = .int .i64 (i : Int) := by rw [HZ.out, putIf_at (hn 6 (by decide)) _ 0 _ (Nat.zero_le _) rfl rfl (by rw [hsz]; decide)]; exact p6 (hn 6 (by decide))
                              refine yields_ (N := some 98) (x := .pointer (some (ad2.add i))) rfl rfl ?_ (hK.out _ _ ⟨p0, p1, p2, p3, p4, p5, p6, fun _ => rfl, p8, p9, S⟩)
                              clear hK HZ hn hc p0 p1 p2 p3 p4 p5 p6 p7 p8 p9; (try simp only [Array.getD_eq_getD_getElem?] at *); go_simp; try with_reducible rfl
                            · intro l v W zb hzb hsz hJ hi hn hc K hK
                              have HZ := Aside0.mk hzb; clear hzb
                              obtain ⟨p0, p1, p2, p3, p4, p5, p6, p7, p8, p9, S⟩ := hJ
                              have e98 : zb.tmps.getD 98 undef = .pointer (some (ad2.add i)) := by rw [HZ.out, putIf_at (hn 7 (by decide)) _ 0 _ (Nat.zero_le _) rfl rfl (by rw [hsz]; decide)]; exact p7 (hn 7 (by decide))
                              have S0 := S
                              rw [hc 10 8 (by decide) hi] at S
                              have z := (S.below.cell (World.block_lt_of_cell? w _ HXR.out)).trans HXR.out
                              refine yields_ (N := some 99) (x := .int .i64 xi) rfl rfl ?_ (hK.out _ _ ⟨p0, p1, p2, p3, p4, p5, p6, p7, fun _ => rfl, p9, S0⟩)
                              clear hK HZ hn hc p0 p1 p2 p3 p4 p5 p6 p7 p8 p9; (try simp only [Array.getD_eq_getD_getElem?] at *); go_simp; try with_reducible rfl
                            · intro l v W zb hzb hsz hJ hi hn hc K hK
                              have HZ := Aside0.mk hzb; clear hzb
                              obtain ⟨p0, p1, p2, p3, p4, p5, p6, p7, p8, p9, S⟩ := hJ
                              have e92 : zb.tmps.getD 92 undef = .slice (some ⟨gv_, 0, none⟩) VL.length cvc := by rw [HZ.out, putIf_at (hn 1 (by decide)) _ 0 _ (Nat.zero_le _) rfl rfl (by rw [hsz]; decide)]; exact p1 (hn 1 (by decide))
                              have e95 : zb.tmps.getD 95 undef = .int .i64 (bb + (i : Int)) := by rw [HZ.out, putIf_at (hn 4 (by decide)) _ 0 _ (Nat.zero_le _) rfl rfl (by rw [hsz]; decide)]; exact p4 (hn 4 (by decide))
                              refine yields_ (N := some 100) (x := .pointer (some ⟨gv_, (bb + (i : Int)).toNat, none⟩)) rfl rfl ?_ (hK.out _ _ ⟨p0, p1, p2, p3, p4, p5, p6, p7, p8, fun _ => rfl, S⟩)
                              clear hK HZ hn hc p0 p1 p2 p3 p4 p5 p6 p7 p8 p9; (try simp only [Array.getD_eq_getD_getElem?] at *); go_simp; try with_reducible rfl
                            · intro l v W zb hzb hsz hJ hi hn hc K hK
                              have HZ := Aside0.mk hzb; clear hzb
                              obtain ⟨p0, p1, p2, p3, p4, p5, p6, p7, p8, p9, S⟩ := hJ
                              have e99 : zb.tmps.getD 99 undef = .int .i64 xi := by rw [HZ.out, putIf_at (hn 8 (by decide)) _ 0 _ (Nat.zero_le _) rfl rfl (by rw [hsz]; decide)]; exact p8 (hn 8 (by decide))
                              have e100 : zb.tmps.getD 100 undef = .pointer (some ⟨gv_, (bb + (i : Int)).toNat, none⟩) := by rw [HZ.out, putIf_at (hn 9 (by decide)) _ 0 _ (Nat.zero_le _) rfl rfl (by rw [hsz]; decide)]; exact p9 (hn 9 (by decide))
                              rw [hi] at S
                              have hk := hK.out
                              obtain ⟨zp, fp⟩ := S.cellR 0 (0 : Int) rfl (bb + (i : Int)) (by have := HBB.out; omega) (by have := HPL.out; omega)
                              have S1 := S.putRow 0 rfl (bb + (i : Int)) (xi)
                              refine st_run (w1 := ?_) rfl rfl (by (try simp only [Array.getD_eq_getD_getElem?] at *); go_simp; rfl) ?_
                              refine hk undef _ ⟨p0, p1, p2, p3, p4, p5, p6, p7, p8, p9, ?_⟩
                              exact S1
                            clear S
                            obtain ⟨-, -, -, -, -, -, -, -, -, -, S⟩ := hJ
                            replace S := Aside0.mk (show Hp w.heap.size w W [fR (Kd.int .i64) 2 w.heap.size (.slice (some ⟨gv_, 0, none⟩) VL.length cvc) (VL.set (bb + (i : Int)).toNat xi), fR (Kd.int .i64) 2 w.heap.size (.slice (some ⟨gk_, 0, none⟩) CL.length ckc) (CL.set (bb + (i : Int)).toNat (s : Int)), fR (Kd.int .i64) 2 w.heap.size u2 df, fR (Kd.int .i64) 2 w.heap.size u1 bs, fB w.heap.size g5 #[(.slice A2 l0_0.length c2), u1, u2, (.slice (some ⟨gk_, 0, none⟩) CL.length ckc), (.slice (some ⟨gv_, 0, none⟩) VL.length cvc), (.slice A5 l0_2.length c5)] 74, fR (Kd.int .i64) 2 w.heap.size (.slice A5 l0_2.length c5) l0_2, fR (Kd.int .i64) 2 w.heap.size (.slice A2 l0_0.length c2) l0_0, fB w.heap.size g4 #[.slice none 0 0, .slice none 0 0, .slice none 0 0, .slice none 0 0, .slice none 0 0, .slice none 0 0] 74, fB w.heap.size g2 #[.slice none 0 0, .slice none 0 0, .slice none 0 0, .slice none 0 0, .slice none 0 0, .slice none 0 0] 74, fB w.heap.size g1 #[.slice A0_0 l0_0.length c0_0, .slice (some ad) l0_1.length c0_1, .slice A0_2 l0_2.length c0_2] 53] from S)
                            simp only [putIf, ↓reduceIte, Act.put, List.setIfInBounds_toArray, List.set_cons_succ, List.set_cons_zero]
                            clear hm0 hm1 hi0 hi1 hi2
                            go_wp2
                            go_roundg (row.length - (i + 1))
                            case measure => have := HGI.out; omega
                            case rel => exact ⟨i + 1, _, _, _, _, congrArg (Value.int .i64) WN.out, by have := HGI.out; omega, ⟨by rw [marksI_succ, if_pos HNE.out, placeM_snoc, HP.out]; unfold place1 padTo; rw [show ((bb + (i : Int) + 1).toNat - ck'.length) = p by have := HPP.out; have := HG.out; omega, show ((bb + (i : Int) + 1).toNat - vl'.length) = p by have := HPP.out; have := HG.out; have := HQ.out; omega, ← ECL.out, ← EVL.out, show rd row (i : Int) = xi by rw [EXI.out]; unfold rd; rw [Int.toNat_natCast]]⟩, ⟨fun m hm => by rw [marksI_succ, if_pos HNE.out, List.mem_append, List.mem_singleton] at hm; rcases hm with hm | rfl; exact HLT.out m hm; have := HBG.out; omega⟩, S⟩
                  · have hcond := eq_false (show ¬ (i : Int) < (row.length : Int) by omega)
                    obtain rfl : i = row.length := by omega
                    have hnn := HN.out
                    rw [if_neg (fun q => by obtain ⟨m, hm, hd⟩ := List.any_eq_true.1 q; have := HLT.out m hm; have := of_decide_eq_true hd; omega), HP.out] at hnn
                    have HN3 := Aside0.mk hnn
                    have WN := Aside0.mk (show wrap64 ((s : Int) + 1) = ((s + 1 : Nat) : Int) by have := HS.out; have h9 := HLN.out; rw [w64 (by omega) (by omega)]; omega)
                    obtain ⟨Ab, cb, rfl⟩ := S.out.slice 3 rfl
                    obtain ⟨Ad, cd, rfl⟩ := S.out.slice 2 rfl
                    have z1 := S.out.cell 4 1 rfl rfl
                    clear hnn HN hgi c
                    go_wp2_with (first | ((with_reducible refine gate_dst (N := 104) rfl ?_); refine ev_lit S (Kd.int .i64) (2) rfl rfl (xs := [bb]) (inner := [.int .i64 bb]) (by first | (go_simp; done) | (go_simp; rfl)) (Reps.one rfl (Reps.none _ _)) (by simp) (fun v104 w_ S1 => ?_); clear S; have S := S1; clear S1; obtain ⟨A104, c104, rfl⟩ := S.out.slice 0 rfl; (try clear z1)) | ((with_reducible refine gate_dst (N := 105) rfl ?_); refine ev_app S 4 rfl rfl (.tmp 102) (.tmp 104) (29) (.int .i64 0) (8) rfl Try.underlying29 info2 rfl (by decide) (by omega) rfl rfl (S.out.row 0 rfl).2.2 (fun _ _ h => h) (by have := HG.out; simp only [List.length_singleton]; omega) (fun v105 w_ S1 => ?_); clear S; have S := Aside0.mk S1.out.tail; clear S1; obtain ⟨BM, eBM⟩ : ∃ q, q = bs ++ [bb] := ⟨_, rfl⟩; rw [show bs ++ [bb] = BM from eBM.symm] at S; have EBM := Aside0.mk eBM; clear eBM; obtain ⟨A105, c105, rfl⟩ := S.out.slice 3 rfl; have z1 := S.out.cell 4 1 rfl rfl; have f1 := S.out.frozen 4 1 rfl) | ((with_reducible refine gate_store (t := 29) (p := 106) rfl ?_); refine ev_run (w1 := ((_ : World)).setCell ⟨g5, 1, none⟩ (.slice A105 BM.length c105)) rfl rfl (by first | (go_simp; done) | (go_simp; rfl)) (fun w_ hw => ?_); have S1 := Aside0.mk ((S.out).put 4 1 (u := .slice A105 BM.length c105) rfl rfl); rw [← hw] at S1; clear hw; clear S; have S := S1; clear S1; clear z1 f1; have z2 := S.out.cell 4 2 rfl rfl) | ((with_reducible refine gate_dst (N := 110) rfl ?_); refine ev_lit S (Kd.int .i64) (2) rfl rfl (xs := [u]) (inner := [.int .i64 u]) (by first | (go_simp; done) | (go_simp; rfl)) (Reps.one rfl (Reps.none _ _)) (by simp) (fun v110 w_ S1 => ?_); clear S; have S := S1; clear S1; obtain ⟨A110, c110, rfl⟩ := S.out.slice 0 rfl; (try clear z2)) | ((with_reducible refine gate_dst (N := 111) rfl ?_); refine ev_app S 3 rfl rfl (.tmp 108) (.tmp 110) (29) (.int .i64 0) (8) rfl Try.underlying29 info2 rfl (by decide) (by omega) rfl rfl (S.out.row 0 rfl).2.2 (fun _ _ h => h) (by have := HG.out; simp only [List.length_singleton]; omega) (fun v111 w_ S1 => ?_); clear S; have S := Aside0.mk S1.out.tail; clear S1; obtain ⟨DM, eDM⟩ : ∃ q, q = df ++ [u] := ⟨_, rfl⟩; rw [show df ++ [u] = DM from eDM.symm] at S; have EDM := Aside0.mk eDM; clear eDM; obtain ⟨A111, c111, rfl⟩ := S.out.slice 2 rfl; have z2 := S.out.cell 4 2 rfl rfl; have f2 := S.out.frozen 4 2 rfl) | ((with_reducible refine gate_store (t := 29) (p := 112) rfl ?_); refine ev_run (w1 := ((_ : World)).setCell ⟨g5, 2, none⟩ (.slice A111 DM.length c111)) rfl rfl (by first | (go_simp; done) | (go_simp; rfl)) (fun w_ hw => ?_); have S1 := Aside0.mk ((S.out).put 4 2 (u := .slice A111 DM.length c111) rfl rfl); rw [← hw] at S1; clear hw; clear S; have S := S1; clear S1; clear z2 f2))
                    go_roundg k1
                    case measure => omega
                    case rel => exact ⟨s + 1, BM, DM, ck', vl', _, _, _, _, congrArg (Value.int .i64) WN.out, HS.out, by rw [EBM.out, EDM.out]; exact HN3, ⟨by have := HK.out; omega⟩, S⟩
        · rw [if_neg c] at H
          simp only [Option.some.injEq, Prod.mk.injEq] at H
          obtain ⟨rfl, rfl, rfl, rfl, rfl⟩ := H
          have hr := HRES.out
          rw [if_pos rfl] at hr
          simp only [Option.some.injEq, Prod.mk.injEq] at hr
          obtain ⟨rfl, rfl, rfl, rfl, rfl, rfl, rfl⟩ := hr
          have hcond := eq_false (show ¬ (s : Int) < (l0_1.length : Int) by omega)
          obtain ⟨B4, e4, rfl⟩ := S.out.slice 0 rfl
          obtain ⟨B3, e3, rfl⟩ := S.out.slice 1 rfl
          obtain ⟨B2, e2, rfl⟩ := S.out.slice 2 rfl
          obtain ⟨B1, e1, rfl⟩ := S.out.slice 3 rfl
          clear HA c hs HRES
          have x0 := S.out.cell 4 0 rfl rfl
          have x1 := S.out.cell 4 1 rfl rfl
          have x2 := S.out.cell 4 2 rfl rfl
          have x3 := S.out.cell 4 3 rfl rfl
          have x4 := S.out.cell 4 4 rfl rfl
          have x5 := S.out.cell 4 5 rfl rfl
          have y0 := S.out.cell 8 0 rfl rfl
          have y1 := S.out.cell 8 1 rfl rfl
          have y2 := S.out.cell 8 2 rfl rfl
          have y3 := S.out.cell 8 3 rfl rfl
          have y4 := S.out.cell 8 4 rfl rfl
          have y5 := S.out.cell 8 5 rfl rfl
          have f0 := S.out.frozen 8 0 rfl
          have f1 := S.out.frozen 8 1 rfl
          have f2 := S.out.frozen 8 2 rfl
          have f3 := S.out.frozen 8 3 rfl
          have f4 := S.out.frozen 8 4 rfl
          have f5 := S.out.frozen 8 5 rfl
          go_wp2
          have S1 := Aside0.mk (((((((S.out).put 8 0 (u := .slice A2 l0_0.length c2) rfl rfl).put 8 1 (u := .slice B1 bs.length e1) rfl rfl).put 8 2 (u := .slice B2 df.length e2) rfl rfl).put 8 3 (u := .slice B3 ck.length e3) rfl rfl).put 8 4 (u := .slice B4 vl.length e4) rfl rfl).put 8 5 (u := .slice A5 l0_2.length c5) rfl rfl)
          refine bodyPost_ret (results_ct rfl _ _ g2 74 #[.slice A2 l0_0.length c2, .slice B1 bs.length e1, .slice B2 df.length e2, .slice B3 ck.length e3, .slice B4 vl.length e4, .slice A5 l0_2.length c5] (0, 0) _ rfl (S1.out.blk 8 rfl) Try.underlying74 rfl (by kernel_rfl)) rfl ?_
          obtain ⟨hB, cl, hc⟩ := S1.out.cells
          have q0 := hc 6 _ rfl; have q1 := hc 3 _ rfl; have q2 := hc 2 _ rfl; have q3 := hc 1 _ rfl; have q4 := hc 0 _ rfl; have q5 := hc 5 _ rfl
          exact ⟨_, _, _, _, _, _, rfl, Kd.R_mono q0 (fun _ hk => ⟨nc_ hk q1.1 (by decide), nc_ hk q2.1 (by decide), nc_ hk q3.1 (by decide), nc_ hk q4.1 (by decide), nc_ hk q5.1 (by decide)⟩), Kd.R_mono q1 (fun _ hk => ⟨nc_ hk q0.1 (by decide), nc_ hk q2.1 (by decide), nc_ hk q3.1 (by decide), nc_ hk q4.1 (by decide), nc_ hk q5.1 (by decide)⟩), Kd.R_mono q2 (fun _ hk => ⟨nc_ hk q0.1 (by decide), nc_ hk q1.1 (by decide), nc_ hk q3.1 (by decide), nc_ hk q4.1 (by decide), nc_ hk q5.1 (by decide)⟩), Kd.R_mono q3 (fun _ hk => ⟨nc_ hk q0.1 (by decide), nc_ hk q1.1 (by decide), nc_ hk q2.1 (by decide), nc_ hk q4.1 (by decide), nc_ hk q5.1 (by decide)⟩), Kd.R_mono q4 (fun _ hk => ⟨nc_ hk q0.1 (by decide), nc_ hk q1.1 (by decide), nc_ hk q2.1 (by decide), nc_ hk q3.1 (by decide), nc_ hk q5.1 (by decide)⟩), Kd.R_mono q5 (fun _ hk => ⟨nc_ hk q0.1 (by decide), nc_ hk q1.1 (by decide), nc_ hk q2.1 (by decide), nc_ hk q3.1 (by decide), nc_ hk q4.1 (by decide)⟩), hB⟩
end

/-! ### impl_within: function 110 -/
def impl_within.f (a0 : Int) (a1 : Int) (a2 : Int) : Option (Bool) := if a0 ≥ a1 then (some (decide (a0 ≤ a2))) else (some false)
set_option maxHeartbeats 8000000 in
set_option maxRecDepth 100000 in
theorem impl_within.calls (a0 : Int) (a1 : Int) (a2 : Int) (r : Bool) (w : World) (h : impl_within.f a0 a1 a2 = some r) :
    Calls Try.prog 110 #[.int .i64 a0, .int .i64 a1, .int .i64 a2] w fun e w' => e = .returned (.bool r) ∧ Drawn0 w w' := by
  have H : (if a0 ≥ a1 then (some (decide (a0 ≤ a2))) else (some false)) = some r := h
  clear h
  by_cases c4 : a0 ≥ a1
  · rw [if_pos c4] at H
    have c4b0 : decide (a1 ≤ a0) = true := decide_eq_true c4
    clear c4
    obtain rfl := Option.some.inj H
    go_enter Try.func110, Try.ntmps110
    go_wp2
    go_ret
    exact ⟨by first | rfl | (simp; done) | (simp [*]; done), by repeat (first | exact Drawn0.refl _ | apply Drawn0.step)⟩
  · rw [if_neg c4] at H
    have c4b0 : decide (a1 ≤ a0) = false := decide_eq_false c4
    clear c4
    obtain rfl := Option.some.inj H
    go_enter Try.func110, Try.ntmps110
    go_wp2
    go_ret
    exact ⟨by first | rfl | (simp; done) | (simp [*]; done), by repeat (first | exact Drawn0.refl _ | apply Drawn0.step)⟩

/-! ### impl_size_int64_125: function 125 -/
def impl_size_int64_125.f (l0 : List Int) : Option (Int) := some (l0.length : Int)
set_option maxHeartbeats 8000000 in
set_option maxRecDepth 100000 in
theorem impl_size_int64_125.calls (A0 : Option Addr) (c0 : Nat) (l0 : List Int) (r : Int) (w : World) (hr0 : Kd.C (Kd.int .i64) w A0 l0.length l0) (hc0 : l0.length ≤ c0) (h : impl_size_int64_125.f l0 = some r) :
    Calls Try.prog 125 #[.slice A0 l0.length c0] w fun e w' => e = .returned (.int .i64 r) ∧ Drawn0 w w' := by
  have HR0 := Aside0.mk hr0
  have HC0 := Aside0.mk hc0
  clear hr0 hc0
  have H : (some (l0.length : Int)) = some r := h
  clear h
  obtain rfl := Option.some.inj H
  go_enter Try.func125, Try.ntmps125
  go_wp2
  go_ret
  exact ⟨by first | rfl | (simp; done) | (simp [*]; done), by repeat (first | exact Drawn0.refl _ | apply Drawn0.step)⟩

/-! ### impl_size_int64_166: function 166 -/
def impl_size_int64_166.f (l0 : List (List Int)) : Option (Int) := some (l0.length : Int)
set_option maxHeartbeats 8000000 in
set_option maxRecDepth 100000 in
theorem impl_size_int64_166.calls (A0 : Option Addr) (c0 : Nat) (l0 : List (List Int)) (r : Int) (w : World) (hr0 : Kd.C (Kd.slice 2 (Kd.int .i64)) w A0 l0.length l0) (hc0 : l0.length ≤ c0) (h : impl_size_int64_166.f l0 = some r) :
    Calls Try.prog 166 #[.slice A0 l0.length c0] w fun e w' => e = .returned (.int .i64 r) ∧ Drawn0 w w' := by
  have HR0 := Aside0.mk hr0
  have HC0 := Aside0.mk hc0
  clear hr0 hc0
  have H : (some (l0.length : Int)) = some r := h
  clear h
  obtain rfl := Option.some.inj H
  go_enter Try.func166, Try.ntmps166
  go_wp2
  go_ret
  exact ⟨by first | rfl | (simp; done) | (simp [*]; done), by repeat (first | exact Drawn0.refl _ | apply Drawn0.step)⟩

/-! ### slices_IndexFunc_int64_int64_196: function 196 -/
/-- what an IndexFunc tells: the first that is one, or -1 -/
def IdxPost_ints (q : Nat → Bool) (n : Nat) (w : World) (e : Ending) (w' : World) : Prop :=
  ∃ r : Int, ((∃ k : Nat, k < n ∧ r = k ∧ q k = true) ∨ (r = -1 ∧ ∀ k, k < n → q k = false)) ∧ e = .returned (.int .i64 r) ∧ Drawn0 w w'
set_option maxHeartbeats 1000000 in
set_option maxRecDepth 100000 in
theorem if_ints.pred (n c0 : Nat) (A0 : Option Addr) (vs : Nat → Value) (q : Nat → Bool) (w : World) (hn : n ≤ 9223372036854775807) (hc : ∀ j, j < n → ∃ ad, A0 = some ad ∧ w.cell? (ad.add j) = some (vs j))
    (g : Nat) (lb : Array Value) (eg : ∀ args w, (callFunc g args).run Try.prog w = .ok (.enter g args) w)
    (hp : ∀ (nd j : Nat), j < n → Calls Try.prog g (#[vs j] ++ lb) (w.drewN nd) fun e w' => e = .returned (.bool (q j)) ∧ Drawn0 (w.drewN nd) w') :
    Calls Try.prog 196 #[.slice A0 n c0, .func (.func g) #[] lb] w (IdxPost_ints q n w) := by
  have HC := Aside0.mk hc
  have HP := Aside0.mk hp
  clear hc hp
  go_enter Try.func196, Try.ntmps196
  go_wp2
  go_loopg [8] n (fun gk v8 wr => ∃ (i : Int) (nd : Nat), 0 ≤ i ∧ i ≤ n ∧ (n : Int) - i ≤ gk ∧ v8 = .int .i64 i ∧ wr = w.drewN nd ∧ Aside0 (∀ k : Nat, (k : Int) < i → q k = false))
  case atStart => exact ⟨0, 0, by omega, by omega, by omega, rfl, rfl, ⟨fun k hk => by omega⟩⟩
  case round =>
    obtain ⟨i, nd, h0, h1, hg, rfl, rfl, HF⟩ := hrel
    by_cases hlt : i < (n : Int)
    · obtain ⟨ad, e, hx⟩ := HC.out i.toNat (by omega)
      cases e
      have t0 := eq_true h0
      have t1 := eq_true hlt
      have hcall := HP.out nd i.toNat (by omega)
      cases hq : q i.toNat with
      | true =>
        rw [hq] at hcall
        have HQ := Aside0.mk hq
        clear hq
        go_wp2_with fail
        refine hcall.mono ?_
        rintro e w' ⟨rfl, ⟨nd', rfl⟩⟩
        clear hcall
        go_wp2
        go_ret
        exact ⟨i, .inl ⟨i.toNat, by omega, by omega, HQ.out⟩, rfl, ⟨_, rfl⟩⟩
      | false =>
        rw [hq] at hcall
        have HQ := Aside0.mk hq
        clear hq
        go_wp2_with fail
        refine hcall.mono ?_
        rintro e w' ⟨rfl, ⟨nd', rfl⟩⟩
        clear hcall
        go_wp2
        go_roundg (n - (i.toNat + 1))
        case measure => omega
        case rel =>
          refine ⟨i + 1, nd + nd', by omega, by omega, by omega, by first | rfl | go_num, by first | rfl | exact World.drewN_drewN _ _ _, ⟨fun k hk => ?_⟩⟩
          by_cases h : (k : Int) < i
          · exact HF.out k h
          · have : k = i.toNat := by omega
            rw [this]
            exact HQ.out
    · have t1 := eq_false hlt
      go_wp2
      go_ret
      exact ⟨-1, .inr ⟨rfl, fun k hk => HF.out k (by omega)⟩, rfl, ⟨nd, rfl⟩⟩

/-! ### slices_ContainsFunc_int64_int64_167: function 167 -/
set_option maxHeartbeats 1000000 in
set_option maxRecDepth 100000 in
theorem cf_ints.pred (b : Bool) (n c0 : Nat) (A0 : Option Addr) (vs : Nat → Value) (q : Nat → Bool) (w : World) (hn : n ≤ 9223372036854775807) (hc : ∀ j, j < n → ∃ ad, A0 = some ad ∧ w.cell? (ad.add j) = some (vs j))
    (g : Nat) (lb : Array Value) (eg : ∀ args w, (callFunc g args).run Try.prog w = .ok (.enter g args) w)
    (hp : ∀ (nd j : Nat), j < n → Calls Try.prog g (#[vs j] ++ lb) (w.drewN nd) fun e w' => e = .returned (.bool (q j)) ∧ Drawn0 (w.drewN nd) w')
    (hb : (∃ k : Nat, k < n ∧ q k = true) ↔ b = true) :
    Calls Try.prog 167 #[.slice A0 n c0, .func (.func g) #[] lb] w fun e w' => e = .returned (.bool b) ∧ Drawn0 w w' := by
  have HC := Aside0.mk hc
  have HP := Aside0.mk hp
  have HBB := Aside0.mk hb
  clear hc hp hb
  go_enter Try.func167, Try.ntmps167
  go_wp2_with fail
  refine (if_ints.pred n c0 A0 vs q w hn HC.out g lb eg HP.out).mono ?_
  rintro e w' ⟨r, hr, rfl, ⟨nd, rfl⟩⟩
  have HR := Aside0.mk hr
  clear hr
  go_wp2
  go_ret
  refine ⟨?_, ⟨nd, rfl⟩⟩
  have e : decide (0 ≤ r) = b := by
    rcases HR.out with ⟨k, hk, h1, h2⟩ | ⟨h1, h2⟩
    · rw [HBB.out.1 ⟨k, hk, h2⟩, decide_eq_true]
      omega
    · cases hb : b
      · rw [decide_eq_false]
        omega
      · obtain ⟨k, hk, h3⟩ := HBB.out.2 hb
        rw [h2 k hk] at h3
        exact absurd h3 (by simp)
  rw [← e]
  rfl
theorem reads_ints {w : World} {A0 : Option Addr} {l0 : List Int} (hr0 : Kd.C (Kd.int .i64) w A0 l0.length l0) : ∀ j, j < l0.length → ∃ ad, A0 = some ad ∧ w.cell? (ad.add j) = some (.int .i64 (l0.getD j 0)) := by
  intro j hj
  obtain ⟨ad, e, hx⟩ := Kd.at_int hr0 (j : Int) (by omega) (by omega)
  exact ⟨ad, e, by rw [Int.toNat_natCast] at hx; rw [hx]; unfold rd; rw [Int.toNat_natCast]⟩

/-! ### impl_blocksOk: function 169 -/
def impl_blocksOk.l0 : Nat → List Int → Int → List Int → Int → Int → Option (Int × Bool)
  | 0, _, _, _, _, _ => none
  | k + 1, x0, x4, x7, x8, x9 => if x9 < x8 then (if 0 ≤ x9 then (if x9 < (x7.length : Int) then ((impl_within.f (rd x7 x9) 0 (wrap64 (x4 + 1))).bind fun t164 => (if t164 = true then (impl_blocksOk.l0 k x0 (mx x4 (rd x7 x9)) x7 x8 (wrap64 (x9 + 1))) else (some (0, false)))) else (none)) else (none)) else (some (wrap64 (x4 + 1), ((x0.length : Int) == 256)))
def impl_blocksOk.f (k : Nat) (l0 : List Int) : Option (Int × Bool) := impl_blocksOk.l0 k l0 (-1) l0 (l0.length : Int) 0
theorem impl_blocksOk.mono_l : ∀ k, (∀ y0 y1 y2 y3 y4, LeO (impl_blocksOk.l0 k y0 y1 y2 y3 y4) (impl_blocksOk.l0 (k + 1) y0 y1 y2 y3 y4))
  | 0 => fun _ _ _ _ _ r h => by simp [impl_blocksOk.l0] at h
  | k + 1 => by
    have ih0 := impl_blocksOk.mono_l k
    · intro y0 y1 y2 y3 y4
      unfold impl_blocksOk.l0
      repeat' first
      | (with_reducible exact ih0 _ _ _ _ _)
      | (with_reducible exact LeO.refl _)
      | (with_reducible exact LeO.none _)
      | (with_reducible refine LeO.ite ?_ ?_)
      | (with_reducible refine LeO.bind ?_ (fun _ => ?_))
      | exact ih0 _ _ _ _ _
      | exact LeO.none _
      | refine LeO.ite ?_ ?_
      | refine LeO.bind ?_ (fun _ => ?_)
theorem impl_blocksOk.mono : ∀ a0 k, LeO (impl_blocksOk.f k a0) (impl_blocksOk.f (k + 1) a0) := by
  intro a0 k
  have ih0 := impl_blocksOk.mono_l k
  unfold impl_blocksOk.f
  repeat' first
      | (with_reducible exact ih0 _ _ _ _ _)
      | (with_reducible exact LeO.refl _)
      | (with_reducible exact LeO.none _)
      | (with_reducible refine LeO.ite ?_ ?_)
      | (with_reducible refine LeO.bind ?_ (fun _ => ?_))
      | exact ih0 _ _ _ _ _
      | exact LeO.none _
      | refine LeO.ite ?_ ?_
      | refine LeO.bind ?_ (fun _ => ?_)
set_option maxHeartbeats 8000000 in
set_option maxRecDepth 100000 in
theorem impl_blocksOk.calls (k : Nat) (A0 : Option Addr) (c0 : Nat) (l0 : List Int) (r1 : Int) (r2 : Bool) (w : World) (hr0 : Kd.C (Kd.int .i64) w A0 l0.length l0) (hc0 : l0.length ≤ c0) (h : impl_blocksOk.f k l0 = some (r1, r2)) :
    Calls Try.prog 169 #[.slice A0 l0.length c0] w fun e w' => e = .returned (.tuple #[.int .i64 r1, .bool r2]) ∧ Below w.heap.size w w' := by
  have HR0 := Aside0.mk hr0
  have HC0 := Aside0.mk hc0
  clear hr0 hc0
  have HB := Aside0.mk (Below.refl w.heap.size w)
  have H : (impl_blocksOk.l0 k l0 (-1) l0 (l0.length : Int) 0) = some (r1, r2) := h
  clear h
  have H' := Aside0.mk H
  clear H
  go_enter Try.func169, Try.ntmps169
  go_wp2
  go_loopg [4, 9] k (fun kq v4 v9 w' => ∃ (x4_1 : Int) (x9_1 : Int), v4 = .int .i64 x4_1 ∧ v9 = .int .i64 x9_1 ∧ Aside0 (impl_blocksOk.l0 kq l0 x4_1 l0 (l0.length : Int) x9_1 = some (r1, r2)) ∧ Aside0 (kq ≤ k) ∧ Aside0 (Below w.heap.size w w'))
  case atStart => exact ⟨((-1)), (0), (by first | rfl | (simp; done) | (simp [*]; done)), (by first | rfl | (simp; done) | (simp [*]; done)), H', ⟨Nat.le_refl _⟩, ⟨by repeat (first | (with_reducible first | exact HB.out | apply below_alloc | apply pw_below_drewN | apply below_drew1) | exact HB.out)⟩⟩
  case round =>
    clear H'
    try clear c1
    obtain ⟨x4_1, x9_1, rfl, rfl, HA, HK1, HB⟩ := hrel
    cases gk with
    | zero => exact absurd HA.out (by simp [impl_blocksOk.l0])
    | succ k1 =>
      have H := HA.out
      clear HA
      simp only [impl_blocksOk.l0] at H
      by_cases c2 : x9_1 < (l0.length : Int)
      · rw [if_pos c2] at H
        have c2b0 : decide (x9_1 < (l0.length : Int)) = true := decide_eq_true c2
        clear c2
        by_cases c3 : 0 ≤ x9_1
        · rw [if_pos c3] at H
          have c3b0 : decide (0 ≤ x9_1) = true := decide_eq_true c3
          clear c3
          by_cases c4 : x9_1 < (l0.length : Int)
          · rw [if_pos c4] at H
            have c4b0 : decide (x9_1 < (l0.length : Int)) = true := decide_eq_true c4
            clear c4
            replace H := Option.bind_eq_some_iff.mp H
            obtain ⟨t164, A50, H⟩ := H
            replace H : (if t164 = true then (impl_blocksOk.l0 k1 l0 (mx x4_1 (rd l0 x9_1)) l0 (l0.length : Int) (wrap64 (x9_1 + 1))) else (some (0, false))) = some (r1, r2) := H
            have A5 := Aside0.mk A50
            clear A50
            by_cases c6 : t164 = true
            · subst c6
              have H1 : (impl_blocksOk.l0 k1 l0 (mx x4_1 (rd l0 x9_1)) l0 (l0.length : Int) (wrap64 (x9_1 + 1))) = some (r1, r2) := by rw [if_pos rfl] at H; exact H
              clear H
              have H := H1
              clear H1
              obtain ⟨ji7, hji7⟩ : ∃ j_ : Int, (mx x4_1 (rd l0 x9_1)) = j_ := ⟨_, rfl⟩
              replace H : (impl_blocksOk.l0 k1 l0 ji7 l0 (l0.length : Int) (wrap64 (x9_1 + 1))) = some (r1, r2) := by first | (rw [hji7] at H; exact H) | (simp only [hji7] at H ⊢; exact H)
              (try rw [hji7] at A5)
              have hji7_ : (if x4_1 < (rd l0 x9_1) then (rd l0 x9_1) else x4_1) = ji7 := hji7
              have H' := Aside0.mk H
              clear H
              have p163 : 0 ≤ (x9_1 : Int) := of_decide_eq_true (by first | (with_reducible assumption) | assumption)
              have q163 : x9_1 < (l0.length : Int) := of_decide_eq_true (by first | (with_reducible assumption) | assumption)
              obtain ⟨ad163, e163, hx163_0⟩ := Kd.at_int HR0.out x9_1 p163 q163
              cases e163
              replace hx163_0 := (HB.out.cell (World.block_lt_of_cell? w _ hx163_0)).trans hx163_0
              replace p163 := eq_true p163
              replace q163 := eq_true q163
              go_wp2_with (first | ((with_reducible refine gate_callee (f := 110) rfl ?_); refine goesL_ (some 16) rfl rfl Try.func110 (by kernel_rfl) rfl #[.int .i64 (rd l0 x9_1), .int .i64 0, .int .i64 (wrap64 (x4_1 + 1))] rfl (by (try simp only [List.map_toArray, List.map_cons, List.map_nil]); first | done | rfl | (simp only [List.length_drop, List.length_take]; rfl)) ?_; (with_reducible refine (impl_within.calls (rd l0 x9_1) 0 (wrap64 (x4_1 + 1)) true _ A5.out).mono ?_); rintro e w' ⟨rfl, ⟨nd, rfl⟩⟩; refine ⟨_, rfl, ?_⟩))
              go_roundg k1
              case measure => have := HK1.out; omega
              case rel => exact ⟨(ji7), (wrap64 (x9_1 + 1)), (by first | rfl | (simp; done) | (simp only [← hji7] <;> (first | rfl | simp)) | (simp [*]; done)), (by first | rfl | (simp; done) | (simp [*]; done)), H', ⟨by have := HK1.out; omega⟩, ⟨by repeat (first | (with_reducible first | exact HB.out | apply below_alloc | apply pw_below_drewN | apply below_drew1) | exact HB.out)⟩⟩
            · replace c6 := Bool.eq_false_iff.mpr c6
              subst c6
              have H1 : (some (0, false)) = some (r1, r2) := by rw [if_neg (show ¬ (false = true) by decide)] at H; exact H
              clear H
              have H := H1
              clear H1
              simp only [Option.some.injEq, Prod.mk.injEq] at H
              obtain ⟨rfl, rfl⟩ := H
              have p163 : 0 ≤ (x9_1 : Int) := of_decide_eq_true (by first | (with_reducible assumption) | assumption)
              have q163 : x9_1 < (l0.length : Int) := of_decide_eq_true (by first | (with_reducible assumption) | assumption)
              obtain ⟨ad163, e163, hx163_0⟩ := Kd.at_int HR0.out x9_1 p163 q163
              cases e163
              replace hx163_0 := (HB.out.cell (World.block_lt_of_cell? w _ hx163_0)).trans hx163_0
              replace p163 := eq_true p163
              replace q163 := eq_true q163
              go_wp2_with (first | ((with_reducible refine gate_callee (f := 110) rfl ?_); refine goesL_ (some 16) rfl rfl Try.func110 (by kernel_rfl) rfl #[.int .i64 (rd l0 x9_1), .int .i64 0, .int .i64 (wrap64 (x4_1 + 1))] rfl (by (try simp only [List.map_toArray, List.map_cons, List.map_nil]); first | done | rfl | (simp only [List.length_drop, List.length_take]; rfl)) ?_; (with_reducible refine (impl_within.calls (rd l0 x9_1) 0 (wrap64 (x4_1 + 1)) false _ A5.out).mono ?_); rintro e w' ⟨rfl, ⟨nd, rfl⟩⟩; refine ⟨_, rfl, ?_⟩))
              go_ret2
              exact ⟨by first | rfl | (simp [errW_none, errW_some] <;> rfl) | (simp [*, errW_none, errW_some] <;> rfl), by repeat (first | (with_reducible first | exact HB.out | apply below_alloc | apply pw_below_drewN | apply below_drew1) | exact HB.out)⟩
          · rw [if_neg c4] at H
            exact absurd H (by simp)
        · rw [if_neg c3] at H
          exact absurd H (by simp)
      · rw [if_neg c2] at H
        have c2b0 : decide (x9_1 < (l0.length : Int)) = false := decide_eq_false c2
        clear c2
        simp only [Option.some.injEq, Prod.mk.injEq] at H
        obtain ⟨rfl, rfl⟩ := H
        go_wp2
        go_ret2
        exact ⟨by first | rfl | (simp [errW_none, errW_some] <;> rfl) | (simp [*, errW_none, errW_some] <;> rfl), by repeat (first | (with_reducible first | exact HB.out | apply below_alloc | apply pw_below_drewN | apply below_drew1) | exact HB.out)⟩

end Go.Proofs.Ytbijmhooamjgoaa.PFnExactPack
