-- Written by this session's own program (wip/pr.py) over the kit's printer; contracts that the printer does not know are given by hand.
import Derived.Test.YtbijmhooamjgoaaPFnExactPackx0
import Derived.Test.YtbijmhooamjgoaaPFnExactPackx5
import Derived.Test.YtbijmhooamjgoaaPFnExactPackx6
namespace Go.Proofs.Ytbijmhooamjgoaa.PFnExactPack
open Go.RowKit Go.Proofs.YtbijmhooamjgoaaW.PrintWords Go.Proofs.YtbijmhooamjgoaaW.PrintLast Go.Proofs.YtbijmhooamjgoaaW.PrintMore
attribute [local go_sem] max2_int min2_int max_two min_two max_three min_three max_four min_four   -- for this text's walks alone
set_option linter.unusedVariables false
set_option linter.unusedSimpArgs false

/-! ### impl_Pack: function 49 -/
section
open Go.Proofs.Ytbijmhooamjgoaa.Kit
def impl_Pack.l0 : Nat → List (List Int) → Nat → List Int → List Int → List Int → List Int → Option (List Int × List Int × List Int × List Int × Bool)
  | 0, _, _, _, _, _, _ => none
  | k + 1, x, s, bs, df, ck, vl => if s < x.length then ((impl_mostOften.f (x.getD s [])).bind fun u => ((impl_baseFor.f k ck (marksI (x.getD s []) u (x.getD s []).length)).bind fun b =>
      if (x.getD s []).length ≤ 1000000 ∧ 0 ≤ b ∧ b ≤ 1000000000 ∧ vl.length = ck.length ∧ ck.length ≤ 2000000000 ∧ bs.length ≤ 1000000000 ∧ df.length ≤ 1000000000 then
        (if (placeM (s : Int) (x.getD s []) b (marksI (x.getD s []) u (x.getD s []).length) (ck, vl)).1.length > 200000 then some ([], [], [], [], false)
         else impl_Pack.l0 k x (s + 1) (bs ++ [b]) (df ++ [u]) (placeM (s : Int) (x.getD s []) b (marksI (x.getD s []) u (x.getD s []).length) (ck, vl)).1 (placeM (s : Int) (x.getD s []) b (marksI (x.getD s []) u (x.getD s []).length) (ck, vl)).2)
      else none))
      else some (bs, df, ck, vl, true)
def impl_Pack.f (k : Nat) (l0_0 : List Int) (l0_1 : List (List Int)) (l0_2 : List Int) : Option (List Int × List Int × List Int × List Int × List Int × List Int × Bool) :=
  (impl_DfaOk.f k l0_0 l0_1 l0_2).bind fun ok => if ok = true then ((slices_Clone_int64_int64.f l0_0).bind fun bl => ((slices_Clone_int64_int64.f l0_2).bind fun ac => ((impl_Pack.l0 k l0_1 0 [] [] [] []).bind fun q => some (if q.2.2.2.2 = true then (bl, q.1, q.2.1, q.2.2.1, q.2.2.2.1, ac, true) else ([], [], [], [], [], [], false))))) else some ([], [], [], [], [], [], false)
theorem impl_Pack.mono_l (x : List (List Int)) : ∀ k, ∀ s bs df ck vl, LeO (impl_Pack.l0 k x s bs df ck vl) (impl_Pack.l0 (k + 1) x s bs df ck vl)
  | 0 => fun _ _ _ _ _ r h => by simp [impl_Pack.l0] at h
  | k + 1 => by
    have ih := impl_Pack.mono_l x k
    intro s bs df ck vl
    rw [impl_Pack.l0, impl_Pack.l0]
    exact LeO.ite (LeO.bind (LeO.refl _) (fun _ => LeO.bind (impl_baseFor.mono _ _ k) (fun _ => LeO.ite (LeO.ite (LeO.refl _) (ih _ _ _ _ _)) (LeO.refl _)))) (LeO.refl _)
theorem impl_Pack.mono : ∀ a0 a1 a2 k, LeO (impl_Pack.f k a0 a1 a2) (impl_Pack.f (k + 1) a0 a1 a2) := by
  intro a0 a1 a2 k
  unfold impl_Pack.f
  exact LeO.bind (impl_DfaOk.mono _ _ _ k) (fun _ => LeO.ite (LeO.bind (LeO.refl _) (fun _ => LeO.bind (LeO.refl _) (fun _ => LeO.bind (impl_Pack.mono_l _ k _ _ _ _ _) (fun _ => LeO.refl _)))) (LeO.refl _))

theorem impl_Pack.need3 : (rtab .any (opsOf Try.f49 3)).2.map Prod.fst = [[], [0], [1], [], [3], [4, 2], [2, 5], [], [7, 6, 5, 0, 1, 2, 3, 4, 5, 6, 7]] := by kernel_rfl
theorem impl_Pack.dst3 : (opsOf Try.f49 3).toList.map Oper.dst = [some 18, some 19, some 20, some 21, some 22, some 23, some 24, some 4, none] := by kernel_rfl
theorem impl_Pack.need15 : (rtab .any (opsOf Try.f49 15)).2.map Prod.fst = [[], [0], [], [2], [1, 3], [], [5], [], [7], [6, 8, 4], [0, 1, 2, 3, 4, 5, 6], [10, 4, 9, 0, 1, 2, 3, 4, 5, 6], [0, 1, 2, 3, 4, 5, 6, 7, 8, 9, 10, 11], [12, 9, 11, 0, 1, 2, 3, 4, 5, 6, 7, 8, 9, 10, 11]] := by kernel_rfl
theorem impl_Pack.dst15 : (opsOf Try.f49 15).toList.map Oper.dst = [some 55, some 56, some 57, some 58, some 59, some 60, some 61, some 62, some 63, some 64, some 65, none, some 66, none] := by kernel_rfl
theorem impl_Pack.need20 : (rtab .any (opsOf Try.f49 20)).2.map Prod.fst = [[], [0], [], [1, 2], [], [4], [], [5, 6, 3], [0, 1, 2, 3, 4, 5], [8, 3, 7, 0, 1, 2, 3, 4, 5], [0, 1, 2, 3, 4, 5, 6, 7, 8, 9], [10, 7, 9, 0, 1, 2, 3, 4, 5, 6, 7, 8, 9]] := by kernel_rfl
theorem impl_Pack.dst20 : (opsOf Try.f49 20).toList.map Oper.dst = [some 80, some 81, some 82, some 83, some 84, some 85, some 86, some 87, some 88, none, some 89, none] := by kernel_rfl
theorem impl_Pack.need21 : (rtab .any (opsOf Try.f49 21)).2.map Prod.fst = [[], [0], [], [], [2, 3], [], [5], [], [], [7, 8], [], [], [], [11, 12], [13], [1, 4, 0, 1, 2, 3, 4, 10, 14], [15, 10, 0, 1, 2, 3, 4, 10, 14], [6, 9, 0, 1, 2, 3, 4, 5, 6, 7, 8, 9, 10, 11, 12, 13, 14, 15, 16], [17, 14, 16, 0, 1, 2, 3, 4, 5, 6, 7, 8, 9, 10, 11, 12, 13, 14, 15, 16]] := by kernel_rfl
theorem impl_Pack.dst21 : (opsOf Try.f49 21).toList.map Oper.dst = [some 90, some 91, some 92, some 93, some 94, some 95, some 96, some 97, some 98, some 99, some 100, some 101, some 102, some 103, some 104, some 105, none, some 106, none] := by kernel_rfl
set_option maxHeartbeats 8000000 in
set_option maxRecDepth 100000 in
theorem impl_Pack.calls (k : Nat) (A0_0 : Option Addr) (c0_0 : Nat) (l0_0 : List Int) (A0_1 : Option Addr) (c0_1 : Nat) (l0_1 : List (List Int)) (A0_2 : Option Addr) (c0_2 : Nat) (l0_2 : List Int) (r1 r2 r3 r4 r5 r6 : List Int) (r7 : Bool) (w : World) (hr0_0 : Kd.C (Kd.int .i64) w A0_0 l0_0.length l0_0) (hc0_0 : l0_0.length ≤ c0_0) (hr0_1 : Kd.C (Kd.slice 2 (Kd.int .i64)) w A0_1 l0_1.length l0_1) (hc0_1 : l0_1.length ≤ c0_1) (hr0_2 : Kd.C (Kd.int .i64) w A0_2 l0_2.length l0_2) (hc0_2 : l0_2.length ≤ c0_2) (h : impl_Pack.f k l0_0 l0_1 l0_2 = some (r1, r2, r3, r4, r5, r6, r7)) :
    Calls Try.prog 49 #[.agg #[.slice A0_0 l0_0.length c0_0, .slice A0_1 l0_1.length c0_1, .slice A0_2 l0_2.length c0_2]] w fun e w' => ∃ v0_ v1_ v2_ v3_ v4_ v5_ : Value, e = .returned (.tuple #[.agg #[v0_, v1_, v2_, v3_, v4_, v5_], .bool r7]) ∧ Kd.R (Kd.int .i64) 2 w' w.heap.size (fun k_ => some k_ ≠ (v1_ : Value).ownBlock ∧ some k_ ≠ (v2_ : Value).ownBlock ∧ some k_ ≠ (v3_ : Value).ownBlock ∧ some k_ ≠ (v4_ : Value).ownBlock ∧ some k_ ≠ (v5_ : Value).ownBlock) v0_ r1 ∧ Kd.R (Kd.int .i64) 2 w' w.heap.size (fun k_ => some k_ ≠ (v0_ : Value).ownBlock ∧ some k_ ≠ (v2_ : Value).ownBlock ∧ some k_ ≠ (v3_ : Value).ownBlock ∧ some k_ ≠ (v4_ : Value).ownBlock ∧ some k_ ≠ (v5_ : Value).ownBlock) v1_ r2 ∧ Kd.R (Kd.int .i64) 2 w' w.heap.size (fun k_ => some k_ ≠ (v0_ : Value).ownBlock ∧ some k_ ≠ (v1_ : Value).ownBlock ∧ some k_ ≠ (v3_ : Value).ownBlock ∧ some k_ ≠ (v4_ : Value).ownBlock ∧ some k_ ≠ (v5_ : Value).ownBlock) v2_ r3 ∧ Kd.R (Kd.int .i64) 2 w' w.heap.size (fun k_ => some k_ ≠ (v0_ : Value).ownBlock ∧ some k_ ≠ (v1_ : Value).ownBlock ∧ some k_ ≠ (v2_ : Value).ownBlock ∧ some k_ ≠ (v4_ : Value).ownBlock ∧ some k_ ≠ (v5_ : Value).ownBlock) v3_ r4 ∧ Kd.R (Kd.int .i64) 2 w' w.heap.size (fun k_ => some k_ ≠ (v0_ : Value).ownBlock ∧ some k_ ≠ (v1_ : Value).ownBlock ∧ some k_ ≠ (v2_ : Value).ownBlock ∧ some k_ ≠ (v3_ : Value).ownBlock ∧ some k_ ≠ (v5_ : Value).ownBlock) v4_ r5 ∧ Kd.R (Kd.int .i64) 2 w' w.heap.size (fun k_ => some k_ ≠ (v0_ : Value).ownBlock ∧ some k_ ≠ (v1_ : Value).ownBlock ∧ some k_ ≠ (v2_ : Value).ownBlock ∧ some k_ ≠ (v3_ : Value).ownBlock ∧ some k_ ≠ (v4_ : Value).ownBlock) v5_ r6 ∧ Below w.heap.size w w' := by
  have hu53 := Try.underlying53
  have hu74 := Try.underlying74
  have HR0 := Aside0.mk hr0_0
  have HC0 := Aside0.mk hc0_0
  have HR1 := Aside0.mk hr0_1
  have HC1 := Aside0.mk hc0_1
  have HR2 := Aside0.mk hr0_2
  have HC2 := Aside0.mk hc0_2
  clear hr0_0 hc0_0 hr0_1 hc0_1 hr0_2 hc0_2
  unfold impl_Pack.f at h
  obtain ⟨b, hb, hh⟩ := Option.bind_eq_some_iff.1 h
  have HOK := Aside0.mk hb
  have HH := Aside0.mk hh
  clear hb hh h
  obtain ⟨W, hW⟩ : ∃ W, W = ((w.alloc (.cells #[.slice A0_0 l0_0.length c0_0, .slice A0_1 l0_1.length c0_1, .slice A0_2 l0_2.length c0_2] 53)).alloc (.cells #[.slice none 0 0, .slice none 0 0, .slice none 0 0, .slice none 0 0, .slice none 0 0, .slice none 0 0] 74)) := ⟨_, rfl⟩
  have S := Aside0.mk (show Hp w.heap.size w W [fB w.heap.size (w.heap.size + 1) #[.slice none 0 0, .slice none 0 0, .slice none 0 0, .slice none 0 0, .slice none 0 0, .slice none 0 0] 74, fB w.heap.size w.heap.size #[.slice A0_0 l0_0.length c0_0, .slice A0_1 l0_1.length c0_1, .slice A0_2 l0_2.length c0_2] 53] from by
    rw [hW]
    have q := (((Hp.start w).box #[.slice A0_0 l0_0.length c0_0, .slice A0_1 l0_1.length c0_1, .slice A0_2 l0_2.length c0_2] 53).box #[.slice none 0 0, .slice none 0 0, .slice none 0 0, .slice none 0 0, .slice none 0 0, .slice none 0 0] 74)
    rwa [show (w.alloc (.cells #[.slice A0_0 l0_0.length c0_0, .slice A0_1 l0_1.length c0_1, .slice A0_2 l0_2.length c0_2] 53)).heap.size = w.heap.size + 1 by simp] at q)
  go_enter Try.func49, Try.ntmps49
  go_upto_region 1 with fail
  rw [← hW]
  clear hW
  have z0 := S.out.cell 1 0 rfl rfl
  have z1 := S.out.cell 1 1 rfl rfl
  have z2 := S.out.cell 1 2 rfl rfl
  go_wp2_with fail
  refine (impl_DfaOk.calls k A0_0 c0_0 l0_0 A0_1 c0_1 l0_1 A0_2 c0_2 l0_2 b _ (Kd.C_below HR0.out S.out.below) HC0.out (Kd.C_below HR1.out S.out.below) HC1.out (Kd.C_below HR2.out S.out.below) HC2.out HOK.out).mono ?_
  rintro e w1 ⟨rfl, hb⟩
  replace S := Aside0.mk (S.out.go hb)
  clear hb z0 z1 z2
  cases b with
  | false =>
    have hr := HH.out
    rw [if_neg (by decide)] at hr
    simp only [Option.some.injEq, Prod.mk.injEq] at hr
    obtain ⟨rfl, rfl, rfl, rfl, rfl, rfl, rfl⟩ := hr
    clear HH
    have z0 := S.out.cell 0 0 rfl rfl
    have z1 := S.out.cell 0 1 rfl rfl
    have z2 := S.out.cell 0 2 rfl rfl
    have z3 := S.out.cell 0 3 rfl rfl
    have z4 := S.out.cell 0 4 rfl rfl
    have z5 := S.out.cell 0 5 rfl rfl
    have f0 := S.out.frozen 0 0 rfl
    have f1 := S.out.frozen 0 1 rfl
    have f2 := S.out.frozen 0 2 rfl
    have f3 := S.out.frozen 0 3 rfl
    have f4 := S.out.frozen 0 4 rfl
    have f5 := S.out.frozen 0 5 rfl
    go_wp2
    have S1 := Aside0.mk (((((((S.out).put 0 0 (u := .slice none 0 0) rfl rfl).put 0 1 (u := .slice none 0 0) rfl rfl).put 0 2 (u := .slice none 0 0) rfl rfl).put 0 3 (u := .slice none 0 0) rfl rfl).put 0 4 (u := .slice none 0 0) rfl rfl).put 0 5 (u := .slice none 0 0) rfl rfl)
    refine bodyPost_ret (results_ct rfl _ _ (w.heap.size + 1) 74 #[.slice none 0 0, .slice none 0 0, .slice none 0 0, .slice none 0 0, .slice none 0 0, .slice none 0 0] (0, 0) _ rfl (S1.out.blk 0 rfl) Try.underlying74 rfl (by kernel_rfl)) rfl ?_
    exact ⟨_, _, _, _, _, _, rfl, Kd.R_nil _ _ _ _ _, Kd.R_nil _ _ _ _ _, Kd.R_nil _ _ _ _ _, Kd.R_nil _ _ _ _ _, Kd.R_nil _ _ _ _ _, Kd.R_nil _ _ _ _ _, S1.out.below⟩
  | true =>
    have hr := HH.out
    rw [if_pos rfl] at hr
    replace hr := Option.bind_eq_some_iff.1 hr
    obtain ⟨bl, hbl, hr⟩ := hr
    replace hr := Option.bind_eq_some_iff.1 hr
    obtain ⟨ac, hac, hr⟩ := hr
    replace hr := Option.bind_eq_some_iff.1 hr
    obtain ⟨⟨o1, o2, o3, o4, o5⟩, hl, hr⟩ := hr
    have HBL := Aside0.mk hbl
    have HAC := Aside0.mk hac
    have HL := Aside0.mk hl
    have HRES := Aside0.mk hr
    clear HH hr hbl hac hl
    go_wp2_with fail

    refine mask_ (n := 9) (fun l v W => (l 0 = true → v 0 = .pointer (some ⟨w.heap.size, 0, none⟩)) ∧ (l 1 = true → v 1 = .slice A0_0 l0_0.length c0_0) ∧ (l 3 = true → v 3 = .pointer (some ⟨w.heap.size, 2, none⟩)) ∧ (l 4 = true → v 4 = .slice A0_2 l0_2.length c0_2) ∧ (l 6 = true → v 6 = .agg #[v 2, .slice none 0 0, .slice none 0 0, .slice none 0 0, .slice none 0 0, v 5]) ∧ Hp w.heap.size w W [cf (l 7) (fV w.heap.size (v 7) (bif l 8 then #[v 2, .slice none 0 0, .slice none 0 0, .slice none 0 0, .slice none 0 0, v 5] else #[.slice none 0 0, .slice none 0 0, .slice none 0 0, .slice none 0 0, .slice none 0 0, .slice none 0 0]) 74) fT, cf (l 5) (fR (Kd.int .i64) 2 w.heap.size (v 5) ac) fT, cf (l 2) (fR (Kd.int .i64) 2 w.heap.size (v 2) bl) fT, fB w.heap.size (w.heap.size + 1) #[.slice none 0 0, .slice none 0 0, .slice none 0 0, .slice none 0 0, .slice none 0 0, .slice none 0 0] 74, fB w.heap.size w.heap.size #[.slice A0_0 l0_0.length c0_0, .slice A0_1 l0_1.length c0_1, .slice A0_2 l0_2.length c0_2] 53]) [[], [0], [1], [], [3], [4, 2], [2, 5], [], [7, 6, 5, 0, 1, 2, 3, 4, 5, 6, 7]] [some 18, some 19, some 20, some 21, some 22, some 23, some 24, some 4, none] 115 (by kernel_rfl) impl_Pack.need3 impl_Pack.dst3 (by decide) rfl ⟨fun h => absurd h (by decide), fun h => absurd h (by decide), fun h => absurd h (by decide), fun h => absurd h (by decide), fun h => absurd h (by decide), ?_⟩ ⟨?_, ?_, ?_, ?_, ?_, ?_, ?_, ?_, ?_, trivial⟩ (fun v W hJ => ?_)
    · exact S.out.drew.blank.blank.blank
    · intro l v W zb hzb hsz hJ hi hn hc K hK
      have HZ := Aside0.mk hzb; clear hzb
      obtain ⟨p0, p1, p3, p4, p6, S⟩ := hJ
      have e1 : zb.tmps.getD 1 undef = .pointer (some ⟨w.heap.size, 0, none⟩) := by rw [HZ.out, putIf_other _ 0 _ rfl]; rfl
      refine yields_ (N := some 18) (x := .pointer (some ⟨w.heap.size, 0, none⟩)) rfl rfl ?_ (hK.out _ _ ⟨fun _ => rfl, p1, p3, p4, p6, S⟩)
      clear hK HZ hn hc p0 p1 p3 p4 p6; (try simp only [Array.getD_eq_getD_getElem?] at *); go_simp; try with_reducible rfl
    · intro l v W zb hzb hsz hJ hi hn hc K hK
      have HZ := Aside0.mk hzb; clear hzb
      obtain ⟨p0, p1, p3, p4, p6, S⟩ := hJ
      have e18 : zb.tmps.getD 18 undef = .pointer (some ⟨w.heap.size, 0, none⟩) := by rw [HZ.out, putIf_at (hn 0 (by decide)) _ 0 _ (Nat.zero_le _) rfl rfl (by rw [hsz]; decide)]; exact p0 (hn 0 (by decide))
      have S0 := S
      rw [hc 2 1 (by decide) hi] at S
      rw [hc 8 1 (by decide) hi] at S
      have z := S.cell 4 0 rfl rfl
      refine yields_ (N := some 19) (x := .slice A0_0 l0_0.length c0_0) rfl rfl ?_ (hK.out _ _ ⟨p0, fun _ => rfl, p3, p4, p6, S0⟩)
      clear hK HZ hn hc p0 p1 p3 p4 p6; (try simp only [Array.getD_eq_getD_getElem?] at *); go_simp; try with_reducible rfl
    · intro l v W zb hzb hsz hJ hi hn hc K hK
      have HZ := Aside0.mk hzb; clear hzb
      obtain ⟨p0, p1, p3, p4, p6, S⟩ := hJ
      have e19 : zb.tmps.getD 19 undef = .slice A0_0 l0_0.length c0_0 := by rw [HZ.out, putIf_at (hn 1 (by decide)) _ 0 _ (Nat.zero_le _) rfl rfl (by rw [hsz]; decide)]; exact p1 (hn 1 (by decide))
      rw [hc 5 2 (by decide) hi] at S
      rw [hc 8 2 (by decide) hi] at S
      rw [hi] at S
      refine goes_ Try.func122 (by kernel_rfl) rfl #[.slice A0_0 l0_0.length c0_0] rfl rfl rfl (by simp only [List.map_toArray, List.map_cons, List.map_nil]; first | done | (show #[zb.tmps.getD 19 undef] = _; simp only [e19])) ?_
      refine (slices_Clone_int64_int64.calls A0_0 c0_0 l0_0 bl W (Kd.C_below HR0.out S.below) HC0.out HBL.out).mono ?_
      rintro e w' ⟨v0_, rfl, ho, hb'⟩
      refine ⟨_, rfl, hK.out _ _ ⟨p0, p1, p3, p4, no_ (hc 6 2 (by decide) hi), ?_⟩⟩
      rw [show upd l 2 5 = false from hc 5 2 (by decide) hi, show upd l 2 8 = false from hc 8 2 (by decide) hi]
      exact S.fill 2 rfl hb' (fR (Kd.int .i64) 2 w.heap.size v0_ bl) (hp_new ho S.1)
    · intro l v W zb hzb hsz hJ hi hn hc K hK
      have HZ := Aside0.mk hzb; clear hzb
      obtain ⟨p0, p1, p3, p4, p6, S⟩ := hJ
      have e1 : zb.tmps.getD 1 undef = .pointer (some ⟨w.heap.size, 0, none⟩) := by rw [HZ.out, putIf_other _ 0 _ rfl]; rfl
      refine yields_ (N := some 21) (x := .pointer (some ⟨w.heap.size, 2, none⟩)) rfl rfl ?_ (hK.out _ _ ⟨p0, p1, fun _ => rfl, p4, p6, S⟩)
      clear hK HZ hn hc p0 p1 p3 p4 p6; (try simp only [Array.getD_eq_getD_getElem?] at *); go_simp; try with_reducible rfl
    · intro l v W zb hzb hsz hJ hi hn hc K hK
      have HZ := Aside0.mk hzb; clear hzb
      obtain ⟨p0, p1, p3, p4, p6, S⟩ := hJ
      have e21 : zb.tmps.getD 21 undef = .pointer (some ⟨w.heap.size, 2, none⟩) := by rw [HZ.out, putIf_at (hn 3 (by decide)) _ 0 _ (Nat.zero_le _) rfl rfl (by rw [hsz]; decide)]; exact p3 (hn 3 (by decide))
      have S0 := S
      rw [hc 5 4 (by decide) hi] at S
      rw [hc 8 4 (by decide) hi] at S
      have z := S.cell 4 2 rfl rfl
      refine yields_ (N := some 22) (x := .slice A0_2 l0_2.length c0_2) rfl rfl ?_ (hK.out _ _ ⟨p0, p1, p3, fun _ => rfl, p6, S0⟩)
      clear hK HZ hn hc p0 p1 p3 p4 p6; (try simp only [Array.getD_eq_getD_getElem?] at *); go_simp; try with_reducible rfl
    · intro l v W zb hzb hsz hJ hi hn hc K hK
      have HZ := Aside0.mk hzb; clear hzb
      obtain ⟨p0, p1, p3, p4, p6, S⟩ := hJ
      have e22 : zb.tmps.getD 22 undef = .slice A0_2 l0_2.length c0_2 := by rw [HZ.out, putIf_at (hn 4 (by decide)) _ 0 _ (Nat.zero_le _) rfl rfl (by rw [hsz]; decide)]; exact p4 (hn 4 (by decide))
      rw [hc 8 5 (by decide) hi] at S
      rw [hn 2 (by decide)] at S
      rw [hi] at S
      refine goes_ Try.func122 (by kernel_rfl) rfl #[.slice A0_2 l0_2.length c0_2] rfl rfl rfl (by simp only [List.map_toArray, List.map_cons, List.map_nil]; first | done | (show #[zb.tmps.getD 22 undef] = _; simp only [e22])) ?_
      refine (slices_Clone_int64_int64.calls A0_2 c0_2 l0_2 ac W (Kd.C_below HR2.out S.below) HC2.out HAC.out).mono ?_
      rintro e w' ⟨v0_, rfl, ho, hb'⟩
      refine ⟨_, rfl, hK.out _ _ ⟨p0, p1, p3, p4, no_ (hc 6 5 (by decide) hi), ?_⟩⟩
      rw [show upd l 5 8 = false from hc 8 5 (by decide) hi, show upd l 5 2 = true from hn 2 (by decide)]
      exact S.fill 1 rfl hb' (fR (Kd.int .i64) 2 w.heap.size v0_ ac) (hp_new ho S.1)
    · intro l v W zb hzb hsz hJ hi hn hc K hK
      have HZ := Aside0.mk hzb; clear hzb
      obtain ⟨p0, p1, p3, p4, p6, S⟩ := hJ
      have e20 : zb.tmps.getD 20 undef = v 2 := by rw [HZ.out, putIf_at (hn 2 (by decide)) _ 0 _ (Nat.zero_le _) rfl rfl (by rw [hsz]; decide)]
      have e23 : zb.tmps.getD 23 undef = v 5 := by rw [HZ.out, putIf_at (hn 5 (by decide)) _ 0 _ (Nat.zero_le _) rfl rfl (by rw [hsz]; decide)]
      have S0 := S
      rw [hc 8 6 (by decide) hi] at S
      rw [hn 2 (by decide)] at S
      rw [hn 5 (by decide)] at S
      obtain ⟨A2, c2, q2⟩ := S.sliceC 2 rfl rfl
      obtain ⟨A5, c5, q5⟩ := S.sliceC 1 rfl rfl
      refine yields_ (N := some 24) (x := .agg #[v 2, .slice none 0 0, .slice none 0 0, .slice none 0 0, .slice none 0 0, v 5]) rfl rfl ?_ (hK.out _ _ ⟨p0, p1, p3, p4, fun _ => rfl, S0⟩)
      rw [q2] at e20
      rw [q5] at e23
      rw [q2, q5]
      clear hK HZ hn hc p0 p1 p3 p4 p6; (try simp only [Array.getD_eq_getD_getElem?] at *); go_simp; try with_reducible rfl
    · intro l v W zb hzb hsz hJ hi hn hc K hK
      have HZ := Aside0.mk hzb; clear hzb
      obtain ⟨p0, p1, p3, p4, p6, S⟩ := hJ
      rw [hc 8 7 (by decide) hi] at S
      rw [hi] at S
      refine st_boxV S 0 rfl rfl rfl (by go_simp; rfl) (fun x w1 S1 => hK.out _ _ ⟨p0, p1, p3, p4, p6, ?_⟩)
      rw [show upd l 7 8 = false from hc 8 7 (by decide) hi]
      exact S1
    · intro l v W zb hzb hsz hJ hi hn hc K hK
      have HZ := Aside0.mk hzb; clear hzb
      obtain ⟨p0, p1, p3, p4, p6, S⟩ := hJ
      have e4 : zb.tmps.getD 4 undef = v 7 := by rw [HZ.out, putIf_at (hn 7 (by decide)) _ 0 _ (Nat.zero_le _) rfl rfl (by rw [hsz]; decide)]
      have e24 : zb.tmps.getD 24 undef = .agg #[v 2, .slice none 0 0, .slice none 0 0, .slice none 0 0, .slice none 0 0, v 5] := by rw [HZ.out, putIf_at (hn 6 (by decide)) _ 0 _ (Nat.zero_le _) rfl rfl (by rw [hsz]; decide)]; exact p6 (hn 6 (by decide))
      rw [hn 2 (by decide)] at S
      rw [hn 5 (by decide)] at S
      rw [hn 7 (by decide)] at S
      rw [hi] at S
      obtain ⟨A2, c2, q2⟩ := S.sliceC 2 rfl rfl
      obtain ⟨A5, c5, q5⟩ := S.sliceC 1 rfl rfl
      rw [q2, q5] at S
      obtain ⟨g, eg, S1⟩ := S.varC 0 rfl rfl
      have z0 := S1.cell 0 0 rfl rfl
      have z1 := S1.cell 0 1 rfl rfl
      have z2 := S1.cell 0 2 rfl rfl
      have z3 := S1.cell 0 3 rfl rfl
      have z4 := S1.cell 0 4 rfl rfl
      have z5 := S1.cell 0 5 rfl rfl
      have f0 := S1.frozen 0 0 rfl
      have f1 := S1.frozen 0 1 rfl
      have f2 := S1.frozen 0 2 rfl
      have f3 := S1.frozen 0 3 rfl
      have f4 := S1.frozen 0 4 rfl
      have f5 := S1.frozen 0 5 rfl
      rw [eg] at e4
      rw [q2, q5] at e24
      have hk := hK.out
      have h2 := hn 2 (by decide)
      have h5 := hn 5 (by decide)
      have h7 := hn 7 (by decide)
      clear HZ hK hn hc
      simp only [Array.getD_eq_getD_getElem?] at e4 e24
      refine st_run (w1 := ?_) rfl rfl (by go_simp; rfl) ?_
      refine hk undef _ ⟨p0, p1, p3, p4, p6, ?_⟩
      rw [show upd l 8 2 = true from h2, show upd l 8 5 = true from h5, show upd l 8 7 = true from h7, show updv v 8 undef 2 = _ from q2, show updv v 8 undef 5 = _ from q5, show updv v 8 undef 7 = _ from eg]
      exact (((((((S1).put 0 0 (u := .slice A2 bl.length c2) rfl rfl).put 0 1 (u := .slice none 0 0) rfl rfl).put 0 2 (u := .slice none 0 0) rfl rfl).put 0 3 (u := .slice none 0 0) rfl rfl).put 0 4 (u := .slice none 0 0) rfl rfl).put 0 5 (u := .slice A5 ac.length c5) rfl rfl).varB 0 rfl
    clear S
    obtain ⟨-, -, -, -, -, S⟩ := hJ
    obtain ⟨A2, c2, q2⟩ := S.sliceC 2 rfl rfl
    obtain ⟨A5, c5, q5⟩ := S.sliceC 1 rfl rfl
    rw [q2, q5] at S
    obtain ⟨g4, q7, S1⟩ := S.varC 0 rfl rfl
    have z1 := S1.cell 4 1 rfl rfl
    replace S := Aside0.mk ((((((show Hp w.heap.size w W ([fB w.heap.size g4 #[(.slice A2 bl.length c2), .slice none 0 0, .slice none 0 0, .slice none 0 0, .slice none 0 0, (.slice A5 ac.length c5)] 74, fR (Kd.int .i64) 2 w.heap.size (.slice A5 ac.length c5) ac, fR (Kd.int .i64) 2 w.heap.size (.slice A2 bl.length c2) bl, fB w.heap.size (w.heap.size + 1) #[.slice none 0 0, .slice none 0 0, .slice none 0 0, .slice none 0 0, .slice none 0 0, .slice none 0 0] 74] ++ [fB w.heap.size w.heap.size #[.slice A0_0 l0_0.length c0_0, .slice A0_1 l0_1.length c0_1, .slice A0_2 l0_2.length c0_2] 53]) from S1).front).none_ (Kd.int .i64) 2).none_ (Kd.int .i64) 2).none_ (Kd.int .i64) 2).none_ (Kd.int .i64) 2)
    clear S1
    simp only [putIf, ↓reduceIte, Act.put, List.setIfInBounds_toArray, List.set_cons_succ, List.set_cons_zero]
    rw [q7]
    go_wp2
    go_loopg [28] k (fun gk v28 wr => ∃ (s : Nat) (bs df ck vl : List Int) (u1 u2 u3 u4 : Value), v28 = .int .i64 s ∧ s ≤ l0_1.length ∧ Aside0 (impl_Pack.l0 gk l0_1 s bs df ck vl = some (o1, o2, o3, o4, o5)) ∧ Aside0 (gk ≤ k) ∧ Aside0 (Hp w.heap.size w wr [fR (Kd.int .i64) 2 w.heap.size u4 vl, fR (Kd.int .i64) 2 w.heap.size u3 ck, fR (Kd.int .i64) 2 w.heap.size u2 df, fR (Kd.int .i64) 2 w.heap.size u1 bs, fB w.heap.size g4 #[(.slice A2 bl.length c2), u1, u2, u3, u4, (.slice A5 ac.length c5)] 74, fR (Kd.int .i64) 2 w.heap.size (.slice A5 ac.length c5) ac, fR (Kd.int .i64) 2 w.heap.size (.slice A2 bl.length c2) bl, fB w.heap.size (w.heap.size + 1) #[.slice none 0 0, .slice none 0 0, .slice none 0 0, .slice none 0 0, .slice none 0 0, .slice none 0 0] 74]))
    case atStart => exact ⟨0, [], [], [], [], _, _, _, _, rfl, Nat.zero_le _, HL, ⟨Nat.le_refl _⟩, S⟩
    case round =>
      clear z1 S HL q2 q5 q7
      obtain ⟨s, bs, df, ck, vl, u1, u2, u3, u4, rfl, hs, HA, HK, S⟩ := hrel
      cases gk with
      | zero => exact absurd HA.out (by simp [impl_Pack.l0])
      | succ k1 =>
        have H := HA.out
        rw [impl_Pack.l0] at H
        by_cases c : s < l0_1.length
        · rw [if_pos c] at H
          replace H := Option.bind_eq_some_iff.1 H
          obtain ⟨u, hu, H⟩ := H
          replace H := Option.bind_eq_some_iff.1 H
          obtain ⟨b, hb, H⟩ := H
          by_cases hg : (l0_1.getD s []).length ≤ 1000000 ∧ 0 ≤ b ∧ b ≤ 1000000000 ∧ vl.length = ck.length ∧ ck.length ≤ 2000000000 ∧ bs.length ≤ 1000000000 ∧ df.length ≤ 1000000000
          case neg => rw [if_neg hg] at H; cases H
          rw [if_pos hg] at H
          obtain ⟨ad, A1, c1, e1, hx, hl1, hi1⟩ := at_rowI HR1.out s c
          cases e1
          replace hx := (S.out.below.cell (World.block_lt_of_cell? w _ hx)).trans hx
          have hcond := eq_true (show (s : Int) < (l0_1.length : Int) by omega)
          have hcond0 := eq_true (show (0 : Int) ≤ (s : Int) by omega)
          have HU := Aside0.mk hu
          have HBF := Aside0.mk hb
          have HG := Aside0.mk hg
          have HN := Aside0.mk H
          have HROW := Aside0.mk hi1
          have HRC := Aside0.mk hl1
          have HS := Aside0.mk c
          have HLN := Aside0.mk HR1.out.2.1
          generalize hrow : l0_1.getD s [] = row at *
          clear hu hb hg hi1 hl1 c hs H HA
          go_wp2_with fail
          refine (impl_mostOften.calls A1 c1 row u _ (Kd.C_below HROW.out S.out.below) HRC.out HU.out).mono ?_
          rintro e w2 ⟨rfl, hb⟩
          replace S := Aside0.mk (S.out.go hb)
          clear hb hx hcond hcond0
          go_wp2_with ((with_reducible refine gate_dst (N := 35) rfl ?_); refine ev_lit S (Kd.int .i64) 2 rfl rfl (xs := []) (inner := []) (by first | (go_simp; done) | (go_simp; rfl)) (Reps.none _ _) (by simp) (fun v8 w3 S1 => ?_); clear S; have S := S1; clear S1)
          obtain ⟨hb1, hb2, hb3, hb4, hb5, hb6, hb7⟩ := HG.out
          go_loopg [8, 38] row.length (fun gk v8 v38 wr => ∃ i : Nat, v38 = .int .i64 i ∧ i + gk = row.length ∧ Aside0 (Hp w.heap.size w wr [fR (Kd.int .i64) 2 w.heap.size v8 (marksI row u i), fR (Kd.int .i64) 2 w.heap.size u4 vl, fR (Kd.int .i64) 2 w.heap.size u3 ck, fR (Kd.int .i64) 2 w.heap.size u2 df, fR (Kd.int .i64) 2 w.heap.size u1 bs, fB w.heap.size g4 #[(.slice A2 bl.length c2), u1, u2, u3, u4, (.slice A5 ac.length c5)] 74, fR (Kd.int .i64) 2 w.heap.size (.slice A5 ac.length c5) ac, fR (Kd.int .i64) 2 w.heap.size (.slice A2 bl.length c2) bl, fB w.heap.size (w.heap.size + 1) #[.slice none 0 0, .slice none 0 0, .slice none 0 0, .slice none 0 0, .slice none 0 0, .slice none 0 0] 74]))
          case atStart => exact ⟨0, rfl, by omega, S⟩
          case round =>
            clear S
            obtain ⟨i, rfl, hgi, S⟩ := hrel
            by_cases c : i < row.length
            · obtain ⟨ad2, e2, hx⟩ := Kd.at_int HROW.out (i : Int) (by omega) (by omega)
              cases e2
              replace hx := (S.out.below.cell (World.block_lt_of_cell? w _ hx)).trans hx
              rw [Int.toNat_natCast] at hx
              have er : rd row (i : Int) = row.getD i 0 := by unfold rd; rw [Int.toNat_natCast]
              obtain ⟨xi, exi⟩ : ∃ q, q = row.getD i 0 := ⟨_, rfl⟩
              rw [er, ← exi] at hx
              have EXI := Aside0.mk exi
              have hcond := eq_true (show (i : Int) < (row.length : Int) by omega)
              have hcond0 := eq_true (show (0 : Int) ≤ (i : Int) by omega)
              have WN := Aside0.mk (show wrap64 ((i : Int) + 1) = ((i + 1 : Nat) : Int) from nat_next (by omega))
              have HC := Aside0.mk c
              have HGI := Aside0.mk hgi
              clear hb1 hb2 hb3 hb4 hb5 hb6 hb7 hgi er exi
              by_cases cu : xi = u
              · have ceq := beq_iff_eq.2 cu
                have cne : (xi != u) = false := bne_eq_false_iff_eq.2 cu
                go_wp2
                go_roundg (row.length - (i + 1))
                case measure => have := HC.out; have := HGI.out; omega
                case rel => exact ⟨i + 1, congrArg (Value.int .i64) WN.out, by have := HC.out; omega, by rw [marksI_succ, if_neg (by rw [← EXI.out]; simpa using cu)]; exact S⟩
              · have ceq := beq_eq_false_iff_ne.2 cu
                have cne : (xi != u) = true := bne_iff_ne.2 cu
                obtain ⟨A8, c8, rfl⟩ := S.out.slice 0 rfl
                have HLM := Aside0.mk (marksI_len row u i)
                go_wp2_with (first | ((with_reducible refine gate_dst (N := 48) rfl ?_); refine ev_lit S (Kd.int .i64) 2 rfl rfl (xs := [(i : Int)]) (inner := [.int .i64 (i : Int)]) (by first | (go_simp; done) | (go_simp; rfl)) (Reps.one rfl (Reps.none _ _)) (by simp) (fun v48 w3 S1 => ?_); clear S hx; have S := S1; clear S1; obtain ⟨A48, c48, rfl⟩ := S.out.slice 0 rfl) | ((with_reducible refine gate_dst (N := 49) rfl ?_); refine ev_app S 1 rfl rfl (.tmp 46) (.tmp 48) 29 (.int .i64 0) 8 rfl Try.underlying29 info2 rfl (by decide) (by omega) rfl rfl (S.out.row 0 rfl).2.2 (fun _ _ h => h) (by have := HLM.out; have := HC.out; have := HG.out.1; simp only [List.length_singleton]; omega) (fun v49 w4 S1 => ?_); clear S; have S := Aside0.mk S1.out.tail; clear S1))
                go_roundg (row.length - (i + 1))
                case measure => have := HC.out; have := HGI.out; omega
                case rel => exact ⟨i + 1, congrArg (Value.int .i64) WN.out, by have := HC.out; omega, by rw [marksI_succ, if_pos (by rw [← EXI.out]; exact cu)]; exact S⟩
            · have hcond := eq_false (show ¬ (i : Int) < (row.length : Int) by omega)
              obtain rfl : i = row.length := by omega
              clear hgi c
              obtain ⟨ms, hms⟩ : ∃ q, q = marksI row u row.length := ⟨_, rfl⟩
              have HMR := Aside0.mk (fun m hm => marksI_rng row u row.length m (by rw [← hms]; exact hm))
              have HML := Aside0.mk (marksI_len row u row.length)
              rw [← hms] at S HML
              have hn := HN.out
              have hbf := HBF.out
              rw [← hms] at hn hbf
              replace HN := Aside0.mk hn
              replace HBF := Aside0.mk hbf
              clear hms hn hbf
              obtain ⟨A8, c8, rfl⟩ := S.out.slice 0 rfl
              obtain ⟨Ak, ckc, rfl⟩ := S.out.slice 2 rfl
              have z3 := S.out.cell 5 3 rfl rfl
              have CK := Aside0.mk (S.out.row 2 rfl)
              have MK := Aside0.mk (S.out.row 0 rfl)
              go_wp2_with fail
              refine (impl_baseFor.calls k1 Ak ckc ck A8 c8 ms b _ CK.out.2.2 CK.out.2.1 MK.out.2.2 MK.out.2.1 HBF.out).mono ?_
              rintro e w4 ⟨rfl, hb⟩
              replace S := Aside0.mk (S.out.go hb)
              obtain ⟨Ad, cd, rfl⟩ := S.out.slice 3 rfl
              obtain ⟨Ab, cb, rfl⟩ := S.out.slice 4 rfl
              clear hb z3 CK MK hcond
              go_wp2_with fail
              refine mask_ (n := 14) (fun l v W => (l 0 = true → v 0 = .pointer (some ⟨g4, 1, none⟩)) ∧ (l 1 = true → v 1 = .slice Ab bs.length cb) ∧ (l 2 = true → v 2 = .int .i64 b) ∧ (l 5 = true → v 5 = .pointer (some ⟨g4, 2, none⟩)) ∧ (l 6 = true → v 6 = .slice Ad df.length cd) ∧ (l 7 = true → v 7 = .int .i64 u) ∧ (l 10 = true → v 10 = .pointer (some ⟨g4, 1, none⟩)) ∧ (l 12 = true → v 12 = .pointer (some ⟨g4, 2, none⟩)) ∧ Hp w.heap.size w W [cf (l 8) (fR (Kd.int .i64) 2 w.heap.size (v 8) [u]) fT, cf (l 3) (fR (Kd.int .i64) 2 w.heap.size (v 3) [b]) fT, fR (Kd.int .i64) 2 w.heap.size (.slice A8 ms.length c8) ms, fR (Kd.int .i64) 2 w.heap.size u4 vl, fR (Kd.int .i64) 2 w.heap.size (.slice Ak ck.length ckc) ck, cf (l 9) (fR (Kd.int .i64) 2 w.heap.size (v 9) (df ++ [u])) (fR (Kd.int .i64) 2 w.heap.size (.slice Ad df.length cd) df), cf (l 4) (fR (Kd.int .i64) 2 w.heap.size (v 4) (bs ++ [b])) (fR (Kd.int .i64) 2 w.heap.size (.slice Ab bs.length cb) bs), fB w.heap.size g4 #[(.slice A2 bl.length c2), bif l 11 then v 4 else (.slice Ab bs.length cb), bif l 13 then v 9 else (.slice Ad df.length cd), (.slice Ak ck.length ckc), u4, (.slice A5 ac.length c5)] 74, fR (Kd.int .i64) 2 w.heap.size (.slice A5 ac.length c5) ac, fR (Kd.int .i64) 2 w.heap.size (.slice A2 bl.length c2) bl, fB w.heap.size (w.heap.size + 1) #[.slice none 0 0, .slice none 0 0, .slice none 0 0, .slice none 0 0, .slice none 0 0, .slice none 0 0] 74]) [[], [0], [], [2], [1, 3], [], [5], [], [7], [6, 8, 4], [0, 1, 2, 3, 4, 5, 6], [10, 4, 9, 0, 1, 2, 3, 4, 5, 6], [0, 1, 2, 3, 4, 5, 6, 7, 8, 9, 10, 11], [12, 9, 11, 0, 1, 2, 3, 4, 5, 6, 7, 8, 9, 10, 11]] [some 55, some 56, some 57, some 58, some 59, some 60, some 61, some 62, some 63, some 64, some 65, none, some 66, none] 115 (by kernel_rfl) impl_Pack.need15 impl_Pack.dst15 (by decide) rfl ⟨fun h => absurd h (by decide), fun h => absurd h (by decide), fun h => absurd h (by decide), fun h => absurd h (by decide), fun h => absurd h (by decide), fun h => absurd h (by decide), fun h => absurd h (by decide), fun h => absurd h (by decide), ?_⟩ ⟨?_, ?_, ?_, ?_, ?_, ?_, ?_, ?_, ?_, ?_, ?_, ?_, ?_, ?_, trivial⟩ (fun v W hJ => ?_)
              · exact S.out.drew.blank.blank
              · intro l v W zb hzb hsz hJ hi hn hc K hK
                have HZ := Aside0.mk hzb; clear hzb
                obtain ⟨p0, p1, p2, p5, p6, p7, p10, p12, S⟩ := hJ
                have e4 : zb.tmps.getD 4 undef = .pointer (some ⟨g4, 0, none⟩) := by rw [HZ.out, putIf_other _ 0 _ rfl]; rfl
                refine yields_ (N := some 55) (x := .pointer (some ⟨g4, 1, none⟩)) rfl rfl ?_ (hK.out _ _ ⟨fun _ => rfl, p1, p2, p5, p6, p7, p10, p12, S⟩)
                clear hK HZ hn hc p0 p1 p2 p5 p6 p7 p10 p12; (try simp only [Array.getD_eq_getD_getElem?] at *); go_simp; try with_reducible rfl
              · intro l v W zb hzb hsz hJ hi hn hc K hK
                have HZ := Aside0.mk hzb; clear hzb
                obtain ⟨p0, p1, p2, p5, p6, p7, p10, p12, S⟩ := hJ
                have e55 : zb.tmps.getD 55 undef = .pointer (some ⟨g4, 1, none⟩) := by rw [HZ.out, putIf_at (hn 0 (by decide)) _ 0 _ (Nat.zero_le _) rfl rfl (by rw [hsz]; decide)]; exact p0 (hn 0 (by decide))
                have S0 := S
                rw [hc 4 1 (by decide) hi] at S
                rw [hc 11 1 (by decide) hi] at S
                rw [hc 13 1 (by decide) hi] at S
                have z := S.cell 7 1 rfl rfl
                refine yields_ (N := some 56) (x := .slice Ab bs.length cb) rfl rfl ?_ (hK.out _ _ ⟨p0, fun _ => rfl, p2, p5, p6, p7, p10, p12, S0⟩)
                clear hK HZ hn hc p0 p1 p2 p5 p6 p7 p10 p12; (try simp only [Array.getD_eq_getD_getElem?] at *); go_simp; try with_reducible rfl
              · intro l v W zb hzb hsz hJ hi hn hc K hK
                have HZ := Aside0.mk hzb; clear hzb
                obtain ⟨p0, p1, p2, p5, p6, p7, p10, p12, S⟩ := hJ
                have e11 : zb.tmps.getD 11 undef = .int .i64 b := by rw [HZ.out, putIf_other _ 0 _ rfl]; rfl
                refine yields_ (N := some 57) (x := .int .i64 b) rfl rfl ?_ (hK.out _ _ ⟨p0, p1, fun _ => rfl, p5, p6, p7, p10, p12, S⟩)
                clear hK HZ hn hc p0 p1 p2 p5 p6 p7 p10 p12; (try simp only [Array.getD_eq_getD_getElem?] at *); go_simp; try with_reducible rfl
              · intro l v W zb hzb hsz hJ hi hn hc K hK
                have HZ := Aside0.mk hzb; clear hzb
                obtain ⟨p0, p1, p2, p5, p6, p7, p10, p12, S⟩ := hJ
                have e57 : zb.tmps.getD 57 undef = .int .i64 b := by rw [HZ.out, putIf_at (hn 2 (by decide)) _ 0 _ (Nat.zero_le _) rfl rfl (by rw [hsz]; decide)]; exact p2 (hn 2 (by decide))
                rw [hc 4 3 (by decide) hi] at S
                rw [hc 11 3 (by decide) hi] at S
                rw [hc 13 3 (by decide) hi] at S
                rw [hi] at S
                refine st_litF S 1 rfl (Kd.int .i64) (2) rfl rfl (xs := [b]) (inner := [.int .i64 b]) (by (try simp only [Array.getD_eq_getD_getElem?] at *); first | (go_simp; done) | (go_simp; rfl)) (Reps.one rfl (Reps.none _ _)) (by simp) (fun x w1 S1 => hK.out _ _ ⟨p0, p1, p2, p5, p6, p7, p10, p12, ?_⟩)
                rw [show upd l 3 4 = false from hc 4 3 (by decide) hi, show upd l 3 11 = false from hc 11 3 (by decide) hi, show upd l 3 13 = false from hc 13 3 (by decide) hi]
                exact S1
              · intro l v W zb hzb hsz hJ hi hn hc K hK
                have HZ := Aside0.mk hzb; clear hzb
                obtain ⟨p0, p1, p2, p5, p6, p7, p10, p12, S⟩ := hJ
                have e56 : zb.tmps.getD 56 undef = .slice Ab bs.length cb := by rw [HZ.out, putIf_at (hn 1 (by decide)) _ 0 _ (Nat.zero_le _) rfl rfl (by rw [hsz]; decide)]; exact p1 (hn 1 (by decide))
                have e58 : zb.tmps.getD 58 undef = v 3 := by rw [HZ.out, putIf_at (hn 3 (by decide)) _ 0 _ (Nat.zero_le _) rfl rfl (by rw [hsz]; decide)]
                rw [hc 9 4 (by decide) hi] at S
                rw [hc 11 4 (by decide) hi] at S
                rw [hc 13 4 (by decide) hi] at S
                rw [hn 3 (by decide)] at S
                rw [hi] at S
                obtain ⟨As, cs, qs, _, hrs⟩ := S.rowC 1 rfl rfl
                rw [qs] at e58
                refine st_app S 6 rfl rfl (.tmp 56) (.tmp 58) (29) (.int .i64 0) (8) rfl Try.underlying29 info2 rfl (by decide) (by omega) e56 e58 hrs (fun _ _ h => h) (by have := HG.out.2.2.2.2.2.1; simp only [List.length_singleton]; omega) (fun x w1 S1 => hK.out _ _ ⟨p0, p1, p2, p5, p6, p7, p10, p12, ?_⟩)
                rw [show upd l 4 9 = false from hc 9 4 (by decide) hi, show upd l 4 11 = false from hc 11 4 (by decide) hi, show upd l 4 13 = false from hc 13 4 (by decide) hi, show upd l 4 3 = true from hn 3 (by decide)]
                exact S1
              · intro l v W zb hzb hsz hJ hi hn hc K hK
                have HZ := Aside0.mk hzb; clear hzb
                obtain ⟨p0, p1, p2, p5, p6, p7, p10, p12, S⟩ := hJ
                have e4 : zb.tmps.getD 4 undef = .pointer (some ⟨g4, 0, none⟩) := by rw [HZ.out, putIf_other _ 0 _ rfl]; rfl
                refine yields_ (N := some 60) (x := .pointer (some ⟨g4, 2, none⟩)) rfl rfl ?_ (hK.out _ _ ⟨p0, p1, p2, fun _ => rfl, p6, p7, p10, p12, S⟩)
                clear hK HZ hn hc p0 p1 p2 p5 p6 p7 p10 p12; (try simp only [Array.getD_eq_getD_getElem?] at *); go_simp; try with_reducible rfl
              · intro l v W zb hzb hsz hJ hi hn hc K hK
                have HZ := Aside0.mk hzb; clear hzb
                obtain ⟨p0, p1, p2, p5, p6, p7, p10, p12, S⟩ := hJ
                have e60 : zb.tmps.getD 60 undef = .pointer (some ⟨g4, 2, none⟩) := by rw [HZ.out, putIf_at (hn 5 (by decide)) _ 0 _ (Nat.zero_le _) rfl rfl (by rw [hsz]; decide)]; exact p5 (hn 5 (by decide))
                have S0 := S
                rw [hc 9 6 (by decide) hi] at S
                rw [hc 11 6 (by decide) hi] at S
                rw [hc 13 6 (by decide) hi] at S
                have z := S.cell 7 2 rfl rfl
                refine yields_ (N := some 61) (x := .slice Ad df.length cd) rfl rfl ?_ (hK.out _ _ ⟨p0, p1, p2, p5, fun _ => rfl, p7, p10, p12, S0⟩)
                clear hK HZ hn hc p0 p1 p2 p5 p6 p7 p10 p12; (try simp only [Array.getD_eq_getD_getElem?] at *); go_simp; try with_reducible rfl
              · intro l v W zb hzb hsz hJ hi hn hc K hK
                have HZ := Aside0.mk hzb; clear hzb
                obtain ⟨p0, p1, p2, p5, p6, p7, p10, p12, S⟩ := hJ
                have e7 : zb.tmps.getD 7 undef = .int .i64 u := by rw [HZ.out, putIf_other _ 0 _ rfl]; rfl
                refine yields_ (N := some 62) (x := .int .i64 u) rfl rfl ?_ (hK.out _ _ ⟨p0, p1, p2, p5, p6, fun _ => rfl, p10, p12, S⟩)
                clear hK HZ hn hc p0 p1 p2 p5 p6 p7 p10 p12; (try simp only [Array.getD_eq_getD_getElem?] at *); go_simp; try with_reducible rfl
              · intro l v W zb hzb hsz hJ hi hn hc K hK
                have HZ := Aside0.mk hzb; clear hzb
                obtain ⟨p0, p1, p2, p5, p6, p7, p10, p12, S⟩ := hJ
                have e62 : zb.tmps.getD 62 undef = .int .i64 u := by rw [HZ.out, putIf_at (hn 7 (by decide)) _ 0 _ (Nat.zero_le _) rfl rfl (by rw [hsz]; decide)]; exact p7 (hn 7 (by decide))
                rw [hc 9 8 (by decide) hi] at S
                rw [hc 13 8 (by decide) hi] at S
                rw [hi] at S
                refine st_litF S 0 rfl (Kd.int .i64) (2) rfl rfl (xs := [u]) (inner := [.int .i64 u]) (by (try simp only [Array.getD_eq_getD_getElem?] at *); first | (go_simp; done) | (go_simp; rfl)) (Reps.one rfl (Reps.none _ _)) (by simp) (fun x w1 S1 => hK.out _ _ ⟨p0, p1, p2, p5, p6, p7, p10, p12, ?_⟩)
                rw [show upd l 8 9 = false from hc 9 8 (by decide) hi, show upd l 8 13 = false from hc 13 8 (by decide) hi]
                exact S1
              · intro l v W zb hzb hsz hJ hi hn hc K hK
                have HZ := Aside0.mk hzb; clear hzb
                obtain ⟨p0, p1, p2, p5, p6, p7, p10, p12, S⟩ := hJ
                have e61 : zb.tmps.getD 61 undef = .slice Ad df.length cd := by rw [HZ.out, putIf_at (hn 6 (by decide)) _ 0 _ (Nat.zero_le _) rfl rfl (by rw [hsz]; decide)]; exact p6 (hn 6 (by decide))
                have e63 : zb.tmps.getD 63 undef = v 8 := by rw [HZ.out, putIf_at (hn 8 (by decide)) _ 0 _ (Nat.zero_le _) rfl rfl (by rw [hsz]; decide)]
                rw [hc 11 9 (by decide) hi] at S
                rw [hc 13 9 (by decide) hi] at S
                rw [hn 4 (by decide)] at S
                rw [hn 8 (by decide)] at S
                rw [hi] at S
                obtain ⟨As, cs, qs, _, hrs⟩ := S.rowC 0 rfl rfl
                rw [qs] at e63
                refine st_app S 5 rfl rfl (.tmp 61) (.tmp 63) (29) (.int .i64 0) (8) rfl Try.underlying29 info2 rfl (by decide) (by omega) e61 e63 hrs (fun _ _ h => h) (by have := HG.out.2.2.2.2.2.2; simp only [List.length_singleton]; omega) (fun x w1 S1 => hK.out _ _ ⟨p0, p1, p2, p5, p6, p7, p10, p12, ?_⟩)
                rw [show upd l 9 11 = false from hc 11 9 (by decide) hi, show upd l 9 13 = false from hc 13 9 (by decide) hi, show upd l 9 4 = true from hn 4 (by decide), show upd l 9 8 = true from hn 8 (by decide)]
                exact S1
              · intro l v W zb hzb hsz hJ hi hn hc K hK
                have HZ := Aside0.mk hzb; clear hzb
                obtain ⟨p0, p1, p2, p5, p6, p7, p10, p12, S⟩ := hJ
                have e4 : zb.tmps.getD 4 undef = .pointer (some ⟨g4, 0, none⟩) := by rw [HZ.out, putIf_other _ 0 _ rfl]; rfl
                refine yields_ (N := some 65) (x := .pointer (some ⟨g4, 1, none⟩)) rfl rfl ?_ (hK.out _ _ ⟨p0, p1, p2, p5, p6, p7, fun _ => rfl, p12, S⟩)
                clear hK HZ hn hc p0 p1 p2 p5 p6 p7 p10 p12; (try simp only [Array.getD_eq_getD_getElem?] at *); go_simp; try with_reducible rfl
              · intro l v W zb hzb hsz hJ hi hn hc K hK
                have HZ := Aside0.mk hzb; clear hzb
                obtain ⟨p0, p1, p2, p5, p6, p7, p10, p12, S⟩ := hJ
                have e59 : zb.tmps.getD 59 undef = v 4 := by rw [HZ.out, putIf_at (hn 4 (by decide)) _ 0 _ (Nat.zero_le _) rfl rfl (by rw [hsz]; decide)]
                have e65 : zb.tmps.getD 65 undef = .pointer (some ⟨g4, 1, none⟩) := by rw [HZ.out, putIf_at (hn 10 (by decide)) _ 0 _ (Nat.zero_le _) rfl rfl (by rw [hsz]; decide)]; exact p10 (hn 10 (by decide))
                rw [hc 13 11 (by decide) hi] at S
                rw [hn 3 (by decide)] at S
                rw [hn 4 (by decide)] at S
                rw [hn 9 (by decide)] at S
                rw [hi] at S
                have hk := hK.out
                have zp := S.cell 7 1 rfl rfl
                have fp := S.frozen 7 1 rfl
                have S1 := S.put 7 1 (u := v 4) rfl rfl
                obtain ⟨As, cs, qs⟩ := S.sliceC 6 rfl rfl
                rw [qs] at e59
                refine st_run (w1 := W.setCell _ (v 4)) rfl rfl (by rw [qs]; simp only [Array.getD_eq_getD_getElem?] at *; go_simp; try rfl) ?_
                refine hk undef _ ⟨p0, p1, p2, p5, p6, p7, p10, p12, ?_⟩
                rw [show upd l 11 13 = false from hc 13 11 (by decide) hi, show upd l 11 3 = true from hn 3 (by decide), show upd l 11 4 = true from hn 4 (by decide), show upd l 11 9 = true from hn 9 (by decide)]
                exact S1
              · intro l v W zb hzb hsz hJ hi hn hc K hK
                have HZ := Aside0.mk hzb; clear hzb
                obtain ⟨p0, p1, p2, p5, p6, p7, p10, p12, S⟩ := hJ
                have e4 : zb.tmps.getD 4 undef = .pointer (some ⟨g4, 0, none⟩) := by rw [HZ.out, putIf_other _ 0 _ rfl]; rfl
                refine yields_ (N := some 66) (x := .pointer (some ⟨g4, 2, none⟩)) rfl rfl ?_ (hK.out _ _ ⟨p0, p1, p2, p5, p6, p7, p10, fun _ => rfl, S⟩)
                clear hK HZ hn hc p0 p1 p2 p5 p6 p7 p10 p12; (try simp only [Array.getD_eq_getD_getElem?] at *); go_simp; try with_reducible rfl
              · intro l v W zb hzb hsz hJ hi hn hc K hK
                have HZ := Aside0.mk hzb; clear hzb
                obtain ⟨p0, p1, p2, p5, p6, p7, p10, p12, S⟩ := hJ
                have e64 : zb.tmps.getD 64 undef = v 9 := by rw [HZ.out, putIf_at (hn 9 (by decide)) _ 0 _ (Nat.zero_le _) rfl rfl (by rw [hsz]; decide)]
                have e66 : zb.tmps.getD 66 undef = .pointer (some ⟨g4, 2, none⟩) := by rw [HZ.out, putIf_at (hn 12 (by decide)) _ 0 _ (Nat.zero_le _) rfl rfl (by rw [hsz]; decide)]; exact p12 (hn 12 (by decide))
                rw [hn 3 (by decide)] at S
                rw [hn 4 (by decide)] at S
                rw [hn 8 (by decide)] at S
                rw [hn 9 (by decide)] at S
                rw [hn 11 (by decide)] at S
                rw [hi] at S
                have hk := hK.out
                have zp := S.cell 7 2 rfl rfl
                have fp := S.frozen 7 2 rfl
                have S1 := S.put 7 2 (u := v 9) rfl rfl
                obtain ⟨As, cs, qs⟩ := S.sliceC 5 rfl rfl
                rw [qs] at e64
                refine st_run (w1 := W.setCell _ (v 9)) rfl rfl (by rw [qs]; simp only [Array.getD_eq_getD_getElem?] at *; go_simp; try rfl) ?_
                refine hk undef _ ⟨p0, p1, p2, p5, p6, p7, p10, p12, ?_⟩
                rw [show upd l 13 3 = true from hn 3 (by decide), show upd l 13 4 = true from hn 4 (by decide), show upd l 13 8 = true from hn 8 (by decide), show upd l 13 9 = true from hn 9 (by decide), show upd l 13 11 = true from hn 11 (by decide)]
                exact S1
              clear S
              obtain ⟨-, -, -, -, -, -, -, -, S⟩ := hJ
              replace S := Aside0.mk (show Hp w.heap.size w W [fR (Kd.int .i64) 2 w.heap.size (v 8) [u], fR (Kd.int .i64) 2 w.heap.size (v 3) [b], fR (Kd.int .i64) 2 w.heap.size (.slice A8 ms.length c8) ms, fR (Kd.int .i64) 2 w.heap.size u4 vl, fR (Kd.int .i64) 2 w.heap.size (.slice Ak ck.length ckc) ck, fR (Kd.int .i64) 2 w.heap.size (v 9) (df ++ [u]), fR (Kd.int .i64) 2 w.heap.size (v 4) (bs ++ [b]), fB w.heap.size g4 #[(.slice A2 bl.length c2), v 4, v 9, (.slice Ak ck.length ckc), u4, (.slice A5 ac.length c5)] 74, fR (Kd.int .i64) 2 w.heap.size (.slice A5 ac.length c5) ac, fR (Kd.int .i64) 2 w.heap.size (.slice A2 bl.length c2) bl, fB w.heap.size (w.heap.size + 1) #[.slice none 0 0, .slice none 0 0, .slice none 0 0, .slice none 0 0, .slice none 0 0, .slice none 0 0] 74] from S).tail.tail
              simp only [putIf, ↓reduceIte, Act.put, List.setIfInBounds_toArray, List.set_cons_succ, List.set_cons_zero]
              generalize v 4 = ub at S ⊢
              generalize v 9 = ud at S ⊢
              go_wp2
              go_loopg [69] ms.length (fun gk v69 wr => ∃ (j : Nat) (u3 u4 : Value) (ck' vl' : List Int), v69 = .int .i64 j ∧ j + gk = ms.length ∧ Aside0 (placeM (s : Int) row b (ms.take j) (ck, vl) = (ck', vl')) ∧ Aside0 (Hp w.heap.size w wr [fR (Kd.int .i64) 2 w.heap.size (.slice A8 ms.length c8) ms, fR (Kd.int .i64) 2 w.heap.size u4 vl', fR (Kd.int .i64) 2 w.heap.size u3 ck', fR (Kd.int .i64) 2 w.heap.size ud (df ++ [u]), fR (Kd.int .i64) 2 w.heap.size ub (bs ++ [b]), fB w.heap.size g4 #[(.slice A2 bl.length c2), ub, ud, u3, u4, (.slice A5 ac.length c5)] 74, fR (Kd.int .i64) 2 w.heap.size (.slice A5 ac.length c5) ac, fR (Kd.int .i64) 2 w.heap.size (.slice A2 bl.length c2) bl, fB w.heap.size (w.heap.size + 1) #[.slice none 0 0, .slice none 0 0, .slice none 0 0, .slice none 0 0, .slice none 0 0, .slice none 0 0] 74]))
              case atStart => exact ⟨0, _, _, ck, vl, rfl, by omega, ⟨rfl⟩, S⟩
              case round =>
                clear S
                obtain ⟨j, u3, u4, ck', vl', rfl, hj, HP, S⟩ := hrel
                by_cases c : j < ms.length
                · obtain ⟨g8, cap8, e8⟩ := S.out.form 0 rfl (by omega)
                  cases e8
                  obtain ⟨hx, -⟩ := S.out.cellR 0 (0 : Int) rfl (j : Int) (by omega) (by omega)
                  rw [Int.toNat_natCast] at hx
                  obtain ⟨m, em⟩ : ∃ q, q = rdOf (0 : Int) ms (j : Int) := ⟨_, rfl⟩
                  rw [← em] at hx
                  have em2 : ms[j] = m := by rw [em]; unfold rdOf; rw [Int.toNat_natCast, List.getD_eq_getElem?_getD, List.getElem?_eq_getElem c]; rfl
                  have hm := HMR.out m (by rw [← em2]; exact List.getElem_mem c)
                  have EM := Aside0.mk em2
                  have HM := Aside0.mk hm
                  have HJ := Aside0.mk (And.intro hj c)
                  have hq := placeM_len (s := (s : Int)) (row := row) (b := b) (n := 2001000001) (ms.take j) (ck, vl) HG.out.2.2.2.1 (by have := HG.out.2.2.2.2.1; simp only; omega) (fun x hx => by have := HMR.out x (List.mem_of_mem_take hx); have := HG.out; omega)
                  rw [HP.out] at hq
                  have HQ := Aside0.mk hq
                  have WB : wrap64 (b + m) = b + m := w64 (by have := HG.out; omega) (by have := HG.out; omega)
                  have hcond := eq_true (show (j : Int) < (ms.length : Int) by omega)
                  have hcond0 := eq_true (show (0 : Int) ≤ (j : Int) by omega)
                  clear em em2 hm hj hq
                  go_wp2
                  go_loopg [] ((b + m + 1).toNat - ck'.length) (fun gk wr => ∃ (p : Nat) (u3 u4 : Value), p + gk = (b + m + 1).toNat - ck'.length ∧ Aside0 (Hp w.heap.size w wr [fR (Kd.int .i64) 2 w.heap.size (.slice (some ⟨g8, 0, none⟩) ms.length c8) ms, fR (Kd.int .i64) 2 w.heap.size u4 (vl' ++ List.replicate p 0), fR (Kd.int .i64) 2 w.heap.size u3 (ck' ++ List.replicate p (-1)), fR (Kd.int .i64) 2 w.heap.size ud (df ++ [u]), fR (Kd.int .i64) 2 w.heap.size ub (bs ++ [b]), fB w.heap.size g4 #[(.slice A2 bl.length c2), ub, ud, u3, u4, (.slice A5 ac.length c5)] 74, fR (Kd.int .i64) 2 w.heap.size (.slice A5 ac.length c5) ac, fR (Kd.int .i64) 2 w.heap.size (.slice A2 bl.length c2) bl, fB w.heap.size (w.heap.size + 1) #[.slice none 0 0, .slice none 0 0, .slice none 0 0, .slice none 0 0, .slice none 0 0, .slice none 0 0] 74]))
                  case atStart => exact ⟨0, u3, u4, by omega, by simpa using S⟩
                  case round =>
                    clear S hx
                    obtain ⟨p, u3, u4, hp, S⟩ := hrel
                    obtain ⟨CL, eCL⟩ : ∃ q, q = ck' ++ List.replicate p (-1) := ⟨_, rfl⟩
                    obtain ⟨VL, eVL⟩ : ∃ q, q = vl' ++ List.replicate p 0 := ⟨_, rfl⟩
                    rw [← eCL, ← eVL] at S
                    obtain ⟨Ak, ckc, rfl⟩ := S.out.slice 2 rfl
                    obtain ⟨Av, cvc, rfl⟩ := S.out.slice 1 rfl
                    have HPP := Aside0.mk (And.intro hp (And.intro (show CL.length = ck'.length + p by rw [eCL]; simp) (show VL.length = vl'.length + p by rw [eVL]; simp)))
                    have ECL := Aside0.mk eCL
                    have EVL := Aside0.mk eVL
                    have z3 := S.out.cell 5 3 rfl rfl
                    have CK := Aside0.mk (S.out.row 2 rfl)
                    clear hp hcond hcond0 eCL eVL
                    go_wp2_with fail
                    refine (impl_size_int64_125.calls Ak ckc CL (CL.length : Int) _ CK.out.2.2 CK.out.2.1 rfl).mono ?_
                    rintro e w5 ⟨rfl, ⟨nd, rfl⟩⟩
                    replace S := Aside0.mk (S.out.drewN nd)
                    generalize wr.drewN nd = w5 at S ⊢
                    clear z3 CK
                    by_cases hc5 : (CL.length : Int) ≤ b + m
                    · have hc6 := eq_true hc5
                      go_wp2_with fail
                      refine mask_ (n := 12) (fun l v W => (l 0 = true → v 0 = .pointer (some ⟨g4, 3, none⟩)) ∧ (l 1 = true → v 1 = .slice Ak CL.length ckc) ∧ (l 4 = true → v 4 = .pointer (some ⟨g4, 4, none⟩)) ∧ (l 5 = true → v 5 = .slice Av VL.length cvc) ∧ (l 8 = true → v 8 = .pointer (some ⟨g4, 3, none⟩)) ∧ (l 10 = true → v 10 = .pointer (some ⟨g4, 4, none⟩)) ∧ Hp w.heap.size w W [cf (l 6) (fR (Kd.int .i64) 2 w.heap.size (v 6) [0]) fT, cf (l 2) (fR (Kd.int .i64) 2 w.heap.size (v 2) [-1]) fT, fR (Kd.int .i64) 2 w.heap.size (.slice (some ⟨g8, 0, none⟩) ms.length c8) ms, cf (l 7) (fR (Kd.int .i64) 2 w.heap.size (v 7) (VL ++ [0])) (fR (Kd.int .i64) 2 w.heap.size (.slice Av VL.length cvc) VL), cf (l 3) (fR (Kd.int .i64) 2 w.heap.size (v 3) (CL ++ [-1])) (fR (Kd.int .i64) 2 w.heap.size (.slice Ak CL.length ckc) CL), fR (Kd.int .i64) 2 w.heap.size ud (df ++ [u]), fR (Kd.int .i64) 2 w.heap.size ub (bs ++ [b]), fB w.heap.size g4 #[(.slice A2 bl.length c2), ub, ud, bif l 9 then v 3 else (.slice Ak CL.length ckc), bif l 11 then v 7 else (.slice Av VL.length cvc), (.slice A5 ac.length c5)] 74, fR (Kd.int .i64) 2 w.heap.size (.slice A5 ac.length c5) ac, fR (Kd.int .i64) 2 w.heap.size (.slice A2 bl.length c2) bl, fB w.heap.size (w.heap.size + 1) #[.slice none 0 0, .slice none 0 0, .slice none 0 0, .slice none 0 0, .slice none 0 0, .slice none 0 0] 74]) [[], [0], [], [1, 2], [], [4], [], [5, 6, 3], [0, 1, 2, 3, 4, 5], [8, 3, 7, 0, 1, 2, 3, 4, 5], [0, 1, 2, 3, 4, 5, 6, 7, 8, 9], [10, 7, 9, 0, 1, 2, 3, 4, 5, 6, 7, 8, 9]] [some 80, some 81, some 82, some 83, some 84, some 85, some 86, some 87, some 88, none, some 89, none] 115 (by kernel_rfl) impl_Pack.need20 impl_Pack.dst20 (by decide) rfl ⟨fun h => absurd h (by decide), fun h => absurd h (by decide), fun h => absurd h (by decide), fun h => absurd h (by decide), fun h => absurd h (by decide), fun h => absurd h (by decide), ?_⟩ ⟨?_, ?_, ?_, ?_, ?_, ?_, ?_, ?_, ?_, ?_, ?_, ?_, trivial⟩ (fun v W hJ => ?_)
                      · exact S.out.drew.blank.blank
                      · intro l v W zb hzb hsz hJ hi hn hc K hK
                        have HZ := Aside0.mk hzb; clear hzb
                        obtain ⟨p0, p1, p4, p5, p8, p10, S⟩ := hJ
                        have e4 : zb.tmps.getD 4 undef = .pointer (some ⟨g4, 0, none⟩) := by rw [HZ.out, putIf_other _ 0 _ rfl]; rfl
                        refine yields_ (N := some 80) (x := .pointer (some ⟨g4, 3, none⟩)) rfl rfl ?_ (hK.out _ _ ⟨fun _ => rfl, p1, p4, p5, p8, p10, S⟩)
                        clear hK HZ hn hc p0 p1 p4 p5 p8 p10; (try simp only [Array.getD_eq_getD_getElem?] at *); go_simp; try with_reducible rfl
                      · intro l v W zb hzb hsz hJ hi hn hc K hK
                        have HZ := Aside0.mk hzb; clear hzb
                        obtain ⟨p0, p1, p4, p5, p8, p10, S⟩ := hJ
                        have e80 : zb.tmps.getD 80 undef = .pointer (some ⟨g4, 3, none⟩) := by rw [HZ.out, putIf_at (hn 0 (by decide)) _ 0 _ (Nat.zero_le _) rfl rfl (by rw [hsz]; decide)]; exact p0 (hn 0 (by decide))
                        have S0 := S
                        rw [hc 3 1 (by decide) hi] at S
                        rw [hc 9 1 (by decide) hi] at S
                        rw [hc 11 1 (by decide) hi] at S
                        have z := S.cell 7 3 rfl rfl
                        refine yields_ (N := some 81) (x := .slice Ak CL.length ckc) rfl rfl ?_ (hK.out _ _ ⟨p0, fun _ => rfl, p4, p5, p8, p10, S0⟩)
                        clear hK HZ hn hc p0 p1 p4 p5 p8 p10; (try simp only [Array.getD_eq_getD_getElem?] at *); go_simp; try with_reducible rfl
                      · intro l v W zb hzb hsz hJ hi hn hc K hK
                        have HZ := Aside0.mk hzb; clear hzb
                        obtain ⟨p0, p1, p4, p5, p8, p10, S⟩ := hJ
                        rw [hc 3 2 (by decide) hi] at S
                        rw [hc 9 2 (by decide) hi] at S
                        rw [hc 11 2 (by decide) hi] at S
                        rw [hi] at S
                        refine st_litF S 1 rfl (Kd.int .i64) (2) rfl rfl (xs := [-1]) (inner := [.int .i64 (-1)]) (by (try simp only [Array.getD_eq_getD_getElem?] at *); first | (go_simp; done) | (go_simp; rfl)) (Reps.one rfl (Reps.none _ _)) (by simp) (fun x w1 S1 => hK.out _ _ ⟨p0, p1, p4, p5, p8, p10, ?_⟩)
                        rw [show upd l 2 3 = false from hc 3 2 (by decide) hi, show upd l 2 9 = false from hc 9 2 (by decide) hi, show upd l 2 11 = false from hc 11 2 (by decide) hi]
                        exact S1
                      · intro l v W zb hzb hsz hJ hi hn hc K hK
                        have HZ := Aside0.mk hzb; clear hzb
                        obtain ⟨p0, p1, p4, p5, p8, p10, S⟩ := hJ
                        have e81 : zb.tmps.getD 81 undef = .slice Ak CL.length ckc := by rw [HZ.out, putIf_at (hn 1 (by decide)) _ 0 _ (Nat.zero_le _) rfl rfl (by rw [hsz]; decide)]; exact p1 (hn 1 (by decide))
                        have e82 : zb.tmps.getD 82 undef = v 2 := by rw [HZ.out, putIf_at (hn 2 (by decide)) _ 0 _ (Nat.zero_le _) rfl rfl (by rw [hsz]; decide)]
                        rw [hc 7 3 (by decide) hi] at S
                        rw [hc 9 3 (by decide) hi] at S
                        rw [hc 11 3 (by decide) hi] at S
                        rw [hn 2 (by decide)] at S
                        rw [hi] at S
                        obtain ⟨As, cs, qs, _, hrs⟩ := S.rowC 1 rfl rfl
                        rw [qs] at e82
                        refine st_app S 4 rfl rfl (.tmp 81) (.tmp 82) (29) (.int .i64 0) (8) rfl Try.underlying29 info2 rfl (by decide) (by omega) e81 e82 hrs (fun _ _ h => h) (by have := HG.out; have := HM.out; have := HPP.out; simp only [List.length_singleton]; omega) (fun x w1 S1 => hK.out _ _ ⟨p0, p1, p4, p5, p8, p10, ?_⟩)
                        rw [show upd l 3 7 = false from hc 7 3 (by decide) hi, show upd l 3 9 = false from hc 9 3 (by decide) hi, show upd l 3 11 = false from hc 11 3 (by decide) hi, show upd l 3 2 = true from hn 2 (by decide)]
                        exact S1
                      · intro l v W zb hzb hsz hJ hi hn hc K hK
                        have HZ := Aside0.mk hzb; clear hzb
                        obtain ⟨p0, p1, p4, p5, p8, p10, S⟩ := hJ
                        have e4 : zb.tmps.getD 4 undef = .pointer (some ⟨g4, 0, none⟩) := by rw [HZ.out, putIf_other _ 0 _ rfl]; rfl
                        refine yields_ (N := some 84) (x := .pointer (some ⟨g4, 4, none⟩)) rfl rfl ?_ (hK.out _ _ ⟨p0, p1, fun _ => rfl, p5, p8, p10, S⟩)
                        clear hK HZ hn hc p0 p1 p4 p5 p8 p10; (try simp only [Array.getD_eq_getD_getElem?] at *); go_simp; try with_reducible rfl
                      · intro l v W zb hzb hsz hJ hi hn hc K hK
                        have HZ := Aside0.mk hzb; clear hzb
                        obtain ⟨p0, p1, p4, p5, p8, p10, S⟩ := hJ
                        have e84 : zb.tmps.getD 84 undef = .pointer (some ⟨g4, 4, none⟩) := by rw [HZ.out, putIf_at (hn 4 (by decide)) _ 0 _ (Nat.zero_le _) rfl rfl (by rw [hsz]; decide)]; exact p4 (hn 4 (by decide))
                        have S0 := S
                        rw [hc 7 5 (by decide) hi] at S
                        rw [hc 9 5 (by decide) hi] at S
                        rw [hc 11 5 (by decide) hi] at S
                        have z := S.cell 7 4 rfl rfl
                        refine yields_ (N := some 85) (x := .slice Av VL.length cvc) rfl rfl ?_ (hK.out _ _ ⟨p0, p1, p4, fun _ => rfl, p8, p10, S0⟩)
                        clear hK HZ hn hc p0 p1 p4 p5 p8 p10; (try simp only [Array.getD_eq_getD_getElem?] at *); go_simp; try with_reducible rfl
                      · intro l v W zb hzb hsz hJ hi hn hc K hK
                        have HZ := Aside0.mk hzb; clear hzb
                        obtain ⟨p0, p1, p4, p5, p8, p10, S⟩ := hJ
                        rw [hc 7 6 (by decide) hi] at S
                        rw [hc 11 6 (by decide) hi] at S
                        rw [hi] at S
                        refine st_litF S 0 rfl (Kd.int .i64) (2) rfl rfl (xs := [0]) (inner := [.int .i64 0]) (by (try simp only [Array.getD_eq_getD_getElem?] at *); first | (go_simp; done) | (go_simp; rfl)) (Reps.one rfl (Reps.none _ _)) (by simp) (fun x w1 S1 => hK.out _ _ ⟨p0, p1, p4, p5, p8, p10, ?_⟩)
                        rw [show upd l 6 7 = false from hc 7 6 (by decide) hi, show upd l 6 11 = false from hc 11 6 (by decide) hi]
                        exact S1
                      · intro l v W zb hzb hsz hJ hi hn hc K hK
                        have HZ := Aside0.mk hzb; clear hzb
                        obtain ⟨p0, p1, p4, p5, p8, p10, S⟩ := hJ
                        have e85 : zb.tmps.getD 85 undef = .slice Av VL.length cvc := by rw [HZ.out, putIf_at (hn 5 (by decide)) _ 0 _ (Nat.zero_le _) rfl rfl (by rw [hsz]; decide)]; exact p5 (hn 5 (by decide))
                        have e86 : zb.tmps.getD 86 undef = v 6 := by rw [HZ.out, putIf_at (hn 6 (by decide)) _ 0 _ (Nat.zero_le _) rfl rfl (by rw [hsz]; decide)]
                        rw [hc 9 7 (by decide) hi] at S
                        rw [hc 11 7 (by decide) hi] at S
                        rw [hn 3 (by decide)] at S
                        rw [hn 6 (by decide)] at S
                        rw [hi] at S
                        obtain ⟨As, cs, qs, _, hrs⟩ := S.rowC 0 rfl rfl
                        rw [qs] at e86
                        refine st_app S 3 rfl rfl (.tmp 85) (.tmp 86) (29) (.int .i64 0) (8) rfl Try.underlying29 info2 rfl (by decide) (by omega) e85 e86 hrs (fun _ _ h => h) (by have := HG.out; have := HM.out; have := HPP.out; have := HQ.out; simp only [List.length_singleton]; omega) (fun x w1 S1 => hK.out _ _ ⟨p0, p1, p4, p5, p8, p10, ?_⟩)
                        rw [show upd l 7 9 = false from hc 9 7 (by decide) hi, show upd l 7 11 = false from hc 11 7 (by decide) hi, show upd l 7 3 = true from hn 3 (by decide), show upd l 7 6 = true from hn 6 (by decide)]
                        exact S1
                      · intro l v W zb hzb hsz hJ hi hn hc K hK
                        have HZ := Aside0.mk hzb; clear hzb
                        obtain ⟨p0, p1, p4, p5, p8, p10, S⟩ := hJ
                        have e4 : zb.tmps.getD 4 undef = .pointer (some ⟨g4, 0, none⟩) := by rw [HZ.out, putIf_other _ 0 _ rfl]; rfl
                        refine yields_ (N := some 88) (x := .pointer (some ⟨g4, 3, none⟩)) rfl rfl ?_ (hK.out _ _ ⟨p0, p1, p4, p5, fun _ => rfl, p10, S⟩)
                        clear hK HZ hn hc p0 p1 p4 p5 p8 p10; (try simp only [Array.getD_eq_getD_getElem?] at *); go_simp; try with_reducible rfl
                      · intro l v W zb hzb hsz hJ hi hn hc K hK
                        have HZ := Aside0.mk hzb; clear hzb
                        obtain ⟨p0, p1, p4, p5, p8, p10, S⟩ := hJ
                        have e83 : zb.tmps.getD 83 undef = v 3 := by rw [HZ.out, putIf_at (hn 3 (by decide)) _ 0 _ (Nat.zero_le _) rfl rfl (by rw [hsz]; decide)]
                        have e88 : zb.tmps.getD 88 undef = .pointer (some ⟨g4, 3, none⟩) := by rw [HZ.out, putIf_at (hn 8 (by decide)) _ 0 _ (Nat.zero_le _) rfl rfl (by rw [hsz]; decide)]; exact p8 (hn 8 (by decide))
                        rw [hc 11 9 (by decide) hi] at S
                        rw [hn 2 (by decide)] at S
                        rw [hn 3 (by decide)] at S
                        rw [hn 7 (by decide)] at S
                        rw [hi] at S
                        have hk := hK.out
                        have zp := S.cell 7 3 rfl rfl
                        have fp := S.frozen 7 3 rfl
                        have S1 := S.put 7 3 (u := v 3) rfl rfl
                        obtain ⟨As, cs, qs⟩ := S.sliceC 4 rfl rfl
                        rw [qs] at e83
                        refine st_run (w1 := W.setCell _ (v 3)) rfl rfl (by rw [qs]; simp only [Array.getD_eq_getD_getElem?] at *; go_simp; try rfl) ?_
                        refine hk undef _ ⟨p0, p1, p4, p5, p8, p10, ?_⟩
                        rw [show upd l 9 11 = false from hc 11 9 (by decide) hi, show upd l 9 2 = true from hn 2 (by decide), show upd l 9 3 = true from hn 3 (by decide), show upd l 9 7 = true from hn 7 (by decide)]
                        exact S1
                      · intro l v W zb hzb hsz hJ hi hn hc K hK
                        have HZ := Aside0.mk hzb; clear hzb
                        obtain ⟨p0, p1, p4, p5, p8, p10, S⟩ := hJ
                        have e4 : zb.tmps.getD 4 undef = .pointer (some ⟨g4, 0, none⟩) := by rw [HZ.out, putIf_other _ 0 _ rfl]; rfl
                        refine yields_ (N := some 89) (x := .pointer (some ⟨g4, 4, none⟩)) rfl rfl ?_ (hK.out _ _ ⟨p0, p1, p4, p5, p8, fun _ => rfl, S⟩)
                        clear hK HZ hn hc p0 p1 p4 p5 p8 p10; (try simp only [Array.getD_eq_getD_getElem?] at *); go_simp; try with_reducible rfl
                      · intro l v W zb hzb hsz hJ hi hn hc K hK
                        have HZ := Aside0.mk hzb; clear hzb
                        obtain ⟨p0, p1, p4, p5, p8, p10, S⟩ := hJ
                        have e87 : zb.tmps.getD 87 undef = v 7 := by rw [HZ.out, putIf_at (hn 7 (by decide)) _ 0 _ (Nat.zero_le _) rfl rfl (by rw [hsz]; decide)]
                        have e89 : zb.tmps.getD 89 undef = .pointer (some ⟨g4, 4, none⟩) := by rw [HZ.out, putIf_at (hn 10 (by decide)) _ 0 _ (Nat.zero_le _) rfl rfl (by rw [hsz]; decide)]; exact p10 (hn 10 (by decide))
                        rw [hn 2 (by decide)] at S
                        rw [hn 3 (by decide)] at S
                        rw [hn 6 (by decide)] at S
                        rw [hn 7 (by decide)] at S
                        rw [hn 9 (by decide)] at S
                        rw [hi] at S
                        have hk := hK.out
                        have zp := S.cell 7 4 rfl rfl
                        have fp := S.frozen 7 4 rfl
                        have S1 := S.put 7 4 (u := v 7) rfl rfl
                        obtain ⟨As, cs, qs⟩ := S.sliceC 3 rfl rfl
                        rw [qs] at e87
                        refine st_run (w1 := W.setCell _ (v 7)) rfl rfl (by rw [qs]; simp only [Array.getD_eq_getD_getElem?] at *; go_simp; try rfl) ?_
                        refine hk undef _ ⟨p0, p1, p4, p5, p8, p10, ?_⟩
                        rw [show upd l 11 2 = true from hn 2 (by decide), show upd l 11 3 = true from hn 3 (by decide), show upd l 11 6 = true from hn 6 (by decide), show upd l 11 7 = true from hn 7 (by decide), show upd l 11 9 = true from hn 9 (by decide)]
                        exact S1
                      clear S
                      obtain ⟨-, -, -, -, -, -, S⟩ := hJ
                      replace S := Aside0.mk (show Hp w.heap.size w W [fR (Kd.int .i64) 2 w.heap.size (v 6) [0], fR (Kd.int .i64) 2 w.heap.size (v 2) [-1], fR (Kd.int .i64) 2 w.heap.size (.slice (some ⟨g8, 0, none⟩) ms.length c8) ms, fR (Kd.int .i64) 2 w.heap.size (v 7) (VL ++ [0]), fR (Kd.int .i64) 2 w.heap.size (v 3) (CL ++ [-1]), fR (Kd.int .i64) 2 w.heap.size ud (df ++ [u]), fR (Kd.int .i64) 2 w.heap.size ub (bs ++ [b]), fB w.heap.size g4 #[(.slice A2 bl.length c2), ub, ud, v 3, v 7, (.slice A5 ac.length c5)] 74, fR (Kd.int .i64) 2 w.heap.size (.slice A5 ac.length c5) ac, fR (Kd.int .i64) 2 w.heap.size (.slice A2 bl.length c2) bl, fB w.heap.size (w.heap.size + 1) #[.slice none 0 0, .slice none 0 0, .slice none 0 0, .slice none 0 0, .slice none 0 0, .slice none 0 0] 74] from S).tail.tail
                      simp only [putIf, ↓reduceIte, Act.put, List.setIfInBounds_toArray, List.set_cons_succ, List.set_cons_zero]
                      go_wp2
                      go_roundg ((b + m + 1).toNat - ck'.length - (p + 1))
                      case measure => have := HPP.out; have := HG.out; have := HM.out; omega
                      case rel => exact ⟨p + 1, v 3, v 7, by have := HPP.out; have := HG.out; have := HM.out; omega, by rw [List.replicate_succ', List.replicate_succ', ← List.append_assoc, ← List.append_assoc, ← ECL.out, ← EVL.out]; exact S⟩
                    · have hc6 := eq_false hc5
                      obtain ⟨gk_, ck_, e3⟩ := S.out.form 2 rfl (by have := HG.out; have := HM.out; have := HPP.out; omega)
                      cases e3
                      obtain ⟨gv_, cv_, e4⟩ := S.out.form 1 rfl (by have := HG.out; have := HM.out; have := HPP.out; have := HQ.out; omega)
                      cases e4
                      obtain ⟨ad2, e2, hxr⟩ := Kd.at_int HROW.out m HM.out.1 (by have := HM.out; omega)
                      cases e2
                      have HXR := Aside0.mk hxr
                      clear hxr
                      have hm0 := eq_true HM.out.1
                      have hm1 := eq_true HM.out.2
                      have hi0 := eq_true (show 0 ≤ b + m by have := HG.out; have := HM.out; omega)
                      have hi1 := eq_true (show b + m < (CL.length : Int) by omega)
                      have hi2 := eq_true (show b + m < (VL.length : Int) by have := HPP.out; have := HQ.out; omega)
                      go_wp2_with fail
                      refine mask_ (n := 19) (fun l v W => (l 0 = true → v 0 = .pointer (some ⟨g4, 3, none⟩)) ∧ (l 1 = true → v 1 = .slice (some ⟨gk_, 0, none⟩) CL.length ckc) ∧ (l 2 = true → v 2 = .int .i64 b) ∧ (l 3 = true → v 3 = .int .i64 m) ∧ (l 4 = true → v 4 = .int .i64 (b + m)) ∧ (l 5 = true → v 5 = .pointer (some ⟨g4, 4, none⟩)) ∧ (l 6 = true → v 6 = .slice (some ⟨gv_, 0, none⟩) VL.length cvc) ∧ (l 7 = true → v 7 = .int .i64 b) ∧ (l 8 = true → v 8 = .int .i64 m) ∧ (l 9 = true → v 9 = .int .i64 (b + m)) ∧ (l 10 = true → v 10 = .int .i64 s) ∧ (l 11 = true → v 11 = .slice (some ad2) row.length c1) ∧ (l 12 = true → v 12 = .int .i64 m) ∧ (l 13 = true → v 13 = .pointer (some (ad2.add m.toNat))) ∧ (l 14 = true → v 14 = .int .i64 (rd row m)) ∧ (l 15 = true → v 15 = .pointer (some ⟨gk_, (b + m).toNat, none⟩)) ∧ (l 17 = true → v 17 = .pointer (some ⟨gv_, (b + m).toNat, none⟩)) ∧ Hp w.heap.size w W [fR (Kd.int .i64) 2 w.heap.size (.slice (some ⟨g8, 0, none⟩) ms.length c8) ms, cf (l 18) (fR (Kd.int .i64) 2 w.heap.size (.slice (some ⟨gv_, 0, none⟩) VL.length cvc) (VL.set (b + m).toNat (rd row m))) (fR (Kd.int .i64) 2 w.heap.size (.slice (some ⟨gv_, 0, none⟩) VL.length cvc) VL), cf (l 16) (fR (Kd.int .i64) 2 w.heap.size (.slice (some ⟨gk_, 0, none⟩) CL.length ckc) (CL.set (b + m).toNat (s : Int))) (fR (Kd.int .i64) 2 w.heap.size (.slice (some ⟨gk_, 0, none⟩) CL.length ckc) CL), fR (Kd.int .i64) 2 w.heap.size ud (df ++ [u]), fR (Kd.int .i64) 2 w.heap.size ub (bs ++ [b]), fB w.heap.size g4 #[(.slice A2 bl.length c2), ub, ud, (.slice (some ⟨gk_, 0, none⟩) CL.length ckc), (.slice (some ⟨gv_, 0, none⟩) VL.length cvc), (.slice A5 ac.length c5)] 74, fR (Kd.int .i64) 2 w.heap.size (.slice A5 ac.length c5) ac, fR (Kd.int .i64) 2 w.heap.size (.slice A2 bl.length c2) bl, fB w.heap.size (w.heap.size + 1) #[.slice none 0 0, .slice none 0 0, .slice none 0 0, .slice none 0 0, .slice none 0 0, .slice none 0 0] 74]) [[], [0], [], [], [2, 3], [], [5], [], [], [7, 8], [], [], [], [11, 12], [13], [1, 4, 0, 1, 2, 3, 4, 10, 14], [15, 10, 0, 1, 2, 3, 4, 10, 14], [6, 9, 0, 1, 2, 3, 4, 5, 6, 7, 8, 9, 10, 11, 12, 13, 14, 15, 16], [17, 14, 16, 0, 1, 2, 3, 4, 5, 6, 7, 8, 9, 10, 11, 12, 13, 14, 15, 16]] [some 90, some 91, some 92, some 93, some 94, some 95, some 96, some 97, some 98, some 99, some 100, some 101, some 102, some 103, some 104, some 105, none, some 106, none] 115 (by kernel_rfl) impl_Pack.need21 impl_Pack.dst21 (by decide) rfl ⟨fun h => absurd h (by decide), fun h => absurd h (by decide), fun h => absurd h (by decide), fun h => absurd h (by decide), fun h => absurd h (by decide), fun h => absurd h (by decide), fun h => absurd h (by decide), fun h => absurd h (by decide), fun h => absurd h (by decide), fun h => absurd h (by decide), fun h => absurd h (by decide), fun h => absurd h (by decide), fun h => absurd h (by decide), fun h => absurd h (by decide), fun h => absurd h (by decide), fun h => absurd h (by decide), fun h => absurd h (by decide), ?_⟩ ⟨?_, ?_, ?_, ?_, ?_, ?_, ?_, ?_, ?_, ?_, ?_, ?_, ?_, ?_, ?_, ?_, ?_, ?_, ?_, trivial⟩ (fun v W hJ => ?_)
                      · exact S.out.drew
                      · intro l v W zb hzb hsz hJ hi hn hc K hK
                        have HZ := Aside0.mk hzb; clear hzb
                        obtain ⟨p0, p1, p2, p3, p4, p5, p6, p7, p8, p9, p10, p11, p12, p13, p14, p15, p17, S⟩ := hJ
                        have e4 : zb.tmps.getD 4 undef = .pointer (some ⟨g4, 0, none⟩) := by rw [HZ.out, putIf_other _ 0 _ rfl]; rfl
                        refine yields_ (N := some 90) (x := .pointer (some ⟨g4, 3, none⟩)) rfl rfl ?_ (hK.out _ _ ⟨fun _ => rfl, p1, p2, p3, p4, p5, p6, p7, p8, p9, p10, p11, p12, p13, p14, p15, p17, S⟩)
                        clear hK HZ hn hc p0 p1 p2 p3 p4 p5 p6 p7 p8 p9 p10 p11 p12 p13 p14 p15 p17; (try simp only [Array.getD_eq_getD_getElem?] at *); go_simp; try with_reducible rfl
                      · intro l v W zb hzb hsz hJ hi hn hc K hK
                        have HZ := Aside0.mk hzb; clear hzb
                        obtain ⟨p0, p1, p2, p3, p4, p5, p6, p7, p8, p9, p10, p11, p12, p13, p14, p15, p17, S⟩ := hJ
                        have e90 : zb.tmps.getD 90 undef = .pointer (some ⟨g4, 3, none⟩) := by rw [HZ.out, putIf_at (hn 0 (by decide)) _ 0 _ (Nat.zero_le _) rfl rfl (by rw [hsz]; decide)]; exact p0 (hn 0 (by decide))
                        have S0 := S
                        rw [hc 16 1 (by decide) hi] at S
                        rw [hc 18 1 (by decide) hi] at S
                        have z := S.cell 5 3 rfl rfl
                        refine yields_ (N := some 91) (x := .slice (some ⟨gk_, 0, none⟩) CL.length ckc) rfl rfl ?_ (hK.out _ _ ⟨p0, fun _ => rfl, p2, p3, p4, p5, p6, p7, p8, p9, p10, p11, p12, p13, p14, p15, p17, S0⟩)
                        clear hK HZ hn hc p0 p1 p2 p3 p4 p5 p6 p7 p8 p9 p10 p11 p12 p13 p14 p15 p17; (try simp only [Array.getD_eq_getD_getElem?] at *); go_simp; try with_reducible rfl
                      · intro l v W zb hzb hsz hJ hi hn hc K hK
                        have HZ := Aside0.mk hzb; clear hzb
                        obtain ⟨p0, p1, p2, p3, p4, p5, p6, p7, p8, p9, p10, p11, p12, p13, p14, p15, p17, S⟩ := hJ
                        have e11 : zb.tmps.getD 11 undef = .int .i64 b := by rw [HZ.out, putIf_other _ 0 _ rfl]; rfl
                        refine yields_ (N := some 92) (x := .int .i64 b) rfl rfl ?_ (hK.out _ _ ⟨p0, p1, fun _ => rfl, p3, p4, p5, p6, p7, p8, p9, p10, p11, p12, p13, p14, p15, p17, S⟩)
                        clear hK HZ hn hc p0 p1 p2 p3 p4 p5 p6 p7 p8 p9 p10 p11 p12 p13 p14 p15 p17; (try simp only [Array.getD_eq_getD_getElem?] at *); go_simp; try with_reducible rfl
                      · intro l v W zb hzb hsz hJ hi hn hc K hK
                        have HZ := Aside0.mk hzb; clear hzb
                        obtain ⟨p0, p1, p2, p3, p4, p5, p6, p7, p8, p9, p10, p11, p12, p13, p14, p15, p17, S⟩ := hJ
                        have e13 : zb.tmps.getD 13 undef = .int .i64 m := by rw [HZ.out, putIf_other _ 0 _ rfl]; rfl
                        refine yields_ (N := some 93) (x := .int .i64 m) rfl rfl ?_ (hK.out _ _ ⟨p0, p1, p2, fun _ => rfl, p4, p5, p6, p7, p8, p9, p10, p11, p12, p13, p14, p15, p17, S⟩)
                        clear hK HZ hn hc p0 p1 p2 p3 p4 p5 p6 p7 p8 p9 p10 p11 p12 p13 p14 p15 p17; (try simp only [Array.getD_eq_getD_getElem?] at *); go_simp; try with_reducible rfl
                      · intro l v W zb hzb hsz hJ hi hn hc K hK
                        have HZ := Aside0.mk hzb; clear hzb
                        obtain ⟨p0, p1, p2, p3, p4, p5, p6, p7, p8, p9, p10, p11, p12, p13, p14, p15, p17, S⟩ := hJ
                        have e92 : zb.tmps.getD 92 undef = .int .i64 b := by rw [HZ.out, putIf_at (hn 2 (by decide)) _ 0 _ (Nat.zero_le _) rfl rfl (by rw [hsz]; decide)]; exact p2 (hn 2 (by decide))
                        have e93 : zb.tmps.getD 93 undef = .int .i64 m := by rw [HZ.out, putIf_at (hn 3 (by decide)) _ 0 _ (Nat.zero_le _) rfl rfl (by rw [hsz]; decide)]; exact p3 (hn 3 (by decide))
                        refine yields_ (N := some 94) (x := .int .i64 (b + m)) rfl rfl ?_ (hK.out _ _ ⟨p0, p1, p2, p3, fun _ => rfl, p5, p6, p7, p8, p9, p10, p11, p12, p13, p14, p15, p17, S⟩)
                        clear hK HZ hn hc p0 p1 p2 p3 p4 p5 p6 p7 p8 p9 p10 p11 p12 p13 p14 p15 p17; (try simp only [Array.getD_eq_getD_getElem?] at *); go_simp; rw [i64_w, WB]
                      · intro l v W zb hzb hsz hJ hi hn hc K hK
                        have HZ := Aside0.mk hzb; clear hzb
                        obtain ⟨p0, p1, p2, p3, p4, p5, p6, p7, p8, p9, p10, p11, p12, p13, p14, p15, p17, S⟩ := hJ
                        have e4 : zb.tmps.getD 4 undef = .pointer (some ⟨g4, 0, none⟩) := by rw [HZ.out, putIf_other _ 0 _ rfl]; rfl
                        refine yields_ (N := some 95) (x := .pointer (some ⟨g4, 4, none⟩)) rfl rfl ?_ (hK.out _ _ ⟨p0, p1, p2, p3, p4, fun _ => rfl, p6, p7, p8, p9, p10, p11, p12, p13, p14, p15, p17, S⟩)
                        clear hK HZ hn hc p0 p1 p2 p3 p4 p5 p6 p7 p8 p9 p10 p11 p12 p13 p14 p15 p17; (try simp only [Array.getD_eq_getD_getElem?] at *); go_simp; try with_reducible rfl
                      · intro l v W zb hzb hsz hJ hi hn hc K hK
                        have HZ := Aside0.mk hzb; clear hzb
                        obtain ⟨p0, p1, p2, p3, p4, p5, p6, p7, p8, p9, p10, p11, p12, p13, p14, p15, p17, S⟩ := hJ
                        have e95 : zb.tmps.getD 95 undef = .pointer (some ⟨g4, 4, none⟩) := by rw [HZ.out, putIf_at (hn 5 (by decide)) _ 0 _ (Nat.zero_le _) rfl rfl (by rw [hsz]; decide)]; exact p5 (hn 5 (by decide))
                        have S0 := S
                        rw [hc 18 6 (by decide) hi] at S
                        have z := S.cell 5 4 rfl rfl
                        refine yields_ (N := some 96) (x := .slice (some ⟨gv_, 0, none⟩) VL.length cvc) rfl rfl ?_ (hK.out _ _ ⟨p0, p1, p2, p3, p4, p5, fun _ => rfl, p7, p8, p9, p10, p11, p12, p13, p14, p15, p17, S0⟩)
                        clear hK HZ hn hc p0 p1 p2 p3 p4 p5 p6 p7 p8 p9 p10 p11 p12 p13 p14 p15 p17; (try simp only [Array.getD_eq_getD_getElem?] at *); go_simp; try with_reducible rfl
                      · intro l v W zb hzb hsz hJ hi hn hc K hK
                        have HZ := Aside0.mk hzb; clear hzb
                        obtain ⟨p0, p1, p2, p3, p4, p5, p6, p7, p8, p9, p10, p11, p12, p13, p14, p15, p17, S⟩ := hJ
                        have e11 : zb.tmps.getD 11 undef = .int .i64 b := by rw [HZ.out, putIf_other _ 0 _ rfl]; rfl
                        refine yields_ (N := some 97) (x := .int .i64 b) rfl rfl ?_ (hK.out _ _ ⟨p0, p1, p2, p3, p4, p5, p6, fun _ => rfl, p8, p9, p10, p11, p12, p13, p14, p15, p17, S⟩)
                        clear hK HZ hn hc p0 p1 p2 p3 p4 p5 p6 p7 p8 p9 p10 p11 p12 p13 p14 p15 p17; (try simp only [Array.getD_eq_getD_getElem?] at *); go_simp; try with_reducible rfl
                      · intro l v W zb hzb hsz hJ hi hn hc K hK
                        have HZ := Aside0.mk hzb; clear hzb
                        obtain ⟨p0, p1, p2, p3, p4, p5, p6, p7, p8, p9, p10, p11, p12, p13, p14, p15, p17, S⟩ := hJ
                        have e13 : zb.tmps.getD 13 undef = .int .i64 m := by rw [HZ.out, putIf_other _ 0 _ rfl]; rfl
                        refine yields_ (N := some 98) (x := .int .i64 m) rfl rfl ?_ (hK.out _ _ ⟨p0, p1, p2, p3, p4, p5, p6, p7, fun _ => rfl, p9, p10, p11, p12, p13, p14, p15, p17, S⟩)
                        clear hK HZ hn hc p0 p1 p2 p3 p4 p5 p6 p7 p8 p9 p10 p11 p12 p13 p14 p15 p17; (try simp only [Array.getD_eq_getD_getElem?] at *); go_simp; try with_reducible rfl
                      · intro l v W zb hzb hsz hJ hi hn hc K hK
                        have HZ := Aside0.mk hzb; clear hzb
                        obtain ⟨p0, p1, p2, p3, p4, p5, p6, p7, p8, p9, p10, p11, p12, p13, p14, p15, p17, S⟩ := hJ
                        have e97 : zb.tmps.getD 97 undef = .int .i64 b := by rw [HZ.out, putIf_at (hn 7 (by decide)) _ 0 _ (Nat.zero_le _) rfl rfl (by rw [hsz]; decide)]; exact p7 (hn 7 (by decide))
                        have e98 : zb.tmps.getD 98 undef = .int .i64 m := by rw [HZ.out, putIf_at (hn 8 (by decide)) _ 0 _ (Nat.zero_le _) rfl rfl (by rw [hsz]; decide)]; exact p8 (hn 8 (by decide))
                        refine yields_ (N := some 99) (x := .int .i64 (b + m)) rfl rfl ?_ (hK.out _ _ ⟨p0, p1, p2, p3, p4, p5, p6, p7, p8, fun _ => rfl, p10, p11, p12, p13, p14, p15, p17, S⟩)
                        clear hK HZ hn hc p0 p1 p2 p3 p4 p5 p6 p7 p8 p9 p10 p11 p12 p13 p14 p15 p17; (try simp only [Array.getD_eq_getD_getElem?] at *); go_simp; rw [i64_w, WB]
                      · intro l v W zb hzb hsz hJ hi hn hc K hK
                        have HZ := Aside0.mk hzb; clear hzb
                        obtain ⟨p0, p1, p2, p3, p4, p5, p6, p7, p8, p9, p10, p11, p12, p13, p14, p15, p17, S⟩ := hJ
                        have e5 : zb.tmps.getD 5 undef = .int .i64 s := by rw [HZ.out, putIf_other _ 0 _ rfl]; rfl
                        refine yields_ (N := some 100) (x := .int .i64 s) rfl rfl ?_ (hK.out _ _ ⟨p0, p1, p2, p3, p4, p5, p6, p7, p8, p9, fun _ => rfl, p11, p12, p13, p14, p15, p17, S⟩)
                        clear hK HZ hn hc p0 p1 p2 p3 p4 p5 p6 p7 p8 p9 p10 p11 p12 p13 p14 p15 p17; (try simp only [Array.getD_eq_getD_getElem?] at *); go_simp; try with_reducible rfl
                      · intro l v W zb hzb hsz hJ hi hn hc K hK
                        have HZ := Aside0.mk hzb; clear hzb
                        obtain ⟨p0, p1, p2, p3, p4, p5, p6, p7, p8, p9, p10, p11, p12, p13, p14, p15, p17, S⟩ := hJ
                        have e6 : zb.tmps.getD 6 undef = .slice (some ad2) row.length c1 := by rw [HZ.out, putIf_other _ 0 _ rfl]; rfl
                        refine yields_ (N := some 101) (x := .slice (some ad2) row.length c1) rfl rfl ?_ (hK.out _ _ ⟨p0, p1, p2, p3, p4, p5, p6, p7, p8, p9, p10, fun _ => rfl, p12, p13, p14, p15, p17, S⟩)
                        clear hK HZ hn hc p0 p1 p2 p3 p4 p5 p6 p7 p8 p9 p10 p11 p12 p13 p14 p15 p17; (try simp only [Array.getD_eq_getD_getElem?] at *); go_simp; try with_reducible rfl
                      · intro l v W zb hzb hsz hJ hi hn hc K hK
                        have HZ := Aside0.mk hzb; clear hzb
                        obtain ⟨p0, p1, p2, p3, p4, p5, p6, p7, p8, p9, p10, p11, p12, p13, p14, p15, p17, S⟩ := hJ
                        have e13 : zb.tmps.getD 13 undef = .int .i64 m := by rw [HZ.out, putIf_other _ 0 _ rfl]; rfl
                        refine yields_ (N := some 102) (x := .int .i64 m) rfl rfl ?_ (hK.out _ _ ⟨p0, p1, p2, p3, p4, p5, p6, p7, p8, p9, p10, p11, fun _ => rfl, p13, p14, p15, p17, S⟩)
                        clear hK HZ hn hc p0 p1 p2 p3 p4 p5 p6 p7 p8 p9 p10 p11 p12 p13 p14 p15 p17; (try simp only [Array.getD_eq_getD_getElem?] at *); go_simp; try with_reducible rfl
                      · intro l v W zb hzb hsz hJ hi hn hc K hK
                        have HZ := Aside0.mk hzb; clear hzb
                        obtain ⟨p0, p1, p2, p3, p4, p5, p6, p7, p8, p9, p10, p11, p12, p13, p14, p15, p17, S⟩ := hJ
                        have e101 : zb.tmps.getD 101 undef = .slice (some ad2) row.length c1 := by rw [HZ.out, putIf_at (hn 11 (by decide)) _ 0 _ (Nat.zero_le _) rfl rfl (by rw [hsz]; decide)]; exact p11 (hn 11 (by decide))
                        have e102 : zb.tmps.getD 102 undef = .int .i64 m := by rw [HZ.out, putIf_at (hn 12 (by decide)) _ 0 _ (Nat.zero_le _) rfl rfl (by rw [hsz]; decide)]; exact p12 (hn 12 (by decide))
                        refine yields_ (N := some 103) (x := .pointer (some (ad2.add m.toNat))) rfl rfl ?_ (hK.out _ _ ⟨p0, p1, p2, p3, p4, p5, p6, p7, p8, p9, p10, p11, p12, fun _ => rfl, p14, p15, p17, S⟩)
                        clear hK HZ hn hc p0 p1 p2 p3 p4 p5 p6 p7 p8 p9 p10 p11 p12 p13 p14 p15 p17; (try simp only [Array.getD_eq_getD_getElem?] at *); go_simp; try with_reducible rfl
                      · intro l v W zb hzb hsz hJ hi hn hc K hK
                        have HZ := Aside0.mk hzb; clear hzb
                        obtain ⟨p0, p1, p2, p3, p4, p5, p6, p7, p8, p9, p10, p11, p12, p13, p14, p15, p17, S⟩ := hJ
                        have e103 : zb.tmps.getD 103 undef = .pointer (some (ad2.add m.toNat)) := by rw [HZ.out, putIf_at (hn 13 (by decide)) _ 0 _ (Nat.zero_le _) rfl rfl (by rw [hsz]; decide)]; exact p13 (hn 13 (by decide))
                        have S0 := S
                        rw [hc 16 14 (by decide) hi] at S
                        rw [hc 18 14 (by decide) hi] at S
                        have z := (S.below.cell (World.block_lt_of_cell? w _ HXR.out)).trans HXR.out
                        refine yields_ (N := some 104) (x := .int .i64 (rd row m)) rfl rfl ?_ (hK.out _ _ ⟨p0, p1, p2, p3, p4, p5, p6, p7, p8, p9, p10, p11, p12, p13, fun _ => rfl, p15, p17, S0⟩)
                        clear hK HZ hn hc p0 p1 p2 p3 p4 p5 p6 p7 p8 p9 p10 p11 p12 p13 p14 p15 p17; (try simp only [Array.getD_eq_getD_getElem?] at *); go_simp; try with_reducible rfl
                      · intro l v W zb hzb hsz hJ hi hn hc K hK
                        have HZ := Aside0.mk hzb; clear hzb
                        obtain ⟨p0, p1, p2, p3, p4, p5, p6, p7, p8, p9, p10, p11, p12, p13, p14, p15, p17, S⟩ := hJ
                        have e91 : zb.tmps.getD 91 undef = .slice (some ⟨gk_, 0, none⟩) CL.length ckc := by rw [HZ.out, putIf_at (hn 1 (by decide)) _ 0 _ (Nat.zero_le _) rfl rfl (by rw [hsz]; decide)]; exact p1 (hn 1 (by decide))
                        have e94 : zb.tmps.getD 94 undef = .int .i64 (b + m) := by rw [HZ.out, putIf_at (hn 4 (by decide)) _ 0 _ (Nat.zero_le _) rfl rfl (by rw [hsz]; decide)]; exact p4 (hn 4 (by decide))
                        refine yields_ (N := some 105) (x := .pointer (some ⟨gk_, (b + m).toNat, none⟩)) rfl rfl ?_ (hK.out _ _ ⟨p0, p1, p2, p3, p4, p5, p6, p7, p8, p9, p10, p11, p12, p13, p14, fun _ => rfl, p17, S⟩)
                        clear hK HZ hn hc p0 p1 p2 p3 p4 p5 p6 p7 p8 p9 p10 p11 p12 p13 p14 p15 p17; (try simp only [Array.getD_eq_getD_getElem?] at *); go_simp; try with_reducible rfl
                      · intro l v W zb hzb hsz hJ hi hn hc K hK
                        have HZ := Aside0.mk hzb; clear hzb
                        obtain ⟨p0, p1, p2, p3, p4, p5, p6, p7, p8, p9, p10, p11, p12, p13, p14, p15, p17, S⟩ := hJ
                        have e100 : zb.tmps.getD 100 undef = .int .i64 s := by rw [HZ.out, putIf_at (hn 10 (by decide)) _ 0 _ (Nat.zero_le _) rfl rfl (by rw [hsz]; decide)]; exact p10 (hn 10 (by decide))
                        have e105 : zb.tmps.getD 105 undef = .pointer (some ⟨gk_, (b + m).toNat, none⟩) := by rw [HZ.out, putIf_at (hn 15 (by decide)) _ 0 _ (Nat.zero_le _) rfl rfl (by rw [hsz]; decide)]; exact p15 (hn 15 (by decide))
                        rw [hc 18 16 (by decide) hi] at S
                        rw [hi] at S
                        have hk := hK.out
                        obtain ⟨zp, fp⟩ := S.cellR 2 (0 : Int) rfl (b + m) (by have := HG.out; have := HM.out; omega) (by have := hc5; omega)
                        have S1 := S.putRow 2 rfl (b + m) ((s : Int))
                        refine st_run (w1 := ?_) rfl rfl (by (try simp only [Array.getD_eq_getD_getElem?] at *); go_simp; rfl) ?_
                        refine hk undef _ ⟨p0, p1, p2, p3, p4, p5, p6, p7, p8, p9, p10, p11, p12, p13, p14, p15, p17, ?_⟩
                        rw [show upd l 16 18 = false from hc 18 16 (by decide) hi]
                        exact S1
                      · intro l v W zb hzb hsz hJ hi hn hc K hK
                        have HZ := Aside0.mk hzb; clear hzb
                        obtain ⟨p0, p1, p2, p3, p4, p5, p6, p7, p8, p9, p10, p11, p12, p13, p14, p15, p17, S⟩ := hJ
                        have e96 : zb.tmps.getD 96 undef = .slice (some ⟨gv_, 0, none⟩) VL.length cvc := by rw [HZ.out, putIf_at (hn 6 (by decide)) _ 0 _ (Nat.zero_le _) rfl rfl (by rw [hsz]; decide)]; exact p6 (hn 6 (by decide))
                        have e99 : zb.tmps.getD 99 undef = .int .i64 (b + m) := by rw [HZ.out, putIf_at (hn 9 (by decide)) _ 0 _ (Nat.zero_le _) rfl rfl (by rw [hsz]; decide)]; exact p9 (hn 9 (by decide))
                        refine yields_ (N := some 106) (x := .pointer (some ⟨gv_, (b + m).toNat, none⟩)) rfl rfl ?_ (hK.out _ _ ⟨p0, p1, p2, p3, p4, p5, p6, p7, p8, p9, p10, p11, p12, p13, p14, p15, fun _ => rfl, S⟩)
                        clear hK HZ hn hc p0 p1 p2 p3 p4 p5 p6 p7 p8 p9 p10 p11 p12 p13 p14 p15 p17; (try simp only [Array.getD_eq_getD_getElem?] at *); go_simp; try with_reducible rfl
                      · intro l v W zb hzb hsz hJ hi hn hc K hK
                        have HZ := Aside0.mk hzb; clear hzb
                        obtain ⟨p0, p1, p2, p3, p4, p5, p6, p7, p8, p9, p10, p11, p12, p13, p14, p15, p17, S⟩ := hJ
                        have e104 : zb.tmps.getD 104 undef = .int .i64 (rd row m) := by rw [HZ.out, putIf_at (hn 14 (by decide)) _ 0 _ (Nat.zero_le _) rfl rfl (by rw [hsz]; decide)]; exact p14 (hn 14 (by decide))
                        have e106 : zb.tmps.getD 106 undef = .pointer (some ⟨gv_, (b + m).toNat, none⟩) := by rw [HZ.out, putIf_at (hn 17 (by decide)) _ 0 _ (Nat.zero_le _) rfl rfl (by rw [hsz]; decide)]; exact p17 (hn 17 (by decide))
                        rw [hn 16 (by decide)] at S
                        rw [hi] at S
                        have hk := hK.out
                        obtain ⟨zp, fp⟩ := S.cellR 1 (0 : Int) rfl (b + m) (by have := HG.out; have := HM.out; omega) (by have := hc5; have := HPP.out; have := HQ.out; omega)
                        have S1 := S.putRow 1 rfl (b + m) (rd row m)
                        refine st_run (w1 := ?_) rfl rfl (by (try simp only [Array.getD_eq_getD_getElem?] at *); go_simp; rfl) ?_
                        refine hk undef _ ⟨p0, p1, p2, p3, p4, p5, p6, p7, p8, p9, p10, p11, p12, p13, p14, p15, p17, ?_⟩
                        rw [show upd l 18 16 = true from hn 16 (by decide)]
                        exact S1
                      clear S
                      obtain ⟨-, -, -, -, -, -, -, -, -, -, -, -, -, -, -, -, -, S⟩ := hJ
                      replace S := Aside0.mk (show Hp w.heap.size w W [fR (Kd.int .i64) 2 w.heap.size (.slice (some ⟨g8, 0, none⟩) ms.length c8) ms, fR (Kd.int .i64) 2 w.heap.size (.slice (some ⟨gv_, 0, none⟩) VL.length cvc) (VL.set (b + m).toNat (rd row m)), fR (Kd.int .i64) 2 w.heap.size (.slice (some ⟨gk_, 0, none⟩) CL.length ckc) (CL.set (b + m).toNat (s : Int)), fR (Kd.int .i64) 2 w.heap.size ud (df ++ [u]), fR (Kd.int .i64) 2 w.heap.size ub (bs ++ [b]), fB w.heap.size g4 #[(.slice A2 bl.length c2), ub, ud, (.slice (some ⟨gk_, 0, none⟩) CL.length ckc), (.slice (some ⟨gv_, 0, none⟩) VL.length cvc), (.slice A5 ac.length c5)] 74, fR (Kd.int .i64) 2 w.heap.size (.slice A5 ac.length c5) ac, fR (Kd.int .i64) 2 w.heap.size (.slice A2 bl.length c2) bl, fB w.heap.size (w.heap.size + 1) #[.slice none 0 0, .slice none 0 0, .slice none 0 0, .slice none 0 0, .slice none 0 0, .slice none 0 0] 74] from S)
                      simp only [putIf, ↓reduceIte, Act.put, List.setIfInBounds_toArray, List.set_cons_succ, List.set_cons_zero]
                      have WN := Aside0.mk (show wrap64 ((j : Int) + 1) = ((j + 1 : Nat) : Int) from nat_next (by have := HJ.out; have := HML.out; have := HG.out; omega))
                      clear hm0 hm1 hi0 hi1 hi2
                      go_wp2
                      go_roundg (ms.length - (j + 1))
                      case measure => have := HJ.out; omega
                      case rel => exact ⟨j + 1, _, _, _, _, congrArg (Value.int .i64) WN.out, by have := HJ.out; omega, ⟨by rw [List.take_succ_eq_append_getElem HJ.out.2, placeM_snoc, HP.out, EM.out]; unfold place1 padTo; rw [show ((b + m + 1).toNat - ck'.length) = p by have := HPP.out; have := HG.out; have := HM.out; omega, show ((b + m + 1).toNat - vl'.length) = p by have := HPP.out; have := HG.out; have := HM.out; have := HQ.out; omega, ← ECL.out, ← EVL.out]⟩, S⟩
                · have hcond := eq_false (show ¬ (j : Int) < (ms.length : Int) by omega)
                  obtain ⟨Ak, ckc, rfl⟩ := S.out.slice 2 rfl
                  have z3 := S.out.cell 5 3 rfl rfl
                  obtain rfl : j = ms.length := by omega
                  have hp := HP.out
                  rw [List.take_length] at hp
                  have hnn := HN.out
                  rw [hp] at hnn
                  by_cases hbig : ck'.length > 200000
                  · have hbig2 := eq_true (show (ck'.length : Int) > 200000 by omega)
                    rw [if_pos hbig] at hnn
                    simp only [Option.some.injEq, Prod.mk.injEq] at hnn
                    obtain ⟨rfl, rfl, rfl, rfl, rfl⟩ := hnn
                    have hr := HRES.out
                    rw [if_neg (by decide)] at hr
                    simp only [Option.some.injEq, Prod.mk.injEq] at hr
                    obtain ⟨rfl, rfl, rfl, rfl, rfl, rfl, rfl⟩ := hr
                    clear hp hj hbig HRES HN
                    have y0 := S.out.cell 8 0 rfl rfl
                    have y1 := S.out.cell 8 1 rfl rfl
                    have y2 := S.out.cell 8 2 rfl rfl
                    have y3 := S.out.cell 8 3 rfl rfl
                    have y4 := S.out.cell 8 4 rfl rfl
                    have y5 := S.out.cell 8 5 rfl rfl
                    have f0 := S.out.frozen 8 0 rfl
                    have f1 := S.out.frozen 8 1 rfl
                    have f2 := S.out.frozen 8 2 rfl
                    have f3 := S.out.frozen 8 3 rfl
                    have f4 := S.out.frozen 8 4 rfl
                    have f5 := S.out.frozen 8 5 rfl
                    go_wp2
                    have S1 := Aside0.mk (((((((S.out).put 8 0 (u := .slice none 0 0) rfl rfl).put 8 1 (u := .slice none 0 0) rfl rfl).put 8 2 (u := .slice none 0 0) rfl rfl).put 8 3 (u := .slice none 0 0) rfl rfl).put 8 4 (u := .slice none 0 0) rfl rfl).put 8 5 (u := .slice none 0 0) rfl rfl)
                    refine bodyPost_ret (results_ct rfl _ _ (w.heap.size + 1) 74 #[.slice none 0 0, .slice none 0 0, .slice none 0 0, .slice none 0 0, .slice none 0 0, .slice none 0 0] (0, 0) _ rfl (S1.out.blk 8 rfl) Try.underlying74 rfl (by kernel_rfl)) rfl ?_
                    exact ⟨_, _, _, _, _, _, rfl, Kd.R_nil _ _ _ _ _, Kd.R_nil _ _ _ _ _, Kd.R_nil _ _ _ _ _, Kd.R_nil _ _ _ _ _, Kd.R_nil _ _ _ _ _, Kd.R_nil _ _ _ _ _, S1.out.below⟩
                  · have hbig2 := eq_false (show ¬ (ck'.length : Int) > 200000 by omega)
                    rw [if_neg hbig] at hnn
                    have HN2 := Aside0.mk hnn
                    have WN := Aside0.mk (show wrap64 ((s : Int) + 1) = ((s + 1 : Nat) : Int) by have := HS.out; have h9 := HLN.out; rw [w64 (by omega) (by omega)]; omega)
                    clear hp hj hbig hnn HN
                    go_wp2
                    go_roundg k1
                    case measure => omega
                    case rel => exact ⟨s + 1, bs ++ [b], df ++ [u], ck', vl', ub, ud, _, u4, congrArg (Value.int .i64) WN.out, HS.out, HN2, ⟨by have := HK.out; omega⟩, ⟨S.out.tail⟩⟩
        · rw [if_neg c] at H
          simp only [Option.some.injEq, Prod.mk.injEq] at H
          obtain ⟨rfl, rfl, rfl, rfl, rfl⟩ := H
          have hr := HRES.out
          rw [if_pos rfl] at hr
          simp only [Option.some.injEq, Prod.mk.injEq] at hr
          obtain ⟨rfl, rfl, rfl, rfl, rfl, rfl, rfl⟩ := hr
          have hcond := eq_false (show ¬ (s : Int) < (l0_1.length : Int) by omega)
          obtain ⟨B4, e4, rfl⟩ := S.out.slice 0 rfl
          obtain ⟨B3, e3, rfl⟩ := S.out.slice 1 rfl
          obtain ⟨B2, e2, rfl⟩ := S.out.slice 2 rfl
          obtain ⟨B1, e1, rfl⟩ := S.out.slice 3 rfl
          clear HA c hs HRES
          have x0 := S.out.cell 4 0 rfl rfl
          have x1 := S.out.cell 4 1 rfl rfl
          have x2 := S.out.cell 4 2 rfl rfl
          have x3 := S.out.cell 4 3 rfl rfl
          have x4 := S.out.cell 4 4 rfl rfl
          have x5 := S.out.cell 4 5 rfl rfl
          have y0 := S.out.cell 7 0 rfl rfl
          have y1 := S.out.cell 7 1 rfl rfl
          have y2 := S.out.cell 7 2 rfl rfl
          have y3 := S.out.cell 7 3 rfl rfl
          have y4 := S.out.cell 7 4 rfl rfl
          have y5 := S.out.cell 7 5 rfl rfl
          have f0 := S.out.frozen 7 0 rfl
          have f1 := S.out.frozen 7 1 rfl
          have f2 := S.out.frozen 7 2 rfl
          have f3 := S.out.frozen 7 3 rfl
          have f4 := S.out.frozen 7 4 rfl
          have f5 := S.out.frozen 7 5 rfl
          go_wp2
          have S1 := Aside0.mk (((((((S.out).put 7 0 (u := .slice A2 bl.length c2) rfl rfl).put 7 1 (u := .slice B1 bs.length e1) rfl rfl).put 7 2 (u := .slice B2 df.length e2) rfl rfl).put 7 3 (u := .slice B3 ck.length e3) rfl rfl).put 7 4 (u := .slice B4 vl.length e4) rfl rfl).put 7 5 (u := .slice A5 ac.length c5) rfl rfl)
          refine bodyPost_ret (results_ct rfl _ _ (w.heap.size + 1) 74 #[.slice A2 bl.length c2, .slice B1 bs.length e1, .slice B2 df.length e2, .slice B3 ck.length e3, .slice B4 vl.length e4, .slice A5 ac.length c5] (0, 0) _ rfl (S1.out.blk 7 rfl) Try.underlying74 rfl (by kernel_rfl)) rfl ?_
          obtain ⟨hB, cl, hc⟩ := S1.out.cells
          have q0 := hc 6 _ rfl; have q1 := hc 3 _ rfl; have q2 := hc 2 _ rfl; have q3 := hc 1 _ rfl; have q4 := hc 0 _ rfl; have q5 := hc 5 _ rfl
          exact ⟨_, _, _, _, _, _, rfl, Kd.R_mono q0 (fun _ hk => ⟨nc_ hk q1.1 (by decide), nc_ hk q2.1 (by decide), nc_ hk q3.1 (by decide), nc_ hk q4.1 (by decide), nc_ hk q5.1 (by decide)⟩), Kd.R_mono q1 (fun _ hk => ⟨nc_ hk q0.1 (by decide), nc_ hk q2.1 (by decide), nc_ hk q3.1 (by decide), nc_ hk q4.1 (by decide), nc_ hk q5.1 (by decide)⟩), Kd.R_mono q2 (fun _ hk => ⟨nc_ hk q0.1 (by decide), nc_ hk q1.1 (by decide), nc_ hk q3.1 (by decide), nc_ hk q4.1 (by decide), nc_ hk q5.1 (by decide)⟩), Kd.R_mono q3 (fun _ hk => ⟨nc_ hk q0.1 (by decide), nc_ hk q1.1 (by decide), nc_ hk q2.1 (by decide), nc_ hk q4.1 (by decide), nc_ hk q5.1 (by decide)⟩), Kd.R_mono q4 (fun _ hk => ⟨nc_ hk q0.1 (by decide), nc_ hk q1.1 (by decide), nc_ hk q2.1 (by decide), nc_ hk q3.1 (by decide), nc_ hk q5.1 (by decide)⟩), Kd.R_mono q5 (fun _ hk => ⟨nc_ hk q0.1 (by decide), nc_ hk q1.1 (by decide), nc_ hk q2.1 (by decide), nc_ hk q3.1 (by decide), nc_ hk q4.1 (by decide)⟩), hB⟩
end

end Go.Proofs.Ytbijmhooamjgoaa.PFnExactPack
