-- Written by this session's own program (wip/pr.py) over the kit's printer; contracts that the printer does not know are given by hand.
import Derived.Test.YtfajfjgkkgigoaaPFnClosedx0
import Derived.Test.YtfajfjgkkgigoaaPFnClosedx1
import Derived.Test.YtfajfjgkkgigoaaPFnClosedx2
import Derived.Test.YtfajfjgkkgigoaaPFnClosedx8
import Derived.Test.YtfajfjgkkgigoaaPFnClosedx9
namespace Go.Proofs.Ytfajfjgkkgigoaa.PFnClosed
open Go.RowKit Go.Proofs.YtfajfjgkkgigoaaW.PrintWords Go.Proofs.YtfajfjgkkgigoaaW.PrintLast Go.Proofs.YtfajfjgkkgigoaaW.PrintMore
attribute [local go_sem] max2_int min2_int max_two min_two max_three min_three max_four min_four   -- for this text's walks alone
set_option linter.unusedVariables false
set_option linter.unusedSimpArgs false

/-! ### spec_MoveOn: function 24 -/
def spec_MoveOn.f (k : Nat) (a0_0 : Int) (l0_1 : List (S85)) (l0_2 : List (S156)) (l1 : List Int) (a2 : Int) : Option (List Int) := (spec_l6Marks.f k a0_0 l0_1 l0_2 l1).bind fun bt266 => (if bt266.2 = true then ((spec_l6Close.f k a0_0 l0_1 l0_2 bt266.1).bind fun t270 => ((spec_l6Step.f k a0_0 l0_1 l0_2 t270 a2).bind fun t273 => ((spec_l6List.f k t273).bind fun t276 => (some t276)))) else (some (([] : List Int))))
theorem spec_MoveOn.mono : ∀ a0 a1 a2 a3 a4 k, LeO (spec_MoveOn.f k a0 a1 a2 a3 a4) (spec_MoveOn.f (k + 1) a0 a1 a2 a3 a4) := by
 intro a0 a1 a2 a3 a4 k
 unfold spec_MoveOn.f
 repeat' first
   | (with_reducible exact LeO.refl _)
   | exact spec_l6Close.mono _ _ _ _ _
   | exact spec_l6List.mono _ _
   | exact spec_l6Marks.mono _ _ _ _ _
   | exact spec_l6Step.mono _ _ _ _ _ _
   | exact LeO.none _
   | refine LeO.ite ?_ ?_
   | refine LeO.bind ?_ (fun _ => ?_)
def spec_MoveOn.T4 : Bool × List (List Nat × List Nat) := (true, [([], []), ([], []), ([], []), ([1, 2], [1, 2]), ([], []), ([0, 3, 4, 3], [0, 3, 4]), ([5, 5], [5]), ([6, 6, 0, 1, 2, 3, 4, 5, 6], [6])])
def spec_MoveOn.B4 : List Nat := [0, 0, 0, 6, 0, 31, 63, 127]
theorem spec_MoveOn.tab4 : rtab .any (opsOf Try.f24 4) = spec_MoveOn.T4 := by kernel_rfl
theorem spec_MoveOn.bits4 : waitsOk spec_MoveOn.T4.2 spec_MoveOn.B4 = true := by kernel_rfl
set_option maxHeartbeats 8000000 in
set_option maxRecDepth 100000 in
theorem spec_MoveOn.calls (k : Nat) (a0_0 : Int) (A0_1 : Option Addr) (c0_1 : Nat) (l0_1 : List (S85)) (A0_2 : Option Addr) (c0_2 : Nat) (l0_2 : List (S156)) (A1 : Option Addr) (c1 : Nat) (l1 : List Int) (a2 : Int) (r : List Int) (w : World) (hr0_1 : Kd.C k85 w A0_1 l0_1.length l0_1) (hc0_1 : l0_1.length ≤ c0_1) (hr0_2 : Kd.C k156 w A0_2 l0_2.length l0_2) (hc0_2 : l0_2.length ≤ c0_2) (hr1 : Kd.C (Kd.int .i64) w A1 l1.length l1) (hc1 : l1.length ≤ c1) (h : spec_MoveOn.f k a0_0 l0_1 l0_2 l1 a2 = some r) :
  Calls Try.prog 24 #[.agg #[.int .i64 a0_0, .slice A0_1 l0_1.length c0_1, .slice A0_2 l0_2.length c0_2], .slice A1 l1.length c1, .int .u8 a2] w fun e w' => ∃ v0_ : Value, e = .returned (v0_) ∧ Kd.R (Kd.int .i64) 2 w' w.heap.size (fun _ => True) v0_ r ∧ Below w.heap.size w w' := by
 have hu36 := Try.underlying36
 have HR0_1 := Aside0.mk hr0_1
 have HC0_1 := Aside0.mk hc0_1
 clear hr0_1 hc0_1
 have HR0_2 := Aside0.mk hr0_2
 have HC0_2 := Aside0.mk hc0_2
 clear hr0_2 hc0_2
 have HR1 := Aside0.mk hr1
 have HC1 := Aside0.mk hc1
 clear hr1 hc1
 have HB := Aside0.mk (Below.refl w.heap.size w)
 have H : ((spec_l6Marks.f k a0_0 l0_1 l0_2 l1).bind fun bt266 => (if bt266.2 = true then ((spec_l6Close.f k a0_0 l0_1 l0_2 bt266.1).bind fun t270 => ((spec_l6Step.f k a0_0 l0_1 l0_2 t270 a2).bind fun t273 => ((spec_l6List.f k t273).bind fun t276 => (some t276)))) else (some (([] : List Int))))) = some r := h
 clear h
 replace H := Option.bind_eq_some_iff.mp H
 obtain ⟨⟨t266, t269⟩, A40, H⟩ := H
 replace H : (if t269 = true then ((spec_l6Close.f k a0_0 l0_1 l0_2 t266).bind fun t270 => ((spec_l6Step.f k a0_0 l0_1 l0_2 t270 a2).bind fun t273 => ((spec_l6List.f k t273).bind fun t276 => (some t276)))) else (some (([] : List Int)))) = some r := H
 have A4 := Aside0.mk A40
 clear A40
 by_cases c5 : t269 = true
 ·subst c5
  have H1 : ((spec_l6Close.f k a0_0 l0_1 l0_2 t266).bind fun t270 => ((spec_l6Step.f k a0_0 l0_1 l0_2 t270 a2).bind fun t273 => ((spec_l6List.f k t273).bind fun t276 => (some t276)))) = some r := by rw [if_pos rfl] at H; exact H
  clear H; have H := H1; clear H1; replace H := Option.bind_eq_some_iff.mp H; obtain ⟨t270, A60, H⟩ := H
  replace H : ((spec_l6Step.f k a0_0 l0_1 l0_2 t270 a2).bind fun t273 => ((spec_l6List.f k t273).bind fun t276 => (some t276))) = some r := H
  have A6 := Aside0.mk A60; clear A60; replace H := Option.bind_eq_some_iff.mp H; obtain ⟨t273, A70, H⟩ := H
  replace H : ((spec_l6List.f k t273).bind fun t276 => (some t276)) = some r := H
  have A7 := Aside0.mk A70; clear A70; replace H := Option.bind_eq_some_iff.mp H; obtain ⟨t276, A80, H⟩ := H; replace H : (some t276) = some r := H; have A8 := Aside0.mk A80; clear A80; obtain rfl := Option.some.inj H
  go_enter Try.func24, Try.ntmps24
  try go_wp2_with (first | ((with_reducible refine gate_dst (N := 3) rfl ?_); refine box_event ?hg (N := 3) ?hd (cs := #[.int .i64 a0_0, .slice A0_1 l0_1.length c0_1, .slice A0_2 l0_2.length c0_2]) (t := 36) ?hr ?_; (case hd => rfl); (case hg => rfl); (case hr => first | (go_simp; done) | (go_simp; rfl)); intro gb265 hg w9 hbox hb; have BK265 := Aside0.mk (hbox); have GW265 := Aside0.mk ((by rw [hg]; exact (below_size (by repeat (first | (with_reducible first | exact HB.out | apply below_alloc | apply pw_below_drewN | apply below_drew1) | exact HB.out))) : w.heap.size ≤ gb265)); have GE265 := Aside0.mk ((by rw [hg]; exact (below_size (by repeat (first | (with_reducible first | exact HB.out | apply below_alloc | apply pw_below_drewN | apply below_drew1) | exact HB.out))) : w.heap.size ≤ gb265)); replace HB := Aside0.mk (below_step (by repeat (first | (with_reducible first | exact HB.out | apply below_alloc | apply pw_below_drewN | apply below_drew1) | exact HB.out)) hb); clear hb hbox hg; have hcz10_0 : w9.cell? ⟨gb265, 0, none⟩ = some (.int .i64 a0_0) := (blk_cell BK265.out 0).trans rfl; have hcz10_1 : w9.cell? ⟨gb265, 1, none⟩ = some (.slice A0_1 l0_1.length c0_1) := (blk_cell BK265.out 1).trans rfl; have hcz10_2 : w9.cell? ⟨gb265, 2, none⟩ = some (.slice A0_2 l0_2.length c0_2) := (blk_cell BK265.out 2).trans rfl; have hfz10_0 := blk_frozen BK265.out 0; have hfz10_1 := blk_frozen BK265.out 1; have hfz10_2 := blk_frozen BK265.out 2) | ((with_reducible refine gate_callee (f := 88) rfl ?_); refine goesL_ (some 12) rfl rfl Try.func88 (by kernel_rfl) rfl #[.agg #[.int .i64 a0_0, .slice A0_1 l0_1.length c0_1, .slice A0_2 l0_2.length c0_2], .slice A1 l1.length c1] rfl (by (try simp only [List.map_toArray, List.map_cons, List.map_nil]); first | done | rfl | (simp only [List.length_drop, List.length_take]; rfl)) ?_; (with_reducible refine (spec_l6Marks.calls k a0_0 _ _ l0_1 _ _ l0_2 _ _ l1 t266 true _ ?side1 ?side2 ?side3 ?side4 ?side5 ?side6 A4.out).mono ?_); (case side1 => repeat (first | exact (Kd.C_below HR0_1.out HB.out) | (with_reducible refine Kd.C_alloc ?_ _) | (with_reducible refine Kd.C_drewN ?_ _) | (with_reducible refine Kd.C_drew ?_))); (case side2 => exact HC0_1.out); (case side3 => repeat (first | exact (Kd.C_below HR0_2.out HB.out) | (with_reducible refine Kd.C_alloc ?_ _) | (with_reducible refine Kd.C_drewN ?_ _) | (with_reducible refine Kd.C_drew ?_))); (case side4 => exact HC0_2.out); (case side5 => repeat (first | exact (Kd.C_below HR1.out HB.out) | (with_reducible refine Kd.C_alloc ?_ _) | (with_reducible refine Kd.C_drewN ?_ _) | (with_reducible refine Kd.C_drew ?_))); (case side6 => exact HC1.out); rintro e w11 ⟨v267, rfl, ho0, hb⟩; refine ⟨_, rfl, ?_⟩; have HO268 := Aside0.mk (Kd.R_lower ho0 (below_size (by repeat (first | (with_reducible first | exact HB.out | apply below_alloc | apply pw_below_drewN | apply below_drew1 | refine below_set ?_ GE265.out) | exact HB.out)))); replace BK265 := Aside0.mk (blk_below (g := gb265) (o := .cells #[.int .i64 a0_0, .slice A0_1 l0_1.length c0_1, .slice A0_2 l0_2.length c0_2] 36 (0, 0)) (by (with_reducible repeat (first | refine blk_drewN ?_ _ | refine blk_drew ?_ | refine blk_alloc ?_ _)); exact BK265.out) hb); replace HB := Aside0.mk (below_step (by repeat (first | (with_reducible first | exact HB.out | apply below_alloc | apply pw_below_drewN | apply below_drew1 | refine below_set ?_ GE265.out) | exact HB.out)) hb); (try clear hb); (try clear hb2); (try clear hk); (try clear hi); (try clear ho0)))
  replace HO268 := Aside0.mk (Kd.R_drew HO268.out); replace BK265 := Aside0.mk (blk_drew BK265.out); replace HB := Aside0.mk (below_drew1 HB.out); obtain ⟨Ao13, co13, eo13⟩ := Kd.R_slice HO268.out
  (first | subst eo13 | (injection eo13 with f1_ f2_ f3_; have f4_ := f1_.symm; have f5_ := f3_.symm; clear f1_ f2_ f3_; subst f4_; subst f5_))
  refine start_ (n := 8) (S := fun w' => w'.cell? ⟨gb265, 0, none⟩ = some (.int .i64 a0_0) ∧ w'.cell? ⟨gb265, 1, none⟩ = some (.slice A0_1 l0_1.length c0_1) ∧ w'.cell? ⟨gb265, 2, none⟩ = some (.slice A0_2 l0_2.length c0_2)) (ds := []) #[On,On,On,On,On,On,On,On] (by kernel_rfl) rfl rfl ⟨(blk_cell BK265.out 0).trans rfl, (blk_cell BK265.out 1).trans rfl, (blk_cell BK265.out 2).trans rfl⟩ (fun hHeld => ?_); refine with_tabW spec_MoveOn.tab4 spec_MoveOn.bits4 (fun HT_ HW_ => ?_)
  generalize w11.drew = w12 at HO268 BK265 HB hHeld ⊢
  refine pure_ (i := 2) (N := some 20) (v := ?_) (a' := ?_) #[On,On,Iy,On,On,On,On,On] rfl rfl (any_of HT_.out (by kernel_rfl)) (fun _ _ _ h => h) (Or.inl ⟨by rfl, ?_⟩) ?_ ?_; rotate_left; (· intro w'; go_simp; with_reducible rfl); rotate_left; (· simp only [Act.put, List.setIfInBounds_toArray, List.set_cons_zero, List.set_cons_succ, i64_w, i32_w]; rfl)
  refine pure_ (i := 4) (N := some 22) (v := ?_) (a' := ?_) #[On,On,Iy,On,Iy,On,On,On] rfl rfl (any_of HT_.out (by kernel_rfl)) (fun _ _ _ h => h) (Or.inl ⟨by rfl, ?_⟩) ?_ ?_; rotate_left; (· intro w'; go_simp; with_reducible rfl); rotate_left; (· simp only [Act.put, List.setIfInBounds_toArray, List.set_cons_zero, List.set_cons_succ, i64_w, i32_w]; rfl)
  refine take_ (i := 0) (N := some 18) (v := ?_) (a' := ?_) #[Iy,On,Iy,On,Iy,On,On,On] rfl rfl (take_ofW HT_.out HW_.out (by kernel_rfl)) (fun _ _ _ h => h) (Or.inl ⟨by rfl, ?_⟩) hHeld ?_ ?_
  rotate_left
  ·rintro w' ⟨s0, s1, s2⟩
   go_simp
   with_reducible rfl
  rotate_left
  ·simp only [Act.put, List.setIfInBounds_toArray, List.set_cons_zero, List.set_cons_succ, i64_w, i32_w]
   rfl
  refine take_ (i := 1) (N := some 19) (v := ?_) (a' := ?_) #[Iy,Iy,Iy,On,Iy,On,On,On] rfl rfl (take_ofW HT_.out HW_.out (by kernel_rfl)) (fun _ _ _ h => h) (Or.inl ⟨by rfl, ?_⟩) hHeld ?_ ?_
  rotate_left
  ·rintro w' ⟨s0, s1, s2⟩
   go_simp
   with_reducible rfl
  rotate_left
  ·simp only [Act.put, List.setIfInBounds_toArray, List.set_cons_zero, List.set_cons_succ, i64_w, i32_w]
   rfl
  refine one_ (i := 3) (N := some 21) #[Iy,Iy,Iy,Iy,Iy,On,On,On] rfl rfl (one_of HT_.out (by kernel_rfl)) (by decide) (fun K hK => ?_)
  refine goes_ Try.func56 (by kernel_rfl) rfl #[.agg #[.int .i64 a0_0, .slice A0_1 l0_1.length c0_1, .slice A0_2 l0_2.length c0_2], .slice Ao13 t266.length co13] (by rfl) rfl rfl (by (try simp only [List.map_toArray, List.map_cons, List.map_nil]); first | done | rfl | (simp only [List.length_drop, List.length_take]; rfl)) ?_
  with_reducible refine (spec_l6Close.calls k a0_0 _ _ l0_1 _ _ l0_2 _ _ t266 t270 _ ?side1 ?side2 ?side3 ?side4 ?side5 ?side6 A6.out).mono ?_
  (case side1 => repeat (first | exact (Kd.C_below HR0_1.out HB.out) | (with_reducible refine Kd.C_alloc ?_ _) | (with_reducible refine Kd.C_drewN ?_ _) | (with_reducible refine Kd.C_drew ?_)))
  (case side2 => exact HC0_1.out)
  (case side3 => repeat (first | exact (Kd.C_below HR0_2.out HB.out) | (with_reducible refine Kd.C_alloc ?_ _) | (with_reducible refine Kd.C_drewN ?_ _) | (with_reducible refine Kd.C_drew ?_)))
  (case side4 => exact HC0_2.out)
  (case side5 => repeat (first | exact (Kd.R_reads' HO268.out).2.2 | (with_reducible refine Kd.C_alloc ?_ _) | (with_reducible refine Kd.C_drewN ?_ _) | (with_reducible refine Kd.C_drew ?_)))
  (case side6 => exact (Kd.R_reads' HO268.out).2.1)
  rintro e w14 ⟨v271, rfl, ho0, hb⟩
  refine ⟨_, rfl, ?_⟩
  have HO272 := Aside0.mk (Kd.R_lower (Kd.R_new' ho0 (Kd.R_lt (by (with_reducible repeat (first | apply Kd.R_alloc | apply Kd.R_drewN | apply Kd.R_drew)); exact HO268.out))) (below_size (by repeat (first | (with_reducible first | exact HB.out | apply below_alloc | apply pw_below_drewN | apply below_drew1 | refine below_set ?_ GE265.out) | exact HB.out)))); replace HO268 := Aside0.mk (Kd.R_elder' (by (with_reducible repeat (first | apply Kd.R_alloc | apply Kd.R_drewN | apply Kd.R_drew)); exact HO268.out) (Kd.R_base ho0) hb); replace BK265 := Aside0.mk (blk_below (g := gb265) (o := .cells #[.int .i64 a0_0, .slice A0_1 l0_1.length c0_1, .slice A0_2 l0_2.length c0_2] 36 (0, 0)) (by (with_reducible repeat (first | refine blk_drewN ?_ _ | refine blk_drew ?_ | refine blk_alloc ?_ _)); exact BK265.out) hb); replace HB := Aside0.mk (below_step (by repeat (first | (with_reducible first | exact HB.out | apply below_alloc | apply pw_below_drewN | apply below_drew1 | refine below_set ?_ GE265.out) | exact HB.out)) hb); (try clear hb); (try clear hb2); (try clear hk); (try clear hi); (try clear ho0); obtain ⟨Ao15, co15, eo15⟩ := Kd.R_slice HO272.out
  (first | subst eo15 | (injection eo15 with f1_ f2_ f3_; have f4_ := f1_.symm; have f5_ := f3_.symm; clear f1_ f2_ f3_; subst f4_; subst f5_))
  refine hK.out _ _ ⟨(blk_cell BK265.out 0).trans rfl, (blk_cell BK265.out 1).trans rfl, (blk_cell BK265.out 2).trans rfl⟩ (fun hHeld => ?_)
  clear hK K
  refine norm_ (a' := ?_) ?_ ?_
  rotate_left
  ·show Act.put _ (some 21) _ = _
   simp only [Act.put, List.setIfInBounds_toArray, List.set_cons_zero, List.set_cons_succ, i64_w, i32_w]
   rfl
  refine one_ (i := 5) (N := some 23) #[Iy,Iy,Iy,Iy,Iy,Iy,On,On] rfl rfl (one_of HT_.out (by kernel_rfl)) (by decide) (fun K hK => ?_)
  refine goes_ Try.func57 (by kernel_rfl) rfl #[.agg #[.int .i64 a0_0, .slice A0_1 l0_1.length c0_1, .slice A0_2 l0_2.length c0_2], .slice Ao15 t270.length co15, .int .u8 a2] (by rfl) rfl rfl (by (try simp only [List.map_toArray, List.map_cons, List.map_nil]); first | done | rfl | (simp only [List.length_drop, List.length_take]; rfl)) ?_
  with_reducible refine (spec_l6Step.calls k a0_0 _ _ l0_1 _ _ l0_2 _ _ t270 a2 t273 _ ?side1 ?side2 ?side3 ?side4 ?side5 ?side6 A7.out).mono ?_
  (case side1 => repeat (first | exact (Kd.C_below HR0_1.out HB.out) | (with_reducible refine Kd.C_alloc ?_ _) | (with_reducible refine Kd.C_drewN ?_ _) | (with_reducible refine Kd.C_drew ?_)))
  (case side2 => exact HC0_1.out)
  (case side3 => repeat (first | exact (Kd.C_below HR0_2.out HB.out) | (with_reducible refine Kd.C_alloc ?_ _) | (with_reducible refine Kd.C_drewN ?_ _) | (with_reducible refine Kd.C_drew ?_)))
  (case side4 => exact HC0_2.out)
  (case side5 => repeat (first | exact (Kd.R_reads' HO272.out).2.2 | (with_reducible refine Kd.C_alloc ?_ _) | (with_reducible refine Kd.C_drewN ?_ _) | (with_reducible refine Kd.C_drew ?_)))
  (case side6 => exact (Kd.R_reads' HO272.out).2.1)
  rintro e w16 ⟨v274, rfl, ho0, hb⟩
  refine ⟨_, rfl, ?_⟩
  have HO275 := Aside0.mk (Kd.R_lower (Kd.R_new' (Kd.R_new' ho0 (Kd.R_lt (by (with_reducible repeat (first | apply Kd.R_alloc | apply Kd.R_drewN | apply Kd.R_drew)); exact HO268.out))) (Kd.R_lt (by (with_reducible repeat (first | apply Kd.R_alloc | apply Kd.R_drewN | apply Kd.R_drew)); exact HO272.out))) (below_size (by repeat (first | (with_reducible first | exact HB.out | apply below_alloc | apply pw_below_drewN | apply below_drew1 | refine below_set ?_ GE265.out) | exact HB.out)))); replace HO268 := Aside0.mk (Kd.R_elder' (by (with_reducible repeat (first | apply Kd.R_alloc | apply Kd.R_drewN | apply Kd.R_drew)); exact HO268.out) (Kd.R_base ho0) hb); replace HO272 := Aside0.mk (Kd.R_elder' (by (with_reducible repeat (first | apply Kd.R_alloc | apply Kd.R_drewN | apply Kd.R_drew)); exact HO272.out) (Kd.R_base ho0) hb); replace BK265 := Aside0.mk (blk_below (g := gb265) (o := .cells #[.int .i64 a0_0, .slice A0_1 l0_1.length c0_1, .slice A0_2 l0_2.length c0_2] 36 (0, 0)) (by (with_reducible repeat (first | refine blk_drewN ?_ _ | refine blk_drew ?_ | refine blk_alloc ?_ _)); exact BK265.out) hb); replace HB := Aside0.mk (below_step (by repeat (first | (with_reducible first | exact HB.out | apply below_alloc | apply pw_below_drewN | apply below_drew1 | refine below_set ?_ GE265.out) | exact HB.out)) hb); (try clear hb); (try clear hb2); (try clear hk); (try clear hi); (try clear ho0); obtain ⟨Ao17, co17, eo17⟩ := Kd.R_slice HO275.out
  (first | subst eo17 | (injection eo17 with f1_ f2_ f3_; have f4_ := f1_.symm; have f5_ := f3_.symm; clear f1_ f2_ f3_; subst f4_; subst f5_))
  refine hK.out _ _ ⟨(blk_cell BK265.out 0).trans rfl, (blk_cell BK265.out 1).trans rfl, (blk_cell BK265.out 2).trans rfl⟩ (fun hHeld => ?_)
  clear hK K
  refine norm_ (a' := ?_) ?_ ?_
  rotate_left
  ·show Act.put _ (some 23) _ = _
   simp only [Act.put, List.setIfInBounds_toArray, List.set_cons_zero, List.set_cons_succ, i64_w, i32_w]
   rfl
  refine one_ (i := 6) (N := some 24) #[Iy,Iy,Iy,Iy,Iy,Iy,Iy,On] rfl rfl (one_of HT_.out (by kernel_rfl)) (by decide) (fun K hK => ?_)
  refine goes_ Try.func89 (by kernel_rfl) rfl #[.slice Ao17 t273.length co17] (by rfl) rfl rfl (by (try simp only [List.map_toArray, List.map_cons, List.map_nil]); first | done | rfl | (simp only [List.length_drop, List.length_take]; rfl)) ?_
  with_reducible refine (spec_l6List.calls k _ _ t273 t276 _ ?side1 ?side2 A8.out).mono ?_
  (case side1 => repeat (first | exact (Kd.R_reads' HO275.out).2.2 | (with_reducible refine Kd.C_alloc ?_ _) | (with_reducible refine Kd.C_drewN ?_ _) | (with_reducible refine Kd.C_drew ?_)))
  (case side2 => exact (Kd.R_reads' HO275.out).2.1)
  rintro e w18 ⟨v277, rfl, ho0, hb⟩
  refine ⟨_, rfl, ?_⟩
  replace HO268 := Aside0.mk (Kd.R_below (by (with_reducible repeat (first | apply Kd.R_alloc | apply Kd.R_drewN | apply Kd.R_drew)); exact HO268.out) hb); replace HO272 := Aside0.mk (Kd.R_below (by (with_reducible repeat (first | apply Kd.R_alloc | apply Kd.R_drewN | apply Kd.R_drew)); exact HO272.out) hb); replace HO275 := Aside0.mk (Kd.R_below (by (with_reducible repeat (first | apply Kd.R_alloc | apply Kd.R_drewN | apply Kd.R_drew)); exact HO275.out) hb); have HO278 := Aside0.mk (Kd.R_lower ho0 (below_size (by repeat (first | (with_reducible first | exact HB.out | apply below_alloc | apply pw_below_drewN | apply below_drew1 | refine below_set ?_ GE265.out) | exact HB.out)))); replace BK265 := Aside0.mk (blk_below (g := gb265) (o := .cells #[.int .i64 a0_0, .slice A0_1 l0_1.length c0_1, .slice A0_2 l0_2.length c0_2] 36 (0, 0)) (by (with_reducible repeat (first | refine blk_drewN ?_ _ | refine blk_drew ?_ | refine blk_alloc ?_ _)); exact BK265.out) hb); replace HB := Aside0.mk (below_step (by repeat (first | (with_reducible first | exact HB.out | apply below_alloc | apply pw_below_drewN | apply below_drew1 | refine below_set ?_ GE265.out) | exact HB.out)) hb); (try clear hb); (try clear hb2); (try clear hk); (try clear hi); (try clear ho0)
  refine hK.out _ _ ⟨(blk_cell BK265.out 0).trans rfl, (blk_cell BK265.out 1).trans rfl, (blk_cell BK265.out 2).trans rfl⟩ (fun hHeld => ?_)
  clear hK K
  refine norm_ (a' := ?_) ?_ ?_
  rotate_left
  ·show Act.put _ (some 24) _ = _
   simp only [Act.put, List.setIfInBounds_toArray, List.set_cons_zero, List.set_cons_succ, i64_w, i32_w]
   rfl
  refine pure_ (i := 7) (N := some 6) (v := ?_) (a' := ?_) #[Iy,Iy,Iy,Iy,Iy,Iy,Iy,Iy] rfl rfl (any_of HT_.out (by kernel_rfl)) (fun _ _ _ h => h) (Or.inl ⟨by rfl, ?_⟩) ?_ ?_; rotate_left; (· intro w'; go_simp; with_reducible rfl); rotate_left; (· simp only [Act.put, List.setIfInBounds_toArray, List.set_cons_zero, List.set_cons_succ, i64_w, i32_w]; rfl)
  refine done_ (done_of HT_.out (by kernel_rfl)) ?_
  try go_wp2
  go_ret
  exact ⟨_, by first | rfl | (simp [errW_none, errW_some] <;> rfl) | (simp [*, errW_none, errW_some] <;> rfl), by (with_reducible repeat (first | apply Kd.R_alloc | apply Kd.R_drewN | apply Kd.R_drew)); exact HO278.out, by repeat (first | (with_reducible first | exact HB.out | apply below_alloc | apply pw_below_drewN | apply below_drew1 | refine below_set ?_ GE265.out) | exact HB.out)⟩
 ·replace c5 := Bool.eq_false_iff.mpr c5
  subst c5
  have H1 : (some (([] : List Int))) = some r := by rw [if_neg (show ¬ (false = true) by decide)] at H; exact H
  clear H; have H := H1; clear H1; obtain ⟨y279, hy279⟩ : ∃ y_ : List Int, y_ = (([] : List Int)) := ⟨_, rfl⟩
  replace H : (some y279) = some r := by first | (rw [hy279]; with_reducible exact H) | (have H2_ := (Option.bind_some _ _).symm.trans H; rw [hy279]; with_reducible exact H2_) | (have H2_ := (Option.bind_some _ _).symm.trans H; with_reducible exact H2_) | with_reducible exact H | (rw [hy279]; exact H) | exact H
  have Ny279 := Aside0.mk hy279; clear hy279; obtain rfl := Option.some.inj H
  go_enter Try.func24, Try.ntmps24
  go_wp2_with (first | ((with_reducible refine gate_dst (N := 3) rfl ?_); refine box_event ?hg (N := 3) ?hd (cs := #[.int .i64 a0_0, .slice A0_1 l0_1.length c0_1, .slice A0_2 l0_2.length c0_2]) (t := 36) ?hr ?_; (case hd => rfl); (case hg => rfl); (case hr => first | (go_simp; done) | (go_simp; rfl)); intro gb265 hg w19 hbox hb; have BK265 := Aside0.mk (hbox); have GW265 := Aside0.mk ((by rw [hg]; exact (below_size (by repeat (first | (with_reducible first | exact HB.out | apply below_alloc | apply pw_below_drewN | apply below_drew1) | exact HB.out))) : w.heap.size ≤ gb265)); have GE265 := Aside0.mk ((by rw [hg]; exact (below_size (by repeat (first | (with_reducible first | exact HB.out | apply below_alloc | apply pw_below_drewN | apply below_drew1) | exact HB.out))) : w.heap.size ≤ gb265)); replace HB := Aside0.mk (below_step (by repeat (first | (with_reducible first | exact HB.out | apply below_alloc | apply pw_below_drewN | apply below_drew1) | exact HB.out)) hb); clear hb hbox hg; have hcz20_0 : w19.cell? ⟨gb265, 0, none⟩ = some (.int .i64 a0_0) := (blk_cell BK265.out 0).trans rfl; have hcz20_1 : w19.cell? ⟨gb265, 1, none⟩ = some (.slice A0_1 l0_1.length c0_1) := (blk_cell BK265.out 1).trans rfl; have hcz20_2 : w19.cell? ⟨gb265, 2, none⟩ = some (.slice A0_2 l0_2.length c0_2) := (blk_cell BK265.out 2).trans rfl; have hfz20_0 := blk_frozen BK265.out 0; have hfz20_1 := blk_frozen BK265.out 1; have hfz20_2 := blk_frozen BK265.out 2) | ((with_reducible refine gate_callee (f := 88) rfl ?_); refine goesL_ (some 12) rfl rfl Try.func88 (by kernel_rfl) rfl #[.agg #[.int .i64 a0_0, .slice A0_1 l0_1.length c0_1, .slice A0_2 l0_2.length c0_2], .slice A1 l1.length c1] rfl (by (try simp only [List.map_toArray, List.map_cons, List.map_nil]); first | done | rfl | (simp only [List.length_drop, List.length_take]; rfl)) ?_; (with_reducible refine (spec_l6Marks.calls k a0_0 _ _ l0_1 _ _ l0_2 _ _ l1 t266 false _ ?side1 ?side2 ?side3 ?side4 ?side5 ?side6 A4.out).mono ?_); (case side1 => repeat (first | exact (Kd.C_below HR0_1.out HB.out) | (with_reducible refine Kd.C_alloc ?_ _) | (with_reducible refine Kd.C_drewN ?_ _) | (with_reducible refine Kd.C_drew ?_))); (case side2 => exact HC0_1.out); (case side3 => repeat (first | exact (Kd.C_below HR0_2.out HB.out) | (with_reducible refine Kd.C_alloc ?_ _) | (with_reducible refine Kd.C_drewN ?_ _) | (with_reducible refine Kd.C_drew ?_))); (case side4 => exact HC0_2.out); (case side5 => repeat (first | exact (Kd.C_below HR1.out HB.out) | (with_reducible refine Kd.C_alloc ?_ _) | (with_reducible refine Kd.C_drewN ?_ _) | (with_reducible refine Kd.C_drew ?_))); (case side6 => exact HC1.out); rintro e w21 ⟨v267, rfl, ho0, hb⟩; refine ⟨_, rfl, ?_⟩; have HO268 := Aside0.mk (Kd.R_lower ho0 (below_size (by repeat (first | (with_reducible first | exact HB.out | apply below_alloc | apply pw_below_drewN | apply below_drew1 | refine below_set ?_ GE265.out) | exact HB.out)))); replace BK265 := Aside0.mk (blk_below (g := gb265) (o := .cells #[.int .i64 a0_0, .slice A0_1 l0_1.length c0_1, .slice A0_2 l0_2.length c0_2] 36 (0, 0)) (by (with_reducible repeat (first | refine blk_drewN ?_ _ | refine blk_drew ?_ | refine blk_alloc ?_ _)); exact BK265.out) hb); replace HB := Aside0.mk (below_step (by repeat (first | (with_reducible first | exact HB.out | apply below_alloc | apply pw_below_drewN | apply below_drew1 | refine below_set ?_ GE265.out) | exact HB.out)) hb); (try clear hb); (try clear hb2); (try clear hk); (try clear hi); (try clear ho0)) | ((with_reducible refine gate_dst (N := 17) rfl ?_); refine Kd.R_lit (Kd.int .i64) _ 2 ?hg (N := 17) ?hd (xs := ([] : List Int)) (inner := []) (ok := fun _ => True) (okp := fun _ => True) ?hr ?hp (fun _ hk => hk) trivial (Below.refl _ _) (Nat.le_refl _) (by simp) ?_; (case hd => rfl); (case hg => rfl); (case hr => first | (go_simp; done) | (go_simp; rfl)); (case hp => exact (Reps.none _ _)); intro v280 w22 ho23 hb hg_ hnew_; clear hg_ hnew_; (first | rw [← Ny279.out] at ho23 | (simp only [Int.reduceToNat] at ho23; rw [← Ny279.out] at ho23)); replace HO268 := Aside0.mk (Kd.R_below (by (with_reducible repeat (first | apply Kd.R_alloc | apply Kd.R_drewN | apply Kd.R_drew)); exact HO268.out) hb); have HO281 := Aside0.mk (Kd.R_lower ho23 (below_size (by repeat (first | (with_reducible first | exact HB.out | apply below_alloc | apply pw_below_drewN | apply below_drew1 | refine below_set ?_ GE265.out) | exact HB.out)))); replace BK265 := Aside0.mk (blk_below (g := gb265) (o := .cells #[.int .i64 a0_0, .slice A0_1 l0_1.length c0_1, .slice A0_2 l0_2.length c0_2] 36 (0, 0)) (by (with_reducible repeat (first | refine blk_drewN ?_ _ | refine blk_drew ?_ | refine blk_alloc ?_ _)); exact BK265.out) hb); replace HB := Aside0.mk (below_step (by repeat (first | (with_reducible first | exact HB.out | apply below_alloc | apply pw_below_drewN | apply below_drew1 | refine below_set ?_ GE265.out) | exact HB.out)) hb); clear hb ho23))
  go_ret
  exact ⟨_, by first | rfl | (simp [errW_none, errW_some] <;> rfl) | (simp [*, errW_none, errW_some] <;> rfl), by (with_reducible repeat (first | apply Kd.R_alloc | apply Kd.R_drewN | apply Kd.R_drew)); exact HO281.out, by repeat (first | (with_reducible first | exact HB.out | apply below_alloc | apply pw_below_drewN | apply below_drew1 | refine below_set ?_ GE265.out) | exact HB.out)⟩

/-! ### laws_has: function 25 -/
def laws_has.l0 : Nat → List Int → Int → Int → Option (Bool)
 | 0, _, _, _ => none
 | k + 1, x0, x1, x5 => if x5 < (x0.length : Int) then (if 0 ≤ x5 then (if (rd x0 x5) = x1 then (some true) else (laws_has.l0 k x0 x1 (wrap64 (x5 + 1)))) else (none)) else (some false)
def laws_has.f (k : Nat) (l0 : List Int) (a1 : Int) : Option (Bool) := laws_has.l0 k l0 a1 0
theorem laws_has.mono_l : ∀ k, (∀ y0 y1 y2, LeO (laws_has.l0 k y0 y1 y2) (laws_has.l0 (k + 1) y0 y1 y2))
 | 0 => fun _ _ _ r h => by simp [laws_has.l0] at h
 | k + 1 => by
  have ih0 := laws_has.mono_l k
  ·intro y0 y1 y2
   unfold laws_has.l0
   repeat' first
   | (with_reducible exact LeO.refl _)
   | exact ih0 _ _ _
   | exact LeO.none _
   | refine LeO.ite ?_ ?_
   | refine LeO.bind ?_ (fun _ => ?_)
theorem laws_has.mono : ∀ a0 a1 k, LeO (laws_has.f k a0 a1) (laws_has.f (k + 1) a0 a1) := by
 intro a0 a1 k
 have ih0 := laws_has.mono_l k
 unfold laws_has.f
 repeat' first
   | (with_reducible exact LeO.refl _)
   | exact ih0 _ _ _
   | exact LeO.none _
   | refine LeO.ite ?_ ?_
   | refine LeO.bind ?_ (fun _ => ?_)
set_option maxHeartbeats 8000000 in
set_option maxRecDepth 100000 in
theorem laws_has.calls (k : Nat) (A0 : Option Addr) (c0 : Nat) (l0 : List Int) (a1 : Int) (r : Bool) (w : World) (hr0 : Kd.C (Kd.int .i64) w A0 l0.length l0) (hc0 : l0.length ≤ c0) (h : laws_has.f k l0 a1 = some r) :
  Calls Try.prog 25 #[.slice A0 l0.length c0, .int .i64 a1] w fun e w' => e = .returned (.bool r) ∧ Drawn0 w w' := by
 have HR0 := Aside0.mk hr0
 have HC0 := Aside0.mk hc0
 clear hr0 hc0
 have H : (laws_has.l0 k l0 a1 0) = some r := h
 clear h
 have H' := Aside0.mk H
 clear H
 go_enter Try.func25, Try.ntmps25
 go_wp2
 go_loopg [5] k (fun kq v5 w' => ∃ (x5_1 : Int), v5 = .int .i64 x5_1 ∧ Aside0 (laws_has.l0 kq l0 a1 x5_1 = some r) ∧ Aside0 (kq ≤ k) ∧ Drawn0 w w')
 case atStart => exact ⟨(0), (by first | rfl | (simp; done) | (simp [*]; done)), H', ⟨Nat.le_refl _⟩, by repeat (first | exact Drawn0.refl _ | apply Drawn0.step)⟩
 case round =>
  clear H'; (try clear c2); (try clear p2); obtain ⟨x5_1, rfl, HA, HK1, ⟨m1, rfl⟩⟩ := hrel
  cases gk with
  | zero => exact absurd HA.out (by simp [laws_has.l0])
  | succ k1 =>
   have H := HA.out; clear HA
   simp only [laws_has.l0] at H
   by_cases c3 : x5_1 < (l0.length : Int)
   ·rw [if_pos c3] at H
    have c3b0 : decide (x5_1 < (l0.length : Int)) = true := decide_eq_true c3; clear c3
    by_cases c4 : 0 ≤ x5_1
    ·rw [if_pos c4] at H
     have c4b0 : decide (0 ≤ x5_1) = true := decide_eq_true c4; clear c4
     by_cases c5 : (rd l0 x5_1) = a1
     ·rw [if_pos c5] at H
      have c5b0 : ((rd l0 x5_1) == a1) = true := beq_iff_eq.mpr c5; have c5b1 : ((rd l0 x5_1) != a1) = false := bne_eq_false_iff_eq.mpr c5; clear c5; obtain rfl := Option.some.inj H; have p282 : 0 ≤ (x5_1 : Int) := of_decide_eq_true (by assumption); have q282 : x5_1 < (l0.length : Int) := of_decide_eq_true (by assumption); obtain ⟨ad282, e282, hx282_0⟩ := Kd.at_int HR0.out x5_1 p282 q282; cases e282; replace p282 := eq_true p282; replace q282 := eq_true q282
      go_wp2
      go_ret
      exact ⟨by first | rfl | (simp; done) | (simp [*]; done), by repeat (first | exact Drawn0.refl _ | apply Drawn0.step)⟩
     ·rw [if_neg c5] at H
      have c5b0 : ((rd l0 x5_1) == a1) = false := beq_eq_false_iff_ne.mpr c5; have c5b1 : ((rd l0 x5_1) != a1) = true := bne_iff_ne.mpr c5; have H' := Aside0.mk H; clear H; have p282 : 0 ≤ (x5_1 : Int) := of_decide_eq_true (by assumption); have q282 : x5_1 < (l0.length : Int) := of_decide_eq_true (by assumption); obtain ⟨ad282, e282, hx282_0⟩ := Kd.at_int HR0.out x5_1 p282 q282; cases e282; replace p282 := eq_true p282; replace q282 := eq_true q282
      go_wp2
      go_roundg k1
      case measure => have := HK1.out; omega
      case rel => exact ⟨(wrap64 (x5_1 + 1)), (by first | rfl | (simp; done) | (simp [*]; done)), H', ⟨by have := HK1.out; omega⟩, by repeat (first | exact Drawn0.refl _ | apply Drawn0.step)⟩
    ·rw [if_neg c4] at H
     exact absurd H (by simp)
   ·rw [if_neg c3] at H
    have c3b0 : decide (x5_1 < (l0.length : Int)) = false := decide_eq_false c3; clear c3; obtain rfl := Option.some.inj H
    go_wp2
    go_ret
    exact ⟨by first | rfl | (simp; done) | (simp [*]; done), by repeat (first | exact Drawn0.refl _ | apply Drawn0.step)⟩

/-! ### spec_l3Node: function 188 -/
section
open Go.Proofs.Ytfajfjgkkgigoaa.Kit
theorem sIn (a b c : Int) : spec_l1In.f a b c = some (decide (b ≤ a ∧ a ≤ c)) := by
 unfold spec_l1In.f
 by_cases h : a ≥ b
 ·rw [if_pos h]; congr 1; simp; omega
 ·rw [if_neg h]; congr 1; simp; omega
def toP (x : S160) : Int × Int := (x.f0, x.f1)
theorem toP_lo (l : List S160) (i : Int) : (rd_T160 l i).f0 = lo (l.map toP) i.toNat := by
 unfold rd_T160 lo
 rw [List.getD_eq_getElem?_getD, List.getD_eq_getElem?_getD, List.getElem?_map]
 cases l[i.toNat]? <;> rfl
theorem toP_hi (l : List S160) (i : Int) : (rd_T160 l i).f1 = hi (l.map toP) i.toNat := by
 unfold rd_T160 hi
 rw [List.getD_eq_getElem?_getD, List.getD_eq_getElem?_getD, List.getElem?_map]
 cases l[i.toNat]? <;> rfl
open Classical in
theorem sClassOk_l (l : List S160) (hl : l.length ≤ 1048576) (d : Nat) : ∀ (k : Nat) (i : Nat), d < k → l.length - i = d → i ≤ l.length → (∀ j, j < i → okAt (l.map toP) j) →
  spec_ClassOk.l0 k l (i : Int) = some (decide (okFrom (l.map toP) i)) := by
 induction d with
 | zero =>
  intro k i hk hd hle _; obtain ⟨k, rfl⟩ : ∃ m, k = m + 1 := ⟨k - 1, by omega⟩
  simp only [spec_ClassOk.l0]
  rw [if_neg (by omega), decide_eq_true (okFrom_end (by simp; omega))]
 | succ d ih =>
  intro k i hk hd hle hp; obtain ⟨k, rfl⟩ : ∃ m, k = m + 1 := ⟨k - 1, by omega⟩
  have hlt : i < (l.map toP).length := by simp; omega
  have hst := okFrom_step (l := l.map toP) hlt; have hne : ¬ okAt (l.map toP) i → decide (okFrom (l.map toP) i) = false := fun h => decide_eq_false (fun g => h (hst.1 g).1)
  simp only [spec_ClassOk.l0, toP_lo, toP_hi, sIn, Option.bind_some, decide_eq_true_eq]
  rw [if_pos (by omega), if_pos (by omega)]
  have ei : ((i : Nat) : Int).toNat = i := by omega
  rw [ei]
  by_cases h1 : 0 ≤ lo (l.map toP) i ∧ lo (l.map toP) i ≤ 255
  ·rw [if_pos h1]
   by_cases h2 : lo (l.map toP) i ≤ hi (l.map toP) i ∧ hi (l.map toP) i ≤ 255
   ·rw [if_pos h2]
    have en : wrap64 ((i : Int) + 1) = ((i + 1 : Nat) : Int) := by rw [w64 (by omega) (by omega)]; omega
    have go : okAt (l.map toP) i → spec_ClassOk.l0 k l (wrap64 ((i : Int) + 1)) = some (decide (okFrom (l.map toP) i)) := by
     intro g
     rw [en, ih k (i + 1) (by omega) (by omega) (by omega) (fun j hj => by
      rcases Nat.lt_or_eq_of_le (Nat.le_of_lt_succ hj) with h | h
      ·exact hp j h
      ·exact h ▸ g)]
     congr 1
     exact decide_eq_decide.2 ⟨fun h => hst.2 ⟨g, h⟩, fun h => (hst.1 h).2⟩
    by_cases h4 : (i : Int) > 0
    ·have hq := hp (i - 1) (by omega)
     have e1 : (wrap64 ((i : Int) - 1)) = ((i - 1 : Nat) : Int) := by rw [w64 (by omega) (by omega)]; omega
     have e2 : (((i - 1 : Nat) : Int)).toNat = i - 1 := by omega
     have q1 := hq.1; have q2 := hq.2.1; have q3 := hq.2.2.1
     rw [if_pos h4, e1, if_pos (by omega), if_pos (by omega), e2, w64 (x := hi (l.map toP) (i - 1) + 2) (by omega) (by omega)]
     by_cases h5 : lo (l.map toP) i < hi (l.map toP) (i - 1) + 2
     ·rw [if_pos h5, hne (fun g => by have := g.2.2.2 (by omega); omega)]
     ·rw [if_neg h5]
      exact go ⟨by omega, by omega, by omega, fun _ => by omega⟩
    ·rw [if_neg h4]
     exact go ⟨by omega, by omega, by omega, fun h => by omega⟩
   ·rw [if_neg h2, hne (fun g => h2 ⟨g.2.1, g.2.2.1⟩)]
  ·rw [if_neg h1, hne (fun g => h1 ⟨g.1, by have := g.2.1; have := g.2.2.1; omega⟩)]
open Classical in
theorem sClassOk (l : List S160) (hl : l.length ≤ 1048576) (k : Nat) (hk : l.length < k) : spec_ClassOk.f k l = some (decide (classOk (l.map toP))) := by
 unfold spec_ClassOk.f
 by_cases h : (l.length : Int) > 128
 ·rw [if_pos h, decide_eq_false]
  intro g; have := classOk_len g
  simp at this
  omega
 ·rw [if_neg h]
  have e : spec_ClassOk.l0 k l 0 = some (decide (okFrom (l.map toP) 0)) := sClassOk_l l hl l.length k 0 hk (by omega) (by omega) (fun j hj => by omega)
  rw [e]
  congr 1
  exact decide_eq_decide.2 (okFrom_zero _)
def kk (op : Int) : Int := if op = 3 ∨ op = 4 then 2 else if 5 ≤ op ∧ op ≤ 8 then 1 else 0
theorem sKids (k : Nat) (op : Int) : spec_l3Kids.f (k + 1) op = some (kk op) := by
 unfold spec_l3Kids.f kk
 by_cases h3 : op = 3
 ·subst h3; simp [spec_l3Kids.j0]
 ·rw [if_neg h3]
  by_cases h4 : op = 4
  ·subst h4; simp [spec_l3Kids.j0]
  ·have : (op == 4) = false := beq_eq_false_iff_ne.2 h4
   rw [this, if_neg (show ¬ (op = 3 ∨ op = 4) by omega)]
   simp only [spec_l3Kids.j0]
   rw [if_neg (by decide)]
   by_cases h5 : op = 5
   ·rw [if_pos h5, if_pos (by omega)]
   ·rw [if_neg h5]
    by_cases h6 : op = 6
    ·rw [if_pos h6, if_pos (by omega)]
    ·rw [if_neg h6]
     by_cases h7 : op = 7
     ·rw [if_pos h7, if_pos (by omega)]
     ·rw [if_neg h7]
      by_cases h8 : op = 8
      ·rw [if_pos h8, if_pos (by omega)]
      ·rw [if_neg h8, if_neg (by omega)]
open Classical in
theorem clsTot (ls : List S160) (hl : ls.length ≤ 1048576) : ∃ b : Bool, spec_ClassOk.f (ls.length + 1) ls = some b ∧ (b = true → ls.length ≤ 128) :=
 ⟨_, sClassOk ls hl (ls.length + 1) (Nat.lt_succ_self _), fun h => by have := classOk_len (of_decide_eq_true h); simpa using this⟩
/-- what a node that is told right is like -/
def NodeC (op : Int) (nl : Nat) (kd : List Int) (mn mx p : Int) : Prop := nl ≤ 128 ∧ (1 ≤ op ∧ op ≤ 8) ∧ (kd.length : Int) = kk op ∧ (∀ x ∈ kd, 0 ≤ x ∧ x ≤ p - 1) ∧ (op = 8 → 0 ≤ mn ∧ mn ≤ 30 ∧ mx ≤ 30)
set_option maxHeartbeats 4000000 in
set_option maxRecDepth 100000 in
theorem spec_l3Node.calls {base : Nat} {w0 w : World} {L : List Fact} (S : Hp base w0 w L) (op mn mx p : Int) (A1 A2 : Option Addr) (c1 c2 : Nat) (nl : Nat) (ls : List S160) (hnl : nl = ls.length) (kd : List Int) (hs : ∀ W, Hp base w0 W L → Kd.C k160 W A1 ls.length ls) (hk : ∀ W, Hp base w0 W L → Kd.C (Kd.int .i64) W A2 kd.length kd) (hl : ls.length ≤ 1048576) (hkl : kd.length ≤ 1048576) (hc1 : ls.length ≤ c1) (hp : 0 ≤ p ∧ p ≤ 1000) :
  Calls Try.prog 188 #[.agg #[.int .i64 op, .slice A1 nl c1, .slice A2 kd.length c2, .int .i64 mn, .int .i64 mx], .int .i64 p] w fun e w' => ∃ b : Bool, e = .returned (.bool b) ∧ (b = true → NodeC op nl kd mn mx p) ∧ Hp base w0 w' L := by
 obtain ⟨ck, hck⟩ := clsTot ls hl
 have HCK := Aside0.mk hck
 clear hck
 replace S := Aside0.mk S
 have HNL := Aside0.mk hnl
 have HL := Aside0.mk hl
 have HKL := Aside0.mk hkl
 have HP := Aside0.mk hp
 have HK := Aside0.mk hk
 have HS := Aside0.mk hs
 have HC1 := Aside0.mk hc1
 clear hnl hl hkl hp hk hs hc1
 by_cases c1_ : 1 ≤ op ∧ op ≤ 8
 case neg =>
  have g1 := decide_eq_false c1_
  go_enter Try.func188, Try.ntmps188
  go_wp2_with (first | ((with_reducible refine gate_dst (N := 2) rfl ?_); refine ev_box S rfl rfl (cs := #[.int .i64 op, .slice A1 nl c1, .slice A2 kd.length c2, .int .i64 mn, .int .i64 mx]) (t := 230) (by first | (go_simp; done) | (go_simp; rfl)) (fun g2 w_ Gg2 S1 => ?_); clear S; have S := S1; clear S1; have z0 := S.out.cell 0 0 rfl rfl; have z2 := S.out.cell 0 2 rfl rfl))
  go_quiet (first | (go_at_call 54; (refine (spec_l1In.calls _ _ _ _ _ (sIn _ _ _)).mono ?_); rintro e w' ⟨rfl, ⟨nd, rfl⟩⟩; (first | exact ⟨rfl, _, World.drewN_drewN _ _ _⟩ | exact ⟨rfl, _, Eq.trans (World.drewN_drewN _ _ _) (congrArg (World.drewN _) (Nat.add_assoc _ _ _))⟩)) | (go_at_call 197; (refine (spec_l3Kids.calls 1 op _ _ (sKids 0 op)).mono ?_); rintro e w' ⟨rfl, ⟨nd, rfl⟩⟩; (first | exact ⟨rfl, _, World.drewN_drewN _ _ _⟩ | exact ⟨rfl, _, Eq.trans (World.drewN_drewN _ _ _) (congrArg (World.drewN _) (Nat.add_assoc _ _ _))⟩)))
  go_wp2
  go_ret
  exact ⟨_, rfl, fun q => absurd q (by decide), S.out.tail.drewN _⟩
 have g1 := decide_eq_true c1_
 by_cases c2_ : (kd.length : Int) = kk op
 case neg =>
  have g2_ := bne_iff_ne.2 c2_
  go_enter Try.func188, Try.ntmps188
  go_wp2_with (first | ((with_reducible refine gate_dst (N := 2) rfl ?_); refine ev_box S rfl rfl (cs := #[.int .i64 op, .slice A1 nl c1, .slice A2 kd.length c2, .int .i64 mn, .int .i64 mx]) (t := 230) (by first | (go_simp; done) | (go_simp; rfl)) (fun g2 w_ Gg2 S1 => ?_); clear S; have S := S1; clear S1; have z0 := S.out.cell 0 0 rfl rfl; have z2 := S.out.cell 0 2 rfl rfl))
  go_quiet (first | (go_at_call 54; (refine (spec_l1In.calls _ _ _ _ _ (sIn _ _ _)).mono ?_); rintro e w' ⟨rfl, ⟨nd, rfl⟩⟩; (first | exact ⟨rfl, _, World.drewN_drewN _ _ _⟩ | exact ⟨rfl, _, Eq.trans (World.drewN_drewN _ _ _) (congrArg (World.drewN _) (Nat.add_assoc _ _ _))⟩)) | (go_at_call 197; (refine (spec_l3Kids.calls 1 op _ _ (sKids 0 op)).mono ?_); rintro e w' ⟨rfl, ⟨nd, rfl⟩⟩; (first | exact ⟨rfl, _, World.drewN_drewN _ _ _⟩ | exact ⟨rfl, _, Eq.trans (World.drewN_drewN _ _ _) (congrArg (World.drewN _) (Nat.add_assoc _ _ _))⟩)))
  go_wp2
  go_ret
  exact ⟨_, rfl, fun q => absurd q (by decide), S.out.tail.drewN _⟩
 have g2_ := bne_eq_false_iff_eq.2 c2_
 have HQ := Aside0.mk (And.intro c1_ c2_)
 have WP := Aside0.mk (show wrap64 (p - 1) = p - 1 from w64 (by have := HP.out; omega) (by have := HP.out; omega))
 clear c1_ c2_
 go_enter Try.func188, Try.ntmps188
 go_wp2_with (first | ((with_reducible refine gate_dst (N := 2) rfl ?_); refine ev_box S rfl rfl (cs := #[.int .i64 op, .slice A1 nl c1, .slice A2 kd.length c2, .int .i64 mn, .int .i64 mx]) (t := 230) (by first | (go_simp; done) | (go_simp; rfl)) (fun g2 w_ Gg2 S1 => ?_); clear S; have S := S1; clear S1; have z0 := S.out.cell 0 0 rfl rfl; have z2 := S.out.cell 0 2 rfl rfl))
 go_quiet (first | (go_at_call 54; (refine (spec_l1In.calls _ _ _ _ _ (sIn _ _ _)).mono ?_); rintro e w' ⟨rfl, ⟨nd, rfl⟩⟩; (first | exact ⟨rfl, _, World.drewN_drewN _ _ _⟩ | exact ⟨rfl, _, Eq.trans (World.drewN_drewN _ _ _) (congrArg (World.drewN _) (Nat.add_assoc _ _ _))⟩)) | (go_at_call 197; (refine (spec_l3Kids.calls 1 op _ _ (sKids 0 op)).mono ?_); rintro e w' ⟨rfl, ⟨nd, rfl⟩⟩; (first | exact ⟨rfl, _, World.drewN_drewN _ _ _⟩ | exact ⟨rfl, _, Eq.trans (World.drewN_drewN _ _ _) (congrArg (World.drewN _) (Nat.add_assoc _ _ _))⟩)))
 rename_i nq
 replace S := Aside0.mk (S.out.drewN nq)
 clear z0 z2 g1 g2_
 generalize World.drewN _ nq = w3 at S ⊢
 rw [decide_eq_true HQ.out.1]
 go_wp2
 go_loopg [5] kd.length (fun gk v5 wr => ∃ i : Nat, v5 = .int .i64 (i : Int) ∧ i + gk = kd.length ∧ Aside0 (∀ j : Nat, j < i → 0 ≤ rd kd j ∧ rd kd j ≤ p - 1) ∧ Aside0 (Hp base w0 wr (fB base g2 #[.int .i64 op, .slice A1 nl c1, .slice A2 kd.length c2, .int .i64 mn, .int .i64 mx] 230 :: L)))
 case atStart => exact ⟨0, rfl, by omega, ⟨fun j hj => absurd hj (Nat.not_lt_zero _)⟩, S⟩
 case round =>
  clear S; obtain ⟨i, rfl, hi, HJ, S⟩ := hrel; have HI := Aside0.mk hi; clear hi; have z2 := S.out.cell 0 2 rfl rfl
  by_cases c : i < kd.length
  ·obtain ⟨ad, ek, hx⟩ := Kd.at_int (HK.out _ S.out.tail) (i : Int) (by omega) (by omega)
   cases ek
   rw [Int.toNat_natCast] at hx
   have hm0 := eq_true (show (i : Int) < (kd.length : Int) by omega); have hm1 := eq_true (show (0 : Int) ≤ (i : Int) by omega); have HC := Aside0.mk c; clear c; have WN := Aside0.mk (show wrap64 ((i : Int) + 1) = ((i + 1 : Nat) : Int) from nat_next (by have := HI.out; have := HKL.out; omega))
   go_wp2_with fail
   rw [WP.out]
   refine (spec_l1In.calls _ _ _ _ _ (sIn _ _ _)).mono ?_
   rintro e w_ ⟨rfl, ⟨nd, rfl⟩⟩
   clear z2 hx; replace S := Aside0.mk (S.out.drewN nd); generalize World.drewN _ nd = w4 at S ⊢
   by_cases cq : 0 ≤ rd kd i ∧ rd kd i ≤ p - 1
   ·rw [decide_eq_true cq]
    have HJ2 := Aside0.mk (show ∀ j : Nat, j < i + 1 → 0 ≤ rd kd j ∧ rd kd j ≤ p - 1 from fun j hj => (Nat.lt_or_eq_of_le (Nat.le_of_lt_succ hj)).elim (HJ.out j) (fun q => q ▸ cq))
    go_wp2
    go_roundg (kd.length - (i + 1))
    case measure => have := HI.out; have := HC.out; omega
    case rel => exact ⟨i + 1, congrArg (Value.int .i64) WN.out, by have := HC.out; omega, HJ2, S⟩
   ·rw [decide_eq_false cq]
    go_wp2
    go_ret
    exact ⟨_, rfl, fun q => absurd q (by decide), S.out.tail⟩
  ·have hcond := eq_false (show ¬ (i : Int) < (kd.length : Int) by omega)
   have HA : Aside0 (∀ x ∈ kd, 0 ≤ x ∧ x ≤ p - 1) := ⟨fun x hx => by
    obtain ⟨j, hj, rfl⟩ := List.mem_iff_getElem.1 hx; have := HJ.out j (by omega)
    unfold rd at this
    rw [Int.toNat_natCast, List.getD_eq_getElem?_getD, List.getElem?_eq_getElem hj] at this
    exact this⟩
   clear c HJ; have z0 := S.out.cell 0 0 rfl rfl; have z1 := S.out.cell 0 1 rfl rfl; have z3 := S.out.cell 0 3 rfl rfl; have z4 := S.out.cell 0 4 rfl rfl
   by_cases e2 : op = 2
   ·have g1 := beq_iff_eq.2 e2
    have g2_ := bne_eq_false_iff_eq.2 e2; have g3 : (op != 8) = true := bne_iff_ne.2 (by omega); have g4 : (op == 8) = false := beq_eq_false_iff_ne.2 (by omega)
    go_wp2_with fail
    have hcl := spec_ClassOk.calls (ls.length + 1) A1 c1 ls ck _ (HS.out _ S.out.tail) HC1.out HCK.out.1
    rw [← HNL.out] at hcl
    refine hcl.mono ?_
    clear hcl
    rintro e w_ ⟨rfl, hb⟩
    replace S := Aside0.mk (S.out.go hb); clear hb z0 z1 z3 z4; have z0 := S.out.cell 0 0 rfl rfl; have z1 := S.out.cell 0 1 rfl rfl; have z3 := S.out.cell 0 3 rfl rfl; have z4 := S.out.cell 0 4 rfl rfl
    cases ck with
    | true =>
     have LE : nl ≤ 128 := by have := HCK.out.2 rfl; have := HNL.out; omega
     by_cases e0 : nl = 0
     ·subst e0
      go_wp2
      go_ret
      exact ⟨_, rfl, fun q => absurd q (by decide), S.out.tail⟩
     ·have g5 : ((nl : Int) == 0) = false := beq_eq_false_iff_ne.2 (by omega)
      have g6 := eq_false e0
      go_wp2
      all_goals (go_ret; exact ⟨_, rfl, fun _ => ⟨LE, HQ.out.1, HQ.out.2, HA.out, fun q => absurd q (by omega)⟩, S.out.tail⟩)
    | false =>
     go_wp2
     go_ret
     exact ⟨_, rfl, fun q => absurd q (by decide), S.out.tail⟩
   ·have g1 := beq_eq_false_iff_ne.2 e2
    have g2_ := bne_iff_ne.2 e2
    by_cases e0 : nl = 0
    ·subst e0
     by_cases e8 : op = 8
     ·have g3 : (op != 8) = false := bne_eq_false_iff_eq.2 e8
      have g4 : (op == 8) = true := beq_iff_eq.2 e8
      have LE : 0 ≤ 128 := by omega
      clear e8 e2
      go_wp2_with fail
      refine (spec_l1In.calls _ _ _ _ _ (sIn _ _ _)).mono ?_
      rintro e w_ ⟨rfl, ⟨nd, rfl⟩⟩
      replace S := Aside0.mk (S.out.drewN nd); clear z0 z1 z3 z4; generalize World.drewN _ nd = w4 at S ⊢; have z3 := S.out.cell 0 3 rfl rfl; have z4 := S.out.cell 0 4 rfl rfl
      by_cases cm : 0 ≤ mn ∧ mn ≤ 30
      ·rw [decide_eq_true cm]
       by_cases cx : mx = -1
       ·have g5 : (mx == -1) = true := beq_iff_eq.2 cx
        go_wp2
        all_goals (go_ret; exact ⟨_, rfl, fun _ => ⟨LE, HQ.out.1, HQ.out.2, HA.out, fun _ => ⟨cm.1, cm.2, by omega⟩⟩, S.out.tail⟩)
       ·have g5 : (mx == -1) = false := beq_eq_false_iff_ne.2 cx
        go_wp2_with fail
        all_goals
         refine (spec_l1In.calls _ _ _ _ _ (sIn _ _ _)).mono ?_
         rintro e w_ ⟨rfl, ⟨nd, rfl⟩⟩
         replace S := Aside0.mk (S.out.drewN nd); clear z3 z4; generalize World.drewN _ nd = w4 at S ⊢
         go_wp2
         go_ret
         exact ⟨_, rfl, fun q => ⟨LE, HQ.out.1, HQ.out.2, HA.out, fun _ => ⟨cm.1, cm.2, by simp at q; omega⟩⟩, S.out.tail⟩
      ·rw [decide_eq_false cm]
       go_wp2
       go_ret
       exact ⟨_, rfl, fun q => absurd q (by decide), S.out.tail⟩
     ·have g3 : (op != 8) = true := bne_iff_ne.2 e8
      have LE : 0 ≤ 128 := by omega
      have g4 : (op == 8) = false := beq_eq_false_iff_ne.2 e8
      go_wp2
      all_goals (go_ret; exact ⟨_, rfl, fun _ => ⟨LE, HQ.out.1, HQ.out.2, HA.out, fun q => absurd q (by omega)⟩, S.out.tail⟩)
    ·have g5 := eq_true (show (0 : Int) < (nl : Int) by omega)
     have g6 := eq_true (show 0 < nl by omega)
     go_wp2
     go_ret
     exact ⟨_, rfl, fun q => absurd q (by decide), S.out.tail⟩
end

end Go.Proofs.Ytfajfjgkkgigoaa.PFnClosed
