-- Written by this session's own program (wip/pr.py) over the kit's printer; contracts that the printer does not know are given by hand.
import Derived.Test.YtabpfejdppfcdaaPFnBehindx0
import Derived.Test.YtabpfejdppfcdaaPFnBehindx1
namespace Go.Proofs.Ytabpfejdppfcdaa.PFnBehind
open Go.RowKit Go.Proofs.YtabpfejdppfcdaaW.PrintWords Go.Proofs.YtabpfejdppfcdaaW.PrintLast Go.Proofs.YtabpfejdppfcdaaW.PrintMore
attribute [local go_sem] max2_int min2_int max_two min_two max_three min_three max_four min_four   -- for this text's walks alone
set_option linter.unusedVariables false
set_option linter.unusedSimpArgs false

/-! ### spec_DrawPlaceBehind: function 79 -/
def spec_DrawPlaceBehind.f (k : Nat) (l0 : List Int) : Option (Int × Int × ByteArray) := (spec_l1Open.f l0).bind fun bt145 => ((spec_l1Rd_source.f k bt145.1 bt145.2).bind fun bt148 => ((some (([9, 1000000000000] : List Int) : List Int)).bind fun y150 => ((spec_l1Rd_below.f bt145.1 bt148.2 2).bind fun bt153 => (if 0 ≤ bt153.1 then (if bt153.1 < (y150.length : Int) then ((spec_l1Rd_off.f k bt145.1 bt153.2 1 (rd y150 bt153.1)).bind fun bt156 => ((spec_l1Rd_off.f k bt145.1 bt156.2 1 9).bind fun bt158 => (some (bt156.1, bt158.1, bt148.1)))) else (none)) else (none)))))
theorem spec_DrawPlaceBehind.mono : ∀ a0 k, LeO (spec_DrawPlaceBehind.f k a0) (spec_DrawPlaceBehind.f (k + 1) a0) := by
  intro a0 k
  unfold spec_DrawPlaceBehind.f
  repeat' first
      | (with_reducible exact spec_l1Rd_off.mono _ _ _ _ _)
      | (with_reducible exact spec_l1Rd_source.mono _ _ _)
      | (with_reducible exact LeO.refl _)
      | (with_reducible exact LeO.none _)
      | (with_reducible refine LeO.ite ?_ ?_)
      | (with_reducible refine LeO.bind ?_ (fun _ => ?_))
      | exact spec_l1Rd_off.mono _ _ _ _ _
      | exact spec_l1Rd_source.mono _ _ _
      | exact LeO.none _
      | refine LeO.ite ?_ ?_
      | refine LeO.bind ?_ (fun _ => ?_)
set_option maxHeartbeats 8000000 in
set_option maxRecDepth 100000 in
theorem spec_DrawPlaceBehind.calls (k : Nat) (A0 : Option Addr) (c0 : Nat) (l0 : List Int) (r1 : Int) (r2 : Int) (r3 : ByteArray) (w : World) (hr0 : Kd.C (Kd.int .u8) w A0 l0.length l0) (hc0 : l0.length ≤ c0) (h : spec_DrawPlaceBehind.f k l0 = some (r1, r2, r3)) :
    Calls Try.prog 79 #[.slice A0 l0.length c0] w fun e w' => e = .returned (.tuple #[.int .i64 r1, .int .i64 r2, .string r3]) ∧ Below w.heap.size w w' := by
  have HR0 := Aside0.mk hr0
  have HC0 := Aside0.mk hc0
  clear hr0 hc0
  have HB := Aside0.mk (Below.refl w.heap.size w)
  have H : ((spec_l1Open.f l0).bind fun bt145 => ((spec_l1Rd_source.f k bt145.1 bt145.2).bind fun bt148 => ((some (([9, 1000000000000] : List Int) : List Int)).bind fun y150 => ((spec_l1Rd_below.f bt145.1 bt148.2 2).bind fun bt153 => (if 0 ≤ bt153.1 then (if bt153.1 < (y150.length : Int) then ((spec_l1Rd_off.f k bt145.1 bt153.2 1 (rd y150 bt153.1)).bind fun bt156 => ((spec_l1Rd_off.f k bt145.1 bt156.2 1 9).bind fun bt158 => (some (bt156.1, bt158.1, bt148.1)))) else (none)) else (none)))))) = some (r1, r2, r3) := h
  clear h
  replace H := Option.bind_eq_some_iff.mp H
  obtain ⟨⟨t145, t146⟩, A20, H⟩ := H
  replace H : ((spec_l1Rd_source.f k t145 t146).bind fun bt148 => ((some (([9, 1000000000000] : List Int) : List Int)).bind fun y150 => ((spec_l1Rd_below.f t145 bt148.2 2).bind fun bt153 => (if 0 ≤ bt153.1 then (if bt153.1 < (y150.length : Int) then ((spec_l1Rd_off.f k t145 bt153.2 1 (rd y150 bt153.1)).bind fun bt156 => ((spec_l1Rd_off.f k t145 bt156.2 1 9).bind fun bt158 => (some (bt156.1, bt158.1, bt148.1)))) else (none)) else (none))))) = some (r1, r2, r3) := H
  have A2 := Aside0.mk A20
  clear A20
  replace H := Option.bind_eq_some_iff.mp H
  obtain ⟨⟨t148, t149⟩, A30, H⟩ := H
  replace H : ((some (([9, 1000000000000] : List Int) : List Int)).bind fun y150 => ((spec_l1Rd_below.f t145 t149 2).bind fun bt153 => (if 0 ≤ bt153.1 then (if bt153.1 < (y150.length : Int) then ((spec_l1Rd_off.f k t145 bt153.2 1 (rd y150 bt153.1)).bind fun bt156 => ((spec_l1Rd_off.f k t145 bt156.2 1 9).bind fun bt158 => (some (bt156.1, bt158.1, t148)))) else (none)) else (none)))) = some (r1, r2, r3) := H
  have A3 := Aside0.mk A30
  clear A30
  obtain ⟨y150, hy150⟩ : ∃ y_ : List Int, y_ = (([9, 1000000000000] : List Int)) := ⟨_, rfl⟩
  replace H : ((spec_l1Rd_below.f t145 t149 2).bind fun bt153 => (if 0 ≤ bt153.1 then (if bt153.1 < (y150.length : Int) then ((spec_l1Rd_off.f k t145 bt153.2 1 (rd y150 bt153.1)).bind fun bt156 => ((spec_l1Rd_off.f k t145 bt156.2 1 9).bind fun bt158 => (some (bt156.1, bt158.1, t148)))) else (none)) else (none))) = some (r1, r2, r3) := by first | (rw [hy150]; with_reducible exact H) | (have H2_ := (Option.bind_some _ _).symm.trans H; rw [hy150]; with_reducible exact H2_) | (have H2_ := (Option.bind_some _ _).symm.trans H; with_reducible exact H2_) | with_reducible exact H | (rw [hy150]; exact H) | exact H
  have Ny150 := Aside0.mk hy150
  clear hy150
  replace H := Option.bind_eq_some_iff.mp H
  obtain ⟨⟨t153, t154⟩, A40, H⟩ := H
  replace H : (if 0 ≤ t153 then (if t153 < (y150.length : Int) then ((spec_l1Rd_off.f k t145 t154 1 (rd y150 t153)).bind fun bt156 => ((spec_l1Rd_off.f k t145 bt156.2 1 9).bind fun bt158 => (some (bt156.1, bt158.1, t148)))) else (none)) else (none)) = some (r1, r2, r3) := H
  have A4 := Aside0.mk A40
  clear A40
  by_cases c5 : 0 ≤ t153
  · rw [if_pos c5] at H
    have c5b0 : decide (0 ≤ t153) = true := decide_eq_true c5
    clear c5
    by_cases c6 : t153 < (y150.length : Int)
    · rw [if_pos c6] at H
      have c6b0 : decide (t153 < (y150.length : Int)) = true := decide_eq_true c6
      clear c6
      replace H := Option.bind_eq_some_iff.mp H
      obtain ⟨⟨t156, t157⟩, A70, H⟩ := H
      replace H : ((spec_l1Rd_off.f k t145 t157 1 9).bind fun bt158 => (some (t156, bt158.1, t148))) = some (r1, r2, r3) := H
      have A7 := Aside0.mk A70
      clear A70
      replace H := Option.bind_eq_some_iff.mp H
      obtain ⟨⟨t158, t159⟩, A80, H⟩ := H
      replace H : (some (t156, t158, t148)) = some (r1, r2, r3) := H
      have A8 := Aside0.mk A80
      clear A80
      simp only [Option.some.injEq, Prod.mk.injEq] at H
      obtain ⟨rfl, rfl, rfl⟩ := H
      go_enter Try.func79, Try.ntmps79
      go_wp2_with (first | ((with_reducible refine gate_callee (f := 103) rfl ?_); refine goesL_ (some 8) rfl rfl Try.func103 (by kernel_rfl) rfl #[.slice A0 l0.length c0] rfl (by (try simp only [List.map_toArray, List.map_cons, List.map_nil]); first | done | rfl | (simp only [List.length_drop, List.length_take]; rfl)) ?_; (with_reducible refine (spec_l1Open.calls _ _ l0 t145 t146 w _ ?side1 ?side2 ?side3 A2.out).mono ?_); (case side1 => repeat (first | (with_reducible first | exact HB.out | apply below_alloc | apply pw_below_drewN | apply below_drew1) | exact HB.out)); (case side2 => exact HR0.out); (case side3 => exact HC0.out); rintro e w9 ⟨g147, rfl, hi, hb, hb2⟩; refine ⟨_, rfl, ?_⟩; have n0_ := Aside0.mk (hb); have n1_ := Aside0.mk (hi); clear HB; have HB := n0_; have HI147 := n1_; clear n0_ n1_; (try clear hb); (try clear hb2); (try clear hk); (try clear hi)) | ((with_reducible refine gate_callee (f := 157) rfl ?_); refine goesL_ (some 10) rfl rfl Try.func157 (by kernel_rfl) rfl #[.pointer (some ⟨g147, 0, none⟩)] rfl (by (try simp only [List.map_toArray, List.map_cons, List.map_nil]); first | done | rfl | (simp only [List.length_drop, List.length_take]; rfl)) ?_; (with_reducible refine (spec_l1Rd_source.calls k g147 t145 t146 t148 t149 w _ ?side1 ?side2 A3.out).mono ?_); (case side1 => repeat (first | (with_reducible first | exact HI147.out | apply IsS190.alloc | apply IsS190.drewN | apply IsS190.drew | apply IsS190.set_1) | exact HI147.out)); (case side2 => repeat (first | (with_reducible first | exact HB.out | apply below_alloc | apply pw_below_drewN | apply below_drew1 | refine below_set ?_ (IsS190.ge HI147.out)) | exact HB.out)); rintro e w10 ⟨rfl, hi, hb, hk⟩; refine ⟨_, rfl, ?_⟩; have n0_ := Aside0.mk (hb); have n1_ := Aside0.mk (hi); clear HB; clear HI147; have HB := n0_; have HI147 := n1_; clear n0_ n1_; (try clear hb); (try clear hb2); (try clear hk); (try clear hi)) | ((with_reducible refine gate_dst (N := 12) rfl ?_); refine Kd.R_lit (Kd.int .i64) _ 2 ?hg (N := 12) ?hd (xs := ([9, 1000000000000] : List Int)) (inner := [.int .i64 9, .int .i64 1000000000000]) (ok := fun _ => True) (okp := fun _ => True) ?hr ?hp (fun _ hk => hk) trivial (Below.refl _ _) (Nat.le_refl _) (by simp) ?_; (case hd => rfl); (case hg => rfl); (case hr => first | (go_simp; done) | (go_simp; rfl)); (case hp => exact (Reps.one (show Kd.M (Kd.int .i64) _ _ _ 9 [.int .i64 9] from rfl) (Reps.one (show Kd.M (Kd.int .i64) _ _ _ 1000000000000 [.int .i64 1000000000000] from rfl) (Reps.none _ _)))); intro v151 w11 ho12 hb hg_ hnew_; clear hg_ hnew_; (first | rw [← Ny150.out] at ho12 | (simp only [Int.reduceToNat] at ho12; rw [← Ny150.out] at ho12)); have n0_ := Aside0.mk (Kd.R_lower ho12 (below_size (by repeat (first | (with_reducible first | exact HB.out | apply below_alloc | apply pw_below_drewN | apply below_drew1 | refine below_set ?_ (IsS190.ge HI147.out)) | exact HB.out)))); have n1_ := Aside0.mk (IsS190.below (by repeat (first | (with_reducible first | exact HI147.out | apply IsS190.alloc | apply IsS190.drewN | apply IsS190.drew | apply IsS190.set_1) | exact HI147.out)) hb); have n2_ := Aside0.mk (below_step (by repeat (first | (with_reducible first | exact HB.out | apply below_alloc | apply pw_below_drewN | apply below_drew1 | refine below_set ?_ (IsS190.ge HI147.out)) | exact HB.out)) hb); clear HI147; clear HB; have HO152 := n0_; have HI147 := n1_; have HB := n2_; clear n0_ n1_ n2_; clear hb ho12) | ((with_reducible refine gate_callee (f := 105) rfl ?_); refine goesL_ (some 14) rfl rfl Try.func105 (by kernel_rfl) rfl #[.pointer (some ⟨g147, 0, none⟩), .int .i64 2] rfl (by (try simp only [List.map_toArray, List.map_cons, List.map_nil]); first | done | rfl | (simp only [List.length_drop, List.length_take]; rfl)) ?_; (with_reducible refine (spec_l1Rd_below.calls g147 t145 t149 2 t153 t154 w _ ?side1 ?side2 A4.out).mono ?_); (case side1 => repeat (first | (with_reducible first | exact HI147.out | apply IsS190.alloc | apply IsS190.drewN | apply IsS190.drew | apply IsS190.set_1) | exact HI147.out)); (case side2 => repeat (first | (with_reducible first | exact HB.out | apply below_alloc | apply pw_below_drewN | apply below_drew1 | refine below_set ?_ (IsS190.ge HI147.out)) | exact HB.out)); rintro e w13 ⟨rfl, hi, hb, hk⟩; refine ⟨_, rfl, ?_⟩; have n0_ := Aside0.mk (Kd.R_mono (Kd.R_keep (IsS190.apart (show IsS190 w _ g147 t145 t149 from by repeat (first | (with_reducible first | exact HI147.out | apply IsS190.alloc | apply IsS190.drewN | apply IsS190.drew | apply IsS190.set_1) | exact HI147.out)) (by (with_reducible repeat (first | apply Kd.R_alloc | apply Kd.R_drewN | apply Kd.R_drew)); exact HO152.out) (by decide)) hk (fun _ h => h.2)) (fun _ h => h.1)); have n1_ := Aside0.mk (hb); have n2_ := Aside0.mk (hi); clear HO152; clear HB; clear HI147; have HO152 := n0_; have HB := n1_; have HI147 := n2_; clear n0_ n1_ n2_; (try clear hb); (try clear hb2); (try clear hk); (try clear hi); obtain ⟨Ao14, co14, eo14⟩ := Kd.R_slice HO152.out; subst eo14; have p155 : 0 ≤ (t153 : Int) := of_decide_eq_true (by first | (with_reducible assumption) | assumption); have q155 : t153 < (y150.length : Int) := of_decide_eq_true (by first | (with_reducible assumption) | assumption); obtain ⟨ad155, e155, hx155_0⟩ := Kd.at_int (Kd.R_reads' HO152.out).2.2 t153 p155 q155; cases e155; replace p155 := eq_true p155; replace q155 := eq_true q155) | ((with_reducible refine gate_callee (f := 113) rfl ?_); refine goesL_ (some 17) rfl rfl Try.func113 (by kernel_rfl) rfl #[.pointer (some ⟨g147, 0, none⟩), .int .i64 1, .int .i64 (rd y150 t153)] rfl (by (try simp only [List.map_toArray, List.map_cons, List.map_nil]); first | done | rfl | (simp only [List.length_drop, List.length_take]; rfl)) ?_; (with_reducible refine (spec_l1Rd_off.calls k g147 t145 t154 1 (rd y150 t153) t156 t157 w _ ?side1 ?side2 A7.out).mono ?_); (case side1 => repeat (first | (with_reducible first | exact HI147.out | apply IsS190.alloc | apply IsS190.drewN | apply IsS190.drew | apply IsS190.set_1) | exact HI147.out)); (case side2 => repeat (first | (with_reducible first | exact HB.out | apply below_alloc | apply pw_below_drewN | apply below_drew1 | refine below_set ?_ (IsS190.ge HI147.out)) | exact HB.out)); rintro e w15 ⟨rfl, hi, hb, hk⟩; refine ⟨_, rfl, ?_⟩; have n0_ := Aside0.mk (Kd.R_mono (Kd.R_keep (IsS190.apart (show IsS190 w _ g147 t145 t154 from by repeat (first | (with_reducible first | exact HI147.out | apply IsS190.alloc | apply IsS190.drewN | apply IsS190.drew | apply IsS190.set_1) | exact HI147.out)) (by (with_reducible repeat (first | apply Kd.R_alloc | apply Kd.R_drewN | apply Kd.R_drew)); exact HO152.out) (by decide)) hk (fun _ h => h.2)) (fun _ h => h.1)); have n1_ := Aside0.mk (hb); have n2_ := Aside0.mk (hi); clear HO152; clear HB; clear HI147; have HO152 := n0_; have HB := n1_; have HI147 := n2_; clear n0_ n1_ n2_; (try clear hb); (try clear hb2); (try clear hk); (try clear hi)) | ((with_reducible refine gate_callee (f := 113) rfl ?_); refine goesL_ (some 19) rfl rfl Try.func113 (by kernel_rfl) rfl #[.pointer (some ⟨g147, 0, none⟩), .int .i64 1, .int .i64 9] rfl (by (try simp only [List.map_toArray, List.map_cons, List.map_nil]); first | done | rfl | (simp only [List.length_drop, List.length_take]; rfl)) ?_; (with_reducible refine (spec_l1Rd_off.calls k g147 t145 t157 1 9 t158 t159 w _ ?side1 ?side2 A8.out).mono ?_); (case side1 => repeat (first | (with_reducible first | exact HI147.out | apply IsS190.alloc | apply IsS190.drewN | apply IsS190.drew | apply IsS190.set_1) | exact HI147.out)); (case side2 => repeat (first | (with_reducible first | exact HB.out | apply below_alloc | apply pw_below_drewN | apply below_drew1 | refine below_set ?_ (IsS190.ge HI147.out)) | exact HB.out)); rintro e w16 ⟨rfl, hi, hb, hk⟩; refine ⟨_, rfl, ?_⟩; have n0_ := Aside0.mk (Kd.R_mono (Kd.R_keep (IsS190.apart (show IsS190 w _ g147 t145 t157 from by repeat (first | (with_reducible first | exact HI147.out | apply IsS190.alloc | apply IsS190.drewN | apply IsS190.drew | apply IsS190.set_1) | exact HI147.out)) (by (with_reducible repeat (first | apply Kd.R_alloc | apply Kd.R_drewN | apply Kd.R_drew)); exact HO152.out) (by decide)) hk (fun _ h => h.2)) (fun _ h => h.1)); have n1_ := Aside0.mk (hb); have n2_ := Aside0.mk (hi); clear HO152; clear HB; clear HI147; have HO152 := n0_; have HB := n1_; have HI147 := n2_; clear n0_ n1_ n2_; (try clear hb); (try clear hb2); (try clear hk); (try clear hi)))
      go_ret3
      exact ⟨by first | rfl | (simp [errW_none, errW_some] <;> rfl) | (simp [*, errW_none, errW_some] <;> rfl), by repeat (first | (with_reducible first | exact HB.out | apply below_alloc | apply pw_below_drewN | apply below_drew1 | refine below_set ?_ (IsS190.ge HI147.out)) | exact HB.out)⟩
    · rw [if_neg c6] at H
      exact absurd H (by simp)
  · rw [if_neg c5] at H
    exact absurd H (by simp)

/-! ### spec_l1In: function 96 -/
def spec_l1In.f (a0 : Int) (a1 : Int) (a2 : Int) : Option (Bool) := if a0 ≥ a1 then (some (decide (a0 ≤ a2))) else (some false)
set_option maxHeartbeats 8000000 in
set_option maxRecDepth 100000 in
theorem spec_l1In.calls (a0 : Int) (a1 : Int) (a2 : Int) (r : Bool) (w : World) (h : spec_l1In.f a0 a1 a2 = some r) :
    Calls Try.prog 96 #[.int .i64 a0, .int .i64 a1, .int .i64 a2] w fun e w' => e = .returned (.bool r) ∧ Drawn0 w w' := by
  have H : (if a0 ≥ a1 then (some (decide (a0 ≤ a2))) else (some false)) = some r := h
  clear h
  by_cases c4 : a0 ≥ a1
  · rw [if_pos c4] at H
    have c4b0 : decide (a1 ≤ a0) = true := decide_eq_true c4
    clear c4
    obtain rfl := Option.some.inj H
    go_enter Try.func96, Try.ntmps96
    go_wp2
    go_ret
    exact ⟨by first | rfl | (simp; done) | (simp [*]; done), by repeat (first | exact Drawn0.refl _ | apply Drawn0.step)⟩
  · rw [if_neg c4] at H
    have c4b0 : decide (a1 ≤ a0) = false := decide_eq_false c4
    clear c4
    obtain rfl := Option.some.inj H
    go_enter Try.func96, Try.ntmps96
    go_wp2
    go_ret
    exact ⟨by first | rfl | (simp; done) | (simp [*]; done), by repeat (first | exact Drawn0.refl _ | apply Drawn0.step)⟩

/-! ### spec_PlaceBehind: function 80 -/
mutual
def spec_PlaceBehind.j0 : Nat → Int → Int → ByteArray → Bool → Option (Int × Int)
  | 0, _, _, _, _ => none
  | k + 1, x0, x1, x2, x21 => if x21 = true then (some ((-1), (-1))) else (spec_PlaceBehind.l0 k x0 x1 x2 0)
def spec_PlaceBehind.l0 : Nat → Int → Int → ByteArray → Int → Option (Int × Int)
  | 0, _, _, _, _ => none
  | k + 1, x0, x1, x2, x8 => if x8 < (x2.size : Int) then (if 0 ≤ x8 then (if (bt x2 x8) = 10 then (spec_PlaceBehind.l0 k (wrap64 (x0 + 1)) 1 x2 (wrap64 (x8 + 1))) else (spec_PlaceBehind.l0 k x0 (wrap64 (x1 + 1)) x2 (wrap64 (x8 + 1)))) else (none)) else (some (x0, x1))
end
def spec_PlaceBehind.f (k : Nat) (a0 : Int) (a1 : Int) (a2 : ByteArray) : Option (Int × Int) := (spec_l1In.f a0 1 1000000000000).bind fun t160 => (if t160 = true then ((spec_l1In.f a1 1 1000000000000).bind fun t161 => (if t161 = true then (spec_PlaceBehind.j0 k a0 a1 a2 (decide ((a2.size : Int) > 20000))) else (spec_PlaceBehind.j0 k a0 a1 a2 true))) else (spec_PlaceBehind.j0 k a0 a1 a2 true))
theorem spec_PlaceBehind.mono_l : ∀ k, (∀ y0 y1 y2 y3, LeO (spec_PlaceBehind.j0 k y0 y1 y2 y3) (spec_PlaceBehind.j0 (k + 1) y0 y1 y2 y3)) ∧ (∀ y0 y1 y2 y3, LeO (spec_PlaceBehind.l0 k y0 y1 y2 y3) (spec_PlaceBehind.l0 (k + 1) y0 y1 y2 y3))
  | 0 => ⟨fun _ _ _ _ r h => by simp [spec_PlaceBehind.j0] at h, fun _ _ _ _ r h => by simp [spec_PlaceBehind.l0] at h⟩
  | k + 1 => by
    obtain ⟨ih0, ih1⟩ := spec_PlaceBehind.mono_l k
    refine ⟨?_, ?_⟩
    · intro y0 y1 y2 y3
      unfold spec_PlaceBehind.j0
      repeat' first
      | (with_reducible exact ih0 _ _ _ _)
      | (with_reducible exact ih1 _ _ _ _)
      | (with_reducible exact LeO.refl _)
      | (with_reducible exact LeO.none _)
      | (with_reducible refine LeO.ite ?_ ?_)
      | (with_reducible refine LeO.bind ?_ (fun _ => ?_))
      | exact ih0 _ _ _ _
      | exact ih1 _ _ _ _
      | exact LeO.none _
      | refine LeO.ite ?_ ?_
      | refine LeO.bind ?_ (fun _ => ?_)
    · intro y0 y1 y2 y3
      unfold spec_PlaceBehind.l0
      repeat' first
      | (with_reducible exact ih0 _ _ _ _)
      | (with_reducible exact ih1 _ _ _ _)
      | (with_reducible exact LeO.refl _)
      | (with_reducible exact LeO.none _)
      | (with_reducible refine LeO.ite ?_ ?_)
      | (with_reducible refine LeO.bind ?_ (fun _ => ?_))
      | exact ih0 _ _ _ _
      | exact ih1 _ _ _ _
      | exact LeO.none _
      | refine LeO.ite ?_ ?_
      | refine LeO.bind ?_ (fun _ => ?_)
theorem spec_PlaceBehind.mono : ∀ a0 a1 a2 k, LeO (spec_PlaceBehind.f k a0 a1 a2) (spec_PlaceBehind.f (k + 1) a0 a1 a2) := by
  intro a0 a1 a2 k
  obtain ⟨ih0, ih1⟩ := spec_PlaceBehind.mono_l k
  unfold spec_PlaceBehind.f
  repeat' first
      | (with_reducible exact ih0 _ _ _ _)
      | (with_reducible exact ih1 _ _ _ _)
      | (with_reducible exact LeO.refl _)
      | (with_reducible exact LeO.none _)
      | (with_reducible refine LeO.ite ?_ ?_)
      | (with_reducible refine LeO.bind ?_ (fun _ => ?_))
      | exact ih0 _ _ _ _
      | exact ih1 _ _ _ _
      | exact LeO.none _
      | refine LeO.ite ?_ ?_
      | refine LeO.bind ?_ (fun _ => ?_)
set_option maxHeartbeats 8000000 in
set_option maxRecDepth 100000 in
theorem spec_PlaceBehind.calls (k : Nat) (a0 : Int) (a1 : Int) (a2 : ByteArray) (r1 : Int) (r2 : Int) (w : World) (h : spec_PlaceBehind.f k a0 a1 a2 = some (r1, r2)) :
    Calls Try.prog 80 #[.int .i64 a0, .int .i64 a1, .string a2] w fun e w' => e = .returned (.tuple #[.int .i64 r1, .int .i64 r2]) ∧ Drawn0 w w' := by
  have H : ((spec_l1In.f a0 1 1000000000000).bind fun t160 => (if t160 = true then ((spec_l1In.f a1 1 1000000000000).bind fun t161 => (if t161 = true then (spec_PlaceBehind.j0 k a0 a1 a2 (decide ((a2.size : Int) > 20000))) else (spec_PlaceBehind.j0 k a0 a1 a2 true))) else (spec_PlaceBehind.j0 k a0 a1 a2 true))) = some (r1, r2) := h
  clear h
  have HC4 := Aside0.mk H
  clear H
  go_enter Try.func80, Try.ntmps80
  go_upto_region 1 with (fail)
  go_cut [21] (fun v21 wc => ∃ (kq : Nat) (x21_3 : Bool), v21 = .bool x21_3 ∧ Aside0 (spec_PlaceBehind.j0 kq a0 a1 a2 x21_3 = some (r1, r2)) ∧ Aside0 (kq ≤ k) ∧ Drawn0 w wc)
  case first =>
    have H := HC4.out
    clear HC4
    replace H := Option.bind_eq_some_iff.mp H
    obtain ⟨t160, A50, H⟩ := H
    replace H : (if t160 = true then ((spec_l1In.f a1 1 1000000000000).bind fun t161 => (if t161 = true then (spec_PlaceBehind.j0 k a0 a1 a2 (decide ((a2.size : Int) > 20000))) else (spec_PlaceBehind.j0 k a0 a1 a2 true))) else (spec_PlaceBehind.j0 k a0 a1 a2 true)) = some (r1, r2) := H
    have A5 := Aside0.mk A50
    clear A50
    by_cases c6 : t160 = true
    · subst c6
      have H1 : ((spec_l1In.f a1 1 1000000000000).bind fun t161 => (if t161 = true then (spec_PlaceBehind.j0 k a0 a1 a2 (decide ((a2.size : Int) > 20000))) else (spec_PlaceBehind.j0 k a0 a1 a2 true))) = some (r1, r2) := by rw [if_pos rfl] at H; exact H
      clear H
      have H := H1
      clear H1
      replace H := Option.bind_eq_some_iff.mp H
      obtain ⟨t161, A70, H⟩ := H
      replace H : (if t161 = true then (spec_PlaceBehind.j0 k a0 a1 a2 (decide ((a2.size : Int) > 20000))) else (spec_PlaceBehind.j0 k a0 a1 a2 true)) = some (r1, r2) := H
      have A7 := Aside0.mk A70
      clear A70
      by_cases c8 : t161 = true
      · subst c8
        have H1 : (spec_PlaceBehind.j0 k a0 a1 a2 (decide ((a2.size : Int) > 20000))) = some (r1, r2) := by rw [if_pos rfl] at H; exact H
        clear H
        have H := H1
        clear H1
        have H' := Aside0.mk H
        clear H
        go_wp2_with (first | ((with_reducible refine gate_callee (f := 96) rfl ?_); refine goesL_ (some 10) rfl rfl Try.func96 (by kernel_rfl) rfl #[.int .i64 a0, .int .i64 1, .int .i64 1000000000000] rfl (by (try simp only [List.map_toArray, List.map_cons, List.map_nil]); first | done | rfl | (simp only [List.length_drop, List.length_take]; rfl)) ?_; (with_reducible refine (spec_l1In.calls a0 1 1000000000000 true _ A5.out).mono ?_); rintro e w' ⟨rfl, ⟨nd, rfl⟩⟩; refine ⟨_, rfl, ?_⟩) | (go_at_call 96; (with_reducible refine (spec_l1In.calls a1 1 1000000000000 true _ A7.out).mono ?_); rintro e w' ⟨rfl, ⟨nd, rfl⟩⟩))
        go_meet
        case rel => exact ⟨_, (decide ((a2.size : Int) > 20000)), (by first | rfl | (simp; done) | (simp [*]; done)), H', ⟨by first | omega | exact Nat.le_refl _⟩, by repeat (first | exact Drawn0.refl _ | apply Drawn0.step)⟩
      · replace c8 := Bool.eq_false_iff.mpr c8
        subst c8
        have H1 : (spec_PlaceBehind.j0 k a0 a1 a2 true) = some (r1, r2) := by rw [if_neg (show ¬ (false = true) by decide)] at H; exact H
        clear H
        have H := H1
        clear H1
        have H' := Aside0.mk H
        clear H
        go_wp2_with (first | ((with_reducible refine gate_callee (f := 96) rfl ?_); refine goesL_ (some 10) rfl rfl Try.func96 (by kernel_rfl) rfl #[.int .i64 a0, .int .i64 1, .int .i64 1000000000000] rfl (by (try simp only [List.map_toArray, List.map_cons, List.map_nil]); first | done | rfl | (simp only [List.length_drop, List.length_take]; rfl)) ?_; (with_reducible refine (spec_l1In.calls a0 1 1000000000000 true _ A5.out).mono ?_); rintro e w' ⟨rfl, ⟨nd, rfl⟩⟩; refine ⟨_, rfl, ?_⟩) | (go_at_call 96; (with_reducible refine (spec_l1In.calls a1 1 1000000000000 false _ A7.out).mono ?_); rintro e w' ⟨rfl, ⟨nd, rfl⟩⟩))
        go_meet
        case rel => exact ⟨_, (true), (by first | rfl | (simp; done) | (simp [*]; done)), H', ⟨by first | omega | exact Nat.le_refl _⟩, by repeat (first | exact Drawn0.refl _ | apply Drawn0.step)⟩
    · replace c6 := Bool.eq_false_iff.mpr c6
      subst c6
      have H1 : (spec_PlaceBehind.j0 k a0 a1 a2 true) = some (r1, r2) := by rw [if_neg (show ¬ (false = true) by decide)] at H; exact H
      clear H
      have H := H1
      clear H1
      have H' := Aside0.mk H
      clear H
      go_wp2_with (first | ((with_reducible refine gate_callee (f := 96) rfl ?_); refine goesL_ (some 10) rfl rfl Try.func96 (by kernel_rfl) rfl #[.int .i64 a0, .int .i64 1, .int .i64 1000000000000] rfl (by (try simp only [List.map_toArray, List.map_cons, List.map_nil]); first | done | rfl | (simp only [List.length_drop, List.length_take]; rfl)) ?_; (with_reducible refine (spec_l1In.calls a0 1 1000000000000 false _ A5.out).mono ?_); rintro e w' ⟨rfl, ⟨nd, rfl⟩⟩; refine ⟨_, rfl, ?_⟩))
      go_meet
      case rel => exact ⟨_, (true), (by first | rfl | (simp; done) | (simp [*]; done)), H', ⟨by first | omega | exact Nat.le_refl _⟩, by repeat (first | exact Drawn0.refl _ | apply Drawn0.step)⟩
  case rest =>
    clear HC4
    try clear p2
    try clear c6
    try clear c8
    obtain ⟨kq, x21_3, rfl, HA, HJ3, ⟨mc3, rfl⟩⟩ := hcut
    cases kq with
    | zero => exact absurd HA.out (by simp [spec_PlaceBehind.j0])
    | succ kj3 =>
      have H := HA.out
      clear HA
      simp only [spec_PlaceBehind.j0] at H
      by_cases c9 : x21_3 = true
      · subst c9
        have H1 : (some ((-1), (-1))) = some (r1, r2) := by rw [if_pos rfl] at H; exact H
        clear H
        have H := H1
        clear H1
        simp only [Option.some.injEq, Prod.mk.injEq] at H
        obtain ⟨rfl, rfl⟩ := H
        go_wp2
        go_ret2
        exact ⟨by first | rfl | (simp; done) | (simp [*]; done), by repeat (first | exact Drawn0.refl _ | apply Drawn0.step)⟩
      · replace c9 := Bool.eq_false_iff.mpr c9
        subst c9
        have H1 : (spec_PlaceBehind.l0 kj3 a0 a1 a2 0) = some (r1, r2) := by rw [if_neg (show ¬ (false = true) by decide)] at H; exact H
        clear H
        have H := H1
        clear H1
        have H' := Aside0.mk H
        clear H
        go_wp2
        go_loopg [0, 1, 8] kj3 (fun kq v0 v1 v8 w' => ∃ (x0_2 : Int) (x1_2 : Int) (x8_2 : Int), v0 = .int .i64 x0_2 ∧ v1 = .int .i64 x1_2 ∧ v8 = .int .i64 x8_2 ∧ Aside0 (spec_PlaceBehind.l0 kq x0_2 x1_2 a2 x8_2 = some (r1, r2)) ∧ Aside0 (kq ≤ kj3) ∧ Drawn0 w w')
        case atStart => exact ⟨(a0), (a1), (0), (by first | rfl | (simp; done) | (simp [*]; done)), (by first | rfl | (simp; done) | (simp [*]; done)), (by first | rfl | (simp; done) | (simp [*]; done)), H', ⟨Nat.le_refl _⟩, by repeat (first | exact Drawn0.refl _ | apply Drawn0.step)⟩
        case round =>
          clear H'
          try clear p2
          try clear c3
          try clear c6
          try clear c8
          try clear c9
          try clear p2
          obtain ⟨x0_2, x1_2, x8_2, rfl, rfl, rfl, HA, HK2, ⟨m2, rfl⟩⟩ := hrel
          cases gk with
          | zero => exact absurd HA.out (by simp [spec_PlaceBehind.l0])
          | succ k2 =>
            have H := HA.out
            clear HA
            simp only [spec_PlaceBehind.l0] at H
            by_cases c10 : x8_2 < (a2.size : Int)
            · rw [if_pos c10] at H
              have c10b0 : decide (x8_2 < (a2.size : Int)) = true := decide_eq_true c10
              clear c10
              by_cases c11 : 0 ≤ x8_2
              · rw [if_pos c11] at H
                have c11b0 : decide (0 ≤ x8_2) = true := decide_eq_true c11
                clear c11
                by_cases c13 : (bt a2 x8_2) = 10
                · rw [if_pos c13] at H
                  have c13b0 : ((bt a2 x8_2) == 10) = true := beq_iff_eq.mpr c13
                  have c13b1 : ((bt a2 x8_2) != 10) = false := bne_eq_false_iff_eq.mpr c13
                  clear c13
                  have H' := Aside0.mk H
                  clear H
                  have p12 : 0 ≤ (x8_2 : Int) := of_decide_eq_true (by first | (with_reducible assumption) | assumption)
                  have q12 : x8_2 < (a2.size : Int) := of_decide_eq_true (by first | (with_reducible assumption) | assumption)
                  have hx12 := bt_at a2 x8_2
                  replace p12 := eq_true p12
                  replace q12 := eq_true q12
                  go_wp2
                  go_roundg k2
                  case measure => have := HJ3.out; have := HK2.out; omega
                  case rel => exact ⟨(wrap64 (x0_2 + 1)), (1), (wrap64 (x8_2 + 1)), (by first | rfl | (simp; done) | (simp [*]; done)), (by first | rfl | (simp; done) | (simp [*]; done)), (by first | rfl | (simp; done) | (simp [*]; done)), H', ⟨by have := HJ3.out; have := HK2.out; omega⟩, by repeat (first | exact Drawn0.refl _ | apply Drawn0.step)⟩
                · rw [if_neg c13] at H
                  have c13b0 : ((bt a2 x8_2) == 10) = false := beq_eq_false_iff_ne.mpr c13
                  have c13b1 : ((bt a2 x8_2) != 10) = true := bne_iff_ne.mpr c13
                  have H' := Aside0.mk H
                  clear H
                  have p12 : 0 ≤ (x8_2 : Int) := of_decide_eq_true (by first | (with_reducible assumption) | assumption)
                  have q12 : x8_2 < (a2.size : Int) := of_decide_eq_true (by first | (with_reducible assumption) | assumption)
                  have hx12 := bt_at a2 x8_2
                  replace p12 := eq_true p12
                  replace q12 := eq_true q12
                  go_wp2
                  go_roundg k2
                  case measure => have := HJ3.out; have := HK2.out; omega
                  case rel => exact ⟨(x0_2), (wrap64 (x1_2 + 1)), (wrap64 (x8_2 + 1)), (by first | rfl | (simp; done) | (simp [*]; done)), (by first | rfl | (simp; done) | (simp [*]; done)), (by first | rfl | (simp; done) | (simp [*]; done)), H', ⟨by have := HJ3.out; have := HK2.out; omega⟩, by repeat (first | exact Drawn0.refl _ | apply Drawn0.step)⟩
              · rw [if_neg c11] at H
                exact absurd H (by simp)
            · rw [if_neg c10] at H
              have c10b0 : decide (x8_2 < (a2.size : Int)) = false := decide_eq_false c10
              clear c10
              simp only [Option.some.injEq, Prod.mk.injEq] at H
              obtain ⟨rfl, rfl⟩ := H
              go_wp2
              go_ret2
              exact ⟨by first | rfl | (simp; done) | (simp [*]; done), by repeat (first | exact Drawn0.refl _ | apply Drawn0.step)⟩

/-! ### impl_within: function 98 -/
def impl_within.f (a0 : Int) (a1 : Int) (a2 : Int) : Option (Bool) := if a0 ≥ a1 then (some (decide (a0 ≤ a2))) else (some false)
set_option maxHeartbeats 8000000 in
set_option maxRecDepth 100000 in
theorem impl_within.calls (a0 : Int) (a1 : Int) (a2 : Int) (r : Bool) (w : World) (h : impl_within.f a0 a1 a2 = some r) :
    Calls Try.prog 98 #[.int .i64 a0, .int .i64 a1, .int .i64 a2] w fun e w' => e = .returned (.bool r) ∧ Drawn0 w w' := by
  have H : (if a0 ≥ a1 then (some (decide (a0 ≤ a2))) else (some false)) = some r := h
  clear h
  by_cases c4 : a0 ≥ a1
  · rw [if_pos c4] at H
    have c4b0 : decide (a1 ≤ a0) = true := decide_eq_true c4
    clear c4
    obtain rfl := Option.some.inj H
    go_enter Try.func98, Try.ntmps98
    go_wp2
    go_ret
    exact ⟨by first | rfl | (simp; done) | (simp [*]; done), by repeat (first | exact Drawn0.refl _ | apply Drawn0.step)⟩
  · rw [if_neg c4] at H
    have c4b0 : decide (a1 ≤ a0) = false := decide_eq_false c4
    clear c4
    obtain rfl := Option.some.inj H
    go_enter Try.func98, Try.ntmps98
    go_wp2
    go_ret
    exact ⟨by first | rfl | (simp; done) | (simp [*]; done), by repeat (first | exact Drawn0.refl _ | apply Drawn0.step)⟩

/-! ### impl_length: function 110 -/
def impl_length.f (a0 : ByteArray) : Option (Int) := some (a0.size : Int)
set_option maxHeartbeats 8000000 in
set_option maxRecDepth 100000 in
theorem impl_length.calls (a0 : ByteArray) (r : Int) (w : World) (h : impl_length.f a0 = some r) :
    Calls Try.prog 110 #[.string a0] w fun e w' => e = .returned (.int .i64 r) ∧ Drawn0 w w' := by
  have H : (some (a0.size : Int)) = some r := h
  clear h
  obtain rfl := Option.some.inj H
  go_enter Try.func110, Try.ntmps110
  go_wp2
  go_ret
  exact ⟨by first | rfl | (simp; done) | (simp [*]; done), by repeat (first | exact Drawn0.refl _ | apply Drawn0.step)⟩

/-! ### impl_behind: function 158 -/
open Go.Shelf in
shelf_lay Lays.n138 Nm 138 at Try as laysCount
open Go.Shelf in
shelf_lay Lays.n148 Nm 148 at Try as laysLast
def impl_behind.f (a0 : Int) (a1 : Int) (a2 : ByteArray) : Option (Int × Int) :=
  if a2.size < 4611686018427387904 then (if ((Lib.countByte a2.data.toList 10 : Nat) : Int) = 0 then some (a0, wrap64 (a1 + (a2.size : Int))) else some (wrap64 (a0 + (Lib.countByte a2.data.toList 10 : Nat)), wrap64 ((a2.size : Int) - Lib.lastIndex a2.data.toList [10]))) else none
set_option maxHeartbeats 1000000 in
set_option maxRecDepth 100000 in
theorem impl_behind.calls (a0 : Int) (a1 : Int) (a2 : ByteArray) (r1 : Int) (r2 : Int) (w : World) (h : impl_behind.f a0 a1 a2 = some (r1, r2)) :
    Calls Try.prog 158 #[.int .i64 a0, .int .i64 a1, .string a2] w fun e w' => e = .returned (.tuple #[.int .i64 r1, .int .i64 r2]) ∧ Drawn0 w w' := by
  unfold impl_behind.f at h
  by_cases hz : a2.size < 4611686018427387904
  · rw [if_pos hz] at h
    have HC := Aside0.mk (fun W => Any.strings_Count_one laysCount a2 10 W)
    have HL := Aside0.mk (fun W => Any.strings_LastIndex laysLast a2 ⟨#[10]⟩ hz W)
    have e10 : (⟨#[10]⟩ : ByteArray).data.toList = [10] := rfl
    rw [e10] at HL
    clear hz e10
    generalize Lib.countByte a2.data.toList 10 = c at *
    generalize Lib.lastIndex a2.data.toList [10] = li at *
    by_cases hc : (c : Int) = 0
    · rw [if_pos hc] at h
      have hcb : ((c : Int) == 0) = true := beq_iff_eq.2 hc
      clear hc
      obtain ⟨rfl, rfl⟩ := Prod.mk.inj (Option.some.inj h)
      clear h
      go_enter Try.func158, Try.ntmps158
      go_wp2_with fail
      refine (HC.out _).mono ?_
      rintro e w' ⟨rfl, rfl⟩
      clear HC
      go_wp2_with fail
      refine (impl_length.calls a2 (a2.size : Int) _ rfl).mono ?_
      rintro e w' ⟨rfl, ⟨nd, rfl⟩⟩
      go_wp2
      go_ret2
      exact ⟨by first | rfl | (simp; done), by repeat (first | exact Drawn0.refl _ | apply Drawn0.step)⟩
    · rw [if_neg hc] at h
      have hcb : ((c : Int) == 0) = false := beq_eq_false_iff_ne.2 hc
      clear hc
      obtain ⟨rfl, rfl⟩ := Prod.mk.inj (Option.some.inj h)
      clear h
      go_enter Try.func158, Try.ntmps158
      go_wp2_with fail
      refine (HC.out _).mono ?_
      rintro e w' ⟨rfl, rfl⟩
      clear HC
      go_wp2_with fail
      refine (impl_length.calls a2 (a2.size : Int) _ rfl).mono ?_
      rintro e w' ⟨rfl, ⟨nd, rfl⟩⟩
      go_wp2_with fail
      refine (HL.out _).mono ?_
      rintro e w' ⟨rfl, rfl⟩
      clear HL
      go_wp2
      go_ret2
      exact ⟨by first | rfl | (simp; done), by repeat (first | exact Drawn0.refl _ | apply Drawn0.step)⟩
  · rw [if_neg hz] at h
    exact absurd h (by simp)

/-! ### impl_PlaceBehind: function 81 -/
def impl_PlaceBehind.f (a0 : Int) (a1 : Int) (a2 : ByteArray) : Option (Int × Int) := (impl_within.f a0 1 1000000000000).bind fun t162 => (if t162 = true then ((impl_within.f a1 1 1000000000000).bind fun t163 => (if t163 = true then (if (a2.size : Int) > 20000 then (some ((-1), (-1))) else ((impl_behind.f a0 a1 a2).bind fun bt164 => (some (bt164.1, bt164.2)))) else (some ((-1), (-1))))) else (some ((-1), (-1))))
set_option maxHeartbeats 8000000 in
set_option maxRecDepth 100000 in
theorem impl_PlaceBehind.calls (a0 : Int) (a1 : Int) (a2 : ByteArray) (r1 : Int) (r2 : Int) (w : World) (h : impl_PlaceBehind.f a0 a1 a2 = some (r1, r2)) :
    Calls Try.prog 81 #[.int .i64 a0, .int .i64 a1, .string a2] w fun e w' => e = .returned (.tuple #[.int .i64 r1, .int .i64 r2]) ∧ Drawn0 w w' := by
  have H : ((impl_within.f a0 1 1000000000000).bind fun t162 => (if t162 = true then ((impl_within.f a1 1 1000000000000).bind fun t163 => (if t163 = true then (if (a2.size : Int) > 20000 then (some ((-1), (-1))) else ((impl_behind.f a0 a1 a2).bind fun bt164 => (some (bt164.1, bt164.2)))) else (some ((-1), (-1))))) else (some ((-1), (-1))))) = some (r1, r2) := h
  clear h
  replace H := Option.bind_eq_some_iff.mp H
  obtain ⟨t162, A40, H⟩ := H
  replace H : (if t162 = true then ((impl_within.f a1 1 1000000000000).bind fun t163 => (if t163 = true then (if (a2.size : Int) > 20000 then (some ((-1), (-1))) else ((impl_behind.f a0 a1 a2).bind fun bt164 => (some (bt164.1, bt164.2)))) else (some ((-1), (-1))))) else (some ((-1), (-1)))) = some (r1, r2) := H
  have A4 := Aside0.mk A40
  clear A40
  by_cases c5 : t162 = true
  · subst c5
    have H1 : ((impl_within.f a1 1 1000000000000).bind fun t163 => (if t163 = true then (if (a2.size : Int) > 20000 then (some ((-1), (-1))) else ((impl_behind.f a0 a1 a2).bind fun bt164 => (some (bt164.1, bt164.2)))) else (some ((-1), (-1))))) = some (r1, r2) := by rw [if_pos rfl] at H; exact H
    clear H
    have H := H1
    clear H1
    replace H := Option.bind_eq_some_iff.mp H
    obtain ⟨t163, A60, H⟩ := H
    replace H : (if t163 = true then (if (a2.size : Int) > 20000 then (some ((-1), (-1))) else ((impl_behind.f a0 a1 a2).bind fun bt164 => (some (bt164.1, bt164.2)))) else (some ((-1), (-1)))) = some (r1, r2) := H
    have A6 := Aside0.mk A60
    clear A60
    by_cases c7 : t163 = true
    · subst c7
      have H1 : (if (a2.size : Int) > 20000 then (some ((-1), (-1))) else ((impl_behind.f a0 a1 a2).bind fun bt164 => (some (bt164.1, bt164.2)))) = some (r1, r2) := by rw [if_pos rfl] at H; exact H
      clear H
      have H := H1
      clear H1
      by_cases c8 : (a2.size : Int) > 20000
      · rw [if_pos c8] at H
        have c8b0 : decide (20000 < (a2.size : Int)) = true := decide_eq_true c8
        have c8b1 : decide (20000 < a2.size) = true := decide_eq_true (by omega)
        clear c8
        simp only [Option.some.injEq, Prod.mk.injEq] at H
        obtain ⟨rfl, rfl⟩ := H
        go_enter Try.func81, Try.ntmps81
        go_wp2_with (first | ((with_reducible refine gate_callee (f := 98) rfl ?_); refine goesL_ (some 9) rfl rfl Try.func98 (by kernel_rfl) rfl #[.int .i64 a0, .int .i64 1, .int .i64 1000000000000] rfl (by (try simp only [List.map_toArray, List.map_cons, List.map_nil]); first | done | rfl | (simp only [List.length_drop, List.length_take]; rfl)) ?_; (with_reducible refine (impl_within.calls a0 1 1000000000000 true _ A4.out).mono ?_); rintro e w' ⟨rfl, ⟨nd, rfl⟩⟩; refine ⟨_, rfl, ?_⟩) | (go_at_call 98; (with_reducible refine (impl_within.calls a1 1 1000000000000 true _ A6.out).mono ?_); rintro e w' ⟨rfl, ⟨nd, rfl⟩⟩))
        go_ret2
        exact ⟨by first | rfl | (simp; done) | (simp [*]; done), by repeat (first | exact Drawn0.refl _ | apply Drawn0.step)⟩
      · rw [if_neg c8] at H
        have c8b0 : decide (20000 < (a2.size : Int)) = false := decide_eq_false c8
        have c8b1 : decide (20000 < a2.size) = false := decide_eq_false (by omega)
        clear c8
        replace H := Option.bind_eq_some_iff.mp H
        obtain ⟨⟨t164, t165⟩, A90, H⟩ := H
        replace H : (some (t164, t165)) = some (r1, r2) := H
        have A9 := Aside0.mk A90
        clear A90
        simp only [Option.some.injEq, Prod.mk.injEq] at H
        obtain ⟨rfl, rfl⟩ := H
        go_enter Try.func81, Try.ntmps81
        go_wp2_with (first | ((with_reducible refine gate_callee (f := 98) rfl ?_); refine goesL_ (some 9) rfl rfl Try.func98 (by kernel_rfl) rfl #[.int .i64 a0, .int .i64 1, .int .i64 1000000000000] rfl (by (try simp only [List.map_toArray, List.map_cons, List.map_nil]); first | done | rfl | (simp only [List.length_drop, List.length_take]; rfl)) ?_; (with_reducible refine (impl_within.calls a0 1 1000000000000 true _ A4.out).mono ?_); rintro e w' ⟨rfl, ⟨nd, rfl⟩⟩; refine ⟨_, rfl, ?_⟩) | (go_at_call 98; (with_reducible refine (impl_within.calls a1 1 1000000000000 true _ A6.out).mono ?_); rintro e w' ⟨rfl, ⟨nd, rfl⟩⟩) | ((with_reducible refine gate_callee (f := 158) rfl ?_); refine goesL_ (some 24) rfl rfl Try.func158 (by kernel_rfl) rfl #[.int .i64 a0, .int .i64 a1, .string a2] rfl (by (try simp only [List.map_toArray, List.map_cons, List.map_nil]); first | done | rfl | (simp only [List.length_drop, List.length_take]; rfl)) ?_; (with_reducible refine (impl_behind.calls a0 a1 a2 t164 t165 _ A9.out).mono ?_); rintro e w' ⟨rfl, ⟨nd, rfl⟩⟩; refine ⟨_, rfl, ?_⟩))
        go_ret2
        exact ⟨by first | rfl | (simp; done) | (simp [*]; done), by repeat (first | exact Drawn0.refl _ | apply Drawn0.step)⟩
    · replace c7 := Bool.eq_false_iff.mpr c7
      subst c7
      have H1 : (some ((-1), (-1))) = some (r1, r2) := by rw [if_neg (show ¬ (false = true) by decide)] at H; exact H
      clear H
      have H := H1
      clear H1
      simp only [Option.some.injEq, Prod.mk.injEq] at H
      obtain ⟨rfl, rfl⟩ := H
      go_enter Try.func81, Try.ntmps81
      go_wp2_with (first | ((with_reducible refine gate_callee (f := 98) rfl ?_); refine goesL_ (some 9) rfl rfl Try.func98 (by kernel_rfl) rfl #[.int .i64 a0, .int .i64 1, .int .i64 1000000000000] rfl (by (try simp only [List.map_toArray, List.map_cons, List.map_nil]); first | done | rfl | (simp only [List.length_drop, List.length_take]; rfl)) ?_; (with_reducible refine (impl_within.calls a0 1 1000000000000 true _ A4.out).mono ?_); rintro e w' ⟨rfl, ⟨nd, rfl⟩⟩; refine ⟨_, rfl, ?_⟩) | (go_at_call 98; (with_reducible refine (impl_within.calls a1 1 1000000000000 false _ A6.out).mono ?_); rintro e w' ⟨rfl, ⟨nd, rfl⟩⟩))
      go_ret2
      exact ⟨by first | rfl | (simp; done) | (simp [*]; done), by repeat (first | exact Drawn0.refl _ | apply Drawn0.step)⟩
  · replace c5 := Bool.eq_false_iff.mpr c5
    subst c5
    have H1 : (some ((-1), (-1))) = some (r1, r2) := by rw [if_neg (show ¬ (false = true) by decide)] at H; exact H
    clear H
    have H := H1
    clear H1
    simp only [Option.some.injEq, Prod.mk.injEq] at H
    obtain ⟨rfl, rfl⟩ := H
    go_enter Try.func81, Try.ntmps81
    go_wp2_with (first | ((with_reducible refine gate_callee (f := 98) rfl ?_); refine goesL_ (some 9) rfl rfl Try.func98 (by kernel_rfl) rfl #[.int .i64 a0, .int .i64 1, .int .i64 1000000000000] rfl (by (try simp only [List.map_toArray, List.map_cons, List.map_nil]); first | done | rfl | (simp only [List.length_drop, List.length_take]; rfl)) ?_; (with_reducible refine (impl_within.calls a0 1 1000000000000 false _ A4.out).mono ?_); rintro e w' ⟨rfl, ⟨nd, rfl⟩⟩; refine ⟨_, rfl, ?_⟩))
    go_ret2
    exact ⟨by first | rfl | (simp; done) | (simp [*]; done), by repeat (first | exact Drawn0.refl _ | apply Drawn0.step)⟩

/-! ### laws_FnBehind: function 13 -/
def laws_FnBehind.j0 : Nat → List Int → Int → Int → ByteArray → Int → Int → Bool → Option (Bool)
  | 0, _, _, _, _, _, _, _ => none
  | k + 1, x0, x3, x4, x5, x8, x9, x44 => if x44 = true then (some false) else (if x8 < 0 then (some (x9 == (-1))) else (if (wrap64 ((x5.size : Int) + 1)) = 0 then (none) else (if 0 ≤ ((x0.length : Int) % (wrap64 ((x5.size : Int) + 1))) then (if ((x0.length : Int) % (wrap64 ((x5.size : Int) + 1))) ≤ (x5.size : Int) then ((impl_PlaceBehind.f x3 x4 (x5.extract 0 (((x0.length : Int) % (wrap64 ((x5.size : Int) + 1))) : Int).toNat)).bind fun bt174 => (if bt174.1 > 1000000000000 then (some true) else (if bt174.2 > 1000000000000 then (some true) else ((impl_PlaceBehind.f bt174.1 bt174.2 (x5.extract (((x0.length : Int) % (wrap64 ((x5.size : Int) + 1))) : Int).toNat x5.size)).bind fun bt176 => (if bt176.1 = x8 then (some (bt176.2 == x9)) else (some false)))))) else (none)) else (none))))
def laws_FnBehind.f (k : Nat) (l0 : List Int) : Option (Bool) := (laws_big.f l0).bind fun t166 => (if t166 = true then (some true) else ((spec_DrawPlaceBehind.f k l0).bind fun bt167 => ((spec_PlaceBehind.f k bt167.1 bt167.2.1 bt167.2.2).bind fun bt170 => ((impl_PlaceBehind.f bt167.1 bt167.2.1 bt167.2.2).bind fun bt172 => (if bt172.1 = bt170.1 then (laws_FnBehind.j0 k l0 bt167.1 bt167.2.1 bt167.2.2 bt172.1 bt172.2 (bt172.2 != bt170.2)) else (laws_FnBehind.j0 k l0 bt167.1 bt167.2.1 bt167.2.2 bt172.1 bt172.2 true))))))
theorem laws_FnBehind.mono_l : ∀ k, (∀ y0 y1 y2 y3 y4 y5 y6, LeO (laws_FnBehind.j0 k y0 y1 y2 y3 y4 y5 y6) (laws_FnBehind.j0 (k + 1) y0 y1 y2 y3 y4 y5 y6))
  | 0 => fun _ _ _ _ _ _ _ r h => by simp [laws_FnBehind.j0] at h
  | k + 1 => by
    have ih0 := laws_FnBehind.mono_l k
    · intro y0 y1 y2 y3 y4 y5 y6
      unfold laws_FnBehind.j0
      repeat' first
      | (with_reducible exact ih0 _ _ _ _ _ _ _)
      | (with_reducible exact spec_DrawPlaceBehind.mono _ _)
      | (with_reducible exact spec_PlaceBehind.mono _ _ _ _)
      | (with_reducible exact LeO.refl _)
      | (with_reducible exact LeO.none _)
      | (with_reducible refine LeO.ite ?_ ?_)
      | (with_reducible refine LeO.bind ?_ (fun _ => ?_))
      | exact ih0 _ _ _ _ _ _ _
      | exact spec_DrawPlaceBehind.mono _ _
      | exact spec_PlaceBehind.mono _ _ _ _
      | exact LeO.none _
      | refine LeO.ite ?_ ?_
      | refine LeO.bind ?_ (fun _ => ?_)
theorem laws_FnBehind.mono : ∀ a0 k, LeO (laws_FnBehind.f k a0) (laws_FnBehind.f (k + 1) a0) := by
  intro a0 k
  have ih0 := laws_FnBehind.mono_l k
  unfold laws_FnBehind.f
  repeat' first
      | (with_reducible exact ih0 _ _ _ _ _ _ _)
      | (with_reducible exact spec_DrawPlaceBehind.mono _ _)
      | (with_reducible exact spec_PlaceBehind.mono _ _ _ _)
      | (with_reducible exact LeO.refl _)
      | (with_reducible exact LeO.none _)
      | (with_reducible refine LeO.ite ?_ ?_)
      | (with_reducible refine LeO.bind ?_ (fun _ => ?_))
      | exact ih0 _ _ _ _ _ _ _
      | exact spec_DrawPlaceBehind.mono _ _
      | exact spec_PlaceBehind.mono _ _ _ _
      | exact LeO.none _
      | refine LeO.ite ?_ ?_
      | refine LeO.bind ?_ (fun _ => ?_)
set_option maxHeartbeats 8000000 in
set_option maxRecDepth 100000 in
theorem laws_FnBehind.calls (k : Nat) (A0 : Option Addr) (c0 : Nat) (l0 : List Int) (r : Bool) (w : World) (hr0 : Kd.C (Kd.int .u8) w A0 l0.length l0) (hc0 : l0.length ≤ c0) (h : laws_FnBehind.f k l0 = some r) :
    Calls Try.prog 13 #[.slice A0 l0.length c0] w fun e w' => e = .returned (.bool r) ∧ Below w.heap.size w w' := by
  have HR0 := Aside0.mk hr0
  have HC0 := Aside0.mk hc0
  clear hr0 hc0
  have HB := Aside0.mk (Below.refl w.heap.size w)
  have H : ((laws_big.f l0).bind fun t166 => (if t166 = true then (some true) else ((spec_DrawPlaceBehind.f k l0).bind fun bt167 => ((spec_PlaceBehind.f k bt167.1 bt167.2.1 bt167.2.2).bind fun bt170 => ((impl_PlaceBehind.f bt167.1 bt167.2.1 bt167.2.2).bind fun bt172 => (if bt172.1 = bt170.1 then (laws_FnBehind.j0 k l0 bt167.1 bt167.2.1 bt167.2.2 bt172.1 bt172.2 (bt172.2 != bt170.2)) else (laws_FnBehind.j0 k l0 bt167.1 bt167.2.1 bt167.2.2 bt172.1 bt172.2 true))))))) = some r := h
  clear h
  replace H := Option.bind_eq_some_iff.mp H
  obtain ⟨t166, A20, H⟩ := H
  replace H : (if t166 = true then (some true) else ((spec_DrawPlaceBehind.f k l0).bind fun bt167 => ((spec_PlaceBehind.f k bt167.1 bt167.2.1 bt167.2.2).bind fun bt170 => ((impl_PlaceBehind.f bt167.1 bt167.2.1 bt167.2.2).bind fun bt172 => (if bt172.1 = bt170.1 then (laws_FnBehind.j0 k l0 bt167.1 bt167.2.1 bt167.2.2 bt172.1 bt172.2 (bt172.2 != bt170.2)) else (laws_FnBehind.j0 k l0 bt167.1 bt167.2.1 bt167.2.2 bt172.1 bt172.2 true)))))) = some r := H
  have A2 := Aside0.mk A20
  clear A20
  by_cases c3 : t166 = true
  · subst c3
    have H1 : (some true) = some r := by rw [if_pos rfl] at H; exact H
    clear H
    have H := H1
    clear H1
    obtain rfl := Option.some.inj H
    go_enter Try.func13, Try.ntmps13
    go_wp2_with (first | ((with_reducible refine gate_callee (f := 33) rfl ?_); refine goesL_ (some 16) rfl rfl Try.func33 (by kernel_rfl) rfl #[.slice A0 l0.length c0] rfl (by (try simp only [List.map_toArray, List.map_cons, List.map_nil]); first | done | rfl | (simp only [List.length_drop, List.length_take]; rfl)) ?_; (with_reducible refine (laws_big.calls _ _ l0 true _ ?side1 ?side2 A2.out).mono ?_); (case side1 => repeat (first | exact HR0.out | (with_reducible refine Kd.C_alloc ?_ _) | (with_reducible refine Kd.C_drewN ?_ _) | (with_reducible refine Kd.C_drew ?_))); (case side2 => exact HC0.out); rintro e w' ⟨rfl, ⟨nd, rfl⟩⟩; refine ⟨_, rfl, ?_⟩))
    go_ret
    exact ⟨by first | rfl | (simp [errW_none, errW_some] <;> rfl) | (simp [*, errW_none, errW_some] <;> rfl), by repeat (first | (with_reducible first | exact HB.out | apply below_alloc | apply pw_below_drewN | apply below_drew1) | exact HB.out)⟩
  · replace c3 := Bool.eq_false_iff.mpr c3
    subst c3
    have H1 : ((spec_DrawPlaceBehind.f k l0).bind fun bt167 => ((spec_PlaceBehind.f k bt167.1 bt167.2.1 bt167.2.2).bind fun bt170 => ((impl_PlaceBehind.f bt167.1 bt167.2.1 bt167.2.2).bind fun bt172 => (if bt172.1 = bt170.1 then (laws_FnBehind.j0 k l0 bt167.1 bt167.2.1 bt167.2.2 bt172.1 bt172.2 (bt172.2 != bt170.2)) else (laws_FnBehind.j0 k l0 bt167.1 bt167.2.1 bt167.2.2 bt172.1 bt172.2 true))))) = some r := by rw [if_neg (show ¬ (false = true) by decide)] at H; exact H
    clear H
    have H := H1
    clear H1
    replace H := Option.bind_eq_some_iff.mp H
    obtain ⟨⟨t167, t168, t169⟩, A40, H⟩ := H
    replace H : ((spec_PlaceBehind.f k t167 t168 t169).bind fun bt170 => ((impl_PlaceBehind.f t167 t168 t169).bind fun bt172 => (if bt172.1 = bt170.1 then (laws_FnBehind.j0 k l0 t167 t168 t169 bt172.1 bt172.2 (bt172.2 != bt170.2)) else (laws_FnBehind.j0 k l0 t167 t168 t169 bt172.1 bt172.2 true)))) = some r := H
    have A4 := Aside0.mk A40
    clear A40
    replace H := Option.bind_eq_some_iff.mp H
    obtain ⟨⟨t170, t171⟩, A50, H⟩ := H
    replace H : ((impl_PlaceBehind.f t167 t168 t169).bind fun bt172 => (if bt172.1 = t170 then (laws_FnBehind.j0 k l0 t167 t168 t169 bt172.1 bt172.2 (bt172.2 != t171)) else (laws_FnBehind.j0 k l0 t167 t168 t169 bt172.1 bt172.2 true))) = some r := H
    have A5 := Aside0.mk A50
    clear A50
    replace H := Option.bind_eq_some_iff.mp H
    obtain ⟨⟨t172, t173⟩, A60, H⟩ := H
    replace H : (if t172 = t170 then (laws_FnBehind.j0 k l0 t167 t168 t169 t172 t173 (t173 != t171)) else (laws_FnBehind.j0 k l0 t167 t168 t169 t172 t173 true)) = some r := H
    have A6 := Aside0.mk A60
    clear A60
    have HC7 := Aside0.mk H
    clear H
    go_enter Try.func13, Try.ntmps13
    go_upto_region 6 with (first | ((with_reducible refine gate_callee (f := 33) rfl ?_); refine goesL_ (some 16) rfl rfl Try.func33 (by kernel_rfl) rfl #[.slice A0 l0.length c0] rfl (by (try simp only [List.map_toArray, List.map_cons, List.map_nil]); first | done | rfl | (simp only [List.length_drop, List.length_take]; rfl)) ?_; (with_reducible refine (laws_big.calls _ _ l0 false _ ?side1 ?side2 A2.out).mono ?_); (case side1 => repeat (first | exact HR0.out | (with_reducible refine Kd.C_alloc ?_ _) | (with_reducible refine Kd.C_drewN ?_ _) | (with_reducible refine Kd.C_drew ?_))); (case side2 => exact HC0.out); rintro e w' ⟨rfl, ⟨nd, rfl⟩⟩; refine ⟨_, rfl, ?_⟩) | ((with_reducible refine gate_callee (f := 79) rfl ?_); refine goesL_ (some 19) rfl rfl Try.func79 (by kernel_rfl) rfl #[.slice A0 l0.length c0] rfl (by (try simp only [List.map_toArray, List.map_cons, List.map_nil]); first | done | rfl | (simp only [List.length_drop, List.length_take]; rfl)) ?_; (with_reducible refine (spec_DrawPlaceBehind.calls k _ _ l0 t167 t168 t169 _ ?side1 ?side2 A4.out).mono ?_); (case side1 => repeat (first | exact HR0.out | (with_reducible refine Kd.C_alloc ?_ _) | (with_reducible refine Kd.C_drewN ?_ _) | (with_reducible refine Kd.C_drew ?_))); (case side2 => exact HC0.out); rintro e w8 ⟨rfl, hb⟩; refine ⟨_, rfl, ?_⟩; have n0_ := Aside0.mk (below_step (by repeat (first | (with_reducible first | exact HB.out | apply below_alloc | apply pw_below_drewN | apply below_drew1) | exact HB.out)) hb); clear HB; have HB := n0_; clear n0_; (try clear hb); (try clear hb2); (try clear hk); (try clear hi)) | ((with_reducible refine gate_callee (f := 80) rfl ?_); refine goesL_ (some 27) rfl rfl Try.func80 (by kernel_rfl) rfl #[.int .i64 t167, .int .i64 t168, .string t169] rfl (by (try simp only [List.map_toArray, List.map_cons, List.map_nil]); first | done | rfl | (simp only [List.length_drop, List.length_take]; rfl)) ?_; (with_reducible refine (spec_PlaceBehind.calls k t167 t168 t169 t170 t171 _ A5.out).mono ?_); rintro e w' ⟨rfl, ⟨nd, rfl⟩⟩; refine ⟨_, rfl, ?_⟩) | ((with_reducible refine gate_callee (f := 81) rfl ?_); refine goesL_ (some 34) rfl rfl Try.func81 (by kernel_rfl) rfl #[.int .i64 t167, .int .i64 t168, .string t169] rfl (by (try simp only [List.map_toArray, List.map_cons, List.map_nil]); first | done | rfl | (simp only [List.length_drop, List.length_take]; rfl)) ?_; (with_reducible refine (impl_PlaceBehind.calls t167 t168 t169 t172 t173 _ A6.out).mono ?_); rintro e w' ⟨rfl, ⟨nd, rfl⟩⟩; refine ⟨_, rfl, ?_⟩))
    (try simp only [Act.put, List.setIfInBounds_toArray, List.set_cons_zero, List.set_cons_succ])
    go_cut [44] (fun v44 wc => ∃ (kq : Nat) (x44_6 : Bool), v44 = .bool x44_6 ∧ Aside0 (laws_FnBehind.j0 kq l0 t167 t168 t169 t172 t173 x44_6 = some r) ∧ Aside0 (kq ≤ k) ∧ Aside0 (Below w.heap.size w wc))
    case first =>
      have H := HC7.out
      clear HC7
      by_cases c9 : t172 = t170
      · rw [if_pos c9] at H
        have c9b0 : (t172 == t170) = true := beq_iff_eq.mpr c9
        have c9b1 : (t172 != t170) = false := bne_eq_false_iff_eq.mpr c9
        clear c9
        (first | rw [c9b0] | (simp only [i64_w, i32_w]; rw [c9b0]) | skip)
        have H' := Aside0.mk H
        clear H
        go_wp2
        go_meet
        case rel => exact ⟨_, ((t173 != t171)), (by first | rfl | (simp; done) | (simp [*]; done)), H', ⟨by first | omega | exact Nat.le_refl _⟩, ⟨by repeat (first | (with_reducible first | exact HB.out | apply below_alloc | apply pw_below_drewN | apply below_drew1) | exact HB.out)⟩⟩
      · rw [if_neg c9] at H
        have c9b0 : (t172 == t170) = false := beq_eq_false_iff_ne.mpr c9
        have c9b1 : (t172 != t170) = true := bne_iff_ne.mpr c9
        (first | rw [c9b0] | (simp only [i64_w, i32_w]; rw [c9b0]) | skip)
        have H' := Aside0.mk H
        clear H
        go_wp2
        go_meet
        case rel => exact ⟨_, (true), (by first | rfl | (simp; done) | (simp [*]; done)), H', ⟨by first | omega | exact Nat.le_refl _⟩, ⟨by repeat (first | (with_reducible first | exact HB.out | apply below_alloc | apply pw_below_drewN | apply below_drew1) | exact HB.out)⟩⟩
    case rest =>
      clear HC7
      try clear c1
      try clear p2
      try clear c3
      try clear c7
      try clear c8
      try clear c9
      try clear c9b0
      try clear c9b1
      obtain ⟨kq, x44_6, rfl, HA, HJ6, HB⟩ := hcut
      cases kq with
      | zero => exact absurd HA.out (by simp [laws_FnBehind.j0])
      | succ kj6 =>
        have H := HA.out
        clear HA
        simp only [laws_FnBehind.j0] at H
        by_cases c10 : x44_6 = true
        · subst c10
          have H1 : (some false) = some r := by rw [if_pos rfl] at H; exact H
          clear H
          have H := H1
          clear H1
          obtain rfl := Option.some.inj H
          go_wp2
          go_ret
          exact ⟨by first | rfl | (simp [errW_none, errW_some] <;> rfl) | (simp [*, errW_none, errW_some] <;> rfl), by repeat (first | (with_reducible first | exact HB.out | apply below_alloc | apply pw_below_drewN | apply below_drew1) | exact HB.out)⟩
        · replace c10 := Bool.eq_false_iff.mpr c10
          subst c10
          have H1 : (if t172 < 0 then (some (t173 == (-1))) else (if (wrap64 ((t169.size : Int) + 1)) = 0 then (none) else (if 0 ≤ ((l0.length : Int) % (wrap64 ((t169.size : Int) + 1))) then (if ((l0.length : Int) % (wrap64 ((t169.size : Int) + 1))) ≤ (t169.size : Int) then ((impl_PlaceBehind.f t167 t168 (t169.extract 0 (((l0.length : Int) % (wrap64 ((t169.size : Int) + 1))) : Int).toNat)).bind fun bt174 => (if bt174.1 > 1000000000000 then (some true) else (if bt174.2 > 1000000000000 then (some true) else ((impl_PlaceBehind.f bt174.1 bt174.2 (t169.extract (((l0.length : Int) % (wrap64 ((t169.size : Int) + 1))) : Int).toNat t169.size)).bind fun bt176 => (if bt176.1 = t172 then (some (bt176.2 == t173)) else (some false)))))) else (none)) else (none)))) = some r := by rw [if_neg (show ¬ (false = true) by decide)] at H; exact H
          clear H
          have H := H1
          clear H1
          by_cases c11 : t172 < 0
          · rw [if_pos c11] at H
            have c11b0 : decide (t172 < 0) = true := decide_eq_true c11
            clear c11
            obtain rfl := Option.some.inj H
            go_wp2
            go_ret
            exact ⟨by first | rfl | (simp [errW_none, errW_some] <;> rfl) | (simp [*, errW_none, errW_some] <;> rfl), by repeat (first | (with_reducible first | exact HB.out | apply below_alloc | apply pw_below_drewN | apply below_drew1) | exact HB.out)⟩
          · rw [if_neg c11] at H
            have c11b0 : decide (t172 < 0) = false := decide_eq_false c11
            clear c11
            by_cases c12 : (wrap64 ((t169.size : Int) + 1)) = 0
            · rw [if_pos c12] at H
              exact absurd H (by simp)
            · rw [if_neg c12] at H
              have c12b0 : ((wrap64 ((t169.size : Int) + 1)) == 0) = false := beq_eq_false_iff_ne.mpr c12
              have c12b1 : ((wrap64 ((t169.size : Int) + 1)) != 0) = true := bne_iff_ne.mpr c12
              obtain ⟨ji13, hji13⟩ : ∃ j_ : Int, ((l0.length : Int) % (wrap64 ((t169.size : Int) + 1))) = j_ := ⟨_, rfl⟩
              replace H : (if 0 ≤ (ji13) then (if (ji13) ≤ (t169.size : Int) then ((impl_PlaceBehind.f t167 t168 (t169.extract 0 ((ji13) : Int).toNat)).bind fun bt174 => (if bt174.1 > 1000000000000 then (some true) else (if bt174.2 > 1000000000000 then (some true) else ((impl_PlaceBehind.f bt174.1 bt174.2 (t169.extract ((ji13) : Int).toNat t169.size)).bind fun bt176 => (if bt176.1 = t172 then (some (bt176.2 == t173)) else (some false)))))) else (none)) else (none)) = some r := by first | (rw [hji13] at H; exact H) | (simp only [hji13] at H ⊢; exact H)
              by_cases c14 : 0 ≤ (ji13)
              · rw [if_pos c14] at H
                have c14b0 := eq_true c14
                have c14b1 : decide (0 ≤ (ji13)) = true := decide_eq_true c14
                clear c14
                by_cases c15 : (ji13) ≤ (t169.size : Int)
                · rw [if_pos c15] at H
                  have c15b0 := eq_true c15
                  have c15b1 : decide ((ji13) ≤ (t169.size : Int)) = true := decide_eq_true c15
                  clear c15
                  replace H := Option.bind_eq_some_iff.mp H
                  obtain ⟨⟨t174, t175⟩, A160, H⟩ := H
                  replace H : (if t174 > 1000000000000 then (some true) else (if t175 > 1000000000000 then (some true) else ((impl_PlaceBehind.f t174 t175 (t169.extract ((ji13) : Int).toNat t169.size)).bind fun bt176 => (if bt176.1 = t172 then (some (bt176.2 == t173)) else (some false))))) = some r := H
                  have A16 := Aside0.mk A160
                  clear A160
                  by_cases c17 : t174 > 1000000000000
                  · rw [if_pos c17] at H
                    have c17b0 : decide (1000000000000 < t174) = true := decide_eq_true c17
                    clear c17
                    obtain rfl := Option.some.inj H
                    go_wp2_with (first | ((with_reducible refine gate_callee (f := 81) rfl ?_); refine goesL_ (some 61) rfl rfl Try.func81 (by kernel_rfl) rfl #[.int .i64 t167, .int .i64 t168, .string (t169.extract 0 ((ji13) : Int).toNat)] rfl (by (try simp only [List.map_toArray, List.map_cons, List.map_nil]); first | done | (simp only [hji13]; rfl) | rfl | (simp only [List.length_drop, List.length_take]; rfl)) ?_; (with_reducible refine (impl_PlaceBehind.calls t167 t168 (t169.extract 0 ((ji13) : Int).toNat) t174 t175 _ A16.out).mono ?_); rintro e w' ⟨rfl, ⟨nd, rfl⟩⟩; refine ⟨_, rfl, ?_⟩))
                    go_ret
                    exact ⟨by first | rfl | (simp [errW_none, errW_some] <;> rfl) | (simp only [← hji13]; first | rfl | (simp [errW_none, errW_some] <;> rfl)) | (simp [*, errW_none, errW_some] <;> rfl), by repeat (first | (with_reducible first | exact HB.out | apply below_alloc | apply pw_below_drewN | apply below_drew1) | exact HB.out)⟩
                  · rw [if_neg c17] at H
                    have c17b0 : decide (1000000000000 < t174) = false := decide_eq_false c17
                    clear c17
                    by_cases c18 : t175 > 1000000000000
                    · rw [if_pos c18] at H
                      have c18b0 : decide (1000000000000 < t175) = true := decide_eq_true c18
                      clear c18
                      obtain rfl := Option.some.inj H
                      go_wp2_with (first | ((with_reducible refine gate_callee (f := 81) rfl ?_); refine goesL_ (some 61) rfl rfl Try.func81 (by kernel_rfl) rfl #[.int .i64 t167, .int .i64 t168, .string (t169.extract 0 ((ji13) : Int).toNat)] rfl (by (try simp only [List.map_toArray, List.map_cons, List.map_nil]); first | done | (simp only [hji13]; rfl) | rfl | (simp only [List.length_drop, List.length_take]; rfl)) ?_; (with_reducible refine (impl_PlaceBehind.calls t167 t168 (t169.extract 0 ((ji13) : Int).toNat) t174 t175 _ A16.out).mono ?_); rintro e w' ⟨rfl, ⟨nd, rfl⟩⟩; refine ⟨_, rfl, ?_⟩))
                      go_ret
                      exact ⟨by first | rfl | (simp [errW_none, errW_some] <;> rfl) | (simp only [← hji13]; first | rfl | (simp [errW_none, errW_some] <;> rfl)) | (simp [*, errW_none, errW_some] <;> rfl), by repeat (first | (with_reducible first | exact HB.out | apply below_alloc | apply pw_below_drewN | apply below_drew1) | exact HB.out)⟩
                    · rw [if_neg c18] at H
                      have c18b0 : decide (1000000000000 < t175) = false := decide_eq_false c18
                      clear c18
                      have c19b0 := eq_true (of_decide_eq_true (by first | (with_reducible assumption) | assumption) : 0 ≤ (ji13))
                      have c20b0 := eq_true (of_decide_eq_true (by first | (with_reducible assumption) | assumption) : (ji13) ≤ (t169.size : Int))
                      replace H := Option.bind_eq_some_iff.mp H
                      obtain ⟨⟨t176, t177⟩, A210, H⟩ := H
                      replace H : (if t176 = t172 then (some (t177 == t173)) else (some false)) = some r := H
                      have A21 := Aside0.mk A210
                      clear A210
                      by_cases c22 : t176 = t172
                      · rw [if_pos c22] at H
                        have c22b0 : (t176 == t172) = true := beq_iff_eq.mpr c22
                        have c22b1 : (t176 != t172) = false := bne_eq_false_iff_eq.mpr c22
                        clear c22
                        obtain rfl := Option.some.inj H
                        go_wp2_with (first | ((with_reducible refine gate_callee (f := 81) rfl ?_); refine goesL_ (some 61) rfl rfl Try.func81 (by kernel_rfl) rfl #[.int .i64 t167, .int .i64 t168, .string (t169.extract 0 ((ji13) : Int).toNat)] rfl (by (try simp only [List.map_toArray, List.map_cons, List.map_nil]); first | done | (simp only [hji13]; rfl) | rfl | (simp only [List.length_drop, List.length_take]; rfl)) ?_; (with_reducible refine (impl_PlaceBehind.calls t167 t168 (t169.extract 0 ((ji13) : Int).toNat) t174 t175 _ A16.out).mono ?_); rintro e w' ⟨rfl, ⟨nd, rfl⟩⟩; refine ⟨_, rfl, ?_⟩) | ((with_reducible refine gate_callee (f := 81) rfl ?_); refine goesL_ (some 76) rfl rfl Try.func81 (by kernel_rfl) rfl #[.int .i64 t174, .int .i64 t175, .string (t169.extract ((ji13) : Int).toNat t169.size)] rfl (by (try simp only [List.map_toArray, List.map_cons, List.map_nil]); first | done | (simp only [hji13]; rfl) | rfl | (simp only [List.length_drop, List.length_take]; rfl)) ?_; (with_reducible refine (impl_PlaceBehind.calls t174 t175 (t169.extract ((ji13) : Int).toNat t169.size) t176 t177 _ A21.out).mono ?_); rintro e w' ⟨rfl, ⟨nd, rfl⟩⟩; refine ⟨_, rfl, ?_⟩))
                        go_ret
                        exact ⟨by first | rfl | (simp [errW_none, errW_some] <;> rfl) | (simp only [← hji13]; first | rfl | (simp [errW_none, errW_some] <;> rfl)) | (simp [*, errW_none, errW_some] <;> rfl), by repeat (first | (with_reducible first | exact HB.out | apply below_alloc | apply pw_below_drewN | apply below_drew1) | exact HB.out)⟩
                      · rw [if_neg c22] at H
                        have c22b0 : (t176 == t172) = false := beq_eq_false_iff_ne.mpr c22
                        have c22b1 : (t176 != t172) = true := bne_iff_ne.mpr c22
                        obtain rfl := Option.some.inj H
                        go_wp2_with (first | ((with_reducible refine gate_callee (f := 81) rfl ?_); refine goesL_ (some 61) rfl rfl Try.func81 (by kernel_rfl) rfl #[.int .i64 t167, .int .i64 t168, .string (t169.extract 0 ((ji13) : Int).toNat)] rfl (by (try simp only [List.map_toArray, List.map_cons, List.map_nil]); first | done | (simp only [hji13]; rfl) | rfl | (simp only [List.length_drop, List.length_take]; rfl)) ?_; (with_reducible refine (impl_PlaceBehind.calls t167 t168 (t169.extract 0 ((ji13) : Int).toNat) t174 t175 _ A16.out).mono ?_); rintro e w' ⟨rfl, ⟨nd, rfl⟩⟩; refine ⟨_, rfl, ?_⟩) | ((with_reducible refine gate_callee (f := 81) rfl ?_); refine goesL_ (some 76) rfl rfl Try.func81 (by kernel_rfl) rfl #[.int .i64 t174, .int .i64 t175, .string (t169.extract ((ji13) : Int).toNat t169.size)] rfl (by (try simp only [List.map_toArray, List.map_cons, List.map_nil]); first | done | (simp only [hji13]; rfl) | rfl | (simp only [List.length_drop, List.length_take]; rfl)) ?_; (with_reducible refine (impl_PlaceBehind.calls t174 t175 (t169.extract ((ji13) : Int).toNat t169.size) t176 t177 _ A21.out).mono ?_); rintro e w' ⟨rfl, ⟨nd, rfl⟩⟩; refine ⟨_, rfl, ?_⟩))
                        go_ret
                        exact ⟨by first | rfl | (simp [errW_none, errW_some] <;> rfl) | (simp only [← hji13]; first | rfl | (simp [errW_none, errW_some] <;> rfl)) | (simp [*, errW_none, errW_some] <;> rfl), by repeat (first | (with_reducible first | exact HB.out | apply below_alloc | apply pw_below_drewN | apply below_drew1) | exact HB.out)⟩
                · rw [if_neg c15] at H
                  exact absurd H (by simp)
              · rw [if_neg c14] at H
                exact absurd H (by simp)

/-- THE ONE PURE STATEMENT of laws_FnBehind: yours. -/
def laws_FnBehind.Pure : Prop := ∀ (l0 : List Int), l0.length ≤ maxLen → l0.length * 1 ≤ 140737488351232 → (∀ x ∈ l0, (Lit.int .u8 x).wf = true) → ∃ k, laws_FnBehind.f k l0 = some true
theorem laws_FnBehind.walk (P : laws_FnBehind.Pure) (a0 : Option Addr) (len0 cap0 : Nat) (z0 : List Int) (w : World) (w0 : (a0 = none ∧ len0 = 0 ∧ cap0 = 0 ∧ z0 = []) ∨ ∃ x, a0 = some x ∧ len0 ≤ cap0 ∧ cap0 ≤ maxLen ∧ z0.length = cap0 ∧ (∀ i, i < z0.length → w.cell? (x.add i) = some (.int .u8 (z0.getD i 0))) ∧ ∀ n ∈ z0, (Lit.int .u8 n).wf = true) (y0 : len0 * 1 ≤ 140737488351232) :
    Calls Try.prog 13 #[.slice a0 len0 cap0] w fun e w' => e = .returned (.bool true) ∧ Below w.heap.size w w' := by
  obtain ⟨l0, rfl, hr0, hm0, hw0, hc0⟩ := ReadsInt.ofRowC w0
  obtain ⟨k, h⟩ := P l0 hm0 y0 hw0
  refine (laws_FnBehind.calls k _ _ l0 true w (Kd.C_of_reads (d := (0 : Int)) (h1 := fun _ => rfl) hr0) hc0 h).mono ?_
  rintro e w' ⟨rfl, hd⟩
  exact ⟨rfl, hd⟩

end Go.Proofs.Ytabpfejdppfcdaa.PFnBehind
