-- Written by this session's own program (wip/pr.py) over the kit's printer; contracts that the printer does not know are given by hand.
import Derived.Test.YtfajfjgkkgigoaaPFnDeadx0
namespace Go.Proofs.Ytfajfjgkkgigoaa.PFnDead
open Go.RowKit Go.Proofs.YtfajfjgkkgigoaaW.PrintWords Go.Proofs.YtfajfjgkkgigoaaW.PrintLast Go.Proofs.YtfajfjgkkgigoaaW.PrintMore
attribute [local go_sem] max2_int min2_int max_two min_two max_three min_three max_four min_four   -- for this text's walks alone
set_option linter.unusedVariables false
set_option linter.unusedSimpArgs false

/-! ### spec_l3Kids: function 197 -/
def spec_l3Kids.j0 : Nat → Int → Bool → Option (Int)
 | 0, _, _ => none
 | k + 1, x3, x4 => if x4 = true then (some 2) else (if x3 = 5 then (some 1) else (if x3 = 6 then (some 1) else (if x3 = 7 then (some 1) else (if x3 = 8 then (some 1) else (some 0)))))
def spec_l3Kids.f (k : Nat) (a0 : Int) : Option (Int) := if a0 = 3 then (spec_l3Kids.j0 k a0 (a0 == 3)) else (spec_l3Kids.j0 k a0 (a0 == 4))
theorem spec_l3Kids.mono_l : ∀ k, (∀ y0 y1, LeO (spec_l3Kids.j0 k y0 y1) (spec_l3Kids.j0 (k + 1) y0 y1))
 | 0 => fun _ _ r h => by simp [spec_l3Kids.j0] at h
 | k + 1 => by
  have ih0 := spec_l3Kids.mono_l k
  ·intro y0 y1
   unfold spec_l3Kids.j0
   repeat' first
   | (with_reducible exact LeO.refl _)
   | exact ih0 _ _
   | exact LeO.none _
   | refine LeO.ite ?_ ?_
   | refine LeO.bind ?_ (fun _ => ?_)
theorem spec_l3Kids.mono : ∀ a0 k, LeO (spec_l3Kids.f k a0) (spec_l3Kids.f (k + 1) a0) := by
 intro a0 k
 have ih0 := spec_l3Kids.mono_l k
 unfold spec_l3Kids.f
 repeat' first
   | (with_reducible exact LeO.refl _)
   | exact ih0 _ _
   | exact LeO.none _
   | refine LeO.ite ?_ ?_
   | refine LeO.bind ?_ (fun _ => ?_)
set_option maxHeartbeats 8000000 in
set_option maxRecDepth 100000 in
theorem spec_l3Kids.calls (k : Nat) (a0 : Int) (r : Int) (w : World) (h : spec_l3Kids.f k a0 = some r) :
  Calls Try.prog 197 #[.int .i64 a0] w fun e w' => e = .returned (.int .i64 r) ∧ Drawn0 w w' := by
 have H : (if a0 = 3 then (spec_l3Kids.j0 k a0 (a0 == 3)) else (spec_l3Kids.j0 k a0 (a0 == 4))) = some r := h
 clear h
 have HC2 := Aside0.mk H
 clear H
 go_enter Try.func197, Try.ntmps197
 go_upto_if 4 with (fail)
 go_cut [4] (fun v4 wc => ∃ (kq : Nat) (x4_1 : Bool), v4 = .bool x4_1 ∧ Aside0 (spec_l3Kids.j0 kq a0 x4_1 = some r) ∧ Aside0 (kq ≤ k) ∧ Drawn0 w wc)
 case first =>
  have H := HC2.out; clear HC2
  by_cases c3 : a0 = 3
  ·rw [if_pos c3] at H
   have c3b0 : (a0 == 3) = true := beq_iff_eq.mpr c3; have c3b1 : (a0 != 3) = false := bne_eq_false_iff_eq.mpr c3; clear c3
   (first | rw [c3b0] | (simp only [i64_w, i32_w]; rw [c3b0]) | skip)
   have H' := Aside0.mk H; clear H
   go_wp2
   go_meet
   case rel => exact ⟨_, ((a0 == 3)), (by first | rfl | (simp; done) | (simp [*]; done)), H', ⟨by first | omega | exact Nat.le_refl _⟩, by repeat (first | exact Drawn0.refl _ | apply Drawn0.step)⟩
  ·rw [if_neg c3] at H
   have c3b0 : (a0 == 3) = false := beq_eq_false_iff_ne.mpr c3; have c3b1 : (a0 != 3) = true := bne_iff_ne.mpr c3
   (first | rw [c3b0] | (simp only [i64_w, i32_w]; rw [c3b0]) | skip)
   have H' := Aside0.mk H; clear H
   go_wp2
   go_meet
   case rel => exact ⟨_, ((a0 == 4)), (by first | rfl | (simp; done) | (simp [*]; done)), H', ⟨by first | omega | exact Nat.le_refl _⟩, by repeat (first | exact Drawn0.refl _ | apply Drawn0.step)⟩
 case rest =>
  clear HC2; (try clear c1); (try clear p2); (try clear c3); (try clear c3b0); (try clear c3b1); obtain ⟨kq, x4_1, rfl, HA, HJ1, ⟨mc1, rfl⟩⟩ := hcut
  cases kq with
  | zero => exact absurd HA.out (by simp [spec_l3Kids.j0])
  | succ kj1 =>
   have H := HA.out; clear HA
   simp only [spec_l3Kids.j0] at H
   by_cases c4 : x4_1 = true
   ·subst c4
    have H1 : (some 2) = some r := by rw [if_pos rfl] at H; exact H
    clear H; have H := H1; clear H1; obtain rfl := Option.some.inj H
    go_wp2
    go_ret
    exact ⟨by first | rfl | (simp; done) | (simp [*]; done), by repeat (first | exact Drawn0.refl _ | apply Drawn0.step)⟩
   ·replace c4 := Bool.eq_false_iff.mpr c4
    subst c4
    have H1 : (if a0 = 5 then (some 1) else (if a0 = 6 then (some 1) else (if a0 = 7 then (some 1) else (if a0 = 8 then (some 1) else (some 0))))) = some r := by rw [if_neg (show ¬ (false = true) by decide)] at H; exact H
    clear H; have H := H1; clear H1
    by_cases c5 : a0 = 5
    ·rw [if_pos c5] at H
     have c5b0 : (a0 == 5) = true := beq_iff_eq.mpr c5; have c5b1 : (a0 != 5) = false := bne_eq_false_iff_eq.mpr c5; clear c5; obtain rfl := Option.some.inj H
     go_wp2
     go_ret
     exact ⟨by first | rfl | (simp; done) | (simp [*]; done), by repeat (first | exact Drawn0.refl _ | apply Drawn0.step)⟩
    ·rw [if_neg c5] at H
     have c5b0 : (a0 == 5) = false := beq_eq_false_iff_ne.mpr c5; have c5b1 : (a0 != 5) = true := bne_iff_ne.mpr c5
     by_cases c6 : a0 = 6
     ·rw [if_pos c6] at H
      have c6b0 : (a0 == 6) = true := beq_iff_eq.mpr c6; have c6b1 : (a0 != 6) = false := bne_eq_false_iff_eq.mpr c6; clear c6; obtain rfl := Option.some.inj H
      go_wp2
      go_ret
      exact ⟨by first | rfl | (simp; done) | (simp [*]; done), by repeat (first | exact Drawn0.refl _ | apply Drawn0.step)⟩
     ·rw [if_neg c6] at H
      have c6b0 : (a0 == 6) = false := beq_eq_false_iff_ne.mpr c6; have c6b1 : (a0 != 6) = true := bne_iff_ne.mpr c6
      by_cases c7 : a0 = 7
      ·rw [if_pos c7] at H
       have c7b0 : (a0 == 7) = true := beq_iff_eq.mpr c7; have c7b1 : (a0 != 7) = false := bne_eq_false_iff_eq.mpr c7; clear c7; obtain rfl := Option.some.inj H
       go_wp2
       go_ret
       exact ⟨by first | rfl | (simp; done) | (simp [*]; done), by repeat (first | exact Drawn0.refl _ | apply Drawn0.step)⟩
      ·rw [if_neg c7] at H
       have c7b0 : (a0 == 7) = false := beq_eq_false_iff_ne.mpr c7; have c7b1 : (a0 != 7) = true := bne_iff_ne.mpr c7
       by_cases c8 : a0 = 8
       ·rw [if_pos c8] at H
        have c8b0 : (a0 == 8) = true := beq_iff_eq.mpr c8; have c8b1 : (a0 != 8) = false := bne_eq_false_iff_eq.mpr c8; clear c8; obtain rfl := Option.some.inj H
        go_wp2
        go_ret
        exact ⟨by first | rfl | (simp; done) | (simp [*]; done), by repeat (first | exact Drawn0.refl _ | apply Drawn0.step)⟩
       ·rw [if_neg c8] at H
        have c8b0 : (a0 == 8) = false := beq_eq_false_iff_ne.mpr c8; have c8b1 : (a0 != 8) = true := bne_iff_ne.mpr c8; obtain rfl := Option.some.inj H
        go_wp2
        go_ret
        exact ⟨by first | rfl | (simp; done) | (simp [*]; done), by repeat (first | exact Drawn0.refl _ | apply Drawn0.step)⟩

/-! ### impl_within: function 63 -/
def impl_within.f (a0 : Int) (a1 : Int) (a2 : Int) : Option (Bool) := if a0 ≥ a1 then (some (decide (a0 ≤ a2))) else (some false)
set_option maxHeartbeats 8000000 in
set_option maxRecDepth 100000 in
theorem impl_within.calls (a0 : Int) (a1 : Int) (a2 : Int) (r : Bool) (w : World) (h : impl_within.f a0 a1 a2 = some r) :
  Calls Try.prog 63 #[.int .i64 a0, .int .i64 a1, .int .i64 a2] w fun e w' => e = .returned (.bool r) ∧ Drawn0 w w' := by
 have H : (if a0 ≥ a1 then (some (decide (a0 ≤ a2))) else (some false)) = some r := h
 clear h
 by_cases c4 : a0 ≥ a1
 ·rw [if_pos c4] at H
  have c4b0 : decide (a1 ≤ a0) = true := decide_eq_true c4; clear c4; obtain rfl := Option.some.inj H
  go_enter Try.func63, Try.ntmps63
  go_wp2
  go_ret
  exact ⟨by first | rfl | (simp; done) | (simp [*]; done), by repeat (first | exact Drawn0.refl _ | apply Drawn0.step)⟩
 ·rw [if_neg c4] at H
  have c4b0 : decide (a1 ≤ a0) = false := decide_eq_false c4; clear c4; obtain rfl := Option.some.inj H
  go_enter Try.func63, Try.ntmps63
  go_wp2
  go_ret
  exact ⟨by first | rfl | (simp; done) | (simp [*]; done), by repeat (first | exact Drawn0.refl _ | apply Drawn0.step)⟩

/-! ### impl_size_int64_69: function 69 -/
def impl_size_int64_69.f (l0 : List (List Int)) : Option (Int) := some (l0.length : Int)
set_option maxHeartbeats 8000000 in
set_option maxRecDepth 100000 in
theorem impl_size_int64_69.calls (A0 : Option Addr) (c0 : Nat) (l0 : List (List Int)) (r : Int) (w : World) (hr0 : Kd.C (Kd.slice 2 (Kd.int .i64)) w A0 l0.length l0) (hc0 : l0.length ≤ c0) (h : impl_size_int64_69.f l0 = some r) :
  Calls Try.prog 69 #[.slice A0 l0.length c0] w fun e w' => e = .returned (.int .i64 r) ∧ Drawn0 w w' := by
 have HR0 := Aside0.mk hr0
 have HC0 := Aside0.mk hc0
 clear hr0 hc0
 have H : (some (l0.length : Int)) = some r := h
 clear h
 obtain rfl := Option.some.inj H
 go_enter Try.func69, Try.ntmps69
 go_wp2
 go_ret
 exact ⟨by first | rfl | (simp; done) | (simp [*]; done), by repeat (first | exact Drawn0.refl _ | apply Drawn0.step)⟩

/-! ### impl_size_int64_107: function 107 -/
def impl_size_int64_107.f (l0 : List Int) : Option (Int) := some (l0.length : Int)
set_option maxHeartbeats 8000000 in
set_option maxRecDepth 100000 in
theorem impl_size_int64_107.calls (A0 : Option Addr) (c0 : Nat) (l0 : List Int) (r : Int) (w : World) (hr0 : Kd.C (Kd.int .i64) w A0 l0.length l0) (hc0 : l0.length ≤ c0) (h : impl_size_int64_107.f l0 = some r) :
  Calls Try.prog 107 #[.slice A0 l0.length c0] w fun e w' => e = .returned (.int .i64 r) ∧ Drawn0 w w' := by
 have HR0 := Aside0.mk hr0
 have HC0 := Aside0.mk hc0
 clear hr0 hc0
 have H : (some (l0.length : Int)) = some r := h
 clear h
 obtain rfl := Option.some.inj H
 go_enter Try.func107, Try.ntmps107
 go_wp2
 go_ret
 exact ⟨by first | rfl | (simp; done) | (simp [*]; done), by repeat (first | exact Drawn0.refl _ | apply Drawn0.step)⟩

/-! ### impl_blocksOk: function 108 -/
def impl_blocksOk.l0 : Nat → List Int → Int → List Int → Int → Int → Option (Int × Bool)
 | 0, _, _, _, _, _ => none
 | k + 1, x0, x4, x7, x8, x9 => if x9 < x8 then (if 0 ≤ x9 then (if x9 < (x7.length : Int) then ((impl_within.f (rd x7 x9) 0 (wrap64 (x4 + 1))).bind fun t213 => (if t213 = true then (impl_blocksOk.l0 k x0 (mx x4 (rd x7 x9)) x7 x8 (wrap64 (x9 + 1))) else (some (0, false)))) else (none)) else (none)) else (some (wrap64 (x4 + 1), ((x0.length : Int) == 256)))
def impl_blocksOk.f (k : Nat) (l0 : List Int) : Option (Int × Bool) := impl_blocksOk.l0 k l0 (-1) l0 (l0.length : Int) 0
theorem impl_blocksOk.mono_l : ∀ k, (∀ y0 y1 y2 y3 y4, LeO (impl_blocksOk.l0 k y0 y1 y2 y3 y4) (impl_blocksOk.l0 (k + 1) y0 y1 y2 y3 y4))
 | 0 => fun _ _ _ _ _ r h => by simp [impl_blocksOk.l0] at h
 | k + 1 => by
  have ih0 := impl_blocksOk.mono_l k
  ·intro y0 y1 y2 y3 y4
   unfold impl_blocksOk.l0
   repeat' first
   | (with_reducible exact LeO.refl _)
   | exact ih0 _ _ _ _ _
   | exact LeO.none _
   | refine LeO.ite ?_ ?_
   | refine LeO.bind ?_ (fun _ => ?_)
theorem impl_blocksOk.mono : ∀ a0 k, LeO (impl_blocksOk.f k a0) (impl_blocksOk.f (k + 1) a0) := by
 intro a0 k
 have ih0 := impl_blocksOk.mono_l k
 unfold impl_blocksOk.f
 repeat' first
   | (with_reducible exact LeO.refl _)
   | exact ih0 _ _ _ _ _
   | exact LeO.none _
   | refine LeO.ite ?_ ?_
   | refine LeO.bind ?_ (fun _ => ?_)
set_option maxHeartbeats 8000000 in
set_option maxRecDepth 100000 in
theorem impl_blocksOk.calls (k : Nat) (A0 : Option Addr) (c0 : Nat) (l0 : List Int) (r1 : Int) (r2 : Bool) (w : World) (hr0 : Kd.C (Kd.int .i64) w A0 l0.length l0) (hc0 : l0.length ≤ c0) (h : impl_blocksOk.f k l0 = some (r1, r2)) :
  Calls Try.prog 108 #[.slice A0 l0.length c0] w fun e w' => e = .returned (.tuple #[.int .i64 r1, .bool r2]) ∧ Below w.heap.size w w' := by
 have HR0 := Aside0.mk hr0
 have HC0 := Aside0.mk hc0
 clear hr0 hc0
 have HB := Aside0.mk (Below.refl w.heap.size w)
 have H : (impl_blocksOk.l0 k l0 (-1) l0 (l0.length : Int) 0) = some (r1, r2) := h
 clear h
 have H' := Aside0.mk H
 clear H
 go_enter Try.func108, Try.ntmps108
 go_wp2
 go_loopg [4, 9] k (fun kq v4 v9 w' => ∃ (x4_1 : Int) (x9_1 : Int), v4 = .int .i64 x4_1 ∧ v9 = .int .i64 x9_1 ∧ Aside0 (impl_blocksOk.l0 kq l0 x4_1 l0 (l0.length : Int) x9_1 = some (r1, r2)) ∧ Aside0 (kq ≤ k) ∧ Aside0 (Below w.heap.size w w'))
 case atStart => exact ⟨((-1)), (0), (by first | rfl | (simp; done) | (simp [*]; done)), (by first | rfl | (simp; done) | (simp [*]; done)), H', ⟨Nat.le_refl _⟩, ⟨by repeat (first | (with_reducible first | exact HB.out | apply below_alloc | apply pw_below_drewN | apply below_drew1) | exact HB.out)⟩⟩
 case round =>
  clear H'; (try clear c1); obtain ⟨x4_1, x9_1, rfl, rfl, HA, HK1, HB⟩ := hrel
  cases gk with
  | zero => exact absurd HA.out (by simp [impl_blocksOk.l0])
  | succ k1 =>
   have H := HA.out; clear HA
   simp only [impl_blocksOk.l0] at H
   by_cases c2 : x9_1 < (l0.length : Int)
   ·rw [if_pos c2] at H
    have c2b0 : decide (x9_1 < (l0.length : Int)) = true := decide_eq_true c2; clear c2
    by_cases c3 : 0 ≤ x9_1
    ·rw [if_pos c3] at H
     have c3b0 : decide (0 ≤ x9_1) = true := decide_eq_true c3; clear c3
     by_cases c4 : x9_1 < (l0.length : Int)
     ·rw [if_pos c4] at H
      have c4b0 : decide (x9_1 < (l0.length : Int)) = true := decide_eq_true c4; clear c4; replace H := Option.bind_eq_some_iff.mp H; obtain ⟨t213, A50, H⟩ := H; replace H : (if t213 = true then (impl_blocksOk.l0 k1 l0 (mx x4_1 (rd l0 x9_1)) l0 (l0.length : Int) (wrap64 (x9_1 + 1))) else (some (0, false))) = some (r1, r2) := H; have A5 := Aside0.mk A50; clear A50
      by_cases c6 : t213 = true
      ·subst c6
       have H1 : (impl_blocksOk.l0 k1 l0 (mx x4_1 (rd l0 x9_1)) l0 (l0.length : Int) (wrap64 (x9_1 + 1))) = some (r1, r2) := by rw [if_pos rfl] at H; exact H
       clear H; have H := H1; clear H1; obtain ⟨ji7, hji7⟩ : ∃ j_ : Int, (mx x4_1 (rd l0 x9_1)) = j_ := ⟨_, rfl⟩
       replace H : (impl_blocksOk.l0 k1 l0 ji7 l0 (l0.length : Int) (wrap64 (x9_1 + 1))) = some (r1, r2) := by first | (rw [hji7] at H; exact H) | (simp only [hji7] at H ⊢; exact H)
       (try rw [hji7] at A5); have hji7_ : (if x4_1 < (rd l0 x9_1) then (rd l0 x9_1) else x4_1) = ji7 := hji7; have H' := Aside0.mk H; clear H; have p212 : 0 ≤ (x9_1 : Int) := of_decide_eq_true (by assumption); have q212 : x9_1 < (l0.length : Int) := of_decide_eq_true (by assumption); obtain ⟨ad212, e212, hx212_0⟩ := Kd.at_int HR0.out x9_1 p212 q212; cases e212; replace hx212_0 := (HB.out.cell (World.block_lt_of_cell? w _ hx212_0)).trans hx212_0; replace p212 := eq_true p212; replace q212 := eq_true q212
       go_wp2_with (first | ((with_reducible refine gate_callee (f := 63) rfl ?_); refine goesL_ (some 16) rfl rfl Try.func63 (by kernel_rfl) rfl #[.int .i64 (rd l0 x9_1), .int .i64 0, .int .i64 (wrap64 (x4_1 + 1))] rfl (by (try simp only [List.map_toArray, List.map_cons, List.map_nil]); first | done | rfl | (simp only [List.length_drop, List.length_take]; rfl)) ?_; (with_reducible refine (impl_within.calls (rd l0 x9_1) 0 (wrap64 (x4_1 + 1)) true _ A5.out).mono ?_); rintro e w' ⟨rfl, ⟨nd, rfl⟩⟩; refine ⟨_, rfl, ?_⟩))
       go_roundg k1
       case measure => have := HK1.out; omega
       case rel => exact ⟨(ji7), (wrap64 (x9_1 + 1)), (by first | rfl | (simp; done) | (simp only [← hji7] <;> (first | rfl | simp)) | (simp [*]; done)), (by first | rfl | (simp; done) | (simp [*]; done)), H', ⟨by have := HK1.out; omega⟩, ⟨by repeat (first | (with_reducible first | exact HB.out | apply below_alloc | apply pw_below_drewN | apply below_drew1) | exact HB.out)⟩⟩
      ·replace c6 := Bool.eq_false_iff.mpr c6
       subst c6
       have H1 : (some (0, false)) = some (r1, r2) := by rw [if_neg (show ¬ (false = true) by decide)] at H; exact H
       clear H; have H := H1; clear H1
       simp only [Option.some.injEq, Prod.mk.injEq] at H
       obtain ⟨rfl, rfl⟩ := H; have p212 : 0 ≤ (x9_1 : Int) := of_decide_eq_true (by assumption); have q212 : x9_1 < (l0.length : Int) := of_decide_eq_true (by assumption); obtain ⟨ad212, e212, hx212_0⟩ := Kd.at_int HR0.out x9_1 p212 q212; cases e212; replace hx212_0 := (HB.out.cell (World.block_lt_of_cell? w _ hx212_0)).trans hx212_0; replace p212 := eq_true p212; replace q212 := eq_true q212
       go_wp2_with (first | ((with_reducible refine gate_callee (f := 63) rfl ?_); refine goesL_ (some 16) rfl rfl Try.func63 (by kernel_rfl) rfl #[.int .i64 (rd l0 x9_1), .int .i64 0, .int .i64 (wrap64 (x4_1 + 1))] rfl (by (try simp only [List.map_toArray, List.map_cons, List.map_nil]); first | done | rfl | (simp only [List.length_drop, List.length_take]; rfl)) ?_; (with_reducible refine (impl_within.calls (rd l0 x9_1) 0 (wrap64 (x4_1 + 1)) false _ A5.out).mono ?_); rintro e w' ⟨rfl, ⟨nd, rfl⟩⟩; refine ⟨_, rfl, ?_⟩))
       go_ret2
       exact ⟨by first | rfl | (simp [errW_none, errW_some] <;> rfl) | (simp [*, errW_none, errW_some] <;> rfl), by repeat (first | (with_reducible first | exact HB.out | apply below_alloc | apply pw_below_drewN | apply below_drew1) | exact HB.out)⟩
     ·rw [if_neg c4] at H
      exact absurd H (by simp)
    ·rw [if_neg c3] at H
     exact absurd H (by simp)
   ·rw [if_neg c2] at H
    have c2b0 : decide (x9_1 < (l0.length : Int)) = false := decide_eq_false c2; clear c2
    simp only [Option.some.injEq, Prod.mk.injEq] at H
    obtain ⟨rfl, rfl⟩ := H
    go_wp2
    go_ret2
    exact ⟨by first | rfl | (simp [errW_none, errW_some] <;> rfl) | (simp [*, errW_none, errW_some] <;> rfl), by repeat (first | (with_reducible first | exact HB.out | apply below_alloc | apply pw_below_drewN | apply below_drew1) | exact HB.out)⟩

/-! ### slices_IndexFunc_int64_int64_179: function 179 -/
/-- what an IndexFunc tells: the first that is one, or -1 -/
def IdxPost_ints (q : Nat → Bool) (n : Nat) (w : World) (e : Ending) (w' : World) : Prop :=
 ∃ r : Int, ((∃ k : Nat, k < n ∧ r = k ∧ q k = true) ∨ (r = -1 ∧ ∀ k, k < n → q k = false)) ∧ e = .returned (.int .i64 r) ∧ Drawn0 w w'
set_option maxHeartbeats 1000000 in
set_option maxRecDepth 100000 in
theorem if_ints.pred (n c0 : Nat) (A0 : Option Addr) (vs : Nat → Value) (q : Nat → Bool) (w : World) (hn : n ≤ 9223372036854775807) (hc : ∀ j, j < n → ∃ ad, A0 = some ad ∧ w.cell? (ad.add j) = some (vs j))
  (g : Nat) (lb : Array Value) (eg : ∀ args w, (callFunc g args).run Try.prog w = .ok (.enter g args) w)
  (hp : ∀ (nd j : Nat), j < n → Calls Try.prog g (#[vs j] ++ lb) (w.drewN nd) fun e w' => e = .returned (.bool (q j)) ∧ Drawn0 (w.drewN nd) w') :
  Calls Try.prog 179 #[.slice A0 n c0, .func (.func g) #[] lb] w (IdxPost_ints q n w) := by
 have HC := Aside0.mk hc
 have HP := Aside0.mk hp
 clear hc hp
 go_enter Try.func179, Try.ntmps179
 go_wp2
 go_loopg [8] n (fun gk v8 wr => ∃ (i : Int) (nd : Nat), 0 ≤ i ∧ i ≤ n ∧ (n : Int) - i ≤ gk ∧ v8 = .int .i64 i ∧ wr = w.drewN nd ∧ Aside0 (∀ k : Nat, (k : Int) < i → q k = false))
 case atStart => exact ⟨0, 0, by omega, by omega, by omega, rfl, rfl, ⟨fun k hk => by omega⟩⟩
 case round =>
  obtain ⟨i, nd, h0, h1, hg, rfl, rfl, HF⟩ := hrel
  by_cases hlt : i < (n : Int)
  ·obtain ⟨ad, e, hx⟩ := HC.out i.toNat (by omega)
   cases e; have t0 := eq_true h0; have t1 := eq_true hlt; have hcall := HP.out nd i.toNat (by omega)
   cases hq : q i.toNat with
   | true =>
    rw [hq] at hcall
    have HQ := Aside0.mk hq; clear hq
    go_wp2_with fail
    refine hcall.mono ?_
    rintro e w' ⟨rfl, ⟨nd', rfl⟩⟩
    clear hcall
    go_wp2
    go_ret
    exact ⟨i, .inl ⟨i.toNat, by omega, by omega, HQ.out⟩, rfl, ⟨_, rfl⟩⟩
   | false =>
    rw [hq] at hcall
    have HQ := Aside0.mk hq; clear hq
    go_wp2_with fail
    refine hcall.mono ?_
    rintro e w' ⟨rfl, ⟨nd', rfl⟩⟩
    clear hcall
    go_wp2
    go_roundg (n - (i.toNat + 1))
    case measure => omega
    case rel =>
     refine ⟨i + 1, nd + nd', by omega, by omega, by omega, by first | rfl | go_num, by first | rfl | exact World.drewN_drewN _ _ _, ⟨fun k hk => ?_⟩⟩
     by_cases h : (k : Int) < i
     ·exact HF.out k h
     ·have : k = i.toNat := by omega
      rw [this]
      exact HQ.out
  ·have t1 := eq_false hlt
   go_wp2
   go_ret
   exact ⟨-1, .inr ⟨rfl, fun k hk => HF.out k (by omega)⟩, rfl, ⟨nd, rfl⟩⟩

/-! ### slices_ContainsFunc_int64_int64_145: function 145 -/
set_option maxHeartbeats 1000000 in
set_option maxRecDepth 100000 in
theorem cf_ints.pred (b : Bool) (n c0 : Nat) (A0 : Option Addr) (vs : Nat → Value) (q : Nat → Bool) (w : World) (hn : n ≤ 9223372036854775807) (hc : ∀ j, j < n → ∃ ad, A0 = some ad ∧ w.cell? (ad.add j) = some (vs j))
  (g : Nat) (lb : Array Value) (eg : ∀ args w, (callFunc g args).run Try.prog w = .ok (.enter g args) w)
  (hp : ∀ (nd j : Nat), j < n → Calls Try.prog g (#[vs j] ++ lb) (w.drewN nd) fun e w' => e = .returned (.bool (q j)) ∧ Drawn0 (w.drewN nd) w')
  (hb : (∃ k : Nat, k < n ∧ q k = true) ↔ b = true) :
  Calls Try.prog 145 #[.slice A0 n c0, .func (.func g) #[] lb] w fun e w' => e = .returned (.bool b) ∧ Drawn0 w w' := by
 have HC := Aside0.mk hc
 have HP := Aside0.mk hp
 have HBB := Aside0.mk hb
 clear hc hp hb
 go_enter Try.func145, Try.ntmps145
 go_wp2_with fail
 refine (if_ints.pred n c0 A0 vs q w hn HC.out g lb eg HP.out).mono ?_
 rintro e w' ⟨r, hr, rfl, ⟨nd, rfl⟩⟩
 have HR := Aside0.mk hr
 clear hr
 go_wp2
 go_ret
 refine ⟨?_, ⟨nd, rfl⟩⟩
 have e : decide (0 ≤ r) = b := by
  rcases HR.out with ⟨k, hk, h1, h2⟩ | ⟨h1, h2⟩
  ·rw [HBB.out.1 ⟨k, hk, h2⟩, decide_eq_true]
   omega
  ·cases hb : b
   ·rw [decide_eq_false]
    omega
   ·obtain ⟨k, hk, h3⟩ := HBB.out.2 hb
    rw [h2 k hk] at h3
    exact absurd h3 (by simp)
 rw [← e]
 rfl
theorem reads_ints {w : World} {A0 : Option Addr} {l0 : List Int} (hr0 : Kd.C (Kd.int .i64) w A0 l0.length l0) : ∀ j, j < l0.length → ∃ ad, A0 = some ad ∧ w.cell? (ad.add j) = some (.int .i64 (l0.getD j 0)) := by
 intro j hj
 obtain ⟨ad, e, hx⟩ := Kd.at_int hr0 (j : Int) (by omega) (by omega)
 exact ⟨ad, e, by rw [Int.toNat_natCast] at hx; rw [hx]; unfold rd; rw [Int.toNat_natCast]⟩

/-! ### slices_IndexFunc_int64_int64_180: function 180 -/
/-- what an IndexFunc tells: the first that is one, or -1 -/
def IdxPost_rows (q : Nat → Bool) (n : Nat) (w : World) (e : Ending) (w' : World) : Prop :=
 ∃ r : Int, ((∃ k : Nat, k < n ∧ r = k ∧ q k = true) ∨ (r = -1 ∧ ∀ k, k < n → q k = false)) ∧ e = .returned (.int .i64 r) ∧ Drawn0 w w'
set_option maxHeartbeats 1000000 in
set_option maxRecDepth 100000 in
theorem if_rows.pred (n c0 : Nat) (A0 : Option Addr) (vs : Nat → Value) (q : Nat → Bool) (w : World) (hn : n ≤ 9223372036854775807) (hc : ∀ j, j < n → ∃ ad, A0 = some ad ∧ w.cell? (ad.add j) = some (vs j))
  (g : Nat) (lb : Array Value) (eg : ∀ args w, (callFunc g args).run Try.prog w = .ok (.enter g args) w)
  (hp : ∀ (nd j : Nat), j < n → Calls Try.prog g (#[vs j] ++ lb) (w.drewN nd) fun e w' => e = .returned (.bool (q j)) ∧ Drawn0 (w.drewN nd) w') :
  Calls Try.prog 180 #[.slice A0 n c0, .func (.func g) #[] lb] w (IdxPost_rows q n w) := by
 have HC := Aside0.mk hc
 have HP := Aside0.mk hp
 clear hc hp
 go_enter Try.func180, Try.ntmps180
 go_wp2
 go_loopg [8] n (fun gk v8 wr => ∃ (i : Int) (nd : Nat), 0 ≤ i ∧ i ≤ n ∧ (n : Int) - i ≤ gk ∧ v8 = .int .i64 i ∧ wr = w.drewN nd ∧ Aside0 (∀ k : Nat, (k : Int) < i → q k = false))
 case atStart => exact ⟨0, 0, by omega, by omega, by omega, rfl, rfl, ⟨fun k hk => by omega⟩⟩
 case round =>
  obtain ⟨i, nd, h0, h1, hg, rfl, rfl, HF⟩ := hrel
  by_cases hlt : i < (n : Int)
  ·obtain ⟨ad, e, hx⟩ := HC.out i.toNat (by omega)
   cases e; have t0 := eq_true h0; have t1 := eq_true hlt; have hcall := HP.out nd i.toNat (by omega)
   cases hq : q i.toNat with
   | true =>
    rw [hq] at hcall
    have HQ := Aside0.mk hq; clear hq
    go_wp2_with fail
    refine hcall.mono ?_
    rintro e w' ⟨rfl, ⟨nd', rfl⟩⟩
    clear hcall
    go_wp2
    go_ret
    exact ⟨i, .inl ⟨i.toNat, by omega, by omega, HQ.out⟩, rfl, ⟨_, rfl⟩⟩
   | false =>
    rw [hq] at hcall
    have HQ := Aside0.mk hq; clear hq
    go_wp2_with fail
    refine hcall.mono ?_
    rintro e w' ⟨rfl, ⟨nd', rfl⟩⟩
    clear hcall
    go_wp2
    go_roundg (n - (i.toNat + 1))
    case measure => omega
    case rel =>
     refine ⟨i + 1, nd + nd', by omega, by omega, by omega, by first | rfl | go_num, by first | rfl | exact World.drewN_drewN _ _ _, ⟨fun k hk => ?_⟩⟩
     by_cases h : (k : Int) < i
     ·exact HF.out k h
     ·have : k = i.toNat := by omega
      rw [this]
      exact HQ.out
  ·have t1 := eq_false hlt
   go_wp2
   go_ret
   exact ⟨-1, .inr ⟨rfl, fun k hk => HF.out k (by omega)⟩, rfl, ⟨nd, rfl⟩⟩

/-! ### slices_ContainsFunc_int64_int64_148: function 148 -/
set_option maxHeartbeats 1000000 in
set_option maxRecDepth 100000 in
theorem cf_rows.pred (b : Bool) (n c0 : Nat) (A0 : Option Addr) (vs : Nat → Value) (q : Nat → Bool) (w : World) (hn : n ≤ 9223372036854775807) (hc : ∀ j, j < n → ∃ ad, A0 = some ad ∧ w.cell? (ad.add j) = some (vs j))
  (g : Nat) (lb : Array Value) (eg : ∀ args w, (callFunc g args).run Try.prog w = .ok (.enter g args) w)
  (hp : ∀ (nd j : Nat), j < n → Calls Try.prog g (#[vs j] ++ lb) (w.drewN nd) fun e w' => e = .returned (.bool (q j)) ∧ Drawn0 (w.drewN nd) w')
  (hb : (∃ k : Nat, k < n ∧ q k = true) ↔ b = true) :
  Calls Try.prog 148 #[.slice A0 n c0, .func (.func g) #[] lb] w fun e w' => e = .returned (.bool b) ∧ Drawn0 w w' := by
 have HC := Aside0.mk hc
 have HP := Aside0.mk hp
 have HBB := Aside0.mk hb
 clear hc hp hb
 go_enter Try.func148, Try.ntmps148
 go_wp2_with fail
 refine (if_rows.pred n c0 A0 vs q w hn HC.out g lb eg HP.out).mono ?_
 rintro e w' ⟨r, hr, rfl, ⟨nd, rfl⟩⟩
 have HR := Aside0.mk hr
 clear hr
 go_wp2
 go_ret
 refine ⟨?_, ⟨nd, rfl⟩⟩
 have e : decide (0 ≤ r) = b := by
  rcases HR.out with ⟨k, hk, h1, h2⟩ | ⟨h1, h2⟩
  ·rw [HBB.out.1 ⟨k, hk, h2⟩, decide_eq_true]
   omega
  ·cases hb : b
   ·rw [decide_eq_false]
    omega
   ·obtain ⟨k, hk, h3⟩ := HBB.out.2 hb
    rw [h2 k hk] at h3
    exact absurd h3 (by simp)
 rw [← e]
 rfl
/-- the cells of a row of rows, one by one -/
theorem reads_rows {w : World} {A0 : Option Addr} {l0 : List (List Int)} (hr0 : Kd.C (Kd.slice 2 (Kd.int .i64)) w A0 l0.length l0) : ∃ vs : Nat → Value, ∀ j, j < l0.length → (∃ ad, A0 = some ad ∧ w.cell? (ad.add j) = some (vs j)) ∧
  ∃ A c, vs j = .slice A (l0.getD j []).length c ∧ (l0.getD j []).length ≤ c ∧ Kd.C (Kd.int .i64) w A (l0.getD j []).length (l0.getD j []) := by
 have one : ∀ j, j < l0.length → ∃ v : Value, (∃ ad, A0 = some ad ∧ w.cell? (ad.add j) = some v) ∧ ∃ A c, v = .slice A (l0.getD j []).length c ∧ (l0.getD j []).length ≤ c ∧ Kd.C (Kd.int .i64) w A (l0.getD j []).length (l0.getD j []) := by
  intro j hj; obtain ⟨ad, c, e, _, hK, hc⟩ := Kd.C_get hr0 [] (j : Int) (by omega) (by omega)
  rw [Int.toNat_natCast] at hK hc
  obtain ⟨A, c', rfl, hl, hC⟩ := hK
  exact ⟨_, ⟨ad, e, by have := hc 0 _ rfl; simpa [Kd.slice] using this⟩, A, c', rfl, hl, hC⟩
 haveI : Inhabited Value := ⟨.nilIface⟩
 classical
 refine ⟨fun j => if hj : j < l0.length then Classical.choose (one j hj) else .nilIface, fun j hj => ?_⟩
 simp only [dif_pos hj]
 exact Classical.choose_spec (one j hj)

/-! ### impl_DfaOk: function 91 -/
def impl_DfaOk.f (k : Nat) (l0_0 : List Int) (l0_1 : List (List Int)) (l0_2 : List Int) : Option Bool :=
 if 1 ≤ (l0_1.length : Int) ∧ (l0_1.length : Int) ≤ 1000 then (if (l0_2.length : Int) = (l0_1.length : Int) then (if (∀ x ∈ l0_2, -1 ≤ x ∧ x ≤ 39) then ((impl_blocksOk.f k l0_0).bind fun bt => if bt.2 = true then some (decide (∀ row ∈ l0_1, (row.length : Int) = bt.1 ∧ ∀ x ∈ row, 0 ≤ x ∧ x ≤ (l0_1.length : Int) - 1)) else some false) else some false) else some false) else some false
theorem impl_DfaOk.mono : ∀ a0 a1 a2 k, LeO (impl_DfaOk.f k a0 a1 a2) (impl_DfaOk.f (k + 1) a0 a1 a2) := by
 intro a0 a1 a2 k
 unfold impl_DfaOk.f
 repeat' first
  | exact LeO.refl _
  | refine LeO.ite ?_ ?_
  | refine LeO.bind (impl_blocksOk.mono _ _) (fun _ => ?_)
theorem withinB (x lo hi : Int) : impl_within.f x lo hi = some (decide (lo ≤ x ∧ x ≤ hi)) := by
 unfold impl_within.f
 by_cases h : x ≥ lo
 ·rw [if_pos h]; congr 1; simp; omega
 ·rw [if_neg h]; congr 1; simp; omega
set_option maxHeartbeats 1000000 in
set_option maxRecDepth 100000 in
theorem impl_DfaOk_1.pred (x : Int) (W : World) :
  Calls Try.prog 147 (#[.int .i64 x] ++ #[]) W fun e w' => e = .returned (.bool (!decide (-1 ≤ x ∧ x ≤ 39))) ∧ Drawn0 W w' := by
 have HW := Aside0.mk (withinB x (-1) 39)
 generalize decide (-1 ≤ x ∧ x ≤ 39) = b at *
 go_enter Try.func147, Try.ntmps147
 go_wp2_with fail
 refine (impl_within.calls x (-1) 39 b _ HW.out).mono ?_
 rintro e w' ⟨rfl, ⟨nd, rfl⟩⟩
 go_wp2
 go_ret
 exact ⟨rfl, ⟨nd, rfl⟩⟩
set_option maxHeartbeats 1000000 in
set_option maxRecDepth 100000 in
theorem impl_DfaOk_2_1.pred (x n : Int) (hn : 1 ≤ n ∧ n ≤ 1000) (W : World) (b1 : Nat) (h1 : W.cell? ⟨b1, 0, none⟩ = some (.int .i64 n)) :
  Calls Try.prog 150 (#[.int .i64 x] ++ #[.pointer (some ⟨b1, 0, none⟩)]) W fun e w' => e = .returned (.bool (!decide (0 ≤ x ∧ x ≤ n - 1))) ∧ Drawn0 W w' := by
 have HW := Aside0.mk (withinB x 0 (n - 1))
 generalize decide (0 ≤ x ∧ x ≤ n - 1) = b at *
 obtain ⟨n1, n2⟩ := hn
 go_enter Try.func150, Try.ntmps150
 go_wp2_with fail
 refine (impl_within.calls x 0 (n - 1) b _ HW.out).mono ?_
 rintro e w' ⟨rfl, ⟨nd, rfl⟩⟩
 go_wp2
 go_ret
 exact ⟨rfl, ⟨nd, rfl⟩⟩
set_option maxHeartbeats 1000000 in
set_option maxRecDepth 100000 in
theorem impl_DfaOk_2.pred (A : Option Addr) (c : Nat) (row : List Int) (m n : Int) (hn : 1 ≤ n ∧ n ≤ 1000) (W : World) (b1 b2 : Nat) (hb2 : b2 < W.heap.size) (h1 : W.cell? ⟨b1, 0, none⟩ = some (.int .i64 m)) (h2 : W.cell? ⟨b2, 0, none⟩ = some (.int .i64 n)) (hr : Kd.C (Kd.int .i64) W A row.length row) (hc : row.length ≤ c) :
  Calls Try.prog 149 (#[.slice A row.length c] ++ #[.pointer (some ⟨b1, 0, none⟩), .pointer (some ⟨b2, 0, none⟩)]) W fun e w' => e = .returned (.bool (!decide ((row.length : Int) = m ∧ ∀ x ∈ row, 0 ≤ x ∧ x ≤ n - 1))) ∧ Drawn0 W w' := by
 have HR := Aside0.mk hr
 have HC := Aside0.mk hc
 have HX := Aside0.mk (reads_ints hr)
 have HN := Aside0.mk hr.2.1
 clear hr hc
 have hcf : ∀ nd, Calls Try.prog 145 #[.slice A row.length c, .func (.func 150) #[] #[.pointer (some ⟨b2, 0, none⟩)]] (W.drewN nd) fun e w' => e = .returned (.bool (!decide (∀ x ∈ row, 0 ≤ x ∧ x ≤ n - 1))) ∧ Drawn0 (W.drewN nd) w' := by
  intro nd
  refine cf_ints.pred _ row.length c A (fun j => .int .i64 (row.getD j 0)) (fun j => !decide (0 ≤ row.getD j 0 ∧ row.getD j 0 ≤ n - 1)) (W.drewN nd) HN.out HX.out 150 _ (fun a v => Try.call150 a v) (fun nd' j _ => impl_DfaOk_2_1.pred _ n hn ((W.drewN nd).drewN nd') b2 h2) ?_
  rw [Bool.not_eq_true', decide_eq_false_iff_not]
  constructor
  ·rintro ⟨k, hk, hq⟩ h
   have := h row[k] (List.getElem_mem hk)
   rw [List.getD_eq_getElem?_getD, List.getElem?_eq_getElem hk] at hq
   simp at hq
   omega
  ·intro h
   rw [Classical.not_forall] at h
   obtain ⟨x, h⟩ := h
   rw [Classical.not_imp] at h
   obtain ⟨hx, h⟩ := h; obtain ⟨k, hk, rfl⟩ := List.mem_iff_getElem.1 hx
   refine ⟨k, hk, ?_⟩
   rw [List.getD_eq_getElem?_getD, List.getElem?_eq_getElem hk]
   show (!decide (0 ≤ row[k] ∧ row[k] ≤ n - 1)) = true
   rw [decide_eq_false h]
   rfl
 have HCF := Aside0.mk hcf
 clear hcf hn
 by_cases hm : (row.length : Int) = m
 ·have g1 : ((row.length : Int) != m) = false := bne_eq_false_iff_eq.2 hm
  have HM := Aside0.mk hm; clear hm
  go_enter Try.func149, Try.ntmps149
  go_wp2_with fail
  go_quiet (first | (go_at_call 107; (refine (impl_size_int64_107.calls _ _ row (row.length : Int) _ ?s1 ?s2 rfl).mono ?_); (case s1 => repeat (first | exact HR.out | (with_reducible refine Kd.C_drewN ?_ _) | (with_reducible refine Kd.C_drew ?_))); (case s2 => exact HC.out); rintro e w' ⟨rfl, ⟨nd, rfl⟩⟩; (first | exact ⟨rfl, _, World.drewN_drewN _ _ _⟩ | exact ⟨rfl, _, Eq.trans (World.drewN_drewN _ _ _) (congrArg (World.drewN _) (Nat.add_assoc _ _ _))⟩)) | (go_at_call 145; (refine (HCF.out _).mono ?_); rintro e w' ⟨rfl, ⟨nd, rfl⟩⟩; (first | exact ⟨rfl, _, World.drewN_drewN _ _ _⟩ | exact ⟨rfl, _, Eq.trans (World.drewN_drewN _ _ _) (congrArg (World.drewN _) (Nat.add_assoc _ _ _))⟩)))
  go_wp2
  go_ret
  exact ⟨by rw [show decide ((row.length : Int) = m ∧ ∀ x ∈ row, 0 ≤ x ∧ x ≤ n - 1) = decide (∀ x ∈ row, 0 ≤ x ∧ x ≤ n - 1) from decide_eq_decide.2 ⟨fun h => h.2, fun h => ⟨HM.out, h⟩⟩]; rfl, ⟨_, rfl⟩⟩
 ·have g1 : ((row.length : Int) != m) = true := bne_iff_ne.2 hm
  have HM := Aside0.mk hm; clear hm
  go_enter Try.func149, Try.ntmps149
  go_wp2_with fail
  go_quiet (first | (go_at_call 107; (refine (impl_size_int64_107.calls _ _ row (row.length : Int) _ ?s1 ?s2 rfl).mono ?_); (case s1 => repeat (first | exact HR.out | (with_reducible refine Kd.C_drewN ?_ _) | (with_reducible refine Kd.C_drew ?_))); (case s2 => exact HC.out); rintro e w' ⟨rfl, ⟨nd, rfl⟩⟩; (first | exact ⟨rfl, _, World.drewN_drewN _ _ _⟩ | exact ⟨rfl, _, Eq.trans (World.drewN_drewN _ _ _) (congrArg (World.drewN _) (Nat.add_assoc _ _ _))⟩)))
  go_wp2
  go_ret
  exact ⟨by rw [decide_eq_false (fun h => HM.out h.1)]; rfl, ⟨_, rfl⟩⟩
theorem any_not {α : Type} (d : α) (l : List α) (P : α → Prop) [DecidablePred P] : (∃ k, k < l.length ∧ (!decide (P (l.getD k d))) = true) ↔ (!decide (∀ x ∈ l, P x)) = true := by
 rw [Bool.not_eq_true', decide_eq_false_iff_not]
 constructor
 ·rintro ⟨k, hk, hq⟩ h
  have := h l[k] (List.getElem_mem hk)
  rw [List.getD_eq_getElem?_getD, List.getElem?_eq_getElem hk] at hq
  simp only [Option.getD_some, Bool.not_eq_true', decide_eq_false_iff_not] at hq
  exact hq this
 ·intro h
  rw [Classical.not_forall] at h
  obtain ⟨x, h⟩ := h
  rw [Classical.not_imp] at h
  obtain ⟨hx, h⟩ := h; obtain ⟨k, hk, rfl⟩ := List.mem_iff_getElem.1 hx
  refine ⟨k, hk, ?_⟩
  rw [List.getD_eq_getElem?_getD, List.getElem?_eq_getElem hk]
  simp only [Option.getD_some, Bool.not_eq_true', decide_eq_false_iff_not]
  exact h
set_option maxHeartbeats 2000000 in
set_option maxRecDepth 100000 in
theorem impl_DfaOk.calls (k : Nat) (A0_0 : Option Addr) (c0_0 : Nat) (l0_0 : List Int) (A0_1 : Option Addr) (c0_1 : Nat) (l0_1 : List (List Int)) (A0_2 : Option Addr) (c0_2 : Nat) (l0_2 : List Int) (r : Bool) (w : World) (hr0_0 : Kd.C (Kd.int .i64) w A0_0 l0_0.length l0_0) (hc0_0 : l0_0.length ≤ c0_0) (hr0_1 : Kd.C (Kd.slice 2 (Kd.int .i64)) w A0_1 l0_1.length l0_1) (hc0_1 : l0_1.length ≤ c0_1) (hr0_2 : Kd.C (Kd.int .i64) w A0_2 l0_2.length l0_2) (hc0_2 : l0_2.length ≤ c0_2) (h : impl_DfaOk.f k l0_0 l0_1 l0_2 = some r) :
  Calls Try.prog 91 #[.agg #[.slice A0_0 l0_0.length c0_0, .slice A0_1 l0_1.length c0_1, .slice A0_2 l0_2.length c0_2]] w fun e w' => e = .returned (.bool r) ∧ Below w.heap.size w w' := by
 have HR0 := Aside0.mk hr0_0
 have HC0 := Aside0.mk hc0_0
 have HR1 := Aside0.mk hr0_1
 have HC1 := Aside0.mk hc0_1
 have HR2 := Aside0.mk hr0_2
 have HC2 := Aside0.mk hc0_2
 have HH := Aside0.mk h
 clear hr0_0 hc0_0 hr0_1 hc0_1 hr0_2 hc0_2 h
 have hcf : ∀ V, Below w.heap.size w V → Calls Try.prog 145 #[.slice A0_2 l0_2.length c0_2, .func (.func 147) #[] #[]] V fun e w' => e = .returned (.bool (!decide (∀ x ∈ l0_2, -1 ≤ x ∧ x ≤ 39))) ∧ Drawn0 V w' := fun V hV =>
  cf_ints.pred _ l0_2.length c0_2 A0_2 (fun j => .int .i64 (l0_2.getD j 0)) (fun j => !decide (-1 ≤ l0_2.getD j 0 ∧ l0_2.getD j 0 ≤ 39)) V HR2.out.2.1 (reads_ints (Kd.C_below HR2.out hV)) 147 _ (fun a v => Try.call147 a v) (fun nd' j _ => impl_DfaOk_1.pred _ (V.drewN nd')) (any_not 0 l0_2 (fun x => -1 ≤ x ∧ x ≤ 39))
 have HCF := Aside0.mk hcf
 clear hcf
 by_cases c1 : 1 ≤ (l0_1.length : Int) ∧ (l0_1.length : Int) ≤ 1000
 ·have HW := Aside0.mk (withinB (l0_1.length : Int) 1 1000)
  rw [decide_eq_true c1] at HW
  have C1 := Aside0.mk c1; clear c1
  by_cases c2 : (l0_2.length : Int) = (l0_1.length : Int)
  ·have g2 : ((l0_2.length : Int) != (l0_1.length : Int)) = false := bne_eq_false_iff_eq.2 c2
   have C2 := Aside0.mk c2; clear c2
   go_enter Try.func91, Try.ntmps91
   go_wp2_with fail
   refine (impl_size_int64_69.calls _ _ l0_1 (l0_1.length : Int) _ ?s1 HC1.out rfl).mono ?_
   case s1 => repeat (first | exact HR1.out | (with_reducible refine Kd.C_alloc ?_ _) | (with_reducible refine Kd.C_drewN ?_ _) | (with_reducible refine Kd.C_drew ?_))
   rintro e w' ⟨rfl, ⟨nd, rfl⟩⟩
   go_wp2_with fail
   obtain ⟨W, hWe⟩ : ∃ W, W = (((w.alloc (.cells #[.slice A0_0 l0_0.length c0_0, .slice A0_1 l0_1.length c0_1, .slice A0_2 l0_2.length c0_2] 30)).drewN nd).alloc (.cells #[.int .i64 (l0_1.length : Int)] 2)) := ⟨_, rfl⟩
   have hW0 : W.heap[w.heap.size]? = some (.cells #[.slice A0_0 l0_0.length c0_0, .slice A0_1 l0_1.length c0_1, .slice A0_2 l0_2.length c0_2] 30 (0, 0)) := by rw [hWe]; exact (Below.heap_alloc _ _ _ (by show w.heap.size < (w.heap.push _).size; simp)).trans (Go.heap_alloc_new w _)
   have hW1 : W.heap[w.heap.size + 1]? = some (.cells #[.int .i64 (l0_1.length : Int)] 2 (0, 0)) := by rw [hWe]; have := Go.heap_alloc_new ((w.alloc (.cells #[.slice A0_0 l0_0.length c0_0, .slice A0_1 l0_1.length c0_1, .slice A0_2 l0_2.length c0_2] 30)).drewN nd) (.cells #[.int .i64 (l0_1.length : Int)] 2); simpa using this
   have hWs : W.heap.size = w.heap.size + 2 := by rw [hWe]; simp
   have hbW : Below w.heap.size w W := by rw [hWe]; exact (pw_below_drewN ((Below.refl _ _).alloc (Nat.le_refl _) _) nd).alloc (by simp) _
   rw [← hWe]
   have HBW := Aside0.mk hbW; have HW0 := Aside0.mk hW0; have HW1 := Aside0.mk hW1; have HWS := Aside0.mk hWs; have z0 := blk_cell hW0 0; have z1 := blk_cell hW0 1; have z2 := blk_cell hW0 2; have z3 := blk_cell hW1 0
   simp only [List.getElem?_toArray, List.getElem?_cons_zero, List.getElem?_cons_succ] at z0 z1 z2 z3
   clear hWe hbW hW0 hW1 hWs
   go_quiet (first | (go_at_call 63; (refine (impl_within.calls (l0_1.length : Int) 1 1000 true _ HW.out).mono ?_); rintro e w' ⟨rfl, ⟨nd, rfl⟩⟩; (first | exact ⟨rfl, _, World.drewN_drewN _ _ _⟩ | exact ⟨rfl, _, Eq.trans (World.drewN_drewN _ _ _) (congrArg (World.drewN _) (Nat.add_assoc _ _ _))⟩)) | (go_at_call 107; (refine (impl_size_int64_107.calls _ _ l0_2 (l0_2.length : Int) _ ?s1 HC2.out rfl).mono ?_); (case s1 => repeat (first | exact Kd.C_below HR2.out HBW.out | (with_reducible refine Kd.C_drewN ?_ _) | (with_reducible refine Kd.C_drew ?_))); rintro e w' ⟨rfl, ⟨nd, rfl⟩⟩; (first | exact ⟨rfl, _, World.drewN_drewN _ _ _⟩ | exact ⟨rfl, _, Eq.trans (World.drewN_drewN _ _ _) (congrArg (World.drewN _) (Nat.add_assoc _ _ _))⟩)))
   go_wp2_with fail
   refine (HCF.out _ (by repeat (first | exact HBW.out | apply pw_below_drewN))).mono ?_
   rintro e w' ⟨rfl, ⟨nd3, rfl⟩⟩
   clear HCF
   by_cases c3 : ∀ x ∈ l0_2, -1 ≤ x ∧ x ≤ 39
   ·rw [decide_eq_true c3]
    have C3 := Aside0.mk c3; clear c3; have hH := HH.out
    unfold impl_DfaOk.f at hH
    rw [if_pos C1.out, if_pos C2.out, if_pos C3.out] at hH
    obtain ⟨⟨m, b4⟩, hb4, hH⟩ := Option.bind_eq_some_iff.1 hH; have HB4 := Aside0.mk hb4; have HH2 := Aside0.mk hH; clear hH hb4 HH
    go_wp2_with fail
    refine (impl_blocksOk.calls k _ _ l0_0 m b4 _ ?s1 HC0.out HB4.out).mono ?_
    case s1 => repeat (first | exact Kd.C_below HR0.out HBW.out | (with_reducible refine Kd.C_drewN ?_ _) | (with_reducible refine Kd.C_drew ?_))
    rintro e w' ⟨rfl, hb5⟩
    have hsz : w.heap.size + 2 ≤ w'.heap.size := by have := hb5.size; have := HWS.out; simp at *; omega
    have y1 := (hb5.cell (p := ⟨w.heap.size, 1, none⟩) (by have := HWS.out; show w.heap.size < _; simp; omega)).trans z1; have y3 := (hb5.cell (p := ⟨w.heap.size + 1, 0, none⟩) (by have := HWS.out; show w.heap.size + 1 < _; simp; omega)).trans z3; have HBX := Aside0.mk (below_step (show Below w.heap.size w _ from by repeat (first | exact HBW.out | apply pw_below_drewN)) hb5); have HSZ := Aside0.mk hsz; clear hb5 hsz z0 z1 z2 z3 HBW HW0 HW1 HWS
    have hn0 : w'.heap.size ≠ w.heap.size := by have := HSZ.out; omega
    have hn1 : w'.heap.size ≠ w.heap.size + 1 := by have := HSZ.out; omega
    have u1 : (w'.alloc (.cells #[.int .i64 m] 2)).cell? ⟨w.heap.size, 1, none⟩ = some (.slice A0_1 l0_1.length c0_1) := (((Below.refl w'.heap.size w').alloc (Nat.le_refl _) _).cell (p := ⟨w.heap.size, 1, none⟩) (by show w.heap.size < w'.heap.size; have := HSZ.out; omega)).trans y1; have u3 : (w'.alloc (.cells #[.int .i64 m] 2)).cell? ⟨w.heap.size + 1, 0, none⟩ = some (.int .i64 (l0_1.length : Int)) := (((Below.refl w'.heap.size w').alloc (Nat.le_refl _) _).cell (p := ⟨w.heap.size + 1, 0, none⟩) (by show w.heap.size + 1 < w'.heap.size; have := HSZ.out; omega)).trans y3; have u4 : (w'.alloc (.cells #[.int .i64 m] 2)).cell? ⟨w'.heap.size, 0, none⟩ = some (.int .i64 m) := (blk_cell (Go.heap_alloc_new w' _) 0).trans rfl; have HBU := Aside0.mk (show Below w.heap.size w (w'.alloc (.cells #[.int .i64 m] 2)) from HBX.out.alloc (by have := HSZ.out; omega) _); have HUS := Aside0.mk (show w.heap.size + 1 < (w'.alloc (.cells #[.int .i64 m] 2)).heap.size from by have := HSZ.out; simp; omega)
    have hcr : Calls Try.prog 148 #[.slice A0_1 l0_1.length c0_1, .func (.func 149) #[] #[.pointer (some ⟨w'.heap.size, 0, none⟩), .pointer (some ⟨w.heap.size + 1, 0, none⟩)]] (w'.alloc (.cells #[.int .i64 m] 2)) fun e w2 => e = .returned (.bool (!decide (∀ row ∈ l0_1, (row.length : Int) = m ∧ ∀ x ∈ row, 0 ≤ x ∧ x ≤ (l0_1.length : Int) - 1))) ∧ Drawn0 (w'.alloc (.cells #[.int .i64 m] 2)) w2 := by
     obtain ⟨vs, hvs⟩ := reads_rows (Kd.C_below HR1.out HBU.out)
     refine cf_rows.pred _ l0_1.length c0_1 A0_1 vs (fun j => !decide (((l0_1.getD j []).length : Int) = m ∧ ∀ x ∈ l0_1.getD j [], 0 ≤ x ∧ x ≤ (l0_1.length : Int) - 1)) _ HR1.out.2.1 (fun j hj => (hvs j hj).1) 149 _ (fun a v => Try.call149 a v) (fun nd' j hj => ?_) (any_not [] l0_1 (fun row => (row.length : Int) = m ∧ ∀ x ∈ row, 0 ≤ x ∧ x ≤ (l0_1.length : Int) - 1))
     obtain ⟨A, c, ev, hl, hC⟩ := (hvs j hj).2
     rw [ev]
     exact impl_DfaOk_2.pred A c (l0_1.getD j []) m (l0_1.length : Int) C1.out _ w'.heap.size (w.heap.size + 1) HUS.out u4 u3 (Kd.C_drewN hC _) hl
    have HCR := Aside0.mk hcr; clear hcr
    cases b4 with
    | true =>
     rw [if_pos rfl] at HH2
     go_wp2_with fail
     refine HCR.out.mono ?_
     rintro e w2 ⟨rfl, ⟨nd4, rfl⟩⟩
     have hr := Option.some.inj HH2.out; have HRR := Aside0.mk hr; clear hr
     go_wp2
     go_ret
     exact ⟨by rw [← HRR.out]; simp, pw_below_drewN HBU.out _⟩
    | false =>
     rw [if_neg (by simp)] at HH2
     have hr := Option.some.inj HH2.out; have HRR := Aside0.mk hr; clear hr
     go_wp2
     go_ret
     exact ⟨by rw [← HRR.out]; rfl, HBU.out⟩
   ·rw [decide_eq_false c3]
    have C3 := Aside0.mk c3; clear c3
    have hr : r = false := by
     have := HH.out
     unfold impl_DfaOk.f at this
     rw [if_pos C1.out, if_pos C2.out, if_neg C3.out] at this
     exact (Option.some.inj this).symm
    have HRR := Aside0.mk hr; clear hr
    go_wp2
    go_ret
    exact ⟨by rw [HRR.out]; rfl, by repeat (first | exact HBW.out | apply pw_below_drewN)⟩
  ·have g2 : ((l0_2.length : Int) != (l0_1.length : Int)) = true := bne_iff_ne.2 c2
   have C2 := Aside0.mk c2; clear c2
   go_enter Try.func91, Try.ntmps91
   go_wp2_with fail
   refine (impl_size_int64_69.calls _ _ l0_1 (l0_1.length : Int) _ ?s1 HC1.out rfl).mono ?_
   case s1 => repeat (first | exact HR1.out | (with_reducible refine Kd.C_alloc ?_ _) | (with_reducible refine Kd.C_drewN ?_ _) | (with_reducible refine Kd.C_drew ?_))
   rintro e w' ⟨rfl, ⟨nd, rfl⟩⟩
   go_wp2_with fail
   obtain ⟨W, hWe⟩ : ∃ W, W = (((w.alloc (.cells #[.slice A0_0 l0_0.length c0_0, .slice A0_1 l0_1.length c0_1, .slice A0_2 l0_2.length c0_2] 30)).drewN nd).alloc (.cells #[.int .i64 (l0_1.length : Int)] 2)) := ⟨_, rfl⟩
   have hW0 : W.heap[w.heap.size]? = some (.cells #[.slice A0_0 l0_0.length c0_0, .slice A0_1 l0_1.length c0_1, .slice A0_2 l0_2.length c0_2] 30 (0, 0)) := by rw [hWe]; exact (Below.heap_alloc _ _ _ (by show w.heap.size < (w.heap.push _).size; simp)).trans (Go.heap_alloc_new w _)
   have hW1 : W.heap[w.heap.size + 1]? = some (.cells #[.int .i64 (l0_1.length : Int)] 2 (0, 0)) := by rw [hWe]; have := Go.heap_alloc_new ((w.alloc (.cells #[.slice A0_0 l0_0.length c0_0, .slice A0_1 l0_1.length c0_1, .slice A0_2 l0_2.length c0_2] 30)).drewN nd) (.cells #[.int .i64 (l0_1.length : Int)] 2); simpa using this
   have hWs : W.heap.size = w.heap.size + 2 := by rw [hWe]; simp
   have hbW : Below w.heap.size w W := by rw [hWe]; exact (pw_below_drewN ((Below.refl _ _).alloc (Nat.le_refl _) _) nd).alloc (by simp) _
   rw [← hWe]
   have HBW := Aside0.mk hbW; have HW0 := Aside0.mk hW0; have HW1 := Aside0.mk hW1; have HWS := Aside0.mk hWs; have z0 := blk_cell hW0 0; have z1 := blk_cell hW0 1; have z2 := blk_cell hW0 2; have z3 := blk_cell hW1 0
   simp only [List.getElem?_toArray, List.getElem?_cons_zero, List.getElem?_cons_succ] at z0 z1 z2 z3
   clear hWe hbW hW0 hW1 hWs
   go_quiet (first | (go_at_call 63; (refine (impl_within.calls (l0_1.length : Int) 1 1000 true _ HW.out).mono ?_); rintro e w' ⟨rfl, ⟨nd, rfl⟩⟩; (first | exact ⟨rfl, _, World.drewN_drewN _ _ _⟩ | exact ⟨rfl, _, Eq.trans (World.drewN_drewN _ _ _) (congrArg (World.drewN _) (Nat.add_assoc _ _ _))⟩)) | (go_at_call 107; (refine (impl_size_int64_107.calls _ _ l0_2 (l0_2.length : Int) _ ?s1 HC2.out rfl).mono ?_); (case s1 => repeat (first | exact Kd.C_below HR2.out HBW.out | (with_reducible refine Kd.C_drewN ?_ _) | (with_reducible refine Kd.C_drew ?_))); rintro e w' ⟨rfl, ⟨nd, rfl⟩⟩; (first | exact ⟨rfl, _, World.drewN_drewN _ _ _⟩ | exact ⟨rfl, _, Eq.trans (World.drewN_drewN _ _ _) (congrArg (World.drewN _) (Nat.add_assoc _ _ _))⟩)))
   have hr : r = false := by
    have := HH.out
    unfold impl_DfaOk.f at this
    rw [if_pos C1.out, if_neg C2.out] at this
    exact (Option.some.inj this).symm
   have HRR := Aside0.mk hr; clear hr
   go_wp2
   go_ret
   exact ⟨by rw [HRR.out]; rfl, pw_below_drewN HBW.out _⟩
 ·have HW := Aside0.mk (withinB (l0_1.length : Int) 1 1000)
  rw [decide_eq_false c1] at HW
  have C1 := Aside0.mk c1; clear c1
  go_enter Try.func91, Try.ntmps91
  go_wp2_with fail
  refine (impl_size_int64_69.calls _ _ l0_1 (l0_1.length : Int) _ ?s1 HC1.out rfl).mono ?_
  case s1 => repeat (first | exact HR1.out | (with_reducible refine Kd.C_alloc ?_ _) | (with_reducible refine Kd.C_drewN ?_ _) | (with_reducible refine Kd.C_drew ?_))
  rintro e w' ⟨rfl, ⟨nd, rfl⟩⟩
  go_wp2_with fail
  obtain ⟨W, hWe⟩ : ∃ W, W = (((w.alloc (.cells #[.slice A0_0 l0_0.length c0_0, .slice A0_1 l0_1.length c0_1, .slice A0_2 l0_2.length c0_2] 30)).drewN nd).alloc (.cells #[.int .i64 (l0_1.length : Int)] 2)) := ⟨_, rfl⟩
  have hW0 : W.heap[w.heap.size]? = some (.cells #[.slice A0_0 l0_0.length c0_0, .slice A0_1 l0_1.length c0_1, .slice A0_2 l0_2.length c0_2] 30 (0, 0)) := by rw [hWe]; exact (Below.heap_alloc _ _ _ (by show w.heap.size < (w.heap.push _).size; simp)).trans (Go.heap_alloc_new w _)
  have hW1 : W.heap[w.heap.size + 1]? = some (.cells #[.int .i64 (l0_1.length : Int)] 2 (0, 0)) := by rw [hWe]; have := Go.heap_alloc_new ((w.alloc (.cells #[.slice A0_0 l0_0.length c0_0, .slice A0_1 l0_1.length c0_1, .slice A0_2 l0_2.length c0_2] 30)).drewN nd) (.cells #[.int .i64 (l0_1.length : Int)] 2); simpa using this
  have hWs : W.heap.size = w.heap.size + 2 := by rw [hWe]; simp
  have hbW : Below w.heap.size w W := by rw [hWe]; exact (pw_below_drewN ((Below.refl _ _).alloc (Nat.le_refl _) _) nd).alloc (by simp) _
  rw [← hWe]
  have HBW := Aside0.mk hbW; have HW0 := Aside0.mk hW0; have HW1 := Aside0.mk hW1; have HWS := Aside0.mk hWs; have z0 := blk_cell hW0 0; have z1 := blk_cell hW0 1; have z2 := blk_cell hW0 2; have z3 := blk_cell hW1 0
  simp only [List.getElem?_toArray, List.getElem?_cons_zero, List.getElem?_cons_succ] at z0 z1 z2 z3
  clear hWe hbW hW0 hW1 hWs
  go_quiet (first | (go_at_call 63; (refine (impl_within.calls (l0_1.length : Int) 1 1000 false _ HW.out).mono ?_); rintro e w' ⟨rfl, ⟨nd, rfl⟩⟩; (first | exact ⟨rfl, _, World.drewN_drewN _ _ _⟩ | exact ⟨rfl, _, Eq.trans (World.drewN_drewN _ _ _) (congrArg (World.drewN _) (Nat.add_assoc _ _ _))⟩)) | (go_at_call 107; (refine (impl_size_int64_107.calls _ _ l0_2 (l0_2.length : Int) _ ?s1 HC2.out rfl).mono ?_); (case s1 => repeat (first | exact Kd.C_below HR2.out HBW.out | (with_reducible refine Kd.C_drewN ?_ _) | (with_reducible refine Kd.C_drew ?_))); rintro e w' ⟨rfl, ⟨nd, rfl⟩⟩; (first | exact ⟨rfl, _, World.drewN_drewN _ _ _⟩ | exact ⟨rfl, _, Eq.trans (World.drewN_drewN _ _ _) (congrArg (World.drewN _) (Nat.add_assoc _ _ _))⟩)))
  have hr : r = false := by
   have := HH.out
   unfold impl_DfaOk.f at this
   rw [if_neg C1.out] at this
   exact (Option.some.inj this).symm
  have HRR := Aside0.mk hr; clear hr
  go_wp2
  go_ret
  exact ⟨by rw [HRR.out]; rfl, pw_below_drewN HBW.out _⟩

end Go.Proofs.Ytfajfjgkkgigoaa.PFnDead
