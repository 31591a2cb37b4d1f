-- Written by this session's own program (wip/pr.py) over the kit's printer; contracts that the printer does not know are given by hand.
import Derived.Test.YtaemhmgcjpcicaaPFnExactNfaMatchx0
import Derived.Test.YtaemhmgcjpcicaaPFnExactNfaMatchx9
import Derived.Test.YtaemhmgcjpcicaaPFnExactNfaMatchx11
import Derived.Test.YtaemhmgcjpcicaaPFnExactNfaMatchx12
import Derived.Test.YtaemhmgcjpcicaaPFnExactNfaMatchx13
namespace Go.Proofs.Ytaemhmgcjpcicaa.PFnExactNfaMatch
open Go.RowKit Go.Proofs.YtaemhmgcjpcicaaW.PrintWords Go.Proofs.YtaemhmgcjpcicaaW.PrintLast Go.Proofs.YtaemhmgcjpcicaaW.PrintMore
attribute [local go_sem] max2_int min2_int max_two min_two max_three min_three max_four min_four   -- for this text's walks alone
set_option linter.unusedVariables false
set_option linter.unusedSimpArgs false

/-! ### slices_BinarySearch_int64_int64: function 171 -/
def slices_BinarySearch_int64_int64.l0 : Nat → List Int → Int → Int → Int → Int → Option (Int × Bool)
  | 0, _, _, _, _, _ => none
  | k + 1, x0, x1, x6, x7, x8 => if x7 < x8 then (if 0 ≤ (wrap64 ((IntKind.u64.wrap (wrap64 (x7 + x8))) / 2)) then (if (wrap64 ((IntKind.u64.wrap (wrap64 (x7 + x8))) / 2)) < (x0.length : Int) then ((cmp_Less_int64.f (rd x0 (wrap64 ((IntKind.u64.wrap (wrap64 (x7 + x8))) / 2))) x1).bind fun t348 => (if t348 = true then (slices_BinarySearch_int64_int64.l0 k x0 x1 x6 (wrap64 ((wrap64 ((IntKind.u64.wrap (wrap64 (x7 + x8))) / 2)) + 1)) x8) else (slices_BinarySearch_int64_int64.l0 k x0 x1 x6 x7 (wrap64 ((IntKind.u64.wrap (wrap64 (x7 + x8))) / 2))))) else (none)) else (none)) else (if x7 < x6 then (if 0 ≤ x7 then (if x7 < (x0.length : Int) then (if (rd x0 x7) = x1 then (some (x7, true)) else ((slices_isNaN_int64.f (rd x0 x7)).bind fun t351 => (if t351 = true then ((slices_isNaN_int64.f x1).bind fun t352 => (some (x7, t352))) else (some (x7, false))))) else (none)) else (none)) else (some (x7, false)))
def slices_BinarySearch_int64_int64.f (k : Nat) (l0 : List Int) (a1 : Int) : Option (Int × Bool) := slices_BinarySearch_int64_int64.l0 k l0 a1 (l0.length : Int) 0 (l0.length : Int)
theorem slices_BinarySearch_int64_int64.mono_l : ∀ k, (∀ y0 y1 y2 y3 y4, LeO (slices_BinarySearch_int64_int64.l0 k y0 y1 y2 y3 y4) (slices_BinarySearch_int64_int64.l0 (k + 1) y0 y1 y2 y3 y4))
  | 0 => fun _ _ _ _ _ r h => by simp [slices_BinarySearch_int64_int64.l0] at h
  | k + 1 => by
    have ih0 := slices_BinarySearch_int64_int64.mono_l k
    · intro y0 y1 y2 y3 y4
      unfold slices_BinarySearch_int64_int64.l0
      repeat' first
      | (with_reducible exact LeO.refl _)
      | exact ih0 _ _ _ _ _
      | exact LeO.none _
      | refine LeO.ite ?_ ?_
      | refine LeO.bind ?_ (fun _ => ?_)
theorem slices_BinarySearch_int64_int64.mono : ∀ a0 a1 k, LeO (slices_BinarySearch_int64_int64.f k a0 a1) (slices_BinarySearch_int64_int64.f (k + 1) a0 a1) := by
  intro a0 a1 k
  have ih0 := slices_BinarySearch_int64_int64.mono_l k
  unfold slices_BinarySearch_int64_int64.f
  repeat' first
      | (with_reducible exact LeO.refl _)
      | exact ih0 _ _ _ _ _
      | exact LeO.none _
      | refine LeO.ite ?_ ?_
      | refine LeO.bind ?_ (fun _ => ?_)
set_option maxHeartbeats 8000000 in
set_option maxRecDepth 100000 in
theorem slices_BinarySearch_int64_int64.calls (k : Nat) (A0 : Option Addr) (c0 : Nat) (l0 : List Int) (a1 : Int) (r1 : Int) (r2 : Bool) (w : World) (hr0 : Kd.C (Kd.int .i64) w A0 l0.length l0) (hc0 : l0.length ≤ c0) (h : slices_BinarySearch_int64_int64.f k l0 a1 = some (r1, r2)) :
    Calls Try.prog 171 #[.slice A0 l0.length c0, .int .i64 a1] w fun e w' => e = .returned (.tuple #[.int .i64 r1, .bool r2]) ∧ Drawn0 w w' := by
  have HR0 := Aside0.mk hr0
  have HC0 := Aside0.mk hc0
  clear hr0 hc0
  have H : (slices_BinarySearch_int64_int64.l0 k l0 a1 (l0.length : Int) 0 (l0.length : Int)) = some (r1, r2) := h
  clear h
  have H' := Aside0.mk H
  clear H
  go_enter Try.func171, Try.ntmps171
  go_wp2
  go_loopg [7, 8] k (fun kq v7 v8 w' => ∃ (x7_1 : Int) (x8_1 : Int), v7 = .int .i64 x7_1 ∧ v8 = .int .i64 x8_1 ∧ Aside0 (slices_BinarySearch_int64_int64.l0 kq l0 a1 (l0.length : Int) x7_1 x8_1 = some (r1, r2)) ∧ Aside0 (kq ≤ k) ∧ Drawn0 w w')
  case atStart => exact ⟨(0), ((l0.length : Int)), (by first | rfl | (simp; done) | (simp [*]; done)), (by first | rfl | (simp; done) | (simp [*]; done)), H', ⟨Nat.le_refl _⟩, by repeat (first | exact Drawn0.refl _ | apply Drawn0.step)⟩
  case round =>
    clear H'; (try clear c1); (try clear p2); obtain ⟨x7_1, x8_1, rfl, rfl, HA, HK1, ⟨m1, rfl⟩⟩ := hrel
    cases gk with
    | zero => exact absurd HA.out (by simp [slices_BinarySearch_int64_int64.l0])
    | succ k1 =>
      have H := HA.out; clear HA
      simp only [slices_BinarySearch_int64_int64.l0] at H
      by_cases c3 : x7_1 < x8_1
      · rw [if_pos c3] at H
        have c3b0 : decide (x7_1 < x8_1) = true := decide_eq_true c3; clear c3; obtain ⟨ji4, hji4⟩ : ∃ j_ : Int, (wrap64 ((IntKind.u64.wrap (wrap64 (x7_1 + x8_1))) / 2)) = j_ := ⟨_, rfl⟩
        replace H : (if 0 ≤ (ji4) then (if (ji4) < (l0.length : Int) then ((cmp_Less_int64.f (rd l0 (ji4)) a1).bind fun t348 => (if t348 = true then (slices_BinarySearch_int64_int64.l0 k1 l0 a1 (l0.length : Int) (wrap64 ((ji4) + 1)) x8_1) else (slices_BinarySearch_int64_int64.l0 k1 l0 a1 (l0.length : Int) x7_1 ji4))) else (none)) else (none)) = some (r1, r2) := by first | (rw [hji4] at H; exact H) | (simp only [hji4] at H ⊢; exact H)
        have hji4w : (IntKind.i64.wrap ((IntKind.u64.wrap (wrap64 (x7_1 + x8_1))) / 2)) = ji4 := (i64_w _).trans hji4
        by_cases c5 : 0 ≤ (ji4)
        · rw [if_pos c5] at H
          have c5b0 : decide (0 ≤ (ji4)) = true := decide_eq_true c5; clear c5
          by_cases c6 : (ji4) < (l0.length : Int)
          · rw [if_pos c6] at H
            have c6b0 : decide ((ji4) < (l0.length : Int)) = true := decide_eq_true c6; clear c6; replace H := Option.bind_eq_some_iff.mp H; obtain ⟨t348, A70, H⟩ := H; replace H : (if t348 = true then (slices_BinarySearch_int64_int64.l0 k1 l0 a1 (l0.length : Int) (wrap64 ((ji4) + 1)) x8_1) else (slices_BinarySearch_int64_int64.l0 k1 l0 a1 (l0.length : Int) x7_1 ji4)) = some (r1, r2) := H; have A7 := Aside0.mk A70; clear A70
            by_cases c8 : t348 = true
            · subst c8
              have H1 : (slices_BinarySearch_int64_int64.l0 k1 l0 a1 (l0.length : Int) (wrap64 ((ji4) + 1)) x8_1) = some (r1, r2) := by rw [if_pos rfl] at H; exact H
              clear H; have H := H1; clear H1; have H' := Aside0.mk H; clear H; have p347 : 0 ≤ ((ji4) : Int) := of_decide_eq_true (by assumption); have q347 : (ji4) < (l0.length : Int) := of_decide_eq_true (by assumption); obtain ⟨ad347, e347, hx347_0⟩ := Kd.at_int HR0.out (ji4) p347 q347; cases e347; replace p347 := eq_true p347; replace q347 := eq_true q347
              go_wp2_with (first | ((with_reducible refine gate_callee (f := 199) rfl ?_); refine goesL_ (some 27) rfl rfl Try.func199 (by kernel_rfl) rfl #[.int .i64 (rd l0 (ji4)), .int .i64 a1] rfl (by (try simp only [List.map_toArray, List.map_cons, List.map_nil]); first | done | (simp only [hji4]; rfl) | rfl | (simp only [List.length_drop, List.length_take]; rfl)) ?_; (with_reducible refine (cmp_Less_int64.calls (rd l0 (ji4)) a1 true _ A7.out).mono ?_); rintro e w' ⟨rfl, ⟨nd, rfl⟩⟩; refine ⟨_, rfl, ?_⟩))
              go_roundg k1
              case measure => have := HK1.out; omega
              case rel => exact ⟨(wrap64 ((ji4) + 1)), (x8_1), (by first | rfl | (simp; done) | (simp only [← hji4] <;> (first | rfl | simp)) | (simp [*]; done)), (by first | rfl | (simp; done) | (simp [*]; done)), H', ⟨by have := HK1.out; omega⟩, by repeat (first | exact Drawn0.refl _ | apply Drawn0.step)⟩
            · replace c8 := Bool.eq_false_iff.mpr c8
              subst c8
              have H1 : (slices_BinarySearch_int64_int64.l0 k1 l0 a1 (l0.length : Int) x7_1 ji4) = some (r1, r2) := by rw [if_neg (show ¬ (false = true) by decide)] at H; exact H
              clear H; have H := H1; clear H1; have H' := Aside0.mk H; clear H; have p347 : 0 ≤ ((ji4) : Int) := of_decide_eq_true (by assumption); have q347 : (ji4) < (l0.length : Int) := of_decide_eq_true (by assumption); obtain ⟨ad347, e347, hx347_0⟩ := Kd.at_int HR0.out (ji4) p347 q347; cases e347; replace p347 := eq_true p347; replace q347 := eq_true q347
              go_wp2_with (first | ((with_reducible refine gate_callee (f := 199) rfl ?_); refine goesL_ (some 27) rfl rfl Try.func199 (by kernel_rfl) rfl #[.int .i64 (rd l0 (ji4)), .int .i64 a1] rfl (by (try simp only [List.map_toArray, List.map_cons, List.map_nil]); first | done | (simp only [hji4]; rfl) | rfl | (simp only [List.length_drop, List.length_take]; rfl)) ?_; (with_reducible refine (cmp_Less_int64.calls (rd l0 (ji4)) a1 false _ A7.out).mono ?_); rintro e w' ⟨rfl, ⟨nd, rfl⟩⟩; refine ⟨_, rfl, ?_⟩))
              go_roundg k1
              case measure => have := HK1.out; omega
              case rel => exact ⟨(x7_1), (ji4), (by first | rfl | (simp; done) | (simp [*]; done)), (by first | rfl | (simp; done) | (simp only [← hji4] <;> (first | rfl | simp)) | (simp [*]; done)), H', ⟨by have := HK1.out; omega⟩, by repeat (first | exact Drawn0.refl _ | apply Drawn0.step)⟩
          · rw [if_neg c6] at H
            exact absurd H (by simp)
        · rw [if_neg c5] at H
          exact absurd H (by simp)
      · rw [if_neg c3] at H
        have c3b0 : decide (x7_1 < x8_1) = false := decide_eq_false c3; clear c3
        by_cases c9 : x7_1 < (l0.length : Int)
        · rw [if_pos c9] at H
          have c9b0 : decide (x7_1 < (l0.length : Int)) = true := decide_eq_true c9; clear c9
          by_cases c10 : 0 ≤ x7_1
          · rw [if_pos c10] at H
            have c10b0 : decide (0 ≤ x7_1) = true := decide_eq_true c10; clear c10
            by_cases c11 : x7_1 < (l0.length : Int)
            · rw [if_pos c11] at H
              have c11b0 : decide (x7_1 < (l0.length : Int)) = true := decide_eq_true c11; clear c11
              by_cases c12 : (rd l0 x7_1) = a1
              · rw [if_pos c12] at H
                have c12b0 : ((rd l0 x7_1) == a1) = true := beq_iff_eq.mpr c12; have c12b1 : ((rd l0 x7_1) != a1) = false := bne_eq_false_iff_eq.mpr c12; clear c12
                simp only [Option.some.injEq, Prod.mk.injEq] at H
                obtain ⟨rfl, rfl⟩ := H; have p349 : 0 ≤ (x7_1 : Int) := of_decide_eq_true (by assumption); have q349 : x7_1 < (l0.length : Int) := of_decide_eq_true (by assumption); obtain ⟨ad349, e349, hx349_0⟩ := Kd.at_int HR0.out x7_1 p349 q349; cases e349; replace p349 := eq_true p349; replace q349 := eq_true q349
                go_wp2
                go_ret2
                exact ⟨by first | rfl | (simp; done) | (simp [*]; done), by repeat (first | exact Drawn0.refl _ | apply Drawn0.step)⟩
              · rw [if_neg c12] at H
                have c12b0 : ((rd l0 x7_1) == a1) = false := beq_eq_false_iff_ne.mpr c12; have c12b1 : ((rd l0 x7_1) != a1) = true := bne_iff_ne.mpr c12; replace H := Option.bind_eq_some_iff.mp H; obtain ⟨t351, A130, H⟩ := H
                replace H : (if t351 = true then ((slices_isNaN_int64.f a1).bind fun t352 => (some (x7_1, t352))) else (some (x7_1, false))) = some (r1, r2) := H
                have A13 := Aside0.mk A130; clear A130
                by_cases c14 : t351 = true
                · subst c14
                  have H1 : ((slices_isNaN_int64.f a1).bind fun t352 => (some (x7_1, t352))) = some (r1, r2) := by rw [if_pos rfl] at H; exact H
                  clear H; have H := H1; clear H1; replace H := Option.bind_eq_some_iff.mp H; obtain ⟨t352, A150, H⟩ := H; replace H : (some (x7_1, t352)) = some (r1, r2) := H; have A15 := Aside0.mk A150; clear A150
                  simp only [Option.some.injEq, Prod.mk.injEq] at H
                  obtain ⟨rfl, rfl⟩ := H; have p349 : 0 ≤ (x7_1 : Int) := of_decide_eq_true (by assumption); have q349 : x7_1 < (l0.length : Int) := of_decide_eq_true (by assumption); obtain ⟨ad349, e349, hx349_0⟩ := Kd.at_int HR0.out x7_1 p349 q349; cases e349; replace p349 := eq_true p349; replace q349 := eq_true q349; have p350 : 0 ≤ (x7_1 : Int) := of_decide_eq_true (by assumption); have q350 : x7_1 < (l0.length : Int) := of_decide_eq_true (by assumption); obtain ⟨ad350, e350, hx350_0⟩ := Kd.at_int HR0.out x7_1 p350 q350; obtain rfl : ad349 = ad350 := (by injection e350); replace p350 := eq_true p350; replace q350 := eq_true q350
                  go_wp2_with (first | (go_at_call 200; (with_reducible refine (slices_isNaN_int64.calls (rd l0 x7_1) true _ A13.out).mono ?_); rintro e w' ⟨rfl, ⟨nd, rfl⟩⟩) | (go_at_call 200; (with_reducible refine (slices_isNaN_int64.calls a1 t352 _ A15.out).mono ?_); rintro e w' ⟨rfl, ⟨nd, rfl⟩⟩))
                  go_ret2
                  exact ⟨by first | rfl | (simp; done) | (simp [*]; done), by repeat (first | exact Drawn0.refl _ | apply Drawn0.step)⟩
                · replace c14 := Bool.eq_false_iff.mpr c14
                  subst c14
                  have H1 : (some (x7_1, false)) = some (r1, r2) := by rw [if_neg (show ¬ (false = true) by decide)] at H; exact H
                  clear H; have H := H1; clear H1
                  simp only [Option.some.injEq, Prod.mk.injEq] at H
                  obtain ⟨rfl, rfl⟩ := H; have p349 : 0 ≤ (x7_1 : Int) := of_decide_eq_true (by assumption); have q349 : x7_1 < (l0.length : Int) := of_decide_eq_true (by assumption); obtain ⟨ad349, e349, hx349_0⟩ := Kd.at_int HR0.out x7_1 p349 q349; cases e349; replace p349 := eq_true p349; replace q349 := eq_true q349; have p350 : 0 ≤ (x7_1 : Int) := of_decide_eq_true (by assumption); have q350 : x7_1 < (l0.length : Int) := of_decide_eq_true (by assumption); obtain ⟨ad350, e350, hx350_0⟩ := Kd.at_int HR0.out x7_1 p350 q350; obtain rfl : ad349 = ad350 := (by injection e350); replace p350 := eq_true p350; replace q350 := eq_true q350
                  go_wp2_with (first | (go_at_call 200; (with_reducible refine (slices_isNaN_int64.calls (rd l0 x7_1) false _ A13.out).mono ?_); rintro e w' ⟨rfl, ⟨nd, rfl⟩⟩))
                  go_ret2
                  exact ⟨by first | rfl | (simp; done) | (simp [*]; done), by repeat (first | exact Drawn0.refl _ | apply Drawn0.step)⟩
            · rw [if_neg c11] at H
              exact absurd H (by simp)
          · rw [if_neg c10] at H
            exact absurd H (by simp)
        · rw [if_neg c9] at H
          have c9b0 : decide (x7_1 < (l0.length : Int)) = false := decide_eq_false c9; clear c9
          simp only [Option.some.injEq, Prod.mk.injEq] at H
          obtain ⟨rfl, rfl⟩ := H
          go_wp2
          go_ret2
          exact ⟨by first | rfl | (simp; done) | (simp [*]; done), by repeat (first | exact Drawn0.refl _ | apply Drawn0.step)⟩

/-! ### impl_network_rulesIn: function 98 -/
def impl_network_rulesIn.l0 : Nat → List Int → List Int → List (S138) → Int → Int → Option (List Int)
  | 0, _, _, _, _, _ => none
  | k + 1, x1, x5, x15, x16, x17 => if x17 < x16 then (if 0 ≤ x17 then (if x17 < (x15.length : Int) then ((slices_BinarySearch_int64_int64.f k x1 ((rd_T138 x15 x17).f0)).bind fun bt359 => (if bt359.2 = true then (if x5.length < 17592186044416 then (impl_network_rulesIn.l0 k x1 (x5 ++ [(rd_T138 x15 x17).f1]) x15 x16 (wrap64 (x17 + 1))) else (none)) else (impl_network_rulesIn.l0 k x1 x5 x15 x16 (wrap64 (x17 + 1))))) else (none)) else (none)) else (some x5)
def impl_network_rulesIn.f (k : Nat) (a0_0 : Int) (l0_1 : List (S198)) (l0_2 : List (S138)) (l0_3 : List (List Int)) (l0_4 : List (List Int)) (l1 : List Int) : Option (List Int) := impl_network_rulesIn.l0 k l1 (([] : List Int)) l0_2 (l0_2.length : Int) 0
theorem impl_network_rulesIn.mono_l : ∀ k, (∀ y0 y1 y2 y3 y4, LeO (impl_network_rulesIn.l0 k y0 y1 y2 y3 y4) (impl_network_rulesIn.l0 (k + 1) y0 y1 y2 y3 y4))
  | 0 => fun _ _ _ _ _ r h => by simp [impl_network_rulesIn.l0] at h
  | k + 1 => by
    have ih0 := impl_network_rulesIn.mono_l k
    · intro y0 y1 y2 y3 y4
      unfold impl_network_rulesIn.l0
      repeat' first
      | (with_reducible exact LeO.refl _)
      | exact ih0 _ _ _ _ _
      | exact slices_BinarySearch_int64_int64.mono _ _ _
      | exact LeO.none _
      | refine LeO.ite ?_ ?_
      | refine LeO.bind ?_ (fun _ => ?_)
theorem impl_network_rulesIn.mono : ∀ a0 a1 a2 a3 a4 a5 k, LeO (impl_network_rulesIn.f k a0 a1 a2 a3 a4 a5) (impl_network_rulesIn.f (k + 1) a0 a1 a2 a3 a4 a5) := by
  intro a0 a1 a2 a3 a4 a5 k
  have ih0 := impl_network_rulesIn.mono_l k
  unfold impl_network_rulesIn.f
  repeat' first
      | (with_reducible exact LeO.refl _)
      | exact ih0 _ _ _ _ _
      | exact slices_BinarySearch_int64_int64.mono _ _ _
      | exact LeO.none _
      | refine LeO.ite ?_ ?_
      | refine LeO.bind ?_ (fun _ => ?_)
set_option maxHeartbeats 8000000 in
set_option maxRecDepth 100000 in
theorem impl_network_rulesIn.calls (k : Nat) (gb353 : Nat) (a0_0 : Int) (A0_1 : Option Addr) (c0_1 : Nat) (l0_1 : List (S198)) (A0_2 : Option Addr) (c0_2 : Nat) (l0_2 : List (S138)) (A0_3 : Option Addr) (c0_3 : Nat) (l0_3 : List (List Int)) (A0_4 : Option Addr) (c0_4 : Nat) (l0_4 : List (List Int)) (A1 : Option Addr) (c1 : Nat) (l1 : List Int) (r : List Int) (w : World) (hr0_1 : Kd.C k198 w A0_1 l0_1.length l0_1) (hc0_1 : l0_1.length ≤ c0_1) (hr0_2 : Kd.C k138 w A0_2 l0_2.length l0_2) (hc0_2 : l0_2.length ≤ c0_2) (hr0_3 : Kd.C (Kd.slice 2 (Kd.int .i64)) w A0_3 l0_3.length l0_3) (hc0_3 : l0_3.length ≤ c0_3) (hr0_4 : Kd.C (Kd.slice 3 (Kd.int .i64)) w A0_4 l0_4.length l0_4) (hc0_4 : l0_4.length ≤ c0_4) (hr1 : Kd.C (Kd.int .i64) w A1 l1.length l1) (hc1 : l1.length ≤ c1) (hbk : w.heap[gb353]? = some (.cells #[.int .i64 a0_0, .slice A0_1 l0_1.length c0_1, .slice A0_2 l0_2.length c0_2, .slice A0_3 l0_3.length c0_3, .slice A0_4 l0_4.length c0_4] 205 (0, 0))) (h : impl_network_rulesIn.f k a0_0 l0_1 l0_2 l0_3 l0_4 l1 = some r) :
    Calls Try.prog 98 #[.pointer (some ⟨gb353, 0, none⟩), .slice A1 l1.length c1] w fun e w' => ∃ v0_ : Value, e = .returned (v0_) ∧ Kd.R (Kd.int .i64) 2 w' w.heap.size (fun _ => True) v0_ r ∧ Below w.heap.size w w' := by
  have hu205 := Try.underlying205
  have hu138 := Try.underlying138
  have HR0_1 := Aside0.mk hr0_1
  have HC0_1 := Aside0.mk hc0_1
  clear hr0_1 hc0_1
  have HR0_2 := Aside0.mk hr0_2
  have HC0_2 := Aside0.mk hc0_2
  clear hr0_2 hc0_2
  have HR0_3 := Aside0.mk hr0_3
  have HC0_3 := Aside0.mk hc0_3
  clear hr0_3 hc0_3
  have HR0_4 := Aside0.mk hr0_4
  have HC0_4 := Aside0.mk hc0_4
  clear hr0_4 hc0_4
  have HR1 := Aside0.mk hr1
  have HC1 := Aside0.mk hc1
  clear hr1 hc1
  have HB := Aside0.mk (Below.refl w.heap.size w)
  have BK353 := Aside0.mk hbk
  clear hbk
  have H : (impl_network_rulesIn.l0 k l1 (([] : List Int)) l0_2 (l0_2.length : Int) 0) = some r := h
  clear h
  obtain ⟨y354, hy354⟩ : ∃ y_ : List Int, y_ = (([] : List Int)) := ⟨_, rfl⟩
  replace H : (impl_network_rulesIn.l0 k l1 y354 l0_2 (l0_2.length : Int) 0) = some r := by first | (rw [hy354]; with_reducible exact H) | (have H2_ := (Option.bind_some _ _).symm.trans H; rw [hy354]; with_reducible exact H2_) | (have H2_ := (Option.bind_some _ _).symm.trans H; with_reducible exact H2_) | with_reducible exact H | (rw [hy354]; exact H) | exact H
  have Ny354 := Aside0.mk hy354
  clear hy354
  have H' := Aside0.mk H
  clear H
  go_enter Try.func98, Try.ntmps98
  go_wp2_with (first | ((with_reducible refine gate_dst (N := 10) rfl ?_); refine Kd.R_lit (Kd.int .i64) _ 2 ?hg (N := 10) ?hd (xs := ([] : List Int)) (inner := []) (ok := fun _ => True) (okp := fun _ => True) ?hr ?hp (fun _ hk => hk) trivial (Below.refl _ _) (Nat.le_refl _) (by simp) ?_; (case hd => rfl); (case hg => rfl); (case hr => first | (go_simp; done) | (go_simp; rfl)); (case hp => exact (Reps.none _ _)); intro v355 w4 ho5 hb hg_ hnew_; clear hg_ hnew_; (first | rw [← Ny354.out] at ho5 | (simp only [Int.reduceToNat] at ho5; rw [← Ny354.out] at ho5)); have HO356 := Aside0.mk (Kd.R_lower ho5 (below_size (by repeat (first | (with_reducible first | exact HB.out | apply below_alloc | apply pw_below_drewN | apply below_drew1 | refine below_set ?_ GE353.out) | exact HB.out)))); replace BK353 := Aside0.mk (blk_below (g := gb353) (o := .cells #[.int .i64 a0_0, .slice A0_1 l0_1.length c0_1, .slice A0_2 l0_2.length c0_2, .slice A0_3 l0_3.length c0_3, .slice A0_4 l0_4.length c0_4] 205 (0, 0)) (by (with_reducible repeat (first | refine blk_drewN ?_ _ | refine blk_drew ?_ | refine blk_alloc ?_ _)); exact BK353.out) hb); replace HB := Aside0.mk (below_step (by repeat (first | (with_reducible first | exact HB.out | apply below_alloc | apply pw_below_drewN | apply below_drew1 | refine below_set ?_ GE353.out) | exact HB.out)) hb); clear hb ho5; have hcz6_0 : w4.cell? ⟨gb353, 0, none⟩ = some (.int .i64 a0_0) := (blk_cell BK353.out 0).trans rfl; have hcz6_1 : w4.cell? ⟨gb353, 1, none⟩ = some (.slice A0_1 l0_1.length c0_1) := (blk_cell BK353.out 1).trans rfl; have hcz6_2 : w4.cell? ⟨gb353, 2, none⟩ = some (.slice A0_2 l0_2.length c0_2) := (blk_cell BK353.out 2).trans rfl; have hcz6_3 : w4.cell? ⟨gb353, 3, none⟩ = some (.slice A0_3 l0_3.length c0_3) := (blk_cell BK353.out 3).trans rfl; have hcz6_4 : w4.cell? ⟨gb353, 4, none⟩ = some (.slice A0_4 l0_4.length c0_4) := (blk_cell BK353.out 4).trans rfl; have hfz6_0 := blk_frozen BK353.out 0; have hfz6_1 := blk_frozen BK353.out 1; have hfz6_2 := blk_frozen BK353.out 2; have hfz6_3 := blk_frozen BK353.out 3; have hfz6_4 := blk_frozen BK353.out 4))
  go_loopg [5, 17] k (fun kq v5 v17 w' => ∃ (x5_1 : List Int) (x17_1 : Int), v17 = .int .i64 x17_1 ∧ Aside0 (impl_network_rulesIn.l0 kq l1 x5_1 l0_2 (l0_2.length : Int) x17_1 = some r) ∧ Aside0 (kq ≤ k) ∧ Aside0 (Kd.R (Kd.int .i64) 2 w' w.heap.size (fun _ => True) v5 x5_1) ∧ Aside0 (w'.heap[gb353]? = some (.cells #[.int .i64 a0_0, (.slice A0_1 l0_1.length c0_1), (.slice A0_2 l0_2.length c0_2), (.slice A0_3 l0_3.length c0_3), (.slice A0_4 l0_4.length c0_4)] 205 (0, 0))) ∧ Aside0 (Below w.heap.size w w'))
  case atStart => exact ⟨(y354), (0), (by first | rfl | (simp; done) | (simp [*]; done)), H', ⟨Nat.le_refl _⟩, ⟨by (with_reducible repeat (first | apply Kd.R_alloc | apply Kd.R_drewN | apply Kd.R_drew)); exact HO356.out⟩, ⟨by (with_reducible repeat (first | refine blk_drewN ?_ _ | refine blk_drew ?_ | refine blk_alloc ?_ _)); exact BK353.out⟩, ⟨by repeat (first | (with_reducible first | exact HB.out | apply below_alloc | apply pw_below_drewN | apply below_drew1 | refine below_set ?_ GE353.out) | exact HB.out)⟩⟩
  case round =>
    clear H'; (try clear c1); (try clear p2); (try clear hcz6_0); (try clear hcz6_1); (try clear hcz6_2); (try clear hcz6_3); (try clear hcz6_4); (try clear hfz6_0); (try clear hfz6_1); (try clear hfz6_2); (try clear hfz6_3); (try clear hfz6_4); obtain ⟨x5_1, x17_1, rfl, HA, HK1, HO_5, BK353, HB⟩ := hrel
    cases gk with
    | zero => exact absurd HA.out (by simp [impl_network_rulesIn.l0])
    | succ k1 =>
      have H := HA.out; clear HA
      simp only [impl_network_rulesIn.l0] at H
      by_cases c7 : x17_1 < (l0_2.length : Int)
      · rw [if_pos c7] at H
        have c7b0 : decide (x17_1 < (l0_2.length : Int)) = true := decide_eq_true c7; clear c7
        by_cases c8 : 0 ≤ x17_1
        · rw [if_pos c8] at H
          have c8b0 : decide (0 ≤ x17_1) = true := decide_eq_true c8; clear c8
          by_cases c9 : x17_1 < (l0_2.length : Int)
          · rw [if_pos c9] at H
            have c9b0 : decide (x17_1 < (l0_2.length : Int)) = true := decide_eq_true c9; clear c9; replace H := Option.bind_eq_some_iff.mp H; obtain ⟨⟨t359, t360⟩, A100, H⟩ := H; replace H : (if t360 = true then (if x5_1.length < 17592186044416 then (impl_network_rulesIn.l0 k1 l1 (x5_1 ++ [(rd_T138 l0_2 x17_1).f1]) l0_2 (l0_2.length : Int) (wrap64 (x17_1 + 1))) else (none)) else (impl_network_rulesIn.l0 k1 l1 x5_1 l0_2 (l0_2.length : Int) (wrap64 (x17_1 + 1)))) = some r := H; have A10 := Aside0.mk A100; clear A100
            by_cases c11 : t360 = true
            · subst c11
              have H1 : (if x5_1.length < 17592186044416 then (impl_network_rulesIn.l0 k1 l1 (x5_1 ++ [(rd_T138 l0_2 x17_1).f1]) l0_2 (l0_2.length : Int) (wrap64 (x17_1 + 1))) else (none)) = some r := by rw [if_pos rfl] at H; exact H
              clear H; have H := H1; clear H1
              by_cases c12 : x5_1.length < 17592186044416
              · rw [if_pos c12] at H
                have LMc12 := Aside0.mk c12; clear c12; obtain ⟨y361, hy361⟩ : ∃ y_ : List Int, y_ = (x5_1 ++ [(rd_T138 l0_2 x17_1).f1]) := ⟨_, rfl⟩
                replace H : (impl_network_rulesIn.l0 k1 l1 y361 l0_2 (l0_2.length : Int) (wrap64 (x17_1 + 1))) = some r := by first | (rw [hy361]; with_reducible exact H) | (have H2_ := (Option.bind_some _ _).symm.trans H; rw [hy361]; with_reducible exact H2_) | (have H2_ := (Option.bind_some _ _).symm.trans H; with_reducible exact H2_) | with_reducible exact H | (rw [hy361]; exact H) | exact H
                have Ny361 := Aside0.mk hy361; clear hy361; have H' := Aside0.mk H; clear H; have p357 : 0 ≤ (x17_1 : Int) := of_decide_eq_true (by assumption); have q357 : x17_1 < (l0_2.length : Int) := of_decide_eq_true (by assumption); obtain ⟨ad357, e357, hx357_0, hx357_1⟩ := at_T138 HR0_2.out x17_1 p357 q357; cases e357; replace hx357_0 := (HB.out.cell (World.block_lt_of_cell? w _ hx357_0)).trans hx357_0; replace hx357_1 := (HB.out.cell (World.block_lt_of_cell? w _ hx357_1)).trans hx357_1; replace p357 := eq_true p357; replace q357 := eq_true q357
                go_wp2_with (first | ((with_reducible refine gate_dst (N := 7) rfl ?_); refine box_event ?hg (N := 7) ?hd (cs := #[.int .i64 0, .int .i64 0]) (t := 138) ?hr ?_; (case hd => rfl); (case hg => rfl); (case hr => first | (go_simp; done) | (go_simp; rfl)); intro gb358 hg w13 hbox hb; replace HO_5 := Aside0.mk (Kd.R_below (by (with_reducible repeat (first | apply Kd.R_alloc | apply Kd.R_drewN | apply Kd.R_drew)); exact HO_5.out) hb); have BK358 := Aside0.mk (hbox); have GW358 := Aside0.mk ((by rw [hg]; exact (below_size (by repeat (first | (with_reducible first | exact HB.out | apply below_alloc | apply pw_below_drewN | apply below_drew1 | refine below_set ?_ GE353.out) | exact HB.out))) : w.heap.size ≤ gb358)); have GE358 := Aside0.mk ((by rw [hg]; exact (below_size (by repeat (first | (with_reducible first | exact HB.out | apply below_alloc | apply pw_below_drewN | apply below_drew1 | refine below_set ?_ GE353.out) | exact HB.out))) : w.heap.size ≤ gb358)); replace HB := Aside0.mk (below_step (by repeat (first | (with_reducible first | exact HB.out | apply below_alloc | apply pw_below_drewN | apply below_drew1 | refine below_set ?_ GE353.out) | exact HB.out)) hb); have NB353_358 := Aside0.mk ((by rw [hg]; exact Nat.ne_of_lt (blk_lt (g := gb353) (o := .cells #[.int .i64 a0_0, .slice A0_1 l0_1.length c0_1, .slice (some ad357) l0_2.length c0_2, .slice A0_3 l0_3.length c0_3, .slice A0_4 l0_4.length c0_4] 205 (0, 0)) (by (with_reducible repeat (first | refine blk_drewN ?_ _ | refine blk_drew ?_ | refine blk_alloc ?_ _)); exact BK353.out)) : gb353 ≠ gb358)); have NB358_353 := Aside0.mk ((by rw [hg]; exact Nat.ne_of_gt (blk_lt (g := gb353) (o := .cells #[.int .i64 a0_0, .slice A0_1 l0_1.length c0_1, .slice (some ad357) l0_2.length c0_2, .slice A0_3 l0_3.length c0_3, .slice A0_4 l0_4.length c0_4] 205 (0, 0)) (by (with_reducible repeat (first | refine blk_drewN ?_ _ | refine blk_drew ?_ | refine blk_alloc ?_ _)); exact BK353.out)) : gb358 ≠ gb353)); replace BK353 := Aside0.mk (blk_below (g := gb353) (o := .cells #[.int .i64 a0_0, .slice A0_1 l0_1.length c0_1, .slice (some ad357) l0_2.length c0_2, .slice A0_3 l0_3.length c0_3, .slice A0_4 l0_4.length c0_4] 205 (0, 0)) (by (with_reducible repeat (first | refine blk_drewN ?_ _ | refine blk_drew ?_ | refine blk_alloc ?_ _)); exact BK353.out) hb); clear hb hbox hg; have hnb14 := NB358_353.out; have hnc14 := NB353_358.out; have hcz15_0 : w13.cell? ⟨gb358, 0, none⟩ = some (.int .i64 0) := (blk_cell BK358.out 0).trans rfl; have hcz15_1 : w13.cell? ⟨gb358, 1, none⟩ = some (.int .i64 0) := (blk_cell BK358.out 1).trans rfl; have hfz15_0 := blk_frozen BK358.out 0; have hfz15_1 := blk_frozen BK358.out 1) | ((with_reducible refine gate_callee (f := 171) rfl ?_); refine goesL_ (some 25) rfl rfl Try.func171 (by kernel_rfl) rfl #[.slice A1 l1.length c1, .int .i64 ((rd_T138 l0_2 x17_1).f0)] rfl (by (try simp only [List.map_toArray, List.map_cons, List.map_nil]); first | done | rfl | (simp only [List.length_drop, List.length_take]; rfl)) ?_; (with_reducible refine (slices_BinarySearch_int64_int64.calls k1 _ _ l1 ((rd_T138 l0_2 x17_1).f0) t359 true _ ?side1 ?side2 A10.out).mono ?_); (case side1 => exact Kd.C_below HR1.out (by repeat (first | (with_reducible first | exact HB.out | apply below_alloc | apply pw_below_drewN | apply below_drew1 | refine below_set ?_ GE353.out | refine below_set ?_ GE358.out) | exact HB.out))); (case side2 => exact HC1.out); rintro e w' ⟨rfl, ⟨nd, rfl⟩⟩; refine ⟨_, rfl, ?_⟩) | ((with_reducible refine gate_builtin (b := .append) (xs := #[.tmp 29, .tmp 32]) rfl ?_); at_builtin; refine Kd.R_append (Kd.int .i64) (w0 := w) w.heap.size rfl (.tmp 29) (.tmp 32) 29 2 (.int .i64 0) 8 rfl Try.underlying29 info2 rfl (by decide) (by omega) u5 x5_1 ((rd_T138 l0_2 x17_1).f1) [.int .i64 ((rd_T138 l0_2 x17_1).f1)] (fun _ => True) (fun _ => False) rfl (by first | (go_simp; done) | (go_simp; rfl)) ?aP (fun _ hk => hk.elim) ?aF ?aO ?aB ?aS ?aL ?_; (case aP => exact rfl); (case aB => exact (by repeat (first | (with_reducible first | exact HB.out | apply below_alloc | apply pw_below_drewN | apply below_drew1 | refine below_set ?_ GE353.out | refine below_set ?_ GE358.out) | exact HB.out))); (case aF => exact (fun _ _ => trivial)); (case aO => exact (by (with_reducible repeat (first | apply Kd.R_alloc | apply Kd.R_drewN | apply Kd.R_drew)); exact Kd.R_mono (Kd.R_far (p := ⟨gb358, 1, none⟩) (Kd.R_far (p := ⟨gb358, 0, none⟩) (Kd.R_types HO_5.out BK358.out (by decide)) (fun _ hk => hk.2) (.int .i64 ((rd_T138 l0_2 x17_1).f0))) (fun _ hk => hk.2) (.int .i64 ((rd_T138 l0_2 x17_1).f1))) (fun _ hk => trivial))); (case aS => exact (below_size (by repeat (first | (with_reducible first | exact HB.out | apply below_alloc | apply pw_below_drewN | apply below_drew1 | refine below_set ?_ GE353.out | refine below_set ?_ GE358.out) | exact HB.out)))); (case aL => have := LMc12.out; omega); intro v362 w16 ho hb hg hat; rw [← Ny361.out] at ho; replace BK353 := Aside0.mk (blk_grown (g := gb353) (o := .cells #[.int .i64 a0_0, .slice A0_1 l0_1.length c0_1, .slice (some ad357) l0_2.length c0_2, .slice A0_3 l0_3.length c0_3, .slice A0_4 l0_4.length c0_4] 205 (0, 0)) (by (with_reducible repeat (first | refine blk_drewN ?_ _ | refine blk_drew ?_ | refine blk_alloc ?_ _)); refine blk_far ?_ NB353_358.out _; (with_reducible repeat (first | refine blk_drewN ?_ _ | refine blk_drew ?_ | refine blk_alloc ?_ _)); refine blk_far ?_ NB353_358.out _; (with_reducible repeat (first | refine blk_drewN ?_ _ | refine blk_drew ?_ | refine blk_alloc ?_ _)); exact BK353.out) hg (Kd.R_ne HO_5.out BK353.out (by decide))); replace BK358 := Aside0.mk (blk_grown (g := gb358) (o := .cells #[.int .i64 ((rd_T138 l0_2 x17_1).f0), .int .i64 ((rd_T138 l0_2 x17_1).f1)] 138 (0, 0)) (by (with_reducible repeat (first | refine blk_drewN ?_ _ | refine blk_drew ?_ | refine blk_alloc ?_ _)); refine blk_put (cs := #[.int .i64 ((rd_T138 l0_2 x17_1).f0), .int .i64 0]) ?_ 1 _ rfl; (with_reducible repeat (first | refine blk_drewN ?_ _ | refine blk_drew ?_ | refine blk_alloc ?_ _)); refine blk_put (cs := #[.int .i64 0, .int .i64 0]) ?_ 0 _ rfl; (with_reducible repeat (first | refine blk_drewN ?_ _ | refine blk_drew ?_ | refine blk_alloc ?_ _)); exact BK358.out) hg (Kd.R_ne HO_5.out BK358.out (by decide))); replace HB := Aside0.mk (hb); have HO363 := Aside0.mk (ho); clear HO_5; clear ho hb hg hat))
                go_roundg k1
                case measure => have := HK1.out; omega
                case rel => exact ⟨(y361), (wrap64 (x17_1 + 1)), (by first | rfl | (simp; done) | (simp [*]; done)), H', ⟨by have := HK1.out; omega⟩, ⟨by (with_reducible repeat (first | apply Kd.R_alloc | apply Kd.R_drewN | apply Kd.R_drew)); exact HO363.out⟩, ⟨by (with_reducible repeat (first | refine blk_drewN ?_ _ | refine blk_drew ?_ | refine blk_alloc ?_ _)); exact BK353.out⟩, ⟨by repeat (first | (with_reducible first | exact HB.out | apply below_alloc | apply pw_below_drewN | apply below_drew1 | refine below_set ?_ GE353.out | refine below_set ?_ GE358.out) | exact HB.out)⟩⟩
              · rw [if_neg c12] at H
                exact absurd H (by simp)
            · replace c11 := Bool.eq_false_iff.mpr c11
              subst c11
              have H1 : (impl_network_rulesIn.l0 k1 l1 x5_1 l0_2 (l0_2.length : Int) (wrap64 (x17_1 + 1))) = some r := by rw [if_neg (show ¬ (false = true) by decide)] at H; exact H
              clear H; have H := H1; clear H1; have H' := Aside0.mk H; clear H; have p357 : 0 ≤ (x17_1 : Int) := of_decide_eq_true (by assumption); have q357 : x17_1 < (l0_2.length : Int) := of_decide_eq_true (by assumption); obtain ⟨ad357, e357, hx357_0, hx357_1⟩ := at_T138 HR0_2.out x17_1 p357 q357; cases e357; replace hx357_0 := (HB.out.cell (World.block_lt_of_cell? w _ hx357_0)).trans hx357_0; replace hx357_1 := (HB.out.cell (World.block_lt_of_cell? w _ hx357_1)).trans hx357_1; replace p357 := eq_true p357; replace q357 := eq_true q357
              go_wp2_with (first | ((with_reducible refine gate_dst (N := 7) rfl ?_); refine box_event ?hg (N := 7) ?hd (cs := #[.int .i64 0, .int .i64 0]) (t := 138) ?hr ?_; (case hd => rfl); (case hg => rfl); (case hr => first | (go_simp; done) | (go_simp; rfl)); intro gb358 hg w17 hbox hb; replace HO_5 := Aside0.mk (Kd.R_below (by (with_reducible repeat (first | apply Kd.R_alloc | apply Kd.R_drewN | apply Kd.R_drew)); exact HO_5.out) hb); have BK358 := Aside0.mk (hbox); have GW358 := Aside0.mk ((by rw [hg]; exact (below_size (by repeat (first | (with_reducible first | exact HB.out | apply below_alloc | apply pw_below_drewN | apply below_drew1 | refine below_set ?_ GE353.out) | exact HB.out))) : w.heap.size ≤ gb358)); have GE358 := Aside0.mk ((by rw [hg]; exact (below_size (by repeat (first | (with_reducible first | exact HB.out | apply below_alloc | apply pw_below_drewN | apply below_drew1 | refine below_set ?_ GE353.out) | exact HB.out))) : w.heap.size ≤ gb358)); replace HB := Aside0.mk (below_step (by repeat (first | (with_reducible first | exact HB.out | apply below_alloc | apply pw_below_drewN | apply below_drew1 | refine below_set ?_ GE353.out) | exact HB.out)) hb); have NB353_358 := Aside0.mk ((by rw [hg]; exact Nat.ne_of_lt (blk_lt (g := gb353) (o := .cells #[.int .i64 a0_0, .slice A0_1 l0_1.length c0_1, .slice (some ad357) l0_2.length c0_2, .slice A0_3 l0_3.length c0_3, .slice A0_4 l0_4.length c0_4] 205 (0, 0)) (by (with_reducible repeat (first | refine blk_drewN ?_ _ | refine blk_drew ?_ | refine blk_alloc ?_ _)); exact BK353.out)) : gb353 ≠ gb358)); have NB358_353 := Aside0.mk ((by rw [hg]; exact Nat.ne_of_gt (blk_lt (g := gb353) (o := .cells #[.int .i64 a0_0, .slice A0_1 l0_1.length c0_1, .slice (some ad357) l0_2.length c0_2, .slice A0_3 l0_3.length c0_3, .slice A0_4 l0_4.length c0_4] 205 (0, 0)) (by (with_reducible repeat (first | refine blk_drewN ?_ _ | refine blk_drew ?_ | refine blk_alloc ?_ _)); exact BK353.out)) : gb358 ≠ gb353)); replace BK353 := Aside0.mk (blk_below (g := gb353) (o := .cells #[.int .i64 a0_0, .slice A0_1 l0_1.length c0_1, .slice (some ad357) l0_2.length c0_2, .slice A0_3 l0_3.length c0_3, .slice A0_4 l0_4.length c0_4] 205 (0, 0)) (by (with_reducible repeat (first | refine blk_drewN ?_ _ | refine blk_drew ?_ | refine blk_alloc ?_ _)); exact BK353.out) hb); clear hb hbox hg; have hnb18 := NB358_353.out; have hnc18 := NB353_358.out; have hcz19_0 : w17.cell? ⟨gb358, 0, none⟩ = some (.int .i64 0) := (blk_cell BK358.out 0).trans rfl; have hcz19_1 : w17.cell? ⟨gb358, 1, none⟩ = some (.int .i64 0) := (blk_cell BK358.out 1).trans rfl; have hfz19_0 := blk_frozen BK358.out 0; have hfz19_1 := blk_frozen BK358.out 1) | ((with_reducible refine gate_callee (f := 171) rfl ?_); refine goesL_ (some 25) rfl rfl Try.func171 (by kernel_rfl) rfl #[.slice A1 l1.length c1, .int .i64 ((rd_T138 l0_2 x17_1).f0)] rfl (by (try simp only [List.map_toArray, List.map_cons, List.map_nil]); first | done | rfl | (simp only [List.length_drop, List.length_take]; rfl)) ?_; (with_reducible refine (slices_BinarySearch_int64_int64.calls k1 _ _ l1 ((rd_T138 l0_2 x17_1).f0) t359 false _ ?side1 ?side2 A10.out).mono ?_); (case side1 => exact Kd.C_below HR1.out (by repeat (first | (with_reducible first | exact HB.out | apply below_alloc | apply pw_below_drewN | apply below_drew1 | refine below_set ?_ GE353.out | refine below_set ?_ GE358.out) | exact HB.out))); (case side2 => exact HC1.out); rintro e w' ⟨rfl, ⟨nd, rfl⟩⟩; refine ⟨_, rfl, ?_⟩))
              go_roundg k1
              case measure => have := HK1.out; omega
              case rel => exact ⟨(x5_1), (wrap64 (x17_1 + 1)), (by first | rfl | (simp; done) | (simp [*]; done)), H', ⟨by have := HK1.out; omega⟩, ⟨by (with_reducible repeat (first | apply Kd.R_alloc | apply Kd.R_drewN | apply Kd.R_drew)); exact Kd.R_mono (Kd.R_far (p := ⟨gb358, 1, none⟩) (Kd.R_far (p := ⟨gb358, 0, none⟩) (Kd.R_types HO_5.out BK358.out (by decide)) (fun _ hk => hk.2) (.int .i64 ((rd_T138 l0_2 x17_1).f0))) (fun _ hk => hk.2) (.int .i64 ((rd_T138 l0_2 x17_1).f1))) (fun _ hk => trivial)⟩, ⟨by (with_reducible repeat (first | refine blk_drewN ?_ _ | refine blk_drew ?_ | refine blk_alloc ?_ _)); refine blk_far ?_ NB353_358.out _; (with_reducible repeat (first | refine blk_drewN ?_ _ | refine blk_drew ?_ | refine blk_alloc ?_ _)); refine blk_far ?_ NB353_358.out _; (with_reducible repeat (first | refine blk_drewN ?_ _ | refine blk_drew ?_ | refine blk_alloc ?_ _)); exact BK353.out⟩, ⟨by repeat (first | (with_reducible first | exact HB.out | apply below_alloc | apply pw_below_drewN | apply below_drew1 | refine below_set ?_ GE353.out | refine below_set ?_ GE358.out) | exact HB.out)⟩⟩
          · rw [if_neg c9] at H
            exact absurd H (by simp)
        · rw [if_neg c8] at H
          exact absurd H (by simp)
      · rw [if_neg c7] at H
        have c7b0 : decide (x17_1 < (l0_2.length : Int)) = false := decide_eq_false c7; clear c7; obtain rfl := Option.some.inj H
        go_wp2
        go_ret
        exact ⟨_, by first | rfl | (simp [errW_none, errW_some] <;> rfl) | (simp [*, errW_none, errW_some] <;> rfl), by (with_reducible repeat (first | apply Kd.R_alloc | apply Kd.R_drewN | apply Kd.R_drew)); exact HO_5.out, by repeat (first | (with_reducible first | exact HB.out | apply below_alloc | apply pw_below_drewN | apply below_drew1 | refine below_set ?_ GE353.out) | exact HB.out)⟩

/-! ### impl_NfaMatch: function 32 -/
def impl_NfaMatch.l0 : Nat → ByteArray → List Int → Int → Int → List S198 → List S138 → List (List Int) → List (List Int) → Option (List Int)
  | 0, _, _, _, _, _, _, _, _ => none
  | k + 1, s, st, i, a0, l1, l2, fr, sx => if i < (s.size : Int) then (if 0 ≤ i then ((impl_network_move.f k a0 l1 l2 fr sx st (bt s i)).bind fun t => impl_NfaMatch.l0 k s t (wrap64 (i + 1)) a0 l1 l2 fr sx) else none) else impl_network_rulesIn.f k a0 l1 l2 fr sx st
def impl_NfaMatch.f (k : Nat) (a0_0 : Int) (l0_1 : List S198) (l0_2 : List S138) (a1 : ByteArray) : Option (List Int) :=
  if (a1.size : Int) > 300 then some [] else (impl_NfaOk.f k a0_0 l0_1 l0_2).bind fun b => if b = true then ((impl_newNetwork.f k a0_0 l0_1 l0_2).bind fun p => (impl_network_closure.f k a0_0 l0_1 l0_2 p.1 p.2 [0]).bind fun t => impl_NfaMatch.l0 k a1 t 0 a0_0 l0_1 l0_2 p.1 p.2) else some []
theorem impl_NfaMatch.mono_l : ∀ k, (∀ y0 y1 y2 y3 y4 y5 y6 y7, LeO (impl_NfaMatch.l0 k y0 y1 y2 y3 y4 y5 y6 y7) (impl_NfaMatch.l0 (k + 1) y0 y1 y2 y3 y4 y5 y6 y7))
  | 0 => fun _ _ _ _ _ _ _ _ r h => by simp [impl_NfaMatch.l0] at h
  | k + 1 => by
    have ih := impl_NfaMatch.mono_l k; intro y0 y1 y2 y3 y4 y5 y6 y7
    unfold impl_NfaMatch.l0
    exact LeO.ite (LeO.ite (LeO.bind (impl_network_move.mono _ _ _ _ _ _ _ _) (fun _ => ih _ _ _ _ _ _ _ _)) (LeO.refl _)) (impl_network_rulesIn.mono _ _ _ _ _ _ _)
theorem impl_NfaMatch.mono : ∀ a0 a1 a2 a3 k, LeO (impl_NfaMatch.f k a0 a1 a2 a3) (impl_NfaMatch.f (k + 1) a0 a1 a2 a3) := by
  intro a0 a1 a2 a3 k
  unfold impl_NfaMatch.f
  exact LeO.ite (LeO.refl _) (LeO.bind (impl_NfaOk.mono _ _ _ _) (fun _ => LeO.ite (LeO.bind (impl_newNetwork.mono _ _ _ _) (fun _ => LeO.bind (impl_network_closure.mono _ _ _ _ _ _ _) (fun _ => impl_NfaMatch.mono_l _ _ _ _ _ _ _ _ _))) (LeO.refl _)))
set_option maxHeartbeats 4000000 in
set_option maxRecDepth 100000 in
theorem impl_NfaMatch.calls (k : Nat) (a0_0 : Int) (A0_1 : Option Addr) (c0_1 : Nat) (l0_1 : List S198) (A0_2 : Option Addr) (c0_2 : Nat) (l0_2 : List S138) (a1 : ByteArray) (r : List Int) (w : World) (hr0_1 : Kd.C k198 w A0_1 l0_1.length l0_1) (hc0_1 : l0_1.length ≤ c0_1) (hr0_2 : Kd.C k138 w A0_2 l0_2.length l0_2) (hc0_2 : l0_2.length ≤ c0_2) (h : impl_NfaMatch.f k a0_0 l0_1 l0_2 a1 = some r) :
    Calls Try.prog 32 #[.agg #[.int .i64 a0_0, .slice A0_1 l0_1.length c0_1, .slice A0_2 l0_2.length c0_2], .string a1] w fun e w' => ∃ v0_ : Value, e = .returned (v0_) ∧ Kd.R (Kd.int .i64) 2 w' w.heap.size (fun _ => True) v0_ r ∧ Below w.heap.size w w' := by
  have HR1 := Aside0.mk hr0_1
  have HC1 := Aside0.mk hc0_1
  have HR2 := Aside0.mk hr0_2
  have HC2 := Aside0.mk hc0_2
  clear hr0_1 hc0_1 hr0_2 hc0_2
  have hu := Try.underlying44
  unfold impl_NfaMatch.f at h
  obtain ⟨W, hWe⟩ : ∃ W, W = (w.alloc (.cells #[.int .i64 a0_0, .slice A0_1 l0_1.length c0_1, .slice A0_2 l0_2.length c0_2] 44)) := ⟨_, rfl⟩
  have hW0 : W.heap[w.heap.size]? = some (.cells #[.int .i64 a0_0, .slice A0_1 l0_1.length c0_1, .slice A0_2 l0_2.length c0_2] 44 (0, 0)) := by rw [hWe]; exact heap_alloc_new w _
  have hbW : Below w.heap.size w W := by rw [hWe]; exact (Below.refl _ _).alloc (Nat.le_refl _) _
  have z0 := blk_cell hW0 0
  have z1 := blk_cell hW0 1
  have z2 := blk_cell hW0 2
  simp only [List.getElem?_toArray, List.getElem?_cons_zero, List.getElem?_cons_succ] at z0 z1 z2
  have HW0 := Aside0.mk hW0
  have HBW := Aside0.mk hbW
  have HWE := Aside0.mk hWe
  clear hbW hWe hW0
  by_cases cs : (a1.size : Int) > 300
  · rw [if_pos cs] at h
    obtain rfl := Option.some.inj h; have cs1 : decide (300 < (a1.size : Int)) = true := decide_eq_true cs; have cs2 : decide (300 < a1.size) = true := decide_eq_true (by omega); clear cs h
    go_enter Try.func32, Try.ntmps32
    go_wp2_with fail
    go_ret
    exact ⟨_, by first | rfl | (simp; done) | (simp [*]; done), Kd.R_nil _ _ _ _ _, by rw [← HWE.out]; exact HBW.out⟩
  rw [if_neg cs] at h
  have cs1 : decide (300 < (a1.size : Int)) = false := decide_eq_false cs
  have cs2 : decide (300 < a1.size) = false := decide_eq_false (by omega)
  have CS := Aside0.mk (show a1.size ≤ 300 by omega)
  clear cs
  obtain ⟨t, ht, h⟩ := Option.bind_eq_some_iff.1 h
  have HT := Aside0.mk ht
  have HH := Aside0.mk h
  clear ht h
  go_enter Try.func32, Try.ntmps32
  go_wp2_with fail
  rw [← HWE.out]
  clear HWE
  refine (impl_NfaOk.calls k _ _ _ l0_1 _ _ l0_2 t _ ?s1 HC1.out ?s2 HC2.out HT.out).mono ?_
  case s1 => repeat (first | exact Kd.C_below HR1.out HBW.out | (with_reducible refine Kd.C_drewN ?_ _) | (with_reducible refine Kd.C_drew ?_))
  case s2 => repeat (first | exact Kd.C_below HR2.out HBW.out | (with_reducible refine Kd.C_drewN ?_ _) | (with_reducible refine Kd.C_drew ?_))
  rintro e w5 ⟨rfl, hb5⟩
  have HBX := Aside0.mk (below_step (show Below w.heap.size w _ from by repeat (first | exact HBW.out | apply pw_below_drewN)) hb5)
  have HG := Aside0.mk ((hb5.block _ (by first | exact blk_lt HW0.out | (have := blk_lt HW0.out; simpa using this))).trans HW0.out)
  clear hb5 z0 z1 z2 HBW HW0
  have z0 := blk_cell HG.out 0
  have z1 := blk_cell HG.out 1
  have z2 := blk_cell HG.out 2
  simp only [List.getElem?_toArray, List.getElem?_cons_zero, List.getElem?_cons_succ] at z0 z1 z2
  cases t with
  | false =>
    have hr := Option.some.inj ((if_neg (by simp)).symm.trans HH.out); subst hr; clear HH
    go_wp2
    go_ret
    exact ⟨_, by first | rfl | (simp; done) | (simp [*]; done), Kd.R_nil _ _ _ _ _, HBX.out⟩
  | true =>
    have h := (if_pos rfl).symm.trans HH.out; clear HH; obtain ⟨p, hp, h⟩ := Option.bind_eq_some_iff.1 h; have HP := Aside0.mk hp; obtain ⟨tc, hq, h⟩ := Option.bind_eq_some_iff.1 h; have HQ := Aside0.mk hq; have HH := Aside0.mk h; clear hp hq h
    go_wp2_with fail
    refine (impl_newNetwork.calls k _ _ _ l0_1 _ _ l0_2 p.1 p.2 _ ?s4 HC1.out ?s5 HC2.out HP.out).mono ?_
    case s4 => repeat (first | exact Kd.C_below HR1.out HBX.out | (with_reducible refine Kd.C_drewN ?_ _) | (with_reducible refine Kd.C_drew ?_))
    case s5 => repeat (first | exact Kd.C_below HR2.out HBX.out | (with_reducible refine Kd.C_drewN ?_ _) | (with_reducible refine Kd.C_drew ?_))
    rintro e w6 ⟨gn, rfl, v3, v4, hgn, _, hS3, hS4, hb6⟩
    obtain ⟨A3, c3, e3, l3, hR3⟩ := Kd.R_reads (Kd.S_R hS3); obtain ⟨A4, c4, e4, l4, hR4⟩ := Kd.R_reads (Kd.S_R hS4); subst e3; subst e4; have HN := Aside0.mk hgn; have H3 := Aside0.mk hR3; have H4 := Aside0.mk hR4; have L3 := Aside0.mk l3; have L4 := Aside0.mk l4; have HBY := Aside0.mk (below_step (show Below w.heap.size w _ from by repeat (first | exact HBX.out | apply pw_below_drewN)) hb6); clear hgn hS3 hS4 hR3 hR4 l3 l4 hb6 z0 z1 z2 HG HBX
    go_wp2_with (first | ((with_reducible refine gate_dst (N := 19) rfl ?_); refine Kd.R_lit (Kd.int .i64) _ 2 ?hg (N := 19) ?hd (xs := [0]) (inner := [.int .i64 0]) (ok := fun _ => True) (okp := fun _ => True) ?hr ?hp (fun _ hk => hk) trivial (Below.refl _ _) (Nat.le_refl _) (by simp) ?_; (case hd => rfl); (case hg => rfl); (case hr => first | (go_simp; done) | (go_simp; rfl)); (case hp => exact Reps.snoc (Reps.none _ _) rfl rfl); intro v19 w19 ho hb hg_ hnew_; clear hg_ hnew_; have HN := Aside0.mk ((hb.block _ (by first | exact blk_lt HN.out | (have := blk_lt HN.out; simpa using this))).trans HN.out); have H3 := Aside0.mk (Kd.C_below (by repeat (first | exact H3.out | (with_reducible refine Kd.C_drewN ?_ _))) hb); have H4 := Aside0.mk (Kd.C_below (by repeat (first | exact H4.out | (with_reducible refine Kd.C_drewN ?_ _))) hb); have HBY := Aside0.mk (below_step (show Below w.heap.size w _ from by repeat (first | exact HBY.out | apply pw_below_drewN)) hb); obtain ⟨A9, c9, e9, l9, hR9⟩ := Kd.R_reads ho; subst e9; have H9 := Aside0.mk hR9; have L9 := Aside0.mk l9; clear ho hb hR9 l9))
    refine (impl_network_closure.calls k gn a0_0 A0_1 c0_1 l0_1 A0_2 c0_2 l0_2 A3 c3 p.1 A4 c4 p.2 _ _ [0] tc _ ?s6 HC1.out ?s7 HC2.out ?s8 L3.out ?s9 L4.out ?s10 L9.out ?s11 HQ.out).mono ?_
    case s6 => repeat (first | exact Kd.C_below HR1.out HBY.out | (with_reducible refine Kd.C_drewN ?_ _) | (with_reducible refine Kd.C_drew ?_))
    case s7 => repeat (first | exact Kd.C_below HR2.out HBY.out | (with_reducible refine Kd.C_drewN ?_ _) | (with_reducible refine Kd.C_drew ?_))
    case s8 => repeat (first | exact H3.out | (with_reducible refine Kd.C_drewN ?_ _) | (with_reducible refine Kd.C_drew ?_))
    case s9 => repeat (first | exact H4.out | (with_reducible refine Kd.C_drewN ?_ _) | (with_reducible refine Kd.C_drew ?_))
    case s10 => repeat (first | exact H9.out | (with_reducible refine Kd.C_drewN ?_ _) | (with_reducible refine Kd.C_drew ?_))
    case s11 => repeat (first | exact HN.out | (with_reducible refine blk_drewN ?_ _) | (with_reducible refine blk_drew ?_))
    rintro e w7 ⟨v, rfl, hv, hb7⟩
    have HV := Aside0.mk (Kd.R_lower hv (show w.heap.size ≤ _ from below_size (show Below w.heap.size w _ from by repeat (first | exact HBY.out | apply pw_below_drewN)))); have HN := Aside0.mk ((hb7.block _ (by first | exact blk_lt HN.out | (have := blk_lt HN.out; simpa using this))).trans HN.out); have H3 := Aside0.mk (Kd.C_below (by repeat (first | exact H3.out | (with_reducible refine Kd.C_drewN ?_ _))) hb7); have H4 := Aside0.mk (Kd.C_below (by repeat (first | exact H4.out | (with_reducible refine Kd.C_drewN ?_ _))) hb7); have HBZ := Aside0.mk (below_step (show Below w.heap.size w _ from by repeat (first | exact HBY.out | apply pw_below_drewN)) hb7); clear hv hb7 HBY HQ H9 L9
    go_wp2
    go_loopg [6, 23] k (fun kq v6 v23 w' => ∃ (x6 : List Int) (i : Int), v23 = .int .i64 i ∧ Aside0 (impl_NfaMatch.l0 kq a1 x6 i a0_0 l0_1 l0_2 p.1 p.2 = some r) ∧ Aside0 (kq ≤ k) ∧ Aside0 (Kd.R (Kd.int .i64) 2 w' w.heap.size (fun _ => True) v6 x6) ∧ Aside0 (w'.heap[gn]? = some (.cells #[.int .i64 a0_0, .slice A0_1 l0_1.length c0_1, .slice A0_2 l0_2.length c0_2, .slice A3 p.1.length c3, .slice A4 p.2.length c4] 205 (0, 0))) ∧ Aside0 (Kd.C (Kd.slice 2 (Kd.int .i64)) w' A3 p.1.length p.1) ∧ Aside0 (Kd.C (Kd.slice 3 (Kd.int .i64)) w' A4 p.2.length p.2) ∧ Aside0 (Below w.heap.size w w'))
    case atStart => exact ⟨tc, 0, rfl, HH, ⟨Nat.le_refl _⟩, ⟨by repeat (first | exact HV.out | apply Kd.R_drewN)⟩, ⟨by repeat (first | exact HN.out | (with_reducible refine blk_drewN ?_ _))⟩, ⟨by repeat (first | exact H3.out | (with_reducible refine Kd.C_drewN ?_ _))⟩, ⟨by repeat (first | exact H4.out | (with_reducible refine Kd.C_drewN ?_ _))⟩, ⟨by repeat (first | exact HBZ.out | apply pw_below_drewN)⟩⟩
    case round =>
      clear HH HV HN H3 H4 HBZ; obtain ⟨x6, i, rfl, HA, HK1, HV, HN, H3, H4, HB⟩ := hrel
      cases gk with
      | zero => exact absurd HA.out (by simp [impl_NfaMatch.l0])
      | succ k1 =>
        have H := HA.out; clear HA
        simp only [impl_NfaMatch.l0] at H
        obtain ⟨A6, c6, e6, l6, hR6⟩ := Kd.R_reads HV.out; subst e6; have H6 := Aside0.mk hR6; have L6 := Aside0.mk l6; clear hR6 l6
        by_cases c : i < (a1.size : Int)
        · rw [if_pos c] at H
          by_cases c0 : 0 ≤ i
          case neg => rw [if_neg c0] at H; exact absurd H (by simp)
          rw [if_pos c0] at H
          obtain ⟨tm, hm, H⟩ := Option.bind_eq_some_iff.1 H; have HM := Aside0.mk hm; have H' := Aside0.mk H; have hbt := bt_at a1 i; have t0 := eq_true c; have t1 := eq_true c0; have t2 : decide (i < (a1.size : Int)) = true := decide_eq_true c; clear hm H c c0
          go_wp2_with fail
          refine (impl_network_move.calls k1 gn a0_0 A0_1 c0_1 l0_1 A0_2 c0_2 l0_2 A3 c3 p.1 A4 c4 p.2 _ _ x6 (bt a1 i) tm _ ?t6 HC1.out ?t7 HC2.out ?t8 L3.out ?t9 L4.out ?t10 L6.out ?t11 HM.out).mono ?_
          case t6 => repeat (first | exact Kd.C_below HR1.out HB.out | (with_reducible refine Kd.C_drewN ?_ _) | (with_reducible refine Kd.C_drew ?_))
          case t7 => repeat (first | exact Kd.C_below HR2.out HB.out | (with_reducible refine Kd.C_drewN ?_ _) | (with_reducible refine Kd.C_drew ?_))
          case t8 => repeat (first | exact H3.out | (with_reducible refine Kd.C_drewN ?_ _) | (with_reducible refine Kd.C_drew ?_))
          case t9 => repeat (first | exact H4.out | (with_reducible refine Kd.C_drewN ?_ _) | (with_reducible refine Kd.C_drew ?_))
          case t10 => repeat (first | exact H6.out | (with_reducible refine Kd.C_drewN ?_ _) | (with_reducible refine Kd.C_drew ?_))
          case t11 => repeat (first | exact HN.out | (with_reducible refine blk_drewN ?_ _) | (with_reducible refine blk_drew ?_))
          rintro e w8 ⟨v8, rfl, hv, hb⟩
          have HV := Aside0.mk (Kd.R_lower hv (show w.heap.size ≤ _ from below_size (show Below w.heap.size w _ from by repeat (first | exact HB.out | apply pw_below_drewN)))); have HN := Aside0.mk ((hb.block _ (by first | exact blk_lt HN.out | (have := blk_lt HN.out; simpa using this))).trans HN.out); have H3 := Aside0.mk (Kd.C_below (by repeat (first | exact H3.out | (with_reducible refine Kd.C_drewN ?_ _))) hb); have H4 := Aside0.mk (Kd.C_below (by repeat (first | exact H4.out | (with_reducible refine Kd.C_drewN ?_ _))) hb); have HB := Aside0.mk (below_step (show Below w.heap.size w _ from by repeat (first | exact HB.out | apply pw_below_drewN)) hb); clear hv hb H6 L6 HM hbt
          go_wp2
          go_roundg k1
          case measure => have := HK1.out; omega
          case rel => exact ⟨tm, _, by first | rfl | (simp; done), H', ⟨by have := HK1.out; omega⟩, ⟨by repeat (first | exact HV.out | apply Kd.R_drewN)⟩, ⟨by repeat (first | exact HN.out | (with_reducible refine blk_drewN ?_ _))⟩, ⟨by repeat (first | exact H3.out | (with_reducible refine Kd.C_drewN ?_ _))⟩, ⟨by repeat (first | exact H4.out | (with_reducible refine Kd.C_drewN ?_ _))⟩, ⟨by repeat (first | exact HB.out | apply pw_below_drewN)⟩⟩
        · rw [if_neg c] at H
          have HM := Aside0.mk H; have t0 := eq_false c; have t2 : decide (i < (a1.size : Int)) = false := decide_eq_false c; clear H c
          go_wp2_with fail
          refine (impl_network_rulesIn.calls k1 gn a0_0 A0_1 c0_1 l0_1 A0_2 c0_2 l0_2 A3 c3 p.1 A4 c4 p.2 _ _ x6 r _ ?t6 HC1.out ?t7 HC2.out ?t8 L3.out ?t9 L4.out ?t10 L6.out ?t11 HM.out).mono ?_
          case t6 => repeat (first | exact Kd.C_below HR1.out HB.out | (with_reducible refine Kd.C_drewN ?_ _) | (with_reducible refine Kd.C_drew ?_))
          case t7 => repeat (first | exact Kd.C_below HR2.out HB.out | (with_reducible refine Kd.C_drewN ?_ _) | (with_reducible refine Kd.C_drew ?_))
          case t8 => repeat (first | exact H3.out | (with_reducible refine Kd.C_drewN ?_ _) | (with_reducible refine Kd.C_drew ?_))
          case t9 => repeat (first | exact H4.out | (with_reducible refine Kd.C_drewN ?_ _) | (with_reducible refine Kd.C_drew ?_))
          case t10 => repeat (first | exact H6.out | (with_reducible refine Kd.C_drewN ?_ _) | (with_reducible refine Kd.C_drew ?_))
          case t11 => repeat (first | exact HN.out | (with_reducible refine blk_drewN ?_ _) | (with_reducible refine blk_drew ?_))
          rintro e w8 ⟨v8, rfl, hv, hb⟩
          have HV := Aside0.mk (Kd.R_lower hv (show w.heap.size ≤ _ from below_size (show Below w.heap.size w _ from by repeat (first | exact HB.out | apply pw_below_drewN)))); have HB := Aside0.mk (below_step (show Below w.heap.size w _ from by repeat (first | exact HB.out | apply pw_below_drewN)) hb); clear hv hb
          go_wp2
          go_ret
          exact ⟨_, by first | rfl | (simp; done) | (simp [*]; done), by repeat (first | exact HV.out | apply Kd.R_drewN), by repeat (first | exact HB.out | apply pw_below_drewN)⟩

end Go.Proofs.Ytaemhmgcjpcicaa.PFnExactNfaMatch
