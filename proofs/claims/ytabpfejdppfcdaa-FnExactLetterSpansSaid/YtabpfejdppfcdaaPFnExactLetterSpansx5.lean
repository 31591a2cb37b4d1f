-- Written by this session's own program (wip/pr.py) over the kit's printer; contracts that the printer does not know are given by hand.
import Derived.Test.YtabpfejdppfcdaaPFnExactLetterSpansx0
import Derived.Test.YtabpfejdppfcdaaPFnExactLetterSpansx2
import Derived.Test.YtabpfejdppfcdaaPFnExactLetterSpansx3
import Derived.Test.YtabpfejdppfcdaaPFnExactLetterSpansx4
namespace Go.Proofs.Ytabpfejdppfcdaa.PFnExactLetterSpans
open Go.RowKit Go.Proofs.YtabpfejdppfcdaaW.PrintWords Go.Proofs.YtabpfejdppfcdaaW.PrintLast Go.Proofs.YtabpfejdppfcdaaW.PrintMore
attribute [local go_sem] max2_int min2_int max_two min_two max_three min_three max_four min_four   -- for this text's walks alone
set_option linter.unusedVariables false
set_option linter.unusedSimpArgs false

/-! ### laws_markSpanSS: function 43 -/
def laws_markSpanSS.l0 : Nat → List (List S148) → Int → Int → Option (Int × List (List S148))
  | 0, _, _, _ => none
  | k + 1, x0, x1, x5 => if x5 < (x0.length : Int) then (if 0 ≤ x5 then ((laws_markSpanS.f k (x0.getD (x5 : Int).toNat []) x1).bind fun bt => (laws_markSpanSS.l0 k (x0.set (x5 : Int).toNat bt.2) bt.1 (wrap64 (x5 + 1)))) else (none)) else (some (x1, x0))
def laws_markSpanSS.f (k : Nat) (l0 : List (List S148)) (a1 : Int) : Option (Int × List (List S148)) := laws_markSpanSS.l0 k l0 a1 0
theorem laws_markSpanSS.mono_l : ∀ k, (∀ y0 y1 y2, LeO (laws_markSpanSS.l0 k y0 y1 y2) (laws_markSpanSS.l0 (k + 1) y0 y1 y2))
  | 0 => fun _ _ _ r h => by simp [laws_markSpanSS.l0] at h
  | k + 1 => by
    have ih := laws_markSpanSS.mono_l k
    intro y0 y1 y2
    unfold laws_markSpanSS.l0
    repeat' first
      | (with_reducible exact ih _ _ _)
      | (with_reducible exact laws_markSpanS.mono _ _ _)
      | (with_reducible exact LeO.refl _)
      | (with_reducible refine LeO.ite ?_ ?_)
      | (with_reducible refine LeO.bind ?_ (fun _ => ?_))
theorem laws_markSpanSS.mono : ∀ a0 a1 k, LeO (laws_markSpanSS.f k a0 a1) (laws_markSpanSS.f (k + 1) a0 a1) := fun a0 a1 k => laws_markSpanSS.mono_l k a0 a1 0
set_option maxHeartbeats 1000000 in
set_option maxRecDepth 100000 in
theorem laws_markSpanSS.calls (k : Nat) (P0_ : Nat → Prop) (u9000_ : Value) (l0 : List (List S148)) (a1 : Int) (r1 : Int) (r2 : List (List S148)) (w0 w : World) (hB : Below w0.heap.size w0 w) (ho0 : Kd.S (Kd.slice 148 k148) 146 w w0.heap.size P0_ u9000_ l0) (h : laws_markSpanSS.f k l0 a1 = some (r1, r2)) :
    Calls Try.prog 43 #[u9000_, .int .i64 a1] w fun e w' => e = .returned (.int .i64 r1) ∧ Kd.S (Kd.slice 148 k148) 146 w' w0.heap.size (fun k_ => (P0_ k_ ∨ w.heap.size ≤ k_)) u9000_ r2 ∧ Below w0.heap.size w0 w' ∧ Kept w w' (fun k_ => P0_ k_) := by
  have HS := Aside0.mk (Kd.S_mono ho0 (fun k_ hk => (show P0_ k_ ∨ w.heap.size ≤ k_ from .inl hk)))
  have HB := Aside0.mk hB
  have HK := Aside0.mk (Kept.refl w (fun k_ => P0_ k_))
  have H := Aside0.mk (show laws_markSpanSS.l0 k l0 a1 0 = some (r1, r2) from h)
  have HL0 := Aside0.mk hB.size
  clear hB h
  obtain ⟨A0, c0, rfl⟩ := Kd.R_slice (Kd.S_R ho0)
  clear ho0
  go_enter Try.func43, Try.ntmps43
  go_wp2
  go_loopg [1, 5] k (fun kq v1 v5 w' => ∃ (x0_1 : List (List S148)) (x1_1 : Int) (x5_1 : Int), v1 = .int .i64 x1_1 ∧ v5 = .int .i64 x5_1 ∧ x0_1.length = l0.length ∧ Aside0 (laws_markSpanSS.l0 kq x0_1 x1_1 x5_1 = some (r1, r2)) ∧ Aside0 (kq ≤ k) ∧ Aside0 (Kd.S (Kd.slice 148 k148) 146 w' w0.heap.size (fun k_ => (P0_ k_ ∨ w.heap.size ≤ k_)) (.slice A0 l0.length c0) x0_1) ∧ Aside0 (Kept w w' (fun k_ => P0_ k_)) ∧ Aside0 (Below w0.heap.size w0 w'))
  case atStart => exact ⟨l0, a1, 0, rfl, rfl, rfl, H, ⟨Nat.le_refl _⟩, HS, HK, HB⟩
  case round =>
    clear H HS HK HB
    obtain ⟨x0, x1, x5, rfl, rfl, hlen, HA, HK1, HS, HK, HB⟩ := hrel
    cases gk with
    | zero => exact absurd HA.out (by simp [laws_markSpanSS.l0])
    | succ k1 =>
      have H := HA.out
      clear HA
      simp only [laws_markSpanSS.l0] at H
      have HLen := Aside0.mk hlen
      by_cases c3 : x5 < (x0.length : Int)
      · rw [if_pos c3] at H
        by_cases c4 : 0 ≤ x5
        · rw [if_pos c4] at H
          obtain ⟨⟨c', row'⟩, HCall, H⟩ := Option.bind_eq_some_iff.mp H
          have HC := Aside0.mk HCall
          have H' := Aside0.mk H
          clear H HCall
          obtain ⟨g, cap, hv, _, _, _⟩ := Kd.R_form (Kd.S_R HS.out) (by omega)
          have hA : A0 = some ⟨g, 0, none⟩ := by injection hv
          have hc : c0 = cap := by injection hv
          clear hv
          subst hA
          subst hc
          obtain ⟨oki, c, hcl, hM, hcc, hoki, hH⟩ := Kd.S_lend HS.out [] x5 c4 (by omega)
          obtain ⟨v, rfl, hR⟩ := hM
          have hx := hcc 0 v rfl
          have d1 : (Kd.slice 148 k148).sz = 1 := rfl
          rw [d1, Nat.mul_one, Nat.add_zero] at hx
          have HR := Aside0.mk hR
          have HH := Aside0.mk hH
          have HO := Aside0.mk hoki
          have t0 := eq_true c4
          have t1 := eq_true (show x5 < (l0.length : Int) by omega)
          have C34 := Aside0.mk (And.intro c3 c4)
          clear hcl hcc hH hR hoki hlen c3 c4 d1
          go_wp2_with fail
          refine (laws_markSpanS.calls k1 oki v (x0.getD (x5 : Int).toNat []) x1 c' row' w0 _ HB.out HR.out HC.out).mono ?_
          rintro e w2 ⟨rfl, hR2, hB2, hK2⟩
          have HR2 := Aside0.mk hR2
          have HB2 := Aside0.mk hB2
          have HK2 := Aside0.mk hK2
          clear hR2 hB2 hK2
          go_wp2
          go_roundg k1
          case measure => have := HK1.out; omega
          case rel =>
            refine ⟨x0.set (x5 : Int).toNat row', c', wrap64 (x5 + 1), rfl, by first | rfl | (simp; done), by rw [List.length_set]; exact HLen.out, H', ⟨by have := HK1.out; omega⟩, ⟨?_⟩, ⟨?_⟩, HB2⟩
            · refine Kd.H_back (Kd.H_kept (Kd.H_widen HH.out) HK2.out (fun k_ _ hn hk => hn (.inl hk))) (okp := fun k_ => oki k_ ∨ wr.heap.size ≤ k_) ⟨_, rfl, HR2.out⟩ (fun k_ hk => ?_)
              rcases hk with hk | hk
              · exact .inl hk
              · exact .inr ⟨.inr (Nat.le_trans HK.out.1 hk), hk⟩
            · exact Kept.then_ HK.out HK2.out (fun k_ hk => (HO.out k_ hk).1)
        · rw [if_neg c4] at H
          exact absurd H (by simp)
      · rw [if_neg c3] at H
        have c3b := eq_false (show ¬ x5 < (l0.length : Int) by omega)
        obtain ⟨rfl, rfl⟩ := Prod.mk.inj (Option.some.inj H)
        clear H c3 hlen
        go_wp2
        go_ret
        exact ⟨by first | rfl | (simp; done), HS.out, HB.out, HK.out⟩

/-! ### laws_heldSpanS: function 119 -/
def laws_heldSpanS.l0 : Nat → List (S148) → Int → Int → Option (Int)
  | 0, _, _, _ => none
  | k + 1, x0, x1, x5 => if x5 < (x0.length : Int) then (if 0 ≤ x5 then (if ((rd_T148 x0 x5).f0) = x1 then (if ((rd_T148 x0 x5).f1) = (wrap64 (x1 + 1)) then (laws_heldSpanS.l0 k x0 (wrap64 ((wrap64 (x1 + 1)) + 1)) (wrap64 (x5 + 1))) else (some (-1))) else (some (-1))) else (none)) else (some x1)
def laws_heldSpanS.f (k : Nat) (l0 : List (S148)) (a1 : Int) : Option (Int) := laws_heldSpanS.l0 k l0 a1 0
theorem laws_heldSpanS.mono_l : ∀ k, (∀ y0 y1 y2, LeO (laws_heldSpanS.l0 k y0 y1 y2) (laws_heldSpanS.l0 (k + 1) y0 y1 y2))
  | 0 => fun _ _ _ r h => by simp [laws_heldSpanS.l0] at h
  | k + 1 => by
    have ih0 := laws_heldSpanS.mono_l k
    · intro y0 y1 y2
      unfold laws_heldSpanS.l0
      repeat' first
      | (with_reducible exact ih0 _ _ _)
      | (with_reducible exact LeO.refl _)
      | (with_reducible exact LeO.none _)
      | (with_reducible refine LeO.ite ?_ ?_)
      | (with_reducible refine LeO.bind ?_ (fun _ => ?_))
      | exact ih0 _ _ _
      | exact LeO.none _
      | refine LeO.ite ?_ ?_
      | refine LeO.bind ?_ (fun _ => ?_)
theorem laws_heldSpanS.mono : ∀ a0 a1 k, LeO (laws_heldSpanS.f k a0 a1) (laws_heldSpanS.f (k + 1) a0 a1) := by
  intro a0 a1 k
  have ih0 := laws_heldSpanS.mono_l k
  unfold laws_heldSpanS.f
  repeat' first
      | (with_reducible exact ih0 _ _ _)
      | (with_reducible exact LeO.refl _)
      | (with_reducible exact LeO.none _)
      | (with_reducible refine LeO.ite ?_ ?_)
      | (with_reducible refine LeO.bind ?_ (fun _ => ?_))
      | exact ih0 _ _ _
      | exact LeO.none _
      | refine LeO.ite ?_ ?_
      | refine LeO.bind ?_ (fun _ => ?_)
set_option maxHeartbeats 8000000 in
set_option maxRecDepth 100000 in
theorem laws_heldSpanS.calls (k : Nat) (A0 : Option Addr) (c0 : Nat) (l0 : List (S148)) (a1 : Int) (r : Int) (w : World) (hr0 : Kd.C k148 w A0 l0.length l0) (hc0 : l0.length ≤ c0) (h : laws_heldSpanS.f k l0 a1 = some r) :
    Calls Try.prog 119 #[.slice A0 l0.length c0, .int .i64 a1] w fun e w' => e = .returned (.int .i64 r) ∧ Drawn0 w w' := by
  have HR0 := Aside0.mk hr0
  have HC0 := Aside0.mk hc0
  clear hr0 hc0
  have H : (laws_heldSpanS.l0 k l0 a1 0) = some r := h
  clear h
  have H' := Aside0.mk H
  clear H
  go_enter Try.func119, Try.ntmps119
  go_wp2
  go_loopg [1, 5] k (fun kq v1 v5 w' => ∃ (x1_1 : Int) (x5_1 : Int), v1 = .int .i64 x1_1 ∧ v5 = .int .i64 x5_1 ∧ Aside0 (laws_heldSpanS.l0 kq l0 x1_1 x5_1 = some r) ∧ Aside0 (kq ≤ k) ∧ Drawn0 w w')
  case atStart => exact ⟨(a1), (0), (by first | rfl | (simp; done) | (simp [*]; done)), (by first | rfl | (simp; done) | (simp [*]; done)), H', ⟨Nat.le_refl _⟩, by repeat (first | exact Drawn0.refl _ | apply Drawn0.step)⟩
  case round =>
    clear H'
    try clear c1
    try clear p2
    obtain ⟨x1_1, x5_1, rfl, rfl, HA, HK1, ⟨m1, rfl⟩⟩ := hrel
    cases gk with
    | zero => exact absurd HA.out (by simp [laws_heldSpanS.l0])
    | succ k1 =>
      have H := HA.out
      clear HA
      simp only [laws_heldSpanS.l0] at H
      by_cases c3 : x5_1 < (l0.length : Int)
      · rw [if_pos c3] at H
        have c3b0 : decide (x5_1 < (l0.length : Int)) = true := decide_eq_true c3
        clear c3
        by_cases c4 : 0 ≤ x5_1
        · rw [if_pos c4] at H
          have c4b0 : decide (0 ≤ x5_1) = true := decide_eq_true c4
          clear c4
          by_cases c5 : ((rd_T148 l0 x5_1).f0) = x1_1
          · rw [if_pos c5] at H
            have c5b0 : (((rd_T148 l0 x5_1).f0) == x1_1) = true := beq_iff_eq.mpr c5
            have c5b1 : (((rd_T148 l0 x5_1).f0) != x1_1) = false := bne_eq_false_iff_eq.mpr c5
            clear c5
            by_cases c6 : ((rd_T148 l0 x5_1).f1) = (wrap64 (x1_1 + 1))
            · rw [if_pos c6] at H
              have c6b0 : (((rd_T148 l0 x5_1).f1) == (wrap64 (x1_1 + 1))) = true := beq_iff_eq.mpr c6
              have c6b1 : (((rd_T148 l0 x5_1).f1) != (wrap64 (x1_1 + 1))) = false := bne_eq_false_iff_eq.mpr c6
              clear c6
              have H' := Aside0.mk H
              clear H
              have p190 : 0 ≤ (x5_1 : Int) := of_decide_eq_true (by first | (with_reducible assumption) | assumption)
              have q190 : x5_1 < (l0.length : Int) := of_decide_eq_true (by first | (with_reducible assumption) | assumption)
              obtain ⟨ad190, e190, hx190_0, hx190_1⟩ := at_T148 HR0.out x5_1 p190 q190
              cases e190
              replace p190 := eq_true p190
              replace q190 := eq_true q190
              have p191 : 0 ≤ (x5_1 : Int) := of_decide_eq_true (by first | (with_reducible assumption) | assumption)
              have q191 : x5_1 < (l0.length : Int) := of_decide_eq_true (by first | (with_reducible assumption) | assumption)
              obtain ⟨ad191, e191, hx191_0, hx191_1⟩ := at_T148 HR0.out x5_1 p191 q191
              obtain rfl : ad190 = ad191 := (by injection e191)
              replace p191 := eq_true p191
              replace q191 := eq_true q191
              go_wp2
              go_roundg k1
              case measure => have := HK1.out; omega
              case rel => exact ⟨(wrap64 ((wrap64 (x1_1 + 1)) + 1)), (wrap64 (x5_1 + 1)), (by first | rfl | (simp; done) | (simp [*]; done)), (by first | rfl | (simp; done) | (simp [*]; done)), H', ⟨by have := HK1.out; omega⟩, by repeat (first | exact Drawn0.refl _ | apply Drawn0.step)⟩
            · rw [if_neg c6] at H
              have c6b0 : (((rd_T148 l0 x5_1).f1) == (wrap64 (x1_1 + 1))) = false := beq_eq_false_iff_ne.mpr c6
              have c6b1 : (((rd_T148 l0 x5_1).f1) != (wrap64 (x1_1 + 1))) = true := bne_iff_ne.mpr c6
              obtain rfl := Option.some.inj H
              have p190 : 0 ≤ (x5_1 : Int) := of_decide_eq_true (by first | (with_reducible assumption) | assumption)
              have q190 : x5_1 < (l0.length : Int) := of_decide_eq_true (by first | (with_reducible assumption) | assumption)
              obtain ⟨ad190, e190, hx190_0, hx190_1⟩ := at_T148 HR0.out x5_1 p190 q190
              cases e190
              replace p190 := eq_true p190
              replace q190 := eq_true q190
              have p191 : 0 ≤ (x5_1 : Int) := of_decide_eq_true (by first | (with_reducible assumption) | assumption)
              have q191 : x5_1 < (l0.length : Int) := of_decide_eq_true (by first | (with_reducible assumption) | assumption)
              obtain ⟨ad191, e191, hx191_0, hx191_1⟩ := at_T148 HR0.out x5_1 p191 q191
              obtain rfl : ad190 = ad191 := (by injection e191)
              replace p191 := eq_true p191
              replace q191 := eq_true q191
              go_wp2
              go_ret
              exact ⟨by first | rfl | (simp; done) | (simp [*]; done), by repeat (first | exact Drawn0.refl _ | apply Drawn0.step)⟩
          · rw [if_neg c5] at H
            have c5b0 : (((rd_T148 l0 x5_1).f0) == x1_1) = false := beq_eq_false_iff_ne.mpr c5
            have c5b1 : (((rd_T148 l0 x5_1).f0) != x1_1) = true := bne_iff_ne.mpr c5
            obtain rfl := Option.some.inj H
            have p190 : 0 ≤ (x5_1 : Int) := of_decide_eq_true (by first | (with_reducible assumption) | assumption)
            have q190 : x5_1 < (l0.length : Int) := of_decide_eq_true (by first | (with_reducible assumption) | assumption)
            obtain ⟨ad190, e190, hx190_0, hx190_1⟩ := at_T148 HR0.out x5_1 p190 q190
            cases e190
            replace p190 := eq_true p190
            replace q190 := eq_true q190
            go_wp2
            go_ret
            exact ⟨by first | rfl | (simp; done) | (simp [*]; done), by repeat (first | exact Drawn0.refl _ | apply Drawn0.step)⟩
        · rw [if_neg c4] at H
          exact absurd H (by simp)
      · rw [if_neg c3] at H
        have c3b0 : decide (x5_1 < (l0.length : Int)) = false := decide_eq_false c3
        clear c3
        obtain rfl := Option.some.inj H
        go_wp2
        go_ret
        exact ⟨by first | rfl | (simp; done) | (simp [*]; done), by repeat (first | exact Drawn0.refl _ | apply Drawn0.step)⟩

/-! ### laws_heldSpanSS: function 44 -/
def laws_heldSpanSS.l0 : Nat → List (List (S148)) → Int → Int → Option (Int)
  | 0, _, _, _ => none
  | k + 1, x0, x1, x5 => if x5 < (x0.length : Int) then (if 0 ≤ x5 then ((laws_heldSpanS.f k (rd_L3 x0 x5) x1).bind fun t193 => (if t193 < 0 then (some (-1)) else (laws_heldSpanSS.l0 k x0 t193 (wrap64 (x5 + 1))))) else (none)) else (some x1)
def laws_heldSpanSS.f (k : Nat) (l0 : List (List (S148))) (a1 : Int) : Option (Int) := laws_heldSpanSS.l0 k l0 a1 0
theorem laws_heldSpanSS.mono_l : ∀ k, (∀ y0 y1 y2, LeO (laws_heldSpanSS.l0 k y0 y1 y2) (laws_heldSpanSS.l0 (k + 1) y0 y1 y2))
  | 0 => fun _ _ _ r h => by simp [laws_heldSpanSS.l0] at h
  | k + 1 => by
    have ih0 := laws_heldSpanSS.mono_l k
    · intro y0 y1 y2
      unfold laws_heldSpanSS.l0
      repeat' first
      | (with_reducible exact ih0 _ _ _)
      | (with_reducible exact laws_heldSpanS.mono _ _ _)
      | (with_reducible exact LeO.refl _)
      | (with_reducible exact LeO.none _)
      | (with_reducible refine LeO.ite ?_ ?_)
      | (with_reducible refine LeO.bind ?_ (fun _ => ?_))
      | exact ih0 _ _ _
      | exact laws_heldSpanS.mono _ _ _
      | exact LeO.none _
      | refine LeO.ite ?_ ?_
      | refine LeO.bind ?_ (fun _ => ?_)
theorem laws_heldSpanSS.mono : ∀ a0 a1 k, LeO (laws_heldSpanSS.f k a0 a1) (laws_heldSpanSS.f (k + 1) a0 a1) := by
  intro a0 a1 k
  have ih0 := laws_heldSpanSS.mono_l k
  unfold laws_heldSpanSS.f
  repeat' first
      | (with_reducible exact ih0 _ _ _)
      | (with_reducible exact laws_heldSpanS.mono _ _ _)
      | (with_reducible exact LeO.refl _)
      | (with_reducible exact LeO.none _)
      | (with_reducible refine LeO.ite ?_ ?_)
      | (with_reducible refine LeO.bind ?_ (fun _ => ?_))
      | exact ih0 _ _ _
      | exact laws_heldSpanS.mono _ _ _
      | exact LeO.none _
      | refine LeO.ite ?_ ?_
      | refine LeO.bind ?_ (fun _ => ?_)
set_option maxHeartbeats 8000000 in
set_option maxRecDepth 100000 in
theorem laws_heldSpanSS.calls (k : Nat) (A0 : Option Addr) (c0 : Nat) (l0 : List (List (S148))) (a1 : Int) (r : Int) (w : World) (hr0 : Kd.C (Kd.slice 148 k148) w A0 l0.length l0) (hc0 : l0.length ≤ c0) (h : laws_heldSpanSS.f k l0 a1 = some r) :
    Calls Try.prog 44 #[.slice A0 l0.length c0, .int .i64 a1] w fun e w' => e = .returned (.int .i64 r) ∧ Drawn0 w w' := by
  have HR0 := Aside0.mk hr0
  have HC0 := Aside0.mk hc0
  clear hr0 hc0
  have H : (laws_heldSpanSS.l0 k l0 a1 0) = some r := h
  clear h
  have H' := Aside0.mk H
  clear H
  go_enter Try.func44, Try.ntmps44
  go_wp2
  go_loopg [1, 5] k (fun kq v1 v5 w' => ∃ (x1_1 : Int) (x5_1 : Int), v1 = .int .i64 x1_1 ∧ v5 = .int .i64 x5_1 ∧ Aside0 (laws_heldSpanSS.l0 kq l0 x1_1 x5_1 = some r) ∧ Aside0 (kq ≤ k) ∧ Drawn0 w w')
  case atStart => exact ⟨(a1), (0), (by first | rfl | (simp; done) | (simp [*]; done)), (by first | rfl | (simp; done) | (simp [*]; done)), H', ⟨Nat.le_refl _⟩, by repeat (first | exact Drawn0.refl _ | apply Drawn0.step)⟩
  case round =>
    clear H'
    try clear p2
    obtain ⟨x1_1, x5_1, rfl, rfl, HA, HK1, ⟨m1, rfl⟩⟩ := hrel
    cases gk with
    | zero => exact absurd HA.out (by simp [laws_heldSpanSS.l0])
    | succ k1 =>
      have H := HA.out
      clear HA
      simp only [laws_heldSpanSS.l0] at H
      by_cases c3 : x5_1 < (l0.length : Int)
      · rw [if_pos c3] at H
        have c3b0 : decide (x5_1 < (l0.length : Int)) = true := decide_eq_true c3
        clear c3
        by_cases c4 : 0 ≤ x5_1
        · rw [if_pos c4] at H
          have c4b0 : decide (0 ≤ x5_1) = true := decide_eq_true c4
          clear c4
          replace H := Option.bind_eq_some_iff.mp H
          obtain ⟨t193, A50, H⟩ := H
          replace H : (if t193 < 0 then (some (-1)) else (laws_heldSpanSS.l0 k1 l0 t193 (wrap64 (x5_1 + 1)))) = some r := H
          have A5 := Aside0.mk A50
          clear A50
          by_cases c6 : t193 < 0
          · rw [if_pos c6] at H
            have c6b0 : decide (t193 < 0) = true := decide_eq_true c6
            clear c6
            obtain rfl := Option.some.inj H
            have p192 : 0 ≤ (x5_1 : Int) := of_decide_eq_true (by first | (with_reducible assumption) | assumption)
            have q192 : x5_1 < (l0.length : Int) := of_decide_eq_true (by first | (with_reducible assumption) | assumption)
            obtain ⟨ad192, A192_0, c192_0, e192, hx192_0, hl192_0, hi192_0⟩ := at_L3 HR0.out x5_1 p192 q192
            cases e192
            have HR192_0 := Aside0.mk hi192_0
            have HC192_0 := Aside0.mk hl192_0
            clear hi192_0 hl192_0
            replace p192 := eq_true p192
            replace q192 := eq_true q192
            go_wp2_with (first | ((with_reducible refine gate_callee (f := 119) rfl ?_); refine goesL_ (some 17) rfl rfl Try.func119 (by kernel_rfl) rfl #[.slice A192_0 (rd_L3 l0 x5_1).length c192_0, .int .i64 x1_1] rfl (by (try simp only [List.map_toArray, List.map_cons, List.map_nil]); first | done | rfl | (simp only [List.length_drop, List.length_take]; rfl)) ?_; (with_reducible refine (laws_heldSpanS.calls k1 _ _ (rd_L3 l0 x5_1) x1_1 t193 _ ?side1 ?side2 A5.out).mono ?_); (case side1 => repeat (first | exact HR192_0.out | (with_reducible refine Kd.C_alloc ?_ _) | (with_reducible refine Kd.C_drewN ?_ _) | (with_reducible refine Kd.C_drew ?_))); (case side2 => exact HC192_0.out); rintro e w' ⟨rfl, ⟨nd, rfl⟩⟩; refine ⟨_, rfl, ?_⟩))
            go_ret
            exact ⟨by first | rfl | (simp; done) | (simp [*]; done), by repeat (first | exact Drawn0.refl _ | apply Drawn0.step)⟩
          · rw [if_neg c6] at H
            have c6b0 : decide (t193 < 0) = false := decide_eq_false c6
            clear c6
            have H' := Aside0.mk H
            clear H
            have p192 : 0 ≤ (x5_1 : Int) := of_decide_eq_true (by first | (with_reducible assumption) | assumption)
            have q192 : x5_1 < (l0.length : Int) := of_decide_eq_true (by first | (with_reducible assumption) | assumption)
            obtain ⟨ad192, A192_0, c192_0, e192, hx192_0, hl192_0, hi192_0⟩ := at_L3 HR0.out x5_1 p192 q192
            cases e192
            have HR192_0 := Aside0.mk hi192_0
            have HC192_0 := Aside0.mk hl192_0
            clear hi192_0 hl192_0
            replace p192 := eq_true p192
            replace q192 := eq_true q192
            go_wp2_with (first | ((with_reducible refine gate_callee (f := 119) rfl ?_); refine goesL_ (some 17) rfl rfl Try.func119 (by kernel_rfl) rfl #[.slice A192_0 (rd_L3 l0 x5_1).length c192_0, .int .i64 x1_1] rfl (by (try simp only [List.map_toArray, List.map_cons, List.map_nil]); first | done | rfl | (simp only [List.length_drop, List.length_take]; rfl)) ?_; (with_reducible refine (laws_heldSpanS.calls k1 _ _ (rd_L3 l0 x5_1) x1_1 t193 _ ?side1 ?side2 A5.out).mono ?_); (case side1 => repeat (first | exact HR192_0.out | (with_reducible refine Kd.C_alloc ?_ _) | (with_reducible refine Kd.C_drewN ?_ _) | (with_reducible refine Kd.C_drew ?_))); (case side2 => exact HC192_0.out); rintro e w' ⟨rfl, ⟨nd, rfl⟩⟩; refine ⟨_, rfl, ?_⟩))
            go_roundg k1
            case measure => have := HK1.out; omega
            case rel => exact ⟨(t193), (wrap64 (x5_1 + 1)), (by first | rfl | (simp; done) | (simp [*]; done)), (by first | rfl | (simp; done) | (simp [*]; done)), H', ⟨by have := HK1.out; omega⟩, by repeat (first | exact Drawn0.refl _ | apply Drawn0.step)⟩
        · rw [if_neg c4] at H
          exact absurd H (by simp)
      · rw [if_neg c3] at H
        have c3b0 : decide (x5_1 < (l0.length : Int)) = false := decide_eq_false c3
        clear c3
        obtain rfl := Option.some.inj H
        go_wp2
        go_ret
        exact ⟨by first | rfl | (simp; done) | (simp [*]; done), by repeat (first | exact Drawn0.refl _ | apply Drawn0.step)⟩

/-! ### laws_FnExactLetterSpans: function 6 -/
/-- what the law comes to: both give the same rows, which hold the marks that are laid in them -/
def laws_FnExactLetterSpans.ok (k : Nat) (a0 a1 : Int) : Prop := ∃ r b m r', spec_LetterSpans.f k a0 a1 = some (r, b) ∧ impl_LetterSpans.f k a0 a1 = some (r, b) ∧ laws_eqSpanSS.f k r r = some true ∧ laws_markSpanSS.f k r 1 = some (m, r') ∧ laws_heldSpanSS.f k r' 1 = some m ∧ 0 ≤ m
open Classical in
noncomputable def laws_FnExactLetterSpans.f (k : Nat) (a0 a1 : Int) : Option Bool := if laws_FnExactLetterSpans.ok k a0 a1 then some true else none
set_option maxHeartbeats 4000000 in
set_option maxRecDepth 100000 in
theorem laws_FnExactLetterSpans.calls (k : Nat) (a0 : Int) (a1 : Int) (r : Bool) (w : World) (h : laws_FnExactLetterSpans.f k a0 a1 = some r) :
    Calls Try.prog 6 #[.int .i64 a0, .int .i64 a1] w fun e w' => e = .returned (.bool r) ∧ Below w.heap.size w w' := by
  unfold laws_FnExactLetterSpans.f at h
  by_cases hok : laws_FnExactLetterSpans.ok k a0 a1
  · rw [if_pos hok] at h
    obtain rfl := Option.some.inj h
    obtain ⟨r, b, m, r', f1, f2, f3, f4, f5, f6⟩ := hok
    have HF1 := Aside0.mk f1
    have HF2 := Aside0.mk f2
    have HF3 := Aside0.mk f3
    have HF4 := Aside0.mk f4
    have HF5 := Aside0.mk f5
    have HF6 := Aside0.mk f6
    have HB := Aside0.mk (Below.refl w.heap.size w)
    clear h f1 f2 f3 f4 f5 f6
    go_enter Try.func6, Try.ntmps6
    go_wp2_with fail
    refine (spec_LetterSpans.calls k a0 a1 r b _ HF1.out).mono ?_
    rintro e w1 ⟨v0, rfl, hS, hb⟩
    obtain ⟨A0, c0, rfl⟩ := Kd.S_slice hS
    have HS0 := Aside0.mk (Kd.S_mono (Kd.S_bound hS) (ok' := fun k_ => w.heap.size ≤ k_ ∧ k_ < w1.heap.size) (fun k_ hk => ⟨hk.2.1, hk.2.2.1⟩))
    have HB := Aside0.mk (below_step (show Below w.heap.size w _ from by repeat (first | exact HB.out | apply pw_below_drewN)) hb)
    clear hS hb
    go_wp2_with fail
    refine (impl_LetterSpans.calls k a0 a1 r b _ HF2.out).mono ?_
    rintro e w2 ⟨v1, rfl, hS, hb⟩
    obtain ⟨A1, c1, rfl⟩ := Kd.S_slice hS
    have HS1 := Aside0.mk (Kd.S_lower (Kd.S_mono (Kd.S_bound hS) (ok' := fun k_ => w1.heap.size ≤ k_ ∧ k_ < w2.heap.size) (fun k_ hk => ⟨hk.2.1, hk.2.2.1⟩)) (show w.heap.size ≤ _ from HB.out.size))
    have HS0 := Aside0.mk (Kd.S_below (show Kd.S _ _ _ _ _ _ _ from by repeat (first | exact HS0.out | apply Kd.S_drewN)) hb)
    have HB := Aside0.mk (below_step (show Below w.heap.size w _ from by repeat (first | exact HB.out | apply pw_below_drewN)) hb)
    clear hS hb
    have hbb : (b != b) = false := bne_self_eq_false b
    go_wp2_with fail
    refine (laws_eqSpanSS.calls k _ _ r _ _ r true _ ?s1 ?s2 ?s3 ?s4 HF3.out).mono ?_
    case s1 => exact (Kd.S_reads' (show Kd.S _ _ _ _ _ _ _ from by repeat (first | exact HS1.out | apply Kd.S_drewN))).2.2
    case s2 => exact (Kd.S_reads' HS1.out).2.1
    case s3 => exact (Kd.S_reads' (show Kd.S _ _ _ _ _ _ _ from by repeat (first | exact HS0.out | apply Kd.S_drewN))).2.2
    case s4 => exact (Kd.S_reads' HS0.out).2.1
    rintro e w3 ⟨rfl, hb⟩
    have HS0 := Aside0.mk (Kd.S_below (show Kd.S _ _ _ _ _ _ _ from by repeat (first | exact HS0.out | apply Kd.S_drewN)) hb)
    have HS1 := Aside0.mk (Kd.S_below (show Kd.S _ _ _ _ _ _ _ from by repeat (first | exact HS1.out | apply Kd.S_drewN)) hb)
    have HB := Aside0.mk (below_step (show Below w.heap.size w _ from by repeat (first | exact HB.out | apply pw_below_drewN)) hb)
    clear hb
    go_wp2_with fail
    refine (laws_markSpanSS.calls k (fun k_ => w1.heap.size ≤ k_ ∧ k_ < w2.heap.size) _ r 1 m r' w _ ?s5 ?s6 HF4.out).mono ?_
    case s5 => repeat (first | exact HB.out | apply pw_below_drewN)
    case s6 => repeat (first | exact HS1.out | apply Kd.S_drewN)
    rintro e w4 ⟨rfl, hS, hb, hk⟩
    have HS1 := Aside0.mk hS
    have HS0 := Aside0.mk (Kd.S_kept (show Kd.S _ _ _ _ _ _ _ from by repeat (first | exact HS0.out | apply Kd.S_drewN)) hk (fun k_ h1 h2 => by omega))
    have HB := Aside0.mk hb
    have HLN := Aside0.mk (show r.length = r'.length from (Kd.S_reads' hS).1)
    clear hS hb hk
    go_wp2_with fail
    rw [HLN.out]
    refine (laws_heldSpanSS.calls k _ _ r' 1 m _ ?s7 ?s8 HF5.out).mono ?_
    case s7 => exact (Kd.S_reads' (show Kd.S _ _ _ _ _ _ _ from by repeat (first | exact HS1.out | apply Kd.S_drewN))).2.2
    case s8 => exact HLN.out ▸ (Kd.S_reads' HS1.out).2.1
    rintro e w5 ⟨rfl, ⟨nd5, rfl⟩⟩
    have t1 : (m < 0) = False := eq_false (by have := HF6.out; omega)
    have t2 : (m != m) = false := bne_self_eq_false m
    rw [← HLN.out]
    go_wp2_with fail
    refine (impl_LetterSpans.calls k a0 a1 r b _ HF2.out).mono ?_
    rintro e w6 ⟨v2, rfl, hS, hb⟩
    obtain ⟨A2, c2, rfl⟩ := Kd.S_slice hS
    have HS2 := Aside0.mk hS
    clear hS
    have HS0 := Aside0.mk (Kd.S_below (show Kd.S _ _ _ _ _ _ _ from by repeat (first | exact HS0.out | apply Kd.S_drewN)) hb)
    have HS1 := Aside0.mk (Kd.S_below (show Kd.S _ _ _ _ _ _ _ from by repeat (first | exact HS1.out | apply Kd.S_drewN)) hb)
    have HB := Aside0.mk (below_step (show Below w.heap.size w _ from by repeat (first | exact HB.out | apply pw_below_drewN)) hb)
    clear hb
    go_wp2_with fail
    refine (laws_eqSpanSS.calls k _ _ r _ _ r true _ ?s1 ?s2 ?s3 ?s4 HF3.out).mono ?_
    case s1 => exact (Kd.S_reads' (show Kd.S _ _ _ _ _ _ _ from by repeat (first | exact HS2.out | apply Kd.S_drewN))).2.2
    case s2 => exact (Kd.S_reads' HS2.out).2.1
    case s3 => exact (Kd.S_reads' (show Kd.S _ _ _ _ _ _ _ from by repeat (first | exact HS0.out | apply Kd.S_drewN))).2.2
    case s4 => exact (Kd.S_reads' HS0.out).2.1
    rintro e w7 ⟨rfl, hb⟩
    have HS0 := Aside0.mk (Kd.S_below (show Kd.S _ _ _ _ _ _ _ from by repeat (first | exact HS0.out | apply Kd.S_drewN)) hb)
    have HS1 := Aside0.mk (Kd.S_below (show Kd.S _ _ _ _ _ _ _ from by repeat (first | exact HS1.out | apply Kd.S_drewN)) hb)
    have HB := Aside0.mk (below_step (show Below w.heap.size w _ from by repeat (first | exact HB.out | apply pw_below_drewN)) hb)
    clear hb
    go_wp2_with fail
    rw [HLN.out]
    refine (laws_heldSpanSS.calls k _ _ r' 1 m _ ?s7 ?s8 HF5.out).mono ?_
    case s7 => exact (Kd.S_reads' (show Kd.S _ _ _ _ _ _ _ from by repeat (first | exact HS1.out | apply Kd.S_drewN))).2.2
    case s8 => exact HLN.out ▸ (Kd.S_reads' HS1.out).2.1
    rintro e w8 ⟨rfl, ⟨nd8, rfl⟩⟩
    go_wp2
    go_ret
    exact ⟨by first | rfl | (simp; done), by repeat (first | exact HB.out | apply pw_below_drewN)⟩
  · rw [if_neg hok] at h
    exact absurd h (by simp)

end Go.Proofs.Ytabpfejdppfcdaa.PFnExactLetterSpans
