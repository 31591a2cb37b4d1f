-- Written by this session's own program (wip/pr.py) over the kit's printer; contracts that the printer does not know are given by hand.
import Derived.Test.YtabpfejdppfcdaaPFnExactRestrictx0
import Derived.Test.YtabpfejdppfcdaaPFnExactRestrictx5
namespace Go.Proofs.Ytabpfejdppfcdaa.PFnExactRestrict
open Go.RowKit Go.Proofs.YtabpfejdppfcdaaW.PrintWords Go.Proofs.YtabpfejdppfcdaaW.PrintLast Go.Proofs.YtabpfejdppfcdaaW.PrintMore
attribute [local go_sem] max2_int min2_int max_two min_two max_three min_three max_four min_four   -- for this text's walks alone
set_option linter.unusedVariables false
set_option linter.unusedSimpArgs false

/-! ### impl_DfaOk: function 125 -/
def impl_DfaOk.f (k : Nat) (l0_0 : List Int) (l0_1 : List (List Int)) (l0_2 : List Int) : Option Bool :=
  if 1 ≤ (l0_1.length : Int) ∧ (l0_1.length : Int) ≤ 1000 then (if (l0_2.length : Int) = (l0_1.length : Int) then (if (∀ x ∈ l0_2, -1 ≤ x ∧ x ≤ 39) then ((impl_blocksOk.f k l0_0).bind fun bt => if bt.2 = true then some (decide (∀ row ∈ l0_1, (row.length : Int) = bt.1 ∧ ∀ x ∈ row, 0 ≤ x ∧ x ≤ (l0_1.length : Int) - 1)) else some false) else some false) else some false) else some false
theorem impl_DfaOk.mono : ∀ a0 a1 a2 k, LeO (impl_DfaOk.f k a0 a1 a2) (impl_DfaOk.f (k + 1) a0 a1 a2) := by
  intro a0 a1 a2 k
  unfold impl_DfaOk.f
  repeat' first
    | exact LeO.refl _
    | refine LeO.ite ?_ ?_
    | refine LeO.bind (impl_blocksOk.mono _ _) (fun _ => ?_)
theorem withinB (x lo hi : Int) : impl_within.f x lo hi = some (decide (lo ≤ x ∧ x ≤ hi)) := by
  unfold impl_within.f
  by_cases h : x ≥ lo
  · rw [if_pos h]; congr 1; simp; omega
  · rw [if_neg h]; congr 1; simp; omega
set_option maxHeartbeats 1000000 in
set_option maxRecDepth 100000 in
theorem impl_DfaOk_1.pred (x : Int) (W : World) :
    Calls Try.prog 176 (#[.int .i64 x] ++ #[]) W fun e w' => e = .returned (.bool (!decide (-1 ≤ x ∧ x ≤ 39))) ∧ Drawn0 W w' := by
  have HW := Aside0.mk (withinB x (-1) 39)
  generalize decide (-1 ≤ x ∧ x ≤ 39) = b at *
  go_enter Try.func176, Try.ntmps176
  go_wp2_with fail
  refine (impl_within.calls x (-1) 39 b _ HW.out).mono ?_
  rintro e w' ⟨rfl, ⟨nd, rfl⟩⟩
  go_wp2
  go_ret
  exact ⟨rfl, ⟨nd, rfl⟩⟩
set_option maxHeartbeats 1000000 in
set_option maxRecDepth 100000 in
theorem impl_DfaOk_2_1.pred (x n : Int) (hn : 1 ≤ n ∧ n ≤ 1000) (W : World) (b1 : Nat) (h1 : W.cell? ⟨b1, 0, none⟩ = some (.int .i64 n)) :
    Calls Try.prog 179 (#[.int .i64 x] ++ #[.pointer (some ⟨b1, 0, none⟩)]) W fun e w' => e = .returned (.bool (!decide (0 ≤ x ∧ x ≤ n - 1))) ∧ Drawn0 W w' := by
  have HW := Aside0.mk (withinB x 0 (n - 1))
  generalize decide (0 ≤ x ∧ x ≤ n - 1) = b at *
  obtain ⟨n1, n2⟩ := hn
  go_enter Try.func179, Try.ntmps179
  go_wp2_with fail
  refine (impl_within.calls x 0 (n - 1) b _ HW.out).mono ?_
  rintro e w' ⟨rfl, ⟨nd, rfl⟩⟩
  go_wp2
  go_ret
  exact ⟨rfl, ⟨nd, rfl⟩⟩
set_option maxHeartbeats 1000000 in
set_option maxRecDepth 100000 in
theorem impl_DfaOk_2.pred (A : Option Addr) (c : Nat) (row : List Int) (m n : Int) (hn : 1 ≤ n ∧ n ≤ 1000) (W : World) (b1 b2 : Nat) (hb2 : b2 < W.heap.size) (h1 : W.cell? ⟨b1, 0, none⟩ = some (.int .i64 m)) (h2 : W.cell? ⟨b2, 0, none⟩ = some (.int .i64 n)) (hr : Kd.C (Kd.int .i64) W A row.length row) (hc : row.length ≤ c) :
    Calls Try.prog 178 (#[.slice A row.length c] ++ #[.pointer (some ⟨b1, 0, none⟩), .pointer (some ⟨b2, 0, none⟩)]) W fun e w' => e = .returned (.bool (!decide ((row.length : Int) = m ∧ ∀ x ∈ row, 0 ≤ x ∧ x ≤ n - 1))) ∧ Drawn0 W w' := by
  have HR := Aside0.mk hr
  have HC := Aside0.mk hc
  have HX := Aside0.mk (reads_ints hr)
  have HN := Aside0.mk hr.2.1
  clear hr hc
  have hcf : ∀ nd, Calls Try.prog 175 #[.slice A row.length c, .func (.func 179) #[] #[.pointer (some ⟨b2, 0, none⟩)]] (W.drewN nd) fun e w' => e = .returned (.bool (!decide (∀ x ∈ row, 0 ≤ x ∧ x ≤ n - 1))) ∧ Drawn0 (W.drewN nd) w' := by
    intro nd
    refine cf_ints.pred _ row.length c A (fun j => .int .i64 (row.getD j 0)) (fun j => !decide (0 ≤ row.getD j 0 ∧ row.getD j 0 ≤ n - 1)) (W.drewN nd) HN.out HX.out 179 _ (fun a v => Try.call179 a v) (fun nd' j _ => impl_DfaOk_2_1.pred _ n hn ((W.drewN nd).drewN nd') b2 h2) ?_
    rw [Bool.not_eq_true', decide_eq_false_iff_not]
    constructor
    · rintro ⟨k, hk, hq⟩ h
      have := h row[k] (List.getElem_mem hk)
      rw [List.getD_eq_getElem?_getD, List.getElem?_eq_getElem hk] at hq
      simp at hq
      omega
    · intro h
      rw [Classical.not_forall] at h
      obtain ⟨x, h⟩ := h
      rw [Classical.not_imp] at h
      obtain ⟨hx, h⟩ := h
      obtain ⟨k, hk, rfl⟩ := List.mem_iff_getElem.1 hx
      refine ⟨k, hk, ?_⟩
      rw [List.getD_eq_getElem?_getD, List.getElem?_eq_getElem hk]
      show (!decide (0 ≤ row[k] ∧ row[k] ≤ n - 1)) = true
      rw [decide_eq_false h]
      rfl
  have HCF := Aside0.mk hcf
  clear hcf hn
  by_cases hm : (row.length : Int) = m
  · have g1 : ((row.length : Int) != m) = false := bne_eq_false_iff_eq.2 hm
    have HM := Aside0.mk hm
    clear hm
    go_enter Try.func178, Try.ntmps178
    go_wp2_with fail
    go_quiet (first | (go_at_call 174; (refine (impl_size_int64_174.calls _ _ row (row.length : Int) _ ?s1 ?s2 rfl).mono ?_); (case s1 => repeat (first | exact HR.out | (with_reducible refine Kd.C_drewN ?_ _) | (with_reducible refine Kd.C_drew ?_))); (case s2 => exact HC.out); rintro e w' ⟨rfl, ⟨nd, rfl⟩⟩; (first | exact ⟨rfl, _, World.drewN_drewN _ _ _⟩ | exact ⟨rfl, _, Eq.trans (World.drewN_drewN _ _ _) (congrArg (World.drewN _) (Nat.add_assoc _ _ _))⟩)) | (go_at_call 175; (refine (HCF.out _).mono ?_); rintro e w' ⟨rfl, ⟨nd, rfl⟩⟩; (first | exact ⟨rfl, _, World.drewN_drewN _ _ _⟩ | exact ⟨rfl, _, Eq.trans (World.drewN_drewN _ _ _) (congrArg (World.drewN _) (Nat.add_assoc _ _ _))⟩)))
    go_wp2
    go_ret
    exact ⟨by rw [show decide ((row.length : Int) = m ∧ ∀ x ∈ row, 0 ≤ x ∧ x ≤ n - 1) = decide (∀ x ∈ row, 0 ≤ x ∧ x ≤ n - 1) from decide_eq_decide.2 ⟨fun h => h.2, fun h => ⟨HM.out, h⟩⟩]; rfl, ⟨_, rfl⟩⟩
  · have g1 : ((row.length : Int) != m) = true := bne_iff_ne.2 hm
    have HM := Aside0.mk hm
    clear hm
    go_enter Try.func178, Try.ntmps178
    go_wp2_with fail
    go_quiet (first | (go_at_call 174; (refine (impl_size_int64_174.calls _ _ row (row.length : Int) _ ?s1 ?s2 rfl).mono ?_); (case s1 => repeat (first | exact HR.out | (with_reducible refine Kd.C_drewN ?_ _) | (with_reducible refine Kd.C_drew ?_))); (case s2 => exact HC.out); rintro e w' ⟨rfl, ⟨nd, rfl⟩⟩; (first | exact ⟨rfl, _, World.drewN_drewN _ _ _⟩ | exact ⟨rfl, _, Eq.trans (World.drewN_drewN _ _ _) (congrArg (World.drewN _) (Nat.add_assoc _ _ _))⟩)))
    go_wp2
    go_ret
    exact ⟨by rw [decide_eq_false (fun h => HM.out h.1)]; rfl, ⟨_, rfl⟩⟩
theorem any_not {α : Type} (d : α) (l : List α) (P : α → Prop) [DecidablePred P] : (∃ k, k < l.length ∧ (!decide (P (l.getD k d))) = true) ↔ (!decide (∀ x ∈ l, P x)) = true := by
  rw [Bool.not_eq_true', decide_eq_false_iff_not]
  constructor
  · rintro ⟨k, hk, hq⟩ h
    have := h l[k] (List.getElem_mem hk)
    rw [List.getD_eq_getElem?_getD, List.getElem?_eq_getElem hk] at hq
    simp only [Option.getD_some, Bool.not_eq_true', decide_eq_false_iff_not] at hq
    exact hq this
  · intro h
    rw [Classical.not_forall] at h
    obtain ⟨x, h⟩ := h
    rw [Classical.not_imp] at h
    obtain ⟨hx, h⟩ := h
    obtain ⟨k, hk, rfl⟩ := List.mem_iff_getElem.1 hx
    refine ⟨k, hk, ?_⟩
    rw [List.getD_eq_getElem?_getD, List.getElem?_eq_getElem hk]
    simp only [Option.getD_some, Bool.not_eq_true', decide_eq_false_iff_not]
    exact h
set_option maxHeartbeats 2000000 in
set_option maxRecDepth 100000 in
theorem impl_DfaOk.calls (k : Nat) (A0_0 : Option Addr) (c0_0 : Nat) (l0_0 : List Int) (A0_1 : Option Addr) (c0_1 : Nat) (l0_1 : List (List Int)) (A0_2 : Option Addr) (c0_2 : Nat) (l0_2 : List Int) (r : Bool) (w : World) (hr0_0 : Kd.C (Kd.int .i64) w A0_0 l0_0.length l0_0) (hc0_0 : l0_0.length ≤ c0_0) (hr0_1 : Kd.C (Kd.slice 2 (Kd.int .i64)) w A0_1 l0_1.length l0_1) (hc0_1 : l0_1.length ≤ c0_1) (hr0_2 : Kd.C (Kd.int .i64) w A0_2 l0_2.length l0_2) (hc0_2 : l0_2.length ≤ c0_2) (h : impl_DfaOk.f k l0_0 l0_1 l0_2 = some r) :
    Calls Try.prog 125 #[.agg #[.slice A0_0 l0_0.length c0_0, .slice A0_1 l0_1.length c0_1, .slice A0_2 l0_2.length c0_2]] w fun e w' => e = .returned (.bool r) ∧ Below w.heap.size w w' := by
  have HR0 := Aside0.mk hr0_0
  have HC0 := Aside0.mk hc0_0
  have HR1 := Aside0.mk hr0_1
  have HC1 := Aside0.mk hc0_1
  have HR2 := Aside0.mk hr0_2
  have HC2 := Aside0.mk hc0_2
  have HH := Aside0.mk h
  clear hr0_0 hc0_0 hr0_1 hc0_1 hr0_2 hc0_2 h
  have hcf : ∀ V, Below w.heap.size w V → Calls Try.prog 175 #[.slice A0_2 l0_2.length c0_2, .func (.func 176) #[] #[]] V fun e w' => e = .returned (.bool (!decide (∀ x ∈ l0_2, -1 ≤ x ∧ x ≤ 39))) ∧ Drawn0 V w' := fun V hV =>
    cf_ints.pred _ l0_2.length c0_2 A0_2 (fun j => .int .i64 (l0_2.getD j 0)) (fun j => !decide (-1 ≤ l0_2.getD j 0 ∧ l0_2.getD j 0 ≤ 39)) V HR2.out.2.1 (reads_ints (Kd.C_below HR2.out hV)) 176 _ (fun a v => Try.call176 a v) (fun nd' j _ => impl_DfaOk_1.pred _ (V.drewN nd')) (any_not 0 l0_2 (fun x => -1 ≤ x ∧ x ≤ 39))
  have HCF := Aside0.mk hcf
  clear hcf
  by_cases c1 : 1 ≤ (l0_1.length : Int) ∧ (l0_1.length : Int) ≤ 1000
  · have HW := Aside0.mk (withinB (l0_1.length : Int) 1 1000)
    rw [decide_eq_true c1] at HW
    have C1 := Aside0.mk c1
    clear c1
    by_cases c2 : (l0_2.length : Int) = (l0_1.length : Int)
    · have g2 : ((l0_2.length : Int) != (l0_1.length : Int)) = false := bne_eq_false_iff_eq.2 c2
      have C2 := Aside0.mk c2
      clear c2
      go_enter Try.func125, Try.ntmps125
      go_wp2_with fail
      refine (impl_size_int64_173.calls _ _ l0_1 (l0_1.length : Int) _ ?s1 HC1.out rfl).mono ?_
      case s1 => repeat (first | exact HR1.out | (with_reducible refine Kd.C_alloc ?_ _) | (with_reducible refine Kd.C_drewN ?_ _) | (with_reducible refine Kd.C_drew ?_))
      rintro e w' ⟨rfl, ⟨nd, rfl⟩⟩
      go_wp2_with fail
      obtain ⟨W, hWe⟩ : ∃ W, W = (((w.alloc (.cells #[.slice A0_0 l0_0.length c0_0, .slice A0_1 l0_1.length c0_1, .slice A0_2 l0_2.length c0_2] 66)).drewN nd).alloc (.cells #[.int .i64 (l0_1.length : Int)] 2)) := ⟨_, rfl⟩
      have hW0 : W.heap[w.heap.size]? = some (.cells #[.slice A0_0 l0_0.length c0_0, .slice A0_1 l0_1.length c0_1, .slice A0_2 l0_2.length c0_2] 66 (0, 0)) := by rw [hWe]; exact (Below.heap_alloc _ _ _ (by show w.heap.size < (w.heap.push _).size; simp)).trans (Go.heap_alloc_new w _)
      have hW1 : W.heap[w.heap.size + 1]? = some (.cells #[.int .i64 (l0_1.length : Int)] 2 (0, 0)) := by rw [hWe]; have := Go.heap_alloc_new ((w.alloc (.cells #[.slice A0_0 l0_0.length c0_0, .slice A0_1 l0_1.length c0_1, .slice A0_2 l0_2.length c0_2] 66)).drewN nd) (.cells #[.int .i64 (l0_1.length : Int)] 2); simpa using this
      have hWs : W.heap.size = w.heap.size + 2 := by rw [hWe]; simp
      have hbW : Below w.heap.size w W := by rw [hWe]; exact (pw_below_drewN ((Below.refl _ _).alloc (Nat.le_refl _) _) nd).alloc (by simp) _
      rw [← hWe]
      have HBW := Aside0.mk hbW
      have HW0 := Aside0.mk hW0
      have HW1 := Aside0.mk hW1
      have HWS := Aside0.mk hWs
      have z0 := blk_cell hW0 0
      have z1 := blk_cell hW0 1
      have z2 := blk_cell hW0 2
      have z3 := blk_cell hW1 0
      simp only [List.getElem?_toArray, List.getElem?_cons_zero, List.getElem?_cons_succ] at z0 z1 z2 z3
      clear hWe hbW hW0 hW1 hWs
      go_quiet (first | (go_at_call 98; (refine (impl_within.calls (l0_1.length : Int) 1 1000 true _ HW.out).mono ?_); rintro e w' ⟨rfl, ⟨nd, rfl⟩⟩; (first | exact ⟨rfl, _, World.drewN_drewN _ _ _⟩ | exact ⟨rfl, _, Eq.trans (World.drewN_drewN _ _ _) (congrArg (World.drewN _) (Nat.add_assoc _ _ _))⟩)) | (go_at_call 174; (refine (impl_size_int64_174.calls _ _ l0_2 (l0_2.length : Int) _ ?s1 HC2.out rfl).mono ?_); (case s1 => repeat (first | exact Kd.C_below HR2.out HBW.out | (with_reducible refine Kd.C_drewN ?_ _) | (with_reducible refine Kd.C_drew ?_))); rintro e w' ⟨rfl, ⟨nd, rfl⟩⟩; (first | exact ⟨rfl, _, World.drewN_drewN _ _ _⟩ | exact ⟨rfl, _, Eq.trans (World.drewN_drewN _ _ _) (congrArg (World.drewN _) (Nat.add_assoc _ _ _))⟩)))
      go_wp2_with fail
      refine (HCF.out _ (by repeat (first | exact HBW.out | apply pw_below_drewN))).mono ?_
      rintro e w' ⟨rfl, ⟨nd3, rfl⟩⟩
      clear HCF
      by_cases c3 : ∀ x ∈ l0_2, -1 ≤ x ∧ x ≤ 39
      · rw [decide_eq_true c3]
        have C3 := Aside0.mk c3
        clear c3
        have hH := HH.out
        unfold impl_DfaOk.f at hH
        rw [if_pos C1.out, if_pos C2.out, if_pos C3.out] at hH
        obtain ⟨⟨m, b4⟩, hb4, hH⟩ := Option.bind_eq_some_iff.1 hH
        have HB4 := Aside0.mk hb4
        have HH2 := Aside0.mk hH
        clear hH hb4 HH
        go_wp2_with fail
        refine (impl_blocksOk.calls k _ _ l0_0 m b4 _ ?s1 HC0.out HB4.out).mono ?_
        case s1 => repeat (first | exact Kd.C_below HR0.out HBW.out | (with_reducible refine Kd.C_drewN ?_ _) | (with_reducible refine Kd.C_drew ?_))
        rintro e w' ⟨rfl, hb5⟩
        have hsz : w.heap.size + 2 ≤ w'.heap.size := by have := hb5.size; have := HWS.out; simp at *; omega
        have y1 := (hb5.cell (p := ⟨w.heap.size, 1, none⟩) (by have := HWS.out; show w.heap.size < _; simp; omega)).trans z1
        have y3 := (hb5.cell (p := ⟨w.heap.size + 1, 0, none⟩) (by have := HWS.out; show w.heap.size + 1 < _; simp; omega)).trans z3
        have HBX := Aside0.mk (below_step (show Below w.heap.size w _ from by repeat (first | exact HBW.out | apply pw_below_drewN)) hb5)
        have HSZ := Aside0.mk hsz
        clear hb5 hsz z0 z1 z2 z3 HBW HW0 HW1 HWS
        have hn0 : w'.heap.size ≠ w.heap.size := by have := HSZ.out; omega
        have hn1 : w'.heap.size ≠ w.heap.size + 1 := by have := HSZ.out; omega
        have u1 : (w'.alloc (.cells #[.int .i64 m] 2)).cell? ⟨w.heap.size, 1, none⟩ = some (.slice A0_1 l0_1.length c0_1) := (((Below.refl w'.heap.size w').alloc (Nat.le_refl _) _).cell (p := ⟨w.heap.size, 1, none⟩) (by show w.heap.size < w'.heap.size; have := HSZ.out; omega)).trans y1
        have u3 : (w'.alloc (.cells #[.int .i64 m] 2)).cell? ⟨w.heap.size + 1, 0, none⟩ = some (.int .i64 (l0_1.length : Int)) := (((Below.refl w'.heap.size w').alloc (Nat.le_refl _) _).cell (p := ⟨w.heap.size + 1, 0, none⟩) (by show w.heap.size + 1 < w'.heap.size; have := HSZ.out; omega)).trans y3
        have u4 : (w'.alloc (.cells #[.int .i64 m] 2)).cell? ⟨w'.heap.size, 0, none⟩ = some (.int .i64 m) := (blk_cell (Go.heap_alloc_new w' _) 0).trans rfl
        have HBU := Aside0.mk (show Below w.heap.size w (w'.alloc (.cells #[.int .i64 m] 2)) from HBX.out.alloc (by have := HSZ.out; omega) _)
        have HUS := Aside0.mk (show w.heap.size + 1 < (w'.alloc (.cells #[.int .i64 m] 2)).heap.size from by have := HSZ.out; simp; omega)
        have hcr : Calls Try.prog 177 #[.slice A0_1 l0_1.length c0_1, .func (.func 178) #[] #[.pointer (some ⟨w'.heap.size, 0, none⟩), .pointer (some ⟨w.heap.size + 1, 0, none⟩)]] (w'.alloc (.cells #[.int .i64 m] 2)) fun e w2 => e = .returned (.bool (!decide (∀ row ∈ l0_1, (row.length : Int) = m ∧ ∀ x ∈ row, 0 ≤ x ∧ x ≤ (l0_1.length : Int) - 1))) ∧ Drawn0 (w'.alloc (.cells #[.int .i64 m] 2)) w2 := by
          obtain ⟨vs, hvs⟩ := reads_rows (Kd.C_below HR1.out HBU.out)
          refine cf_rows.pred _ l0_1.length c0_1 A0_1 vs (fun j => !decide (((l0_1.getD j []).length : Int) = m ∧ ∀ x ∈ l0_1.getD j [], 0 ≤ x ∧ x ≤ (l0_1.length : Int) - 1)) _ HR1.out.2.1 (fun j hj => (hvs j hj).1) 178 _ (fun a v => Try.call178 a v) (fun nd' j hj => ?_) (any_not [] l0_1 (fun row => (row.length : Int) = m ∧ ∀ x ∈ row, 0 ≤ x ∧ x ≤ (l0_1.length : Int) - 1))
          obtain ⟨A, c, ev, hl, hC⟩ := (hvs j hj).2
          rw [ev]
          exact impl_DfaOk_2.pred A c (l0_1.getD j []) m (l0_1.length : Int) C1.out _ w'.heap.size (w.heap.size + 1) HUS.out u4 u3 (Kd.C_drewN hC _) hl
        have HCR := Aside0.mk hcr
        clear hcr
        cases b4 with
        | true =>
          rw [if_pos rfl] at HH2
          go_wp2_with fail
          refine HCR.out.mono ?_
          rintro e w2 ⟨rfl, ⟨nd4, rfl⟩⟩
          have hr := Option.some.inj HH2.out
          have HRR := Aside0.mk hr
          clear hr
          go_wp2
          go_ret
          exact ⟨by rw [← HRR.out]; simp, pw_below_drewN HBU.out _⟩
        | false =>
          rw [if_neg (by simp)] at HH2
          have hr := Option.some.inj HH2.out
          have HRR := Aside0.mk hr
          clear hr
          go_wp2
          go_ret
          exact ⟨by rw [← HRR.out]; rfl, HBU.out⟩
      · rw [decide_eq_false c3]
        have C3 := Aside0.mk c3
        clear c3
        have hr : r = false := by
          have := HH.out
          unfold impl_DfaOk.f at this
          rw [if_pos C1.out, if_pos C2.out, if_neg C3.out] at this
          exact (Option.some.inj this).symm
        have HRR := Aside0.mk hr
        clear hr
        go_wp2
        go_ret
        exact ⟨by rw [HRR.out]; rfl, by repeat (first | exact HBW.out | apply pw_below_drewN)⟩
    · have g2 : ((l0_2.length : Int) != (l0_1.length : Int)) = true := bne_iff_ne.2 c2
      have C2 := Aside0.mk c2
      clear c2
      go_enter Try.func125, Try.ntmps125
      go_wp2_with fail
      refine (impl_size_int64_173.calls _ _ l0_1 (l0_1.length : Int) _ ?s1 HC1.out rfl).mono ?_
      case s1 => repeat (first | exact HR1.out | (with_reducible refine Kd.C_alloc ?_ _) | (with_reducible refine Kd.C_drewN ?_ _) | (with_reducible refine Kd.C_drew ?_))
      rintro e w' ⟨rfl, ⟨nd, rfl⟩⟩
      go_wp2_with fail
      obtain ⟨W, hWe⟩ : ∃ W, W = (((w.alloc (.cells #[.slice A0_0 l0_0.length c0_0, .slice A0_1 l0_1.length c0_1, .slice A0_2 l0_2.length c0_2] 66)).drewN nd).alloc (.cells #[.int .i64 (l0_1.length : Int)] 2)) := ⟨_, rfl⟩
      have hW0 : W.heap[w.heap.size]? = some (.cells #[.slice A0_0 l0_0.length c0_0, .slice A0_1 l0_1.length c0_1, .slice A0_2 l0_2.length c0_2] 66 (0, 0)) := by rw [hWe]; exact (Below.heap_alloc _ _ _ (by show w.heap.size < (w.heap.push _).size; simp)).trans (Go.heap_alloc_new w _)
      have hW1 : W.heap[w.heap.size + 1]? = some (.cells #[.int .i64 (l0_1.length : Int)] 2 (0, 0)) := by rw [hWe]; have := Go.heap_alloc_new ((w.alloc (.cells #[.slice A0_0 l0_0.length c0_0, .slice A0_1 l0_1.length c0_1, .slice A0_2 l0_2.length c0_2] 66)).drewN nd) (.cells #[.int .i64 (l0_1.length : Int)] 2); simpa using this
      have hWs : W.heap.size = w.heap.size + 2 := by rw [hWe]; simp
      have hbW : Below w.heap.size w W := by rw [hWe]; exact (pw_below_drewN ((Below.refl _ _).alloc (Nat.le_refl _) _) nd).alloc (by simp) _
      rw [← hWe]
      have HBW := Aside0.mk hbW
      have HW0 := Aside0.mk hW0
      have HW1 := Aside0.mk hW1
      have HWS := Aside0.mk hWs
      have z0 := blk_cell hW0 0
      have z1 := blk_cell hW0 1
      have z2 := blk_cell hW0 2
      have z3 := blk_cell hW1 0
      simp only [List.getElem?_toArray, List.getElem?_cons_zero, List.getElem?_cons_succ] at z0 z1 z2 z3
      clear hWe hbW hW0 hW1 hWs
      go_quiet (first | (go_at_call 98; (refine (impl_within.calls (l0_1.length : Int) 1 1000 true _ HW.out).mono ?_); rintro e w' ⟨rfl, ⟨nd, rfl⟩⟩; (first | exact ⟨rfl, _, World.drewN_drewN _ _ _⟩ | exact ⟨rfl, _, Eq.trans (World.drewN_drewN _ _ _) (congrArg (World.drewN _) (Nat.add_assoc _ _ _))⟩)) | (go_at_call 174; (refine (impl_size_int64_174.calls _ _ l0_2 (l0_2.length : Int) _ ?s1 HC2.out rfl).mono ?_); (case s1 => repeat (first | exact Kd.C_below HR2.out HBW.out | (with_reducible refine Kd.C_drewN ?_ _) | (with_reducible refine Kd.C_drew ?_))); rintro e w' ⟨rfl, ⟨nd, rfl⟩⟩; (first | exact ⟨rfl, _, World.drewN_drewN _ _ _⟩ | exact ⟨rfl, _, Eq.trans (World.drewN_drewN _ _ _) (congrArg (World.drewN _) (Nat.add_assoc _ _ _))⟩)))
      have hr : r = false := by
        have := HH.out
        unfold impl_DfaOk.f at this
        rw [if_pos C1.out, if_neg C2.out] at this
        exact (Option.some.inj this).symm
      have HRR := Aside0.mk hr
      clear hr
      go_wp2
      go_ret
      exact ⟨by rw [HRR.out]; rfl, pw_below_drewN HBW.out _⟩
  · have HW := Aside0.mk (withinB (l0_1.length : Int) 1 1000)
    rw [decide_eq_false c1] at HW
    have C1 := Aside0.mk c1
    clear c1
    go_enter Try.func125, Try.ntmps125
    go_wp2_with fail
    refine (impl_size_int64_173.calls _ _ l0_1 (l0_1.length : Int) _ ?s1 HC1.out rfl).mono ?_
    case s1 => repeat (first | exact HR1.out | (with_reducible refine Kd.C_alloc ?_ _) | (with_reducible refine Kd.C_drewN ?_ _) | (with_reducible refine Kd.C_drew ?_))
    rintro e w' ⟨rfl, ⟨nd, rfl⟩⟩
    go_wp2_with fail
    obtain ⟨W, hWe⟩ : ∃ W, W = (((w.alloc (.cells #[.slice A0_0 l0_0.length c0_0, .slice A0_1 l0_1.length c0_1, .slice A0_2 l0_2.length c0_2] 66)).drewN nd).alloc (.cells #[.int .i64 (l0_1.length : Int)] 2)) := ⟨_, rfl⟩
    have hW0 : W.heap[w.heap.size]? = some (.cells #[.slice A0_0 l0_0.length c0_0, .slice A0_1 l0_1.length c0_1, .slice A0_2 l0_2.length c0_2] 66 (0, 0)) := by rw [hWe]; exact (Below.heap_alloc _ _ _ (by show w.heap.size < (w.heap.push _).size; simp)).trans (Go.heap_alloc_new w _)
    have hW1 : W.heap[w.heap.size + 1]? = some (.cells #[.int .i64 (l0_1.length : Int)] 2 (0, 0)) := by rw [hWe]; have := Go.heap_alloc_new ((w.alloc (.cells #[.slice A0_0 l0_0.length c0_0, .slice A0_1 l0_1.length c0_1, .slice A0_2 l0_2.length c0_2] 66)).drewN nd) (.cells #[.int .i64 (l0_1.length : Int)] 2); simpa using this
    have hWs : W.heap.size = w.heap.size + 2 := by rw [hWe]; simp
    have hbW : Below w.heap.size w W := by rw [hWe]; exact (pw_below_drewN ((Below.refl _ _).alloc (Nat.le_refl _) _) nd).alloc (by simp) _
    rw [← hWe]
    have HBW := Aside0.mk hbW
    have HW0 := Aside0.mk hW0
    have HW1 := Aside0.mk hW1
    have HWS := Aside0.mk hWs
    have z0 := blk_cell hW0 0
    have z1 := blk_cell hW0 1
    have z2 := blk_cell hW0 2
    have z3 := blk_cell hW1 0
    simp only [List.getElem?_toArray, List.getElem?_cons_zero, List.getElem?_cons_succ] at z0 z1 z2 z3
    clear hWe hbW hW0 hW1 hWs
    go_quiet (first | (go_at_call 98; (refine (impl_within.calls (l0_1.length : Int) 1 1000 false _ HW.out).mono ?_); rintro e w' ⟨rfl, ⟨nd, rfl⟩⟩; (first | exact ⟨rfl, _, World.drewN_drewN _ _ _⟩ | exact ⟨rfl, _, Eq.trans (World.drewN_drewN _ _ _) (congrArg (World.drewN _) (Nat.add_assoc _ _ _))⟩)) | (go_at_call 174; (refine (impl_size_int64_174.calls _ _ l0_2 (l0_2.length : Int) _ ?s1 HC2.out rfl).mono ?_); (case s1 => repeat (first | exact Kd.C_below HR2.out HBW.out | (with_reducible refine Kd.C_drewN ?_ _) | (with_reducible refine Kd.C_drew ?_))); rintro e w' ⟨rfl, ⟨nd, rfl⟩⟩; (first | exact ⟨rfl, _, World.drewN_drewN _ _ _⟩ | exact ⟨rfl, _, Eq.trans (World.drewN_drewN _ _ _) (congrArg (World.drewN _) (Nat.add_assoc _ _ _))⟩)))
    have hr : r = false := by
      have := HH.out
      unfold impl_DfaOk.f at this
      rw [if_neg C1.out] at this
      exact (Option.some.inj this).symm
    have HRR := Aside0.mk hr
    clear hr
    go_wp2
    go_ret
    exact ⟨by rw [HRR.out]; rfl, pw_below_drewN HBW.out _⟩

/-! ### slices_Clone_int64_int64: function 131 -/
set_option maxHeartbeats 1000000 in
set_option maxRecDepth 100000 in
theorem cl_ints.calls (A0 : Option Addr) (c0 : Nat) (l0 : List Int) (w : World) (hr0 : Kd.C (Kd.int .i64) w A0 l0.length l0) (hc0 : l0.length ≤ c0) (hp : 0 < l0.length) (hl : l0.length ≤ 4294967296) :
    Calls Try.prog 131 #[.slice A0 l0.length c0] w fun e w' => ∃ v0_ : Value, e = .returned (v0_) ∧ Kd.R (Kd.int .i64) 2 w' w.heap.size (fun _ => True) v0_ l0 ∧ Below w.heap.size w w' := by
  obtain ⟨ad, rfl⟩ : ∃ ad, A0 = some ad := by
    obtain ⟨ad, c, e, _⟩ := Kd.C_get hr0 (0 : Int) (0 : Int) (by omega) (by omega)
    exact ⟨ad, e⟩
  have HR0 := Aside0.mk hr0
  have HL := Aside0.mk hl
  have HB := Aside0.mk (Below.refl w.heap.size w)
  clear hr0 hc0 hp hl
  have hnil : (binOp .eql 60 (.slice (some ad) l0.length c0) (.slice none 0 0)).run Try.prog w = .ok (.bool false) w := Lib.run_eql_slice_nil w 60 2 (some ad) _ _ _ _ Try.underlying60
  go_enter Try.func131, Try.ntmps131
  go_wp2_with (first
    | ((with_reducible refine gate_dst (N := 5) rfl ?_); refine Kd.R_lit (Kd.int .i64) _ 2 ?hg (N := 5) ?hd (xs := ([] : List Int)) (inner := []) (ok := fun _ => True) (okp := fun _ => True) ?hr ?hp (fun _ hk => hk) trivial (Below.refl _ _) (Nat.le_refl _) (by simp) ?_; (case hd => rfl); (case hg => rfl); (case hr => first | (go_simp; done) | (go_simp; rfl)); (case hp => exact (Reps.none _ _)); intro v5 w5 ho hb hg_ hnew_; have HO := Aside0.mk ho; have HB5 := Aside0.mk hb; clear ho hb hg_ hnew_)
    | ((with_reducible refine gate_dst (N := 7) rfl ?_); refine Kd.R_append_rows (Kd.int .i64) (w0 := w) w.heap.size rfl (.tmp 5) (.tmp 6) 60 2 (.int .i64 0) 8 rfl Try.underlying60 info2 rfl (by decide) (by omega) v5 ([] : List Int) l0 _ _ _ (fun _ => True) (fun _ => False) rfl rfl HO.out (Kd.C_below HR0.out HB5.out) (fun _ _ h => h) (fun _ h => h.elim) (fun _ _ => trivial) HB5.out (below_size HB5.out) ?aL ?_; (case aL => have := HL.out; simp; omega); intro v7 w7 ho hb hg hat; have HO7 := Aside0.mk ho; have HB7 := Aside0.mk hb; clear ho hb hg hat))
  go_ret
  exact ⟨_, rfl, HO7.out, HB7.out⟩

def slices_Clone_int64_int64.f (l0 : List Int) : Option (List Int) := if 0 < l0.length ∧ l0.length ≤ 4294967296 then some l0 else none
theorem slices_Clone_int64_int64.calls (A0 : Option Addr) (c0 : Nat) (l0 : List Int) (r : List Int) (w : World) (hr0 : Kd.C (Kd.int .i64) w A0 l0.length l0) (hc0 : l0.length ≤ c0) (h : slices_Clone_int64_int64.f l0 = some r) :
    Calls Try.prog 131 #[.slice A0 l0.length c0] w fun e w' => ∃ v0_ : Value, e = .returned (v0_) ∧ Kd.R (Kd.int .i64) 2 w' w.heap.size (fun _ => True) v0_ r ∧ Below w.heap.size w w' := by
  unfold slices_Clone_int64_int64.f at h
  by_cases hp : 0 < l0.length ∧ l0.length ≤ 4294967296
  · rw [if_pos hp] at h
    obtain rfl := Option.some.inj h
    exact cl_ints.calls A0 c0 l0 w hr0 hc0 hp.1 hp.2
  · rw [if_neg hp] at h
    exact absurd h (by simp)

/-! ### slices_Index_int64_int64: function 181 -/
def slices_Index_int64_int64.l0 : Nat → List Int → Int → Int → Int → Option (Int)
  | 0, _, _, _, _ => none
  | k + 1, x0, x1, x7, x8 => if x8 < x7 then (if 0 ≤ x8 then (if x8 < (x0.length : Int) then (if x1 = (rd x0 x8) then (some x8) else (slices_Index_int64_int64.l0 k x0 x1 x7 (wrap64 (x8 + 1)))) else (none)) else (none)) else (some (-1))
def slices_Index_int64_int64.f (k : Nat) (l0 : List Int) (a1 : Int) : Option (Int) := slices_Index_int64_int64.l0 k l0 a1 (l0.length : Int) 0
theorem slices_Index_int64_int64.mono_l : ∀ k, (∀ y0 y1 y2 y3, LeO (slices_Index_int64_int64.l0 k y0 y1 y2 y3) (slices_Index_int64_int64.l0 (k + 1) y0 y1 y2 y3))
  | 0 => fun _ _ _ _ r h => by simp [slices_Index_int64_int64.l0] at h
  | k + 1 => by
    have ih0 := slices_Index_int64_int64.mono_l k
    · intro y0 y1 y2 y3
      unfold slices_Index_int64_int64.l0
      repeat' first
      | (with_reducible exact ih0 _ _ _ _)
      | (with_reducible exact LeO.refl _)
      | (with_reducible exact LeO.none _)
      | (with_reducible refine LeO.ite ?_ ?_)
      | (with_reducible refine LeO.bind ?_ (fun _ => ?_))
      | exact ih0 _ _ _ _
      | exact LeO.none _
      | refine LeO.ite ?_ ?_
      | refine LeO.bind ?_ (fun _ => ?_)
theorem slices_Index_int64_int64.mono : ∀ a0 a1 k, LeO (slices_Index_int64_int64.f k a0 a1) (slices_Index_int64_int64.f (k + 1) a0 a1) := by
  intro a0 a1 k
  have ih0 := slices_Index_int64_int64.mono_l k
  unfold slices_Index_int64_int64.f
  repeat' first
      | (with_reducible exact ih0 _ _ _ _)
      | (with_reducible exact LeO.refl _)
      | (with_reducible exact LeO.none _)
      | (with_reducible refine LeO.ite ?_ ?_)
      | (with_reducible refine LeO.bind ?_ (fun _ => ?_))
      | exact ih0 _ _ _ _
      | exact LeO.none _
      | refine LeO.ite ?_ ?_
      | refine LeO.bind ?_ (fun _ => ?_)
set_option maxHeartbeats 8000000 in
set_option maxRecDepth 100000 in
theorem slices_Index_int64_int64.calls (k : Nat) (A0 : Option Addr) (c0 : Nat) (l0 : List Int) (a1 : Int) (r : Int) (w : World) (hr0 : Kd.C (Kd.int .i64) w A0 l0.length l0) (hc0 : l0.length ≤ c0) (h : slices_Index_int64_int64.f k l0 a1 = some r) :
    Calls Try.prog 181 #[.slice A0 l0.length c0, .int .i64 a1] w fun e w' => e = .returned (.int .i64 r) ∧ Drawn0 w w' := by
  have HR0 := Aside0.mk hr0
  have HC0 := Aside0.mk hc0
  clear hr0 hc0
  have H : (slices_Index_int64_int64.l0 k l0 a1 (l0.length : Int) 0) = some r := h
  clear h
  have H' := Aside0.mk H
  clear H
  go_enter Try.func181, Try.ntmps181
  go_wp2
  go_loopg [8] k (fun kq v8 w' => ∃ (x8_1 : Int), v8 = .int .i64 x8_1 ∧ Aside0 (slices_Index_int64_int64.l0 kq l0 a1 (l0.length : Int) x8_1 = some r) ∧ Aside0 (kq ≤ k) ∧ Drawn0 w w')
  case atStart => exact ⟨(0), (by first | rfl | (simp; done) | (simp [*]; done)), H', ⟨Nat.le_refl _⟩, by repeat (first | exact Drawn0.refl _ | apply Drawn0.step)⟩
  case round =>
    clear H'
    try clear c1
    try clear p2
    obtain ⟨x8_1, rfl, HA, HK1, ⟨m1, rfl⟩⟩ := hrel
    cases gk with
    | zero => exact absurd HA.out (by simp [slices_Index_int64_int64.l0])
    | succ k1 =>
      have H := HA.out
      clear HA
      simp only [slices_Index_int64_int64.l0] at H
      by_cases c3 : x8_1 < (l0.length : Int)
      · rw [if_pos c3] at H
        have c3b0 : decide (x8_1 < (l0.length : Int)) = true := decide_eq_true c3
        clear c3
        by_cases c4 : 0 ≤ x8_1
        · rw [if_pos c4] at H
          have c4b0 : decide (0 ≤ x8_1) = true := decide_eq_true c4
          clear c4
          by_cases c5 : x8_1 < (l0.length : Int)
          · rw [if_pos c5] at H
            have c5b0 : decide (x8_1 < (l0.length : Int)) = true := decide_eq_true c5
            clear c5
            by_cases c6 : a1 = (rd l0 x8_1)
            · rw [if_pos c6] at H
              have c6b0 : (a1 == (rd l0 x8_1)) = true := beq_iff_eq.mpr c6
              have c6b1 : (a1 != (rd l0 x8_1)) = false := bne_eq_false_iff_eq.mpr c6
              clear c6
              obtain rfl := Option.some.inj H
              have p198 : 0 ≤ (x8_1 : Int) := of_decide_eq_true (by first | (with_reducible assumption) | assumption)
              have q198 : x8_1 < (l0.length : Int) := of_decide_eq_true (by first | (with_reducible assumption) | assumption)
              obtain ⟨ad198, e198, hx198_0⟩ := Kd.at_int HR0.out x8_1 p198 q198
              cases e198
              replace p198 := eq_true p198
              replace q198 := eq_true q198
              go_wp2
              go_ret
              exact ⟨by first | rfl | (simp; done) | (simp [*]; done), by repeat (first | exact Drawn0.refl _ | apply Drawn0.step)⟩
            · rw [if_neg c6] at H
              have c6b0 : (a1 == (rd l0 x8_1)) = false := beq_eq_false_iff_ne.mpr c6
              have c6b1 : (a1 != (rd l0 x8_1)) = true := bne_iff_ne.mpr c6
              have H' := Aside0.mk H
              clear H
              have p198 : 0 ≤ (x8_1 : Int) := of_decide_eq_true (by first | (with_reducible assumption) | assumption)
              have q198 : x8_1 < (l0.length : Int) := of_decide_eq_true (by first | (with_reducible assumption) | assumption)
              obtain ⟨ad198, e198, hx198_0⟩ := Kd.at_int HR0.out x8_1 p198 q198
              cases e198
              replace p198 := eq_true p198
              replace q198 := eq_true q198
              go_wp2
              go_roundg k1
              case measure => have := HK1.out; omega
              case rel => exact ⟨(wrap64 (x8_1 + 1)), (by first | rfl | (simp; done) | (simp [*]; done)), H', ⟨by have := HK1.out; omega⟩, by repeat (first | exact Drawn0.refl _ | apply Drawn0.step)⟩
          · rw [if_neg c5] at H
            exact absurd H (by simp)
        · rw [if_neg c4] at H
          exact absurd H (by simp)
      · rw [if_neg c3] at H
        have c3b0 : decide (x8_1 < (l0.length : Int)) = false := decide_eq_false c3
        clear c3
        obtain rfl := Option.some.inj H
        go_wp2
        go_ret
        exact ⟨by first | rfl | (simp; done) | (simp [*]; done), by repeat (first | exact Drawn0.refl _ | apply Drawn0.step)⟩

/-! ### slices_Contains_int64_int64: function 132 -/
def slices_Contains_int64_int64.f (k : Nat) (l0 : List Int) (a1 : Int) : Option (Bool) := (slices_Index_int64_int64.f k l0 a1).bind fun t199 => (some (decide (t199 ≥ 0)))
theorem slices_Contains_int64_int64.mono : ∀ a0 a1 k, LeO (slices_Contains_int64_int64.f k a0 a1) (slices_Contains_int64_int64.f (k + 1) a0 a1) := by
  intro a0 a1 k
  unfold slices_Contains_int64_int64.f
  repeat' first
      | (with_reducible exact slices_Index_int64_int64.mono _ _ _)
      | (with_reducible exact LeO.refl _)
      | (with_reducible exact LeO.none _)
      | (with_reducible refine LeO.ite ?_ ?_)
      | (with_reducible refine LeO.bind ?_ (fun _ => ?_))
      | exact slices_Index_int64_int64.mono _ _ _
      | exact LeO.none _
      | refine LeO.ite ?_ ?_
      | refine LeO.bind ?_ (fun _ => ?_)
set_option maxHeartbeats 8000000 in
set_option maxRecDepth 100000 in
theorem slices_Contains_int64_int64.calls (k : Nat) (A0 : Option Addr) (c0 : Nat) (l0 : List Int) (a1 : Int) (r : Bool) (w : World) (hr0 : Kd.C (Kd.int .i64) w A0 l0.length l0) (hc0 : l0.length ≤ c0) (h : slices_Contains_int64_int64.f k l0 a1 = some r) :
    Calls Try.prog 132 #[.slice A0 l0.length c0, .int .i64 a1] w fun e w' => e = .returned (.bool r) ∧ Drawn0 w w' := by
  have HR0 := Aside0.mk hr0
  have HC0 := Aside0.mk hc0
  clear hr0 hc0
  have H : ((slices_Index_int64_int64.f k l0 a1).bind fun t199 => (some (decide (t199 ≥ 0)))) = some r := h
  clear h
  replace H := Option.bind_eq_some_iff.mp H
  obtain ⟨t199, A30, H⟩ := H
  replace H : (some (decide (t199 ≥ 0))) = some r := H
  have A3 := Aside0.mk A30
  clear A30
  obtain rfl := Option.some.inj H
  go_enter Try.func132, Try.ntmps132
  go_wp2_with (first | ((with_reducible refine gate_callee (f := 181) rfl ?_); refine goesL_ (some 7) rfl rfl Try.func181 (by kernel_rfl) rfl #[.slice A0 l0.length c0, .int .i64 a1] rfl (by (try simp only [List.map_toArray, List.map_cons, List.map_nil]); first | done | rfl | (simp only [List.length_drop, List.length_take]; rfl)) ?_; (with_reducible refine (slices_Index_int64_int64.calls k _ _ l0 a1 t199 _ ?side1 ?side2 A3.out).mono ?_); (case side1 => repeat (first | exact HR0.out | (with_reducible refine Kd.C_alloc ?_ _) | (with_reducible refine Kd.C_drewN ?_ _) | (with_reducible refine Kd.C_drew ?_))); (case side2 => exact HC0.out); rintro e w' ⟨rfl, ⟨nd, rfl⟩⟩; refine ⟨_, rfl, ?_⟩))
  go_ret
  exact ⟨by first | rfl | (simp; done) | (simp [*]; done), by repeat (first | exact Drawn0.refl _ | apply Drawn0.step)⟩

end Go.Proofs.Ytabpfejdppfcdaa.PFnExactRestrict
