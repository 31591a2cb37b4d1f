-- Written by this session's own program (wip/pr.py) over the kit's printer; contracts that the printer does not know are given by hand.
import Derived.Test.YtbijmhooamjgoaaPFnExactFoldedx0
namespace Go.Proofs.Ytbijmhooamjgoaa.PFnExactFolded
open Go.RowKit Go.Proofs.YtbijmhooamjgoaaW.PrintWords Go.Proofs.YtbijmhooamjgoaaW.PrintLast Go.Proofs.YtbijmhooamjgoaaW.PrintMore
attribute [local go_sem] max2_int min2_int max_two min_two max_three min_three max_four min_four   -- for this text's walks alone
set_option linter.unusedVariables false
set_option linter.unusedSimpArgs false

/-! ### slices_Clone_int64_int64: function 122 -/
set_option maxHeartbeats 1000000 in
set_option maxRecDepth 100000 in
theorem cl_ints.calls (A0 : Option Addr) (c0 : Nat) (l0 : List Int) (w : World) (hr0 : Kd.C (Kd.int .i64) w A0 l0.length l0) (hc0 : l0.length ≤ c0) (hl : l0.length ≤ 4294967296) :
    Calls Try.prog 122 #[.slice A0 l0.length c0] w fun e w' => ∃ v0_ : Value, e = .returned (v0_) ∧ Kd.R (Kd.int .i64) 2 w' w.heap.size (fun _ => True) v0_ l0 ∧ Below w.heap.size w w' := by
  cases A0 with
  | none =>
    obtain rfl : l0 = [] := by
      cases l0 with
      | nil => rfl
      | cons x l =>
        obtain ⟨ad, c, e, _⟩ := Kd.C_get hr0 (0 : Int) (0 : Int) (by omega) (by simp); cases e
    clear hr0 hc0 hl; have hnil : (binOp .eql 29 (.slice none 0 c0) (.slice none 0 0)).run Try.prog w = .ok (.bool true) w := Lib.run_eql_slice_nil w 29 2 none _ _ _ _ Try.underlying29
    rw [List.length_nil]
    go_enter Try.func122, Try.ntmps122
    go_wp2
    go_ret
    exact ⟨_, rfl, Kd.R_nil _ _ _ _ _, Below.refl _ _⟩
  | some ad =>
    have HR0 := Aside0.mk hr0; have HL := Aside0.mk hl; have HB := Aside0.mk (Below.refl w.heap.size w); clear hr0 hc0 hl; have hnil : (binOp .eql 29 (.slice (some ad) l0.length c0) (.slice none 0 0)).run Try.prog w = .ok (.bool false) w := Lib.run_eql_slice_nil w 29 2 (some ad) _ _ _ _ Try.underlying29
    go_enter Try.func122, Try.ntmps122
    go_wp2_with (first
      | ((with_reducible refine gate_dst (N := 5) rfl ?_); refine Kd.R_lit (Kd.int .i64) _ 2 ?hg (N := 5) ?hd (xs := ([] : List Int)) (inner := []) (ok := fun _ => True) (okp := fun _ => True) ?hr ?hp (fun _ hk => hk) trivial (Below.refl _ _) (Nat.le_refl _) (by simp) ?_; (case hd => rfl); (case hg => rfl); (case hr => first | (go_simp; done) | (go_simp; rfl)); (case hp => exact (Reps.none _ _)); intro v5 w5 ho hb hg_ hnew_; have HO := Aside0.mk ho; have HB5 := Aside0.mk hb; clear ho hb hg_ hnew_)
      | ((with_reducible refine gate_dst (N := 7) rfl ?_); refine Kd.R_append_rows (Kd.int .i64) (w0 := w) w.heap.size rfl (.tmp 5) (.tmp 6) 29 2 (.int .i64 0) 8 rfl Try.underlying29 info2 rfl (by decide) (by omega) v5 ([] : List Int) l0 _ _ _ (fun _ => True) (fun _ => False) rfl rfl HO.out (Kd.C_below HR0.out HB5.out) (fun _ _ h => h) (fun _ h => h.elim) (fun _ _ => trivial) HB5.out (below_size HB5.out) ?aL ?_; (case aL => have := HL.out; simp; omega); intro v7 w7 ho hb hg hat; have HO7 := Aside0.mk ho; have HB7 := Aside0.mk hb; clear ho hb hg hat))
    go_ret
    exact ⟨_, rfl, HO7.out, HB7.out⟩

def slices_Clone_int64_int64.f (l0 : List Int) : Option (List Int) := if l0.length ≤ 4294967296 then some l0 else none
theorem slices_Clone_int64_int64.calls (A0 : Option Addr) (c0 : Nat) (l0 : List Int) (r : List Int) (w : World) (hr0 : Kd.C (Kd.int .i64) w A0 l0.length l0) (hc0 : l0.length ≤ c0) (h : slices_Clone_int64_int64.f l0 = some r) :
    Calls Try.prog 122 #[.slice A0 l0.length c0] w fun e w' => ∃ v0_ : Value, e = .returned (v0_) ∧ Kd.R (Kd.int .i64) 2 w' w.heap.size (fun _ => True) v0_ r ∧ Below w.heap.size w w' := by
  unfold slices_Clone_int64_int64.f at h
  by_cases hp : l0.length ≤ 4294967296
  · rw [if_pos hp] at h
    obtain rfl := Option.some.inj h
    exact cl_ints.calls A0 c0 l0 w hr0 hc0 hp
  · rw [if_neg hp] at h
    exact absurd h (by simp)

/-! ### impl_Span: function 192 -/
set_option maxHeartbeats 1000000 in
set_option maxRecDepth 100000 in
theorem cl_spans.calls (A0 : Option Addr) (c0 : Nat) (l0 : List S33) (w : World) (hr0 : Kd.C k33 w A0 l0.length l0) (hc0 : l0.length ≤ c0) (hl : l0.length ≤ 4294967296) :
    Calls Try.prog 192 #[.slice A0 l0.length c0] w fun e w' => ∃ v0_ : Value, e = .returned (v0_) ∧ Kd.R k33 33 w' w.heap.size (fun _ => True) v0_ l0 ∧ Below w.heap.size w w' := by
  cases A0 with
  | none =>
    obtain rfl : l0 = [] := by
      cases l0 with
      | nil => rfl
      | cons x l =>
        obtain ⟨ad, c, e, _⟩ := Kd.C_get hr0 (⟨0, 0⟩ : S33) (0 : Int) (by omega) (by simp); cases e
    clear hr0 hc0 hl; have hnil : (binOp .eql 31 (.slice none 0 c0) (.slice none 0 0)).run Try.prog w = .ok (.bool true) w := Lib.run_eql_slice_nil w 31 33 none _ _ _ _ Try.underlying31
    rw [List.length_nil]
    go_enter Try.func192, Try.ntmps192
    go_wp2
    go_ret
    exact ⟨_, rfl, Kd.R_nil _ _ _ _ _, Below.refl _ _⟩
  | some ad =>
    have HR0 := Aside0.mk hr0; have HL := Aside0.mk hl; have HB := Aside0.mk (Below.refl w.heap.size w); clear hr0 hc0 hl; have hnil : (binOp .eql 31 (.slice (some ad) l0.length c0) (.slice none 0 0)).run Try.prog w = .ok (.bool false) w := Lib.run_eql_slice_nil w 31 33 (some ad) _ _ _ _ Try.underlying31
    go_enter Try.func192, Try.ntmps192
    go_wp2_with (first
      | ((with_reducible refine gate_dst (N := 5) rfl ?_); refine Kd.R_lit k33 _ 33 ?hg (N := 5) ?hd (xs := ([] : List S33)) (inner := []) (ok := fun _ => True) (okp := fun _ => True) ?hr ?hp (fun _ hk => hk) trivial (Below.refl _ _) (Nat.le_refl _) (by simp) ?_; (case hd => rfl); (case hg => rfl); (case hr => first | (go_simp; done) | (go_simp; rfl)); (case hp => exact (Reps.none _ _)); intro v5 w5 ho hb hg_ hnew_; have HO := Aside0.mk ho; have HB5 := Aside0.mk hb; clear ho hb hg_ hnew_)
      | ((with_reducible refine gate_dst (N := 7) rfl ?_); refine Kd.R_append_rows k33 (w0 := w) w.heap.size rfl (.tmp 5) (.tmp 6) 31 33 (.agg #[.int .i64 0, .int .i64 0]) 16 rfl Try.underlying31 info33 rfl (by decide) (by omega) v5 ([] : List S33) l0 _ _ _ (fun _ => True) (fun _ => False) rfl rfl HO.out (Kd.C_below HR0.out HB5.out) (fun _ _ h => h) (fun _ h => h.elim) (fun _ _ => trivial) HB5.out (below_size HB5.out) ?aL ?_; (case aL => have := HL.out; simp; omega); intro v7 w7 ho hb hg hat; have HO7 := Aside0.mk ho; have HB7 := Aside0.mk hb; clear ho hb hg hat))
    go_ret
    exact ⟨_, rfl, HO7.out, HB7.out⟩

def impl_Span.f (l0 : List S33) : Option (List S33) := if l0.length ≤ 4294967296 then some l0 else none
theorem impl_Span.calls (A0 : Option Addr) (c0 : Nat) (l0 : List S33) (r : List S33) (w : World) (hr0 : Kd.C k33 w A0 l0.length l0) (hc0 : l0.length ≤ c0) (h : impl_Span.f l0 = some r) :
    Calls Try.prog 192 #[.slice A0 l0.length c0] w fun e w' => ∃ v0_ : Value, e = .returned (v0_) ∧ Kd.R k33 33 w' w.heap.size (fun _ => True) v0_ r ∧ Below w.heap.size w w' := by
  unfold impl_Span.f at h
  by_cases hp : l0.length ≤ 4294967296
  · rw [if_pos hp] at h
    obtain rfl := Option.some.inj h
    exact cl_spans.calls A0 c0 l0 w hr0 hc0 hp
  · rw [if_neg hp] at h
    exact absurd h (by simp)

/-! ### impl_copyRx: function 151 -/
def impl_copyRx.l0 : Nat → List (S181) → Int → Int → List (S181) → Option ((List (S181)))
  | 0, _, _, _, _ => none
  | k + 1, x8, x9, x10, x278000 => if x10 < x9 then (if 0 ≤ x10 then (if x10 < (x8.length : Int) then ((impl_Span.f ((rd_T181 x8 x10).f1)).bind fun t280 => ((slices_Clone_int64_int64.f ((rd_T181 x8 x10).f2)).bind fun t283 => (if x278000.length < 1954687338268 then (impl_copyRx.l0 k x8 x9 (wrap64 (x10 + 1)) (x278000 ++ [(⟨(rd_T181 x8 x10).f0, t280, t283, (rd_T181 x8 x10).f3, (rd_T181 x8 x10).f4⟩ : S181)])) else (none)))) else (none)) else (none)) else (some x278000)
def impl_copyRx.f (k : Nat) (l0_0 : List (S181)) : Option ((List (S181))) := impl_copyRx.l0 k l0_0 (l0_0.length : Int) 0 ([] : List (S181))
theorem impl_copyRx.mono_l : ∀ k, (∀ y0 y1 y2 y3, LeO (impl_copyRx.l0 k y0 y1 y2 y3) (impl_copyRx.l0 (k + 1) y0 y1 y2 y3))
  | 0 => fun _ _ _ _ r h => by simp [impl_copyRx.l0] at h
  | k + 1 => by
    have ih0 := impl_copyRx.mono_l k
    · intro y0 y1 y2 y3
      unfold impl_copyRx.l0
      repeat' first
      | (with_reducible exact LeO.refl _)
      | exact ih0 _ _ _ _
      | exact LeO.none _
      | refine LeO.ite ?_ ?_
      | refine LeO.bind ?_ (fun _ => ?_)
theorem impl_copyRx.mono : ∀ a0 k, LeO (impl_copyRx.f k a0) (impl_copyRx.f (k + 1) a0) := by
  intro a0 k
  have ih0 := impl_copyRx.mono_l k
  unfold impl_copyRx.f
  repeat' first
      | (with_reducible exact LeO.refl _)
      | exact ih0 _ _ _ _
      | exact LeO.none _
      | refine LeO.ite ?_ ?_
      | refine LeO.bind ?_ (fun _ => ?_)
def impl_copyRx.T5 : Bool × List (List Nat × List Nat) := (true, [([], []), ([0], [0]), ([1], [1]), ([], []), ([3], [3]), ([4, 2], [4]), ([0, 1, 2, 3, 4], []), ([6, 2, 5, 0, 1, 2, 3, 4], [2, 6]), ([0, 1, 2, 3, 4, 5, 6, 7], []), ([8, 5, 7, 0, 1, 2, 3, 4, 5, 6, 7], [5, 8])])
def impl_copyRx.B5 : List Nat := [0, 1, 3, 0, 8, 31, 31, 127, 255, 511]
theorem impl_copyRx.tab5 : rtab .any (opsOf Try.f151 5) = impl_copyRx.T5 := by kernel_rfl
theorem impl_copyRx.bits5 : waitsOk impl_copyRx.T5.2 impl_copyRx.B5 = true := by kernel_rfl
set_option maxHeartbeats 8000000 in
set_option maxRecDepth 100000 in
theorem impl_copyRx.calls (k : Nat) (A0_0 : Option Addr) (c0_0 : Nat) (l0_0 : List (S181)) (r : List (S181)) (w : World) (hr0_0 : Kd.C k181 w A0_0 l0_0.length l0_0) (hc0_0 : l0_0.length ≤ c0_0) (h : impl_copyRx.f k l0_0 = some r) :
    Calls Try.prog 151 #[.agg #[.slice A0_0 l0_0.length c0_0]] w fun e w' => ∃ v0_ : Value, e = .returned (.agg #[v0_]) ∧ Kd.S k181 181 w' w.heap.size (fun _ => True) v0_ r ∧ Below w.heap.size w w' := by
  have hu106 := Try.underlying106
  have hu181 := Try.underlying181
  have HR0_0 := Aside0.mk hr0_0
  have HC0_0 := Aside0.mk hc0_0
  clear hr0_0 hc0_0
  have HB := Aside0.mk (Below.refl w.heap.size w)
  have H : (impl_copyRx.l0 k l0_0 (l0_0.length : Int) 0 ([] : List (S181))) = some r := h
  clear h
  have H' := Aside0.mk H
  clear H
  go_enter Try.func151, Try.ntmps151
  go_wp2_with (first | ((with_reducible refine gate_dst (N := 1) rfl ?_); refine box_event ?hg (N := 1) ?hd (cs := #[.slice A0_0 l0_0.length c0_0]) (t := 106) ?hr ?_; (case hd => rfl); (case hg => rfl); (case hr => first | (go_simp; done) | (go_simp; rfl)); intro gb275 hg w2 hbox hb; have BK275 := Aside0.mk (hbox); have GW275 := Aside0.mk ((by rw [hg]; exact (below_size (by repeat (first | (with_reducible first | exact HB.out | apply below_alloc | apply pw_below_drewN | apply below_drew1) | exact HB.out))) : w.heap.size ≤ gb275)); have GE275 := Aside0.mk ((by rw [hg]; exact (below_size (by repeat (first | (with_reducible first | exact HB.out | apply below_alloc | apply pw_below_drewN | apply below_drew1) | exact HB.out))) : w.heap.size ≤ gb275)); replace HB := Aside0.mk (below_step (by repeat (first | (with_reducible first | exact HB.out | apply below_alloc | apply pw_below_drewN | apply below_drew1) | exact HB.out)) hb); clear hb hbox hg) | ((with_reducible refine gate_dst (N := 2) rfl ?_); refine box_event ?hg (N := 2) ?hd (cs := #[.slice none 0 0]) (t := 106) ?hr ?_; (case hd => rfl); (case hg => rfl); (case hr => first | (go_simp; done) | (go_simp; rfl)); intro gb276 hg w3 hbox hb; have BK276 := Aside0.mk (hbox); have GW276 := Aside0.mk ((by rw [hg]; exact (below_size (by repeat (first | (with_reducible first | exact HB.out | apply below_alloc | apply pw_below_drewN | apply below_drew1 | refine below_set ?_ GE275.out) | exact HB.out))) : w.heap.size ≤ gb276)); have GE276 := Aside0.mk ((by rw [hg]; exact (below_size (by repeat (first | (with_reducible first | exact HB.out | apply below_alloc | apply pw_below_drewN | apply below_drew1 | refine below_set ?_ GE275.out) | exact HB.out))) : w.heap.size ≤ gb276)); replace HB := Aside0.mk (below_step (by repeat (first | (with_reducible first | exact HB.out | apply below_alloc | apply pw_below_drewN | apply below_drew1 | refine below_set ?_ GE275.out) | exact HB.out)) hb); have NB275_276 := Aside0.mk ((by rw [hg]; exact Nat.ne_of_lt (blk_lt (g := gb275) (o := .cells #[.slice A0_0 l0_0.length c0_0] 106 (0, 0)) (by (with_reducible repeat (first | refine blk_drewN ?_ _ | refine blk_drew ?_ | refine blk_alloc ?_ _)); exact BK275.out)) : gb275 ≠ gb276)); have NB276_275 := Aside0.mk ((by rw [hg]; exact Nat.ne_of_gt (blk_lt (g := gb275) (o := .cells #[.slice A0_0 l0_0.length c0_0] 106 (0, 0)) (by (with_reducible repeat (first | refine blk_drewN ?_ _ | refine blk_drew ?_ | refine blk_alloc ?_ _)); exact BK275.out)) : gb276 ≠ gb275)); replace BK275 := Aside0.mk (blk_below (g := gb275) (o := .cells #[.slice A0_0 l0_0.length c0_0] 106 (0, 0)) (by (with_reducible repeat (first | refine blk_drewN ?_ _ | refine blk_drew ?_ | refine blk_alloc ?_ _)); exact BK275.out) hb); clear hb hbox hg) | ((with_reducible refine gate_dst (N := 3) rfl ?_); refine box_event ?hg (N := 3) ?hd (cs := #[.slice none 0 0]) (t := 106) ?hr ?_; (case hd => rfl); (case hg => rfl); (case hr => first | (go_simp; done) | (go_simp; rfl)); intro gb277 hg w4 hbox hb; have BK277 := Aside0.mk (hbox); have GW277 := Aside0.mk ((by rw [hg]; exact (below_size (by repeat (first | (with_reducible first | exact HB.out | apply below_alloc | apply pw_below_drewN | apply below_drew1 | refine below_set ?_ GE275.out | refine below_set ?_ GE276.out) | exact HB.out))) : w.heap.size ≤ gb277)); have GE277 := Aside0.mk ((by rw [hg]; exact (below_size (by repeat (first | (with_reducible first | exact HB.out | apply below_alloc | apply pw_below_drewN | apply below_drew1 | refine below_set ?_ GE275.out | refine below_set ?_ GE276.out) | exact HB.out))) : w.heap.size ≤ gb277)); replace HB := Aside0.mk (below_step (by repeat (first | (with_reducible first | exact HB.out | apply below_alloc | apply pw_below_drewN | apply below_drew1 | refine below_set ?_ GE275.out | refine below_set ?_ GE276.out) | exact HB.out)) hb); have NB275_277 := Aside0.mk ((by rw [hg]; exact Nat.ne_of_lt (blk_lt (g := gb275) (o := .cells #[.slice A0_0 l0_0.length c0_0] 106 (0, 0)) (by (with_reducible repeat (first | refine blk_drewN ?_ _ | refine blk_drew ?_ | refine blk_alloc ?_ _)); exact BK275.out)) : gb275 ≠ gb277)); have NB277_275 := Aside0.mk ((by rw [hg]; exact Nat.ne_of_gt (blk_lt (g := gb275) (o := .cells #[.slice A0_0 l0_0.length c0_0] 106 (0, 0)) (by (with_reducible repeat (first | refine blk_drewN ?_ _ | refine blk_drew ?_ | refine blk_alloc ?_ _)); exact BK275.out)) : gb277 ≠ gb275)); replace BK275 := Aside0.mk (blk_below (g := gb275) (o := .cells #[.slice A0_0 l0_0.length c0_0] 106 (0, 0)) (by (with_reducible repeat (first | refine blk_drewN ?_ _ | refine blk_drew ?_ | refine blk_alloc ?_ _)); exact BK275.out) hb); have NB276_277 := Aside0.mk ((by rw [hg]; exact Nat.ne_of_lt (blk_lt (g := gb276) (o := .cells #[.slice none 0 0] 106 (0, 0)) (by (with_reducible repeat (first | refine blk_drewN ?_ _ | refine blk_drew ?_ | refine blk_alloc ?_ _)); exact BK276.out)) : gb276 ≠ gb277)); have NB277_276 := Aside0.mk ((by rw [hg]; exact Nat.ne_of_gt (blk_lt (g := gb276) (o := .cells #[.slice none 0 0] 106 (0, 0)) (by (with_reducible repeat (first | refine blk_drewN ?_ _ | refine blk_drew ?_ | refine blk_alloc ?_ _)); exact BK276.out)) : gb277 ≠ gb276)); replace BK276 := Aside0.mk (blk_below (g := gb276) (o := .cells #[.slice none 0 0] 106 (0, 0)) (by (with_reducible repeat (first | refine blk_drewN ?_ _ | refine blk_drew ?_ | refine blk_alloc ?_ _)); exact BK276.out) hb); clear hb hbox hg; have hnb5 := NB277_275.out; have hnc5 := NB275_277.out; have hnb6 := NB277_276.out; have hnc6 := NB276_277.out; have hcz7_0 : w4.cell? ⟨gb277, 0, none⟩ = some (.slice none 0 0) := (blk_cell BK277.out 0).trans rfl; have hfz7_0 := blk_frozen BK277.out 0; have hnb8 := NB275_276.out; have hnc8 := NB276_275.out; have hcz9_0 : w4.cell? ⟨gb275, 0, none⟩ = some (.slice A0_0 l0_0.length c0_0) := (blk_cell BK275.out 0).trans rfl; have hfz9_0 := blk_frozen BK275.out 0))
  go_loopg [10] k (fun kq v10 w' => ∃ (x10_1 : Int) (x278000_1 : List (S181)) (u278000 : Value), v10 = .int .i64 x10_1 ∧ Aside0 (impl_copyRx.l0 kq l0_0 (l0_0.length : Int) x10_1 x278000_1 = some r) ∧ Aside0 (kq ≤ k) ∧ Aside0 (Kd.S k181 181 w' w.heap.size (fun _ => True) u278000 x278000_1) ∧ Aside0 (w'.heap[gb275]? = some (.cells #[(.slice A0_0 l0_0.length c0_0)] 106 (0, 0))) ∧ Aside0 (w'.heap[gb276]? = some (.cells #[(.slice none 0 0)] 106 (0, 0))) ∧ Aside0 (w'.heap[gb277]? = some (.cells #[u278000] 106 (0, 0))) ∧ Aside0 (Below w.heap.size w w'))
  case atStart => exact ⟨(0), (([] : List (S181))), (.slice none 0 0), (by first | rfl | (simp; done) | (simp [*]; done)), H', ⟨Nat.le_refl _⟩, ⟨by first | exact Kd.S_nil _ _ _ _ _ | exact Kd.N_nil _ _ _ _ _ | exact Kd.V_nil _ _ _ _ _ | exact Kd.Q_nil _ _ _ _ _ | exact Kd.R_nil _ _ _ _ _⟩, ⟨by (with_reducible repeat (first | refine blk_drewN ?_ _ | refine blk_drew ?_ | refine blk_alloc ?_ _)); refine blk_far ?_ NB275_277.out _; (with_reducible repeat (first | refine blk_drewN ?_ _ | refine blk_drew ?_ | refine blk_alloc ?_ _)); exact BK275.out⟩, ⟨by (with_reducible repeat (first | refine blk_drewN ?_ _ | refine blk_drew ?_ | refine blk_alloc ?_ _)); refine blk_far ?_ NB276_277.out _; (with_reducible repeat (first | refine blk_drewN ?_ _ | refine blk_drew ?_ | refine blk_alloc ?_ _)); exact BK276.out⟩, ⟨by (with_reducible repeat (first | refine blk_drewN ?_ _ | refine blk_drew ?_ | refine blk_alloc ?_ _)); refine blk_put (cs := #[.slice none 0 0]) ?_ 0 _ rfl; (with_reducible repeat (first | refine blk_drewN ?_ _ | refine blk_drew ?_ | refine blk_alloc ?_ _)); exact BK277.out⟩, ⟨by repeat (first | (with_reducible first | exact HB.out | apply below_alloc | apply pw_below_drewN | apply below_drew1 | refine below_set ?_ GE275.out | refine below_set ?_ GE276.out | refine below_set ?_ GE277.out) | exact HB.out)⟩⟩
  case round =>
    clear H'; (try clear c1); (try clear p2); (try clear c5); (try clear c6); (try clear c8); (try clear hcz7_0); (try clear hcz9_0); (try clear hfz7_0); (try clear hfz9_0); obtain ⟨x10_1, x278000_1, u278000, rfl, HA, HK1, HO_278000, BK275, BK276, BK277, HB⟩ := hrel
    cases gk with
    | zero => exact absurd HA.out (by simp [impl_copyRx.l0])
    | succ k1 =>
      have H := HA.out; clear HA
      simp only [impl_copyRx.l0] at H
      by_cases c10 : x10_1 < (l0_0.length : Int)
      · rw [if_pos c10] at H
        have c10b0 : decide (x10_1 < (l0_0.length : Int)) = true := decide_eq_true c10; clear c10
        by_cases c11 : 0 ≤ x10_1
        · rw [if_pos c11] at H
          have c11b0 : decide (0 ≤ x10_1) = true := decide_eq_true c11; clear c11
          by_cases c12 : x10_1 < (l0_0.length : Int)
          · rw [if_pos c12] at H
            have c12b0 : decide (x10_1 < (l0_0.length : Int)) = true := decide_eq_true c12; clear c12; replace H := Option.bind_eq_some_iff.mp H; obtain ⟨t280, A130, H⟩ := H
            replace H : ((slices_Clone_int64_int64.f ((rd_T181 l0_0 x10_1).f2)).bind fun t283 => (if x278000_1.length < 1954687338268 then (impl_copyRx.l0 k1 l0_0 (l0_0.length : Int) (wrap64 (x10_1 + 1)) (x278000_1 ++ [(⟨(rd_T181 l0_0 x10_1).f0, t280, t283, (rd_T181 l0_0 x10_1).f3, (rd_T181 l0_0 x10_1).f4⟩ : S181)])) else (none))) = some r := H
            have A13 := Aside0.mk A130; clear A130; replace H := Option.bind_eq_some_iff.mp H; obtain ⟨t283, A140, H⟩ := H; replace H : (if x278000_1.length < 1954687338268 then (impl_copyRx.l0 k1 l0_0 (l0_0.length : Int) (wrap64 (x10_1 + 1)) (x278000_1 ++ [(⟨(rd_T181 l0_0 x10_1).f0, t280, t283, (rd_T181 l0_0 x10_1).f3, (rd_T181 l0_0 x10_1).f4⟩ : S181)])) else (none)) = some r := H; have A14 := Aside0.mk A140; clear A140
            by_cases c15 : x278000_1.length < 1954687338268
            · rw [if_pos c15] at H
              have LMc15 := Aside0.mk c15; clear c15; obtain ⟨y286, hy286⟩ : ∃ y_ : List (S181), y_ = (x278000_1 ++ [(⟨(rd_T181 l0_0 x10_1).f0, t280, t283, (rd_T181 l0_0 x10_1).f3, (rd_T181 l0_0 x10_1).f4⟩ : S181)]) := ⟨_, rfl⟩
              replace H : (impl_copyRx.l0 k1 l0_0 (l0_0.length : Int) (wrap64 (x10_1 + 1)) y286) = some r := by first | (rw [hy286]; with_reducible exact H) | (have H2_ := (Option.bind_some _ _).symm.trans H; rw [hy286]; with_reducible exact H2_) | (have H2_ := (Option.bind_some _ _).symm.trans H; with_reducible exact H2_) | with_reducible exact H | (rw [hy286]; exact H) | exact H
              have Ny286 := Aside0.mk hy286; clear hy286; have H' := Aside0.mk H; clear H; have p278 : 0 ≤ (x10_1 : Int) := of_decide_eq_true (by assumption); have q278 : x10_1 < (l0_0.length : Int) := of_decide_eq_true (by assumption); obtain ⟨ad278, A278_1, c278_1, A278_2, c278_2, e278, hx278_0, hx278_1, hx278_2, hx278_3, hx278_4, hl278_1, hi278_1, hl278_2, hi278_2⟩ := at_T181 HR0_0.out x10_1 p278 q278; cases e278; replace hx278_0 := (HB.out.cell (World.block_lt_of_cell? w _ hx278_0)).trans hx278_0; replace hx278_1 := (HB.out.cell (World.block_lt_of_cell? w _ hx278_1)).trans hx278_1; replace hx278_2 := (HB.out.cell (World.block_lt_of_cell? w _ hx278_2)).trans hx278_2; replace hx278_3 := (HB.out.cell (World.block_lt_of_cell? w _ hx278_3)).trans hx278_3; replace hx278_4 := (HB.out.cell (World.block_lt_of_cell? w _ hx278_4)).trans hx278_4; have HR278_1 := Aside0.mk hi278_1; have HC278_1 := Aside0.mk hl278_1; clear hi278_1 hl278_1; have HR278_2 := Aside0.mk hi278_2; have HC278_2 := Aside0.mk hl278_2; clear hi278_2 hl278_2; replace p278 := eq_true p278; replace q278 := eq_true q278
              try go_wp2_with (first | ((with_reducible refine gate_dst (N := 5) rfl ?_); refine box_event ?hg (N := 5) ?hd (cs := #[.int .i64 0, .slice none 0 0, .slice none 0 0, .int .i64 0, .int .i64 0]) (t := 181) ?hr ?_; (case hd => rfl); (case hg => rfl); (case hr => first | (go_simp; done) | (go_simp; rfl)); intro gb279 hg w16 hbox hb; replace HO_278000 := Aside0.mk (Kd.S_below (Kd.S_elderB (by (with_reducible repeat (first | apply Kd.S_alloc | apply Kd.S_drewN | apply Kd.S_drew)); exact HO_278000.out) gb279 (Nat.le_of_eq hg.symm)) hb); have BK279 := Aside0.mk (hbox); have GW279 := Aside0.mk ((by rw [hg]; exact (below_size (by repeat (first | (with_reducible first | exact HB.out | apply below_alloc | apply pw_below_drewN | apply below_drew1 | refine below_set ?_ GE275.out | refine below_set ?_ GE276.out | refine below_set ?_ GE277.out) | exact HB.out))) : w.heap.size ≤ gb279)); have GE279 := Aside0.mk ((by rw [hg]; exact (below_size (by repeat (first | (with_reducible first | exact HB.out | apply below_alloc | apply pw_below_drewN | apply below_drew1 | refine below_set ?_ GE275.out | refine below_set ?_ GE276.out | refine below_set ?_ GE277.out) | exact HB.out))) : w.heap.size ≤ gb279)); replace HB := Aside0.mk (below_step (by repeat (first | (with_reducible first | exact HB.out | apply below_alloc | apply pw_below_drewN | apply below_drew1 | refine below_set ?_ GE275.out | refine below_set ?_ GE276.out | refine below_set ?_ GE277.out) | exact HB.out)) hb); have NB275_279 := Aside0.mk ((by rw [hg]; exact Nat.ne_of_lt (blk_lt (g := gb275) (o := .cells #[.slice (some ad278) l0_0.length c0_0] 106 (0, 0)) (by (with_reducible repeat (first | refine blk_drewN ?_ _ | refine blk_drew ?_ | refine blk_alloc ?_ _)); exact BK275.out)) : gb275 ≠ gb279)); have NB279_275 := Aside0.mk ((by rw [hg]; exact Nat.ne_of_gt (blk_lt (g := gb275) (o := .cells #[.slice (some ad278) l0_0.length c0_0] 106 (0, 0)) (by (with_reducible repeat (first | refine blk_drewN ?_ _ | refine blk_drew ?_ | refine blk_alloc ?_ _)); exact BK275.out)) : gb279 ≠ gb275)); replace BK275 := Aside0.mk (blk_below (g := gb275) (o := .cells #[.slice (some ad278) l0_0.length c0_0] 106 (0, 0)) (by (with_reducible repeat (first | refine blk_drewN ?_ _ | refine blk_drew ?_ | refine blk_alloc ?_ _)); exact BK275.out) hb); have NB276_279 := Aside0.mk ((by rw [hg]; exact Nat.ne_of_lt (blk_lt (g := gb276) (o := .cells #[.slice none 0 0] 106 (0, 0)) (by (with_reducible repeat (first | refine blk_drewN ?_ _ | refine blk_drew ?_ | refine blk_alloc ?_ _)); exact BK276.out)) : gb276 ≠ gb279)); have NB279_276 := Aside0.mk ((by rw [hg]; exact Nat.ne_of_gt (blk_lt (g := gb276) (o := .cells #[.slice none 0 0] 106 (0, 0)) (by (with_reducible repeat (first | refine blk_drewN ?_ _ | refine blk_drew ?_ | refine blk_alloc ?_ _)); exact BK276.out)) : gb279 ≠ gb276)); replace BK276 := Aside0.mk (blk_below (g := gb276) (o := .cells #[.slice none 0 0] 106 (0, 0)) (by (with_reducible repeat (first | refine blk_drewN ?_ _ | refine blk_drew ?_ | refine blk_alloc ?_ _)); exact BK276.out) hb); have NB277_279 := Aside0.mk ((by rw [hg]; exact Nat.ne_of_lt (blk_lt (g := gb277) (o := .cells #[u278000] 106 (0, 0)) (by (with_reducible repeat (first | refine blk_drewN ?_ _ | refine blk_drew ?_ | refine blk_alloc ?_ _)); exact BK277.out)) : gb277 ≠ gb279)); have NB279_277 := Aside0.mk ((by rw [hg]; exact Nat.ne_of_gt (blk_lt (g := gb277) (o := .cells #[u278000] 106 (0, 0)) (by (with_reducible repeat (first | refine blk_drewN ?_ _ | refine blk_drew ?_ | refine blk_alloc ?_ _)); exact BK277.out)) : gb279 ≠ gb277)); replace BK277 := Aside0.mk (blk_below (g := gb277) (o := .cells #[u278000] 106 (0, 0)) (by (with_reducible repeat (first | refine blk_drewN ?_ _ | refine blk_drew ?_ | refine blk_alloc ?_ _)); exact BK277.out) hb); clear hb hbox hg; have hnb17 := NB279_275.out; have hnc17 := NB275_279.out; have hnb18 := NB279_276.out; have hnc18 := NB276_279.out; have hnb19 := NB279_277.out; have hnc19 := NB277_279.out; have hcz20_0 : w16.cell? ⟨gb279, 0, none⟩ = some (.int .i64 0) := (blk_cell BK279.out 0).trans rfl; have hcz20_1 : w16.cell? ⟨gb279, 1, none⟩ = some (.slice none 0 0) := (blk_cell BK279.out 1).trans rfl; have hcz20_2 : w16.cell? ⟨gb279, 2, none⟩ = some (.slice none 0 0) := (blk_cell BK279.out 2).trans rfl; have hcz20_3 : w16.cell? ⟨gb279, 3, none⟩ = some (.int .i64 0) := (blk_cell BK279.out 3).trans rfl; have hcz20_4 : w16.cell? ⟨gb279, 4, none⟩ = some (.int .i64 0) := (blk_cell BK279.out 4).trans rfl; have hfz20_0 := blk_frozen BK279.out 0; have hfz20_1 := blk_frozen BK279.out 1; have hfz20_2 := blk_frozen BK279.out 2; have hfz20_3 := blk_frozen BK279.out 3; have hfz20_4 := blk_frozen BK279.out 4))
              have n0_ : Aside0 (Kd.S k181 181 (((((w16.setCell ⟨gb279, 0, none⟩ (.int .i64 ((rd_T181 l0_0 x10_1).f0))).setCell ⟨gb279, 1, none⟩ (.slice A278_1 ((rd_T181 l0_0 x10_1).f1).length c278_1)).setCell ⟨gb279, 2, none⟩ (.slice A278_2 ((rd_T181 l0_0 x10_1).f2).length c278_2)).setCell ⟨gb279, 3, none⟩ (.int .i64 ((rd_T181 l0_0 x10_1).f3))).setCell ⟨gb279, 4, none⟩ (.int .i64 ((rd_T181 l0_0 x10_1).f4))) w.heap.size (fun k_ => k_ ≠ gb279) u278000 x278000_1) := ⟨by (with_reducible repeat (first | apply Kd.S_alloc | apply Kd.S_drewN | apply Kd.S_drew)); exact Kd.S_mono (Kd.S_far (p := ⟨gb279, 4, none⟩) (Kd.S_far (p := ⟨gb279, 3, none⟩) (Kd.S_far (p := ⟨gb279, 2, none⟩) (Kd.S_far (p := ⟨gb279, 1, none⟩) (Kd.S_far (p := ⟨gb279, 0, none⟩) (Kd.S_mono HO_278000.out (fun k_ hk => (⟨hk, hk.2⟩ : _ ∧ k_ ≠ gb279))) (fun _ hk => hk.2) (.int .i64 ((rd_T181 l0_0 x10_1).f0))) (fun _ hk => hk.2) (.slice A278_1 ((rd_T181 l0_0 x10_1).f1).length c278_1)) (fun _ hk => hk.2) (.slice A278_2 ((rd_T181 l0_0 x10_1).f2).length c278_2)) (fun _ hk => hk.2) (.int .i64 ((rd_T181 l0_0 x10_1).f3))) (fun _ hk => hk.2) (.int .i64 ((rd_T181 l0_0 x10_1).f4))) (fun _ hk => hk.1.2)⟩
              have n1_ : Aside0 ((((((w16.setCell ⟨gb279, 0, none⟩ (.int .i64 ((rd_T181 l0_0 x10_1).f0))).setCell ⟨gb279, 1, none⟩ (.slice A278_1 ((rd_T181 l0_0 x10_1).f1).length c278_1)).setCell ⟨gb279, 2, none⟩ (.slice A278_2 ((rd_T181 l0_0 x10_1).f2).length c278_2)).setCell ⟨gb279, 3, none⟩ (.int .i64 ((rd_T181 l0_0 x10_1).f3))).setCell ⟨gb279, 4, none⟩ (.int .i64 ((rd_T181 l0_0 x10_1).f4))).heap[gb275]? = some (.cells #[.slice (some ad278) l0_0.length c0_0] 106 (0, 0))) := ⟨by (with_reducible repeat (first | refine blk_drewN ?_ _ | refine blk_drew ?_ | refine blk_alloc ?_ _)); refine blk_far ?_ NB275_279.out _; (with_reducible repeat (first | refine blk_drewN ?_ _ | refine blk_drew ?_ | refine blk_alloc ?_ _)); refine blk_far ?_ NB275_279.out _; (with_reducible repeat (first | refine blk_drewN ?_ _ | refine blk_drew ?_ | refine blk_alloc ?_ _)); refine blk_far ?_ NB275_279.out _; (with_reducible repeat (first | refine blk_drewN ?_ _ | refine blk_drew ?_ | refine blk_alloc ?_ _)); refine blk_far ?_ NB275_279.out _; (with_reducible repeat (first | refine blk_drewN ?_ _ | refine blk_drew ?_ | refine blk_alloc ?_ _)); refine blk_far ?_ NB275_279.out _; (with_reducible repeat (first | refine blk_drewN ?_ _ | refine blk_drew ?_ | refine blk_alloc ?_ _)); exact BK275.out⟩; have n2_ : Aside0 ((((((w16.setCell ⟨gb279, 0, none⟩ (.int .i64 ((rd_T181 l0_0 x10_1).f0))).setCell ⟨gb279, 1, none⟩ (.slice A278_1 ((rd_T181 l0_0 x10_1).f1).length c278_1)).setCell ⟨gb279, 2, none⟩ (.slice A278_2 ((rd_T181 l0_0 x10_1).f2).length c278_2)).setCell ⟨gb279, 3, none⟩ (.int .i64 ((rd_T181 l0_0 x10_1).f3))).setCell ⟨gb279, 4, none⟩ (.int .i64 ((rd_T181 l0_0 x10_1).f4))).heap[gb276]? = some (.cells #[.slice none 0 0] 106 (0, 0))) := ⟨by (with_reducible repeat (first | refine blk_drewN ?_ _ | refine blk_drew ?_ | refine blk_alloc ?_ _)); refine blk_far ?_ NB276_279.out _; (with_reducible repeat (first | refine blk_drewN ?_ _ | refine blk_drew ?_ | refine blk_alloc ?_ _)); refine blk_far ?_ NB276_279.out _; (with_reducible repeat (first | refine blk_drewN ?_ _ | refine blk_drew ?_ | refine blk_alloc ?_ _)); refine blk_far ?_ NB276_279.out _; (with_reducible repeat (first | refine blk_drewN ?_ _ | refine blk_drew ?_ | refine blk_alloc ?_ _)); refine blk_far ?_ NB276_279.out _; (with_reducible repeat (first | refine blk_drewN ?_ _ | refine blk_drew ?_ | refine blk_alloc ?_ _)); refine blk_far ?_ NB276_279.out _; (with_reducible repeat (first | refine blk_drewN ?_ _ | refine blk_drew ?_ | refine blk_alloc ?_ _)); exact BK276.out⟩; have n3_ : Aside0 ((((((w16.setCell ⟨gb279, 0, none⟩ (.int .i64 ((rd_T181 l0_0 x10_1).f0))).setCell ⟨gb279, 1, none⟩ (.slice A278_1 ((rd_T181 l0_0 x10_1).f1).length c278_1)).setCell ⟨gb279, 2, none⟩ (.slice A278_2 ((rd_T181 l0_0 x10_1).f2).length c278_2)).setCell ⟨gb279, 3, none⟩ (.int .i64 ((rd_T181 l0_0 x10_1).f3))).setCell ⟨gb279, 4, none⟩ (.int .i64 ((rd_T181 l0_0 x10_1).f4))).heap[gb277]? = some (.cells #[u278000] 106 (0, 0))) := ⟨by (with_reducible repeat (first | refine blk_drewN ?_ _ | refine blk_drew ?_ | refine blk_alloc ?_ _)); refine blk_far ?_ NB277_279.out _; (with_reducible repeat (first | refine blk_drewN ?_ _ | refine blk_drew ?_ | refine blk_alloc ?_ _)); refine blk_far ?_ NB277_279.out _; (with_reducible repeat (first | refine blk_drewN ?_ _ | refine blk_drew ?_ | refine blk_alloc ?_ _)); refine blk_far ?_ NB277_279.out _; (with_reducible repeat (first | refine blk_drewN ?_ _ | refine blk_drew ?_ | refine blk_alloc ?_ _)); refine blk_far ?_ NB277_279.out _; (with_reducible repeat (first | refine blk_drewN ?_ _ | refine blk_drew ?_ | refine blk_alloc ?_ _)); refine blk_far ?_ NB277_279.out _; (with_reducible repeat (first | refine blk_drewN ?_ _ | refine blk_drew ?_ | refine blk_alloc ?_ _)); exact BK277.out⟩; have n4_ : Aside0 ((((((w16.setCell ⟨gb279, 0, none⟩ (.int .i64 ((rd_T181 l0_0 x10_1).f0))).setCell ⟨gb279, 1, none⟩ (.slice A278_1 ((rd_T181 l0_0 x10_1).f1).length c278_1)).setCell ⟨gb279, 2, none⟩ (.slice A278_2 ((rd_T181 l0_0 x10_1).f2).length c278_2)).setCell ⟨gb279, 3, none⟩ (.int .i64 ((rd_T181 l0_0 x10_1).f3))).setCell ⟨gb279, 4, none⟩ (.int .i64 ((rd_T181 l0_0 x10_1).f4))).heap[gb279]? = some (.cells #[.int .i64 ((rd_T181 l0_0 x10_1).f0), .slice A278_1 ((rd_T181 l0_0 x10_1).f1).length c278_1, .slice A278_2 ((rd_T181 l0_0 x10_1).f2).length c278_2, .int .i64 ((rd_T181 l0_0 x10_1).f3), .int .i64 ((rd_T181 l0_0 x10_1).f4)] 181 (0, 0))) := ⟨by (with_reducible repeat (first | refine blk_drewN ?_ _ | refine blk_drew ?_ | refine blk_alloc ?_ _)); refine blk_put (cs := #[.int .i64 ((rd_T181 l0_0 x10_1).f0), .slice A278_1 ((rd_T181 l0_0 x10_1).f1).length c278_1, .slice A278_2 ((rd_T181 l0_0 x10_1).f2).length c278_2, .int .i64 ((rd_T181 l0_0 x10_1).f3), .int .i64 0]) ?_ 4 _ rfl; (with_reducible repeat (first | refine blk_drewN ?_ _ | refine blk_drew ?_ | refine blk_alloc ?_ _)); refine blk_put (cs := #[.int .i64 ((rd_T181 l0_0 x10_1).f0), .slice A278_1 ((rd_T181 l0_0 x10_1).f1).length c278_1, .slice A278_2 ((rd_T181 l0_0 x10_1).f2).length c278_2, .int .i64 0, .int .i64 0]) ?_ 3 _ rfl; (with_reducible repeat (first | refine blk_drewN ?_ _ | refine blk_drew ?_ | refine blk_alloc ?_ _)); refine blk_put (cs := #[.int .i64 ((rd_T181 l0_0 x10_1).f0), .slice A278_1 ((rd_T181 l0_0 x10_1).f1).length c278_1, .slice none 0 0, .int .i64 0, .int .i64 0]) ?_ 2 _ rfl; (with_reducible repeat (first | refine blk_drewN ?_ _ | refine blk_drew ?_ | refine blk_alloc ?_ _)); refine blk_put (cs := #[.int .i64 ((rd_T181 l0_0 x10_1).f0), .slice none 0 0, .slice none 0 0, .int .i64 0, .int .i64 0]) ?_ 1 _ rfl; (with_reducible repeat (first | refine blk_drewN ?_ _ | refine blk_drew ?_ | refine blk_alloc ?_ _)); refine blk_put (cs := #[.int .i64 0, .slice none 0 0, .slice none 0 0, .int .i64 0, .int .i64 0]) ?_ 0 _ rfl; (with_reducible repeat (first | refine blk_drewN ?_ _ | refine blk_drew ?_ | refine blk_alloc ?_ _)); exact BK279.out⟩; have n5_ : Aside0 (Below w.heap.size w (((((w16.setCell ⟨gb279, 0, none⟩ (.int .i64 ((rd_T181 l0_0 x10_1).f0))).setCell ⟨gb279, 1, none⟩ (.slice A278_1 ((rd_T181 l0_0 x10_1).f1).length c278_1)).setCell ⟨gb279, 2, none⟩ (.slice A278_2 ((rd_T181 l0_0 x10_1).f2).length c278_2)).setCell ⟨gb279, 3, none⟩ (.int .i64 ((rd_T181 l0_0 x10_1).f3))).setCell ⟨gb279, 4, none⟩ (.int .i64 ((rd_T181 l0_0 x10_1).f4)))) := ⟨by repeat (first | (with_reducible first | exact HB.out | apply below_alloc | apply pw_below_drewN | apply below_drew1 | refine below_set ?_ GE275.out | refine below_set ?_ GE276.out | refine below_set ?_ GE277.out | refine below_set ?_ GE279.out) | exact HB.out)⟩; (try clear HO_278000); (try clear BK275); (try clear BK276); (try clear BK277); (try clear BK279); (try clear HB); generalize (((((w16.setCell ⟨gb279, 0, none⟩ (.int .i64 ((rd_T181 l0_0 x10_1).f0))).setCell ⟨gb279, 1, none⟩ (.slice A278_1 ((rd_T181 l0_0 x10_1).f1).length c278_1)).setCell ⟨gb279, 2, none⟩ (.slice A278_2 ((rd_T181 l0_0 x10_1).f2).length c278_2)).setCell ⟨gb279, 3, none⟩ (.int .i64 ((rd_T181 l0_0 x10_1).f3))).setCell ⟨gb279, 4, none⟩ (.int .i64 ((rd_T181 l0_0 x10_1).f4))) = w21 at n0_ n1_ n2_ n3_ n4_ n5_ ⊢; have HO_278000 := n0_; have BK275 := n1_; have BK276 := n2_; have BK277 := n3_; have BK279 := n4_; have HB := n5_; clear n0_ n1_ n2_ n3_ n4_ n5_; replace HO_278000 := Aside0.mk (Kd.S_drew HO_278000.out); replace BK275 := Aside0.mk (blk_drew BK275.out); replace BK276 := Aside0.mk (blk_drew BK276.out); replace BK277 := Aside0.mk (blk_drew BK277.out); replace BK279 := Aside0.mk (blk_drew BK279.out); replace HB := Aside0.mk (below_drew1 HB.out)
              refine start_ (n := 10) (S := fun w' => w'.cell? ⟨gb279, 0, none⟩ = some (.int .i64 ((rd_T181 l0_0 x10_1).f0)) ∧ w'.cell? ⟨gb279, 1, none⟩ = some (.slice A278_1 ((rd_T181 l0_0 x10_1).f1).length c278_1) ∧ w'.cell? ⟨gb279, 2, none⟩ = some (.slice A278_2 ((rd_T181 l0_0 x10_1).f2).length c278_2) ∧ w'.cell? ⟨gb279, 3, none⟩ = some (.int .i64 ((rd_T181 l0_0 x10_1).f3)) ∧ w'.cell? ⟨gb279, 4, none⟩ = some (.int .i64 ((rd_T181 l0_0 x10_1).f4))) (ds := [7, 9]) #[On,On,On,On,On,On,On,On,On,On] (by kernel_rfl) rfl rfl ⟨(blk_cell BK279.out 0).trans rfl, (blk_cell BK279.out 1).trans rfl, (blk_cell BK279.out 2).trans rfl, (blk_cell BK279.out 3).trans rfl, (blk_cell BK279.out 4).trans rfl⟩ (fun hHeld => ?_); refine with_tabW impl_copyRx.tab5 impl_copyRx.bits5 (fun HT_ HW_ => ?_)
              generalize w21.drew = w22 at HO_278000 BK275 BK276 BK277 BK279 HB hHeld ⊢
              refine pure_ (i := 0) (N := some 14) (v := ?_) (a' := ?_) #[Iy,On,On,On,On,On,On,On,On,On] rfl rfl (any_of HT_.out (by kernel_rfl)) (fun _ _ _ h => h) (Or.inl ⟨by rfl, ?_⟩) ?_ ?_; rotate_left; (· intro w'; go_simp; with_reducible rfl); rotate_left; (· simp only [Act.put, List.setIfInBounds_toArray, List.set_cons_zero, List.set_cons_succ, i64_w, i32_w]; rfl)
              refine pure_ (i := 3) (N := some 17) (v := ?_) (a' := ?_) #[Iy,On,On,Iy,On,On,On,On,On,On] rfl rfl (any_of HT_.out (by kernel_rfl)) (fun _ _ _ h => h) (Or.inl ⟨by rfl, ?_⟩) ?_ ?_; rotate_left; (· intro w'; go_simp; with_reducible rfl); rotate_left; (· simp only [Act.put, List.setIfInBounds_toArray, List.set_cons_zero, List.set_cons_succ, i64_w, i32_w]; rfl)
              refine take_ (i := 1) (N := some 15) (v := ?_) (a' := ?_) #[Iy,Iy,On,Iy,On,On,On,On,On,On] rfl rfl (take_ofW HT_.out HW_.out (by kernel_rfl)) (fun _ _ _ h => h) (Or.inl ⟨by rfl, ?_⟩) hHeld ?_ ?_
              rotate_left
              · rintro w' ⟨s0, s1, s2, s3, s4⟩
                go_simp
                with_reducible rfl
              rotate_left
              · simp only [Act.put, List.setIfInBounds_toArray, List.set_cons_zero, List.set_cons_succ, i64_w, i32_w]
                rfl
              refine take_ (i := 4) (N := some 18) (v := ?_) (a' := ?_) #[Iy,Iy,On,Iy,Iy,On,On,On,On,On] rfl rfl (take_ofW HT_.out HW_.out (by kernel_rfl)) (fun _ _ _ h => h) (Or.inl ⟨by rfl, ?_⟩) hHeld ?_ ?_
              rotate_left
              · rintro w' ⟨s0, s1, s2, s3, s4⟩
                go_simp
                with_reducible rfl
              rotate_left
              · simp only [Act.put, List.setIfInBounds_toArray, List.set_cons_zero, List.set_cons_succ, i64_w, i32_w]
                rfl
              refine one_ (i := 2) (N := some 16) #[Iy,Iy,Iy,Iy,Iy,On,On,On,On,On] rfl rfl (one_of HT_.out (by kernel_rfl)) (by decide) (fun K hK => ?_)
              refine goes_ Try.func192 (by kernel_rfl) rfl #[.slice A278_1 ((rd_T181 l0_0 x10_1).f1).length c278_1] (by rfl) rfl rfl (by (try simp only [List.map_toArray, List.map_cons, List.map_nil]); first | done | rfl | (simp only [List.length_drop, List.length_take]; rfl)) ?_
              with_reducible refine (impl_Span.calls _ _ ((rd_T181 l0_0 x10_1).f1) t280 _ ?side1 ?side2 A13.out).mono ?_
              (case side1 => repeat (first | exact (Kd.C_below HR278_1.out HB.out) | (with_reducible refine Kd.C_alloc ?_ _) | (with_reducible refine Kd.C_drewN ?_ _) | (with_reducible refine Kd.C_drew ?_)))
              (case side2 => exact HC278_1.out)
              rintro e w23 ⟨v281, rfl, ho0, hb⟩
              refine ⟨_, rfl, ?_⟩
              replace HO_278000 := Aside0.mk (Kd.S_elder' (by (with_reducible repeat (first | apply Kd.S_alloc | apply Kd.S_drewN | apply Kd.S_drew)); exact HO_278000.out) (Kd.R_base ho0) hb); have HO282 := Aside0.mk (Kd.R_lower ho0 (below_size (by repeat (first | (with_reducible first | exact HB.out | apply below_alloc | apply pw_below_drewN | apply below_drew1 | refine below_set ?_ GE275.out | refine below_set ?_ GE276.out | refine below_set ?_ GE277.out | refine below_set ?_ GE279.out) | exact HB.out)))); replace BK275 := Aside0.mk (blk_below (g := gb275) (o := .cells #[.slice (some ad278) l0_0.length c0_0] 106 (0, 0)) (by (with_reducible repeat (first | refine blk_drewN ?_ _ | refine blk_drew ?_ | refine blk_alloc ?_ _)); exact BK275.out) hb); replace BK276 := Aside0.mk (blk_below (g := gb276) (o := .cells #[.slice none 0 0] 106 (0, 0)) (by (with_reducible repeat (first | refine blk_drewN ?_ _ | refine blk_drew ?_ | refine blk_alloc ?_ _)); exact BK276.out) hb); replace BK277 := Aside0.mk (blk_below (g := gb277) (o := .cells #[u278000] 106 (0, 0)) (by (with_reducible repeat (first | refine blk_drewN ?_ _ | refine blk_drew ?_ | refine blk_alloc ?_ _)); exact BK277.out) hb); replace BK279 := Aside0.mk (blk_below (g := gb279) (o := .cells #[.int .i64 ((rd_T181 l0_0 x10_1).f0), .slice A278_1 ((rd_T181 l0_0 x10_1).f1).length c278_1, .slice A278_2 ((rd_T181 l0_0 x10_1).f2).length c278_2, .int .i64 ((rd_T181 l0_0 x10_1).f3), .int .i64 ((rd_T181 l0_0 x10_1).f4)] 181 (0, 0)) (by (with_reducible repeat (first | refine blk_drewN ?_ _ | refine blk_drew ?_ | refine blk_alloc ?_ _)); exact BK279.out) hb); replace HB := Aside0.mk (below_step (by repeat (first | (with_reducible first | exact HB.out | apply below_alloc | apply pw_below_drewN | apply below_drew1 | refine below_set ?_ GE275.out | refine below_set ?_ GE276.out | refine below_set ?_ GE277.out | refine below_set ?_ GE279.out) | exact HB.out)) hb); (try clear hb); (try clear hb2); (try clear hk); (try clear hi); (try clear ho0)
              refine hK.out _ _ ⟨(blk_cell BK279.out 0).trans rfl, (blk_cell BK279.out 1).trans rfl, (blk_cell BK279.out 2).trans rfl, (blk_cell BK279.out 3).trans rfl, (blk_cell BK279.out 4).trans rfl⟩ (fun hHeld => ?_)
              clear hK K
              refine norm_ (a' := ?_) ?_ ?_
              rotate_left
              · show Act.put _ (some 16) _ = _
                simp only [Act.put, List.setIfInBounds_toArray, List.set_cons_zero, List.set_cons_succ, i64_w, i32_w]
                rfl
              refine pure_ (i := 6) (N := some 20) (v := ?_) (a' := ?_) #[Iy,Iy,Iy,Iy,Iy,On,Iy,On,On,On] rfl rfl (any_of HT_.out (by kernel_rfl)) (fun _ _ _ h => h) (Or.inl ⟨by rfl, ?_⟩) ?_ ?_; rotate_left; (· intro w'; go_simp; with_reducible rfl); rotate_left; (· simp only [Act.put, List.setIfInBounds_toArray, List.set_cons_zero, List.set_cons_succ, i64_w, i32_w]; rfl)
              refine one_ (i := 5) (N := some 19) #[Iy,Iy,Iy,Iy,Iy,Iy,Iy,On,On,On] rfl rfl (one_of HT_.out (by kernel_rfl)) (by decide) (fun K hK => ?_)
              refine goes_ Try.func122 (by kernel_rfl) rfl #[.slice A278_2 ((rd_T181 l0_0 x10_1).f2).length c278_2] (by rfl) rfl rfl (by (try simp only [List.map_toArray, List.map_cons, List.map_nil]); first | done | rfl | (simp only [List.length_drop, List.length_take]; rfl)) ?_
              with_reducible refine (slices_Clone_int64_int64.calls _ _ ((rd_T181 l0_0 x10_1).f2) t283 _ ?side1 ?side2 A14.out).mono ?_
              (case side1 => repeat (first | exact (Kd.C_below HR278_2.out HB.out) | (with_reducible refine Kd.C_alloc ?_ _) | (with_reducible refine Kd.C_drewN ?_ _) | (with_reducible refine Kd.C_drew ?_)))
              (case side2 => exact HC278_2.out)
              rintro e w24 ⟨v284, rfl, ho0, hb⟩
              refine ⟨_, rfl, ?_⟩
              replace HO_278000 := Aside0.mk (Kd.S_elder' (by (with_reducible repeat (first | apply Kd.S_alloc | apply Kd.S_drewN | apply Kd.S_drew)); exact HO_278000.out) (Kd.R_base ho0) hb); replace HO282 := Aside0.mk (Kd.R_below (by (with_reducible repeat (first | apply Kd.R_alloc | apply Kd.R_drewN | apply Kd.R_drew)); exact HO282.out) hb); have HO285 := Aside0.mk (Kd.R_lower ho0 (below_size (by repeat (first | (with_reducible first | exact HB.out | apply below_alloc | apply pw_below_drewN | apply below_drew1 | refine below_set ?_ GE275.out | refine below_set ?_ GE276.out | refine below_set ?_ GE277.out | refine below_set ?_ GE279.out) | exact HB.out)))); replace BK275 := Aside0.mk (blk_below (g := gb275) (o := .cells #[.slice (some ad278) l0_0.length c0_0] 106 (0, 0)) (by (with_reducible repeat (first | refine blk_drewN ?_ _ | refine blk_drew ?_ | refine blk_alloc ?_ _)); exact BK275.out) hb); replace BK276 := Aside0.mk (blk_below (g := gb276) (o := .cells #[.slice none 0 0] 106 (0, 0)) (by (with_reducible repeat (first | refine blk_drewN ?_ _ | refine blk_drew ?_ | refine blk_alloc ?_ _)); exact BK276.out) hb); replace BK277 := Aside0.mk (blk_below (g := gb277) (o := .cells #[u278000] 106 (0, 0)) (by (with_reducible repeat (first | refine blk_drewN ?_ _ | refine blk_drew ?_ | refine blk_alloc ?_ _)); exact BK277.out) hb); replace BK279 := Aside0.mk (blk_below (g := gb279) (o := .cells #[.int .i64 ((rd_T181 l0_0 x10_1).f0), .slice A278_1 ((rd_T181 l0_0 x10_1).f1).length c278_1, .slice A278_2 ((rd_T181 l0_0 x10_1).f2).length c278_2, .int .i64 ((rd_T181 l0_0 x10_1).f3), .int .i64 ((rd_T181 l0_0 x10_1).f4)] 181 (0, 0)) (by (with_reducible repeat (first | refine blk_drewN ?_ _ | refine blk_drew ?_ | refine blk_alloc ?_ _)); exact BK279.out) hb); replace HB := Aside0.mk (below_step (by repeat (first | (with_reducible first | exact HB.out | apply below_alloc | apply pw_below_drewN | apply below_drew1 | refine below_set ?_ GE275.out | refine below_set ?_ GE276.out | refine below_set ?_ GE277.out | refine below_set ?_ GE279.out) | exact HB.out)) hb); (try clear hb); (try clear hb2); (try clear hk); (try clear hi); (try clear ho0); obtain ⟨Ao25, co25, eo25⟩ := Kd.R_slice HO282.out
              (first | subst eo25 | (injection eo25 with f1_ f2_ f3_; have f4_ := f1_.symm; have f5_ := f3_.symm; clear f1_ f2_ f3_; subst f4_; subst f5_))
              obtain ⟨Ao27, co27, eo27⟩ := Kd.R_slice HO285.out
              (first | subst eo27 | (injection eo27 with f1_ f2_ f3_; have f4_ := f1_.symm; have f5_ := f3_.symm; clear f1_ f2_ f3_; subst f4_; subst f5_))
              refine hK.out _ _ ⟨(blk_cell BK279.out 0).trans rfl, (blk_cell BK279.out 1).trans rfl, (blk_cell BK279.out 2).trans rfl, (blk_cell BK279.out 3).trans rfl, (blk_cell BK279.out 4).trans rfl⟩ (fun hHeld => ?_)
              clear hK K
              refine norm_ (a' := ?_) ?_ ?_
              rotate_left
              · show Act.put _ (some 19) _ = _
                simp only [Act.put, List.setIfInBounds_toArray, List.set_cons_zero, List.set_cons_succ, i64_w, i32_w]
                rfl
              refine last_ (i := 7) (N := none) #[Iy,Iy,Iy,Iy,Iy,Iy,Iy,Iy,On,On] rfl rfl (one_of HT_.out (by kernel_rfl)) (by decide) (fun K hK => ?_)
              have hs26 : w24.cell? ⟨gb279, 1, none⟩ = some (.slice A278_1 ((rd_T181 l0_0 x10_1).f1).length c278_1) := (blk_cell BK279.out 1).trans rfl; have hfs26 := blk_frozen BK279.out 1; have hns26_0 := NB275_279.out; have hns26_1 := NB276_279.out; have hns26_2 := NB277_279.out; have hms26_0 := NB279_275.out; have hms26_1 := NB279_276.out; have hms26_2 := NB279_277.out
              refine skip_ (w1 := ?_) (by rfl) rfl ?_ ?_
              rotate_left
              · go_simp
                rfl
              refine hK.out _ _ ?_
              clear hK K
              refine pure_ (i := 8) (N := some 21) (v := ?_) (a' := ?_) #[Iy,Iy,Iy,Iy,Iy,Iy,Iy,Iy,Iy,On] rfl rfl (any_of HT_.out (by kernel_rfl)) (fun _ _ _ h => h) (Or.inl ⟨by rfl, ?_⟩) ?_ ?_; rotate_left; (· intro w'; go_simp; with_reducible rfl); rotate_left; (· simp only [Act.put, List.setIfInBounds_toArray, List.set_cons_zero, List.set_cons_succ, i64_w, i32_w]; rfl)
              refine last_ (i := 9) (N := none) #[Iy,Iy,Iy,Iy,Iy,Iy,Iy,Iy,Iy,Iy] rfl rfl (one_of HT_.out (by kernel_rfl)) (by decide) (fun K hK => ?_)
              have hs28 : w24.cell? ⟨gb279, 2, none⟩ = some (.slice A278_2 ((rd_T181 l0_0 x10_1).f2).length c278_2) := (blk_cell BK279.out 2).trans rfl; have hfs28 := blk_frozen BK279.out 2; have hns28_0 := NB275_279.out; have hns28_1 := NB276_279.out; have hns28_2 := NB277_279.out; have hms28_0 := NB279_275.out; have hms28_1 := NB279_276.out; have hms28_2 := NB279_277.out
              refine skip_ (w1 := ?_) (by rfl) rfl ?_ ?_
              rotate_left
              · go_simp
                rfl
              refine hK.out _ _ ?_
              clear hK K
              refine done_ (done_of HT_.out (by kernel_rfl)) ?_
              have n0_ : Aside0 (Kd.S k181 181 ((w24.setCell ⟨gb279, 1, none⟩ (.slice Ao25 t280.length co25)).setCell ⟨gb279, 2, none⟩ (.slice Ao27 t283.length co27)) w.heap.size (fun k_ => some k_ ≠ (.slice Ao25 t280.length co25 : Value).ownBlock ∧ some k_ ≠ (.slice Ao27 t283.length co27 : Value).ownBlock ∧ k_ ≠ gb279) u278000 x278000_1) := ⟨by (with_reducible repeat (first | apply Kd.S_alloc | apply Kd.S_drewN | apply Kd.S_drew)); exact Kd.S_mono (Kd.S_far (p := ⟨gb279, 2, none⟩) (Kd.S_far (p := ⟨gb279, 1, none⟩) (Kd.S_mono HO_278000.out (fun k_ hk => (⟨hk, hk.1.1⟩ : _ ∧ k_ ≠ gb279))) (fun _ hk => hk.2) (.slice Ao25 t280.length co25)) (fun _ hk => hk.2) (.slice Ao27 t283.length co27)) (fun _ hk => ⟨hk.1.1.2, ⟨hk.1.2, hk.1.1.1⟩⟩)⟩
              have n1_ : Aside0 (Kd.R k33 33 ((w24.setCell ⟨gb279, 1, none⟩ (.slice Ao25 t280.length co25)).setCell ⟨gb279, 2, none⟩ (.slice Ao27 t283.length co27)) w.heap.size (fun _ => True) (.slice Ao25 t280.length co25) t280) := ⟨by (with_reducible repeat (first | apply Kd.R_alloc | apply Kd.R_drewN | apply Kd.R_drew)); exact Kd.R_mono (Kd.R_far (p := ⟨gb279, 2, none⟩) (Kd.R_far (p := ⟨gb279, 1, none⟩) (Kd.R_types HO282.out BK279.out (by decide)) (fun _ hk => hk.2) (.slice Ao25 t280.length co25)) (fun _ hk => hk.2) (.slice Ao27 t283.length co27)) (fun _ hk => trivial)⟩
              have n2_ : Aside0 (Kd.R (Kd.int .i64) 2 ((w24.setCell ⟨gb279, 1, none⟩ (.slice Ao25 t280.length co25)).setCell ⟨gb279, 2, none⟩ (.slice Ao27 t283.length co27)) w.heap.size (fun _ => True) (.slice Ao27 t283.length co27) t283) := ⟨by (with_reducible repeat (first | apply Kd.R_alloc | apply Kd.R_drewN | apply Kd.R_drew)); exact Kd.R_mono (Kd.R_far (p := ⟨gb279, 2, none⟩) (Kd.R_far (p := ⟨gb279, 1, none⟩) (Kd.R_types HO285.out BK279.out (by decide)) (fun _ hk => hk.2) (.slice Ao25 t280.length co25)) (fun _ hk => hk.2) (.slice Ao27 t283.length co27)) (fun _ hk => trivial)⟩
              have n3_ : Aside0 (((w24.setCell ⟨gb279, 1, none⟩ (.slice Ao25 t280.length co25)).setCell ⟨gb279, 2, none⟩ (.slice Ao27 t283.length co27)).heap[gb275]? = some (.cells #[.slice (some ad278) l0_0.length c0_0] 106 (0, 0))) := ⟨by (with_reducible repeat (first | refine blk_drewN ?_ _ | refine blk_drew ?_ | refine blk_alloc ?_ _)); refine blk_far ?_ NB275_279.out _; (with_reducible repeat (first | refine blk_drewN ?_ _ | refine blk_drew ?_ | refine blk_alloc ?_ _)); refine blk_far ?_ NB275_279.out _; (with_reducible repeat (first | refine blk_drewN ?_ _ | refine blk_drew ?_ | refine blk_alloc ?_ _)); exact BK275.out⟩; have n4_ : Aside0 (((w24.setCell ⟨gb279, 1, none⟩ (.slice Ao25 t280.length co25)).setCell ⟨gb279, 2, none⟩ (.slice Ao27 t283.length co27)).heap[gb276]? = some (.cells #[.slice none 0 0] 106 (0, 0))) := ⟨by (with_reducible repeat (first | refine blk_drewN ?_ _ | refine blk_drew ?_ | refine blk_alloc ?_ _)); refine blk_far ?_ NB276_279.out _; (with_reducible repeat (first | refine blk_drewN ?_ _ | refine blk_drew ?_ | refine blk_alloc ?_ _)); refine blk_far ?_ NB276_279.out _; (with_reducible repeat (first | refine blk_drewN ?_ _ | refine blk_drew ?_ | refine blk_alloc ?_ _)); exact BK276.out⟩; have n5_ : Aside0 (((w24.setCell ⟨gb279, 1, none⟩ (.slice Ao25 t280.length co25)).setCell ⟨gb279, 2, none⟩ (.slice Ao27 t283.length co27)).heap[gb277]? = some (.cells #[u278000] 106 (0, 0))) := ⟨by (with_reducible repeat (first | refine blk_drewN ?_ _ | refine blk_drew ?_ | refine blk_alloc ?_ _)); refine blk_far ?_ NB277_279.out _; (with_reducible repeat (first | refine blk_drewN ?_ _ | refine blk_drew ?_ | refine blk_alloc ?_ _)); refine blk_far ?_ NB277_279.out _; (with_reducible repeat (first | refine blk_drewN ?_ _ | refine blk_drew ?_ | refine blk_alloc ?_ _)); exact BK277.out⟩; have n6_ : Aside0 (((w24.setCell ⟨gb279, 1, none⟩ (.slice Ao25 t280.length co25)).setCell ⟨gb279, 2, none⟩ (.slice Ao27 t283.length co27)).heap[gb279]? = some (.cells #[.int .i64 ((rd_T181 l0_0 x10_1).f0), .slice Ao25 t280.length co25, .slice Ao27 t283.length co27, .int .i64 ((rd_T181 l0_0 x10_1).f3), .int .i64 ((rd_T181 l0_0 x10_1).f4)] 181 (0, 0))) := ⟨by (with_reducible repeat (first | refine blk_drewN ?_ _ | refine blk_drew ?_ | refine blk_alloc ?_ _)); refine blk_put (cs := #[.int .i64 ((rd_T181 l0_0 x10_1).f0), .slice Ao25 t280.length co25, .slice A278_2 ((rd_T181 l0_0 x10_1).f2).length c278_2, .int .i64 ((rd_T181 l0_0 x10_1).f3), .int .i64 ((rd_T181 l0_0 x10_1).f4)]) ?_ 2 _ rfl; (with_reducible repeat (first | refine blk_drewN ?_ _ | refine blk_drew ?_ | refine blk_alloc ?_ _)); refine blk_put (cs := #[.int .i64 ((rd_T181 l0_0 x10_1).f0), .slice A278_1 ((rd_T181 l0_0 x10_1).f1).length c278_1, .slice A278_2 ((rd_T181 l0_0 x10_1).f2).length c278_2, .int .i64 ((rd_T181 l0_0 x10_1).f3), .int .i64 ((rd_T181 l0_0 x10_1).f4)]) ?_ 1 _ rfl; (with_reducible repeat (first | refine blk_drewN ?_ _ | refine blk_drew ?_ | refine blk_alloc ?_ _)); exact BK279.out⟩; have n7_ : Aside0 (Below w.heap.size w ((w24.setCell ⟨gb279, 1, none⟩ (.slice Ao25 t280.length co25)).setCell ⟨gb279, 2, none⟩ (.slice Ao27 t283.length co27))) := ⟨by repeat (first | (with_reducible first | exact HB.out | apply below_alloc | apply pw_below_drewN | apply below_drew1 | refine below_set ?_ GE275.out | refine below_set ?_ GE276.out | refine below_set ?_ GE277.out | refine below_set ?_ GE279.out) | exact HB.out)⟩; (try clear HO_278000); (try clear HO282); (try clear HO285); (try clear BK275); (try clear BK276); (try clear BK277); (try clear BK279); (try clear HB); generalize ((w24.setCell ⟨gb279, 1, none⟩ (.slice Ao25 t280.length co25)).setCell ⟨gb279, 2, none⟩ (.slice Ao27 t283.length co27)) = w29 at n0_ n1_ n2_ n3_ n4_ n5_ n6_ n7_ ⊢; have HO_278000 := n0_; have HO282 := n1_; have HO285 := n2_; have BK275 := n3_; have BK276 := n4_; have BK277 := n5_; have BK279 := n6_; have HB := n7_; clear n0_ n1_ n2_ n3_ n4_ n5_ n6_ n7_; have hnb30 := NB277_275.out; have hnc30 := NB275_277.out; have hnb31 := NB277_276.out; have hnc31 := NB276_277.out; have hcz32_0 : w29.cell? ⟨gb277, 0, none⟩ = some (u278000) := (blk_cell BK277.out 0).trans rfl; have hfz32_0 := blk_frozen BK277.out 0; have hcz33_0 : w29.cell? ⟨gb279, 0, none⟩ = some (.int .i64 ((rd_T181 l0_0 x10_1).f0)) := (blk_cell BK279.out 0).trans rfl; have hcz33_1 : w29.cell? ⟨gb279, 1, none⟩ = some (.slice Ao25 t280.length co25) := (blk_cell BK279.out 1).trans rfl; have hcz33_2 : w29.cell? ⟨gb279, 2, none⟩ = some (.slice Ao27 t283.length co27) := (blk_cell BK279.out 2).trans rfl; have hcz33_3 : w29.cell? ⟨gb279, 3, none⟩ = some (.int .i64 ((rd_T181 l0_0 x10_1).f3)) := (blk_cell BK279.out 3).trans rfl; have hcz33_4 : w29.cell? ⟨gb279, 4, none⟩ = some (.int .i64 ((rd_T181 l0_0 x10_1).f4)) := (blk_cell BK279.out 4).trans rfl; have hfz33_0 := blk_frozen BK279.out 0; have hfz33_1 := blk_frozen BK279.out 1; have hfz33_2 := blk_frozen BK279.out 2; have hfz33_3 := blk_frozen BK279.out 3; have hfz33_4 := blk_frozen BK279.out 4
              try go_wp2_with (first | ((with_reducible refine gate_builtin (b := .append) (xs := #[.tmp 23, .tmp 25]) rfl ?_); at_builtin; refine Kd.S_append k181 (w0 := w) w.heap.size rfl (.tmp 23) (.tmp 25) 104 181 (.agg #[(.int .i64 0), (.slice none 0 0), (.slice none 0 0), (.int .i64 0), (.int .i64 0)]) 72 rfl Try.underlying104 info181 rfl (by decide) (by omega) u278000 x278000_1 (⟨(rd_T181 l0_0 x10_1).f0, t280, t283, (rd_T181 l0_0 x10_1).f3, (rd_T181 l0_0 x10_1).f4⟩ : S181) [.int .i64 ((rd_T181 l0_0 x10_1).f0), .slice Ao25 t280.length co25, .slice Ao27 t283.length co27, .int .i64 ((rd_T181 l0_0 x10_1).f3), .int .i64 ((rd_T181 l0_0 x10_1).f4)] (fun k_ => k_ ≠ gb279) (fun k_ => some k_ = (.slice Ao25 t280.length co25 : Value).ownBlock ∨ some k_ = (.slice Ao27 t283.length co27 : Value).ownBlock) rfl rfl ?aP (fun k_ hk_ => hk_.elim (fun h_ => ((Kd.R_mono (ok' := fun k_ => ((fun k_ => k_ ≠ gb279)) k_ ∧ some k_ ≠ (u278000 : Value).ownBlock) (Kd.R_types (Kd.R_apart' (HO282.out) (Kd.S_typed HO_278000.out) (by decide)) BK279.out (by decide)) (fun k_ hk => ⟨hk.2, hk.1.2⟩))).1 k_ h_.symm) (fun h_ => ((Kd.R_mono (ok' := fun k_ => ((fun k_ => k_ ≠ gb279)) k_ ∧ some k_ ≠ (u278000 : Value).ownBlock) (Kd.R_types (Kd.R_apart' (HO285.out) (Kd.S_typed HO_278000.out) (by decide)) BK279.out (by decide)) (fun k_ hk => ⟨hk.2, hk.1.2⟩))).1 k_ h_.symm)) ?aF ?aO ?aB ?aS ?aL ?_; (case aP => exact k181_mkM _ _ _ (⟨(rd_T181 l0_0 x10_1).f0, t280, t283, (rd_T181 l0_0 x10_1).f3, (rd_T181 l0_0 x10_1).f4⟩ : S181) (Kd.R_mono (Kd.R_tight rfl (Kd.R_mono (ok' := fun k_ => ((fun k_ => k_ ≠ gb279)) k_ ∧ some k_ ≠ (u278000 : Value).ownBlock) (Kd.R_types (Kd.R_apart' (HO282.out) (Kd.S_typed HO_278000.out) (by decide)) BK279.out (by decide)) (fun k_ hk => ⟨hk.2, hk.1.2⟩))) (fun _ h_ => Or.inl h_)) (Kd.R_mono (Kd.R_tight rfl (Kd.R_mono (ok' := fun k_ => ((fun k_ => k_ ≠ gb279)) k_ ∧ some k_ ≠ (u278000 : Value).ownBlock) (Kd.R_types (Kd.R_apart' (HO285.out) (Kd.S_typed HO_278000.out) (by decide)) BK279.out (by decide)) (fun k_ hk => ⟨hk.2, hk.1.2⟩))) (fun _ h_ => Or.inr (h_)))); (case aB => exact (by repeat (first | (with_reducible first | exact HB.out | apply below_alloc | apply pw_below_drewN | apply below_drew1 | refine below_set ?_ GE275.out | refine below_set ?_ GE276.out | refine below_set ?_ GE277.out | refine below_set ?_ GE279.out) | exact HB.out))); (case aF => exact (fun k_ hk => Kd.freshB (g := gb279) (o := .cells #[.int .i64 ((rd_T181 l0_0 x10_1).f0), .slice Ao25 t280.length co25, .slice Ao27 t283.length co27, .int .i64 ((rd_T181 l0_0 x10_1).f3), .int .i64 ((rd_T181 l0_0 x10_1).f4)] 181 (0, 0)) (by (with_reducible repeat (first | refine blk_drewN ?_ _ | refine blk_drew ?_ | refine blk_alloc ?_ _)); exact BK279.out) k_ hk)); (case aO => exact (by (with_reducible repeat (first | apply Kd.S_alloc | apply Kd.S_drewN | apply Kd.S_drew)); exact Kd.S_mono HO_278000.out (fun k_ hk => ⟨hk.2.2, fun e_ => e_.elim (fun h_ => hk.1 h_) (fun h_ => hk.2.1 h_)⟩))); (case aS => exact (below_size (by repeat (first | (with_reducible first | exact HB.out | apply below_alloc | apply pw_below_drewN | apply below_drew1 | refine below_set ?_ GE275.out | refine below_set ?_ GE276.out | refine below_set ?_ GE277.out | refine below_set ?_ GE279.out) | exact HB.out)))); (case aL => have := LMc15.out; omega); intro v287 w34 ho hb hg hat; rw [← Ny286.out] at ho; replace BK275 := Aside0.mk (blk_grown (g := gb275) (o := .cells #[.slice (some ad278) l0_0.length c0_0] 106 (0, 0)) (by (with_reducible repeat (first | refine blk_drewN ?_ _ | refine blk_drew ?_ | refine blk_alloc ?_ _)); exact BK275.out) hg (Kd.S_ne HO_278000.out BK275.out (by decide))); replace BK276 := Aside0.mk (blk_grown (g := gb276) (o := .cells #[.slice none 0 0] 106 (0, 0)) (by (with_reducible repeat (first | refine blk_drewN ?_ _ | refine blk_drew ?_ | refine blk_alloc ?_ _)); exact BK276.out) hg (Kd.S_ne HO_278000.out BK276.out (by decide))); replace BK277 := Aside0.mk (blk_grown (g := gb277) (o := .cells #[u278000] 106 (0, 0)) (by (with_reducible repeat (first | refine blk_drewN ?_ _ | refine blk_drew ?_ | refine blk_alloc ?_ _)); exact BK277.out) hg (Kd.S_ne HO_278000.out BK277.out (by decide))); replace BK279 := Aside0.mk (blk_grown (g := gb279) (o := .cells #[.int .i64 ((rd_T181 l0_0 x10_1).f0), .slice Ao25 t280.length co25, .slice Ao27 t283.length co27, .int .i64 ((rd_T181 l0_0 x10_1).f3), .int .i64 ((rd_T181 l0_0 x10_1).f4)] 181 (0, 0)) (by (with_reducible repeat (first | refine blk_drewN ?_ _ | refine blk_drew ?_ | refine blk_alloc ?_ _)); exact BK279.out) hg (Kd.S_away HO_278000.out (fun _ hk => hk.2.2))); replace HB := Aside0.mk (hb); have HO288 := Aside0.mk (ho); clear HO_278000 HO282 HO285; clear ho hb hg hat; obtain ⟨Ao35, co35, eo35⟩ := Kd.S_slice HO288.out; subst eo35; have hcz36_0 : w34.cell? ⟨gb277, 0, none⟩ = some (u278000) := (blk_cell BK277.out 0).trans rfl; have hfz36_0 := blk_frozen BK277.out 0))
              go_roundg k1
              case measure => have := HK1.out; omega
              case rel => exact ⟨(wrap64 (x10_1 + 1)), (y286), (.slice Ao35 y286.length co35), (by first | rfl | (simp; done) | (simp [*]; done)), H', ⟨by have := HK1.out; omega⟩, ⟨by (with_reducible repeat (first | apply Kd.S_alloc | apply Kd.S_drewN | apply Kd.S_drew)); exact Kd.S_mono (Kd.S_far (p := ⟨gb277, 0, none⟩) (Kd.S_types HO288.out BK277.out (by decide)) (fun _ hk => hk.2) (.slice Ao35 y286.length co35)) (fun _ hk => trivial)⟩, ⟨by (with_reducible repeat (first | refine blk_drewN ?_ _ | refine blk_drew ?_ | refine blk_alloc ?_ _)); refine blk_far ?_ NB275_277.out _; (with_reducible repeat (first | refine blk_drewN ?_ _ | refine blk_drew ?_ | refine blk_alloc ?_ _)); exact BK275.out⟩, ⟨by (with_reducible repeat (first | refine blk_drewN ?_ _ | refine blk_drew ?_ | refine blk_alloc ?_ _)); refine blk_far ?_ NB276_277.out _; (with_reducible repeat (first | refine blk_drewN ?_ _ | refine blk_drew ?_ | refine blk_alloc ?_ _)); exact BK276.out⟩, ⟨by (with_reducible repeat (first | refine blk_drewN ?_ _ | refine blk_drew ?_ | refine blk_alloc ?_ _)); refine blk_put (cs := #[u278000]) ?_ 0 _ rfl; (with_reducible repeat (first | refine blk_drewN ?_ _ | refine blk_drew ?_ | refine blk_alloc ?_ _)); exact BK277.out⟩, ⟨by repeat (first | (with_reducible first | exact HB.out | apply below_alloc | apply pw_below_drewN | apply below_drew1 | refine below_set ?_ GE275.out | refine below_set ?_ GE276.out | refine below_set ?_ GE277.out | refine below_set ?_ GE279.out) | exact HB.out)⟩⟩
            · rw [if_neg c15] at H
              exact absurd H (by simp)
          · rw [if_neg c12] at H
            exact absurd H (by simp)
        · rw [if_neg c11] at H
          exact absurd H (by simp)
      · rw [if_neg c10] at H
        have c10b0 : decide (x10_1 < (l0_0.length : Int)) = false := decide_eq_false c10; clear c10; obtain rfl := Option.some.inj H; have hnb37 := NB277_275.out; have hnc37 := NB275_277.out; have hnb38 := NB277_276.out; have hnc38 := NB276_277.out; have hcz39_0 : wr.cell? ⟨gb277, 0, none⟩ = some (u278000) := (blk_cell BK277.out 0).trans rfl; have hfz39_0 := blk_frozen BK277.out 0; obtain ⟨Ao40, co40, eo40⟩ := Kd.S_slice HO_278000.out; subst eo40; have hnb41 := NB276_275.out; have hnc41 := NB275_276.out; have hcz42_0 : wr.cell? ⟨gb276, 0, none⟩ = some (.slice none 0 0) := (blk_cell BK276.out 0).trans rfl; have hfz42_0 := blk_frozen BK276.out 0
        go_wp2
        refine bodyPost_ret (results_cell_row rfl _ _ gb276 106 #[.slice Ao40 x278000_1.length co40] (0, 0) _ rfl (by (with_reducible repeat (first | refine blk_drewN ?_ _ | refine blk_drew ?_ | refine blk_alloc ?_ _)); refine blk_put (cs := #[.slice none 0 0]) ?_ 0 _ rfl; (with_reducible repeat (first | refine blk_drewN ?_ _ | refine blk_drew ?_ | refine blk_alloc ?_ _)); exact BK276.out) Try.underlying106 rfl (by kernel_rfl)) rfl ?_
        exact ⟨_, by first | rfl | (simp [errW_none, errW_some] <;> rfl) | (simp [*, errW_none, errW_some] <;> rfl), by (with_reducible repeat (first | apply Kd.S_alloc | apply Kd.S_drewN | apply Kd.S_drew)); exact Kd.S_mono (Kd.S_far (p := ⟨gb276, 0, none⟩) (Kd.S_types HO_278000.out BK276.out (by decide)) (fun _ hk => hk.2) (.slice Ao40 x278000_1.length co40)) (fun _ hk => trivial), by repeat (first | (with_reducible first | exact HB.out | apply below_alloc | apply pw_below_drewN | apply below_drew1 | refine below_set ?_ GE275.out | refine below_set ?_ GE276.out | refine below_set ?_ GE277.out) | exact HB.out)⟩

/-! ### impl_bytesOf: function 93 -/
section
open Go.Proofs.Ytbijmhooamjgoaa.Kit
theorem zero_flags0 : Try.zeroCells131 = flags (List.replicate 256 false) := by kernel_rfl
def spP (x : S33) : Int × Int := (x.f0, x.f1)

theorem spP_lo (l : List S33) (i : Int) : (rd_T33 l i).f0 = lo (l.map spP) i.toNat := by
  unfold rd_T33 lo
  rw [List.getD_eq_getElem?_getD, List.getD_eq_getElem?_getD, List.getElem?_map]
  cases l[i.toNat]? <;> rfl
theorem spP_hi (l : List S33) (i : Int) : (rd_T33 l i).f1 = hi (l.map spP) i.toNat := by
  unfold rd_T33 hi
  rw [List.getD_eq_getElem?_getD, List.getD_eq_getElem?_getD, List.getElem?_map]
  cases l[i.toNat]? <;> rfl

def InTo (l : List (Int × Int)) (k : Nat) (b : Nat) : Prop := ∃ i, i < k ∧ lo l i ≤ (b : Int) ∧ (b : Int) ≤ hi l i
def RelO (l : List (Int × Int)) (w : World) (iv : Value) (wr : World) : Prop :=
  ∃ (i : Int) (arr : List Bool), 0 ≤ i ∧ i ≤ l.length ∧ iv = .int .i64 i ∧ arr.length = 256 ∧ (∀ b, b < 256 → (arr.getD b false = true ↔ InTo l i.toNat b)) ∧
    wr.heap[w.heap.size + 1]? = some (.cells (flags arr) 131 (0, 0)) ∧ Below w.heap.size w wr ∧ wr.heap[w.heap.size]? = some (.cells Try.zeroCells131 131 (0, 0))
def RelI (l : List (Int × Int)) (w : World) (i : Int) (sb : Nat) (bv : Value) (wr : World) : Prop :=
  ∃ (b : Int) (arr : List Bool), lo l i.toNat ≤ b ∧ b ≤ hi l i.toNat + 1 ∧ bv = .int .i64 b ∧ arr.length = 256 ∧ (∀ c, c < 256 → (arr.getD c false = true ↔ InTo l i.toNat c ∨ (lo l i.toNat ≤ (c : Int) ∧ (c : Int) < b))) ∧
    wr.heap[w.heap.size + 1]? = some (.cells (flags arr) 131 (0, 0)) ∧ Below w.heap.size w wr ∧ wr.heap[w.heap.size]? = some (.cells Try.zeroCells131 131 (0, 0)) ∧ wr.heap[sb]? = some (.cells #[.int .i64 (lo l i.toNat), .int .i64 (hi l i.toNat)] 33 (0, 0))
theorem InTo_step (l : List (Int × Int)) (i c : Nat) : InTo l (i + 1) c ↔ InTo l i c ∨ (lo l i ≤ (c : Int) ∧ (c : Int) ≤ hi l i) := by
  constructor
  · rintro ⟨j, hj, h⟩
    rcases Nat.lt_or_eq_of_le (Nat.le_of_lt_succ hj) with h' | h'
    · exact .inl ⟨j, h', h⟩
    · exact .inr (h' ▸ h)
  · rintro (⟨j, hj, h⟩ | h)
    · exact ⟨j, by omega, h⟩
    · exact ⟨i, by omega, h⟩
set_option maxHeartbeats 400000 in
set_option maxRecDepth 100000 in
theorem bytesOf_calls (A0 : Option Addr) (c0 : Nat) (l0 : List S33) (w : World) (hr0 : Kd.C k33 w A0 l0.length l0) (hc0 : l0.length ≤ c0) (hok : classOk (l0.map spP)) :
    Calls Try.prog 93 #[.slice A0 l0.length c0] w fun e w' => ∃ arr : List Bool, e = .returned (.agg (flags arr)) ∧ arr.length = 256 ∧ (∀ b, b < 256 → (arr.getD b false = true ↔ InTo (l0.map spP) l0.length b)) ∧ Below w.heap.size w w' := by
  have HR0 := Aside0.mk hr0
  have HC0 := Aside0.mk hc0
  have HL := Aside0.mk (classOk_len hok)
  have HOK := Aside0.mk hok
  clear hr0 hc0 hok
  have hst : (storeCells ⟨w.heap.size + 1, 0, none⟩ Try.zeroCells131.toList).run Try.prog ((w.alloc (.cells Try.zeroCells131 131)).alloc (.cells Try.zeroCells131 131)) = .ok () ((w.alloc (.cells Try.zeroCells131 131)).alloc (.cells Try.zeroCells131 131)) := by
    have := run_storeCells_new (P := Try.prog) (w.alloc (.cells Try.zeroCells131 131)) 131 Try.zeroCells131 Try.zeroCells131 (by kernel_rfl) rfl (by kernel_rfl)
    simpa using this
  go_enter Try.func93, Try.ntmps93
  go_wp2
  go_loopw [10] (RelO (l0.map spP) w) (fun i _ => l0.length - (intOf i).toNat)
  case atStart =>
    refine ⟨0, List.replicate 256 false, by omega, by omega, rfl, by simp, fun b hb => ?_, ?_, ?_, heap_alloc2_old _ _ _⟩
    · constructor
      · intro h
        rw [List.getD_eq_getElem?_getD, List.getElem?_replicate] at h
        split at h <;> simp at h
      · rintro ⟨i, hi, _⟩
        simp at hi
    · rw [← zero_flags0]
      exact heap_alloc2_new _ _ _
    · exact ((Below.refl _ _).alloc (Nat.le_refl _) _).alloc (by simp) _
  case round =>
    clear hst; obtain ⟨i, arr, h0, h1, rfl, harr, hM, hB1, hb, hz⟩ := hrel; have HZ := Aside0.mk hz; clear hz
    have h2 : (l0.length : Int) ≤ 128 := by have := HL.out; simp at this; omega
    have HM := Aside0.mk hM; have HA := Aside0.mk harr; have HB1 := Aside0.mk hB1; have HB := Aside0.mk hb; clear hM harr hB1 hb
    simp only [List.length_map] at h1
    by_cases hlt : i < (l0.length : Int)
    · obtain ⟨ad, e, hx0, hx1⟩ := at_T33 HR0.out i h0 hlt
      cases e; replace hx0 := (HB.out.cell (World.block_lt_of_cell? w _ hx0)).trans hx0; replace hx1 := (HB.out.cell (World.block_lt_of_cell? w _ hx1)).trans hx1; have t0 := eq_true h0; have t1 := eq_true hlt; have hok := HOK.out i.toNat (by simp; omega)
      rw [spP_lo] at hx0
      rw [spP_hi] at hx1
      have HO := Aside0.mk hok; clear hok
      go_wp2
      obtain ⟨ws, hws⟩ : ∃ ws, ws = wr.alloc (.cells #[.int .i64 (lo (l0.map spP) i.toNat), .int .i64 (hi (l0.map spP) i.toNat)] 33) := ⟨_, rfl⟩; have HS := Aside0.mk (show ws.heap[wr.heap.size]? = some (.cells #[.int .i64 (lo (l0.map spP) i.toNat), .int .i64 (hi (l0.map spP) i.toNat)] 33 (0, 0)) by rw [hws]; exact heap_alloc_new _ _); have HB2 := Aside0.mk (show Below w.heap.size w ws by rw [hws]; exact HB.out.alloc (HB.out.size) _); have HB3 := Aside0.mk (show ws.heap[w.heap.size + 1]? = some (.cells (flags arr) 131 (0, 0)) by rw [hws]; exact (Below.heap_alloc _ _ _ (blk_lt HB1.out)).trans HB1.out); have HZ2 := Aside0.mk (show ws.heap[w.heap.size]? = some (.cells Try.zeroCells131 131 (0, 0)) by rw [hws]; exact (Below.heap_alloc _ _ _ (blk_lt HZ.out)).trans HZ.out); have HN2 := Aside0.mk (show wr.heap.size ≠ w.heap.size from by have := blk_lt HZ.out; omega); have HN := Aside0.mk (show wr.heap.size ≠ w.heap.size + 1 from by have := blk_lt HB1.out; omega)
      rw [← hws]
      clear hws hx0 hx1 HB1 HB HZ; generalize wr.heap.size = sb at *
      go_loopw [6] (RelI (l0.map spP) w i sb) (fun b _ => (hi (l0.map spP) i.toNat + 1 - intOf b).toNat)
      case atStart =>
        have o1 := HO.out.2.1
        refine ⟨lo (l0.map spP) i.toNat, arr, by omega, by omega, rfl, HA.out, fun c hc => ?_, HB3.out, HB2.out, HZ2.out, HS.out⟩
        rw [HM.out c hc]
        constructor
        · exact .inl
        · rintro (h | h)
          · exact h
          · omega
      case round =>
        clear HM HA HB3 HB2 HS HZ2; obtain ⟨b, arr2, g0, g1, rfl, ha2, hm2, hb2, hbl2, hz2, hs2⟩ := hrel; have HZ2 := Aside0.mk hz2; clear hz2; have HA2 := Aside0.mk ha2; have HM2 := Aside0.mk hm2; have HB2 := Aside0.mk hb2; have HBL2 := Aside0.mk hbl2; have HS2 := Aside0.mk hs2; clear ha2 hm2 hb2 hbl2 hs2; have o0 := HO.out.1; have o2 := HO.out.2.2.1; have s0 := blk_cell HS2.out 0; have s1 := blk_cell HS2.out 1
        simp only [List.getElem?_toArray, List.getElem?_cons_zero, List.getElem?_cons_succ] at s0 s1
        by_cases hle : b ≤ hi (l0.map spP) i.toNat
        · have b0 := eq_true (show 0 ≤ b by omega)
          have b1 := eq_true (show b < 256 by omega); have c0 := blk_cell HB2.out b.toNat
          rw [flags_get _ _ (by rw [HA2.out]; omega)] at c0
          have f0 := blk_frozen HB2.out b.toNat
          have hwb : wrap64 (b + 1) = b + 1 := by unfold wrap64; omega
          have HW := Aside0.mk hwb; clear hwb
          go_wp2
          go_roundw
          case rel =>
            refine ⟨b + 1, arr2.set b.toNat true, by omega, by omega, by first | rfl | (rw [HW.out]), by simp [HA2.out], fun c hc => ?_, ?_, ?_, ?_, ?_⟩
            · rw [getD_set _ _ _ (by rw [HA2.out]; omega), HM2.out c hc]
              constructor
              · rintro ((h | h) | h)
                · exact .inl h
                · exact .inr (by omega)
                · exact .inr (by omega)
              · rintro (h | h)
                · exact .inl (.inl h)
                · by_cases e : c = b.toNat
                  · exact .inr e
                  · exact .inl (.inr (by omega))
            · rw [heap_setCell_same _ _ _ _ _ _ HB2.out, flags_set]
            · exact HBL2.out.setCell (by simp) _
            · rw [heap_setCell_other _ _ _ _ (by simp)]
              exact HZ2.out
            · rw [heap_setCell_other _ _ _ _ HN.out]
              exact HS2.out
          case measure => simp [intOf]; omega
        · go_wp2
          go_roundw
          case rel =>
            have eb : b = hi (l0.map spP) i.toNat + 1 := by omega
            refine ⟨i + 1, arr2, by omega, by simp; omega, by first | rfl | go_num, HA2.out, fun c hc => ?_, HB2.out, HBL2.out, HZ2.out⟩
            rw [HM2.out c hc, show (i + 1).toNat = i.toNat + 1 by omega, InTo_step]
            constructor
            · rintro (h | h)
              · exact .inl h
              · exact .inr (by omega)
            · rintro (h | h)
              · exact .inl h
              · exact .inr (by omega)
          case measure => simp [intOf]; omega
    · have t2 := eq_false hlt
      go_wp2_with (first | (refine wpList_load_row rfl 131 _ rfl (w.heap.size + 1) (by first | rfl | simp) 131 _ (0, 0) _ HB1.out Try.underlying131 rfl (by rw [flags_size, HA.out]; kernel_rfl) ?_) | (refine wpList_store_row rfl 131 _ _ rfl w.heap.size (flags arr) (by first | rfl | simp) (by first | rfl | simp) 131 _ HZ.out (by rw [flags_size, HA.out]; kernel_rfl) (by rw [flags_size, HA.out]; kernel_rfl) (flags_one arr) ?_))
      have hend : i = (l0.length : Int) := by omega
      refine bodyPost_ret (results_cell_row rfl _ _ w.heap.size 131 (flags arr) (0, 0) _ rfl (setRow_heap _ _ _ _ _ _ HZ.out) Try.underlying131 rfl (by rw [flags_size, HA.out]; kernel_rfl)) rfl ⟨arr, rfl, HA.out, fun b hb => ?_, ?_⟩
      · have h9 := HM.out b hb
        rw [hend, Int.toNat_natCast, List.getD_eq_getElem?_getD] at h9
        exact h9
      · exact below_setRow HB.out (Nat.le_refl _) _
instance (l : List (Int × Int)) (i : Nat) : Decidable (okAt l i) := by unfold okAt; infer_instance
instance (l : List (Int × Int)) : Decidable (classOk l) := by unfold classOk; infer_instance
instance (l : List (Int × Int)) (k b : Nat) : Decidable (InTo l k b) := by unfold InTo; infer_instance
end

-- NOT PRINTED: function 193 (impl_bytes256_class)

end Go.Proofs.Ytbijmhooamjgoaa.PFnExactFolded
