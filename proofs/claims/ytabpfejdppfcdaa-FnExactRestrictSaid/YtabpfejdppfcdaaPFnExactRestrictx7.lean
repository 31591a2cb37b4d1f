-- Written by this session's own program (wip/pr.py) over the kit's printer; contracts that the printer does not know are given by hand.
import Derived.Test.YtabpfejdppfcdaaPFnExactRestrictx0
import Derived.Test.YtabpfejdppfcdaaPFnExactRestrictx6
namespace Go.Proofs.Ytabpfejdppfcdaa.PFnExactRestrict
open Go.RowKit Go.Proofs.YtabpfejdppfcdaaW.PrintWords Go.Proofs.YtabpfejdppfcdaaW.PrintLast Go.Proofs.YtabpfejdppfcdaaW.PrintMore
attribute [local go_sem] max2_int min2_int max_two min_two max_three min_three max_four min_four   -- for this text's walks alone
set_option linter.unusedVariables false
set_option linter.unusedSimpArgs false

theorem one_reads {α : Type} {W : World} {h : Nat} {c : Value} {p : α} (hc : W.cell? ⟨h, 0, none⟩ = some c) : ReadsRow (fun (y : α) cs => y = p ∧ cs = [c]) 1 W (some ⟨h, 0, none⟩) 1 [p] := by
  refine ⟨rfl, by decide, fun _ => ⟨_, rfl, fun j q hj => ⟨[c], rfl, ?_, fun i u hi => ?_⟩⟩⟩
  · rcases j with _ | j
    · simp at hj; exact ⟨hj.symm, rfl⟩
    · simp at hj
  · rcases j with _ | j
    · rcases i with _ | i
      · simp at hi
        subst hi
        exact hc
      · simp at hi
    · simp at hj
theorem S_append1_step {P : Program} {ops : Array Oper} {o : Oper} {a : Act} {Q : Exit → Act → World → Prop} {Kc : Act → World → Prop} {α : Type} (d : Kd α) (hd1 : d.sz = 1) {w0 W : World} (base : Nat) (hw : Region.wanted o (yielded ops a.tmps) = true) (s x : Operand) (t e : TypeId) (z : Value) (bytes : Nat)
    (ho : o.op = .call { callee := .builtin .append, args := #[s, x], argTypes := #[t, t] })
    (ht : P.underlying t = some (.slice e)) (hinfo : (P.info? e).map (fun i => (i.zero, i.size, i.bytes)) = some (some z, d.sz, bytes)) (hz : z.cells.size = d.sz) (hb0 : 0 < bytes)
    (v : Value) (xs : List α) (p : α) (c : Value) (h : Nat) (ok okp : Nat → Prop) (hs : a.eval s = v) (hx : a.eval x = .slice (some ⟨h, 0, none⟩) 1 1) (hcell : W.cell? ⟨h, 0, none⟩ = some c) (hp : d.M W base okp p [c]) (hokp : ∀ k, okp k → ok k ∧ some k ≠ v.ownBlock) (hfresh : ∀ k, W.heap.size ≤ k → ok k)
    (HO : Kd.S d e W base (fun k => ok k ∧ ¬ okp k) v xs) (HB : Below base w0 W) (hbase : base ≤ W.heap.size) (hl : (xs.length + 1) * bytes ≤ 140737488355328)
    (hh : ∀ v1 w1, Kd.S d e w1 base ok v1 (xs ++ [p]) → Below base w0 w1 → W.grownBy w1 v.ownBlock → (v1.ownBlock = v.ownBlock ∨ ∃ b, v1.ownBlock = some b ∧ W.heap.size ≤ b) → Kc (a.put o.dst v1) w1) :
    if Region.wanted o (yielded ops a.tmps) = true then Oper.wp P o a W Kc Q else Kc (a.put o.dst undef) W := by
  obtain ⟨f, hf, hR⟩ := Kd.S_tag HO xs.length okp (fun _ hk h2 => h2.2 hk)
  refine Kd.R_append_rows_step (Kd.tag f d) (Rr := fun y cs => y = (p, xs.length) ∧ cs = [c]) base hw s x t e z bytes ho ht hinfo hz (by show 0 < d.sz; omega) hb0 v xs.zipIdx [(p, xs.length)] (some ⟨h, 0, none⟩) 1 1 ok okp hs hx (Kd.R_mono hR (fun _ hk => hk.1)) (by show ReadsRow _ d.sz _ _ _ _; rw [hd1]; exact one_reads hcell) (fun y cs hy => ?_) hokp hfresh HB hbase (by rw [List.length_zipIdx]; exact hl) ?_
  · obtain ⟨rfl, rfl⟩ := hy
    exact Kd.M_mono d (fun k hk => ⟨hk, hf k hk⟩) hp
  · intro v1 w1 hr
    rw [← Kd.zip_snoc] at hr
    exact hh v1 w1 ⟨f, hr⟩
/-! ### impl_Restrict: function 56 -/
def impl_Restrict.l0 : Nat → List Int → List (List Int) → Int → Int → List Int → List (List Int) → List Int → List Int → List (List Int) → List Int → Option (List Int × (List (List Int)) × List Int)
  | 0, _, _, _, _, _, _, _, _, _, _ => none
  | k + 1, x1, x18, x19, x20, x201000, x201001, x201002, x207000, x207001, x207002 => if x20 < x19 then (if 0 ≤ x20 then (if x20 < (x18.length : Int) then (if x20 < (x201002.length : Int) then ((slices_Contains_int64_int64.f k x1 (rd x201002 x20)).bind fun t209 => (if t209 = true then ((slices_Clone_int64_int64.f (rd_L1 x18 x20)).bind fun t210 => (if x207001.length < 5864062014805 then (if x207002.length < 17592186044416 then (impl_Restrict.l0 k x1 x18 x19 (wrap64 (x20 + 1)) x201000 x201001 x201002 x207000 (x207001 ++ [t210]) (x207002 ++ [rd x201002 x20])) else (none)) else (none))) else ((slices_Clone_int64_int64.f (rd_L1 x18 x20)).bind fun t219 => (if x207001.length < 5864062014805 then (if x207002.length < 17592186044416 then (impl_Restrict.l0 k x1 x18 x19 (wrap64 (x20 + 1)) x201000 x201001 x201002 x207000 (x207001 ++ [t219]) (x207002 ++ [(-1)])) else (none)) else (none))))) else (none)) else (none)) else (none)) else (some (x207000, x207001, x207002))
def impl_Restrict.f (k : Nat) (l0_0 : List Int) (l0_1 : List (List Int)) (l0_2 : List Int) (l1 : List Int) : Option (List Int × (List (List Int)) × List Int) := (impl_DfaOk.f k l0_0 l0_1 l0_2).bind fun t202 => (if t202 = true then ((slices_Clone_int64_int64.f l0_0).bind fun t203 => (impl_Restrict.l0 k l1 l0_1 (l0_1.length : Int) 0 l0_0 l0_1 l0_2 t203 ([] : List (List Int)) ([] : List Int))) else (some (([] : List Int), ([] : List (List Int)), ([] : List Int))))
theorem impl_Restrict.mono_l : ∀ k, (∀ y0 y1 y2 y3 y4 y5 y6 y7 y8 y9, LeO (impl_Restrict.l0 k y0 y1 y2 y3 y4 y5 y6 y7 y8 y9) (impl_Restrict.l0 (k + 1) y0 y1 y2 y3 y4 y5 y6 y7 y8 y9))
  | 0 => fun _ _ _ _ _ _ _ _ _ _ r h => by simp [impl_Restrict.l0] at h
  | k + 1 => by
    have ih0 := impl_Restrict.mono_l k
    · intro y0 y1 y2 y3 y4 y5 y6 y7 y8 y9
      unfold impl_Restrict.l0
      repeat' first
      | (with_reducible exact ih0 _ _ _ _ _ _ _ _ _ _)
      | (with_reducible exact impl_DfaOk.mono _ _ _ _)
      | (with_reducible exact slices_Contains_int64_int64.mono _ _ _)
      | (with_reducible exact LeO.refl _)
      | (with_reducible exact LeO.none _)
      | (with_reducible refine LeO.ite ?_ ?_)
      | (with_reducible refine LeO.bind ?_ (fun _ => ?_))
      | exact ih0 _ _ _ _ _ _ _ _ _ _
      | exact impl_DfaOk.mono _ _ _ _
      | exact slices_Contains_int64_int64.mono _ _ _
      | exact LeO.none _
      | refine LeO.ite ?_ ?_
      | refine LeO.bind ?_ (fun _ => ?_)
theorem impl_Restrict.mono : ∀ a0 a1 a2 a3 k, LeO (impl_Restrict.f k a0 a1 a2 a3) (impl_Restrict.f (k + 1) a0 a1 a2 a3) := by
  intro a0 a1 a2 a3 k
  have ih0 := impl_Restrict.mono_l k
  unfold impl_Restrict.f
  repeat' first
      | (with_reducible exact ih0 _ _ _ _ _ _ _ _ _ _)
      | (with_reducible exact impl_DfaOk.mono _ _ _ _)
      | (with_reducible exact slices_Contains_int64_int64.mono _ _ _)
      | (with_reducible exact LeO.refl _)
      | (with_reducible exact LeO.none _)
      | (with_reducible refine LeO.ite ?_ ?_)
      | (with_reducible refine LeO.bind ?_ (fun _ => ?_))
      | exact ih0 _ _ _ _ _ _ _ _ _ _
      | exact impl_DfaOk.mono _ _ _ _
      | exact slices_Contains_int64_int64.mono _ _ _
      | exact LeO.none _
      | refine LeO.ite ?_ ?_
      | refine LeO.bind ?_ (fun _ => ?_)
set_option maxHeartbeats 8000000 in
set_option maxRecDepth 100000 in
theorem impl_Restrict.calls (k : Nat) (A0_0 : Option Addr) (c0_0 : Nat) (l0_0 : List Int) (A0_1 : Option Addr) (c0_1 : Nat) (l0_1 : List (List Int)) (A0_2 : Option Addr) (c0_2 : Nat) (l0_2 : List Int) (A1 : Option Addr) (c1 : Nat) (l1 : List Int) (r1 : List Int) (r2 : List (List Int)) (r3 : List Int) (w : World) (hr0_0 : Kd.C (Kd.int .i64) w A0_0 l0_0.length l0_0) (hc0_0 : l0_0.length ≤ c0_0) (hr0_1 : Kd.C (Kd.slice 2 (Kd.int .i64)) w A0_1 l0_1.length l0_1) (hc0_1 : l0_1.length ≤ c0_1) (hr0_2 : Kd.C (Kd.int .i64) w A0_2 l0_2.length l0_2) (hc0_2 : l0_2.length ≤ c0_2) (hr1 : Kd.C (Kd.int .i64) w A1 l1.length l1) (hc1 : l1.length ≤ c1) (h : impl_Restrict.f k l0_0 l0_1 l0_2 l1 = some (r1, r2, r3)) :
    Calls Try.prog 56 #[.agg #[.slice A0_0 l0_0.length c0_0, .slice A0_1 l0_1.length c0_1, .slice A0_2 l0_2.length c0_2], .slice A1 l1.length c1] w fun e w' => ∃ v0_ v1_ v2_ : Value, e = .returned (.agg #[v0_, v1_, v2_]) ∧ Kd.R (Kd.int .i64) 2 w' w.heap.size (fun k_ => some k_ ≠ (v2_ : Value).ownBlock) v0_ r1 ∧ Kd.S (Kd.slice 2 (Kd.int .i64)) 60 w' w.heap.size (fun k_ => some k_ ≠ (v0_ : Value).ownBlock ∧ some k_ ≠ (v2_ : Value).ownBlock) v1_ r2 ∧ Kd.R (Kd.int .i64) 2 w' w.heap.size (fun k_ => some k_ ≠ (v0_ : Value).ownBlock) v2_ r3 ∧ Below w.heap.size w w' := by
  have hu66 := Try.underlying66
  have HR0_0 := Aside0.mk hr0_0
  have HC0_0 := Aside0.mk hc0_0
  clear hr0_0 hc0_0
  have HR0_1 := Aside0.mk hr0_1
  have HC0_1 := Aside0.mk hc0_1
  clear hr0_1 hc0_1
  have HR0_2 := Aside0.mk hr0_2
  have HC0_2 := Aside0.mk hc0_2
  clear hr0_2 hc0_2
  have HR1 := Aside0.mk hr1
  have HC1 := Aside0.mk hc1
  clear hr1 hc1
  have HB := Aside0.mk (Below.refl w.heap.size w)
  have H : ((impl_DfaOk.f k l0_0 l0_1 l0_2).bind fun t202 => (if t202 = true then ((slices_Clone_int64_int64.f l0_0).bind fun t203 => (impl_Restrict.l0 k l1 l0_1 (l0_1.length : Int) 0 l0_0 l0_1 l0_2 t203 ([] : List (List Int)) ([] : List Int))) else (some (([] : List Int), ([] : List (List Int)), ([] : List Int))))) = some (r1, r2, r3) := h
  clear h
  replace H := Option.bind_eq_some_iff.mp H
  obtain ⟨t202, A30, H⟩ := H
  replace H : (if t202 = true then ((slices_Clone_int64_int64.f l0_0).bind fun t203 => (impl_Restrict.l0 k l1 l0_1 (l0_1.length : Int) 0 l0_0 l0_1 l0_2 t203 ([] : List (List Int)) ([] : List Int))) else (some (([] : List Int), ([] : List (List Int)), ([] : List Int)))) = some (r1, r2, r3) := H
  have A3 := Aside0.mk A30
  clear A30
  by_cases c4 : t202 = true
  · subst c4
    have H1 : ((slices_Clone_int64_int64.f l0_0).bind fun t203 => (impl_Restrict.l0 k l1 l0_1 (l0_1.length : Int) 0 l0_0 l0_1 l0_2 t203 ([] : List (List Int)) ([] : List Int))) = some (r1, r2, r3) := by rw [if_pos rfl] at H; exact H
    clear H
    have H := H1
    clear H1
    replace H := Option.bind_eq_some_iff.mp H
    obtain ⟨t203, A50, H⟩ := H
    replace H : (impl_Restrict.l0 k l1 l0_1 (l0_1.length : Int) 0 l0_0 l0_1 l0_2 t203 ([] : List (List Int)) ([] : List Int)) = some (r1, r2, r3) := H
    have A5 := Aside0.mk A50
    clear A50
    have H' := Aside0.mk H
    clear H
    go_enter Try.func56, Try.ntmps56
    go_wp2_with (first | ((with_reducible refine gate_dst (N := 2) rfl ?_); refine box_event ?hg (N := 2) ?hd (cs := #[.slice A0_0 l0_0.length c0_0, .slice A0_1 l0_1.length c0_1, .slice A0_2 l0_2.length c0_2]) (t := 66) ?hr ?_; (case hd => rfl); (case hg => rfl); (case hr => first | (go_simp; done) | (go_simp; rfl)); intro gb200 hg w6 hbox hb; have n0_ := Aside0.mk (below_step (by repeat (first | (with_reducible first | exact HB.out | apply below_alloc | apply pw_below_drewN | apply below_drew1) | exact HB.out)) hb); have n1_ := Aside0.mk (hbox); have n2_ := Aside0.mk ((by rw [hg]; exact (below_size (by repeat (first | (with_reducible first | exact HB.out | apply below_alloc | apply pw_below_drewN | apply below_drew1) | exact HB.out))) : w.heap.size ≤ gb200)); have n3_ := Aside0.mk ((by rw [hg]; exact (below_size (by repeat (first | (with_reducible first | exact HB.out | apply below_alloc | apply pw_below_drewN | apply below_drew1) | exact HB.out))) : w.heap.size ≤ gb200)); clear HB; have HB := n0_; have BK200 := n1_; have GW200 := n2_; have GE200 := n3_; clear n0_ n1_ n2_ n3_; clear hb hbox hg) | ((with_reducible refine gate_dst (N := 4) rfl ?_); refine box_event ?hg (N := 4) ?hd (cs := #[.slice none 0 0, .slice none 0 0, .slice none 0 0]) (t := 66) ?hr ?_; (case hd => rfl); (case hg => rfl); (case hr => first | (go_simp; done) | (go_simp; rfl)); intro gb201 hg w7 hbox hb; have n0_ := Aside0.mk (blk_below (g := gb200) (o := .cells #[.slice A0_0 l0_0.length c0_0, .slice A0_1 l0_1.length c0_1, .slice A0_2 l0_2.length c0_2] 66 (0, 0)) (by (with_reducible repeat (first | refine blk_drewN ?_ _ | refine blk_drew ?_ | refine blk_alloc ?_ _)); exact BK200.out) hb); have n1_ := Aside0.mk (below_step (by repeat (first | (with_reducible first | exact HB.out | apply below_alloc | apply pw_below_drewN | apply below_drew1 | refine below_set ?_ GE200.out) | exact HB.out)) hb); have n2_ := Aside0.mk (hbox); have n3_ := Aside0.mk ((by rw [hg]; exact (below_size (by repeat (first | (with_reducible first | exact HB.out | apply below_alloc | apply pw_below_drewN | apply below_drew1 | refine below_set ?_ GE200.out) | exact HB.out))) : w.heap.size ≤ gb201)); have n4_ := Aside0.mk ((by rw [hg]; exact (below_size (by repeat (first | (with_reducible first | exact HB.out | apply below_alloc | apply pw_below_drewN | apply below_drew1 | refine below_set ?_ GE200.out) | exact HB.out))) : w.heap.size ≤ gb201)); have n5_ := Aside0.mk ((by rw [hg]; exact Nat.ne_of_lt (blk_lt (g := gb200) (o := .cells #[.slice A0_0 l0_0.length c0_0, .slice A0_1 l0_1.length c0_1, .slice A0_2 l0_2.length c0_2] 66 (0, 0)) (by (with_reducible repeat (first | refine blk_drewN ?_ _ | refine blk_drew ?_ | refine blk_alloc ?_ _)); exact BK200.out)) : gb200 ≠ gb201)); have n6_ := Aside0.mk ((by rw [hg]; exact Nat.ne_of_gt (blk_lt (g := gb200) (o := .cells #[.slice A0_0 l0_0.length c0_0, .slice A0_1 l0_1.length c0_1, .slice A0_2 l0_2.length c0_2] 66 (0, 0)) (by (with_reducible repeat (first | refine blk_drewN ?_ _ | refine blk_drew ?_ | refine blk_alloc ?_ _)); exact BK200.out)) : gb201 ≠ gb200)); clear BK200; clear HB; have BK200 := n0_; have HB := n1_; have BK201 := n2_; have GW201 := n3_; have GE201 := n4_; have NB200_201 := n5_; have NB201_200 := n6_; clear n0_ n1_ n2_ n3_ n4_ n5_ n6_; clear hb hbox hg; have hnb8 := NB200_201.out; have hnc8 := NB201_200.out; have hcz9_0 : w7.cell? ⟨gb200, 0, none⟩ = some (.slice A0_0 l0_0.length c0_0) := (blk_cell BK200.out 0).trans rfl; have hcz9_1 : w7.cell? ⟨gb200, 1, none⟩ = some (.slice A0_1 l0_1.length c0_1) := (blk_cell BK200.out 1).trans rfl; have hcz9_2 : w7.cell? ⟨gb200, 2, none⟩ = some (.slice A0_2 l0_2.length c0_2) := (blk_cell BK200.out 2).trans rfl; have hfz9_0 := blk_frozen BK200.out 0; have hfz9_1 := blk_frozen BK200.out 1; have hfz9_2 := blk_frozen BK200.out 2) | ((with_reducible refine gate_callee (f := 125) rfl ?_); refine goesL_ (some 10) rfl rfl Try.func125 (by kernel_rfl) rfl #[.agg #[.slice A0_0 l0_0.length c0_0, .slice A0_1 l0_1.length c0_1, .slice A0_2 l0_2.length c0_2]] rfl (by (try simp only [List.map_toArray, List.map_cons, List.map_nil]); first | done | rfl | (simp only [List.length_drop, List.length_take]; rfl)) ?_; (with_reducible refine (impl_DfaOk.calls k _ _ l0_0 _ _ l0_1 _ _ l0_2 true _ ?side1 ?side2 ?side3 ?side4 ?side5 ?side6 A3.out).mono ?_); (case side1 => repeat (first | exact (Kd.C_below HR0_0.out HB.out) | (with_reducible refine Kd.C_alloc ?_ _) | (with_reducible refine Kd.C_drewN ?_ _) | (with_reducible refine Kd.C_drew ?_))); (case side2 => exact HC0_0.out); (case side3 => repeat (first | exact (Kd.C_below HR0_1.out HB.out) | (with_reducible refine Kd.C_alloc ?_ _) | (with_reducible refine Kd.C_drewN ?_ _) | (with_reducible refine Kd.C_drew ?_))); (case side4 => exact HC0_1.out); (case side5 => repeat (first | exact (Kd.C_below HR0_2.out HB.out) | (with_reducible refine Kd.C_alloc ?_ _) | (with_reducible refine Kd.C_drewN ?_ _) | (with_reducible refine Kd.C_drew ?_))); (case side6 => exact HC0_2.out); rintro e w10 ⟨rfl, hb⟩; refine ⟨_, rfl, ?_⟩; have n0_ := Aside0.mk (blk_below (g := gb200) (o := .cells #[.slice A0_0 l0_0.length c0_0, .slice A0_1 l0_1.length c0_1, .slice A0_2 l0_2.length c0_2] 66 (0, 0)) (by (with_reducible repeat (first | refine blk_drewN ?_ _ | refine blk_drew ?_ | refine blk_alloc ?_ _)); exact BK200.out) hb); have n1_ := Aside0.mk (blk_below (g := gb201) (o := .cells #[.slice none 0 0, .slice none 0 0, .slice none 0 0] 66 (0, 0)) (by (with_reducible repeat (first | refine blk_drewN ?_ _ | refine blk_drew ?_ | refine blk_alloc ?_ _)); exact BK201.out) hb); have n2_ := Aside0.mk (below_step (by repeat (first | (with_reducible first | exact HB.out | apply below_alloc | apply pw_below_drewN | apply below_drew1 | refine below_set ?_ GE200.out | refine below_set ?_ GE201.out) | exact HB.out)) hb); clear BK200; clear BK201; clear HB; have BK200 := n0_; have BK201 := n1_; have HB := n2_; clear n0_ n1_ n2_; (try clear hb); (try clear hb2); (try clear hk); (try clear hi); have hcz11_0 : w10.cell? ⟨gb200, 0, none⟩ = some (.slice A0_0 l0_0.length c0_0) := (blk_cell BK200.out 0).trans rfl; have hcz11_1 : w10.cell? ⟨gb200, 1, none⟩ = some (.slice A0_1 l0_1.length c0_1) := (blk_cell BK200.out 1).trans rfl; have hcz11_2 : w10.cell? ⟨gb200, 2, none⟩ = some (.slice A0_2 l0_2.length c0_2) := (blk_cell BK200.out 2).trans rfl; have hfz11_0 := blk_frozen BK200.out 0; have hfz11_1 := blk_frozen BK200.out 1; have hfz11_2 := blk_frozen BK200.out 2) | ((with_reducible refine gate_callee (f := 131) rfl ?_); refine goesL_ (some 15) rfl rfl Try.func131 (by kernel_rfl) rfl #[.slice A0_0 l0_0.length c0_0] rfl (by (try simp only [List.map_toArray, List.map_cons, List.map_nil]); first | done | rfl | (simp only [List.length_drop, List.length_take]; rfl)) ?_; (with_reducible refine (slices_Clone_int64_int64.calls _ _ l0_0 t203 _ ?side1 ?side2 A5.out).mono ?_); (case side1 => repeat (first | exact (Kd.C_below HR0_0.out HB.out) | (with_reducible refine Kd.C_alloc ?_ _) | (with_reducible refine Kd.C_drewN ?_ _) | (with_reducible refine Kd.C_drew ?_))); (case side2 => exact HC0_0.out); rintro e w12 ⟨v204, rfl, ho0, hb⟩; refine ⟨_, rfl, ?_⟩; have n0_ := Aside0.mk (Kd.R_lower ho0 (below_size (by repeat (first | (with_reducible first | exact HB.out | apply below_alloc | apply pw_below_drewN | apply below_drew1 | refine below_set ?_ GE200.out | refine below_set ?_ GE201.out) | exact HB.out)))); have n1_ := Aside0.mk (blk_below (g := gb200) (o := .cells #[.slice A0_0 l0_0.length c0_0, .slice A0_1 l0_1.length c0_1, .slice A0_2 l0_2.length c0_2] 66 (0, 0)) (by (with_reducible repeat (first | refine blk_drewN ?_ _ | refine blk_drew ?_ | refine blk_alloc ?_ _)); exact BK200.out) hb); have n2_ := Aside0.mk (blk_below (g := gb201) (o := .cells #[.slice none 0 0, .slice none 0 0, .slice none 0 0] 66 (0, 0)) (by (with_reducible repeat (first | refine blk_drewN ?_ _ | refine blk_drew ?_ | refine blk_alloc ?_ _)); exact BK201.out) hb); have n3_ := Aside0.mk (below_step (by repeat (first | (with_reducible first | exact HB.out | apply below_alloc | apply pw_below_drewN | apply below_drew1 | refine below_set ?_ GE200.out | refine below_set ?_ GE201.out) | exact HB.out)) hb); clear BK200; clear BK201; clear HB; have HO205 := n0_; have BK200 := n1_; have BK201 := n2_; have HB := n3_; clear n0_ n1_ n2_ n3_; (try clear hb); (try clear hb2); (try clear hk); (try clear hi); (try clear ho0); obtain ⟨Ao13, co13, eo13⟩ := Kd.R_slice HO205.out; subst eo13) | ((with_reducible refine gate_dst (N := 5) rfl ?_); refine box_event ?hg (N := 5) ?hd (cs := #[.slice none 0 0, .slice none 0 0, .slice none 0 0]) (t := 66) ?hr ?_; (case hd => rfl); (case hg => rfl); (case hr => first | (go_simp; done) | (go_simp; rfl)); intro gb206 hg w14 hbox hb; have n0_ := Aside0.mk (Kd.R_below (by (with_reducible repeat (first | apply Kd.R_alloc | apply Kd.R_drewN | apply Kd.R_drew)); exact HO205.out) hb); have n1_ := Aside0.mk (blk_below (g := gb200) (o := .cells #[.slice A0_0 l0_0.length c0_0, .slice A0_1 l0_1.length c0_1, .slice A0_2 l0_2.length c0_2] 66 (0, 0)) (by (with_reducible repeat (first | refine blk_drewN ?_ _ | refine blk_drew ?_ | refine blk_alloc ?_ _)); exact BK200.out) hb); have n2_ := Aside0.mk (blk_below (g := gb201) (o := .cells #[.slice none 0 0, .slice none 0 0, .slice none 0 0] 66 (0, 0)) (by (with_reducible repeat (first | refine blk_drewN ?_ _ | refine blk_drew ?_ | refine blk_alloc ?_ _)); exact BK201.out) hb); have n3_ := Aside0.mk (below_step (by repeat (first | (with_reducible first | exact HB.out | apply below_alloc | apply pw_below_drewN | apply below_drew1 | refine below_set ?_ GE200.out | refine below_set ?_ GE201.out) | exact HB.out)) hb); have n4_ := Aside0.mk (hbox); have n5_ := Aside0.mk ((by rw [hg]; exact (below_size (by repeat (first | (with_reducible first | exact HB.out | apply below_alloc | apply pw_below_drewN | apply below_drew1 | refine below_set ?_ GE200.out | refine below_set ?_ GE201.out) | exact HB.out))) : w.heap.size ≤ gb206)); have n6_ := Aside0.mk ((by rw [hg]; exact (below_size (by repeat (first | (with_reducible first | exact HB.out | apply below_alloc | apply pw_below_drewN | apply below_drew1 | refine below_set ?_ GE200.out | refine below_set ?_ GE201.out) | exact HB.out))) : w.heap.size ≤ gb206)); have n7_ := Aside0.mk ((by rw [hg]; exact Nat.ne_of_lt (blk_lt (g := gb200) (o := .cells #[.slice A0_0 l0_0.length c0_0, .slice A0_1 l0_1.length c0_1, .slice A0_2 l0_2.length c0_2] 66 (0, 0)) (by (with_reducible repeat (first | refine blk_drewN ?_ _ | refine blk_drew ?_ | refine blk_alloc ?_ _)); exact BK200.out)) : gb200 ≠ gb206)); have n8_ := Aside0.mk ((by rw [hg]; exact Nat.ne_of_gt (blk_lt (g := gb200) (o := .cells #[.slice A0_0 l0_0.length c0_0, .slice A0_1 l0_1.length c0_1, .slice A0_2 l0_2.length c0_2] 66 (0, 0)) (by (with_reducible repeat (first | refine blk_drewN ?_ _ | refine blk_drew ?_ | refine blk_alloc ?_ _)); exact BK200.out)) : gb206 ≠ gb200)); have n9_ := Aside0.mk ((by rw [hg]; exact Nat.ne_of_lt (blk_lt (g := gb201) (o := .cells #[.slice none 0 0, .slice none 0 0, .slice none 0 0] 66 (0, 0)) (by (with_reducible repeat (first | refine blk_drewN ?_ _ | refine blk_drew ?_ | refine blk_alloc ?_ _)); exact BK201.out)) : gb201 ≠ gb206)); have n10_ := Aside0.mk ((by rw [hg]; exact Nat.ne_of_gt (blk_lt (g := gb201) (o := .cells #[.slice none 0 0, .slice none 0 0, .slice none 0 0] 66 (0, 0)) (by (with_reducible repeat (first | refine blk_drewN ?_ _ | refine blk_drew ?_ | refine blk_alloc ?_ _)); exact BK201.out)) : gb206 ≠ gb201)); clear HO205; clear BK200; clear BK201; clear HB; have HO205 := n0_; have BK200 := n1_; have BK201 := n2_; have HB := n3_; have BK206 := n4_; have GW206 := n5_; have GE206 := n6_; have NB200_206 := n7_; have NB206_200 := n8_; have NB201_206 := n9_; have NB206_201 := n10_; clear n0_ n1_ n2_ n3_ n4_ n5_ n6_ n7_ n8_ n9_ n10_; clear hb hbox hg; have hnb15 := NB206_200.out; have hnc15 := NB200_206.out; have hnb16 := NB206_201.out; have hnc16 := NB201_206.out; have hcz17_0 : w14.cell? ⟨gb206, 0, none⟩ = some (.slice none 0 0) := (blk_cell BK206.out 0).trans rfl; have hcz17_1 : w14.cell? ⟨gb206, 1, none⟩ = some (.slice none 0 0) := (blk_cell BK206.out 1).trans rfl; have hcz17_2 : w14.cell? ⟨gb206, 2, none⟩ = some (.slice none 0 0) := (blk_cell BK206.out 2).trans rfl; have hfz17_0 := blk_frozen BK206.out 0; have hfz17_1 := blk_frozen BK206.out 1; have hfz17_2 := blk_frozen BK206.out 2; have hcz18_0 : w14.cell? ⟨gb200, 0, none⟩ = some (.slice A0_0 l0_0.length c0_0) := (blk_cell BK200.out 0).trans rfl; have hcz18_1 : w14.cell? ⟨gb200, 1, none⟩ = some (.slice A0_1 l0_1.length c0_1) := (blk_cell BK200.out 1).trans rfl; have hcz18_2 : w14.cell? ⟨gb200, 2, none⟩ = some (.slice A0_2 l0_2.length c0_2) := (blk_cell BK200.out 2).trans rfl; have hfz18_0 := blk_frozen BK200.out 0; have hfz18_1 := blk_frozen BK200.out 1; have hfz18_2 := blk_frozen BK200.out 2))
    go_loopg [20] k (fun kq v20 w' => ∃ (x20_1 : Int) (x207001_1 : List (List Int)) (x207002_1 : List Int) (u207001 : Value) (u207002 : Value), v20 = .int .i64 x20_1 ∧ Aside0 (impl_Restrict.l0 kq l1 l0_1 (l0_1.length : Int) x20_1 l0_0 l0_1 l0_2 t203 x207001_1 x207002_1 = some (r1, r2, r3)) ∧ Aside0 (kq ≤ k) ∧ Aside0 (Kd.R (Kd.int .i64) 2 w' w.heap.size (fun k_ => some k_ ≠ (u207002 : Value).ownBlock) (.slice Ao13 t203.length co13) t203) ∧ Aside0 (Kd.S (Kd.slice 2 (Kd.int .i64)) 60 w' w.heap.size (fun k_ => some k_ ≠ ((.slice Ao13 t203.length co13) : Value).ownBlock ∧ some k_ ≠ (u207002 : Value).ownBlock) u207001 x207001_1) ∧ Aside0 (Kd.R (Kd.int .i64) 2 w' w.heap.size (fun k_ => some k_ ≠ ((.slice Ao13 t203.length co13) : Value).ownBlock) u207002 x207002_1) ∧ Aside0 (w'.heap[gb200]? = some (.cells #[(.slice A0_0 l0_0.length c0_0), (.slice A0_1 l0_1.length c0_1), (.slice A0_2 l0_2.length c0_2)] 66 (0, 0))) ∧ Aside0 (w'.heap[gb201]? = some (.cells #[(.slice none 0 0), (.slice none 0 0), (.slice none 0 0)] 66 (0, 0))) ∧ Aside0 (w'.heap[gb206]? = some (.cells #[(.slice Ao13 t203.length co13), u207001, u207002] 66 (0, 0))) ∧ Aside0 (Below w.heap.size w w'))
    case atStart => exact ⟨(0), (([] : List (List Int))), (([] : List Int)), (.slice none 0 0), (.slice none 0 0), (by first | rfl | (simp; done) | (simp [*]; done)), H', ⟨Nat.le_refl _⟩, ⟨by (with_reducible repeat (first | apply Kd.R_alloc | apply Kd.R_drewN | apply Kd.R_drew)); exact Kd.R_mono (Kd.R_far (p := ⟨gb206, 2, none⟩) (Kd.R_far (p := ⟨gb206, 1, none⟩) (Kd.R_far (p := ⟨gb206, 0, none⟩) (Kd.R_types HO205.out BK206.out (by decide)) (fun _ hk => hk.2) (.slice Ao13 t203.length co13)) (fun _ hk => hk.2) (.slice none 0 0)) (fun _ hk => hk.2) (.slice none 0 0)) (fun _ hk => (by simp [Value.ownBlock]))⟩, ⟨by first | exact Kd.S_nil _ _ _ _ _ | exact Kd.N_nil _ _ _ _ _ | exact Kd.V_nil _ _ _ _ _ | exact Kd.Q_nil _ _ _ _ _ | exact Kd.R_nil _ _ _ _ _⟩, ⟨by first | exact Kd.R_nil _ _ _ _ _ | exact Kd.N_nil _ _ _ _ _ | exact Kd.V_nil _ _ _ _ _ | exact Kd.Q_nil _ _ _ _ _ | exact Kd.S_nil _ _ _ _ _⟩, ⟨by (with_reducible repeat (first | refine blk_drewN ?_ _ | refine blk_drew ?_ | refine blk_alloc ?_ _)); refine blk_far ?_ NB200_206.out _; (with_reducible repeat (first | refine blk_drewN ?_ _ | refine blk_drew ?_ | refine blk_alloc ?_ _)); refine blk_far ?_ NB200_206.out _; (with_reducible repeat (first | refine blk_drewN ?_ _ | refine blk_drew ?_ | refine blk_alloc ?_ _)); refine blk_far ?_ NB200_206.out _; (with_reducible repeat (first | refine blk_drewN ?_ _ | refine blk_drew ?_ | refine blk_alloc ?_ _)); exact BK200.out⟩, ⟨by (with_reducible repeat (first | refine blk_drewN ?_ _ | refine blk_drew ?_ | refine blk_alloc ?_ _)); refine blk_far ?_ NB201_206.out _; (with_reducible repeat (first | refine blk_drewN ?_ _ | refine blk_drew ?_ | refine blk_alloc ?_ _)); refine blk_far ?_ NB201_206.out _; (with_reducible repeat (first | refine blk_drewN ?_ _ | refine blk_drew ?_ | refine blk_alloc ?_ _)); refine blk_far ?_ NB201_206.out _; (with_reducible repeat (first | refine blk_drewN ?_ _ | refine blk_drew ?_ | refine blk_alloc ?_ _)); exact BK201.out⟩, ⟨by (with_reducible repeat (first | refine blk_drewN ?_ _ | refine blk_drew ?_ | refine blk_alloc ?_ _)); refine blk_put (cs := #[.slice Ao13 t203.length co13, .slice none 0 0, .slice none 0 0]) ?_ 2 _ rfl; (with_reducible repeat (first | refine blk_drewN ?_ _ | refine blk_drew ?_ | refine blk_alloc ?_ _)); refine blk_put (cs := #[.slice Ao13 t203.length co13, .slice none 0 0, .slice none 0 0]) ?_ 1 _ rfl; (with_reducible repeat (first | refine blk_drewN ?_ _ | refine blk_drew ?_ | refine blk_alloc ?_ _)); refine blk_put (cs := #[.slice none 0 0, .slice none 0 0, .slice none 0 0]) ?_ 0 _ rfl; (with_reducible repeat (first | refine blk_drewN ?_ _ | refine blk_drew ?_ | refine blk_alloc ?_ _)); exact BK206.out⟩, ⟨by repeat (first | (with_reducible first | exact HB.out | apply below_alloc | apply pw_below_drewN | apply below_drew1 | refine below_set ?_ GE200.out | refine below_set ?_ GE201.out | refine below_set ?_ GE206.out) | exact HB.out)⟩⟩
    case round =>
      clear H'
      try clear c1
      try clear p2
      try clear c4
      try clear c5
      try clear c8
      try clear c12
      try clear c13
      try clear c15
      try clear c16
      try clear hcz11_0
      try clear hcz11_1
      try clear hcz11_2
      try clear hcz17_0
      try clear hcz17_1
      try clear hcz17_2
      try clear hcz18_0
      try clear hcz18_1
      try clear hcz18_2
      try clear hcz9_0
      try clear hcz9_1
      try clear hcz9_2
      try clear hfz11_0
      try clear hfz11_1
      try clear hfz11_2
      try clear hfz17_0
      try clear hfz17_1
      try clear hfz17_2
      try clear hfz18_0
      try clear hfz18_1
      try clear hfz18_2
      try clear hfz9_0
      try clear hfz9_1
      try clear hfz9_2
      obtain ⟨x20_1, x207001_1, x207002_1, u207001, u207002, rfl, HA, HK1, HO_207000, HO_207001, HO_207002, BK200, BK201, BK206, HB⟩ := hrel
      cases gk with
      | zero => exact absurd HA.out (by simp [impl_Restrict.l0])
      | succ k1 =>
        have H := HA.out
        clear HA
        simp only [impl_Restrict.l0] at H
        by_cases c19 : x20_1 < (l0_1.length : Int)
        · rw [if_pos c19] at H
          have c19b0 : decide (x20_1 < (l0_1.length : Int)) = true := decide_eq_true c19
          clear c19
          by_cases c20 : 0 ≤ x20_1
          · rw [if_pos c20] at H
            have c20b0 : decide (0 ≤ x20_1) = true := decide_eq_true c20
            clear c20
            by_cases c21 : x20_1 < (l0_1.length : Int)
            · rw [if_pos c21] at H
              have c21b0 : decide (x20_1 < (l0_1.length : Int)) = true := decide_eq_true c21
              clear c21
              by_cases c22 : x20_1 < (l0_2.length : Int)
              · rw [if_pos c22] at H
                have c22b0 : decide (x20_1 < (l0_2.length : Int)) = true := decide_eq_true c22
                clear c22
                replace H := Option.bind_eq_some_iff.mp H
                obtain ⟨t209, A230, H⟩ := H
                replace H : (if t209 = true then ((slices_Clone_int64_int64.f (rd_L1 l0_1 x20_1)).bind fun t210 => (if x207001_1.length < 5864062014805 then (if x207002_1.length < 17592186044416 then (impl_Restrict.l0 k1 l1 l0_1 (l0_1.length : Int) (wrap64 (x20_1 + 1)) l0_0 l0_1 l0_2 t203 (x207001_1 ++ [t210]) (x207002_1 ++ [rd l0_2 x20_1])) else (none)) else (none))) else ((slices_Clone_int64_int64.f (rd_L1 l0_1 x20_1)).bind fun t219 => (if x207001_1.length < 5864062014805 then (if x207002_1.length < 17592186044416 then (impl_Restrict.l0 k1 l1 l0_1 (l0_1.length : Int) (wrap64 (x20_1 + 1)) l0_0 l0_1 l0_2 t203 (x207001_1 ++ [t219]) (x207002_1 ++ [(-1)])) else (none)) else (none)))) = some (r1, r2, r3) := H
                have A23 := Aside0.mk A230
                clear A230
                by_cases c24 : t209 = true
                · subst c24
                  have H1 : ((slices_Clone_int64_int64.f (rd_L1 l0_1 x20_1)).bind fun t210 => (if x207001_1.length < 5864062014805 then (if x207002_1.length < 17592186044416 then (impl_Restrict.l0 k1 l1 l0_1 (l0_1.length : Int) (wrap64 (x20_1 + 1)) l0_0 l0_1 l0_2 t203 (x207001_1 ++ [t210]) (x207002_1 ++ [rd l0_2 x20_1])) else (none)) else (none))) = some (r1, r2, r3) := by rw [if_pos rfl] at H; exact H
                  clear H
                  have H := H1
                  clear H1
                  replace H := Option.bind_eq_some_iff.mp H
                  obtain ⟨t210, A250, H⟩ := H
                  replace H : (if x207001_1.length < 5864062014805 then (if x207002_1.length < 17592186044416 then (impl_Restrict.l0 k1 l1 l0_1 (l0_1.length : Int) (wrap64 (x20_1 + 1)) l0_0 l0_1 l0_2 t203 (x207001_1 ++ [t210]) (x207002_1 ++ [rd l0_2 x20_1])) else (none)) else (none)) = some (r1, r2, r3) := H
                  have A25 := Aside0.mk A250
                  clear A250
                  by_cases c26 : x207001_1.length < 5864062014805
                  · rw [if_pos c26] at H
                    have LMc26 := Aside0.mk c26
                    clear c26
                    obtain ⟨y213, hy213⟩ : ∃ y_ : List (List Int), y_ = (x207001_1 ++ [t210]) := ⟨_, rfl⟩
                    replace H : (if x207002_1.length < 17592186044416 then (impl_Restrict.l0 k1 l1 l0_1 (l0_1.length : Int) (wrap64 (x20_1 + 1)) l0_0 l0_1 l0_2 t203 y213 (x207002_1 ++ [rd l0_2 x20_1])) else (none)) = some (r1, r2, r3) := by first | (rw [hy213]; with_reducible exact H) | (have H2_ := (Option.bind_some _ _).symm.trans H; rw [hy213]; with_reducible exact H2_) | (have H2_ := (Option.bind_some _ _).symm.trans H; with_reducible exact H2_) | with_reducible exact H | (rw [hy213]; exact H) | exact H
                    have Ny213 := Aside0.mk hy213
                    clear hy213
                    by_cases c27 : x207002_1.length < 17592186044416
                    · rw [if_pos c27] at H
                      have LMc27 := Aside0.mk c27
                      clear c27
                      obtain ⟨y216, hy216⟩ : ∃ y_ : List Int, y_ = (x207002_1 ++ [rd l0_2 x20_1]) := ⟨_, rfl⟩
                      replace H : (impl_Restrict.l0 k1 l1 l0_1 (l0_1.length : Int) (wrap64 (x20_1 + 1)) l0_0 l0_1 l0_2 t203 y213 y216) = some (r1, r2, r3) := by first | (rw [hy216]; with_reducible exact H) | (have H2_ := (Option.bind_some _ _).symm.trans H; rw [hy216]; with_reducible exact H2_) | (have H2_ := (Option.bind_some _ _).symm.trans H; with_reducible exact H2_) | with_reducible exact H | (rw [hy216]; exact H) | exact H
                      have Ny216 := Aside0.mk hy216
                      clear hy216
                      have H' := Aside0.mk H
                      clear H
                      have p207 : 0 ≤ (x20_1 : Int) := of_decide_eq_true (by first | (with_reducible assumption) | assumption)
                      have q207 : x20_1 < (l0_1.length : Int) := of_decide_eq_true (by first | (with_reducible assumption) | assumption)
                      obtain ⟨ad207, A207_0, c207_0, e207, hx207_0, hl207_0, hi207_0⟩ := at_L1 HR0_1.out x20_1 p207 q207
                      cases e207
                      replace hx207_0 := (HB.out.cell (World.block_lt_of_cell? w _ hx207_0)).trans hx207_0
                      have HR207_0 := Aside0.mk hi207_0
                      have HC207_0 := Aside0.mk hl207_0
                      clear hi207_0 hl207_0
                      replace p207 := eq_true p207
                      replace q207 := eq_true q207
                      have hnb28 := NB200_201.out
                      have hnc28 := NB201_200.out
                      have hnb29 := NB200_206.out
                      have hnc29 := NB206_200.out
                      have hcz30_0 : wr.cell? ⟨gb200, 0, none⟩ = some (.slice A0_0 l0_0.length c0_0) := (blk_cell BK200.out 0).trans rfl
                      have hcz30_1 : wr.cell? ⟨gb200, 1, none⟩ = some (.slice (some ad207) l0_1.length c0_1) := (blk_cell BK200.out 1).trans rfl
                      have hcz30_2 : wr.cell? ⟨gb200, 2, none⟩ = some (.slice A0_2 l0_2.length c0_2) := (blk_cell BK200.out 2).trans rfl
                      have hfz30_0 := blk_frozen BK200.out 0
                      have hfz30_1 := blk_frozen BK200.out 1
                      have hfz30_2 := blk_frozen BK200.out 2
                      have p208 : 0 ≤ (x20_1 : Int) := of_decide_eq_true (by first | (with_reducible assumption) | assumption)
                      have q208 : x20_1 < (l0_2.length : Int) := of_decide_eq_true (by first | (with_reducible assumption) | assumption)
                      obtain ⟨ad208, e208, hx208_0⟩ := Kd.at_int HR0_2.out x20_1 p208 q208
                      cases e208
                      replace hx208_0 := (HB.out.cell (World.block_lt_of_cell? w _ hx208_0)).trans hx208_0
                      replace p208 := eq_true p208
                      replace q208 := eq_true q208
                      go_wp2_with (first | ((with_reducible refine gate_callee (f := 132) rfl ?_); refine goesL_ (some 32) rfl rfl Try.func132 (by kernel_rfl) rfl #[.slice A1 l1.length c1, .int .i64 (rd l0_2 x20_1)] rfl (by (try simp only [List.map_toArray, List.map_cons, List.map_nil]); first | done | rfl | (simp only [List.length_drop, List.length_take]; rfl)) ?_; (with_reducible refine (slices_Contains_int64_int64.calls k1 _ _ l1 (rd l0_2 x20_1) true _ ?side1 ?side2 A23.out).mono ?_); (case side1 => repeat (first | exact (Kd.C_below HR1.out HB.out) | (with_reducible refine Kd.C_alloc ?_ _) | (with_reducible refine Kd.C_drewN ?_ _) | (with_reducible refine Kd.C_drew ?_))); (case side2 => exact HC1.out); rintro e w' ⟨rfl, ⟨nd, rfl⟩⟩; refine ⟨_, rfl, ?_⟩; (try (rw [drewN_self wr]; generalize hq_ : World.drewN wr _ = wr; have n0_ : Aside0 (Kd.R (Kd.int .i64) 2 wr w.heap.size (fun k_ => some k_ ≠ (u207002 : Value).ownBlock) (.slice Ao13 t203.length co13) t203) := ⟨by rw [← hq_]; exact (by (with_reducible repeat (first | apply Kd.R_alloc | apply Kd.R_drewN | apply Kd.R_drew)); exact HO_207000.out)⟩; have n1_ : Aside0 (Kd.S (Kd.slice 2 (Kd.int .i64)) 60 wr w.heap.size (fun k_ => some k_ ≠ (.slice Ao13 t203.length co13 : Value).ownBlock ∧ some k_ ≠ (u207002 : Value).ownBlock) u207001 x207001_1) := ⟨by rw [← hq_]; exact (by (with_reducible repeat (first | apply Kd.S_alloc | apply Kd.S_drewN | apply Kd.S_drew)); exact HO_207001.out)⟩; have n2_ : Aside0 (Kd.R (Kd.int .i64) 2 wr w.heap.size (fun k_ => some k_ ≠ (.slice Ao13 t203.length co13 : Value).ownBlock) u207002 x207002_1) := ⟨by rw [← hq_]; exact (by (with_reducible repeat (first | apply Kd.R_alloc | apply Kd.R_drewN | apply Kd.R_drew)); exact HO_207002.out)⟩; have n3_ : Aside0 (wr.heap[gb200]? = some (.cells #[.slice A0_0 l0_0.length c0_0, .slice (some ad207) l0_1.length c0_1, .slice (some ad208) l0_2.length c0_2] 66 (0, 0))) := ⟨by rw [← hq_]; exact (by (with_reducible repeat (first | refine blk_drewN ?_ _ | refine blk_drew ?_ | refine blk_alloc ?_ _)); exact BK200.out)⟩; have n4_ : Aside0 (wr.heap[gb201]? = some (.cells #[.slice none 0 0, .slice none 0 0, .slice none 0 0] 66 (0, 0))) := ⟨by rw [← hq_]; exact (by (with_reducible repeat (first | refine blk_drewN ?_ _ | refine blk_drew ?_ | refine blk_alloc ?_ _)); exact BK201.out)⟩; have n5_ : Aside0 (wr.heap[gb206]? = some (.cells #[.slice Ao13 t203.length co13, u207001, u207002] 66 (0, 0))) := ⟨by rw [← hq_]; exact (by (with_reducible repeat (first | refine blk_drewN ?_ _ | refine blk_drew ?_ | refine blk_alloc ?_ _)); exact BK206.out)⟩; have n6_ : Aside0 (Below w.heap.size w wr) := ⟨by rw [← hq_]; exact (by repeat (first | (with_reducible first | exact HB.out | apply below_alloc | apply pw_below_drewN | apply below_drew1 | refine below_set ?_ GE200.out | refine below_set ?_ GE201.out | refine below_set ?_ GE206.out) | exact HB.out))⟩; clear HO_207000 HO_207001 HO_207002 BK200 BK201 BK206 HB hq_; have HO_207000 := n0_; have HO_207001 := n1_; have HO_207002 := n2_; have BK200 := n3_; have BK201 := n4_; have BK206 := n5_; have HB := n6_; clear n0_ n1_ n2_ n3_ n4_ n5_ n6_)); have hnb31 := NB206_201.out; have hnc31 := NB201_206.out; have hcz32_0 : wr.cell? ⟨gb206, 0, none⟩ = some (.slice Ao13 t203.length co13) := (blk_cell BK206.out 0).trans rfl; have hcz32_1 : wr.cell? ⟨gb206, 1, none⟩ = some (u207001) := (blk_cell BK206.out 1).trans rfl; have hcz32_2 : wr.cell? ⟨gb206, 2, none⟩ = some (u207002) := (blk_cell BK206.out 2).trans rfl; have hfz32_0 := blk_frozen BK206.out 0; have hfz32_1 := blk_frozen BK206.out 1; have hfz32_2 := blk_frozen BK206.out 2))
                      refine start_ (n := 15) (S := fun w' => w'.cell? ⟨gb206, 1, none⟩ = some (u207001) ∧ w'.cell? ⟨gb206, 2, none⟩ = some (u207002)) (ds := [12, 14]) #[false, false, false, false, false, false, false, false, false, false, false, false, false, false, false] (by kernel_rfl) rfl rfl ⟨(blk_cell BK206.out 1).trans rfl, (blk_cell BK206.out 2).trans rfl⟩ (fun hHeld => ?_)
                      have hb := below_drew1 (Below.refl wr.heap.size wr)
                      generalize wr.drew = w_s at hb hHeld ⊢
                      have HO_207000 := Aside0.mk (Kd.R_below HO_207000.out hb)
                      have HO_207002 := Aside0.mk (Kd.R_below HO_207002.out hb)
                      have HO_207001 := Aside0.mk (Kd.S_below HO_207001.out hb)
                      have BK200 := Aside0.mk (blk_below (g := gb200) (o := .cells #[.slice A0_0 l0_0.length c0_0, .slice (some ad207) l0_1.length c0_1, .slice (some ad208) l0_2.length c0_2] 66 (0, 0)) BK200.out hb)
                      have BK201 := Aside0.mk (blk_below (g := gb201) (o := .cells #[.slice none 0 0, .slice none 0 0, .slice none 0 0] 66 (0, 0)) BK201.out hb)
                      have BK206 := Aside0.mk (blk_below (g := gb206) (o := .cells #[.slice Ao13 t203.length co13, u207001, u207002] 66 (0, 0)) BK206.out hb)
                      have HB := Aside0.mk (below_step HB.out hb)
                      clear hb
                      refine take_ (i := 0) (N := some 34) (v := ?_) (a' := ?_) #[true, false, false, false, false, false, false, false, false, false, false, false, false, false, false] rfl rfl (by kernel_rfl) (fun _ _ _ h => h) (Or.inl ⟨by rfl, ?_⟩) hHeld ?_ ?_
                      rotate_left
                      · rintro w' ⟨s0, s1⟩
                        go_simp
                        with_reducible rfl
                      rotate_left
                      · simp only [Act.put, List.setIfInBounds_toArray, List.set_cons_zero, List.set_cons_succ, i64_w, i32_w]
                        rfl
                      refine take_ (i := 1) (N := some 35) (v := ?_) (a' := ?_) #[true, true, false, false, false, false, false, false, false, false, false, false, false, false, false] rfl rfl (by kernel_rfl) (fun _ _ _ h => h) (Or.inl ⟨by rfl, ?_⟩) hHeld ?_ ?_
                      rotate_left
                      · rintro w' ⟨s0, s1⟩
                        go_simp
                        with_reducible rfl
                      rotate_left
                      · simp only [Act.put, List.setIfInBounds_toArray, List.set_cons_zero, List.set_cons_succ, i64_w, i32_w]
                        rfl
                      refine take_ (i := 2) (N := some 36) (v := ?_) (a' := ?_) #[true, true, true, false, false, false, false, false, false, false, false, false, false, false, false] rfl rfl (by kernel_rfl) (fun _ _ _ h => h) (Or.inl ⟨by rfl, ?_⟩) hHeld ?_ ?_
                      rotate_left
                      · rintro w' ⟨s0, s1⟩
                        go_simp
                        with_reducible rfl
                      rotate_left
                      · simp only [Act.put, List.setIfInBounds_toArray, List.set_cons_zero, List.set_cons_succ, i64_w, i32_w]
                        rfl
                      refine take_ (i := 6) (N := some 40) (v := ?_) (a' := ?_) #[true, true, true, false, false, false, true, false, false, false, false, false, false, false, false] rfl rfl (by kernel_rfl) (fun _ _ _ h => h) (Or.inl ⟨by rfl, ?_⟩) hHeld ?_ ?_
                      rotate_left
                      · rintro w' ⟨s0, s1⟩
                        go_simp
                        with_reducible rfl
                      rotate_left
                      · simp only [Act.put, List.setIfInBounds_toArray, List.set_cons_zero, List.set_cons_succ, i64_w, i32_w]
                        rfl
                      refine take_ (i := 7) (N := some 41) (v := ?_) (a' := ?_) #[true, true, true, false, false, false, true, true, false, false, false, false, false, false, false] rfl rfl (by kernel_rfl) (fun _ _ _ h => h) (Or.inl ⟨by rfl, ?_⟩) hHeld ?_ ?_
                      rotate_left
                      · rintro w' ⟨s0, s1⟩
                        go_simp
                        with_reducible rfl
                      rotate_left
                      · simp only [Act.put, List.setIfInBounds_toArray, List.set_cons_zero, List.set_cons_succ, i64_w, i32_w]
                        rfl
                      refine take_ (i := 8) (N := some 42) (v := ?_) (a' := ?_) #[true, true, true, false, false, false, true, true, true, false, false, false, false, false, false] rfl rfl (by kernel_rfl) (fun _ _ _ h => h) (Or.inl ⟨by rfl, ?_⟩) hHeld ?_ ?_
                      rotate_left
                      · rintro w' ⟨s0, s1⟩
                        go_simp
                        with_reducible rfl
                      rotate_left
                      · simp only [Act.put, List.setIfInBounds_toArray, List.set_cons_zero, List.set_cons_succ, i64_w, i32_w]
                        rfl
                      refine join_ (σ := Value × Value × Value × Nat) 4 #[true, true, true, true, true, true, true, true, true, true, false, true, false, false, false] (fun s_ => [(37, s_.1), (38, s_.2.1), (39, s_.2.2.1), (43, .slice (some ⟨s_.2.2.2, 0, none⟩) 1 1), (45, .pointer (some ⟨gb206, 1, none⟩))]) (fun s_ w' => Kd.R (Kd.int .i64) 2 w' w.heap.size (fun k_ => some k_ ≠ (u207002 : Value).ownBlock) (.slice Ao13 t203.length co13) t203 ∧ Kd.S (Kd.slice 2 (Kd.int .i64)) 60 w' w.heap.size (fun k_ => some k_ ≠ (.slice Ao13 t203.length co13 : Value).ownBlock ∧ some k_ ≠ (u207002 : Value).ownBlock) s_.2.2.1 y213 ∧ Kd.R (Kd.int .i64) 2 w' w.heap.size (fun k_ => some k_ ≠ (.slice Ao13 t203.length co13 : Value).ownBlock) u207002 x207002_1 ∧ w'.heap[gb200]? = some (.cells #[.slice A0_0 l0_0.length c0_0, .slice (some ad207) l0_1.length c0_1, .slice (some ad208) l0_2.length c0_2] 66 (0, 0)) ∧ w'.heap[gb201]? = some (.cells #[.slice none 0 0, .slice none 0 0, .slice none 0 0] 66 (0, 0)) ∧ w'.heap[gb206]? = some (.cells #[.slice Ao13 t203.length co13, u207001, u207002] 66 (0, 0)) ∧ Below w.heap.size w w' ∧ w'.heap[s_.2.2.2]? = some (.cells #[.int .i64 (rd l0_2 x20_1)] 2 (0, 0)) ∧ (w'.cell? ⟨gb206, 1, none⟩ = some (u207001) ∧ w'.cell? ⟨gb206, 2, none⟩ = some (u207002))) ?_ ?_
                      rotate_left
                      · intro hJ
                        refine two_ (i := 3) (j := 9) (Ni := some 37) (Nj := some 43) #[true, true, true, true, false, false, true, true, true, false, false, false, false, false, false] #[true, true, true, false, false, false, true, true, true, true, false, false, false, false, false] rfl rfl rfl rfl (by kernel_rfl) (by decide) (by decide) (fun K hK => ?_) (fun K hK => ?_)
                        · refine goes_ Try.func131 (by kernel_rfl) rfl #[.slice A207_0 (rd_L1 l0_1 x20_1).length c207_0] (by rfl) rfl rfl (by (try simp only [List.map_toArray, List.map_cons, List.map_nil]); first | done | rfl | (simp only [List.length_drop, List.length_take]; rfl)) ?_
                          (with_reducible refine (slices_Clone_int64_int64.calls _ _ (rd_L1 l0_1 x20_1) t210 _ ?side1 ?side2 A25.out).mono ?_)
                          (case side1 => repeat (first | exact (Kd.C_below HR207_0.out HB.out) | (with_reducible refine Kd.C_alloc ?_ _) | (with_reducible refine Kd.C_drewN ?_ _) | (with_reducible refine Kd.C_drew ?_)))
                          (case side2 => exact HC207_0.out)
                          rintro e w_1 ⟨v211, rfl, ho0, hb⟩
                          refine ⟨_, rfl, ?_⟩
                          have n0_ := Aside0.mk (Kd.R_elder' (by (with_reducible repeat (first | apply Kd.R_alloc | apply Kd.R_drewN | apply Kd.R_drew)); exact HO_207000.out) (Kd.R_base ho0) hb)
                          have n1_ := Aside0.mk (Kd.S_elder' (by (with_reducible repeat (first | apply Kd.S_alloc | apply Kd.S_drewN | apply Kd.S_drew)); exact HO_207001.out) (Kd.R_base ho0) hb)
                          have n2_ := Aside0.mk (Kd.R_elder' (by (with_reducible repeat (first | apply Kd.R_alloc | apply Kd.R_drewN | apply Kd.R_drew)); exact HO_207002.out) (Kd.R_base ho0) hb)
                          have n3_ := Aside0.mk (Kd.R_lower (Kd.R_new' (Kd.R_new' ho0 (Kd.R_lt (by (with_reducible repeat (first | apply Kd.R_alloc | apply Kd.R_drewN | apply Kd.R_drew)); exact HO_207000.out))) (Kd.R_lt (by (with_reducible repeat (first | apply Kd.R_alloc | apply Kd.R_drewN | apply Kd.R_drew)); exact HO_207002.out))) (below_size (by repeat (first | (with_reducible first | exact HB.out | apply below_alloc | apply pw_below_drewN | apply below_drew1 | refine below_set ?_ GE200.out | refine below_set ?_ GE201.out | refine below_set ?_ GE206.out) | exact HB.out))))
                          have n4_ := Aside0.mk (blk_below (g := gb200) (o := .cells #[.slice A0_0 l0_0.length c0_0, .slice (some ad207) l0_1.length c0_1, .slice (some ad208) l0_2.length c0_2] 66 (0, 0)) (by (with_reducible repeat (first | refine blk_drewN ?_ _ | refine blk_drew ?_ | refine blk_alloc ?_ _)); exact BK200.out) hb)
                          have n5_ := Aside0.mk (blk_below (g := gb201) (o := .cells #[.slice none 0 0, .slice none 0 0, .slice none 0 0] 66 (0, 0)) (by (with_reducible repeat (first | refine blk_drewN ?_ _ | refine blk_drew ?_ | refine blk_alloc ?_ _)); exact BK201.out) hb)
                          have n6_ := Aside0.mk (blk_below (g := gb206) (o := .cells #[.slice Ao13 t203.length co13, u207001, u207002] 66 (0, 0)) (by (with_reducible repeat (first | refine blk_drewN ?_ _ | refine blk_drew ?_ | refine blk_alloc ?_ _)); exact BK206.out) hb)
                          have n7_ := Aside0.mk (below_step (by repeat (first | (with_reducible first | exact HB.out | apply below_alloc | apply pw_below_drewN | apply below_drew1 | refine below_set ?_ GE200.out | refine below_set ?_ GE201.out | refine below_set ?_ GE206.out) | exact HB.out)) hb)
                          clear HO_207000
                          clear HO_207001
                          clear HO_207002
                          clear BK200
                          clear BK201
                          clear BK206
                          clear HB
                          have HO_207000 := n0_
                          have HO_207001 := n1_
                          have HO_207002 := n2_
                          have HO212 := n3_
                          have BK200 := n4_
                          have BK201 := n5_
                          have BK206 := n6_
                          have HB := n7_
                          clear n0_ n1_ n2_ n3_ n4_ n5_ n6_ n7_
                          (try clear hb)
                          (try clear hb2)
                          (try clear hk)
                          (try clear hi)
                          (try clear ho0)
                          obtain ⟨Ao35, co35, eo35⟩ := Kd.R_slice HO212.out
                          subst eo35
                          refine hK.out _ _ ⟨(blk_cell BK206.out 1).trans rfl, (blk_cell BK206.out 2).trans rfl⟩ (fun hHeld => ?_)
                          clear hK K
                          refine norm_ (a' := ?_) ?_ ?_
                          rotate_left
                          · show Act.put _ (some 37) _ = _
                            simp only [Act.put, List.setIfInBounds_toArray, List.set_cons_zero, List.set_cons_succ, i64_w, i32_w]
                            rfl
                          refine two_ (i := 4) (j := 9) (Ni := some 38) (Nj := some 43) #[true, true, true, true, true, false, true, true, true, false, false, false, false, false, false] #[true, true, true, true, false, false, true, true, true, true, false, false, false, false, false] rfl rfl rfl rfl (by kernel_rfl) (by decide) (by decide) (fun K hK => ?_) (fun K hK => ?_)
                          · refine event_step (v := .slice (some ⟨w_1.heap.size, 0, none⟩) 1 1) (w1 := w_1.alloc (.cells #[.slice Ao35 t210.length co35] 60)) (by rfl) (by first | (go_simp; done) | (go_simp; rfl)) ?_
                            have hb : Below w_1.heap.size w_1 (w_1.alloc (.cells #[.slice Ao35 t210.length co35] 60)) := below_alloc (Below.refl _ _) _
                            have hn_ : (w_1.alloc (.cells #[.slice Ao35 t210.length co35] 60)).heap[w_1.heap.size]? = some (.cells #[.slice Ao35 t210.length co35] 60 (0, 0)) := by simp [World.alloc, -World.alloc_eq]
                            generalize w_1.alloc (.cells #[.slice Ao35 t210.length co35] 60) = w_2 at hb hn_ ⊢
                            have HO_207000 := Aside0.mk (Kd.R_below HO_207000.out hb)
                            have HO_207002 := Aside0.mk (Kd.R_below HO_207002.out hb)
                            have HO_207001 := Aside0.mk (Kd.S_below HO_207001.out hb)
                            have HO212 := Aside0.mk (Kd.R_below HO212.out hb)
                            have BK200 := Aside0.mk (blk_below (g := gb200) (o := .cells #[.slice A0_0 l0_0.length c0_0, .slice (some ad207) l0_1.length c0_1, .slice (some ad208) l0_2.length c0_2] 66 (0, 0)) BK200.out hb)
                            have BK201 := Aside0.mk (blk_below (g := gb201) (o := .cells #[.slice none 0 0, .slice none 0 0, .slice none 0 0] 66 (0, 0)) BK201.out hb)
                            have BK206 := Aside0.mk (blk_below (g := gb206) (o := .cells #[.slice Ao13 t203.length co13, u207001, u207002] 66 (0, 0)) BK206.out hb)
                            have HB := Aside0.mk (below_step HB.out hb)
                            obtain ⟨BAI, eBAI⟩ : ∃ q_, q_ = w_1.heap.size := ⟨_, rfl⟩
                            rw [← eBAI] at hn_ ⊢
                            have BA := Aside0.mk hn_
                            clear hb hn_
                            refine hK.out _ _ ⟨(blk_cell BK206.out 1).trans rfl, (blk_cell BK206.out 2).trans rfl⟩ (fun hHeld => ?_)
                            clear hK K
                            refine norm_ (a' := ?_) ?_ ?_
                            rotate_left
                            · show Act.put _ (some 38) _ = _
                              simp only [Act.put, List.setIfInBounds_toArray, List.set_cons_zero, List.set_cons_succ, i64_w, i32_w]
                              rfl
                            refine two_ (i := 5) (j := 9) (Ni := some 39) (Nj := some 43) #[true, true, true, true, true, true, true, true, true, false, false, false, false, false, false] #[true, true, true, true, true, false, true, true, true, true, false, false, false, false, false] rfl rfl rfl rfl (by kernel_rfl) (by decide) (by decide) (fun K hK => ?_) (fun K hK => ?_)
                            · refine S_append1_step (Kd.slice 2 (Kd.int .i64)) rfl (w0 := w) w.heap.size (by rfl) (.tmp 35) (.tmp 38) 61 60 (.slice none 0 0) 24 rfl Try.underlying61 info60 rfl (by decide) u207001 x207001_1 t210 (.slice Ao35 t210.length co35) BAI (fun k_ => some k_ ≠ (.slice Ao13 t203.length co13 : Value).ownBlock ∧ some k_ ≠ (u207002 : Value).ownBlock) (fun k_ => some k_ = (.slice Ao35 t210.length co35 : Value).ownBlock) rfl rfl ((blk_cell BA.out 0).trans rfl) ?aP (fun k_ hk_ => ((Kd.R_mono (ok' := fun k_ => ((fun k_ => some k_ ≠ (.slice Ao13 t203.length co13 : Value).ownBlock ∧ some k_ ≠ (u207002 : Value).ownBlock)) k_ ∧ some k_ ≠ (u207001 : Value).ownBlock) (Kd.R_apart' (HO212.out) (Kd.S_typed HO_207001.out) (by decide)) (fun k_ hk => ⟨⟨hk.1.1.2, hk.1.2⟩, hk.2⟩))).1 k_ hk_.symm) ?aF ?aO ?aB ?aS ?aL ?_
                              (case aP => exact Kd.M_row (Kd.R_mono (Kd.R_tight rfl (Kd.R_mono (ok' := fun k_ => ((fun k_ => some k_ ≠ (.slice Ao13 t203.length co13 : Value).ownBlock ∧ some k_ ≠ (u207002 : Value).ownBlock)) k_ ∧ some k_ ≠ (u207001 : Value).ownBlock) (Kd.R_apart' (HO212.out) (Kd.S_typed HO_207001.out) (by decide)) (fun k_ hk => ⟨⟨hk.1.1.2, hk.1.2⟩, hk.2⟩))) (fun _ h_ => h_)))
                              (case aB => exact (by repeat (first | (with_reducible first | exact HB.out | apply below_alloc | apply pw_below_drewN | apply below_drew1 | refine below_set ?_ GE200.out | refine below_set ?_ GE201.out | refine below_set ?_ GE206.out) | exact HB.out)))
                              (case aF => exact (fun k_ hk => ⟨Kd.fresh' (Kd.R_lt (by (with_reducible repeat (first | apply Kd.R_alloc | apply Kd.R_drewN | apply Kd.R_drew)); exact HO_207000.out)) k_ hk, Kd.fresh' (Kd.R_lt (by (with_reducible repeat (first | apply Kd.R_alloc | apply Kd.R_drewN | apply Kd.R_drew)); exact HO_207002.out)) k_ hk⟩))
                              (case aO => exact (by (with_reducible repeat (first | apply Kd.S_alloc | apply Kd.S_drewN | apply Kd.S_drew)); exact Kd.S_mono HO_207001.out (fun k_ hk => ⟨⟨hk.1.1, hk.1.2⟩, fun e_ => hk.2 e_⟩)))
                              (case aS => exact (below_size (by repeat (first | (with_reducible first | exact HB.out | apply below_alloc | apply pw_below_drewN | apply below_drew1 | refine below_set ?_ GE200.out | refine below_set ?_ GE201.out | refine below_set ?_ GE206.out) | exact HB.out))))
                              (case aL => have := LMc26.out; omega)
                              intro v214 w_3 ho hb hg hat
                              rw [← Ny213.out] at ho
                              have n0_ := Aside0.mk (Kd.R_over' (by (with_reducible repeat (first | apply Kd.R_alloc | apply Kd.R_drewN | apply Kd.R_drew)); exact HO_207000.out) (Kd.S_typed (by (with_reducible repeat (first | apply Kd.S_alloc | apply Kd.S_drewN | apply Kd.S_drew)); exact HO_207001.out)) (by decide) hg)
                              have n1_ := Aside0.mk (Kd.R_over' (by (with_reducible repeat (first | apply Kd.R_alloc | apply Kd.R_drewN | apply Kd.R_drew)); exact HO_207002.out) (Kd.S_typed (by (with_reducible repeat (first | apply Kd.S_alloc | apply Kd.S_drewN | apply Kd.S_drew)); exact HO_207001.out)) (by decide) hg)
                              have n2_ := Aside0.mk (blk_grown (g := gb200) (o := .cells #[.slice A0_0 l0_0.length c0_0, .slice (some ad207) l0_1.length c0_1, .slice (some ad208) l0_2.length c0_2] 66 (0, 0)) (by (with_reducible repeat (first | refine blk_drewN ?_ _ | refine blk_drew ?_ | refine blk_alloc ?_ _)); exact BK200.out) hg (Kd.S_ne HO_207001.out BK200.out (by decide)))
                              have n3_ := Aside0.mk (blk_grown (g := gb201) (o := .cells #[.slice none 0 0, .slice none 0 0, .slice none 0 0] 66 (0, 0)) (by (with_reducible repeat (first | refine blk_drewN ?_ _ | refine blk_drew ?_ | refine blk_alloc ?_ _)); exact BK201.out) hg (Kd.S_ne HO_207001.out BK201.out (by decide)))
                              have n4_ := Aside0.mk (blk_grown (g := gb206) (o := .cells #[.slice Ao13 t203.length co13, u207001, u207002] 66 (0, 0)) (by (with_reducible repeat (first | refine blk_drewN ?_ _ | refine blk_drew ?_ | refine blk_alloc ?_ _)); exact BK206.out) hg (Kd.S_ne HO_207001.out BK206.out (by decide)))
                              have n5_ := Aside0.mk (hb)
                              have n6_ := Aside0.mk (ho)
                              clear HO_207000
                              clear HO_207002
                              clear BK200
                              clear BK201
                              clear BK206
                              clear HB
                              clear HO_207001
                              clear HO212
                              have HO_207000 := n0_
                              have HO_207002 := n1_
                              have BK200 := n2_
                              have BK201 := n3_
                              have BK206 := n4_
                              have HB := n5_
                              have HO215 := n6_
                              clear n0_ n1_ n2_ n3_ n4_ n5_ n6_
                              clear ho hb hg hat
                              refine hK.out _ _ ⟨(blk_cell BK206.out 1).trans rfl, (blk_cell BK206.out 2).trans rfl⟩ (fun hHeld => ?_)
                              clear hK K
                              refine norm_ (a' := ?_) ?_ ?_
                              rotate_left
                              · show Act.put _ (some 39) _ = _
                                simp only [Act.put, List.setIfInBounds_toArray, List.set_cons_zero, List.set_cons_succ, i64_w, i32_w]
                                rfl
                              refine pure_ (i := 11) (N := some 45) (v := ?_) (a' := ?_) #[true, true, true, true, true, true, true, true, true, false, false, true, false, false, false] rfl rfl (by kernel_rfl) (fun _ _ _ h => h) (Or.inl ⟨by rfl, ?_⟩) ?_ ?_
                              rotate_left
                              · intro w'
                                go_simp
                                with_reducible rfl
                              rotate_left
                              · simp only [Act.put, List.setIfInBounds_toArray, List.set_cons_zero, List.set_cons_succ, i64_w, i32_w]
                                rfl
                              refine one_ (i := 9) (N := some 43) #[true, true, true, true, true, true, true, true, true, true, false, true, false, false, false] rfl rfl (by kernel_rfl) (by decide) (fun K hK => ?_)
                              refine event_step (v := .slice (some ⟨w_3.heap.size, 0, none⟩) 1 1) (w1 := w_3.alloc (.cells #[.int .i64 (rd l0_2 x20_1)] 2)) (by rfl) (by first | (go_simp; done) | (go_simp; rfl)) ?_
                              have hb : Below w_3.heap.size w_3 (w_3.alloc (.cells #[.int .i64 (rd l0_2 x20_1)] 2)) := below_alloc (Below.refl _ _) _
                              have hn_ : (w_3.alloc (.cells #[.int .i64 (rd l0_2 x20_1)] 2)).heap[w_3.heap.size]? = some (.cells #[.int .i64 (rd l0_2 x20_1)] 2 (0, 0)) := by simp [World.alloc, -World.alloc_eq]
                              generalize w_3.alloc (.cells #[.int .i64 (rd l0_2 x20_1)] 2) = w_4 at hb hn_ ⊢
                              have HO_207000 := Aside0.mk (Kd.R_below HO_207000.out hb)
                              have HO_207002 := Aside0.mk (Kd.R_below HO_207002.out hb)
                              have HO215 := Aside0.mk (Kd.S_below HO215.out hb)
                              have BK200 := Aside0.mk (blk_below (g := gb200) (o := .cells #[.slice A0_0 l0_0.length c0_0, .slice (some ad207) l0_1.length c0_1, .slice (some ad208) l0_2.length c0_2] 66 (0, 0)) BK200.out hb)
                              have BK201 := Aside0.mk (blk_below (g := gb201) (o := .cells #[.slice none 0 0, .slice none 0 0, .slice none 0 0] 66 (0, 0)) BK201.out hb)
                              have BK206 := Aside0.mk (blk_below (g := gb206) (o := .cells #[.slice Ao13 t203.length co13, u207001, u207002] 66 (0, 0)) BK206.out hb)
                              have HB := Aside0.mk (below_step HB.out hb)
                              obtain ⟨BBI, eBBI⟩ : ∃ q_, q_ = w_3.heap.size := ⟨_, rfl⟩
                              rw [← eBBI] at hn_ ⊢
                              have BB := Aside0.mk hn_
                              clear hb hn_
                              refine hK.out _ _ ⟨(blk_cell BK206.out 1).trans rfl, (blk_cell BK206.out 2).trans rfl⟩ (fun hHeld => ?_)
                              clear hK K
                              refine norm_ (a' := ?_) ?_ ?_
                              rotate_left
                              · show Act.put _ (some 43) _ = _
                                simp only [Act.put, List.setIfInBounds_toArray, List.set_cons_zero, List.set_cons_succ, i64_w, i32_w]
                                rfl
                              exact norm_ (by first | rfl | (simp only [putAll, Act.put, List.setIfInBounds_toArray, List.set_cons_zero, List.set_cons_succ]; done)) (hJ (.slice Ao35 t210.length co35, .slice (some ⟨BAI, 0, none⟩) 1 1, v214, BBI) _ ⟨Kd.R_mono HO_207000.out (fun _ hk => hk.1), HO215.out, Kd.R_mono HO_207002.out (fun _ hk => hk.1), BK200.out, BK201.out, BK206.out, HB.out, BB.out, ⟨(blk_cell BK206.out 1).trans rfl, (blk_cell BK206.out 2).trans rfl⟩⟩)
                            · refine event_step (v := .slice (some ⟨w_2.heap.size, 0, none⟩) 1 1) (w1 := w_2.alloc (.cells #[.int .i64 (rd l0_2 x20_1)] 2)) (by rfl) (by first | (go_simp; done) | (go_simp; rfl)) ?_
                              have hb : Below w_2.heap.size w_2 (w_2.alloc (.cells #[.int .i64 (rd l0_2 x20_1)] 2)) := below_alloc (Below.refl _ _) _
                              have hn_ : (w_2.alloc (.cells #[.int .i64 (rd l0_2 x20_1)] 2)).heap[w_2.heap.size]? = some (.cells #[.int .i64 (rd l0_2 x20_1)] 2 (0, 0)) := by simp [World.alloc, -World.alloc_eq]
                              generalize w_2.alloc (.cells #[.int .i64 (rd l0_2 x20_1)] 2) = w_5 at hb hn_ ⊢
                              have HO_207000 := Aside0.mk (Kd.R_below HO_207000.out hb)
                              have HO_207002 := Aside0.mk (Kd.R_below HO_207002.out hb)
                              have HO_207001 := Aside0.mk (Kd.S_below HO_207001.out hb)
                              have HO212 := Aside0.mk (Kd.R_below HO212.out hb)
                              have BK200 := Aside0.mk (blk_below (g := gb200) (o := .cells #[.slice A0_0 l0_0.length c0_0, .slice (some ad207) l0_1.length c0_1, .slice (some ad208) l0_2.length c0_2] 66 (0, 0)) BK200.out hb)
                              have BK201 := Aside0.mk (blk_below (g := gb201) (o := .cells #[.slice none 0 0, .slice none 0 0, .slice none 0 0] 66 (0, 0)) BK201.out hb)
                              have BK206 := Aside0.mk (blk_below (g := gb206) (o := .cells #[.slice Ao13 t203.length co13, u207001, u207002] 66 (0, 0)) BK206.out hb)
                              have HB := Aside0.mk (below_step HB.out hb)
                              have BA := Aside0.mk (blk_below BA.out hb)
                              obtain ⟨BBI, eBBI⟩ : ∃ q_, q_ = w_2.heap.size := ⟨_, rfl⟩
                              rw [← eBBI] at hn_ ⊢
                              have BB := Aside0.mk hn_
                              clear hb hn_
                              refine hK.out _ _ ⟨(blk_cell BK206.out 1).trans rfl, (blk_cell BK206.out 2).trans rfl⟩ (fun hHeld => ?_)
                              clear hK K
                              refine norm_ (a' := ?_) ?_ ?_
                              rotate_left
                              · show Act.put _ (some 43) _ = _
                                simp only [Act.put, List.setIfInBounds_toArray, List.set_cons_zero, List.set_cons_succ, i64_w, i32_w]
                                rfl
                              refine one_ (i := 5) (N := some 39) #[true, true, true, true, true, true, true, true, true, true, false, false, false, false, false] rfl rfl (by kernel_rfl) (by decide) (fun K hK => ?_)
                              refine S_append1_step (Kd.slice 2 (Kd.int .i64)) rfl (w0 := w) w.heap.size (by rfl) (.tmp 35) (.tmp 38) 61 60 (.slice none 0 0) 24 rfl Try.underlying61 info60 rfl (by decide) u207001 x207001_1 t210 (.slice Ao35 t210.length co35) BAI (fun k_ => some k_ ≠ (.slice Ao13 t203.length co13 : Value).ownBlock ∧ some k_ ≠ (u207002 : Value).ownBlock) (fun k_ => some k_ = (.slice Ao35 t210.length co35 : Value).ownBlock) rfl rfl ((blk_cell BA.out 0).trans rfl) ?aP (fun k_ hk_ => ((Kd.R_mono (ok' := fun k_ => ((fun k_ => some k_ ≠ (.slice Ao13 t203.length co13 : Value).ownBlock ∧ some k_ ≠ (u207002 : Value).ownBlock)) k_ ∧ some k_ ≠ (u207001 : Value).ownBlock) (Kd.R_apart' (HO212.out) (Kd.S_typed HO_207001.out) (by decide)) (fun k_ hk => ⟨⟨hk.1.1.2, hk.1.2⟩, hk.2⟩))).1 k_ hk_.symm) ?aF ?aO ?aB ?aS ?aL ?_
                              (case aP => exact Kd.M_row (Kd.R_mono (Kd.R_tight rfl (Kd.R_mono (ok' := fun k_ => ((fun k_ => some k_ ≠ (.slice Ao13 t203.length co13 : Value).ownBlock ∧ some k_ ≠ (u207002 : Value).ownBlock)) k_ ∧ some k_ ≠ (u207001 : Value).ownBlock) (Kd.R_apart' (HO212.out) (Kd.S_typed HO_207001.out) (by decide)) (fun k_ hk => ⟨⟨hk.1.1.2, hk.1.2⟩, hk.2⟩))) (fun _ h_ => h_)))
                              (case aB => exact (by repeat (first | (with_reducible first | exact HB.out | apply below_alloc | apply pw_below_drewN | apply below_drew1 | refine below_set ?_ GE200.out | refine below_set ?_ GE201.out | refine below_set ?_ GE206.out) | exact HB.out)))
                              (case aF => exact (fun k_ hk => ⟨Kd.fresh' (Kd.R_lt (by (with_reducible repeat (first | apply Kd.R_alloc | apply Kd.R_drewN | apply Kd.R_drew)); exact HO_207000.out)) k_ hk, Kd.fresh' (Kd.R_lt (by (with_reducible repeat (first | apply Kd.R_alloc | apply Kd.R_drewN | apply Kd.R_drew)); exact HO_207002.out)) k_ hk⟩))
                              (case aO => exact (by (with_reducible repeat (first | apply Kd.S_alloc | apply Kd.S_drewN | apply Kd.S_drew)); exact Kd.S_mono HO_207001.out (fun k_ hk => ⟨⟨hk.1.1, hk.1.2⟩, fun e_ => hk.2 e_⟩)))
                              (case aS => exact (below_size (by repeat (first | (with_reducible first | exact HB.out | apply below_alloc | apply pw_below_drewN | apply below_drew1 | refine below_set ?_ GE200.out | refine below_set ?_ GE201.out | refine below_set ?_ GE206.out) | exact HB.out))))
                              (case aL => have := LMc26.out; omega)
                              intro v214 w_6 ho hb hg hat
                              rw [← Ny213.out] at ho
                              have BB := Aside0.mk (blk_grown BB.out hg (Kd.S_ne HO_207001.out BB.out (by decide)))
                              have n0_ := Aside0.mk (Kd.R_over' (by (with_reducible repeat (first | apply Kd.R_alloc | apply Kd.R_drewN | apply Kd.R_drew)); exact HO_207000.out) (Kd.S_typed (by (with_reducible repeat (first | apply Kd.S_alloc | apply Kd.S_drewN | apply Kd.S_drew)); exact HO_207001.out)) (by decide) hg)
                              have n1_ := Aside0.mk (Kd.R_over' (by (with_reducible repeat (first | apply Kd.R_alloc | apply Kd.R_drewN | apply Kd.R_drew)); exact HO_207002.out) (Kd.S_typed (by (with_reducible repeat (first | apply Kd.S_alloc | apply Kd.S_drewN | apply Kd.S_drew)); exact HO_207001.out)) (by decide) hg)
                              have n2_ := Aside0.mk (blk_grown (g := gb200) (o := .cells #[.slice A0_0 l0_0.length c0_0, .slice (some ad207) l0_1.length c0_1, .slice (some ad208) l0_2.length c0_2] 66 (0, 0)) (by (with_reducible repeat (first | refine blk_drewN ?_ _ | refine blk_drew ?_ | refine blk_alloc ?_ _)); exact BK200.out) hg (Kd.S_ne HO_207001.out BK200.out (by decide)))
                              have n3_ := Aside0.mk (blk_grown (g := gb201) (o := .cells #[.slice none 0 0, .slice none 0 0, .slice none 0 0] 66 (0, 0)) (by (with_reducible repeat (first | refine blk_drewN ?_ _ | refine blk_drew ?_ | refine blk_alloc ?_ _)); exact BK201.out) hg (Kd.S_ne HO_207001.out BK201.out (by decide)))
                              have n4_ := Aside0.mk (blk_grown (g := gb206) (o := .cells #[.slice Ao13 t203.length co13, u207001, u207002] 66 (0, 0)) (by (with_reducible repeat (first | refine blk_drewN ?_ _ | refine blk_drew ?_ | refine blk_alloc ?_ _)); exact BK206.out) hg (Kd.S_ne HO_207001.out BK206.out (by decide)))
                              have n5_ := Aside0.mk (hb)
                              have n6_ := Aside0.mk (ho)
                              clear HO_207000
                              clear HO_207002
                              clear BK200
                              clear BK201
                              clear BK206
                              clear HB
                              clear HO_207001
                              clear HO212
                              have HO_207000 := n0_
                              have HO_207002 := n1_
                              have BK200 := n2_
                              have BK201 := n3_
                              have BK206 := n4_
                              have HB := n5_
                              have HO215 := n6_
                              clear n0_ n1_ n2_ n3_ n4_ n5_ n6_
                              clear ho hb hg hat
                              refine hK.out _ _ ⟨(blk_cell BK206.out 1).trans rfl, (blk_cell BK206.out 2).trans rfl⟩ (fun hHeld => ?_)
                              clear hK K
                              refine norm_ (a' := ?_) ?_ ?_
                              rotate_left
                              · show Act.put _ (some 39) _ = _
                                simp only [Act.put, List.setIfInBounds_toArray, List.set_cons_zero, List.set_cons_succ, i64_w, i32_w]
                                rfl
                              refine pure_ (i := 11) (N := some 45) (v := ?_) (a' := ?_) #[true, true, true, true, true, true, true, true, true, true, false, true, false, false, false] rfl rfl (by kernel_rfl) (fun _ _ _ h => h) (Or.inl ⟨by rfl, ?_⟩) ?_ ?_
                              rotate_left
                              · intro w'
                                go_simp
                                with_reducible rfl
                              rotate_left
                              · simp only [Act.put, List.setIfInBounds_toArray, List.set_cons_zero, List.set_cons_succ, i64_w, i32_w]
                                rfl
                              exact norm_ (by first | rfl | (simp only [putAll, Act.put, List.setIfInBounds_toArray, List.set_cons_zero, List.set_cons_succ]; done)) (hJ (.slice Ao35 t210.length co35, .slice (some ⟨BAI, 0, none⟩) 1 1, v214, BBI) _ ⟨Kd.R_mono HO_207000.out (fun _ hk => hk.1), HO215.out, Kd.R_mono HO_207002.out (fun _ hk => hk.1), BK200.out, BK201.out, BK206.out, HB.out, BB.out, ⟨(blk_cell BK206.out 1).trans rfl, (blk_cell BK206.out 2).trans rfl⟩⟩)
                          · refine event_step (v := .slice (some ⟨w_1.heap.size, 0, none⟩) 1 1) (w1 := w_1.alloc (.cells #[.int .i64 (rd l0_2 x20_1)] 2)) (by rfl) (by first | (go_simp; done) | (go_simp; rfl)) ?_
                            have hb : Below w_1.heap.size w_1 (w_1.alloc (.cells #[.int .i64 (rd l0_2 x20_1)] 2)) := below_alloc (Below.refl _ _) _
                            have hn_ : (w_1.alloc (.cells #[.int .i64 (rd l0_2 x20_1)] 2)).heap[w_1.heap.size]? = some (.cells #[.int .i64 (rd l0_2 x20_1)] 2 (0, 0)) := by simp [World.alloc, -World.alloc_eq]
                            generalize w_1.alloc (.cells #[.int .i64 (rd l0_2 x20_1)] 2) = w_7 at hb hn_ ⊢
                            have HO_207000 := Aside0.mk (Kd.R_below HO_207000.out hb)
                            have HO_207002 := Aside0.mk (Kd.R_below HO_207002.out hb)
                            have HO_207001 := Aside0.mk (Kd.S_below HO_207001.out hb)
                            have HO212 := Aside0.mk (Kd.R_below HO212.out hb)
                            have BK200 := Aside0.mk (blk_below (g := gb200) (o := .cells #[.slice A0_0 l0_0.length c0_0, .slice (some ad207) l0_1.length c0_1, .slice (some ad208) l0_2.length c0_2] 66 (0, 0)) BK200.out hb)
                            have BK201 := Aside0.mk (blk_below (g := gb201) (o := .cells #[.slice none 0 0, .slice none 0 0, .slice none 0 0] 66 (0, 0)) BK201.out hb)
                            have BK206 := Aside0.mk (blk_below (g := gb206) (o := .cells #[.slice Ao13 t203.length co13, u207001, u207002] 66 (0, 0)) BK206.out hb)
                            have HB := Aside0.mk (below_step HB.out hb)
                            obtain ⟨BBI, eBBI⟩ : ∃ q_, q_ = w_1.heap.size := ⟨_, rfl⟩
                            rw [← eBBI] at hn_ ⊢
                            have BB := Aside0.mk hn_
                            clear hb hn_
                            refine hK.out _ _ ⟨(blk_cell BK206.out 1).trans rfl, (blk_cell BK206.out 2).trans rfl⟩ (fun hHeld => ?_)
                            clear hK K
                            refine norm_ (a' := ?_) ?_ ?_
                            rotate_left
                            · show Act.put _ (some 43) _ = _
                              simp only [Act.put, List.setIfInBounds_toArray, List.set_cons_zero, List.set_cons_succ, i64_w, i32_w]
                              rfl
                            refine one_ (i := 4) (N := some 38) #[true, true, true, true, true, false, true, true, true, true, false, false, false, false, false] rfl rfl (by kernel_rfl) (by decide) (fun K hK => ?_)
                            refine event_step (v := .slice (some ⟨w_7.heap.size, 0, none⟩) 1 1) (w1 := w_7.alloc (.cells #[.slice Ao35 t210.length co35] 60)) (by rfl) (by first | (go_simp; done) | (go_simp; rfl)) ?_
                            have hb : Below w_7.heap.size w_7 (w_7.alloc (.cells #[.slice Ao35 t210.length co35] 60)) := below_alloc (Below.refl _ _) _
                            have hn_ : (w_7.alloc (.cells #[.slice Ao35 t210.length co35] 60)).heap[w_7.heap.size]? = some (.cells #[.slice Ao35 t210.length co35] 60 (0, 0)) := by simp [World.alloc, -World.alloc_eq]
                            generalize w_7.alloc (.cells #[.slice Ao35 t210.length co35] 60) = w_8 at hb hn_ ⊢
                            have HO_207000 := Aside0.mk (Kd.R_below HO_207000.out hb)
                            have HO_207002 := Aside0.mk (Kd.R_below HO_207002.out hb)
                            have HO_207001 := Aside0.mk (Kd.S_below HO_207001.out hb)
                            have HO212 := Aside0.mk (Kd.R_below HO212.out hb)
                            have BK200 := Aside0.mk (blk_below (g := gb200) (o := .cells #[.slice A0_0 l0_0.length c0_0, .slice (some ad207) l0_1.length c0_1, .slice (some ad208) l0_2.length c0_2] 66 (0, 0)) BK200.out hb)
                            have BK201 := Aside0.mk (blk_below (g := gb201) (o := .cells #[.slice none 0 0, .slice none 0 0, .slice none 0 0] 66 (0, 0)) BK201.out hb)
                            have BK206 := Aside0.mk (blk_below (g := gb206) (o := .cells #[.slice Ao13 t203.length co13, u207001, u207002] 66 (0, 0)) BK206.out hb)
                            have HB := Aside0.mk (below_step HB.out hb)
                            have BB := Aside0.mk (blk_below BB.out hb)
                            obtain ⟨BAI, eBAI⟩ : ∃ q_, q_ = w_7.heap.size := ⟨_, rfl⟩
                            rw [← eBAI] at hn_ ⊢
                            have BA := Aside0.mk hn_
                            clear hb hn_
                            refine hK.out _ _ ⟨(blk_cell BK206.out 1).trans rfl, (blk_cell BK206.out 2).trans rfl⟩ (fun hHeld => ?_)
                            clear hK K
                            refine norm_ (a' := ?_) ?_ ?_
                            rotate_left
                            · show Act.put _ (some 38) _ = _
                              simp only [Act.put, List.setIfInBounds_toArray, List.set_cons_zero, List.set_cons_succ, i64_w, i32_w]
                              rfl
                            refine one_ (i := 5) (N := some 39) #[true, true, true, true, true, true, true, true, true, true, false, false, false, false, false] rfl rfl (by kernel_rfl) (by decide) (fun K hK => ?_)
                            refine S_append1_step (Kd.slice 2 (Kd.int .i64)) rfl (w0 := w) w.heap.size (by rfl) (.tmp 35) (.tmp 38) 61 60 (.slice none 0 0) 24 rfl Try.underlying61 info60 rfl (by decide) u207001 x207001_1 t210 (.slice Ao35 t210.length co35) BAI (fun k_ => some k_ ≠ (.slice Ao13 t203.length co13 : Value).ownBlock ∧ some k_ ≠ (u207002 : Value).ownBlock) (fun k_ => some k_ = (.slice Ao35 t210.length co35 : Value).ownBlock) rfl rfl ((blk_cell BA.out 0).trans rfl) ?aP (fun k_ hk_ => ((Kd.R_mono (ok' := fun k_ => ((fun k_ => some k_ ≠ (.slice Ao13 t203.length co13 : Value).ownBlock ∧ some k_ ≠ (u207002 : Value).ownBlock)) k_ ∧ some k_ ≠ (u207001 : Value).ownBlock) (Kd.R_apart' (HO212.out) (Kd.S_typed HO_207001.out) (by decide)) (fun k_ hk => ⟨⟨hk.1.1.2, hk.1.2⟩, hk.2⟩))).1 k_ hk_.symm) ?aF ?aO ?aB ?aS ?aL ?_
                            (case aP => exact Kd.M_row (Kd.R_mono (Kd.R_tight rfl (Kd.R_mono (ok' := fun k_ => ((fun k_ => some k_ ≠ (.slice Ao13 t203.length co13 : Value).ownBlock ∧ some k_ ≠ (u207002 : Value).ownBlock)) k_ ∧ some k_ ≠ (u207001 : Value).ownBlock) (Kd.R_apart' (HO212.out) (Kd.S_typed HO_207001.out) (by decide)) (fun k_ hk => ⟨⟨hk.1.1.2, hk.1.2⟩, hk.2⟩))) (fun _ h_ => h_)))
                            (case aB => exact (by repeat (first | (with_reducible first | exact HB.out | apply below_alloc | apply pw_below_drewN | apply below_drew1 | refine below_set ?_ GE200.out | refine below_set ?_ GE201.out | refine below_set ?_ GE206.out) | exact HB.out)))
                            (case aF => exact (fun k_ hk => ⟨Kd.fresh' (Kd.R_lt (by (with_reducible repeat (first | apply Kd.R_alloc | apply Kd.R_drewN | apply Kd.R_drew)); exact HO_207000.out)) k_ hk, Kd.fresh' (Kd.R_lt (by (with_reducible repeat (first | apply Kd.R_alloc | apply Kd.R_drewN | apply Kd.R_drew)); exact HO_207002.out)) k_ hk⟩))
                            (case aO => exact (by (with_reducible repeat (first | apply Kd.S_alloc | apply Kd.S_drewN | apply Kd.S_drew)); exact Kd.S_mono HO_207001.out (fun k_ hk => ⟨⟨hk.1.1, hk.1.2⟩, fun e_ => hk.2 e_⟩)))
                            (case aS => exact (below_size (by repeat (first | (with_reducible first | exact HB.out | apply below_alloc | apply pw_below_drewN | apply below_drew1 | refine below_set ?_ GE200.out | refine below_set ?_ GE201.out | refine below_set ?_ GE206.out) | exact HB.out))))
                            (case aL => have := LMc26.out; omega)
                            intro v214 w_9 ho hb hg hat
                            rw [← Ny213.out] at ho
                            have BB := Aside0.mk (blk_grown BB.out hg (Kd.S_ne HO_207001.out BB.out (by decide)))
                            have n0_ := Aside0.mk (Kd.R_over' (by (with_reducible repeat (first | apply Kd.R_alloc | apply Kd.R_drewN | apply Kd.R_drew)); exact HO_207000.out) (Kd.S_typed (by (with_reducible repeat (first | apply Kd.S_alloc | apply Kd.S_drewN | apply Kd.S_drew)); exact HO_207001.out)) (by decide) hg)
                            have n1_ := Aside0.mk (Kd.R_over' (by (with_reducible repeat (first | apply Kd.R_alloc | apply Kd.R_drewN | apply Kd.R_drew)); exact HO_207002.out) (Kd.S_typed (by (with_reducible repeat (first | apply Kd.S_alloc | apply Kd.S_drewN | apply Kd.S_drew)); exact HO_207001.out)) (by decide) hg)
                            have n2_ := Aside0.mk (blk_grown (g := gb200) (o := .cells #[.slice A0_0 l0_0.length c0_0, .slice (some ad207) l0_1.length c0_1, .slice (some ad208) l0_2.length c0_2] 66 (0, 0)) (by (with_reducible repeat (first | refine blk_drewN ?_ _ | refine blk_drew ?_ | refine blk_alloc ?_ _)); exact BK200.out) hg (Kd.S_ne HO_207001.out BK200.out (by decide)))
                            have n3_ := Aside0.mk (blk_grown (g := gb201) (o := .cells #[.slice none 0 0, .slice none 0 0, .slice none 0 0] 66 (0, 0)) (by (with_reducible repeat (first | refine blk_drewN ?_ _ | refine blk_drew ?_ | refine blk_alloc ?_ _)); exact BK201.out) hg (Kd.S_ne HO_207001.out BK201.out (by decide)))
                            have n4_ := Aside0.mk (blk_grown (g := gb206) (o := .cells #[.slice Ao13 t203.length co13, u207001, u207002] 66 (0, 0)) (by (with_reducible repeat (first | refine blk_drewN ?_ _ | refine blk_drew ?_ | refine blk_alloc ?_ _)); exact BK206.out) hg (Kd.S_ne HO_207001.out BK206.out (by decide)))
                            have n5_ := Aside0.mk (hb)
                            have n6_ := Aside0.mk (ho)
                            clear HO_207000
                            clear HO_207002
                            clear BK200
                            clear BK201
                            clear BK206
                            clear HB
                            clear HO_207001
                            clear HO212
                            have HO_207000 := n0_
                            have HO_207002 := n1_
                            have BK200 := n2_
                            have BK201 := n3_
                            have BK206 := n4_
                            have HB := n5_
                            have HO215 := n6_
                            clear n0_ n1_ n2_ n3_ n4_ n5_ n6_
                            clear ho hb hg hat
                            refine hK.out _ _ ⟨(blk_cell BK206.out 1).trans rfl, (blk_cell BK206.out 2).trans rfl⟩ (fun hHeld => ?_)
                            clear hK K
                            refine norm_ (a' := ?_) ?_ ?_
                            rotate_left
                            · show Act.put _ (some 39) _ = _
                              simp only [Act.put, List.setIfInBounds_toArray, List.set_cons_zero, List.set_cons_succ, i64_w, i32_w]
                              rfl
                            refine pure_ (i := 11) (N := some 45) (v := ?_) (a' := ?_) #[true, true, true, true, true, true, true, true, true, true, false, true, false, false, false] rfl rfl (by kernel_rfl) (fun _ _ _ h => h) (Or.inl ⟨by rfl, ?_⟩) ?_ ?_
                            rotate_left
                            · intro w'
                              go_simp
                              with_reducible rfl
                            rotate_left
                            · simp only [Act.put, List.setIfInBounds_toArray, List.set_cons_zero, List.set_cons_succ, i64_w, i32_w]
                              rfl
                            exact norm_ (by first | rfl | (simp only [putAll, Act.put, List.setIfInBounds_toArray, List.set_cons_zero, List.set_cons_succ]; done)) (hJ (.slice Ao35 t210.length co35, .slice (some ⟨BAI, 0, none⟩) 1 1, v214, BBI) _ ⟨Kd.R_mono HO_207000.out (fun _ hk => hk.1), HO215.out, Kd.R_mono HO_207002.out (fun _ hk => hk.1), BK200.out, BK201.out, BK206.out, HB.out, BB.out, ⟨(blk_cell BK206.out 1).trans rfl, (blk_cell BK206.out 2).trans rfl⟩⟩)
                        · refine event_step (v := .slice (some ⟨w_s.heap.size, 0, none⟩) 1 1) (w1 := w_s.alloc (.cells #[.int .i64 (rd l0_2 x20_1)] 2)) (by rfl) (by first | (go_simp; done) | (go_simp; rfl)) ?_
                          have hb : Below w_s.heap.size w_s (w_s.alloc (.cells #[.int .i64 (rd l0_2 x20_1)] 2)) := below_alloc (Below.refl _ _) _
                          have hn_ : (w_s.alloc (.cells #[.int .i64 (rd l0_2 x20_1)] 2)).heap[w_s.heap.size]? = some (.cells #[.int .i64 (rd l0_2 x20_1)] 2 (0, 0)) := by simp [World.alloc, -World.alloc_eq]
                          generalize w_s.alloc (.cells #[.int .i64 (rd l0_2 x20_1)] 2) = w_10 at hb hn_ ⊢
                          have HO_207000 := Aside0.mk (Kd.R_below HO_207000.out hb)
                          have HO_207002 := Aside0.mk (Kd.R_below HO_207002.out hb)
                          have HO_207001 := Aside0.mk (Kd.S_below HO_207001.out hb)
                          have BK200 := Aside0.mk (blk_below (g := gb200) (o := .cells #[.slice A0_0 l0_0.length c0_0, .slice (some ad207) l0_1.length c0_1, .slice (some ad208) l0_2.length c0_2] 66 (0, 0)) BK200.out hb)
                          have BK201 := Aside0.mk (blk_below (g := gb201) (o := .cells #[.slice none 0 0, .slice none 0 0, .slice none 0 0] 66 (0, 0)) BK201.out hb)
                          have BK206 := Aside0.mk (blk_below (g := gb206) (o := .cells #[.slice Ao13 t203.length co13, u207001, u207002] 66 (0, 0)) BK206.out hb)
                          have HB := Aside0.mk (below_step HB.out hb)
                          obtain ⟨BBI, eBBI⟩ : ∃ q_, q_ = w_s.heap.size := ⟨_, rfl⟩
                          rw [← eBBI] at hn_ ⊢
                          have BB := Aside0.mk hn_
                          clear hb hn_
                          refine hK.out _ _ ⟨(blk_cell BK206.out 1).trans rfl, (blk_cell BK206.out 2).trans rfl⟩ (fun hHeld => ?_)
                          clear hK K
                          refine norm_ (a' := ?_) ?_ ?_
                          rotate_left
                          · show Act.put _ (some 43) _ = _
                            simp only [Act.put, List.setIfInBounds_toArray, List.set_cons_zero, List.set_cons_succ, i64_w, i32_w]
                            rfl
                          refine one_ (i := 3) (N := some 37) #[true, true, true, true, false, false, true, true, true, true, false, false, false, false, false] rfl rfl (by kernel_rfl) (by decide) (fun K hK => ?_)
                          refine goes_ Try.func131 (by kernel_rfl) rfl #[.slice A207_0 (rd_L1 l0_1 x20_1).length c207_0] (by rfl) rfl rfl (by (try simp only [List.map_toArray, List.map_cons, List.map_nil]); first | done | rfl | (simp only [List.length_drop, List.length_take]; rfl)) ?_
                          (with_reducible refine (slices_Clone_int64_int64.calls _ _ (rd_L1 l0_1 x20_1) t210 _ ?side1 ?side2 A25.out).mono ?_)
                          (case side1 => repeat (first | exact (Kd.C_below HR207_0.out HB.out) | (with_reducible refine Kd.C_alloc ?_ _) | (with_reducible refine Kd.C_drewN ?_ _) | (with_reducible refine Kd.C_drew ?_)))
                          (case side2 => exact HC207_0.out)
                          rintro e w_11 ⟨v211, rfl, ho0, hb⟩
                          refine ⟨_, rfl, ?_⟩
                          have BB := Aside0.mk (blk_below BB.out hb)
                          have n0_ := Aside0.mk (Kd.R_elder' (by (with_reducible repeat (first | apply Kd.R_alloc | apply Kd.R_drewN | apply Kd.R_drew)); exact HO_207000.out) (Kd.R_base ho0) hb)
                          have n1_ := Aside0.mk (Kd.S_elder' (by (with_reducible repeat (first | apply Kd.S_alloc | apply Kd.S_drewN | apply Kd.S_drew)); exact HO_207001.out) (Kd.R_base ho0) hb)
                          have n2_ := Aside0.mk (Kd.R_elder' (by (with_reducible repeat (first | apply Kd.R_alloc | apply Kd.R_drewN | apply Kd.R_drew)); exact HO_207002.out) (Kd.R_base ho0) hb)
                          have n3_ := Aside0.mk (Kd.R_lower (Kd.R_new' (Kd.R_new' ho0 (Kd.R_lt (by (with_reducible repeat (first | apply Kd.R_alloc | apply Kd.R_drewN | apply Kd.R_drew)); exact HO_207000.out))) (Kd.R_lt (by (with_reducible repeat (first | apply Kd.R_alloc | apply Kd.R_drewN | apply Kd.R_drew)); exact HO_207002.out))) (below_size (by repeat (first | (with_reducible first | exact HB.out | apply below_alloc | apply pw_below_drewN | apply below_drew1 | refine below_set ?_ GE200.out | refine below_set ?_ GE201.out | refine below_set ?_ GE206.out) | exact HB.out))))
                          have n4_ := Aside0.mk (blk_below (g := gb200) (o := .cells #[.slice A0_0 l0_0.length c0_0, .slice (some ad207) l0_1.length c0_1, .slice (some ad208) l0_2.length c0_2] 66 (0, 0)) (by (with_reducible repeat (first | refine blk_drewN ?_ _ | refine blk_drew ?_ | refine blk_alloc ?_ _)); exact BK200.out) hb)
                          have n5_ := Aside0.mk (blk_below (g := gb201) (o := .cells #[.slice none 0 0, .slice none 0 0, .slice none 0 0] 66 (0, 0)) (by (with_reducible repeat (first | refine blk_drewN ?_ _ | refine blk_drew ?_ | refine blk_alloc ?_ _)); exact BK201.out) hb)
                          have n6_ := Aside0.mk (blk_below (g := gb206) (o := .cells #[.slice Ao13 t203.length co13, u207001, u207002] 66 (0, 0)) (by (with_reducible repeat (first | refine blk_drewN ?_ _ | refine blk_drew ?_ | refine blk_alloc ?_ _)); exact BK206.out) hb)
                          have n7_ := Aside0.mk (below_step (by repeat (first | (with_reducible first | exact HB.out | apply below_alloc | apply pw_below_drewN | apply below_drew1 | refine below_set ?_ GE200.out | refine below_set ?_ GE201.out | refine below_set ?_ GE206.out) | exact HB.out)) hb)
                          clear HO_207000
                          clear HO_207001
                          clear HO_207002
                          clear BK200
                          clear BK201
                          clear BK206
                          clear HB
                          have HO_207000 := n0_
                          have HO_207001 := n1_
                          have HO_207002 := n2_
                          have HO212 := n3_
                          have BK200 := n4_
                          have BK201 := n5_
                          have BK206 := n6_
                          have HB := n7_
                          clear n0_ n1_ n2_ n3_ n4_ n5_ n6_ n7_
                          (try clear hb)
                          (try clear hb2)
                          (try clear hk)
                          (try clear hi)
                          (try clear ho0)
                          obtain ⟨Ao35, co35, eo35⟩ := Kd.R_slice HO212.out
                          subst eo35
                          refine hK.out _ _ ⟨(blk_cell BK206.out 1).trans rfl, (blk_cell BK206.out 2).trans rfl⟩ (fun hHeld => ?_)
                          clear hK K
                          refine norm_ (a' := ?_) ?_ ?_
                          rotate_left
                          · show Act.put _ (some 37) _ = _
                            simp only [Act.put, List.setIfInBounds_toArray, List.set_cons_zero, List.set_cons_succ, i64_w, i32_w]
                            rfl
                          refine one_ (i := 4) (N := some 38) #[true, true, true, true, true, false, true, true, true, true, false, false, false, false, false] rfl rfl (by kernel_rfl) (by decide) (fun K hK => ?_)
                          refine event_step (v := .slice (some ⟨w_11.heap.size, 0, none⟩) 1 1) (w1 := w_11.alloc (.cells #[.slice Ao35 t210.length co35] 60)) (by rfl) (by first | (go_simp; done) | (go_simp; rfl)) ?_
                          have hb : Below w_11.heap.size w_11 (w_11.alloc (.cells #[.slice Ao35 t210.length co35] 60)) := below_alloc (Below.refl _ _) _
                          have hn_ : (w_11.alloc (.cells #[.slice Ao35 t210.length co35] 60)).heap[w_11.heap.size]? = some (.cells #[.slice Ao35 t210.length co35] 60 (0, 0)) := by simp [World.alloc, -World.alloc_eq]
                          generalize w_11.alloc (.cells #[.slice Ao35 t210.length co35] 60) = w_12 at hb hn_ ⊢
                          have HO_207000 := Aside0.mk (Kd.R_below HO_207000.out hb)
                          have HO_207002 := Aside0.mk (Kd.R_below HO_207002.out hb)
                          have HO_207001 := Aside0.mk (Kd.S_below HO_207001.out hb)
                          have HO212 := Aside0.mk (Kd.R_below HO212.out hb)
                          have BK200 := Aside0.mk (blk_below (g := gb200) (o := .cells #[.slice A0_0 l0_0.length c0_0, .slice (some ad207) l0_1.length c0_1, .slice (some ad208) l0_2.length c0_2] 66 (0, 0)) BK200.out hb)
                          have BK201 := Aside0.mk (blk_below (g := gb201) (o := .cells #[.slice none 0 0, .slice none 0 0, .slice none 0 0] 66 (0, 0)) BK201.out hb)
                          have BK206 := Aside0.mk (blk_below (g := gb206) (o := .cells #[.slice Ao13 t203.length co13, u207001, u207002] 66 (0, 0)) BK206.out hb)
                          have HB := Aside0.mk (below_step HB.out hb)
                          have BB := Aside0.mk (blk_below BB.out hb)
                          obtain ⟨BAI, eBAI⟩ : ∃ q_, q_ = w_11.heap.size := ⟨_, rfl⟩
                          rw [← eBAI] at hn_ ⊢
                          have BA := Aside0.mk hn_
                          clear hb hn_
                          refine hK.out _ _ ⟨(blk_cell BK206.out 1).trans rfl, (blk_cell BK206.out 2).trans rfl⟩ (fun hHeld => ?_)
                          clear hK K
                          refine norm_ (a' := ?_) ?_ ?_
                          rotate_left
                          · show Act.put _ (some 38) _ = _
                            simp only [Act.put, List.setIfInBounds_toArray, List.set_cons_zero, List.set_cons_succ, i64_w, i32_w]
                            rfl
                          refine one_ (i := 5) (N := some 39) #[true, true, true, true, true, true, true, true, true, true, false, false, false, false, false] rfl rfl (by kernel_rfl) (by decide) (fun K hK => ?_)
                          refine S_append1_step (Kd.slice 2 (Kd.int .i64)) rfl (w0 := w) w.heap.size (by rfl) (.tmp 35) (.tmp 38) 61 60 (.slice none 0 0) 24 rfl Try.underlying61 info60 rfl (by decide) u207001 x207001_1 t210 (.slice Ao35 t210.length co35) BAI (fun k_ => some k_ ≠ (.slice Ao13 t203.length co13 : Value).ownBlock ∧ some k_ ≠ (u207002 : Value).ownBlock) (fun k_ => some k_ = (.slice Ao35 t210.length co35 : Value).ownBlock) rfl rfl ((blk_cell BA.out 0).trans rfl) ?aP (fun k_ hk_ => ((Kd.R_mono (ok' := fun k_ => ((fun k_ => some k_ ≠ (.slice Ao13 t203.length co13 : Value).ownBlock ∧ some k_ ≠ (u207002 : Value).ownBlock)) k_ ∧ some k_ ≠ (u207001 : Value).ownBlock) (Kd.R_apart' (HO212.out) (Kd.S_typed HO_207001.out) (by decide)) (fun k_ hk => ⟨⟨hk.1.1.2, hk.1.2⟩, hk.2⟩))).1 k_ hk_.symm) ?aF ?aO ?aB ?aS ?aL ?_
                          (case aP => exact Kd.M_row (Kd.R_mono (Kd.R_tight rfl (Kd.R_mono (ok' := fun k_ => ((fun k_ => some k_ ≠ (.slice Ao13 t203.length co13 : Value).ownBlock ∧ some k_ ≠ (u207002 : Value).ownBlock)) k_ ∧ some k_ ≠ (u207001 : Value).ownBlock) (Kd.R_apart' (HO212.out) (Kd.S_typed HO_207001.out) (by decide)) (fun k_ hk => ⟨⟨hk.1.1.2, hk.1.2⟩, hk.2⟩))) (fun _ h_ => h_)))
                          (case aB => exact (by repeat (first | (with_reducible first | exact HB.out | apply below_alloc | apply pw_below_drewN | apply below_drew1 | refine below_set ?_ GE200.out | refine below_set ?_ GE201.out | refine below_set ?_ GE206.out) | exact HB.out)))
                          (case aF => exact (fun k_ hk => ⟨Kd.fresh' (Kd.R_lt (by (with_reducible repeat (first | apply Kd.R_alloc | apply Kd.R_drewN | apply Kd.R_drew)); exact HO_207000.out)) k_ hk, Kd.fresh' (Kd.R_lt (by (with_reducible repeat (first | apply Kd.R_alloc | apply Kd.R_drewN | apply Kd.R_drew)); exact HO_207002.out)) k_ hk⟩))
                          (case aO => exact (by (with_reducible repeat (first | apply Kd.S_alloc | apply Kd.S_drewN | apply Kd.S_drew)); exact Kd.S_mono HO_207001.out (fun k_ hk => ⟨⟨hk.1.1, hk.1.2⟩, fun e_ => hk.2 e_⟩)))
                          (case aS => exact (below_size (by repeat (first | (with_reducible first | exact HB.out | apply below_alloc | apply pw_below_drewN | apply below_drew1 | refine below_set ?_ GE200.out | refine below_set ?_ GE201.out | refine below_set ?_ GE206.out) | exact HB.out))))
                          (case aL => have := LMc26.out; omega)
                          intro v214 w_13 ho hb hg hat
                          rw [← Ny213.out] at ho
                          have BB := Aside0.mk (blk_grown BB.out hg (Kd.S_ne HO_207001.out BB.out (by decide)))
                          have n0_ := Aside0.mk (Kd.R_over' (by (with_reducible repeat (first | apply Kd.R_alloc | apply Kd.R_drewN | apply Kd.R_drew)); exact HO_207000.out) (Kd.S_typed (by (with_reducible repeat (first | apply Kd.S_alloc | apply Kd.S_drewN | apply Kd.S_drew)); exact HO_207001.out)) (by decide) hg)
                          have n1_ := Aside0.mk (Kd.R_over' (by (with_reducible repeat (first | apply Kd.R_alloc | apply Kd.R_drewN | apply Kd.R_drew)); exact HO_207002.out) (Kd.S_typed (by (with_reducible repeat (first | apply Kd.S_alloc | apply Kd.S_drewN | apply Kd.S_drew)); exact HO_207001.out)) (by decide) hg)
                          have n2_ := Aside0.mk (blk_grown (g := gb200) (o := .cells #[.slice A0_0 l0_0.length c0_0, .slice (some ad207) l0_1.length c0_1, .slice (some ad208) l0_2.length c0_2] 66 (0, 0)) (by (with_reducible repeat (first | refine blk_drewN ?_ _ | refine blk_drew ?_ | refine blk_alloc ?_ _)); exact BK200.out) hg (Kd.S_ne HO_207001.out BK200.out (by decide)))
                          have n3_ := Aside0.mk (blk_grown (g := gb201) (o := .cells #[.slice none 0 0, .slice none 0 0, .slice none 0 0] 66 (0, 0)) (by (with_reducible repeat (first | refine blk_drewN ?_ _ | refine blk_drew ?_ | refine blk_alloc ?_ _)); exact BK201.out) hg (Kd.S_ne HO_207001.out BK201.out (by decide)))
                          have n4_ := Aside0.mk (blk_grown (g := gb206) (o := .cells #[.slice Ao13 t203.length co13, u207001, u207002] 66 (0, 0)) (by (with_reducible repeat (first | refine blk_drewN ?_ _ | refine blk_drew ?_ | refine blk_alloc ?_ _)); exact BK206.out) hg (Kd.S_ne HO_207001.out BK206.out (by decide)))
                          have n5_ := Aside0.mk (hb)
                          have n6_ := Aside0.mk (ho)
                          clear HO_207000
                          clear HO_207002
                          clear BK200
                          clear BK201
                          clear BK206
                          clear HB
                          clear HO_207001
                          clear HO212
                          have HO_207000 := n0_
                          have HO_207002 := n1_
                          have BK200 := n2_
                          have BK201 := n3_
                          have BK206 := n4_
                          have HB := n5_
                          have HO215 := n6_
                          clear n0_ n1_ n2_ n3_ n4_ n5_ n6_
                          clear ho hb hg hat
                          refine hK.out _ _ ⟨(blk_cell BK206.out 1).trans rfl, (blk_cell BK206.out 2).trans rfl⟩ (fun hHeld => ?_)
                          clear hK K
                          refine norm_ (a' := ?_) ?_ ?_
                          rotate_left
                          · show Act.put _ (some 39) _ = _
                            simp only [Act.put, List.setIfInBounds_toArray, List.set_cons_zero, List.set_cons_succ, i64_w, i32_w]
                            rfl
                          refine pure_ (i := 11) (N := some 45) (v := ?_) (a' := ?_) #[true, true, true, true, true, true, true, true, true, true, false, true, false, false, false] rfl rfl (by kernel_rfl) (fun _ _ _ h => h) (Or.inl ⟨by rfl, ?_⟩) ?_ ?_
                          rotate_left
                          · intro w'
                            go_simp
                            with_reducible rfl
                          rotate_left
                          · simp only [Act.put, List.setIfInBounds_toArray, List.set_cons_zero, List.set_cons_succ, i64_w, i32_w]
                            rfl
                          exact norm_ (by first | rfl | (simp only [putAll, Act.put, List.setIfInBounds_toArray, List.set_cons_zero, List.set_cons_succ]; done)) (hJ (.slice Ao35 t210.length co35, .slice (some ⟨BAI, 0, none⟩) 1 1, v214, BBI) _ ⟨Kd.R_mono HO_207000.out (fun _ hk => hk.1), HO215.out, Kd.R_mono HO_207002.out (fun _ hk => hk.1), BK200.out, BK201.out, BK206.out, HB.out, BB.out, ⟨(blk_cell BK206.out 1).trans rfl, (blk_cell BK206.out 2).trans rfl⟩⟩)
                      rintro ⟨vc_, s38_, v214, bb_⟩ w_t ⟨f0_, f1_, f2_, f3_, f4_, f5_, f6_, f7_, fs_⟩
                      have hHeld := fs_
                      have HO_207000 := Aside0.mk f0_
                      have HO215 := Aside0.mk f1_
                      have HO_207002 := Aside0.mk f2_
                      have BK200 := Aside0.mk f3_
                      have BK201 := Aside0.mk f4_
                      have BK206 := Aside0.mk f5_
                      have HB := Aside0.mk f6_
                      have BB := Aside0.mk f7_
                      clear f0_ f1_ f2_ f3_ f4_ f5_ f6_ f7_ fs_
                      obtain ⟨Ao36, co36, eo36⟩ := Kd.S_slice HO215.out
                      (try dsimp only at eo36)
                      subst eo36
                      refine norm_ (a' := ?_) ?_ ?_
                      rotate_left
                      · simp only [putAll, Act.put, List.setIfInBounds_toArray, List.set_cons_zero, List.set_cons_succ, i64_w, i32_w]
                        rfl
                      refine one_ (i := 10) (N := some 44) #[true, true, true, true, true, true, true, true, true, true, true, true, false, false, false] rfl rfl (by kernel_rfl) (by decide) (fun K hK => ?_)
                      refine Kd.R_append_rows_step (Kd.int .i64) (Rr := fun y cs => y = (rd l0_2 x20_1) ∧ cs = [.int .i64 (rd l0_2 x20_1)]) (w0 := w) w.heap.size (by rfl) (.tmp 41) (.tmp 43) 60 2 (.int .i64 0) 8 rfl Try.underlying60 info2 rfl (by decide) (by omega) u207002 x207002_1 [(rd l0_2 x20_1)] (some ⟨bb_, 0, none⟩) 1 1 (fun k_ => some k_ ≠ (.slice Ao13 t203.length co13 : Value).ownBlock) (fun _ => False) rfl rfl HO_207002.out (one_reads ((blk_cell BB.out 0).trans rfl)) (fun x cs h => by obtain ⟨rfl, rfl⟩ := h; exact rfl) (fun _ hk => hk.elim) (fun k_ hk => Kd.fresh' (Kd.R_lt HO_207000.out) k_ hk) HB.out (below_size HB.out) (by have := LMc27.out; omega) ?_
                      intro v217 w38 ho hb hg hat
                      rw [← Ny216.out] at ho
                      have n0_ := Aside0.mk (Kd.R_after (ok := (fun _ => True)) (Kd.R_mono HO_207000.out (fun _ hk => ⟨trivial, hk⟩)) hg hat)
                      have n1_ := Aside0.mk (blk_grown (g := gb200) (o := .cells #[.slice A0_0 l0_0.length c0_0, .slice (some ad207) l0_1.length c0_1, .slice (some ad208) l0_2.length c0_2] 66 (0, 0)) BK200.out hg (Kd.R_ne HO_207002.out BK200.out (by decide)))
                      have n2_ := Aside0.mk (blk_grown (g := gb201) (o := .cells #[.slice none 0 0, .slice none 0 0, .slice none 0 0] 66 (0, 0)) BK201.out hg (Kd.R_ne HO_207002.out BK201.out (by decide)))
                      have n3_ := Aside0.mk (blk_grown (g := gb206) (o := .cells #[.slice Ao13 t203.length co13, u207001, u207002] 66 (0, 0)) BK206.out hg (Kd.R_ne HO_207002.out BK206.out (by decide)))
                      have n4_ := Aside0.mk (Kd.S_after (ok := (fun k_ => some k_ ≠ (.slice Ao13 t203.length co13 : Value).ownBlock)) (Kd.S_mono HO215.out (fun _ hk => ⟨hk.1, hk.2⟩)) hg hat)
                      have n5_ := Aside0.mk hb
                      have n6_ := Aside0.mk ho
                      clear HO_207000 HO215 HO_207002 BK200 BK201 BK206 HB BB
                      have HO_207000 := n0_
                      have BK200 := n1_
                      have BK201 := n2_
                      have BK206 := n3_
                      have HO215 := n4_
                      have HB := n5_
                      have HO218 := n6_
                      clear n0_ n1_ n2_ n3_ n4_ n5_ n6_
                      clear ho hb hg hat
                      obtain ⟨Ao39, co39, eo39⟩ := Kd.R_slice HO218.out
                      subst eo39
                      refine hK.out _ _ ⟨(blk_cell BK206.out 1).trans rfl, (blk_cell BK206.out 2).trans rfl⟩ (fun hHeld => ?_)
                      clear hK K
                      refine norm_ (a' := ?_) ?_ ?_
                      rotate_left
                      · show Act.put _ (some 44) _ = _
                        simp only [Act.put, List.setIfInBounds_toArray, List.set_cons_zero, List.set_cons_succ, i64_w, i32_w]
                        rfl
                      refine last_ (i := 12) (N := none) #[true, true, true, true, true, true, true, true, true, true, true, true, true, false, false] rfl rfl (by kernel_rfl) (by decide) (fun K hK => ?_)
                      have hs_ : w38.cell? ⟨gb206, 1, none⟩ = some (u207001) := (blk_cell BK206.out 1).trans rfl
                      have hfs_ := blk_frozen BK206.out 1
                      refine skip_ (w1 := ?_) (by rfl) rfl ?_ ?_
                      rotate_left
                      · go_simp
                        rfl
                      refine hK.out _ _ ?_
                      clear hK K hs_ hfs_
                      have n0_ := Aside0.mk (Kd.R_mono (Kd.R_far (p := ⟨gb206, 1, none⟩) (Kd.R_types HO_207000.out BK206.out (by decide)) (fun _ hk => hk.2) (.slice Ao36 y213.length co36)) (fun _ hk => hk.1))
                      have n1_ := Aside0.mk (Kd.S_mono (Kd.S_far (p := ⟨gb206, 1, none⟩) (Kd.S_types HO215.out BK206.out (by decide)) (fun _ hk => hk.2) (.slice Ao36 y213.length co36)) (fun _ hk => hk.1))
                      have n2_ := Aside0.mk (Kd.R_mono (Kd.R_far (p := ⟨gb206, 1, none⟩) (Kd.R_types HO218.out BK206.out (by decide)) (fun _ hk => hk.2) (.slice Ao36 y213.length co36)) (fun _ hk => hk.1))
                      have n3_ := Aside0.mk (blk_far (p := ⟨gb206, 1, none⟩) BK200.out NB200_206.out (.slice Ao36 y213.length co36))
                      have n4_ := Aside0.mk (blk_far (p := ⟨gb206, 1, none⟩) BK201.out NB201_206.out (.slice Ao36 y213.length co36))
                      have n5_ := Aside0.mk (blk_put BK206.out 1 (.slice Ao36 y213.length co36) rfl)
                      have n6_ := Aside0.mk (below_set HB.out GE206.out (j := 1) (v := .slice Ao36 y213.length co36))
                      generalize w38.setCell ⟨gb206, 1, none⟩ (.slice Ao36 y213.length co36) = w_e at n0_ n1_ n2_ n3_ n4_ n5_ n6_ ⊢
                      clear HO_207000 HO215 HO218 BK200 BK201 BK206 HB
                      have HO_207000 := n0_
                      have HO215 := n1_
                      have HO218 := n2_
                      have BK200 := n3_
                      have BK201 := n4_
                      have BK206 : Aside0 (w_e.heap[gb206]? = some (.cells #[.slice Ao13 t203.length co13, .slice Ao36 y213.length co36, u207002] 66 (0, 0))) := ⟨n5_.out⟩
                      have HB := n6_
                      clear n0_ n1_ n2_ n3_ n4_ n5_ n6_
                      refine pure_ (i := 13) (N := some 46) (v := ?_) (a' := ?_) #[true, true, true, true, true, true, true, true, true, true, true, true, true, true, false] rfl rfl (by kernel_rfl) (fun _ _ _ h => h) (Or.inl ⟨by rfl, ?_⟩) ?_ ?_
                      rotate_left
                      · intro w'
                        go_simp
                        with_reducible rfl
                      rotate_left
                      · simp only [Act.put, List.setIfInBounds_toArray, List.set_cons_zero, List.set_cons_succ, i64_w, i32_w]
                        rfl
                      refine last_ (i := 14) (N := none) #[true, true, true, true, true, true, true, true, true, true, true, true, true, true, true] rfl rfl (by kernel_rfl) (by decide) (fun K hK => ?_)
                      have hs_ : w_e.cell? ⟨gb206, 2, none⟩ = some (u207002) := (blk_cell BK206.out 2).trans rfl
                      have hfs_ := blk_frozen BK206.out 2
                      refine skip_ (w1 := ?_) (by rfl) rfl ?_ ?_
                      rotate_left
                      · go_simp
                        rfl
                      refine hK.out _ _ ?_
                      clear hK K
                      refine done_ (by kernel_rfl) ?_
                      try go_wp2
                      go_roundg k1
                      case measure => have := HK1.out; omega
                      case rel => exact ⟨(wrap64 (x20_1 + 1)), (y213), (y216), (.slice Ao36 y213.length co36), (.slice Ao39 y216.length co39), (by first | rfl | (simp; done) | (simp [*]; done)), H', ⟨by have := HK1.out; omega⟩, ⟨by (with_reducible repeat (first | apply Kd.R_alloc | apply Kd.R_drewN | apply Kd.R_drew)); exact Kd.R_mono (Kd.R_far (p := ⟨gb206, 2, none⟩) (Kd.R_types HO_207000.out BK206.out (by decide)) (fun _ hk => hk.2) (.slice Ao39 y216.length co39)) (fun _ hk => hk.1.2)⟩, ⟨by (with_reducible repeat (first | apply Kd.S_alloc | apply Kd.S_drewN | apply Kd.S_drew)); exact Kd.S_mono (Kd.S_far (p := ⟨gb206, 2, none⟩) (Kd.S_types HO215.out BK206.out (by decide)) (fun _ hk => hk.2) (.slice Ao39 y216.length co39)) (fun _ hk => ⟨hk.1.1, hk.1.2⟩)⟩, ⟨by (with_reducible repeat (first | apply Kd.R_alloc | apply Kd.R_drewN | apply Kd.R_drew)); exact Kd.R_mono (Kd.R_far (p := ⟨gb206, 2, none⟩) (Kd.R_types HO218.out BK206.out (by decide)) (fun _ hk => hk.2) (.slice Ao39 y216.length co39)) (fun _ hk => hk.1)⟩, ⟨by (with_reducible repeat (first | refine blk_drewN ?_ _ | refine blk_drew ?_ | refine blk_alloc ?_ _)); refine blk_far ?_ NB200_206.out _; (with_reducible repeat (first | refine blk_drewN ?_ _ | refine blk_drew ?_ | refine blk_alloc ?_ _)); exact BK200.out⟩, ⟨by (with_reducible repeat (first | refine blk_drewN ?_ _ | refine blk_drew ?_ | refine blk_alloc ?_ _)); refine blk_far ?_ NB201_206.out _; (with_reducible repeat (first | refine blk_drewN ?_ _ | refine blk_drew ?_ | refine blk_alloc ?_ _)); exact BK201.out⟩, ⟨by (with_reducible repeat (first | refine blk_drewN ?_ _ | refine blk_drew ?_ | refine blk_alloc ?_ _)); refine blk_put (cs := #[.slice Ao13 t203.length co13, .slice Ao36 y213.length co36, u207002]) ?_ 2 _ rfl; (with_reducible repeat (first | refine blk_drewN ?_ _ | refine blk_drew ?_ | refine blk_alloc ?_ _)); exact BK206.out⟩, ⟨by repeat (first | (with_reducible first | exact HB.out | apply below_alloc | apply pw_below_drewN | apply below_drew1 | refine below_set ?_ GE200.out | refine below_set ?_ GE201.out | refine below_set ?_ GE206.out) | exact HB.out)⟩⟩
                    · rw [if_neg c27] at H
                      exact absurd H (by simp)
                  · rw [if_neg c26] at H
                    exact absurd H (by simp)
                · replace c24 := Bool.eq_false_iff.mpr c24
                  subst c24
                  have H1 : ((slices_Clone_int64_int64.f (rd_L1 l0_1 x20_1)).bind fun t219 => (if x207001_1.length < 5864062014805 then (if x207002_1.length < 17592186044416 then (impl_Restrict.l0 k1 l1 l0_1 (l0_1.length : Int) (wrap64 (x20_1 + 1)) l0_0 l0_1 l0_2 t203 (x207001_1 ++ [t219]) (x207002_1 ++ [(-1)])) else (none)) else (none))) = some (r1, r2, r3) := by rw [if_neg (show ¬ (false = true) by decide)] at H; exact H
                  clear H
                  have H := H1
                  clear H1
                  replace H := Option.bind_eq_some_iff.mp H
                  obtain ⟨t219, A410, H⟩ := H
                  replace H : (if x207001_1.length < 5864062014805 then (if x207002_1.length < 17592186044416 then (impl_Restrict.l0 k1 l1 l0_1 (l0_1.length : Int) (wrap64 (x20_1 + 1)) l0_0 l0_1 l0_2 t203 (x207001_1 ++ [t219]) (x207002_1 ++ [(-1)])) else (none)) else (none)) = some (r1, r2, r3) := H
                  have A41 := Aside0.mk A410
                  clear A410
                  by_cases c42 : x207001_1.length < 5864062014805
                  · rw [if_pos c42] at H
                    have LMc42 := Aside0.mk c42
                    clear c42
                    obtain ⟨y222, hy222⟩ : ∃ y_ : List (List Int), y_ = (x207001_1 ++ [t219]) := ⟨_, rfl⟩
                    replace H : (if x207002_1.length < 17592186044416 then (impl_Restrict.l0 k1 l1 l0_1 (l0_1.length : Int) (wrap64 (x20_1 + 1)) l0_0 l0_1 l0_2 t203 y222 (x207002_1 ++ [(-1)])) else (none)) = some (r1, r2, r3) := by first | (rw [hy222]; with_reducible exact H) | (have H2_ := (Option.bind_some _ _).symm.trans H; rw [hy222]; with_reducible exact H2_) | (have H2_ := (Option.bind_some _ _).symm.trans H; with_reducible exact H2_) | with_reducible exact H | (rw [hy222]; exact H) | exact H
                    have Ny222 := Aside0.mk hy222
                    clear hy222
                    by_cases c43 : x207002_1.length < 17592186044416
                    · rw [if_pos c43] at H
                      have LMc43 := Aside0.mk c43
                      clear c43
                      obtain ⟨y225, hy225⟩ : ∃ y_ : List Int, y_ = (x207002_1 ++ [(-1)]) := ⟨_, rfl⟩
                      replace H : (impl_Restrict.l0 k1 l1 l0_1 (l0_1.length : Int) (wrap64 (x20_1 + 1)) l0_0 l0_1 l0_2 t203 y222 y225) = some (r1, r2, r3) := by first | (rw [hy225]; with_reducible exact H) | (have H2_ := (Option.bind_some _ _).symm.trans H; rw [hy225]; with_reducible exact H2_) | (have H2_ := (Option.bind_some _ _).symm.trans H; with_reducible exact H2_) | with_reducible exact H | (rw [hy225]; exact H) | exact H
                      have Ny225 := Aside0.mk hy225
                      clear hy225
                      have H' := Aside0.mk H
                      clear H
                      have p207 : 0 ≤ (x20_1 : Int) := of_decide_eq_true (by first | (with_reducible assumption) | assumption)
                      have q207 : x20_1 < (l0_1.length : Int) := of_decide_eq_true (by first | (with_reducible assumption) | assumption)
                      obtain ⟨ad207, A207_0, c207_0, e207, hx207_0, hl207_0, hi207_0⟩ := at_L1 HR0_1.out x20_1 p207 q207
                      cases e207
                      replace hx207_0 := (HB.out.cell (World.block_lt_of_cell? w _ hx207_0)).trans hx207_0
                      have HR207_0 := Aside0.mk hi207_0
                      have HC207_0 := Aside0.mk hl207_0
                      clear hi207_0 hl207_0
                      replace p207 := eq_true p207
                      replace q207 := eq_true q207
                      have hnb44 := NB200_201.out
                      have hnc44 := NB201_200.out
                      have hnb45 := NB200_206.out
                      have hnc45 := NB206_200.out
                      have hcz46_0 : wr.cell? ⟨gb200, 0, none⟩ = some (.slice A0_0 l0_0.length c0_0) := (blk_cell BK200.out 0).trans rfl
                      have hcz46_1 : wr.cell? ⟨gb200, 1, none⟩ = some (.slice (some ad207) l0_1.length c0_1) := (blk_cell BK200.out 1).trans rfl
                      have hcz46_2 : wr.cell? ⟨gb200, 2, none⟩ = some (.slice A0_2 l0_2.length c0_2) := (blk_cell BK200.out 2).trans rfl
                      have hfz46_0 := blk_frozen BK200.out 0
                      have hfz46_1 := blk_frozen BK200.out 1
                      have hfz46_2 := blk_frozen BK200.out 2
                      have p208 : 0 ≤ (x20_1 : Int) := of_decide_eq_true (by first | (with_reducible assumption) | assumption)
                      have q208 : x20_1 < (l0_2.length : Int) := of_decide_eq_true (by first | (with_reducible assumption) | assumption)
                      obtain ⟨ad208, e208, hx208_0⟩ := Kd.at_int HR0_2.out x20_1 p208 q208
                      cases e208
                      replace hx208_0 := (HB.out.cell (World.block_lt_of_cell? w _ hx208_0)).trans hx208_0
                      replace p208 := eq_true p208
                      replace q208 := eq_true q208
                      go_wp2_with (first | ((with_reducible refine gate_callee (f := 132) rfl ?_); refine goesL_ (some 32) rfl rfl Try.func132 (by kernel_rfl) rfl #[.slice A1 l1.length c1, .int .i64 (rd l0_2 x20_1)] rfl (by (try simp only [List.map_toArray, List.map_cons, List.map_nil]); first | done | rfl | (simp only [List.length_drop, List.length_take]; rfl)) ?_; (with_reducible refine (slices_Contains_int64_int64.calls k1 _ _ l1 (rd l0_2 x20_1) false _ ?side1 ?side2 A23.out).mono ?_); (case side1 => repeat (first | exact (Kd.C_below HR1.out HB.out) | (with_reducible refine Kd.C_alloc ?_ _) | (with_reducible refine Kd.C_drewN ?_ _) | (with_reducible refine Kd.C_drew ?_))); (case side2 => exact HC1.out); rintro e w' ⟨rfl, ⟨nd, rfl⟩⟩; refine ⟨_, rfl, ?_⟩; (try (rw [drewN_self wr]; generalize hq_ : World.drewN wr _ = wr; have n0_ : Aside0 (Kd.R (Kd.int .i64) 2 wr w.heap.size (fun k_ => some k_ ≠ (u207002 : Value).ownBlock) (.slice Ao13 t203.length co13) t203) := ⟨by rw [← hq_]; exact (by (with_reducible repeat (first | apply Kd.R_alloc | apply Kd.R_drewN | apply Kd.R_drew)); exact HO_207000.out)⟩; have n1_ : Aside0 (Kd.S (Kd.slice 2 (Kd.int .i64)) 60 wr w.heap.size (fun k_ => some k_ ≠ (.slice Ao13 t203.length co13 : Value).ownBlock ∧ some k_ ≠ (u207002 : Value).ownBlock) u207001 x207001_1) := ⟨by rw [← hq_]; exact (by (with_reducible repeat (first | apply Kd.S_alloc | apply Kd.S_drewN | apply Kd.S_drew)); exact HO_207001.out)⟩; have n2_ : Aside0 (Kd.R (Kd.int .i64) 2 wr w.heap.size (fun k_ => some k_ ≠ (.slice Ao13 t203.length co13 : Value).ownBlock) u207002 x207002_1) := ⟨by rw [← hq_]; exact (by (with_reducible repeat (first | apply Kd.R_alloc | apply Kd.R_drewN | apply Kd.R_drew)); exact HO_207002.out)⟩; have n3_ : Aside0 (wr.heap[gb200]? = some (.cells #[.slice A0_0 l0_0.length c0_0, .slice (some ad207) l0_1.length c0_1, .slice (some ad208) l0_2.length c0_2] 66 (0, 0))) := ⟨by rw [← hq_]; exact (by (with_reducible repeat (first | refine blk_drewN ?_ _ | refine blk_drew ?_ | refine blk_alloc ?_ _)); exact BK200.out)⟩; have n4_ : Aside0 (wr.heap[gb201]? = some (.cells #[.slice none 0 0, .slice none 0 0, .slice none 0 0] 66 (0, 0))) := ⟨by rw [← hq_]; exact (by (with_reducible repeat (first | refine blk_drewN ?_ _ | refine blk_drew ?_ | refine blk_alloc ?_ _)); exact BK201.out)⟩; have n5_ : Aside0 (wr.heap[gb206]? = some (.cells #[.slice Ao13 t203.length co13, u207001, u207002] 66 (0, 0))) := ⟨by rw [← hq_]; exact (by (with_reducible repeat (first | refine blk_drewN ?_ _ | refine blk_drew ?_ | refine blk_alloc ?_ _)); exact BK206.out)⟩; have n6_ : Aside0 (Below w.heap.size w wr) := ⟨by rw [← hq_]; exact (by repeat (first | (with_reducible first | exact HB.out | apply below_alloc | apply pw_below_drewN | apply below_drew1 | refine below_set ?_ GE200.out | refine below_set ?_ GE201.out | refine below_set ?_ GE206.out) | exact HB.out))⟩; clear HO_207000 HO_207001 HO_207002 BK200 BK201 BK206 HB hq_; have HO_207000 := n0_; have HO_207001 := n1_; have HO_207002 := n2_; have BK200 := n3_; have BK201 := n4_; have BK206 := n5_; have HB := n6_; clear n0_ n1_ n2_ n3_ n4_ n5_ n6_)); have hnb47 := NB206_201.out; have hnc47 := NB201_206.out; have hcz48_0 : wr.cell? ⟨gb206, 0, none⟩ = some (.slice Ao13 t203.length co13) := (blk_cell BK206.out 0).trans rfl; have hcz48_1 : wr.cell? ⟨gb206, 1, none⟩ = some (u207001) := (blk_cell BK206.out 1).trans rfl; have hcz48_2 : wr.cell? ⟨gb206, 2, none⟩ = some (u207002) := (blk_cell BK206.out 2).trans rfl; have hfz48_0 := blk_frozen BK206.out 0; have hfz48_1 := blk_frozen BK206.out 1; have hfz48_2 := blk_frozen BK206.out 2))
                      refine start_ (n := 15) (S := fun w' => w'.cell? ⟨gb206, 1, none⟩ = some (u207001) ∧ w'.cell? ⟨gb206, 2, none⟩ = some (u207002)) (ds := [12, 14]) #[false, false, false, false, false, false, false, false, false, false, false, false, false, false, false] (by kernel_rfl) rfl rfl ⟨(blk_cell BK206.out 1).trans rfl, (blk_cell BK206.out 2).trans rfl⟩ (fun hHeld => ?_)
                      have hb := below_drew1 (Below.refl wr.heap.size wr)
                      generalize wr.drew = w_s at hb hHeld ⊢
                      have HO_207000 := Aside0.mk (Kd.R_below HO_207000.out hb)
                      have HO_207002 := Aside0.mk (Kd.R_below HO_207002.out hb)
                      have HO_207001 := Aside0.mk (Kd.S_below HO_207001.out hb)
                      have BK200 := Aside0.mk (blk_below (g := gb200) (o := .cells #[.slice A0_0 l0_0.length c0_0, .slice (some ad207) l0_1.length c0_1, .slice (some ad208) l0_2.length c0_2] 66 (0, 0)) BK200.out hb)
                      have BK201 := Aside0.mk (blk_below (g := gb201) (o := .cells #[.slice none 0 0, .slice none 0 0, .slice none 0 0] 66 (0, 0)) BK201.out hb)
                      have BK206 := Aside0.mk (blk_below (g := gb206) (o := .cells #[.slice Ao13 t203.length co13, u207001, u207002] 66 (0, 0)) BK206.out hb)
                      have HB := Aside0.mk (below_step HB.out hb)
                      clear hb
                      refine take_ (i := 0) (N := some 34) (v := ?_) (a' := ?_) #[true, false, false, false, false, false, false, false, false, false, false, false, false, false, false] rfl rfl (by kernel_rfl) (fun _ _ _ h => h) (Or.inl ⟨by rfl, ?_⟩) hHeld ?_ ?_
                      rotate_left
                      · rintro w' ⟨s0, s1⟩
                        go_simp
                        with_reducible rfl
                      rotate_left
                      · simp only [Act.put, List.setIfInBounds_toArray, List.set_cons_zero, List.set_cons_succ, i64_w, i32_w]
                        rfl
                      refine take_ (i := 1) (N := some 35) (v := ?_) (a' := ?_) #[true, true, false, false, false, false, false, false, false, false, false, false, false, false, false] rfl rfl (by kernel_rfl) (fun _ _ _ h => h) (Or.inl ⟨by rfl, ?_⟩) hHeld ?_ ?_
                      rotate_left
                      · rintro w' ⟨s0, s1⟩
                        go_simp
                        with_reducible rfl
                      rotate_left
                      · simp only [Act.put, List.setIfInBounds_toArray, List.set_cons_zero, List.set_cons_succ, i64_w, i32_w]
                        rfl
                      refine take_ (i := 2) (N := some 36) (v := ?_) (a' := ?_) #[true, true, true, false, false, false, false, false, false, false, false, false, false, false, false] rfl rfl (by kernel_rfl) (fun _ _ _ h => h) (Or.inl ⟨by rfl, ?_⟩) hHeld ?_ ?_
                      rotate_left
                      · rintro w' ⟨s0, s1⟩
                        go_simp
                        with_reducible rfl
                      rotate_left
                      · simp only [Act.put, List.setIfInBounds_toArray, List.set_cons_zero, List.set_cons_succ, i64_w, i32_w]
                        rfl
                      refine take_ (i := 6) (N := some 40) (v := ?_) (a' := ?_) #[true, true, true, false, false, false, true, false, false, false, false, false, false, false, false] rfl rfl (by kernel_rfl) (fun _ _ _ h => h) (Or.inl ⟨by rfl, ?_⟩) hHeld ?_ ?_
                      rotate_left
                      · rintro w' ⟨s0, s1⟩
                        go_simp
                        with_reducible rfl
                      rotate_left
                      · simp only [Act.put, List.setIfInBounds_toArray, List.set_cons_zero, List.set_cons_succ, i64_w, i32_w]
                        rfl
                      refine take_ (i := 7) (N := some 41) (v := ?_) (a' := ?_) #[true, true, true, false, false, false, true, true, false, false, false, false, false, false, false] rfl rfl (by kernel_rfl) (fun _ _ _ h => h) (Or.inl ⟨by rfl, ?_⟩) hHeld ?_ ?_
                      rotate_left
                      · rintro w' ⟨s0, s1⟩
                        go_simp
                        with_reducible rfl
                      rotate_left
                      · simp only [Act.put, List.setIfInBounds_toArray, List.set_cons_zero, List.set_cons_succ, i64_w, i32_w]
                        rfl
                      refine take_ (i := 8) (N := some 42) (v := ?_) (a' := ?_) #[true, true, true, false, false, false, true, true, true, false, false, false, false, false, false] rfl rfl (by kernel_rfl) (fun _ _ _ h => h) (Or.inl ⟨by rfl, ?_⟩) hHeld ?_ ?_
                      rotate_left
                      · rintro w' ⟨s0, s1⟩
                        go_simp
                        with_reducible rfl
                      rotate_left
                      · simp only [Act.put, List.setIfInBounds_toArray, List.set_cons_zero, List.set_cons_succ, i64_w, i32_w]
                        rfl
                      refine join_ (σ := Value × Value × Value × Nat) 4 #[true, true, true, true, true, true, true, true, true, true, false, true, false, false, false] (fun s_ => [(37, s_.1), (38, s_.2.1), (39, s_.2.2.1), (43, .slice (some ⟨s_.2.2.2, 0, none⟩) 1 1), (45, .pointer (some ⟨gb206, 1, none⟩))]) (fun s_ w' => Kd.R (Kd.int .i64) 2 w' w.heap.size (fun k_ => some k_ ≠ (u207002 : Value).ownBlock) (.slice Ao13 t203.length co13) t203 ∧ Kd.S (Kd.slice 2 (Kd.int .i64)) 60 w' w.heap.size (fun k_ => some k_ ≠ (.slice Ao13 t203.length co13 : Value).ownBlock ∧ some k_ ≠ (u207002 : Value).ownBlock) s_.2.2.1 y222 ∧ Kd.R (Kd.int .i64) 2 w' w.heap.size (fun k_ => some k_ ≠ (.slice Ao13 t203.length co13 : Value).ownBlock) u207002 x207002_1 ∧ w'.heap[gb200]? = some (.cells #[.slice A0_0 l0_0.length c0_0, .slice (some ad207) l0_1.length c0_1, .slice (some ad208) l0_2.length c0_2] 66 (0, 0)) ∧ w'.heap[gb201]? = some (.cells #[.slice none 0 0, .slice none 0 0, .slice none 0 0] 66 (0, 0)) ∧ w'.heap[gb206]? = some (.cells #[.slice Ao13 t203.length co13, u207001, u207002] 66 (0, 0)) ∧ Below w.heap.size w w' ∧ w'.heap[s_.2.2.2]? = some (.cells #[.int .i64 (-1)] 2 (0, 0)) ∧ (w'.cell? ⟨gb206, 1, none⟩ = some (u207001) ∧ w'.cell? ⟨gb206, 2, none⟩ = some (u207002))) ?_ ?_
                      rotate_left
                      · intro hJ
                        refine two_ (i := 3) (j := 9) (Ni := some 37) (Nj := some 43) #[true, true, true, true, false, false, true, true, true, false, false, false, false, false, false] #[true, true, true, false, false, false, true, true, true, true, false, false, false, false, false] rfl rfl rfl rfl (by kernel_rfl) (by decide) (by decide) (fun K hK => ?_) (fun K hK => ?_)
                        · refine goes_ Try.func131 (by kernel_rfl) rfl #[.slice A207_0 (rd_L1 l0_1 x20_1).length c207_0] (by rfl) rfl rfl (by (try simp only [List.map_toArray, List.map_cons, List.map_nil]); first | done | rfl | (simp only [List.length_drop, List.length_take]; rfl)) ?_
                          (with_reducible refine (slices_Clone_int64_int64.calls _ _ (rd_L1 l0_1 x20_1) t219 _ ?side1 ?side2 A41.out).mono ?_)
                          (case side1 => repeat (first | exact (Kd.C_below HR207_0.out HB.out) | (with_reducible refine Kd.C_alloc ?_ _) | (with_reducible refine Kd.C_drewN ?_ _) | (with_reducible refine Kd.C_drew ?_)))
                          (case side2 => exact HC207_0.out)
                          rintro e w_1 ⟨v220, rfl, ho0, hb⟩
                          refine ⟨_, rfl, ?_⟩
                          have n0_ := Aside0.mk (Kd.R_elder' (by (with_reducible repeat (first | apply Kd.R_alloc | apply Kd.R_drewN | apply Kd.R_drew)); exact HO_207000.out) (Kd.R_base ho0) hb)
                          have n1_ := Aside0.mk (Kd.S_elder' (by (with_reducible repeat (first | apply Kd.S_alloc | apply Kd.S_drewN | apply Kd.S_drew)); exact HO_207001.out) (Kd.R_base ho0) hb)
                          have n2_ := Aside0.mk (Kd.R_elder' (by (with_reducible repeat (first | apply Kd.R_alloc | apply Kd.R_drewN | apply Kd.R_drew)); exact HO_207002.out) (Kd.R_base ho0) hb)
                          have n3_ := Aside0.mk (Kd.R_lower (Kd.R_new' (Kd.R_new' ho0 (Kd.R_lt (by (with_reducible repeat (first | apply Kd.R_alloc | apply Kd.R_drewN | apply Kd.R_drew)); exact HO_207000.out))) (Kd.R_lt (by (with_reducible repeat (first | apply Kd.R_alloc | apply Kd.R_drewN | apply Kd.R_drew)); exact HO_207002.out))) (below_size (by repeat (first | (with_reducible first | exact HB.out | apply below_alloc | apply pw_below_drewN | apply below_drew1 | refine below_set ?_ GE200.out | refine below_set ?_ GE201.out | refine below_set ?_ GE206.out) | exact HB.out))))
                          have n4_ := Aside0.mk (blk_below (g := gb200) (o := .cells #[.slice A0_0 l0_0.length c0_0, .slice (some ad207) l0_1.length c0_1, .slice (some ad208) l0_2.length c0_2] 66 (0, 0)) (by (with_reducible repeat (first | refine blk_drewN ?_ _ | refine blk_drew ?_ | refine blk_alloc ?_ _)); exact BK200.out) hb)
                          have n5_ := Aside0.mk (blk_below (g := gb201) (o := .cells #[.slice none 0 0, .slice none 0 0, .slice none 0 0] 66 (0, 0)) (by (with_reducible repeat (first | refine blk_drewN ?_ _ | refine blk_drew ?_ | refine blk_alloc ?_ _)); exact BK201.out) hb)
                          have n6_ := Aside0.mk (blk_below (g := gb206) (o := .cells #[.slice Ao13 t203.length co13, u207001, u207002] 66 (0, 0)) (by (with_reducible repeat (first | refine blk_drewN ?_ _ | refine blk_drew ?_ | refine blk_alloc ?_ _)); exact BK206.out) hb)
                          have n7_ := Aside0.mk (below_step (by repeat (first | (with_reducible first | exact HB.out | apply below_alloc | apply pw_below_drewN | apply below_drew1 | refine below_set ?_ GE200.out | refine below_set ?_ GE201.out | refine below_set ?_ GE206.out) | exact HB.out)) hb)
                          clear HO_207000
                          clear HO_207001
                          clear HO_207002
                          clear BK200
                          clear BK201
                          clear BK206
                          clear HB
                          have HO_207000 := n0_
                          have HO_207001 := n1_
                          have HO_207002 := n2_
                          have HO221 := n3_
                          have BK200 := n4_
                          have BK201 := n5_
                          have BK206 := n6_
                          have HB := n7_
                          clear n0_ n1_ n2_ n3_ n4_ n5_ n6_ n7_
                          (try clear hb)
                          (try clear hb2)
                          (try clear hk)
                          (try clear hi)
                          (try clear ho0)
                          obtain ⟨Ao51, co51, eo51⟩ := Kd.R_slice HO221.out
                          subst eo51
                          refine hK.out _ _ ⟨(blk_cell BK206.out 1).trans rfl, (blk_cell BK206.out 2).trans rfl⟩ (fun hHeld => ?_)
                          clear hK K
                          refine norm_ (a' := ?_) ?_ ?_
                          rotate_left
                          · show Act.put _ (some 37) _ = _
                            simp only [Act.put, List.setIfInBounds_toArray, List.set_cons_zero, List.set_cons_succ, i64_w, i32_w]
                            rfl
                          refine two_ (i := 4) (j := 9) (Ni := some 38) (Nj := some 43) #[true, true, true, true, true, false, true, true, true, false, false, false, false, false, false] #[true, true, true, true, false, false, true, true, true, true, false, false, false, false, false] rfl rfl rfl rfl (by kernel_rfl) (by decide) (by decide) (fun K hK => ?_) (fun K hK => ?_)
                          · refine event_step (v := .slice (some ⟨w_1.heap.size, 0, none⟩) 1 1) (w1 := w_1.alloc (.cells #[.slice Ao51 t219.length co51] 60)) (by rfl) (by first | (go_simp; done) | (go_simp; rfl)) ?_
                            have hb : Below w_1.heap.size w_1 (w_1.alloc (.cells #[.slice Ao51 t219.length co51] 60)) := below_alloc (Below.refl _ _) _
                            have hn_ : (w_1.alloc (.cells #[.slice Ao51 t219.length co51] 60)).heap[w_1.heap.size]? = some (.cells #[.slice Ao51 t219.length co51] 60 (0, 0)) := by simp [World.alloc, -World.alloc_eq]
                            generalize w_1.alloc (.cells #[.slice Ao51 t219.length co51] 60) = w_2 at hb hn_ ⊢
                            have HO_207000 := Aside0.mk (Kd.R_below HO_207000.out hb)
                            have HO_207002 := Aside0.mk (Kd.R_below HO_207002.out hb)
                            have HO_207001 := Aside0.mk (Kd.S_below HO_207001.out hb)
                            have HO221 := Aside0.mk (Kd.R_below HO221.out hb)
                            have BK200 := Aside0.mk (blk_below (g := gb200) (o := .cells #[.slice A0_0 l0_0.length c0_0, .slice (some ad207) l0_1.length c0_1, .slice (some ad208) l0_2.length c0_2] 66 (0, 0)) BK200.out hb)
                            have BK201 := Aside0.mk (blk_below (g := gb201) (o := .cells #[.slice none 0 0, .slice none 0 0, .slice none 0 0] 66 (0, 0)) BK201.out hb)
                            have BK206 := Aside0.mk (blk_below (g := gb206) (o := .cells #[.slice Ao13 t203.length co13, u207001, u207002] 66 (0, 0)) BK206.out hb)
                            have HB := Aside0.mk (below_step HB.out hb)
                            obtain ⟨BAI, eBAI⟩ : ∃ q_, q_ = w_1.heap.size := ⟨_, rfl⟩
                            rw [← eBAI] at hn_ ⊢
                            have BA := Aside0.mk hn_
                            clear hb hn_
                            refine hK.out _ _ ⟨(blk_cell BK206.out 1).trans rfl, (blk_cell BK206.out 2).trans rfl⟩ (fun hHeld => ?_)
                            clear hK K
                            refine norm_ (a' := ?_) ?_ ?_
                            rotate_left
                            · show Act.put _ (some 38) _ = _
                              simp only [Act.put, List.setIfInBounds_toArray, List.set_cons_zero, List.set_cons_succ, i64_w, i32_w]
                              rfl
                            refine two_ (i := 5) (j := 9) (Ni := some 39) (Nj := some 43) #[true, true, true, true, true, true, true, true, true, false, false, false, false, false, false] #[true, true, true, true, true, false, true, true, true, true, false, false, false, false, false] rfl rfl rfl rfl (by kernel_rfl) (by decide) (by decide) (fun K hK => ?_) (fun K hK => ?_)
                            · refine S_append1_step (Kd.slice 2 (Kd.int .i64)) rfl (w0 := w) w.heap.size (by rfl) (.tmp 35) (.tmp 38) 61 60 (.slice none 0 0) 24 rfl Try.underlying61 info60 rfl (by decide) u207001 x207001_1 t219 (.slice Ao51 t219.length co51) BAI (fun k_ => some k_ ≠ (.slice Ao13 t203.length co13 : Value).ownBlock ∧ some k_ ≠ (u207002 : Value).ownBlock) (fun k_ => some k_ = (.slice Ao51 t219.length co51 : Value).ownBlock) rfl rfl ((blk_cell BA.out 0).trans rfl) ?aP (fun k_ hk_ => ((Kd.R_mono (ok' := fun k_ => ((fun k_ => some k_ ≠ (.slice Ao13 t203.length co13 : Value).ownBlock ∧ some k_ ≠ (u207002 : Value).ownBlock)) k_ ∧ some k_ ≠ (u207001 : Value).ownBlock) (Kd.R_apart' (HO221.out) (Kd.S_typed HO_207001.out) (by decide)) (fun k_ hk => ⟨⟨hk.1.1.2, hk.1.2⟩, hk.2⟩))).1 k_ hk_.symm) ?aF ?aO ?aB ?aS ?aL ?_
                              (case aP => exact Kd.M_row (Kd.R_mono (Kd.R_tight rfl (Kd.R_mono (ok' := fun k_ => ((fun k_ => some k_ ≠ (.slice Ao13 t203.length co13 : Value).ownBlock ∧ some k_ ≠ (u207002 : Value).ownBlock)) k_ ∧ some k_ ≠ (u207001 : Value).ownBlock) (Kd.R_apart' (HO221.out) (Kd.S_typed HO_207001.out) (by decide)) (fun k_ hk => ⟨⟨hk.1.1.2, hk.1.2⟩, hk.2⟩))) (fun _ h_ => h_)))
                              (case aB => exact (by repeat (first | (with_reducible first | exact HB.out | apply below_alloc | apply pw_below_drewN | apply below_drew1 | refine below_set ?_ GE200.out | refine below_set ?_ GE201.out | refine below_set ?_ GE206.out) | exact HB.out)))
                              (case aF => exact (fun k_ hk => ⟨Kd.fresh' (Kd.R_lt (by (with_reducible repeat (first | apply Kd.R_alloc | apply Kd.R_drewN | apply Kd.R_drew)); exact HO_207000.out)) k_ hk, Kd.fresh' (Kd.R_lt (by (with_reducible repeat (first | apply Kd.R_alloc | apply Kd.R_drewN | apply Kd.R_drew)); exact HO_207002.out)) k_ hk⟩))
                              (case aO => exact (by (with_reducible repeat (first | apply Kd.S_alloc | apply Kd.S_drewN | apply Kd.S_drew)); exact Kd.S_mono HO_207001.out (fun k_ hk => ⟨⟨hk.1.1, hk.1.2⟩, fun e_ => hk.2 e_⟩)))
                              (case aS => exact (below_size (by repeat (first | (with_reducible first | exact HB.out | apply below_alloc | apply pw_below_drewN | apply below_drew1 | refine below_set ?_ GE200.out | refine below_set ?_ GE201.out | refine below_set ?_ GE206.out) | exact HB.out))))
                              (case aL => have := LMc42.out; omega)
                              intro v223 w_3 ho hb hg hat
                              rw [← Ny222.out] at ho
                              have n0_ := Aside0.mk (Kd.R_over' (by (with_reducible repeat (first | apply Kd.R_alloc | apply Kd.R_drewN | apply Kd.R_drew)); exact HO_207000.out) (Kd.S_typed (by (with_reducible repeat (first | apply Kd.S_alloc | apply Kd.S_drewN | apply Kd.S_drew)); exact HO_207001.out)) (by decide) hg)
                              have n1_ := Aside0.mk (Kd.R_over' (by (with_reducible repeat (first | apply Kd.R_alloc | apply Kd.R_drewN | apply Kd.R_drew)); exact HO_207002.out) (Kd.S_typed (by (with_reducible repeat (first | apply Kd.S_alloc | apply Kd.S_drewN | apply Kd.S_drew)); exact HO_207001.out)) (by decide) hg)
                              have n2_ := Aside0.mk (blk_grown (g := gb200) (o := .cells #[.slice A0_0 l0_0.length c0_0, .slice (some ad207) l0_1.length c0_1, .slice (some ad208) l0_2.length c0_2] 66 (0, 0)) (by (with_reducible repeat (first | refine blk_drewN ?_ _ | refine blk_drew ?_ | refine blk_alloc ?_ _)); exact BK200.out) hg (Kd.S_ne HO_207001.out BK200.out (by decide)))
                              have n3_ := Aside0.mk (blk_grown (g := gb201) (o := .cells #[.slice none 0 0, .slice none 0 0, .slice none 0 0] 66 (0, 0)) (by (with_reducible repeat (first | refine blk_drewN ?_ _ | refine blk_drew ?_ | refine blk_alloc ?_ _)); exact BK201.out) hg (Kd.S_ne HO_207001.out BK201.out (by decide)))
                              have n4_ := Aside0.mk (blk_grown (g := gb206) (o := .cells #[.slice Ao13 t203.length co13, u207001, u207002] 66 (0, 0)) (by (with_reducible repeat (first | refine blk_drewN ?_ _ | refine blk_drew ?_ | refine blk_alloc ?_ _)); exact BK206.out) hg (Kd.S_ne HO_207001.out BK206.out (by decide)))
                              have n5_ := Aside0.mk (hb)
                              have n6_ := Aside0.mk (ho)
                              clear HO_207000
                              clear HO_207002
                              clear BK200
                              clear BK201
                              clear BK206
                              clear HB
                              clear HO_207001
                              clear HO221
                              have HO_207000 := n0_
                              have HO_207002 := n1_
                              have BK200 := n2_
                              have BK201 := n3_
                              have BK206 := n4_
                              have HB := n5_
                              have HO224 := n6_
                              clear n0_ n1_ n2_ n3_ n4_ n5_ n6_
                              clear ho hb hg hat
                              refine hK.out _ _ ⟨(blk_cell BK206.out 1).trans rfl, (blk_cell BK206.out 2).trans rfl⟩ (fun hHeld => ?_)
                              clear hK K
                              refine norm_ (a' := ?_) ?_ ?_
                              rotate_left
                              · show Act.put _ (some 39) _ = _
                                simp only [Act.put, List.setIfInBounds_toArray, List.set_cons_zero, List.set_cons_succ, i64_w, i32_w]
                                rfl
                              refine pure_ (i := 11) (N := some 45) (v := ?_) (a' := ?_) #[true, true, true, true, true, true, true, true, true, false, false, true, false, false, false] rfl rfl (by kernel_rfl) (fun _ _ _ h => h) (Or.inl ⟨by rfl, ?_⟩) ?_ ?_
                              rotate_left
                              · intro w'
                                go_simp
                                with_reducible rfl
                              rotate_left
                              · simp only [Act.put, List.setIfInBounds_toArray, List.set_cons_zero, List.set_cons_succ, i64_w, i32_w]
                                rfl
                              refine one_ (i := 9) (N := some 43) #[true, true, true, true, true, true, true, true, true, true, false, true, false, false, false] rfl rfl (by kernel_rfl) (by decide) (fun K hK => ?_)
                              refine event_step (v := .slice (some ⟨w_3.heap.size, 0, none⟩) 1 1) (w1 := w_3.alloc (.cells #[.int .i64 (-1)] 2)) (by rfl) (by first | (go_simp; done) | (go_simp; rfl)) ?_
                              have hb : Below w_3.heap.size w_3 (w_3.alloc (.cells #[.int .i64 (-1)] 2)) := below_alloc (Below.refl _ _) _
                              have hn_ : (w_3.alloc (.cells #[.int .i64 (-1)] 2)).heap[w_3.heap.size]? = some (.cells #[.int .i64 (-1)] 2 (0, 0)) := by simp [World.alloc, -World.alloc_eq]
                              generalize w_3.alloc (.cells #[.int .i64 (-1)] 2) = w_4 at hb hn_ ⊢
                              have HO_207000 := Aside0.mk (Kd.R_below HO_207000.out hb)
                              have HO_207002 := Aside0.mk (Kd.R_below HO_207002.out hb)
                              have HO224 := Aside0.mk (Kd.S_below HO224.out hb)
                              have BK200 := Aside0.mk (blk_below (g := gb200) (o := .cells #[.slice A0_0 l0_0.length c0_0, .slice (some ad207) l0_1.length c0_1, .slice (some ad208) l0_2.length c0_2] 66 (0, 0)) BK200.out hb)
                              have BK201 := Aside0.mk (blk_below (g := gb201) (o := .cells #[.slice none 0 0, .slice none 0 0, .slice none 0 0] 66 (0, 0)) BK201.out hb)
                              have BK206 := Aside0.mk (blk_below (g := gb206) (o := .cells #[.slice Ao13 t203.length co13, u207001, u207002] 66 (0, 0)) BK206.out hb)
                              have HB := Aside0.mk (below_step HB.out hb)
                              obtain ⟨BBI, eBBI⟩ : ∃ q_, q_ = w_3.heap.size := ⟨_, rfl⟩
                              rw [← eBBI] at hn_ ⊢
                              have BB := Aside0.mk hn_
                              clear hb hn_
                              refine hK.out _ _ ⟨(blk_cell BK206.out 1).trans rfl, (blk_cell BK206.out 2).trans rfl⟩ (fun hHeld => ?_)
                              clear hK K
                              refine norm_ (a' := ?_) ?_ ?_
                              rotate_left
                              · show Act.put _ (some 43) _ = _
                                simp only [Act.put, List.setIfInBounds_toArray, List.set_cons_zero, List.set_cons_succ, i64_w, i32_w]
                                rfl
                              exact norm_ (by first | rfl | (simp only [putAll, Act.put, List.setIfInBounds_toArray, List.set_cons_zero, List.set_cons_succ]; done)) (hJ (.slice Ao51 t219.length co51, .slice (some ⟨BAI, 0, none⟩) 1 1, v223, BBI) _ ⟨Kd.R_mono HO_207000.out (fun _ hk => hk.1), HO224.out, Kd.R_mono HO_207002.out (fun _ hk => hk.1), BK200.out, BK201.out, BK206.out, HB.out, BB.out, ⟨(blk_cell BK206.out 1).trans rfl, (blk_cell BK206.out 2).trans rfl⟩⟩)
                            · refine event_step (v := .slice (some ⟨w_2.heap.size, 0, none⟩) 1 1) (w1 := w_2.alloc (.cells #[.int .i64 (-1)] 2)) (by rfl) (by first | (go_simp; done) | (go_simp; rfl)) ?_
                              have hb : Below w_2.heap.size w_2 (w_2.alloc (.cells #[.int .i64 (-1)] 2)) := below_alloc (Below.refl _ _) _
                              have hn_ : (w_2.alloc (.cells #[.int .i64 (-1)] 2)).heap[w_2.heap.size]? = some (.cells #[.int .i64 (-1)] 2 (0, 0)) := by simp [World.alloc, -World.alloc_eq]
                              generalize w_2.alloc (.cells #[.int .i64 (-1)] 2) = w_5 at hb hn_ ⊢
                              have HO_207000 := Aside0.mk (Kd.R_below HO_207000.out hb)
                              have HO_207002 := Aside0.mk (Kd.R_below HO_207002.out hb)
                              have HO_207001 := Aside0.mk (Kd.S_below HO_207001.out hb)
                              have HO221 := Aside0.mk (Kd.R_below HO221.out hb)
                              have BK200 := Aside0.mk (blk_below (g := gb200) (o := .cells #[.slice A0_0 l0_0.length c0_0, .slice (some ad207) l0_1.length c0_1, .slice (some ad208) l0_2.length c0_2] 66 (0, 0)) BK200.out hb)
                              have BK201 := Aside0.mk (blk_below (g := gb201) (o := .cells #[.slice none 0 0, .slice none 0 0, .slice none 0 0] 66 (0, 0)) BK201.out hb)
                              have BK206 := Aside0.mk (blk_below (g := gb206) (o := .cells #[.slice Ao13 t203.length co13, u207001, u207002] 66 (0, 0)) BK206.out hb)
                              have HB := Aside0.mk (below_step HB.out hb)
                              have BA := Aside0.mk (blk_below BA.out hb)
                              obtain ⟨BBI, eBBI⟩ : ∃ q_, q_ = w_2.heap.size := ⟨_, rfl⟩
                              rw [← eBBI] at hn_ ⊢
                              have BB := Aside0.mk hn_
                              clear hb hn_
                              refine hK.out _ _ ⟨(blk_cell BK206.out 1).trans rfl, (blk_cell BK206.out 2).trans rfl⟩ (fun hHeld => ?_)
                              clear hK K
                              refine norm_ (a' := ?_) ?_ ?_
                              rotate_left
                              · show Act.put _ (some 43) _ = _
                                simp only [Act.put, List.setIfInBounds_toArray, List.set_cons_zero, List.set_cons_succ, i64_w, i32_w]
                                rfl
                              refine one_ (i := 5) (N := some 39) #[true, true, true, true, true, true, true, true, true, true, false, false, false, false, false] rfl rfl (by kernel_rfl) (by decide) (fun K hK => ?_)
                              refine S_append1_step (Kd.slice 2 (Kd.int .i64)) rfl (w0 := w) w.heap.size (by rfl) (.tmp 35) (.tmp 38) 61 60 (.slice none 0 0) 24 rfl Try.underlying61 info60 rfl (by decide) u207001 x207001_1 t219 (.slice Ao51 t219.length co51) BAI (fun k_ => some k_ ≠ (.slice Ao13 t203.length co13 : Value).ownBlock ∧ some k_ ≠ (u207002 : Value).ownBlock) (fun k_ => some k_ = (.slice Ao51 t219.length co51 : Value).ownBlock) rfl rfl ((blk_cell BA.out 0).trans rfl) ?aP (fun k_ hk_ => ((Kd.R_mono (ok' := fun k_ => ((fun k_ => some k_ ≠ (.slice Ao13 t203.length co13 : Value).ownBlock ∧ some k_ ≠ (u207002 : Value).ownBlock)) k_ ∧ some k_ ≠ (u207001 : Value).ownBlock) (Kd.R_apart' (HO221.out) (Kd.S_typed HO_207001.out) (by decide)) (fun k_ hk => ⟨⟨hk.1.1.2, hk.1.2⟩, hk.2⟩))).1 k_ hk_.symm) ?aF ?aO ?aB ?aS ?aL ?_
                              (case aP => exact Kd.M_row (Kd.R_mono (Kd.R_tight rfl (Kd.R_mono (ok' := fun k_ => ((fun k_ => some k_ ≠ (.slice Ao13 t203.length co13 : Value).ownBlock ∧ some k_ ≠ (u207002 : Value).ownBlock)) k_ ∧ some k_ ≠ (u207001 : Value).ownBlock) (Kd.R_apart' (HO221.out) (Kd.S_typed HO_207001.out) (by decide)) (fun k_ hk => ⟨⟨hk.1.1.2, hk.1.2⟩, hk.2⟩))) (fun _ h_ => h_)))
                              (case aB => exact (by repeat (first | (with_reducible first | exact HB.out | apply below_alloc | apply pw_below_drewN | apply below_drew1 | refine below_set ?_ GE200.out | refine below_set ?_ GE201.out | refine below_set ?_ GE206.out) | exact HB.out)))
                              (case aF => exact (fun k_ hk => ⟨Kd.fresh' (Kd.R_lt (by (with_reducible repeat (first | apply Kd.R_alloc | apply Kd.R_drewN | apply Kd.R_drew)); exact HO_207000.out)) k_ hk, Kd.fresh' (Kd.R_lt (by (with_reducible repeat (first | apply Kd.R_alloc | apply Kd.R_drewN | apply Kd.R_drew)); exact HO_207002.out)) k_ hk⟩))
                              (case aO => exact (by (with_reducible repeat (first | apply Kd.S_alloc | apply Kd.S_drewN | apply Kd.S_drew)); exact Kd.S_mono HO_207001.out (fun k_ hk => ⟨⟨hk.1.1, hk.1.2⟩, fun e_ => hk.2 e_⟩)))
                              (case aS => exact (below_size (by repeat (first | (with_reducible first | exact HB.out | apply below_alloc | apply pw_below_drewN | apply below_drew1 | refine below_set ?_ GE200.out | refine below_set ?_ GE201.out | refine below_set ?_ GE206.out) | exact HB.out))))
                              (case aL => have := LMc42.out; omega)
                              intro v223 w_6 ho hb hg hat
                              rw [← Ny222.out] at ho
                              have BB := Aside0.mk (blk_grown BB.out hg (Kd.S_ne HO_207001.out BB.out (by decide)))
                              have n0_ := Aside0.mk (Kd.R_over' (by (with_reducible repeat (first | apply Kd.R_alloc | apply Kd.R_drewN | apply Kd.R_drew)); exact HO_207000.out) (Kd.S_typed (by (with_reducible repeat (first | apply Kd.S_alloc | apply Kd.S_drewN | apply Kd.S_drew)); exact HO_207001.out)) (by decide) hg)
                              have n1_ := Aside0.mk (Kd.R_over' (by (with_reducible repeat (first | apply Kd.R_alloc | apply Kd.R_drewN | apply Kd.R_drew)); exact HO_207002.out) (Kd.S_typed (by (with_reducible repeat (first | apply Kd.S_alloc | apply Kd.S_drewN | apply Kd.S_drew)); exact HO_207001.out)) (by decide) hg)
                              have n2_ := Aside0.mk (blk_grown (g := gb200) (o := .cells #[.slice A0_0 l0_0.length c0_0, .slice (some ad207) l0_1.length c0_1, .slice (some ad208) l0_2.length c0_2] 66 (0, 0)) (by (with_reducible repeat (first | refine blk_drewN ?_ _ | refine blk_drew ?_ | refine blk_alloc ?_ _)); exact BK200.out) hg (Kd.S_ne HO_207001.out BK200.out (by decide)))
                              have n3_ := Aside0.mk (blk_grown (g := gb201) (o := .cells #[.slice none 0 0, .slice none 0 0, .slice none 0 0] 66 (0, 0)) (by (with_reducible repeat (first | refine blk_drewN ?_ _ | refine blk_drew ?_ | refine blk_alloc ?_ _)); exact BK201.out) hg (Kd.S_ne HO_207001.out BK201.out (by decide)))
                              have n4_ := Aside0.mk (blk_grown (g := gb206) (o := .cells #[.slice Ao13 t203.length co13, u207001, u207002] 66 (0, 0)) (by (with_reducible repeat (first | refine blk_drewN ?_ _ | refine blk_drew ?_ | refine blk_alloc ?_ _)); exact BK206.out) hg (Kd.S_ne HO_207001.out BK206.out (by decide)))
                              have n5_ := Aside0.mk (hb)
                              have n6_ := Aside0.mk (ho)
                              clear HO_207000
                              clear HO_207002
                              clear BK200
                              clear BK201
                              clear BK206
                              clear HB
                              clear HO_207001
                              clear HO221
                              have HO_207000 := n0_
                              have HO_207002 := n1_
                              have BK200 := n2_
                              have BK201 := n3_
                              have BK206 := n4_
                              have HB := n5_
                              have HO224 := n6_
                              clear n0_ n1_ n2_ n3_ n4_ n5_ n6_
                              clear ho hb hg hat
                              refine hK.out _ _ ⟨(blk_cell BK206.out 1).trans rfl, (blk_cell BK206.out 2).trans rfl⟩ (fun hHeld => ?_)
                              clear hK K
                              refine norm_ (a' := ?_) ?_ ?_
                              rotate_left
                              · show Act.put _ (some 39) _ = _
                                simp only [Act.put, List.setIfInBounds_toArray, List.set_cons_zero, List.set_cons_succ, i64_w, i32_w]
                                rfl
                              refine pure_ (i := 11) (N := some 45) (v := ?_) (a' := ?_) #[true, true, true, true, true, true, true, true, true, true, false, true, false, false, false] rfl rfl (by kernel_rfl) (fun _ _ _ h => h) (Or.inl ⟨by rfl, ?_⟩) ?_ ?_
                              rotate_left
                              · intro w'
                                go_simp
                                with_reducible rfl
                              rotate_left
                              · simp only [Act.put, List.setIfInBounds_toArray, List.set_cons_zero, List.set_cons_succ, i64_w, i32_w]
                                rfl
                              exact norm_ (by first | rfl | (simp only [putAll, Act.put, List.setIfInBounds_toArray, List.set_cons_zero, List.set_cons_succ]; done)) (hJ (.slice Ao51 t219.length co51, .slice (some ⟨BAI, 0, none⟩) 1 1, v223, BBI) _ ⟨Kd.R_mono HO_207000.out (fun _ hk => hk.1), HO224.out, Kd.R_mono HO_207002.out (fun _ hk => hk.1), BK200.out, BK201.out, BK206.out, HB.out, BB.out, ⟨(blk_cell BK206.out 1).trans rfl, (blk_cell BK206.out 2).trans rfl⟩⟩)
                          · refine event_step (v := .slice (some ⟨w_1.heap.size, 0, none⟩) 1 1) (w1 := w_1.alloc (.cells #[.int .i64 (-1)] 2)) (by rfl) (by first | (go_simp; done) | (go_simp; rfl)) ?_
                            have hb : Below w_1.heap.size w_1 (w_1.alloc (.cells #[.int .i64 (-1)] 2)) := below_alloc (Below.refl _ _) _
                            have hn_ : (w_1.alloc (.cells #[.int .i64 (-1)] 2)).heap[w_1.heap.size]? = some (.cells #[.int .i64 (-1)] 2 (0, 0)) := by simp [World.alloc, -World.alloc_eq]
                            generalize w_1.alloc (.cells #[.int .i64 (-1)] 2) = w_7 at hb hn_ ⊢
                            have HO_207000 := Aside0.mk (Kd.R_below HO_207000.out hb)
                            have HO_207002 := Aside0.mk (Kd.R_below HO_207002.out hb)
                            have HO_207001 := Aside0.mk (Kd.S_below HO_207001.out hb)
                            have HO221 := Aside0.mk (Kd.R_below HO221.out hb)
                            have BK200 := Aside0.mk (blk_below (g := gb200) (o := .cells #[.slice A0_0 l0_0.length c0_0, .slice (some ad207) l0_1.length c0_1, .slice (some ad208) l0_2.length c0_2] 66 (0, 0)) BK200.out hb)
                            have BK201 := Aside0.mk (blk_below (g := gb201) (o := .cells #[.slice none 0 0, .slice none 0 0, .slice none 0 0] 66 (0, 0)) BK201.out hb)
                            have BK206 := Aside0.mk (blk_below (g := gb206) (o := .cells #[.slice Ao13 t203.length co13, u207001, u207002] 66 (0, 0)) BK206.out hb)
                            have HB := Aside0.mk (below_step HB.out hb)
                            obtain ⟨BBI, eBBI⟩ : ∃ q_, q_ = w_1.heap.size := ⟨_, rfl⟩
                            rw [← eBBI] at hn_ ⊢
                            have BB := Aside0.mk hn_
                            clear hb hn_
                            refine hK.out _ _ ⟨(blk_cell BK206.out 1).trans rfl, (blk_cell BK206.out 2).trans rfl⟩ (fun hHeld => ?_)
                            clear hK K
                            refine norm_ (a' := ?_) ?_ ?_
                            rotate_left
                            · show Act.put _ (some 43) _ = _
                              simp only [Act.put, List.setIfInBounds_toArray, List.set_cons_zero, List.set_cons_succ, i64_w, i32_w]
                              rfl
                            refine one_ (i := 4) (N := some 38) #[true, true, true, true, true, false, true, true, true, true, false, false, false, false, false] rfl rfl (by kernel_rfl) (by decide) (fun K hK => ?_)
                            refine event_step (v := .slice (some ⟨w_7.heap.size, 0, none⟩) 1 1) (w1 := w_7.alloc (.cells #[.slice Ao51 t219.length co51] 60)) (by rfl) (by first | (go_simp; done) | (go_simp; rfl)) ?_
                            have hb : Below w_7.heap.size w_7 (w_7.alloc (.cells #[.slice Ao51 t219.length co51] 60)) := below_alloc (Below.refl _ _) _
                            have hn_ : (w_7.alloc (.cells #[.slice Ao51 t219.length co51] 60)).heap[w_7.heap.size]? = some (.cells #[.slice Ao51 t219.length co51] 60 (0, 0)) := by simp [World.alloc, -World.alloc_eq]
                            generalize w_7.alloc (.cells #[.slice Ao51 t219.length co51] 60) = w_8 at hb hn_ ⊢
                            have HO_207000 := Aside0.mk (Kd.R_below HO_207000.out hb)
                            have HO_207002 := Aside0.mk (Kd.R_below HO_207002.out hb)
                            have HO_207001 := Aside0.mk (Kd.S_below HO_207001.out hb)
                            have HO221 := Aside0.mk (Kd.R_below HO221.out hb)
                            have BK200 := Aside0.mk (blk_below (g := gb200) (o := .cells #[.slice A0_0 l0_0.length c0_0, .slice (some ad207) l0_1.length c0_1, .slice (some ad208) l0_2.length c0_2] 66 (0, 0)) BK200.out hb)
                            have BK201 := Aside0.mk (blk_below (g := gb201) (o := .cells #[.slice none 0 0, .slice none 0 0, .slice none 0 0] 66 (0, 0)) BK201.out hb)
                            have BK206 := Aside0.mk (blk_below (g := gb206) (o := .cells #[.slice Ao13 t203.length co13, u207001, u207002] 66 (0, 0)) BK206.out hb)
                            have HB := Aside0.mk (below_step HB.out hb)
                            have BB := Aside0.mk (blk_below BB.out hb)
                            obtain ⟨BAI, eBAI⟩ : ∃ q_, q_ = w_7.heap.size := ⟨_, rfl⟩
                            rw [← eBAI] at hn_ ⊢
                            have BA := Aside0.mk hn_
                            clear hb hn_
                            refine hK.out _ _ ⟨(blk_cell BK206.out 1).trans rfl, (blk_cell BK206.out 2).trans rfl⟩ (fun hHeld => ?_)
                            clear hK K
                            refine norm_ (a' := ?_) ?_ ?_
                            rotate_left
                            · show Act.put _ (some 38) _ = _
                              simp only [Act.put, List.setIfInBounds_toArray, List.set_cons_zero, List.set_cons_succ, i64_w, i32_w]
                              rfl
                            refine one_ (i := 5) (N := some 39) #[true, true, true, true, true, true, true, true, true, true, false, false, false, false, false] rfl rfl (by kernel_rfl) (by decide) (fun K hK => ?_)
                            refine S_append1_step (Kd.slice 2 (Kd.int .i64)) rfl (w0 := w) w.heap.size (by rfl) (.tmp 35) (.tmp 38) 61 60 (.slice none 0 0) 24 rfl Try.underlying61 info60 rfl (by decide) u207001 x207001_1 t219 (.slice Ao51 t219.length co51) BAI (fun k_ => some k_ ≠ (.slice Ao13 t203.length co13 : Value).ownBlock ∧ some k_ ≠ (u207002 : Value).ownBlock) (fun k_ => some k_ = (.slice Ao51 t219.length co51 : Value).ownBlock) rfl rfl ((blk_cell BA.out 0).trans rfl) ?aP (fun k_ hk_ => ((Kd.R_mono (ok' := fun k_ => ((fun k_ => some k_ ≠ (.slice Ao13 t203.length co13 : Value).ownBlock ∧ some k_ ≠ (u207002 : Value).ownBlock)) k_ ∧ some k_ ≠ (u207001 : Value).ownBlock) (Kd.R_apart' (HO221.out) (Kd.S_typed HO_207001.out) (by decide)) (fun k_ hk => ⟨⟨hk.1.1.2, hk.1.2⟩, hk.2⟩))).1 k_ hk_.symm) ?aF ?aO ?aB ?aS ?aL ?_
                            (case aP => exact Kd.M_row (Kd.R_mono (Kd.R_tight rfl (Kd.R_mono (ok' := fun k_ => ((fun k_ => some k_ ≠ (.slice Ao13 t203.length co13 : Value).ownBlock ∧ some k_ ≠ (u207002 : Value).ownBlock)) k_ ∧ some k_ ≠ (u207001 : Value).ownBlock) (Kd.R_apart' (HO221.out) (Kd.S_typed HO_207001.out) (by decide)) (fun k_ hk => ⟨⟨hk.1.1.2, hk.1.2⟩, hk.2⟩))) (fun _ h_ => h_)))
                            (case aB => exact (by repeat (first | (with_reducible first | exact HB.out | apply below_alloc | apply pw_below_drewN | apply below_drew1 | refine below_set ?_ GE200.out | refine below_set ?_ GE201.out | refine below_set ?_ GE206.out) | exact HB.out)))
                            (case aF => exact (fun k_ hk => ⟨Kd.fresh' (Kd.R_lt (by (with_reducible repeat (first | apply Kd.R_alloc | apply Kd.R_drewN | apply Kd.R_drew)); exact HO_207000.out)) k_ hk, Kd.fresh' (Kd.R_lt (by (with_reducible repeat (first | apply Kd.R_alloc | apply Kd.R_drewN | apply Kd.R_drew)); exact HO_207002.out)) k_ hk⟩))
                            (case aO => exact (by (with_reducible repeat (first | apply Kd.S_alloc | apply Kd.S_drewN | apply Kd.S_drew)); exact Kd.S_mono HO_207001.out (fun k_ hk => ⟨⟨hk.1.1, hk.1.2⟩, fun e_ => hk.2 e_⟩)))
                            (case aS => exact (below_size (by repeat (first | (with_reducible first | exact HB.out | apply below_alloc | apply pw_below_drewN | apply below_drew1 | refine below_set ?_ GE200.out | refine below_set ?_ GE201.out | refine below_set ?_ GE206.out) | exact HB.out))))
                            (case aL => have := LMc42.out; omega)
                            intro v223 w_9 ho hb hg hat
                            rw [← Ny222.out] at ho
                            have BB := Aside0.mk (blk_grown BB.out hg (Kd.S_ne HO_207001.out BB.out (by decide)))
                            have n0_ := Aside0.mk (Kd.R_over' (by (with_reducible repeat (first | apply Kd.R_alloc | apply Kd.R_drewN | apply Kd.R_drew)); exact HO_207000.out) (Kd.S_typed (by (with_reducible repeat (first | apply Kd.S_alloc | apply Kd.S_drewN | apply Kd.S_drew)); exact HO_207001.out)) (by decide) hg)
                            have n1_ := Aside0.mk (Kd.R_over' (by (with_reducible repeat (first | apply Kd.R_alloc | apply Kd.R_drewN | apply Kd.R_drew)); exact HO_207002.out) (Kd.S_typed (by (with_reducible repeat (first | apply Kd.S_alloc | apply Kd.S_drewN | apply Kd.S_drew)); exact HO_207001.out)) (by decide) hg)
                            have n2_ := Aside0.mk (blk_grown (g := gb200) (o := .cells #[.slice A0_0 l0_0.length c0_0, .slice (some ad207) l0_1.length c0_1, .slice (some ad208) l0_2.length c0_2] 66 (0, 0)) (by (with_reducible repeat (first | refine blk_drewN ?_ _ | refine blk_drew ?_ | refine blk_alloc ?_ _)); exact BK200.out) hg (Kd.S_ne HO_207001.out BK200.out (by decide)))
                            have n3_ := Aside0.mk (blk_grown (g := gb201) (o := .cells #[.slice none 0 0, .slice none 0 0, .slice none 0 0] 66 (0, 0)) (by (with_reducible repeat (first | refine blk_drewN ?_ _ | refine blk_drew ?_ | refine blk_alloc ?_ _)); exact BK201.out) hg (Kd.S_ne HO_207001.out BK201.out (by decide)))
                            have n4_ := Aside0.mk (blk_grown (g := gb206) (o := .cells #[.slice Ao13 t203.length co13, u207001, u207002] 66 (0, 0)) (by (with_reducible repeat (first | refine blk_drewN ?_ _ | refine blk_drew ?_ | refine blk_alloc ?_ _)); exact BK206.out) hg (Kd.S_ne HO_207001.out BK206.out (by decide)))
                            have n5_ := Aside0.mk (hb)
                            have n6_ := Aside0.mk (ho)
                            clear HO_207000
                            clear HO_207002
                            clear BK200
                            clear BK201
                            clear BK206
                            clear HB
                            clear HO_207001
                            clear HO221
                            have HO_207000 := n0_
                            have HO_207002 := n1_
                            have BK200 := n2_
                            have BK201 := n3_
                            have BK206 := n4_
                            have HB := n5_
                            have HO224 := n6_
                            clear n0_ n1_ n2_ n3_ n4_ n5_ n6_
                            clear ho hb hg hat
                            refine hK.out _ _ ⟨(blk_cell BK206.out 1).trans rfl, (blk_cell BK206.out 2).trans rfl⟩ (fun hHeld => ?_)
                            clear hK K
                            refine norm_ (a' := ?_) ?_ ?_
                            rotate_left
                            · show Act.put _ (some 39) _ = _
                              simp only [Act.put, List.setIfInBounds_toArray, List.set_cons_zero, List.set_cons_succ, i64_w, i32_w]
                              rfl
                            refine pure_ (i := 11) (N := some 45) (v := ?_) (a' := ?_) #[true, true, true, true, true, true, true, true, true, true, false, true, false, false, false] rfl rfl (by kernel_rfl) (fun _ _ _ h => h) (Or.inl ⟨by rfl, ?_⟩) ?_ ?_
                            rotate_left
                            · intro w'
                              go_simp
                              with_reducible rfl
                            rotate_left
                            · simp only [Act.put, List.setIfInBounds_toArray, List.set_cons_zero, List.set_cons_succ, i64_w, i32_w]
                              rfl
                            exact norm_ (by first | rfl | (simp only [putAll, Act.put, List.setIfInBounds_toArray, List.set_cons_zero, List.set_cons_succ]; done)) (hJ (.slice Ao51 t219.length co51, .slice (some ⟨BAI, 0, none⟩) 1 1, v223, BBI) _ ⟨Kd.R_mono HO_207000.out (fun _ hk => hk.1), HO224.out, Kd.R_mono HO_207002.out (fun _ hk => hk.1), BK200.out, BK201.out, BK206.out, HB.out, BB.out, ⟨(blk_cell BK206.out 1).trans rfl, (blk_cell BK206.out 2).trans rfl⟩⟩)
                        · refine event_step (v := .slice (some ⟨w_s.heap.size, 0, none⟩) 1 1) (w1 := w_s.alloc (.cells #[.int .i64 (-1)] 2)) (by rfl) (by first | (go_simp; done) | (go_simp; rfl)) ?_
                          have hb : Below w_s.heap.size w_s (w_s.alloc (.cells #[.int .i64 (-1)] 2)) := below_alloc (Below.refl _ _) _
                          have hn_ : (w_s.alloc (.cells #[.int .i64 (-1)] 2)).heap[w_s.heap.size]? = some (.cells #[.int .i64 (-1)] 2 (0, 0)) := by simp [World.alloc, -World.alloc_eq]
                          generalize w_s.alloc (.cells #[.int .i64 (-1)] 2) = w_10 at hb hn_ ⊢
                          have HO_207000 := Aside0.mk (Kd.R_below HO_207000.out hb)
                          have HO_207002 := Aside0.mk (Kd.R_below HO_207002.out hb)
                          have HO_207001 := Aside0.mk (Kd.S_below HO_207001.out hb)
                          have BK200 := Aside0.mk (blk_below (g := gb200) (o := .cells #[.slice A0_0 l0_0.length c0_0, .slice (some ad207) l0_1.length c0_1, .slice (some ad208) l0_2.length c0_2] 66 (0, 0)) BK200.out hb)
                          have BK201 := Aside0.mk (blk_below (g := gb201) (o := .cells #[.slice none 0 0, .slice none 0 0, .slice none 0 0] 66 (0, 0)) BK201.out hb)
                          have BK206 := Aside0.mk (blk_below (g := gb206) (o := .cells #[.slice Ao13 t203.length co13, u207001, u207002] 66 (0, 0)) BK206.out hb)
                          have HB := Aside0.mk (below_step HB.out hb)
                          obtain ⟨BBI, eBBI⟩ : ∃ q_, q_ = w_s.heap.size := ⟨_, rfl⟩
                          rw [← eBBI] at hn_ ⊢
                          have BB := Aside0.mk hn_
                          clear hb hn_
                          refine hK.out _ _ ⟨(blk_cell BK206.out 1).trans rfl, (blk_cell BK206.out 2).trans rfl⟩ (fun hHeld => ?_)
                          clear hK K
                          refine norm_ (a' := ?_) ?_ ?_
                          rotate_left
                          · show Act.put _ (some 43) _ = _
                            simp only [Act.put, List.setIfInBounds_toArray, List.set_cons_zero, List.set_cons_succ, i64_w, i32_w]
                            rfl
                          refine one_ (i := 3) (N := some 37) #[true, true, true, true, false, false, true, true, true, true, false, false, false, false, false] rfl rfl (by kernel_rfl) (by decide) (fun K hK => ?_)
                          refine goes_ Try.func131 (by kernel_rfl) rfl #[.slice A207_0 (rd_L1 l0_1 x20_1).length c207_0] (by rfl) rfl rfl (by (try simp only [List.map_toArray, List.map_cons, List.map_nil]); first | done | rfl | (simp only [List.length_drop, List.length_take]; rfl)) ?_
                          (with_reducible refine (slices_Clone_int64_int64.calls _ _ (rd_L1 l0_1 x20_1) t219 _ ?side1 ?side2 A41.out).mono ?_)
                          (case side1 => repeat (first | exact (Kd.C_below HR207_0.out HB.out) | (with_reducible refine Kd.C_alloc ?_ _) | (with_reducible refine Kd.C_drewN ?_ _) | (with_reducible refine Kd.C_drew ?_)))
                          (case side2 => exact HC207_0.out)
                          rintro e w_11 ⟨v220, rfl, ho0, hb⟩
                          refine ⟨_, rfl, ?_⟩
                          have BB := Aside0.mk (blk_below BB.out hb)
                          have n0_ := Aside0.mk (Kd.R_elder' (by (with_reducible repeat (first | apply Kd.R_alloc | apply Kd.R_drewN | apply Kd.R_drew)); exact HO_207000.out) (Kd.R_base ho0) hb)
                          have n1_ := Aside0.mk (Kd.S_elder' (by (with_reducible repeat (first | apply Kd.S_alloc | apply Kd.S_drewN | apply Kd.S_drew)); exact HO_207001.out) (Kd.R_base ho0) hb)
                          have n2_ := Aside0.mk (Kd.R_elder' (by (with_reducible repeat (first | apply Kd.R_alloc | apply Kd.R_drewN | apply Kd.R_drew)); exact HO_207002.out) (Kd.R_base ho0) hb)
                          have n3_ := Aside0.mk (Kd.R_lower (Kd.R_new' (Kd.R_new' ho0 (Kd.R_lt (by (with_reducible repeat (first | apply Kd.R_alloc | apply Kd.R_drewN | apply Kd.R_drew)); exact HO_207000.out))) (Kd.R_lt (by (with_reducible repeat (first | apply Kd.R_alloc | apply Kd.R_drewN | apply Kd.R_drew)); exact HO_207002.out))) (below_size (by repeat (first | (with_reducible first | exact HB.out | apply below_alloc | apply pw_below_drewN | apply below_drew1 | refine below_set ?_ GE200.out | refine below_set ?_ GE201.out | refine below_set ?_ GE206.out) | exact HB.out))))
                          have n4_ := Aside0.mk (blk_below (g := gb200) (o := .cells #[.slice A0_0 l0_0.length c0_0, .slice (some ad207) l0_1.length c0_1, .slice (some ad208) l0_2.length c0_2] 66 (0, 0)) (by (with_reducible repeat (first | refine blk_drewN ?_ _ | refine blk_drew ?_ | refine blk_alloc ?_ _)); exact BK200.out) hb)
                          have n5_ := Aside0.mk (blk_below (g := gb201) (o := .cells #[.slice none 0 0, .slice none 0 0, .slice none 0 0] 66 (0, 0)) (by (with_reducible repeat (first | refine blk_drewN ?_ _ | refine blk_drew ?_ | refine blk_alloc ?_ _)); exact BK201.out) hb)
                          have n6_ := Aside0.mk (blk_below (g := gb206) (o := .cells #[.slice Ao13 t203.length co13, u207001, u207002] 66 (0, 0)) (by (with_reducible repeat (first | refine blk_drewN ?_ _ | refine blk_drew ?_ | refine blk_alloc ?_ _)); exact BK206.out) hb)
                          have n7_ := Aside0.mk (below_step (by repeat (first | (with_reducible first | exact HB.out | apply below_alloc | apply pw_below_drewN | apply below_drew1 | refine below_set ?_ GE200.out | refine below_set ?_ GE201.out | refine below_set ?_ GE206.out) | exact HB.out)) hb)
                          clear HO_207000
                          clear HO_207001
                          clear HO_207002
                          clear BK200
                          clear BK201
                          clear BK206
                          clear HB
                          have HO_207000 := n0_
                          have HO_207001 := n1_
                          have HO_207002 := n2_
                          have HO221 := n3_
                          have BK200 := n4_
                          have BK201 := n5_
                          have BK206 := n6_
                          have HB := n7_
                          clear n0_ n1_ n2_ n3_ n4_ n5_ n6_ n7_
                          (try clear hb)
                          (try clear hb2)
                          (try clear hk)
                          (try clear hi)
                          (try clear ho0)
                          obtain ⟨Ao51, co51, eo51⟩ := Kd.R_slice HO221.out
                          subst eo51
                          refine hK.out _ _ ⟨(blk_cell BK206.out 1).trans rfl, (blk_cell BK206.out 2).trans rfl⟩ (fun hHeld => ?_)
                          clear hK K
                          refine norm_ (a' := ?_) ?_ ?_
                          rotate_left
                          · show Act.put _ (some 37) _ = _
                            simp only [Act.put, List.setIfInBounds_toArray, List.set_cons_zero, List.set_cons_succ, i64_w, i32_w]
                            rfl
                          refine one_ (i := 4) (N := some 38) #[true, true, true, true, true, false, true, true, true, true, false, false, false, false, false] rfl rfl (by kernel_rfl) (by decide) (fun K hK => ?_)
                          refine event_step (v := .slice (some ⟨w_11.heap.size, 0, none⟩) 1 1) (w1 := w_11.alloc (.cells #[.slice Ao51 t219.length co51] 60)) (by rfl) (by first | (go_simp; done) | (go_simp; rfl)) ?_
                          have hb : Below w_11.heap.size w_11 (w_11.alloc (.cells #[.slice Ao51 t219.length co51] 60)) := below_alloc (Below.refl _ _) _
                          have hn_ : (w_11.alloc (.cells #[.slice Ao51 t219.length co51] 60)).heap[w_11.heap.size]? = some (.cells #[.slice Ao51 t219.length co51] 60 (0, 0)) := by simp [World.alloc, -World.alloc_eq]
                          generalize w_11.alloc (.cells #[.slice Ao51 t219.length co51] 60) = w_12 at hb hn_ ⊢
                          have HO_207000 := Aside0.mk (Kd.R_below HO_207000.out hb)
                          have HO_207002 := Aside0.mk (Kd.R_below HO_207002.out hb)
                          have HO_207001 := Aside0.mk (Kd.S_below HO_207001.out hb)
                          have HO221 := Aside0.mk (Kd.R_below HO221.out hb)
                          have BK200 := Aside0.mk (blk_below (g := gb200) (o := .cells #[.slice A0_0 l0_0.length c0_0, .slice (some ad207) l0_1.length c0_1, .slice (some ad208) l0_2.length c0_2] 66 (0, 0)) BK200.out hb)
                          have BK201 := Aside0.mk (blk_below (g := gb201) (o := .cells #[.slice none 0 0, .slice none 0 0, .slice none 0 0] 66 (0, 0)) BK201.out hb)
                          have BK206 := Aside0.mk (blk_below (g := gb206) (o := .cells #[.slice Ao13 t203.length co13, u207001, u207002] 66 (0, 0)) BK206.out hb)
                          have HB := Aside0.mk (below_step HB.out hb)
                          have BB := Aside0.mk (blk_below BB.out hb)
                          obtain ⟨BAI, eBAI⟩ : ∃ q_, q_ = w_11.heap.size := ⟨_, rfl⟩
                          rw [← eBAI] at hn_ ⊢
                          have BA := Aside0.mk hn_
                          clear hb hn_
                          refine hK.out _ _ ⟨(blk_cell BK206.out 1).trans rfl, (blk_cell BK206.out 2).trans rfl⟩ (fun hHeld => ?_)
                          clear hK K
                          refine norm_ (a' := ?_) ?_ ?_
                          rotate_left
                          · show Act.put _ (some 38) _ = _
                            simp only [Act.put, List.setIfInBounds_toArray, List.set_cons_zero, List.set_cons_succ, i64_w, i32_w]
                            rfl
                          refine one_ (i := 5) (N := some 39) #[true, true, true, true, true, true, true, true, true, true, false, false, false, false, false] rfl rfl (by kernel_rfl) (by decide) (fun K hK => ?_)
                          refine S_append1_step (Kd.slice 2 (Kd.int .i64)) rfl (w0 := w) w.heap.size (by rfl) (.tmp 35) (.tmp 38) 61 60 (.slice none 0 0) 24 rfl Try.underlying61 info60 rfl (by decide) u207001 x207001_1 t219 (.slice Ao51 t219.length co51) BAI (fun k_ => some k_ ≠ (.slice Ao13 t203.length co13 : Value).ownBlock ∧ some k_ ≠ (u207002 : Value).ownBlock) (fun k_ => some k_ = (.slice Ao51 t219.length co51 : Value).ownBlock) rfl rfl ((blk_cell BA.out 0).trans rfl) ?aP (fun k_ hk_ => ((Kd.R_mono (ok' := fun k_ => ((fun k_ => some k_ ≠ (.slice Ao13 t203.length co13 : Value).ownBlock ∧ some k_ ≠ (u207002 : Value).ownBlock)) k_ ∧ some k_ ≠ (u207001 : Value).ownBlock) (Kd.R_apart' (HO221.out) (Kd.S_typed HO_207001.out) (by decide)) (fun k_ hk => ⟨⟨hk.1.1.2, hk.1.2⟩, hk.2⟩))).1 k_ hk_.symm) ?aF ?aO ?aB ?aS ?aL ?_
                          (case aP => exact Kd.M_row (Kd.R_mono (Kd.R_tight rfl (Kd.R_mono (ok' := fun k_ => ((fun k_ => some k_ ≠ (.slice Ao13 t203.length co13 : Value).ownBlock ∧ some k_ ≠ (u207002 : Value).ownBlock)) k_ ∧ some k_ ≠ (u207001 : Value).ownBlock) (Kd.R_apart' (HO221.out) (Kd.S_typed HO_207001.out) (by decide)) (fun k_ hk => ⟨⟨hk.1.1.2, hk.1.2⟩, hk.2⟩))) (fun _ h_ => h_)))
                          (case aB => exact (by repeat (first | (with_reducible first | exact HB.out | apply below_alloc | apply pw_below_drewN | apply below_drew1 | refine below_set ?_ GE200.out | refine below_set ?_ GE201.out | refine below_set ?_ GE206.out) | exact HB.out)))
                          (case aF => exact (fun k_ hk => ⟨Kd.fresh' (Kd.R_lt (by (with_reducible repeat (first | apply Kd.R_alloc | apply Kd.R_drewN | apply Kd.R_drew)); exact HO_207000.out)) k_ hk, Kd.fresh' (Kd.R_lt (by (with_reducible repeat (first | apply Kd.R_alloc | apply Kd.R_drewN | apply Kd.R_drew)); exact HO_207002.out)) k_ hk⟩))
                          (case aO => exact (by (with_reducible repeat (first | apply Kd.S_alloc | apply Kd.S_drewN | apply Kd.S_drew)); exact Kd.S_mono HO_207001.out (fun k_ hk => ⟨⟨hk.1.1, hk.1.2⟩, fun e_ => hk.2 e_⟩)))
                          (case aS => exact (below_size (by repeat (first | (with_reducible first | exact HB.out | apply below_alloc | apply pw_below_drewN | apply below_drew1 | refine below_set ?_ GE200.out | refine below_set ?_ GE201.out | refine below_set ?_ GE206.out) | exact HB.out))))
                          (case aL => have := LMc42.out; omega)
                          intro v223 w_13 ho hb hg hat
                          rw [← Ny222.out] at ho
                          have BB := Aside0.mk (blk_grown BB.out hg (Kd.S_ne HO_207001.out BB.out (by decide)))
                          have n0_ := Aside0.mk (Kd.R_over' (by (with_reducible repeat (first | apply Kd.R_alloc | apply Kd.R_drewN | apply Kd.R_drew)); exact HO_207000.out) (Kd.S_typed (by (with_reducible repeat (first | apply Kd.S_alloc | apply Kd.S_drewN | apply Kd.S_drew)); exact HO_207001.out)) (by decide) hg)
                          have n1_ := Aside0.mk (Kd.R_over' (by (with_reducible repeat (first | apply Kd.R_alloc | apply Kd.R_drewN | apply Kd.R_drew)); exact HO_207002.out) (Kd.S_typed (by (with_reducible repeat (first | apply Kd.S_alloc | apply Kd.S_drewN | apply Kd.S_drew)); exact HO_207001.out)) (by decide) hg)
                          have n2_ := Aside0.mk (blk_grown (g := gb200) (o := .cells #[.slice A0_0 l0_0.length c0_0, .slice (some ad207) l0_1.length c0_1, .slice (some ad208) l0_2.length c0_2] 66 (0, 0)) (by (with_reducible repeat (first | refine blk_drewN ?_ _ | refine blk_drew ?_ | refine blk_alloc ?_ _)); exact BK200.out) hg (Kd.S_ne HO_207001.out BK200.out (by decide)))
                          have n3_ := Aside0.mk (blk_grown (g := gb201) (o := .cells #[.slice none 0 0, .slice none 0 0, .slice none 0 0] 66 (0, 0)) (by (with_reducible repeat (first | refine blk_drewN ?_ _ | refine blk_drew ?_ | refine blk_alloc ?_ _)); exact BK201.out) hg (Kd.S_ne HO_207001.out BK201.out (by decide)))
                          have n4_ := Aside0.mk (blk_grown (g := gb206) (o := .cells #[.slice Ao13 t203.length co13, u207001, u207002] 66 (0, 0)) (by (with_reducible repeat (first | refine blk_drewN ?_ _ | refine blk_drew ?_ | refine blk_alloc ?_ _)); exact BK206.out) hg (Kd.S_ne HO_207001.out BK206.out (by decide)))
                          have n5_ := Aside0.mk (hb)
                          have n6_ := Aside0.mk (ho)
                          clear HO_207000
                          clear HO_207002
                          clear BK200
                          clear BK201
                          clear BK206
                          clear HB
                          clear HO_207001
                          clear HO221
                          have HO_207000 := n0_
                          have HO_207002 := n1_
                          have BK200 := n2_
                          have BK201 := n3_
                          have BK206 := n4_
                          have HB := n5_
                          have HO224 := n6_
                          clear n0_ n1_ n2_ n3_ n4_ n5_ n6_
                          clear ho hb hg hat
                          refine hK.out _ _ ⟨(blk_cell BK206.out 1).trans rfl, (blk_cell BK206.out 2).trans rfl⟩ (fun hHeld => ?_)
                          clear hK K
                          refine norm_ (a' := ?_) ?_ ?_
                          rotate_left
                          · show Act.put _ (some 39) _ = _
                            simp only [Act.put, List.setIfInBounds_toArray, List.set_cons_zero, List.set_cons_succ, i64_w, i32_w]
                            rfl
                          refine pure_ (i := 11) (N := some 45) (v := ?_) (a' := ?_) #[true, true, true, true, true, true, true, true, true, true, false, true, false, false, false] rfl rfl (by kernel_rfl) (fun _ _ _ h => h) (Or.inl ⟨by rfl, ?_⟩) ?_ ?_
                          rotate_left
                          · intro w'
                            go_simp
                            with_reducible rfl
                          rotate_left
                          · simp only [Act.put, List.setIfInBounds_toArray, List.set_cons_zero, List.set_cons_succ, i64_w, i32_w]
                            rfl
                          exact norm_ (by first | rfl | (simp only [putAll, Act.put, List.setIfInBounds_toArray, List.set_cons_zero, List.set_cons_succ]; done)) (hJ (.slice Ao51 t219.length co51, .slice (some ⟨BAI, 0, none⟩) 1 1, v223, BBI) _ ⟨Kd.R_mono HO_207000.out (fun _ hk => hk.1), HO224.out, Kd.R_mono HO_207002.out (fun _ hk => hk.1), BK200.out, BK201.out, BK206.out, HB.out, BB.out, ⟨(blk_cell BK206.out 1).trans rfl, (blk_cell BK206.out 2).trans rfl⟩⟩)
                      rintro ⟨vc_, s38_, v223, bb_⟩ w_t ⟨f0_, f1_, f2_, f3_, f4_, f5_, f6_, f7_, fs_⟩
                      have hHeld := fs_
                      have HO_207000 := Aside0.mk f0_
                      have HO224 := Aside0.mk f1_
                      have HO_207002 := Aside0.mk f2_
                      have BK200 := Aside0.mk f3_
                      have BK201 := Aside0.mk f4_
                      have BK206 := Aside0.mk f5_
                      have HB := Aside0.mk f6_
                      have BB := Aside0.mk f7_
                      clear f0_ f1_ f2_ f3_ f4_ f5_ f6_ f7_ fs_
                      obtain ⟨Ao52, co52, eo52⟩ := Kd.S_slice HO224.out
                      (try dsimp only at eo52)
                      subst eo52
                      refine norm_ (a' := ?_) ?_ ?_
                      rotate_left
                      · simp only [putAll, Act.put, List.setIfInBounds_toArray, List.set_cons_zero, List.set_cons_succ, i64_w, i32_w]
                        rfl
                      refine one_ (i := 10) (N := some 44) #[true, true, true, true, true, true, true, true, true, true, true, true, false, false, false] rfl rfl (by kernel_rfl) (by decide) (fun K hK => ?_)
                      refine Kd.R_append_rows_step (Kd.int .i64) (Rr := fun y cs => y = (-1) ∧ cs = [.int .i64 (-1)]) (w0 := w) w.heap.size (by rfl) (.tmp 41) (.tmp 43) 60 2 (.int .i64 0) 8 rfl Try.underlying60 info2 rfl (by decide) (by omega) u207002 x207002_1 [(-1)] (some ⟨bb_, 0, none⟩) 1 1 (fun k_ => some k_ ≠ (.slice Ao13 t203.length co13 : Value).ownBlock) (fun _ => False) rfl rfl HO_207002.out (one_reads ((blk_cell BB.out 0).trans rfl)) (fun x cs h => by obtain ⟨rfl, rfl⟩ := h; exact rfl) (fun _ hk => hk.elim) (fun k_ hk => Kd.fresh' (Kd.R_lt HO_207000.out) k_ hk) HB.out (below_size HB.out) (by have := LMc43.out; omega) ?_
                      intro v226 w54 ho hb hg hat
                      rw [← Ny225.out] at ho
                      have n0_ := Aside0.mk (Kd.R_after (ok := (fun _ => True)) (Kd.R_mono HO_207000.out (fun _ hk => ⟨trivial, hk⟩)) hg hat)
                      have n1_ := Aside0.mk (blk_grown (g := gb200) (o := .cells #[.slice A0_0 l0_0.length c0_0, .slice (some ad207) l0_1.length c0_1, .slice (some ad208) l0_2.length c0_2] 66 (0, 0)) BK200.out hg (Kd.R_ne HO_207002.out BK200.out (by decide)))
                      have n2_ := Aside0.mk (blk_grown (g := gb201) (o := .cells #[.slice none 0 0, .slice none 0 0, .slice none 0 0] 66 (0, 0)) BK201.out hg (Kd.R_ne HO_207002.out BK201.out (by decide)))
                      have n3_ := Aside0.mk (blk_grown (g := gb206) (o := .cells #[.slice Ao13 t203.length co13, u207001, u207002] 66 (0, 0)) BK206.out hg (Kd.R_ne HO_207002.out BK206.out (by decide)))
                      have n4_ := Aside0.mk (Kd.S_after (ok := (fun k_ => some k_ ≠ (.slice Ao13 t203.length co13 : Value).ownBlock)) (Kd.S_mono HO224.out (fun _ hk => ⟨hk.1, hk.2⟩)) hg hat)
                      have n5_ := Aside0.mk hb
                      have n6_ := Aside0.mk ho
                      clear HO_207000 HO224 HO_207002 BK200 BK201 BK206 HB BB
                      have HO_207000 := n0_
                      have BK200 := n1_
                      have BK201 := n2_
                      have BK206 := n3_
                      have HO224 := n4_
                      have HB := n5_
                      have HO227 := n6_
                      clear n0_ n1_ n2_ n3_ n4_ n5_ n6_
                      clear ho hb hg hat
                      obtain ⟨Ao55, co55, eo55⟩ := Kd.R_slice HO227.out
                      subst eo55
                      refine hK.out _ _ ⟨(blk_cell BK206.out 1).trans rfl, (blk_cell BK206.out 2).trans rfl⟩ (fun hHeld => ?_)
                      clear hK K
                      refine norm_ (a' := ?_) ?_ ?_
                      rotate_left
                      · show Act.put _ (some 44) _ = _
                        simp only [Act.put, List.setIfInBounds_toArray, List.set_cons_zero, List.set_cons_succ, i64_w, i32_w]
                        rfl
                      refine last_ (i := 12) (N := none) #[true, true, true, true, true, true, true, true, true, true, true, true, true, false, false] rfl rfl (by kernel_rfl) (by decide) (fun K hK => ?_)
                      have hs_ : w54.cell? ⟨gb206, 1, none⟩ = some (u207001) := (blk_cell BK206.out 1).trans rfl
                      have hfs_ := blk_frozen BK206.out 1
                      refine skip_ (w1 := ?_) (by rfl) rfl ?_ ?_
                      rotate_left
                      · go_simp
                        rfl
                      refine hK.out _ _ ?_
                      clear hK K hs_ hfs_
                      have n0_ := Aside0.mk (Kd.R_mono (Kd.R_far (p := ⟨gb206, 1, none⟩) (Kd.R_types HO_207000.out BK206.out (by decide)) (fun _ hk => hk.2) (.slice Ao52 y222.length co52)) (fun _ hk => hk.1))
                      have n1_ := Aside0.mk (Kd.S_mono (Kd.S_far (p := ⟨gb206, 1, none⟩) (Kd.S_types HO224.out BK206.out (by decide)) (fun _ hk => hk.2) (.slice Ao52 y222.length co52)) (fun _ hk => hk.1))
                      have n2_ := Aside0.mk (Kd.R_mono (Kd.R_far (p := ⟨gb206, 1, none⟩) (Kd.R_types HO227.out BK206.out (by decide)) (fun _ hk => hk.2) (.slice Ao52 y222.length co52)) (fun _ hk => hk.1))
                      have n3_ := Aside0.mk (blk_far (p := ⟨gb206, 1, none⟩) BK200.out NB200_206.out (.slice Ao52 y222.length co52))
                      have n4_ := Aside0.mk (blk_far (p := ⟨gb206, 1, none⟩) BK201.out NB201_206.out (.slice Ao52 y222.length co52))
                      have n5_ := Aside0.mk (blk_put BK206.out 1 (.slice Ao52 y222.length co52) rfl)
                      have n6_ := Aside0.mk (below_set HB.out GE206.out (j := 1) (v := .slice Ao52 y222.length co52))
                      generalize w54.setCell ⟨gb206, 1, none⟩ (.slice Ao52 y222.length co52) = w_e at n0_ n1_ n2_ n3_ n4_ n5_ n6_ ⊢
                      clear HO_207000 HO224 HO227 BK200 BK201 BK206 HB
                      have HO_207000 := n0_
                      have HO224 := n1_
                      have HO227 := n2_
                      have BK200 := n3_
                      have BK201 := n4_
                      have BK206 : Aside0 (w_e.heap[gb206]? = some (.cells #[.slice Ao13 t203.length co13, .slice Ao52 y222.length co52, u207002] 66 (0, 0))) := ⟨n5_.out⟩
                      have HB := n6_
                      clear n0_ n1_ n2_ n3_ n4_ n5_ n6_
                      refine pure_ (i := 13) (N := some 46) (v := ?_) (a' := ?_) #[true, true, true, true, true, true, true, true, true, true, true, true, true, true, false] rfl rfl (by kernel_rfl) (fun _ _ _ h => h) (Or.inl ⟨by rfl, ?_⟩) ?_ ?_
                      rotate_left
                      · intro w'
                        go_simp
                        with_reducible rfl
                      rotate_left
                      · simp only [Act.put, List.setIfInBounds_toArray, List.set_cons_zero, List.set_cons_succ, i64_w, i32_w]
                        rfl
                      refine last_ (i := 14) (N := none) #[true, true, true, true, true, true, true, true, true, true, true, true, true, true, true] rfl rfl (by kernel_rfl) (by decide) (fun K hK => ?_)
                      have hs_ : w_e.cell? ⟨gb206, 2, none⟩ = some (u207002) := (blk_cell BK206.out 2).trans rfl
                      have hfs_ := blk_frozen BK206.out 2
                      refine skip_ (w1 := ?_) (by rfl) rfl ?_ ?_
                      rotate_left
                      · go_simp
                        rfl
                      refine hK.out _ _ ?_
                      clear hK K
                      refine done_ (by kernel_rfl) ?_
                      try go_wp2
                      go_roundg k1
                      case measure => have := HK1.out; omega
                      case rel => exact ⟨(wrap64 (x20_1 + 1)), (y222), (y225), (.slice Ao52 y222.length co52), (.slice Ao55 y225.length co55), (by first | rfl | (simp; done) | (simp [*]; done)), H', ⟨by have := HK1.out; omega⟩, ⟨by (with_reducible repeat (first | apply Kd.R_alloc | apply Kd.R_drewN | apply Kd.R_drew)); exact Kd.R_mono (Kd.R_far (p := ⟨gb206, 2, none⟩) (Kd.R_types HO_207000.out BK206.out (by decide)) (fun _ hk => hk.2) (.slice Ao55 y225.length co55)) (fun _ hk => hk.1.2)⟩, ⟨by (with_reducible repeat (first | apply Kd.S_alloc | apply Kd.S_drewN | apply Kd.S_drew)); exact Kd.S_mono (Kd.S_far (p := ⟨gb206, 2, none⟩) (Kd.S_types HO224.out BK206.out (by decide)) (fun _ hk => hk.2) (.slice Ao55 y225.length co55)) (fun _ hk => ⟨hk.1.1, hk.1.2⟩)⟩, ⟨by (with_reducible repeat (first | apply Kd.R_alloc | apply Kd.R_drewN | apply Kd.R_drew)); exact Kd.R_mono (Kd.R_far (p := ⟨gb206, 2, none⟩) (Kd.R_types HO227.out BK206.out (by decide)) (fun _ hk => hk.2) (.slice Ao55 y225.length co55)) (fun _ hk => hk.1)⟩, ⟨by (with_reducible repeat (first | refine blk_drewN ?_ _ | refine blk_drew ?_ | refine blk_alloc ?_ _)); refine blk_far ?_ NB200_206.out _; (with_reducible repeat (first | refine blk_drewN ?_ _ | refine blk_drew ?_ | refine blk_alloc ?_ _)); exact BK200.out⟩, ⟨by (with_reducible repeat (first | refine blk_drewN ?_ _ | refine blk_drew ?_ | refine blk_alloc ?_ _)); refine blk_far ?_ NB201_206.out _; (with_reducible repeat (first | refine blk_drewN ?_ _ | refine blk_drew ?_ | refine blk_alloc ?_ _)); exact BK201.out⟩, ⟨by (with_reducible repeat (first | refine blk_drewN ?_ _ | refine blk_drew ?_ | refine blk_alloc ?_ _)); refine blk_put (cs := #[.slice Ao13 t203.length co13, .slice Ao52 y222.length co52, u207002]) ?_ 2 _ rfl; (with_reducible repeat (first | refine blk_drewN ?_ _ | refine blk_drew ?_ | refine blk_alloc ?_ _)); exact BK206.out⟩, ⟨by repeat (first | (with_reducible first | exact HB.out | apply below_alloc | apply pw_below_drewN | apply below_drew1 | refine below_set ?_ GE200.out | refine below_set ?_ GE201.out | refine below_set ?_ GE206.out) | exact HB.out)⟩⟩
                    · rw [if_neg c43] at H
                      exact absurd H (by simp)
                  · rw [if_neg c42] at H
                    exact absurd H (by simp)
              · rw [if_neg c22] at H
                exact absurd H (by simp)
            · rw [if_neg c21] at H
              exact absurd H (by simp)
          · rw [if_neg c20] at H
            exact absurd H (by simp)
        · rw [if_neg c19] at H
          have c19b0 : decide (x20_1 < (l0_1.length : Int)) = false := decide_eq_false c19
          clear c19
          simp only [Option.some.injEq, Prod.mk.injEq] at H
          obtain ⟨rfl, rfl, rfl⟩ := H
          have hnb57 := NB206_200.out
          have hnc57 := NB200_206.out
          have hnb58 := NB206_201.out
          have hnc58 := NB201_206.out
          have hcz59_0 : wr.cell? ⟨gb206, 0, none⟩ = some (.slice Ao13 t203.length co13) := (blk_cell BK206.out 0).trans rfl
          have hcz59_1 : wr.cell? ⟨gb206, 1, none⟩ = some (u207001) := (blk_cell BK206.out 1).trans rfl
          have hcz59_2 : wr.cell? ⟨gb206, 2, none⟩ = some (u207002) := (blk_cell BK206.out 2).trans rfl
          have hfz59_0 := blk_frozen BK206.out 0
          have hfz59_1 := blk_frozen BK206.out 1
          have hfz59_2 := blk_frozen BK206.out 2
          have hnb60 := NB201_200.out
          have hnc60 := NB200_201.out
          have hcz61_0 : wr.cell? ⟨gb201, 0, none⟩ = some (.slice none 0 0) := (blk_cell BK201.out 0).trans rfl
          have hcz61_1 : wr.cell? ⟨gb201, 1, none⟩ = some (.slice none 0 0) := (blk_cell BK201.out 1).trans rfl
          have hcz61_2 : wr.cell? ⟨gb201, 2, none⟩ = some (.slice none 0 0) := (blk_cell BK201.out 2).trans rfl
          have hfz61_0 := blk_frozen BK201.out 0
          have hfz61_1 := blk_frozen BK201.out 1
          have hfz61_2 := blk_frozen BK201.out 2
          obtain ⟨Ao62, co62, eo62⟩ := Kd.S_slice HO_207001.out
          subst eo62
          obtain ⟨Ao63, co63, eo63⟩ := Kd.R_slice HO_207002.out
          subst eo63
          go_wp2
          refine bodyPost_ret (results_cell_row rfl _ _ gb201 66 #[.slice Ao13 t203.length co13, .slice Ao62 x207001_1.length co62, .slice Ao63 x207002_1.length co63] (0, 0) _ rfl (by (with_reducible repeat (first | refine blk_drewN ?_ _ | refine blk_drew ?_ | refine blk_alloc ?_ _)); refine blk_put (cs := #[.slice Ao13 t203.length co13, .slice Ao62 x207001_1.length co62, .slice none 0 0]) ?_ 2 _ rfl; (with_reducible repeat (first | refine blk_drewN ?_ _ | refine blk_drew ?_ | refine blk_alloc ?_ _)); refine blk_put (cs := #[.slice Ao13 t203.length co13, .slice none 0 0, .slice none 0 0]) ?_ 1 _ rfl; (with_reducible repeat (first | refine blk_drewN ?_ _ | refine blk_drew ?_ | refine blk_alloc ?_ _)); refine blk_put (cs := #[.slice none 0 0, .slice none 0 0, .slice none 0 0]) ?_ 0 _ rfl; (with_reducible repeat (first | refine blk_drewN ?_ _ | refine blk_drew ?_ | refine blk_alloc ?_ _)); exact BK201.out) Try.underlying66 rfl (by kernel_rfl)) rfl ?_
          exact ⟨_, _, _, by first | rfl | (simp [errW_none, errW_some] <;> rfl) | (simp [*, errW_none, errW_some] <;> rfl), by (with_reducible repeat (first | apply Kd.R_alloc | apply Kd.R_drewN | apply Kd.R_drew)); exact Kd.R_mono (Kd.R_far (p := ⟨gb201, 2, none⟩) (Kd.R_far (p := ⟨gb201, 1, none⟩) (Kd.R_far (p := ⟨gb201, 0, none⟩) (Kd.R_types HO_207000.out BK201.out (by decide)) (fun _ hk => hk.2) (.slice Ao13 t203.length co13)) (fun _ hk => hk.2) (.slice Ao62 x207001_1.length co62)) (fun _ hk => hk.2) (.slice Ao63 x207002_1.length co63)) (fun _ hk => hk.1), by (with_reducible repeat (first | apply Kd.S_alloc | apply Kd.S_drewN | apply Kd.S_drew)); exact Kd.S_mono (Kd.S_far (p := ⟨gb201, 2, none⟩) (Kd.S_far (p := ⟨gb201, 1, none⟩) (Kd.S_far (p := ⟨gb201, 0, none⟩) (Kd.S_types HO_207001.out BK201.out (by decide)) (fun _ hk => hk.2) (.slice Ao13 t203.length co13)) (fun _ hk => hk.2) (.slice Ao62 x207001_1.length co62)) (fun _ hk => hk.2) (.slice Ao63 x207002_1.length co63)) (fun _ hk => ⟨hk.1.1, hk.1.2⟩), by (with_reducible repeat (first | apply Kd.R_alloc | apply Kd.R_drewN | apply Kd.R_drew)); exact Kd.R_mono (Kd.R_far (p := ⟨gb201, 2, none⟩) (Kd.R_far (p := ⟨gb201, 1, none⟩) (Kd.R_far (p := ⟨gb201, 0, none⟩) (Kd.R_types HO_207002.out BK201.out (by decide)) (fun _ hk => hk.2) (.slice Ao13 t203.length co13)) (fun _ hk => hk.2) (.slice Ao62 x207001_1.length co62)) (fun _ hk => hk.2) (.slice Ao63 x207002_1.length co63)) (fun _ hk => hk.1), by repeat (first | (with_reducible first | exact HB.out | apply below_alloc | apply pw_below_drewN | apply below_drew1 | refine below_set ?_ GE200.out | refine below_set ?_ GE201.out | refine below_set ?_ GE206.out) | exact HB.out)⟩
  · replace c4 := Bool.eq_false_iff.mpr c4
    subst c4
    have H1 : (some (([] : List Int), ([] : List (List Int)), ([] : List Int))) = some (r1, r2, r3) := by rw [if_neg (show ¬ (false = true) by decide)] at H; exact H
    clear H
    have H := H1
    clear H1
    simp only [Option.some.injEq, Prod.mk.injEq] at H
    obtain ⟨rfl, rfl, rfl⟩ := H
    go_enter Try.func56, Try.ntmps56
    go_wp2_with (first | ((with_reducible refine gate_dst (N := 2) rfl ?_); refine box_event ?hg (N := 2) ?hd (cs := #[.slice A0_0 l0_0.length c0_0, .slice A0_1 l0_1.length c0_1, .slice A0_2 l0_2.length c0_2]) (t := 66) ?hr ?_; (case hd => rfl); (case hg => rfl); (case hr => first | (go_simp; done) | (go_simp; rfl)); intro gb200 hg w64 hbox hb; have n0_ := Aside0.mk (below_step (by repeat (first | (with_reducible first | exact HB.out | apply below_alloc | apply pw_below_drewN | apply below_drew1) | exact HB.out)) hb); have n1_ := Aside0.mk (hbox); have n2_ := Aside0.mk ((by rw [hg]; exact (below_size (by repeat (first | (with_reducible first | exact HB.out | apply below_alloc | apply pw_below_drewN | apply below_drew1) | exact HB.out))) : w.heap.size ≤ gb200)); have n3_ := Aside0.mk ((by rw [hg]; exact (below_size (by repeat (first | (with_reducible first | exact HB.out | apply below_alloc | apply pw_below_drewN | apply below_drew1) | exact HB.out))) : w.heap.size ≤ gb200)); clear HB; have HB := n0_; have BK200 := n1_; have GW200 := n2_; have GE200 := n3_; clear n0_ n1_ n2_ n3_; clear hb hbox hg) | ((with_reducible refine gate_dst (N := 4) rfl ?_); refine box_event ?hg (N := 4) ?hd (cs := #[.slice none 0 0, .slice none 0 0, .slice none 0 0]) (t := 66) ?hr ?_; (case hd => rfl); (case hg => rfl); (case hr => first | (go_simp; done) | (go_simp; rfl)); intro gb201 hg w65 hbox hb; have n0_ := Aside0.mk (blk_below (g := gb200) (o := .cells #[.slice A0_0 l0_0.length c0_0, .slice A0_1 l0_1.length c0_1, .slice A0_2 l0_2.length c0_2] 66 (0, 0)) (by (with_reducible repeat (first | refine blk_drewN ?_ _ | refine blk_drew ?_ | refine blk_alloc ?_ _)); exact BK200.out) hb); have n1_ := Aside0.mk (below_step (by repeat (first | (with_reducible first | exact HB.out | apply below_alloc | apply pw_below_drewN | apply below_drew1 | refine below_set ?_ GE200.out) | exact HB.out)) hb); have n2_ := Aside0.mk (hbox); have n3_ := Aside0.mk ((by rw [hg]; exact (below_size (by repeat (first | (with_reducible first | exact HB.out | apply below_alloc | apply pw_below_drewN | apply below_drew1 | refine below_set ?_ GE200.out) | exact HB.out))) : w.heap.size ≤ gb201)); have n4_ := Aside0.mk ((by rw [hg]; exact (below_size (by repeat (first | (with_reducible first | exact HB.out | apply below_alloc | apply pw_below_drewN | apply below_drew1 | refine below_set ?_ GE200.out) | exact HB.out))) : w.heap.size ≤ gb201)); have n5_ := Aside0.mk ((by rw [hg]; exact Nat.ne_of_lt (blk_lt (g := gb200) (o := .cells #[.slice A0_0 l0_0.length c0_0, .slice A0_1 l0_1.length c0_1, .slice A0_2 l0_2.length c0_2] 66 (0, 0)) (by (with_reducible repeat (first | refine blk_drewN ?_ _ | refine blk_drew ?_ | refine blk_alloc ?_ _)); exact BK200.out)) : gb200 ≠ gb201)); have n6_ := Aside0.mk ((by rw [hg]; exact Nat.ne_of_gt (blk_lt (g := gb200) (o := .cells #[.slice A0_0 l0_0.length c0_0, .slice A0_1 l0_1.length c0_1, .slice A0_2 l0_2.length c0_2] 66 (0, 0)) (by (with_reducible repeat (first | refine blk_drewN ?_ _ | refine blk_drew ?_ | refine blk_alloc ?_ _)); exact BK200.out)) : gb201 ≠ gb200)); clear BK200; clear HB; have BK200 := n0_; have HB := n1_; have BK201 := n2_; have GW201 := n3_; have GE201 := n4_; have NB200_201 := n5_; have NB201_200 := n6_; clear n0_ n1_ n2_ n3_ n4_ n5_ n6_; clear hb hbox hg; have hnb66 := NB200_201.out; have hnc66 := NB201_200.out; have hcz67_0 : w65.cell? ⟨gb200, 0, none⟩ = some (.slice A0_0 l0_0.length c0_0) := (blk_cell BK200.out 0).trans rfl; have hcz67_1 : w65.cell? ⟨gb200, 1, none⟩ = some (.slice A0_1 l0_1.length c0_1) := (blk_cell BK200.out 1).trans rfl; have hcz67_2 : w65.cell? ⟨gb200, 2, none⟩ = some (.slice A0_2 l0_2.length c0_2) := (blk_cell BK200.out 2).trans rfl; have hfz67_0 := blk_frozen BK200.out 0; have hfz67_1 := blk_frozen BK200.out 1; have hfz67_2 := blk_frozen BK200.out 2) | ((with_reducible refine gate_callee (f := 125) rfl ?_); refine goesL_ (some 10) rfl rfl Try.func125 (by kernel_rfl) rfl #[.agg #[.slice A0_0 l0_0.length c0_0, .slice A0_1 l0_1.length c0_1, .slice A0_2 l0_2.length c0_2]] rfl (by (try simp only [List.map_toArray, List.map_cons, List.map_nil]); first | done | rfl | (simp only [List.length_drop, List.length_take]; rfl)) ?_; (with_reducible refine (impl_DfaOk.calls k _ _ l0_0 _ _ l0_1 _ _ l0_2 false _ ?side1 ?side2 ?side3 ?side4 ?side5 ?side6 A3.out).mono ?_); (case side1 => repeat (first | exact (Kd.C_below HR0_0.out HB.out) | (with_reducible refine Kd.C_alloc ?_ _) | (with_reducible refine Kd.C_drewN ?_ _) | (with_reducible refine Kd.C_drew ?_))); (case side2 => exact HC0_0.out); (case side3 => repeat (first | exact (Kd.C_below HR0_1.out HB.out) | (with_reducible refine Kd.C_alloc ?_ _) | (with_reducible refine Kd.C_drewN ?_ _) | (with_reducible refine Kd.C_drew ?_))); (case side4 => exact HC0_1.out); (case side5 => repeat (first | exact (Kd.C_below HR0_2.out HB.out) | (with_reducible refine Kd.C_alloc ?_ _) | (with_reducible refine Kd.C_drewN ?_ _) | (with_reducible refine Kd.C_drew ?_))); (case side6 => exact HC0_2.out); rintro e w68 ⟨rfl, hb⟩; refine ⟨_, rfl, ?_⟩; have n0_ := Aside0.mk (blk_below (g := gb200) (o := .cells #[.slice A0_0 l0_0.length c0_0, .slice A0_1 l0_1.length c0_1, .slice A0_2 l0_2.length c0_2] 66 (0, 0)) (by (with_reducible repeat (first | refine blk_drewN ?_ _ | refine blk_drew ?_ | refine blk_alloc ?_ _)); exact BK200.out) hb); have n1_ := Aside0.mk (blk_below (g := gb201) (o := .cells #[.slice none 0 0, .slice none 0 0, .slice none 0 0] 66 (0, 0)) (by (with_reducible repeat (first | refine blk_drewN ?_ _ | refine blk_drew ?_ | refine blk_alloc ?_ _)); exact BK201.out) hb); have n2_ := Aside0.mk (below_step (by repeat (first | (with_reducible first | exact HB.out | apply below_alloc | apply pw_below_drewN | apply below_drew1 | refine below_set ?_ GE200.out | refine below_set ?_ GE201.out) | exact HB.out)) hb); clear BK200; clear BK201; clear HB; have BK200 := n0_; have BK201 := n1_; have HB := n2_; clear n0_ n1_ n2_; (try clear hb); (try clear hb2); (try clear hk); (try clear hi); have hcz69_0 : w68.cell? ⟨gb201, 0, none⟩ = some (.slice none 0 0) := (blk_cell BK201.out 0).trans rfl; have hcz69_1 : w68.cell? ⟨gb201, 1, none⟩ = some (.slice none 0 0) := (blk_cell BK201.out 1).trans rfl; have hcz69_2 : w68.cell? ⟨gb201, 2, none⟩ = some (.slice none 0 0) := (blk_cell BK201.out 2).trans rfl; have hfz69_0 := blk_frozen BK201.out 0; have hfz69_1 := blk_frozen BK201.out 1; have hfz69_2 := blk_frozen BK201.out 2))
    refine bodyPost_ret (results_cell_row rfl _ _ gb201 66 #[.slice none 0 0, .slice none 0 0, .slice none 0 0] (0, 0) _ rfl (by (with_reducible repeat (first | refine blk_drewN ?_ _ | refine blk_drew ?_ | refine blk_alloc ?_ _)); refine blk_put (cs := #[.slice none 0 0, .slice none 0 0, .slice none 0 0]) ?_ 2 _ rfl; (with_reducible repeat (first | refine blk_drewN ?_ _ | refine blk_drew ?_ | refine blk_alloc ?_ _)); refine blk_put (cs := #[.slice none 0 0, .slice none 0 0, .slice none 0 0]) ?_ 1 _ rfl; (with_reducible repeat (first | refine blk_drewN ?_ _ | refine blk_drew ?_ | refine blk_alloc ?_ _)); refine blk_put (cs := #[.slice none 0 0, .slice none 0 0, .slice none 0 0]) ?_ 0 _ rfl; (with_reducible repeat (first | refine blk_drewN ?_ _ | refine blk_drew ?_ | refine blk_alloc ?_ _)); exact BK201.out) Try.underlying66 rfl (by kernel_rfl)) rfl ?_
    exact ⟨_, _, _, by first | rfl | (simp [errW_none, errW_some] <;> rfl) | (simp [*, errW_none, errW_some] <;> rfl), by first | exact Kd.R_nil _ _ _ _ _ | exact Kd.N_nil _ _ _ _ _ | exact Kd.V_nil _ _ _ _ _ | exact Kd.Q_nil _ _ _ _ _ | exact Kd.S_nil _ _ _ _ _, by first | exact Kd.S_nil _ _ _ _ _ | exact Kd.N_nil _ _ _ _ _ | exact Kd.V_nil _ _ _ _ _ | exact Kd.Q_nil _ _ _ _ _ | exact Kd.R_nil _ _ _ _ _, by first | exact Kd.R_nil _ _ _ _ _ | exact Kd.N_nil _ _ _ _ _ | exact Kd.V_nil _ _ _ _ _ | exact Kd.Q_nil _ _ _ _ _ | exact Kd.S_nil _ _ _ _ _, by repeat (first | (with_reducible first | exact HB.out | apply below_alloc | apply pw_below_drewN | apply below_drew1 | refine below_set ?_ GE200.out | refine below_set ?_ GE201.out) | exact HB.out)⟩

end Go.Proofs.Ytabpfejdppfcdaa.PFnExactRestrict
