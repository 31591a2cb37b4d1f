-- Written by this session's own program (wip/pr.py) over the kit's printer; contracts that the printer does not know are given by hand.
import Derived.Test.YtlfhnlghfgjooaaPFnExactOthersx0
import Derived.Test.YtlfhnlghfgjooaaPFnExactOthersx3
import Derived.Test.YtlfhnlghfgjooaaPFnExactOthersx4
namespace Go.Proofs.Ytlfhnlghfgjooaa.PFnExactOthers
open Go.RowKit Go.Proofs.YtlfhnlghfgjooaaW.PrintWords Go.Proofs.YtlfhnlghfgjooaaW.PrintLast Go.Proofs.YtlfhnlghfgjooaaW.PrintMore
attribute [local go_sem] max2_int min2_int max_two min_two max_three min_three max_four min_four   -- for this text's walks alone
set_option linter.unusedVariables false
set_option linter.unusedSimpArgs false

/-! ### impl_bytesOf: function 104 -/
section
open Go.Proofs.Ytlfhnlghfgjooaa.Kit
theorem zero_flags0 : Try.zeroCells117 = flags (List.replicate 256 false) := by kernel_rfl
def spP (x : S90) : Int × Int := (x.f0, x.f1)

theorem spP_lo (l : List S90) (i : Int) : (rd_T90 l i).f0 = lo (l.map spP) i.toNat := by
  unfold rd_T90 lo
  rw [List.getD_eq_getElem?_getD, List.getD_eq_getElem?_getD, List.getElem?_map]
  cases l[i.toNat]? <;> rfl
theorem spP_hi (l : List S90) (i : Int) : (rd_T90 l i).f1 = hi (l.map spP) i.toNat := by
  unfold rd_T90 hi
  rw [List.getD_eq_getElem?_getD, List.getD_eq_getElem?_getD, List.getElem?_map]
  cases l[i.toNat]? <;> rfl

def InTo (l : List (Int × Int)) (k : Nat) (b : Nat) : Prop := ∃ i, i < k ∧ lo l i ≤ (b : Int) ∧ (b : Int) ≤ hi l i
def RelO (l : List (Int × Int)) (w : World) (iv : Value) (wr : World) : Prop :=
  ∃ (i : Int) (arr : List Bool), 0 ≤ i ∧ i ≤ l.length ∧ iv = .int .i64 i ∧ arr.length = 256 ∧ (∀ b, b < 256 → (arr.getD b false = true ↔ InTo l i.toNat b)) ∧
    wr.heap[w.heap.size + 1]? = some (.cells (flags arr) 117 (0, 0)) ∧ Below w.heap.size w wr ∧ wr.heap[w.heap.size]? = some (.cells Try.zeroCells117 117 (0, 0))
def RelI (l : List (Int × Int)) (w : World) (i : Int) (sb : Nat) (bv : Value) (wr : World) : Prop :=
  ∃ (b : Int) (arr : List Bool), lo l i.toNat ≤ b ∧ b ≤ hi l i.toNat + 1 ∧ bv = .int .i64 b ∧ arr.length = 256 ∧ (∀ c, c < 256 → (arr.getD c false = true ↔ InTo l i.toNat c ∨ (lo l i.toNat ≤ (c : Int) ∧ (c : Int) < b))) ∧
    wr.heap[w.heap.size + 1]? = some (.cells (flags arr) 117 (0, 0)) ∧ Below w.heap.size w wr ∧ wr.heap[w.heap.size]? = some (.cells Try.zeroCells117 117 (0, 0)) ∧ wr.heap[sb]? = some (.cells #[.int .i64 (lo l i.toNat), .int .i64 (hi l i.toNat)] 90 (0, 0))
theorem InTo_step (l : List (Int × Int)) (i c : Nat) : InTo l (i + 1) c ↔ InTo l i c ∨ (lo l i ≤ (c : Int) ∧ (c : Int) ≤ hi l i) := by
  constructor
  · rintro ⟨j, hj, h⟩
    rcases Nat.lt_or_eq_of_le (Nat.le_of_lt_succ hj) with h' | h'
    · exact .inl ⟨j, h', h⟩
    · exact .inr (h' ▸ h)
  · rintro (⟨j, hj, h⟩ | h)
    · exact ⟨j, by omega, h⟩
    · exact ⟨i, by omega, h⟩
set_option maxHeartbeats 400000 in
set_option maxRecDepth 100000 in
theorem bytesOf_calls (A0 : Option Addr) (c0 : Nat) (l0 : List S90) (w : World) (hr0 : Kd.C k90 w A0 l0.length l0) (hc0 : l0.length ≤ c0) (hok : classOk (l0.map spP)) :
    Calls Try.prog 104 #[.slice A0 l0.length c0] w fun e w' => ∃ arr : List Bool, e = .returned (.agg (flags arr)) ∧ arr.length = 256 ∧ (∀ b, b < 256 → (arr.getD b false = true ↔ InTo (l0.map spP) l0.length b)) ∧ Below w.heap.size w w' := by
  have HR0 := Aside0.mk hr0
  have HC0 := Aside0.mk hc0
  have HL := Aside0.mk (classOk_len hok)
  have HOK := Aside0.mk hok
  clear hr0 hc0 hok
  have hst : (storeCells ⟨w.heap.size + 1, 0, none⟩ Try.zeroCells117.toList).run Try.prog ((w.alloc (.cells Try.zeroCells117 117)).alloc (.cells Try.zeroCells117 117)) = .ok () ((w.alloc (.cells Try.zeroCells117 117)).alloc (.cells Try.zeroCells117 117)) := by
    have := run_storeCells_new (P := Try.prog) (w.alloc (.cells Try.zeroCells117 117)) 117 Try.zeroCells117 Try.zeroCells117 (by kernel_rfl) rfl (by kernel_rfl)
    simpa using this
  go_enter Try.func104, Try.ntmps104
  go_wp2
  go_loopw [10] (RelO (l0.map spP) w) (fun i _ => l0.length - (intOf i).toNat)
  case atStart =>
    refine ⟨0, List.replicate 256 false, by omega, by omega, rfl, by simp, fun b hb => ?_, ?_, ?_, heap_alloc2_old _ _ _⟩
    · constructor
      · intro h
        rw [List.getD_eq_getElem?_getD, List.getElem?_replicate] at h
        split at h <;> simp at h
      · rintro ⟨i, hi, _⟩
        simp at hi
    · rw [← zero_flags0]
      exact heap_alloc2_new _ _ _
    · exact ((Below.refl _ _).alloc (Nat.le_refl _) _).alloc (by simp) _
  case round =>
    clear hst
    obtain ⟨i, arr, h0, h1, rfl, harr, hM, hB1, hb, hz⟩ := hrel
    have HZ := Aside0.mk hz
    clear hz
    have h2 : (l0.length : Int) ≤ 128 := by have := HL.out; simp at this; omega
    have HM := Aside0.mk hM
    have HA := Aside0.mk harr
    have HB1 := Aside0.mk hB1
    have HB := Aside0.mk hb
    clear hM harr hB1 hb
    simp only [List.length_map] at h1
    by_cases hlt : i < (l0.length : Int)
    · obtain ⟨ad, e, hx0, hx1⟩ := at_T90 HR0.out i h0 hlt
      cases e
      replace hx0 := (HB.out.cell (World.block_lt_of_cell? w _ hx0)).trans hx0
      replace hx1 := (HB.out.cell (World.block_lt_of_cell? w _ hx1)).trans hx1
      have t0 := eq_true h0
      have t1 := eq_true hlt
      have hok := HOK.out i.toNat (by simp; omega)
      rw [spP_lo] at hx0
      rw [spP_hi] at hx1
      have HO := Aside0.mk hok
      clear hok
      go_wp2
      obtain ⟨ws, hws⟩ : ∃ ws, ws = wr.alloc (.cells #[.int .i64 (lo (l0.map spP) i.toNat), .int .i64 (hi (l0.map spP) i.toNat)] 90) := ⟨_, rfl⟩
      have HS := Aside0.mk (show ws.heap[wr.heap.size]? = some (.cells #[.int .i64 (lo (l0.map spP) i.toNat), .int .i64 (hi (l0.map spP) i.toNat)] 90 (0, 0)) by rw [hws]; exact heap_alloc_new _ _)
      have HB2 := Aside0.mk (show Below w.heap.size w ws by rw [hws]; exact HB.out.alloc (HB.out.size) _)
      have HB3 := Aside0.mk (show ws.heap[w.heap.size + 1]? = some (.cells (flags arr) 117 (0, 0)) by rw [hws]; exact (Below.heap_alloc _ _ _ (blk_lt HB1.out)).trans HB1.out)
      have HZ2 := Aside0.mk (show ws.heap[w.heap.size]? = some (.cells Try.zeroCells117 117 (0, 0)) by rw [hws]; exact (Below.heap_alloc _ _ _ (blk_lt HZ.out)).trans HZ.out)
      have HN2 := Aside0.mk (show wr.heap.size ≠ w.heap.size from by have := blk_lt HZ.out; omega)
      have HN := Aside0.mk (show wr.heap.size ≠ w.heap.size + 1 from by have := blk_lt HB1.out; omega)
      rw [← hws]
      clear hws hx0 hx1 HB1 HB HZ
      generalize wr.heap.size = sb at *
      go_loopw [6] (RelI (l0.map spP) w i sb) (fun b _ => (hi (l0.map spP) i.toNat + 1 - intOf b).toNat)
      case atStart =>
        have o1 := HO.out.2.1
        refine ⟨lo (l0.map spP) i.toNat, arr, by omega, by omega, rfl, HA.out, fun c hc => ?_, HB3.out, HB2.out, HZ2.out, HS.out⟩
        rw [HM.out c hc]
        constructor
        · exact .inl
        · rintro (h | h)
          · exact h
          · omega
      case round =>
        clear HM HA HB3 HB2 HS HZ2
        obtain ⟨b, arr2, g0, g1, rfl, ha2, hm2, hb2, hbl2, hz2, hs2⟩ := hrel
        have HZ2 := Aside0.mk hz2
        clear hz2
        have HA2 := Aside0.mk ha2
        have HM2 := Aside0.mk hm2
        have HB2 := Aside0.mk hb2
        have HBL2 := Aside0.mk hbl2
        have HS2 := Aside0.mk hs2
        clear ha2 hm2 hb2 hbl2 hs2
        have o0 := HO.out.1
        have o2 := HO.out.2.2.1
        have s0 := blk_cell HS2.out 0
        have s1 := blk_cell HS2.out 1
        simp only [List.getElem?_toArray, List.getElem?_cons_zero, List.getElem?_cons_succ] at s0 s1
        by_cases hle : b ≤ hi (l0.map spP) i.toNat
        · have b0 := eq_true (show 0 ≤ b by omega)
          have b1 := eq_true (show b < 256 by omega)
          have c0 := blk_cell HB2.out b.toNat
          rw [flags_get _ _ (by rw [HA2.out]; omega)] at c0
          have f0 := blk_frozen HB2.out b.toNat
          have hwb : wrap64 (b + 1) = b + 1 := by unfold wrap64; omega
          have HW := Aside0.mk hwb
          clear hwb
          go_wp2
          go_roundw
          case rel =>
            refine ⟨b + 1, arr2.set b.toNat true, by omega, by omega, by first | rfl | (rw [HW.out]), by simp [HA2.out], fun c hc => ?_, ?_, ?_, ?_, ?_⟩
            · rw [getD_set _ _ _ (by rw [HA2.out]; omega), HM2.out c hc]
              constructor
              · rintro ((h | h) | h)
                · exact .inl h
                · exact .inr (by omega)
                · exact .inr (by omega)
              · rintro (h | h)
                · exact .inl (.inl h)
                · by_cases e : c = b.toNat
                  · exact .inr e
                  · exact .inl (.inr (by omega))
            · rw [heap_setCell_same _ _ _ _ _ _ HB2.out, flags_set]
            · exact HBL2.out.setCell (by simp) _
            · rw [heap_setCell_other _ _ _ _ (by simp)]
              exact HZ2.out
            · rw [heap_setCell_other _ _ _ _ HN.out]
              exact HS2.out
          case measure => simp [intOf]; omega
        · go_wp2
          go_roundw
          case rel =>
            have eb : b = hi (l0.map spP) i.toNat + 1 := by omega
            refine ⟨i + 1, arr2, by omega, by simp; omega, by first | rfl | go_num, HA2.out, fun c hc => ?_, HB2.out, HBL2.out, HZ2.out⟩
            rw [HM2.out c hc, show (i + 1).toNat = i.toNat + 1 by omega, InTo_step]
            constructor
            · rintro (h | h)
              · exact .inl h
              · exact .inr (by omega)
            · rintro (h | h)
              · exact .inl h
              · exact .inr (by omega)
          case measure => simp [intOf]; omega
    · have t2 := eq_false hlt
      go_wp2_with (first | (refine wpList_load_row rfl 117 _ rfl (w.heap.size + 1) (by first | rfl | simp) 117 _ (0, 0) _ HB1.out Try.underlying117 rfl (by rw [flags_size, HA.out]; kernel_rfl) ?_) | (refine wpList_store_row rfl 117 _ _ rfl w.heap.size (flags arr) (by first | rfl | simp) (by first | rfl | simp) 117 _ HZ.out (by rw [flags_size, HA.out]; kernel_rfl) (by rw [flags_size, HA.out]; kernel_rfl) (flags_one arr) ?_))
      have hend : i = (l0.length : Int) := by omega
      refine bodyPost_ret (results_cell_row rfl _ _ w.heap.size 117 (flags arr) (0, 0) _ rfl (setRow_heap _ _ _ _ _ _ HZ.out) Try.underlying117 rfl (by rw [flags_size, HA.out]; kernel_rfl)) rfl ⟨arr, rfl, HA.out, fun b hb => ?_, ?_⟩
      · have h9 := HM.out b hb
        rw [hend, Int.toNat_natCast, List.getD_eq_getElem?_getD] at h9
        exact h9
      · exact below_setRow HB.out (Nat.le_refl _) _
instance (l : List (Int × Int)) (i : Nat) : Decidable (okAt l i) := by unfold okAt; infer_instance
instance (l : List (Int × Int)) : Decidable (classOk l) := by unfold classOk; infer_instance
instance (l : List (Int × Int)) (k b : Nat) : Decidable (InTo l k b) := by unfold InTo; infer_instance
end

-- NOT PRINTED: function 111 (impl_bytes256_class)

/-! ### impl_combined: function 75 -/
section
open Go.Proofs.Ytlfhnlghfgjooaa.Kit (flags flags_size flags_get flags_one)
set_option maxHeartbeats 8000000 in
set_option maxRecDepth 100000 in
theorem impl_class.calls (k : Nat) (l0 : List Bool) (r : List S90) (w : World) (hl : l0.length = 256) (h : spec_l1Class.f k l0 = some r) :
    Calls Try.prog 111 #[.agg (flags l0)] w fun e w' => ∃ v0_ : Value, e = .returned (v0_) ∧ Kd.R k90 90 w' w.heap.size (fun _ => True) v0_ r ∧ Below w.heap.size w w' := by
  have hu90 := Try.underlying90
  have HL := Aside0.mk hl
  have HB0 := Aside0.mk (((Below.refl w.heap.size w).alloc (Nat.le_refl _) (.cells (flags l0) 117)) : Below w.heap.size w (w.alloc (.cells (flags l0) 117)))
  have HX0 := Aside0.mk (show (w.alloc (.cells (flags l0) 117)).heap[w.heap.size]? = some (.cells (flags l0) 117 (0, 0)) from heap_alloc_new _ _)
  have HS0 := Aside0.mk (show (w.alloc (.cells (flags l0) 117)).heap.size = w.heap.size + 1 by simp)
  have HE0 := Aside0.mk (show (flags l0).size = 256 by rw [flags_size, hl])
  clear hl
  have H : (spec_l1Class.l0 k l0 (([] : List (S90))) 0) = some r := h
  clear h
  obtain ⟨y106, hy106⟩ : ∃ y_ : List (S90), y_ = (([] : List (S90))) := ⟨_, rfl⟩
  replace H : (spec_l1Class.l0 k l0 y106 0) = some r := by first | (rw [hy106]; with_reducible exact H) | (have H2_ := (Option.bind_some _ _).symm.trans H; rw [hy106]; with_reducible exact H2_) | (have H2_ := (Option.bind_some _ _).symm.trans H; with_reducible exact H2_) | with_reducible exact H | (rw [hy106]; exact H) | exact H
  have Ny106 := Aside0.mk hy106
  clear hy106
  have H' := Aside0.mk H
  clear H
  go_enter Try.func111, Try.ntmps111
  go_wp2_with (first | ((with_reducible refine gate_dst (N := 6) rfl ?_); (try (refine gate_guard (by rfl) ?_; dsimp only)); (generalize (w.alloc (.cells (flags l0) 117)) = w1 at *); have HB := Aside0.mk (Below.refl w1.heap.size w1); refine Kd.R_lit k90 _ 90 ?hg (N := 6) ?hd (xs := ([] : List (S90))) (inner := []) (ok := fun _ => True) (okp := fun _ => True) ?hr ?hp (fun _ hk => hk) trivial (Below.refl _ _) (Nat.le_refl _) (by simp) ?_; (case hd => rfl); (case hg => rfl); (case hr => first | (go_simp; done) | (go_simp; rfl)); (case hp => exact (Reps.none _ _)); intro v107 w2 ho3 hb hg_ hnew_; clear hg_ hnew_; (first | rw [← Ny106.out] at ho3 | (simp only [Int.reduceToNat] at ho3; rw [← Ny106.out] at ho3)); have n0_ := Aside0.mk (Kd.R_lower ho3 (below_size (by repeat (first | (with_reducible first | exact HB.out | apply below_alloc | apply pw_below_drewN | apply below_drew1) | exact HB.out)))); have n1_ := Aside0.mk (below_step (by repeat (first | (with_reducible first | exact HB.out | apply below_alloc | apply pw_below_drewN | apply below_drew1) | exact HB.out)) hb); clear HB; have HO108 := n0_; have HB := n1_; clear n0_ n1_; clear hb ho3))
  go_loopg [3, 7] k (fun kq v3 v7 w' => ∃ (x3_1 : List (S90)) (x4_1 : Int), v7 = .int .i64 x4_1 ∧ Aside0 (spec_l1Class.l0 kq l0 x3_1 x4_1 = some r) ∧ Aside0 (kq ≤ k) ∧ Aside0 (Kd.R k90 90 w' w1.heap.size (fun _ => True) v3 x3_1) ∧ Aside0 (Below w1.heap.size w1 w'))
  case atStart => exact ⟨(y106), (0), (by first | rfl | (simp; done) | (simp [*]; done)), H', ⟨Nat.le_refl _⟩, ⟨by (with_reducible repeat (first | apply Kd.R_alloc | apply Kd.R_drewN | apply Kd.R_drew)); exact HO108.out⟩, ⟨by repeat (first | (with_reducible first | exact HB.out | apply below_alloc | apply pw_below_drewN | apply below_drew1) | exact HB.out)⟩⟩
  case round =>
    clear H'
    try clear p2
    obtain ⟨x3_1, x4_1, rfl, HA, HK1, HO_3, HB⟩ := hrel
    cases gk with
    | zero => exact absurd HA.out (by simp [spec_l1Class.l0])
    | succ k1 =>
      have H := HA.out
      clear HA
      simp only [spec_l1Class.l0] at H
      by_cases c4 : x4_1 < 256
      · rw [if_pos c4] at H
        have c4b0 : decide (x4_1 < 256) = true := decide_eq_true c4
        clear c4
        by_cases c5 : 0 ≤ x4_1
        · rw [if_pos c5] at H
          have c5b0 : decide (0 ≤ x4_1) = true := decide_eq_true c5
          clear c5
          by_cases c6 : x4_1 < (l0.length : Int)
          · rw [if_pos c6] at H
            have c6b0 : decide (x4_1 < (l0.length : Int)) = true := decide_eq_true c6
            clear c6
            obtain ⟨bq7, hbq7⟩ : ∃ b_ : Bool, b_ = (rdOf false l0 x4_1) := ⟨_, rfl⟩
            replace H : (if bq7 = true then (if (x3_1.length : Int) > 0 then (if 0 ≤ (wrap64 ((x3_1.length : Int) - 1)) then (if (wrap64 ((x3_1.length : Int) - 1)) < (x3_1.length : Int) then (if ((rd_T90 x3_1 (wrap64 ((x3_1.length : Int) - 1))).f1) = (wrap64 (x4_1 - 1)) then (spec_l1Class.l0 k1 l0 (x3_1.set ((wrap64 ((x3_1.length : Int) - 1)) : Int).toNat (⟨(rd_T90 x3_1 (wrap64 ((x3_1.length : Int) - 1))).f0, x4_1⟩ : S90)) (wrap64 (x4_1 + 1))) else (if x3_1.length < 8796093022208 then (spec_l1Class.l0 k1 l0 (x3_1 ++ [(⟨x4_1, x4_1⟩ : S90)]) (wrap64 (x4_1 + 1))) else (none))) else (none)) else (none)) else (if x3_1.length < 8796093022208 then (spec_l1Class.l0 k1 l0 (x3_1 ++ [(⟨x4_1, x4_1⟩ : S90)]) (wrap64 (x4_1 + 1))) else (none))) else (spec_l1Class.l0 k1 l0 x3_1 (wrap64 (x4_1 + 1)))) = some r := by rw [← hbq7] at H; exact H
            have Nbq7 := Aside0.mk hbq7
            clear hbq7
            by_cases c8 : bq7 = true
            · subst c8
              have H1 : (if (x3_1.length : Int) > 0 then (if 0 ≤ (wrap64 ((x3_1.length : Int) - 1)) then (if (wrap64 ((x3_1.length : Int) - 1)) < (x3_1.length : Int) then (if ((rd_T90 x3_1 (wrap64 ((x3_1.length : Int) - 1))).f1) = (wrap64 (x4_1 - 1)) then (spec_l1Class.l0 k1 l0 (x3_1.set ((wrap64 ((x3_1.length : Int) - 1)) : Int).toNat (⟨(rd_T90 x3_1 (wrap64 ((x3_1.length : Int) - 1))).f0, x4_1⟩ : S90)) (wrap64 (x4_1 + 1))) else (if x3_1.length < 8796093022208 then (spec_l1Class.l0 k1 l0 (x3_1 ++ [(⟨x4_1, x4_1⟩ : S90)]) (wrap64 (x4_1 + 1))) else (none))) else (none)) else (none)) else (if x3_1.length < 8796093022208 then (spec_l1Class.l0 k1 l0 (x3_1 ++ [(⟨x4_1, x4_1⟩ : S90)]) (wrap64 (x4_1 + 1))) else (none))) = some r := by rw [if_pos rfl] at H; exact H
              clear H
              have H := H1
              clear H1
              by_cases c9 : (x3_1.length : Int) > 0
              · rw [if_pos c9] at H
                have c9b0 : decide (0 < (x3_1.length : Int)) = true := decide_eq_true c9
                have c9b1 : decide (0 < x3_1.length) = true := decide_eq_true (by omega)
                clear c9
                obtain ⟨ji10, hji10⟩ : ∃ j_ : Int, (wrap64 ((x3_1.length : Int) - 1)) = j_ := ⟨_, rfl⟩
                replace H : (if 0 ≤ (ji10) then (if (ji10) < (x3_1.length : Int) then (if ((rd_T90 x3_1 (ji10)).f1) = (wrap64 (x4_1 - 1)) then (spec_l1Class.l0 k1 l0 (x3_1.set ((ji10) : Int).toNat (⟨(rd_T90 x3_1 (ji10)).f0, x4_1⟩ : S90)) (wrap64 (x4_1 + 1))) else (if x3_1.length < 8796093022208 then (spec_l1Class.l0 k1 l0 (x3_1 ++ [(⟨x4_1, x4_1⟩ : S90)]) (wrap64 (x4_1 + 1))) else (none))) else (none)) else (none)) = some r := by first | (rw [hji10] at H; exact H) | (simp only [hji10] at H ⊢; exact H)
                have hji10w : (IntKind.i64.wrap ((x3_1.length : Int) - 1)) = ji10 := (i64_w _).trans hji10
                by_cases c11 : 0 ≤ (ji10)
                · rw [if_pos c11] at H
                  have c11b0 : decide (0 ≤ (ji10)) = true := decide_eq_true c11
                  clear c11
                  by_cases c12 : (ji10) < (x3_1.length : Int)
                  · rw [if_pos c12] at H
                    have c12b0 : decide ((ji10) < (x3_1.length : Int)) = true := decide_eq_true c12
                    clear c12
                    by_cases c13 : ((rd_T90 x3_1 (ji10)).f1) = (wrap64 (x4_1 - 1))
                    · rw [if_pos c13] at H
                      have c13b0 : (((rd_T90 x3_1 (ji10)).f1) == (wrap64 (x4_1 - 1))) = true := beq_iff_eq.mpr c13
                      have c13b1 : (((rd_T90 x3_1 (ji10)).f1) != (wrap64 (x4_1 - 1))) = false := bne_eq_false_iff_eq.mpr c13
                      clear c13
                      obtain ⟨y111, hy111⟩ : ∃ y_ : List (S90), y_ = (x3_1.set ((ji10) : Int).toNat (⟨(rd_T90 x3_1 (ji10)).f0, x4_1⟩ : S90)) := ⟨_, rfl⟩
                      replace H : (spec_l1Class.l0 k1 l0 y111 (wrap64 (x4_1 + 1))) = some r := by first | (rw [hy111]; with_reducible exact H) | (have H2_ := (Option.bind_some _ _).symm.trans H; rw [hy111]; with_reducible exact H2_) | (have H2_ := (Option.bind_some _ _).symm.trans H; with_reducible exact H2_) | with_reducible exact H | (rw [hy111]; exact H) | exact H
                      have Ny111 := Aside0.mk hy111
                      clear hy111
                      have H' := Aside0.mk H
                      clear H
                      have p109 : 0 ≤ (x4_1 : Int) := of_decide_eq_true (by first | (with_reducible assumption) | assumption)
                      have q109 : x4_1 < (l0.length : Int) := of_decide_eq_true (by first | (with_reducible assumption) | assumption)
                      have q109b : (x4_1 < 256) = True := eq_true (by have := HL.out; omega)
                      have hx109_0 : w1.cell? ⟨w.heap.size, x4_1.toNat, none⟩ = some (.bool (rdOf false l0 x4_1)) := (blk_cell HX0.out x4_1.toNat).trans (flags_get l0 _ (by have := HL.out; omega))
                      (try rw [← Nbq7.out] at hx109_0)
                      replace hx109_0 := (HB.out.cell (World.block_lt_of_cell? w1 _ hx109_0)).trans hx109_0
                      replace p109 := eq_true p109
                      replace q109 := eq_true q109
                      obtain ⟨Ao15, co15, eo15⟩ := Kd.R_slice HO_3.out
                      subst eo15
                      have p110 : 0 ≤ ((ji10) : Int) := of_decide_eq_true (by first | (with_reducible assumption) | assumption)
                      have q110 : (ji10) < (x3_1.length : Int) := of_decide_eq_true (by first | (with_reducible assumption) | assumption)
                      obtain ⟨ad110, e110, hx110_0, hx110_1⟩ := at_T90 (Kd.R_reads' HO_3.out).2.2 (ji10) p110 q110
                      cases e110
                      replace p110 := eq_true p110
                      replace q110 := eq_true q110
                      have p14 : 0 ≤ ((ji10) : Int) := of_decide_eq_true (by first | (with_reducible assumption) | assumption)
                      have q14 : ((ji10) : Int) < ((x3_1.length : Int) : Int) := of_decide_eq_true (by first | (with_reducible assumption) | assumption)
                      obtain ⟨go14, co14, eo14, gb14, gl14, cl14, HG14⟩ := Kd.R_form HO_3.out (by omega)
                      (first | cases eo14 | (injection eo14 with ea_ en_ ec_; (first | subst ea_ | (injection ea_ with ea_; subst ea_)); subst ec_; clear en_))
                      have GB14 := Aside0.mk gb14
                      have GG14 := Aside0.mk HG14
                      clear gb14 gl14 HG14
                      (first | simp only [add_plain] at hx110_0 | skip)
                      (first | simp only [add_plain] at hx110_1 | skip)
                      obtain ⟨ce14, hcl14, hM14, hcc14, hfr14⟩ := Kd.R_elem HO_3.out z90 ((ji10) : Int) p14 q14
                      obtain rfl := k90_openM hM14
                      have hx14_0 : wr.cell? ⟨go14, ((ji10) : Int).toNat * 2, none⟩ = some (.int .i64 ((rd_T90 x3_1 (ji10)).f0)) := hcc14 0 _ rfl
                      have hx14_1 : wr.cell? ⟨go14, ((ji10) : Int).toNat * 2 + 1, none⟩ = some (.int .i64 ((rd_T90 x3_1 (ji10)).f1)) := hcc14 1 _ rfl
                      have hf14_0 : wr.frozen? ⟨go14, ((ji10) : Int).toNat * 2, none⟩ = false := hfr14 0
                      have hf14_1 : wr.frozen? ⟨go14, ((ji10) : Int).toNat * 2 + 1, none⟩ = false := hfr14 1
                      clear hcl14 hcc14 hfr14 hM14
                      replace p14 := eq_true p14
                      replace q14 := eq_true q14
                      have HX16 := Aside0.mk (show Kd.R k90 90 wr w1.heap.size (fun _ => True) (.slice (some ⟨go14, 0, none⟩) x3_1.length co15) x3_1 from (by (with_reducible repeat (first | apply Kd.R_alloc | apply Kd.R_drewN | apply Kd.R_drew)); exact HO_3.out))
                      obtain ⟨ce16, hcl16, hM16, hcc16, hfr16⟩ := Kd.R_elem HX16.out z90 ((ji10) : Int) (of_decide_eq_true (by first | (with_reducible assumption) | assumption)) (by have h_ : ((ji10) : Int) < ((x3_1.length : Int) : Int) := of_decide_eq_true (by first | (with_reducible assumption) | assumption); first | exact h_ | (have e_ := (Kd.R_reads' HO_3.out).1; omega) | simpa using h_)
                      obtain rfl := k90_openM hM16
                      have HP16 := Kd.R_seg HX16.out ((ji10) : Int) (of_decide_eq_true (by first | (with_reducible assumption) | assumption)) (by have h_ : ((ji10) : Int) < ((x3_1.length : Int) : Int) := of_decide_eq_true (by first | (with_reducible assumption) | assumption); first | exact h_ | (have e_ := (Kd.R_reads' HO_3.out).1; omega) | simpa using h_) (seg := [.int .i64 x4_1]) (j := 1) hcl16 hcc16 (show 2 ≤ 2 from by decide) (x' := (⟨(rd_T90 x3_1 (ji10)).f0, x4_1⟩ : S90)) (k90_mkM _ _ _ (⟨(rd_T90 x3_1 (ji10)).f0, x4_1⟩ : S90) ) (fun _ hk => hk)
                      have hx16_1 := hcc16 1 _ rfl
                      (try simp only [show (k90).sz = 2 from rfl, Nat.mul_one, Nat.add_zero] at hx16_1)
                      have hf16_1 := hfr16 1
                      (try simp only [show (k90).sz = 2 from rfl, Nat.mul_one, Nat.add_zero] at hf16_1)
                      clear hcl16 hcc16 hfr16 hM16
                      go_wp2_with (first | ((with_reducible refine gate_store (t := 2) (p := 41) rfl ?_); refine store_event (t := 2) (p := 41) (v := ?vo_w17) (w1 := (wr.setCell ⟨go14, ((ji10) : Int).toNat * 2 + 1, none⟩ (.int .i64 x4_1))) ?hg ?ho ?hn ?hr ?_; (case ho => rfl); (case hg => rfl); (case hn => rfl); (case hr => first | (go_simp; done) | (go_simp; rfl)); intro w17 hw; have hg : wr.grownBy w17 (some go14) := (by rw [hw]; exact HP16.2); have hp_ : Kd.R k90 90 w17 w1.heap.size (fun _ => True) (.slice (some ⟨go14, 0, none⟩) x3_1.length co15) y111 := (by rw [hw, Ny111.out]; exact HP16.1); clear HP16; have n0_ := Aside0.mk (hp_); have n1_ := Aside0.mk ((by rw [hw]; exact below_set (HB.out) GB14.out : Below w1.heap.size w1 w17)); clear HO_3; clear HB; have HO_3 := n0_; have HB := n1_; clear n0_ n1_; clear hg hw hp_))
                      go_roundg k1
                      case measure => have := HK1.out; omega
                      case rel => exact ⟨(y111), (wrap64 (x4_1 + 1)), (by first | rfl | (simp; done) | (simp [*]; done)), H', ⟨by have := HK1.out; omega⟩, ⟨by (with_reducible repeat (first | apply Kd.R_alloc | apply Kd.R_drewN | apply Kd.R_drew)); exact HO_3.out⟩, ⟨by repeat (first | (with_reducible first | exact HB.out | apply below_alloc | apply pw_below_drewN | apply below_drew1) | exact HB.out)⟩⟩
                    · rw [if_neg c13] at H
                      have c13b0 : (((rd_T90 x3_1 (ji10)).f1) == (wrap64 (x4_1 - 1))) = false := beq_eq_false_iff_ne.mpr c13
                      have c13b1 : (((rd_T90 x3_1 (ji10)).f1) != (wrap64 (x4_1 - 1))) = true := bne_iff_ne.mpr c13
                      by_cases c18 : x3_1.length < 8796093022208
                      · rw [if_pos c18] at H
                        have LMc18 := Aside0.mk c18
                        clear c18
                        obtain ⟨y112, hy112⟩ : ∃ y_ : List (S90), y_ = (x3_1 ++ [(⟨x4_1, x4_1⟩ : S90)]) := ⟨_, rfl⟩
                        replace H : (spec_l1Class.l0 k1 l0 y112 (wrap64 (x4_1 + 1))) = some r := by first | (rw [hy112]; with_reducible exact H) | (have H2_ := (Option.bind_some _ _).symm.trans H; rw [hy112]; with_reducible exact H2_) | (have H2_ := (Option.bind_some _ _).symm.trans H; with_reducible exact H2_) | with_reducible exact H | (rw [hy112]; exact H) | exact H
                        have Ny112 := Aside0.mk hy112
                        clear hy112
                        have H' := Aside0.mk H
                        clear H
                        have p109 : 0 ≤ (x4_1 : Int) := of_decide_eq_true (by first | (with_reducible assumption) | assumption)
                        have q109 : x4_1 < (l0.length : Int) := of_decide_eq_true (by first | (with_reducible assumption) | assumption)
                        have q109b : (x4_1 < 256) = True := eq_true (by have := HL.out; omega)
                        have hx109_0 : w1.cell? ⟨w.heap.size, x4_1.toNat, none⟩ = some (.bool (rdOf false l0 x4_1)) := (blk_cell HX0.out x4_1.toNat).trans (flags_get l0 _ (by have := HL.out; omega))
                        (try rw [← Nbq7.out] at hx109_0)
                        replace hx109_0 := (HB.out.cell (World.block_lt_of_cell? w1 _ hx109_0)).trans hx109_0
                        replace p109 := eq_true p109
                        replace q109 := eq_true q109
                        obtain ⟨Ao19, co19, eo19⟩ := Kd.R_slice HO_3.out
                        subst eo19
                        have p110 : 0 ≤ ((ji10) : Int) := of_decide_eq_true (by first | (with_reducible assumption) | assumption)
                        have q110 : (ji10) < (x3_1.length : Int) := of_decide_eq_true (by first | (with_reducible assumption) | assumption)
                        obtain ⟨ad110, e110, hx110_0, hx110_1⟩ := at_T90 (Kd.R_reads' HO_3.out).2.2 (ji10) p110 q110
                        cases e110
                        replace p110 := eq_true p110
                        replace q110 := eq_true q110
                        go_wp2_with (first | ((with_reducible refine gate_builtin (b := .append) (xs := #[.tmp 13, .tmp 17]) rfl ?_); (try (refine gate_guard (by rfl) ?_; dsimp only)); at_builtin; refine Kd.R_append k90 (w0 := w1) w1.heap.size rfl (.tmp 13) (.tmp 17) 38 90 (.agg #[(.int .i64 0), (.int .i64 0)]) 16 rfl Try.underlying38 info90 rfl (by decide) (by omega) (.slice (some ad110) x3_1.length co19) x3_1 (⟨x4_1, x4_1⟩ : S90) [.int .i64 x4_1, .int .i64 x4_1] (fun _ => True) (fun _ => False) rfl rfl ?aP (fun _ hk => hk.elim) ?aF ?aO ?aB ?aS ?aL ?_; (case aP => exact k90_mkM _ _ _ (⟨x4_1, x4_1⟩ : S90)); (case aB => exact (by repeat (first | (with_reducible first | exact HB.out | apply below_alloc | apply pw_below_drewN | apply below_drew1) | exact HB.out))); (case aF => exact (fun _ _ => trivial)); (case aO => exact (by (with_reducible repeat (first | apply Kd.R_alloc | apply Kd.R_drewN | apply Kd.R_drew)); exact HO_3.out)); (case aS => exact (below_size (by repeat (first | (with_reducible first | exact HB.out | apply below_alloc | apply pw_below_drewN | apply below_drew1) | exact HB.out)))); (case aL => have := LMc18.out; omega); intro v113 w20 ho hb hg hat; rw [← Ny112.out] at ho; have n0_ := Aside0.mk (hb); have n1_ := Aside0.mk (ho); clear HB; clear HO_3; have HB := n0_; have HO114 := n1_; clear n0_ n1_; clear ho hb hg hat))
                        go_roundg k1
                        case measure => have := HK1.out; omega
                        case rel => exact ⟨(y112), (wrap64 (x4_1 + 1)), (by first | rfl | (simp; done) | (simp [*]; done)), H', ⟨by have := HK1.out; omega⟩, ⟨by (with_reducible repeat (first | apply Kd.R_alloc | apply Kd.R_drewN | apply Kd.R_drew)); exact HO114.out⟩, ⟨by repeat (first | (with_reducible first | exact HB.out | apply below_alloc | apply pw_below_drewN | apply below_drew1) | exact HB.out)⟩⟩
                      · rw [if_neg c18] at H
                        exact absurd H (by simp)
                  · rw [if_neg c12] at H
                    exact absurd H (by simp)
                · rw [if_neg c11] at H
                  exact absurd H (by simp)
              · rw [if_neg c9] at H
                have c9b0 : decide (0 < (x3_1.length : Int)) = false := decide_eq_false c9
                have c9b1 : decide (0 < x3_1.length) = false := decide_eq_false (by omega)
                have c9b2 : decide (0 ≤ (wrap64 ((x3_1.length : Int) - 1))) = false := by rw [show (wrap64 ((x3_1.length : Int) - 1)) = -1 by unfold wrap64; omega]; rfl
                clear c9
                by_cases c21 : x3_1.length < 8796093022208
                · rw [if_pos c21] at H
                  have LMc21 := Aside0.mk c21
                  clear c21
                  obtain ⟨y115, hy115⟩ : ∃ y_ : List (S90), y_ = (x3_1 ++ [(⟨x4_1, x4_1⟩ : S90)]) := ⟨_, rfl⟩
                  replace H : (spec_l1Class.l0 k1 l0 y115 (wrap64 (x4_1 + 1))) = some r := by first | (rw [hy115]; with_reducible exact H) | (have H2_ := (Option.bind_some _ _).symm.trans H; rw [hy115]; with_reducible exact H2_) | (have H2_ := (Option.bind_some _ _).symm.trans H; with_reducible exact H2_) | with_reducible exact H | (rw [hy115]; exact H) | exact H
                  have Ny115 := Aside0.mk hy115
                  clear hy115
                  have H' := Aside0.mk H
                  clear H
                  have p109 : 0 ≤ (x4_1 : Int) := of_decide_eq_true (by first | (with_reducible assumption) | assumption)
                  have q109 : x4_1 < (l0.length : Int) := of_decide_eq_true (by first | (with_reducible assumption) | assumption)
                  have q109b : (x4_1 < 256) = True := eq_true (by have := HL.out; omega)
                  have hx109_0 : w1.cell? ⟨w.heap.size, x4_1.toNat, none⟩ = some (.bool (rdOf false l0 x4_1)) := (blk_cell HX0.out x4_1.toNat).trans (flags_get l0 _ (by have := HL.out; omega))
                  (try rw [← Nbq7.out] at hx109_0)
                  replace hx109_0 := (HB.out.cell (World.block_lt_of_cell? w1 _ hx109_0)).trans hx109_0
                  replace p109 := eq_true p109
                  replace q109 := eq_true q109
                  obtain ⟨Ao22, co22, eo22⟩ := Kd.R_slice HO_3.out
                  subst eo22
                  go_wp2_with (first | ((with_reducible refine gate_builtin (b := .append) (xs := #[.tmp 13, .tmp 17]) rfl ?_); (try (refine gate_guard (by rfl) ?_; dsimp only)); at_builtin; refine Kd.R_append k90 (w0 := w1) w1.heap.size rfl (.tmp 13) (.tmp 17) 38 90 (.agg #[(.int .i64 0), (.int .i64 0)]) 16 rfl Try.underlying38 info90 rfl (by decide) (by omega) (.slice Ao22 x3_1.length co22) x3_1 (⟨x4_1, x4_1⟩ : S90) [.int .i64 x4_1, .int .i64 x4_1] (fun _ => True) (fun _ => False) rfl rfl ?aP (fun _ hk => hk.elim) ?aF ?aO ?aB ?aS ?aL ?_; (case aP => exact k90_mkM _ _ _ (⟨x4_1, x4_1⟩ : S90)); (case aB => exact (by repeat (first | (with_reducible first | exact HB.out | apply below_alloc | apply pw_below_drewN | apply below_drew1) | exact HB.out))); (case aF => exact (fun _ _ => trivial)); (case aO => exact (by (with_reducible repeat (first | apply Kd.R_alloc | apply Kd.R_drewN | apply Kd.R_drew)); exact HO_3.out)); (case aS => exact (below_size (by repeat (first | (with_reducible first | exact HB.out | apply below_alloc | apply pw_below_drewN | apply below_drew1) | exact HB.out)))); (case aL => have := LMc21.out; omega); intro v116 w23 ho hb hg hat; rw [← Ny115.out] at ho; have n0_ := Aside0.mk (hb); have n1_ := Aside0.mk (ho); clear HB; clear HO_3; have HB := n0_; have HO117 := n1_; clear n0_ n1_; clear ho hb hg hat))
                  go_roundg k1
                  case measure => have := HK1.out; omega
                  case rel => exact ⟨(y115), (wrap64 (x4_1 + 1)), (by first | rfl | (simp; done) | (simp [*]; done)), H', ⟨by have := HK1.out; omega⟩, ⟨by (with_reducible repeat (first | apply Kd.R_alloc | apply Kd.R_drewN | apply Kd.R_drew)); exact HO117.out⟩, ⟨by repeat (first | (with_reducible first | exact HB.out | apply below_alloc | apply pw_below_drewN | apply below_drew1) | exact HB.out)⟩⟩
                · rw [if_neg c21] at H
                  exact absurd H (by simp)
            · replace c8 := Bool.eq_false_iff.mpr c8
              subst c8
              have H1 : (spec_l1Class.l0 k1 l0 x3_1 (wrap64 (x4_1 + 1))) = some r := by rw [if_neg (show ¬ (false = true) by decide)] at H; exact H
              clear H
              have H := H1
              clear H1
              have H' := Aside0.mk H
              clear H
              have p109 : 0 ≤ (x4_1 : Int) := of_decide_eq_true (by first | (with_reducible assumption) | assumption)
              have q109 : x4_1 < (l0.length : Int) := of_decide_eq_true (by first | (with_reducible assumption) | assumption)
              have q109b : (x4_1 < 256) = True := eq_true (by have := HL.out; omega)
              have hx109_0 : w1.cell? ⟨w.heap.size, x4_1.toNat, none⟩ = some (.bool (rdOf false l0 x4_1)) := (blk_cell HX0.out x4_1.toNat).trans (flags_get l0 _ (by have := HL.out; omega))
              (try rw [← Nbq7.out] at hx109_0)
              replace hx109_0 := (HB.out.cell (World.block_lt_of_cell? w1 _ hx109_0)).trans hx109_0
              replace p109 := eq_true p109
              replace q109 := eq_true q109
              obtain ⟨Ao23, co23, eo23⟩ := Kd.R_slice HO_3.out
              subst eo23
              go_wp2
              go_roundg k1
              case measure => have := HK1.out; omega
              case rel => exact ⟨(x3_1), (wrap64 (x4_1 + 1)), (by first | rfl | (simp; done) | (simp [*]; done)), H', ⟨by have := HK1.out; omega⟩, ⟨by (with_reducible repeat (first | apply Kd.R_alloc | apply Kd.R_drewN | apply Kd.R_drew)); exact HO_3.out⟩, ⟨by repeat (first | (with_reducible first | exact HB.out | apply below_alloc | apply pw_below_drewN | apply below_drew1) | exact HB.out)⟩⟩
          · rw [if_neg c6] at H
            exact absurd H (by simp)
        · rw [if_neg c5] at H
          exact absurd H (by simp)
      · rw [if_neg c4] at H
        have c4b0 : decide (x4_1 < 256) = false := decide_eq_false c4
        clear c4
        obtain rfl := Option.some.inj H
        go_wp2
        go_ret
        exact ⟨_, rfl, Kd.R_lower (by (with_reducible repeat (first | apply Kd.R_alloc | apply Kd.R_drewN | apply Kd.R_drew)); exact HO_3.out) (by have := HS0.out; omega), HB0.out.trans ((show Below w1.heap.size w1 _ by repeat (first | (with_reducible first | exact HB.out | apply below_alloc | apply pw_below_drewN | apply below_drew1) | exact HB.out)).mono HB0.out.size)⟩
end
section
open Go.Proofs.Ytlfhnlghfgjooaa.Kit
def marksB (l : List S90) (b : Nat) : Bool := decide (InTo (l.map spP) l.length b)
def combM (q : Bool → Bool → Bool) (x y : Nat → Bool) : List Bool := (List.range 256).map fun b => q (x b) (y b)
def impl_combined.f (k : Nat) (q : Bool → Bool → Bool) (l0 l1 : List S90) : Option (List S90) :=
  (impl_ClassOk.f k l0).bind fun t0 => if t0 = true then ((impl_ClassOk.f k l1).bind fun t1 => if t1 = true then (if classOk (l0.map spP) ∧ classOk (l1.map spP) then spec_l1Class.f k (combM q (marksB l0) (marksB l1)) else none) else some []) else some []
theorem impl_combined.mono : ∀ q a0 a1 k, LeO (impl_combined.f k q a0 a1) (impl_combined.f (k + 1) q a0 a1) := by
  intro q a0 a1 k
  unfold impl_combined.f
  repeat' first
      | (with_reducible exact impl_ClassOk.mono _ _)
      | (with_reducible exact spec_l1Class.mono _ _)
      | (with_reducible exact LeO.refl _)
      | (with_reducible exact LeO.none _)
      | (with_reducible refine LeO.ite ?_ ?_)
      | (with_reducible refine LeO.bind ?_ (fun _ => ?_))
theorem marksB_eq {l : List S90} {x : List Bool} (h : ∀ b, b < 256 → (x.getD b false = true ↔ InTo (l.map spP) l.length b)) (b : Nat) (hb : b < 256) : x.getD b false = marksB l b := by
  rw [Bool.eq_iff_iff, h b hb]
  unfold marksB
  rw [decide_eq_true_iff]
theorem combM_eq {q : Bool → Bool → Bool} {l0 l1 : List S90} {x y arr : List Bool} (ha : arr.length = 256) (h : ∀ b, b < 256 → arr.getD b false = q (x.getD b false) (y.getD b false))
    (hx : ∀ b, b < 256 → (x.getD b false = true ↔ InTo (l0.map spP) l0.length b)) (hy : ∀ b, b < 256 → (y.getD b false = true ↔ InTo (l1.map spP) l1.length b)) : arr = combM q (marksB l0) (marksB l1) := by
  have hl : (combM q (marksB l0) (marksB l1)).length = 256 := by unfold combM; rw [List.length_map, List.length_range]
  refine List.ext_getElem (by rw [ha, hl]) (fun i h1 h2 => ?_)
  have hi : i < 256 := by omega
  have e := h i hi
  rw [marksB_eq hx i hi, marksB_eq hy i hi, List.getD_eq_getElem?_getD, List.getElem?_eq_getElem h1] at e
  have e2 : (combM q (marksB l0) (marksB l1))[i]'h2 = q (marksB l0 i) (marksB l1 i) := by
    simp only [combM, List.getElem_map, List.getElem_range]
  rw [e2]
  exact e
theorem combM_len (q : Bool → Bool → Bool) (x y : Nat → Bool) : (combM q x y).length = 256 := by unfold combM; rw [List.length_map, List.length_range]
set_option maxHeartbeats 1000000 in
set_option maxRecDepth 100000 in
theorem impl_combined.calls (k : Nat) (q : Bool → Bool → Bool) (g : Nat) (A0 : Option Addr) (c0 : Nat) (l0 : List S90) (A1 : Option Addr) (c1 : Nat) (l1 : List S90) (r : List S90) (w : World)
    (hr0 : Kd.C k90 w A0 l0.length l0) (hc0 : l0.length ≤ c0) (hr1 : Kd.C k90 w A1 l1.length l1) (hc1 : l1.length ≤ c1) (h : impl_combined.f k q l0 l1 = some r)
    (eg : ∀ args w, (callFunc g args).run Try.prog w = .ok (.enter g args) w) (hp : ∀ W a b, Calls Try.prog g #[.bool a, .bool b] W fun e w' => e = .returned (.bool (q a b)) ∧ w' = W) :
    Calls Try.prog 75 #[.slice A0 l0.length c0, .slice A1 l1.length c1, .func (.func g) #[] #[]] w fun e w' => ∃ v0_ : Value, e = .returned (v0_) ∧ Kd.R k90 90 w' w.heap.size (fun _ => True) v0_ r ∧ Below w.heap.size w w' := by
  have HR0 := Aside0.mk hr0
  have HC0 := Aside0.mk hc0
  have HR1 := Aside0.mk hr1
  have HC1 := Aside0.mk hc1
  have HP := Aside0.mk hp
  have EG := Aside0.mk eg
  unfold impl_combined.f at h
  obtain ⟨t0, ht0, h⟩ := Option.bind_eq_some_iff.mp h
  have HT0 := Aside0.mk ht0
  clear hr0 hc0 hr1 hc1 hp eg ht0
  cases t0 with
  | false =>
    rw [if_neg (by simp)] at h
    obtain rfl := Option.some.inj h
    clear h
    go_enter Try.func75, Try.ntmps75
    go_wp2_with fail
    refine (impl_ClassOk.calls k _ _ l0 false _ HR0.out HC0.out HT0.out).mono ?_
    rintro e w' ⟨rfl, hb⟩
    have HB := Aside0.mk hb
    clear hb
    go_wp2
    go_ret
    exact ⟨_, rfl, Kd.R_nil _ _ _ _ _, HB.out⟩
  | true =>
    rw [if_pos rfl] at h
    obtain ⟨t1, ht1, h⟩ := Option.bind_eq_some_iff.mp h
    have HT1 := Aside0.mk ht1
    clear ht1
    cases t1 with
    | false =>
      rw [if_neg (by simp)] at h
      obtain rfl := Option.some.inj h
      clear h
      go_enter Try.func75, Try.ntmps75
      go_wp2_with fail
      refine (impl_ClassOk.calls k _ _ l0 true _ HR0.out HC0.out HT0.out).mono ?_
      rintro e w' ⟨rfl, hb⟩
      have HB := Aside0.mk hb
      clear hb
      go_wp2_with fail
      refine (impl_ClassOk.calls k _ _ l1 false _ (Kd.C_below HR1.out HB.out) HC1.out HT1.out).mono ?_
      rintro e w2 ⟨rfl, hb⟩
      have HB2 := Aside0.mk (HB.out.trans (hb.mono HB.out.size))
      clear hb HB
      go_wp2
      go_ret
      exact ⟨_, rfl, Kd.R_nil _ _ _ _ _, HB2.out⟩
    | true =>
      rw [if_pos rfl] at h
      by_cases hok : classOk (l0.map spP) ∧ classOk (l1.map spP)
      · rw [if_pos hok] at h
        have H := Aside0.mk h
        have HOK := Aside0.mk hok
        clear h hok
        go_enter Try.func75, Try.ntmps75
        go_wp2_with fail
        refine (impl_ClassOk.calls k _ _ l0 true _ HR0.out HC0.out HT0.out).mono ?_
        rintro e w' ⟨rfl, hb⟩
        have HB := Aside0.mk hb
        clear hb
        go_wp2_with fail
        refine (impl_ClassOk.calls k _ _ l1 true _ (Kd.C_below HR1.out HB.out) HC1.out HT1.out).mono ?_
        rintro e w2 ⟨rfl, hb⟩
        have HB2 := Aside0.mk (HB.out.trans (hb.mono HB.out.size))
        clear hb HB
        go_wp2_with fail
        refine (bytesOf_calls A0 c0 l0 _ (Kd.C_below HR0.out HB2.out) HC0.out HOK.out.1).mono ?_
        rintro e w3 ⟨x, rfl, hx, hmx, hb⟩
        have HB3 := Aside0.mk (HB2.out.trans (hb.mono HB2.out.size))
        clear hb HB2
        go_wp2_with fail
        refine (bytesOf_calls A1 c1 l1 _ (Kd.C_below HR1.out HB3.out) HC1.out HOK.out.2).mono ?_
        rintro e w4 ⟨y, rfl, hy, hmy, hb⟩
        have HB4 := Aside0.mk (HB3.out.trans (hb.mono HB3.out.size))
        have HX := Aside0.mk (And.intro hx hmx)
        have HY := Aside0.mk (And.intro hy hmy)
        clear hb HB3 hx hmx hy hmy
        have zs : Try.zeroCells117.size = 256 := by kernel_rfl
        have zo : Try.zeroCells117.all (·.oneCell') = true := by kernel_rfl
        have h3 : ∃ V b0 b1 b2, V = (((w4.alloc (.cells Try.zeroCells117 117)).alloc (.cells Try.zeroCells117 117)).alloc (.cells Try.zeroCells117 117)) ∧ b0 = w4.heap.size ∧ b1 = w4.heap.size + 1 ∧ b2 = w4.heap.size + 1 + 1 ∧
            V.heap[b0]? = some (.cells Try.zeroCells117 117 (0, 0)) ∧ V.heap[b1]? = some (.cells Try.zeroCells117 117 (0, 0)) ∧ V.heap[b2]? = some (.cells Try.zeroCells117 117 (0, 0)) ∧ Below w.heap.size w V := by
          refine ⟨_, _, _, _, rfl, rfl, rfl, rfl, ?_, ?_, ?_, ?_⟩
          · rw [Below.heap_alloc _ _ _ (by simp; omega), Below.heap_alloc _ _ _ (by simp)]
            exact heap_alloc_new _ _
          · rw [Below.heap_alloc _ _ _ (by simp)]
            have := heap_alloc_new (w4.alloc (.cells Try.zeroCells117 117)) (.cells Try.zeroCells117 117 (0, 0))
            simpa using this
          · have := heap_alloc_new ((w4.alloc (.cells Try.zeroCells117 117)).alloc (.cells Try.zeroCells117 117)) (.cells Try.zeroCells117 117 (0, 0))
            simpa using this
          · have s4 := HB4.out.size
            exact ((HB4.out.alloc s4 _).alloc (by simp; omega) _).alloc (by simp; omega) _
        obtain ⟨V, b0, b1, b2, eV, e0, e1, e2, hz0, hz1, hz2, hbV⟩ := h3
        have n01 : b1 ≠ b0 := by omega
        have n02 : b2 ≠ b0 := by omega
        have n12 : b2 ≠ b1 := by omega
        have gb0 : w.heap.size ≤ b0 := by have := HB4.out.size; omega
        have HZ0 := Aside0.mk hz0
        have HZ1 := Aside0.mk ((setRow_other V b0 b1 (flags x) n01).trans hz1)
        have HZ2 := Aside0.mk ((setRow_other (V.setRow b0 (flags x)) b1 b2 (flags y) n12).trans ((setRow_other V b0 b2 (flags x) n02).trans hz2))
        have HW := Aside0.mk (And.intro (setRow_heap ((V.setRow b0 (flags x)).setRow b1 (flags y)) b2 _ Try.zeroCells117 _ _ HZ2.out) (And.intro
          ((setRow_other _ b2 b1 Try.zeroCells117 n12.symm).trans (setRow_heap (V.setRow b0 (flags x)) b1 _ (flags y) _ _ HZ1.out))
          (And.intro ((setRow_other _ b2 b0 Try.zeroCells117 n02.symm).trans ((setRow_other _ b1 b0 (flags y) n01.symm).trans (setRow_heap V b0 _ (flags x) _ _ HZ0.out)))
            (below_setRow (below_setRow (below_setRow hbV gb0 (flags x)) (show w.heap.size ≤ b1 by omega) (flags y)) (show w.heap.size ≤ b2 by omega) Try.zeroCells117))))
        have hxs : (flags x).size = 256 := by rw [flags_size, HX.out.1]
        have hys : (flags y).size = 256 := by rw [flags_size, HY.out.1]
        have XS := Aside0.mk hxs
        have YS := Aside0.mk hys
        have ZS := Aside0.mk zs
        have ZO := Aside0.mk zo
        have EV := Aside0.mk eV
        have E0 := Aside0.mk e0
        have E1 := Aside0.mk e1
        have E2 := Aside0.mk e2
        have hst : (storeCells ⟨w4.heap.size + 1 + 1, 0, none⟩ Try.zeroCells117.toList).run Try.prog ((V.setRow b0 (flags x)).setRow b1 (flags y)) = .ok () (((V.setRow b0 (flags x)).setRow b1 (flags y)).setRow b2 Try.zeroCells117) := by
          have := run_storeCells_from (P := Try.prog) b2 117 Try.zeroCells117.toList 0 Try.zeroCells117 ((V.setRow b0 (flags x)).setRow b1 (flags y)) HZ2.out (by rw [Array.length_toList, Nat.zero_add]) (fun v hv => by have := Array.all_eq_true_iff_forall_mem.1 zo v (Array.mem_toList_iff.1 hv); exact this)
          rw [← e2]
          simpa using this
        have HST := Aside0.mk hst
        clear hst
        clear hz0 hz1 hz2 hbV hxs hys zs zo eV e0 e1 e2 n01 n02 n12 gb0
        go_wp2_with (first
          | (refine wpList_store_row rfl 117 _ _ rfl b0 (flags x) (by rw [E0.out]; first | rfl | simp) (by first | rfl | simp) 117 _ (by rw [← EV.out]; exact HZ0.out) (by rw [XS.out]; kernel_rfl) (by rw [XS.out]; kernel_rfl) (flags_one x) ?_; rw [← EV.out])
          | (refine wpList_store_row rfl 117 _ _ rfl b1 (flags y) (by rw [E1.out]; first | rfl | simp) (by first | rfl | simp) 117 _ HZ1.out (by rw [YS.out]; kernel_rfl) (by rw [YS.out]; kernel_rfl) (flags_one y) ?_)
          | fail)
        rw [HST.out]
        clear HST
        have EB := Aside0.mk (And.intro E0.out (And.intro E1.out E2.out))
        rw [← E2.out, ← E1.out, ← E0.out]
        generalize (((V.setRow b0 (flags x)).setRow b1 (flags y)).setRow b2 Try.zeroCells117) = W at *
        clear HZ0 HZ1 HZ2 E0 E1 E2 EV
        go_wp2_with fail
        go_loopg [24] 256 (fun gk v24 wr => ∃ (i : Int) (arr : List Bool), 0 ≤ i ∧ i ≤ 256 ∧ 256 - i ≤ gk ∧ v24 = .int .i64 i ∧ Aside0 (arr.length = 256) ∧ Aside0 (∀ b : Nat, (b : Int) < i → arr.getD b false = q (x.getD b false) (y.getD b false)) ∧
          Aside0 (wr.heap[b2]? = some (.cells (flags arr) 117 (0, 0))) ∧ Aside0 (wr.heap[b1]? = some (.cells (flags y) 117 (0, 0))) ∧ Aside0 (wr.heap[b0]? = some (.cells (flags x) 117 (0, 0))) ∧ Aside0 (Below w.heap.size w wr))
        case atStart => exact ⟨0, List.replicate 256 false, by omega, by omega, by omega, rfl, ⟨List.length_replicate⟩, ⟨fun b hb => by omega⟩, ⟨by rw [← zero_flags0]; exact HW.out.1⟩, ⟨HW.out.2.1⟩, ⟨HW.out.2.2.1⟩, ⟨HW.out.2.2.2⟩⟩
        case round =>
          clear HW
          obtain ⟨i, arr, i0, i1, hgk, rfl, HA, HF, H2, H1, H0, HB⟩ := hrel
          by_cases hlt : i < 256
          · have cx := (blk_cell H0.out i.toNat).trans (flags_get x _ (by rw [HX.out.1]; omega))
            have cy := (blk_cell H1.out i.toNat).trans (flags_get y _ (by rw [HY.out.1]; omega))
            have co := (blk_cell H2.out i.toNat).trans (flags_get arr _ (by rw [HA.out]; omega))
            have fo := blk_frozen H2.out i.toNat
            have p0 := eq_true i0
            have p1 := eq_true hlt
            have dx : wr.drew.cell? ⟨b0, i.toNat, none⟩ = some (.bool (x.getD i.toNat false)) := cx
            have dy : wr.drew.cell? ⟨b1, i.toNat, none⟩ = some (.bool (y.getD i.toNat false)) := cy
            have do_ : wr.drew.cell? ⟨b2, i.toNat, none⟩ = some (.bool (arr.getD i.toNat false)) := co
            have df : wr.drew.frozen? ⟨b2, i.toNat, none⟩ = false := fo
            have D2 := Aside0.mk (show wr.drew.heap = wr.heap from rfl)
            have DB := Aside0.mk (HB.out.drew)
            clear cx cy co fo
            go_wp2_with fail
            go_still_tail 10, (by kernel_rfl)
            refine wpStill_step (fun K hK => ?_)
            go_simp
            rw [EG.out]
            refine ⟨rfl, _, HP.out _ _ _, hK _ ?_⟩
            clear hK K
            repeat still_step
            refine wpStill_nil ?_
            change wpList _ _ _ _ _ wr.drew
            have F2 := Aside0.mk (show wr.drew.heap[b2]? = some (.cells (flags arr) 117 (0, 0)) from H2.out)
            have F1 := Aside0.mk (show wr.drew.heap[b1]? = some (.cells (flags y) 117 (0, 0)) from H1.out)
            have F0 := Aside0.mk (show wr.drew.heap[b0]? = some (.cells (flags x) 117 (0, 0)) from H0.out)
            clear D2
            generalize wr.drew = w2 at *
            go_wp2
            go_roundg (gk - 1)
            case measure => omega
            case rel =>
              refine ⟨i + 1, arr.set i.toNat (q (x.getD i.toNat false) (y.getD i.toNat false)), by omega, by omega, by omega, rfl, ⟨by rw [List.length_set]; exact HA.out⟩, ⟨fun b hb => ?_⟩, ⟨?_⟩, ⟨?_⟩, ⟨?_⟩, ⟨?_⟩⟩
              · by_cases e : b = i.toNat
                · subst e
                  rw [List.getD_eq_getElem?_getD, List.getElem?_set_self (by rw [HA.out]; omega)]
                  rfl
                · rw [List.getD_eq_getElem?_getD, List.getElem?_set_ne (fun h => e h.symm), ← List.getD_eq_getElem?_getD]
                  exact HF.out b (by omega)
              · rw [heap_setCell_same _ _ _ _ _ _ F2.out, flags_set]
                simp only [List.getD_eq_getElem?_getD]
              · rw [heap_setCell_other _ _ _ _ (show b1 ≠ b2 by have := EB.out; omega)]
                exact F1.out
              · rw [heap_setCell_other _ _ _ _ (show b0 ≠ b2 by have := EB.out; omega)]
                exact F0.out
              · exact DB.out.setCell (show w.heap.size ≤ b2 by have := EB.out; have := HB4.out.size; omega) _
          · have p1 := eq_false hlt
            go_wp2_with (first | (refine wpList_load_row rfl 117 _ rfl b2 (by first | rfl | simp) 117 _ (0, 0) _ H2.out Try.underlying117 rfl (by rw [flags_size, HA.out]; kernel_rfl) ?_) | fail)
            have ea := combM_eq HA.out (fun b hb => HF.out b (by omega)) HX.out.2 HY.out.2
            subst ea
            refine (impl_class.calls k _ r _ (combM_len _ _ _) H.out).mono ?_
            rintro e w' ⟨v0, rfl, ho, hb⟩
            have HO := Aside0.mk (Kd.R_lower ho HB.out.size)
            have HBB := Aside0.mk (HB.out.trans (hb.mono HB.out.size))
            clear ho hb
            go_wp2
            go_ret
            exact ⟨_, rfl, HO.out, HBB.out⟩
      · rw [if_neg hok] at h
        exact absurd h (by simp)
end

/-! ### impl_Others: function 45 -/
theorem impl_Others_1.calls (W : World) (a b : Bool) : Calls Try.prog 96 #[.bool a, .bool b] W fun e w' => e = .returned (.bool (!a)) ∧ w' = W := by
  cases a <;> cases b <;> (go_enter Try.func96, Try.ntmps96; go_wp2; go_ret; exact ⟨rfl, rfl⟩)
def impl_Others.f (k : Nat) (l0 : List S90) : Option (List S90) := impl_combined.f k (fun a _ => !a) l0 []
theorem impl_Others.mono : ∀ a0 k, LeO (impl_Others.f k a0) (impl_Others.f (k + 1) a0) := fun a0 k => impl_combined.mono _ a0 [] k
set_option maxHeartbeats 1000000 in
set_option maxRecDepth 100000 in
theorem impl_Others.calls (k : Nat) (A0 : Option Addr) (c0 : Nat) (l0 : List S90) (r : List S90) (w : World)
    (hr0 : Kd.C k90 w A0 l0.length l0) (hc0 : l0.length ≤ c0) (h : impl_Others.f k l0 = some r) :
    Calls Try.prog 45 #[.slice A0 l0.length c0] w fun e w' => ∃ v0_ : Value, e = .returned (v0_) ∧ Kd.R k90 90 w' w.heap.size (fun _ => True) v0_ r ∧ Below w.heap.size w w' := by
  have HC := Aside0.mk (impl_combined.calls k (fun a _ => !a) 96 A0 c0 l0 none 0 [] r w hr0 hc0 (Kd.C_nil _ _) (Nat.le_refl _) h (fun a v => Try.call96 a v) impl_Others_1.calls)
  clear hr0 hc0 h
  go_enter Try.func45, Try.ntmps45
  go_wp2_with fail
  refine HC.out.mono ?_
  rintro e w' ⟨v0, rfl, ho, hb⟩
  have HO := Aside0.mk ho
  have HB := Aside0.mk hb
  clear ho hb HC
  go_wp2
  go_ret
  exact ⟨_, rfl, HO.out, HB.out⟩

end Go.Proofs.Ytlfhnlghfgjooaa.PFnExactOthers
