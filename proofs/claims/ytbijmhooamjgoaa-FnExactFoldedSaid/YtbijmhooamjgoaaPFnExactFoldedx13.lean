-- Written by this session's own program (wip/pr.py) over the kit's printer; contracts that the printer does not know are given by hand.
import Derived.Test.YtbijmhooamjgoaaPFnExactFoldedx0
import Derived.Test.YtbijmhooamjgoaaPFnExactFoldedx12
namespace Go.Proofs.Ytbijmhooamjgoaa.PFnExactFolded
open Go.RowKit Go.Proofs.YtbijmhooamjgoaaW.PrintWords Go.Proofs.YtbijmhooamjgoaaW.PrintLast Go.Proofs.YtbijmhooamjgoaaW.PrintMore
attribute [local go_sem] max2_int min2_int max_two min_two max_three min_three max_four min_four   -- for this text's walks alone
set_option linter.unusedVariables false
set_option linter.unusedSimpArgs false

/-! ### laws_markRNodeS: function 154 -/
def laws_markRNodeS.l0 : Nat → List S181 → Int → Int → Option (Int × List S181)
  | 0, _, _, _ => none
  | k + 1, x0, x1, x5 => if x5 < (x0.length : Int) then (if 0 ≤ x5 then ((laws_markSpanS.f k (rd_T181 x0 x5).f1 (wrap64 (x1 + 1))).bind fun bs => ((laws_markInt64S.f k (rd_T181 x0 x5).f2 bs.1).bind fun bt => (laws_markRNodeS.l0 k (x0.set (x5 : Int).toNat (⟨x1, bs.2, bt.2, bt.1, wrap64 (bt.1 + 1)⟩ : S181)) (wrap64 (wrap64 (bt.1 + 1) + 1)) (wrap64 (x5 + 1))))) else (none)) else (some (x1, x0))
def laws_markRNodeS.f (k : Nat) (l0 : List S181) (a1 : Int) : Option (Int × List S181) := laws_markRNodeS.l0 k l0 a1 0
theorem laws_markRNodeS.mono_l : ∀ k, (∀ y0 y1 y2, LeO (laws_markRNodeS.l0 k y0 y1 y2) (laws_markRNodeS.l0 (k + 1) y0 y1 y2))
  | 0 => fun _ _ _ r h => by simp [laws_markRNodeS.l0] at h
  | k + 1 => by
    have ih := laws_markRNodeS.mono_l k; intro y0 y1 y2
    unfold laws_markRNodeS.l0
    repeat' first
      | (with_reducible exact ih _ _ _)
      | (with_reducible exact laws_markSpanS.mono _ _ _)
      | (with_reducible exact laws_markInt64S.mono _ _ _)
      | (with_reducible exact LeO.refl _)
      | (with_reducible refine LeO.ite ?_ ?_)
      | (with_reducible refine LeO.bind ?_ (fun _ => ?_))
theorem laws_markRNodeS.mono : ∀ a0 a1 k, LeO (laws_markRNodeS.f k a0 a1) (laws_markRNodeS.f (k + 1) a0 a1) := fun a0 a1 k => laws_markRNodeS.mono_l k a0 a1 0
set_option maxHeartbeats 1000000 in
set_option maxRecDepth 100000 in
theorem laws_markRNodeS.calls (k : Nat) (P0_ : Nat → Prop) (u9000_ : Value) (l0 : List S181) (a1 : Int) (r1 : Int) (r2 : List S181) (w0 w : World) (hB : Below w0.heap.size w0 w) (ho0 : Kd.S k181 181 w w0.heap.size P0_ u9000_ l0) (h : laws_markRNodeS.f k l0 a1 = some (r1, r2)) :
    Calls Try.prog 154 #[u9000_, .int .i64 a1] w fun e w' => e = .returned (.int .i64 r1) ∧ Kd.S k181 181 w' w0.heap.size (fun k_ => (P0_ k_ ∨ w.heap.size ≤ k_)) u9000_ r2 ∧ Below w0.heap.size w0 w' ∧ Kept w w' (fun k_ => P0_ k_) := by
  have HS := Aside0.mk (Kd.S_mono ho0 (fun k_ hk => (show P0_ k_ ∨ w.heap.size ≤ k_ from .inl hk)))
  have HB := Aside0.mk hB
  have HK := Aside0.mk (Kept.refl w (fun k_ => P0_ k_))
  have H := Aside0.mk (show laws_markRNodeS.l0 k l0 a1 0 = some (r1, r2) from h)
  have HL0 := Aside0.mk hB.size
  clear hB h
  obtain ⟨A0, c0, rfl⟩ := Kd.R_slice (Kd.S_R ho0)
  clear ho0
  have hu := Try.underlying181
  go_enter Try.func154, Try.ntmps154
  go_wp2
  go_loopg [1, 5] k (fun kq v1 v5 w' => ∃ (x0_1 : List S181) (x1_1 : Int) (x5_1 : Int), v1 = .int .i64 x1_1 ∧ v5 = .int .i64 x5_1 ∧ x0_1.length = l0.length ∧ Aside0 (laws_markRNodeS.l0 kq x0_1 x1_1 x5_1 = some (r1, r2)) ∧ Aside0 (kq ≤ k) ∧ Aside0 (Kd.S k181 181 w' w0.heap.size (fun k_ => (P0_ k_ ∨ w.heap.size ≤ k_)) (.slice A0 l0.length c0) x0_1) ∧ Aside0 (Kept w w' (fun k_ => P0_ k_)) ∧ Aside0 (Below w0.heap.size w0 w'))
  case atStart => exact ⟨l0, a1, 0, rfl, rfl, rfl, H, ⟨Nat.le_refl _⟩, HS, HK, HB⟩
  case round =>
    clear H HS HK HB; obtain ⟨x0, x1, x5, rfl, rfl, hlen, HA, HK1, HS, HK, HB⟩ := hrel
    cases gk with
    | zero => exact absurd HA.out (by simp [laws_markRNodeS.l0])
    | succ k1 =>
      have H := HA.out; clear HA
      simp only [laws_markRNodeS.l0] at H
      have HLen := Aside0.mk hlen
      by_cases c3 : x5 < (x0.length : Int)
      · rw [if_pos c3] at H
        by_cases c4 : 0 ≤ x5
        · rw [if_pos c4] at H
          obtain ⟨⟨c1, row1⟩, HCall, H⟩ := Option.bind_eq_some_iff.mp H; obtain ⟨⟨c2, row2⟩, HCall2, H⟩ := Option.bind_eq_some_iff.mp H; have HC := Aside0.mk HCall; have HC2 := Aside0.mk HCall2; have H' := Aside0.mk H; clear H HCall HCall2; obtain ⟨g, cap, hv, gb, _, cg, hblk⟩ := Kd.R_form (Kd.S_R HS.out) (by omega)
          have hA : A0 = some ⟨g, 0, none⟩ := by injection hv
          have hc : c0 = cap := by injection hv
          clear hv; subst hA; subst hc; obtain ⟨oki, c, hcl, hM, hcc, hfr, hoki, hH⟩ := Kd.S_elem HS.out z181 x5 c4 (by omega); have hM2 : k181.M wr w0.heap.size oki (rd_T181 x0 x5) c := hM; obtain ⟨v, vk, rfl, hR, hRk⟩ := k181_openM hM2; have d1 : (k181).sz = 5 := rfl; have hx0 := hcc 0 _ rfl; have hx1 := hcc 1 _ rfl; have hx2 := hcc 2 _ rfl; have hx3 := hcc 3 _ rfl; have hx4 := hcc 4 _ rfl; have hf0 := hfr 0
          rw [d1] at hx0 hx1 hx2 hx3 hx4 hf0
          rw [Nat.add_zero] at hx0 hf0
          obtain ⟨h1, g1⟩ := Kd.H_seg hH c4 (by omega) (seg := [.int .i64 x1]) (j := 0) (by rw [d1]; exact (by decide : (0 : Nat) + 1 ≤ 5)) (fun q_ hq_ => by rw [List.mem_singleton.1 hq_]; rfl); have hR1 := Kd.R_tight2 rfl (Kd.R_grown hR g1 (fun k_ hk e_ => (hoki k_ hk).2 (by injection e_))); have hRk1 := Kd.R_apart' (Kd.R_grown hRk g1 (fun k_ hk e_ => (hoki k_ hk).2 (by injection e_))) (Kd.R_typed hR1) (by decide); have hP := (Kd.S_R HS.out).1 g rfl
          have k2 := Kept.of_grown (S := (fun k_ => P0_ k_)) g1 HK.out (fun k_ e_ => by injection e_ with e_; exact e_ ▸ hP)
          have b2 : Below w0.heap.size w0 (wr.setCells g (x5.toNat * k181.sz + 0) [.int .i64 x1]) := below_set HB.out gb; have WE : (wr.setCells g (x5.toNat * k181.sz + 0) [.int .i64 x1]) = wr.setCell ⟨g, x5.toNat * 5, none⟩ (.int .i64 x1) := rfl
          rw [WE] at h1 hR1 hRk1 k2 b2
          have hbk1 := blk_set hblk (x5.toNat * 5) (.int .i64 x1); have HR := Aside0.mk hR1; have HRK := Aside0.mk hRk1; have HH := Aside0.mk h1; have HO := Aside0.mk hoki; have HK2 := Aside0.mk k2; have HB2 := Aside0.mk b2; have HBK := Aside0.mk hbk1
          have HPG := Aside0.mk (show ∀ k_, some g = some k_ → ((fun k_ => P0_ k_) k_ ∨ w.heap.size ≤ k_) from (fun k_ e_ => by injection e_ with e_; exact e_ ▸ hP))
          have GLT := Aside0.mk (Array.getElem?_eq_some_iff.mp hbk1).1; have t0 := eq_true c4; have t1 := eq_true (show x5 < (l0.length : Int) by omega); have C34 := Aside0.mk (And.intro c3 c4); have GB := Aside0.mk gb
          have y1 : (wr.setCell ⟨g, x5.toNat * 5, none⟩ (.int .i64 x1)).cell? ⟨g, x5.toNat * 5 + 2, none⟩ = some vk := (World.cell?_setCells_out g [.int .i64 x1] (x5.toNat * 5) wr ⟨g, x5.toNat * 5 + 2, none⟩ (fun _ _ => .inr (by show x5.toNat * 5 + 1 ≤ x5.toNat * 5 + 2; omega))).trans hx2
          have y3 : (wr.setCell ⟨g, x5.toNat * 5, none⟩ (.int .i64 x1)).cell? ⟨g, x5.toNat * 5 + 3, none⟩ = some _ := (World.cell?_setCells_out g [.int .i64 x1] (x5.toNat * 5) wr ⟨g, x5.toNat * 5 + 3, none⟩ (fun _ _ => .inr (by show x5.toNat * 5 + 1 ≤ x5.toNat * 5 + 3; omega))).trans hx3
          have y4 : (wr.setCell ⟨g, x5.toNat * 5, none⟩ (.int .i64 x1)).cell? ⟨g, x5.toNat * 5 + 4, none⟩ = some _ := (World.cell?_setCells_out g [.int .i64 x1] (x5.toNat * 5) wr ⟨g, x5.toNat * 5 + 4, none⟩ (fun _ _ => .inr (by show x5.toNat * 5 + 1 ≤ x5.toNat * 5 + 4; omega))).trans hx4
          have HY := Aside0.mk (And.intro y1 (And.intro y3 y4)); clear hcl hcc hfr hH hR hRk hR1 hRk1 h1 g1 k2 b2 WE hP hM hM2 hoki hlen c3 c4 d1 HB HK HS gb hblk hbk1 y1 y3 y4 hx2 hx3 hx4
          go_wp2_with fail
          generalize (wr.setCell ⟨g, x5.toNat * 5, none⟩ (.int .i64 x1)) = wm at *
          refine (laws_markSpanS.calls k1 _ v (rd_T181 x0 x5).f1 (wrap64 (x1 + 1)) c1 row1 w0 _ HB2.out HR.out HC.out).mono ?_
          rintro e w2 ⟨rfl, hR3, hB3, hK3⟩
          have GPI := Aside0.mk (show ¬ oki g from fun q => (HO.out g q).2 rfl); have HH3 := Aside0.mk (Kd.H_kept (Kd.H_widen HH.out) hK3 (fun k_ _ hn hk => hn (.inl hk.2))); have HRK3 := Aside0.mk (Kd.R_tight2 rfl (Kd.R_kept HRK.out hK3 (fun k_ hk hp => hk.2 hp.1))); have HR3 := Aside0.mk (Kd.R_tight2 rfl hR3); have HBK3 := Aside0.mk (blk_kept HBK.out hK3 (fun q => GPI.out q.2)); have HKT3 := Aside0.mk (Kept.then_ HK2.out hK3 (fun k_ hk => (HO.out k_ hk.2).1)); have HY3 := Aside0.mk (And.intro (cell_kept HY.out.1 hK3 (fun q => GPI.out q.2)) (And.intro (cell_kept HY.out.2.1 hK3 (fun q => GPI.out q.2)) (cell_kept HY.out.2.2 hK3 (fun q => GPI.out q.2)))); have HB3 := Aside0.mk hB3; have HSZ := Aside0.mk hK3.1; clear hR3 hB3 hK3 HH HR HRK HY HBK; have y2 := HY3.out.1
          go_wp2_with fail
          refine (laws_markInt64S.calls k1 _ vk (rd_T181 x0 x5).f2 c1 c2 row2 w0 _ HB3.out HRK3.out HC2.out).mono ?_
          rintro e w3 ⟨rfl, hR4, hB4, hK4⟩
          have HH4 := Kd.H_kept (Kd.H_widen HH3.out) hK4 (fun k_ _ hn hk => hn (.inl (.inl hk.2.1))); have HR1a := Kd.R_kept HR3.out hK4 (fun k_ hk hp => hp.2.2 hk.1); have HBK4 := blk_kept HBK3.out hK4 (fun q => GPI.out q.2.1); have HKT4 := Kept.then_ HKT3.out hK4 (fun k_ hk => (HO.out k_ hk.2.1).1); have z3 := cell_kept HY3.out.2.1 hK4 (fun q => GPI.out q.2.1); have z4 := cell_kept HY3.out.2.2 hK4 (fun q => GPI.out q.2.1); have HSZ4 := hK4.1; have d1 : (k181).sz = 5 := rfl; have GM : g < wm.heap.size := GLT.out; have c4 := C34.out.2; have hlx := HLen.out; have c3 := C34.out.1; have e3 := blk_frozen HBK4 (x5.toNat * 5 + 3); obtain ⟨h5, g5⟩ := Kd.H_seg HH4 c4 (by omega) (seg := [.int .i64 c2]) (j := 3) (by rw [d1]; exact (by decide : (3 : Nat) + 1 ≤ 5)) (fun q_ hq_ => by rw [List.mem_singleton.1 hq_]; rfl); obtain ⟨h6, g6⟩ := Kd.H_seg h5 c4 (by omega) (seg := [.int .i64 (wrap64 (c2 + 1))]) (j := 4) (by rw [d1]; exact (by decide : (4 : Nat) + 1 ≤ 5)) (fun q_ hq_ => by rw [List.mem_singleton.1 hq_]; rfl)
          have n1 : ∀ k_, (some k_ = v.ownBlock ∧ (some k_ = v.ownBlock ∧ oki k_ ∨ wm.heap.size ≤ k_)) → some k_ ≠ some g := fun k_ hk e_ => by
            injection e_ with e_
            subst e_
            rcases hk.2 with q | q
            · exact GPI.out q.2
            · omega
          have n2 : ∀ k_, ((some k_ = vk.ownBlock ∧ oki k_ ∧ some k_ ≠ v.ownBlock) ∨ w2.heap.size ≤ k_) → some k_ ≠ some g := fun k_ hk e_ => by
            injection e_ with e_
            subst e_; have := HSZ.out
            rcases hk with q | q
            · exact GPI.out q.2.1
            · omega
          have r1a := Kd.R_grown HR1a g5 n1; have r1b := Kd.R_grown r1a g6 n1; have r2a := Kd.R_grown hR4 g5 n2; have r2b := Kd.R_grown r2a g6 n2; have GB' := GB.out
          have k5 := Kept.of_grown (S := (fun k_ => P0_ k_)) g6 (Kept.of_grown (S := (fun k_ => P0_ k_)) g5 HKT4 HPG.out) HPG.out
          have b5 : Below w0.heap.size w0 ((w3.setCells g (x5.toNat * k181.sz + 3) [.int .i64 c2]).setCells g (x5.toNat * k181.sz + 4) [.int .i64 (wrap64 (c2 + 1))]) := below_set (below_set hB4 GB') GB'; have WE : ((w3.setCells g (x5.toNat * k181.sz + 3) [.int .i64 c2]).setCells g (x5.toNat * k181.sz + 4) [.int .i64 (wrap64 (c2 + 1))]) = (w3.setCell ⟨g, x5.toNat * 5 + 3, none⟩ (.int .i64 c2)).setCell ⟨g, x5.toNat * 5 + 4, none⟩ (.int .i64 (wrap64 (c2 + 1))) := rfl
          rw [WE] at h6 r1b r2b k5 b5
          have e4 := blk_frozen HBK4 (x5.toNat * 5 + 4); have HF := Aside0.mk h6; have HA1 := Aside0.mk r1b; have HA2 := Aside0.mk r2b; have HK5 := Aside0.mk k5; have HB5 := Aside0.mk b5; clear h5 h6 g5 g6 n1 n2 r1a r1b r2a r2b k5 b5 WE HH4 HR1a HBK4 HKT4 hR4 hB4 hK4 d1 GM c4 c3 hlx GB' y2
          go_wp2_with fail
          go_roundg k1
          case measure => have := HK1.out; omega
          case rel =>
            refine ⟨x0.set (x5 : Int).toNat (⟨x1, row1, row2, c2, wrap64 (c2 + 1)⟩ : S181), wrap64 (wrap64 (c2 + 1) + 1), wrap64 (x5 + 1), rfl, by first | rfl | (simp; done), by rw [List.length_set]; exact HLen.out, H', ⟨by have := HK1.out; omega⟩, ⟨?_⟩, HK5, HB5⟩
            have m1 := Kd.R_mono HA1.out (ok' := fun k_ => oki k_ ∨ wm.heap.size ≤ k_) (fun k_ hk => hk.2.elim (fun q => .inl q.2) .inr); have m2 := Kd.R_mono HA2.out (ok' := fun k_ => oki k_ ∨ wm.heap.size ≤ k_) (fun k_ hk => hk.elim (fun q => .inl q.2.1) (fun q => .inr (by have := HSZ.out; omega)))
            refine Kd.H_back HF.out (okp := fun k_ => oki k_ ∨ wm.heap.size ≤ k_) (k181_mkM _ _ _ (⟨x1, row1, row2, c2, wrap64 (c2 + 1)⟩ : S181) m1 m2) (fun k_ hk => ?_)
            rcases hk with hk | hk
            · exact .inl (.inl hk)
            · exact .inl (.inr ⟨.inr (Nat.le_trans HK2.out.1 hk), hk⟩)
        · rw [if_neg c4] at H
          exact absurd H (by simp)
      · rw [if_neg c3] at H
        have c3b := eq_false (show ¬ x5 < (l0.length : Int) by omega); obtain ⟨rfl, rfl⟩ := Prod.mk.inj (Option.some.inj H); clear H c3 hlen
        go_wp2
        go_ret
        exact ⟨by first | rfl | (simp; done), HS.out, HB.out, HK.out⟩

/-! ### laws_markRx: function 70 -/
def laws_markRx.f (k : Nat) (l0_0 : List S181) (a1 : Int) : Option (Int × List S181) := laws_markRNodeS.f k l0_0 a1
theorem laws_markRx.mono : ∀ a0 a1 k, LeO (laws_markRx.f k a0 a1) (laws_markRx.f (k + 1) a0 a1) := fun a0 a1 k => laws_markRNodeS.mono a0 a1 k
set_option maxHeartbeats 1000000 in
set_option maxRecDepth 100000 in
theorem laws_markRx.calls (k : Nat) (P0_0_ : Nat → Prop) (u9000_ : Value) (l0_0 : List S181) (a1 : Int) (r1 : Int) (r2 : List S181) (w0 w : World) (hB : Below w0.heap.size w0 w) (ho0_0 : Kd.S k181 181 w w0.heap.size P0_0_ u9000_ l0_0) (h : laws_markRx.f k l0_0 a1 = some (r1, r2)) :
    Calls Try.prog 70 #[.agg #[u9000_], .int .i64 a1] w fun e w' => e = .returned (.int .i64 r1) ∧ Kd.S k181 181 w' w0.heap.size (fun k_ => (P0_0_ k_ ∨ w.heap.size ≤ k_)) u9000_ r2 ∧ Below w0.heap.size w0 w' ∧ Kept w w' (fun k_ => P0_0_ k_) := by
  have E0 := Aside0.mk (show laws_markRNodeS.f k l0_0 a1 = some (r1, r2) from h)
  have HO0 := Aside0.mk (Kd.S_alloc (Kd.S_mono (Kd.S_bound ho0_0) (ok' := fun k_ => P0_0_ k_ ∧ k_ < w.heap.size) (fun k_ hk => ⟨hk.1, hk.2.2.1⟩)) (.cells #[u9000_] 106 (0, 0)))
  clear h ho0_0
  have HK := Aside0.mk (Kept.alloc (Kept.refl w (fun k_ => P0_0_ k_)) (.cells #[u9000_] 106 (0, 0)))
  have HB := Aside0.mk (below_alloc hB (.cells #[u9000_] 106 (0, 0)))
  have HWS := Aside0.mk (show w.heap.size < (w.alloc (.cells #[u9000_] 106 (0, 0))).heap.size by simp)
  have hn := heap_alloc_new w (.cells #[u9000_] 106 (0, 0))
  have z0 := blk_cell hn 0
  simp only [List.getElem?_toArray, List.getElem?_cons_zero, List.getElem?_cons_succ] at z0
  clear hn hB
  go_enter Try.func70, Try.ntmps70
  go_wp2_with fail
  generalize (w.alloc (.cells #[u9000_] 106 (0, 0))) = W at *
  refine (laws_markRNodeS.calls k (fun k_ => P0_0_ k_ ∧ k_ < w.heap.size) u9000_ l0_0 a1 r1 r2 w0 _ ?b0 ?o0 E0.out).mono ?_
  case b0 => repeat (first | exact HB.out | apply pw_below_drewN)
  case o0 => repeat (first | exact HO0.out | apply Kd.S_drewN)
  rintro e w0_ ⟨rfl, hR, hB2, hK2⟩
  have HO0 := Aside0.mk (Kd.S_mono hR (ok' := fun k_ => (P0_0_ k_ ∧ k_ < w.heap.size) ∨ w.heap.size ≤ k_) (fun k_ hk => by exact hk.imp id (fun hk => Nat.le_trans (Nat.le_of_lt HWS.out) hk)))
  have HK := Aside0.mk (Kept.then_ (show Kept w _ _ from by repeat (first | exact HK.out | apply Kept.drewN)) hK2 (fun k_ hk => by exact .inl hk.1))
  have HB := Aside0.mk hB2
  clear z0 hR hB2 hK2
  go_wp2
  go_ret
  exact ⟨by first | rfl | (simp; done), by refine Kd.S_mono (ok := fun k_ => (P0_0_ k_ ∧ k_ < w.heap.size) ∨ w.heap.size ≤ k_) ?_ (fun k_ hk => by exact hk.imp (fun q => q.1) id); repeat (first | exact HO0.out | apply Kd.S_drewN), by repeat (first | exact HB.out | apply pw_below_drewN), by repeat (first | exact HK.out | apply Kept.drewN)⟩

/-! ### laws_heldInt64S: function 27 -/
def laws_heldInt64S.l0 : Nat → List Int → Int → Int → Option (Int)
  | 0, _, _, _ => none
  | k + 1, x0, x1, x5 => if x5 < (x0.length : Int) then (if 0 ≤ x5 then (if (rd x0 x5) = x1 then (laws_heldInt64S.l0 k x0 (wrap64 (x1 + 1)) (wrap64 (x5 + 1))) else (some (-1))) else (none)) else (some x1)
def laws_heldInt64S.f (k : Nat) (l0 : List Int) (a1 : Int) : Option (Int) := laws_heldInt64S.l0 k l0 a1 0
theorem laws_heldInt64S.mono_l : ∀ k, (∀ y0 y1 y2, LeO (laws_heldInt64S.l0 k y0 y1 y2) (laws_heldInt64S.l0 (k + 1) y0 y1 y2))
  | 0 => fun _ _ _ r h => by simp [laws_heldInt64S.l0] at h
  | k + 1 => by
    have ih0 := laws_heldInt64S.mono_l k
    · intro y0 y1 y2
      unfold laws_heldInt64S.l0
      repeat' first
      | (with_reducible exact LeO.refl _)
      | exact ih0 _ _ _
      | exact LeO.none _
      | refine LeO.ite ?_ ?_
      | refine LeO.bind ?_ (fun _ => ?_)
theorem laws_heldInt64S.mono : ∀ a0 a1 k, LeO (laws_heldInt64S.f k a0 a1) (laws_heldInt64S.f (k + 1) a0 a1) := by
  intro a0 a1 k
  have ih0 := laws_heldInt64S.mono_l k
  unfold laws_heldInt64S.f
  repeat' first
      | (with_reducible exact LeO.refl _)
      | exact ih0 _ _ _
      | exact LeO.none _
      | refine LeO.ite ?_ ?_
      | refine LeO.bind ?_ (fun _ => ?_)
set_option maxHeartbeats 8000000 in
set_option maxRecDepth 100000 in
theorem laws_heldInt64S.calls (k : Nat) (A0 : Option Addr) (c0 : Nat) (l0 : List Int) (a1 : Int) (r : Int) (w : World) (hr0 : Kd.C (Kd.int .i64) w A0 l0.length l0) (hc0 : l0.length ≤ c0) (h : laws_heldInt64S.f k l0 a1 = some r) :
    Calls Try.prog 27 #[.slice A0 l0.length c0, .int .i64 a1] w fun e w' => e = .returned (.int .i64 r) ∧ Drawn0 w w' := by
  have HR0 := Aside0.mk hr0
  have HC0 := Aside0.mk hc0
  clear hr0 hc0
  have H : (laws_heldInt64S.l0 k l0 a1 0) = some r := h
  clear h
  have H' := Aside0.mk H
  clear H
  go_enter Try.func27, Try.ntmps27
  go_wp2
  go_loopg [1, 5] k (fun kq v1 v5 w' => ∃ (x1_1 : Int) (x5_1 : Int), v1 = .int .i64 x1_1 ∧ v5 = .int .i64 x5_1 ∧ Aside0 (laws_heldInt64S.l0 kq l0 x1_1 x5_1 = some r) ∧ Aside0 (kq ≤ k) ∧ Drawn0 w w')
  case atStart => exact ⟨(a1), (0), (by first | rfl | (simp; done) | (simp [*]; done)), (by first | rfl | (simp; done) | (simp [*]; done)), H', ⟨Nat.le_refl _⟩, by repeat (first | exact Drawn0.refl _ | apply Drawn0.step)⟩
  case round =>
    clear H'; (try clear c2); (try clear p2); obtain ⟨x1_1, x5_1, rfl, rfl, HA, HK1, ⟨m1, rfl⟩⟩ := hrel
    cases gk with
    | zero => exact absurd HA.out (by simp [laws_heldInt64S.l0])
    | succ k1 =>
      have H := HA.out; clear HA
      simp only [laws_heldInt64S.l0] at H
      by_cases c3 : x5_1 < (l0.length : Int)
      · rw [if_pos c3] at H
        have c3b0 : decide (x5_1 < (l0.length : Int)) = true := decide_eq_true c3; clear c3
        by_cases c4 : 0 ≤ x5_1
        · rw [if_pos c4] at H
          have c4b0 : decide (0 ≤ x5_1) = true := decide_eq_true c4; clear c4
          by_cases c5 : (rd l0 x5_1) = x1_1
          · rw [if_pos c5] at H
            have c5b0 : ((rd l0 x5_1) == x1_1) = true := beq_iff_eq.mpr c5; have c5b1 : ((rd l0 x5_1) != x1_1) = false := bne_eq_false_iff_eq.mpr c5; clear c5; have H' := Aside0.mk H; clear H; have p309 : 0 ≤ (x5_1 : Int) := of_decide_eq_true (by assumption); have q309 : x5_1 < (l0.length : Int) := of_decide_eq_true (by assumption); obtain ⟨ad309, e309, hx309_0⟩ := Kd.at_int HR0.out x5_1 p309 q309; cases e309; replace p309 := eq_true p309; replace q309 := eq_true q309
            go_wp2
            go_roundg k1
            case measure => have := HK1.out; omega
            case rel => exact ⟨(wrap64 (x1_1 + 1)), (wrap64 (x5_1 + 1)), (by first | rfl | (simp; done) | (simp [*]; done)), (by first | rfl | (simp; done) | (simp [*]; done)), H', ⟨by have := HK1.out; omega⟩, by repeat (first | exact Drawn0.refl _ | apply Drawn0.step)⟩
          · rw [if_neg c5] at H
            have c5b0 : ((rd l0 x5_1) == x1_1) = false := beq_eq_false_iff_ne.mpr c5; have c5b1 : ((rd l0 x5_1) != x1_1) = true := bne_iff_ne.mpr c5; obtain rfl := Option.some.inj H; have p309 : 0 ≤ (x5_1 : Int) := of_decide_eq_true (by assumption); have q309 : x5_1 < (l0.length : Int) := of_decide_eq_true (by assumption); obtain ⟨ad309, e309, hx309_0⟩ := Kd.at_int HR0.out x5_1 p309 q309; cases e309; replace p309 := eq_true p309; replace q309 := eq_true q309
            go_wp2
            go_ret
            exact ⟨by first | rfl | (simp; done) | (simp [*]; done), by repeat (first | exact Drawn0.refl _ | apply Drawn0.step)⟩
        · rw [if_neg c4] at H
          exact absurd H (by simp)
      · rw [if_neg c3] at H
        have c3b0 : decide (x5_1 < (l0.length : Int)) = false := decide_eq_false c3; clear c3; obtain rfl := Option.some.inj H
        go_wp2
        go_ret
        exact ⟨by first | rfl | (simp; done) | (simp [*]; done), by repeat (first | exact Drawn0.refl _ | apply Drawn0.step)⟩

/-! ### laws_heldSpanS: function 195 -/
def laws_heldSpanS.l0 : Nat → List (S33) → Int → Int → Option (Int)
  | 0, _, _, _ => none
  | k + 1, x0, x1, x5 => if x5 < (x0.length : Int) then (if 0 ≤ x5 then (if ((rd_T33 x0 x5).f0) = x1 then (if ((rd_T33 x0 x5).f1) = (wrap64 (x1 + 1)) then (laws_heldSpanS.l0 k x0 (wrap64 ((wrap64 (x1 + 1)) + 1)) (wrap64 (x5 + 1))) else (some (-1))) else (some (-1))) else (none)) else (some x1)
def laws_heldSpanS.f (k : Nat) (l0 : List (S33)) (a1 : Int) : Option (Int) := laws_heldSpanS.l0 k l0 a1 0
theorem laws_heldSpanS.mono_l : ∀ k, (∀ y0 y1 y2, LeO (laws_heldSpanS.l0 k y0 y1 y2) (laws_heldSpanS.l0 (k + 1) y0 y1 y2))
  | 0 => fun _ _ _ r h => by simp [laws_heldSpanS.l0] at h
  | k + 1 => by
    have ih0 := laws_heldSpanS.mono_l k
    · intro y0 y1 y2
      unfold laws_heldSpanS.l0
      repeat' first
      | (with_reducible exact LeO.refl _)
      | exact ih0 _ _ _
      | exact LeO.none _
      | refine LeO.ite ?_ ?_
      | refine LeO.bind ?_ (fun _ => ?_)
theorem laws_heldSpanS.mono : ∀ a0 a1 k, LeO (laws_heldSpanS.f k a0 a1) (laws_heldSpanS.f (k + 1) a0 a1) := by
  intro a0 a1 k
  have ih0 := laws_heldSpanS.mono_l k
  unfold laws_heldSpanS.f
  repeat' first
      | (with_reducible exact LeO.refl _)
      | exact ih0 _ _ _
      | exact LeO.none _
      | refine LeO.ite ?_ ?_
      | refine LeO.bind ?_ (fun _ => ?_)
set_option maxHeartbeats 8000000 in
set_option maxRecDepth 100000 in
theorem laws_heldSpanS.calls (k : Nat) (A0 : Option Addr) (c0 : Nat) (l0 : List (S33)) (a1 : Int) (r : Int) (w : World) (hr0 : Kd.C k33 w A0 l0.length l0) (hc0 : l0.length ≤ c0) (h : laws_heldSpanS.f k l0 a1 = some r) :
    Calls Try.prog 195 #[.slice A0 l0.length c0, .int .i64 a1] w fun e w' => e = .returned (.int .i64 r) ∧ Drawn0 w w' := by
  have HR0 := Aside0.mk hr0
  have HC0 := Aside0.mk hc0
  clear hr0 hc0
  have H : (laws_heldSpanS.l0 k l0 a1 0) = some r := h
  clear h
  have H' := Aside0.mk H
  clear H
  go_enter Try.func195, Try.ntmps195
  go_wp2
  go_loopg [1, 5] k (fun kq v1 v5 w' => ∃ (x1_1 : Int) (x5_1 : Int), v1 = .int .i64 x1_1 ∧ v5 = .int .i64 x5_1 ∧ Aside0 (laws_heldSpanS.l0 kq l0 x1_1 x5_1 = some r) ∧ Aside0 (kq ≤ k) ∧ Drawn0 w w')
  case atStart => exact ⟨(a1), (0), (by first | rfl | (simp; done) | (simp [*]; done)), (by first | rfl | (simp; done) | (simp [*]; done)), H', ⟨Nat.le_refl _⟩, by repeat (first | exact Drawn0.refl _ | apply Drawn0.step)⟩
  case round =>
    clear H'; (try clear c1); (try clear p2); obtain ⟨x1_1, x5_1, rfl, rfl, HA, HK1, ⟨m1, rfl⟩⟩ := hrel
    cases gk with
    | zero => exact absurd HA.out (by simp [laws_heldSpanS.l0])
    | succ k1 =>
      have H := HA.out; clear HA
      simp only [laws_heldSpanS.l0] at H
      by_cases c3 : x5_1 < (l0.length : Int)
      · rw [if_pos c3] at H
        have c3b0 : decide (x5_1 < (l0.length : Int)) = true := decide_eq_true c3; clear c3
        by_cases c4 : 0 ≤ x5_1
        · rw [if_pos c4] at H
          have c4b0 : decide (0 ≤ x5_1) = true := decide_eq_true c4; clear c4
          by_cases c5 : ((rd_T33 l0 x5_1).f0) = x1_1
          · rw [if_pos c5] at H
            have c5b0 : (((rd_T33 l0 x5_1).f0) == x1_1) = true := beq_iff_eq.mpr c5; have c5b1 : (((rd_T33 l0 x5_1).f0) != x1_1) = false := bne_eq_false_iff_eq.mpr c5; clear c5
            by_cases c6 : ((rd_T33 l0 x5_1).f1) = (wrap64 (x1_1 + 1))
            · rw [if_pos c6] at H
              have c6b0 : (((rd_T33 l0 x5_1).f1) == (wrap64 (x1_1 + 1))) = true := beq_iff_eq.mpr c6; have c6b1 : (((rd_T33 l0 x5_1).f1) != (wrap64 (x1_1 + 1))) = false := bne_eq_false_iff_eq.mpr c6; clear c6; have H' := Aside0.mk H; clear H; have p310 : 0 ≤ (x5_1 : Int) := of_decide_eq_true (by assumption); have q310 : x5_1 < (l0.length : Int) := of_decide_eq_true (by assumption); obtain ⟨ad310, e310, hx310_0, hx310_1⟩ := at_T33 HR0.out x5_1 p310 q310; cases e310; replace p310 := eq_true p310; replace q310 := eq_true q310; have p311 : 0 ≤ (x5_1 : Int) := of_decide_eq_true (by assumption); have q311 : x5_1 < (l0.length : Int) := of_decide_eq_true (by assumption); obtain ⟨ad311, e311, hx311_0, hx311_1⟩ := at_T33 HR0.out x5_1 p311 q311; obtain rfl : ad310 = ad311 := (by injection e311); replace p311 := eq_true p311; replace q311 := eq_true q311
              go_wp2
              go_roundg k1
              case measure => have := HK1.out; omega
              case rel => exact ⟨(wrap64 ((wrap64 (x1_1 + 1)) + 1)), (wrap64 (x5_1 + 1)), (by first | rfl | (simp; done) | (simp [*]; done)), (by first | rfl | (simp; done) | (simp [*]; done)), H', ⟨by have := HK1.out; omega⟩, by repeat (first | exact Drawn0.refl _ | apply Drawn0.step)⟩
            · rw [if_neg c6] at H
              have c6b0 : (((rd_T33 l0 x5_1).f1) == (wrap64 (x1_1 + 1))) = false := beq_eq_false_iff_ne.mpr c6; have c6b1 : (((rd_T33 l0 x5_1).f1) != (wrap64 (x1_1 + 1))) = true := bne_iff_ne.mpr c6; obtain rfl := Option.some.inj H; have p310 : 0 ≤ (x5_1 : Int) := of_decide_eq_true (by assumption); have q310 : x5_1 < (l0.length : Int) := of_decide_eq_true (by assumption); obtain ⟨ad310, e310, hx310_0, hx310_1⟩ := at_T33 HR0.out x5_1 p310 q310; cases e310; replace p310 := eq_true p310; replace q310 := eq_true q310; have p311 : 0 ≤ (x5_1 : Int) := of_decide_eq_true (by assumption); have q311 : x5_1 < (l0.length : Int) := of_decide_eq_true (by assumption); obtain ⟨ad311, e311, hx311_0, hx311_1⟩ := at_T33 HR0.out x5_1 p311 q311; obtain rfl : ad310 = ad311 := (by injection e311); replace p311 := eq_true p311; replace q311 := eq_true q311
              go_wp2
              go_ret
              exact ⟨by first | rfl | (simp; done) | (simp [*]; done), by repeat (first | exact Drawn0.refl _ | apply Drawn0.step)⟩
          · rw [if_neg c5] at H
            have c5b0 : (((rd_T33 l0 x5_1).f0) == x1_1) = false := beq_eq_false_iff_ne.mpr c5; have c5b1 : (((rd_T33 l0 x5_1).f0) != x1_1) = true := bne_iff_ne.mpr c5; obtain rfl := Option.some.inj H; have p310 : 0 ≤ (x5_1 : Int) := of_decide_eq_true (by assumption); have q310 : x5_1 < (l0.length : Int) := of_decide_eq_true (by assumption); obtain ⟨ad310, e310, hx310_0, hx310_1⟩ := at_T33 HR0.out x5_1 p310 q310; cases e310; replace p310 := eq_true p310; replace q310 := eq_true q310
            go_wp2
            go_ret
            exact ⟨by first | rfl | (simp; done) | (simp [*]; done), by repeat (first | exact Drawn0.refl _ | apply Drawn0.step)⟩
        · rw [if_neg c4] at H
          exact absurd H (by simp)
      · rw [if_neg c3] at H
        have c3b0 : decide (x5_1 < (l0.length : Int)) = false := decide_eq_false c3; clear c3; obtain rfl := Option.some.inj H
        go_wp2
        go_ret
        exact ⟨by first | rfl | (simp; done) | (simp [*]; done), by repeat (first | exact Drawn0.refl _ | apply Drawn0.step)⟩

/-! ### laws_heldRNodeS: function 155 -/
def laws_heldRNodeS.l0 : Nat → List (S181) → Int → Int → Option (Int)
  | 0, _, _, _ => none
  | k + 1, x0, x1, x5 => if x5 < (x0.length : Int) then (if 0 ≤ x5 then (if ((rd_T181 x0 x5).f0) = x1 then ((laws_heldSpanS.f k ((rd_T181 x0 x5).f1) (wrap64 (x1 + 1))).bind fun t314 => (if t314 < 0 then (some (-1)) else ((laws_heldInt64S.f k ((rd_T181 x0 x5).f2) t314).bind fun t316 => (if t316 < 0 then (some (-1)) else (if ((rd_T181 x0 x5).f3) = t316 then (if ((rd_T181 x0 x5).f4) = (wrap64 (t316 + 1)) then (laws_heldRNodeS.l0 k x0 (wrap64 ((wrap64 (t316 + 1)) + 1)) (wrap64 (x5 + 1))) else (some (-1))) else (some (-1))))))) else (some (-1))) else (none)) else (some x1)
def laws_heldRNodeS.f (k : Nat) (l0 : List (S181)) (a1 : Int) : Option (Int) := laws_heldRNodeS.l0 k l0 a1 0
theorem laws_heldRNodeS.mono_l : ∀ k, (∀ y0 y1 y2, LeO (laws_heldRNodeS.l0 k y0 y1 y2) (laws_heldRNodeS.l0 (k + 1) y0 y1 y2))
  | 0 => fun _ _ _ r h => by simp [laws_heldRNodeS.l0] at h
  | k + 1 => by
    have ih0 := laws_heldRNodeS.mono_l k
    · intro y0 y1 y2
      unfold laws_heldRNodeS.l0
      repeat' first
      | (with_reducible exact LeO.refl _)
      | exact ih0 _ _ _
      | exact laws_heldInt64S.mono _ _ _
      | exact laws_heldSpanS.mono _ _ _
      | exact LeO.none _
      | refine LeO.ite ?_ ?_
      | refine LeO.bind ?_ (fun _ => ?_)
theorem laws_heldRNodeS.mono : ∀ a0 a1 k, LeO (laws_heldRNodeS.f k a0 a1) (laws_heldRNodeS.f (k + 1) a0 a1) := by
  intro a0 a1 k
  have ih0 := laws_heldRNodeS.mono_l k
  unfold laws_heldRNodeS.f
  repeat' first
      | (with_reducible exact LeO.refl _)
      | exact ih0 _ _ _
      | exact laws_heldInt64S.mono _ _ _
      | exact laws_heldSpanS.mono _ _ _
      | exact LeO.none _
      | refine LeO.ite ?_ ?_
      | refine LeO.bind ?_ (fun _ => ?_)
set_option maxHeartbeats 8000000 in
set_option maxRecDepth 100000 in
theorem laws_heldRNodeS.calls (k : Nat) (A0 : Option Addr) (c0 : Nat) (l0 : List (S181)) (a1 : Int) (r : Int) (w : World) (hr0 : Kd.C k181 w A0 l0.length l0) (hc0 : l0.length ≤ c0) (h : laws_heldRNodeS.f k l0 a1 = some r) :
    Calls Try.prog 155 #[.slice A0 l0.length c0, .int .i64 a1] w fun e w' => e = .returned (.int .i64 r) ∧ Drawn0 w w' := by
  have HR0 := Aside0.mk hr0
  have HC0 := Aside0.mk hc0
  clear hr0 hc0
  have H : (laws_heldRNodeS.l0 k l0 a1 0) = some r := h
  clear h
  have H' := Aside0.mk H
  clear H
  go_enter Try.func155, Try.ntmps155
  go_wp2
  go_loopg [1, 5] k (fun kq v1 v5 w' => ∃ (x1_1 : Int) (x5_1 : Int), v1 = .int .i64 x1_1 ∧ v5 = .int .i64 x5_1 ∧ Aside0 (laws_heldRNodeS.l0 kq l0 x1_1 x5_1 = some r) ∧ Aside0 (kq ≤ k) ∧ Drawn0 w w')
  case atStart => exact ⟨(a1), (0), (by first | rfl | (simp; done) | (simp [*]; done)), (by first | rfl | (simp; done) | (simp [*]; done)), H', ⟨Nat.le_refl _⟩, by repeat (first | exact Drawn0.refl _ | apply Drawn0.step)⟩
  case round =>
    clear H'; (try clear c1); (try clear p2); obtain ⟨x1_1, x5_1, rfl, rfl, HA, HK1, ⟨m1, rfl⟩⟩ := hrel
    cases gk with
    | zero => exact absurd HA.out (by simp [laws_heldRNodeS.l0])
    | succ k1 =>
      have H := HA.out; clear HA
      simp only [laws_heldRNodeS.l0] at H
      by_cases c3 : x5_1 < (l0.length : Int)
      · rw [if_pos c3] at H
        have c3b0 : decide (x5_1 < (l0.length : Int)) = true := decide_eq_true c3; clear c3
        by_cases c4 : 0 ≤ x5_1
        · rw [if_pos c4] at H
          have c4b0 : decide (0 ≤ x5_1) = true := decide_eq_true c4; clear c4
          by_cases c5 : ((rd_T181 l0 x5_1).f0) = x1_1
          · rw [if_pos c5] at H
            have c5b0 : (((rd_T181 l0 x5_1).f0) == x1_1) = true := beq_iff_eq.mpr c5; have c5b1 : (((rd_T181 l0 x5_1).f0) != x1_1) = false := bne_eq_false_iff_eq.mpr c5; clear c5; replace H := Option.bind_eq_some_iff.mp H; obtain ⟨t314, A60, H⟩ := H
            replace H : (if t314 < 0 then (some (-1)) else ((laws_heldInt64S.f k1 ((rd_T181 l0 x5_1).f2) t314).bind fun t316 => (if t316 < 0 then (some (-1)) else (if ((rd_T181 l0 x5_1).f3) = t316 then (if ((rd_T181 l0 x5_1).f4) = (wrap64 (t316 + 1)) then (laws_heldRNodeS.l0 k1 l0 (wrap64 ((wrap64 (t316 + 1)) + 1)) (wrap64 (x5_1 + 1))) else (some (-1))) else (some (-1)))))) = some r := H
            have A6 := Aside0.mk A60; clear A60
            by_cases c7 : t314 < 0
            · rw [if_pos c7] at H
              have c7b0 : decide (t314 < 0) = true := decide_eq_true c7; clear c7; obtain rfl := Option.some.inj H; have p312 : 0 ≤ (x5_1 : Int) := of_decide_eq_true (by assumption); have q312 : x5_1 < (l0.length : Int) := of_decide_eq_true (by assumption); obtain ⟨ad312, A312_1, c312_1, A312_2, c312_2, e312, hx312_0, hx312_1, hx312_2, hx312_3, hx312_4, hl312_1, hi312_1, hl312_2, hi312_2⟩ := at_T181 HR0.out x5_1 p312 q312; cases e312; have HR312_1 := Aside0.mk hi312_1; have HC312_1 := Aside0.mk hl312_1; clear hi312_1 hl312_1; have HR312_2 := Aside0.mk hi312_2; have HC312_2 := Aside0.mk hl312_2; clear hi312_2 hl312_2; replace p312 := eq_true p312; replace q312 := eq_true q312; have p313 : 0 ≤ (x5_1 : Int) := of_decide_eq_true (by assumption); have q313 : x5_1 < (l0.length : Int) := of_decide_eq_true (by assumption); obtain ⟨ad313, A313_1, c313_1, A313_2, c313_2, e313, hx313_0, hx313_1, hx313_2, hx313_3, hx313_4, hl313_1, hi313_1, hl313_2, hi313_2⟩ := at_T181 HR0.out x5_1 p313 q313; obtain rfl : ad312 = ad313 := (by injection e313); have HR313_1 := Aside0.mk hi313_1; have HC313_1 := Aside0.mk hl313_1; clear hi313_1 hl313_1; have HR313_2 := Aside0.mk hi313_2; have HC313_2 := Aside0.mk hl313_2; clear hi313_2 hl313_2; replace p313 := eq_true p313; replace q313 := eq_true q313; have ea_ := Option.some.inj (hx312_1.symm.trans hx313_1)
              injection ea_ with ea_ en_ ec_
              subst ea_; subst ec_; clear en_; have ea_ := Option.some.inj (hx312_2.symm.trans hx313_2)
              injection ea_ with ea_ en_ ec_
              subst ea_; subst ec_; clear en_
              go_wp2_with (first | ((with_reducible refine gate_callee (f := 195) rfl ?_); refine goesL_ (some 27) rfl rfl Try.func195 (by kernel_rfl) rfl #[.slice A312_1 ((rd_T181 l0 x5_1).f1).length c312_1, .int .i64 (wrap64 (x1_1 + 1))] rfl (by (try simp only [List.map_toArray, List.map_cons, List.map_nil]); first | done | rfl | (simp only [List.length_drop, List.length_take]; rfl)) ?_; (with_reducible refine (laws_heldSpanS.calls k1 _ _ ((rd_T181 l0 x5_1).f1) (wrap64 (x1_1 + 1)) t314 _ ?side1 ?side2 A6.out).mono ?_); (case side1 => repeat (first | exact HR313_1.out | (with_reducible refine Kd.C_alloc ?_ _) | (with_reducible refine Kd.C_drewN ?_ _) | (with_reducible refine Kd.C_drew ?_))); (case side2 => exact HC313_1.out); rintro e w' ⟨rfl, ⟨nd, rfl⟩⟩; refine ⟨_, rfl, ?_⟩))
              go_ret
              exact ⟨by first | rfl | (simp; done) | (simp [*]; done), by repeat (first | exact Drawn0.refl _ | apply Drawn0.step)⟩
            · rw [if_neg c7] at H
              have c7b0 : decide (t314 < 0) = false := decide_eq_false c7; clear c7; replace H := Option.bind_eq_some_iff.mp H; obtain ⟨t316, A80, H⟩ := H; replace H : (if t316 < 0 then (some (-1)) else (if ((rd_T181 l0 x5_1).f3) = t316 then (if ((rd_T181 l0 x5_1).f4) = (wrap64 (t316 + 1)) then (laws_heldRNodeS.l0 k1 l0 (wrap64 ((wrap64 (t316 + 1)) + 1)) (wrap64 (x5_1 + 1))) else (some (-1))) else (some (-1)))) = some r := H; have A8 := Aside0.mk A80; clear A80
              by_cases c9 : t316 < 0
              · rw [if_pos c9] at H
                have c9b0 : decide (t316 < 0) = true := decide_eq_true c9; clear c9; obtain rfl := Option.some.inj H; have p312 : 0 ≤ (x5_1 : Int) := of_decide_eq_true (by assumption); have q312 : x5_1 < (l0.length : Int) := of_decide_eq_true (by assumption); obtain ⟨ad312, A312_1, c312_1, A312_2, c312_2, e312, hx312_0, hx312_1, hx312_2, hx312_3, hx312_4, hl312_1, hi312_1, hl312_2, hi312_2⟩ := at_T181 HR0.out x5_1 p312 q312; cases e312; have HR312_1 := Aside0.mk hi312_1; have HC312_1 := Aside0.mk hl312_1; clear hi312_1 hl312_1; have HR312_2 := Aside0.mk hi312_2; have HC312_2 := Aside0.mk hl312_2; clear hi312_2 hl312_2; replace p312 := eq_true p312; replace q312 := eq_true q312; have p313 : 0 ≤ (x5_1 : Int) := of_decide_eq_true (by assumption); have q313 : x5_1 < (l0.length : Int) := of_decide_eq_true (by assumption); obtain ⟨ad313, A313_1, c313_1, A313_2, c313_2, e313, hx313_0, hx313_1, hx313_2, hx313_3, hx313_4, hl313_1, hi313_1, hl313_2, hi313_2⟩ := at_T181 HR0.out x5_1 p313 q313; obtain rfl : ad312 = ad313 := (by injection e313); have HR313_1 := Aside0.mk hi313_1; have HC313_1 := Aside0.mk hl313_1; clear hi313_1 hl313_1; have HR313_2 := Aside0.mk hi313_2; have HC313_2 := Aside0.mk hl313_2; clear hi313_2 hl313_2; replace p313 := eq_true p313; replace q313 := eq_true q313; have ea_ := Option.some.inj (hx312_1.symm.trans hx313_1)
                injection ea_ with ea_ en_ ec_
                subst ea_; subst ec_; clear en_; have ea_ := Option.some.inj (hx312_2.symm.trans hx313_2)
                injection ea_ with ea_ en_ ec_
                subst ea_; subst ec_; clear en_
                go_wp2_with (first | ((with_reducible refine gate_callee (f := 195) rfl ?_); refine goesL_ (some 27) rfl rfl Try.func195 (by kernel_rfl) rfl #[.slice A312_1 ((rd_T181 l0 x5_1).f1).length c312_1, .int .i64 (wrap64 (x1_1 + 1))] rfl (by (try simp only [List.map_toArray, List.map_cons, List.map_nil]); first | done | rfl | (simp only [List.length_drop, List.length_take]; rfl)) ?_; (with_reducible refine (laws_heldSpanS.calls k1 _ _ ((rd_T181 l0 x5_1).f1) (wrap64 (x1_1 + 1)) t314 _ ?side1 ?side2 A6.out).mono ?_); (case side1 => repeat (first | exact HR313_1.out | (with_reducible refine Kd.C_alloc ?_ _) | (with_reducible refine Kd.C_drewN ?_ _) | (with_reducible refine Kd.C_drew ?_))); (case side2 => exact HC313_1.out); rintro e w' ⟨rfl, ⟨nd, rfl⟩⟩; refine ⟨_, rfl, ?_⟩; have p315 : 0 ≤ (x5_1 : Int) := of_decide_eq_true (by assumption); have q315 : x5_1 < (l0.length : Int) := of_decide_eq_true (by assumption); obtain ⟨ad315, A315_1, c315_1, A315_2, c315_2, e315, hx315_0, hx315_1, hx315_2, hx315_3, hx315_4, hl315_1, hi315_1, hl315_2, hi315_2⟩ := at_T181 HR0.out x5_1 p315 q315; obtain rfl : ad312 = ad315 := (by injection e315); have HR315_1 := Aside0.mk hi315_1; have HC315_1 := Aside0.mk hl315_1; clear hi315_1 hl315_1; have HR315_2 := Aside0.mk hi315_2; have HC315_2 := Aside0.mk hl315_2; clear hi315_2 hl315_2; replace p315 := eq_true p315; replace q315 := eq_true q315; have ea_ := Option.some.inj (hx312_1.symm.trans hx315_1); injection ea_ with ea_ en_ ec_; subst ea_; subst ec_; clear en_; have ea_ := Option.some.inj (hx312_2.symm.trans hx315_2); injection ea_ with ea_ en_ ec_; subst ea_; subst ec_; clear en_) | ((with_reducible refine gate_callee (f := 27) rfl ?_); refine goesL_ (some 36) rfl rfl Try.func27 (by kernel_rfl) rfl #[.slice A312_2 ((rd_T181 l0 x5_1).f2).length c312_2, .int .i64 t314] rfl (by (try simp only [List.map_toArray, List.map_cons, List.map_nil]); first | done | rfl | (simp only [List.length_drop, List.length_take]; rfl)) ?_; (with_reducible refine (laws_heldInt64S.calls k1 _ _ ((rd_T181 l0 x5_1).f2) t314 t316 _ ?side1 ?side2 A8.out).mono ?_); (case side1 => repeat (first | exact HR315_2.out | (with_reducible refine Kd.C_alloc ?_ _) | (with_reducible refine Kd.C_drewN ?_ _) | (with_reducible refine Kd.C_drew ?_))); (case side2 => exact HC315_2.out); rintro e w' ⟨rfl, ⟨nd, rfl⟩⟩; refine ⟨_, rfl, ?_⟩))
                go_ret
                exact ⟨by first | rfl | (simp; done) | (simp [*]; done), by repeat (first | exact Drawn0.refl _ | apply Drawn0.step)⟩
              · rw [if_neg c9] at H
                have c9b0 : decide (t316 < 0) = false := decide_eq_false c9; clear c9
                by_cases c10 : ((rd_T181 l0 x5_1).f3) = t316
                · rw [if_pos c10] at H
                  have c10b0 : (((rd_T181 l0 x5_1).f3) == t316) = true := beq_iff_eq.mpr c10; have c10b1 : (((rd_T181 l0 x5_1).f3) != t316) = false := bne_eq_false_iff_eq.mpr c10; clear c10
                  by_cases c11 : ((rd_T181 l0 x5_1).f4) = (wrap64 (t316 + 1))
                  · rw [if_pos c11] at H
                    have c11b0 : (((rd_T181 l0 x5_1).f4) == (wrap64 (t316 + 1))) = true := beq_iff_eq.mpr c11; have c11b1 : (((rd_T181 l0 x5_1).f4) != (wrap64 (t316 + 1))) = false := bne_eq_false_iff_eq.mpr c11; clear c11; have H' := Aside0.mk H; clear H; have p312 : 0 ≤ (x5_1 : Int) := of_decide_eq_true (by assumption); have q312 : x5_1 < (l0.length : Int) := of_decide_eq_true (by assumption); obtain ⟨ad312, A312_1, c312_1, A312_2, c312_2, e312, hx312_0, hx312_1, hx312_2, hx312_3, hx312_4, hl312_1, hi312_1, hl312_2, hi312_2⟩ := at_T181 HR0.out x5_1 p312 q312; cases e312; have HR312_1 := Aside0.mk hi312_1; have HC312_1 := Aside0.mk hl312_1; clear hi312_1 hl312_1; have HR312_2 := Aside0.mk hi312_2; have HC312_2 := Aside0.mk hl312_2; clear hi312_2 hl312_2; replace p312 := eq_true p312; replace q312 := eq_true q312; have p313 : 0 ≤ (x5_1 : Int) := of_decide_eq_true (by assumption); have q313 : x5_1 < (l0.length : Int) := of_decide_eq_true (by assumption); obtain ⟨ad313, A313_1, c313_1, A313_2, c313_2, e313, hx313_0, hx313_1, hx313_2, hx313_3, hx313_4, hl313_1, hi313_1, hl313_2, hi313_2⟩ := at_T181 HR0.out x5_1 p313 q313; obtain rfl : ad312 = ad313 := (by injection e313); have HR313_1 := Aside0.mk hi313_1; have HC313_1 := Aside0.mk hl313_1; clear hi313_1 hl313_1; have HR313_2 := Aside0.mk hi313_2; have HC313_2 := Aside0.mk hl313_2; clear hi313_2 hl313_2; replace p313 := eq_true p313; replace q313 := eq_true q313; have ea_ := Option.some.inj (hx312_1.symm.trans hx313_1)
                    injection ea_ with ea_ en_ ec_
                    subst ea_; subst ec_; clear en_; have ea_ := Option.some.inj (hx312_2.symm.trans hx313_2)
                    injection ea_ with ea_ en_ ec_
                    subst ea_; subst ec_; clear en_
                    go_wp2_with (first | ((with_reducible refine gate_callee (f := 195) rfl ?_); refine goesL_ (some 27) rfl rfl Try.func195 (by kernel_rfl) rfl #[.slice A312_1 ((rd_T181 l0 x5_1).f1).length c312_1, .int .i64 (wrap64 (x1_1 + 1))] rfl (by (try simp only [List.map_toArray, List.map_cons, List.map_nil]); first | done | rfl | (simp only [List.length_drop, List.length_take]; rfl)) ?_; (with_reducible refine (laws_heldSpanS.calls k1 _ _ ((rd_T181 l0 x5_1).f1) (wrap64 (x1_1 + 1)) t314 _ ?side1 ?side2 A6.out).mono ?_); (case side1 => repeat (first | exact HR313_1.out | (with_reducible refine Kd.C_alloc ?_ _) | (with_reducible refine Kd.C_drewN ?_ _) | (with_reducible refine Kd.C_drew ?_))); (case side2 => exact HC313_1.out); rintro e w' ⟨rfl, ⟨nd, rfl⟩⟩; refine ⟨_, rfl, ?_⟩; have p315 : 0 ≤ (x5_1 : Int) := of_decide_eq_true (by assumption); have q315 : x5_1 < (l0.length : Int) := of_decide_eq_true (by assumption); obtain ⟨ad315, A315_1, c315_1, A315_2, c315_2, e315, hx315_0, hx315_1, hx315_2, hx315_3, hx315_4, hl315_1, hi315_1, hl315_2, hi315_2⟩ := at_T181 HR0.out x5_1 p315 q315; obtain rfl : ad312 = ad315 := (by injection e315); have HR315_1 := Aside0.mk hi315_1; have HC315_1 := Aside0.mk hl315_1; clear hi315_1 hl315_1; have HR315_2 := Aside0.mk hi315_2; have HC315_2 := Aside0.mk hl315_2; clear hi315_2 hl315_2; replace p315 := eq_true p315; replace q315 := eq_true q315; have ea_ := Option.some.inj (hx312_1.symm.trans hx315_1); injection ea_ with ea_ en_ ec_; subst ea_; subst ec_; clear en_; have ea_ := Option.some.inj (hx312_2.symm.trans hx315_2); injection ea_ with ea_ en_ ec_; subst ea_; subst ec_; clear en_) | ((with_reducible refine gate_callee (f := 27) rfl ?_); refine goesL_ (some 36) rfl rfl Try.func27 (by kernel_rfl) rfl #[.slice A312_2 ((rd_T181 l0 x5_1).f2).length c312_2, .int .i64 t314] rfl (by (try simp only [List.map_toArray, List.map_cons, List.map_nil]); first | done | rfl | (simp only [List.length_drop, List.length_take]; rfl)) ?_; (with_reducible refine (laws_heldInt64S.calls k1 _ _ ((rd_T181 l0 x5_1).f2) t314 t316 _ ?side1 ?side2 A8.out).mono ?_); (case side1 => repeat (first | exact HR315_2.out | (with_reducible refine Kd.C_alloc ?_ _) | (with_reducible refine Kd.C_drewN ?_ _) | (with_reducible refine Kd.C_drew ?_))); (case side2 => exact HC315_2.out); rintro e w' ⟨rfl, ⟨nd, rfl⟩⟩; refine ⟨_, rfl, ?_⟩; have p317 : 0 ≤ (x5_1 : Int) := of_decide_eq_true (by assumption); have q317 : x5_1 < (l0.length : Int) := of_decide_eq_true (by assumption); obtain ⟨ad317, A317_1, c317_1, A317_2, c317_2, e317, hx317_0, hx317_1, hx317_2, hx317_3, hx317_4, hl317_1, hi317_1, hl317_2, hi317_2⟩ := at_T181 HR0.out x5_1 p317 q317; obtain rfl : ad312 = ad317 := (by injection e317); have HR317_1 := Aside0.mk hi317_1; have HC317_1 := Aside0.mk hl317_1; clear hi317_1 hl317_1; have HR317_2 := Aside0.mk hi317_2; have HC317_2 := Aside0.mk hl317_2; clear hi317_2 hl317_2; replace p317 := eq_true p317; replace q317 := eq_true q317; have ea_ := Option.some.inj (hx312_1.symm.trans hx317_1); injection ea_ with ea_ en_ ec_; subst ea_; subst ec_; clear en_; have ea_ := Option.some.inj (hx312_2.symm.trans hx317_2); injection ea_ with ea_ en_ ec_; subst ea_; subst ec_; clear en_; have p318 : 0 ≤ (x5_1 : Int) := of_decide_eq_true (by assumption); have q318 : x5_1 < (l0.length : Int) := of_decide_eq_true (by assumption); obtain ⟨ad318, A318_1, c318_1, A318_2, c318_2, e318, hx318_0, hx318_1, hx318_2, hx318_3, hx318_4, hl318_1, hi318_1, hl318_2, hi318_2⟩ := at_T181 HR0.out x5_1 p318 q318; obtain rfl : ad312 = ad318 := (by injection e318); have HR318_1 := Aside0.mk hi318_1; have HC318_1 := Aside0.mk hl318_1; clear hi318_1 hl318_1; have HR318_2 := Aside0.mk hi318_2; have HC318_2 := Aside0.mk hl318_2; clear hi318_2 hl318_2; replace p318 := eq_true p318; replace q318 := eq_true q318; have ea_ := Option.some.inj (hx312_1.symm.trans hx318_1); injection ea_ with ea_ en_ ec_; subst ea_; subst ec_; clear en_; have ea_ := Option.some.inj (hx312_2.symm.trans hx318_2); injection ea_ with ea_ en_ ec_; subst ea_; subst ec_; clear en_))
                    go_roundg k1
                    case measure => have := HK1.out; omega
                    case rel => exact ⟨(wrap64 ((wrap64 (t316 + 1)) + 1)), (wrap64 (x5_1 + 1)), (by first | rfl | (simp; done) | (simp [*]; done)), (by first | rfl | (simp; done) | (simp [*]; done)), H', ⟨by have := HK1.out; omega⟩, by repeat (first | exact Drawn0.refl _ | apply Drawn0.step)⟩
                  · rw [if_neg c11] at H
                    have c11b0 : (((rd_T181 l0 x5_1).f4) == (wrap64 (t316 + 1))) = false := beq_eq_false_iff_ne.mpr c11; have c11b1 : (((rd_T181 l0 x5_1).f4) != (wrap64 (t316 + 1))) = true := bne_iff_ne.mpr c11; obtain rfl := Option.some.inj H; have p312 : 0 ≤ (x5_1 : Int) := of_decide_eq_true (by assumption); have q312 : x5_1 < (l0.length : Int) := of_decide_eq_true (by assumption); obtain ⟨ad312, A312_1, c312_1, A312_2, c312_2, e312, hx312_0, hx312_1, hx312_2, hx312_3, hx312_4, hl312_1, hi312_1, hl312_2, hi312_2⟩ := at_T181 HR0.out x5_1 p312 q312; cases e312; have HR312_1 := Aside0.mk hi312_1; have HC312_1 := Aside0.mk hl312_1; clear hi312_1 hl312_1; have HR312_2 := Aside0.mk hi312_2; have HC312_2 := Aside0.mk hl312_2; clear hi312_2 hl312_2; replace p312 := eq_true p312; replace q312 := eq_true q312; have p313 : 0 ≤ (x5_1 : Int) := of_decide_eq_true (by assumption); have q313 : x5_1 < (l0.length : Int) := of_decide_eq_true (by assumption); obtain ⟨ad313, A313_1, c313_1, A313_2, c313_2, e313, hx313_0, hx313_1, hx313_2, hx313_3, hx313_4, hl313_1, hi313_1, hl313_2, hi313_2⟩ := at_T181 HR0.out x5_1 p313 q313; obtain rfl : ad312 = ad313 := (by injection e313); have HR313_1 := Aside0.mk hi313_1; have HC313_1 := Aside0.mk hl313_1; clear hi313_1 hl313_1; have HR313_2 := Aside0.mk hi313_2; have HC313_2 := Aside0.mk hl313_2; clear hi313_2 hl313_2; replace p313 := eq_true p313; replace q313 := eq_true q313; have ea_ := Option.some.inj (hx312_1.symm.trans hx313_1)
                    injection ea_ with ea_ en_ ec_
                    subst ea_; subst ec_; clear en_; have ea_ := Option.some.inj (hx312_2.symm.trans hx313_2)
                    injection ea_ with ea_ en_ ec_
                    subst ea_; subst ec_; clear en_
                    go_wp2_with (first | ((with_reducible refine gate_callee (f := 195) rfl ?_); refine goesL_ (some 27) rfl rfl Try.func195 (by kernel_rfl) rfl #[.slice A312_1 ((rd_T181 l0 x5_1).f1).length c312_1, .int .i64 (wrap64 (x1_1 + 1))] rfl (by (try simp only [List.map_toArray, List.map_cons, List.map_nil]); first | done | rfl | (simp only [List.length_drop, List.length_take]; rfl)) ?_; (with_reducible refine (laws_heldSpanS.calls k1 _ _ ((rd_T181 l0 x5_1).f1) (wrap64 (x1_1 + 1)) t314 _ ?side1 ?side2 A6.out).mono ?_); (case side1 => repeat (first | exact HR313_1.out | (with_reducible refine Kd.C_alloc ?_ _) | (with_reducible refine Kd.C_drewN ?_ _) | (with_reducible refine Kd.C_drew ?_))); (case side2 => exact HC313_1.out); rintro e w' ⟨rfl, ⟨nd, rfl⟩⟩; refine ⟨_, rfl, ?_⟩; have p315 : 0 ≤ (x5_1 : Int) := of_decide_eq_true (by assumption); have q315 : x5_1 < (l0.length : Int) := of_decide_eq_true (by assumption); obtain ⟨ad315, A315_1, c315_1, A315_2, c315_2, e315, hx315_0, hx315_1, hx315_2, hx315_3, hx315_4, hl315_1, hi315_1, hl315_2, hi315_2⟩ := at_T181 HR0.out x5_1 p315 q315; obtain rfl : ad312 = ad315 := (by injection e315); have HR315_1 := Aside0.mk hi315_1; have HC315_1 := Aside0.mk hl315_1; clear hi315_1 hl315_1; have HR315_2 := Aside0.mk hi315_2; have HC315_2 := Aside0.mk hl315_2; clear hi315_2 hl315_2; replace p315 := eq_true p315; replace q315 := eq_true q315; have ea_ := Option.some.inj (hx312_1.symm.trans hx315_1); injection ea_ with ea_ en_ ec_; subst ea_; subst ec_; clear en_; have ea_ := Option.some.inj (hx312_2.symm.trans hx315_2); injection ea_ with ea_ en_ ec_; subst ea_; subst ec_; clear en_) | ((with_reducible refine gate_callee (f := 27) rfl ?_); refine goesL_ (some 36) rfl rfl Try.func27 (by kernel_rfl) rfl #[.slice A312_2 ((rd_T181 l0 x5_1).f2).length c312_2, .int .i64 t314] rfl (by (try simp only [List.map_toArray, List.map_cons, List.map_nil]); first | done | rfl | (simp only [List.length_drop, List.length_take]; rfl)) ?_; (with_reducible refine (laws_heldInt64S.calls k1 _ _ ((rd_T181 l0 x5_1).f2) t314 t316 _ ?side1 ?side2 A8.out).mono ?_); (case side1 => repeat (first | exact HR315_2.out | (with_reducible refine Kd.C_alloc ?_ _) | (with_reducible refine Kd.C_drewN ?_ _) | (with_reducible refine Kd.C_drew ?_))); (case side2 => exact HC315_2.out); rintro e w' ⟨rfl, ⟨nd, rfl⟩⟩; refine ⟨_, rfl, ?_⟩; have p317 : 0 ≤ (x5_1 : Int) := of_decide_eq_true (by assumption); have q317 : x5_1 < (l0.length : Int) := of_decide_eq_true (by assumption); obtain ⟨ad317, A317_1, c317_1, A317_2, c317_2, e317, hx317_0, hx317_1, hx317_2, hx317_3, hx317_4, hl317_1, hi317_1, hl317_2, hi317_2⟩ := at_T181 HR0.out x5_1 p317 q317; obtain rfl : ad312 = ad317 := (by injection e317); have HR317_1 := Aside0.mk hi317_1; have HC317_1 := Aside0.mk hl317_1; clear hi317_1 hl317_1; have HR317_2 := Aside0.mk hi317_2; have HC317_2 := Aside0.mk hl317_2; clear hi317_2 hl317_2; replace p317 := eq_true p317; replace q317 := eq_true q317; have ea_ := Option.some.inj (hx312_1.symm.trans hx317_1); injection ea_ with ea_ en_ ec_; subst ea_; subst ec_; clear en_; have ea_ := Option.some.inj (hx312_2.symm.trans hx317_2); injection ea_ with ea_ en_ ec_; subst ea_; subst ec_; clear en_; have p318 : 0 ≤ (x5_1 : Int) := of_decide_eq_true (by assumption); have q318 : x5_1 < (l0.length : Int) := of_decide_eq_true (by assumption); obtain ⟨ad318, A318_1, c318_1, A318_2, c318_2, e318, hx318_0, hx318_1, hx318_2, hx318_3, hx318_4, hl318_1, hi318_1, hl318_2, hi318_2⟩ := at_T181 HR0.out x5_1 p318 q318; obtain rfl : ad312 = ad318 := (by injection e318); have HR318_1 := Aside0.mk hi318_1; have HC318_1 := Aside0.mk hl318_1; clear hi318_1 hl318_1; have HR318_2 := Aside0.mk hi318_2; have HC318_2 := Aside0.mk hl318_2; clear hi318_2 hl318_2; replace p318 := eq_true p318; replace q318 := eq_true q318; have ea_ := Option.some.inj (hx312_1.symm.trans hx318_1); injection ea_ with ea_ en_ ec_; subst ea_; subst ec_; clear en_; have ea_ := Option.some.inj (hx312_2.symm.trans hx318_2); injection ea_ with ea_ en_ ec_; subst ea_; subst ec_; clear en_))
                    go_ret
                    exact ⟨by first | rfl | (simp; done) | (simp [*]; done), by repeat (first | exact Drawn0.refl _ | apply Drawn0.step)⟩
                · rw [if_neg c10] at H
                  have c10b0 : (((rd_T181 l0 x5_1).f3) == t316) = false := beq_eq_false_iff_ne.mpr c10; have c10b1 : (((rd_T181 l0 x5_1).f3) != t316) = true := bne_iff_ne.mpr c10; obtain rfl := Option.some.inj H; have p312 : 0 ≤ (x5_1 : Int) := of_decide_eq_true (by assumption); have q312 : x5_1 < (l0.length : Int) := of_decide_eq_true (by assumption); obtain ⟨ad312, A312_1, c312_1, A312_2, c312_2, e312, hx312_0, hx312_1, hx312_2, hx312_3, hx312_4, hl312_1, hi312_1, hl312_2, hi312_2⟩ := at_T181 HR0.out x5_1 p312 q312; cases e312; have HR312_1 := Aside0.mk hi312_1; have HC312_1 := Aside0.mk hl312_1; clear hi312_1 hl312_1; have HR312_2 := Aside0.mk hi312_2; have HC312_2 := Aside0.mk hl312_2; clear hi312_2 hl312_2; replace p312 := eq_true p312; replace q312 := eq_true q312; have p313 : 0 ≤ (x5_1 : Int) := of_decide_eq_true (by assumption); have q313 : x5_1 < (l0.length : Int) := of_decide_eq_true (by assumption); obtain ⟨ad313, A313_1, c313_1, A313_2, c313_2, e313, hx313_0, hx313_1, hx313_2, hx313_3, hx313_4, hl313_1, hi313_1, hl313_2, hi313_2⟩ := at_T181 HR0.out x5_1 p313 q313; obtain rfl : ad312 = ad313 := (by injection e313); have HR313_1 := Aside0.mk hi313_1; have HC313_1 := Aside0.mk hl313_1; clear hi313_1 hl313_1; have HR313_2 := Aside0.mk hi313_2; have HC313_2 := Aside0.mk hl313_2; clear hi313_2 hl313_2; replace p313 := eq_true p313; replace q313 := eq_true q313; have ea_ := Option.some.inj (hx312_1.symm.trans hx313_1)
                  injection ea_ with ea_ en_ ec_
                  subst ea_; subst ec_; clear en_; have ea_ := Option.some.inj (hx312_2.symm.trans hx313_2)
                  injection ea_ with ea_ en_ ec_
                  subst ea_; subst ec_; clear en_
                  go_wp2_with (first | ((with_reducible refine gate_callee (f := 195) rfl ?_); refine goesL_ (some 27) rfl rfl Try.func195 (by kernel_rfl) rfl #[.slice A312_1 ((rd_T181 l0 x5_1).f1).length c312_1, .int .i64 (wrap64 (x1_1 + 1))] rfl (by (try simp only [List.map_toArray, List.map_cons, List.map_nil]); first | done | rfl | (simp only [List.length_drop, List.length_take]; rfl)) ?_; (with_reducible refine (laws_heldSpanS.calls k1 _ _ ((rd_T181 l0 x5_1).f1) (wrap64 (x1_1 + 1)) t314 _ ?side1 ?side2 A6.out).mono ?_); (case side1 => repeat (first | exact HR313_1.out | (with_reducible refine Kd.C_alloc ?_ _) | (with_reducible refine Kd.C_drewN ?_ _) | (with_reducible refine Kd.C_drew ?_))); (case side2 => exact HC313_1.out); rintro e w' ⟨rfl, ⟨nd, rfl⟩⟩; refine ⟨_, rfl, ?_⟩; have p315 : 0 ≤ (x5_1 : Int) := of_decide_eq_true (by assumption); have q315 : x5_1 < (l0.length : Int) := of_decide_eq_true (by assumption); obtain ⟨ad315, A315_1, c315_1, A315_2, c315_2, e315, hx315_0, hx315_1, hx315_2, hx315_3, hx315_4, hl315_1, hi315_1, hl315_2, hi315_2⟩ := at_T181 HR0.out x5_1 p315 q315; obtain rfl : ad312 = ad315 := (by injection e315); have HR315_1 := Aside0.mk hi315_1; have HC315_1 := Aside0.mk hl315_1; clear hi315_1 hl315_1; have HR315_2 := Aside0.mk hi315_2; have HC315_2 := Aside0.mk hl315_2; clear hi315_2 hl315_2; replace p315 := eq_true p315; replace q315 := eq_true q315; have ea_ := Option.some.inj (hx312_1.symm.trans hx315_1); injection ea_ with ea_ en_ ec_; subst ea_; subst ec_; clear en_; have ea_ := Option.some.inj (hx312_2.symm.trans hx315_2); injection ea_ with ea_ en_ ec_; subst ea_; subst ec_; clear en_) | ((with_reducible refine gate_callee (f := 27) rfl ?_); refine goesL_ (some 36) rfl rfl Try.func27 (by kernel_rfl) rfl #[.slice A312_2 ((rd_T181 l0 x5_1).f2).length c312_2, .int .i64 t314] rfl (by (try simp only [List.map_toArray, List.map_cons, List.map_nil]); first | done | rfl | (simp only [List.length_drop, List.length_take]; rfl)) ?_; (with_reducible refine (laws_heldInt64S.calls k1 _ _ ((rd_T181 l0 x5_1).f2) t314 t316 _ ?side1 ?side2 A8.out).mono ?_); (case side1 => repeat (first | exact HR315_2.out | (with_reducible refine Kd.C_alloc ?_ _) | (with_reducible refine Kd.C_drewN ?_ _) | (with_reducible refine Kd.C_drew ?_))); (case side2 => exact HC315_2.out); rintro e w' ⟨rfl, ⟨nd, rfl⟩⟩; refine ⟨_, rfl, ?_⟩; have p317 : 0 ≤ (x5_1 : Int) := of_decide_eq_true (by assumption); have q317 : x5_1 < (l0.length : Int) := of_decide_eq_true (by assumption); obtain ⟨ad317, A317_1, c317_1, A317_2, c317_2, e317, hx317_0, hx317_1, hx317_2, hx317_3, hx317_4, hl317_1, hi317_1, hl317_2, hi317_2⟩ := at_T181 HR0.out x5_1 p317 q317; obtain rfl : ad312 = ad317 := (by injection e317); have HR317_1 := Aside0.mk hi317_1; have HC317_1 := Aside0.mk hl317_1; clear hi317_1 hl317_1; have HR317_2 := Aside0.mk hi317_2; have HC317_2 := Aside0.mk hl317_2; clear hi317_2 hl317_2; replace p317 := eq_true p317; replace q317 := eq_true q317; have ea_ := Option.some.inj (hx312_1.symm.trans hx317_1); injection ea_ with ea_ en_ ec_; subst ea_; subst ec_; clear en_; have ea_ := Option.some.inj (hx312_2.symm.trans hx317_2); injection ea_ with ea_ en_ ec_; subst ea_; subst ec_; clear en_))
                  go_ret
                  exact ⟨by first | rfl | (simp; done) | (simp [*]; done), by repeat (first | exact Drawn0.refl _ | apply Drawn0.step)⟩
          · rw [if_neg c5] at H
            have c5b0 : (((rd_T181 l0 x5_1).f0) == x1_1) = false := beq_eq_false_iff_ne.mpr c5; have c5b1 : (((rd_T181 l0 x5_1).f0) != x1_1) = true := bne_iff_ne.mpr c5; obtain rfl := Option.some.inj H; have p312 : 0 ≤ (x5_1 : Int) := of_decide_eq_true (by assumption); have q312 : x5_1 < (l0.length : Int) := of_decide_eq_true (by assumption); obtain ⟨ad312, A312_1, c312_1, A312_2, c312_2, e312, hx312_0, hx312_1, hx312_2, hx312_3, hx312_4, hl312_1, hi312_1, hl312_2, hi312_2⟩ := at_T181 HR0.out x5_1 p312 q312; cases e312; have HR312_1 := Aside0.mk hi312_1; have HC312_1 := Aside0.mk hl312_1; clear hi312_1 hl312_1; have HR312_2 := Aside0.mk hi312_2; have HC312_2 := Aside0.mk hl312_2; clear hi312_2 hl312_2; replace p312 := eq_true p312; replace q312 := eq_true q312
            go_wp2
            go_ret
            exact ⟨by first | rfl | (simp; done) | (simp [*]; done), by repeat (first | exact Drawn0.refl _ | apply Drawn0.step)⟩
        · rw [if_neg c4] at H
          exact absurd H (by simp)
      · rw [if_neg c3] at H
        have c3b0 : decide (x5_1 < (l0.length : Int)) = false := decide_eq_false c3; clear c3; obtain rfl := Option.some.inj H
        go_wp2
        go_ret
        exact ⟨by first | rfl | (simp; done) | (simp [*]; done), by repeat (first | exact Drawn0.refl _ | apply Drawn0.step)⟩

/-! ### laws_heldRx: function 71 -/
def laws_heldRx.f (k : Nat) (l0_0 : List (S181)) (a1 : Int) : Option (Int) := (laws_heldRNodeS.f k l0_0 a1).bind fun t320 => (if t320 < 0 then (some (-1)) else (some t320))
theorem laws_heldRx.mono : ∀ a0 a1 k, LeO (laws_heldRx.f k a0 a1) (laws_heldRx.f (k + 1) a0 a1) := by
  intro a0 a1 k
  unfold laws_heldRx.f
  repeat' first
      | (with_reducible exact LeO.refl _)
      | exact laws_heldRNodeS.mono _ _ _
      | exact LeO.none _
      | refine LeO.ite ?_ ?_
      | refine LeO.bind ?_ (fun _ => ?_)
set_option maxHeartbeats 8000000 in
set_option maxRecDepth 100000 in
theorem laws_heldRx.calls (k : Nat) (A0_0 : Option Addr) (c0_0 : Nat) (l0_0 : List (S181)) (a1 : Int) (r : Int) (w : World) (hr0_0 : Kd.C k181 w A0_0 l0_0.length l0_0) (hc0_0 : l0_0.length ≤ c0_0) (h : laws_heldRx.f k l0_0 a1 = some r) :
    Calls Try.prog 71 #[.agg #[.slice A0_0 l0_0.length c0_0], .int .i64 a1] w fun e w' => e = .returned (.int .i64 r) ∧ Below w.heap.size w w' := by
  have hu106 := Try.underlying106
  have HR0_0 := Aside0.mk hr0_0
  have HC0_0 := Aside0.mk hc0_0
  clear hr0_0 hc0_0
  have HB := Aside0.mk (Below.refl w.heap.size w)
  have H : ((laws_heldRNodeS.f k l0_0 a1).bind fun t320 => (if t320 < 0 then (some (-1)) else (some t320))) = some r := h
  clear h
  replace H := Option.bind_eq_some_iff.mp H
  obtain ⟨t320, A30, H⟩ := H
  replace H : (if t320 < 0 then (some (-1)) else (some t320)) = some r := H
  have A3 := Aside0.mk A30
  clear A30
  by_cases c4 : t320 < 0
  · rw [if_pos c4] at H
    have c4b0 : decide (t320 < 0) = true := decide_eq_true c4; clear c4; obtain rfl := Option.some.inj H
    go_enter Try.func71, Try.ntmps71
    go_wp2_with (first | ((with_reducible refine gate_dst (N := 2) rfl ?_); refine box_event ?hg (N := 2) ?hd (cs := #[.slice A0_0 l0_0.length c0_0]) (t := 106) ?hr ?_; (case hd => rfl); (case hg => rfl); (case hr => first | (go_simp; done) | (go_simp; rfl)); intro gb319 hg w5 hbox hb; have BK319 := Aside0.mk (hbox); have GW319 := Aside0.mk ((by rw [hg]; exact (below_size (by repeat (first | (with_reducible first | exact HB.out | apply below_alloc | apply pw_below_drewN | apply below_drew1) | exact HB.out))) : w.heap.size ≤ gb319)); have GE319 := Aside0.mk ((by rw [hg]; exact (below_size (by repeat (first | (with_reducible first | exact HB.out | apply below_alloc | apply pw_below_drewN | apply below_drew1) | exact HB.out))) : w.heap.size ≤ gb319)); replace HB := Aside0.mk (below_step (by repeat (first | (with_reducible first | exact HB.out | apply below_alloc | apply pw_below_drewN | apply below_drew1) | exact HB.out)) hb); clear hb hbox hg; have hcz6_0 : w5.cell? ⟨gb319, 0, none⟩ = some (.slice A0_0 l0_0.length c0_0) := (blk_cell BK319.out 0).trans rfl; have hfz6_0 := blk_frozen BK319.out 0) | ((with_reducible refine gate_callee (f := 155) rfl ?_); refine goesL_ (some 8) rfl rfl Try.func155 (by kernel_rfl) rfl #[.slice A0_0 l0_0.length c0_0, .int .i64 a1] rfl (by (try simp only [List.map_toArray, List.map_cons, List.map_nil]); first | done | rfl | (simp only [List.length_drop, List.length_take]; rfl)) ?_; (with_reducible refine (laws_heldRNodeS.calls k _ _ l0_0 a1 t320 _ ?side1 ?side2 A3.out).mono ?_); (case side1 => repeat (first | exact (Kd.C_below HR0_0.out HB.out) | (with_reducible refine Kd.C_alloc ?_ _) | (with_reducible refine Kd.C_drewN ?_ _) | (with_reducible refine Kd.C_drew ?_))); (case side2 => exact HC0_0.out); rintro e w' ⟨rfl, ⟨nd, rfl⟩⟩; refine ⟨_, rfl, ?_⟩))
    go_ret
    exact ⟨by first | rfl | (simp [errW_none, errW_some] <;> rfl) | (simp [*, errW_none, errW_some] <;> rfl), by repeat (first | (with_reducible first | exact HB.out | apply below_alloc | apply pw_below_drewN | apply below_drew1 | refine below_set ?_ GE319.out) | exact HB.out)⟩
  · rw [if_neg c4] at H
    have c4b0 : decide (t320 < 0) = false := decide_eq_false c4; clear c4; obtain rfl := Option.some.inj H
    go_enter Try.func71, Try.ntmps71
    go_wp2_with (first | ((with_reducible refine gate_dst (N := 2) rfl ?_); refine box_event ?hg (N := 2) ?hd (cs := #[.slice A0_0 l0_0.length c0_0]) (t := 106) ?hr ?_; (case hd => rfl); (case hg => rfl); (case hr => first | (go_simp; done) | (go_simp; rfl)); intro gb319 hg w7 hbox hb; have BK319 := Aside0.mk (hbox); have GW319 := Aside0.mk ((by rw [hg]; exact (below_size (by repeat (first | (with_reducible first | exact HB.out | apply below_alloc | apply pw_below_drewN | apply below_drew1) | exact HB.out))) : w.heap.size ≤ gb319)); have GE319 := Aside0.mk ((by rw [hg]; exact (below_size (by repeat (first | (with_reducible first | exact HB.out | apply below_alloc | apply pw_below_drewN | apply below_drew1) | exact HB.out))) : w.heap.size ≤ gb319)); replace HB := Aside0.mk (below_step (by repeat (first | (with_reducible first | exact HB.out | apply below_alloc | apply pw_below_drewN | apply below_drew1) | exact HB.out)) hb); clear hb hbox hg; have hcz8_0 : w7.cell? ⟨gb319, 0, none⟩ = some (.slice A0_0 l0_0.length c0_0) := (blk_cell BK319.out 0).trans rfl; have hfz8_0 := blk_frozen BK319.out 0) | ((with_reducible refine gate_callee (f := 155) rfl ?_); refine goesL_ (some 8) rfl rfl Try.func155 (by kernel_rfl) rfl #[.slice A0_0 l0_0.length c0_0, .int .i64 a1] rfl (by (try simp only [List.map_toArray, List.map_cons, List.map_nil]); first | done | rfl | (simp only [List.length_drop, List.length_take]; rfl)) ?_; (with_reducible refine (laws_heldRNodeS.calls k _ _ l0_0 a1 t320 _ ?side1 ?side2 A3.out).mono ?_); (case side1 => repeat (first | exact (Kd.C_below HR0_0.out HB.out) | (with_reducible refine Kd.C_alloc ?_ _) | (with_reducible refine Kd.C_drewN ?_ _) | (with_reducible refine Kd.C_drew ?_))); (case side2 => exact HC0_0.out); rintro e w' ⟨rfl, ⟨nd, rfl⟩⟩; refine ⟨_, rfl, ?_⟩))
    go_ret
    exact ⟨by first | rfl | (simp [errW_none, errW_some] <;> rfl) | (simp [*, errW_none, errW_some] <;> rfl), by repeat (first | (with_reducible first | exact HB.out | apply below_alloc | apply pw_below_drewN | apply below_drew1 | refine below_set ?_ GE319.out) | exact HB.out)⟩

end Go.Proofs.Ytbijmhooamjgoaa.PFnExactFolded
