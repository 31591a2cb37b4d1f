-- Written by this session's own program (wip/pr.py) over the kit's printer; contracts that the printer does not know are given by hand.
import Derived.Test.YtfajfjgkkgigoaaPFnDeadx0
import Derived.Test.YtfajfjgkkgigoaaPFnDeadx1
import Derived.Test.YtfajfjgkkgigoaaPFnDeadx8
namespace Go.Proofs.Ytfajfjgkkgigoaa.PFnDead
open Go.RowKit Go.Proofs.YtfajfjgkkgigoaaW.PrintWords Go.Proofs.YtfajfjgkkgigoaaW.PrintLast Go.Proofs.YtfajfjgkkgigoaaW.PrintMore
attribute [local go_sem] max2_int min2_int max_two min_two max_three min_three max_four min_four   -- for this text's walks alone
set_option linter.unusedVariables false
set_option linter.unusedSimpArgs false

/-! ### impl_Dfa_dead: function 92 -/
def deadAny (x : List Bool) (row : List Int) : Bool := row.any (fun t => !(rdOf false x t))
def deadRow (nx : List (List Int)) (i : Int) : List Int := nx.getD i.toNat []
theorem deadRow_at {w : World} {A : Option Addr} {n : Nat} {xs : List (List Int)} (h : Kd.C (Kd.slice 2 (Kd.int .i64)) w A n xs) (i : Int) (h0 : 0 ≤ i) (h1 : i < n) : ∃ ad A0 c0, A = some ad ∧ w.cell? (ad.add i.toNat) = some (.slice A0 (deadRow xs i).length c0) ∧ (deadRow xs i).length ≤ c0 ∧ (Kd.int .i64).C w A0 (deadRow xs i).length (deadRow xs i) := by
 obtain ⟨ad, c, e, _, hK, hc0⟩ := Kd.C_get h ([] : List Int) i h0 h1
 have hc : ∀ j u, c[j]? = some u → w.cell? (ad.add (i.toNat * 1 + j)) = some u := hc0
 obtain ⟨A0, c0, rfl, l0, g0⟩ := hK
 exact ⟨ad, A0, c0, e, by have hq := hc 0 _ rfl; rwa [Nat.mul_one, Nat.add_zero] at hq, l0, g0⟩
def impl_Dfa_dead.l2 : Nat → List (List Int) → List Bool → Int → Bool → Option (List Bool × Bool)
 | 0, _, _, _, _ => none
 | k + 1, nx, x, i, ag => if i < (nx.length : Int) then (if 0 ≤ i ∧ i < (x.length : Int) then (if rdOf false x i = true then (if (∀ t ∈ deadRow nx i, 0 ≤ t ∧ t < (x.length : Int)) then (if deadAny x (deadRow nx i) = true then impl_Dfa_dead.l2 k nx (x.set i.toNat false) (wrap64 (i + 1)) true else impl_Dfa_dead.l2 k nx x (wrap64 (i + 1)) ag) else none) else impl_Dfa_dead.l2 k nx x (wrap64 (i + 1)) ag) else none) else some (x, ag)
def impl_Dfa_dead.l1 : Nat → List (List Int) → List Bool → Bool → Option (List Bool)
 | 0, _, _, _ => none
 | k + 1, nx, x, ag => if ag = true then (impl_Dfa_dead.l2 k nx x 0 false).bind fun p => impl_Dfa_dead.l1 k nx p.1 p.2 else some x
def impl_Dfa_dead.l0 : Nat → List Int → List Bool → Int → Option (List Bool)
 | 0, _, _, _ => none
 | k + 1, acc, x, i => if i < (acc.length : Int) then (if 0 ≤ i ∧ i < (x.length : Int) then impl_Dfa_dead.l0 k acc (x.set i.toNat (decide (rd acc i < 0))) (wrap64 (i + 1)) else none) else some x
def impl_Dfa_dead.f (k : Nat) (l0_0 : List Int) (l0_1 : List (List Int)) (l0_2 : List Int) : Option (List Bool) := if l0_1.length ≤ 281474976710656 then (impl_Dfa_dead.l0 k l0_2 (List.replicate l0_1.length false) 0).bind fun x => impl_Dfa_dead.l1 k l0_1 x true else none
theorem impl_Dfa_dead.mono2 : ∀ k, ∀ y0 y1 y2 y3, LeO (impl_Dfa_dead.l2 k y0 y1 y2 y3) (impl_Dfa_dead.l2 (k + 1) y0 y1 y2 y3)
 | 0 => fun _ _ _ _ r h => by simp [impl_Dfa_dead.l2] at h
 | k + 1 => by
  have ih := impl_Dfa_dead.mono2 k; intro y0 y1 y2 y3
  unfold impl_Dfa_dead.l2
  repeat' first
   | (with_reducible exact ih _ _ _ _)
   | (with_reducible exact LeO.refl _)
   | (with_reducible refine LeO.ite ?_ ?_)
theorem impl_Dfa_dead.mono1 : ∀ k, ∀ y0 y1 y2, LeO (impl_Dfa_dead.l1 k y0 y1 y2) (impl_Dfa_dead.l1 (k + 1) y0 y1 y2)
 | 0 => fun _ _ _ r h => by simp [impl_Dfa_dead.l1] at h
 | k + 1 => by
  have ih := impl_Dfa_dead.mono1 k; intro y0 y1 y2
  unfold impl_Dfa_dead.l1
  refine LeO.ite (LeO.bind (impl_Dfa_dead.mono2 k _ _ _ _) (fun _ => ih _ _ _)) (LeO.refl _)
theorem impl_Dfa_dead.mono0 : ∀ k, ∀ y0 y1 y2, LeO (impl_Dfa_dead.l0 k y0 y1 y2) (impl_Dfa_dead.l0 (k + 1) y0 y1 y2)
 | 0 => fun _ _ _ r h => by simp [impl_Dfa_dead.l0] at h
 | k + 1 => by
  have ih := impl_Dfa_dead.mono0 k; intro y0 y1 y2
  unfold impl_Dfa_dead.l0
  repeat' first
   | (with_reducible exact ih _ _ _)
   | (with_reducible exact LeO.refl _)
   | (with_reducible refine LeO.ite ?_ ?_)
theorem impl_Dfa_dead.mono : ∀ a0 a1 a2 k, LeO (impl_Dfa_dead.f k a0 a1 a2) (impl_Dfa_dead.f (k + 1) a0 a1 a2) := by
 intro a0 a1 a2 k
 unfold impl_Dfa_dead.f
 exact LeO.ite (LeO.bind (impl_Dfa_dead.mono0 k _ _ _) (fun _ => impl_Dfa_dead.mono1 k _ _ _)) (LeO.refl _)
set_option maxHeartbeats 1000000 in
set_option maxRecDepth 100000 in
theorem impl_Dfa_dead_1.pred (t : Int) (W : World) (gO g n cap : Nat) (x : List Bool) (h0 : W.cell? ⟨gO, 0, none⟩ = some (.slice (some ⟨g, 0, none⟩) n cap)) (hn : n = x.length) (hR : Kd.bool.C W (some ⟨g, 0, none⟩) x.length x) (ht : 0 ≤ t ∧ t < (x.length : Int)) :
  Calls Try.prog 151 (#[.int .i64 t] ++ #[.pointer (some ⟨gO, 0, none⟩)]) W fun e w' => e = .returned (.bool (!(rdOf false x t))) ∧ Drawn0 W w' := by
 obtain ⟨ad, e, hx⟩ := Kd.at_bool hR t ht.1 ht.2
 cases e
 subst hn
 rw [add_plain] at hx
 have t0 := eq_true ht.1
 have t1 := eq_true ht.2
 generalize rdOf false x t = b at *
 clear hR ht
 go_enter Try.func151, Try.ntmps151
 go_wp2
 go_ret
 exact ⟨by first | rfl | (simp; done), by repeat (first | exact Drawn0.refl _ | apply Drawn0.step)⟩
theorem dead_any (x : List Bool) (row : List Int) : (∃ k : Nat, k < row.length ∧ (!(rdOf false x (row.getD k 0))) = true) ↔ deadAny x row = true := by
 unfold deadAny
 rw [List.any_eq_true]
 constructor
 ·rintro ⟨k, hk, h⟩
  rw [List.getD_eq_getElem?_getD, List.getElem?_eq_getElem hk] at h
  exact ⟨row[k], List.getElem_mem hk, h⟩
 ·rintro ⟨t, ht, h⟩
  obtain ⟨k, hk, rfl⟩ := List.mem_iff_getElem.1 ht
  refine ⟨k, hk, ?_⟩
  rw [List.getD_eq_getElem?_getD, List.getElem?_eq_getElem hk]
  exact h
set_option maxHeartbeats 8000000 in
set_option maxRecDepth 100000 in
theorem impl_Dfa_dead.calls (k : Nat) (A0_0 : Option Addr) (c0_0 : Nat) (l0_0 : List Int) (A0_1 : Option Addr) (c0_1 : Nat) (l0_1 : List (List Int)) (A0_2 : Option Addr) (c0_2 : Nat) (l0_2 : List Int) (r : List Bool) (w : World) (hr0_0 : Kd.C (Kd.int .i64) w A0_0 l0_0.length l0_0) (hc0_0 : l0_0.length ≤ c0_0) (hr0_1 : Kd.C (Kd.slice 2 (Kd.int .i64)) w A0_1 l0_1.length l0_1) (hc0_1 : l0_1.length ≤ c0_1) (hr0_2 : Kd.C (Kd.int .i64) w A0_2 l0_2.length l0_2) (hc0_2 : l0_2.length ≤ c0_2) (h : impl_Dfa_dead.f k l0_0 l0_1 l0_2 = some r) :
  Calls Try.prog 92 #[.agg #[.slice A0_0 l0_0.length c0_0, .slice A0_1 l0_1.length c0_1, .slice A0_2 l0_2.length c0_2]] w fun e w' => ∃ v0_ : Value, e = .returned (v0_) ∧ Kd.R Kd.bool 4 w' w.heap.size (fun _ => True) v0_ r ∧ Below w.heap.size w w' := by
 have hu66 := Try.underlying30
 have HR0_1 := Aside0.mk hr0_1
 have HR0_2 := Aside0.mk hr0_2
 clear hr0_0 hc0_0 hr0_1 hc0_1 hr0_2 hc0_2
 unfold impl_Dfa_dead.f at h
 by_cases hn : l0_1.length ≤ 281474976710656
 ·rw [if_pos hn] at h
  obtain ⟨x0, e0, e1⟩ := Option.bind_eq_some_iff.1 h; obtain ⟨y, hy⟩ : ∃ y : List Bool, y = List.replicate ((l0_1.length : Int)).toNat false := ⟨_, rfl⟩
  have hy2 : y = List.replicate l0_1.length false := by rw [hy, Int.toNat_natCast]
  rw [← hy2] at e0
  have HE0 := Aside0.mk e0; have HE1 := Aside0.mk e1; have Ny := Aside0.mk hy
  have hyl : y.length = l0_1.length := by rw [hy2, List.length_replicate]
  have HYL := Aside0.mk hyl; have p1 : decide (0 ≤ (l0_1.length : Int)) = true := decide_eq_true (by omega); have p2 : decide ((l0_1.length : Int).toNat ≤ 281474976710656) = true := decide_eq_true (by omega); have p1b := eq_true (show 0 ≤ (l0_1.length : Int) by omega); have p2b := eq_true (show ((l0_1.length : Int)).toNat ≤ 281474976710656 by omega); have HB := Aside0.mk (Below.refl w.heap.size w); clear h e0 e1 hy hy2 hn hyl
  go_enter Try.func92, Try.ntmps92
  go_wp2_with (first
   | ((with_reducible refine gate_dst (N := 1) rfl ?_); refine box_event ?hg (N := 1) ?hd (cs := #[.slice A0_0 l0_0.length c0_0, .slice A0_1 l0_1.length c0_1, .slice A0_2 l0_2.length c0_2]) (t := 30) ?hr ?_; (case hd => rfl); (case hg => rfl); (case hr => first | (go_simp; done) | (go_simp; rfl)); intro gP hg w1 hbox hb; have BKP := Aside0.mk hbox; have GEP := Aside0.mk (show w.heap.size ≤ gP from (by rw [hg]; exact Nat.le_refl _)); have HB := Aside0.mk (below_step (show Below w.heap.size w _ from by (with_reducible repeat apply pw_below_drewN); exact HB.out) hb); clear hbox hb hg; have hczP_1 : w1.cell? ⟨gP, 1, none⟩ = some (.slice A0_1 l0_1.length c0_1) := (blk_cell BKP.out 1).trans rfl; have hczP_2 : w1.cell? ⟨gP, 2, none⟩ = some (.slice A0_2 l0_2.length c0_2) := (blk_cell BKP.out 2).trans rfl)
   | ((with_reducible refine gate_dst (N := 12) rfl ?_); refine Kd.R_make Kd.bool _ 4 rfl (N := 12) rfl 88 _ _ rfl (l0_1.length : Int) rfl rfl Try.underlying88 (.bool false) 1 info4 rfl (by decide) (by omega) false (ok := fun _ => True) (okp := fun _ => True) rfl (fun _ hk => hk) trivial (of_decide_eq_true (by assumption)) (Nat.le_trans (Nat.mul_le_mul_right _ (of_decide_eq_true (by assumption) : (l0_1.length : Int).toNat ≤ 281474976710656)) (by omega)) (Below.refl _ _) (Nat.le_refl _) ?_; intro v12 w2 ho7 hb hg_ hnew_; clear hg_ hnew_; rw [← Ny.out] at ho7; obtain ⟨Ao, co, eo⟩ := Kd.R_slice ho7; subst eo; have HO := Aside0.mk (Kd.R_lower ho7 (show w.heap.size ≤ _ from below_size (show Below w.heap.size w _ from by (with_reducible repeat apply pw_below_drewN); exact HB.out))); have BKP := Aside0.mk (show w2.heap[gP]? = some (.cells #[.slice A0_0 l0_0.length c0_0, .slice A0_1 l0_1.length c0_1, .slice A0_2 l0_2.length c0_2] 30 (0, 0)) from (hb.block _ (blk_lt BKP.out)).trans BKP.out); have HB := Aside0.mk (below_step (show Below w.heap.size w _ from by (with_reducible repeat apply pw_below_drewN); exact HB.out) hb); clear hb ho7 hczP_1 hczP_2; have hczP_1 : w2.cell? ⟨gP, 1, none⟩ = some (.slice A0_1 l0_1.length c0_1) := (blk_cell BKP.out 1).trans rfl; have hczP_2 : w2.cell? ⟨gP, 2, none⟩ = some (.slice A0_2 l0_2.length c0_2) := (blk_cell BKP.out 2).trans rfl)
   | ((with_reducible refine gate_dst (N := 3) rfl ?_); refine box_event ?hg (N := 3) ?hd (cs := #[.slice none 0 0]) (t := 88) ?hr ?_; (case hd => rfl); (case hg => rfl); (case hr => first | (go_simp; done) | (go_simp; rfl)); intro gO hg w3 hbox hb; have GEO := Aside0.mk (show w.heap.size ≤ gO from (by rw [hg]; exact HB.out.size)); have NPO := Aside0.mk (show gP ≠ gO from (by have z_ := blk_lt BKP.out; rw [hg]; exact Nat.ne_of_lt z_));  have HO := Aside0.mk (Kd.R_mono (Kd.R_bound (Kd.R_below (show Kd.R _ _ _ _ _ _ _ from by (with_reducible repeat apply Kd.R_drewN); exact HO.out) hb)) (ok' := fun _ => True) (fun _ _ => trivial)); have BKP := Aside0.mk (show w3.heap[gP]? = some (.cells #[.slice A0_0 l0_0.length c0_0, .slice A0_1 l0_1.length c0_1, .slice A0_2 l0_2.length c0_2] 30 (0, 0)) from (hb.block _ (blk_lt BKP.out)).trans BKP.out); have BKO := Aside0.mk hbox; have HB := Aside0.mk (below_step (show Below w.heap.size w _ from by (with_reducible repeat apply pw_below_drewN); exact HB.out) hb); clear hbox hb hg hczP_1 hczP_2; have hczP_1 : w3.cell? ⟨gP, 1, none⟩ = some (.slice A0_1 l0_1.length c0_1) := (blk_cell BKP.out 1).trans rfl; have hczP_2 : w3.cell? ⟨gP, 2, none⟩ = some (.slice A0_2 l0_2.length c0_2) := (blk_cell BKP.out 2).trans rfl; have hczO : w3.cell? ⟨gO, 0, none⟩ = some (.slice none 0 0) := (blk_cell BKO.out 0).trans rfl; have hfzO := blk_frozen BKO.out 0)
   | ((with_reducible refine gate_store (t := 88) (p := 3) rfl ?_); refine store_event (t := 88) (p := 3) (v := ?vo_a) (w1 := w3.setCell ⟨gO, 0, none⟩ (.slice Ao y.length co)) ?hg ?ho ?hn ?hr ?_; (case ho => rfl); (case hg => rfl); (case hn => rfl); (case hr => first | (go_simp; done) | (go_simp; rfl)); intro w4 hw; have hk : Kept w3 w4 (fun k_ => k_ = gO) := (by rw [hw]; refine Kept.setCell (S := fun k_ => k_ = gO) (p := ⟨gO, 0, none⟩) ?_ (Or.inl (Eq.refl gO)) _; exact Kept.refl _ _); have HO := Aside0.mk (Kd.R_mono (Kd.R_kept (Kd.R_types HO.out BKO.out (by decide)) hk (fun k_ h1 h2 => h1.2 h2)) (ok' := fun _ => True) (fun _ _ => trivial)); have BKP := Aside0.mk (show w4.heap[gP]? = some (.cells #[.slice A0_0 l0_0.length c0_0, .slice A0_1 l0_1.length c0_1, .slice A0_2 l0_2.length c0_2] 30 (0, 0)) from (hk.2 _ (blk_lt BKP.out) (fun h3 => NPO.out h3)).trans BKP.out); have hbo : w4.heap[gO]? = some (.cells #[.slice Ao y.length co] 88 (0, 0)) := (by rw [hw]; refine blk_put (cs := #[.slice none 0 0]) ?_ 0 _ rfl; exact BKO.out); have BKO := Aside0.mk hbo; have hB : Below w.heap.size w w4 := (by rw [hw]; (with_reducible repeat refine below_set ?_ GEO.out); exact HB.out); have HB := Aside0.mk hB; clear hk hbo hB hw hczP_1 hczP_2 hczO hfzO; have hczP_1 : w4.cell? ⟨gP, 1, none⟩ = some (.slice A0_1 l0_1.length c0_1) := (blk_cell BKP.out 1).trans rfl; have hczP_2 : w4.cell? ⟨gP, 2, none⟩ = some (.slice A0_2 l0_2.length c0_2) := (blk_cell BKP.out 2).trans rfl; have hczO : w4.cell? ⟨gO, 0, none⟩ = some (.slice Ao y.length co) := (blk_cell BKO.out 0).trans rfl))
  go_loopg [16] k (fun kq v16 w' => ∃ (x : List Bool) (i : Int), v16 = .int .i64 i ∧ x.length = y.length ∧ Aside0 (impl_Dfa_dead.l0 kq l0_2 x i = some x0) ∧ Aside0 (kq ≤ k) ∧ Aside0 (Kd.R Kd.bool 4 w' w.heap.size (fun _ => True) (.slice Ao y.length co) x) ∧ Aside0 (w'.heap[gP]? = some (.cells #[.slice A0_0 l0_0.length c0_0, .slice A0_1 l0_1.length c0_1, .slice A0_2 l0_2.length c0_2] 30 (0, 0))) ∧ Aside0 (w'.heap[gO]? = some (.cells #[.slice Ao y.length co] 88 (0, 0))) ∧ Aside0 (Below w.heap.size w w'))
  case atStart => exact ⟨y, 0, rfl, rfl, HE0, ⟨Nat.le_refl _⟩, ⟨by (with_reducible repeat apply Kd.R_drewN); exact HO.out⟩, BKP, BKO, ⟨by (with_reducible repeat apply pw_below_drewN); exact HB.out⟩⟩
  case round =>
   clear HO BKP BKO HB hczP_1 hczP_2 hczO HE0; obtain ⟨x, i, rfl, hlen, HA, HK1, HO, BKP, BKO, HB⟩ := hrel; have HLen := Aside0.mk hlen
   cases gk with
   | zero => exact absurd HA.out (by simp [impl_Dfa_dead.l0])
   | succ k1 =>
    have H := HA.out; clear HA
    simp only [impl_Dfa_dead.l0] at H
    by_cases c : i < (l0_2.length : Int)
    ·rw [if_pos c] at H
     by_cases c2 : 0 ≤ i ∧ i < (x.length : Int)
     ·rw [if_pos c2] at H
      have H' := Aside0.mk H; clear H; obtain ⟨ad, e, hx⟩ := Kd.at_int HR0_2.out i c2.1 c; cases e; replace hx := (HB.out.cell (World.block_lt_of_cell? w _ hx)).trans hx; obtain ⟨go_, co', eo, gb, gl, HG⟩ := Kd.R_form HO.out (by omega)
      injection eo with ea en ec
      subst ea; subst ec; have GB := Aside0.mk gb; obtain ⟨hx29, hf29⟩ := Kd.R_celln false HO.out i c2.1 (by omega); have HP := Kd.R_putg HO.out i (decide (rd l0_2 i < 0)); have hczO : wr.cell? ⟨gO, 0, none⟩ = some (.slice (some ⟨go_, 0, none⟩) y.length co) := (blk_cell BKO.out 0).trans rfl; have t0 := eq_true c; have t1 := eq_true c2.1; have t2 := eq_true (show i < (y.length : Int) by omega); have C2 := Aside0.mk c2; clear gb gl HG en c c2 hlen
      go_wp2_with (first | ((with_reducible refine gate_store (t := 4) (p := 25) rfl ?_); refine store_event (t := 4) (p := 25) (v := ?vo_b) (w1 := (wr.setCell ⟨go_, (i : Int).toNat, none⟩ (.bool (decide (rd l0_2 i < 0))))) ?hg ?ho ?hn ?hr ?_; (case ho => rfl); (case hg => rfl); (case hn => rfl); (case hr => first | (go_simp; done) | (go_simp; rfl)); intro w5 hw; have hg : wr.grownBy w5 (some go_) := (by rw [hw]; exact HP.2); have hp_ : Kd.R Kd.bool 4 w5 w.heap.size (fun _ => True) (.slice (some ⟨go_, 0, none⟩) y.length co) (x.set (i : Int).toNat (decide (rd l0_2 i < 0))) := (by rw [hw]; exact HP.1); have NE1 := Kd.R_ne HO.out BKP.out (by decide); have NE2 := Kd.R_ne HO.out BKO.out (by decide); have BKP := Aside0.mk (blk_grown BKP.out hg NE1); have BKO := Aside0.mk (blk_grown BKO.out hg NE2); have hB : Below w.heap.size w w5 := (by rw [hw]; exact below_set HB.out GB.out); have HB := Aside0.mk hB; have HO := Aside0.mk hp_; clear HP hg hp_ hB NE1 NE2 hw))
      go_roundg k1
      case measure => have := HK1.out; omega
      case rel => exact ⟨x.set (i : Int).toNat (decide (rd l0_2 i < 0)), wrap64 (i + 1), by first | rfl | (simp; done), by rw [List.length_set]; exact HLen.out, H', ⟨by have := HK1.out; omega⟩, ⟨by (with_reducible repeat apply Kd.R_drewN); exact HO.out⟩, BKP, BKO, ⟨by (with_reducible repeat apply pw_below_drewN); exact HB.out⟩⟩
     ·rw [if_neg c2] at H
      exact absurd H (by simp)
    ·rw [if_neg c] at H
     obtain rfl := Option.some.inj H; clear H; have t0 := eq_false c; clear c hlen; have hczP_1 : wr.cell? ⟨gP, 1, none⟩ = some (.slice A0_1 l0_1.length c0_1) := (blk_cell BKP.out 1).trans rfl
     go_wp2
     clear hczP_1
     go_loopg [6] k (fun kq v6 w' => ∃ (x : List Bool) (ag : Bool), v6 = .bool ag ∧ x.length = y.length ∧ Aside0 (impl_Dfa_dead.l1 kq l0_1 x ag = some r) ∧ Aside0 (kq ≤ k) ∧ Aside0 (Kd.R Kd.bool 4 w' w.heap.size (fun _ => True) (.slice Ao y.length co) x) ∧ Aside0 (w'.heap[gP]? = some (.cells #[.slice A0_0 l0_0.length c0_0, .slice A0_1 l0_1.length c0_1, .slice A0_2 l0_2.length c0_2] 30 (0, 0))) ∧ Aside0 (w'.heap[gO]? = some (.cells #[.slice Ao y.length co] 88 (0, 0))) ∧ Aside0 (Below w.heap.size w w'))
     case atStart => exact ⟨_, true, rfl, HLen.out, HE1, ⟨Nat.le_refl _⟩, ⟨by (with_reducible repeat apply Kd.R_drewN); exact HO.out⟩, BKP, BKO, ⟨by (with_reducible repeat apply pw_below_drewN); exact HB.out⟩⟩
     case round =>
      clear HO BKP BKO HB HE1 HLen; obtain ⟨x, ag, rfl, hlen, HA, HK2, HO, BKP, BKO, HB⟩ := hrel; have HLen := Aside0.mk hlen
      cases gk with
      | zero => exact absurd HA.out (by simp [impl_Dfa_dead.l1])
      | succ k2 =>
       have H := HA.out; clear HA hlen
       simp only [impl_Dfa_dead.l1] at H
       cases ag with
       | false =>
        rw [if_neg (by decide)] at H
        obtain rfl := Option.some.inj H; clear H; have hczO : wr.cell? ⟨gO, 0, none⟩ = some (.slice Ao y.length co) := (blk_cell BKO.out 0).trans rfl
        go_wp2
        go_ret
        exact ⟨_, by first | rfl | (simp; done), by (with_reducible repeat apply Kd.R_drewN); exact HO.out, by (with_reducible repeat apply pw_below_drewN); exact HB.out⟩
       | true =>
        rw [if_pos rfl] at H
        obtain ⟨⟨q1, q2⟩, e2, H⟩ := Option.bind_eq_some_iff.1 H; have HQ := Aside0.mk e2; have HN := Aside0.mk (show impl_Dfa_dead.l1 k2 l0_1 q1 q2 = some r from H); clear H e2; have hczP_1 : wr.cell? ⟨gP, 1, none⟩ = some (.slice A0_1 l0_1.length c0_1) := (blk_cell BKP.out 1).trans rfl
        go_wp2
        clear hczP_1
        go_loopg [6, 31] k2 (fun kq v6 v31 w' => ∃ (x : List Bool) (i : Int) (ag : Bool), v6 = .bool ag ∧ v31 = .int .i64 i ∧ x.length = y.length ∧ Aside0 (impl_Dfa_dead.l2 kq l0_1 x i ag = some (q1, q2)) ∧ Aside0 (kq ≤ k2) ∧ Aside0 (Kd.R Kd.bool 4 w' w.heap.size (fun _ => True) (.slice Ao y.length co) x) ∧ Aside0 (w'.heap[gP]? = some (.cells #[.slice A0_0 l0_0.length c0_0, .slice A0_1 l0_1.length c0_1, .slice A0_2 l0_2.length c0_2] 30 (0, 0))) ∧ Aside0 (w'.heap[gO]? = some (.cells #[.slice Ao y.length co] 88 (0, 0))) ∧ Aside0 (Below w.heap.size w w'))
        case atStart => exact ⟨x, 0, false, rfl, rfl, HLen.out, HQ, ⟨Nat.le_refl _⟩, ⟨by (with_reducible repeat apply Kd.R_drewN); exact HO.out⟩, BKP, BKO, ⟨by (with_reducible repeat apply pw_below_drewN); exact HB.out⟩⟩
        case round =>
         clear HO BKP BKO HB HQ HLen; obtain ⟨x, i, ag, rfl, rfl, hlen, HA, HK3, HO, BKP, BKO, HB⟩ := hrel; have HLen := Aside0.mk hlen
         cases gk with
         | zero => exact absurd HA.out (by simp [impl_Dfa_dead.l2])
         | succ k3 =>
          have H := HA.out; clear HA
          simp only [impl_Dfa_dead.l2] at H
          by_cases c : i < (l0_1.length : Int)
          ·rw [if_pos c] at H
           by_cases c2 : 0 ≤ i ∧ i < (x.length : Int)
           ·rw [if_pos c2] at H
            obtain ⟨ad, A, cA, e, hx, hl, hi⟩ := deadRow_at HR0_1.out i c2.1 c; cases e; replace hx := (HB.out.cell (World.block_lt_of_cell? w _ hx)).trans hx; obtain ⟨go_, co', eo, gb, gl, HG⟩ := Kd.R_form HO.out (by omega)
            injection eo with ea en ec
            subst ea; subst ec; have GB := Aside0.mk gb; obtain ⟨hx29, hf29⟩ := Kd.R_celln false HO.out i c2.1 (by omega); have hczO : wr.cell? ⟨gO, 0, none⟩ = some (.slice (some ⟨go_, 0, none⟩) y.length co) := (blk_cell BKO.out 0).trans rfl; have t0 := eq_true c; have t1 := eq_true c2.1; have t2 := eq_true (show i < (y.length : Int) by omega); have C2 := Aside0.mk c2; clear gb gl HG en c c2; generalize hrow : deadRow l0_1 i = row at *
            cases hb : rdOf false x i with
            | false =>
             rw [hb, if_neg (by decide)] at H
             rw [hb] at hx29
             have H' := Aside0.mk H; clear H hlen hrow hb hi hl
             go_wp2
             go_roundg k3
             case measure => have := HK3.out; omega
             case rel => exact ⟨x, wrap64 (i + 1), ag, rfl, by first | rfl | (simp; done), HLen.out, H', ⟨by have := HK3.out; omega⟩, ⟨by (with_reducible repeat apply Kd.R_drewN); exact HO.out⟩, BKP, BKO, ⟨by (with_reducible repeat apply pw_below_drewN); exact HB.out⟩⟩
            | true =>
             rw [hb, if_pos rfl] at H
             rw [hb] at hx29
             by_cases c3 : ∀ t ∈ row, 0 ≤ t ∧ t < (x.length : Int)
             ·rw [if_pos c3] at H
              have hcf : Calls Try.prog 145 #[.slice A row.length cA, .func (.func 151) #[] #[.pointer (some ⟨gO, 0, none⟩)]] wr fun e w' => e = .returned (.bool (deadAny x row)) ∧ Drawn0 wr w' :=
               cf_ints.pred _ row.length cA A (fun j => .int .i64 (row.getD j 0)) (fun j => !(rdOf false x (row.getD j 0))) wr hi.2.1 (reads_ints (Kd.C_below hi HB.out)) 151 _ (fun a v => Try.call151 a v) (fun nd' j hj => impl_Dfa_dead_1.pred (row.getD j 0) (wr.drewN nd') gO go_ y.length co x hczO HLen.out.symm (Kd.C_drewN (Kd.R_reads' HO.out).2.2 nd') (c3 _ (by rw [List.getD_eq_getElem?_getD, List.getElem?_eq_getElem hj]; exact List.getElem_mem hj))) (dead_any x row)
              obtain ⟨B, hB⟩ : ∃ B, B = deadAny x row := ⟨_, rfl⟩
              rw [← hB] at H hcf
              have HCF := Aside0.mk hcf; have HBt := Aside0.mk hb; clear hcf hB hi hl hrow c3 hb hlen
              go_wp2_with fail
              refine (HCF.out).mono ?_
              rintro e w6 ⟨rfl, hd⟩
              have hb6 := hd.below; have HO := Aside0.mk (Kd.R_below HO.out hb6); have BKP := Aside0.mk (show w6.heap[gP]? = some (.cells #[.slice A0_0 l0_0.length c0_0, .slice (some ad) l0_1.length c0_1, .slice A0_2 l0_2.length c0_2] 30 (0, 0)) from (hb6.block _ (blk_lt BKP.out)).trans BKP.out); have BKO := Aside0.mk (show w6.heap[gO]? = some (.cells #[.slice (some ⟨go_, 0, none⟩) y.length co] 88 (0, 0)) from (hb6.block _ (blk_lt BKO.out)).trans BKO.out); have HB := Aside0.mk (below_step HB.out hb6); clear HCF hx29 hf29 hczO hx hd hb6; obtain ⟨hx29, hf29⟩ := Kd.R_celln false HO.out i C2.out.1 (by have := C2.out; have := HLen.out; omega)
              rw [HBt.out] at hx29
              have hczO : w6.cell? ⟨gO, 0, none⟩ = some (.slice (some ⟨go_, 0, none⟩) y.length co) := (blk_cell BKO.out 0).trans rfl; have HP := Aside0.mk (Kd.R_putg HO.out i false)
              cases B with
              | true =>
               rw [if_pos rfl] at H
               have H' := Aside0.mk H; clear H
               go_wp2
               go_roundg k3
               case measure => have := HK3.out; omega
               case rel => exact ⟨x.set (i : Int).toNat false, wrap64 (i + 1), true, rfl, by first | rfl | (simp; done), by rw [List.length_set]; exact HLen.out, H', ⟨by have := HK3.out; omega⟩, ⟨by (with_reducible repeat apply Kd.R_drewN); exact HP.out.1⟩, ⟨blk_grown BKP.out HP.out.2 (Kd.R_ne HO.out BKP.out (by decide))⟩, ⟨blk_grown BKO.out HP.out.2 (Kd.R_ne HO.out BKO.out (by decide))⟩, ⟨by (with_reducible repeat apply pw_below_drewN); exact below_set HB.out GB.out⟩⟩
              | false =>
               rw [if_neg (by decide)] at H
               have H' := Aside0.mk H; clear H HP
               go_wp2
               go_roundg k3
               case measure => have := HK3.out; omega
               case rel => exact ⟨x, wrap64 (i + 1), ag, rfl, by first | rfl | (simp; done), HLen.out, H', ⟨by have := HK3.out; omega⟩, ⟨by (with_reducible repeat apply Kd.R_drewN); exact HO.out⟩, BKP, BKO, ⟨by (with_reducible repeat apply pw_below_drewN); exact HB.out⟩⟩
             ·rw [if_neg c3] at H
              exact absurd H (by simp)
           ·rw [if_neg c2] at H
            exact absurd H (by simp)
          ·rw [if_neg c] at H
           obtain ⟨rfl, rfl⟩ := Prod.mk.inj (Option.some.inj H); clear H; have t0 := eq_false c; clear c hlen
           go_wp2
           go_roundg k2
           case measure => have := HK2.out; omega
           case rel => exact ⟨x, ag, rfl, HLen.out, HN, ⟨by have := HK2.out; omega⟩, ⟨by (with_reducible repeat apply Kd.R_drewN); exact HO.out⟩, BKP, BKO, ⟨by (with_reducible repeat apply pw_below_drewN); exact HB.out⟩⟩
 ·rw [if_neg hn] at h
  exact absurd h (by simp)

/-! ### impl_DeadOf: function 27 -/
def impl_DeadOf.l0 : Nat → List Int → List Bool → Int → Int → Option (List Int)
 | 0, _, _, _, _ => none
 | k + 1, x3, x11, x12, x13 => if x13 < x12 then (if 0 ≤ x13 then (if x13 < (x11.length : Int) then (if rdOf false x11 x13 = true then (if x3.length < 17592186044416 then (impl_DeadOf.l0 k (x3 ++ [x13]) x11 x12 (wrap64 (x13 + 1))) else (none)) else (impl_DeadOf.l0 k x3 x11 x12 (wrap64 (x13 + 1)))) else (none)) else (none)) else (some x3)
def impl_DeadOf.f (k : Nat) (l0_0 : List Int) (l0_1 : List (List Int)) (l0_2 : List Int) : Option (List Int) := (impl_DfaOk.f k l0_0 l0_1 l0_2).bind fun t215 => (if t215 = true then ((impl_Dfa_dead.f k l0_0 l0_1 l0_2).bind fun t219 => (impl_DeadOf.l0 k (([] : List Int)) t219 (t219.length : Int) 0)) else (some ([] : List Int)))
theorem impl_DeadOf.mono_l : ∀ k, (∀ y0 y1 y2 y3, LeO (impl_DeadOf.l0 k y0 y1 y2 y3) (impl_DeadOf.l0 (k + 1) y0 y1 y2 y3))
 | 0 => fun _ _ _ _ r h => by simp [impl_DeadOf.l0] at h
 | k + 1 => by
  have ih0 := impl_DeadOf.mono_l k
  ·intro y0 y1 y2 y3
   unfold impl_DeadOf.l0
   repeat' first
   | (with_reducible exact LeO.refl _)
   | exact ih0 _ _ _ _
   | exact impl_DfaOk.mono _ _ _ _
   | exact impl_Dfa_dead.mono _ _ _ _
   | exact LeO.none _
   | refine LeO.ite ?_ ?_
   | refine LeO.bind ?_ (fun _ => ?_)
theorem impl_DeadOf.mono : ∀ a0 a1 a2 k, LeO (impl_DeadOf.f k a0 a1 a2) (impl_DeadOf.f (k + 1) a0 a1 a2) := by
 intro a0 a1 a2 k
 have ih0 := impl_DeadOf.mono_l k
 unfold impl_DeadOf.f
 repeat' first
   | (with_reducible exact LeO.refl _)
   | exact ih0 _ _ _ _
   | exact impl_DfaOk.mono _ _ _ _
   | exact impl_Dfa_dead.mono _ _ _ _
   | exact LeO.none _
   | refine LeO.ite ?_ ?_
   | refine LeO.bind ?_ (fun _ => ?_)
set_option maxHeartbeats 8000000 in
set_option maxRecDepth 100000 in
theorem impl_DeadOf.calls (k : Nat) (A0_0 : Option Addr) (c0_0 : Nat) (l0_0 : List Int) (A0_1 : Option Addr) (c0_1 : Nat) (l0_1 : List (List Int)) (A0_2 : Option Addr) (c0_2 : Nat) (l0_2 : List Int) (r : List Int) (w : World) (hr0_0 : Kd.C (Kd.int .i64) w A0_0 l0_0.length l0_0) (hc0_0 : l0_0.length ≤ c0_0) (hr0_1 : Kd.C (Kd.slice 2 (Kd.int .i64)) w A0_1 l0_1.length l0_1) (hc0_1 : l0_1.length ≤ c0_1) (hr0_2 : Kd.C (Kd.int .i64) w A0_2 l0_2.length l0_2) (hc0_2 : l0_2.length ≤ c0_2) (h : impl_DeadOf.f k l0_0 l0_1 l0_2 = some r) :
  Calls Try.prog 27 #[.agg #[.slice A0_0 l0_0.length c0_0, .slice A0_1 l0_1.length c0_1, .slice A0_2 l0_2.length c0_2]] w fun e w' => ∃ v0_ : Value, e = .returned (v0_) ∧ Kd.R (Kd.int .i64) 2 w' w.heap.size (fun _ => True) v0_ r ∧ Below w.heap.size w w' := by
 have hu30 := Try.underlying30
 have HR0_0 := Aside0.mk hr0_0
 have HC0_0 := Aside0.mk hc0_0
 clear hr0_0 hc0_0
 have HR0_1 := Aside0.mk hr0_1
 have HC0_1 := Aside0.mk hc0_1
 clear hr0_1 hc0_1
 have HR0_2 := Aside0.mk hr0_2
 have HC0_2 := Aside0.mk hc0_2
 clear hr0_2 hc0_2
 have HB := Aside0.mk (Below.refl w.heap.size w)
 have H : ((impl_DfaOk.f k l0_0 l0_1 l0_2).bind fun t215 => (if t215 = true then ((impl_Dfa_dead.f k l0_0 l0_1 l0_2).bind fun t219 => (impl_DeadOf.l0 k (([] : List Int)) t219 (t219.length : Int) 0)) else (some ([] : List Int)))) = some r := h
 clear h
 replace H := Option.bind_eq_some_iff.mp H
 obtain ⟨t215, A20, H⟩ := H
 replace H : (if t215 = true then ((impl_Dfa_dead.f k l0_0 l0_1 l0_2).bind fun t219 => (impl_DeadOf.l0 k (([] : List Int)) t219 (t219.length : Int) 0)) else (some ([] : List Int))) = some r := H
 have A2 := Aside0.mk A20
 clear A20
 by_cases c3 : t215 = true
 ·subst c3
  have H1 : ((impl_Dfa_dead.f k l0_0 l0_1 l0_2).bind fun t219 => (impl_DeadOf.l0 k (([] : List Int)) t219 (t219.length : Int) 0)) = some r := by rw [if_pos rfl] at H; exact H
  clear H; have H := H1; clear H1; obtain ⟨y216, hy216⟩ : ∃ y_ : List Int, y_ = (([] : List Int)) := ⟨_, rfl⟩
  replace H : ((impl_Dfa_dead.f k l0_0 l0_1 l0_2).bind fun t219 => (impl_DeadOf.l0 k y216 t219 (t219.length : Int) 0)) = some r := by first | (rw [hy216]; with_reducible exact H) | (have H2_ := (Option.bind_some _ _).symm.trans H; rw [hy216]; with_reducible exact H2_) | (have H2_ := (Option.bind_some _ _).symm.trans H; with_reducible exact H2_) | with_reducible exact H | (rw [hy216]; exact H) | exact H
  have Ny216 := Aside0.mk hy216; clear hy216; replace H := Option.bind_eq_some_iff.mp H; obtain ⟨t219, A40, H⟩ := H; replace H : (impl_DeadOf.l0 k y216 t219 (t219.length : Int) 0) = some r := H; have A4 := Aside0.mk A40; clear A40; have H' := Aside0.mk H; clear H
  go_enter Try.func27, Try.ntmps27
  go_wp2_with (first | ((with_reducible refine gate_dst (N := 1) rfl ?_); refine box_event ?hg (N := 1) ?hd (cs := #[.slice A0_0 l0_0.length c0_0, .slice A0_1 l0_1.length c0_1, .slice A0_2 l0_2.length c0_2]) (t := 30) ?hr ?_; (case hd => rfl); (case hg => rfl); (case hr => first | (go_simp; done) | (go_simp; rfl)); intro gb214 hg w5 hbox hb; have BK214 := Aside0.mk (hbox); have GW214 := Aside0.mk ((by rw [hg]; exact (below_size (by repeat (first | (with_reducible first | exact HB.out | apply below_alloc | apply pw_below_drewN | apply below_drew1) | exact HB.out))) : w.heap.size ≤ gb214)); have GE214 := Aside0.mk ((by rw [hg]; exact (below_size (by repeat (first | (with_reducible first | exact HB.out | apply below_alloc | apply pw_below_drewN | apply below_drew1) | exact HB.out))) : w.heap.size ≤ gb214)); replace HB := Aside0.mk (below_step (by repeat (first | (with_reducible first | exact HB.out | apply below_alloc | apply pw_below_drewN | apply below_drew1) | exact HB.out)) hb); clear hb hbox hg; have hcz6_0 : w5.cell? ⟨gb214, 0, none⟩ = some (.slice A0_0 l0_0.length c0_0) := (blk_cell BK214.out 0).trans rfl; have hcz6_1 : w5.cell? ⟨gb214, 1, none⟩ = some (.slice A0_1 l0_1.length c0_1) := (blk_cell BK214.out 1).trans rfl; have hcz6_2 : w5.cell? ⟨gb214, 2, none⟩ = some (.slice A0_2 l0_2.length c0_2) := (blk_cell BK214.out 2).trans rfl; have hfz6_0 := blk_frozen BK214.out 0; have hfz6_1 := blk_frozen BK214.out 1; have hfz6_2 := blk_frozen BK214.out 2) | ((with_reducible refine gate_callee (f := 91) rfl ?_); refine goesL_ (some 7) rfl rfl Try.func91 (by kernel_rfl) rfl #[.agg #[.slice A0_0 l0_0.length c0_0, .slice A0_1 l0_1.length c0_1, .slice A0_2 l0_2.length c0_2]] rfl (by (try simp only [List.map_toArray, List.map_cons, List.map_nil]); first | done | rfl | (simp only [List.length_drop, List.length_take]; rfl)) ?_; (with_reducible refine (impl_DfaOk.calls k _ _ l0_0 _ _ l0_1 _ _ l0_2 true _ ?side1 ?side2 ?side3 ?side4 ?side5 ?side6 A2.out).mono ?_); (case side1 => repeat (first | exact (Kd.C_below HR0_0.out HB.out) | (with_reducible refine Kd.C_alloc ?_ _) | (with_reducible refine Kd.C_drewN ?_ _) | (with_reducible refine Kd.C_drew ?_))); (case side2 => exact HC0_0.out); (case side3 => repeat (first | exact (Kd.C_below HR0_1.out HB.out) | (with_reducible refine Kd.C_alloc ?_ _) | (with_reducible refine Kd.C_drewN ?_ _) | (with_reducible refine Kd.C_drew ?_))); (case side4 => exact HC0_1.out); (case side5 => repeat (first | exact (Kd.C_below HR0_2.out HB.out) | (with_reducible refine Kd.C_alloc ?_ _) | (with_reducible refine Kd.C_drewN ?_ _) | (with_reducible refine Kd.C_drew ?_))); (case side6 => exact HC0_2.out); rintro e w7 ⟨rfl, hb⟩; refine ⟨_, rfl, ?_⟩; replace BK214 := Aside0.mk (blk_below (g := gb214) (o := .cells #[.slice A0_0 l0_0.length c0_0, .slice A0_1 l0_1.length c0_1, .slice A0_2 l0_2.length c0_2] 30 (0, 0)) (by (with_reducible repeat (first | refine blk_drewN ?_ _ | refine blk_drew ?_ | refine blk_alloc ?_ _)); exact BK214.out) hb); replace HB := Aside0.mk (below_step (by repeat (first | (with_reducible first | exact HB.out | apply below_alloc | apply pw_below_drewN | apply below_drew1 | refine below_set ?_ GE214.out) | exact HB.out)) hb); (try clear hb); (try clear hb2); (try clear hk); (try clear hi)) | ((with_reducible refine gate_dst (N := 9) rfl ?_); refine Kd.R_lit (Kd.int .i64) _ 2 ?hg (N := 9) ?hd (xs := ([] : List Int)) (inner := []) (ok := fun _ => True) (okp := fun _ => True) ?hr ?hp (fun _ hk => hk) trivial (Below.refl _ _) (Nat.le_refl _) (by simp) ?_; (case hd => rfl); (case hg => rfl); (case hr => first | (go_simp; done) | (go_simp; rfl)); (case hp => exact (Reps.none _ _)); intro v217 w8 ho9 hb hg_ hnew_; clear hg_ hnew_; (first | rw [← Ny216.out] at ho9 | (simp only [Int.reduceToNat] at ho9; rw [← Ny216.out] at ho9)); have HO218 := Aside0.mk (Kd.R_lower ho9 (below_size (by repeat (first | (with_reducible first | exact HB.out | apply below_alloc | apply pw_below_drewN | apply below_drew1 | refine below_set ?_ GE214.out) | exact HB.out)))); replace BK214 := Aside0.mk (blk_below (g := gb214) (o := .cells #[.slice A0_0 l0_0.length c0_0, .slice A0_1 l0_1.length c0_1, .slice A0_2 l0_2.length c0_2] 30 (0, 0)) (by (with_reducible repeat (first | refine blk_drewN ?_ _ | refine blk_drew ?_ | refine blk_alloc ?_ _)); exact BK214.out) hb); replace HB := Aside0.mk (below_step (by repeat (first | (with_reducible first | exact HB.out | apply below_alloc | apply pw_below_drewN | apply below_drew1 | refine below_set ?_ GE214.out) | exact HB.out)) hb); clear hb ho9; have hcz10_0 : w8.cell? ⟨gb214, 0, none⟩ = some (.slice A0_0 l0_0.length c0_0) := (blk_cell BK214.out 0).trans rfl; have hcz10_1 : w8.cell? ⟨gb214, 1, none⟩ = some (.slice A0_1 l0_1.length c0_1) := (blk_cell BK214.out 1).trans rfl; have hcz10_2 : w8.cell? ⟨gb214, 2, none⟩ = some (.slice A0_2 l0_2.length c0_2) := (blk_cell BK214.out 2).trans rfl; have hfz10_0 := blk_frozen BK214.out 0; have hfz10_1 := blk_frozen BK214.out 1; have hfz10_2 := blk_frozen BK214.out 2) | ((with_reducible refine gate_callee (f := 92) rfl ?_); refine goesL_ (some 11) rfl rfl Try.func92 (by kernel_rfl) rfl #[.agg #[.slice A0_0 l0_0.length c0_0, .slice A0_1 l0_1.length c0_1, .slice A0_2 l0_2.length c0_2]] rfl (by (try simp only [List.map_toArray, List.map_cons, List.map_nil]); first | done | rfl | (simp only [List.length_drop, List.length_take]; rfl)) ?_; (with_reducible refine (impl_Dfa_dead.calls k _ _ l0_0 _ _ l0_1 _ _ l0_2 t219 _ ?side1 ?side2 ?side3 ?side4 ?side5 ?side6 A4.out).mono ?_); (case side1 => repeat (first | exact (Kd.C_below HR0_0.out HB.out) | (with_reducible refine Kd.C_alloc ?_ _) | (with_reducible refine Kd.C_drewN ?_ _) | (with_reducible refine Kd.C_drew ?_))); (case side2 => exact HC0_0.out); (case side3 => repeat (first | exact (Kd.C_below HR0_1.out HB.out) | (with_reducible refine Kd.C_alloc ?_ _) | (with_reducible refine Kd.C_drewN ?_ _) | (with_reducible refine Kd.C_drew ?_))); (case side4 => exact HC0_1.out); (case side5 => repeat (first | exact (Kd.C_below HR0_2.out HB.out) | (with_reducible refine Kd.C_alloc ?_ _) | (with_reducible refine Kd.C_drewN ?_ _) | (with_reducible refine Kd.C_drew ?_))); (case side6 => exact HC0_2.out); rintro e w11 ⟨v220, rfl, ho0, hb⟩; refine ⟨_, rfl, ?_⟩; replace HO218 := Aside0.mk (Kd.R_below (by (with_reducible repeat (first | apply Kd.R_alloc | apply Kd.R_drewN | apply Kd.R_drew)); exact HO218.out) hb); have HO221 := Aside0.mk (Kd.R_lower ho0 (below_size (by repeat (first | (with_reducible first | exact HB.out | apply below_alloc | apply pw_below_drewN | apply below_drew1 | refine below_set ?_ GE214.out) | exact HB.out)))); replace BK214 := Aside0.mk (blk_below (g := gb214) (o := .cells #[.slice A0_0 l0_0.length c0_0, .slice A0_1 l0_1.length c0_1, .slice A0_2 l0_2.length c0_2] 30 (0, 0)) (by (with_reducible repeat (first | refine blk_drewN ?_ _ | refine blk_drew ?_ | refine blk_alloc ?_ _)); exact BK214.out) hb); replace HB := Aside0.mk (below_step (by repeat (first | (with_reducible first | exact HB.out | apply below_alloc | apply pw_below_drewN | apply below_drew1 | refine below_set ?_ GE214.out) | exact HB.out)) hb); (try clear hb); (try clear hb2); (try clear hk); (try clear hi); (try clear ho0); obtain ⟨Ao12, co12, eo12⟩ := Kd.R_slice HO221.out; subst eo12))
  go_loopg [3, 13] k (fun kq v3 v13 w' => ∃ (x3_1 : List Int) (x13_1 : Int), v13 = .int .i64 x13_1 ∧ Aside0 (impl_DeadOf.l0 kq x3_1 t219 (t219.length : Int) x13_1 = some r) ∧ Aside0 (kq ≤ k) ∧ Aside0 (Kd.R (Kd.int .i64) 2 w' w.heap.size (fun _ => True) v3 x3_1) ∧ Aside0 (Kd.R Kd.bool 4 w' w.heap.size (fun _ => True) (.slice Ao12 t219.length co12) t219) ∧ Aside0 (w'.heap[gb214]? = some (.cells #[(.slice A0_0 l0_0.length c0_0), (.slice A0_1 l0_1.length c0_1), (.slice A0_2 l0_2.length c0_2)] 30 (0, 0))) ∧ Aside0 (Below w.heap.size w w'))
  case atStart => exact ⟨(y216), (0), (by first | rfl | (simp; done) | (simp [*]; done)), H', ⟨Nat.le_refl _⟩, ⟨by (with_reducible repeat (first | apply Kd.R_alloc | apply Kd.R_drewN | apply Kd.R_drew)); exact HO218.out⟩, ⟨by (with_reducible repeat (first | apply Kd.R_alloc | apply Kd.R_drewN | apply Kd.R_drew)); exact HO221.out⟩, ⟨by (with_reducible repeat (first | refine blk_drewN ?_ _ | refine blk_drew ?_ | refine blk_alloc ?_ _)); exact BK214.out⟩, ⟨by repeat (first | (with_reducible first | exact HB.out | apply below_alloc | apply pw_below_drewN | apply below_drew1 | refine below_set ?_ GE214.out) | exact HB.out)⟩⟩
  case round =>
   clear H'; (try clear c2); (try clear p2); (try clear c3); (try clear c9); (try clear hcz10_0); (try clear hcz10_1); (try clear hcz10_2); (try clear hcz6_0); (try clear hcz6_1); (try clear hcz6_2); (try clear hfz10_0); (try clear hfz10_1); (try clear hfz10_2); (try clear hfz6_0); (try clear hfz6_1); (try clear hfz6_2); obtain ⟨x3_1, x13_1, rfl, HA, HK1, HO_3, HO_11, BK214, HB⟩ := hrel
   cases gk with
   | zero => exact absurd HA.out (by simp [impl_DeadOf.l0])
   | succ k1 =>
    have H := HA.out; clear HA
    simp only [impl_DeadOf.l0] at H
    by_cases c13 : x13_1 < (t219.length : Int)
    ·rw [if_pos c13] at H
     have c13b0 : decide (x13_1 < (t219.length : Int)) = true := decide_eq_true c13; clear c13
     by_cases c14 : 0 ≤ x13_1
     ·rw [if_pos c14] at H
      have c14b0 : decide (0 ≤ x13_1) = true := decide_eq_true c14; clear c14
      by_cases c15 : x13_1 < (t219.length : Int)
      ·rw [if_pos c15] at H
       have c15b0 : decide (x13_1 < (t219.length : Int)) = true := decide_eq_true c15; clear c15; obtain ⟨bq16, hbq16⟩ : ∃ b_ : Bool, b_ = (rdOf false t219 x13_1) := ⟨_, rfl⟩
       replace H : (if bq16 = true then (if x3_1.length < 17592186044416 then (impl_DeadOf.l0 k1 (x3_1 ++ [x13_1]) t219 (t219.length : Int) (wrap64 (x13_1 + 1))) else (none)) else (impl_DeadOf.l0 k1 x3_1 t219 (t219.length : Int) (wrap64 (x13_1 + 1)))) = some r := by rw [← hbq16] at H; exact H
       have Nbq16 := Aside0.mk hbq16; clear hbq16
       by_cases c17 : bq16 = true
       ·subst c17
        have H1 : (if x3_1.length < 17592186044416 then (impl_DeadOf.l0 k1 (x3_1 ++ [x13_1]) t219 (t219.length : Int) (wrap64 (x13_1 + 1))) else (none)) = some r := by rw [if_pos rfl] at H; exact H
        clear H; have H := H1; clear H1
        by_cases c18 : x3_1.length < 17592186044416
        ·rw [if_pos c18] at H
         have LMc18 := Aside0.mk c18; clear c18; obtain ⟨y223, hy223⟩ : ∃ y_ : List Int, y_ = (x3_1 ++ [x13_1]) := ⟨_, rfl⟩
         replace H : (impl_DeadOf.l0 k1 y223 t219 (t219.length : Int) (wrap64 (x13_1 + 1))) = some r := by first | (rw [hy223]; with_reducible exact H) | (have H2_ := (Option.bind_some _ _).symm.trans H; rw [hy223]; with_reducible exact H2_) | (have H2_ := (Option.bind_some _ _).symm.trans H; with_reducible exact H2_) | with_reducible exact H | (rw [hy223]; exact H) | exact H
         have Ny223 := Aside0.mk hy223; clear hy223; have H' := Aside0.mk H; clear H; have p222 : 0 ≤ (x13_1 : Int) := of_decide_eq_true (by assumption); have q222 : x13_1 < (t219.length : Int) := of_decide_eq_true (by assumption); obtain ⟨ad222, e222, hx222_0⟩ := Kd.at_bool (Kd.R_reads' HO_11.out).2.2 x13_1 p222 q222; (try rw [← Nbq16.out] at hx222_0); cases e222; replace p222 := eq_true p222; replace q222 := eq_true q222
         go_wp2_with (first | ((with_reducible refine gate_builtin (b := .append) (xs := #[.tmp 19, .tmp 21]) rfl ?_); at_builtin; refine Kd.R_append (Kd.int .i64) (w0 := w) w.heap.size rfl (.tmp 19) (.tmp 21) 27 2 (.int .i64 0) 8 rfl Try.underlying27 info2 rfl (by decide) (by omega) u3 x3_1 x13_1 [.int .i64 x13_1] (fun _ => True) (fun _ => False) rfl rfl ?aP (fun _ hk => hk.elim) ?aF ?aO ?aB ?aS ?aL ?_; (case aP => exact rfl); (case aB => exact (by repeat (first | (with_reducible first | exact HB.out | apply below_alloc | apply pw_below_drewN | apply below_drew1 | refine below_set ?_ GE214.out) | exact HB.out))); (case aF => exact (fun _ _ => trivial)); (case aO => exact (by (with_reducible repeat (first | apply Kd.R_alloc | apply Kd.R_drewN | apply Kd.R_drew)); exact HO_3.out)); (case aS => exact (below_size (by repeat (first | (with_reducible first | exact HB.out | apply below_alloc | apply pw_below_drewN | apply below_drew1 | refine below_set ?_ GE214.out) | exact HB.out)))); (case aL => have := LMc18.out; omega); intro v224 w19 ho hb hg hat; rw [← Ny223.out] at ho; replace HO_11 := Aside0.mk (Kd.R_over' (by (with_reducible repeat (first | apply Kd.R_alloc | apply Kd.R_drewN | apply Kd.R_drew)); exact HO_11.out) (Kd.R_typed (by (with_reducible repeat (first | apply Kd.R_alloc | apply Kd.R_drewN | apply Kd.R_drew)); exact HO_3.out)) (by decide) hg); replace BK214 := Aside0.mk (blk_grown (g := gb214) (o := .cells #[.slice A0_0 l0_0.length c0_0, .slice A0_1 l0_1.length c0_1, .slice A0_2 l0_2.length c0_2] 30 (0, 0)) (by (with_reducible repeat (first | refine blk_drewN ?_ _ | refine blk_drew ?_ | refine blk_alloc ?_ _)); exact BK214.out) hg (Kd.R_ne HO_3.out BK214.out (by decide))); replace HB := Aside0.mk (hb); have HO225 := Aside0.mk (ho); clear HO_3; clear ho hb hg hat))
         go_roundg k1
         case measure => have := HK1.out; omega
         case rel => exact ⟨(y223), (wrap64 (x13_1 + 1)), (by first | rfl | (simp; done) | (simp [*]; done)), H', ⟨by have := HK1.out; omega⟩, ⟨by (with_reducible repeat (first | apply Kd.R_alloc | apply Kd.R_drewN | apply Kd.R_drew)); exact HO225.out⟩, ⟨by (with_reducible repeat (first | apply Kd.R_alloc | apply Kd.R_drewN | apply Kd.R_drew)); exact HO_11.out⟩, ⟨by (with_reducible repeat (first | refine blk_drewN ?_ _ | refine blk_drew ?_ | refine blk_alloc ?_ _)); exact BK214.out⟩, ⟨by repeat (first | (with_reducible first | exact HB.out | apply below_alloc | apply pw_below_drewN | apply below_drew1 | refine below_set ?_ GE214.out) | exact HB.out)⟩⟩
        ·rw [if_neg c18] at H
         exact absurd H (by simp)
       ·replace c17 := Bool.eq_false_iff.mpr c17
        subst c17
        have H1 : (impl_DeadOf.l0 k1 x3_1 t219 (t219.length : Int) (wrap64 (x13_1 + 1))) = some r := by rw [if_neg (show ¬ (false = true) by decide)] at H; exact H
        clear H; have H := H1; clear H1; have H' := Aside0.mk H; clear H; have p222 : 0 ≤ (x13_1 : Int) := of_decide_eq_true (by assumption); have q222 : x13_1 < (t219.length : Int) := of_decide_eq_true (by assumption); obtain ⟨ad222, e222, hx222_0⟩ := Kd.at_bool (Kd.R_reads' HO_11.out).2.2 x13_1 p222 q222; (try rw [← Nbq16.out] at hx222_0); cases e222; replace p222 := eq_true p222; replace q222 := eq_true q222
        go_wp2
        go_roundg k1
        case measure => have := HK1.out; omega
        case rel => exact ⟨(x3_1), (wrap64 (x13_1 + 1)), (by first | rfl | (simp; done) | (simp [*]; done)), H', ⟨by have := HK1.out; omega⟩, ⟨by (with_reducible repeat (first | apply Kd.R_alloc | apply Kd.R_drewN | apply Kd.R_drew)); exact HO_3.out⟩, ⟨by (with_reducible repeat (first | apply Kd.R_alloc | apply Kd.R_drewN | apply Kd.R_drew)); exact HO_11.out⟩, ⟨by (with_reducible repeat (first | refine blk_drewN ?_ _ | refine blk_drew ?_ | refine blk_alloc ?_ _)); exact BK214.out⟩, ⟨by repeat (first | (with_reducible first | exact HB.out | apply below_alloc | apply pw_below_drewN | apply below_drew1 | refine below_set ?_ GE214.out) | exact HB.out)⟩⟩
      ·rw [if_neg c15] at H
       exact absurd H (by simp)
     ·rw [if_neg c14] at H
      exact absurd H (by simp)
    ·rw [if_neg c13] at H
     have c13b0 : decide (x13_1 < (t219.length : Int)) = false := decide_eq_false c13; clear c13; obtain rfl := Option.some.inj H
     go_wp2
     go_ret
     exact ⟨_, by first | rfl | (simp [errW_none, errW_some] <;> rfl) | (simp [*, errW_none, errW_some] <;> rfl), by (with_reducible repeat (first | apply Kd.R_alloc | apply Kd.R_drewN | apply Kd.R_drew)); exact HO_3.out, by repeat (first | (with_reducible first | exact HB.out | apply below_alloc | apply pw_below_drewN | apply below_drew1 | refine below_set ?_ GE214.out) | exact HB.out)⟩
 ·replace c3 := Bool.eq_false_iff.mpr c3
  subst c3
  have H1 : (some ([] : List Int)) = some r := by rw [if_neg (show ¬ (false = true) by decide)] at H; exact H
  clear H; have H := H1; clear H1; obtain rfl := Option.some.inj H
  go_enter Try.func27, Try.ntmps27
  go_wp2_with (first | ((with_reducible refine gate_dst (N := 1) rfl ?_); refine box_event ?hg (N := 1) ?hd (cs := #[.slice A0_0 l0_0.length c0_0, .slice A0_1 l0_1.length c0_1, .slice A0_2 l0_2.length c0_2]) (t := 30) ?hr ?_; (case hd => rfl); (case hg => rfl); (case hr => first | (go_simp; done) | (go_simp; rfl)); intro gb214 hg w20 hbox hb; have BK214 := Aside0.mk (hbox); have GW214 := Aside0.mk ((by rw [hg]; exact (below_size (by repeat (first | (with_reducible first | exact HB.out | apply below_alloc | apply pw_below_drewN | apply below_drew1) | exact HB.out))) : w.heap.size ≤ gb214)); have GE214 := Aside0.mk ((by rw [hg]; exact (below_size (by repeat (first | (with_reducible first | exact HB.out | apply below_alloc | apply pw_below_drewN | apply below_drew1) | exact HB.out))) : w.heap.size ≤ gb214)); replace HB := Aside0.mk (below_step (by repeat (first | (with_reducible first | exact HB.out | apply below_alloc | apply pw_below_drewN | apply below_drew1) | exact HB.out)) hb); clear hb hbox hg; have hcz21_0 : w20.cell? ⟨gb214, 0, none⟩ = some (.slice A0_0 l0_0.length c0_0) := (blk_cell BK214.out 0).trans rfl; have hcz21_1 : w20.cell? ⟨gb214, 1, none⟩ = some (.slice A0_1 l0_1.length c0_1) := (blk_cell BK214.out 1).trans rfl; have hcz21_2 : w20.cell? ⟨gb214, 2, none⟩ = some (.slice A0_2 l0_2.length c0_2) := (blk_cell BK214.out 2).trans rfl; have hfz21_0 := blk_frozen BK214.out 0; have hfz21_1 := blk_frozen BK214.out 1; have hfz21_2 := blk_frozen BK214.out 2) | ((with_reducible refine gate_callee (f := 91) rfl ?_); refine goesL_ (some 7) rfl rfl Try.func91 (by kernel_rfl) rfl #[.agg #[.slice A0_0 l0_0.length c0_0, .slice A0_1 l0_1.length c0_1, .slice A0_2 l0_2.length c0_2]] rfl (by (try simp only [List.map_toArray, List.map_cons, List.map_nil]); first | done | rfl | (simp only [List.length_drop, List.length_take]; rfl)) ?_; (with_reducible refine (impl_DfaOk.calls k _ _ l0_0 _ _ l0_1 _ _ l0_2 false _ ?side1 ?side2 ?side3 ?side4 ?side5 ?side6 A2.out).mono ?_); (case side1 => repeat (first | exact (Kd.C_below HR0_0.out HB.out) | (with_reducible refine Kd.C_alloc ?_ _) | (with_reducible refine Kd.C_drewN ?_ _) | (with_reducible refine Kd.C_drew ?_))); (case side2 => exact HC0_0.out); (case side3 => repeat (first | exact (Kd.C_below HR0_1.out HB.out) | (with_reducible refine Kd.C_alloc ?_ _) | (with_reducible refine Kd.C_drewN ?_ _) | (with_reducible refine Kd.C_drew ?_))); (case side4 => exact HC0_1.out); (case side5 => repeat (first | exact (Kd.C_below HR0_2.out HB.out) | (with_reducible refine Kd.C_alloc ?_ _) | (with_reducible refine Kd.C_drewN ?_ _) | (with_reducible refine Kd.C_drew ?_))); (case side6 => exact HC0_2.out); rintro e w22 ⟨rfl, hb⟩; refine ⟨_, rfl, ?_⟩; replace BK214 := Aside0.mk (blk_below (g := gb214) (o := .cells #[.slice A0_0 l0_0.length c0_0, .slice A0_1 l0_1.length c0_1, .slice A0_2 l0_2.length c0_2] 30 (0, 0)) (by (with_reducible repeat (first | refine blk_drewN ?_ _ | refine blk_drew ?_ | refine blk_alloc ?_ _)); exact BK214.out) hb); replace HB := Aside0.mk (below_step (by repeat (first | (with_reducible first | exact HB.out | apply below_alloc | apply pw_below_drewN | apply below_drew1 | refine below_set ?_ GE214.out) | exact HB.out)) hb); (try clear hb); (try clear hb2); (try clear hk); (try clear hi)))
  go_ret
  exact ⟨_, by first | rfl | (simp [errW_none, errW_some] <;> rfl) | (simp [*, errW_none, errW_some] <;> rfl), by first | exact Kd.R_nil _ _ _ _ _ | exact Kd.N_nil _ _ _ _ _ | exact Kd.V_nil _ _ _ _ _ | exact Kd.Q_nil _ _ _ _ _ | exact Kd.S_nil _ _ _ _ _, by repeat (first | (with_reducible first | exact HB.out | apply below_alloc | apply pw_below_drewN | apply below_drew1 | refine below_set ?_ GE214.out) | exact HB.out)⟩

/-! ### spec_l7Blocks: function 94 -/
def spec_l7Blocks.l0 : Nat → List Int → Int → Int → Option (Int)
 | 0, _, _, _ => none
 | k + 1, x0, x3, x4 => if x4 < 256 then (if 0 ≤ x4 then (if x4 < (x0.length : Int) then ((spec_l1In.f (rd x0 x4) 0 x3).bind fun t227 => (if t227 = true then (spec_l7Blocks.l0 k x0 (mx x3 (wrap64 ((rd x0 x4) + 1))) (wrap64 (x4 + 1))) else (some (-1)))) else (none)) else (none)) else (some x3)
def spec_l7Blocks.f (k : Nat) (l0 : List Int) : Option (Int) := if (l0.length : Int) = 256 then (spec_l7Blocks.l0 k l0 0 0) else (some (-1))
theorem spec_l7Blocks.mono_l : ∀ k, (∀ y0 y1 y2, LeO (spec_l7Blocks.l0 k y0 y1 y2) (spec_l7Blocks.l0 (k + 1) y0 y1 y2))
 | 0 => fun _ _ _ r h => by simp [spec_l7Blocks.l0] at h
 | k + 1 => by
  have ih0 := spec_l7Blocks.mono_l k
  ·intro y0 y1 y2
   unfold spec_l7Blocks.l0
   repeat' first
   | (with_reducible exact LeO.refl _)
   | exact ih0 _ _ _
   | exact LeO.none _
   | refine LeO.ite ?_ ?_
   | refine LeO.bind ?_ (fun _ => ?_)
theorem spec_l7Blocks.mono : ∀ a0 k, LeO (spec_l7Blocks.f k a0) (spec_l7Blocks.f (k + 1) a0) := by
 intro a0 k
 have ih0 := spec_l7Blocks.mono_l k
 unfold spec_l7Blocks.f
 repeat' first
   | (with_reducible exact LeO.refl _)
   | exact ih0 _ _ _
   | exact LeO.none _
   | refine LeO.ite ?_ ?_
   | refine LeO.bind ?_ (fun _ => ?_)
set_option maxHeartbeats 8000000 in
set_option maxRecDepth 100000 in
theorem spec_l7Blocks.calls (k : Nat) (A0 : Option Addr) (c0 : Nat) (l0 : List Int) (r : Int) (w : World) (hr0 : Kd.C (Kd.int .i64) w A0 l0.length l0) (hc0 : l0.length ≤ c0) (h : spec_l7Blocks.f k l0 = some r) :
  Calls Try.prog 94 #[.slice A0 l0.length c0] w fun e w' => e = .returned (.int .i64 r) ∧ Below w.heap.size w w' := by
 have HR0 := Aside0.mk hr0
 have HC0 := Aside0.mk hc0
 clear hr0 hc0
 have HB := Aside0.mk (Below.refl w.heap.size w)
 have H : (if (l0.length : Int) = 256 then (spec_l7Blocks.l0 k l0 0 0) else (some (-1))) = some r := h
 clear h
 by_cases c2 : (l0.length : Int) = 256
 ·rw [if_pos c2] at H
  have c2b0 : ((l0.length : Int) == 256) = true := beq_iff_eq.mpr c2; have c2b1 : ((l0.length : Int) != 256) = false := bne_eq_false_iff_eq.mpr c2; clear c2; have H' := Aside0.mk H; clear H
  go_enter Try.func94, Try.ntmps94
  go_wp2
  go_loopg [3, 4] k (fun kq v3 v4 w' => ∃ (x3_1 : Int) (x4_1 : Int), v3 = .int .i64 x3_1 ∧ v4 = .int .i64 x4_1 ∧ Aside0 (spec_l7Blocks.l0 kq l0 x3_1 x4_1 = some r) ∧ Aside0 (kq ≤ k) ∧ Aside0 (Below w.heap.size w w'))
  case atStart => exact ⟨(0), (0), (by first | rfl | (simp; done) | (simp [*]; done)), (by first | rfl | (simp; done) | (simp [*]; done)), H', ⟨Nat.le_refl _⟩, ⟨by repeat (first | (with_reducible first | exact HB.out | apply below_alloc | apply pw_below_drewN | apply below_drew1) | exact HB.out)⟩⟩
  case round =>
   clear H'; (try clear c2); (try clear c2b0); (try clear c2b1); (try clear p2); obtain ⟨x3_1, x4_1, rfl, rfl, HA, HK1, HB⟩ := hrel
   cases gk with
   | zero => exact absurd HA.out (by simp [spec_l7Blocks.l0])
   | succ k1 =>
    have H := HA.out; clear HA
    simp only [spec_l7Blocks.l0] at H
    by_cases c3 : x4_1 < 256
    ·rw [if_pos c3] at H
     have c3b0 : decide (x4_1 < 256) = true := decide_eq_true c3; clear c3
     by_cases c4 : 0 ≤ x4_1
     ·rw [if_pos c4] at H
      have c4b0 : decide (0 ≤ x4_1) = true := decide_eq_true c4; clear c4
      by_cases c5 : x4_1 < (l0.length : Int)
      ·rw [if_pos c5] at H
       have c5b0 : decide (x4_1 < (l0.length : Int)) = true := decide_eq_true c5; clear c5; replace H := Option.bind_eq_some_iff.mp H; obtain ⟨t227, A60, H⟩ := H; replace H : (if t227 = true then (spec_l7Blocks.l0 k1 l0 (mx x3_1 (wrap64 ((rd l0 x4_1) + 1))) (wrap64 (x4_1 + 1))) else (some (-1))) = some r := H; have A6 := Aside0.mk A60; clear A60
       by_cases c7 : t227 = true
       ·subst c7
        have H1 : (spec_l7Blocks.l0 k1 l0 (mx x3_1 (wrap64 ((rd l0 x4_1) + 1))) (wrap64 (x4_1 + 1))) = some r := by rw [if_pos rfl] at H; exact H
        clear H; have H := H1; clear H1; obtain ⟨ji8, hji8⟩ : ∃ j_ : Int, (mx x3_1 (wrap64 ((rd l0 x4_1) + 1))) = j_ := ⟨_, rfl⟩
        replace H : (spec_l7Blocks.l0 k1 l0 ji8 (wrap64 (x4_1 + 1))) = some r := by first | (rw [hji8] at H; exact H) | (simp only [hji8] at H ⊢; exact H)
        (try rw [hji8] at A6); have hji8_ : (if x3_1 < (wrap64 ((rd l0 x4_1) + 1)) then (wrap64 ((rd l0 x4_1) + 1)) else x3_1) = ji8 := hji8; have H' := Aside0.mk H; clear H; have p226 : 0 ≤ (x4_1 : Int) := of_decide_eq_true (by assumption); have q226 : x4_1 < (l0.length : Int) := of_decide_eq_true (by assumption); obtain ⟨ad226, e226, hx226_0⟩ := Kd.at_int HR0.out x4_1 p226 q226; cases e226; replace hx226_0 := (HB.out.cell (World.block_lt_of_cell? w _ hx226_0)).trans hx226_0; replace p226 := eq_true p226; replace q226 := eq_true q226
        go_wp2_with (first | ((with_reducible refine gate_callee (f := 54) rfl ?_); refine goesL_ (some 17) rfl rfl Try.func54 (by kernel_rfl) rfl #[.int .i64 (rd l0 x4_1), .int .i64 0, .int .i64 x3_1] rfl (by (try simp only [List.map_toArray, List.map_cons, List.map_nil]); first | done | rfl | (simp only [List.length_drop, List.length_take]; rfl)) ?_; (with_reducible refine (spec_l1In.calls (rd l0 x4_1) 0 x3_1 true _ A6.out).mono ?_); rintro e w' ⟨rfl, ⟨nd, rfl⟩⟩; refine ⟨_, rfl, ?_⟩; have p228 : 0 ≤ (x4_1 : Int) := of_decide_eq_true (by assumption); have q228 : x4_1 < (l0.length : Int) := of_decide_eq_true (by assumption); obtain ⟨ad228, e228, hx228_0⟩ := Kd.at_int HR0.out x4_1 p228 q228; obtain rfl : ad226 = ad228 := (by injection e228); replace hx228_0 := (HB.out.cell (World.block_lt_of_cell? w _ hx228_0)).trans hx228_0; replace p228 := eq_true p228; replace q228 := eq_true q228))
        go_roundg k1
        case measure => have := HK1.out; omega
        case rel => exact ⟨(ji8), (wrap64 (x4_1 + 1)), (by first | rfl | (simp; done) | (simp only [← hji8] <;> (first | rfl | simp)) | (simp [*]; done)), (by first | rfl | (simp; done) | (simp [*]; done)), H', ⟨by have := HK1.out; omega⟩, ⟨by repeat (first | (with_reducible first | exact HB.out | apply below_alloc | apply pw_below_drewN | apply below_drew1) | exact HB.out)⟩⟩
       ·replace c7 := Bool.eq_false_iff.mpr c7
        subst c7
        have H1 : (some (-1)) = some r := by rw [if_neg (show ¬ (false = true) by decide)] at H; exact H
        clear H; have H := H1; clear H1; obtain rfl := Option.some.inj H; have p226 : 0 ≤ (x4_1 : Int) := of_decide_eq_true (by assumption); have q226 : x4_1 < (l0.length : Int) := of_decide_eq_true (by assumption); obtain ⟨ad226, e226, hx226_0⟩ := Kd.at_int HR0.out x4_1 p226 q226; cases e226; replace hx226_0 := (HB.out.cell (World.block_lt_of_cell? w _ hx226_0)).trans hx226_0; replace p226 := eq_true p226; replace q226 := eq_true q226
        go_wp2_with (first | ((with_reducible refine gate_callee (f := 54) rfl ?_); refine goesL_ (some 17) rfl rfl Try.func54 (by kernel_rfl) rfl #[.int .i64 (rd l0 x4_1), .int .i64 0, .int .i64 x3_1] rfl (by (try simp only [List.map_toArray, List.map_cons, List.map_nil]); first | done | rfl | (simp only [List.length_drop, List.length_take]; rfl)) ?_; (with_reducible refine (spec_l1In.calls (rd l0 x4_1) 0 x3_1 false _ A6.out).mono ?_); rintro e w' ⟨rfl, ⟨nd, rfl⟩⟩; refine ⟨_, rfl, ?_⟩))
        go_ret
        exact ⟨by first | rfl | (simp [errW_none, errW_some] <;> rfl) | (simp [*, errW_none, errW_some] <;> rfl), by repeat (first | (with_reducible first | exact HB.out | apply below_alloc | apply pw_below_drewN | apply below_drew1) | exact HB.out)⟩
      ·rw [if_neg c5] at H
       exact absurd H (by simp)
     ·rw [if_neg c4] at H
      exact absurd H (by simp)
    ·rw [if_neg c3] at H
     have c3b0 : decide (x4_1 < 256) = false := decide_eq_false c3; clear c3; obtain rfl := Option.some.inj H
     go_wp2
     go_ret
     exact ⟨by first | rfl | (simp [errW_none, errW_some] <;> rfl) | (simp [*, errW_none, errW_some] <;> rfl), by repeat (first | (with_reducible first | exact HB.out | apply below_alloc | apply pw_below_drewN | apply below_drew1) | exact HB.out)⟩
 ·rw [if_neg c2] at H
  have c2b0 : ((l0.length : Int) == 256) = false := beq_eq_false_iff_ne.mpr c2; have c2b1 : ((l0.length : Int) != 256) = true := bne_iff_ne.mpr c2; obtain rfl := Option.some.inj H
  go_enter Try.func94, Try.ntmps94
  go_wp2
  go_ret
  exact ⟨by first | rfl | (simp [errW_none, errW_some] <;> rfl) | (simp [*, errW_none, errW_some] <;> rfl), by repeat (first | (with_reducible first | exact HB.out | apply below_alloc | apply pw_below_drewN | apply below_drew1) | exact HB.out)⟩

end Go.Proofs.Ytfajfjgkkgigoaa.PFnDead
