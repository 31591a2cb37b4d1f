-- Written by this session's own program (wip/pr.py) over the kit's printer; contracts that the printer does not know are given by hand.
import Derived.Test.YtfajfjgkkgigoaaPFnClosedx0
import Derived.Test.YtfajfjgkkgigoaaPFnClosedx3
import Derived.Test.YtfajfjgkkgigoaaPFnClosedx5
import Derived.Test.YtfajfjgkkgigoaaPFnClosedx6
namespace Go.Proofs.Ytfajfjgkkgigoaa.PFnClosed
open Go.RowKit Go.Proofs.YtfajfjgkkgigoaaW.PrintWords Go.Proofs.YtfajfjgkkgigoaaW.PrintLast Go.Proofs.YtfajfjgkkgigoaaW.PrintMore
attribute [local go_sem] max2_int min2_int max_two min_two max_three min_three max_four min_four   -- for this text's walks alone
set_option linter.unusedVariables false
set_option linter.unusedSimpArgs false

/-! ### slices_IndexFunc_int64_int64: function 179 -/
/-- what an IndexFunc tells: the first that is one, or -1 -/
def IdxPost_ints (q : Nat → Bool) (n : Nat) (w : World) (e : Ending) (w' : World) : Prop :=
 ∃ r : Int, ((∃ k : Nat, k < n ∧ r = k ∧ q k = true) ∨ (r = -1 ∧ ∀ k, k < n → q k = false)) ∧ e = .returned (.int .i64 r) ∧ Drawn0 w w'
set_option maxHeartbeats 1000000 in
set_option maxRecDepth 100000 in
theorem if_ints.pred (n c0 : Nat) (A0 : Option Addr) (vs : Nat → Value) (q : Nat → Bool) (w : World) (hn : n ≤ 9223372036854775807) (hc : ∀ j, j < n → ∃ ad, A0 = some ad ∧ w.cell? (ad.add j) = some (vs j))
  (g : Nat) (lb : Array Value) (eg : ∀ args w, (callFunc g args).run Try.prog w = .ok (.enter g args) w)
  (hp : ∀ (nd j : Nat), j < n → Calls Try.prog g (#[vs j] ++ lb) (w.drewN nd) fun e w' => e = .returned (.bool (q j)) ∧ Drawn0 (w.drewN nd) w') :
  Calls Try.prog 179 #[.slice A0 n c0, .func (.func g) #[] lb] w (IdxPost_ints q n w) := by
 have HC := Aside0.mk hc
 have HP := Aside0.mk hp
 clear hc hp
 go_enter Try.func179, Try.ntmps179
 go_wp2
 go_loopg [8] n (fun gk v8 wr => ∃ (i : Int) (nd : Nat), 0 ≤ i ∧ i ≤ n ∧ (n : Int) - i ≤ gk ∧ v8 = .int .i64 i ∧ wr = w.drewN nd ∧ Aside0 (∀ k : Nat, (k : Int) < i → q k = false))
 case atStart => exact ⟨0, 0, by omega, by omega, by omega, rfl, rfl, ⟨fun k hk => by omega⟩⟩
 case round =>
  obtain ⟨i, nd, h0, h1, hg, rfl, rfl, HF⟩ := hrel
  by_cases hlt : i < (n : Int)
  ·obtain ⟨ad, e, hx⟩ := HC.out i.toNat (by omega)
   cases e; have t0 := eq_true h0; have t1 := eq_true hlt; have hcall := HP.out nd i.toNat (by omega)
   cases hq : q i.toNat with
   | true =>
    rw [hq] at hcall
    have HQ := Aside0.mk hq; clear hq
    go_wp2_with fail
    refine hcall.mono ?_
    rintro e w' ⟨rfl, ⟨nd', rfl⟩⟩
    clear hcall
    go_wp2
    go_ret
    exact ⟨i, .inl ⟨i.toNat, by omega, by omega, HQ.out⟩, rfl, ⟨_, rfl⟩⟩
   | false =>
    rw [hq] at hcall
    have HQ := Aside0.mk hq; clear hq
    go_wp2_with fail
    refine hcall.mono ?_
    rintro e w' ⟨rfl, ⟨nd', rfl⟩⟩
    clear hcall
    go_wp2
    go_roundg (n - (i.toNat + 1))
    case measure => omega
    case rel =>
     refine ⟨i + 1, nd + nd', by omega, by omega, by omega, by first | rfl | go_num, by first | rfl | exact World.drewN_drewN _ _ _, ⟨fun k hk => ?_⟩⟩
     by_cases h : (k : Int) < i
     ·exact HF.out k h
     ·have : k = i.toNat := by omega
      rw [this]
      exact HQ.out
  ·have t1 := eq_false hlt
   go_wp2
   go_ret
   exact ⟨-1, .inr ⟨rfl, fun k hk => HF.out k (by omega)⟩, rfl, ⟨nd, rfl⟩⟩

/-! ### slices_ContainsFunc_int64_int64: function 145 -/
set_option maxHeartbeats 1000000 in
set_option maxRecDepth 100000 in
theorem cf_ints.pred (b : Bool) (n c0 : Nat) (A0 : Option Addr) (vs : Nat → Value) (q : Nat → Bool) (w : World) (hn : n ≤ 9223372036854775807) (hc : ∀ j, j < n → ∃ ad, A0 = some ad ∧ w.cell? (ad.add j) = some (vs j))
  (g : Nat) (lb : Array Value) (eg : ∀ args w, (callFunc g args).run Try.prog w = .ok (.enter g args) w)
  (hp : ∀ (nd j : Nat), j < n → Calls Try.prog g (#[vs j] ++ lb) (w.drewN nd) fun e w' => e = .returned (.bool (q j)) ∧ Drawn0 (w.drewN nd) w')
  (hb : (∃ k : Nat, k < n ∧ q k = true) ↔ b = true) :
  Calls Try.prog 145 #[.slice A0 n c0, .func (.func g) #[] lb] w fun e w' => e = .returned (.bool b) ∧ Drawn0 w w' := by
 have HC := Aside0.mk hc
 have HP := Aside0.mk hp
 have HBB := Aside0.mk hb
 clear hc hp hb
 go_enter Try.func145, Try.ntmps145
 go_wp2_with fail
 refine (if_ints.pred n c0 A0 vs q w hn HC.out g lb eg HP.out).mono ?_
 rintro e w' ⟨r, hr, rfl, ⟨nd, rfl⟩⟩
 have HR := Aside0.mk hr
 clear hr
 go_wp2
 go_ret
 refine ⟨?_, ⟨nd, rfl⟩⟩
 have e : decide (0 ≤ r) = b := by
  rcases HR.out with ⟨k, hk, h1, h2⟩ | ⟨h1, h2⟩
  ·rw [HBB.out.1 ⟨k, hk, h2⟩, decide_eq_true]
   omega
  ·cases hb : b
   ·rw [decide_eq_false]
    omega
   ·obtain ⟨k, hk, h3⟩ := HBB.out.2 hb
    rw [h2 k hk] at h3
    exact absurd h3 (by simp)
 rw [← e]
 rfl
theorem reads_ints {w : World} {A0 : Option Addr} {l0 : List Int} (hr0 : Kd.C (Kd.int .i64) w A0 l0.length l0) : ∀ j, j < l0.length → ∃ ad, A0 = some ad ∧ w.cell? (ad.add j) = some (.int .i64 (l0.getD j 0)) := by
 intro j hj
 obtain ⟨ad, e, hx⟩ := Kd.at_int hr0 (j : Int) (by omega) (by omega)
 exact ⟨ad, e, by rw [Int.toNat_natCast] at hx; rw [hx]; unfold rd; rw [Int.toNat_natCast]⟩

/-! ### impl_areStates: function 87 -/
def impl_areStates.f (k : Nat) (a0_0 : Int) (l0_1 : List S85) (l0_2 : List S156) (l1 : List Int) : Option Bool :=
 (impl_NfaOk.f k a0_0 l0_1 l0_2).bind fun b => if b = true then some (decide (∀ x ∈ l1, 0 ≤ x ∧ x ≤ wrap64 (a0_0 - 1))) else some false
theorem impl_areStates.mono : ∀ a0 a1 a2 a3 k, LeO (impl_areStates.f k a0 a1 a2 a3) (impl_areStates.f (k + 1) a0 a1 a2 a3) := by
 intro a0 a1 a2 a3 k
 unfold impl_areStates.f
 exact LeO.bind (impl_NfaOk.mono _ _ _ _) (fun _ => LeO.refl _)
theorem areStates_within (x lo hi : Int) : impl_within.f x lo hi = some (decide (lo ≤ x ∧ x ≤ hi)) := by
 unfold impl_within.f
 by_cases h : x ≥ lo
 ·rw [if_pos h]; congr 1; simp; omega
 ·rw [if_neg h]; congr 1; simp; omega
set_option maxHeartbeats 1000000 in
set_option maxRecDepth 100000 in
theorem impl_areStates_1.pred (x p : Int) (W : World) (b1 : Nat) (h1 : W.cell? ⟨b1, 0, none⟩ = some (.int .i64 p)) :
  Calls Try.prog 146 (#[.int .i64 x] ++ #[.pointer (some ⟨b1, 0, none⟩)]) W fun e w' => e = .returned (.bool (!decide (0 ≤ x ∧ x ≤ wrap64 (p - 1)))) ∧ Drawn0 W w' := by
 have HW := Aside0.mk (areStates_within x 0 (wrap64 (p - 1)))
 generalize decide (0 ≤ x ∧ x ≤ wrap64 (p - 1)) = b at *
 have hu := Try.underlying36
 go_enter Try.func146, Try.ntmps146
 go_wp2_with fail
 refine (impl_within.calls x 0 (wrap64 (p - 1)) b _ HW.out).mono ?_
 rintro e w' ⟨rfl, ⟨nd, rfl⟩⟩
 go_wp2
 go_ret
 exact ⟨rfl, ⟨nd, rfl⟩⟩
theorem areStates_any {α : Type} (d : α) (l : List α) (P : α → Prop) [DecidablePred P] : (∃ k, k < l.length ∧ (!decide (P (l.getD k d))) = true) ↔ (!decide (∀ x ∈ l, P x)) = true := by
 rw [Bool.not_eq_true', decide_eq_false_iff_not]
 constructor
 ·rintro ⟨k, hk, hq⟩ h
  have := h l[k] (List.getElem_mem hk)
  rw [List.getD_eq_getElem?_getD, List.getElem?_eq_getElem hk] at hq
  simp only [Option.getD_some, Bool.not_eq_true', decide_eq_false_iff_not] at hq
  exact hq this
 ·intro h
  rw [Classical.not_forall] at h
  obtain ⟨x, h⟩ := h
  rw [Classical.not_imp] at h
  obtain ⟨hx, h⟩ := h; obtain ⟨k, hk, rfl⟩ := List.mem_iff_getElem.1 hx
  refine ⟨k, hk, ?_⟩
  rw [List.getD_eq_getElem?_getD, List.getElem?_eq_getElem hk]
  simp only [Option.getD_some, Bool.not_eq_true', decide_eq_false_iff_not]
  exact h
set_option maxHeartbeats 1000000 in
set_option maxRecDepth 100000 in
theorem impl_areStates.calls (k : Nat) (a0_0 : Int) (A0_1 : Option Addr) (c0_1 : Nat) (l0_1 : List S85) (A0_2 : Option Addr) (c0_2 : Nat) (l0_2 : List S156) (A1 : Option Addr) (c1 : Nat) (l1 : List Int) (r : Bool) (w : World) (hr0_1 : Kd.C k85 w A0_1 l0_1.length l0_1) (hc0_1 : l0_1.length ≤ c0_1) (hr0_2 : Kd.C k156 w A0_2 l0_2.length l0_2) (hc0_2 : l0_2.length ≤ c0_2) (hr1 : Kd.C (Kd.int .i64) w A1 l1.length l1) (hc1 : l1.length ≤ c1) (h : impl_areStates.f k a0_0 l0_1 l0_2 l1 = some r) :
  Calls Try.prog 87 #[.agg #[.int .i64 a0_0, .slice A0_1 l0_1.length c0_1, .slice A0_2 l0_2.length c0_2], .slice A1 l1.length c1] w fun e w' => e = .returned (.bool r) ∧ Below w.heap.size w w' := by
 have HR1 := Aside0.mk hr0_1
 have HC1 := Aside0.mk hc0_1
 have HR2 := Aside0.mk hr0_2
 have HC2 := Aside0.mk hc0_2
 have HR3 := Aside0.mk hr1
 have HC3 := Aside0.mk hc1
 clear hr0_1 hc0_1 hr0_2 hc0_2 hr1 hc1
 have hu := Try.underlying36
 obtain ⟨t, ht, h⟩ := Option.bind_eq_some_iff.1 h
 have HT := Aside0.mk ht
 have HH := Aside0.mk h
 clear ht h
 obtain ⟨W, hWe⟩ : ∃ W, W = (w.alloc (.cells #[.int .i64 a0_0, .slice A0_1 l0_1.length c0_1, .slice A0_2 l0_2.length c0_2] 36)) := ⟨_, rfl⟩
 have hW0 : W.heap[w.heap.size]? = some (.cells #[.int .i64 a0_0, .slice A0_1 l0_1.length c0_1, .slice A0_2 l0_2.length c0_2] 36 (0, 0)) := by rw [hWe]; exact heap_alloc_new w _
 have hbW : Below w.heap.size w W := by rw [hWe]; exact (Below.refl _ _).alloc (Nat.le_refl _) _
 have z0 := blk_cell hW0 0
 have z1 := blk_cell hW0 1
 have z2 := blk_cell hW0 2
 simp only [List.getElem?_toArray, List.getElem?_cons_zero, List.getElem?_cons_succ] at z0 z1 z2
 have HW0 := Aside0.mk hW0
 have HBW := Aside0.mk hbW
 have HWE := Aside0.mk hWe
 clear hbW hWe hW0
 go_enter Try.func87, Try.ntmps87
 go_wp2_with fail
 rw [← HWE.out]
 clear HWE
 refine (impl_NfaOk.calls k _ _ _ l0_1 _ _ l0_2 t _ ?s1 HC1.out ?s2 HC2.out HT.out).mono ?_
 case s1 => repeat (first | exact Kd.C_below HR1.out HBW.out | (with_reducible refine Kd.C_drewN ?_ _) | (with_reducible refine Kd.C_drew ?_))
 case s2 => repeat (first | exact Kd.C_below HR2.out HBW.out | (with_reducible refine Kd.C_drewN ?_ _) | (with_reducible refine Kd.C_drew ?_))
 rintro e w5 ⟨rfl, hb5⟩
 have HBX := Aside0.mk (below_step (show Below w.heap.size w _ from by repeat (first | exact HBW.out | apply pw_below_drewN)) hb5)
 have y0 := (hb5.cell (p := ⟨w.heap.size, 0, none⟩) (by first | exact blk_lt HW0.out | (have := blk_lt HW0.out; simpa using this))).trans z0
 clear hb5 z0 z1 z2 HBW HW0
 cases t with
 | false =>
  have hr := Option.some.inj ((if_neg (by simp)).symm.trans HH.out); subst hr; clear HH
  go_wp2
  go_ret
  exact ⟨by first | rfl | (simp; done) | (simp [*]; done), HBX.out⟩
 | true =>
  have hr := Option.some.inj ((if_pos rfl).symm.trans HH.out); clear HH
  have hcf : Calls Try.prog 145 #[.slice A1 l1.length c1, .func (.func 146) #[] #[.pointer (some ⟨w.heap.size, 0, none⟩)]] w5 fun e w' => e = .returned (.bool (!r)) ∧ Drawn0 w5 w' :=
   cf_ints.pred _ l1.length c1 A1 (fun j => .int .i64 (l1.getD j 0)) (fun j => !decide (0 ≤ l1.getD j 0 ∧ l1.getD j 0 ≤ wrap64 (a0_0 - 1))) w5 HR3.out.2.1 (reads_ints (Kd.C_below HR3.out HBX.out)) 146 _ (fun a v => Try.call146 a v) (fun nd' j _ => impl_areStates_1.pred _ a0_0 (w5.drewN nd') w.heap.size y0) (by rw [← hr]; exact areStates_any 0 l1 (fun x => 0 ≤ x ∧ x ≤ wrap64 (a0_0 - 1)))
  have HCF := Aside0.mk hcf; clear hcf hr
  go_wp2_with fail
  refine (HCF.out).mono ?_
  rintro e w' ⟨rfl, ⟨nd, rfl⟩⟩
  clear HCF
  go_wp2
  go_ret
  exact ⟨by first | rfl | (cases r <;> rfl) | (simp; done), by repeat (first | exact HBX.out | apply pw_below_drewN)⟩

/-! ### impl_Closure: function 20 -/
def impl_Closure.f (k : Nat) (a0_0 : Int) (l0_1 : List S85) (l0_2 : List S156) (l1 : List Int) : Option (List Int) :=
 (impl_areStates.f k a0_0 l0_1 l0_2 l1).bind fun b => if b = true then ((impl_newNetwork.f k a0_0 l0_1 l0_2).bind fun p => impl_network_closure.f k a0_0 l0_1 l0_2 p.1 p.2 l1) else some []
theorem impl_Closure.mono : ∀ a0 a1 a2 a3 k, LeO (impl_Closure.f k a0 a1 a2 a3) (impl_Closure.f (k + 1) a0 a1 a2 a3) := by
 intro a0 a1 a2 a3 k
 unfold impl_Closure.f
 exact LeO.bind (impl_areStates.mono _ _ _ _ _) (fun _ => LeO.ite (LeO.bind (impl_newNetwork.mono _ _ _ _) (fun _ => impl_network_closure.mono _ _ _ _ _ _ _)) (LeO.refl _))
set_option maxHeartbeats 1000000 in
set_option maxRecDepth 100000 in
theorem impl_Closure.calls (k : Nat) (a0_0 : Int) (A0_1 : Option Addr) (c0_1 : Nat) (l0_1 : List S85) (A0_2 : Option Addr) (c0_2 : Nat) (l0_2 : List S156) (A1 : Option Addr) (c1 : Nat) (l1 : List Int) (r : List Int) (w : World) (hr0_1 : Kd.C k85 w A0_1 l0_1.length l0_1) (hc0_1 : l0_1.length ≤ c0_1) (hr0_2 : Kd.C k156 w A0_2 l0_2.length l0_2) (hc0_2 : l0_2.length ≤ c0_2) (hr1 : Kd.C (Kd.int .i64) w A1 l1.length l1) (hc1 : l1.length ≤ c1) (h : impl_Closure.f k a0_0 l0_1 l0_2 l1 = some r) :
  Calls Try.prog 20 #[.agg #[.int .i64 a0_0, .slice A0_1 l0_1.length c0_1, .slice A0_2 l0_2.length c0_2], .slice A1 l1.length c1] w fun e w' => ∃ v0_ : Value, e = .returned (v0_) ∧ Kd.R (Kd.int .i64) 2 w' w.heap.size (fun _ => True) v0_ r ∧ Below w.heap.size w w' := by
 have HR1 := Aside0.mk hr0_1
 have HC1 := Aside0.mk hc0_1
 have HR2 := Aside0.mk hr0_2
 have HC2 := Aside0.mk hc0_2
 have HR3 := Aside0.mk hr1
 have HC3 := Aside0.mk hc1
 clear hr0_1 hc0_1 hr0_2 hc0_2 hr1 hc1
 have hu := Try.underlying36
 obtain ⟨t, ht, h⟩ := Option.bind_eq_some_iff.1 h
 have HT := Aside0.mk ht
 have HH := Aside0.mk h
 clear ht h
 obtain ⟨W, hWe⟩ : ∃ W, W = (w.alloc (.cells #[.int .i64 a0_0, .slice A0_1 l0_1.length c0_1, .slice A0_2 l0_2.length c0_2] 36)) := ⟨_, rfl⟩
 have hW0 : W.heap[w.heap.size]? = some (.cells #[.int .i64 a0_0, .slice A0_1 l0_1.length c0_1, .slice A0_2 l0_2.length c0_2] 36 (0, 0)) := by rw [hWe]; exact heap_alloc_new w _
 have hbW : Below w.heap.size w W := by rw [hWe]; exact (Below.refl _ _).alloc (Nat.le_refl _) _
 have z0 := blk_cell hW0 0
 have z1 := blk_cell hW0 1
 have z2 := blk_cell hW0 2
 simp only [List.getElem?_toArray, List.getElem?_cons_zero, List.getElem?_cons_succ] at z0 z1 z2
 have HW0 := Aside0.mk hW0
 have HBW := Aside0.mk hbW
 have HWE := Aside0.mk hWe
 clear hbW hWe hW0
 go_enter Try.func20, Try.ntmps20
 go_wp2_with fail
 rw [← HWE.out]
 clear HWE
 refine (impl_areStates.calls k _ _ _ l0_1 _ _ l0_2 _ _ l1 t _ ?s1 HC1.out ?s2 HC2.out ?s3 HC3.out HT.out).mono ?_
 case s1 => repeat (first | exact Kd.C_below HR1.out HBW.out | (with_reducible refine Kd.C_drewN ?_ _) | (with_reducible refine Kd.C_drew ?_))
 case s2 => repeat (first | exact Kd.C_below HR2.out HBW.out | (with_reducible refine Kd.C_drewN ?_ _) | (with_reducible refine Kd.C_drew ?_))
 case s3 => repeat (first | exact Kd.C_below HR3.out HBW.out | (with_reducible refine Kd.C_drewN ?_ _) | (with_reducible refine Kd.C_drew ?_))
 rintro e w5 ⟨rfl, hb5⟩
 have HBX := Aside0.mk (below_step (show Below w.heap.size w _ from by repeat (first | exact HBW.out | apply pw_below_drewN)) hb5)
 have HG := Aside0.mk ((hb5.block _ (by first | exact blk_lt HW0.out | (have := blk_lt HW0.out; simpa using this))).trans HW0.out)
 clear hb5 z0 z1 z2 HBW HW0
 have z0 := blk_cell HG.out 0
 have z1 := blk_cell HG.out 1
 have z2 := blk_cell HG.out 2
 simp only [List.getElem?_toArray, List.getElem?_cons_zero, List.getElem?_cons_succ] at z0 z1 z2
 cases t with
 | false =>
  have hr := Option.some.inj ((if_neg (by simp)).symm.trans HH.out); subst hr; clear HH
  go_wp2
  go_ret
  exact ⟨_, by first | rfl | (simp; done) | (simp [*]; done), Kd.R_nil _ _ _ _ _, HBX.out⟩
 | true =>
  have h := (if_pos rfl).symm.trans HH.out; clear HH; obtain ⟨p, hp, h⟩ := Option.bind_eq_some_iff.1 h; have HP := Aside0.mk hp; have HH := Aside0.mk h; clear hp h
  go_wp2_with fail
  refine (impl_newNetwork.calls k _ _ _ l0_1 _ _ l0_2 p.1 p.2 _ ?s4 HC1.out ?s5 HC2.out HP.out).mono ?_
  case s4 => repeat (first | exact Kd.C_below HR1.out HBX.out | (with_reducible refine Kd.C_drewN ?_ _) | (with_reducible refine Kd.C_drew ?_))
  case s5 => repeat (first | exact Kd.C_below HR2.out HBX.out | (with_reducible refine Kd.C_drewN ?_ _) | (with_reducible refine Kd.C_drew ?_))
  rintro e w6 ⟨gn, rfl, v3, v4, hgn, _, hS3, hS4, hb6⟩
  obtain ⟨A3, c3, e3, l3, hR3⟩ := Kd.R_reads (Kd.S_R hS3); obtain ⟨A4, c4, e4, l4, hR4⟩ := Kd.R_reads (Kd.S_R hS4); subst e3; subst e4; have HN := Aside0.mk hgn; have H3 := Aside0.mk hR3; have H4 := Aside0.mk hR4; have L3 := Aside0.mk l3; have L4 := Aside0.mk l4; have HBY := Aside0.mk (below_step (show Below w.heap.size w _ from by repeat (first | exact HBX.out | apply pw_below_drewN)) hb6); clear hgn hS3 hS4 hR3 hR4 l3 l4 hb6 z0 z1 z2 HG HBX
  go_wp2_with fail
  refine (impl_network_closure.calls k gn a0_0 A0_1 c0_1 l0_1 A0_2 c0_2 l0_2 A3 c3 p.1 A4 c4 p.2 _ _ l1 r _ ?s6 HC1.out ?s7 HC2.out ?s8 L3.out ?s9 L4.out ?s10 HC3.out ?s11 HH.out).mono ?_
  case s6 => repeat (first | exact Kd.C_below HR1.out HBY.out | (with_reducible refine Kd.C_drewN ?_ _) | (with_reducible refine Kd.C_drew ?_))
  case s7 => repeat (first | exact Kd.C_below HR2.out HBY.out | (with_reducible refine Kd.C_drewN ?_ _) | (with_reducible refine Kd.C_drew ?_))
  case s8 => repeat (first | exact H3.out | (with_reducible refine Kd.C_drewN ?_ _) | (with_reducible refine Kd.C_drew ?_))
  case s9 => repeat (first | exact H4.out | (with_reducible refine Kd.C_drewN ?_ _) | (with_reducible refine Kd.C_drew ?_))
  case s10 => repeat (first | exact Kd.C_below HR3.out HBY.out | (with_reducible refine Kd.C_drewN ?_ _) | (with_reducible refine Kd.C_drew ?_))
  case s11 => repeat (first | exact HN.out | (with_reducible refine blk_drewN ?_ _) | (with_reducible refine blk_drew ?_))
  rintro e w7 ⟨v, rfl, hv, hb7⟩
  have HV := Aside0.mk (Kd.R_lower hv (show w.heap.size ≤ _ from below_size (show Below w.heap.size w _ from by repeat (first | exact HBY.out | apply pw_below_drewN)))); have HBZ := Aside0.mk (below_step (show Below w.heap.size w _ from by repeat (first | exact HBY.out | apply pw_below_drewN)) hb7); clear hv hb7
  go_wp2
  go_ret
  exact ⟨_, by first | rfl | (simp; done) | (simp [*]; done), by repeat (first | exact HV.out | apply Kd.R_drewN), by repeat (first | exact HBZ.out | apply pw_below_drewN)⟩

/-! ### impl_Span_184: function 184 -/
/-- what an IndexFunc tells: the first that is one, or -1 -/
def IdxPost_spans (q : Nat → Bool) (n : Nat) (w : World) (e : Ending) (w' : World) : Prop :=
 ∃ r : Int, ((∃ k : Nat, k < n ∧ r = k ∧ q k = true ∧ ∀ j, j < k → q j = false) ∨ (r = -1 ∧ ∀ k, k < n → q k = false)) ∧ e = .returned (.int .i64 r) ∧ Below w.heap.size w w'
set_option maxHeartbeats 1000000 in
set_option maxRecDepth 100000 in
theorem if_spans.pred (n c0 : Nat) (A0 : Option Addr) (d0 d1 : Nat → Value) (q : Nat → Bool) (w : World) (hn : n ≤ 9223372036854775807) (hc : ∀ j, j < n → ∃ ad, A0 = some ad ∧ w.cell? (ad.add (j * 2)) = some (d0 j) ∧ w.cell? ⟨(ad.add (j * 2)).block, (ad.add (j * 2)).off + 1, none⟩ = some (d1 j))
  (g : Nat) (lb : Array Value) (eg : ∀ args w, (callFunc g args).run Try.prog w = .ok (.enter g args) w)
  (hp : ∀ (W : World) (j : Nat), j < n → Below w.heap.size w W → Calls Try.prog g (#[.agg #[d0 j, d1 j]] ++ lb) W fun e w' => e = .returned (.bool (q j)) ∧ Below w.heap.size w w') :
  Calls Try.prog 184 #[.slice A0 n c0, .func (.func g) #[] lb] w (IdxPost_spans q n w) := by
 have HC := Aside0.mk hc
 have HP := Aside0.mk hp
 clear hc hp
 go_enter Try.func184, Try.ntmps184
 go_wp2
 go_loopg [5, 8] n (fun gk _ v8 wr => ∃ i : Nat, i ≤ n ∧ n - i ≤ gk ∧ v8 = .int .i64 i ∧ Aside0 (∀ k : Nat, k < i → q k = false) ∧ Aside0 (Below w.heap.size w wr))
 case atStart => exact ⟨0, by omega, by omega, rfl, ⟨fun k hk => by omega⟩, ⟨Below.refl _ _⟩⟩
 case round =>
  obtain ⟨i, h1, hg, rfl, HF, HB⟩ := hrel
  by_cases hlt : i < n
  ·obtain ⟨ad, e, hx0, hx1⟩ := HC.out i hlt
   cases e; replace hx0 := (HB.out.cell (World.block_lt_of_cell? w _ hx0)).trans hx0; replace hx1 := (HB.out.cell (World.block_lt_of_cell? w _ hx1)).trans hx1; have t1 := eq_true (show (i : Int) < (n : Int) by omega); have t0 := eq_true (show (0 : Int) ≤ (i : Int) by omega); have hcall := HP.out wr i hlt HB.out; have HL := Aside0.mk hlt; clear hlt h1; generalize d0 i = v0 at *; generalize d1 i = v1 at *
   cases hq : q i with
   | true =>
    rw [hq] at hcall
    have HQ := Aside0.mk hq; clear hq
    go_wp2_with fail
    refine hcall.mono ?_
    rintro e w' ⟨rfl, hb⟩
    have HB2 := Aside0.mk hb; clear hcall hb
    go_wp2
    go_ret
    exact ⟨i, .inl ⟨i, HL.out, rfl, HQ.out, HF.out⟩, rfl, HB2.out⟩
   | false =>
    rw [hq] at hcall
    have HQ := Aside0.mk hq; clear hq
    go_wp2_with fail
    refine hcall.mono ?_
    rintro e w' ⟨rfl, hb⟩
    have HB2 := Aside0.mk hb; clear hcall hb
    go_wp2
    go_roundg (n - (i + 1))
    case measure => have := HL.out; omega
    case rel =>
     refine ⟨i + 1, by have := HL.out; omega, by omega, ?_, ⟨fun k hk => ?_⟩, HB2⟩
     ·have := HL.out
      show Value.int .i64 (wrap64 ((i : Int) + 1)) = _
      rw [show wrap64 ((i : Int) + 1) = ((i + 1 : Nat) : Int) by unfold wrap64; omega]
     ·rcases Nat.lt_or_eq_of_le (Nat.le_of_lt_succ hk) with h | h
      ·exact HF.out k h
      ·rw [h]; exact HQ.out
  ·have t1 := eq_false (show ¬ (i : Int) < (n : Int) by omega)
   have ei : i = n := by omega
   have HE := Aside0.mk ei; clear hlt h1 ei
   go_wp2
   go_ret
   exact ⟨-1, .inr ⟨rfl, fun k hk => HF.out k (by have := HE.out; omega)⟩, rfl, HB.out⟩

/-! ### impl_Span_170: function 170 -/
set_option maxHeartbeats 1000000 in
set_option maxRecDepth 100000 in
theorem cf_spans.pred (b : Bool) (n c0 : Nat) (A0 : Option Addr) (d0 d1 : Nat → Value) (q : Nat → Bool) (w : World) (hn : n ≤ 9223372036854775807) (hc : ∀ j, j < n → ∃ ad, A0 = some ad ∧ w.cell? (ad.add (j * 2)) = some (d0 j) ∧ w.cell? ⟨(ad.add (j * 2)).block, (ad.add (j * 2)).off + 1, none⟩ = some (d1 j))
  (g : Nat) (lb : Array Value) (eg : ∀ args w, (callFunc g args).run Try.prog w = .ok (.enter g args) w)
  (hp : ∀ (W : World) (j : Nat), j < n → Below w.heap.size w W → Calls Try.prog g (#[.agg #[d0 j, d1 j]] ++ lb) W fun e w' => e = .returned (.bool (q j)) ∧ Below w.heap.size w w')
  (hb : (∃ k : Nat, k < n ∧ q k = true) ↔ b = true) :
  Calls Try.prog 170 #[.slice A0 n c0, .func (.func g) #[] lb] w fun e w' => e = .returned (.bool b) ∧ Below w.heap.size w w' := by
 have HC := Aside0.mk hc
 have HP := Aside0.mk hp
 have HBB := Aside0.mk hb
 clear hc hp hb
 go_enter Try.func170, Try.ntmps170
 go_wp2_with fail
 refine (if_spans.pred n c0 A0 d0 d1 q w hn HC.out g lb eg HP.out).mono ?_
 rintro e w' ⟨r, hr, rfl, hb2⟩
 have HR := Aside0.mk hr
 have HB2 := Aside0.mk hb2
 clear hr hb2
 go_wp2
 go_ret
 refine ⟨?_, HB2.out⟩
 have e : decide (0 ≤ r) = b := by
  rcases HR.out with ⟨k, hk, h1, h2, _⟩ | ⟨h1, h2⟩
  ·rw [HBB.out.1 ⟨k, hk, h2⟩, decide_eq_true]
   omega
  ·cases hb : b
   ·rw [decide_eq_false]
    omega
   ·obtain ⟨k, hk, h3⟩ := HBB.out.2 hb
    rw [h2 k hk] at h3
    exact absurd h3 (by simp)
 rw [← e]
 rfl

/-! ### impl_has: function 135 -/
def hasB (l : List S160) (b : Int) : Bool := l.any (fun s => decide (s.f0 ≤ b ∧ b ≤ s.f1))
def impl_has.f (l0 : List S160) (a1 : Int) : Option Bool := if 0 ≤ a1 ∧ a1 ≤ 255 then some (hasB l0 a1) else none
theorem has_within (x lo hi : Int) : impl_within.f x lo hi = some (decide (lo ≤ x ∧ x ≤ hi)) := by
 unfold impl_within.f
 by_cases h : x ≥ lo
 ·rw [if_pos h]; congr 1; simp; omega
 ·rw [if_neg h]; congr 1; simp; omega
set_option maxHeartbeats 1000000 in
set_option maxRecDepth 100000 in
theorem impl_has_1.calls (x0 x1 b : Int) (hb : 0 ≤ b ∧ b ≤ 255) (W : World) (gb : Nat) (h1 : W.cell? ⟨gb, 0, none⟩ = some (.int .u8 b)) :
  Calls Try.prog 171 (#[.agg #[.int .i64 x0, .int .i64 x1]] ++ #[.pointer (some ⟨gb, 0, none⟩)]) W fun e w' => e = .returned (.bool (decide (x0 ≤ b ∧ b ≤ x1))) ∧ Below W.heap.size W w' := by
 have hlt := World.block_lt_of_cell? W _ h1
 have hB := (Below.refl W.heap.size W).alloc (Nat.le_refl _) (.cells #[.int .i64 x0, .int .i64 x1] 160)
 have h2 : (W.alloc (.cells #[.int .i64 x0, .int .i64 x1] 160)).cell? ⟨gb, 0, none⟩ = some (.int .u8 b) := (hB.cell hlt).trans h1
 have hb0 := heap_alloc_new W (.cells #[.int .i64 x0, .int .i64 x1] 160 (0, 0))
 have h3 : (W.alloc (.cells #[.int .i64 x0, .int .i64 x1] 160)).cell? ⟨W.heap.size, 0, none⟩ = some (.int .i64 x0) := (blk_cell hb0 0).trans rfl
 have h4 : (W.alloc (.cells #[.int .i64 x0, .int .i64 x1] 160)).cell? ⟨W.heap.size, 1, none⟩ = some (.int .i64 x1) := (blk_cell hb0 1).trans rfl
 have HB := Aside0.mk hB
 have HW := Aside0.mk (has_within b x0 x1)
 have cw : IntKind.i64.wrap b = b := by rw [i64_w]; unfold wrap64; omega
 have CW := Aside0.mk cw
 generalize decide (x0 ≤ b ∧ b ≤ x1) = q at *
 have b0 := hb.1
 have b1 := hb.2
 clear h1 hlt hB hb0 hb cw
 go_enter Try.func171, Try.ntmps171
 go_wp2_with fail
 refine (impl_within.calls b x0 x1 q _ HW.out).mono ?_
 rintro e w' ⟨rfl, ⟨nd, rfl⟩⟩
 go_wp2
 go_ret
 exact ⟨by first | rfl | (simp; done), by repeat (first | exact HB.out | apply pw_below_drewN)⟩
set_option maxHeartbeats 1000000 in
set_option maxRecDepth 100000 in
theorem impl_has.calls (A0 : Option Addr) (c0 : Nat) (l0 : List S160) (a1 : Int) (r : Bool) (w : World) (hr0 : Kd.C k160 w A0 l0.length l0) (hc0 : l0.length ≤ c0) (h : impl_has.f l0 a1 = some r) :
  Calls Try.prog 135 #[.slice A0 l0.length c0, .int .u8 a1] w fun e w' => e = .returned (.bool r) ∧ Below w.heap.size w w' := by
 unfold impl_has.f at h
 by_cases hb : 0 ≤ a1 ∧ a1 ≤ 255
 case neg => rw [if_neg hb] at h; exact absurd h (by simp)
 rw [if_pos hb] at h
 have hB := (Below.refl w.heap.size w).alloc (Nat.le_refl _) (.cells #[.int .u8 a1] 5)
 have hb0 := heap_alloc_new w (.cells #[.int .u8 a1] 5 (0, 0))
 have h3 : (w.alloc (.cells #[.int .u8 a1] 5)).cell? ⟨w.heap.size, 0, none⟩ = some (.int .u8 a1) := (blk_cell hb0 0).trans rfl
 have hcf : Calls Try.prog 170 #[.slice A0 l0.length c0, .func (.func 171) #[] #[.pointer (some ⟨w.heap.size, 0, none⟩)]] (w.alloc (.cells #[.int .u8 a1] 5)) fun e w' => e = .returned (.bool r) ∧ Below (w.alloc (.cells #[.int .u8 a1] 5)).heap.size (w.alloc (.cells #[.int .u8 a1] 5)) w' := by
  refine cf_spans.pred r l0.length c0 A0 (fun j => .int .i64 (rd_T160 l0 (j : Int)).f0) (fun j => .int .i64 (rd_T160 l0 (j : Int)).f1) (fun j => decide ((rd_T160 l0 (j : Int)).f0 ≤ a1 ∧ a1 ≤ (rd_T160 l0 (j : Int)).f1)) _ hr0.2.1 (fun j hj => ?_) 171 _ (fun a v => Try.call171 a v) (fun W j hj hb2 => ?_) ?_
  ·obtain ⟨ad, e, h0, h1⟩ := at_T160 (Kd.C_below hr0 hB) (j : Int) (by omega) (by omega)
   rw [Int.toNat_natCast] at h0 h1
   exact ⟨ad, e, h0, h1⟩
  ·refine (impl_has_1.calls _ _ a1 hb W w.heap.size ((hb2.cell (World.block_lt_of_cell? _ _ h3)).trans h3)).mono ?_
   rintro e w' ⟨rfl, hb3⟩
   exact ⟨rfl, hb2.trans (hb3.mono hb2.size)⟩
  ·rw [← Option.some.inj h]
   unfold hasB
   rw [List.any_eq_true]
   have rdk : ∀ j, (hj : j < l0.length) → rd_T160 l0 (j : Int) = l0[j] := fun j hj => by
    unfold rd_T160
    rw [Int.toNat_natCast, List.getD_eq_getElem?_getD, List.getElem?_eq_getElem hj]
    rfl
   constructor
   ·rintro ⟨k, hk, hq⟩
    rw [rdk k hk] at hq
    exact ⟨l0[k], List.getElem_mem hk, hq⟩
   ·rintro ⟨x, hx, hq⟩
    obtain ⟨k, hk, rfl⟩ := List.mem_iff_getElem.1 hx
    exact ⟨k, hk, by rw [rdk k hk]; exact hq⟩
 have HCF := Aside0.mk hcf
 have HB := Aside0.mk hB
 clear hcf hB hb0 h3 h hb hr0 hc0
 go_enter Try.func135, Try.ntmps135
 go_wp2_with fail
 refine (HCF.out).mono ?_
 rintro e w' ⟨rfl, hb⟩
 have HB2 := Aside0.mk (below_step HB.out hb)
 clear hb
 go_wp2
 go_ret
 exact ⟨rfl, HB2.out⟩

/-! ### impl_network_move: function 71 -/
mutual
def impl_network_move.l0 : Nat → Int → List Int → List Int → Int → Int → Int → List (S85) → List (S156) → List (List Int) → List (List Int) → Option (List Int)
 | 0, _, _, _, _, _, _, _, _, _, _ => none
 | k + 1, x2, x7, x13, x14, x15, x176000, x176001, x176002, x176003, x176004 => if x15 < x14 then (if 0 ≤ x15 then (if x15 < (x13.length : Int) then (if 0 ≤ (rd x13 x15) then (if (rd x13 x15) < (x176004.length : Int) then (impl_network_move.l1 k x2 x7 x13 x14 x15 (rd_L7 x176004 (rd x13 x15)) ((rd_L7 x176004 (rd x13 x15)).length : Int) 0 x176000 x176001 x176002 x176003 x176004) else (none)) else (none)) else (none)) else (none)) else ((impl_network_closure.f k x176000 x176001 x176002 x176003 x176004 x7).bind fun t179 => (some t179))
def impl_network_move.l1 : Nat → Int → List Int → List Int → Int → Int → List Int → Int → Int → Int → List (S85) → List (S156) → List (List Int) → List (List Int) → Option (List Int)
 | 0, _, _, _, _, _, _, _, _, _, _, _, _, _ => none
 | k + 1, x2, x7, x13, x14, x15, x25, x26, x27, x176000, x176001, x176002, x176003, x176004 => if x27 < x26 then (if 0 ≤ x27 then (if x27 < (x25.length : Int) then (if 0 ≤ (rd x25 x27) then (if (rd x25 x27) < (x176001.length : Int) then ((impl_has.f ((rd_T85 x176001 (rd x25 x27)).f2) x2).bind fun t186 => (if t186 = true then (if x7.length < 17592186044416 then (impl_network_move.l1 k x2 (x7 ++ [(rd_T85 x176001 (rd x25 x27)).f1]) x13 x14 x15 x25 x26 (wrap64 (x27 + 1)) x176000 x176001 x176002 x176003 x176004) else (none)) else (impl_network_move.l1 k x2 x7 x13 x14 x15 x25 x26 (wrap64 (x27 + 1)) x176000 x176001 x176002 x176003 x176004))) else (none)) else (none)) else (none)) else (none)) else (impl_network_move.l0 k x2 x7 x13 x14 (wrap64 (x15 + 1)) x176000 x176001 x176002 x176003 x176004)
end
def impl_network_move.f (k : Nat) (a0_0 : Int) (l0_1 : List (S85)) (l0_2 : List (S156)) (l0_3 : List (List Int)) (l0_4 : List (List Int)) (l1 : List Int) (a2 : Int) : Option (List Int) := impl_network_move.l0 k a2 (([] : List Int)) l1 (l1.length : Int) 0 a0_0 l0_1 l0_2 l0_3 l0_4
theorem impl_network_move.mono_l : ∀ k, (∀ y0 y1 y2 y3 y4 y5 y6 y7 y8 y9, LeO (impl_network_move.l0 k y0 y1 y2 y3 y4 y5 y6 y7 y8 y9) (impl_network_move.l0 (k + 1) y0 y1 y2 y3 y4 y5 y6 y7 y8 y9)) ∧ (∀ y0 y1 y2 y3 y4 y5 y6 y7 y8 y9 y10 y11 y12, LeO (impl_network_move.l1 k y0 y1 y2 y3 y4 y5 y6 y7 y8 y9 y10 y11 y12) (impl_network_move.l1 (k + 1) y0 y1 y2 y3 y4 y5 y6 y7 y8 y9 y10 y11 y12))
 | 0 => ⟨fun _ _ _ _ _ _ _ _ _ _ r h => by simp [impl_network_move.l0] at h, fun _ _ _ _ _ _ _ _ _ _ _ _ _ r h => by simp [impl_network_move.l1] at h⟩
 | k + 1 => by
  obtain ⟨ih0, ih1⟩ := impl_network_move.mono_l k
  refine ⟨?_, ?_⟩
  ·intro y0 y1 y2 y3 y4 y5 y6 y7 y8 y9
   unfold impl_network_move.l0
   repeat' first
   | (with_reducible exact LeO.refl _)
   | exact ih0 _ _ _ _ _ _ _ _ _ _
   | exact ih1 _ _ _ _ _ _ _ _ _ _ _ _ _
   | exact impl_network_closure.mono _ _ _ _ _ _ _
   | exact LeO.none _
   | refine LeO.ite ?_ ?_
   | refine LeO.bind ?_ (fun _ => ?_)
  ·intro y0 y1 y2 y3 y4 y5 y6 y7 y8 y9 y10 y11 y12
   unfold impl_network_move.l1
   repeat' first
   | (with_reducible exact LeO.refl _)
   | exact ih0 _ _ _ _ _ _ _ _ _ _
   | exact ih1 _ _ _ _ _ _ _ _ _ _ _ _ _
   | exact impl_network_closure.mono _ _ _ _ _ _ _
   | exact LeO.none _
   | refine LeO.ite ?_ ?_
   | refine LeO.bind ?_ (fun _ => ?_)
theorem impl_network_move.mono : ∀ a0 a1 a2 a3 a4 a5 a6 k, LeO (impl_network_move.f k a0 a1 a2 a3 a4 a5 a6) (impl_network_move.f (k + 1) a0 a1 a2 a3 a4 a5 a6) := by
 intro a0 a1 a2 a3 a4 a5 a6 k
 obtain ⟨ih0, ih1⟩ := impl_network_move.mono_l k
 unfold impl_network_move.f
 repeat' first
   | (with_reducible exact LeO.refl _)
   | exact ih0 _ _ _ _ _ _ _ _ _ _
   | exact ih1 _ _ _ _ _ _ _ _ _ _ _ _ _
   | exact impl_network_closure.mono _ _ _ _ _ _ _
   | exact LeO.none _
   | refine LeO.ite ?_ ?_
   | refine LeO.bind ?_ (fun _ => ?_)
set_option maxHeartbeats 8000000 in
set_option maxRecDepth 100000 in
theorem impl_network_move.calls (k : Nat) (gb175 : Nat) (a0_0 : Int) (A0_1 : Option Addr) (c0_1 : Nat) (l0_1 : List (S85)) (A0_2 : Option Addr) (c0_2 : Nat) (l0_2 : List (S156)) (A0_3 : Option Addr) (c0_3 : Nat) (l0_3 : List (List Int)) (A0_4 : Option Addr) (c0_4 : Nat) (l0_4 : List (List Int)) (A1 : Option Addr) (c1 : Nat) (l1 : List Int) (a2 : Int) (r : List Int) (w : World) (hr0_1 : Kd.C k85 w A0_1 l0_1.length l0_1) (hc0_1 : l0_1.length ≤ c0_1) (hr0_2 : Kd.C k156 w A0_2 l0_2.length l0_2) (hc0_2 : l0_2.length ≤ c0_2) (hr0_3 : Kd.C (Kd.slice 2 (Kd.int .i64)) w A0_3 l0_3.length l0_3) (hc0_3 : l0_3.length ≤ c0_3) (hr0_4 : Kd.C (Kd.slice 3 (Kd.int .i64)) w A0_4 l0_4.length l0_4) (hc0_4 : l0_4.length ≤ c0_4) (hr1 : Kd.C (Kd.int .i64) w A1 l1.length l1) (hc1 : l1.length ≤ c1) (hbk : w.heap[gb175]? = some (.cells #[.int .i64 a0_0, .slice A0_1 l0_1.length c0_1, .slice A0_2 l0_2.length c0_2, .slice A0_3 l0_3.length c0_3, .slice A0_4 l0_4.length c0_4] 166 (0, 0))) (h : impl_network_move.f k a0_0 l0_1 l0_2 l0_3 l0_4 l1 a2 = some r) :
  Calls Try.prog 71 #[.pointer (some ⟨gb175, 0, none⟩), .slice A1 l1.length c1, .int .u8 a2] w fun e w' => ∃ v0_ : Value, e = .returned (v0_) ∧ Kd.R (Kd.int .i64) 2 w' w.heap.size (fun _ => True) v0_ r ∧ Below w.heap.size w w' := by
 have hu166 := Try.underlying166
 have HR0_1 := Aside0.mk hr0_1
 have HC0_1 := Aside0.mk hc0_1
 clear hr0_1 hc0_1
 have HR0_2 := Aside0.mk hr0_2
 have HC0_2 := Aside0.mk hc0_2
 clear hr0_2 hc0_2
 have HR0_3 := Aside0.mk hr0_3
 have HC0_3 := Aside0.mk hc0_3
 clear hr0_3 hc0_3
 have HR0_4 := Aside0.mk hr0_4
 have HC0_4 := Aside0.mk hc0_4
 clear hr0_4 hc0_4
 have HR1 := Aside0.mk hr1
 have HC1 := Aside0.mk hc1
 clear hr1 hc1
 have HB := Aside0.mk (Below.refl w.heap.size w)
 have BK175 := Aside0.mk hbk
 clear hbk
 have H : (impl_network_move.l0 k a2 (([] : List Int)) l1 (l1.length : Int) 0 a0_0 l0_1 l0_2 l0_3 l0_4) = some r := h
 clear h
 obtain ⟨y176, hy176⟩ : ∃ y_ : List Int, y_ = (([] : List Int)) := ⟨_, rfl⟩
 replace H : (impl_network_move.l0 k a2 y176 l1 (l1.length : Int) 0 a0_0 l0_1 l0_2 l0_3 l0_4) = some r := by first | (rw [hy176]; with_reducible exact H) | (have H2_ := (Option.bind_some _ _).symm.trans H; rw [hy176]; with_reducible exact H2_) | (have H2_ := (Option.bind_some _ _).symm.trans H; with_reducible exact H2_) | with_reducible exact H | (rw [hy176]; exact H) | exact H
 have Ny176 := Aside0.mk hy176
 clear hy176
 have H' := Aside0.mk H
 clear H
 go_enter Try.func71, Try.ntmps71
 go_wp2_with (first | ((with_reducible refine gate_dst (N := 12) rfl ?_); refine Kd.R_lit (Kd.int .i64) _ 2 ?hg (N := 12) ?hd (xs := ([] : List Int)) (inner := []) (ok := fun _ => True) (okp := fun _ => True) ?hr ?hp (fun _ hk => hk) trivial (Below.refl _ _) (Nat.le_refl _) (by simp) ?_; (case hd => rfl); (case hg => rfl); (case hr => first | (go_simp; done) | (go_simp; rfl)); (case hp => exact (Reps.none _ _)); intro v177 w5 ho6 hb hg_ hnew_; clear hg_ hnew_; (first | rw [← Ny176.out] at ho6 | (simp only [Int.reduceToNat] at ho6; rw [← Ny176.out] at ho6)); have HO178 := Aside0.mk (Kd.R_lower ho6 (below_size (by repeat (first | (with_reducible first | exact HB.out | apply below_alloc | apply pw_below_drewN | apply below_drew1 | refine below_set ?_ GE175.out) | exact HB.out)))); replace BK175 := Aside0.mk (blk_below (g := gb175) (o := .cells #[.int .i64 a0_0, .slice A0_1 l0_1.length c0_1, .slice A0_2 l0_2.length c0_2, .slice A0_3 l0_3.length c0_3, .slice A0_4 l0_4.length c0_4] 166 (0, 0)) (by (with_reducible repeat (first | refine blk_drewN ?_ _ | refine blk_drew ?_ | refine blk_alloc ?_ _)); exact BK175.out) hb); replace HB := Aside0.mk (below_step (by repeat (first | (with_reducible first | exact HB.out | apply below_alloc | apply pw_below_drewN | apply below_drew1 | refine below_set ?_ GE175.out) | exact HB.out)) hb); clear hb ho6))
 go_loopg [7, 15] k (fun kq v7 v15 w' => ∃ (x7_1 : List Int) (x15_1 : Int), v15 = .int .i64 x15_1 ∧ Aside0 (impl_network_move.l0 kq a2 x7_1 l1 (l1.length : Int) x15_1 a0_0 l0_1 l0_2 l0_3 l0_4 = some r) ∧ Aside0 (kq ≤ k) ∧ Aside0 (Kd.R (Kd.int .i64) 2 w' w.heap.size (fun _ => True) v7 x7_1) ∧ Aside0 (w'.heap[gb175]? = some (.cells #[.int .i64 a0_0, (.slice A0_1 l0_1.length c0_1), (.slice A0_2 l0_2.length c0_2), (.slice A0_3 l0_3.length c0_3), (.slice A0_4 l0_4.length c0_4)] 166 (0, 0))) ∧ Aside0 (Below w.heap.size w w'))
 case atStart => exact ⟨(y176), (0), (by first | rfl | (simp; done) | (simp [*]; done)), H', ⟨Nat.le_refl _⟩, ⟨by (with_reducible repeat (first | apply Kd.R_alloc | apply Kd.R_drewN | apply Kd.R_drew)); exact HO178.out⟩, ⟨by (with_reducible repeat (first | refine blk_drewN ?_ _ | refine blk_drew ?_ | refine blk_alloc ?_ _)); exact BK175.out⟩, ⟨by repeat (first | (with_reducible first | exact HB.out | apply below_alloc | apply pw_below_drewN | apply below_drew1 | refine below_set ?_ GE175.out) | exact HB.out)⟩⟩
 case round =>
  clear H'; (try clear c1); (try clear p2); obtain ⟨x7_1, x15_1, rfl, HA, HK1, HO_7, BK175, HB⟩ := hrel
  cases gk with
  | zero => exact absurd HA.out (by simp [impl_network_move.l0])
  | succ k1 =>
   have H := HA.out; clear HA
   simp only [impl_network_move.l0] at H
   by_cases c7 : x15_1 < (l1.length : Int)
   ·rw [if_pos c7] at H
    have c7b0 : decide (x15_1 < (l1.length : Int)) = true := decide_eq_true c7; clear c7
    by_cases c8 : 0 ≤ x15_1
    ·rw [if_pos c8] at H
     have c8b0 : decide (0 ≤ x15_1) = true := decide_eq_true c8; clear c8
     by_cases c9 : x15_1 < (l1.length : Int)
     ·rw [if_pos c9] at H
      have c9b0 : decide (x15_1 < (l1.length : Int)) = true := decide_eq_true c9; clear c9
      by_cases c10 : 0 ≤ (rd l1 x15_1)
      ·rw [if_pos c10] at H
       have c10b0 : decide (0 ≤ (rd l1 x15_1)) = true := decide_eq_true c10; clear c10
       by_cases c11 : (rd l1 x15_1) < (l0_4.length : Int)
       ·rw [if_pos c11] at H
        have c11b0 : decide ((rd l1 x15_1) < (l0_4.length : Int)) = true := decide_eq_true c11; clear c11; have H' := Aside0.mk H; clear H; have p182 : 0 ≤ (x15_1 : Int) := of_decide_eq_true (by assumption); have q182 : x15_1 < (l1.length : Int) := of_decide_eq_true (by assumption); obtain ⟨ad182, e182, hx182_0⟩ := Kd.at_int HR1.out x15_1 p182 q182; cases e182; replace hx182_0 := (HB.out.cell (World.block_lt_of_cell? w _ hx182_0)).trans hx182_0; replace p182 := eq_true p182; replace q182 := eq_true q182; have hcz12_0 : wr.cell? ⟨gb175, 0, none⟩ = some (.int .i64 a0_0) := (blk_cell BK175.out 0).trans rfl; have hcz12_1 : wr.cell? ⟨gb175, 1, none⟩ = some (.slice A0_1 l0_1.length c0_1) := (blk_cell BK175.out 1).trans rfl; have hcz12_2 : wr.cell? ⟨gb175, 2, none⟩ = some (.slice A0_2 l0_2.length c0_2) := (blk_cell BK175.out 2).trans rfl; have hcz12_3 : wr.cell? ⟨gb175, 3, none⟩ = some (.slice A0_3 l0_3.length c0_3) := (blk_cell BK175.out 3).trans rfl; have hcz12_4 : wr.cell? ⟨gb175, 4, none⟩ = some (.slice A0_4 l0_4.length c0_4) := (blk_cell BK175.out 4).trans rfl; have hfz12_0 := blk_frozen BK175.out 0; have hfz12_1 := blk_frozen BK175.out 1; have hfz12_2 := blk_frozen BK175.out 2; have hfz12_3 := blk_frozen BK175.out 3; have hfz12_4 := blk_frozen BK175.out 4; have p183 : 0 ≤ ((rd l1 x15_1) : Int) := of_decide_eq_true (by assumption); have q183 : (rd l1 x15_1) < (l0_4.length : Int) := of_decide_eq_true (by assumption); obtain ⟨ad183, A183_0, c183_0, e183, hx183_0, hl183_0, hi183_0⟩ := at_L7 HR0_4.out (rd l1 x15_1) p183 q183; cases e183; replace hx183_0 := (HB.out.cell (World.block_lt_of_cell? w _ hx183_0)).trans hx183_0; have HR183_0 := Aside0.mk hi183_0; have HC183_0 := Aside0.mk hl183_0; clear hi183_0 hl183_0; replace p183 := eq_true p183; replace q183 := eq_true q183
        go_wp2
        go_loopg [7, 27] k1 (fun kq v7 v27 w' => ∃ (x7_2 : List Int) (x27_2 : Int), v27 = .int .i64 x27_2 ∧ Aside0 (impl_network_move.l1 kq a2 x7_2 l1 (l1.length : Int) x15_1 (rd_L7 l0_4 (rd l1 x15_1)) ((rd_L7 l0_4 (rd l1 x15_1)).length : Int) x27_2 a0_0 l0_1 l0_2 l0_3 l0_4 = some r) ∧ Aside0 (kq ≤ k1) ∧ Aside0 (Kd.R (Kd.int .i64) 2 w' w.heap.size (fun _ => True) v7 x7_2) ∧ Aside0 (w'.heap[gb175]? = some (.cells #[.int .i64 a0_0, (.slice A0_1 l0_1.length c0_1), (.slice A0_2 l0_2.length c0_2), (.slice A0_3 l0_3.length c0_3), (.slice (some ad183) l0_4.length c0_4)] 166 (0, 0))) ∧ Aside0 (Below w.heap.size w w'))
        case atStart => exact ⟨(x7_1), (0), (by first | rfl | (simp; done) | (simp [*]; done)), H', ⟨Nat.le_refl _⟩, ⟨by (with_reducible repeat (first | apply Kd.R_alloc | apply Kd.R_drewN | apply Kd.R_drew)); exact HO_7.out⟩, ⟨by (with_reducible repeat (first | refine blk_drewN ?_ _ | refine blk_drew ?_ | refine blk_alloc ?_ _)); exact BK175.out⟩, ⟨by repeat (first | (with_reducible first | exact HB.out | apply below_alloc | apply pw_below_drewN | apply below_drew1 | refine below_set ?_ GE175.out) | exact HB.out)⟩⟩
        case round =>
         clear H'; (try clear c1); (try clear p1); (try clear q1); (try clear hx1); (try clear p2); (try clear c7); (try clear c7b0); (try clear c8); (try clear c8b0); (try clear c9); (try clear c9b0); (try clear c10); (try clear c10b0); (try clear c11); (try clear c11b0); (try clear hcz12_0); (try clear hcz12_1); (try clear hcz12_2); (try clear hcz12_3); (try clear hcz12_4); (try clear hfz12_0); (try clear hfz12_1); (try clear hfz12_2); (try clear hfz12_3); (try clear hfz12_4); (try clear hx182_0); (try clear hx183_0); (try clear p182); (try clear p183); (try clear p2); (try clear q182); (try clear q183); obtain ⟨x7_2, x27_2, rfl, HA, HK2, HO_7, BK175, HB⟩ := hrel
         cases gk with
         | zero => exact absurd HA.out (by simp [impl_network_move.l1])
         | succ k2 =>
          have H := HA.out; clear HA
          simp only [impl_network_move.l1] at H
          by_cases c13 : x27_2 < ((rd_L7 l0_4 (rd l1 x15_1)).length : Int)
          ·rw [if_pos c13] at H
           have c13b0 : decide (x27_2 < ((rd_L7 l0_4 (rd l1 x15_1)).length : Int)) = true := decide_eq_true c13; clear c13
           by_cases c14 : 0 ≤ x27_2
           ·rw [if_pos c14] at H
            have c14b0 : decide (0 ≤ x27_2) = true := decide_eq_true c14; clear c14
            by_cases c15 : x27_2 < ((rd_L7 l0_4 (rd l1 x15_1)).length : Int)
            ·rw [if_pos c15] at H
             have c15b0 : decide (x27_2 < ((rd_L7 l0_4 (rd l1 x15_1)).length : Int)) = true := decide_eq_true c15; clear c15
             by_cases c16 : 0 ≤ (rd (rd_L7 l0_4 (rd l1 x15_1)) x27_2)
             ·rw [if_pos c16] at H
              have c16b0 : decide (0 ≤ (rd (rd_L7 l0_4 (rd l1 x15_1)) x27_2)) = true := decide_eq_true c16; clear c16
              by_cases c17 : (rd (rd_L7 l0_4 (rd l1 x15_1)) x27_2) < (l0_1.length : Int)
              ·rw [if_pos c17] at H
               have c17b0 : decide ((rd (rd_L7 l0_4 (rd l1 x15_1)) x27_2) < (l0_1.length : Int)) = true := decide_eq_true c17; clear c17; replace H := Option.bind_eq_some_iff.mp H; obtain ⟨t186, A180, H⟩ := H; replace H : (if t186 = true then (if x7_2.length < 17592186044416 then (impl_network_move.l1 k2 a2 (x7_2 ++ [(rd_T85 l0_1 (rd (rd_L7 l0_4 (rd l1 x15_1)) x27_2)).f1]) l1 (l1.length : Int) x15_1 (rd_L7 l0_4 (rd l1 x15_1)) ((rd_L7 l0_4 (rd l1 x15_1)).length : Int) (wrap64 (x27_2 + 1)) a0_0 l0_1 l0_2 l0_3 l0_4) else (none)) else (impl_network_move.l1 k2 a2 x7_2 l1 (l1.length : Int) x15_1 (rd_L7 l0_4 (rd l1 x15_1)) ((rd_L7 l0_4 (rd l1 x15_1)).length : Int) (wrap64 (x27_2 + 1)) a0_0 l0_1 l0_2 l0_3 l0_4)) = some r := H; have A18 := Aside0.mk A180; clear A180
               by_cases c19 : t186 = true
               ·subst c19
                have H1 : (if x7_2.length < 17592186044416 then (impl_network_move.l1 k2 a2 (x7_2 ++ [(rd_T85 l0_1 (rd (rd_L7 l0_4 (rd l1 x15_1)) x27_2)).f1]) l1 (l1.length : Int) x15_1 (rd_L7 l0_4 (rd l1 x15_1)) ((rd_L7 l0_4 (rd l1 x15_1)).length : Int) (wrap64 (x27_2 + 1)) a0_0 l0_1 l0_2 l0_3 l0_4) else (none)) = some r := by rw [if_pos rfl] at H; exact H
                clear H; have H := H1; clear H1
                by_cases c20 : x7_2.length < 17592186044416
                ·rw [if_pos c20] at H
                 have LMc20 := Aside0.mk c20; clear c20; obtain ⟨y188, hy188⟩ : ∃ y_ : List Int, y_ = (x7_2 ++ [(rd_T85 l0_1 (rd (rd_L7 l0_4 (rd l1 x15_1)) x27_2)).f1]) := ⟨_, rfl⟩
                 replace H : (impl_network_move.l1 k2 a2 y188 l1 (l1.length : Int) x15_1 (rd_L7 l0_4 (rd l1 x15_1)) ((rd_L7 l0_4 (rd l1 x15_1)).length : Int) (wrap64 (x27_2 + 1)) a0_0 l0_1 l0_2 l0_3 l0_4) = some r := by first | (rw [hy188]; with_reducible exact H) | (have H2_ := (Option.bind_some _ _).symm.trans H; rw [hy188]; with_reducible exact H2_) | (have H2_ := (Option.bind_some _ _).symm.trans H; with_reducible exact H2_) | with_reducible exact H | (rw [hy188]; exact H) | exact H
                 have Ny188 := Aside0.mk hy188; clear hy188; have H' := Aside0.mk H; clear H; have p184 : 0 ≤ (x27_2 : Int) := of_decide_eq_true (by assumption); have q184 : x27_2 < ((rd_L7 l0_4 (rd l1 x15_1)).length : Int) := of_decide_eq_true (by assumption); obtain ⟨ad184, e184, hx184_0⟩ := Kd.at_int HR183_0.out x27_2 p184 q184; cases e184; replace hx184_0 := (HB.out.cell (World.block_lt_of_cell? w _ hx184_0)).trans hx184_0; replace p184 := eq_true p184; replace q184 := eq_true q184; have hcz21_0 : wr.cell? ⟨gb175, 0, none⟩ = some (.int .i64 a0_0) := (blk_cell BK175.out 0).trans rfl; have hcz21_1 : wr.cell? ⟨gb175, 1, none⟩ = some (.slice A0_1 l0_1.length c0_1) := (blk_cell BK175.out 1).trans rfl; have hcz21_2 : wr.cell? ⟨gb175, 2, none⟩ = some (.slice A0_2 l0_2.length c0_2) := (blk_cell BK175.out 2).trans rfl; have hcz21_3 : wr.cell? ⟨gb175, 3, none⟩ = some (.slice A0_3 l0_3.length c0_3) := (blk_cell BK175.out 3).trans rfl; have hcz21_4 : wr.cell? ⟨gb175, 4, none⟩ = some (.slice (some ad183) l0_4.length c0_4) := (blk_cell BK175.out 4).trans rfl; have hfz21_0 := blk_frozen BK175.out 0; have hfz21_1 := blk_frozen BK175.out 1; have hfz21_2 := blk_frozen BK175.out 2; have hfz21_3 := blk_frozen BK175.out 3; have hfz21_4 := blk_frozen BK175.out 4; have p185 : 0 ≤ ((rd (rd_L7 l0_4 (rd l1 x15_1)) x27_2) : Int) := of_decide_eq_true (by assumption); have q185 : (rd (rd_L7 l0_4 (rd l1 x15_1)) x27_2) < (l0_1.length : Int) := of_decide_eq_true (by assumption); obtain ⟨ad185, A185_2, c185_2, e185, hx185_0, hx185_1, hx185_2, hl185_2, hi185_2⟩ := at_T85 HR0_1.out (rd (rd_L7 l0_4 (rd l1 x15_1)) x27_2) p185 q185; cases e185; replace hx185_0 := (HB.out.cell (World.block_lt_of_cell? w _ hx185_0)).trans hx185_0; replace hx185_1 := (HB.out.cell (World.block_lt_of_cell? w _ hx185_1)).trans hx185_1; replace hx185_2 := (HB.out.cell (World.block_lt_of_cell? w _ hx185_2)).trans hx185_2; have HR185_2 := Aside0.mk hi185_2; have HC185_2 := Aside0.mk hl185_2; clear hi185_2 hl185_2; replace p185 := eq_true p185; replace q185 := eq_true q185
                 go_wp2_with (first | ((with_reducible refine gate_callee (f := 135) rfl ?_); refine goesL_ (some 41) rfl rfl Try.func135 (by kernel_rfl) rfl #[.slice A185_2 ((rd_T85 l0_1 (rd (rd_L7 l0_4 (rd l1 x15_1)) x27_2)).f2).length c185_2, .int .u8 a2] rfl (by (try simp only [List.map_toArray, List.map_cons, List.map_nil]); first | done | rfl | (simp only [List.length_drop, List.length_take]; rfl)) ?_; (with_reducible refine (impl_has.calls _ _ ((rd_T85 l0_1 (rd (rd_L7 l0_4 (rd l1 x15_1)) x27_2)).f2) a2 true _ ?side1 ?side2 A18.out).mono ?_); (case side1 => repeat (first | exact (Kd.C_below HR185_2.out HB.out) | (with_reducible refine Kd.C_alloc ?_ _) | (with_reducible refine Kd.C_drewN ?_ _) | (with_reducible refine Kd.C_drew ?_))); (case side2 => exact HC185_2.out); rintro e w22 ⟨rfl, hb⟩; refine ⟨_, rfl, ?_⟩; replace HO_7 := Aside0.mk (Kd.R_below (by (with_reducible repeat (first | apply Kd.R_alloc | apply Kd.R_drewN | apply Kd.R_drew)); exact HO_7.out) hb); replace BK175 := Aside0.mk (blk_below (g := gb175) (o := .cells #[.int .i64 a0_0, .slice (some ad185) l0_1.length c0_1, .slice A0_2 l0_2.length c0_2, .slice A0_3 l0_3.length c0_3, .slice (some ad183) l0_4.length c0_4] 166 (0, 0)) (by (with_reducible repeat (first | refine blk_drewN ?_ _ | refine blk_drew ?_ | refine blk_alloc ?_ _)); exact BK175.out) hb); replace HB := Aside0.mk (below_step (by repeat (first | (with_reducible first | exact HB.out | apply below_alloc | apply pw_below_drewN | apply below_drew1 | refine below_set ?_ GE175.out) | exact HB.out)) hb); (try clear hb); (try clear hb2); (try clear hk); (try clear hi); have hcz23_0 : w22.cell? ⟨gb175, 0, none⟩ = some (.int .i64 a0_0) := (blk_cell BK175.out 0).trans rfl; have hcz23_1 : w22.cell? ⟨gb175, 1, none⟩ = some (.slice (some ad185) l0_1.length c0_1) := (blk_cell BK175.out 1).trans rfl; have hcz23_2 : w22.cell? ⟨gb175, 2, none⟩ = some (.slice A0_2 l0_2.length c0_2) := (blk_cell BK175.out 2).trans rfl; have hcz23_3 : w22.cell? ⟨gb175, 3, none⟩ = some (.slice A0_3 l0_3.length c0_3) := (blk_cell BK175.out 3).trans rfl; have hcz23_4 : w22.cell? ⟨gb175, 4, none⟩ = some (.slice (some ad183) l0_4.length c0_4) := (blk_cell BK175.out 4).trans rfl; have hfz23_0 := blk_frozen BK175.out 0; have hfz23_1 := blk_frozen BK175.out 1; have hfz23_2 := blk_frozen BK175.out 2; have hfz23_3 := blk_frozen BK175.out 3; have hfz23_4 := blk_frozen BK175.out 4; have p187 : 0 ≤ ((rd (rd_L7 l0_4 (rd l1 x15_1)) x27_2) : Int) := of_decide_eq_true (by assumption); have q187 : (rd (rd_L7 l0_4 (rd l1 x15_1)) x27_2) < (l0_1.length : Int) := of_decide_eq_true (by assumption); obtain ⟨ad187, A187_2, c187_2, e187, hx187_0, hx187_1, hx187_2, hl187_2, hi187_2⟩ := at_T85 HR0_1.out (rd (rd_L7 l0_4 (rd l1 x15_1)) x27_2) p187 q187; obtain rfl : ad185 = ad187 := (by injection e187); replace hx187_0 := (HB.out.cell (World.block_lt_of_cell? w _ hx187_0)).trans hx187_0; replace hx187_1 := (HB.out.cell (World.block_lt_of_cell? w _ hx187_1)).trans hx187_1; replace hx187_2 := (HB.out.cell (World.block_lt_of_cell? w _ hx187_2)).trans hx187_2; have HR187_2 := Aside0.mk hi187_2; have HC187_2 := Aside0.mk hl187_2; clear hi187_2 hl187_2; replace p187 := eq_true p187; replace q187 := eq_true q187) | ((with_reducible refine gate_builtin (b := .append) (xs := #[.tmp 42, .tmp 52]) rfl ?_); at_builtin; refine Kd.R_append (Kd.int .i64) (w0 := w) w.heap.size rfl (.tmp 42) (.tmp 52) 27 2 (.int .i64 0) 8 rfl Try.underlying27 info2 rfl (by decide) (by omega) u7 x7_2 ((rd_T85 l0_1 (rd (rd_L7 l0_4 (rd l1 x15_1)) x27_2)).f1) [.int .i64 ((rd_T85 l0_1 (rd (rd_L7 l0_4 (rd l1 x15_1)) x27_2)).f1)] (fun _ => True) (fun _ => False) rfl rfl ?aP (fun _ hk => hk.elim) ?aF ?aO ?aB ?aS ?aL ?_; (case aP => exact rfl); (case aB => exact (by repeat (first | (with_reducible first | exact HB.out | apply below_alloc | apply pw_below_drewN | apply below_drew1 | refine below_set ?_ GE175.out) | exact HB.out))); (case aF => exact (fun _ _ => trivial)); (case aO => exact (by (with_reducible repeat (first | apply Kd.R_alloc | apply Kd.R_drewN | apply Kd.R_drew)); exact HO_7.out)); (case aS => exact (below_size (by repeat (first | (with_reducible first | exact HB.out | apply below_alloc | apply pw_below_drewN | apply below_drew1 | refine below_set ?_ GE175.out) | exact HB.out)))); (case aL => have := LMc20.out; omega); intro v189 w24 ho hb hg hat; rw [← Ny188.out] at ho; replace BK175 := Aside0.mk (blk_grown (g := gb175) (o := .cells #[.int .i64 a0_0, .slice (some ad185) l0_1.length c0_1, .slice A0_2 l0_2.length c0_2, .slice A0_3 l0_3.length c0_3, .slice (some ad183) l0_4.length c0_4] 166 (0, 0)) (by (with_reducible repeat (first | refine blk_drewN ?_ _ | refine blk_drew ?_ | refine blk_alloc ?_ _)); exact BK175.out) hg (Kd.R_ne HO_7.out BK175.out (by decide))); replace HB := Aside0.mk (hb); have HO190 := Aside0.mk (ho); clear HO_7; clear ho hb hg hat))
                 go_roundg k2
                 case measure => have := HK1.out; have := HK2.out; omega
                 case rel => exact ⟨(y188), (wrap64 (x27_2 + 1)), (by first | rfl | (simp; done) | (simp [*]; done)), H', ⟨by have := HK1.out; have := HK2.out; omega⟩, ⟨by (with_reducible repeat (first | apply Kd.R_alloc | apply Kd.R_drewN | apply Kd.R_drew)); exact HO190.out⟩, ⟨by (with_reducible repeat (first | refine blk_drewN ?_ _ | refine blk_drew ?_ | refine blk_alloc ?_ _)); exact BK175.out⟩, ⟨by repeat (first | (with_reducible first | exact HB.out | apply below_alloc | apply pw_below_drewN | apply below_drew1 | refine below_set ?_ GE175.out) | exact HB.out)⟩⟩
                ·rw [if_neg c20] at H
                 exact absurd H (by simp)
               ·replace c19 := Bool.eq_false_iff.mpr c19
                subst c19
                have H1 : (impl_network_move.l1 k2 a2 x7_2 l1 (l1.length : Int) x15_1 (rd_L7 l0_4 (rd l1 x15_1)) ((rd_L7 l0_4 (rd l1 x15_1)).length : Int) (wrap64 (x27_2 + 1)) a0_0 l0_1 l0_2 l0_3 l0_4) = some r := by rw [if_neg (show ¬ (false = true) by decide)] at H; exact H
                clear H; have H := H1; clear H1; have H' := Aside0.mk H; clear H; have p184 : 0 ≤ (x27_2 : Int) := of_decide_eq_true (by assumption); have q184 : x27_2 < ((rd_L7 l0_4 (rd l1 x15_1)).length : Int) := of_decide_eq_true (by assumption); obtain ⟨ad184, e184, hx184_0⟩ := Kd.at_int HR183_0.out x27_2 p184 q184; cases e184; replace hx184_0 := (HB.out.cell (World.block_lt_of_cell? w _ hx184_0)).trans hx184_0; replace p184 := eq_true p184; replace q184 := eq_true q184; have hcz25_0 : wr.cell? ⟨gb175, 0, none⟩ = some (.int .i64 a0_0) := (blk_cell BK175.out 0).trans rfl; have hcz25_1 : wr.cell? ⟨gb175, 1, none⟩ = some (.slice A0_1 l0_1.length c0_1) := (blk_cell BK175.out 1).trans rfl; have hcz25_2 : wr.cell? ⟨gb175, 2, none⟩ = some (.slice A0_2 l0_2.length c0_2) := (blk_cell BK175.out 2).trans rfl; have hcz25_3 : wr.cell? ⟨gb175, 3, none⟩ = some (.slice A0_3 l0_3.length c0_3) := (blk_cell BK175.out 3).trans rfl; have hcz25_4 : wr.cell? ⟨gb175, 4, none⟩ = some (.slice (some ad183) l0_4.length c0_4) := (blk_cell BK175.out 4).trans rfl; have hfz25_0 := blk_frozen BK175.out 0; have hfz25_1 := blk_frozen BK175.out 1; have hfz25_2 := blk_frozen BK175.out 2; have hfz25_3 := blk_frozen BK175.out 3; have hfz25_4 := blk_frozen BK175.out 4; have p185 : 0 ≤ ((rd (rd_L7 l0_4 (rd l1 x15_1)) x27_2) : Int) := of_decide_eq_true (by assumption); have q185 : (rd (rd_L7 l0_4 (rd l1 x15_1)) x27_2) < (l0_1.length : Int) := of_decide_eq_true (by assumption); obtain ⟨ad185, A185_2, c185_2, e185, hx185_0, hx185_1, hx185_2, hl185_2, hi185_2⟩ := at_T85 HR0_1.out (rd (rd_L7 l0_4 (rd l1 x15_1)) x27_2) p185 q185; cases e185; replace hx185_0 := (HB.out.cell (World.block_lt_of_cell? w _ hx185_0)).trans hx185_0; replace hx185_1 := (HB.out.cell (World.block_lt_of_cell? w _ hx185_1)).trans hx185_1; replace hx185_2 := (HB.out.cell (World.block_lt_of_cell? w _ hx185_2)).trans hx185_2; have HR185_2 := Aside0.mk hi185_2; have HC185_2 := Aside0.mk hl185_2; clear hi185_2 hl185_2; replace p185 := eq_true p185; replace q185 := eq_true q185
                go_wp2_with (first | ((with_reducible refine gate_callee (f := 135) rfl ?_); refine goesL_ (some 41) rfl rfl Try.func135 (by kernel_rfl) rfl #[.slice A185_2 ((rd_T85 l0_1 (rd (rd_L7 l0_4 (rd l1 x15_1)) x27_2)).f2).length c185_2, .int .u8 a2] rfl (by (try simp only [List.map_toArray, List.map_cons, List.map_nil]); first | done | rfl | (simp only [List.length_drop, List.length_take]; rfl)) ?_; (with_reducible refine (impl_has.calls _ _ ((rd_T85 l0_1 (rd (rd_L7 l0_4 (rd l1 x15_1)) x27_2)).f2) a2 false _ ?side1 ?side2 A18.out).mono ?_); (case side1 => repeat (first | exact (Kd.C_below HR185_2.out HB.out) | (with_reducible refine Kd.C_alloc ?_ _) | (with_reducible refine Kd.C_drewN ?_ _) | (with_reducible refine Kd.C_drew ?_))); (case side2 => exact HC185_2.out); rintro e w26 ⟨rfl, hb⟩; refine ⟨_, rfl, ?_⟩; replace HO_7 := Aside0.mk (Kd.R_below (by (with_reducible repeat (first | apply Kd.R_alloc | apply Kd.R_drewN | apply Kd.R_drew)); exact HO_7.out) hb); replace BK175 := Aside0.mk (blk_below (g := gb175) (o := .cells #[.int .i64 a0_0, .slice (some ad185) l0_1.length c0_1, .slice A0_2 l0_2.length c0_2, .slice A0_3 l0_3.length c0_3, .slice (some ad183) l0_4.length c0_4] 166 (0, 0)) (by (with_reducible repeat (first | refine blk_drewN ?_ _ | refine blk_drew ?_ | refine blk_alloc ?_ _)); exact BK175.out) hb); replace HB := Aside0.mk (below_step (by repeat (first | (with_reducible first | exact HB.out | apply below_alloc | apply pw_below_drewN | apply below_drew1 | refine below_set ?_ GE175.out) | exact HB.out)) hb); (try clear hb); (try clear hb2); (try clear hk); (try clear hi)))
                go_roundg k2
                case measure => have := HK1.out; have := HK2.out; omega
                case rel => exact ⟨(x7_2), (wrap64 (x27_2 + 1)), (by first | rfl | (simp; done) | (simp [*]; done)), H', ⟨by have := HK1.out; have := HK2.out; omega⟩, ⟨by (with_reducible repeat (first | apply Kd.R_alloc | apply Kd.R_drewN | apply Kd.R_drew)); exact HO_7.out⟩, ⟨by (with_reducible repeat (first | refine blk_drewN ?_ _ | refine blk_drew ?_ | refine blk_alloc ?_ _)); exact BK175.out⟩, ⟨by repeat (first | (with_reducible first | exact HB.out | apply below_alloc | apply pw_below_drewN | apply below_drew1 | refine below_set ?_ GE175.out) | exact HB.out)⟩⟩
              ·rw [if_neg c17] at H
               exact absurd H (by simp)
             ·rw [if_neg c16] at H
              exact absurd H (by simp)
            ·rw [if_neg c15] at H
             exact absurd H (by simp)
           ·rw [if_neg c14] at H
            exact absurd H (by simp)
          ·rw [if_neg c13] at H
           have c13b0 : decide (x27_2 < ((rd_L7 l0_4 (rd l1 x15_1)).length : Int)) = false := decide_eq_false c13; clear c13; have H' := Aside0.mk H; clear H
           go_wp2
           go_roundg k2
           case measure => have := HK1.out; have := HK2.out; omega
           case rel => exact ⟨(x7_2), (wrap64 (x15_1 + 1)), (by first | rfl | (simp; done) | (simp [*]; done)), H', ⟨by have := HK1.out; have := HK2.out; omega⟩, ⟨by (with_reducible repeat (first | apply Kd.R_alloc | apply Kd.R_drewN | apply Kd.R_drew)); exact HO_7.out⟩, ⟨by (with_reducible repeat (first | refine blk_drewN ?_ _ | refine blk_drew ?_ | refine blk_alloc ?_ _)); exact BK175.out⟩, ⟨by repeat (first | (with_reducible first | exact HB.out | apply below_alloc | apply pw_below_drewN | apply below_drew1 | refine below_set ?_ GE175.out) | exact HB.out)⟩⟩
       ·rw [if_neg c11] at H
        exact absurd H (by simp)
      ·rw [if_neg c10] at H
       exact absurd H (by simp)
     ·rw [if_neg c9] at H
      exact absurd H (by simp)
    ·rw [if_neg c8] at H
     exact absurd H (by simp)
   ·rw [if_neg c7] at H
    have c7b0 : decide (x15_1 < (l1.length : Int)) = false := decide_eq_false c7; clear c7; replace H := Option.bind_eq_some_iff.mp H; obtain ⟨t179, A270, H⟩ := H; replace H : (some t179) = some r := H; have A27 := Aside0.mk A270; clear A270; obtain rfl := Option.some.inj H; have hcz28_0 : wr.cell? ⟨gb175, 0, none⟩ = some (.int .i64 a0_0) := (blk_cell BK175.out 0).trans rfl; have hcz28_1 : wr.cell? ⟨gb175, 1, none⟩ = some (.slice A0_1 l0_1.length c0_1) := (blk_cell BK175.out 1).trans rfl; have hcz28_2 : wr.cell? ⟨gb175, 2, none⟩ = some (.slice A0_2 l0_2.length c0_2) := (blk_cell BK175.out 2).trans rfl; have hcz28_3 : wr.cell? ⟨gb175, 3, none⟩ = some (.slice A0_3 l0_3.length c0_3) := (blk_cell BK175.out 3).trans rfl; have hcz28_4 : wr.cell? ⟨gb175, 4, none⟩ = some (.slice A0_4 l0_4.length c0_4) := (blk_cell BK175.out 4).trans rfl; have hfz28_0 := blk_frozen BK175.out 0; have hfz28_1 := blk_frozen BK175.out 1; have hfz28_2 := blk_frozen BK175.out 2; have hfz28_3 := blk_frozen BK175.out 3; have hfz28_4 := blk_frozen BK175.out 4; obtain ⟨Ao29, co29, eo29⟩ := Kd.R_slice HO_7.out; subst eo29
    go_wp2_with (first | ((with_reducible refine gate_callee (f := 70) rfl ?_); refine goesL_ (some 58) rfl rfl Try.func70 (by kernel_rfl) rfl #[.pointer (some ⟨gb175, 0, none⟩), .slice Ao29 x7_1.length co29] rfl (by (try simp only [List.map_toArray, List.map_cons, List.map_nil]); first | done | rfl | (simp only [List.length_drop, List.length_take]; rfl)) ?_; (with_reducible refine (impl_network_closure.calls k1 gb175 a0_0 A0_1 c0_1 l0_1 A0_2 c0_2 l0_2 A0_3 c0_3 l0_3 A0_4 c0_4 l0_4 _ _ x7_1 t179 _  ?side1 ?side2 ?side3 ?side4 ?side5 ?side6 ?side7 ?side8 ?side9 ?side10 ?sidebk A27.out).mono ?_); (case sidebk => repeat (first | exact BK175.out | (with_reducible refine blk_drewN ?_ _) | (with_reducible refine blk_drew ?_))); (case side1 => repeat (first | exact (Kd.C_below HR0_1.out HB.out) | (with_reducible refine Kd.C_alloc ?_ _) | (with_reducible refine Kd.C_drewN ?_ _) | (with_reducible refine Kd.C_drew ?_))); (case side2 => exact HC0_1.out); (case side3 => repeat (first | exact (Kd.C_below HR0_2.out HB.out) | (with_reducible refine Kd.C_alloc ?_ _) | (with_reducible refine Kd.C_drewN ?_ _) | (with_reducible refine Kd.C_drew ?_))); (case side4 => exact HC0_2.out); (case side5 => repeat (first | exact (Kd.C_below HR0_3.out HB.out) | (with_reducible refine Kd.C_alloc ?_ _) | (with_reducible refine Kd.C_drewN ?_ _) | (with_reducible refine Kd.C_drew ?_))); (case side6 => exact HC0_3.out); (case side7 => repeat (first | exact (Kd.C_below HR0_4.out HB.out) | (with_reducible refine Kd.C_alloc ?_ _) | (with_reducible refine Kd.C_drewN ?_ _) | (with_reducible refine Kd.C_drew ?_))); (case side8 => exact HC0_4.out); (case side9 => repeat (first | exact (Kd.R_reads' HO_7.out).2.2 | (with_reducible refine Kd.C_alloc ?_ _) | (with_reducible refine Kd.C_drewN ?_ _) | (with_reducible refine Kd.C_drew ?_))); (case side10 => exact (Kd.R_reads' HO_7.out).2.1); rintro e w30 ⟨v180, rfl, ho0, hb⟩; refine ⟨_, rfl, ?_⟩; have HO181 := Aside0.mk (Kd.R_lower (Kd.R_new' ho0 (Kd.R_lt (by (with_reducible repeat (first | apply Kd.R_alloc | apply Kd.R_drewN | apply Kd.R_drew)); exact HO_7.out))) (below_size (by repeat (first | (with_reducible first | exact HB.out | apply below_alloc | apply pw_below_drewN | apply below_drew1 | refine below_set ?_ GE175.out) | exact HB.out)))); replace HO_7 := Aside0.mk (Kd.R_elder' (by (with_reducible repeat (first | apply Kd.R_alloc | apply Kd.R_drewN | apply Kd.R_drew)); exact HO_7.out) (Kd.R_base ho0) hb); replace BK175 := Aside0.mk (blk_below (g := gb175) (o := .cells #[.int .i64 a0_0, .slice A0_1 l0_1.length c0_1, .slice A0_2 l0_2.length c0_2, .slice A0_3 l0_3.length c0_3, .slice A0_4 l0_4.length c0_4] 166 (0, 0)) (by (with_reducible repeat (first | refine blk_drewN ?_ _ | refine blk_drew ?_ | refine blk_alloc ?_ _)); exact BK175.out) hb); replace HB := Aside0.mk (below_step (by repeat (first | (with_reducible first | exact HB.out | apply below_alloc | apply pw_below_drewN | apply below_drew1 | refine below_set ?_ GE175.out) | exact HB.out)) hb); (try clear hb); (try clear hb2); (try clear hk); (try clear hi); (try clear ho0)))
    go_ret
    exact ⟨_, by first | rfl | (simp [errW_none, errW_some] <;> rfl) | (simp [*, errW_none, errW_some] <;> rfl), by (with_reducible repeat (first | apply Kd.R_alloc | apply Kd.R_drewN | apply Kd.R_drew)); exact Kd.R_mono HO181.out (fun _ hk => trivial), by repeat (first | (with_reducible first | exact HB.out | apply below_alloc | apply pw_below_drewN | apply below_drew1 | refine below_set ?_ GE175.out) | exact HB.out)⟩

end Go.Proofs.Ytfajfjgkkgigoaa.PFnClosed
