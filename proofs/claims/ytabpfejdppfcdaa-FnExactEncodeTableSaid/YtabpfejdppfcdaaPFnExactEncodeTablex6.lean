-- Written by this session's own program (wip/pr.py) over the kit's printer; contracts that the printer does not know are given by hand.
import Derived.Test.YtabpfejdppfcdaaPFnExactEncodeTablex0
import Derived.Test.YtabpfejdppfcdaaPFnExactEncodeTablex5
namespace Go.Proofs.Ytabpfejdppfcdaa.PFnExactEncodeTable
open Go.RowKit Go.Proofs.YtabpfejdppfcdaaW.PrintWords Go.Proofs.YtabpfejdppfcdaaW.PrintLast Go.Proofs.YtabpfejdppfcdaaW.PrintMore
attribute [local go_sem] max2_int min2_int max_two min_two max_three min_three max_four min_four   -- for this text's walks alone
set_option linter.unusedVariables false
set_option linter.unusedSimpArgs false

/-! ### impl_blocksOk: function 144 -/
def impl_blocksOk.l0 : Nat → List Int → Int → List Int → Int → Int → Option (Int × Bool)
  | 0, _, _, _, _, _ => none
  | k + 1, x0, x4, x7, x8, x9 => if x9 < x8 then (if 0 ≤ x9 then (if x9 < (x7.length : Int) then ((impl_within.f (rd x7 x9) 0 (wrap64 (x4 + 1))).bind fun t242 => (if t242 = true then (impl_blocksOk.l0 k x0 (mx x4 (rd x7 x9)) x7 x8 (wrap64 (x9 + 1))) else (some (0, false)))) else (none)) else (none)) else (some (wrap64 (x4 + 1), ((x0.length : Int) == 256)))
def impl_blocksOk.f (k : Nat) (l0 : List Int) : Option (Int × Bool) := impl_blocksOk.l0 k l0 (-1) l0 (l0.length : Int) 0
theorem impl_blocksOk.mono_l : ∀ k, (∀ y0 y1 y2 y3 y4, LeO (impl_blocksOk.l0 k y0 y1 y2 y3 y4) (impl_blocksOk.l0 (k + 1) y0 y1 y2 y3 y4))
  | 0 => fun _ _ _ _ _ r h => by simp [impl_blocksOk.l0] at h
  | k + 1 => by
    have ih0 := impl_blocksOk.mono_l k
    · intro y0 y1 y2 y3 y4
      unfold impl_blocksOk.l0
      repeat' first
      | (with_reducible exact ih0 _ _ _ _ _)
      | (with_reducible exact LeO.refl _)
      | (with_reducible exact LeO.none _)
      | (with_reducible refine LeO.ite ?_ ?_)
      | (with_reducible refine LeO.bind ?_ (fun _ => ?_))
      | exact ih0 _ _ _ _ _
      | exact LeO.none _
      | refine LeO.ite ?_ ?_
      | refine LeO.bind ?_ (fun _ => ?_)
theorem impl_blocksOk.mono : ∀ a0 k, LeO (impl_blocksOk.f k a0) (impl_blocksOk.f (k + 1) a0) := by
  intro a0 k
  have ih0 := impl_blocksOk.mono_l k
  unfold impl_blocksOk.f
  repeat' first
      | (with_reducible exact ih0 _ _ _ _ _)
      | (with_reducible exact LeO.refl _)
      | (with_reducible exact LeO.none _)
      | (with_reducible refine LeO.ite ?_ ?_)
      | (with_reducible refine LeO.bind ?_ (fun _ => ?_))
      | exact ih0 _ _ _ _ _
      | exact LeO.none _
      | refine LeO.ite ?_ ?_
      | refine LeO.bind ?_ (fun _ => ?_)
set_option maxHeartbeats 8000000 in
set_option maxRecDepth 100000 in
theorem impl_blocksOk.calls (k : Nat) (A0 : Option Addr) (c0 : Nat) (l0 : List Int) (r1 : Int) (r2 : Bool) (w : World) (hr0 : Kd.C (Kd.int .i64) w A0 l0.length l0) (hc0 : l0.length ≤ c0) (h : impl_blocksOk.f k l0 = some (r1, r2)) :
    Calls Try.prog 144 #[.slice A0 l0.length c0] w fun e w' => e = .returned (.tuple #[.int .i64 r1, .bool r2]) ∧ Below w.heap.size w w' := by
  have HR0 := Aside0.mk hr0
  have HC0 := Aside0.mk hc0
  clear hr0 hc0
  have HB := Aside0.mk (Below.refl w.heap.size w)
  have H : (impl_blocksOk.l0 k l0 (-1) l0 (l0.length : Int) 0) = some (r1, r2) := h
  clear h
  have H' := Aside0.mk H
  clear H
  go_enter Try.func144, Try.ntmps144
  go_wp2
  go_loopg [4, 9] k (fun kq v4 v9 w' => ∃ (x4_1 : Int) (x9_1 : Int), v4 = .int .i64 x4_1 ∧ v9 = .int .i64 x9_1 ∧ Aside0 (impl_blocksOk.l0 kq l0 x4_1 l0 (l0.length : Int) x9_1 = some (r1, r2)) ∧ Aside0 (kq ≤ k) ∧ Aside0 (Below w.heap.size w w'))
  case atStart => exact ⟨((-1)), (0), (by first | rfl | (simp; done) | (simp [*]; done)), (by first | rfl | (simp; done) | (simp [*]; done)), H', ⟨Nat.le_refl _⟩, ⟨by repeat (first | (with_reducible first | exact HB.out | apply below_alloc | apply pw_below_drewN | apply below_drew1) | exact HB.out)⟩⟩
  case round =>
    clear H'; (try clear c1); obtain ⟨x4_1, x9_1, rfl, rfl, HA, HK1, HB⟩ := hrel
    cases gk with
    | zero => exact absurd HA.out (by simp [impl_blocksOk.l0])
    | succ k1 =>
      have H := HA.out; clear HA
      simp only [impl_blocksOk.l0] at H
      by_cases c2 : x9_1 < (l0.length : Int)
      · rw [if_pos c2] at H
        have c2b0 : decide (x9_1 < (l0.length : Int)) = true := decide_eq_true c2; clear c2
        by_cases c3 : 0 ≤ x9_1
        · rw [if_pos c3] at H
          have c3b0 : decide (0 ≤ x9_1) = true := decide_eq_true c3; clear c3
          by_cases c4 : x9_1 < (l0.length : Int)
          · rw [if_pos c4] at H
            have c4b0 : decide (x9_1 < (l0.length : Int)) = true := decide_eq_true c4; clear c4; replace H := Option.bind_eq_some_iff.mp H; obtain ⟨t242, A50, H⟩ := H; replace H : (if t242 = true then (impl_blocksOk.l0 k1 l0 (mx x4_1 (rd l0 x9_1)) l0 (l0.length : Int) (wrap64 (x9_1 + 1))) else (some (0, false))) = some (r1, r2) := H; have A5 := Aside0.mk A50; clear A50
            by_cases c6 : t242 = true
            · subst c6
              have H1 : (impl_blocksOk.l0 k1 l0 (mx x4_1 (rd l0 x9_1)) l0 (l0.length : Int) (wrap64 (x9_1 + 1))) = some (r1, r2) := by rw [if_pos rfl] at H; exact H
              clear H; have H := H1; clear H1; obtain ⟨ji7, hji7⟩ : ∃ j_ : Int, (mx x4_1 (rd l0 x9_1)) = j_ := ⟨_, rfl⟩
              replace H : (impl_blocksOk.l0 k1 l0 ji7 l0 (l0.length : Int) (wrap64 (x9_1 + 1))) = some (r1, r2) := by first | (rw [hji7] at H; exact H) | (simp only [hji7] at H ⊢; exact H)
              (try rw [hji7] at A5); have hji7_ : (if x4_1 < (rd l0 x9_1) then (rd l0 x9_1) else x4_1) = ji7 := hji7; have H' := Aside0.mk H; clear H; have p241 : 0 ≤ (x9_1 : Int) := of_decide_eq_true (by first | (with_reducible assumption) | assumption); have q241 : x9_1 < (l0.length : Int) := of_decide_eq_true (by first | (with_reducible assumption) | assumption); obtain ⟨ad241, e241, hx241_0⟩ := Kd.at_int HR0.out x9_1 p241 q241; cases e241; replace hx241_0 := (HB.out.cell (World.block_lt_of_cell? w _ hx241_0)).trans hx241_0; replace p241 := eq_true p241; replace q241 := eq_true q241
              go_wp2_with (first | ((with_reducible refine gate_callee (f := 98) rfl ?_); refine goesL_ (some 16) rfl rfl Try.func98 (by kernel_rfl) rfl #[.int .i64 (rd l0 x9_1), .int .i64 0, .int .i64 (wrap64 (x4_1 + 1))] rfl (by (try simp only [List.map_toArray, List.map_cons, List.map_nil]); first | done | rfl | (simp only [List.length_drop, List.length_take]; rfl)) ?_; (with_reducible refine (impl_within.calls (rd l0 x9_1) 0 (wrap64 (x4_1 + 1)) true _ A5.out).mono ?_); rintro e w' ⟨rfl, ⟨nd, rfl⟩⟩; refine ⟨_, rfl, ?_⟩))
              go_roundg k1
              case measure => have := HK1.out; omega
              case rel => exact ⟨(ji7), (wrap64 (x9_1 + 1)), (by first | rfl | (simp; done) | (simp only [← hji7] <;> (first | rfl | simp)) | (simp [*]; done)), (by first | rfl | (simp; done) | (simp [*]; done)), H', ⟨by have := HK1.out; omega⟩, ⟨by repeat (first | (with_reducible first | exact HB.out | apply below_alloc | apply pw_below_drewN | apply below_drew1) | exact HB.out)⟩⟩
            · replace c6 := Bool.eq_false_iff.mpr c6
              subst c6
              have H1 : (some (0, false)) = some (r1, r2) := by rw [if_neg (show ¬ (false = true) by decide)] at H; exact H
              clear H; have H := H1; clear H1
              simp only [Option.some.injEq, Prod.mk.injEq] at H
              obtain ⟨rfl, rfl⟩ := H; have p241 : 0 ≤ (x9_1 : Int) := of_decide_eq_true (by first | (with_reducible assumption) | assumption); have q241 : x9_1 < (l0.length : Int) := of_decide_eq_true (by first | (with_reducible assumption) | assumption); obtain ⟨ad241, e241, hx241_0⟩ := Kd.at_int HR0.out x9_1 p241 q241; cases e241; replace hx241_0 := (HB.out.cell (World.block_lt_of_cell? w _ hx241_0)).trans hx241_0; replace p241 := eq_true p241; replace q241 := eq_true q241
              go_wp2_with (first | ((with_reducible refine gate_callee (f := 98) rfl ?_); refine goesL_ (some 16) rfl rfl Try.func98 (by kernel_rfl) rfl #[.int .i64 (rd l0 x9_1), .int .i64 0, .int .i64 (wrap64 (x4_1 + 1))] rfl (by (try simp only [List.map_toArray, List.map_cons, List.map_nil]); first | done | rfl | (simp only [List.length_drop, List.length_take]; rfl)) ?_; (with_reducible refine (impl_within.calls (rd l0 x9_1) 0 (wrap64 (x4_1 + 1)) false _ A5.out).mono ?_); rintro e w' ⟨rfl, ⟨nd, rfl⟩⟩; refine ⟨_, rfl, ?_⟩))
              go_ret2
              exact ⟨by first | rfl | (simp [errW_none, errW_some] <;> rfl) | (simp [*, errW_none, errW_some] <;> rfl), by repeat (first | (with_reducible first | exact HB.out | apply below_alloc | apply pw_below_drewN | apply below_drew1) | exact HB.out)⟩
          · rw [if_neg c4] at H
            exact absurd H (by simp)
        · rw [if_neg c3] at H
          exact absurd H (by simp)
      · rw [if_neg c2] at H
        have c2b0 : decide (x9_1 < (l0.length : Int)) = false := decide_eq_false c2; clear c2
        simp only [Option.some.injEq, Prod.mk.injEq] at H
        obtain ⟨rfl, rfl⟩ := H
        go_wp2
        go_ret2
        exact ⟨by first | rfl | (simp [errW_none, errW_some] <;> rfl) | (simp [*, errW_none, errW_some] <;> rfl), by repeat (first | (with_reducible first | exact HB.out | apply below_alloc | apply pw_below_drewN | apply below_drew1) | exact HB.out)⟩

/-! ### impl_size_int64: function 174 -/
def impl_size_int64.f (l0 : List Int) : Option (Int) := some (l0.length : Int)
set_option maxHeartbeats 8000000 in
set_option maxRecDepth 100000 in
theorem impl_size_int64.calls (A0 : Option Addr) (c0 : Nat) (l0 : List Int) (r : Int) (w : World) (hr0 : Kd.C (Kd.int .i64) w A0 l0.length l0) (hc0 : l0.length ≤ c0) (h : impl_size_int64.f l0 = some r) :
    Calls Try.prog 174 #[.slice A0 l0.length c0] w fun e w' => e = .returned (.int .i64 r) ∧ Drawn0 w w' := by
  have HR0 := Aside0.mk hr0
  have HC0 := Aside0.mk hc0
  clear hr0 hc0
  have H : (some (l0.length : Int)) = some r := h
  clear h
  obtain rfl := Option.some.inj H
  go_enter Try.func174, Try.ntmps174
  go_wp2
  go_ret
  exact ⟨by first | rfl | (simp; done) | (simp [*]; done), by repeat (first | exact Drawn0.refl _ | apply Drawn0.step)⟩

/-! ### slices_IndexFunc_int64_int64: function 201 -/
/-- what an IndexFunc tells: the first that is one, or -1 -/
def IdxPost_ints (q : Nat → Bool) (n : Nat) (w : World) (e : Ending) (w' : World) : Prop :=
  ∃ r : Int, ((∃ k : Nat, k < n ∧ r = k ∧ q k = true) ∨ (r = -1 ∧ ∀ k, k < n → q k = false)) ∧ e = .returned (.int .i64 r) ∧ Drawn0 w w'
set_option maxHeartbeats 1000000 in
set_option maxRecDepth 100000 in
theorem if_ints.pred (n c0 : Nat) (A0 : Option Addr) (vs : Nat → Value) (q : Nat → Bool) (w : World) (hn : n ≤ 9223372036854775807) (hc : ∀ j, j < n → ∃ ad, A0 = some ad ∧ w.cell? (ad.add j) = some (vs j))
    (g : Nat) (lb : Array Value) (eg : ∀ args w, (callFunc g args).run Try.prog w = .ok (.enter g args) w)
    (hp : ∀ (nd j : Nat), j < n → Calls Try.prog g (#[vs j] ++ lb) (w.drewN nd) fun e w' => e = .returned (.bool (q j)) ∧ Drawn0 (w.drewN nd) w') :
    Calls Try.prog 201 #[.slice A0 n c0, .func (.func g) #[] lb] w (IdxPost_ints q n w) := by
  have HC := Aside0.mk hc
  have HP := Aside0.mk hp
  clear hc hp
  go_enter Try.func201, Try.ntmps201
  go_wp2
  go_loopg [8] n (fun gk v8 wr => ∃ (i : Int) (nd : Nat), 0 ≤ i ∧ i ≤ n ∧ (n : Int) - i ≤ gk ∧ v8 = .int .i64 i ∧ wr = w.drewN nd ∧ Aside0 (∀ k : Nat, (k : Int) < i → q k = false))
  case atStart => exact ⟨0, 0, by omega, by omega, by omega, rfl, rfl, ⟨fun k hk => by omega⟩⟩
  case round =>
    obtain ⟨i, nd, h0, h1, hg, rfl, rfl, HF⟩ := hrel
    by_cases hlt : i < (n : Int)
    · obtain ⟨ad, e, hx⟩ := HC.out i.toNat (by omega)
      cases e; have t0 := eq_true h0; have t1 := eq_true hlt; have hcall := HP.out nd i.toNat (by omega)
      cases hq : q i.toNat with
      | true =>
        rw [hq] at hcall
        have HQ := Aside0.mk hq; clear hq
        go_wp2_with fail
        refine hcall.mono ?_
        rintro e w' ⟨rfl, ⟨nd', rfl⟩⟩
        clear hcall
        go_wp2
        go_ret
        exact ⟨i, .inl ⟨i.toNat, by omega, by omega, HQ.out⟩, rfl, ⟨_, rfl⟩⟩
      | false =>
        rw [hq] at hcall
        have HQ := Aside0.mk hq; clear hq
        go_wp2_with fail
        refine hcall.mono ?_
        rintro e w' ⟨rfl, ⟨nd', rfl⟩⟩
        clear hcall
        go_wp2
        go_roundg (n - (i.toNat + 1))
        case measure => omega
        case rel =>
          refine ⟨i + 1, nd + nd', by omega, by omega, by omega, by first | rfl | go_num, by first | rfl | exact World.drewN_drewN _ _ _, ⟨fun k hk => ?_⟩⟩
          by_cases h : (k : Int) < i
          · exact HF.out k h
          · have : k = i.toNat := by omega
            rw [this]
            exact HQ.out
    · have t1 := eq_false hlt
      go_wp2
      go_ret
      exact ⟨-1, .inr ⟨rfl, fun k hk => HF.out k (by omega)⟩, rfl, ⟨nd, rfl⟩⟩

/-! ### slices_ContainsFunc_int64_int64: function 175 -/
set_option maxHeartbeats 1000000 in
set_option maxRecDepth 100000 in
theorem cf_ints.pred (b : Bool) (n c0 : Nat) (A0 : Option Addr) (vs : Nat → Value) (q : Nat → Bool) (w : World) (hn : n ≤ 9223372036854775807) (hc : ∀ j, j < n → ∃ ad, A0 = some ad ∧ w.cell? (ad.add j) = some (vs j))
    (g : Nat) (lb : Array Value) (eg : ∀ args w, (callFunc g args).run Try.prog w = .ok (.enter g args) w)
    (hp : ∀ (nd j : Nat), j < n → Calls Try.prog g (#[vs j] ++ lb) (w.drewN nd) fun e w' => e = .returned (.bool (q j)) ∧ Drawn0 (w.drewN nd) w')
    (hb : (∃ k : Nat, k < n ∧ q k = true) ↔ b = true) :
    Calls Try.prog 175 #[.slice A0 n c0, .func (.func g) #[] lb] w fun e w' => e = .returned (.bool b) ∧ Drawn0 w w' := by
  have HC := Aside0.mk hc
  have HP := Aside0.mk hp
  have HBB := Aside0.mk hb
  clear hc hp hb
  go_enter Try.func175, Try.ntmps175
  go_wp2_with fail
  refine (if_ints.pred n c0 A0 vs q w hn HC.out g lb eg HP.out).mono ?_
  rintro e w' ⟨r, hr, rfl, ⟨nd, rfl⟩⟩
  have HR := Aside0.mk hr
  clear hr
  go_wp2
  go_ret
  refine ⟨?_, ⟨nd, rfl⟩⟩
  have e : decide (0 ≤ r) = b := by
    rcases HR.out with ⟨k, hk, h1, h2⟩ | ⟨h1, h2⟩
    · rw [HBB.out.1 ⟨k, hk, h2⟩, decide_eq_true]
      omega
    · cases hb : b
      · rw [decide_eq_false]
        omega
      · obtain ⟨k, hk, h3⟩ := HBB.out.2 hb
        rw [h2 k hk] at h3
        exact absurd h3 (by simp)
  rw [← e]
  rfl
theorem reads_ints {w : World} {A0 : Option Addr} {l0 : List Int} (hr0 : Kd.C (Kd.int .i64) w A0 l0.length l0) : ∀ j, j < l0.length → ∃ ad, A0 = some ad ∧ w.cell? (ad.add j) = some (.int .i64 (l0.getD j 0)) := by
  intro j hj
  obtain ⟨ad, e, hx⟩ := Kd.at_int hr0 (j : Int) (by omega) (by omega)
  exact ⟨ad, e, by rw [Int.toNat_natCast] at hx; rw [hx]; unfold rd; rw [Int.toNat_natCast]⟩

/-! ### impl_areWithin: function 191 -/
def impl_areWithin.f (l0 : List Int) (a1 : Int) (a2 : Int) : Option Bool := some (decide (∀ x ∈ l0, a1 ≤ x ∧ x ≤ a2))
set_option maxHeartbeats 1000000 in
set_option maxRecDepth 100000 in
theorem impl_areWithin_1.pred (x lo hi : Int) (W : World) (b1 b2 : Nat) (h1 : W.cell? ⟨b1, 0, none⟩ = some (.int .i64 lo)) (h2 : W.cell? ⟨b2, 0, none⟩ = some (.int .i64 hi)) :
    Calls Try.prog 205 (#[.int .i64 x] ++ #[.pointer (some ⟨b1, 0, none⟩), .pointer (some ⟨b2, 0, none⟩)]) W fun e w' => e = .returned (.bool (!decide (lo ≤ x ∧ x ≤ hi))) ∧ Drawn0 W w' := by
  have hw : impl_within.f x lo hi = some (decide (lo ≤ x ∧ x ≤ hi)) := by
    unfold impl_within.f
    by_cases h : x ≥ lo
    · rw [if_pos h]; congr 1; simp; omega
    · rw [if_neg h]; congr 1; simp; omega
  have HW := Aside0.mk hw
  clear hw
  generalize decide (lo ≤ x ∧ x ≤ hi) = b at *
  go_enter Try.func205, Try.ntmps205
  go_wp2_with fail
  refine (impl_within.calls x lo hi b _ HW.out).mono ?_
  rintro e w' ⟨rfl, ⟨nd, rfl⟩⟩
  go_wp2
  go_ret
  exact ⟨rfl, ⟨nd, rfl⟩⟩
set_option maxHeartbeats 1000000 in
set_option maxRecDepth 100000 in
theorem impl_areWithin.calls (A0 : Option Addr) (c0 : Nat) (l0 : List Int) (a1 : Int) (a2 : Int) (r : Bool) (w : World) (hr0 : Kd.C (Kd.int .i64) w A0 l0.length l0) (hc0 : l0.length ≤ c0) (h : impl_areWithin.f l0 a1 a2 = some r) :
    Calls Try.prog 191 #[.slice A0 l0.length c0, .int .i64 a1, .int .i64 a2] w fun e w' => e = .returned (.bool r) ∧ Below w.heap.size w w' := by
  have hC := reads_ints hr0
  have hn : l0.length ≤ 9223372036854775807 := hr0.2.1
  have HC := Aside0.mk hC
  have HN := Aside0.mk hn
  have HH := Aside0.mk h
  clear hr0 h hC hn
  go_enter Try.func191, Try.ntmps191
  go_wp2_with fail
  have hb : Below w.heap.size w ((w.alloc (.cells #[.int .i64 a1] 2)).alloc (.cells #[.int .i64 a2] 2)) := ((Below.refl _ _).alloc (Nat.le_refl _) _).alloc (by simp) _
  have h1 : ((w.alloc (.cells #[.int .i64 a1] 2)).alloc (.cells #[.int .i64 a2] 2)).cell? ⟨w.heap.size, 0, none⟩ = some (.int .i64 a1) := (blk_cell (Go.heap_alloc2_old w _ _) 0).trans rfl
  have h2 : ((w.alloc (.cells #[.int .i64 a1] 2)).alloc (.cells #[.int .i64 a2] 2)).cell? ⟨w.heap.size + 1, 0, none⟩ = some (.int .i64 a2) := (blk_cell (Go.heap_alloc2_new w _ _) 0).trans rfl
  have hs : ((w.alloc (.cells #[.int .i64 a1] 2)).alloc (.cells #[.int .i64 a2] 2)).heap.size = w.heap.size + 2 := by simp
  generalize ((w.alloc (.cells #[.int .i64 a1] 2)).alloc (.cells #[.int .i64 a2] 2)) = W at *
  refine (cf_ints.pred (!r) l0.length c0 A0 (fun j => .int .i64 (l0.getD j 0)) (fun j => !decide (a1 ≤ l0.getD j 0 ∧ l0.getD j 0 ≤ a2)) W HN.out (fun j hj => ?_) 205 _ (fun a v => Try.call205 a v) (fun nd j hj => ?_) ?_).mono ?_
  · obtain ⟨ad, e, hx⟩ := HC.out j hj
    exact ⟨ad, e, (hb.cell (World.block_lt_of_cell? w _ hx)).trans hx⟩
  · exact impl_areWithin_1.pred _ a1 a2 (W.drewN nd) w.heap.size (w.heap.size + 1) h1 h2
  · have hr := HH.out
    unfold impl_areWithin.f at hr
    have hr := Option.some.inj hr
    rw [Bool.not_eq_true', ← hr, decide_eq_false_iff_not]
    constructor
    · rintro ⟨k, hk, hq⟩ h
      have := h l0[k] (List.getElem_mem hk)
      rw [List.getD_eq_getElem?_getD, List.getElem?_eq_getElem hk] at hq
      simp at hq
      omega
    · intro h
      rw [Classical.not_forall] at h
      obtain ⟨x, h⟩ := h
      rw [Classical.not_imp] at h
      obtain ⟨hx, h⟩ := h; obtain ⟨k, hk, rfl⟩ := List.mem_iff_getElem.1 hx
      refine ⟨k, hk, ?_⟩
      rw [List.getD_eq_getElem?_getD, List.getElem?_eq_getElem hk]
      show (!decide (a1 ≤ l0[k] ∧ l0[k] ≤ a2)) = true
      rw [decide_eq_false h]
      rfl
  · rintro e w' ⟨rfl, ⟨nd, rfl⟩⟩
    have HBL := Aside0.mk (pw_below_drewN hb nd); clear hb h1 h2 hs
    go_wp2
    go_ret
    exact ⟨by simp, HBL.out⟩

end Go.Proofs.Ytabpfejdppfcdaa.PFnExactEncodeTable
