-- Written by this session's own program (wip/pr.py) over the kit's printer; contracts that the printer does not know are given by hand.
import Derived.Test.YtbijmhooamjgoaaPFnExactPackx0
import Derived.Test.YtbijmhooamjgoaaPFnExactPackx5
namespace Go.Proofs.Ytbijmhooamjgoaa.PFnExactPack
open Go.RowKit Go.Proofs.YtbijmhooamjgoaaW.PrintWords Go.Proofs.YtbijmhooamjgoaaW.PrintLast Go.Proofs.YtbijmhooamjgoaaW.PrintMore
attribute [local go_sem] max2_int min2_int max_two min_two max_three min_three max_four min_four   -- for this text's walks alone
set_option linter.unusedVariables false
set_option linter.unusedSimpArgs false

/-! ### slices_IndexFunc_int64_int64_197: function 197 -/
/-- what an IndexFunc tells: the first that is one, or -1 -/
def IdxPost_rows (q : Nat → Bool) (n : Nat) (w : World) (e : Ending) (w' : World) : Prop :=
  ∃ r : Int, ((∃ k : Nat, k < n ∧ r = k ∧ q k = true) ∨ (r = -1 ∧ ∀ k, k < n → q k = false)) ∧ e = .returned (.int .i64 r) ∧ Drawn0 w w'
set_option maxHeartbeats 1000000 in
set_option maxRecDepth 100000 in
theorem if_rows.pred (n c0 : Nat) (A0 : Option Addr) (vs : Nat → Value) (q : Nat → Bool) (w : World) (hn : n ≤ 9223372036854775807) (hc : ∀ j, j < n → ∃ ad, A0 = some ad ∧ w.cell? (ad.add j) = some (vs j))
    (g : Nat) (lb : Array Value) (eg : ∀ args w, (callFunc g args).run Try.prog w = .ok (.enter g args) w)
    (hp : ∀ (nd j : Nat), j < n → Calls Try.prog g (#[vs j] ++ lb) (w.drewN nd) fun e w' => e = .returned (.bool (q j)) ∧ Drawn0 (w.drewN nd) w') :
    Calls Try.prog 197 #[.slice A0 n c0, .func (.func g) #[] lb] w (IdxPost_rows q n w) := by
  have HC := Aside0.mk hc
  have HP := Aside0.mk hp
  clear hc hp
  go_enter Try.func197, Try.ntmps197
  go_wp2
  go_loopg [8] n (fun gk v8 wr => ∃ (i : Int) (nd : Nat), 0 ≤ i ∧ i ≤ n ∧ (n : Int) - i ≤ gk ∧ v8 = .int .i64 i ∧ wr = w.drewN nd ∧ Aside0 (∀ k : Nat, (k : Int) < i → q k = false))
  case atStart => exact ⟨0, 0, by omega, by omega, by omega, rfl, rfl, ⟨fun k hk => by omega⟩⟩
  case round =>
    obtain ⟨i, nd, h0, h1, hg, rfl, rfl, HF⟩ := hrel
    by_cases hlt : i < (n : Int)
    · obtain ⟨ad, e, hx⟩ := HC.out i.toNat (by omega)
      cases e
      have t0 := eq_true h0
      have t1 := eq_true hlt
      have hcall := HP.out nd i.toNat (by omega)
      cases hq : q i.toNat with
      | true =>
        rw [hq] at hcall
        have HQ := Aside0.mk hq
        clear hq
        go_wp2_with fail
        refine hcall.mono ?_
        rintro e w' ⟨rfl, ⟨nd', rfl⟩⟩
        clear hcall
        go_wp2
        go_ret
        exact ⟨i, .inl ⟨i.toNat, by omega, by omega, HQ.out⟩, rfl, ⟨_, rfl⟩⟩
      | false =>
        rw [hq] at hcall
        have HQ := Aside0.mk hq
        clear hq
        go_wp2_with fail
        refine hcall.mono ?_
        rintro e w' ⟨rfl, ⟨nd', rfl⟩⟩
        clear hcall
        go_wp2
        go_roundg (n - (i.toNat + 1))
        case measure => omega
        case rel =>
          refine ⟨i + 1, nd + nd', by omega, by omega, by omega, by first | rfl | go_num, by first | rfl | exact World.drewN_drewN _ _ _, ⟨fun k hk => ?_⟩⟩
          by_cases h : (k : Int) < i
          · exact HF.out k h
          · have : k = i.toNat := by omega
            rw [this]
            exact HQ.out
    · have t1 := eq_false hlt
      go_wp2
      go_ret
      exact ⟨-1, .inr ⟨rfl, fun k hk => HF.out k (by omega)⟩, rfl, ⟨nd, rfl⟩⟩

/-! ### slices_ContainsFunc_int64_int64_170: function 170 -/
set_option maxHeartbeats 1000000 in
set_option maxRecDepth 100000 in
theorem cf_rows.pred (b : Bool) (n c0 : Nat) (A0 : Option Addr) (vs : Nat → Value) (q : Nat → Bool) (w : World) (hn : n ≤ 9223372036854775807) (hc : ∀ j, j < n → ∃ ad, A0 = some ad ∧ w.cell? (ad.add j) = some (vs j))
    (g : Nat) (lb : Array Value) (eg : ∀ args w, (callFunc g args).run Try.prog w = .ok (.enter g args) w)
    (hp : ∀ (nd j : Nat), j < n → Calls Try.prog g (#[vs j] ++ lb) (w.drewN nd) fun e w' => e = .returned (.bool (q j)) ∧ Drawn0 (w.drewN nd) w')
    (hb : (∃ k : Nat, k < n ∧ q k = true) ↔ b = true) :
    Calls Try.prog 170 #[.slice A0 n c0, .func (.func g) #[] lb] w fun e w' => e = .returned (.bool b) ∧ Drawn0 w w' := by
  have HC := Aside0.mk hc
  have HP := Aside0.mk hp
  have HBB := Aside0.mk hb
  clear hc hp hb
  go_enter Try.func170, Try.ntmps170
  go_wp2_with fail
  refine (if_rows.pred n c0 A0 vs q w hn HC.out g lb eg HP.out).mono ?_
  rintro e w' ⟨r, hr, rfl, ⟨nd, rfl⟩⟩
  have HR := Aside0.mk hr
  clear hr
  go_wp2
  go_ret
  refine ⟨?_, ⟨nd, rfl⟩⟩
  have e : decide (0 ≤ r) = b := by
    rcases HR.out with ⟨k, hk, h1, h2⟩ | ⟨h1, h2⟩
    · rw [HBB.out.1 ⟨k, hk, h2⟩, decide_eq_true]
      omega
    · cases hb : b
      · rw [decide_eq_false]
        omega
      · obtain ⟨k, hk, h3⟩ := HBB.out.2 hb
        rw [h2 k hk] at h3
        exact absurd h3 (by simp)
  rw [← e]
  rfl
/-- the cells of a row of rows, one by one -/
theorem reads_rows {w : World} {A0 : Option Addr} {l0 : List (List Int)} (hr0 : Kd.C (Kd.slice 2 (Kd.int .i64)) w A0 l0.length l0) : ∃ vs : Nat → Value, ∀ j, j < l0.length → (∃ ad, A0 = some ad ∧ w.cell? (ad.add j) = some (vs j)) ∧
    ∃ A c, vs j = .slice A (l0.getD j []).length c ∧ (l0.getD j []).length ≤ c ∧ Kd.C (Kd.int .i64) w A (l0.getD j []).length (l0.getD j []) := by
  have one : ∀ j, j < l0.length → ∃ v : Value, (∃ ad, A0 = some ad ∧ w.cell? (ad.add j) = some v) ∧ ∃ A c, v = .slice A (l0.getD j []).length c ∧ (l0.getD j []).length ≤ c ∧ Kd.C (Kd.int .i64) w A (l0.getD j []).length (l0.getD j []) := by
    intro j hj
    obtain ⟨ad, c, e, _, hK, hc⟩ := Kd.C_get hr0 [] (j : Int) (by omega) (by omega)
    rw [Int.toNat_natCast] at hK hc
    obtain ⟨A, c', rfl, hl, hC⟩ := hK
    exact ⟨_, ⟨ad, e, by have := hc 0 _ rfl; simpa [Kd.slice] using this⟩, A, c', rfl, hl, hC⟩
  haveI : Inhabited Value := ⟨.nilIface⟩
  classical
  refine ⟨fun j => if hj : j < l0.length then Classical.choose (one j hj) else .nilIface, fun j hj => ?_⟩
  simp only [dif_pos hj]
  exact Classical.choose_spec (one j hj)

/-! ### impl_DfaOk: function 98 -/
def impl_DfaOk.f (k : Nat) (l0_0 : List Int) (l0_1 : List (List Int)) (l0_2 : List Int) : Option Bool :=
  if 1 ≤ (l0_1.length : Int) ∧ (l0_1.length : Int) ≤ 1000 then (if (l0_2.length : Int) = (l0_1.length : Int) then (if (∀ x ∈ l0_2, -1 ≤ x ∧ x ≤ 39) then ((impl_blocksOk.f k l0_0).bind fun bt => if bt.2 = true then some (decide (∀ row ∈ l0_1, (row.length : Int) = bt.1 ∧ ∀ x ∈ row, 0 ≤ x ∧ x ≤ (l0_1.length : Int) - 1)) else some false) else some false) else some false) else some false
theorem impl_DfaOk.mono : ∀ a0 a1 a2 k, LeO (impl_DfaOk.f k a0 a1 a2) (impl_DfaOk.f (k + 1) a0 a1 a2) := by
  intro a0 a1 a2 k
  unfold impl_DfaOk.f
  repeat' first
    | exact LeO.refl _
    | refine LeO.ite ?_ ?_
    | refine LeO.bind (impl_blocksOk.mono _ _) (fun _ => ?_)
theorem withinB (x lo hi : Int) : impl_within.f x lo hi = some (decide (lo ≤ x ∧ x ≤ hi)) := by
  unfold impl_within.f
  by_cases h : x ≥ lo
  · rw [if_pos h]; congr 1; simp; omega
  · rw [if_neg h]; congr 1; simp; omega
set_option maxHeartbeats 1000000 in
set_option maxRecDepth 100000 in
theorem impl_DfaOk_1.pred (x : Int) (W : World) :
    Calls Try.prog 168 (#[.int .i64 x] ++ #[]) W fun e w' => e = .returned (.bool (!decide (-1 ≤ x ∧ x ≤ 39))) ∧ Drawn0 W w' := by
  have HW := Aside0.mk (withinB x (-1) 39)
  generalize decide (-1 ≤ x ∧ x ≤ 39) = b at *
  go_enter Try.func168, Try.ntmps168
  go_wp2_with fail
  refine (impl_within.calls x (-1) 39 b _ HW.out).mono ?_
  rintro e w' ⟨rfl, ⟨nd, rfl⟩⟩
  go_wp2
  go_ret
  exact ⟨rfl, ⟨nd, rfl⟩⟩
set_option maxHeartbeats 1000000 in
set_option maxRecDepth 100000 in
theorem impl_DfaOk_2_1.pred (x n : Int) (hn : 1 ≤ n ∧ n ≤ 1000) (W : World) (b1 : Nat) (h1 : W.cell? ⟨b1, 0, none⟩ = some (.int .i64 n)) :
    Calls Try.prog 172 (#[.int .i64 x] ++ #[.pointer (some ⟨b1, 0, none⟩)]) W fun e w' => e = .returned (.bool (!decide (0 ≤ x ∧ x ≤ n - 1))) ∧ Drawn0 W w' := by
  have HW := Aside0.mk (withinB x 0 (n - 1))
  generalize decide (0 ≤ x ∧ x ≤ n - 1) = b at *
  obtain ⟨n1, n2⟩ := hn
  go_enter Try.func172, Try.ntmps172
  go_wp2_with fail
  refine (impl_within.calls x 0 (n - 1) b _ HW.out).mono ?_
  rintro e w' ⟨rfl, ⟨nd, rfl⟩⟩
  go_wp2
  go_ret
  exact ⟨rfl, ⟨nd, rfl⟩⟩
set_option maxHeartbeats 1000000 in
set_option maxRecDepth 100000 in
theorem impl_DfaOk_2.pred (A : Option Addr) (c : Nat) (row : List Int) (m n : Int) (hn : 1 ≤ n ∧ n ≤ 1000) (W : World) (b1 b2 : Nat) (hb2 : b2 < W.heap.size) (h1 : W.cell? ⟨b1, 0, none⟩ = some (.int .i64 m)) (h2 : W.cell? ⟨b2, 0, none⟩ = some (.int .i64 n)) (hr : Kd.C (Kd.int .i64) W A row.length row) (hc : row.length ≤ c) :
    Calls Try.prog 171 (#[.slice A row.length c] ++ #[.pointer (some ⟨b1, 0, none⟩), .pointer (some ⟨b2, 0, none⟩)]) W fun e w' => e = .returned (.bool (!decide ((row.length : Int) = m ∧ ∀ x ∈ row, 0 ≤ x ∧ x ≤ n - 1))) ∧ Drawn0 W w' := by
  have HR := Aside0.mk hr
  have HC := Aside0.mk hc
  have HX := Aside0.mk (reads_ints hr)
  have HN := Aside0.mk hr.2.1
  clear hr hc
  have hcf : ∀ nd, Calls Try.prog 167 #[.slice A row.length c, .func (.func 172) #[] #[.pointer (some ⟨b2, 0, none⟩)]] (W.drewN nd) fun e w' => e = .returned (.bool (!decide (∀ x ∈ row, 0 ≤ x ∧ x ≤ n - 1))) ∧ Drawn0 (W.drewN nd) w' := by
    intro nd
    refine cf_ints.pred _ row.length c A (fun j => .int .i64 (row.getD j 0)) (fun j => !decide (0 ≤ row.getD j 0 ∧ row.getD j 0 ≤ n - 1)) (W.drewN nd) HN.out HX.out 172 _ (fun a v => Try.call172 a v) (fun nd' j _ => impl_DfaOk_2_1.pred _ n hn ((W.drewN nd).drewN nd') b2 h2) ?_
    rw [Bool.not_eq_true', decide_eq_false_iff_not]
    constructor
    · rintro ⟨k, hk, hq⟩ h
      have := h row[k] (List.getElem_mem hk)
      rw [List.getD_eq_getElem?_getD, List.getElem?_eq_getElem hk] at hq
      simp at hq
      omega
    · intro h
      rw [Classical.not_forall] at h
      obtain ⟨x, h⟩ := h
      rw [Classical.not_imp] at h
      obtain ⟨hx, h⟩ := h
      obtain ⟨k, hk, rfl⟩ := List.mem_iff_getElem.1 hx
      refine ⟨k, hk, ?_⟩
      rw [List.getD_eq_getElem?_getD, List.getElem?_eq_getElem hk]
      show (!decide (0 ≤ row[k] ∧ row[k] ≤ n - 1)) = true
      rw [decide_eq_false h]
      rfl
  have HCF := Aside0.mk hcf
  clear hcf hn
  by_cases hm : (row.length : Int) = m
  · have g1 : ((row.length : Int) != m) = false := bne_eq_false_iff_eq.2 hm
    have HM := Aside0.mk hm
    clear hm
    go_enter Try.func171, Try.ntmps171
    go_wp2_with fail
    go_quiet (first | (go_at_call 125; (refine (impl_size_int64_125.calls _ _ row (row.length : Int) _ ?s1 ?s2 rfl).mono ?_); (case s1 => repeat (first | exact HR.out | (with_reducible refine Kd.C_drewN ?_ _) | (with_reducible refine Kd.C_drew ?_))); (case s2 => exact HC.out); rintro e w' ⟨rfl, ⟨nd, rfl⟩⟩; (first | exact ⟨rfl, _, World.drewN_drewN _ _ _⟩ | exact ⟨rfl, _, Eq.trans (World.drewN_drewN _ _ _) (congrArg (World.drewN _) (Nat.add_assoc _ _ _))⟩)) | (go_at_call 167; (refine (HCF.out _).mono ?_); rintro e w' ⟨rfl, ⟨nd, rfl⟩⟩; (first | exact ⟨rfl, _, World.drewN_drewN _ _ _⟩ | exact ⟨rfl, _, Eq.trans (World.drewN_drewN _ _ _) (congrArg (World.drewN _) (Nat.add_assoc _ _ _))⟩)))
    go_wp2
    go_ret
    exact ⟨by rw [show decide ((row.length : Int) = m ∧ ∀ x ∈ row, 0 ≤ x ∧ x ≤ n - 1) = decide (∀ x ∈ row, 0 ≤ x ∧ x ≤ n - 1) from decide_eq_decide.2 ⟨fun h => h.2, fun h => ⟨HM.out, h⟩⟩]; rfl, ⟨_, rfl⟩⟩
  · have g1 : ((row.length : Int) != m) = true := bne_iff_ne.2 hm
    have HM := Aside0.mk hm
    clear hm
    go_enter Try.func171, Try.ntmps171
    go_wp2_with fail
    go_quiet (first | (go_at_call 125; (refine (impl_size_int64_125.calls _ _ row (row.length : Int) _ ?s1 ?s2 rfl).mono ?_); (case s1 => repeat (first | exact HR.out | (with_reducible refine Kd.C_drewN ?_ _) | (with_reducible refine Kd.C_drew ?_))); (case s2 => exact HC.out); rintro e w' ⟨rfl, ⟨nd, rfl⟩⟩; (first | exact ⟨rfl, _, World.drewN_drewN _ _ _⟩ | exact ⟨rfl, _, Eq.trans (World.drewN_drewN _ _ _) (congrArg (World.drewN _) (Nat.add_assoc _ _ _))⟩)))
    go_wp2
    go_ret
    exact ⟨by rw [decide_eq_false (fun h => HM.out h.1)]; rfl, ⟨_, rfl⟩⟩
theorem any_not {α : Type} (d : α) (l : List α) (P : α → Prop) [DecidablePred P] : (∃ k, k < l.length ∧ (!decide (P (l.getD k d))) = true) ↔ (!decide (∀ x ∈ l, P x)) = true := by
  rw [Bool.not_eq_true', decide_eq_false_iff_not]
  constructor
  · rintro ⟨k, hk, hq⟩ h
    have := h l[k] (List.getElem_mem hk)
    rw [List.getD_eq_getElem?_getD, List.getElem?_eq_getElem hk] at hq
    simp only [Option.getD_some, Bool.not_eq_true', decide_eq_false_iff_not] at hq
    exact hq this
  · intro h
    rw [Classical.not_forall] at h
    obtain ⟨x, h⟩ := h
    rw [Classical.not_imp] at h
    obtain ⟨hx, h⟩ := h
    obtain ⟨k, hk, rfl⟩ := List.mem_iff_getElem.1 hx
    refine ⟨k, hk, ?_⟩
    rw [List.getD_eq_getElem?_getD, List.getElem?_eq_getElem hk]
    simp only [Option.getD_some, Bool.not_eq_true', decide_eq_false_iff_not]
    exact h
set_option maxHeartbeats 2000000 in
set_option maxRecDepth 100000 in
theorem impl_DfaOk.calls (k : Nat) (A0_0 : Option Addr) (c0_0 : Nat) (l0_0 : List Int) (A0_1 : Option Addr) (c0_1 : Nat) (l0_1 : List (List Int)) (A0_2 : Option Addr) (c0_2 : Nat) (l0_2 : List Int) (r : Bool) (w : World) (hr0_0 : Kd.C (Kd.int .i64) w A0_0 l0_0.length l0_0) (hc0_0 : l0_0.length ≤ c0_0) (hr0_1 : Kd.C (Kd.slice 2 (Kd.int .i64)) w A0_1 l0_1.length l0_1) (hc0_1 : l0_1.length ≤ c0_1) (hr0_2 : Kd.C (Kd.int .i64) w A0_2 l0_2.length l0_2) (hc0_2 : l0_2.length ≤ c0_2) (h : impl_DfaOk.f k l0_0 l0_1 l0_2 = some r) :
    Calls Try.prog 98 #[.agg #[.slice A0_0 l0_0.length c0_0, .slice A0_1 l0_1.length c0_1, .slice A0_2 l0_2.length c0_2]] w fun e w' => e = .returned (.bool r) ∧ Below w.heap.size w w' := by
  have HR0 := Aside0.mk hr0_0
  have HC0 := Aside0.mk hc0_0
  have HR1 := Aside0.mk hr0_1
  have HC1 := Aside0.mk hc0_1
  have HR2 := Aside0.mk hr0_2
  have HC2 := Aside0.mk hc0_2
  have HH := Aside0.mk h
  clear hr0_0 hc0_0 hr0_1 hc0_1 hr0_2 hc0_2 h
  have hcf : ∀ V, Below w.heap.size w V → Calls Try.prog 167 #[.slice A0_2 l0_2.length c0_2, .func (.func 168) #[] #[]] V fun e w' => e = .returned (.bool (!decide (∀ x ∈ l0_2, -1 ≤ x ∧ x ≤ 39))) ∧ Drawn0 V w' := fun V hV =>
    cf_ints.pred _ l0_2.length c0_2 A0_2 (fun j => .int .i64 (l0_2.getD j 0)) (fun j => !decide (-1 ≤ l0_2.getD j 0 ∧ l0_2.getD j 0 ≤ 39)) V HR2.out.2.1 (reads_ints (Kd.C_below HR2.out hV)) 168 _ (fun a v => Try.call168 a v) (fun nd' j _ => impl_DfaOk_1.pred _ (V.drewN nd')) (any_not 0 l0_2 (fun x => -1 ≤ x ∧ x ≤ 39))
  have HCF := Aside0.mk hcf
  clear hcf
  by_cases c1 : 1 ≤ (l0_1.length : Int) ∧ (l0_1.length : Int) ≤ 1000
  · have HW := Aside0.mk (withinB (l0_1.length : Int) 1 1000)
    rw [decide_eq_true c1] at HW
    have C1 := Aside0.mk c1
    clear c1
    by_cases c2 : (l0_2.length : Int) = (l0_1.length : Int)
    · have g2 : ((l0_2.length : Int) != (l0_1.length : Int)) = false := bne_eq_false_iff_eq.2 c2
      have C2 := Aside0.mk c2
      clear c2
      go_enter Try.func98, Try.ntmps98
      go_wp2_with fail
      refine (impl_size_int64_166.calls _ _ l0_1 (l0_1.length : Int) _ ?s1 HC1.out rfl).mono ?_
      case s1 => repeat (first | exact HR1.out | (with_reducible refine Kd.C_alloc ?_ _) | (with_reducible refine Kd.C_drewN ?_ _) | (with_reducible refine Kd.C_drew ?_))
      rintro e w' ⟨rfl, ⟨nd, rfl⟩⟩
      go_wp2_with fail
      obtain ⟨W, hWe⟩ : ∃ W, W = (((w.alloc (.cells #[.slice A0_0 l0_0.length c0_0, .slice A0_1 l0_1.length c0_1, .slice A0_2 l0_2.length c0_2] 53)).drewN nd).alloc (.cells #[.int .i64 (l0_1.length : Int)] 2)) := ⟨_, rfl⟩
      have hW0 : W.heap[w.heap.size]? = some (.cells #[.slice A0_0 l0_0.length c0_0, .slice A0_1 l0_1.length c0_1, .slice A0_2 l0_2.length c0_2] 53 (0, 0)) := by rw [hWe]; exact (Below.heap_alloc _ _ _ (by show w.heap.size < (w.heap.push _).size; simp)).trans (Go.heap_alloc_new w _)
      have hW1 : W.heap[w.heap.size + 1]? = some (.cells #[.int .i64 (l0_1.length : Int)] 2 (0, 0)) := by rw [hWe]; have := Go.heap_alloc_new ((w.alloc (.cells #[.slice A0_0 l0_0.length c0_0, .slice A0_1 l0_1.length c0_1, .slice A0_2 l0_2.length c0_2] 53)).drewN nd) (.cells #[.int .i64 (l0_1.length : Int)] 2); simpa using this
      have hWs : W.heap.size = w.heap.size + 2 := by rw [hWe]; simp
      have hbW : Below w.heap.size w W := by rw [hWe]; exact (pw_below_drewN ((Below.refl _ _).alloc (Nat.le_refl _) _) nd).alloc (by simp) _
      rw [← hWe]
      have HBW := Aside0.mk hbW
      have HW0 := Aside0.mk hW0
      have HW1 := Aside0.mk hW1
      have HWS := Aside0.mk hWs
      have z0 := blk_cell hW0 0
      have z1 := blk_cell hW0 1
      have z2 := blk_cell hW0 2
      have z3 := blk_cell hW1 0
      simp only [List.getElem?_toArray, List.getElem?_cons_zero, List.getElem?_cons_succ] at z0 z1 z2 z3
      clear hWe hbW hW0 hW1 hWs
      go_quiet (first | (go_at_call 110; (refine (impl_within.calls (l0_1.length : Int) 1 1000 true _ HW.out).mono ?_); rintro e w' ⟨rfl, ⟨nd, rfl⟩⟩; (first | exact ⟨rfl, _, World.drewN_drewN _ _ _⟩ | exact ⟨rfl, _, Eq.trans (World.drewN_drewN _ _ _) (congrArg (World.drewN _) (Nat.add_assoc _ _ _))⟩)) | (go_at_call 125; (refine (impl_size_int64_125.calls _ _ l0_2 (l0_2.length : Int) _ ?s1 HC2.out rfl).mono ?_); (case s1 => repeat (first | exact Kd.C_below HR2.out HBW.out | (with_reducible refine Kd.C_drewN ?_ _) | (with_reducible refine Kd.C_drew ?_))); rintro e w' ⟨rfl, ⟨nd, rfl⟩⟩; (first | exact ⟨rfl, _, World.drewN_drewN _ _ _⟩ | exact ⟨rfl, _, Eq.trans (World.drewN_drewN _ _ _) (congrArg (World.drewN _) (Nat.add_assoc _ _ _))⟩)))
      go_wp2_with fail
      refine (HCF.out _ (by repeat (first | exact HBW.out | apply pw_below_drewN))).mono ?_
      rintro e w' ⟨rfl, ⟨nd3, rfl⟩⟩
      clear HCF
      by_cases c3 : ∀ x ∈ l0_2, -1 ≤ x ∧ x ≤ 39
      · rw [decide_eq_true c3]
        have C3 := Aside0.mk c3
        clear c3
        have hH := HH.out
        unfold impl_DfaOk.f at hH
        rw [if_pos C1.out, if_pos C2.out, if_pos C3.out] at hH
        obtain ⟨⟨m, b4⟩, hb4, hH⟩ := Option.bind_eq_some_iff.1 hH
        have HB4 := Aside0.mk hb4
        have HH2 := Aside0.mk hH
        clear hH hb4 HH
        go_wp2_with fail
        refine (impl_blocksOk.calls k _ _ l0_0 m b4 _ ?s1 HC0.out HB4.out).mono ?_
        case s1 => repeat (first | exact Kd.C_below HR0.out HBW.out | (with_reducible refine Kd.C_drewN ?_ _) | (with_reducible refine Kd.C_drew ?_))
        rintro e w' ⟨rfl, hb5⟩
        have hsz : w.heap.size + 2 ≤ w'.heap.size := by have := hb5.size; have := HWS.out; simp at *; omega
        have y1 := (hb5.cell (p := ⟨w.heap.size, 1, none⟩) (by have := HWS.out; show w.heap.size < _; simp; omega)).trans z1
        have y3 := (hb5.cell (p := ⟨w.heap.size + 1, 0, none⟩) (by have := HWS.out; show w.heap.size + 1 < _; simp; omega)).trans z3
        have HBX := Aside0.mk (below_step (show Below w.heap.size w _ from by repeat (first | exact HBW.out | apply pw_below_drewN)) hb5)
        have HSZ := Aside0.mk hsz
        clear hb5 hsz z0 z1 z2 z3 HBW HW0 HW1 HWS
        have hn0 : w'.heap.size ≠ w.heap.size := by have := HSZ.out; omega
        have hn1 : w'.heap.size ≠ w.heap.size + 1 := by have := HSZ.out; omega
        have u1 : (w'.alloc (.cells #[.int .i64 m] 2)).cell? ⟨w.heap.size, 1, none⟩ = some (.slice A0_1 l0_1.length c0_1) := (((Below.refl w'.heap.size w').alloc (Nat.le_refl _) _).cell (p := ⟨w.heap.size, 1, none⟩) (by show w.heap.size < w'.heap.size; have := HSZ.out; omega)).trans y1
        have u3 : (w'.alloc (.cells #[.int .i64 m] 2)).cell? ⟨w.heap.size + 1, 0, none⟩ = some (.int .i64 (l0_1.length : Int)) := (((Below.refl w'.heap.size w').alloc (Nat.le_refl _) _).cell (p := ⟨w.heap.size + 1, 0, none⟩) (by show w.heap.size + 1 < w'.heap.size; have := HSZ.out; omega)).trans y3
        have u4 : (w'.alloc (.cells #[.int .i64 m] 2)).cell? ⟨w'.heap.size, 0, none⟩ = some (.int .i64 m) := (blk_cell (Go.heap_alloc_new w' _) 0).trans rfl
        have HBU := Aside0.mk (show Below w.heap.size w (w'.alloc (.cells #[.int .i64 m] 2)) from HBX.out.alloc (by have := HSZ.out; omega) _)
        have HUS := Aside0.mk (show w.heap.size + 1 < (w'.alloc (.cells #[.int .i64 m] 2)).heap.size from by have := HSZ.out; simp; omega)
        have hcr : Calls Try.prog 170 #[.slice A0_1 l0_1.length c0_1, .func (.func 171) #[] #[.pointer (some ⟨w'.heap.size, 0, none⟩), .pointer (some ⟨w.heap.size + 1, 0, none⟩)]] (w'.alloc (.cells #[.int .i64 m] 2)) fun e w2 => e = .returned (.bool (!decide (∀ row ∈ l0_1, (row.length : Int) = m ∧ ∀ x ∈ row, 0 ≤ x ∧ x ≤ (l0_1.length : Int) - 1))) ∧ Drawn0 (w'.alloc (.cells #[.int .i64 m] 2)) w2 := by
          obtain ⟨vs, hvs⟩ := reads_rows (Kd.C_below HR1.out HBU.out)
          refine cf_rows.pred _ l0_1.length c0_1 A0_1 vs (fun j => !decide (((l0_1.getD j []).length : Int) = m ∧ ∀ x ∈ l0_1.getD j [], 0 ≤ x ∧ x ≤ (l0_1.length : Int) - 1)) _ HR1.out.2.1 (fun j hj => (hvs j hj).1) 171 _ (fun a v => Try.call171 a v) (fun nd' j hj => ?_) (any_not [] l0_1 (fun row => (row.length : Int) = m ∧ ∀ x ∈ row, 0 ≤ x ∧ x ≤ (l0_1.length : Int) - 1))
          obtain ⟨A, c, ev, hl, hC⟩ := (hvs j hj).2
          rw [ev]
          exact impl_DfaOk_2.pred A c (l0_1.getD j []) m (l0_1.length : Int) C1.out _ w'.heap.size (w.heap.size + 1) HUS.out u4 u3 (Kd.C_drewN hC _) hl
        have HCR := Aside0.mk hcr
        clear hcr
        cases b4 with
        | true =>
          rw [if_pos rfl] at HH2
          go_wp2_with fail
          refine HCR.out.mono ?_
          rintro e w2 ⟨rfl, ⟨nd4, rfl⟩⟩
          have hr := Option.some.inj HH2.out
          have HRR := Aside0.mk hr
          clear hr
          go_wp2
          go_ret
          exact ⟨by rw [← HRR.out]; simp, pw_below_drewN HBU.out _⟩
        | false =>
          rw [if_neg (by simp)] at HH2
          have hr := Option.some.inj HH2.out
          have HRR := Aside0.mk hr
          clear hr
          go_wp2
          go_ret
          exact ⟨by rw [← HRR.out]; rfl, HBU.out⟩
      · rw [decide_eq_false c3]
        have C3 := Aside0.mk c3
        clear c3
        have hr : r = false := by
          have := HH.out
          unfold impl_DfaOk.f at this
          rw [if_pos C1.out, if_pos C2.out, if_neg C3.out] at this
          exact (Option.some.inj this).symm
        have HRR := Aside0.mk hr
        clear hr
        go_wp2
        go_ret
        exact ⟨by rw [HRR.out]; rfl, by repeat (first | exact HBW.out | apply pw_below_drewN)⟩
    · have g2 : ((l0_2.length : Int) != (l0_1.length : Int)) = true := bne_iff_ne.2 c2
      have C2 := Aside0.mk c2
      clear c2
      go_enter Try.func98, Try.ntmps98
      go_wp2_with fail
      refine (impl_size_int64_166.calls _ _ l0_1 (l0_1.length : Int) _ ?s1 HC1.out rfl).mono ?_
      case s1 => repeat (first | exact HR1.out | (with_reducible refine Kd.C_alloc ?_ _) | (with_reducible refine Kd.C_drewN ?_ _) | (with_reducible refine Kd.C_drew ?_))
      rintro e w' ⟨rfl, ⟨nd, rfl⟩⟩
      go_wp2_with fail
      obtain ⟨W, hWe⟩ : ∃ W, W = (((w.alloc (.cells #[.slice A0_0 l0_0.length c0_0, .slice A0_1 l0_1.length c0_1, .slice A0_2 l0_2.length c0_2] 53)).drewN nd).alloc (.cells #[.int .i64 (l0_1.length : Int)] 2)) := ⟨_, rfl⟩
      have hW0 : W.heap[w.heap.size]? = some (.cells #[.slice A0_0 l0_0.length c0_0, .slice A0_1 l0_1.length c0_1, .slice A0_2 l0_2.length c0_2] 53 (0, 0)) := by rw [hWe]; exact (Below.heap_alloc _ _ _ (by show w.heap.size < (w.heap.push _).size; simp)).trans (Go.heap_alloc_new w _)
      have hW1 : W.heap[w.heap.size + 1]? = some (.cells #[.int .i64 (l0_1.length : Int)] 2 (0, 0)) := by rw [hWe]; have := Go.heap_alloc_new ((w.alloc (.cells #[.slice A0_0 l0_0.length c0_0, .slice A0_1 l0_1.length c0_1, .slice A0_2 l0_2.length c0_2] 53)).drewN nd) (.cells #[.int .i64 (l0_1.length : Int)] 2); simpa using this
      have hWs : W.heap.size = w.heap.size + 2 := by rw [hWe]; simp
      have hbW : Below w.heap.size w W := by rw [hWe]; exact (pw_below_drewN ((Below.refl _ _).alloc (Nat.le_refl _) _) nd).alloc (by simp) _
      rw [← hWe]
      have HBW := Aside0.mk hbW
      have HW0 := Aside0.mk hW0
      have HW1 := Aside0.mk hW1
      have HWS := Aside0.mk hWs
      have z0 := blk_cell hW0 0
      have z1 := blk_cell hW0 1
      have z2 := blk_cell hW0 2
      have z3 := blk_cell hW1 0
      simp only [List.getElem?_toArray, List.getElem?_cons_zero, List.getElem?_cons_succ] at z0 z1 z2 z3
      clear hWe hbW hW0 hW1 hWs
      go_quiet (first | (go_at_call 110; (refine (impl_within.calls (l0_1.length : Int) 1 1000 true _ HW.out).mono ?_); rintro e w' ⟨rfl, ⟨nd, rfl⟩⟩; (first | exact ⟨rfl, _, World.drewN_drewN _ _ _⟩ | exact ⟨rfl, _, Eq.trans (World.drewN_drewN _ _ _) (congrArg (World.drewN _) (Nat.add_assoc _ _ _))⟩)) | (go_at_call 125; (refine (impl_size_int64_125.calls _ _ l0_2 (l0_2.length : Int) _ ?s1 HC2.out rfl).mono ?_); (case s1 => repeat (first | exact Kd.C_below HR2.out HBW.out | (with_reducible refine Kd.C_drewN ?_ _) | (with_reducible refine Kd.C_drew ?_))); rintro e w' ⟨rfl, ⟨nd, rfl⟩⟩; (first | exact ⟨rfl, _, World.drewN_drewN _ _ _⟩ | exact ⟨rfl, _, Eq.trans (World.drewN_drewN _ _ _) (congrArg (World.drewN _) (Nat.add_assoc _ _ _))⟩)))
      have hr : r = false := by
        have := HH.out
        unfold impl_DfaOk.f at this
        rw [if_pos C1.out, if_neg C2.out] at this
        exact (Option.some.inj this).symm
      have HRR := Aside0.mk hr
      clear hr
      go_wp2
      go_ret
      exact ⟨by rw [HRR.out]; rfl, pw_below_drewN HBW.out _⟩
  · have HW := Aside0.mk (withinB (l0_1.length : Int) 1 1000)
    rw [decide_eq_false c1] at HW
    have C1 := Aside0.mk c1
    clear c1
    go_enter Try.func98, Try.ntmps98
    go_wp2_with fail
    refine (impl_size_int64_166.calls _ _ l0_1 (l0_1.length : Int) _ ?s1 HC1.out rfl).mono ?_
    case s1 => repeat (first | exact HR1.out | (with_reducible refine Kd.C_alloc ?_ _) | (with_reducible refine Kd.C_drewN ?_ _) | (with_reducible refine Kd.C_drew ?_))
    rintro e w' ⟨rfl, ⟨nd, rfl⟩⟩
    go_wp2_with fail
    obtain ⟨W, hWe⟩ : ∃ W, W = (((w.alloc (.cells #[.slice A0_0 l0_0.length c0_0, .slice A0_1 l0_1.length c0_1, .slice A0_2 l0_2.length c0_2] 53)).drewN nd).alloc (.cells #[.int .i64 (l0_1.length : Int)] 2)) := ⟨_, rfl⟩
    have hW0 : W.heap[w.heap.size]? = some (.cells #[.slice A0_0 l0_0.length c0_0, .slice A0_1 l0_1.length c0_1, .slice A0_2 l0_2.length c0_2] 53 (0, 0)) := by rw [hWe]; exact (Below.heap_alloc _ _ _ (by show w.heap.size < (w.heap.push _).size; simp)).trans (Go.heap_alloc_new w _)
    have hW1 : W.heap[w.heap.size + 1]? = some (.cells #[.int .i64 (l0_1.length : Int)] 2 (0, 0)) := by rw [hWe]; have := Go.heap_alloc_new ((w.alloc (.cells #[.slice A0_0 l0_0.length c0_0, .slice A0_1 l0_1.length c0_1, .slice A0_2 l0_2.length c0_2] 53)).drewN nd) (.cells #[.int .i64 (l0_1.length : Int)] 2); simpa using this
    have hWs : W.heap.size = w.heap.size + 2 := by rw [hWe]; simp
    have hbW : Below w.heap.size w W := by rw [hWe]; exact (pw_below_drewN ((Below.refl _ _).alloc (Nat.le_refl _) _) nd).alloc (by simp) _
    rw [← hWe]
    have HBW := Aside0.mk hbW
    have HW0 := Aside0.mk hW0
    have HW1 := Aside0.mk hW1
    have HWS := Aside0.mk hWs
    have z0 := blk_cell hW0 0
    have z1 := blk_cell hW0 1
    have z2 := blk_cell hW0 2
    have z3 := blk_cell hW1 0
    simp only [List.getElem?_toArray, List.getElem?_cons_zero, List.getElem?_cons_succ] at z0 z1 z2 z3
    clear hWe hbW hW0 hW1 hWs
    go_quiet (first | (go_at_call 110; (refine (impl_within.calls (l0_1.length : Int) 1 1000 false _ HW.out).mono ?_); rintro e w' ⟨rfl, ⟨nd, rfl⟩⟩; (first | exact ⟨rfl, _, World.drewN_drewN _ _ _⟩ | exact ⟨rfl, _, Eq.trans (World.drewN_drewN _ _ _) (congrArg (World.drewN _) (Nat.add_assoc _ _ _))⟩)) | (go_at_call 125; (refine (impl_size_int64_125.calls _ _ l0_2 (l0_2.length : Int) _ ?s1 HC2.out rfl).mono ?_); (case s1 => repeat (first | exact Kd.C_below HR2.out HBW.out | (with_reducible refine Kd.C_drewN ?_ _) | (with_reducible refine Kd.C_drew ?_))); rintro e w' ⟨rfl, ⟨nd, rfl⟩⟩; (first | exact ⟨rfl, _, World.drewN_drewN _ _ _⟩ | exact ⟨rfl, _, Eq.trans (World.drewN_drewN _ _ _) (congrArg (World.drewN _) (Nat.add_assoc _ _ _))⟩)))
    have hr : r = false := by
      have := HH.out
      unfold impl_DfaOk.f at this
      rw [if_neg C1.out] at this
      exact (Option.some.inj this).symm
    have HRR := Aside0.mk hr
    clear hr
    go_wp2
    go_ret
    exact ⟨by rw [HRR.out]; rfl, pw_below_drewN HBW.out _⟩

/-! ### slices_Clone_int64_int64: function 122 -/
set_option maxHeartbeats 1000000 in
set_option maxRecDepth 100000 in
theorem cl_ints.calls (A0 : Option Addr) (c0 : Nat) (l0 : List Int) (w : World) (hr0 : Kd.C (Kd.int .i64) w A0 l0.length l0) (hc0 : l0.length ≤ c0) (hl : l0.length ≤ 4294967296) :
    Calls Try.prog 122 #[.slice A0 l0.length c0] w fun e w' => ∃ v0_ : Value, e = .returned (v0_) ∧ Kd.R (Kd.int .i64) 2 w' w.heap.size (fun _ => True) v0_ l0 ∧ Below w.heap.size w w' := by
  cases A0 with
  | none =>
    obtain rfl : l0 = [] := by
      cases l0 with
      | nil => rfl
      | cons x l =>
        obtain ⟨ad, c, e, _⟩ := Kd.C_get hr0 (0 : Int) (0 : Int) (by omega) (by simp)
        cases e
    clear hr0 hc0 hl
    have hnil : (binOp .eql 29 (.slice none 0 c0) (.slice none 0 0)).run Try.prog w = .ok (.bool true) w := Lib.run_eql_slice_nil w 29 2 none _ _ _ _ Try.underlying29
    rw [List.length_nil]
    go_enter Try.func122, Try.ntmps122
    go_wp2
    go_ret
    exact ⟨_, rfl, Kd.R_nil _ _ _ _ _, Below.refl _ _⟩
  | some ad =>
    have HR0 := Aside0.mk hr0
    have HL := Aside0.mk hl
    have HB := Aside0.mk (Below.refl w.heap.size w)
    clear hr0 hc0 hl
    have hnil : (binOp .eql 29 (.slice (some ad) l0.length c0) (.slice none 0 0)).run Try.prog w = .ok (.bool false) w := Lib.run_eql_slice_nil w 29 2 (some ad) _ _ _ _ Try.underlying29
    go_enter Try.func122, Try.ntmps122
    go_wp2_with (first
      | ((with_reducible refine gate_dst (N := 5) rfl ?_); refine Kd.R_lit (Kd.int .i64) _ 2 ?hg (N := 5) ?hd (xs := ([] : List Int)) (inner := []) (ok := fun _ => True) (okp := fun _ => True) ?hr ?hp (fun _ hk => hk) trivial (Below.refl _ _) (Nat.le_refl _) (by simp) ?_; (case hd => rfl); (case hg => rfl); (case hr => first | (go_simp; done) | (go_simp; rfl)); (case hp => exact (Reps.none _ _)); intro v5 w5 ho hb hg_ hnew_; have HO := Aside0.mk ho; have HB5 := Aside0.mk hb; clear ho hb hg_ hnew_)
      | ((with_reducible refine gate_dst (N := 7) rfl ?_); refine Kd.R_append_rows (Kd.int .i64) (w0 := w) w.heap.size rfl (.tmp 5) (.tmp 6) 29 2 (.int .i64 0) 8 rfl Try.underlying29 info2 rfl (by decide) (by omega) v5 ([] : List Int) l0 _ _ _ (fun _ => True) (fun _ => False) rfl rfl HO.out (Kd.C_below HR0.out HB5.out) (fun _ _ h => h) (fun _ h => h.elim) (fun _ _ => trivial) HB5.out (below_size HB5.out) ?aL ?_; (case aL => have := HL.out; simp; omega); intro v7 w7 ho hb hg hat; have HO7 := Aside0.mk ho; have HB7 := Aside0.mk hb; clear ho hb hg hat))
    go_ret
    exact ⟨_, rfl, HO7.out, HB7.out⟩

def slices_Clone_int64_int64.f (l0 : List Int) : Option (List Int) := if l0.length ≤ 4294967296 then some l0 else none
theorem slices_Clone_int64_int64.calls (A0 : Option Addr) (c0 : Nat) (l0 : List Int) (r : List Int) (w : World) (hr0 : Kd.C (Kd.int .i64) w A0 l0.length l0) (hc0 : l0.length ≤ c0) (h : slices_Clone_int64_int64.f l0 = some r) :
    Calls Try.prog 122 #[.slice A0 l0.length c0] w fun e w' => ∃ v0_ : Value, e = .returned (v0_) ∧ Kd.R (Kd.int .i64) 2 w' w.heap.size (fun _ => True) v0_ r ∧ Below w.heap.size w w' := by
  unfold slices_Clone_int64_int64.f at h
  by_cases hp : l0.length ≤ 4294967296
  · rw [if_pos hp] at h
    obtain rfl := Option.some.inj h
    exact cl_ints.calls A0 c0 l0 w hr0 hc0 hp
  · rw [if_neg hp] at h
    exact absurd h (by simp)

/-! ### impl_mostOften: function 123 -/
section
open Go.Proofs.Ytbijmhooamjgoaa.Kit Go.Maps
/-- the better of two numbers of a row: the one that is there more often, of two the less -/
def mostStep (row : List Int) (b x : Int) : Int := if b < 0 then x else if row.count x > row.count b then x else if row.count x = row.count b ∧ x < b then x else b
def mostM (row : List Int) : Int := row.foldl (mostStep row) (-1)
def impl_mostOften.f (l0 : List Int) : Option Int := if (∀ x ∈ l0, 0 ≤ x ∧ (Lit.int .i64 x).wf = true) ∧ l0.length ≤ 1000000000 then some (mostM l0) else none
/-- what a map holds that has counted some numbers -/
def LC (l : List Int) : Lit → Option Int
  | .int .i64 x => if x ∈ l then some (l.count x : Int) else none
  | _ => none
theorem LC_nil : LC [] = fun _ => none := by
  funext z
  unfold LC
  split
  · simp
  · rfl
theorem LC_get (l : List Int) (x : Int) : (LC l (.int .i64 x)).getD 0 = (l.count x : Int) := by
  show (if x ∈ l then some (l.count x : Int) else none).getD 0 = _
  by_cases h : x ∈ l
  · rw [if_pos h]; rfl
  · rw [if_neg h, List.count_eq_zero.2 h]; rfl
open Classical in
theorem LC_snoc (l : List Int) (x : Int) : LC (l ++ [x]) = fun z => if z = .int .i64 x then some ((l.count x : Int) + 1) else LC l z := by
  funext z
  by_cases e : z = .int .i64 x
  · subst e
    rw [if_pos rfl]
    show (if x ∈ l ++ [x] then some ((l ++ [x]).count x : Int) else none) = _
    rw [if_pos (by simp), List.count_append]
    simp
  · rw [if_neg e]
    unfold LC
    split
    next y =>
      have hne : y ≠ x := fun h => e (by rw [h])
      have hc : (l ++ [x]).count y = l.count y := by
        rw [List.count_append, List.count_singleton]
        simp [Ne.symm hne]
      have hm : y ∈ l ++ [x] ↔ y ∈ l := by simp [hne]
      by_cases h : y ∈ l
      · rw [if_pos h, if_pos (hm.2 h), hc]
      · rw [if_neg h, if_neg (fun q => h (hm.1 q))]
    next => rfl
def IsMost (l : List Int) (S : Int → Prop) (b : Int) : Prop := (b = -1 ∧ ∀ x ∈ l, ¬ S x) ∨ (0 ≤ b ∧ b ∈ l ∧ S b ∧ ∀ x ∈ l, S x → l.count x < l.count b ∨ (l.count x = l.count b ∧ b ≤ x))
theorem IsMost.step {l : List Int} {S : Int → Prop} {b : Int} (h : IsMost l S b) (x : Int) (hx : x ∈ l) (h0 : 0 ≤ x) : IsMost l (fun y => S y ∨ y = x) (mostStep l b x) := by
  unfold mostStep
  rcases h with ⟨rfl, h⟩ | ⟨hb0, hbl, hbS, hbb⟩
  · rw [if_pos (by omega)]
    refine .inr ⟨h0, hx, .inr rfl, fun y hy hS => ?_⟩
    rcases hS with hS | rfl
    · exact absurd hS (h y hy)
    · exact .inr ⟨rfl, Int.le_refl _⟩
  · rw [if_neg (by omega)]
    by_cases c1 : l.count x > l.count b
    · rw [if_pos c1]
      refine .inr ⟨h0, hx, .inr rfl, fun y hy hS => ?_⟩
      rcases hS with hS | rfl
      · left; have := hbb y hy hS; omega
      · exact .inr ⟨rfl, Int.le_refl _⟩
    · rw [if_neg c1]
      by_cases c2 : l.count x = l.count b ∧ x < b
      · rw [if_pos c2]
        refine .inr ⟨h0, hx, .inr rfl, fun y hy hS => ?_⟩
        rcases hS with hS | rfl
        · have := hbb y hy hS; omega
        · exact .inr ⟨rfl, Int.le_refl _⟩
      · rw [if_neg c2]
        refine .inr ⟨hb0, hbl, .inl hbS, fun y hy hS => ?_⟩
        rcases hS with hS | rfl
        · exact hbb y hy hS
        · by_cases e : l.count y = l.count b
          · right; refine ⟨e, ?_⟩; have : ¬ y < b := fun q => c2 ⟨e, q⟩; omega
          · left; omega
theorem IsMost.congr {l : List Int} {S T : Int → Prop} {b : Int} (h : IsMost l S b) (hst : ∀ x ∈ l, S x ↔ T x) : IsMost l T b := by
  rcases h with ⟨rfl, h⟩ | ⟨hb0, hbl, hbS, hbb⟩
  · exact .inl ⟨rfl, fun x hx q => h x hx ((hst x hx).2 q)⟩
  · exact .inr ⟨hb0, hbl, (hst b hbl).1 hbS, fun x hx q => hbb x hx ((hst x hx).2 q)⟩
theorem IsMost.uniq {l : List Int} {b c : Int} (h : IsMost l (fun _ => True) b) (h' : IsMost l (fun _ => True) c) : b = c := by
  rcases h with ⟨rfl, h⟩ | ⟨hb0, hbl, _, hbb⟩
  · rcases h' with ⟨rfl, _⟩ | ⟨_, hcl, _, _⟩
    · rfl
    · exact absurd trivial (h c hcl)
  · rcases h' with ⟨rfl, h'⟩ | ⟨hc0, hcl, _, hcc⟩
    · exact absurd trivial (h' b hbl)
    · have h1 := hbb c hcl trivial
      have h2 := hcc b hbl trivial
      omega
theorem IsMost.fold (l : List Int) (h0 : ∀ x ∈ l, 0 ≤ x) : ∀ (m : List Int) (S : Int → Prop) (b : Int), (∀ x ∈ m, x ∈ l) → IsMost l S b → IsMost l (fun y => S y ∨ y ∈ m) (m.foldl (mostStep l) b)
  | [], S, b, _, h => h.congr (fun x _ => by simp)
  | x :: m, S, b, hm, h => by
    have := IsMost.fold l h0 m _ _ (fun y hy => hm y (List.mem_cons_of_mem _ hy)) (h.step x (hm x (List.mem_cons_self ..)) (h0 x (hm x (List.mem_cons_self ..))))
    refine this.congr (fun y _ => ?_)
    rw [List.mem_cons, or_assoc]
theorem mostM_is (l : List Int) (h0 : ∀ x ∈ l, 0 ≤ x) : IsMost l (fun _ => True) (mostM l) :=
  (IsMost.fold l h0 l (fun _ => False) (-1) (fun _ h => h) (.inl ⟨rfl, fun _ _ q => q⟩)).congr (fun x hx => ⟨fun _ => trivial, fun _ => .inr hx⟩)
set_option maxHeartbeats 4000000 in
set_option maxRecDepth 100000 in
theorem impl_mostOften.calls (A0 : Option Addr) (c0 : Nat) (l0 : List Int) (r : Int) (w : World) (hr0 : Kd.C (Kd.int .i64) w A0 l0.length l0) (hc0 : l0.length ≤ c0) (h : impl_mostOften.f l0 = some r) :
    Calls Try.prog 123 #[.slice A0 l0.length c0] w fun e w' => e = .returned (.int .i64 r) ∧ Below w.heap.size w w' := by
  unfold impl_mostOften.f at h
  by_cases hz : (∀ x ∈ l0, 0 ≤ x ∧ (Lit.int .i64 x).wf = true) ∧ l0.length ≤ 1000000000
  case neg => rw [if_neg hz] at h; exact absurd h (by simp)
  rw [if_pos hz] at h
  have HM := Aside0.mk (mostM_is l0 (fun x hx => (hz.1 x hx).1))
  have hr := Option.some.inj h
  rw [hr] at HM
  have HR0 := Aside0.mk hr0
  have HC0 := Aside0.mk hc0
  have HZ := Aside0.mk hz.1
  have HN := Aside0.mk hz.2
  clear h hr0 hc0 hz hr
  have hmm := @run_makeMap Try.prog
  have LAW := Aside0.mk (show Keyed Try.prog 2 from int_keyed Try.underlying2)
  have ZE := Aside0.mk (fun w : World => (show (zeroValue 3).run Try.prog w = .ok (.int .i64 0) w by kernel_rfl))
  go_enter Try.func123, Try.ntmps123
  go_wp2
  go_loopg [12] l0.length (fun gk v12 wr => ∃ (i : Nat), i ≤ l0.length ∧ l0.length - i ≤ gk ∧ v12 = .int .i64 i ∧ Aside0 (∃ n' c, n' ≤ i ∧ NumB wr Try.prog 2 3 w.heap.size n' (LC (l0.take i)) c) ∧ Aside0 (Below w.heap.size w wr))
  case atStart => exact ⟨0, Nat.zero_le _, by omega, rfl, ⟨0, 0, Nat.le_refl _, by rw [List.take_zero, LC_nil]; exact NumB.made _ _ _ _⟩, ⟨(Below.refl _ _).alloc (Nat.le_refl _) _⟩⟩
  case round =>
    obtain ⟨i, hi, hg, rfl, HNB, HB⟩ := hrel
    by_cases hlt : i < l0.length
    · obtain ⟨ad, e, hx0⟩ := Kd.at_int HR0.out (i : Int) (by omega) (by omega)
      cases e
      replace hx0 := (HB.out.cell (World.block_lt_of_cell? w _ hx0)).trans hx0
      rw [Int.toNat_natCast] at hx0
      have hxe : rd l0 (i : Int) = l0[i] := by
        unfold rd
        rw [Int.toNat_natCast, List.getD_eq_getElem?_getD, List.getElem?_eq_getElem hlt]
        rfl
      have hwf := (HZ.out l0[i] (List.getElem_mem hlt)).2
      have HTK := Aside0.mk (show l0.take (i + 1) = l0.take i ++ [l0[i]] from List.take_succ_eq_append_getElem hlt)
      rw [hxe] at hx0
      generalize l0[i] = x at *
      obtain ⟨nm, c, hnm, hs⟩ := HNB.out
      have hkey : keyOf Try.prog 2 (.int .i64 x) = some (.int .i64 x) := by
        unfold keyOf
        simp only [Try.underlying2]
        simp [mapKey, hwf]
      have hlook := hs.look LAW.out Try.underlying216 Try.underlying3 (ZE.out _) hkey
      rw [LC_get] at hlook
      have hcl : (l0.take i).count x ≤ i := Nat.le_trans List.count_le_length (by rw [List.length_take]; omega)
      have hadd : wrap64 (((l0.take i).count x : Int) + 1) = ((l0.take i).count x : Int) + 1 := w64 (by have := HN.out; omega) (by have := HN.out; omega)
      obtain ⟨w', hst, hs', hgrow⟩ := hs.store LAW.out Try.underlying216 Try.underlying3 (by have := HN.out; unfold maxLen; omega) hkey (((l0.take i).count x : Int) + 1) (by simp [Lit.wf, IntKind.min, IntKind.max, IntKind.signed, IntKind.bits]; have := HN.out; omega)
      rw [← LC_snoc] at hs'
      rw [← HTK.out] at hs'
      have hcond := eq_true (show (i : Int) < (l0.length : Int) by omega)
      have hcond0 := eq_true (show (0 : Int) ≤ (i : Int) by omega)
      have HNM := Aside0.mk hnm
      have HSS := Aside0.mk hs'
      have HLT := Aside0.mk hlt
      have HGR := Aside0.mk hgrow
      clear hs hs' hnm hgrow hlt hi hkey hwf hxe hcl HNB
      go_wp2
      go_roundg (l0.length - (i + 1))
      case measure => have := HLT.out; omega
      case rel => exact ⟨i + 1, by have := HLT.out; omega, by omega, by have := HLT.out; have := HN.out; show Value.int .i64 (wrap64 ((i : Int) + 1)) = _; rw [w64 (by omega) (by omega)]; rfl, ⟨nm + 1, _, by have := HNM.out; omega, HSS.out⟩, ⟨HB.out.grown HGR.out HB.out.size (fun j hj => by cases hj; exact Nat.le_refl _)⟩⟩
    · have hcond := eq_false (show ¬ (i : Int) < (l0.length : Int) by omega)
      have ei : i = l0.length := by omega
      subst ei
      rw [List.take_length] at HNB
      clear hlt hi hg
      obtain ⟨nm, c, hnm, ⟨D, hown, hhas, hatk, _⟩⟩ := HNB.out
      have HAT := Aside0.mk hatk
      have HHAS := Aside0.mk hhas
      clear hnm HNB hatk hhas
      go_wp2_with (first | (at_range; refine wpList_range_own _ rfl _ 216 rfl 2 3 LAW.out Try.underlying216 _ w.heap.size nm D rfl hown ?_; intro w0 hrg0 hg0 hs0) | fail)
      go_frame
      obtain ⟨ri, eri⟩ : ∃ q, q = wr.heap.size := ⟨_, rfl⟩
      rw [← eri] at hrg0 ⊢
      have HB0 := Aside0.mk (HB.out.grown hg0 HB.out.size (fun j hj => by cases hj))
      have HRI := Aside0.mk (show w.heap.size ≤ ri by rw [eri]; exact HB.out.size)
      clear eri hg0 hs0 hown HB
      go_loopg [4] (Maps.size D) (fun gk v4 wr => ∃ (left : Lit → Bool) (cnt : Nat) (b : Int), v4 = .int .i64 b ∧ cnt ≤ gk ∧ Aside0 (wr.ranges Try.prog 2 (plainElem Try.prog 3) w.heap.size ri nm D left cnt) ∧ Aside0 (∀ kl, left kl = true → Maps.has D kl = true) ∧ Aside0 (IsMost l0 (fun x => left (.int .i64 x) = false) b) ∧ Aside0 (Below w.heap.size w wr))
      case atStart => exact ⟨_, _, -1, rfl, Nat.le_refl _, ⟨hrg0⟩, ⟨fun _ h => h⟩, ⟨.inl ⟨rfl, fun x hx q => by
        have q2 : Maps.has D (.int .i64 x) = false := q
        have e : LC l0 (.int .i64 x) = some (l0.count x : Int) := if_pos hx
        rw [HHAS.out, e] at q2
        cases q2⟩⟩, HB0⟩
      case round =>
        clear hrg0 HB0
        obtain ⟨left, cnt, b, rfl, hcnt, HRG, HLH, HMB, HB⟩ := hrel
        go_wp2_with (first | (at_next; refine wpList_next_ranges_ii _ rfl _ rfl 2 3 .i64 .i64 LAW.out Try.underlying2 Try.underlying3 w.heap.size ri nm _ _ _ rfl HRG.out ?_ ?_) | fail)
        · intro _ hl0
          have er : b = r := (HMB.out.congr (fun x _ => ⟨fun _ => trivial, fun _ => hl0 _⟩)).uniq HM.out
          subst er
          clear hl0
          go_wp2
          go_ret
          exact ⟨rfl, HB.out⟩
        · intro x c w1 cnt1 hwx hwc hlx hat hrg1 hlt hg1 hs1 hen
          have hmem : x ∈ l0 := by
            have h1 := HLH.out _ hlx
            rw [HHAS.out] at h1
            refine Classical.byContradiction fun hn => ?_
            have e : LC l0 (.int .i64 x) = none := if_neg hn
            rw [e] at h1
            cases h1
          have hc : c = (l0.count x : Int) := by
            have h1 := hat (.lit (.int .i64 0))
            rw [HAT.out, LC_get] at h1
            injection h1 with h1
            injection h1 with _ h1
            exact h1.symm
          subst hc
          have HB1 := Aside0.mk (HB.out.grown hg1 HB.out.size (fun j hj => by cases hj; exact HRI.out))
          have HNEW := Aside0.mk ((HMB.out.step x hmem (HZ.out x hmem).1).congr (T := fun y => (fun z : Lit => left z && !z.sameKey (.int .i64 x)) (.int .i64 y) = false) (fun y _ => by
            show _ ↔ (left (.int .i64 y) && !(Lit.int .i64 y).sameKey (.int .i64 x)) = false
            by_cases e : y = x
            · subst e; simp [Lit.sameKey]
            · rw [Maps.sameKey_ne (fun q => e (by injection q))]; simp [e]))
          have HLN := Aside0.mk (show ∀ kl, (fun z : Lit => left z && !z.sameKey (.int .i64 x)) kl = true → Maps.has D kl = true from fun kl h => HLH.out kl (by simp only [Bool.and_eq_true] at h; exact h.1))
          have HRN := Aside0.mk hrg1
          have HLT := Aside0.mk hlt
          have hnum : NumB w1 Try.prog 2 3 w.heap.size nm (LC l0) (Maps.size D) := ⟨D, hrg1.owns, HHAS.out, HAT.out, rfl⟩
          have hlk : 0 ≤ b → (Instr.lookup 216 (.map (some w.heap.size)) (.int .i64 b) false).run Try.prog w1 = .ok (.int .i64 (l0.count b : Int)) w1 := fun hb0 => by
            have hbl : b ∈ l0 := by
              rcases HMB.out with ⟨e, _⟩ | ⟨_, e, _⟩
              · omega
              · exact e
            have hwb := (HZ.out b hbl).2
            have := hnum.look LAW.out Try.underlying216 Try.underlying3 (ZE.out _) (key := .int .i64 b) (kl := .int .i64 b) (by
              unfold keyOf
              simp only [Try.underlying2]
              simp [mapKey, hwb])
            rw [LC_get] at this
            exact this
          clear hat hwx hwc hlx hrg1 hlt hg1 hs1 hmem hnum
          by_cases hb : b < 0
          · have ems := Aside0.mk (show mostStep l0 b x = x from if_pos hb)
            have hbt := eq_true hb
            clear hb hlk
            go_wp2
            go_roundg cnt1
            case measure => have := HLT.out; omega
            case rel => exact ⟨_, cnt1, x, rfl, Nat.le_refl _, HRN, HLN, ⟨by have q := HNEW.out; rw [ems.out] at q; exact q⟩, HB1⟩
          · have hlook := hlk (by omega)
            have hbt := eq_false hb
            by_cases h1 : l0.count x > l0.count b
            · have ems := Aside0.mk (show mostStep l0 b x = x by unfold mostStep; rw [if_neg hb, if_pos h1])
              have h1t := eq_true (show (l0.count x : Int) > (l0.count b : Int) by omega)
              have h1d : decide ((l0.count x : Int) > (l0.count b : Int)) = true := decide_eq_true (by omega)
              clear hb hlk h1
              go_wp2
              go_roundg cnt1
              case measure => have := HLT.out; omega
              case rel => exact ⟨_, cnt1, x, rfl, Nat.le_refl _, HRN, HLN, ⟨by have q := HNEW.out; rw [ems.out] at q; exact q⟩, HB1⟩
            · have h1t := eq_false (show ¬ (l0.count x : Int) > (l0.count b : Int) by omega)
              have h1d : decide ((l0.count x : Int) > (l0.count b : Int)) = false := decide_eq_false (by omega)
              by_cases h2 : l0.count x = l0.count b
              · have h2t : ((l0.count x : Int) == (l0.count b : Int)) = true := beq_iff_eq.2 (by omega)
                by_cases h3 : x < b
                · have ems := Aside0.mk (show mostStep l0 b x = x by unfold mostStep; rw [if_neg hb, if_neg h1, if_pos ⟨h2, h3⟩])
                  have h3t := eq_true h3
                  clear hb hlk h1 h2 h3
                  go_wp2
                  go_roundg cnt1
                  case measure => have := HLT.out; omega
                  case rel => exact ⟨_, cnt1, x, rfl, Nat.le_refl _, HRN, HLN, ⟨by have q := HNEW.out; rw [ems.out] at q; exact q⟩, HB1⟩
                · have ems := Aside0.mk (show mostStep l0 b x = b by unfold mostStep; rw [if_neg hb, if_neg h1, if_neg (fun q => h3 q.2)])
                  have h3t := eq_false h3
                  clear hb hlk h1 h2 h3
                  go_wp2
                  go_roundg cnt1
                  case measure => have := HLT.out; omega
                  case rel => exact ⟨_, cnt1, b, rfl, Nat.le_refl _, HRN, HLN, ⟨by have q := HNEW.out; rw [ems.out] at q; exact q⟩, HB1⟩
              · have h2t : ((l0.count x : Int) == (l0.count b : Int)) = false := beq_eq_false_iff_ne.2 (by omega)
                have ems := Aside0.mk (show mostStep l0 b x = b by unfold mostStep; rw [if_neg hb, if_neg h1, if_neg (fun q => h2 q.1)])
                clear hb hlk h1 h2
                go_wp2
                go_roundg cnt1
                case measure => have := HLT.out; omega
                case rel => exact ⟨_, cnt1, b, rfl, Nat.le_refl _, HRN, HLN, ⟨by have q := HNEW.out; rw [ems.out] at q; exact q⟩, HB1⟩
end

/-! ### impl_baseFor: function 124 -/
section
open Go.Proofs.Ytbijmhooamjgoaa.Kit
def meetsB (check : List Int) (base m : Int) : Bool := decide (base + m < (check.length : Int)) && decide (rd check (base + m) ≥ 0)
def impl_baseFor.l0 : Nat → List Int → List Int → Int → Option Int
  | 0, _, _, _ => none
  | k + 1, check, marks, base => if base < 1000000000 then (if marks.any (meetsB check base) = true then impl_baseFor.l0 k check marks (base + 1) else some base) else none
def impl_baseFor.f (k : Nat) (l0 l1 : List Int) : Option Int := if l1.length = 0 then some 0 else if (∀ m ∈ l1, 0 ≤ m ∧ m ≤ 1000000) then impl_baseFor.l0 k l0 l1 0 else none
theorem impl_baseFor.mono_l (check marks : List Int) : ∀ k, ∀ b, LeO (impl_baseFor.l0 k check marks b) (impl_baseFor.l0 (k + 1) check marks b)
  | 0 => fun _ r h => by simp [impl_baseFor.l0] at h
  | k + 1 => by
    have ih := impl_baseFor.mono_l check marks k
    intro b
    rw [impl_baseFor.l0, impl_baseFor.l0]
    exact LeO.ite (LeO.ite (ih _) (LeO.refl _)) (LeO.refl _)
theorem impl_baseFor.mono : ∀ a0 a1 k, LeO (impl_baseFor.f k a0 a1) (impl_baseFor.f (k + 1) a0 a1) := by
  intro a0 a1 k
  unfold impl_baseFor.f
  exact LeO.ite (LeO.refl _) (LeO.ite (impl_baseFor.mono_l _ _ k _) (LeO.refl _))
set_option maxHeartbeats 1000000 in
set_option maxRecDepth 100000 in
theorem impl_baseFor_1.pred (W : World) (g5 g2 : Nat) (A : Option Addr) (c : Nat) (l : List Int) (base m : Int) (h5 : W.cell? ⟨g5, 0, none⟩ = some (.int .i64 base)) (h2 : W.cell? ⟨g2, 0, none⟩ = some (.slice A l.length c)) (hl : Kd.C (Kd.int .i64) W A l.length l) (hc : l.length ≤ c) (hb : 0 ≤ base ∧ base ≤ 1000000000) (hm : 0 ≤ m ∧ m ≤ 1000000) :
    Calls Try.prog 177 (#[.int .i64 m] ++ #[.pointer (some ⟨g5, 0, none⟩), .pointer (some ⟨g2, 0, none⟩)]) W fun e w' => e = .returned (.bool (meetsB l base m)) ∧ Drawn0 W w' := by
  have ew : wrap64 (base + m) = base + m := w64 (by omega) (by omega)
  have HC := Aside0.mk hl
  have HCC := Aside0.mk hc
  by_cases h : base + m < (l.length : Int)
  · obtain ⟨ad, e0, hx⟩ := Kd.at_int hl (base + m) (by omega) h
    cases e0
    have t0 := eq_true h
    have t1 := eq_true (show 0 ≤ base + m by omega)
    have HR := Aside0.mk (show meetsB l base m = decide (rd l (base + m) ≥ 0) by unfold meetsB; rw [decide_eq_true h, Bool.true_and])
    rw [HR.out]
    generalize rd l (base + m) = v at *
    clear hl hc hb hm h HR
    go_enter Try.func177, Try.ntmps177
    go_wp2_with fail
    go_quiet (first | (go_at_call 125; (refine (impl_size_int64_125.calls _ _ l (l.length : Int) _ ?s1 HCC.out rfl).mono ?_); (case s1 => repeat (first | exact HC.out | (with_reducible refine Kd.C_drewN ?_ _) | (with_reducible refine Kd.C_drew ?_))); rintro e w' ⟨rfl, ⟨nd, rfl⟩⟩; (first | exact ⟨rfl, _, World.drewN_drewN _ _ _⟩ | exact ⟨rfl, _, Eq.trans (World.drewN_drewN _ _ _) (congrArg (World.drewN _) (Nat.add_assoc _ _ _))⟩)))
    go_wp2
    go_ret
    exact ⟨by first | rfl | (simp; done), by repeat (first | exact Drawn0.refl _ | apply Drawn0.step)⟩
  · have t0 := eq_false h
    have HR := Aside0.mk (show meetsB l base m = false by unfold meetsB; rw [decide_eq_false h, Bool.false_and])
    rw [HR.out]
    clear hl hc hb hm h HR
    go_enter Try.func177, Try.ntmps177
    go_wp2_with fail
    go_quiet (first | (go_at_call 125; (refine (impl_size_int64_125.calls _ _ l (l.length : Int) _ ?s1 HCC.out rfl).mono ?_); (case s1 => repeat (first | exact HC.out | (with_reducible refine Kd.C_drewN ?_ _) | (with_reducible refine Kd.C_drew ?_))); rintro e w' ⟨rfl, ⟨nd, rfl⟩⟩; (first | exact ⟨rfl, _, World.drewN_drewN _ _ _⟩ | exact ⟨rfl, _, Eq.trans (World.drewN_drewN _ _ _) (congrArg (World.drewN _) (Nat.add_assoc _ _ _))⟩)))
    go_wp2
    go_ret
    exact ⟨by first | rfl | (simp; done), by repeat (first | exact Drawn0.refl _ | apply Drawn0.step)⟩
set_option maxHeartbeats 2000000 in
set_option maxRecDepth 100000 in
theorem impl_baseFor.calls (k : Nat) (A0 : Option Addr) (c0 : Nat) (l0 : List Int) (A1 : Option Addr) (c1 : Nat) (l1 : List Int) (r : Int) (w : World) (hr0 : Kd.C (Kd.int .i64) w A0 l0.length l0) (hc0 : l0.length ≤ c0) (hr1 : Kd.C (Kd.int .i64) w A1 l1.length l1) (hc1 : l1.length ≤ c1) (h : impl_baseFor.f k l0 l1 = some r) :
    Calls Try.prog 124 #[.slice A0 l0.length c0, .slice A1 l1.length c1] w fun e w' => e = .returned (.int .i64 r) ∧ Below w.heap.size w w' := by
  have HR0 := Aside0.mk hr0
  have HC0 := Aside0.mk hc0
  have HR1 := Aside0.mk hr1
  have HC1 := Aside0.mk hc1
  clear hr0 hc0 hr1 hc1
  unfold impl_baseFor.f at h
  by_cases hz : l1.length = 0
  · rw [if_pos hz] at h
    have er := Option.some.inj h
    subst er
    have hl : ((l1.length : Int) == 0) = true := beq_iff_eq.2 (by omega)
    clear h hz
    go_enter Try.func124, Try.ntmps124
    go_wp2
    go_ret
    exact ⟨rfl, (Below.refl _ _).alloc (Nat.le_refl _) _⟩
  · rw [if_neg hz] at h
    by_cases hm : ∀ m ∈ l1, 0 ≤ m ∧ m ≤ 1000000
    case neg => rw [if_neg hm] at h; cases h
    rw [if_pos hm] at h
    have hl : ((l1.length : Int) == 0) = false := beq_eq_false_iff_ne.2 (by omega)
    have HM := Aside0.mk hm
    have HH := Aside0.mk h
    clear h hz hm
    go_enter Try.func124, Try.ntmps124
    have hbx : ((w.alloc (.cells #[.slice A0 l0.length c0] 29)).alloc (.cells #[.int .i64 0] 2)).heap[w.heap.size]? = some (.cells #[.slice A0 l0.length c0] 29 (0, 0)) := blk_alloc (heap_alloc_new w (.cells #[.slice A0 l0.length c0] 29)) _
    have hbn : ((w.alloc (.cells #[.slice A0 l0.length c0] 29)).alloc (.cells #[.int .i64 0] 2)).heap[w.heap.size + 1]? = some (.cells #[.int .i64 0] 2 (0, 0)) := by have := heap_alloc_new (w.alloc (.cells #[.slice A0 l0.length c0] 29)) (.cells #[.int .i64 0] 2); simpa using this
    have hB1 := (Below.refl w.heap.size w).alloc (Nat.le_refl _) (.cells #[.slice A0 l0.length c0] 29)
    have HB := Aside0.mk (hB1.alloc hB1.size (.cells #[.int .i64 0] 2))
    have HBX := Aside0.mk hbx
    have HBN := Aside0.mk hbn
    clear hbx hbn hB1
    go_wp2
    go_loopg [5] k (fun gk v5 wr => ∃ (g : Nat) (b : Int), v5 = .pointer (some ⟨g, 0, none⟩) ∧ 0 ≤ b ∧ Aside0 (impl_baseFor.l0 gk l0 l1 b = some r) ∧ Aside0 (w.heap.size ≤ g) ∧ Aside0 (wr.heap[w.heap.size]? = some (.cells #[.slice A0 l0.length c0] 29 (0, 0))) ∧ Aside0 (wr.heap[g]? = some (.cells #[.int .i64 b] 2 (0, 0))) ∧ Aside0 (Below w.heap.size w wr))
    case atStart => exact ⟨w.heap.size + 1, 0, rfl, Int.le_refl _, HH, ⟨by omega⟩, HBX, HBN, HB⟩
    case round =>
      clear HH HBX HBN HB
      obtain ⟨g, b, rfl, b0, HH, HG, HBX, HBN, HB⟩ := hrel
      cases gk with
      | zero => exact absurd HH.out (by simp [impl_baseFor.l0])
      | succ k1 =>
        have H := HH.out
        rw [impl_baseFor.l0] at H
        by_cases hb : b < 1000000000
        case neg => rw [if_neg hb] at H; cases H
        rw [if_pos hb] at H
        have z0 : wr.cell? ⟨g, 0, none⟩ = some (.int .i64 b) := (blk_cell HBN.out 0).trans rfl
        have f0 := blk_frozen HBN.out 0
        have hadd : wrap64 (b + 1) = b + 1 := w64 (by omega) (by omega)
        have BB := Aside0.mk (show 0 ≤ b ∧ b ≤ 1000000000 by omega)
        have HCF := Aside0.mk (fun (q : Bool) (hq : (∃ k : Nat, k < l1.length ∧ meetsB l0 b (l1.getD k 0) = true) ↔ q = true) => cf_ints.pred q l1.length c1 A1 (fun j => .int .i64 (l1.getD j 0)) (fun j => meetsB l0 b (l1.getD j 0)) wr (HR1.out.2.1) (reads_ints (Kd.C_below HR1.out HB.out)) 177 #[.pointer (some ⟨g, 0, none⟩), .pointer (some ⟨w.heap.size, 0, none⟩)] (fun a v => Try.call177 a v) (fun nd j hj => impl_baseFor_1.pred (wr.drewN nd) g w.heap.size A0 c0 l0 b (l1.getD j 0) ((blk_cell HBN.out 0).trans rfl) ((blk_cell HBX.out 0).trans rfl) (Kd.C_drewN (Kd.C_below HR0.out HB.out) nd) HC0.out BB.out (by
          rw [List.getD_eq_getElem?_getD, List.getElem?_eq_getElem hj]
          exact HM.out _ (List.getElem_mem hj))) hq)
        have hany : (∃ k : Nat, k < l1.length ∧ meetsB l0 b (l1.getD k 0) = true) ↔ l1.any (meetsB l0 b) = true := by
          rw [List.any_eq_true]
          constructor
          · rintro ⟨k, hk, h⟩
            rw [List.getD_eq_getElem?_getD, List.getElem?_eq_getElem hk] at h
            exact ⟨_, List.getElem_mem hk, h⟩
          · rintro ⟨x, hx, h⟩
            obtain ⟨k, hk, rfl⟩ := List.mem_iff_getElem.1 hx
            exact ⟨k, hk, by rw [List.getD_eq_getElem?_getD, List.getElem?_eq_getElem hk]; exact h⟩
        have HAN := Aside0.mk hany
        clear hb hany HH
        cases hq : l1.any (meetsB l0 b) with
        | true =>
          rw [hq, if_pos rfl] at H
          have HN := Aside0.mk H
          have HQ := Aside0.mk hq
          clear H hq
          go_wp2_with fail
          refine (HCF.out true (by rw [HAN.out, HQ.out])).mono ?_
          rintro e w' ⟨rfl, ⟨nd, rfl⟩⟩
          clear z0 f0 HCF
          replace HBX := Aside0.mk (blk_drewN HBX.out nd)
          replace HBN := Aside0.mk (blk_drewN HBN.out nd)
          replace HB := Aside0.mk (pw_below_drewN HB.out nd)
          generalize wr.drewN nd = W at HBX HBN HB ⊢
          have z1 : W.cell? ⟨g, 0, none⟩ = some (.int .i64 b) := (blk_cell HBN.out 0).trans rfl
          go_upto_region 4 with fail
          obtain ⟨gp, egp⟩ : ∃ q, q = W.heap.size := ⟨_, rfl⟩
          have GP := Aside0.mk (show w.heap.size ≤ gp by rw [egp]; exact HB.out.size)
          have hnew := heap_alloc_new W (.cells #[.int .i64 b] 2)
          replace HBX := Aside0.mk (blk_alloc HBX.out (.cells #[.int .i64 b] 2))
          replace HB := Aside0.mk (HB.out.alloc HB.out.size (.cells #[.int .i64 b] 2))
          clear HBN z1
          generalize W.alloc (.cells #[.int .i64 b] 2) = W2 at HBX HB hnew ⊢
          rw [← egp] at hnew ⊢
          replace hnew : W2.heap[gp]? = some (.cells #[.int .i64 b] 2 (0, 0)) := hnew
          have NE := Aside0.mk (show some w.heap.size ≠ some gp from fun q => blk_ne HBX.out hnew (by decide) (Option.some.inj q))
          have z2 : W2.cell? ⟨gp, 0, none⟩ = some (.int .i64 b) := (blk_cell hnew 0).trans rfl
          have f2 := blk_frozen hnew 0
          have HPUT := Aside0.mk (blk_put hnew 0 (.int .i64 (b + 1)) rfl)
          have HNEW := Aside0.mk hnew
          clear hnew egp
          go_wp2
          go_roundg k1
          case measure => omega
          case rel => exact ⟨gp, b + 1, rfl, by omega, HN, GP, ⟨(Below.heap_setCell W2 ⟨gp, 0, none⟩ _ w.heap.size (fun q => NE.out (congrArg some q))).trans HBX.out⟩, HPUT, ⟨HB.out.setCell GP.out _⟩⟩
        | false =>
          rw [hq, if_neg (by simp)] at H
          have er := Option.some.inj H
          subst er
          have HQ := Aside0.mk hq
          clear H hq
          go_wp2_with fail
          refine (HCF.out false (by rw [HAN.out, HQ.out])).mono ?_
          rintro e w' ⟨rfl, ⟨nd, rfl⟩⟩
          go_wp2
          go_ret
          exact ⟨rfl, pw_below_drewN HB.out nd⟩
end

end Go.Proofs.Ytbijmhooamjgoaa.PFnExactPack
