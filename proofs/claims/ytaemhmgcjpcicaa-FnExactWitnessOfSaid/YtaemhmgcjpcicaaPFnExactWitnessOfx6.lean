-- Written by this session's own program (wip/pr.py) over the kit's printer; contracts that the printer does not know are given by hand.
import Derived.Test.YtaemhmgcjpcicaaPFnExactWitnessOfx0
import Derived.Test.YtaemhmgcjpcicaaPFnExactWitnessOfx5
namespace Go.Proofs.Ytaemhmgcjpcicaa.PFnExactWitnessOf
open Go.RowKit Go.Proofs.YtaemhmgcjpcicaaW.PrintWords Go.Proofs.YtaemhmgcjpcicaaW.PrintLast Go.Proofs.YtaemhmgcjpcicaaW.PrintMore
attribute [local go_sem] max2_int min2_int max_two min_two max_three min_three max_four min_four   -- for this text's walks alone
set_option linter.unusedVariables false
set_option linter.unusedSimpArgs false

/-! ### impl_find: function 128 -/
section
open Go.Proofs.Ytaemhmgcjpcicaa.Kit Go.Maps
def seenIn (c : Nat) (l : List S232) (x y : Int) : Bool := (l.drop c).any (fun p => p.f0 == x && p.f1 == y)
def impl_find.l0 (P : Int → Int → Option Bool) (c : Nat) (d0 : List Int) (d1 : List (List Int)) (d2 : List Int) (e0 : List Int) (e1 : List (List Int)) (e2 : List Int) (bs : List Int) : Nat → List S232 → Nat → Nat → Option (ByteArray × Bool)
  | 0, _, _, _ => none
  | k + 1, L, i, j =>
    if i < L.length then
      (if j < bs.length then
        (impl_Dfa_step.f d0 d1 d2 (rd_T232 L (i : Int)).f0 (rd bs (j : Int))).bind fun x => (impl_Dfa_step.f e0 e1 e2 (rd_T232 L (i : Int)).f1 (rd bs (j : Int))).bind fun y =>
          if (Lit.int .i64 x).wf = true ∧ (Lit.int .i64 y).wf = true ∧ L.length < 100000000 then
            (if seenIn c L x y = true then impl_find.l0 P c d0 d1 d2 e0 e1 e2 bs k L i (j + 1)
            else (P x y).bind fun b => if b = true then (impl_textTo.f k (L ++ [⟨x, y, (i : Int), rd bs (j : Int)⟩]) (L.length : Int)).bind fun t => some (t, true) else impl_find.l0 P c d0 d1 d2 e0 e1 e2 bs k (L ++ [⟨x, y, (i : Int), rd bs (j : Int)⟩]) i (j + 1))
          else none
      else impl_find.l0 P c d0 d1 d2 e0 e1 e2 bs k L (i + 1) 0)
    else some (ByteArray.empty, false)
def impl_find.g (k : Nat) (P : Int → Int → Option Bool) (c : Nat) (d0 : List Int) (d1 : List (List Int)) (d2 : List Int) (e0 : List Int) (e1 : List (List Int)) (e2 : List Int) : Option (ByteArray × Bool) :=
  (impl_pairBytes.f d0 e0).bind fun bs => impl_find.l0 P c d0 d1 d2 e0 e1 e2 bs k [⟨0, 0, 0, 0⟩] 0 0
def impl_find.f (k : Nat) (P : Int → Int → Option Bool) (first : Int) (d0 : List Int) (d1 : List (List Int)) (d2 : List Int) (e0 : List Int) (e1 : List (List Int)) (e2 : List Int) : Option (ByteArray × Bool) :=
  if first = 0 then ((P 0 0).bind fun b => if b = true then some (ByteArray.empty, true) else impl_find.g k P 0 d0 d1 d2 e0 e1 e2) else if first = 1 then impl_find.g k P 1 d0 d1 d2 e0 e1 e2 else none
/-- the pairs that count as seen -/
def prs (c : Nat) (L : List S232) : List (Int × Int) := (L.drop c).map (fun p => (p.f0, p.f1))
theorem prs_snoc (c : Nat) (L : List S232) (e : S232) (h : c ≤ L.length) : prs c (L ++ [e]) = prs c L ++ [(e.f0, e.f1)] := by
  unfold prs
  rw [List.drop_append_of_le_length h, List.map_append]
  rfl
theorem seen_prs (c : Nat) (L : List S232) (x y : Int) : seenIn c L x y = decide ((x, y) ∈ prs c L) := by
  unfold seenIn prs
  rw [Bool.eq_iff_iff, decide_eq_true_iff, List.any_eq_true, List.mem_map]
  constructor
  · rintro ⟨p, hp, h⟩
    simp only [Bool.and_eq_true, beq_iff_eq] at h
    exact ⟨p, hp, by rw [h.1, h.2]⟩
  · rintro ⟨p, hp, h⟩
    injection h with h1 h2
    exact ⟨p, hp, by simp [h1, h2]⟩
theorem SetB.ne_blk {w : World} {P : Program} {k e : TypeId} {b n : Nat} {L : Lit → Bool} {g t : Nat} {cells : Array Value} (h : SetB w P k e b n L) (hg : w.heap[g]? = some (.cells cells t (0, 0))) : some g ≠ some b := by
  intro hv
  injection hv with hv
  subst hv
  obtain ⟨D, ⟨es, clock, hb, _⟩, _⟩ := h
  rw [hb] at hg
  cases hg
theorem Kd.row_cells {w : World} {α : Type} {d : Kd α} {t base : Nat} {ok : Nat → Prop} {v : Value} {xs : List α} (hr : d.R t w base ok v xs) (hE : d.E = []) {b : Nat} (hv : v.ownBlock = some b) : b < w.heap.size ∧ ∃ cells, w.heap[b]? = some (.cells cells t (0, 0)) := by
  obtain ⟨_, _, h1, q, hq, cells, hc⟩ := (Kd.R_bound hr).1 b hv
  rw [hE, List.mem_singleton] at hq
  subst hq
  exact ⟨h1, cells, hc⟩
theorem walk_zero (W : World) (base : Nat) : Reps (k232.M W base (fun _ => True)) k232.sz [(⟨0, 0, 0, 0⟩ : S232)] [.int .i64 0, .int .i64 0, .int .i64 0, .int .u8 0] := by
  exact Reps.c4 (show Kd.M k232 _ _ _ (⟨0, 0, 0, 0⟩ : S232) [.int .i64 0, .int .i64 0, .int .i64 0, .int .u8 0] from k232_mkM _ _ _ (⟨0, 0, 0, 0⟩ : S232)) (Reps.none _ _)
open Classical in
theorem find_map0 : (fun z => if z = pairKey 0 0 then true else (fun _ => false) z) = pairs [(0, 0)] := by
  have := pairs_snoc [] 0 0
  rw [pairs_nil, List.nil_append] at this
  exact this.symm
open Classical in
theorem find_map1 : (fun z => if z = pairKey 0 0 then false else (fun _ => false) z) = pairs [] := by
  rw [pairs_nil]
  funext z
  split <;> rfl
theorem find_cases {k : Nat} {P : Int → Int → Option Bool} {first : Int} {d0 : List Int} {d1 : List (List Int)} {d2 : List Int} {e0 : List Int} {e1 : List (List Int)} {e2 : List Int} {r : ByteArray × Bool} (h : impl_find.f k P first d0 d1 d2 e0 e1 e2 = some r) :
    (first = 0 ∧ P 0 0 = some true ∧ r = (ByteArray.empty, true)) ∨ (first = 0 ∧ P 0 0 = some false ∧ impl_find.g k P 0 d0 d1 d2 e0 e1 e2 = some r) ∨ (first = 1 ∧ impl_find.g k P 1 d0 d1 d2 e0 e1 e2 = some r) := by
  unfold impl_find.f at h
  by_cases c : first = 0
  · rw [if_pos c] at h
    obtain ⟨b, hb, h⟩ := Option.bind_eq_some_iff.1 h
    cases b
    · exact .inr (.inl ⟨c, hb, by simpa using h⟩)
    · exact .inl ⟨c, hb, by simpa using h.symm⟩
  · rw [if_neg c] at h
    by_cases c1 : first = 1
    · rw [if_pos c1] at h
      exact .inr (.inr ⟨c1, h⟩)
    · rw [if_neg c1] at h
      cases h
set_option maxHeartbeats 16000000 in
set_option maxRecDepth 100000 in
theorem impl_find.calls (k : Nat) (P : Int → Int → Option Bool) (first : Int) (A0_0 : Option Addr) (c0_0 : Nat) (l0_0 : List Int) (A0_1 : Option Addr) (c0_1 : Nat) (l0_1 : List (List Int)) (A0_2 : Option Addr) (c0_2 : Nat) (l0_2 : List Int) (A1_0 : Option Addr) (c1_0 : Nat) (l1_0 : List Int) (A1_1 : Option Addr) (c1_1 : Nat) (l1_1 : List (List Int)) (A1_2 : Option Addr) (c1_2 : Nat) (l1_2 : List Int) (r : ByteArray × Bool) (w : World)
    (hr0_0 : Kd.C (Kd.int .i64) w A0_0 l0_0.length l0_0) (hc0_0 : l0_0.length ≤ c0_0) (hr0_1 : Kd.C (Kd.slice 2 (Kd.int .i64)) w A0_1 l0_1.length l0_1) (hc0_1 : l0_1.length ≤ c0_1) (hr0_2 : Kd.C (Kd.int .i64) w A0_2 l0_2.length l0_2) (hc0_2 : l0_2.length ≤ c0_2)
    (hr1_0 : Kd.C (Kd.int .i64) w A1_0 l1_0.length l1_0) (hc1_0 : l1_0.length ≤ c1_0) (hr1_1 : Kd.C (Kd.slice 2 (Kd.int .i64)) w A1_1 l1_1.length l1_1) (hc1_1 : l1_1.length ≤ c1_1) (hr1_2 : Kd.C (Kd.int .i64) w A1_2 l1_2.length l1_2) (hc1_2 : l1_2.length ≤ c1_2)
    (g : Nat) (lb : Array Value) (eg : ∀ args w, (callFunc g args).run Try.prog w = .ok (.enter g args) w)
    (hp : ∀ (W : World) (x y : Int) (b : Bool), Below w.heap.size w W → P x y = some b → Calls Try.prog g (#[.int .i64 x, .int .i64 y] ++ lb) W fun e w' => e = .returned (.bool b) ∧ Drawn0 W w')
    (h : impl_find.f k P first l0_0 l0_1 l0_2 l1_0 l1_1 l1_2 = some r) :
    Calls Try.prog 128 #[.agg #[.slice A0_0 l0_0.length c0_0, .slice A0_1 l0_1.length c0_1, .slice A0_2 l0_2.length c0_2], .agg #[.slice A1_0 l1_0.length c1_0, .slice A1_1 l1_1.length c1_1, .slice A1_2 l1_2.length c1_2], .int .i64 first, .func (.func g) #[] lb] w fun e w' => e = .returned (.tuple #[.string r.1, .bool r.2]) ∧ Below w.heap.size w w' := by
  have HRA := Aside0.mk (And.intro hr0_0 (And.intro hr0_1 (And.intro hr0_2 (And.intro hr1_0 (And.intro hr1_1 hr1_2)))))
  have HCA := Aside0.mk (And.intro hc0_0 (And.intro hc0_1 (And.intro hc0_2 (And.intro hc1_0 (And.intro hc1_1 hc1_2)))))
  have HP := Aside0.mk hp
  have HF := Aside0.mk h
  clear hr0_0 hc0_0 hr0_1 hc0_1 hr0_2 hc0_2 hr1_0 hc1_0 hr1_1 hc1_1 hr1_2 hc1_2 hp h
  have hu := Try.underlying84
  have HEG := Aside0.mk eg
  clear eg
  obtain ⟨W, hWe⟩ : ∃ W, W = ((w.alloc (.cells #[.slice A0_0 l0_0.length c0_0, .slice A0_1 l0_1.length c0_1, .slice A0_2 l0_2.length c0_2] 84)).alloc (.cells #[.slice A1_0 l1_0.length c1_0, .slice A1_1 l1_1.length c1_1, .slice A1_2 l1_2.length c1_2] 84)) := ⟨_, rfl⟩
  have hB1 := (Below.refl w.heap.size w).alloc (Nat.le_refl _) (.cells #[.slice A0_0 l0_0.length c0_0, .slice A0_1 l0_1.length c0_1, .slice A0_2 l0_2.length c0_2] 84)
  have hBW : Below w.heap.size w W := by rw [hWe]; exact hB1.alloc hB1.size _
  have hk1 := (heap_alloc_new w (.cells #[.slice A0_0 l0_0.length c0_0, .slice A0_1 l0_1.length c0_1, .slice A0_2 l0_2.length c0_2] 84))
  have hk4 : W.heap[w.heap.size]? = some (.cells #[.slice A0_0 l0_0.length c0_0, .slice A0_1 l0_1.length c0_1, .slice A0_2 l0_2.length c0_2] 84 (0, 0)) := by rw [hWe]; exact blk_alloc hk1 _
  have hk5 : W.heap[w.heap.size + 1]? = some (.cells #[.slice A1_0 l1_0.length c1_0, .slice A1_1 l1_1.length c1_1, .slice A1_2 l1_2.length c1_2] 84 (0, 0)) := by rw [hWe]; have := heap_alloc_new (w.alloc (.cells #[.slice A0_0 l0_0.length c0_0, .slice A0_1 l0_1.length c0_1, .slice A0_2 l0_2.length c0_2] 84)) (.cells #[.slice A1_0 l1_0.length c1_0, .slice A1_1 l1_1.length c1_1, .slice A1_2 l1_2.length c1_2] 84); simpa using this
  have HWE := Aside0.mk hWe
  have HBW := Aside0.mk hBW
  have HK4 := Aside0.mk hk4
  have HK5 := Aside0.mk hk5
  clear hB1 hBW hk1 hk4 hk5 hWe
  rcases find_cases HF.out with ⟨rfl, hP, rfl⟩ | ⟨rfl, hP, hG⟩ | ⟨rfl, hG⟩
  · have HPB := Aside0.mk hP
    clear hP HF
    have heg := HEG.out
    go_enter Try.func128, Try.ntmps128
    go_wp2_with fail
    rw [← HWE.out]
    refine (HP.out W 0 0 true HBW.out HPB.out).mono ?_
    rintro e w' ⟨rfl, ⟨nd, rfl⟩⟩
    go_wp2
    go_ret2
    exact ⟨rfl, pw_below_drewN HBW.out nd⟩
  · have HPB := Aside0.mk hP
    clear hP
    have heg := HEG.out
    go_enter Try.func128, Try.ntmps128
    go_wp2_with fail
    rw [← HWE.out]
    refine (HP.out W 0 0 false HBW.out HPB.out).mono ?_
    rintro e w' ⟨rfl, ⟨nd, rfl⟩⟩
    have HBX := Aside0.mk (pw_below_drewN HBW.out nd)
    have HK4X := Aside0.mk (blk_drewN HK4.out nd)
    have HK5X := Aside0.mk (blk_drewN HK5.out nd)
    generalize W.drewN nd = X at HBX HK4X HK5X ⊢
    have z4 : X.cell? ⟨w.heap.size, 0, none⟩ = some (.slice A0_0 l0_0.length c0_0) := (blk_cell HK4X.out 0).trans rfl
    have z5 : X.cell? ⟨w.heap.size + 1, 0, none⟩ = some (.slice A1_0 l1_0.length c1_0) := (blk_cell HK5X.out 0).trans rfl
    go_wp2_with fail
    unfold impl_find.g at hG
    obtain ⟨bs, hbs, H⟩ := Option.bind_eq_some_iff.1 hG
    have H' := Aside0.mk H
    clear hG H HWE HBW HK4 HK5 HF
    refine (impl_pairBytes.calls _ _ l0_0 _ _ l1_0 bs X (Kd.C_below HRA.out.1 HBX.out) HCA.out.1 (Kd.C_below HRA.out.2.2.2.1 HBX.out) HCA.out.2.2.2.1 hbs).mono ?_
    rintro e w1 ⟨vb, rfl, hRb, hB1⟩
    have HB := Aside0.mk (below_step HBX.out hB1)
    have BK4 := Aside0.mk (blk_below HK4X.out hB1)
    have BK5 := Aside0.mk (blk_below HK5X.out hB1)
    have HOB := Aside0.mk (Kd.R_lower hRb (below_size HBX.out))
    clear hbs hRb hB1 HK4X HK5X HBX
    have hmm := @run_makeMap Try.prog
    go_wp2_with fail
    refine start_ (n := 10) (S := fun _ => True) (ds := []) #[false, false, false, false, false, false, false, false, false, false] (by kernel_rfl) rfl rfl trivial (fun hHeld => ?_)
    refine take_ (i := 0) (N := some 28) (v := ?_) (a' := ?_) #[true, false, false, false, false, false, false, false, false, false] rfl rfl (by kernel_rfl) (fun _ _ _ h => h) (Or.inl ⟨by rfl, ?_⟩) hHeld ?_ ?_
    rotate_left
    · rintro w' _
      go_simp
      with_reducible rfl
    rotate_left
    · simp only [Act.put, List.setIfInBounds_toArray, List.set_cons_zero, List.set_cons_succ, i64_w, i32_w]
      rfl
    refine take_ (i := 3) (N := some 31) (v := ?_) (a' := ?_) #[true, false, false, true, false, false, false, false, false, false] rfl rfl (by kernel_rfl) (fun _ _ _ h => h) (Or.inl ⟨by rfl, ?_⟩) hHeld ?_ ?_
    rotate_left
    · rintro w' _
      go_simp
      with_reducible rfl
    rotate_left
    · simp only [Act.put, List.setIfInBounds_toArray, List.set_cons_zero, List.set_cons_succ, i64_w, i32_w]
      rfl
    refine take_ (i := 4) (N := some 32) (v := ?_) (a' := ?_) #[true, false, false, true, true, false, false, false, false, false] rfl rfl (by kernel_rfl) (fun _ _ _ h => h) (Or.inl ⟨by rfl, ?_⟩) hHeld ?_ ?_
    rotate_left
    · rintro w' _
      go_simp
      with_reducible rfl
    rotate_left
    · simp only [Act.put, List.setIfInBounds_toArray, List.set_cons_zero, List.set_cons_succ, i64_w, i32_w]
      rfl
    refine take_ (i := 5) (N := some 33) (v := ?_) (a' := ?_) #[true, false, false, true, true, true, false, false, false, false] rfl rfl (by kernel_rfl) (fun _ _ _ h => h) (Or.inl ⟨by rfl, ?_⟩) hHeld ?_ ?_
    rotate_left
    · rintro w' _
      go_simp
      with_reducible rfl
    rotate_left
    · simp only [Act.put, List.setIfInBounds_toArray, List.set_cons_zero, List.set_cons_succ, i64_w, i32_w]
      rfl
    have hb := below_drew1 (Below.refl w1.heap.size w1)
    generalize w1.drew = ws at hb ⊢
    replace HB := Aside0.mk (below_step HB.out hb)
    replace BK4 := Aside0.mk (blk_below BK4.out hb)
    replace BK5 := Aside0.mk (blk_below BK5.out hb)
    replace HOB := Aside0.mk (Kd.R_below HOB.out hb)
    clear hb
    refine join_ (σ := Value × Nat) 1 #[true, true, true, true, true, true, true, true, true, false] (fun s_ => [(29, s_.1), (30, .map (some s_.2)), (34, .map (some s_.2)), (11, s_.1)]) (fun s_ w' => Kd.R k232 232 w' w.heap.size (fun _ => True) s_.1 [⟨0, 0, 0, 0⟩] ∧ SetB w' Try.prog 234 4 s_.2 1 (pairs [(0, 0)]) ∧ Below w.heap.size w w' ∧ (w'.heap[w.heap.size]? = some (.cells #[.slice A0_0 l0_0.length c0_0, .slice A0_1 l0_1.length c0_1, .slice A0_2 l0_2.length c0_2] 84 (0, 0)) ∧ w'.heap[w.heap.size + 1]? = some (.cells #[.slice A1_0 l1_0.length c1_0, .slice A1_1 l1_1.length c1_1, .slice A1_2 l1_2.length c1_2] 84 (0, 0))) ∧ Kd.R (Kd.int .u8) 5 w' w.heap.size (fun _ => True) vb bs ∧ w.heap.size ≤ s_.2) ?_ ?_
    rotate_left
    · intro hJ
      refine two_ (i := 1) (j := 2) (Ni := some 29) (Nj := some 30) #[true, true, false, true, true, true, false, false, false, false] #[true, false, true, true, true, true, false, false, false, false] rfl rfl rfl rfl (by kernel_rfl) (by decide) (by decide) (fun K hK => ?_) (fun K hK => ?_)
      · refine Kd.R_lit_step k232 (w0 := ws) ws.heap.size 232 (by rfl) (N := 29) rfl (xs := [⟨0, 0, 0, 0⟩]) (inner := [.int .i64 0, .int .i64 0, .int .i64 0, .int .u8 0]) (ok := fun _ => True) (okp := fun _ => True) ?hr ?hp (fun _ hk => hk) trivial (Below.refl _ _) (Nat.le_refl _) (by simp) ?_
        case hr => first | (go_simp; done) | (go_simp; rfl)
        case hp => exact walk_zero _ _
        intro v29 we1 ho hb hg_ hn_
        have HO := Aside0.mk (Kd.R_lower ho (below_size HB.out))
        replace HB := Aside0.mk (below_step HB.out hb)
        replace BK4 := Aside0.mk (blk_below BK4.out hb)
        replace BK5 := Aside0.mk (blk_below BK5.out hb)
        replace HOB := Aside0.mk (Kd.R_below HOB.out hb)
        clear ho hb hg_ hn_
        refine hK.out _ _ trivial (fun hHeld => ?_)
        clear hK K
        refine norm_ (a' := ?_) ?_ ?_
        rotate_left
        · show Act.put _ (some 29) _ = _
          simp only [Act.put, List.setIfInBounds_toArray, List.set_cons_zero, List.set_cons_succ, i64_w, i32_w]
          rfl
        refine pure_ (i := 8) (N := some 11) (v := ?_) (a' := ?_) #[true, true, false, true, true, true, false, false, true, false] rfl rfl (by kernel_rfl) (fun _ _ _ h => h) (Or.inl ⟨by rfl, ?_⟩) ?_ ?_
        rotate_left
        · intro w'
          go_simp
          with_reducible rfl
        rotate_left
        · simp only [Act.put, List.setIfInBounds_toArray, List.set_cons_zero, List.set_cons_succ, i64_w, i32_w]
          rfl
        refine one_ (i := 2) (N := some 30) #[true, true, true, true, true, true, false, false, true, false] rfl rfl (by kernel_rfl) (by decide) (fun K hK => ?_)
        obtain ⟨bm, ebm⟩ : ∃ q_, q_ = we1.heap.size := ⟨_, rfl⟩
        have GM := Aside0.mk (show w.heap.size ≤ bm by rw [ebm]; exact below_size HB.out)
        refine event_step (v := .map (some bm)) (w1 := we1.alloc (.map #[] 0)) (by rfl) (by rw [ebm]; first | (go_simp; done) | (go_simp; rfl)) ?_
        have hb : Below we1.heap.size we1 (we1.alloc (.map #[] 0)) := below_alloc (Below.refl _ _) _
        have hs_ := SetB.made we1 Try.prog 234 4
        generalize we1.alloc (.map #[] 0) = we2 at hb hs_ ⊢
        rw [← ebm] at hs_
        clear ebm
        have HS := Aside0.mk hs_
        clear hs_
        replace HO := Aside0.mk (Kd.R_below HO.out hb)
        replace HB := Aside0.mk (below_step HB.out hb)
        replace BK4 := Aside0.mk (blk_below BK4.out hb)
        replace BK5 := Aside0.mk (blk_below BK5.out hb)
        replace HOB := Aside0.mk (Kd.R_below HOB.out hb)
        clear hb
        refine hK.out _ _ trivial (fun hHeld => ?_)
        clear hK K
        refine norm_ (a' := ?_) ?_ ?_
        rotate_left
        · show Act.put _ (some 30) _ = _
          simp only [Act.put, List.setIfInBounds_toArray, List.set_cons_zero, List.set_cons_succ, i64_w, i32_w]
          rfl
        refine one_ (i := 6) (N := none) #[true, true, true, true, true, true, true, false, true, false] rfl rfl (by kernel_rfl) (by decide) (fun K hK => ?_)
        obtain ⟨we3, hst, hs_, hg_⟩ := HS.out.store pairKeyed.law Try.underlying235 Try.underlying4 (by decide) (pairKeyed.key (a := 0) (b := 0) (by decide) (by decide)) true
        refine skip_ (w1 := we3) (by rfl) rfl ?_ ?_
        · first | (go_simp; done) | (go_simp; rfl)
        replace HB := Aside0.mk (HB.out.grown hg_ HB.out.size (fun j hj => by cases hj; exact GM.out))
        replace BK4 := Aside0.mk (blk_grown BK4.out hg_ (SetB.ne_blk HS.out BK4.out))
        replace BK5 := Aside0.mk (blk_grown BK5.out hg_ (SetB.ne_blk HS.out BK5.out))
        replace HOB := Aside0.mk (Kd.R_grown1 HOB.out rfl hg_ (fun e_ => SetB.ne_row HS.out HOB.out e_.symm))
        replace HO := Aside0.mk (Kd.R_grown1 HO.out rfl hg_ (fun e_ => SetB.ne_row HS.out HO.out e_.symm))
        rw [find_map0] at hs_
        replace HS := Aside0.mk hs_
        clear hs_ hg_ hst
        refine hK.out _ _ trivial (fun hHeld => ?_)
        clear hK K
        refine pure_ (i := 7) (N := some 34) (v := ?_) (a' := ?_) #[true, true, true, true, true, true, true, true, true, false] rfl rfl (by kernel_rfl) (fun _ _ _ h => h) (Or.inl ⟨by rfl, ?_⟩) ?_ ?_
        rotate_left
        · intro w'
          go_simp
          with_reducible rfl
        rotate_left
        · simp only [Act.put, List.setIfInBounds_toArray, List.set_cons_zero, List.set_cons_succ, i64_w, i32_w]
          rfl
        exact norm_ (by first | rfl | (simp only [putAll, Act.put, List.setIfInBounds_toArray, List.set_cons_zero, List.set_cons_succ]; done)) (hJ (v29, bm) _ ⟨HO.out, HS.out, HB.out, ⟨BK4.out, BK5.out⟩, HOB.out, GM.out⟩)
      · obtain ⟨bm, ebm⟩ : ∃ q_, q_ = ws.heap.size := ⟨_, rfl⟩
        have GM := Aside0.mk (show w.heap.size ≤ bm by rw [ebm]; exact below_size HB.out)
        refine event_step (v := .map (some bm)) (w1 := ws.alloc (.map #[] 0)) (by rfl) (by rw [ebm]; first | (go_simp; done) | (go_simp; rfl)) ?_
        have hb : Below ws.heap.size ws (ws.alloc (.map #[] 0)) := below_alloc (Below.refl _ _) _
        have hs_ := SetB.made ws Try.prog 234 4
        generalize ws.alloc (.map #[] 0) = we4 at hb hs_ ⊢
        rw [← ebm] at hs_
        clear ebm
        have HS := Aside0.mk hs_
        clear hs_
        replace HB := Aside0.mk (below_step HB.out hb)
        replace BK4 := Aside0.mk (blk_below BK4.out hb)
        replace BK5 := Aside0.mk (blk_below BK5.out hb)
        replace HOB := Aside0.mk (Kd.R_below HOB.out hb)
        clear hb
        refine hK.out _ _ trivial (fun hHeld => ?_)
        clear hK K
        refine norm_ (a' := ?_) ?_ ?_
        rotate_left
        · show Act.put _ (some 30) _ = _
          simp only [Act.put, List.setIfInBounds_toArray, List.set_cons_zero, List.set_cons_succ, i64_w, i32_w]
          rfl
        refine two_ (i := 1) (j := 6) (Ni := some 29) (Nj := none) #[true, true, true, true, true, true, false, false, false, false] #[true, false, true, true, true, true, true, false, false, false] rfl rfl rfl rfl (by kernel_rfl) (by decide) (by decide) (fun K hK => ?_) (fun K hK => ?_)
        · refine Kd.R_lit_step k232 (w0 := we4) we4.heap.size 232 (by rfl) (N := 29) rfl (xs := [⟨0, 0, 0, 0⟩]) (inner := [.int .i64 0, .int .i64 0, .int .i64 0, .int .u8 0]) (ok := fun _ => True) (okp := fun _ => True) ?hr ?hp (fun _ hk => hk) trivial (Below.refl _ _) (Nat.le_refl _) (by simp) ?_
          case hr => first | (go_simp; done) | (go_simp; rfl)
          case hp => exact walk_zero _ _
          intro v29 we5 ho hb hg_ hn_
          have HO := Aside0.mk (Kd.R_lower ho (below_size HB.out))
          replace HB := Aside0.mk (below_step HB.out hb)
          replace BK4 := Aside0.mk (blk_below BK4.out hb)
          replace BK5 := Aside0.mk (blk_below BK5.out hb)
          replace HOB := Aside0.mk (Kd.R_below HOB.out hb)
          replace HS := Aside0.mk (HS.out.below hb)
          clear ho hb hg_ hn_
          refine hK.out _ _ trivial (fun hHeld => ?_)
          clear hK K
          refine norm_ (a' := ?_) ?_ ?_
          rotate_left
          · show Act.put _ (some 29) _ = _
            simp only [Act.put, List.setIfInBounds_toArray, List.set_cons_zero, List.set_cons_succ, i64_w, i32_w]
            rfl
          refine pure_ (i := 8) (N := some 11) (v := ?_) (a' := ?_) #[true, true, true, true, true, true, false, false, true, false] rfl rfl (by kernel_rfl) (fun _ _ _ h => h) (Or.inl ⟨by rfl, ?_⟩) ?_ ?_
          rotate_left
          · intro w'
            go_simp
            with_reducible rfl
          rotate_left
          · simp only [Act.put, List.setIfInBounds_toArray, List.set_cons_zero, List.set_cons_succ, i64_w, i32_w]
            rfl
          refine one_ (i := 6) (N := none) #[true, true, true, true, true, true, true, false, true, false] rfl rfl (by kernel_rfl) (by decide) (fun K hK => ?_)
          obtain ⟨we6, hst, hs_, hg_⟩ := HS.out.store pairKeyed.law Try.underlying235 Try.underlying4 (by decide) (pairKeyed.key (a := 0) (b := 0) (by decide) (by decide)) true
          refine skip_ (w1 := we6) (by rfl) rfl ?_ ?_
          · first | (go_simp; done) | (go_simp; rfl)
          replace HB := Aside0.mk (HB.out.grown hg_ HB.out.size (fun j hj => by cases hj; exact GM.out))
          replace BK4 := Aside0.mk (blk_grown BK4.out hg_ (SetB.ne_blk HS.out BK4.out))
          replace BK5 := Aside0.mk (blk_grown BK5.out hg_ (SetB.ne_blk HS.out BK5.out))
          replace HOB := Aside0.mk (Kd.R_grown1 HOB.out rfl hg_ (fun e_ => SetB.ne_row HS.out HOB.out e_.symm))
          replace HO := Aside0.mk (Kd.R_grown1 HO.out rfl hg_ (fun e_ => SetB.ne_row HS.out HO.out e_.symm))
          rw [find_map0] at hs_
          replace HS := Aside0.mk hs_
          clear hs_ hg_ hst
          refine hK.out _ _ trivial (fun hHeld => ?_)
          clear hK K
          refine pure_ (i := 7) (N := some 34) (v := ?_) (a' := ?_) #[true, true, true, true, true, true, true, true, true, false] rfl rfl (by kernel_rfl) (fun _ _ _ h => h) (Or.inl ⟨by rfl, ?_⟩) ?_ ?_
          rotate_left
          · intro w'
            go_simp
            with_reducible rfl
          rotate_left
          · simp only [Act.put, List.setIfInBounds_toArray, List.set_cons_zero, List.set_cons_succ, i64_w, i32_w]
            rfl
          exact norm_ (by first | rfl | (simp only [putAll, Act.put, List.setIfInBounds_toArray, List.set_cons_zero, List.set_cons_succ]; done)) (hJ (v29, bm) _ ⟨HO.out, HS.out, HB.out, ⟨BK4.out, BK5.out⟩, HOB.out, GM.out⟩)
        · obtain ⟨we7, hst, hs_, hg_⟩ := HS.out.store pairKeyed.law Try.underlying235 Try.underlying4 (by decide) (pairKeyed.key (a := 0) (b := 0) (by decide) (by decide)) true
          refine skip_ (w1 := we7) (by rfl) rfl ?_ ?_
          · first | (go_simp; done) | (go_simp; rfl)
          replace HB := Aside0.mk (HB.out.grown hg_ HB.out.size (fun j hj => by cases hj; exact GM.out))
          replace BK4 := Aside0.mk (blk_grown BK4.out hg_ (SetB.ne_blk HS.out BK4.out))
          replace BK5 := Aside0.mk (blk_grown BK5.out hg_ (SetB.ne_blk HS.out BK5.out))
          replace HOB := Aside0.mk (Kd.R_grown1 HOB.out rfl hg_ (fun e_ => SetB.ne_row HS.out HOB.out e_.symm))
          rw [find_map0] at hs_
          replace HS := Aside0.mk hs_
          clear hs_ hg_ hst
          refine hK.out _ _ trivial (fun hHeld => ?_)
          clear hK K
          refine pure_ (i := 7) (N := some 34) (v := ?_) (a' := ?_) #[true, false, true, true, true, true, true, true, false, false] rfl rfl (by kernel_rfl) (fun _ _ _ h => h) (Or.inl ⟨by rfl, ?_⟩) ?_ ?_
          rotate_left
          · intro w'
            go_simp
            with_reducible rfl
          rotate_left
          · simp only [Act.put, List.setIfInBounds_toArray, List.set_cons_zero, List.set_cons_succ, i64_w, i32_w]
            rfl
          refine one_ (i := 1) (N := some 29) #[true, true, true, true, true, true, true, true, false, false] rfl rfl (by kernel_rfl) (by decide) (fun K hK => ?_)
          refine Kd.R_lit_step k232 (w0 := we7) we7.heap.size 232 (by rfl) (N := 29) rfl (xs := [⟨0, 0, 0, 0⟩]) (inner := [.int .i64 0, .int .i64 0, .int .i64 0, .int .u8 0]) (ok := fun _ => True) (okp := fun _ => True) ?hr ?hp (fun _ hk => hk) trivial (Below.refl _ _) (Nat.le_refl _) (by simp) ?_
          case hr => first | (go_simp; done) | (go_simp; rfl)
          case hp => exact walk_zero _ _
          intro v29 we8 ho hb hg_ hn_
          have HO := Aside0.mk (Kd.R_lower ho (below_size HB.out))
          replace HB := Aside0.mk (below_step HB.out hb)
          replace BK4 := Aside0.mk (blk_below BK4.out hb)
          replace BK5 := Aside0.mk (blk_below BK5.out hb)
          replace HOB := Aside0.mk (Kd.R_below HOB.out hb)
          replace HS := Aside0.mk (HS.out.below hb)
          clear ho hb hg_ hn_
          refine hK.out _ _ trivial (fun hHeld => ?_)
          clear hK K
          refine norm_ (a' := ?_) ?_ ?_
          rotate_left
          · show Act.put _ (some 29) _ = _
            simp only [Act.put, List.setIfInBounds_toArray, List.set_cons_zero, List.set_cons_succ, i64_w, i32_w]
            rfl
          refine pure_ (i := 8) (N := some 11) (v := ?_) (a' := ?_) #[true, true, true, true, true, true, true, true, true, false] rfl rfl (by kernel_rfl) (fun _ _ _ h => h) (Or.inl ⟨by rfl, ?_⟩) ?_ ?_
          rotate_left
          · intro w'
            go_simp
            with_reducible rfl
          rotate_left
          · simp only [Act.put, List.setIfInBounds_toArray, List.set_cons_zero, List.set_cons_succ, i64_w, i32_w]
            rfl
          exact norm_ (by first | rfl | (simp only [putAll, Act.put, List.setIfInBounds_toArray, List.set_cons_zero, List.set_cons_succ]; done)) (hJ (v29, bm) _ ⟨HO.out, HS.out, HB.out, ⟨BK4.out, BK5.out⟩, HOB.out, GM.out⟩)
    rintro ⟨v29, bm⟩ w2 ⟨f0_, f1_, f2_, ⟨f3_, f4_⟩, f5_, f6_⟩
    have HO := Aside0.mk f0_
    have HS := Aside0.mk f1_
    replace HB := Aside0.mk f2_
    replace BK4 := Aside0.mk f3_
    replace BK5 := Aside0.mk f4_
    replace HOB := Aside0.mk f5_
    have GM := Aside0.mk f6_
    clear f0_ f1_ f2_ f3_ f4_ f5_ f6_
    refine norm_ (a' := ?_) ?_ ?_
    rotate_left
    · simp only [putAll, Act.put, List.setIfInBounds_toArray, List.set_cons_zero, List.set_cons_succ, i64_w, i32_w]
      rfl
    refine pure_ (i := 9) (N := some 12) (v := ?_) (a' := ?_) #[true, true, true, true, true, true, true, true, true, true] rfl rfl (by kernel_rfl) (fun _ _ _ h => h) (Or.inl ⟨by rfl, ?_⟩) ?_ ?_
    rotate_left
    · intro w'
      go_simp
      with_reducible rfl
    rotate_left
    · simp only [Act.put, List.setIfInBounds_toArray, List.set_cons_zero, List.set_cons_succ, i64_w, i32_w]
      rfl
    refine done_ (by kernel_rfl) ?_
    clear hmm
    obtain ⟨Ab, cb, rfl⟩ := Kd.R_slice HOB.out
    go_wp2
    go_loopg [11, 13] k (fun gk v11 v13 wr => ∃ (L : List S232) (i : Nat), v13 = .int .i64 i ∧ Aside0 (impl_find.l0 P 0 l0_0 l0_1 l0_2 l1_0 l1_1 l1_2 bs gk L i 0 = some r) ∧ Aside0 (gk ≤ k) ∧ Aside0 (Kd.R k232 232 wr w.heap.size (fun _ => True) v11 L) ∧ Aside0 (∃ n', n' ≤ L.length ∧ SetB wr Try.prog 234 4 bm n' (pairs (prs 0 L))) ∧ Aside0 (wr.heap[w.heap.size]? = some (.cells #[.slice A0_0 l0_0.length c0_0, .slice A0_1 l0_1.length c0_1, .slice A0_2 l0_2.length c0_2] 84 (0, 0))) ∧ Aside0 (wr.heap[w.heap.size + 1]? = some (.cells #[.slice A1_0 l1_0.length c1_0, .slice A1_1 l1_1.length c1_1, .slice A1_2 l1_2.length c1_2] 84 (0, 0))) ∧ Aside0 (Kd.R (Kd.int .u8) 5 wr w.heap.size (fun _ => True) (.slice Ab bs.length cb) bs) ∧ Aside0 (Below w.heap.size w wr) ∧ Aside0 (0 ≤ L.length ∧ L.length ≤ 100000000 ∧ i ≤ L.length ∧ (∀ p ∈ prs 0 L, (Lit.int .i64 p.1).wf = true ∧ (Lit.int .i64 p.2).wf = true)))
    case atStart => exact ⟨[⟨0, 0, 0, 0⟩], 0, rfl, H', ⟨Nat.le_refl _⟩, HO, ⟨1, Nat.le_refl _, HS.out⟩, BK4, BK5, HOB, HB, ⟨by decide, by decide, by decide, by decide⟩⟩
    case round =>
      clear H' HO HS BK4 BK5 HOB HB
      obtain ⟨L, i, rfl, HH, HK1, HO, HS, BK4, BK5, HOB, HB, HLW⟩ := hrel
      obtain ⟨Ao, co, rfl⟩ := Kd.R_slice HO.out
      by_cases hlt : i < L.length
      · have hcond := eq_true (show (i : Int) < (L.length : Int) by omega)
        clear hlt
        go_wp2
        go_loopg [11, 43] gk (fun gk2 v11 v43 wr2 => ∃ (L2 : List S232) (j : Nat), v43 = .int .i64 j ∧ Aside0 (impl_find.l0 P 0 l0_0 l0_1 l0_2 l1_0 l1_1 l1_2 bs gk2 L2 i j = some r) ∧ Aside0 (gk2 ≤ gk) ∧ Aside0 (Kd.R k232 232 wr2 w.heap.size (fun _ => True) v11 L2) ∧ Aside0 (∃ n', n' ≤ L2.length ∧ SetB wr2 Try.prog 234 4 bm n' (pairs (prs 0 L2))) ∧ Aside0 (wr2.heap[w.heap.size]? = some (.cells #[.slice A0_0 l0_0.length c0_0, .slice A0_1 l0_1.length c0_1, .slice A0_2 l0_2.length c0_2] 84 (0, 0))) ∧ Aside0 (wr2.heap[w.heap.size + 1]? = some (.cells #[.slice A1_0 l1_0.length c1_0, .slice A1_1 l1_1.length c1_1, .slice A1_2 l1_2.length c1_2] 84 (0, 0))) ∧ Aside0 (Kd.R (Kd.int .u8) 5 wr2 w.heap.size (fun _ => True) (.slice Ab bs.length cb) bs) ∧ Aside0 (Below w.heap.size w wr2) ∧ Aside0 (0 ≤ L2.length ∧ L2.length ≤ 100000000 ∧ i < L2.length ∧ j ≤ bs.length ∧ (∀ p ∈ prs 0 L2, (Lit.int .i64 p.1).wf = true ∧ (Lit.int .i64 p.2).wf = true)))
        case atStart => exact ⟨L, 0, rfl, HH, ⟨Nat.le_refl _⟩, HO, HS, BK4, BK5, HOB, HB, ⟨HLW.out.1, HLW.out.2.1, of_eq_true (by rw [← hcond]; exact propext ⟨fun h => by omega, fun h => by omega⟩), Nat.zero_le _, HLW.out.2.2.2⟩⟩
        case round =>
          clear HH HO HS BK4 BK5 HOB HB HLW hcond
          obtain ⟨L2, j, rfl, HH2, HK2, HO, HS, BK4, BK5, HOB, HB, HLW⟩ := hrel
          obtain ⟨Ao2, co2, rfl⟩ := Kd.R_slice HO.out
          have hci := eq_true (show (i : Int) < (L2.length : Int) by have := HLW.out.2.2.1; omega)
          have hci0 := eq_true (show (0 : Int) ≤ (i : Int) by omega)
          by_cases hj : j < bs.length
          · have hcj := eq_true (show (j : Int) < (bs.length : Int) by omega)
            have hcj0 := eq_true (show (0 : Int) ≤ (j : Int) by omega)
            cases gk with
            | zero => exact absurd HH2.out (by simp [impl_find.l0])
            | succ k2 =>
              have H := HH2.out
              rw [impl_find.l0, if_pos HLW.out.2.2.1, if_pos hj] at H
              obtain ⟨x, hx, Hx_⟩ := Option.bind_eq_some_iff.1 H
              clear H
              obtain ⟨y, hy, Hy_⟩ := Option.bind_eq_some_iff.1 Hx_
              clear Hx_
              by_cases hwf : (Lit.int .i64 x).wf = true ∧ (Lit.int .i64 y).wf = true ∧ L2.length < 100000000
              case neg => rw [if_neg hwf] at Hy_; cases Hy_
              rw [if_pos hwf] at Hy_
              obtain ⟨adb, eb, hxb⟩ := Kd.at_int (Kd.R_reads' HOB.out).2.2 (j : Int) (by omega) (by omega)
              cases eb
              obtain ⟨ado, eo2, hx0, hx1, hx2, hx3⟩ := at_T232 (Kd.R_reads' HO.out).2.2 (i : Int) (by omega) (by have := HLW.out.2.2.1; omega)
              cases eo2
              rw [Int.toNat_natCast] at hxb hx0 hx1 hx2 hx3
              generalize rd bs (j : Int) = cb_ at *
              generalize (rd_T232 L2 (i : Int)).f0 = p0 at *
              generalize (rd_T232 L2 (i : Int)).f1 = p1 at *
              have HX := Aside0.mk hx
              have HY := Aside0.mk hy
              have HWF := Aside0.mk hwf
              have HHN := Aside0.mk Hy_
              have HJ := Aside0.mk hj
              clear hx hy hwf Hy_ hj HH2 hx2 hx3
              have HGN := Aside0.mk (Kd.row_cells HO.out rfl (b := ado.block) rfl).1
              go_wp2
              have y0 : wr.cell? ⟨w.heap.size, 0, none⟩ = some (.slice A0_0 l0_0.length c0_0) := (blk_cell BK4.out 0).trans rfl
              have y1 : wr.cell? ⟨w.heap.size, 1, none⟩ = some (.slice A0_1 l0_1.length c0_1) := (blk_cell BK4.out 1).trans rfl
              have y2 : wr.cell? ⟨w.heap.size, 2, none⟩ = some (.slice A0_2 l0_2.length c0_2) := (blk_cell BK4.out 2).trans rfl
              have y3 : wr.cell? ⟨w.heap.size + 1, 0, none⟩ = some (.slice A1_0 l1_0.length c1_0) := (blk_cell BK5.out 0).trans rfl
              have y4 : wr.cell? ⟨w.heap.size + 1, 1, none⟩ = some (.slice A1_1 l1_1.length c1_1) := (blk_cell BK5.out 1).trans rfl
              have y5 : wr.cell? ⟨w.heap.size + 1, 2, none⟩ = some (.slice A1_2 l1_2.length c1_2) := (blk_cell BK5.out 2).trans rfl
              have y6 := hx0
              have y7 := hx1
              have HSH := Aside0.mk (show ∀ W' : World, Below wr.heap.size wr W' → (fun w' => w'.cell? ⟨w.heap.size, 0, none⟩ = some (.slice A0_0 l0_0.length c0_0) ∧ w'.cell? ⟨w.heap.size, 1, none⟩ = some (.slice A0_1 l0_1.length c0_1) ∧ w'.cell? ⟨w.heap.size, 2, none⟩ = some (.slice A0_2 l0_2.length c0_2) ∧ w'.cell? ⟨w.heap.size + 1, 0, none⟩ = some (.slice A1_0 l1_0.length c1_0) ∧ w'.cell? ⟨w.heap.size + 1, 1, none⟩ = some (.slice A1_1 l1_1.length c1_1) ∧ w'.cell? ⟨w.heap.size + 1, 2, none⟩ = some (.slice A1_2 l1_2.length c1_2) ∧ w'.cell? (ado.add (i * 4)) = some (.int .i64 p0) ∧ w'.cell? ⟨(ado.add (i * 4)).block, (ado.add (i * 4)).off + 1, none⟩ = some (.int .i64 p1)) W' from fun W' hb => ⟨(hb.cell (World.block_lt_of_cell? _ _ y0)).trans y0, (hb.cell (World.block_lt_of_cell? _ _ y1)).trans y1, (hb.cell (World.block_lt_of_cell? _ _ y2)).trans y2, (hb.cell (World.block_lt_of_cell? _ _ y3)).trans y3, (hb.cell (World.block_lt_of_cell? _ _ y4)).trans y4, (hb.cell (World.block_lt_of_cell? _ _ y5)).trans y5, (hb.cell (World.block_lt_of_cell? _ _ y6)).trans y6, (hb.cell (World.block_lt_of_cell? _ _ y7)).trans y7⟩)
              clear y0 y1 y2 y3 y4 y5 y6 y7 hx0 hx1 hxb
              have hW := below_drew1 (Below.refl wr.heap.size wr)
              refine start_ (n := 21) (S := fun w' => w'.cell? ⟨w.heap.size, 0, none⟩ = some (.slice A0_0 l0_0.length c0_0) ∧ w'.cell? ⟨w.heap.size, 1, none⟩ = some (.slice A0_1 l0_1.length c0_1) ∧ w'.cell? ⟨w.heap.size, 2, none⟩ = some (.slice A0_2 l0_2.length c0_2) ∧ w'.cell? ⟨w.heap.size + 1, 0, none⟩ = some (.slice A1_0 l1_0.length c1_0) ∧ w'.cell? ⟨w.heap.size + 1, 1, none⟩ = some (.slice A1_1 l1_1.length c1_1) ∧ w'.cell? ⟨w.heap.size + 1, 2, none⟩ = some (.slice A1_2 l1_2.length c1_2) ∧ w'.cell? (ado.add (i * 4)) = some (.int .i64 p0) ∧ w'.cell? ⟨(ado.add (i * 4)).block, (ado.add (i * 4)).off + 1, none⟩ = some (.int .i64 p1)) (ds := [20]) #[false, false, false, false, false, false, false, false, false, false, false, false, false, false, false, false, false, false, false, false, false] (by kernel_rfl) rfl rfl (HSH.out _ hW) (fun hHeld => ?_)
              refine take_ (i := 0) (N := some 47) (v := ?_) (a' := ?_) #[true, false, false, false, false, false, false, false, false, false, false, false, false, false, false, false, false, false, false, false, false] rfl rfl (by kernel_rfl) (fun _ _ _ h => h) (Or.inl ⟨by rfl, ?_⟩) hHeld ?_ ?_
              rotate_left
              · rintro w' ⟨s0, s1, s2, s3, s4, s5, s6, s7⟩
                go_simp
                with_reducible rfl
              rotate_left
              · simp only [Act.put, List.setIfInBounds_toArray, List.set_cons_zero, List.set_cons_succ, i64_w, i32_w]
                rfl
              refine take_ (i := 1) (N := some 48) (v := ?_) (a' := ?_) #[true, true, false, false, false, false, false, false, false, false, false, false, false, false, false, false, false, false, false, false, false] rfl rfl (by kernel_rfl) (fun _ _ _ h => h) (Or.inl ⟨by rfl, ?_⟩) hHeld ?_ ?_
              rotate_left
              · rintro w' ⟨s0, s1, s2, s3, s4, s5, s6, s7⟩
                go_simp
                with_reducible rfl
              rotate_left
              · simp only [Act.put, List.setIfInBounds_toArray, List.set_cons_zero, List.set_cons_succ, i64_w, i32_w]
                rfl
              refine take_ (i := 2) (N := some 49) (v := ?_) (a' := ?_) #[true, true, true, false, false, false, false, false, false, false, false, false, false, false, false, false, false, false, false, false, false] rfl rfl (by kernel_rfl) (fun _ _ _ h => h) (Or.inl ⟨by rfl, ?_⟩) hHeld ?_ ?_
              rotate_left
              · rintro w' ⟨s0, s1, s2, s3, s4, s5, s6, s7⟩
                go_simp
                with_reducible rfl
              rotate_left
              · simp only [Act.put, List.setIfInBounds_toArray, List.set_cons_zero, List.set_cons_succ, i64_w, i32_w]
                rfl
              refine take_ (i := 3) (N := some 50) (v := ?_) (a' := ?_) #[true, true, true, true, false, false, false, false, false, false, false, false, false, false, false, false, false, false, false, false, false] rfl rfl (by kernel_rfl) (fun _ _ _ h => h) (Or.inl ⟨by rfl, ?_⟩) hHeld ?_ ?_
              rotate_left
              · rintro w' ⟨s0, s1, s2, s3, s4, s5, s6, s7⟩
                go_simp
                with_reducible rfl
              rotate_left
              · simp only [Act.put, List.setIfInBounds_toArray, List.set_cons_zero, List.set_cons_succ, i64_w, i32_w]
                rfl
              refine take_ (i := 4) (N := some 51) (v := ?_) (a' := ?_) #[true, true, true, true, true, false, false, false, false, false, false, false, false, false, false, false, false, false, false, false, false] rfl rfl (by kernel_rfl) (fun _ _ _ h => h) (Or.inl ⟨by rfl, ?_⟩) hHeld ?_ ?_
              rotate_left
              · rintro w' ⟨s0, s1, s2, s3, s4, s5, s6, s7⟩
                go_simp
                with_reducible rfl
              rotate_left
              · simp only [Act.put, List.setIfInBounds_toArray, List.set_cons_zero, List.set_cons_succ, i64_w, i32_w]
                rfl
              refine take_ (i := 5) (N := some 52) (v := ?_) (a' := ?_) #[true, true, true, true, true, true, false, false, false, false, false, false, false, false, false, false, false, false, false, false, false] rfl rfl (by kernel_rfl) (fun _ _ _ h => h) (Or.inl ⟨by rfl, ?_⟩) hHeld ?_ ?_
              rotate_left
              · rintro w' ⟨s0, s1, s2, s3, s4, s5, s6, s7⟩
                go_simp
                with_reducible rfl
              rotate_left
              · simp only [Act.put, List.setIfInBounds_toArray, List.set_cons_zero, List.set_cons_succ, i64_w, i32_w]
                rfl
              refine take_ (i := 6) (N := some 53) (v := ?_) (a' := ?_) #[true, true, true, true, true, true, true, false, false, false, false, false, false, false, false, false, false, false, false, false, false] rfl rfl (by kernel_rfl) (fun _ _ _ h => h) (Or.inl ⟨by rfl, ?_⟩) hHeld ?_ ?_
              rotate_left
              · rintro w' ⟨s0, s1, s2, s3, s4, s5, s6, s7⟩
                go_simp
                with_reducible rfl
              rotate_left
              · simp only [Act.put, List.setIfInBounds_toArray, List.set_cons_zero, List.set_cons_succ, i64_w, i32_w]
                rfl
              refine take_ (i := 8) (N := some 55) (v := ?_) (a' := ?_) #[true, true, true, true, true, true, true, false, true, false, false, false, false, false, false, false, false, false, false, false, false] rfl rfl (by kernel_rfl) (fun _ _ _ h => h) (Or.inl ⟨by rfl, ?_⟩) hHeld ?_ ?_
              rotate_left
              · rintro w' ⟨s0, s1, s2, s3, s4, s5, s6, s7⟩
                go_simp
                with_reducible rfl
              rotate_left
              · simp only [Act.put, List.setIfInBounds_toArray, List.set_cons_zero, List.set_cons_succ, i64_w, i32_w]
                rfl
              refine take_ (i := 9) (N := some 56) (v := ?_) (a' := ?_) #[true, true, true, true, true, true, true, false, true, true, false, false, false, false, false, false, false, false, false, false, false] rfl rfl (by kernel_rfl) (fun _ _ _ h => h) (Or.inl ⟨by rfl, ?_⟩) hHeld ?_ ?_
              rotate_left
              · rintro w' ⟨s0, s1, s2, s3, s4, s5, s6, s7⟩
                go_simp
                with_reducible rfl
              rotate_left
              · simp only [Act.put, List.setIfInBounds_toArray, List.set_cons_zero, List.set_cons_succ, i64_w, i32_w]
                rfl
              refine take_ (i := 10) (N := some 57) (v := ?_) (a' := ?_) #[true, true, true, true, true, true, true, false, true, true, true, false, false, false, false, false, false, false, false, false, false] rfl rfl (by kernel_rfl) (fun _ _ _ h => h) (Or.inl ⟨by rfl, ?_⟩) hHeld ?_ ?_
              rotate_left
              · rintro w' ⟨s0, s1, s2, s3, s4, s5, s6, s7⟩
                go_simp
                with_reducible rfl
              rotate_left
              · simp only [Act.put, List.setIfInBounds_toArray, List.set_cons_zero, List.set_cons_succ, i64_w, i32_w]
                rfl
              refine take_ (i := 11) (N := some 58) (v := ?_) (a' := ?_) #[true, true, true, true, true, true, true, false, true, true, true, true, false, false, false, false, false, false, false, false, false] rfl rfl (by kernel_rfl) (fun _ _ _ h => h) (Or.inl ⟨by rfl, ?_⟩) hHeld ?_ ?_
              rotate_left
              · rintro w' ⟨s0, s1, s2, s3, s4, s5, s6, s7⟩
                go_simp
                with_reducible rfl
              rotate_left
              · simp only [Act.put, List.setIfInBounds_toArray, List.set_cons_zero, List.set_cons_succ, i64_w, i32_w]
                rfl
              refine take_ (i := 12) (N := some 59) (v := ?_) (a' := ?_) #[true, true, true, true, true, true, true, false, true, true, true, true, true, false, false, false, false, false, false, false, false] rfl rfl (by kernel_rfl) (fun _ _ _ h => h) (Or.inl ⟨by rfl, ?_⟩) hHeld ?_ ?_
              rotate_left
              · rintro w' ⟨s0, s1, s2, s3, s4, s5, s6, s7⟩
                go_simp
                with_reducible rfl
              rotate_left
              · simp only [Act.put, List.setIfInBounds_toArray, List.set_cons_zero, List.set_cons_succ, i64_w, i32_w]
                rfl
              refine take_ (i := 13) (N := some 60) (v := ?_) (a' := ?_) #[true, true, true, true, true, true, true, false, true, true, true, true, true, true, false, false, false, false, false, false, false] rfl rfl (by kernel_rfl) (fun _ _ _ h => h) (Or.inl ⟨by rfl, ?_⟩) hHeld ?_ ?_
              rotate_left
              · rintro w' ⟨s0, s1, s2, s3, s4, s5, s6, s7⟩
                go_simp
                with_reducible rfl
              rotate_left
              · simp only [Act.put, List.setIfInBounds_toArray, List.set_cons_zero, List.set_cons_succ, i64_w, i32_w]
                rfl
              refine take_ (i := 14) (N := some 61) (v := ?_) (a' := ?_) #[true, true, true, true, true, true, true, false, true, true, true, true, true, true, true, false, false, false, false, false, false] rfl rfl (by kernel_rfl) (fun _ _ _ h => h) (Or.inl ⟨by rfl, ?_⟩) hHeld ?_ ?_
              rotate_left
              · rintro w' ⟨s0, s1, s2, s3, s4, s5, s6, s7⟩
                go_simp
                with_reducible rfl
              rotate_left
              · simp only [Act.put, List.setIfInBounds_toArray, List.set_cons_zero, List.set_cons_succ, i64_w, i32_w]
                rfl
              refine take_ (i := 16) (N := some 63) (v := ?_) (a' := ?_) #[true, true, true, true, true, true, true, false, true, true, true, true, true, true, true, false, true, false, false, false, false] rfl rfl (by kernel_rfl) (fun _ _ _ h => h) (Or.inl ⟨by rfl, ?_⟩) hHeld ?_ ?_
              rotate_left
              · rintro w' ⟨s0, s1, s2, s3, s4, s5, s6, s7⟩
                go_simp
                with_reducible rfl
              rotate_left
              · simp only [Act.put, List.setIfInBounds_toArray, List.set_cons_zero, List.set_cons_succ, i64_w, i32_w]
                rfl
              refine take_ (i := 17) (N := some 64) (v := ?_) (a' := ?_) #[true, true, true, true, true, true, true, false, true, true, true, true, true, true, true, false, true, true, false, false, false] rfl rfl (by kernel_rfl) (fun _ _ _ h => h) (Or.inl ⟨by rfl, ?_⟩) hHeld ?_ ?_
              rotate_left
              · rintro w' ⟨s0, s1, s2, s3, s4, s5, s6, s7⟩
                go_simp
                with_reducible rfl
              rotate_left
              · simp only [Act.put, List.setIfInBounds_toArray, List.set_cons_zero, List.set_cons_succ, i64_w, i32_w]
                rfl
              generalize wr.drew = ws at hW hHeld ⊢
              have HW := Aside0.mk hW
              clear hW hHeld
              refine join_ (σ := Nat) 1 #[true, true, true, true, true, true, true, true, true, true, true, true, true, true, true, true, true, true, true, true, false] (fun s_ => [(54, .int .i64 x), (62, .int .i64 y), (16, .pointer (some ⟨s_, 0, none⟩)), (65, .agg #[.int .i64 x, .int .i64 y, .int .i64 (i : Int), .int .u8 cb_])]) (fun s_ w' => Below wr.heap.size wr w' ∧ w'.heap[s_]? = some (.cells #[.int .i64 0, .int .i64 0, .int .i64 0, .int .u8 0] 232 (0, 0)) ∧ wr.heap.size ≤ s_) ?_ ?_
              rotate_left
              · intro hJ
                refine two_ (i := 7) (j := 19) (Ni := some 54) (Nj := some 16) #[true, true, true, true, true, true, true, true, true, true, true, true, true, true, true, false, true, true, false, false, false] #[true, true, true, true, true, true, true, false, true, true, true, true, true, true, true, false, true, true, false, true, false] rfl rfl rfl rfl (by kernel_rfl) (by decide) (by decide) (fun K hK => ?_) (fun K hK => ?_)
                · refine goes_ Try.func192 (by kernel_rfl) rfl #[(.agg #[.slice A0_0 l0_0.length c0_0, .slice A0_1 l0_1.length c0_1, .slice A0_2 l0_2.length c0_2]), .int .i64 p0, .int .u8 cb_] (by rfl) rfl rfl (by (try simp only [List.map_toArray, List.map_cons, List.map_nil]); first | done | rfl) ?_
                  refine (impl_Dfa_step.calls _ _ l0_0 _ _ l0_1 _ _ l0_2 p0 cb_ x _ (Kd.C_below HRA.out.1 (below_step HB.out HW.out)) HCA.out.1 (Kd.C_below HRA.out.2.1 (below_step HB.out HW.out)) HCA.out.2.1 (Kd.C_below HRA.out.2.2.1 (below_step HB.out HW.out)) HCA.out.2.2.1 HX.out).mono ?_
                  rintro e wf1 ⟨rfl, hb⟩
                  refine ⟨_, rfl, ?_⟩
                  replace HW := Aside0.mk (below_step HW.out hb)
                  clear hb
                  refine hK.out _ _ (HSH.out _ HW.out) (fun hHeld => ?_)
                  clear hK K hHeld
                  refine norm_ (a' := ?_) ?_ ?_
                  rotate_left
                  · show Act.put _ (some 54) _ = _
                    simp only [Act.put, List.setIfInBounds_toArray, List.set_cons_zero, List.set_cons_succ, i64_w, i32_w]
                    rfl
                  refine two_ (i := 15) (j := 19) (Ni := some 62) (Nj := some 16) #[true, true, true, true, true, true, true, true, true, true, true, true, true, true, true, true, true, true, false, false, false] #[true, true, true, true, true, true, true, true, true, true, true, true, true, true, true, false, true, true, false, true, false] rfl rfl rfl rfl (by kernel_rfl) (by decide) (by decide) (fun K hK => ?_) (fun K hK => ?_)
                  · refine goes_ Try.func192 (by kernel_rfl) rfl #[(.agg #[.slice A1_0 l1_0.length c1_0, .slice A1_1 l1_1.length c1_1, .slice A1_2 l1_2.length c1_2]), .int .i64 p1, .int .u8 cb_] (by rfl) rfl rfl (by (try simp only [List.map_toArray, List.map_cons, List.map_nil]); first | done | rfl) ?_
                    refine (impl_Dfa_step.calls _ _ l1_0 _ _ l1_1 _ _ l1_2 p1 cb_ y _ (Kd.C_below HRA.out.2.2.2.1 (below_step HB.out HW.out)) HCA.out.2.2.2.1 (Kd.C_below HRA.out.2.2.2.2.1 (below_step HB.out HW.out)) HCA.out.2.2.2.2.1 (Kd.C_below HRA.out.2.2.2.2.2 (below_step HB.out HW.out)) HCA.out.2.2.2.2.2 HY.out).mono ?_
                    rintro e wf2 ⟨rfl, hb⟩
                    refine ⟨_, rfl, ?_⟩
                    replace HW := Aside0.mk (below_step HW.out hb)
                    clear hb
                    refine hK.out _ _ (HSH.out _ HW.out) (fun hHeld => ?_)
                    clear hK K hHeld
                    refine norm_ (a' := ?_) ?_ ?_
                    rotate_left
                    · show Act.put _ (some 62) _ = _
                      simp only [Act.put, List.setIfInBounds_toArray, List.set_cons_zero, List.set_cons_succ, i64_w, i32_w]
                      rfl
                    refine pure_ (i := 18) (N := some 65) (v := ?_) (a' := ?_) #[true, true, true, true, true, true, true, true, true, true, true, true, true, true, true, true, true, true, true, false, false] rfl rfl (by kernel_rfl) (fun _ _ _ h => h) (Or.inl ⟨by rfl, ?_⟩) ?_ ?_
                    rotate_left
                    · intro w'
                      go_simp
                      with_reducible rfl
                    rotate_left
                    · simp only [Act.put, List.setIfInBounds_toArray, List.set_cons_zero, List.set_cons_succ, i64_w, i32_w]
                      rfl
                    refine one_ (i := 19) (N := some 16) #[true, true, true, true, true, true, true, true, true, true, true, true, true, true, true, true, true, true, true, true, false] rfl rfl (by kernel_rfl) (by decide) (fun K hK => ?_)
                    obtain ⟨gp, egp⟩ : ∃ q_, q_ = wf2.heap.size := ⟨_, rfl⟩
                    have GP := Aside0.mk (show wr.heap.size ≤ gp by rw [egp]; exact HW.out.size)
                    refine event_step (v := .pointer (some ⟨gp, 0, none⟩)) (w1 := wf2.alloc (.cells #[.int .i64 0, .int .i64 0, .int .i64 0, .int .u8 0] 232)) (by rfl) (by rw [egp]; first | (go_simp; done) | (go_simp; rfl)) ?_
                    have hb : Below wf2.heap.size wf2 (wf2.alloc (.cells #[.int .i64 0, .int .i64 0, .int .i64 0, .int .u8 0] 232)) := below_alloc (Below.refl _ _) _
                    have hn_ : (wf2.alloc (.cells #[.int .i64 0, .int .i64 0, .int .i64 0, .int .u8 0] 232)).heap[wf2.heap.size]? = some (.cells #[.int .i64 0, .int .i64 0, .int .i64 0, .int .u8 0] 232 (0, 0)) := by simp [World.alloc, -World.alloc_eq]
                    generalize wf2.alloc (.cells #[.int .i64 0, .int .i64 0, .int .i64 0, .int .u8 0] 232) = wf3 at hb hn_ ⊢
                    rw [← egp] at hn_
                    clear egp
                    have BP := Aside0.mk hn_
                    replace HW := Aside0.mk (below_step HW.out hb)
                    clear hb hn_
                    refine hK.out _ _ (HSH.out _ HW.out) (fun hHeld => ?_)
                    clear hK K hHeld
                    refine norm_ (a' := ?_) ?_ ?_
                    rotate_left
                    · show Act.put _ (some 16) _ = _
                      simp only [Act.put, List.setIfInBounds_toArray, List.set_cons_zero, List.set_cons_succ, i64_w, i32_w]
                      rfl
                    exact norm_ (by first | rfl | (simp only [putAll, Act.put, List.setIfInBounds_toArray, List.set_cons_zero, List.set_cons_succ]; done)) (hJ gp _ ⟨HW.out, BP.out, GP.out⟩)
                  · obtain ⟨gp, egp⟩ : ∃ q_, q_ = wf1.heap.size := ⟨_, rfl⟩
                    have GP := Aside0.mk (show wr.heap.size ≤ gp by rw [egp]; exact HW.out.size)
                    refine event_step (v := .pointer (some ⟨gp, 0, none⟩)) (w1 := wf1.alloc (.cells #[.int .i64 0, .int .i64 0, .int .i64 0, .int .u8 0] 232)) (by rfl) (by rw [egp]; first | (go_simp; done) | (go_simp; rfl)) ?_
                    have hb : Below wf1.heap.size wf1 (wf1.alloc (.cells #[.int .i64 0, .int .i64 0, .int .i64 0, .int .u8 0] 232)) := below_alloc (Below.refl _ _) _
                    have hn_ : (wf1.alloc (.cells #[.int .i64 0, .int .i64 0, .int .i64 0, .int .u8 0] 232)).heap[wf1.heap.size]? = some (.cells #[.int .i64 0, .int .i64 0, .int .i64 0, .int .u8 0] 232 (0, 0)) := by simp [World.alloc, -World.alloc_eq]
                    generalize wf1.alloc (.cells #[.int .i64 0, .int .i64 0, .int .i64 0, .int .u8 0] 232) = wf4 at hb hn_ ⊢
                    rw [← egp] at hn_
                    clear egp
                    have BP := Aside0.mk hn_
                    replace HW := Aside0.mk (below_step HW.out hb)
                    clear hb hn_
                    refine hK.out _ _ (HSH.out _ HW.out) (fun hHeld => ?_)
                    clear hK K hHeld
                    refine norm_ (a' := ?_) ?_ ?_
                    rotate_left
                    · show Act.put _ (some 16) _ = _
                      simp only [Act.put, List.setIfInBounds_toArray, List.set_cons_zero, List.set_cons_succ, i64_w, i32_w]
                      rfl
                    refine one_ (i := 15) (N := some 62) #[true, true, true, true, true, true, true, true, true, true, true, true, true, true, true, true, true, true, false, true, false] rfl rfl (by kernel_rfl) (by decide) (fun K hK => ?_)
                    refine goes_ Try.func192 (by kernel_rfl) rfl #[(.agg #[.slice A1_0 l1_0.length c1_0, .slice A1_1 l1_1.length c1_1, .slice A1_2 l1_2.length c1_2]), .int .i64 p1, .int .u8 cb_] (by rfl) rfl rfl (by (try simp only [List.map_toArray, List.map_cons, List.map_nil]); first | done | rfl) ?_
                    refine (impl_Dfa_step.calls _ _ l1_0 _ _ l1_1 _ _ l1_2 p1 cb_ y _ (Kd.C_below HRA.out.2.2.2.1 (below_step HB.out HW.out)) HCA.out.2.2.2.1 (Kd.C_below HRA.out.2.2.2.2.1 (below_step HB.out HW.out)) HCA.out.2.2.2.2.1 (Kd.C_below HRA.out.2.2.2.2.2 (below_step HB.out HW.out)) HCA.out.2.2.2.2.2 HY.out).mono ?_
                    rintro e wf5 ⟨rfl, hb⟩
                    refine ⟨_, rfl, ?_⟩
                    replace BP := Aside0.mk (blk_below BP.out hb)
                    replace HW := Aside0.mk (below_step HW.out hb)
                    clear hb
                    refine hK.out _ _ (HSH.out _ HW.out) (fun hHeld => ?_)
                    clear hK K hHeld
                    refine norm_ (a' := ?_) ?_ ?_
                    rotate_left
                    · show Act.put _ (some 62) _ = _
                      simp only [Act.put, List.setIfInBounds_toArray, List.set_cons_zero, List.set_cons_succ, i64_w, i32_w]
                      rfl
                    refine pure_ (i := 18) (N := some 65) (v := ?_) (a' := ?_) #[true, true, true, true, true, true, true, true, true, true, true, true, true, true, true, true, true, true, true, true, false] rfl rfl (by kernel_rfl) (fun _ _ _ h => h) (Or.inl ⟨by rfl, ?_⟩) ?_ ?_
                    rotate_left
                    · intro w'
                      go_simp
                      with_reducible rfl
                    rotate_left
                    · simp only [Act.put, List.setIfInBounds_toArray, List.set_cons_zero, List.set_cons_succ, i64_w, i32_w]
                      rfl
                    exact norm_ (by first | rfl | (simp only [putAll, Act.put, List.setIfInBounds_toArray, List.set_cons_zero, List.set_cons_succ]; done)) (hJ gp _ ⟨HW.out, BP.out, GP.out⟩)
                · obtain ⟨gp, egp⟩ : ∃ q_, q_ = ws.heap.size := ⟨_, rfl⟩
                  have GP := Aside0.mk (show wr.heap.size ≤ gp by rw [egp]; exact HW.out.size)
                  refine event_step (v := .pointer (some ⟨gp, 0, none⟩)) (w1 := ws.alloc (.cells #[.int .i64 0, .int .i64 0, .int .i64 0, .int .u8 0] 232)) (by rfl) (by rw [egp]; first | (go_simp; done) | (go_simp; rfl)) ?_
                  have hb : Below ws.heap.size ws (ws.alloc (.cells #[.int .i64 0, .int .i64 0, .int .i64 0, .int .u8 0] 232)) := below_alloc (Below.refl _ _) _
                  have hn_ : (ws.alloc (.cells #[.int .i64 0, .int .i64 0, .int .i64 0, .int .u8 0] 232)).heap[ws.heap.size]? = some (.cells #[.int .i64 0, .int .i64 0, .int .i64 0, .int .u8 0] 232 (0, 0)) := by simp [World.alloc, -World.alloc_eq]
                  generalize ws.alloc (.cells #[.int .i64 0, .int .i64 0, .int .i64 0, .int .u8 0] 232) = wf6 at hb hn_ ⊢
                  rw [← egp] at hn_
                  clear egp
                  have BP := Aside0.mk hn_
                  replace HW := Aside0.mk (below_step HW.out hb)
                  clear hb hn_
                  refine hK.out _ _ (HSH.out _ HW.out) (fun hHeld => ?_)
                  clear hK K hHeld
                  refine norm_ (a' := ?_) ?_ ?_
                  rotate_left
                  · show Act.put _ (some 16) _ = _
                    simp only [Act.put, List.setIfInBounds_toArray, List.set_cons_zero, List.set_cons_succ, i64_w, i32_w]
                    rfl
                  refine one_ (i := 7) (N := some 54) #[true, true, true, true, true, true, true, true, true, true, true, true, true, true, true, false, true, true, false, true, false] rfl rfl (by kernel_rfl) (by decide) (fun K hK => ?_)
                  refine goes_ Try.func192 (by kernel_rfl) rfl #[(.agg #[.slice A0_0 l0_0.length c0_0, .slice A0_1 l0_1.length c0_1, .slice A0_2 l0_2.length c0_2]), .int .i64 p0, .int .u8 cb_] (by rfl) rfl rfl (by (try simp only [List.map_toArray, List.map_cons, List.map_nil]); first | done | rfl) ?_
                  refine (impl_Dfa_step.calls _ _ l0_0 _ _ l0_1 _ _ l0_2 p0 cb_ x _ (Kd.C_below HRA.out.1 (below_step HB.out HW.out)) HCA.out.1 (Kd.C_below HRA.out.2.1 (below_step HB.out HW.out)) HCA.out.2.1 (Kd.C_below HRA.out.2.2.1 (below_step HB.out HW.out)) HCA.out.2.2.1 HX.out).mono ?_
                  rintro e wf7 ⟨rfl, hb⟩
                  refine ⟨_, rfl, ?_⟩
                  replace BP := Aside0.mk (blk_below BP.out hb)
                  replace HW := Aside0.mk (below_step HW.out hb)
                  clear hb
                  refine hK.out _ _ (HSH.out _ HW.out) (fun hHeld => ?_)
                  clear hK K hHeld
                  refine norm_ (a' := ?_) ?_ ?_
                  rotate_left
                  · show Act.put _ (some 54) _ = _
                    simp only [Act.put, List.setIfInBounds_toArray, List.set_cons_zero, List.set_cons_succ, i64_w, i32_w]
                    rfl
                  refine one_ (i := 15) (N := some 62) #[true, true, true, true, true, true, true, true, true, true, true, true, true, true, true, true, true, true, false, true, false] rfl rfl (by kernel_rfl) (by decide) (fun K hK => ?_)
                  refine goes_ Try.func192 (by kernel_rfl) rfl #[(.agg #[.slice A1_0 l1_0.length c1_0, .slice A1_1 l1_1.length c1_1, .slice A1_2 l1_2.length c1_2]), .int .i64 p1, .int .u8 cb_] (by rfl) rfl rfl (by (try simp only [List.map_toArray, List.map_cons, List.map_nil]); first | done | rfl) ?_
                  refine (impl_Dfa_step.calls _ _ l1_0 _ _ l1_1 _ _ l1_2 p1 cb_ y _ (Kd.C_below HRA.out.2.2.2.1 (below_step HB.out HW.out)) HCA.out.2.2.2.1 (Kd.C_below HRA.out.2.2.2.2.1 (below_step HB.out HW.out)) HCA.out.2.2.2.2.1 (Kd.C_below HRA.out.2.2.2.2.2 (below_step HB.out HW.out)) HCA.out.2.2.2.2.2 HY.out).mono ?_
                  rintro e wf8 ⟨rfl, hb⟩
                  refine ⟨_, rfl, ?_⟩
                  replace BP := Aside0.mk (blk_below BP.out hb)
                  replace HW := Aside0.mk (below_step HW.out hb)
                  clear hb
                  refine hK.out _ _ (HSH.out _ HW.out) (fun hHeld => ?_)
                  clear hK K hHeld
                  refine norm_ (a' := ?_) ?_ ?_
                  rotate_left
                  · show Act.put _ (some 62) _ = _
                    simp only [Act.put, List.setIfInBounds_toArray, List.set_cons_zero, List.set_cons_succ, i64_w, i32_w]
                    rfl
                  refine pure_ (i := 18) (N := some 65) (v := ?_) (a' := ?_) #[true, true, true, true, true, true, true, true, true, true, true, true, true, true, true, true, true, true, true, true, false] rfl rfl (by kernel_rfl) (fun _ _ _ h => h) (Or.inl ⟨by rfl, ?_⟩) ?_ ?_
                  rotate_left
                  · intro w'
                    go_simp
                    with_reducible rfl
                  rotate_left
                  · simp only [Act.put, List.setIfInBounds_toArray, List.set_cons_zero, List.set_cons_succ, i64_w, i32_w]
                    rfl
                  exact norm_ (by first | rfl | (simp only [putAll, Act.put, List.setIfInBounds_toArray, List.set_cons_zero, List.set_cons_succ]; done)) (hJ gp _ ⟨HW.out, BP.out, GP.out⟩)
              rintro gp w5 ⟨hw5, hn_, gp_⟩
              refine norm_ (a' := ?_) ?_ ?_
              rotate_left
              · simp only [putAll, Act.put, List.setIfInBounds_toArray, List.set_cons_zero, List.set_cons_succ, i64_w, i32_w]
                rfl
              refine last_ (i := 20) (N := none) #[true, true, true, true, true, true, true, true, true, true, true, true, true, true, true, true, true, true, true, true, true] rfl rfl (by kernel_rfl) (by decide) (fun K hK => ?_)
              have hu2 := Try.underlying232
              have e0 : w5.cell? ⟨gp, 0, none⟩ = some (.int .i64 0) := (blk_cell hn_ 0).trans rfl
              have e1 : w5.cell? ⟨gp, 1, none⟩ = some (.int .i64 0) := (blk_cell hn_ 1).trans rfl
              have e2 : w5.cell? ⟨gp, 2, none⟩ = some (.int .i64 0) := (blk_cell hn_ 2).trans rfl
              have e3 : w5.cell? ⟨gp, 3, none⟩ = some (.int .u8 0) := (blk_cell hn_ 3).trans rfl
              have f0 := blk_frozen hn_ 0
              have f1 := blk_frozen hn_ 1
              have f2 := blk_frozen hn_ 2
              have f3 := blk_frozen hn_ 3
              refine skip_ (w1 := ?_) (by rfl) rfl ?_ ?_
              rotate_left
              · go_simp
                rfl
              refine hK.out _ _ ?_
              clear hK K
              refine done_ (by kernel_rfl) ?_
              have h6 := blk_put (blk_put (blk_put (blk_put hn_ 0 (.int .i64 x) rfl) 1 (.int .i64 y) rfl) 2 (.int .i64 (i : Int)) rfl) 3 (.int .u8 cb_) rfl
              have hw6 : Below wr.heap.size wr ((((w5.setCell ⟨gp, 0, none⟩ (.int .i64 x)).setCell ⟨gp, 1, none⟩ (.int .i64 y)).setCell ⟨gp, 2, none⟩ (.int .i64 (i : Int))).setCell ⟨gp, 3, none⟩ (.int .u8 cb_)) := (((hw5.setCell gp_ _).setCell gp_ _).setCell gp_ _).setCell gp_ _
              generalize (((w5.setCell ⟨gp, 0, none⟩ (.int .i64 x)).setCell ⟨gp, 1, none⟩ (.int .i64 y)).setCell ⟨gp, 2, none⟩ (.int .i64 (i : Int))).setCell ⟨gp, 3, none⟩ (.int .u8 cb_) = w6 at h6 hw6 ⊢
              replace h6 : w6.heap[gp]? = some (.cells #[.int .i64 x, .int .i64 y, .int .i64 (i : Int), .int .u8 cb_] 232 (0, 0)) := h6
              clear e0 e1 e2 e3 f0 f1 f2 f3 hn_ hw5 HSH
              have z0 : w6.cell? ⟨gp, 0, none⟩ = some (.int .i64 x) := (blk_cell h6 0).trans rfl
              have z1 : w6.cell? ⟨gp, 1, none⟩ = some (.int .i64 y) := (blk_cell h6 1).trans rfl
              obtain ⟨nm, hnm, hs0⟩ := HS.out
              have hs6 := hs0.below hw6
              replace HO := Aside0.mk (Kd.R_below HO.out hw6)
              replace HOB := Aside0.mk (Kd.R_below HOB.out hw6)
              replace BK4 := Aside0.mk (blk_below BK4.out hw6)
              replace BK5 := Aside0.mk (blk_below BK5.out hw6)
              replace HB := Aside0.mk (below_step HB.out hw6)
              clear hw6 HS hs0
              have hkey := pairKeyed.key HWF.out.1 HWF.out.2.1
              have ZE := Aside0.mk (fun w : World => (show (zeroValue 4).run Try.prog w = .ok (.bool false) w by kernel_rfl))
              have hlook := hs6.look pairKeyed.law Try.underlying235 Try.underlying4 (ZE.out _) hkey
              rw [pairs_at pairKeyed HLW.out.2.2.2.2 HWF.out.1 HWF.out.2.1, ← seen_prs] at hlook
              have hnext := HHN.out
              by_cases hm : seenIn 0 L2 x y = true
              · rw [hm] at hlook
                rw [if_pos hm] at hnext
                have HS6 := Aside0.mk (show ∃ n', n' ≤ L2.length ∧ SetB w6 Try.prog 234 4 bm n' (pairs (prs 0 L2)) from ⟨nm, hnm, hs6⟩)
                have HN := Aside0.mk hnext
                clear hs6 hkey hm hnext HHN hnm h6 ZE
                go_wp2
                go_roundg k2
                case measure => omega
                case rel => exact ⟨L2, j + 1, by have := HWF.out.2.2; show Value.int .i64 (wrap64 ((j : Int) + 1)) = _; rw [w64 (by omega) (by have := Kd.R_reads' HOB.out; have := (Kd.R_reads' HOB.out).2.2.2.1; have := HJ.out; omega)]; rfl, HN, ⟨by have := HK2.out; omega⟩, HO, HS6, BK4, BK5, HOB, HB, ⟨HLW.out.1, HLW.out.2.1, HLW.out.2.2.1, by have := HJ.out; omega, HLW.out.2.2.2.2⟩⟩
              · rw [Bool.eq_false_iff.2 hm] at hlook
                rw [if_neg hm] at hnext
                obtain ⟨b, hPb, hthen⟩ := Option.bind_eq_some_iff.1 hnext
                clear hnext HHN
                obtain ⟨w7, hst, hs7, hgrow⟩ := hs6.store pairKeyed.law Try.underlying235 Try.underlying4 (by have := HWF.out.2.2; unfold maxLen; omega) hkey true
                rw [← pairs_snoc] at hs7
                replace HO := Aside0.mk (Kd.R_grown1 HO.out rfl hgrow (fun e_ => SetB.ne_row hs6 HO.out e_.symm))
                replace HOB := Aside0.mk (Kd.R_grown1 HOB.out rfl hgrow (fun e_ => SetB.ne_row hs6 HOB.out e_.symm))
                replace BK4 := Aside0.mk (blk_grown BK4.out hgrow (SetB.ne_blk hs6 BK4.out))
                replace BK5 := Aside0.mk (blk_grown BK5.out hgrow (SetB.ne_blk hs6 BK5.out))
                replace HB := Aside0.mk (HB.out.grown hgrow HB.out.size (fun q hq => by cases hq; exact GM.out))
                have h7 := blk_grown h6 hgrow (SetB.ne_blk hs6 h6)
                have y0 : w7.cell? ⟨gp, 0, none⟩ = some (.int .i64 x) := (blk_cell h7 0).trans rfl
                have y1 : w7.cell? ⟨gp, 1, none⟩ = some (.int .i64 y) := (blk_cell h7 1).trans rfl
                have y2 : w7.cell? ⟨gp, 2, none⟩ = some (.int .i64 (i : Int)) := (blk_cell h7 2).trans rfl
                have y3 : w7.cell? ⟨gp, 3, none⟩ = some (.int .u8 cb_) := (blk_cell h7 3).trans rfl
                have HS7 := Aside0.mk hs7
                have HPB := Aside0.mk hPb
                have HTH := Aside0.mk hthen
                have HNM := Aside0.mk hnm
                have H7 := Aside0.mk h7
                clear hs6 hkey hm hnm h6 h7 hs7 hgrow hPb hthen ZE
                go_upto_region 15 with (first | ((with_reducible refine gate_builtin (b := .append) (xs := #[.tmp 79, .tmp 81]) rfl ?_); at_builtin; refine Kd.R_append k232 (w0 := w) w.heap.size rfl (.tmp 79) (.tmp 81) 233 232 (.agg #[.int .i64 0, .int .i64 0, .int .i64 0, .int .u8 0]) 32 rfl Try.underlying233 info232 rfl (by decide) (by omega) (.slice (some ado) L2.length co2) L2 (⟨x, y, (i : Int), cb_⟩ : S232) [.int .i64 x, .int .i64 y, .int .i64 (i : Int), .int .u8 cb_] (fun _ => True) (fun _ => False) rfl rfl ?aP (fun _ hk => hk.elim) ?aF ?aO ?aB ?aS ?aL ?_; (case aP => exact k232_mkM _ _ _ (⟨x, y, (i : Int), cb_⟩ : S232)); (case aB => exact (by repeat (first | exact HB.out | apply below_alloc | apply pw_below_drewN | apply below_drew1))); (case aF => exact (fun _ _ => trivial)); (case aO => exact (by (with_reducible repeat (first | apply Kd.R_alloc | apply Kd.R_drewN | apply Kd.R_drew)); exact HO.out)); (case aS => exact (below_size (by repeat (first | exact HB.out | apply below_alloc | apply pw_below_drewN | apply below_drew1)))); (case aL => have := HWF.out.2.2; omega); intro v8 w9 ho hb hg2 hat))
                obtain ⟨_, cO_, hcO⟩ := Kd.row_cells HO.out rfl (b := ado.block) rfl
                obtain ⟨_, cB_, hcB⟩ := Kd.row_cells HOB.out rfl (b := adb.block) rfl
                replace HS7 := Aside0.mk (HS7.out.kept hg2 (fun e_ => SetB.ne_row HS7.out HO.out e_.symm))
                replace HOB := Aside0.mk (Kd.R_grown1 HOB.out rfl hg2 (fun e_ => blk_ne hcO hcB (by decide) (Option.some.inj e_)))
                replace BK4 := Aside0.mk (blk_grown BK4.out hg2 (fun e_ => blk_ne BK4.out hcO (by decide) (Option.some.inj e_)))
                replace BK5 := Aside0.mk (blk_grown BK5.out hg2 (fun e_ => blk_ne BK5.out hcO (by decide) (Option.some.inj e_)))
                have h9 := blk_grown H7.out hg2 (fun e_ => by have e2_ := Option.some.inj e_; have := HGN.out; omega)
                replace y0 : w9.cell? ⟨gp, 0, none⟩ = some (.int .i64 x) := (blk_cell h9 0).trans rfl
                replace y1 : w9.cell? ⟨gp, 1, none⟩ = some (.int .i64 y) := (blk_cell h9 1).trans rfl
                replace HO := Aside0.mk ho
                replace HB := Aside0.mk hb
                clear ho hb hg2 hat hcO hcB h9 H7 y2 y3 hlook hst z0 z1
                go_wp2_with fail
                refine (HP.out w9 x y b HB.out HPB.out).mono ?_
                rintro e w' ⟨rfl, ⟨nd, rfl⟩⟩
                replace HO := Aside0.mk (Kd.R_drewN HO.out nd)
                replace HOB := Aside0.mk (Kd.R_drewN HOB.out nd)
                replace HS7 := Aside0.mk (HS7.out.drewN nd)
                replace HB := Aside0.mk (pw_below_drewN HB.out nd)
                replace BK4 := Aside0.mk (blk_drewN BK4.out nd)
                replace BK5 := Aside0.mk (blk_drewN BK5.out nd)
                generalize w9.drewN nd = w10 at HO HOB HS7 HB BK4 BK5 ⊢
                clear y0 y1
                have hth := HTH.out
                clear HTH
                cases b with
                | true =>
                  rw [if_pos rfl] at hth
                  obtain ⟨t_, ht_, hr_⟩ := Option.bind_eq_some_iff.1 hth
                  have er_ := Option.some.inj hr_
                  subst er_
                  clear hth hr_
                  have HT := Aside0.mk ht_
                  clear ht_
                  have hl3 : (L2 ++ [(⟨x, y, (i : Int), cb_⟩ : S232)]).length = L2.length + 1 := by rw [List.length_append, List.length_singleton]
                  generalize L2 ++ [(⟨x, y, (i : Int), cb_⟩ : S232)] = L3 at HO HT hl3 ⊢
                  have hwl : wrap64 ((L3.length : Int) - 1) = (L2.length : Int) := by
                    have := HWF.out.2.2
                    rw [w64 (by omega) (by omega)]
                    omega
                  obtain ⟨A9, c9, rfl⟩ := Kd.R_slice HO.out
                  clear hl3 hci hci0 hcj hcj0 hu hu2 heg
                  go_wp2_with fail
                  refine (impl_textTo.calls k2 _ _ L3 (L2.length : Int) t_ _ (Kd.R_reads' HO.out).2.2 (Kd.R_reads' HO.out).2.1 HT.out).mono ?_
                  rintro e w' ⟨rfl, hb⟩
                  go_wp2
                  go_ret2
                  exact ⟨rfl, below_step HB.out hb⟩
                | false =>
                  rw [if_neg (by decide)] at hth
                  have HN := Aside0.mk hth
                  clear hth
                  go_wp2
                  go_roundg k2
                  case measure => omega
                  case rel => exact ⟨L2 ++ [⟨x, y, (i : Int), cb_⟩], j + 1, by have := HWF.out.2.2; show Value.int .i64 (wrap64 ((j : Int) + 1)) = _; rw [w64 (by omega) (by have := Kd.R_reads' HOB.out; have := (Kd.R_reads' HOB.out).2.2.2.1; have := HJ.out; omega)]; rfl, HN, ⟨by have := HK2.out; omega⟩, HO, ⟨nm + 1, by have := HNM.out; rw [List.length_append, List.length_singleton]; omega, by rw [prs_snoc _ _ _ HLW.out.1]; exact HS7.out⟩, BK4, BK5, HOB, HB, ⟨by have := HLW.out.1; rw [List.length_append, List.length_singleton]; omega, by have := HWF.out.2.2; rw [List.length_append, List.length_singleton]; omega, by have := HLW.out.2.2.1; rw [List.length_append, List.length_singleton]; omega, by have := HJ.out; omega, fun p hp => by
                    rw [prs_snoc _ _ _ HLW.out.1] at hp
                    rcases List.mem_append.1 hp with hp | hp
                    · exact HLW.out.2.2.2.2 p hp
                    · rw [List.mem_singleton] at hp
                      subst hp
                      exact ⟨HWF.out.1, HWF.out.2.1⟩⟩⟩
          · have hcj := eq_false (show ¬ (j : Int) < (bs.length : Int) by omega)
            cases gk with
            | zero => exact absurd HH2.out (by simp [impl_find.l0])
            | succ k2 =>
              have H := HH2.out
              rw [impl_find.l0, if_pos HLW.out.2.2.1, if_neg hj] at H
              have HN := Aside0.mk H
              clear H HH2 hj
              go_wp2
              go_roundg k2
              case measure => have := HK2.out; omega
              case rel => exact ⟨L2, i + 1, by have := HLW.out.2.1; have := HLW.out.2.2.1; show Value.int .i64 (wrap64 ((i : Int) + 1)) = _; rw [w64 (by omega) (by omega)]; rfl, HN, ⟨by have := HK1.out; have := HK2.out; omega⟩, HO, HS, BK4, BK5, HOB, HB, ⟨HLW.out.1, HLW.out.2.1, by have := HLW.out.2.2.1; omega, HLW.out.2.2.2.2⟩⟩
      · have hcond := eq_false (show ¬ (i : Int) < (L.length : Int) by omega)
        have hr : r = (ByteArray.empty, false) := by
          have h2 := HH.out
          cases gk with
          | zero => simp [impl_find.l0] at h2
          | succ k1 => rw [impl_find.l0, if_neg hlt] at h2; exact (Option.some.inj h2).symm
        subst hr
        clear hlt
        go_wp2
        go_ret2
        exact ⟨rfl, HB.out⟩
  · have heg := HEG.out
    go_enter Try.func128, Try.ntmps128
    go_wp2_with fail
    rw [← HWE.out]
    have HBX := HBW
    have HK4X := HK4
    have HK5X := HK5
    generalize W = X at HBX HK4X HK5X ⊢
    unfold impl_find.g at hG
    obtain ⟨bs, hbs, H⟩ := Option.bind_eq_some_iff.1 hG
    have H' := Aside0.mk H
    clear hG H HWE HBW HK4 HK5 HF
    refine (impl_pairBytes.calls _ _ l0_0 _ _ l1_0 bs X (Kd.C_below HRA.out.1 HBX.out) HCA.out.1 (Kd.C_below HRA.out.2.2.2.1 HBX.out) HCA.out.2.2.2.1 hbs).mono ?_
    rintro e w1 ⟨vb, rfl, hRb, hB1⟩
    have HB := Aside0.mk (below_step HBX.out hB1)
    have BK4 := Aside0.mk (blk_below HK4X.out hB1)
    have BK5 := Aside0.mk (blk_below HK5X.out hB1)
    have HOB := Aside0.mk (Kd.R_lower hRb (below_size HBX.out))
    clear hbs hRb hB1 HK4X HK5X HBX
    have hmm := @run_makeMap Try.prog
    go_wp2_with fail
    refine start_ (n := 10) (S := fun _ => True) (ds := []) #[false, false, false, false, false, false, false, false, false, false] (by kernel_rfl) rfl rfl trivial (fun hHeld => ?_)
    refine take_ (i := 0) (N := some 28) (v := ?_) (a' := ?_) #[true, false, false, false, false, false, false, false, false, false] rfl rfl (by kernel_rfl) (fun _ _ _ h => h) (Or.inl ⟨by rfl, ?_⟩) hHeld ?_ ?_
    rotate_left
    · rintro w' _
      go_simp
      with_reducible rfl
    rotate_left
    · simp only [Act.put, List.setIfInBounds_toArray, List.set_cons_zero, List.set_cons_succ, i64_w, i32_w]
      rfl
    refine take_ (i := 3) (N := some 31) (v := ?_) (a' := ?_) #[true, false, false, true, false, false, false, false, false, false] rfl rfl (by kernel_rfl) (fun _ _ _ h => h) (Or.inl ⟨by rfl, ?_⟩) hHeld ?_ ?_
    rotate_left
    · rintro w' _
      go_simp
      with_reducible rfl
    rotate_left
    · simp only [Act.put, List.setIfInBounds_toArray, List.set_cons_zero, List.set_cons_succ, i64_w, i32_w]
      rfl
    refine take_ (i := 4) (N := some 32) (v := ?_) (a' := ?_) #[true, false, false, true, true, false, false, false, false, false] rfl rfl (by kernel_rfl) (fun _ _ _ h => h) (Or.inl ⟨by rfl, ?_⟩) hHeld ?_ ?_
    rotate_left
    · rintro w' _
      go_simp
      with_reducible rfl
    rotate_left
    · simp only [Act.put, List.setIfInBounds_toArray, List.set_cons_zero, List.set_cons_succ, i64_w, i32_w]
      rfl
    refine take_ (i := 5) (N := some 33) (v := ?_) (a' := ?_) #[true, false, false, true, true, true, false, false, false, false] rfl rfl (by kernel_rfl) (fun _ _ _ h => h) (Or.inl ⟨by rfl, ?_⟩) hHeld ?_ ?_
    rotate_left
    · rintro w' _
      go_simp
      with_reducible rfl
    rotate_left
    · simp only [Act.put, List.setIfInBounds_toArray, List.set_cons_zero, List.set_cons_succ, i64_w, i32_w]
      rfl
    have hb := below_drew1 (Below.refl w1.heap.size w1)
    generalize w1.drew = ws at hb ⊢
    replace HB := Aside0.mk (below_step HB.out hb)
    replace BK4 := Aside0.mk (blk_below BK4.out hb)
    replace BK5 := Aside0.mk (blk_below BK5.out hb)
    replace HOB := Aside0.mk (Kd.R_below HOB.out hb)
    clear hb
    refine join_ (σ := Value × Nat) 1 #[true, true, true, true, true, true, true, true, true, false] (fun s_ => [(29, s_.1), (30, .map (some s_.2)), (34, .map (some s_.2)), (11, s_.1)]) (fun s_ w' => Kd.R k232 232 w' w.heap.size (fun _ => True) s_.1 [⟨0, 0, 0, 0⟩] ∧ SetB w' Try.prog 234 4 s_.2 1 (pairs []) ∧ Below w.heap.size w w' ∧ (w'.heap[w.heap.size]? = some (.cells #[.slice A0_0 l0_0.length c0_0, .slice A0_1 l0_1.length c0_1, .slice A0_2 l0_2.length c0_2] 84 (0, 0)) ∧ w'.heap[w.heap.size + 1]? = some (.cells #[.slice A1_0 l1_0.length c1_0, .slice A1_1 l1_1.length c1_1, .slice A1_2 l1_2.length c1_2] 84 (0, 0))) ∧ Kd.R (Kd.int .u8) 5 w' w.heap.size (fun _ => True) vb bs ∧ w.heap.size ≤ s_.2) ?_ ?_
    rotate_left
    · intro hJ
      refine two_ (i := 1) (j := 2) (Ni := some 29) (Nj := some 30) #[true, true, false, true, true, true, false, false, false, false] #[true, false, true, true, true, true, false, false, false, false] rfl rfl rfl rfl (by kernel_rfl) (by decide) (by decide) (fun K hK => ?_) (fun K hK => ?_)
      · refine Kd.R_lit_step k232 (w0 := ws) ws.heap.size 232 (by rfl) (N := 29) rfl (xs := [⟨0, 0, 0, 0⟩]) (inner := [.int .i64 0, .int .i64 0, .int .i64 0, .int .u8 0]) (ok := fun _ => True) (okp := fun _ => True) ?hr ?hp (fun _ hk => hk) trivial (Below.refl _ _) (Nat.le_refl _) (by simp) ?_
        case hr => first | (go_simp; done) | (go_simp; rfl)
        case hp => exact walk_zero _ _
        intro v29 we9 ho hb hg_ hn_
        have HO := Aside0.mk (Kd.R_lower ho (below_size HB.out))
        replace HB := Aside0.mk (below_step HB.out hb)
        replace BK4 := Aside0.mk (blk_below BK4.out hb)
        replace BK5 := Aside0.mk (blk_below BK5.out hb)
        replace HOB := Aside0.mk (Kd.R_below HOB.out hb)
        clear ho hb hg_ hn_
        refine hK.out _ _ trivial (fun hHeld => ?_)
        clear hK K
        refine norm_ (a' := ?_) ?_ ?_
        rotate_left
        · show Act.put _ (some 29) _ = _
          simp only [Act.put, List.setIfInBounds_toArray, List.set_cons_zero, List.set_cons_succ, i64_w, i32_w]
          rfl
        refine pure_ (i := 8) (N := some 11) (v := ?_) (a' := ?_) #[true, true, false, true, true, true, false, false, true, false] rfl rfl (by kernel_rfl) (fun _ _ _ h => h) (Or.inl ⟨by rfl, ?_⟩) ?_ ?_
        rotate_left
        · intro w'
          go_simp
          with_reducible rfl
        rotate_left
        · simp only [Act.put, List.setIfInBounds_toArray, List.set_cons_zero, List.set_cons_succ, i64_w, i32_w]
          rfl
        refine one_ (i := 2) (N := some 30) #[true, true, true, true, true, true, false, false, true, false] rfl rfl (by kernel_rfl) (by decide) (fun K hK => ?_)
        obtain ⟨bm, ebm⟩ : ∃ q_, q_ = we9.heap.size := ⟨_, rfl⟩
        have GM := Aside0.mk (show w.heap.size ≤ bm by rw [ebm]; exact below_size HB.out)
        refine event_step (v := .map (some bm)) (w1 := we9.alloc (.map #[] 0)) (by rfl) (by rw [ebm]; first | (go_simp; done) | (go_simp; rfl)) ?_
        have hb : Below we9.heap.size we9 (we9.alloc (.map #[] 0)) := below_alloc (Below.refl _ _) _
        have hs_ := SetB.made we9 Try.prog 234 4
        generalize we9.alloc (.map #[] 0) = we10 at hb hs_ ⊢
        rw [← ebm] at hs_
        clear ebm
        have HS := Aside0.mk hs_
        clear hs_
        replace HO := Aside0.mk (Kd.R_below HO.out hb)
        replace HB := Aside0.mk (below_step HB.out hb)
        replace BK4 := Aside0.mk (blk_below BK4.out hb)
        replace BK5 := Aside0.mk (blk_below BK5.out hb)
        replace HOB := Aside0.mk (Kd.R_below HOB.out hb)
        clear hb
        refine hK.out _ _ trivial (fun hHeld => ?_)
        clear hK K
        refine norm_ (a' := ?_) ?_ ?_
        rotate_left
        · show Act.put _ (some 30) _ = _
          simp only [Act.put, List.setIfInBounds_toArray, List.set_cons_zero, List.set_cons_succ, i64_w, i32_w]
          rfl
        refine one_ (i := 6) (N := none) #[true, true, true, true, true, true, true, false, true, false] rfl rfl (by kernel_rfl) (by decide) (fun K hK => ?_)
        obtain ⟨we11, hst, hs_, hg_⟩ := HS.out.store pairKeyed.law Try.underlying235 Try.underlying4 (by decide) (pairKeyed.key (a := 0) (b := 0) (by decide) (by decide)) false
        refine skip_ (w1 := we11) (by rfl) rfl ?_ ?_
        · first | (go_simp; done) | (go_simp; rfl)
        replace HB := Aside0.mk (HB.out.grown hg_ HB.out.size (fun j hj => by cases hj; exact GM.out))
        replace BK4 := Aside0.mk (blk_grown BK4.out hg_ (SetB.ne_blk HS.out BK4.out))
        replace BK5 := Aside0.mk (blk_grown BK5.out hg_ (SetB.ne_blk HS.out BK5.out))
        replace HOB := Aside0.mk (Kd.R_grown1 HOB.out rfl hg_ (fun e_ => SetB.ne_row HS.out HOB.out e_.symm))
        replace HO := Aside0.mk (Kd.R_grown1 HO.out rfl hg_ (fun e_ => SetB.ne_row HS.out HO.out e_.symm))
        rw [find_map1] at hs_
        replace HS := Aside0.mk hs_
        clear hs_ hg_ hst
        refine hK.out _ _ trivial (fun hHeld => ?_)
        clear hK K
        refine pure_ (i := 7) (N := some 34) (v := ?_) (a' := ?_) #[true, true, true, true, true, true, true, true, true, false] rfl rfl (by kernel_rfl) (fun _ _ _ h => h) (Or.inl ⟨by rfl, ?_⟩) ?_ ?_
        rotate_left
        · intro w'
          go_simp
          with_reducible rfl
        rotate_left
        · simp only [Act.put, List.setIfInBounds_toArray, List.set_cons_zero, List.set_cons_succ, i64_w, i32_w]
          rfl
        exact norm_ (by first | rfl | (simp only [putAll, Act.put, List.setIfInBounds_toArray, List.set_cons_zero, List.set_cons_succ]; done)) (hJ (v29, bm) _ ⟨HO.out, HS.out, HB.out, ⟨BK4.out, BK5.out⟩, HOB.out, GM.out⟩)
      · obtain ⟨bm, ebm⟩ : ∃ q_, q_ = ws.heap.size := ⟨_, rfl⟩
        have GM := Aside0.mk (show w.heap.size ≤ bm by rw [ebm]; exact below_size HB.out)
        refine event_step (v := .map (some bm)) (w1 := ws.alloc (.map #[] 0)) (by rfl) (by rw [ebm]; first | (go_simp; done) | (go_simp; rfl)) ?_
        have hb : Below ws.heap.size ws (ws.alloc (.map #[] 0)) := below_alloc (Below.refl _ _) _
        have hs_ := SetB.made ws Try.prog 234 4
        generalize ws.alloc (.map #[] 0) = we12 at hb hs_ ⊢
        rw [← ebm] at hs_
        clear ebm
        have HS := Aside0.mk hs_
        clear hs_
        replace HB := Aside0.mk (below_step HB.out hb)
        replace BK4 := Aside0.mk (blk_below BK4.out hb)
        replace BK5 := Aside0.mk (blk_below BK5.out hb)
        replace HOB := Aside0.mk (Kd.R_below HOB.out hb)
        clear hb
        refine hK.out _ _ trivial (fun hHeld => ?_)
        clear hK K
        refine norm_ (a' := ?_) ?_ ?_
        rotate_left
        · show Act.put _ (some 30) _ = _
          simp only [Act.put, List.setIfInBounds_toArray, List.set_cons_zero, List.set_cons_succ, i64_w, i32_w]
          rfl
        refine two_ (i := 1) (j := 6) (Ni := some 29) (Nj := none) #[true, true, true, true, true, true, false, false, false, false] #[true, false, true, true, true, true, true, false, false, false] rfl rfl rfl rfl (by kernel_rfl) (by decide) (by decide) (fun K hK => ?_) (fun K hK => ?_)
        · refine Kd.R_lit_step k232 (w0 := we12) we12.heap.size 232 (by rfl) (N := 29) rfl (xs := [⟨0, 0, 0, 0⟩]) (inner := [.int .i64 0, .int .i64 0, .int .i64 0, .int .u8 0]) (ok := fun _ => True) (okp := fun _ => True) ?hr ?hp (fun _ hk => hk) trivial (Below.refl _ _) (Nat.le_refl _) (by simp) ?_
          case hr => first | (go_simp; done) | (go_simp; rfl)
          case hp => exact walk_zero _ _
          intro v29 we13 ho hb hg_ hn_
          have HO := Aside0.mk (Kd.R_lower ho (below_size HB.out))
          replace HB := Aside0.mk (below_step HB.out hb)
          replace BK4 := Aside0.mk (blk_below BK4.out hb)
          replace BK5 := Aside0.mk (blk_below BK5.out hb)
          replace HOB := Aside0.mk (Kd.R_below HOB.out hb)
          replace HS := Aside0.mk (HS.out.below hb)
          clear ho hb hg_ hn_
          refine hK.out _ _ trivial (fun hHeld => ?_)
          clear hK K
          refine norm_ (a' := ?_) ?_ ?_
          rotate_left
          · show Act.put _ (some 29) _ = _
            simp only [Act.put, List.setIfInBounds_toArray, List.set_cons_zero, List.set_cons_succ, i64_w, i32_w]
            rfl
          refine pure_ (i := 8) (N := some 11) (v := ?_) (a' := ?_) #[true, true, true, true, true, true, false, false, true, false] rfl rfl (by kernel_rfl) (fun _ _ _ h => h) (Or.inl ⟨by rfl, ?_⟩) ?_ ?_
          rotate_left
          · intro w'
            go_simp
            with_reducible rfl
          rotate_left
          · simp only [Act.put, List.setIfInBounds_toArray, List.set_cons_zero, List.set_cons_succ, i64_w, i32_w]
            rfl
          refine one_ (i := 6) (N := none) #[true, true, true, true, true, true, true, false, true, false] rfl rfl (by kernel_rfl) (by decide) (fun K hK => ?_)
          obtain ⟨we14, hst, hs_, hg_⟩ := HS.out.store pairKeyed.law Try.underlying235 Try.underlying4 (by decide) (pairKeyed.key (a := 0) (b := 0) (by decide) (by decide)) false
          refine skip_ (w1 := we14) (by rfl) rfl ?_ ?_
          · first | (go_simp; done) | (go_simp; rfl)
          replace HB := Aside0.mk (HB.out.grown hg_ HB.out.size (fun j hj => by cases hj; exact GM.out))
          replace BK4 := Aside0.mk (blk_grown BK4.out hg_ (SetB.ne_blk HS.out BK4.out))
          replace BK5 := Aside0.mk (blk_grown BK5.out hg_ (SetB.ne_blk HS.out BK5.out))
          replace HOB := Aside0.mk (Kd.R_grown1 HOB.out rfl hg_ (fun e_ => SetB.ne_row HS.out HOB.out e_.symm))
          replace HO := Aside0.mk (Kd.R_grown1 HO.out rfl hg_ (fun e_ => SetB.ne_row HS.out HO.out e_.symm))
          rw [find_map1] at hs_
          replace HS := Aside0.mk hs_
          clear hs_ hg_ hst
          refine hK.out _ _ trivial (fun hHeld => ?_)
          clear hK K
          refine pure_ (i := 7) (N := some 34) (v := ?_) (a' := ?_) #[true, true, true, true, true, true, true, true, true, false] rfl rfl (by kernel_rfl) (fun _ _ _ h => h) (Or.inl ⟨by rfl, ?_⟩) ?_ ?_
          rotate_left
          · intro w'
            go_simp
            with_reducible rfl
          rotate_left
          · simp only [Act.put, List.setIfInBounds_toArray, List.set_cons_zero, List.set_cons_succ, i64_w, i32_w]
            rfl
          exact norm_ (by first | rfl | (simp only [putAll, Act.put, List.setIfInBounds_toArray, List.set_cons_zero, List.set_cons_succ]; done)) (hJ (v29, bm) _ ⟨HO.out, HS.out, HB.out, ⟨BK4.out, BK5.out⟩, HOB.out, GM.out⟩)
        · obtain ⟨we15, hst, hs_, hg_⟩ := HS.out.store pairKeyed.law Try.underlying235 Try.underlying4 (by decide) (pairKeyed.key (a := 0) (b := 0) (by decide) (by decide)) false
          refine skip_ (w1 := we15) (by rfl) rfl ?_ ?_
          · first | (go_simp; done) | (go_simp; rfl)
          replace HB := Aside0.mk (HB.out.grown hg_ HB.out.size (fun j hj => by cases hj; exact GM.out))
          replace BK4 := Aside0.mk (blk_grown BK4.out hg_ (SetB.ne_blk HS.out BK4.out))
          replace BK5 := Aside0.mk (blk_grown BK5.out hg_ (SetB.ne_blk HS.out BK5.out))
          replace HOB := Aside0.mk (Kd.R_grown1 HOB.out rfl hg_ (fun e_ => SetB.ne_row HS.out HOB.out e_.symm))
          rw [find_map1] at hs_
          replace HS := Aside0.mk hs_
          clear hs_ hg_ hst
          refine hK.out _ _ trivial (fun hHeld => ?_)
          clear hK K
          refine pure_ (i := 7) (N := some 34) (v := ?_) (a' := ?_) #[true, false, true, true, true, true, true, true, false, false] rfl rfl (by kernel_rfl) (fun _ _ _ h => h) (Or.inl ⟨by rfl, ?_⟩) ?_ ?_
          rotate_left
          · intro w'
            go_simp
            with_reducible rfl
          rotate_left
          · simp only [Act.put, List.setIfInBounds_toArray, List.set_cons_zero, List.set_cons_succ, i64_w, i32_w]
            rfl
          refine one_ (i := 1) (N := some 29) #[true, true, true, true, true, true, true, true, false, false] rfl rfl (by kernel_rfl) (by decide) (fun K hK => ?_)
          refine Kd.R_lit_step k232 (w0 := we15) we15.heap.size 232 (by rfl) (N := 29) rfl (xs := [⟨0, 0, 0, 0⟩]) (inner := [.int .i64 0, .int .i64 0, .int .i64 0, .int .u8 0]) (ok := fun _ => True) (okp := fun _ => True) ?hr ?hp (fun _ hk => hk) trivial (Below.refl _ _) (Nat.le_refl _) (by simp) ?_
          case hr => first | (go_simp; done) | (go_simp; rfl)
          case hp => exact walk_zero _ _
          intro v29 we16 ho hb hg_ hn_
          have HO := Aside0.mk (Kd.R_lower ho (below_size HB.out))
          replace HB := Aside0.mk (below_step HB.out hb)
          replace BK4 := Aside0.mk (blk_below BK4.out hb)
          replace BK5 := Aside0.mk (blk_below BK5.out hb)
          replace HOB := Aside0.mk (Kd.R_below HOB.out hb)
          replace HS := Aside0.mk (HS.out.below hb)
          clear ho hb hg_ hn_
          refine hK.out _ _ trivial (fun hHeld => ?_)
          clear hK K
          refine norm_ (a' := ?_) ?_ ?_
          rotate_left
          · show Act.put _ (some 29) _ = _
            simp only [Act.put, List.setIfInBounds_toArray, List.set_cons_zero, List.set_cons_succ, i64_w, i32_w]
            rfl
          refine pure_ (i := 8) (N := some 11) (v := ?_) (a' := ?_) #[true, true, true, true, true, true, true, true, true, false] rfl rfl (by kernel_rfl) (fun _ _ _ h => h) (Or.inl ⟨by rfl, ?_⟩) ?_ ?_
          rotate_left
          · intro w'
            go_simp
            with_reducible rfl
          rotate_left
          · simp only [Act.put, List.setIfInBounds_toArray, List.set_cons_zero, List.set_cons_succ, i64_w, i32_w]
            rfl
          exact norm_ (by first | rfl | (simp only [putAll, Act.put, List.setIfInBounds_toArray, List.set_cons_zero, List.set_cons_succ]; done)) (hJ (v29, bm) _ ⟨HO.out, HS.out, HB.out, ⟨BK4.out, BK5.out⟩, HOB.out, GM.out⟩)
    rintro ⟨v29, bm⟩ w2 ⟨f0_, f1_, f2_, ⟨f3_, f4_⟩, f5_, f6_⟩
    have HO := Aside0.mk f0_
    have HS := Aside0.mk f1_
    replace HB := Aside0.mk f2_
    replace BK4 := Aside0.mk f3_
    replace BK5 := Aside0.mk f4_
    replace HOB := Aside0.mk f5_
    have GM := Aside0.mk f6_
    clear f0_ f1_ f2_ f3_ f4_ f5_ f6_
    refine norm_ (a' := ?_) ?_ ?_
    rotate_left
    · simp only [putAll, Act.put, List.setIfInBounds_toArray, List.set_cons_zero, List.set_cons_succ, i64_w, i32_w]
      rfl
    refine pure_ (i := 9) (N := some 12) (v := ?_) (a' := ?_) #[true, true, true, true, true, true, true, true, true, true] rfl rfl (by kernel_rfl) (fun _ _ _ h => h) (Or.inl ⟨by rfl, ?_⟩) ?_ ?_
    rotate_left
    · intro w'
      go_simp
      with_reducible rfl
    rotate_left
    · simp only [Act.put, List.setIfInBounds_toArray, List.set_cons_zero, List.set_cons_succ, i64_w, i32_w]
      rfl
    refine done_ (by kernel_rfl) ?_
    clear hmm
    obtain ⟨Ab, cb, rfl⟩ := Kd.R_slice HOB.out
    go_wp2
    go_loopg [11, 13] k (fun gk v11 v13 wr => ∃ (L : List S232) (i : Nat), v13 = .int .i64 i ∧ Aside0 (impl_find.l0 P 1 l0_0 l0_1 l0_2 l1_0 l1_1 l1_2 bs gk L i 0 = some r) ∧ Aside0 (gk ≤ k) ∧ Aside0 (Kd.R k232 232 wr w.heap.size (fun _ => True) v11 L) ∧ Aside0 (∃ n', n' ≤ L.length ∧ SetB wr Try.prog 234 4 bm n' (pairs (prs 1 L))) ∧ Aside0 (wr.heap[w.heap.size]? = some (.cells #[.slice A0_0 l0_0.length c0_0, .slice A0_1 l0_1.length c0_1, .slice A0_2 l0_2.length c0_2] 84 (0, 0))) ∧ Aside0 (wr.heap[w.heap.size + 1]? = some (.cells #[.slice A1_0 l1_0.length c1_0, .slice A1_1 l1_1.length c1_1, .slice A1_2 l1_2.length c1_2] 84 (0, 0))) ∧ Aside0 (Kd.R (Kd.int .u8) 5 wr w.heap.size (fun _ => True) (.slice Ab bs.length cb) bs) ∧ Aside0 (Below w.heap.size w wr) ∧ Aside0 (1 ≤ L.length ∧ L.length ≤ 100000000 ∧ i ≤ L.length ∧ (∀ p ∈ prs 1 L, (Lit.int .i64 p.1).wf = true ∧ (Lit.int .i64 p.2).wf = true)))
    case atStart => exact ⟨[⟨0, 0, 0, 0⟩], 0, rfl, H', ⟨Nat.le_refl _⟩, HO, ⟨1, Nat.le_refl _, HS.out⟩, BK4, BK5, HOB, HB, ⟨by decide, by decide, by decide, by decide⟩⟩
    case round =>
      clear H' HO HS BK4 BK5 HOB HB
      obtain ⟨L, i, rfl, HH, HK1, HO, HS, BK4, BK5, HOB, HB, HLW⟩ := hrel
      obtain ⟨Ao, co, rfl⟩ := Kd.R_slice HO.out
      by_cases hlt : i < L.length
      · have hcond := eq_true (show (i : Int) < (L.length : Int) by omega)
        clear hlt
        go_wp2
        go_loopg [11, 43] gk (fun gk2 v11 v43 wr2 => ∃ (L2 : List S232) (j : Nat), v43 = .int .i64 j ∧ Aside0 (impl_find.l0 P 1 l0_0 l0_1 l0_2 l1_0 l1_1 l1_2 bs gk2 L2 i j = some r) ∧ Aside0 (gk2 ≤ gk) ∧ Aside0 (Kd.R k232 232 wr2 w.heap.size (fun _ => True) v11 L2) ∧ Aside0 (∃ n', n' ≤ L2.length ∧ SetB wr2 Try.prog 234 4 bm n' (pairs (prs 1 L2))) ∧ Aside0 (wr2.heap[w.heap.size]? = some (.cells #[.slice A0_0 l0_0.length c0_0, .slice A0_1 l0_1.length c0_1, .slice A0_2 l0_2.length c0_2] 84 (0, 0))) ∧ Aside0 (wr2.heap[w.heap.size + 1]? = some (.cells #[.slice A1_0 l1_0.length c1_0, .slice A1_1 l1_1.length c1_1, .slice A1_2 l1_2.length c1_2] 84 (0, 0))) ∧ Aside0 (Kd.R (Kd.int .u8) 5 wr2 w.heap.size (fun _ => True) (.slice Ab bs.length cb) bs) ∧ Aside0 (Below w.heap.size w wr2) ∧ Aside0 (1 ≤ L2.length ∧ L2.length ≤ 100000000 ∧ i < L2.length ∧ j ≤ bs.length ∧ (∀ p ∈ prs 1 L2, (Lit.int .i64 p.1).wf = true ∧ (Lit.int .i64 p.2).wf = true)))
        case atStart => exact ⟨L, 0, rfl, HH, ⟨Nat.le_refl _⟩, HO, HS, BK4, BK5, HOB, HB, ⟨HLW.out.1, HLW.out.2.1, of_eq_true (by rw [← hcond]; exact propext ⟨fun h => by omega, fun h => by omega⟩), Nat.zero_le _, HLW.out.2.2.2⟩⟩
        case round =>
          clear HH HO HS BK4 BK5 HOB HB HLW hcond
          obtain ⟨L2, j, rfl, HH2, HK2, HO, HS, BK4, BK5, HOB, HB, HLW⟩ := hrel
          obtain ⟨Ao2, co2, rfl⟩ := Kd.R_slice HO.out
          have hci := eq_true (show (i : Int) < (L2.length : Int) by have := HLW.out.2.2.1; omega)
          have hci0 := eq_true (show (0 : Int) ≤ (i : Int) by omega)
          by_cases hj : j < bs.length
          · have hcj := eq_true (show (j : Int) < (bs.length : Int) by omega)
            have hcj0 := eq_true (show (0 : Int) ≤ (j : Int) by omega)
            cases gk with
            | zero => exact absurd HH2.out (by simp [impl_find.l0])
            | succ k2 =>
              have H := HH2.out
              rw [impl_find.l0, if_pos HLW.out.2.2.1, if_pos hj] at H
              obtain ⟨x, hx, Hx_⟩ := Option.bind_eq_some_iff.1 H
              clear H
              obtain ⟨y, hy, Hy_⟩ := Option.bind_eq_some_iff.1 Hx_
              clear Hx_
              by_cases hwf : (Lit.int .i64 x).wf = true ∧ (Lit.int .i64 y).wf = true ∧ L2.length < 100000000
              case neg => rw [if_neg hwf] at Hy_; cases Hy_
              rw [if_pos hwf] at Hy_
              obtain ⟨adb, eb, hxb⟩ := Kd.at_int (Kd.R_reads' HOB.out).2.2 (j : Int) (by omega) (by omega)
              cases eb
              obtain ⟨ado, eo2, hx0, hx1, hx2, hx3⟩ := at_T232 (Kd.R_reads' HO.out).2.2 (i : Int) (by omega) (by have := HLW.out.2.2.1; omega)
              cases eo2
              rw [Int.toNat_natCast] at hxb hx0 hx1 hx2 hx3
              generalize rd bs (j : Int) = cb_ at *
              generalize (rd_T232 L2 (i : Int)).f0 = p0 at *
              generalize (rd_T232 L2 (i : Int)).f1 = p1 at *
              have HX := Aside0.mk hx
              have HY := Aside0.mk hy
              have HWF := Aside0.mk hwf
              have HHN := Aside0.mk Hy_
              have HJ := Aside0.mk hj
              clear hx hy hwf Hy_ hj HH2 hx2 hx3
              have HGN := Aside0.mk (Kd.row_cells HO.out rfl (b := ado.block) rfl).1
              go_wp2
              have y0 : wr.cell? ⟨w.heap.size, 0, none⟩ = some (.slice A0_0 l0_0.length c0_0) := (blk_cell BK4.out 0).trans rfl
              have y1 : wr.cell? ⟨w.heap.size, 1, none⟩ = some (.slice A0_1 l0_1.length c0_1) := (blk_cell BK4.out 1).trans rfl
              have y2 : wr.cell? ⟨w.heap.size, 2, none⟩ = some (.slice A0_2 l0_2.length c0_2) := (blk_cell BK4.out 2).trans rfl
              have y3 : wr.cell? ⟨w.heap.size + 1, 0, none⟩ = some (.slice A1_0 l1_0.length c1_0) := (blk_cell BK5.out 0).trans rfl
              have y4 : wr.cell? ⟨w.heap.size + 1, 1, none⟩ = some (.slice A1_1 l1_1.length c1_1) := (blk_cell BK5.out 1).trans rfl
              have y5 : wr.cell? ⟨w.heap.size + 1, 2, none⟩ = some (.slice A1_2 l1_2.length c1_2) := (blk_cell BK5.out 2).trans rfl
              have y6 := hx0
              have y7 := hx1
              have HSH := Aside0.mk (show ∀ W' : World, Below wr.heap.size wr W' → (fun w' => w'.cell? ⟨w.heap.size, 0, none⟩ = some (.slice A0_0 l0_0.length c0_0) ∧ w'.cell? ⟨w.heap.size, 1, none⟩ = some (.slice A0_1 l0_1.length c0_1) ∧ w'.cell? ⟨w.heap.size, 2, none⟩ = some (.slice A0_2 l0_2.length c0_2) ∧ w'.cell? ⟨w.heap.size + 1, 0, none⟩ = some (.slice A1_0 l1_0.length c1_0) ∧ w'.cell? ⟨w.heap.size + 1, 1, none⟩ = some (.slice A1_1 l1_1.length c1_1) ∧ w'.cell? ⟨w.heap.size + 1, 2, none⟩ = some (.slice A1_2 l1_2.length c1_2) ∧ w'.cell? (ado.add (i * 4)) = some (.int .i64 p0) ∧ w'.cell? ⟨(ado.add (i * 4)).block, (ado.add (i * 4)).off + 1, none⟩ = some (.int .i64 p1)) W' from fun W' hb => ⟨(hb.cell (World.block_lt_of_cell? _ _ y0)).trans y0, (hb.cell (World.block_lt_of_cell? _ _ y1)).trans y1, (hb.cell (World.block_lt_of_cell? _ _ y2)).trans y2, (hb.cell (World.block_lt_of_cell? _ _ y3)).trans y3, (hb.cell (World.block_lt_of_cell? _ _ y4)).trans y4, (hb.cell (World.block_lt_of_cell? _ _ y5)).trans y5, (hb.cell (World.block_lt_of_cell? _ _ y6)).trans y6, (hb.cell (World.block_lt_of_cell? _ _ y7)).trans y7⟩)
              clear y0 y1 y2 y3 y4 y5 y6 y7 hx0 hx1 hxb
              have hW := below_drew1 (Below.refl wr.heap.size wr)
              refine start_ (n := 21) (S := fun w' => w'.cell? ⟨w.heap.size, 0, none⟩ = some (.slice A0_0 l0_0.length c0_0) ∧ w'.cell? ⟨w.heap.size, 1, none⟩ = some (.slice A0_1 l0_1.length c0_1) ∧ w'.cell? ⟨w.heap.size, 2, none⟩ = some (.slice A0_2 l0_2.length c0_2) ∧ w'.cell? ⟨w.heap.size + 1, 0, none⟩ = some (.slice A1_0 l1_0.length c1_0) ∧ w'.cell? ⟨w.heap.size + 1, 1, none⟩ = some (.slice A1_1 l1_1.length c1_1) ∧ w'.cell? ⟨w.heap.size + 1, 2, none⟩ = some (.slice A1_2 l1_2.length c1_2) ∧ w'.cell? (ado.add (i * 4)) = some (.int .i64 p0) ∧ w'.cell? ⟨(ado.add (i * 4)).block, (ado.add (i * 4)).off + 1, none⟩ = some (.int .i64 p1)) (ds := [20]) #[false, false, false, false, false, false, false, false, false, false, false, false, false, false, false, false, false, false, false, false, false] (by kernel_rfl) rfl rfl (HSH.out _ hW) (fun hHeld => ?_)
              refine take_ (i := 0) (N := some 47) (v := ?_) (a' := ?_) #[true, false, false, false, false, false, false, false, false, false, false, false, false, false, false, false, false, false, false, false, false] rfl rfl (by kernel_rfl) (fun _ _ _ h => h) (Or.inl ⟨by rfl, ?_⟩) hHeld ?_ ?_
              rotate_left
              · rintro w' ⟨s0, s1, s2, s3, s4, s5, s6, s7⟩
                go_simp
                with_reducible rfl
              rotate_left
              · simp only [Act.put, List.setIfInBounds_toArray, List.set_cons_zero, List.set_cons_succ, i64_w, i32_w]
                rfl
              refine take_ (i := 1) (N := some 48) (v := ?_) (a' := ?_) #[true, true, false, false, false, false, false, false, false, false, false, false, false, false, false, false, false, false, false, false, false] rfl rfl (by kernel_rfl) (fun _ _ _ h => h) (Or.inl ⟨by rfl, ?_⟩) hHeld ?_ ?_
              rotate_left
              · rintro w' ⟨s0, s1, s2, s3, s4, s5, s6, s7⟩
                go_simp
                with_reducible rfl
              rotate_left
              · simp only [Act.put, List.setIfInBounds_toArray, List.set_cons_zero, List.set_cons_succ, i64_w, i32_w]
                rfl
              refine take_ (i := 2) (N := some 49) (v := ?_) (a' := ?_) #[true, true, true, false, false, false, false, false, false, false, false, false, false, false, false, false, false, false, false, false, false] rfl rfl (by kernel_rfl) (fun _ _ _ h => h) (Or.inl ⟨by rfl, ?_⟩) hHeld ?_ ?_
              rotate_left
              · rintro w' ⟨s0, s1, s2, s3, s4, s5, s6, s7⟩
                go_simp
                with_reducible rfl
              rotate_left
              · simp only [Act.put, List.setIfInBounds_toArray, List.set_cons_zero, List.set_cons_succ, i64_w, i32_w]
                rfl
              refine take_ (i := 3) (N := some 50) (v := ?_) (a' := ?_) #[true, true, true, true, false, false, false, false, false, false, false, false, false, false, false, false, false, false, false, false, false] rfl rfl (by kernel_rfl) (fun _ _ _ h => h) (Or.inl ⟨by rfl, ?_⟩) hHeld ?_ ?_
              rotate_left
              · rintro w' ⟨s0, s1, s2, s3, s4, s5, s6, s7⟩
                go_simp
                with_reducible rfl
              rotate_left
              · simp only [Act.put, List.setIfInBounds_toArray, List.set_cons_zero, List.set_cons_succ, i64_w, i32_w]
                rfl
              refine take_ (i := 4) (N := some 51) (v := ?_) (a' := ?_) #[true, true, true, true, true, false, false, false, false, false, false, false, false, false, false, false, false, false, false, false, false] rfl rfl (by kernel_rfl) (fun _ _ _ h => h) (Or.inl ⟨by rfl, ?_⟩) hHeld ?_ ?_
              rotate_left
              · rintro w' ⟨s0, s1, s2, s3, s4, s5, s6, s7⟩
                go_simp
                with_reducible rfl
              rotate_left
              · simp only [Act.put, List.setIfInBounds_toArray, List.set_cons_zero, List.set_cons_succ, i64_w, i32_w]
                rfl
              refine take_ (i := 5) (N := some 52) (v := ?_) (a' := ?_) #[true, true, true, true, true, true, false, false, false, false, false, false, false, false, false, false, false, false, false, false, false] rfl rfl (by kernel_rfl) (fun _ _ _ h => h) (Or.inl ⟨by rfl, ?_⟩) hHeld ?_ ?_
              rotate_left
              · rintro w' ⟨s0, s1, s2, s3, s4, s5, s6, s7⟩
                go_simp
                with_reducible rfl
              rotate_left
              · simp only [Act.put, List.setIfInBounds_toArray, List.set_cons_zero, List.set_cons_succ, i64_w, i32_w]
                rfl
              refine take_ (i := 6) (N := some 53) (v := ?_) (a' := ?_) #[true, true, true, true, true, true, true, false, false, false, false, false, false, false, false, false, false, false, false, false, false] rfl rfl (by kernel_rfl) (fun _ _ _ h => h) (Or.inl ⟨by rfl, ?_⟩) hHeld ?_ ?_
              rotate_left
              · rintro w' ⟨s0, s1, s2, s3, s4, s5, s6, s7⟩
                go_simp
                with_reducible rfl
              rotate_left
              · simp only [Act.put, List.setIfInBounds_toArray, List.set_cons_zero, List.set_cons_succ, i64_w, i32_w]
                rfl
              refine take_ (i := 8) (N := some 55) (v := ?_) (a' := ?_) #[true, true, true, true, true, true, true, false, true, false, false, false, false, false, false, false, false, false, false, false, false] rfl rfl (by kernel_rfl) (fun _ _ _ h => h) (Or.inl ⟨by rfl, ?_⟩) hHeld ?_ ?_
              rotate_left
              · rintro w' ⟨s0, s1, s2, s3, s4, s5, s6, s7⟩
                go_simp
                with_reducible rfl
              rotate_left
              · simp only [Act.put, List.setIfInBounds_toArray, List.set_cons_zero, List.set_cons_succ, i64_w, i32_w]
                rfl
              refine take_ (i := 9) (N := some 56) (v := ?_) (a' := ?_) #[true, true, true, true, true, true, true, false, true, true, false, false, false, false, false, false, false, false, false, false, false] rfl rfl (by kernel_rfl) (fun _ _ _ h => h) (Or.inl ⟨by rfl, ?_⟩) hHeld ?_ ?_
              rotate_left
              · rintro w' ⟨s0, s1, s2, s3, s4, s5, s6, s7⟩
                go_simp
                with_reducible rfl
              rotate_left
              · simp only [Act.put, List.setIfInBounds_toArray, List.set_cons_zero, List.set_cons_succ, i64_w, i32_w]
                rfl
              refine take_ (i := 10) (N := some 57) (v := ?_) (a' := ?_) #[true, true, true, true, true, true, true, false, true, true, true, false, false, false, false, false, false, false, false, false, false] rfl rfl (by kernel_rfl) (fun _ _ _ h => h) (Or.inl ⟨by rfl, ?_⟩) hHeld ?_ ?_
              rotate_left
              · rintro w' ⟨s0, s1, s2, s3, s4, s5, s6, s7⟩
                go_simp
                with_reducible rfl
              rotate_left
              · simp only [Act.put, List.setIfInBounds_toArray, List.set_cons_zero, List.set_cons_succ, i64_w, i32_w]
                rfl
              refine take_ (i := 11) (N := some 58) (v := ?_) (a' := ?_) #[true, true, true, true, true, true, true, false, true, true, true, true, false, false, false, false, false, false, false, false, false] rfl rfl (by kernel_rfl) (fun _ _ _ h => h) (Or.inl ⟨by rfl, ?_⟩) hHeld ?_ ?_
              rotate_left
              · rintro w' ⟨s0, s1, s2, s3, s4, s5, s6, s7⟩
                go_simp
                with_reducible rfl
              rotate_left
              · simp only [Act.put, List.setIfInBounds_toArray, List.set_cons_zero, List.set_cons_succ, i64_w, i32_w]
                rfl
              refine take_ (i := 12) (N := some 59) (v := ?_) (a' := ?_) #[true, true, true, true, true, true, true, false, true, true, true, true, true, false, false, false, false, false, false, false, false] rfl rfl (by kernel_rfl) (fun _ _ _ h => h) (Or.inl ⟨by rfl, ?_⟩) hHeld ?_ ?_
              rotate_left
              · rintro w' ⟨s0, s1, s2, s3, s4, s5, s6, s7⟩
                go_simp
                with_reducible rfl
              rotate_left
              · simp only [Act.put, List.setIfInBounds_toArray, List.set_cons_zero, List.set_cons_succ, i64_w, i32_w]
                rfl
              refine take_ (i := 13) (N := some 60) (v := ?_) (a' := ?_) #[true, true, true, true, true, true, true, false, true, true, true, true, true, true, false, false, false, false, false, false, false] rfl rfl (by kernel_rfl) (fun _ _ _ h => h) (Or.inl ⟨by rfl, ?_⟩) hHeld ?_ ?_
              rotate_left
              · rintro w' ⟨s0, s1, s2, s3, s4, s5, s6, s7⟩
                go_simp
                with_reducible rfl
              rotate_left
              · simp only [Act.put, List.setIfInBounds_toArray, List.set_cons_zero, List.set_cons_succ, i64_w, i32_w]
                rfl
              refine take_ (i := 14) (N := some 61) (v := ?_) (a' := ?_) #[true, true, true, true, true, true, true, false, true, true, true, true, true, true, true, false, false, false, false, false, false] rfl rfl (by kernel_rfl) (fun _ _ _ h => h) (Or.inl ⟨by rfl, ?_⟩) hHeld ?_ ?_
              rotate_left
              · rintro w' ⟨s0, s1, s2, s3, s4, s5, s6, s7⟩
                go_simp
                with_reducible rfl
              rotate_left
              · simp only [Act.put, List.setIfInBounds_toArray, List.set_cons_zero, List.set_cons_succ, i64_w, i32_w]
                rfl
              refine take_ (i := 16) (N := some 63) (v := ?_) (a' := ?_) #[true, true, true, true, true, true, true, false, true, true, true, true, true, true, true, false, true, false, false, false, false] rfl rfl (by kernel_rfl) (fun _ _ _ h => h) (Or.inl ⟨by rfl, ?_⟩) hHeld ?_ ?_
              rotate_left
              · rintro w' ⟨s0, s1, s2, s3, s4, s5, s6, s7⟩
                go_simp
                with_reducible rfl
              rotate_left
              · simp only [Act.put, List.setIfInBounds_toArray, List.set_cons_zero, List.set_cons_succ, i64_w, i32_w]
                rfl
              refine take_ (i := 17) (N := some 64) (v := ?_) (a' := ?_) #[true, true, true, true, true, true, true, false, true, true, true, true, true, true, true, false, true, true, false, false, false] rfl rfl (by kernel_rfl) (fun _ _ _ h => h) (Or.inl ⟨by rfl, ?_⟩) hHeld ?_ ?_
              rotate_left
              · rintro w' ⟨s0, s1, s2, s3, s4, s5, s6, s7⟩
                go_simp
                with_reducible rfl
              rotate_left
              · simp only [Act.put, List.setIfInBounds_toArray, List.set_cons_zero, List.set_cons_succ, i64_w, i32_w]
                rfl
              generalize wr.drew = ws at hW hHeld ⊢
              have HW := Aside0.mk hW
              clear hW hHeld
              refine join_ (σ := Nat) 1 #[true, true, true, true, true, true, true, true, true, true, true, true, true, true, true, true, true, true, true, true, false] (fun s_ => [(54, .int .i64 x), (62, .int .i64 y), (16, .pointer (some ⟨s_, 0, none⟩)), (65, .agg #[.int .i64 x, .int .i64 y, .int .i64 (i : Int), .int .u8 cb_])]) (fun s_ w' => Below wr.heap.size wr w' ∧ w'.heap[s_]? = some (.cells #[.int .i64 0, .int .i64 0, .int .i64 0, .int .u8 0] 232 (0, 0)) ∧ wr.heap.size ≤ s_) ?_ ?_
              rotate_left
              · intro hJ
                refine two_ (i := 7) (j := 19) (Ni := some 54) (Nj := some 16) #[true, true, true, true, true, true, true, true, true, true, true, true, true, true, true, false, true, true, false, false, false] #[true, true, true, true, true, true, true, false, true, true, true, true, true, true, true, false, true, true, false, true, false] rfl rfl rfl rfl (by kernel_rfl) (by decide) (by decide) (fun K hK => ?_) (fun K hK => ?_)
                · refine goes_ Try.func192 (by kernel_rfl) rfl #[(.agg #[.slice A0_0 l0_0.length c0_0, .slice A0_1 l0_1.length c0_1, .slice A0_2 l0_2.length c0_2]), .int .i64 p0, .int .u8 cb_] (by rfl) rfl rfl (by (try simp only [List.map_toArray, List.map_cons, List.map_nil]); first | done | rfl) ?_
                  refine (impl_Dfa_step.calls _ _ l0_0 _ _ l0_1 _ _ l0_2 p0 cb_ x _ (Kd.C_below HRA.out.1 (below_step HB.out HW.out)) HCA.out.1 (Kd.C_below HRA.out.2.1 (below_step HB.out HW.out)) HCA.out.2.1 (Kd.C_below HRA.out.2.2.1 (below_step HB.out HW.out)) HCA.out.2.2.1 HX.out).mono ?_
                  rintro e wf9 ⟨rfl, hb⟩
                  refine ⟨_, rfl, ?_⟩
                  replace HW := Aside0.mk (below_step HW.out hb)
                  clear hb
                  refine hK.out _ _ (HSH.out _ HW.out) (fun hHeld => ?_)
                  clear hK K hHeld
                  refine norm_ (a' := ?_) ?_ ?_
                  rotate_left
                  · show Act.put _ (some 54) _ = _
                    simp only [Act.put, List.setIfInBounds_toArray, List.set_cons_zero, List.set_cons_succ, i64_w, i32_w]
                    rfl
                  refine two_ (i := 15) (j := 19) (Ni := some 62) (Nj := some 16) #[true, true, true, true, true, true, true, true, true, true, true, true, true, true, true, true, true, true, false, false, false] #[true, true, true, true, true, true, true, true, true, true, true, true, true, true, true, false, true, true, false, true, false] rfl rfl rfl rfl (by kernel_rfl) (by decide) (by decide) (fun K hK => ?_) (fun K hK => ?_)
                  · refine goes_ Try.func192 (by kernel_rfl) rfl #[(.agg #[.slice A1_0 l1_0.length c1_0, .slice A1_1 l1_1.length c1_1, .slice A1_2 l1_2.length c1_2]), .int .i64 p1, .int .u8 cb_] (by rfl) rfl rfl (by (try simp only [List.map_toArray, List.map_cons, List.map_nil]); first | done | rfl) ?_
                    refine (impl_Dfa_step.calls _ _ l1_0 _ _ l1_1 _ _ l1_2 p1 cb_ y _ (Kd.C_below HRA.out.2.2.2.1 (below_step HB.out HW.out)) HCA.out.2.2.2.1 (Kd.C_below HRA.out.2.2.2.2.1 (below_step HB.out HW.out)) HCA.out.2.2.2.2.1 (Kd.C_below HRA.out.2.2.2.2.2 (below_step HB.out HW.out)) HCA.out.2.2.2.2.2 HY.out).mono ?_
                    rintro e wf10 ⟨rfl, hb⟩
                    refine ⟨_, rfl, ?_⟩
                    replace HW := Aside0.mk (below_step HW.out hb)
                    clear hb
                    refine hK.out _ _ (HSH.out _ HW.out) (fun hHeld => ?_)
                    clear hK K hHeld
                    refine norm_ (a' := ?_) ?_ ?_
                    rotate_left
                    · show Act.put _ (some 62) _ = _
                      simp only [Act.put, List.setIfInBounds_toArray, List.set_cons_zero, List.set_cons_succ, i64_w, i32_w]
                      rfl
                    refine pure_ (i := 18) (N := some 65) (v := ?_) (a' := ?_) #[true, true, true, true, true, true, true, true, true, true, true, true, true, true, true, true, true, true, true, false, false] rfl rfl (by kernel_rfl) (fun _ _ _ h => h) (Or.inl ⟨by rfl, ?_⟩) ?_ ?_
                    rotate_left
                    · intro w'
                      go_simp
                      with_reducible rfl
                    rotate_left
                    · simp only [Act.put, List.setIfInBounds_toArray, List.set_cons_zero, List.set_cons_succ, i64_w, i32_w]
                      rfl
                    refine one_ (i := 19) (N := some 16) #[true, true, true, true, true, true, true, true, true, true, true, true, true, true, true, true, true, true, true, true, false] rfl rfl (by kernel_rfl) (by decide) (fun K hK => ?_)
                    obtain ⟨gp, egp⟩ : ∃ q_, q_ = wf10.heap.size := ⟨_, rfl⟩
                    have GP := Aside0.mk (show wr.heap.size ≤ gp by rw [egp]; exact HW.out.size)
                    refine event_step (v := .pointer (some ⟨gp, 0, none⟩)) (w1 := wf10.alloc (.cells #[.int .i64 0, .int .i64 0, .int .i64 0, .int .u8 0] 232)) (by rfl) (by rw [egp]; first | (go_simp; done) | (go_simp; rfl)) ?_
                    have hb : Below wf10.heap.size wf10 (wf10.alloc (.cells #[.int .i64 0, .int .i64 0, .int .i64 0, .int .u8 0] 232)) := below_alloc (Below.refl _ _) _
                    have hn_ : (wf10.alloc (.cells #[.int .i64 0, .int .i64 0, .int .i64 0, .int .u8 0] 232)).heap[wf10.heap.size]? = some (.cells #[.int .i64 0, .int .i64 0, .int .i64 0, .int .u8 0] 232 (0, 0)) := by simp [World.alloc, -World.alloc_eq]
                    generalize wf10.alloc (.cells #[.int .i64 0, .int .i64 0, .int .i64 0, .int .u8 0] 232) = wf11 at hb hn_ ⊢
                    rw [← egp] at hn_
                    clear egp
                    have BP := Aside0.mk hn_
                    replace HW := Aside0.mk (below_step HW.out hb)
                    clear hb hn_
                    refine hK.out _ _ (HSH.out _ HW.out) (fun hHeld => ?_)
                    clear hK K hHeld
                    refine norm_ (a' := ?_) ?_ ?_
                    rotate_left
                    · show Act.put _ (some 16) _ = _
                      simp only [Act.put, List.setIfInBounds_toArray, List.set_cons_zero, List.set_cons_succ, i64_w, i32_w]
                      rfl
                    exact norm_ (by first | rfl | (simp only [putAll, Act.put, List.setIfInBounds_toArray, List.set_cons_zero, List.set_cons_succ]; done)) (hJ gp _ ⟨HW.out, BP.out, GP.out⟩)
                  · obtain ⟨gp, egp⟩ : ∃ q_, q_ = wf9.heap.size := ⟨_, rfl⟩
                    have GP := Aside0.mk (show wr.heap.size ≤ gp by rw [egp]; exact HW.out.size)
                    refine event_step (v := .pointer (some ⟨gp, 0, none⟩)) (w1 := wf9.alloc (.cells #[.int .i64 0, .int .i64 0, .int .i64 0, .int .u8 0] 232)) (by rfl) (by rw [egp]; first | (go_simp; done) | (go_simp; rfl)) ?_
                    have hb : Below wf9.heap.size wf9 (wf9.alloc (.cells #[.int .i64 0, .int .i64 0, .int .i64 0, .int .u8 0] 232)) := below_alloc (Below.refl _ _) _
                    have hn_ : (wf9.alloc (.cells #[.int .i64 0, .int .i64 0, .int .i64 0, .int .u8 0] 232)).heap[wf9.heap.size]? = some (.cells #[.int .i64 0, .int .i64 0, .int .i64 0, .int .u8 0] 232 (0, 0)) := by simp [World.alloc, -World.alloc_eq]
                    generalize wf9.alloc (.cells #[.int .i64 0, .int .i64 0, .int .i64 0, .int .u8 0] 232) = wf12 at hb hn_ ⊢
                    rw [← egp] at hn_
                    clear egp
                    have BP := Aside0.mk hn_
                    replace HW := Aside0.mk (below_step HW.out hb)
                    clear hb hn_
                    refine hK.out _ _ (HSH.out _ HW.out) (fun hHeld => ?_)
                    clear hK K hHeld
                    refine norm_ (a' := ?_) ?_ ?_
                    rotate_left
                    · show Act.put _ (some 16) _ = _
                      simp only [Act.put, List.setIfInBounds_toArray, List.set_cons_zero, List.set_cons_succ, i64_w, i32_w]
                      rfl
                    refine one_ (i := 15) (N := some 62) #[true, true, true, true, true, true, true, true, true, true, true, true, true, true, true, true, true, true, false, true, false] rfl rfl (by kernel_rfl) (by decide) (fun K hK => ?_)
                    refine goes_ Try.func192 (by kernel_rfl) rfl #[(.agg #[.slice A1_0 l1_0.length c1_0, .slice A1_1 l1_1.length c1_1, .slice A1_2 l1_2.length c1_2]), .int .i64 p1, .int .u8 cb_] (by rfl) rfl rfl (by (try simp only [List.map_toArray, List.map_cons, List.map_nil]); first | done | rfl) ?_
                    refine (impl_Dfa_step.calls _ _ l1_0 _ _ l1_1 _ _ l1_2 p1 cb_ y _ (Kd.C_below HRA.out.2.2.2.1 (below_step HB.out HW.out)) HCA.out.2.2.2.1 (Kd.C_below HRA.out.2.2.2.2.1 (below_step HB.out HW.out)) HCA.out.2.2.2.2.1 (Kd.C_below HRA.out.2.2.2.2.2 (below_step HB.out HW.out)) HCA.out.2.2.2.2.2 HY.out).mono ?_
                    rintro e wf13 ⟨rfl, hb⟩
                    refine ⟨_, rfl, ?_⟩
                    replace BP := Aside0.mk (blk_below BP.out hb)
                    replace HW := Aside0.mk (below_step HW.out hb)
                    clear hb
                    refine hK.out _ _ (HSH.out _ HW.out) (fun hHeld => ?_)
                    clear hK K hHeld
                    refine norm_ (a' := ?_) ?_ ?_
                    rotate_left
                    · show Act.put _ (some 62) _ = _
                      simp only [Act.put, List.setIfInBounds_toArray, List.set_cons_zero, List.set_cons_succ, i64_w, i32_w]
                      rfl
                    refine pure_ (i := 18) (N := some 65) (v := ?_) (a' := ?_) #[true, true, true, true, true, true, true, true, true, true, true, true, true, true, true, true, true, true, true, true, false] rfl rfl (by kernel_rfl) (fun _ _ _ h => h) (Or.inl ⟨by rfl, ?_⟩) ?_ ?_
                    rotate_left
                    · intro w'
                      go_simp
                      with_reducible rfl
                    rotate_left
                    · simp only [Act.put, List.setIfInBounds_toArray, List.set_cons_zero, List.set_cons_succ, i64_w, i32_w]
                      rfl
                    exact norm_ (by first | rfl | (simp only [putAll, Act.put, List.setIfInBounds_toArray, List.set_cons_zero, List.set_cons_succ]; done)) (hJ gp _ ⟨HW.out, BP.out, GP.out⟩)
                · obtain ⟨gp, egp⟩ : ∃ q_, q_ = ws.heap.size := ⟨_, rfl⟩
                  have GP := Aside0.mk (show wr.heap.size ≤ gp by rw [egp]; exact HW.out.size)
                  refine event_step (v := .pointer (some ⟨gp, 0, none⟩)) (w1 := ws.alloc (.cells #[.int .i64 0, .int .i64 0, .int .i64 0, .int .u8 0] 232)) (by rfl) (by rw [egp]; first | (go_simp; done) | (go_simp; rfl)) ?_
                  have hb : Below ws.heap.size ws (ws.alloc (.cells #[.int .i64 0, .int .i64 0, .int .i64 0, .int .u8 0] 232)) := below_alloc (Below.refl _ _) _
                  have hn_ : (ws.alloc (.cells #[.int .i64 0, .int .i64 0, .int .i64 0, .int .u8 0] 232)).heap[ws.heap.size]? = some (.cells #[.int .i64 0, .int .i64 0, .int .i64 0, .int .u8 0] 232 (0, 0)) := by simp [World.alloc, -World.alloc_eq]
                  generalize ws.alloc (.cells #[.int .i64 0, .int .i64 0, .int .i64 0, .int .u8 0] 232) = wf14 at hb hn_ ⊢
                  rw [← egp] at hn_
                  clear egp
                  have BP := Aside0.mk hn_
                  replace HW := Aside0.mk (below_step HW.out hb)
                  clear hb hn_
                  refine hK.out _ _ (HSH.out _ HW.out) (fun hHeld => ?_)
                  clear hK K hHeld
                  refine norm_ (a' := ?_) ?_ ?_
                  rotate_left
                  · show Act.put _ (some 16) _ = _
                    simp only [Act.put, List.setIfInBounds_toArray, List.set_cons_zero, List.set_cons_succ, i64_w, i32_w]
                    rfl
                  refine one_ (i := 7) (N := some 54) #[true, true, true, true, true, true, true, true, true, true, true, true, true, true, true, false, true, true, false, true, false] rfl rfl (by kernel_rfl) (by decide) (fun K hK => ?_)
                  refine goes_ Try.func192 (by kernel_rfl) rfl #[(.agg #[.slice A0_0 l0_0.length c0_0, .slice A0_1 l0_1.length c0_1, .slice A0_2 l0_2.length c0_2]), .int .i64 p0, .int .u8 cb_] (by rfl) rfl rfl (by (try simp only [List.map_toArray, List.map_cons, List.map_nil]); first | done | rfl) ?_
                  refine (impl_Dfa_step.calls _ _ l0_0 _ _ l0_1 _ _ l0_2 p0 cb_ x _ (Kd.C_below HRA.out.1 (below_step HB.out HW.out)) HCA.out.1 (Kd.C_below HRA.out.2.1 (below_step HB.out HW.out)) HCA.out.2.1 (Kd.C_below HRA.out.2.2.1 (below_step HB.out HW.out)) HCA.out.2.2.1 HX.out).mono ?_
                  rintro e wf15 ⟨rfl, hb⟩
                  refine ⟨_, rfl, ?_⟩
                  replace BP := Aside0.mk (blk_below BP.out hb)
                  replace HW := Aside0.mk (below_step HW.out hb)
                  clear hb
                  refine hK.out _ _ (HSH.out _ HW.out) (fun hHeld => ?_)
                  clear hK K hHeld
                  refine norm_ (a' := ?_) ?_ ?_
                  rotate_left
                  · show Act.put _ (some 54) _ = _
                    simp only [Act.put, List.setIfInBounds_toArray, List.set_cons_zero, List.set_cons_succ, i64_w, i32_w]
                    rfl
                  refine one_ (i := 15) (N := some 62) #[true, true, true, true, true, true, true, true, true, true, true, true, true, true, true, true, true, true, false, true, false] rfl rfl (by kernel_rfl) (by decide) (fun K hK => ?_)
                  refine goes_ Try.func192 (by kernel_rfl) rfl #[(.agg #[.slice A1_0 l1_0.length c1_0, .slice A1_1 l1_1.length c1_1, .slice A1_2 l1_2.length c1_2]), .int .i64 p1, .int .u8 cb_] (by rfl) rfl rfl (by (try simp only [List.map_toArray, List.map_cons, List.map_nil]); first | done | rfl) ?_
                  refine (impl_Dfa_step.calls _ _ l1_0 _ _ l1_1 _ _ l1_2 p1 cb_ y _ (Kd.C_below HRA.out.2.2.2.1 (below_step HB.out HW.out)) HCA.out.2.2.2.1 (Kd.C_below HRA.out.2.2.2.2.1 (below_step HB.out HW.out)) HCA.out.2.2.2.2.1 (Kd.C_below HRA.out.2.2.2.2.2 (below_step HB.out HW.out)) HCA.out.2.2.2.2.2 HY.out).mono ?_
                  rintro e wf16 ⟨rfl, hb⟩
                  refine ⟨_, rfl, ?_⟩
                  replace BP := Aside0.mk (blk_below BP.out hb)
                  replace HW := Aside0.mk (below_step HW.out hb)
                  clear hb
                  refine hK.out _ _ (HSH.out _ HW.out) (fun hHeld => ?_)
                  clear hK K hHeld
                  refine norm_ (a' := ?_) ?_ ?_
                  rotate_left
                  · show Act.put _ (some 62) _ = _
                    simp only [Act.put, List.setIfInBounds_toArray, List.set_cons_zero, List.set_cons_succ, i64_w, i32_w]
                    rfl
                  refine pure_ (i := 18) (N := some 65) (v := ?_) (a' := ?_) #[true, true, true, true, true, true, true, true, true, true, true, true, true, true, true, true, true, true, true, true, false] rfl rfl (by kernel_rfl) (fun _ _ _ h => h) (Or.inl ⟨by rfl, ?_⟩) ?_ ?_
                  rotate_left
                  · intro w'
                    go_simp
                    with_reducible rfl
                  rotate_left
                  · simp only [Act.put, List.setIfInBounds_toArray, List.set_cons_zero, List.set_cons_succ, i64_w, i32_w]
                    rfl
                  exact norm_ (by first | rfl | (simp only [putAll, Act.put, List.setIfInBounds_toArray, List.set_cons_zero, List.set_cons_succ]; done)) (hJ gp _ ⟨HW.out, BP.out, GP.out⟩)
              rintro gp w5 ⟨hw5, hn_, gp_⟩
              refine norm_ (a' := ?_) ?_ ?_
              rotate_left
              · simp only [putAll, Act.put, List.setIfInBounds_toArray, List.set_cons_zero, List.set_cons_succ, i64_w, i32_w]
                rfl
              refine last_ (i := 20) (N := none) #[true, true, true, true, true, true, true, true, true, true, true, true, true, true, true, true, true, true, true, true, true] rfl rfl (by kernel_rfl) (by decide) (fun K hK => ?_)
              have hu2 := Try.underlying232
              have e0 : w5.cell? ⟨gp, 0, none⟩ = some (.int .i64 0) := (blk_cell hn_ 0).trans rfl
              have e1 : w5.cell? ⟨gp, 1, none⟩ = some (.int .i64 0) := (blk_cell hn_ 1).trans rfl
              have e2 : w5.cell? ⟨gp, 2, none⟩ = some (.int .i64 0) := (blk_cell hn_ 2).trans rfl
              have e3 : w5.cell? ⟨gp, 3, none⟩ = some (.int .u8 0) := (blk_cell hn_ 3).trans rfl
              have f0 := blk_frozen hn_ 0
              have f1 := blk_frozen hn_ 1
              have f2 := blk_frozen hn_ 2
              have f3 := blk_frozen hn_ 3
              refine skip_ (w1 := ?_) (by rfl) rfl ?_ ?_
              rotate_left
              · go_simp
                rfl
              refine hK.out _ _ ?_
              clear hK K
              refine done_ (by kernel_rfl) ?_
              have h6 := blk_put (blk_put (blk_put (blk_put hn_ 0 (.int .i64 x) rfl) 1 (.int .i64 y) rfl) 2 (.int .i64 (i : Int)) rfl) 3 (.int .u8 cb_) rfl
              have hw6 : Below wr.heap.size wr ((((w5.setCell ⟨gp, 0, none⟩ (.int .i64 x)).setCell ⟨gp, 1, none⟩ (.int .i64 y)).setCell ⟨gp, 2, none⟩ (.int .i64 (i : Int))).setCell ⟨gp, 3, none⟩ (.int .u8 cb_)) := (((hw5.setCell gp_ _).setCell gp_ _).setCell gp_ _).setCell gp_ _
              generalize (((w5.setCell ⟨gp, 0, none⟩ (.int .i64 x)).setCell ⟨gp, 1, none⟩ (.int .i64 y)).setCell ⟨gp, 2, none⟩ (.int .i64 (i : Int))).setCell ⟨gp, 3, none⟩ (.int .u8 cb_) = w6 at h6 hw6 ⊢
              replace h6 : w6.heap[gp]? = some (.cells #[.int .i64 x, .int .i64 y, .int .i64 (i : Int), .int .u8 cb_] 232 (0, 0)) := h6
              clear e0 e1 e2 e3 f0 f1 f2 f3 hn_ hw5 HSH
              have z0 : w6.cell? ⟨gp, 0, none⟩ = some (.int .i64 x) := (blk_cell h6 0).trans rfl
              have z1 : w6.cell? ⟨gp, 1, none⟩ = some (.int .i64 y) := (blk_cell h6 1).trans rfl
              obtain ⟨nm, hnm, hs0⟩ := HS.out
              have hs6 := hs0.below hw6
              replace HO := Aside0.mk (Kd.R_below HO.out hw6)
              replace HOB := Aside0.mk (Kd.R_below HOB.out hw6)
              replace BK4 := Aside0.mk (blk_below BK4.out hw6)
              replace BK5 := Aside0.mk (blk_below BK5.out hw6)
              replace HB := Aside0.mk (below_step HB.out hw6)
              clear hw6 HS hs0
              have hkey := pairKeyed.key HWF.out.1 HWF.out.2.1
              have ZE := Aside0.mk (fun w : World => (show (zeroValue 4).run Try.prog w = .ok (.bool false) w by kernel_rfl))
              have hlook := hs6.look pairKeyed.law Try.underlying235 Try.underlying4 (ZE.out _) hkey
              rw [pairs_at pairKeyed HLW.out.2.2.2.2 HWF.out.1 HWF.out.2.1, ← seen_prs] at hlook
              have hnext := HHN.out
              by_cases hm : seenIn 1 L2 x y = true
              · rw [hm] at hlook
                rw [if_pos hm] at hnext
                have HS6 := Aside0.mk (show ∃ n', n' ≤ L2.length ∧ SetB w6 Try.prog 234 4 bm n' (pairs (prs 1 L2)) from ⟨nm, hnm, hs6⟩)
                have HN := Aside0.mk hnext
                clear hs6 hkey hm hnext HHN hnm h6 ZE
                go_wp2
                go_roundg k2
                case measure => omega
                case rel => exact ⟨L2, j + 1, by have := HWF.out.2.2; show Value.int .i64 (wrap64 ((j : Int) + 1)) = _; rw [w64 (by omega) (by have := Kd.R_reads' HOB.out; have := (Kd.R_reads' HOB.out).2.2.2.1; have := HJ.out; omega)]; rfl, HN, ⟨by have := HK2.out; omega⟩, HO, HS6, BK4, BK5, HOB, HB, ⟨HLW.out.1, HLW.out.2.1, HLW.out.2.2.1, by have := HJ.out; omega, HLW.out.2.2.2.2⟩⟩
              · rw [Bool.eq_false_iff.2 hm] at hlook
                rw [if_neg hm] at hnext
                obtain ⟨b, hPb, hthen⟩ := Option.bind_eq_some_iff.1 hnext
                clear hnext HHN
                obtain ⟨w7, hst, hs7, hgrow⟩ := hs6.store pairKeyed.law Try.underlying235 Try.underlying4 (by have := HWF.out.2.2; unfold maxLen; omega) hkey true
                rw [← pairs_snoc] at hs7
                replace HO := Aside0.mk (Kd.R_grown1 HO.out rfl hgrow (fun e_ => SetB.ne_row hs6 HO.out e_.symm))
                replace HOB := Aside0.mk (Kd.R_grown1 HOB.out rfl hgrow (fun e_ => SetB.ne_row hs6 HOB.out e_.symm))
                replace BK4 := Aside0.mk (blk_grown BK4.out hgrow (SetB.ne_blk hs6 BK4.out))
                replace BK5 := Aside0.mk (blk_grown BK5.out hgrow (SetB.ne_blk hs6 BK5.out))
                replace HB := Aside0.mk (HB.out.grown hgrow HB.out.size (fun q hq => by cases hq; exact GM.out))
                have h7 := blk_grown h6 hgrow (SetB.ne_blk hs6 h6)
                have y0 : w7.cell? ⟨gp, 0, none⟩ = some (.int .i64 x) := (blk_cell h7 0).trans rfl
                have y1 : w7.cell? ⟨gp, 1, none⟩ = some (.int .i64 y) := (blk_cell h7 1).trans rfl
                have y2 : w7.cell? ⟨gp, 2, none⟩ = some (.int .i64 (i : Int)) := (blk_cell h7 2).trans rfl
                have y3 : w7.cell? ⟨gp, 3, none⟩ = some (.int .u8 cb_) := (blk_cell h7 3).trans rfl
                have HS7 := Aside0.mk hs7
                have HPB := Aside0.mk hPb
                have HTH := Aside0.mk hthen
                have HNM := Aside0.mk hnm
                have H7 := Aside0.mk h7
                clear hs6 hkey hm hnm h6 h7 hs7 hgrow hPb hthen ZE
                go_upto_region 15 with (first | ((with_reducible refine gate_builtin (b := .append) (xs := #[.tmp 79, .tmp 81]) rfl ?_); at_builtin; refine Kd.R_append k232 (w0 := w) w.heap.size rfl (.tmp 79) (.tmp 81) 233 232 (.agg #[.int .i64 0, .int .i64 0, .int .i64 0, .int .u8 0]) 32 rfl Try.underlying233 info232 rfl (by decide) (by omega) (.slice (some ado) L2.length co2) L2 (⟨x, y, (i : Int), cb_⟩ : S232) [.int .i64 x, .int .i64 y, .int .i64 (i : Int), .int .u8 cb_] (fun _ => True) (fun _ => False) rfl rfl ?aP (fun _ hk => hk.elim) ?aF ?aO ?aB ?aS ?aL ?_; (case aP => exact k232_mkM _ _ _ (⟨x, y, (i : Int), cb_⟩ : S232)); (case aB => exact (by repeat (first | exact HB.out | apply below_alloc | apply pw_below_drewN | apply below_drew1))); (case aF => exact (fun _ _ => trivial)); (case aO => exact (by (with_reducible repeat (first | apply Kd.R_alloc | apply Kd.R_drewN | apply Kd.R_drew)); exact HO.out)); (case aS => exact (below_size (by repeat (first | exact HB.out | apply below_alloc | apply pw_below_drewN | apply below_drew1)))); (case aL => have := HWF.out.2.2; omega); intro v8 w9 ho hb hg2 hat))
                obtain ⟨_, cO_, hcO⟩ := Kd.row_cells HO.out rfl (b := ado.block) rfl
                obtain ⟨_, cB_, hcB⟩ := Kd.row_cells HOB.out rfl (b := adb.block) rfl
                replace HS7 := Aside0.mk (HS7.out.kept hg2 (fun e_ => SetB.ne_row HS7.out HO.out e_.symm))
                replace HOB := Aside0.mk (Kd.R_grown1 HOB.out rfl hg2 (fun e_ => blk_ne hcO hcB (by decide) (Option.some.inj e_)))
                replace BK4 := Aside0.mk (blk_grown BK4.out hg2 (fun e_ => blk_ne BK4.out hcO (by decide) (Option.some.inj e_)))
                replace BK5 := Aside0.mk (blk_grown BK5.out hg2 (fun e_ => blk_ne BK5.out hcO (by decide) (Option.some.inj e_)))
                have h9 := blk_grown H7.out hg2 (fun e_ => by have e2_ := Option.some.inj e_; have := HGN.out; omega)
                replace y0 : w9.cell? ⟨gp, 0, none⟩ = some (.int .i64 x) := (blk_cell h9 0).trans rfl
                replace y1 : w9.cell? ⟨gp, 1, none⟩ = some (.int .i64 y) := (blk_cell h9 1).trans rfl
                replace HO := Aside0.mk ho
                replace HB := Aside0.mk hb
                clear ho hb hg2 hat hcO hcB h9 H7 y2 y3 hlook hst z0 z1
                go_wp2_with fail
                refine (HP.out w9 x y b HB.out HPB.out).mono ?_
                rintro e w' ⟨rfl, ⟨nd, rfl⟩⟩
                replace HO := Aside0.mk (Kd.R_drewN HO.out nd)
                replace HOB := Aside0.mk (Kd.R_drewN HOB.out nd)
                replace HS7 := Aside0.mk (HS7.out.drewN nd)
                replace HB := Aside0.mk (pw_below_drewN HB.out nd)
                replace BK4 := Aside0.mk (blk_drewN BK4.out nd)
                replace BK5 := Aside0.mk (blk_drewN BK5.out nd)
                generalize w9.drewN nd = w10 at HO HOB HS7 HB BK4 BK5 ⊢
                clear y0 y1
                have hth := HTH.out
                clear HTH
                cases b with
                | true =>
                  rw [if_pos rfl] at hth
                  obtain ⟨t_, ht_, hr_⟩ := Option.bind_eq_some_iff.1 hth
                  have er_ := Option.some.inj hr_
                  subst er_
                  clear hth hr_
                  have HT := Aside0.mk ht_
                  clear ht_
                  have hl3 : (L2 ++ [(⟨x, y, (i : Int), cb_⟩ : S232)]).length = L2.length + 1 := by rw [List.length_append, List.length_singleton]
                  generalize L2 ++ [(⟨x, y, (i : Int), cb_⟩ : S232)] = L3 at HO HT hl3 ⊢
                  have hwl : wrap64 ((L3.length : Int) - 1) = (L2.length : Int) := by
                    have := HWF.out.2.2
                    rw [w64 (by omega) (by omega)]
                    omega
                  obtain ⟨A9, c9, rfl⟩ := Kd.R_slice HO.out
                  clear hl3 hci hci0 hcj hcj0 hu hu2 heg
                  go_wp2_with fail
                  refine (impl_textTo.calls k2 _ _ L3 (L2.length : Int) t_ _ (Kd.R_reads' HO.out).2.2 (Kd.R_reads' HO.out).2.1 HT.out).mono ?_
                  rintro e w' ⟨rfl, hb⟩
                  go_wp2
                  go_ret2
                  exact ⟨rfl, below_step HB.out hb⟩
                | false =>
                  rw [if_neg (by decide)] at hth
                  have HN := Aside0.mk hth
                  clear hth
                  go_wp2
                  go_roundg k2
                  case measure => omega
                  case rel => exact ⟨L2 ++ [⟨x, y, (i : Int), cb_⟩], j + 1, by have := HWF.out.2.2; show Value.int .i64 (wrap64 ((j : Int) + 1)) = _; rw [w64 (by omega) (by have := Kd.R_reads' HOB.out; have := (Kd.R_reads' HOB.out).2.2.2.1; have := HJ.out; omega)]; rfl, HN, ⟨by have := HK2.out; omega⟩, HO, ⟨nm + 1, by have := HNM.out; rw [List.length_append, List.length_singleton]; omega, by rw [prs_snoc _ _ _ HLW.out.1]; exact HS7.out⟩, BK4, BK5, HOB, HB, ⟨by have := HLW.out.1; rw [List.length_append, List.length_singleton]; omega, by have := HWF.out.2.2; rw [List.length_append, List.length_singleton]; omega, by have := HLW.out.2.2.1; rw [List.length_append, List.length_singleton]; omega, by have := HJ.out; omega, fun p hp => by
                    rw [prs_snoc _ _ _ HLW.out.1] at hp
                    rcases List.mem_append.1 hp with hp | hp
                    · exact HLW.out.2.2.2.2 p hp
                    · rw [List.mem_singleton] at hp
                      subst hp
                      exact ⟨HWF.out.1, HWF.out.2.1⟩⟩⟩
          · have hcj := eq_false (show ¬ (j : Int) < (bs.length : Int) by omega)
            cases gk with
            | zero => exact absurd HH2.out (by simp [impl_find.l0])
            | succ k2 =>
              have H := HH2.out
              rw [impl_find.l0, if_pos HLW.out.2.2.1, if_neg hj] at H
              have HN := Aside0.mk H
              clear H HH2 hj
              go_wp2
              go_roundg k2
              case measure => have := HK2.out; omega
              case rel => exact ⟨L2, i + 1, by have := HLW.out.2.1; have := HLW.out.2.2.1; show Value.int .i64 (wrap64 ((i : Int) + 1)) = _; rw [w64 (by omega) (by omega)]; rfl, HN, ⟨by have := HK1.out; have := HK2.out; omega⟩, HO, HS, BK4, BK5, HOB, HB, ⟨HLW.out.1, HLW.out.2.1, by have := HLW.out.2.2.1; omega, HLW.out.2.2.2.2⟩⟩
      · have hcond := eq_false (show ¬ (i : Int) < (L.length : Int) by omega)
        have hr : r = (ByteArray.empty, false) := by
          have h2 := HH.out
          cases gk with
          | zero => simp [impl_find.l0] at h2
          | succ k1 => rw [impl_find.l0, if_neg hlt] at h2; exact (Option.some.inj h2).symm
        subst hr
        clear hlt
        go_wp2
        go_ret2
        exact ⟨rfl, HB.out⟩
end

end Go.Proofs.Ytaemhmgcjpcicaa.PFnExactWitnessOf
