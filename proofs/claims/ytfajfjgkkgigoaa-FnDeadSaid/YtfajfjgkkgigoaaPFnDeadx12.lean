-- Written by this session's own program (wip/pr.py) over the kit's printer; contracts that the printer does not know are given by hand.
import Derived.Test.YtfajfjgkkgigoaaPFnDeadx0
import Derived.Test.YtfajfjgkkgigoaaPFnDeadx1
import Derived.Test.YtfajfjgkkgigoaaPFnDeadx8
namespace Go.Proofs.Ytfajfjgkkgigoaa.PFnDead
open Go.RowKit Go.Proofs.YtfajfjgkkgigoaaW.PrintWords Go.Proofs.YtfajfjgkkgigoaaW.PrintLast Go.Proofs.YtfajfjgkkgigoaaW.PrintMore
attribute [local go_sem] max2_int min2_int max_two min_two max_three min_three max_four min_four   -- for this text's walks alone
set_option linter.unusedVariables false
set_option linter.unusedSimpArgs false

/-! ### spec_l3Node: function 188 -/
section
open Go.Proofs.Ytfajfjgkkgigoaa.Kit
theorem sIn (a b c : Int) : spec_l1In.f a b c = some (decide (b ≤ a ∧ a ≤ c)) := by
 unfold spec_l1In.f
 by_cases h : a ≥ b
 ·rw [if_pos h]; congr 1; simp; omega
 ·rw [if_neg h]; congr 1; simp; omega
def toP (x : S160) : Int × Int := (x.f0, x.f1)
theorem toP_lo (l : List S160) (i : Int) : (rd_T160 l i).f0 = lo (l.map toP) i.toNat := by
 unfold rd_T160 lo
 rw [List.getD_eq_getElem?_getD, List.getD_eq_getElem?_getD, List.getElem?_map]
 cases l[i.toNat]? <;> rfl
theorem toP_hi (l : List S160) (i : Int) : (rd_T160 l i).f1 = hi (l.map toP) i.toNat := by
 unfold rd_T160 hi
 rw [List.getD_eq_getElem?_getD, List.getD_eq_getElem?_getD, List.getElem?_map]
 cases l[i.toNat]? <;> rfl
open Classical in
theorem sClassOk_l (l : List S160) (hl : l.length ≤ 1048576) (d : Nat) : ∀ (k : Nat) (i : Nat), d < k → l.length - i = d → i ≤ l.length → (∀ j, j < i → okAt (l.map toP) j) →
  spec_ClassOk.l0 k l (i : Int) = some (decide (okFrom (l.map toP) i)) := by
 induction d with
 | zero =>
  intro k i hk hd hle _; obtain ⟨k, rfl⟩ : ∃ m, k = m + 1 := ⟨k - 1, by omega⟩
  simp only [spec_ClassOk.l0]
  rw [if_neg (by omega), decide_eq_true (okFrom_end (by simp; omega))]
 | succ d ih =>
  intro k i hk hd hle hp; obtain ⟨k, rfl⟩ : ∃ m, k = m + 1 := ⟨k - 1, by omega⟩
  have hlt : i < (l.map toP).length := by simp; omega
  have hst := okFrom_step (l := l.map toP) hlt; have hne : ¬ okAt (l.map toP) i → decide (okFrom (l.map toP) i) = false := fun h => decide_eq_false (fun g => h (hst.1 g).1)
  simp only [spec_ClassOk.l0, toP_lo, toP_hi, sIn, Option.bind_some, decide_eq_true_eq]
  rw [if_pos (by omega), if_pos (by omega)]
  have ei : ((i : Nat) : Int).toNat = i := by omega
  rw [ei]
  by_cases h1 : 0 ≤ lo (l.map toP) i ∧ lo (l.map toP) i ≤ 255
  ·rw [if_pos h1]
   by_cases h2 : lo (l.map toP) i ≤ hi (l.map toP) i ∧ hi (l.map toP) i ≤ 255
   ·rw [if_pos h2]
    have en : wrap64 ((i : Int) + 1) = ((i + 1 : Nat) : Int) := by rw [w64 (by omega) (by omega)]; omega
    have go : okAt (l.map toP) i → spec_ClassOk.l0 k l (wrap64 ((i : Int) + 1)) = some (decide (okFrom (l.map toP) i)) := by
     intro g
     rw [en, ih k (i + 1) (by omega) (by omega) (by omega) (fun j hj => by
      rcases Nat.lt_or_eq_of_le (Nat.le_of_lt_succ hj) with h | h
      ·exact hp j h
      ·exact h ▸ g)]
     congr 1
     exact decide_eq_decide.2 ⟨fun h => hst.2 ⟨g, h⟩, fun h => (hst.1 h).2⟩
    by_cases h4 : (i : Int) > 0
    ·have hq := hp (i - 1) (by omega)
     have e1 : (wrap64 ((i : Int) - 1)) = ((i - 1 : Nat) : Int) := by rw [w64 (by omega) (by omega)]; omega
     have e2 : (((i - 1 : Nat) : Int)).toNat = i - 1 := by omega
     have q1 := hq.1; have q2 := hq.2.1; have q3 := hq.2.2.1
     rw [if_pos h4, e1, if_pos (by omega), if_pos (by omega), e2, w64 (x := hi (l.map toP) (i - 1) + 2) (by omega) (by omega)]
     by_cases h5 : lo (l.map toP) i < hi (l.map toP) (i - 1) + 2
     ·rw [if_pos h5, hne (fun g => by have := g.2.2.2 (by omega); omega)]
     ·rw [if_neg h5]
      exact go ⟨by omega, by omega, by omega, fun _ => by omega⟩
    ·rw [if_neg h4]
     exact go ⟨by omega, by omega, by omega, fun h => by omega⟩
   ·rw [if_neg h2, hne (fun g => h2 ⟨g.2.1, g.2.2.1⟩)]
  ·rw [if_neg h1, hne (fun g => h1 ⟨g.1, by have := g.2.1; have := g.2.2.1; omega⟩)]
open Classical in
theorem sClassOk (l : List S160) (hl : l.length ≤ 1048576) (k : Nat) (hk : l.length < k) : spec_ClassOk.f k l = some (decide (classOk (l.map toP))) := by
 unfold spec_ClassOk.f
 by_cases h : (l.length : Int) > 128
 ·rw [if_pos h, decide_eq_false]
  intro g; have := classOk_len g
  simp at this
  omega
 ·rw [if_neg h]
  have e : spec_ClassOk.l0 k l 0 = some (decide (okFrom (l.map toP) 0)) := sClassOk_l l hl l.length k 0 hk (by omega) (by omega) (fun j hj => by omega)
  rw [e]
  congr 1
  exact decide_eq_decide.2 (okFrom_zero _)
def kk (op : Int) : Int := if op = 3 ∨ op = 4 then 2 else if 5 ≤ op ∧ op ≤ 8 then 1 else 0
theorem sKids (k : Nat) (op : Int) : spec_l3Kids.f (k + 1) op = some (kk op) := by
 unfold spec_l3Kids.f kk
 by_cases h3 : op = 3
 ·subst h3; simp [spec_l3Kids.j0]
 ·rw [if_neg h3]
  by_cases h4 : op = 4
  ·subst h4; simp [spec_l3Kids.j0]
  ·have : (op == 4) = false := beq_eq_false_iff_ne.2 h4
   rw [this, if_neg (show ¬ (op = 3 ∨ op = 4) by omega)]
   simp only [spec_l3Kids.j0]
   rw [if_neg (by decide)]
   by_cases h5 : op = 5
   ·rw [if_pos h5, if_pos (by omega)]
   ·rw [if_neg h5]
    by_cases h6 : op = 6
    ·rw [if_pos h6, if_pos (by omega)]
    ·rw [if_neg h6]
     by_cases h7 : op = 7
     ·rw [if_pos h7, if_pos (by omega)]
     ·rw [if_neg h7]
      by_cases h8 : op = 8
      ·rw [if_pos h8, if_pos (by omega)]
      ·rw [if_neg h8, if_neg (by omega)]
open Classical in
theorem clsTot (ls : List S160) (hl : ls.length ≤ 1048576) : ∃ b : Bool, spec_ClassOk.f (ls.length + 1) ls = some b ∧ (b = true → ls.length ≤ 128) :=
 ⟨_, sClassOk ls hl (ls.length + 1) (Nat.lt_succ_self _), fun h => by have := classOk_len (of_decide_eq_true h); simpa using this⟩
/-- what a node that is told right is like -/
def NodeC (op : Int) (nl : Nat) (kd : List Int) (mn mx p : Int) : Prop := nl ≤ 128 ∧ (1 ≤ op ∧ op ≤ 8) ∧ (kd.length : Int) = kk op ∧ (∀ x ∈ kd, 0 ≤ x ∧ x ≤ p - 1) ∧ (op = 8 → 0 ≤ mn ∧ mn ≤ 30 ∧ mx ≤ 30)
set_option maxHeartbeats 4000000 in
set_option maxRecDepth 100000 in
theorem spec_l3Node.calls {base : Nat} {w0 w : World} {L : List Fact} (S : Hp base w0 w L) (op mn mx p : Int) (A1 A2 : Option Addr) (c1 c2 : Nat) (nl : Nat) (ls : List S160) (hnl : nl = ls.length) (kd : List Int) (hs : ∀ W, Hp base w0 W L → Kd.C k160 W A1 ls.length ls) (hk : ∀ W, Hp base w0 W L → Kd.C (Kd.int .i64) W A2 kd.length kd) (hl : ls.length ≤ 1048576) (hkl : kd.length ≤ 1048576) (hc1 : ls.length ≤ c1) (hp : 0 ≤ p ∧ p ≤ 1000) :
  Calls Try.prog 188 #[.agg #[.int .i64 op, .slice A1 nl c1, .slice A2 kd.length c2, .int .i64 mn, .int .i64 mx], .int .i64 p] w fun e w' => ∃ b : Bool, e = .returned (.bool b) ∧ (b = true → NodeC op nl kd mn mx p) ∧ Hp base w0 w' L := by
 obtain ⟨ck, hck⟩ := clsTot ls hl
 have HCK := Aside0.mk hck
 clear hck
 replace S := Aside0.mk S
 have HNL := Aside0.mk hnl
 have HL := Aside0.mk hl
 have HKL := Aside0.mk hkl
 have HP := Aside0.mk hp
 have HK := Aside0.mk hk
 have HS := Aside0.mk hs
 have HC1 := Aside0.mk hc1
 clear hnl hl hkl hp hk hs hc1
 by_cases c1_ : 1 ≤ op ∧ op ≤ 8
 case neg =>
  have g1 := decide_eq_false c1_
  go_enter Try.func188, Try.ntmps188
  go_wp2_with (first | ((with_reducible refine gate_dst (N := 2) rfl ?_); refine ev_box S rfl rfl (cs := #[.int .i64 op, .slice A1 nl c1, .slice A2 kd.length c2, .int .i64 mn, .int .i64 mx]) (t := 230) (by first | (go_simp; done) | (go_simp; rfl)) (fun g2 w_ Gg2 S1 => ?_); clear S; have S := S1; clear S1; have z0 := S.out.cell 0 0 rfl rfl; have z2 := S.out.cell 0 2 rfl rfl))
  go_quiet (first | (go_at_call 54; (refine (spec_l1In.calls _ _ _ _ _ (sIn _ _ _)).mono ?_); rintro e w' ⟨rfl, ⟨nd, rfl⟩⟩; (first | exact ⟨rfl, _, World.drewN_drewN _ _ _⟩ | exact ⟨rfl, _, Eq.trans (World.drewN_drewN _ _ _) (congrArg (World.drewN _) (Nat.add_assoc _ _ _))⟩)) | (go_at_call 197; (refine (spec_l3Kids.calls 1 op _ _ (sKids 0 op)).mono ?_); rintro e w' ⟨rfl, ⟨nd, rfl⟩⟩; (first | exact ⟨rfl, _, World.drewN_drewN _ _ _⟩ | exact ⟨rfl, _, Eq.trans (World.drewN_drewN _ _ _) (congrArg (World.drewN _) (Nat.add_assoc _ _ _))⟩)))
  go_wp2
  go_ret
  exact ⟨_, rfl, fun q => absurd q (by decide), S.out.tail.drewN _⟩
 have g1 := decide_eq_true c1_
 by_cases c2_ : (kd.length : Int) = kk op
 case neg =>
  have g2_ := bne_iff_ne.2 c2_
  go_enter Try.func188, Try.ntmps188
  go_wp2_with (first | ((with_reducible refine gate_dst (N := 2) rfl ?_); refine ev_box S rfl rfl (cs := #[.int .i64 op, .slice A1 nl c1, .slice A2 kd.length c2, .int .i64 mn, .int .i64 mx]) (t := 230) (by first | (go_simp; done) | (go_simp; rfl)) (fun g2 w_ Gg2 S1 => ?_); clear S; have S := S1; clear S1; have z0 := S.out.cell 0 0 rfl rfl; have z2 := S.out.cell 0 2 rfl rfl))
  go_quiet (first | (go_at_call 54; (refine (spec_l1In.calls _ _ _ _ _ (sIn _ _ _)).mono ?_); rintro e w' ⟨rfl, ⟨nd, rfl⟩⟩; (first | exact ⟨rfl, _, World.drewN_drewN _ _ _⟩ | exact ⟨rfl, _, Eq.trans (World.drewN_drewN _ _ _) (congrArg (World.drewN _) (Nat.add_assoc _ _ _))⟩)) | (go_at_call 197; (refine (spec_l3Kids.calls 1 op _ _ (sKids 0 op)).mono ?_); rintro e w' ⟨rfl, ⟨nd, rfl⟩⟩; (first | exact ⟨rfl, _, World.drewN_drewN _ _ _⟩ | exact ⟨rfl, _, Eq.trans (World.drewN_drewN _ _ _) (congrArg (World.drewN _) (Nat.add_assoc _ _ _))⟩)))
  go_wp2
  go_ret
  exact ⟨_, rfl, fun q => absurd q (by decide), S.out.tail.drewN _⟩
 have g2_ := bne_eq_false_iff_eq.2 c2_
 have HQ := Aside0.mk (And.intro c1_ c2_)
 have WP := Aside0.mk (show wrap64 (p - 1) = p - 1 from w64 (by have := HP.out; omega) (by have := HP.out; omega))
 clear c1_ c2_
 go_enter Try.func188, Try.ntmps188
 go_wp2_with (first | ((with_reducible refine gate_dst (N := 2) rfl ?_); refine ev_box S rfl rfl (cs := #[.int .i64 op, .slice A1 nl c1, .slice A2 kd.length c2, .int .i64 mn, .int .i64 mx]) (t := 230) (by first | (go_simp; done) | (go_simp; rfl)) (fun g2 w_ Gg2 S1 => ?_); clear S; have S := S1; clear S1; have z0 := S.out.cell 0 0 rfl rfl; have z2 := S.out.cell 0 2 rfl rfl))
 go_quiet (first | (go_at_call 54; (refine (spec_l1In.calls _ _ _ _ _ (sIn _ _ _)).mono ?_); rintro e w' ⟨rfl, ⟨nd, rfl⟩⟩; (first | exact ⟨rfl, _, World.drewN_drewN _ _ _⟩ | exact ⟨rfl, _, Eq.trans (World.drewN_drewN _ _ _) (congrArg (World.drewN _) (Nat.add_assoc _ _ _))⟩)) | (go_at_call 197; (refine (spec_l3Kids.calls 1 op _ _ (sKids 0 op)).mono ?_); rintro e w' ⟨rfl, ⟨nd, rfl⟩⟩; (first | exact ⟨rfl, _, World.drewN_drewN _ _ _⟩ | exact ⟨rfl, _, Eq.trans (World.drewN_drewN _ _ _) (congrArg (World.drewN _) (Nat.add_assoc _ _ _))⟩)))
 rename_i nq
 replace S := Aside0.mk (S.out.drewN nq)
 clear z0 z2 g1 g2_
 generalize World.drewN _ nq = w3 at S ⊢
 rw [decide_eq_true HQ.out.1]
 go_wp2
 go_loopg [5] kd.length (fun gk v5 wr => ∃ i : Nat, v5 = .int .i64 (i : Int) ∧ i + gk = kd.length ∧ Aside0 (∀ j : Nat, j < i → 0 ≤ rd kd j ∧ rd kd j ≤ p - 1) ∧ Aside0 (Hp base w0 wr (fB base g2 #[.int .i64 op, .slice A1 nl c1, .slice A2 kd.length c2, .int .i64 mn, .int .i64 mx] 230 :: L)))
 case atStart => exact ⟨0, rfl, by omega, ⟨fun j hj => absurd hj (Nat.not_lt_zero _)⟩, S⟩
 case round =>
  clear S; obtain ⟨i, rfl, hi, HJ, S⟩ := hrel; have HI := Aside0.mk hi; clear hi; have z2 := S.out.cell 0 2 rfl rfl
  by_cases c : i < kd.length
  ·obtain ⟨ad, ek, hx⟩ := Kd.at_int (HK.out _ S.out.tail) (i : Int) (by omega) (by omega)
   cases ek
   rw [Int.toNat_natCast] at hx
   have hm0 := eq_true (show (i : Int) < (kd.length : Int) by omega); have hm1 := eq_true (show (0 : Int) ≤ (i : Int) by omega); have HC := Aside0.mk c; clear c; have WN := Aside0.mk (show wrap64 ((i : Int) + 1) = ((i + 1 : Nat) : Int) from nat_next (by have := HI.out; have := HKL.out; omega))
   go_wp2_with fail
   rw [WP.out]
   refine (spec_l1In.calls _ _ _ _ _ (sIn _ _ _)).mono ?_
   rintro e w_ ⟨rfl, ⟨nd, rfl⟩⟩
   clear z2 hx; replace S := Aside0.mk (S.out.drewN nd); generalize World.drewN _ nd = w4 at S ⊢
   by_cases cq : 0 ≤ rd kd i ∧ rd kd i ≤ p - 1
   ·rw [decide_eq_true cq]
    have HJ2 := Aside0.mk (show ∀ j : Nat, j < i + 1 → 0 ≤ rd kd j ∧ rd kd j ≤ p - 1 from fun j hj => (Nat.lt_or_eq_of_le (Nat.le_of_lt_succ hj)).elim (HJ.out j) (fun q => q ▸ cq))
    go_wp2
    go_roundg (kd.length - (i + 1))
    case measure => have := HI.out; have := HC.out; omega
    case rel => exact ⟨i + 1, congrArg (Value.int .i64) WN.out, by have := HC.out; omega, HJ2, S⟩
   ·rw [decide_eq_false cq]
    go_wp2
    go_ret
    exact ⟨_, rfl, fun q => absurd q (by decide), S.out.tail⟩
  ·have hcond := eq_false (show ¬ (i : Int) < (kd.length : Int) by omega)
   have HA : Aside0 (∀ x ∈ kd, 0 ≤ x ∧ x ≤ p - 1) := ⟨fun x hx => by
    obtain ⟨j, hj, rfl⟩ := List.mem_iff_getElem.1 hx; have := HJ.out j (by omega)
    unfold rd at this
    rw [Int.toNat_natCast, List.getD_eq_getElem?_getD, List.getElem?_eq_getElem hj] at this
    exact this⟩
   clear c HJ; have z0 := S.out.cell 0 0 rfl rfl; have z1 := S.out.cell 0 1 rfl rfl; have z3 := S.out.cell 0 3 rfl rfl; have z4 := S.out.cell 0 4 rfl rfl
   by_cases e2 : op = 2
   ·have g1 := beq_iff_eq.2 e2
    have g2_ := bne_eq_false_iff_eq.2 e2; have g3 : (op != 8) = true := bne_iff_ne.2 (by omega); have g4 : (op == 8) = false := beq_eq_false_iff_ne.2 (by omega)
    go_wp2_with fail
    have hcl := spec_ClassOk.calls (ls.length + 1) A1 c1 ls ck _ (HS.out _ S.out.tail) HC1.out HCK.out.1
    rw [← HNL.out] at hcl
    refine hcl.mono ?_
    clear hcl
    rintro e w_ ⟨rfl, hb⟩
    replace S := Aside0.mk (S.out.go hb); clear hb z0 z1 z3 z4; have z0 := S.out.cell 0 0 rfl rfl; have z1 := S.out.cell 0 1 rfl rfl; have z3 := S.out.cell 0 3 rfl rfl; have z4 := S.out.cell 0 4 rfl rfl
    cases ck with
    | true =>
     have LE : nl ≤ 128 := by have := HCK.out.2 rfl; have := HNL.out; omega
     by_cases e0 : nl = 0
     ·subst e0
      go_wp2
      go_ret
      exact ⟨_, rfl, fun q => absurd q (by decide), S.out.tail⟩
     ·have g5 : ((nl : Int) == 0) = false := beq_eq_false_iff_ne.2 (by omega)
      have g6 := eq_false e0
      go_wp2
      all_goals (go_ret; exact ⟨_, rfl, fun _ => ⟨LE, HQ.out.1, HQ.out.2, HA.out, fun q => absurd q (by omega)⟩, S.out.tail⟩)
    | false =>
     go_wp2
     go_ret
     exact ⟨_, rfl, fun q => absurd q (by decide), S.out.tail⟩
   ·have g1 := beq_eq_false_iff_ne.2 e2
    have g2_ := bne_iff_ne.2 e2
    by_cases e0 : nl = 0
    ·subst e0
     by_cases e8 : op = 8
     ·have g3 : (op != 8) = false := bne_eq_false_iff_eq.2 e8
      have g4 : (op == 8) = true := beq_iff_eq.2 e8
      have LE : 0 ≤ 128 := by omega
      clear e8 e2
      go_wp2_with fail
      refine (spec_l1In.calls _ _ _ _ _ (sIn _ _ _)).mono ?_
      rintro e w_ ⟨rfl, ⟨nd, rfl⟩⟩
      replace S := Aside0.mk (S.out.drewN nd); clear z0 z1 z3 z4; generalize World.drewN _ nd = w4 at S ⊢; have z3 := S.out.cell 0 3 rfl rfl; have z4 := S.out.cell 0 4 rfl rfl
      by_cases cm : 0 ≤ mn ∧ mn ≤ 30
      ·rw [decide_eq_true cm]
       by_cases cx : mx = -1
       ·have g5 : (mx == -1) = true := beq_iff_eq.2 cx
        go_wp2
        all_goals (go_ret; exact ⟨_, rfl, fun _ => ⟨LE, HQ.out.1, HQ.out.2, HA.out, fun _ => ⟨cm.1, cm.2, by omega⟩⟩, S.out.tail⟩)
       ·have g5 : (mx == -1) = false := beq_eq_false_iff_ne.2 cx
        go_wp2_with fail
        all_goals
         refine (spec_l1In.calls _ _ _ _ _ (sIn _ _ _)).mono ?_
         rintro e w_ ⟨rfl, ⟨nd, rfl⟩⟩
         replace S := Aside0.mk (S.out.drewN nd); clear z3 z4; generalize World.drewN _ nd = w4 at S ⊢
         go_wp2
         go_ret
         exact ⟨_, rfl, fun q => ⟨LE, HQ.out.1, HQ.out.2, HA.out, fun _ => ⟨cm.1, cm.2, by simp at q; omega⟩⟩, S.out.tail⟩
      ·rw [decide_eq_false cm]
       go_wp2
       go_ret
       exact ⟨_, rfl, fun q => absurd q (by decide), S.out.tail⟩
     ·have g3 : (op != 8) = true := bne_iff_ne.2 e8
      have LE : 0 ≤ 128 := by omega
      have g4 : (op == 8) = false := beq_eq_false_iff_ne.2 e8
      go_wp2
      all_goals (go_ret; exact ⟨_, rfl, fun _ => ⟨LE, HQ.out.1, HQ.out.2, HA.out, fun q => absurd q (by omega)⟩, S.out.tail⟩)
    ·have g5 := eq_true (show (0 : Int) < (nl : Int) by omega)
     have g6 := eq_true (show 0 < nl by omega)
     go_wp2
     go_ret
     exact ⟨_, rfl, fun q => absurd q (by decide), S.out.tail⟩
end

/-! ### spec_RxOk: function 174 -/
section
open Go.Proofs.Ytfajfjgkkgigoaa.Kit
/-- the nodes of an expression, readable as long as L holds -/
def NodesAt (base : Nat) (w0 : World) (L : List Fact) (An : Option Addr) (ns : List S230) : Prop := ∀ i : Nat, i < ns.length → ∃ ad A1 c1 A2 c2, An = some ad ∧ (((rd_T230 ns i).f1.length ≤ c1 ∧ (rd_T230 ns i).f2.length ≤ c2) ∧ ∀ W, Hp base w0 W L → W.cell? (ad.add (i * 5)) = some (.int .i64 (rd_T230 ns i).f0) ∧ W.cell? ⟨(ad.add (i * 5)).block, (ad.add (i * 5)).off + 1, none⟩ = some (.slice A1 (rd_T230 ns i).f1.length c1) ∧ W.cell? ⟨(ad.add (i * 5)).block, (ad.add (i * 5)).off + 2, none⟩ = some (.slice A2 (rd_T230 ns i).f2.length c2) ∧ W.cell? ⟨(ad.add (i * 5)).block, (ad.add (i * 5)).off + 3, none⟩ = some (.int .i64 (rd_T230 ns i).f3) ∧ W.cell? ⟨(ad.add (i * 5)).block, (ad.add (i * 5)).off + 4, none⟩ = some (.int .i64 (rd_T230 ns i).f4) ∧ Kd.C k160 W A1 (rd_T230 ns i).f1.length (rd_T230 ns i).f1 ∧ Kd.C (Kd.int .i64) W A2 (rd_T230 ns i).f2.length (rd_T230 ns i).f2)
theorem NodesAt.more {base : Nat} {w0 : World} {L : List Fact} {An : Option Addr} {ns : List S230} (h : NodesAt base w0 L An ns) (M : List Fact) : NodesAt base w0 (M ++ L) An ns := fun i hi => by
 obtain ⟨ad, A1, c1, A2, c2, e, hl, hW⟩ := h i hi
 exact ⟨ad, A1, c1, A2, c2, e, hl, fun W q => hW W (q.drop M)⟩
/-- what is asked of a node -/
def NodeOK (ns : List S230) (i : Nat) : Prop := (rd_T230 ns i).f1.length ≤ 128 ∧ (((rd_T230 ns i).f0 = 1 ∨ (rd_T230 ns i).f0 = 2) ∨ (1 ≤ (rd_T230 ns i).f2.length ∧ 0 ≤ rd (rd_T230 ns i).f2 0 ∧ rd (rd_T230 ns i).f2 0 < i)) ∧ (((rd_T230 ns i).f0 = 3 ∨ (rd_T230 ns i).f0 = 4) → 2 ≤ (rd_T230 ns i).f2.length ∧ 0 ≤ rd (rd_T230 ns i).f2 1 ∧ rd (rd_T230 ns i).f2 1 < i) ∧ ((rd_T230 ns i).f0 = 8 → 0 ≤ (rd_T230 ns i).f3 ∧ (rd_T230 ns i).f3 ≤ 30 ∧ (rd_T230 ns i).f4 ≤ 30)
/-- lengths that fit -/
def RxB (ns : List S230) : Prop := ∀ i : Nat, i < ns.length → (rd_T230 ns i).f1.length ≤ 1048576 ∧ (rd_T230 ns i).f2.length ≤ 1048576
/-- a flag is told, and what holds if it is set -/
def BPost (base : Nat) (w0 : World) (L : List Fact) (Q : Prop) (e : Ending) (w' : World) : Prop := ∃ b : Bool, e = .returned (.bool b) ∧ (b = true → Q) ∧ Hp base w0 w' L
def NodeCat (ns : List S230) (i : Nat) : Prop := NodeC (rd_T230 ns i).f0 (rd_T230 ns i).f1.length (rd_T230 ns i).f2 (rd_T230 ns i).f3 (rd_T230 ns i).f4 i
theorem nodeC_at {ns : List S230} {i : Nat} (h : NodeC (rd_T230 ns i).f0 (rd_T230 ns i).f1.length (rd_T230 ns i).f2 (rd_T230 ns i).f3 (rd_T230 ns i).f4 i) : NodeCat ns i := h
theorem nodeC_ok {ns : List S230} {i : Nat} (h : NodeC (rd_T230 ns i).f0 (rd_T230 ns i).f1.length (rd_T230 ns i).f2 (rd_T230 ns i).f3 (rd_T230 ns i).f4 i) : NodeOK ns i := by
 unfold NodeC at h
 unfold NodeOK
 generalize rd_T230 ns (i : Int) = nd at *
 obtain ⟨h1, h2, h3, h4, h5⟩ := h
 have hr : ∀ j : Nat, j < nd.f2.length → 0 ≤ rd nd.f2 j ∧ rd nd.f2 j < i := fun j hj => by
  have := h4 (rd nd.f2 j) (by unfold rd; rw [Int.toNat_natCast, List.getD_eq_getElem?_getD, List.getElem?_eq_getElem hj]; exact List.getElem_mem _)
  omega
 have e0 := hr 0
 have e1 := hr 1
 unfold kk at h3
 refine ⟨h1, ?_, fun q => ?_, fun q => h5 q⟩
 ·by_cases c : nd.f0 = 1 ∨ nd.f0 = 2
  ·exact .inl c
  ·have : 1 ≤ nd.f2.length := by split at h3 <;> (try split at h3) <;> omega
   exact .inr ⟨this, e0 (by omega)⟩
 ·have : 2 ≤ nd.f2.length := by split at h3 <;> (try split at h3) <;> omega
  exact ⟨this, e1 (by omega)⟩
set_option maxHeartbeats 4000000 in
set_option maxRecDepth 100000 in
theorem spec_RxOk.calls {base : Nat} {w0 w : World} {L : List Fact} (S : Hp base w0 w L) (An : Option Addr) (cn : Nat) (ns : List S230) (hN : NodesAt base w0 L An ns) (hb : ∀ i : Nat, i < ns.length → (rd_T230 ns i).f1.length ≤ 1048576 ∧ (rd_T230 ns i).f2.length ≤ 1048576) :
  Calls Try.prog 174 #[.agg #[.slice An ns.length cn]] w (BPost base w0 L (1 ≤ ns.length ∧ ns.length ≤ 300 ∧ ∀ i : Nat, i < ns.length → NodeOK ns i)) := by
 replace S := Aside0.mk S
 have HNA := Aside0.mk hN
 have HBD := Aside0.mk hb
 clear hN hb
 obtain ⟨nn, enn⟩ : ∃ q, q = ns.length := ⟨_, rfl⟩
 have HNN := Aside0.mk enn
 rw [← enn]
 by_cases cl : 1 ≤ nn ∧ nn ≤ 300
 case neg =>
  clear enn
  rcases (show nn < 1 ∨ 300 < nn by omega) with c | c
  ·obtain rfl : nn = 0 := by omega
   go_enter Try.func174, Try.ntmps174
   go_wp2_with (first | ((with_reducible refine gate_dst (N := 1) rfl ?_); refine ev_box S rfl rfl (cs := #[.slice An 0 cn]) (t := 214) (by first | (go_simp; done) | (go_simp; rfl)) (fun g1 w_ Gg1 S1 => ?_); clear S; have S := S1; clear S1; have z0 := S.out.cell 0 0 rfl rfl))
   go_ret
   exact ⟨_, rfl, fun q => absurd q (by decide), S.out.tail⟩
  ·have h1 := eq_false (show ¬ (nn : Int) < 1 by omega)
   have h2 := eq_true (show (300 : Int) < (nn : Int) by omega); have h3 := eq_true (show 300 < nn by omega); have h4 := eq_false (show ¬ nn < 1 by omega); have h5 := eq_false (show ¬ nn = 0 by omega)
   go_enter Try.func174, Try.ntmps174
   go_wp2_with (first | ((with_reducible refine gate_dst (N := 1) rfl ?_); refine ev_box S rfl rfl (cs := #[.slice An nn cn]) (t := 214) (by first | (go_simp; done) | (go_simp; rfl)) (fun g1 w_ Gg1 S1 => ?_); clear S; have S := S1; clear S1; have z0 := S.out.cell 0 0 rfl rfl))
   go_ret
   exact ⟨_, rfl, fun q => absurd q (by decide), S.out.tail⟩
 have HN := Aside0.mk cl
 clear cl enn
 obtain ⟨ad0, eA0⟩ : ∃ ad0, An = some ad0 := by
  obtain ⟨ad, _, _, _, _, e, _⟩ := HNA.out 0 (by have := HNN.out; have := HN.out; omega)
  exact ⟨ad, e⟩
 subst eA0
 have h1 := eq_false (show ¬ (nn : Int) < 1 by have := HN.out; omega)
 have h2 := eq_false (show ¬ (300 : Int) < (nn : Int) by have := HN.out; omega)
 have h3 := eq_false (show ¬ 300 < nn by have := HN.out; omega)
 have h4 := eq_false (show ¬ nn < 1 by have := HN.out; omega)
 have h5 := eq_false (show ¬ nn = 0 by have := HN.out; omega)
 have h6 := eq_true (show (0 : Int) ≤ (nn : Int) by omega)
 go_enter Try.func174, Try.ntmps174
 go_wp2_with (first | ((with_reducible refine gate_dst (N := 1) rfl ?_); refine ev_box S rfl rfl (cs := #[.slice (some ad0) nn cn]) (t := 214) (by first | (go_simp; done) | (go_simp; rfl)) (fun g1 w_ Gg1 S1 => ?_); clear S; have S := S1; clear S1; have z0 := S.out.cell 0 0 rfl rfl) | ((with_reducible refine gate_dst (N := 20) rfl ?_); refine ev_make S (Kd.int .i64) 3 rfl (N := 20) rfl 167 _ _ rfl (nn : Int) rfl rfl Try.underlying167 (.int .i64 0) 8 (by kernel_rfl) rfl (by decide) (by omega) 0 rfl (by omega) (by have := HN.out; omega) (fun v20 w_ S1 => ?_); clear S; have S := S1; clear S1; (try clear z0)))
 obtain ⟨us, eXS⟩ : ∃ q, q = List.replicate (nn : Int).toNat (0 : Int) := ⟨_, rfl⟩
 rw [← eXS] at S
 have hus : us.length = nn := by rw [eXS, List.length_replicate, Int.toNat_natCast]
 clear eXS
 obtain ⟨gu, cu, eg⟩ := S.out.form 0 rfl (by have := HN.out; omega)
 rw [hus] at eg
 subst eg
 have Hus := Aside0.mk hus
 clear hus
 clear h1 h2 h3 h4 h5 h6
 go_wp2_with fail
 go_loopg [5] nn (fun gk v5 wr => ∃ (i : Nat) (us : List Int), v5 = .int .i64 (i : Int) ∧ i + gk = nn ∧ us.length = nn ∧ Aside0 (∀ j : Nat, j < i → NodeCat ns j) ∧ Aside0 (Hp base w0 wr (fR (Kd.int .i64) 3 base (.slice (some ⟨gu, 0, none⟩) nn cu) us :: fB base g1 #[.slice (some ad0) nn cn] 214 :: L)))
 case atStart => exact ⟨0, us, rfl, by omega, Hus.out, ⟨fun j hj => absurd hj (Nat.not_lt_zero _)⟩, S⟩
 case round =>
  clear S Hus us; obtain ⟨i, us, rfl, hi, hus, HJ, S⟩ := hrel; have HI := Aside0.mk hi; have HUS := Aside0.mk hus
  by_cases c : i < nn
  case pos =>
   obtain ⟨ad, A1, c1, A2, c2, eA, ⟨hl1, hl2⟩, hW⟩ := HNA.out i (by have := HNN.out; omega); obtain rfl := Option.some.inj eA; have HB1 := Aside0.mk (HBD.out i (by have := HNN.out; omega)); have HW := Aside0.mk hW; have HL2 := Aside0.mk (And.intro hl1 hl2); have HOK := Aside0.mk (@nodeC_at ns i); clear hW hl1 hl2 eA; generalize rd_T230 ns (i : Int) = nd at *; have hm0 := eq_true (show (i : Int) < (nn : Int) by omega); have hm1 := eq_true (show (0 : Int) ≤ (i : Int) by omega); have HCI := Aside0.mk c; clear c hi hus; obtain ⟨x0, x1, x2, x3, x4, -, -⟩ := HW.out _ S.out.tail.tail; have y0 := S.out.cell 1 0 rfl rfl
   go_wp2_with fail
   refine (spec_l3Node.calls S.out nd.f0 nd.f3 nd.f4 (i : Int) A1 A2 c1 c2 nd.f1.length nd.f1 rfl nd.f2 (fun W q => (HW.out W q.tail.tail).2.2.2.2.2.1) (fun W q => (HW.out W q.tail.tail).2.2.2.2.2.2) HB1.out.1 HB1.out.2 HL2.out.1 (by have := HCI.out; have := HN.out; omega)).mono ?_
   rintro e w_ ⟨b, rfl, hq, S1⟩
   replace S := Aside0.mk S1; clear S1 x0 x1 x2 x3 x4 y0
   cases b with
   | false =>
    clear hq
    go_wp2
    go_ret
    exact ⟨_, rfl, fun q => absurd q (by decide), S.out.tail.tail⟩
   | true =>
    have HC := Aside0.mk (hq rfl); clear hq
    go_wp2_with fail
    go_loopg [6] nd.f2.length (fun gk v6 wr => ∃ (k : Nat) (us2 : List Int), v6 = .int .i64 (k : Int) ∧ k + gk = nd.f2.length ∧ us2.length = nn ∧ Aside0 (Hp base w0 wr (fR (Kd.int .i64) 3 base (.slice (some ⟨gu, 0, none⟩) nn cu) us2 :: fB base g1 #[.slice (some ad0) nn cn] 214 :: L)))
    case atStart => exact ⟨0, us, rfl, by omega, HUS.out, S⟩
    case round =>
     clear S; obtain ⟨k, us2, rfl, hk, hus2, S⟩ := hrel; have y0 := S.out.cell 1 0 rfl rfl; obtain ⟨-, -, x2, -, -, -, -⟩ := HW.out _ S.out.tail.tail
     by_cases c : k < nd.f2.length
     ·have hb2 := HCI.out
      obtain ⟨ad2, ek, hx⟩ := Kd.at_int (HW.out _ S.out.tail.tail).2.2.2.2.2.2 (k : Int) (by omega) (by omega); cases ek
      rw [Int.toNat_natCast] at hx
      have hq := HC.out.2.2.2.1 (rd nd.f2 (k : Int)) (by unfold rd; rw [Int.toNat_natCast, List.getD_eq_getElem?_getD, List.getElem?_eq_getElem (by omega)]; exact List.getElem_mem _); generalize rd nd.f2 (k : Int) = q at hx hq; have hq0 := eq_true hq.1; have hq1 := eq_true (show q < (nn : Int) by omega); have hk0 := eq_true (show (k : Int) < (nd.f2.length : Int) by omega); have hk1 := eq_true (show (0 : Int) ≤ (k : Int) by omega); have HQ := Aside0.mk hq; clear hq; obtain ⟨zk, fk⟩ := S.out.cellR 0 (0 : Int) rfl q HQ.out.1 (by have := HQ.out; omega); have WN := Aside0.mk (show wrap64 ((k : Int) + 1) = ((k + 1 : Nat) : Int) from nat_next (by have := HB1.out; omega)); have HK := Aside0.mk (And.intro (And.intro hk c) hus2); clear hk c hus2 hb2
      go_wp2_with (first | ((with_reducible refine gate_store (t := 3) (p := 58) rfl ?_); refine ev_run (w1 := (_ : World).setCell ⟨gu, (q).toNat, none⟩ (.int .i64 (wrap64 (rdOf 0 us2 q + 1)))) rfl rfl (by first | (go_simp; done) | (go_simp; rfl)) (fun w_ hw => ?_); have S1 := Aside0.mk (S.out.putRow 0 rfl (q) (wrap64 (rdOf 0 us2 q + 1))); rw [← hw] at S1; clear hw; clear S; have S := S1; clear S1; clear zk fk hx x2 y0))
      go_roundg (nd.f2.length - (k + 1))
      case measure => have := HK.out; omega
      case rel => exact ⟨k + 1, _, congrArg (Value.int .i64) WN.out, by have := HK.out; omega, by rw [List.length_set]; exact HK.out.2, S⟩
     ·have hcond := eq_false (show ¬ (k : Int) < (nd.f2.length : Int) by omega)
      have HU2 := Aside0.mk hus2; have WN := Aside0.mk (show wrap64 ((i : Int) + 1) = ((i + 1 : Nat) : Int) from nat_next (by have := HN.out; have := HCI.out; omega)); have HJ2 := Aside0.mk (show ∀ j : Nat, j < i + 1 → NodeCat ns j from fun j hj => (Nat.lt_or_eq_of_le (Nat.le_of_lt_succ hj)).elim (HJ.out j) (fun q => q ▸ HOK.out HC.out)); clear c hk hus2
      go_wp2
      go_roundg (nn - (i + 1))
      case measure => have := HI.out; have := HCI.out; omega
      case rel => exact ⟨i + 1, us2, congrArg (Value.int .i64) WN.out, by have := HI.out; have := HCI.out; omega, HU2.out, HJ2, S⟩
  have hcond := eq_false (show ¬ (i : Int) < (nn : Int) by omega); have HALL := Aside0.mk (show ∀ j : Nat, j < nn → NodeCat ns j from fun j hj => HJ.out j (by omega)); have h6 := eq_true (show (0 : Int) ≤ (nn : Int) by omega); clear c hi hus HJ
  go_wp2_with (first | ((with_reducible refine gate_dst (N := 60) rfl ?_); refine ev_make S (Kd.int .i64) 3 rfl (N := 60) rfl 167 _ _ rfl (nn : Int) rfl rfl Try.underlying167 (.int .i64 0) 8 (by kernel_rfl) rfl (by decide) (by omega) 0 rfl (by omega) (by have := HN.out; omega) (fun v60 w_ S1 => ?_); clear S; have S := S1; clear S1))
  obtain ⟨ds, eXS⟩ : ∃ q, q = List.replicate (nn : Int).toNat (0 : Int) := ⟨_, rfl⟩
  rw [← eXS] at S
  have hds : ds.length = nn := by rw [eXS, List.length_replicate, Int.toNat_natCast]
  clear eXS; obtain ⟨gd, cd, eg⟩ := S.out.form 0 rfl (by have := HN.out; omega)
  rw [hds] at eg
  subst eg; have Hds := Aside0.mk hds; clear hds; clear h6 hcond; have WM := Aside0.mk (show wrap64 ((nn : Int) - 1) = (nn : Int) - 1 from w64 (by omega) (by have := HN.out; omega))
  go_wp2_with fail
  rw [WM.out]
  go_loopg [8] nn (fun gk v8 wr => ∃ (i : Int) (ds : List Int), v8 = .int .i64 i ∧ i + 1 = (gk : Int) ∧ (gk ≤ nn ∧ ds.length = nn) ∧ Aside0 (Hp base w0 wr (fR (Kd.int .i64) 3 base (.slice (some ⟨gd, 0, none⟩) nn cd) ds :: fR (Kd.int .i64) 3 base (.slice (some ⟨gu, 0, none⟩) nn cu) us :: fB base g1 #[.slice (some ad0) nn cn] 214 :: L)))
  case atStart => exact ⟨(nn : Int) - 1, ds, rfl, by omega, ⟨Nat.le_refl _, Hds.out⟩, S⟩
  case round =>
   clear S Hds ds; obtain ⟨i, ds, rfl, hi, ⟨hgk, hds⟩, S⟩ := hrel
   by_cases c : 0 ≤ i
   case neg =>
    have hcond := eq_false c
    go_wp2
    go_ret
    exact ⟨_, rfl, fun _ => ⟨HN.out.1, HN.out.2, fun j hj => nodeC_ok (HALL.out j hj)⟩, S.out.tail.tail.tail⟩
   obtain ⟨m, rfl⟩ : ∃ m : Nat, i = (m : Int) := ⟨i.toNat, by omega⟩; obtain ⟨gk_, egk⟩ : ∃ q, q = gk := ⟨_, rfl⟩; have HGK := Aside0.mk (show (m : Int) + 1 = (gk_ : Int) ∧ gk_ ≤ nn ∧ gk_ = gk from ⟨by rw [egk]; exact hi, by rw [egk]; exact hgk, egk⟩); clear egk; have HDS := Aside0.mk hds; have HM := Aside0.mk (show m < nn by omega); obtain ⟨ad, A1, c1, A2, c2, eA, ⟨hl1, hl2⟩, hW⟩ := HNA.out m (by have := HNN.out; omega); obtain rfl := Option.some.inj eA; have HB1 := Aside0.mk (HBD.out m (by have := HNN.out; omega)); have HW := Aside0.mk hW; have HL2 := Aside0.mk (And.intro hl1 hl2); have HOK := Aside0.mk (@nodeC_at ns m); clear hW hl1 hl2 eA; have HC := Aside0.mk (show NodeC (rd_T230 ns m).f0 (rd_T230 ns m).f1.length (rd_T230 ns m).f2 (rd_T230 ns m).f3 (rd_T230 ns m).f4 m from HALL.out m HM.out); generalize rd_T230 ns (m : Int) = nd at *; have hm0 := eq_true (show (0 : Int) ≤ (m : Int) by omega); have hm1 := eq_true (show (m : Int) < (nn : Int) by omega); obtain ⟨zu, -⟩ := S.out.cellR 1 (0 : Int) rfl (m : Int) (by omega) (by omega); obtain ⟨zd, -⟩ := S.out.cellR 0 (0 : Int) rfl (m : Int) (by omega) (by omega)
   rw [Int.toNat_natCast] at zu zd
   generalize rdOf (0 : Int) us (m : Int) = u at zu; generalize rdOf (0 : Int) ds (m : Int) = d at zd; have WM1 := WM.out; clear c hi hgk hds
   by_cases bad : ((m : Int) < (nn : Int) - 1 ∧ u ≠ 1) ∨ 150 < d
   case pos =>
    rcases (show ((m : Int) < (nn : Int) - 1 ∧ u ≠ 1) ∨ (((m : Int) < (nn : Int) - 1 ∧ u = 1) ∧ 150 < d) ∨ (¬ (m : Int) < (nn : Int) - 1 ∧ 150 < d) by omega) with c | c | c
    all_goals first | have hc1 := eq_true (show (m : Int) < (nn : Int) - 1 by omega) | have hc1 := eq_false (show ¬ (m : Int) < (nn : Int) - 1 by omega)
    all_goals first | have hc2 := bne_eq_false_iff_eq.2 (show u = 1 by omega) | have hc2 := bne_iff_ne.2 (show u ≠ 1 by omega) | skip
    all_goals first | have hc3 := eq_true (show 150 < d by omega) | have hc3 := eq_false (show ¬ 150 < d by omega) | skip
    all_goals clear c
    all_goals (clear bad; go_wp2; go_ret; exact ⟨_, rfl, fun q => absurd q (by decide), S.out.tail.tail.tail⟩)
   rcases (show ((m : Int) < (nn : Int) - 1 ∧ u = 1 ∧ ¬ 150 < d) ∨ (¬ (m : Int) < (nn : Int) - 1 ∧ ¬ 150 < d) by omega) with c | c
   all_goals first | have hc1 := eq_true (show (m : Int) < (nn : Int) - 1 by omega) | have hc1 := eq_false (show ¬ (m : Int) < (nn : Int) - 1 by omega)
   all_goals first | have hc2 := bne_eq_false_iff_eq.2 (show u = 1 by omega) | have hc2 := bne_iff_ne.2 (show u ≠ 1 by omega) | skip
   all_goals first | have hc3 := eq_true (show 150 < d by omega) | have hc3 := eq_false (show ¬ 150 < d by omega) | skip
   all_goals clear c
   all_goals
    clear bad
    go_wp2_with fail
    try simp only [WM1]
    try simp only [hc1, decide_true, decide_false]
    try simp only [hc2]
    try simp only [hc3, decide_true, decide_false]
    clear zu zd WM1; (try clear hc1); (try clear hc2); (try clear hc3)
    go_loopg [9] nd.f2.length (fun gk v9 wr => ∃ (k : Nat) (ds2 : List Int), v9 = .int .i64 (k : Int) ∧ k + gk = nd.f2.length ∧ ds2.length = nn ∧ Aside0 (Hp base w0 wr (fR (Kd.int .i64) 3 base (.slice (some ⟨gd, 0, none⟩) nn cd) ds2 :: fR (Kd.int .i64) 3 base (.slice (some ⟨gu, 0, none⟩) nn cu) us :: fB base g1 #[.slice (some ad0) nn cn] 214 :: L)))
    case atStart => exact ⟨0, ds, rfl, by omega, HDS.out, S⟩
    case round =>
     clear S; obtain ⟨k, ds2, rfl, hk, hds2, S⟩ := hrel; have y0 := S.out.cell 2 0 rfl rfl; obtain ⟨-, -, x2, -, -, -, -⟩ := HW.out _ S.out.tail.tail.tail
     by_cases c : k < nd.f2.length
     ·have hb2 := HM.out
      obtain ⟨ad2, ek, hx⟩ := Kd.at_int (HW.out _ S.out.tail.tail.tail).2.2.2.2.2.2 (k : Int) (by omega) (by omega); cases ek
      rw [Int.toNat_natCast] at hx
      have hq := HC.out.2.2.2.1 (rd nd.f2 (k : Int)) (by unfold rd; rw [Int.toNat_natCast, List.getD_eq_getElem?_getD, List.getElem?_eq_getElem (by omega)]; exact List.getElem_mem _); generalize rd nd.f2 (k : Int) = q at hx hq; have hq0 := eq_true hq.1; have hq1 := eq_true (show q < (nn : Int) by omega); have hk0 := eq_true (show (k : Int) < (nd.f2.length : Int) by omega); have hk1 := eq_true (show (0 : Int) ≤ (k : Int) by omega); have HQ := Aside0.mk hq; clear hq; obtain ⟨zm, -⟩ := S.out.cellR 0 (0 : Int) rfl (m : Int) (by omega) (by omega)
      rw [Int.toNat_natCast] at zm
      have WN := Aside0.mk (show wrap64 ((k : Int) + 1) = ((k + 1 : Nat) : Int) from nat_next (by have := HB1.out; omega)); have HK := Aside0.mk (And.intro (And.intro hk c) hds2); clear hk c hds2 hb2
      go_wp2_with fail
      go_still_tail 16, (by kernel_rfl)
      change wpList _ _ _ _ _ wr.drew
      replace S := Aside0.mk S.out.drew; clear y0 x2 hx zm; generalize wr.drew = w5 at S ⊢; obtain ⟨zk, fk⟩ := S.out.cellR 0 (0 : Int) rfl q HQ.out.1 (by have := HQ.out; have := HM.out; omega)
      go_wp2
      replace S := Aside0.mk (S.out.putRow 0 rfl q (wrap64 (rdOf 0 ds2 (m : Int) + 1)))
      go_roundg (nd.f2.length - (k + 1))
      case measure => have := HK.out; omega
      case rel => exact ⟨k + 1, _, congrArg (Value.int .i64) WN.out, by have := HK.out; omega, by rw [List.length_set]; exact HK.out.2, S⟩
     ·have hcond := eq_false (show ¬ (k : Int) < (nd.f2.length : Int) by omega)
      have HD2 := Aside0.mk hds2; have WN := Aside0.mk (show wrap64 ((m : Int) - 1) = (m : Int) - 1 from w64 (by omega) (by have := HN.out; have := HM.out; omega)); clear c hk hds2
      go_wp2
      go_roundg (gk_ - 1)
      case measure => have := HGK.out; omega
      case rel => exact ⟨(m : Int) - 1, ds2, congrArg (Value.int .i64) WN.out, by have := HGK.out; omega, ⟨by have := HGK.out; omega, HD2.out⟩, S⟩
end

/-! ### spec_l6Maker_state: function 190 -/
section
open Go.Proofs.Ytfajfjgkkgigoaa.Kit
set_option maxHeartbeats 4000000 in
set_option maxRecDepth 100000 in
theorem spec_l6Maker_state.calls {base : Nat} {w0 w : World} {L : List Fact} (i g : Nat) (s : Int) (ve vf : Value) (hi : L[i]? = some (fB base g #[.int .i64 s, ve, vf] 217)) (h0 : 0 ≤ s ∧ s ≤ 1000000) (S : Hp base w0 w L) :
  Calls Try.prog 190 #[.pointer (some ⟨g, 0, none⟩)] w fun e w' => e = .returned (.int .i64 s) ∧ Hp base w0 w' (L.set i (fB base g #[.int .i64 (s + 1), ve, vf] 217)) := by
 replace S := Aside0.mk S
 have z0 := S.out.cell i 0 hi rfl
 have f0 := S.out.frozen i 0 hi
 have e1 : wrap64 (s + 1) = s + 1 := w64 (by omega) (by omega)
 have e2 : wrap64 (s + 1 - 1) = s := by rw [w64 (by omega) (by omega)]; omega
 have HI := Aside0.mk hi
 have E1 := Aside0.mk e1
 have E2 := Aside0.mk e2
 clear hi h0 e1 e2
 go_enter Try.func190, Try.ntmps190
 go_wp2
 go_ret
 exact ⟨by first | (rw [E1.out, E2.out]; done) | (rw [E1.out, E2.out]; rfl), by rw [E1.out]; exact S.out.put i 0 HI.out rfl⟩
end

/-! ### spec_l6Maker_full: function 189 -/
section
open Go.Proofs.Ytfajfjgkkgigoaa.Kit
set_option maxHeartbeats 4000000 in
set_option maxRecDepth 100000 in
theorem spec_l6Maker_full.calls {base : Nat} {w0 w : World} {L : List Fact} (i g n c : Nat) (A : Option Addr) (s : Int) (vf : Value) (hi : L[i]? = some (fB base g #[.int .i64 s, (.slice A n c), vf] 217)) (S : Hp base w0 w L) :
  Calls Try.prog 189 #[.pointer (some ⟨g, 0, none⟩)] w fun e w' => e = .returned (.bool (decide (3000 < s ∨ 12000 < n))) ∧ Hp base w0 w' L := by
 replace S := Aside0.mk S
 have z0 := S.out.cell i 0 hi rfl
 have z1 := S.out.cell i 1 hi rfl
 clear hi
 by_cases c : 3000 < s
 ·have hc := eq_true c
  go_enter Try.func189, Try.ntmps189
  go_wp2
  go_ret
  exact ⟨by simp [c], S.out⟩
 ·have hc := eq_false c
  go_enter Try.func189, Try.ntmps189
  go_wp2
  go_ret
  exact ⟨by simp [c]; omega, S.out⟩
end

/-! ### spec_l6Maker_edge: function 176 -/
section
open Go.Proofs.Ytfajfjgkkgigoaa.Kit
theorem spec_l6Maker_edge.need0 : (rtab .any (opsOf Try.f176 0)).2.map Prod.fst = [[], [], [1], [2], [3], [4], [], [], [], [], [8, 9], [6, 7, 10], [11], [5, 12, 10], [0, 0, 1, 2, 3, 4, 5, 6, 7, 8, 9, 10, 11, 12, 13], [14, 0, 1, 2, 3, 4, 5, 6, 7, 8, 9, 10, 11, 12, 13], [15, 0, 1, 2, 3, 4, 5, 6, 7, 8, 9, 10, 11, 12, 13], [16, 13, 13, 0, 1, 2, 3, 4, 5, 6, 7, 8, 9, 10, 11, 12, 13]] := by kernel_rfl
theorem spec_l6Maker_edge.dst0 : (opsOf Try.f176 0).toList.map Oper.dst = [some 8, some 9, some 10, some 11, some 12, some 13, some 14, some 15, some 16, some 17, some 18, some 19, some 20, some 21, some 22, some 23, some 24, none] := by kernel_rfl
set_option maxHeartbeats 4000000 in
set_option maxRecDepth 100000 in
theorem spec_l6Maker_edge.calls {base : Nat} {w0 w : World} {L : List Fact} (g : Nat) (s x y : Int) (ve vf : Value) (es : List S85) (A : Option Addr) (c : Nat) (sp : List S160) (hC : ∀ W, Hp base w0 W L → Kd.C k160 W A sp.length sp) (hl : sp.length ≤ 1000000) (he : es.length ≤ 1000000) (S : Hp base w0 w (fB base g #[.int .i64 s, ve, vf] 217 :: fR k85 85 base ve es :: L)) :
  Calls Try.prog 176 #[.pointer (some ⟨g, 0, none⟩), .int .i64 x, .int .i64 y, .slice A sp.length c] w fun e w' => ∃ ve' : Value, e = .returned (.tuple #[]) ∧ Hp base w0 w' (fB base g #[.int .i64 s, ve', vf] 217 :: fR k85 85 base ve' (es ++ [⟨x, y, sp⟩]) :: L) := by
 replace S := Aside0.mk S
 have HC := Aside0.mk hC
 have HL := Aside0.mk hl
 have HE := Aside0.mk he
 clear hC hl he
 obtain ⟨Ae, ce, rfl⟩ := S.out.slice 1 rfl
 go_enter Try.func176, Try.ntmps176
 go_wp2_with fail
 refine mask_ (n := 18) (fun l v W => (l 0 = true → v 0 = .pointer (some ⟨g, 0, none⟩)) ∧ (l 1 = true → v 1 = .pointer (some ⟨g, 0, none⟩)) ∧ (l 2 = true → v 2 = .pointer (some ⟨g, 0, none⟩)) ∧ (l 3 = true → v 3 = .pointer (some ⟨g, 0, none⟩)) ∧ (l 4 = true → v 4 = .pointer (some ⟨g, 1, none⟩)) ∧ (l 5 = true → v 5 = .slice Ae es.length ce) ∧ (l 6 = true → v 6 = .int .i64 x) ∧ (l 7 = true → v 7 = .int .i64 y) ∧ (l 9 = true → v 9 = .slice A sp.length c) ∧ (l 11 = true → v 11 = .agg #[.int .i64 x, .int .i64 y, v 10]) ∧ (l 14 = true → v 14 = .pointer (some ⟨g, 0, none⟩)) ∧ (l 15 = true → v 15 = .pointer (some ⟨g, 0, none⟩)) ∧ (l 16 = true → v 16 = .pointer (some ⟨g, 1, none⟩)) ∧ Hp base w0 W (cf (l 13) fT (cf (l 12) (fR k85 85 base (v 12) [⟨x, y, sp⟩]) (cf (l 10) (fR k160 160 base (v 10) sp) (cf (l 8) (fR k160 160 base (v 8) []) fT))) :: fB base g #[.int .i64 s, bif l 17 then v 13 else .slice Ae es.length ce, vf] 217 :: cf (l 13) (fR k85 85 base (v 13) (es ++ [⟨x, y, sp⟩])) (fR k85 85 base (.slice Ae es.length ce) es) :: L)) [[], [], [1], [2], [3], [4], [], [], [], [], [8, 9], [6, 7, 10], [11], [5, 12, 10], [0, 0, 1, 2, 3, 4, 5, 6, 7, 8, 9, 10, 11, 12, 13], [14, 0, 1, 2, 3, 4, 5, 6, 7, 8, 9, 10, 11, 12, 13], [15, 0, 1, 2, 3, 4, 5, 6, 7, 8, 9, 10, 11, 12, 13], [16, 13, 13, 0, 1, 2, 3, 4, 5, 6, 7, 8, 9, 10, 11, 12, 13]] [some 8, some 9, some 10, some 11, some 12, some 13, some 14, some 15, some 16, some 17, some 18, some 19, some 20, some 21, some 22, some 23, some 24, none] 25 (by kernel_rfl) spec_l6Maker_edge.need0 spec_l6Maker_edge.dst0 (by decide) rfl ⟨fun h => absurd h (by decide), fun h => absurd h (by decide), fun h => absurd h (by decide), fun h => absurd h (by decide), fun h => absurd h (by decide), fun h => absurd h (by decide), fun h => absurd h (by decide), fun h => absurd h (by decide), fun h => absurd h (by decide), fun h => absurd h (by decide), fun h => absurd h (by decide), fun h => absurd h (by decide), fun h => absurd h (by decide), ?_⟩ ⟨?_, ?_, ?_, ?_, ?_, ?_, ?_, ?_, ?_, ?_, ?_, ?_, ?_, ?_, ?_, ?_, ?_, ?_, trivial⟩ (fun v W hJ => ?_)
 ·exact S.out.drew.blank
 ·rintro l v W zb HZ hsz ⟨p0, p1, p2, p3, p4, p5, p6, p7, p9, p11, p14, p15, p16, S⟩ hi hn hc K hK
  have e0 := oth_ (N := 0) (x := .pointer (some ⟨g, 0, none⟩)) HZ rfl rfl
  refine yields_ (N := some 8) (x := .pointer (some ⟨g, 0, none⟩)) rfl rfl ?_ (hK.out _ _ ⟨fun _ => rfl, p1, p2, p3, p4, p5, p6, p7, p9, p11, p14, p15, p16, S⟩)
  clear hK HZ hn hc p0 p1 p2 p3 p4 p5 p6 p7 p9 p11 p14 p15 p16; (try simp only [Array.getD_eq_getD_getElem?] at *); go_simp; try with_reducible rfl
 ·rintro l v W zb HZ hsz ⟨p0, p1, p2, p3, p4, p5, p6, p7, p9, p11, p14, p15, p16, S⟩ hi hn hc K hK
  have e0 := oth_ (N := 0) (x := .pointer (some ⟨g, 0, none⟩)) HZ rfl rfl
  refine yields_ (N := some 9) (x := .pointer (some ⟨g, 0, none⟩)) rfl rfl ?_ (hK.out _ _ ⟨p0, fun _ => rfl, p2, p3, p4, p5, p6, p7, p9, p11, p14, p15, p16, S⟩)
  clear hK HZ hn hc p0 p1 p2 p3 p4 p5 p6 p7 p9 p11 p14 p15 p16; (try simp only [Array.getD_eq_getD_getElem?] at *); go_simp; try with_reducible rfl
 ·rintro l v W zb HZ hsz ⟨p0, p1, p2, p3, p4, p5, p6, p7, p9, p11, p14, p15, p16, S⟩ hi hn hc K hK
  have e9 := at1 HZ hsz (hn 1 (by decide)) p1 rfl rfl (by decide)
  refine yields_ (N := some 10) (x := .pointer (some ⟨g, 0, none⟩)) rfl rfl ?_ (hK.out _ _ ⟨p0, p1, fun _ => rfl, p3, p4, p5, p6, p7, p9, p11, p14, p15, p16, S⟩)
  clear hK HZ hn hc p0 p1 p2 p3 p4 p5 p6 p7 p9 p11 p14 p15 p16; (try simp only [Array.getD_eq_getD_getElem?] at *); go_simp; try with_reducible rfl
 ·rintro l v W zb HZ hsz ⟨p0, p1, p2, p3, p4, p5, p6, p7, p9, p11, p14, p15, p16, S⟩ hi hn hc K hK
  have e10 := at1 HZ hsz (hn 2 (by decide)) p2 rfl rfl (by decide)
  refine yields_ (N := some 11) (x := .pointer (some ⟨g, 0, none⟩)) rfl rfl ?_ (hK.out _ _ ⟨p0, p1, p2, fun _ => rfl, p4, p5, p6, p7, p9, p11, p14, p15, p16, S⟩)
  clear hK HZ hn hc p0 p1 p2 p3 p4 p5 p6 p7 p9 p11 p14 p15 p16; (try simp only [Array.getD_eq_getD_getElem?] at *); go_simp; try with_reducible rfl
 ·rintro l v W zb HZ hsz ⟨p0, p1, p2, p3, p4, p5, p6, p7, p9, p11, p14, p15, p16, S⟩ hi hn hc K hK
  have e11 := at1 HZ hsz (hn 3 (by decide)) p3 rfl rfl (by decide)
  refine yields_ (N := some 12) (x := .pointer (some ⟨g, 1, none⟩)) rfl rfl ?_ (hK.out _ _ ⟨p0, p1, p2, p3, fun _ => rfl, p5, p6, p7, p9, p11, p14, p15, p16, S⟩)
  clear hK HZ hn hc p0 p1 p2 p3 p4 p5 p6 p7 p9 p11 p14 p15 p16; (try simp only [Array.getD_eq_getD_getElem?] at *); go_simp; try with_reducible rfl
 ·rintro l v W zb HZ hsz ⟨p0, p1, p2, p3, p4, p5, p6, p7, p9, p11, p14, p15, p16, S⟩ hi hn hc K hK
  have e12 := at1 HZ hsz (hn 4 (by decide)) p4 rfl rfl (by decide); have S0 := S
  rw [show l 13 = false from hc 13 5 (by decide) hi, show l 17 = false from hc 17 5 (by decide) hi] at S
  have z := S.cell 1 1 rfl rfl
  refine yields_ (N := some 13) (x := .slice Ae es.length ce) rfl rfl ?_ (hK.out _ _ ⟨p0, p1, p2, p3, p4, fun _ => rfl, p6, p7, p9, p11, p14, p15, p16, S0⟩)
  clear hK HZ hn hc p0 p1 p2 p3 p4 p5 p6 p7 p9 p11 p14 p15 p16; (try simp only [Array.getD_eq_getD_getElem?] at *); go_simp; try with_reducible rfl
 ·rintro l v W zb HZ hsz ⟨p0, p1, p2, p3, p4, p5, p6, p7, p9, p11, p14, p15, p16, S⟩ hi hn hc K hK
  have e1 := oth_ (N := 1) (x := .int .i64 x) HZ rfl rfl
  refine yields_ (N := some 14) (x := .int .i64 x) rfl rfl ?_ (hK.out _ _ ⟨p0, p1, p2, p3, p4, p5, fun _ => rfl, p7, p9, p11, p14, p15, p16, S⟩)
  clear hK HZ hn hc p0 p1 p2 p3 p4 p5 p6 p7 p9 p11 p14 p15 p16; (try simp only [Array.getD_eq_getD_getElem?] at *); go_simp; try with_reducible rfl
 ·rintro l v W zb HZ hsz ⟨p0, p1, p2, p3, p4, p5, p6, p7, p9, p11, p14, p15, p16, S⟩ hi hn hc K hK
  have e2 := oth_ (N := 2) (x := .int .i64 y) HZ rfl rfl
  refine yields_ (N := some 15) (x := .int .i64 y) rfl rfl ?_ (hK.out _ _ ⟨p0, p1, p2, p3, p4, p5, p6, fun _ => rfl, p9, p11, p14, p15, p16, S⟩)
  clear hK HZ hn hc p0 p1 p2 p3 p4 p5 p6 p7 p9 p11 p14 p15 p16; (try simp only [Array.getD_eq_getD_getElem?] at *); go_simp; try with_reducible rfl
 ·rintro l v W zb HZ hsz ⟨p0, p1, p2, p3, p4, p5, p6, p7, p9, p11, p14, p15, p16, S⟩ hi hn hc K hK
  clear HZ
  rw [show l 10 = false from hc 10 8 (by decide) hi, show l 12 = false from hc 12 11 (by decide) (hc 11 10 (by decide) (hc 10 8 (by decide) hi)), show l 13 = false from hc 13 12 (by decide) (hc 12 11 (by decide) (hc 11 10 (by decide) (hc 10 8 (by decide) hi))), show l 17 = false from hc 17 8 (by decide) hi, hi] at S
  refine st_litF S 0 rfl (k160) (160) rfl rfl (xs := ([] : List S160)) (inner := []) (by (try simp only [Array.getD_eq_getD_getElem?] at *); first | (go_simp; done) | (go_simp; rfl)) (Reps.none _ _) (by simp) (fun x w1 S1 => hK.out _ _ ⟨p0, p1, p2, p3, p4, p5, p6, p7, p9, p11, p14, p15, p16, ?_⟩)
  rw [show upd l 8 10 = false from hc 10 8 (by decide) hi, show upd l 8 12 = false from hc 12 11 (by decide) (hc 11 10 (by decide) (hc 10 8 (by decide) hi)), show upd l 8 13 = false from hc 13 12 (by decide) (hc 12 11 (by decide) (hc 11 10 (by decide) (hc 10 8 (by decide) hi))), show upd l 8 17 = false from hc 17 8 (by decide) hi]
  exact S1
 ·rintro l v W zb HZ hsz ⟨p0, p1, p2, p3, p4, p5, p6, p7, p9, p11, p14, p15, p16, S⟩ hi hn hc K hK
  have e3 := oth_ (N := 3) (x := .slice A sp.length c) HZ rfl rfl
  refine yields_ (N := some 17) (x := .slice A sp.length c) rfl rfl ?_ (hK.out _ _ ⟨p0, p1, p2, p3, p4, p5, p6, p7, fun _ => rfl, p11, p14, p15, p16, S⟩)
  clear hK HZ hn hc p0 p1 p2 p3 p4 p5 p6 p7 p9 p11 p14 p15 p16; (try simp only [Array.getD_eq_getD_getElem?] at *); go_simp; try with_reducible rfl
 ·rintro l v W zb HZ hsz ⟨p0, p1, p2, p3, p4, p5, p6, p7, p9, p11, p14, p15, p16, S⟩ hi hn hc K hK
  have e16 := at0 HZ hsz (hn 8 (by decide)) rfl rfl (by decide); have e17 := at1 HZ hsz (hn 9 (by decide)) p9 rfl rfl (by decide); clear HZ
  rw [show l 12 = false from hc 12 11 (by decide) (hc 11 10 (by decide) hi), show l 13 = false from hc 13 10 (by decide) hi, show l 17 = false from hc 17 10 (by decide) hi, show l 8 = true from hn 8 (by decide), hi] at S
  refine st_app S 0 rfl rfl (.tmp 16) (.tmp 17) (83) (.agg #[.int .i64 0, .int .i64 0]) (16) rfl Try.underlying83 (by kernel_rfl) rfl (by decide) (by omega) e16 e17 (HC.out W S.tail.tail.tail) (fun _ _ h => h) (by have := HL.out; simp only [List.length_nil]; omega) (fun x w1 S1 => hK.out _ _ ⟨p0, p1, p2, p3, p4, p5, p6, p7, p9, no_ (hc 11 10 (by decide) hi), p14, p15, p16, ?_⟩)
  rw [show upd l 10 12 = false from hc 12 11 (by decide) (hc 11 10 (by decide) hi), show upd l 10 13 = false from hc 13 10 (by decide) hi, show upd l 10 17 = false from hc 17 10 (by decide) hi, show upd l 10 8 = true from hn 8 (by decide)]
  exact S1
 ·rintro l v W zb HZ hsz ⟨p0, p1, p2, p3, p4, p5, p6, p7, p9, p11, p14, p15, p16, S⟩ hi hn hc K hK
  have e14 := at1 HZ hsz (hn 6 (by decide)) p6 rfl rfl (by decide); have e15 := at1 HZ hsz (hn 7 (by decide)) p7 rfl rfl (by decide); have e18 := at0 HZ hsz (hn 10 (by decide)) rfl rfl (by decide); have S0 := S
  rw [show l 12 = false from hc 12 11 (by decide) hi, show l 13 = false from hc 13 12 (by decide) (hc 12 11 (by decide) hi), show l 17 = false from hc 17 11 (by decide) hi, show l 8 = true from up_ hc (j := 10) (m := 8) (by decide) (hn 10 (by decide)), show l 10 = true from hn 10 (by decide)] at S
  obtain ⟨A1, c1, q1⟩ := S.slice (d := k160) (e := 160) (v := v 10) (xs := sp) 0 rfl
  refine yields_ (N := some 19) (x := .agg #[.int .i64 x, .int .i64 y, v 10]) rfl rfl ?_ (hK.out _ _ ⟨p0, p1, p2, p3, p4, p5, p6, p7, p9, fun _ => rfl, p14, p15, p16, S0⟩)
  rw [q1] at e18
  rw [q1]
  clear hK HZ hn hc p0 p1 p2 p3 p4 p5 p6 p7 p9 p11 p14 p15 p16; (try simp only [Array.getD_eq_getD_getElem?] at *); go_simp; try with_reducible rfl
 ·rintro l v W zb HZ hsz ⟨p0, p1, p2, p3, p4, p5, p6, p7, p9, p11, p14, p15, p16, S⟩ hi hn hc K hK
  have e19 := at1 HZ hsz (hn 11 (by decide)) p11 rfl rfl (by decide); clear HZ
  rw [show l 13 = false from hc 13 12 (by decide) hi, show l 17 = false from hc 17 12 (by decide) hi, show l 8 = true from up_ hc (j := 10) (m := 8) (by decide) (up_ hc (j := 11) (m := 10) (by decide) (hn 11 (by decide))), show l 10 = true from up_ hc (j := 11) (m := 10) (by decide) (hn 11 (by decide)), hi] at S
  obtain ⟨A1, c1, q1⟩ := S.slice (d := k160) (e := 160) (v := v 10) (xs := sp) 0 rfl
  rw [q1] at e19
  refine st_litG S 0 rfl (k85) (85) rfl rfl (p := ⟨x, y, sp⟩) (cs := [.int .i64 x, .int .i64 y, v 10]) rfl (fun ok h => k85_mkM W base ok ⟨x, y, sp⟩ h) (by rw [q1]; simp only [Array.getD_eq_getD_getElem?] at *; first | (go_simp; done) | (go_simp; rfl)) (fun x w1 S1 => hK.out _ _ ⟨p0, p1, p2, p3, p4, p5, p6, p7, p9, p11, p14, p15, p16, ?_⟩)
  rw [show upd l 12 13 = false from hc 13 12 (by decide) hi, show upd l 12 17 = false from hc 17 12 (by decide) hi, show upd l 12 8 = true from up_ hc (j := 10) (m := 8) (by decide) (up_ hc (j := 11) (m := 10) (by decide) (hn 11 (by decide))), show upd l 12 10 = true from up_ hc (j := 11) (m := 10) (by decide) (hn 11 (by decide))]
  exact S1
 ·rintro l v W zb HZ hsz ⟨p0, p1, p2, p3, p4, p5, p6, p7, p9, p11, p14, p15, p16, S⟩ hi hn hc K hK
  have e13 := at1 HZ hsz (hn 5 (by decide)) p5 rfl rfl (by decide); have e20 := at0 HZ hsz (hn 12 (by decide)) rfl rfl (by decide); clear HZ
  rw [show l 17 = false from hc 17 13 (by decide) hi, show l 8 = true from up_ hc (j := 10) (m := 8) (by decide) (up_ hc (j := 11) (m := 10) (by decide) (up_ hc (j := 12) (m := 11) (by decide) (hn 12 (by decide)))), show l 10 = true from hn 10 (by decide), show l 12 = true from hn 12 (by decide), hi] at S
  refine st_appM S 2 0 (by decide) rfl rfl rfl (.tmp 13) (.tmp 20) (33) (.agg #[.int .i64 0, .int .i64 0, .slice none 0 0]) (40) rfl Try.underlying33 (by kernel_rfl) rfl (by decide) (by omega) e13 e20 (by have := HE.out; simp only [List.length_singleton]; omega) (fun x w1 S1 => hK.out _ _ ⟨p0, p1, p2, p3, p4, p5, p6, p7, p9, p11, p14, p15, p16, ?_⟩)
  rw [show upd l 13 17 = false from hc 17 13 (by decide) hi, show upd l 13 8 = true from up_ hc (j := 10) (m := 8) (by decide) (up_ hc (j := 11) (m := 10) (by decide) (up_ hc (j := 12) (m := 11) (by decide) (hn 12 (by decide)))), show upd l 13 10 = true from hn 10 (by decide), show upd l 13 12 = true from hn 12 (by decide)]
  exact S1
 ·rintro l v W zb HZ hsz ⟨p0, p1, p2, p3, p4, p5, p6, p7, p9, p11, p14, p15, p16, S⟩ hi hn hc K hK
  have e8 := at1 HZ hsz (hn 0 (by decide)) p0 rfl rfl (by decide)
  refine yields_ (N := some 22) (x := .pointer (some ⟨g, 0, none⟩)) rfl rfl ?_ (hK.out _ _ ⟨p0, p1, p2, p3, p4, p5, p6, p7, p9, p11, fun _ => rfl, p15, p16, S⟩)
  clear hK HZ hn hc p0 p1 p2 p3 p4 p5 p6 p7 p9 p11 p14 p15 p16; (try simp only [Array.getD_eq_getD_getElem?] at *); go_simp; try with_reducible rfl
 ·rintro l v W zb HZ hsz ⟨p0, p1, p2, p3, p4, p5, p6, p7, p9, p11, p14, p15, p16, S⟩ hi hn hc K hK
  have e22 := at1 HZ hsz (hn 14 (by decide)) p14 rfl rfl (by decide)
  refine yields_ (N := some 23) (x := .pointer (some ⟨g, 0, none⟩)) rfl rfl ?_ (hK.out _ _ ⟨p0, p1, p2, p3, p4, p5, p6, p7, p9, p11, p14, fun _ => rfl, p16, S⟩)
  clear hK HZ hn hc p0 p1 p2 p3 p4 p5 p6 p7 p9 p11 p14 p15 p16; (try simp only [Array.getD_eq_getD_getElem?] at *); go_simp; try with_reducible rfl
 ·rintro l v W zb HZ hsz ⟨p0, p1, p2, p3, p4, p5, p6, p7, p9, p11, p14, p15, p16, S⟩ hi hn hc K hK
  have e23 := at1 HZ hsz (hn 15 (by decide)) p15 rfl rfl (by decide)
  refine yields_ (N := some 24) (x := .pointer (some ⟨g, 1, none⟩)) rfl rfl ?_ (hK.out _ _ ⟨p0, p1, p2, p3, p4, p5, p6, p7, p9, p11, p14, p15, fun _ => rfl, S⟩)
  clear hK HZ hn hc p0 p1 p2 p3 p4 p5 p6 p7 p9 p11 p14 p15 p16; (try simp only [Array.getD_eq_getD_getElem?] at *); go_simp; try with_reducible rfl
 ·rintro l v W zb HZ hsz ⟨p0, p1, p2, p3, p4, p5, p6, p7, p9, p11, p14, p15, p16, S⟩ hi hn hc K hK
  have e21 := at0 HZ hsz (hn 13 (by decide)) rfl rfl (by decide); have e24 := at1 HZ hsz (hn 16 (by decide)) p16 rfl rfl (by decide); clear HZ
  rw [show l 8 = true from hn 8 (by decide), show l 10 = true from hn 10 (by decide), show l 12 = true from hn 12 (by decide), show l 13 = true from hn 13 (by decide), hi] at S
  have hk := hK.out; obtain ⟨A1, c1, q1⟩ := S.slice (d := k85) (e := 85) (v := v 13) 2 rfl; have zp := S.cell 1 1 rfl rfl; have fp := S.frozen 1 1 rfl; have S1 := S.put 1 1 (u := v 13) rfl rfl
  rw [q1] at e21
  refine st_run (w1 := W.setCell _ (v 13)) rfl rfl (by rw [q1]; simp only [Array.getD_eq_getD_getElem?] at *; go_simp; try rfl) ?_
  refine hk undef _ ⟨p0, p1, p2, p3, p4, p5, p6, p7, p9, p11, p14, p15, p16, ?_⟩
  rw [show upd l 17 8 = true from hn 8 (by decide), show upd l 17 10 = true from hn 10 (by decide), show upd l 17 12 = true from hn 12 (by decide), show upd l 17 13 = true from hn 13 (by decide)]
  exact S1
 obtain ⟨-, -, -, -, -, -, -, -, -, -, -, -, -, S⟩ := hJ
 replace S := (show Hp base w0 W (fT :: fB base g #[.int .i64 s, (v 13), vf] 217 :: fR k85 85 base (v 13) (es ++ [⟨x, y, sp⟩]) :: L) from S).tail
 simp only [putIf, ↓reduceIte, Act.put, List.setIfInBounds_toArray, List.set_cons_succ, List.set_cons_zero]
 go_wp2
 go_end0
 exact ⟨_, rfl, S⟩
end

/-! ### spec_l6Maker_loop: function 192 -/
section
open Go.Proofs.Ytfajfjgkkgigoaa.Kit
def MkP (base : Nat) (w0 : World) (L : List Fact) (g : Nat) (vf : Value) (w : World) (s : Int) (lo n : Nat) : Prop := 0 ≤ s ∧ ∃ (ve : Value) (es : List S85), (lo ≤ es.length ∧ es.length ≤ n ∧ ∀ e ∈ es, e.f2.length ≤ 128) ∧ Hp base w0 w (fB base g #[.int .i64 s, ve, vf] 217 :: fR k85 85 base ve es :: L)
theorem MkP.up {base : Nat} {w0 : World} {L : List Fact} {g : Nat} {vf : Value} {w : World} {s : Int} {lo n n' : Nat} (h : MkP base w0 L g vf w s lo n) (hn : n ≤ n') : MkP base w0 L g vf w s lo n' := by
 obtain ⟨h0, ve, es, h1, h2⟩ := h
 exact ⟨h0, ve, es, ⟨h1.1, by omega, h1.2.2⟩, h2⟩
theorem MkP.state {base : Nat} {w0 : World} {L : List Fact} {g : Nat} {vf : Value} {w : World} {s : Int} {lo n : Nat} (h : MkP base w0 L g vf w s lo n) (hs : s ≤ 1000000) :
  Calls Try.prog 190 #[.pointer (some ⟨g, 0, none⟩)] w fun e w' => e = .returned (.int .i64 s) ∧ MkP base w0 L g vf w' (s + 1) lo n := by
 obtain ⟨h0, ve, es, h1, h2⟩ := h
 refine (spec_l6Maker_state.calls 0 g s ve vf rfl ⟨h0, hs⟩ h2).mono ?_
 rintro e w' ⟨rfl, S⟩
 exact ⟨rfl, by omega, ve, es, h1, S⟩
theorem MkP.full {base : Nat} {w0 : World} {L : List Fact} {g : Nat} {vf : Value} {w : World} {s : Int} {lo n : Nat} (h : MkP base w0 L g vf w s lo n) :
  Calls Try.prog 189 #[.pointer (some ⟨g, 0, none⟩)] w fun e w' => ∃ b : Bool, e = .returned (.bool b) ∧ (b = false → s ≤ 3000 ∧ MkP base w0 L g vf w' s lo 12000) ∧ MkP base w0 L g vf w' s lo n := by
 obtain ⟨h0, ve, es, h1, h2⟩ := h
 obtain ⟨A, c, rfl⟩ := h2.slice 1 rfl
 refine (spec_l6Maker_full.calls 0 g es.length c A s vf rfl h2).mono ?_
 rintro e w' ⟨rfl, S⟩
 refine ⟨_, rfl, fun hb => ?_, h0, _, es, h1, S⟩
 have := of_decide_eq_false hb
 exact ⟨by omega, h0, _, es, ⟨h1.1, by omega, h1.2.2⟩, S⟩
theorem MkP.edge {base : Nat} {w0 : World} {L : List Fact} {g : Nat} {vf : Value} {w : World} {s : Int} {lo n : Nat} (h : MkP base w0 L g vf w s lo n) (x y : Int) {A : Option Addr} {c : Nat} {sp : List S160} (hC : ∀ W, Hp base w0 W L → Kd.C k160 W A sp.length sp) (hl : sp.length ≤ 128) (hn : n ≤ 1000000) :
  Calls Try.prog 176 #[.pointer (some ⟨g, 0, none⟩), .int .i64 x, .int .i64 y, .slice A sp.length c] w fun e w' => e = .returned (.tuple #[]) ∧ MkP base w0 L g vf w' s (lo + 1) (n + 1) := by
 obtain ⟨h0, ve, es, h1, h2⟩ := h
 refine (spec_l6Maker_edge.calls g s x y ve vf es A c sp hC (by omega) (by omega) h2).mono ?_
 rintro e w' ⟨ve', rfl, S⟩
 refine ⟨rfl, h0, ve', _, ⟨by simp; omega, by simp; omega, fun e he => ?_⟩, S⟩
 rcases List.mem_append.1 he with q | q
 ·exact h1.2.2 e q
 ·rw [List.mem_singleton.1 q]; exact hl
theorem MkP.edge0 {base : Nat} {w0 : World} {L : List Fact} {g : Nat} {vf : Value} {w : World} {s : Int} {lo n : Nat} (h : MkP base w0 L g vf w s lo n) (x y : Int) (hn : n ≤ 1000000) :
  Calls Try.prog 176 #[.pointer (some ⟨g, 0, none⟩), .int .i64 x, .int .i64 y, .slice none 0 0] w fun e w' => e = .returned (.tuple #[]) ∧ MkP base w0 L g vf w' s (lo + 1) (n + 1) :=
 h.edge x y (sp := []) (fun W _ => Kd.C_nil _ _) (by simp) hn
set_option maxHeartbeats 4000000 in
set_option maxRecDepth 100000 in
theorem MkP.loop {base : Nat} {w0 : World} {L : List Fact} {g : Nat} {vf : Value} {w : World} {s : Int} {lo n : Nat} (h : MkP base w0 L g vf w s lo n) (op a z : Int) (hs : s ≤ 100000) (hn : n ≤ 100000) :
  Calls Try.prog 192 #[.pointer (some ⟨g, 0, none⟩), .int .i64 op, .int .i64 a, .int .i64 z] w fun e w' => ∃ p q : Int, e = .returned (.tuple #[.int .i64 p, .int .i64 q]) ∧ MkP base w0 L g vf w' (s + 2) lo (n + 4) := by
 replace h := Aside0.mk h
 replace hs := Aside0.mk hs
 replace hn := Aside0.mk hn
 go_enter Try.func192, Try.ntmps192
 go_wp2_with fail
 refine (h.out.state (by have := hs.out; omega)).mono ?_
 rintro e w_ ⟨rfl, h1⟩
 replace h := Aside0.mk h1
 clear h1
 go_wp2_with fail
 refine (h.out.state (by have := hs.out; omega)).mono ?_
 rintro e w_ ⟨rfl, h1⟩
 replace h := Aside0.mk h1
 clear h1
 go_wp2_with fail
 refine (h.out.edge0 s a (by have := hn.out; omega)).mono ?_
 rintro e w_ ⟨rfl, h1⟩
 replace h := Aside0.mk h1
 clear h1
 by_cases c6 : op = 6
 ·have hc := eq_true c6
  by_cases c7 : op = 7
  ·have hc := eq_true c7
   omega
  ·have hc := eq_false c7
   go_wp2_with fail
   refine (h.out.edge0 z a (by have := hn.out; omega)).mono ?_
   rintro e w_ ⟨rfl, h1⟩
   replace h := Aside0.mk h1; clear h1
   go_wp2_with fail
   refine (h.out.edge0 z (s + 1) (by have := hn.out; omega)).mono ?_
   rintro e w_ ⟨rfl, h1⟩
   replace h := Aside0.mk h1; clear h1
   go_wp2
   go_ret2
   exact ⟨_, _, rfl, by have := h.out; exact ⟨by have := this.1; omega, by obtain ⟨_, ve, es, q, S⟩ := this; rw [show s + 1 + 1 = s + 2 by omega] at S; exact ⟨ve, es, ⟨by omega, by omega, q.2.2⟩, S⟩⟩⟩
 ·have hc := eq_false c6
  by_cases c7 : op = 7
  ·have hc := eq_true c7
   go_wp2_with fail
   refine (h.out.edge0 s (s + 1) (by have := hn.out; omega)).mono ?_
   rintro e w_ ⟨rfl, h1⟩
   replace h := Aside0.mk h1; clear h1
   go_wp2_with fail
   refine (h.out.edge0 z (s + 1) (by have := hn.out; omega)).mono ?_
   rintro e w_ ⟨rfl, h1⟩
   replace h := Aside0.mk h1; clear h1
   go_wp2
   go_ret2
   exact ⟨_, _, rfl, by have := h.out; exact ⟨by have := this.1; omega, by obtain ⟨_, ve, es, q, S⟩ := this; rw [show s + 1 + 1 = s + 2 by omega] at S; exact ⟨ve, es, ⟨by omega, by omega, q.2.2⟩, S⟩⟩⟩
  ·have hc := eq_false c7
   go_wp2_with fail
   refine (h.out.edge0 s (s + 1) (by have := hn.out; omega)).mono ?_
   rintro e w_ ⟨rfl, h1⟩
   replace h := Aside0.mk h1; clear h1
   go_wp2_with fail
   refine (h.out.edge0 z a (by have := hn.out; omega)).mono ?_
   rintro e w_ ⟨rfl, h1⟩
   replace h := Aside0.mk h1; clear h1
   go_wp2_with fail
   refine (h.out.edge0 z (s + 1) (by have := hn.out; omega)).mono ?_
   rintro e w_ ⟨rfl, h1⟩
   replace h := Aside0.mk h1; clear h1
   go_wp2
   go_ret2
   exact ⟨_, _, rfl, by have := h.out; exact ⟨by have := this.1; omega, by obtain ⟨_, ve, es, q, S⟩ := this; rw [show s + 1 + 1 = s + 2 by omega] at S; exact ⟨ve, es, ⟨by omega, by omega, q.2.2⟩, S⟩⟩⟩
end

end Go.Proofs.Ytfajfjgkkgigoaa.PFnDead
