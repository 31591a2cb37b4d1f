-- Written by this session's own program (wip/pr.py) over the kit's printer; contracts that the printer does not know are given by hand.
import Derived.Test.YtfajfjgkkgigoaaPFnDeadx0
import Derived.Test.YtfajfjgkkgigoaaPFnDeadx12
namespace Go.Proofs.Ytfajfjgkkgigoaa.PFnDead
open Go.RowKit Go.Proofs.YtfajfjgkkgigoaaW.PrintWords Go.Proofs.YtfajfjgkkgigoaaW.PrintLast Go.Proofs.YtfajfjgkkgigoaaW.PrintMore
attribute [local go_sem] max2_int min2_int max_two min_two max_three min_three max_four min_four   -- for this text's walks alone
set_option linter.unusedVariables false
set_option linter.unusedSimpArgs false

/-! ### spec_l6Maker_times: function 191 -/
section
open Go.Proofs.Ytfajfjgkkgigoaa.Kit
theorem MkP.hp {base : Nat} {w0 : World} {L : List Fact} {g : Nat} {vf : Value} {w : World} {s : Int} {lo n : Nat} (h : MkP base w0 L g vf w s lo n) : Hp base w0 w L := by
 obtain ⟨_, ve, es, _, S⟩ := h
 exact S.tail.tail
theorem MkP.low {base : Nat} {w0 : World} {L : List Fact} {g : Nat} {vf : Value} {w : World} {s : Int} {lo lo' n : Nat} (h : MkP base w0 L g vf w s lo n) (hn : lo' ≤ lo) : MkP base w0 L g vf w s lo' n := by
 obtain ⟨h0, ve, es, h1, h2⟩ := h
 exact ⟨h0, ve, es, ⟨by omega, h1.2⟩, h2⟩
theorem MkP.drop {base : Nat} {w0 : World} {L : List Fact} {g : Nat} {vf : Value} {w : World} {s : Int} {lo n : Nat} {F : Fact} (h : MkP base w0 (F :: L) g vf w s lo n) : MkP base w0 L g vf w s lo n := by
 obtain ⟨h0, ve, es, h1, h2⟩ := h
 exact ⟨h0, ve, es, h1, Hp.pick (A := [_, _, F]) [0, 1] h2 (by decide) (by simp)⟩
theorem MkP.cell {base : Nat} {w0 : World} {L : List Fact} {gm : Nat} {vf : Value} {w : World} {s : Int} {lo n : Nat} (h : MkP base w0 L gm vf w s lo n) (i j : Nat) {g : Nat} {cs : Array Value} {t : TypeId} {v : Value} (hi : L[i]? = some (fB base g cs t)) (hv : cs[j]? = some v) : w.cell? ⟨g, j, none⟩ = some v := h.hp.cell i j hi hv
theorem MkP.frozen {base : Nat} {w0 : World} {L : List Fact} {gm : Nat} {vf : Value} {w : World} {s : Int} {lo n : Nat} (h : MkP base w0 L gm vf w s lo n) (i j : Nat) {g : Nat} {cs : Array Value} {t : TypeId} (hi : L[i]? = some (fB base g cs t)) : w.frozen? ⟨g, j, none⟩ = false := h.hp.frozen i j hi
theorem MkP.put {base : Nat} {w0 : World} {L : List Fact} {gm : Nat} {vf : Value} {w : World} {s : Int} {lo n : Nat} (h : MkP base w0 L gm vf w s lo n) (i j : Nat) {g : Nat} {cs cs' : Array Value} {t : TypeId} {u : Value} (hi : L[i]? = some (fB base g cs t)) (e : cs.setIfInBounds j u = cs') : MkP base w0 (L.set i (fB base g cs' t)) gm vf (w.setCell ⟨g, j, none⟩ u) s lo n := by
 obtain ⟨h0, ve, es, h1, h2⟩ := h
 exact ⟨h0, ve, es, h1, h2.put (i + 2) j (by simpa using hi) e⟩
theorem MkP.drewN {base : Nat} {w0 : World} {L : List Fact} {gm : Nat} {vf : Value} {w : World} {s : Int} {lo n : Nat} (h : MkP base w0 L gm vf w s lo n) (m : Nat) : MkP base w0 L gm vf (w.drewN m) s lo n := by
 obtain ⟨h0, ve, es, h1, h2⟩ := h
 exact ⟨h0, ve, es, h1, h2.drewN m⟩
theorem MkP.drew {base : Nat} {w0 : World} {L : List Fact} {gm : Nat} {vf : Value} {w : World} {s : Int} {lo n : Nat} (h : MkP base w0 L gm vf w s lo n) : MkP base w0 L gm vf w.drew s lo n := by
 obtain ⟨h0, ve, es, h1, h2⟩ := h
 exact ⟨h0, ve, es, h1, h2.drew⟩
theorem ev_boxM {P : Program} {rest : List Oper} {o : Oper} {a : Act} {Q : Exit → Act → World → Prop} {ops : Array Oper} {base : Nat} {w0 W : World} {L : List Fact} {gm : Nat} {vf : Value} {s : Int} {lo n : Nat} (h : Aside0 (MkP base w0 L gm vf W s lo n)) (hgd : o.guard = none) {N : Tmp} (hd : o.dst = some N) {cs : Array Value} {t : TypeId}
  (hrun : (execOp a.eval o).run P W = .ok (.value (.pointer (some ⟨W.heap.size, 0, none⟩))) (W.alloc (.cells cs t (0, 0))))
  (k : ∀ g w1, Aside0 (MkP base w0 (fB base g cs t :: L) gm vf w1 s lo n) → wpList P ops Q rest (a.put (some N) (.pointer (some ⟨g, 0, none⟩))) w1) : wpList P ops Q (o :: rest) a W := by
 obtain ⟨h0, ve, es, h1, S⟩ := h.out
 refine ev_box ⟨S⟩ hgd hd hrun (fun g w1 _ S1 => k g w1 ⟨h0, ve, es, h1, ?_⟩)
 exact Hp.pick (A := [fB base g cs t, _, _]) [1, 2, 0] S1.out (by decide) (by simp)
/-- two states are told, and the maker has grown no more than to S states and N edges -/
def PairPost (base : Nat) (w0 : World) (L : List Fact) (g : Nat) (vf : Value) (lo : Nat) (S : Int) (N : Nat) (e : Ending) (w' : World) : Prop := ∃ (x z s' : Int) (n' : Nat), e = .returned (.tuple #[.int .i64 x, .int .i64 z]) ∧ s' ≤ S ∧ n' ≤ N ∧ MkP base w0 L g vf w' s' lo n'
/-- a part of an expression is laid -/
def PartOK (g : Nat) (vf : Value) (An : Option Addr) (cn : Nat) (ns : List S230) (m : Nat) : Prop := ∀ {base : Nat} {w0 w : World} {L : List Fact} {s : Int} {lo n : Nat}, NodesAt base w0 L An ns → MkP base w0 L g vf w s lo n → s ≤ 50000 → n ≤ 50000 →
  Calls Try.prog 175 #[.pointer (some ⟨g, 0, none⟩), .agg #[.slice An ns.length cn], .int .i64 (m : Int)] w (PairPost base w0 L g vf lo (max s (3002 + 2 * (m + 1))) (max n (12001 + 5 * (m + 1))))
theorem spec_l6Maker_times.need9 : (rtab .any (opsOf Try.f191 9)).2.map Prod.fst = [[], [], [], [2], [3], [4], [0, 1, 5], [6], [7], [7], [8, 6, 0, 1, 2, 3, 4, 5, 6, 7, 8], [9, 10, 0, 1, 2, 3, 4, 5, 6, 7, 8, 9, 10]] := by kernel_rfl
theorem spec_l6Maker_times.dst9 : (opsOf Try.f191 9).toList.map Oper.dst = [some 34, some 35, some 36, some 37, some 38, some 39, some 40, some 33, some 41, some 42, some 12, some 13] := by kernel_rfl
set_option maxHeartbeats 4000000 in
set_option maxRecDepth 100000 in
theorem spec_l6Maker_times.calls (g : Nat) (vf : Value) (An : Option Addr) (cn : Nat) (ns : List S230) (kid : Nat) (hP : PartOK g vf An cn ns kid) (hkid : kid ≤ 300) {base : Nat} {w0 w : World} {L : List Fact} {s : Int} {lo n : Nat} (hN : NodesAt base w0 L An ns) (h : MkP base w0 L g vf w s lo n) (hs : s ≤ 50000) (hn : n ≤ 50000) (op mn mx : Int) (A1 : Option Addr) (n1 c1 : Nat) (A2 : Option Addr) (c2 : Nat) (kd : List Int) (hk : ∀ W, Hp base w0 W L → Kd.C (Kd.int .i64) W A2 kd.length kd) (hk1 : 1 ≤ kd.length) (hk0 : rd kd 0 = (kid : Int)) (hm : 0 ≤ mn ∧ mn ≤ 30 ∧ mx ≤ 30) :
  Calls Try.prog 191 #[.pointer (some ⟨g, 0, none⟩), .agg #[.slice An ns.length cn], .agg #[.int .i64 op, .slice A1 n1 c1, .slice A2 kd.length c2, .int .i64 mn, .int .i64 mx]] w (PairPost base w0 L g vf lo (max s (3002 + 2 * ((kid : Int) + 2))) (max n (12001 + 5 * (kid + 2)))) := by
 replace h := Aside0.mk h
 replace hs := Aside0.mk hs
 replace hn := Aside0.mk hn
 replace hm := Aside0.mk hm
 replace hk := Aside0.mk hk
 replace hkid := Aside0.mk hkid
 replace hk1 := Aside0.mk hk1
 replace hk0 := Aside0.mk hk0
 replace hP := Aside0.mk @hP
 replace hN := Aside0.mk hN
 obtain ⟨ad, ek, -⟩ := Kd.at_int (hk.out _ h.out.hp) 0 (Int.le_refl _) (by have := hk1.out; omega)
 cases ek
 have WB := Aside0.mk (show wrap64 (mn + 1) = mn + 1 from w64 (by have := hm.out; omega) (by have := hm.out; omega))
 rcases Int.lt_or_le mx 0 with cm | cm
 all_goals first | (have hc := eq_true (show mx < 0 from cm); obtain ⟨M, eM⟩ : ∃ M : Int, Aside0 (M = wrap64 (mn + 1) ∧ M ≤ 31) := ⟨_, rfl, by have := WB.out; have := hm.out; omega⟩) | (have hc := eq_false (Int.not_lt.2 cm); obtain ⟨M, eM⟩ : ∃ M : Int, Aside0 (M = mx ∧ M ≤ 31) := ⟨_, rfl, by have := hm.out; omega⟩)
 all_goals
  go_enter Try.func191, Try.ntmps191
  go_wp2_with (first | ((with_reducible refine gate_dst (N := 4) rfl ?_); refine ev_boxM h rfl rfl (cs := #[.slice An ns.length cn]) (t := 214) (by first | (go_simp; done) | (go_simp; rfl)) (fun g4 w_ h1 => ?_); clear h; have h := h1; clear h1) | ((with_reducible refine gate_dst (N := 5) rfl ?_); refine ev_boxM h rfl rfl (cs := #[.int .i64 op, .slice A1 n1 c1, .slice (some ad) kd.length c2, .int .i64 mn, .int .i64 mx]) (t := 230) (by first | (go_simp; done) | (go_simp; rfl)) (fun g5 w_ h1 => ?_); clear h; have h := h1; clear h1; have z3 := h.out.cell 0 3 rfl rfl; have z4 := h.out.cell 0 4 rfl rfl))
  clear z3 z4
  rw [← eM.out.1]
  go_loopg [8, 9, 11] (M).toNat (fun gk v8 v9 v11 wr => ∃ (x z i s' : Int) (n' : Nat), v8 = .int .i64 x ∧ v9 = .int .i64 z ∧ v11 = .int .i64 i ∧ (0 ≤ i ∧ (M - i).toNat = gk) ∧ Aside0 (s' ≤ max s (3002 + 2 * ((kid : Int) + 2)) ∧ n' ≤ max n (12001 + 5 * (kid + 2))) ∧ Aside0 (MkP base w0 (fB base g5 #[.int .i64 op, .slice A1 n1 c1, .slice (some ad) kd.length c2, .int .i64 mn, .int .i64 mx] 230 :: fB base g4 #[.slice An ns.length cn] 214 :: L) g vf wr s' lo n'))
  case atStart => exact ⟨-1, -1, 0, s, n, rfl, rfl, rfl, ⟨Int.le_refl _, by rw [Int.sub_zero]⟩, ⟨by omega, by omega⟩, h⟩
  case round =>
   clear h; obtain ⟨x, z, i, s', n', rfl, rfl, rfl, ⟨hi0, hgk⟩, hb, h⟩ := hrel; have HI := Aside0.mk (And.intro hi0 hgk); clear hi0 hgk
   by_cases c : i < M
   ·have hcond := eq_true c
    go_wp2_with fail
    refine (h.out.full).mono ?_
    rintro e w_ ⟨b, rfl, hf, h1⟩
    clear h
    cases b with
    | true =>
     clear hf
     go_wp2
     all_goals (go_ret2; exact ⟨_, _, s', n', rfl, hb.out.1, hb.out.2, h1.drop.drop⟩)
    | false =>
     obtain ⟨hs3, h3⟩ := hf rfl; have h := Aside0.mk h3; have HS3 := Aside0.mk hs3; clear hf h1 h3 hs3; have zx := h.out.cell 1 0 rfl rfl; have zk := h.out.cell 0 2 rfl rfl
     go_wp2_with fail
     refine mask_ (n := 12) (fun l v W => (l 0 = true → v 0 = .pointer (some ⟨g, 0, none⟩)) ∧ (l 1 = true → v 1 = .agg #[.slice An ns.length cn]) ∧ (l 2 = true → v 2 = .pointer (some ⟨g5, 2, none⟩)) ∧ (l 3 = true → v 3 = .slice (some ad) kd.length c2) ∧ (l 4 = true → v 4 = .pointer (some (ad.add 0))) ∧ (l 5 = true → v 5 = .int .i64 (kid : Int)) ∧ (l 6 = true → ∃ x z : Int, v 6 = .tuple #[.int .i64 x, .int .i64 z]) ∧ (l 7 = true → ∃ x z : Int, v 7 = .tuple #[.int .i64 x, .int .i64 z]) ∧ (l 8 = true → ∃ x : Int, v 8 = .int .i64 x) ∧ (l 9 = true → ∃ x : Int, v 9 = .int .i64 x) ∧ (l 10 = true → ∃ x : Int, v 10 = .int .i64 x) ∧ (l 11 = true → ∃ x : Int, v 11 = .int .i64 x) ∧ (bif l 6 then (∃ (s1 : Int) (n1_ : Nat), s1 ≤ max s' (3002 + 2 * ((kid : Int) + 1)) ∧ n1_ ≤ max 12000 (12001 + 5 * (kid + 1)) ∧ MkP base w0 (fB base g5 #[.int .i64 op, .slice A1 n1 c1, .slice (some ad) kd.length c2, .int .i64 mn, .int .i64 mx] 230 :: fB base g4 #[.slice An ns.length cn] 214 :: L) g vf W s1 lo n1_) else (MkP base w0 (fB base g5 #[.int .i64 op, .slice A1 n1 c1, .slice (some ad) kd.length c2, .int .i64 mn, .int .i64 mx] 230 :: fB base g4 #[.slice An ns.length cn] 214 :: L) g vf W s' lo 12000))) [[], [], [], [2], [3], [4], [0, 1, 5], [6], [7], [7], [8, 6, 0, 1, 2, 3, 4, 5, 6, 7, 8], [9, 10, 0, 1, 2, 3, 4, 5, 6, 7, 8, 9, 10]] [some 34, some 35, some 36, some 37, some 38, some 39, some 40, some 33, some 41, some 42, some 12, some 13] 70 (by kernel_rfl) spec_l6Maker_times.need9 spec_l6Maker_times.dst9 (by decide) rfl ⟨fun h => absurd h (by decide), fun h => absurd h (by decide), fun h => absurd h (by decide), fun h => absurd h (by decide), fun h => absurd h (by decide), fun h => absurd h (by decide), fun h => absurd h (by decide), fun h => absurd h (by decide), fun h => absurd h (by decide), fun h => absurd h (by decide), fun h => absurd h (by decide), fun h => absurd h (by decide), ?_⟩ ⟨?_, ?_, ?_, ?_, ?_, ?_, ?_, ?_, ?_, ?_, ?_, ?_, trivial⟩ (fun v W hJ => ?_)
     ·exact h.out.drew
     ·rintro l v W zb HZ hsz ⟨p0, p1, p2, p3, p4, p5, p6, p7, p8, p9, p10, p11, S⟩ hi hn hc K hK
      have e0 := oth_ (N := 0) (x := .pointer (some ⟨g, 0, none⟩)) HZ rfl rfl
      refine yields_ (N := some 34) (x := .pointer (some ⟨g, 0, none⟩)) rfl rfl ?_ (hK.out _ _ ⟨fun _ => rfl, p1, p2, p3, p4, p5, p6, p7, p8, p9, p10, p11, S⟩)
      clear hK HZ hn hc p0 p1 p2 p3 p4 p5 p6 p7 p8 p9 p10 p11; (try simp only [Array.getD_eq_getD_getElem?] at *); go_simp; try with_reducible rfl
     ·rintro l v W zb HZ hsz ⟨p0, p1, p2, p3, p4, p5, p6, p7, p8, p9, p10, p11, S⟩ hi hn hc K hK
      have e4 := oth_ (N := 4) (x := .pointer (some ⟨g4, 0, none⟩)) HZ rfl rfl; have S0 := S
      rw [show l 6 = false from hc 6 1 (by decide) hi] at S
      simp only [cond_true, cond_false] at S
      have z := S.cell 1 0 rfl rfl
      refine yields_ (N := some 35) (x := .agg #[.slice An ns.length cn]) rfl rfl ?_ (hK.out _ _ ⟨p0, fun _ => rfl, p2, p3, p4, p5, p6, p7, p8, p9, p10, p11, S0⟩)
      clear hK HZ hn hc p0 p1 p2 p3 p4 p5 p6 p7 p8 p9 p10 p11; (try simp only [Array.getD_eq_getD_getElem?] at *); go_simp; try with_reducible rfl
     ·rintro l v W zb HZ hsz ⟨p0, p1, p2, p3, p4, p5, p6, p7, p8, p9, p10, p11, S⟩ hi hn hc K hK
      have e5 := oth_ (N := 5) (x := .pointer (some ⟨g5, 0, none⟩)) HZ rfl rfl
      refine yields_ (N := some 36) (x := .pointer (some ⟨g5, 2, none⟩)) rfl rfl ?_ (hK.out _ _ ⟨p0, p1, fun _ => rfl, p3, p4, p5, p6, p7, p8, p9, p10, p11, S⟩)
      clear hK HZ hn hc p0 p1 p2 p3 p4 p5 p6 p7 p8 p9 p10 p11; (try simp only [Array.getD_eq_getD_getElem?] at *); go_simp; try with_reducible rfl
     ·rintro l v W zb HZ hsz ⟨p0, p1, p2, p3, p4, p5, p6, p7, p8, p9, p10, p11, S⟩ hi hn hc K hK
      have e36 := at1 HZ hsz (hn 2 (by decide)) p2 rfl rfl (by decide); have S0 := S
      rw [show l 6 = false from hc 6 5 (by decide) (hc 5 4 (by decide) (hc 4 3 (by decide) hi))] at S
      simp only [cond_true, cond_false] at S
      have z := S.cell 0 2 rfl rfl
      refine yields_ (N := some 37) (x := .slice (some ad) kd.length c2) rfl rfl ?_ (hK.out _ _ ⟨p0, p1, p2, fun _ => rfl, p4, p5, p6, p7, p8, p9, p10, p11, S0⟩)
      clear hK HZ hn hc p0 p1 p2 p3 p4 p5 p6 p7 p8 p9 p10 p11; (try simp only [Array.getD_eq_getD_getElem?] at *); go_simp; try with_reducible rfl
     ·rintro l v W zb HZ hsz ⟨p0, p1, p2, p3, p4, p5, p6, p7, p8, p9, p10, p11, S⟩ hi hn hc K hK
      have e37 := at1 HZ hsz (hn 3 (by decide)) p3 rfl rfl (by decide); have S0 := S
      rw [show l 6 = false from hc 6 5 (by decide) (hc 5 4 (by decide) hi)] at S
      simp only [cond_true, cond_false] at S
      have hb1 := eq_true (show (0 : Int) < (kd.length : Int) by have := hk1.out; omega)
      have hb2 : ¬ kd = [] := fun q => by have := hk1.out; rw [q] at this; cases this
      refine yields_ (N := some 38) (x := .pointer (some (ad.add 0))) rfl rfl ?_ (hK.out _ _ ⟨p0, p1, p2, p3, fun _ => rfl, p5, p6, p7, p8, p9, p10, p11, S0⟩)
      clear hK HZ hn hc p0 p1 p2 p3 p4 p5 p6 p7 p8 p9 p10 p11; (try simp only [Array.getD_eq_getD_getElem?] at *); go_simp; try with_reducible rfl
     ·rintro l v W zb HZ hsz ⟨p0, p1, p2, p3, p4, p5, p6, p7, p8, p9, p10, p11, S⟩ hi hn hc K hK
      have e38 := at1 HZ hsz (hn 4 (by decide)) p4 rfl rfl (by decide); have S0 := S
      rw [show l 6 = false from hc 6 5 (by decide) hi] at S
      simp only [cond_true, cond_false] at S
      obtain ⟨ad', ek, hx⟩ := Kd.at_int (hk.out _ S.hp.tail.tail) 0 (Int.le_refl _) (by have := hk1.out; omega); cases ek
      rw [hk0.out] at hx
      have hx2 : W.cell? ad = some (.int .i64 (kid : Int)) := by rw [← Addr.add_zero' ad]; exact hx
      refine yields_ (N := some 39) (x := .int .i64 (kid : Int)) rfl rfl ?_ (hK.out _ _ ⟨p0, p1, p2, p3, p4, fun _ => rfl, p6, p7, p8, p9, p10, p11, S0⟩)
      clear hK HZ hn hc p0 p1 p2 p3 p4 p5 p6 p7 p8 p9 p10 p11; (try simp only [Array.getD_eq_getD_getElem?] at *); go_simp; try with_reducible rfl
     ·rintro l v W zb HZ hsz ⟨p0, p1, p2, p3, p4, p5, p6, p7, p8, p9, p10, p11, S⟩ hi hn hc K hK
      have e34 := at1 HZ hsz (hn 0 (by decide)) p0 rfl rfl (by decide); have e35 := at1 HZ hsz (hn 1 (by decide)) p1 rfl rfl (by decide); have e39 := at1 HZ hsz (hn 5 (by decide)) p5 rfl rfl (by decide); clear HZ
      rw [hi] at S
      simp only [cond_true, cond_false] at S
      refine goes_ Try.func175 (by kernel_rfl) rfl #[.pointer (some ⟨g, 0, none⟩), .agg #[.slice An ns.length cn], .int .i64 (kid : Int)] rfl rfl rfl (by simp only [List.map_toArray, List.map_cons, List.map_nil]; show #[zb.tmps.getD 34 undef, zb.tmps.getD 35 undef, zb.tmps.getD 39 undef] = _; simp only [e34, e35, e39]) ?_
      refine (hP.out (hN.out.more [_, _]) S (by have := HS3.out; omega) (by omega)).mono ?_
      rintro e w' ⟨x, z, s1, n1_, rfl, b1, b2, h1⟩
      exact ⟨_, rfl, hK.out _ _ ⟨p0, p1, p2, p3, p4, p5, fun _ => ⟨x, z, rfl⟩, p7, p8, p9, p10, p11, ⟨s1, n1_, b1, b2, h1⟩⟩⟩
     ·rintro l v W zb HZ hsz ⟨p0, p1, p2, p3, p4, p5, p6, p7, p8, p9, p10, p11, S⟩ hi hn hc K hK
      have e40 := at0 HZ hsz (hn 6 (by decide)) rfl rfl (by decide); obtain ⟨x0, z0, q6⟩ := p6 (hn 6 (by decide))
      rw [q6] at e40
      clear HZ
      refine yields_ (N := some 33) (x := .tuple #[.int .i64 x0, .int .i64 z0]) rfl rfl ?_ (hK.out _ _ ⟨p0, p1, p2, p3, p4, p5, p6, fun _ => ⟨x0, z0, rfl⟩, p8, p9, p10, p11, S⟩)
      clear hK hn hc p0 p1 p2 p3 p4 p5 p6 p7 p8 p9 p10 p11; (try simp only [Array.getD_eq_getD_getElem?] at *); go_simp; try with_reducible rfl
     ·rintro l v W zb HZ hsz ⟨p0, p1, p2, p3, p4, p5, p6, p7, p8, p9, p10, p11, S⟩ hi hn hc K hK
      have e33 := at0 HZ hsz (hn 7 (by decide)) rfl rfl (by decide); obtain ⟨x1, z1, q7⟩ := p7 (hn 7 (by decide))
      rw [q7] at e33
      clear HZ
      refine yields_ (N := some 41) (x := .int .i64 x1) rfl rfl ?_ (hK.out _ _ ⟨p0, p1, p2, p3, p4, p5, p6, p7, fun _ => ⟨x1, rfl⟩, p9, p10, p11, S⟩)
      clear hK hn hc p0 p1 p2 p3 p4 p5 p6 p7 p8 p9 p10 p11; (try simp only [Array.getD_eq_getD_getElem?] at *); go_simp; try with_reducible rfl
     ·rintro l v W zb HZ hsz ⟨p0, p1, p2, p3, p4, p5, p6, p7, p8, p9, p10, p11, S⟩ hi hn hc K hK
      have e33 := at0 HZ hsz (hn 7 (by decide)) rfl rfl (by decide); obtain ⟨x1, z1, q7⟩ := p7 (hn 7 (by decide))
      rw [q7] at e33
      clear HZ
      refine yields_ (N := some 42) (x := .int .i64 z1) rfl rfl ?_ (hK.out _ _ ⟨p0, p1, p2, p3, p4, p5, p6, p7, p8, fun _ => ⟨z1, rfl⟩, p10, p11, S⟩)
      clear hK hn hc p0 p1 p2 p3 p4 p5 p6 p7 p8 p9 p10 p11; (try simp only [Array.getD_eq_getD_getElem?] at *); go_simp; try with_reducible rfl
     ·rintro l v W zb HZ hsz ⟨p0, p1, p2, p3, p4, p5, p6, p7, p8, p9, p10, p11, S⟩ hi hn hc K hK
      have e41 := at0 HZ hsz (hn 8 (by decide)) rfl rfl (by decide); obtain ⟨x2, q8⟩ := p8 (hn 8 (by decide))
      rw [q8] at e41
      clear HZ
      refine yields_ (N := some 12) (x := .int .i64 x2) rfl rfl ?_ (hK.out _ _ ⟨p0, p1, p2, p3, p4, p5, p6, p7, p8, p9, fun _ => ⟨x2, rfl⟩, p11, S⟩)
      clear hK hn hc p0 p1 p2 p3 p4 p5 p6 p7 p8 p9 p10 p11; (try simp only [Array.getD_eq_getD_getElem?] at *); go_simp; try with_reducible rfl
     ·rintro l v W zb HZ hsz ⟨p0, p1, p2, p3, p4, p5, p6, p7, p8, p9, p10, p11, S⟩ hi hn hc K hK
      have e42 := at0 HZ hsz (hn 9 (by decide)) rfl rfl (by decide); obtain ⟨x3, q9⟩ := p9 (hn 9 (by decide))
      rw [q9] at e42
      clear HZ
      refine yields_ (N := some 13) (x := .int .i64 x3) rfl rfl ?_ (hK.out _ _ ⟨p0, p1, p2, p3, p4, p5, p6, p7, p8, p9, p10, fun _ => ⟨x3, rfl⟩, S⟩)
      clear hK hn hc p0 p1 p2 p3 p4 p5 p6 p7 p8 p9 p10 p11; (try simp only [Array.getD_eq_getD_getElem?] at *); go_simp; try with_reducible rfl
     obtain ⟨-, -, -, -, -, -, p6, p7, p8, p9, p10, p11, S⟩ := hJ; obtain ⟨xa, qa⟩ := p10 rfl; obtain ⟨za, qz⟩ := p11 rfl; obtain ⟨s1, n1_, b1, b2, h1⟩ := (show ∃ (s1 : Int) (n1_ : Nat), s1 ≤ max s' (3002 + 2 * ((kid : Int) + 1)) ∧ n1_ ≤ max 12000 (12001 + 5 * (kid + 1)) ∧ MkP base w0 (fB base g5 #[.int .i64 op, .slice A1 n1 c1, .slice (some ad) kd.length c2, .int .i64 mn, .int .i64 mx] 230 :: fB base g4 #[.slice An ns.length cn] 214 :: L) g vf W s1 lo n1_ from S); have h := Aside0.mk h1; have HB1 := Aside0.mk (And.intro b1 b2); clear S h1 b1 b2 p6 p7 p8 p9 p10 p11
     simp only [putIf, ↓reduceIte, Act.put, List.setIfInBounds_toArray, List.set_cons_succ, List.set_cons_zero, qa, qz]
     have z3 := h.out.cell 0 3 rfl rfl; have z4 := h.out.cell 0 4 rfl rfl
     by_cases ci : mn ≤ i
     ·have hci := eq_true ci
      go_wp2_with fail
      refine (h.out.loop _ _ _ (by have := HB1.out; have := HS3.out; have := hkid.out; omega) (by have := HB1.out; have := hkid.out; omega)).mono ?_
      rintro e w_ ⟨xb, zb, rfl, h1⟩
      replace h := Aside0.mk h1; clear h1; have WN := Aside0.mk (show wrap64 (i + 1) = i + 1 from w64 (by have := HI.out; omega) (by have := HI.out; have := eM.out.2; omega))
      by_cases cx : x < 0
      ·have hcx := eq_true cx
       go_wp2
       go_roundg (M - (i + 1)).toNat
       case measure => have := HI.out; omega
       case rel => exact ⟨_, _, i + 1, _, _, rfl, rfl, congrArg (Value.int .i64) WN.out, ⟨by have := HI.out; omega, rfl⟩, ⟨by have := HB1.out; have := HS3.out; have := hb.out; omega, by have := HB1.out; have := hb.out; omega⟩, h⟩
      ·have hcx := eq_false cx
       go_wp2_with fail
       refine (h.out.edge0 _ _ (by have := HB1.out; have := hkid.out; omega)).mono ?_
       rintro e w_ ⟨rfl, h1⟩
       have h2 := Aside0.mk (h1.low (Nat.le_succ lo)); clear h h1; have h := h2; clear h2
       go_wp2
       go_roundg (M - (i + 1)).toNat
       case measure => have := HI.out; omega
       case rel => exact ⟨_, _, i + 1, _, _, rfl, rfl, congrArg (Value.int .i64) WN.out, ⟨by have := HI.out; omega, rfl⟩, ⟨by have := HB1.out; have := HS3.out; have := hb.out; omega, by have := HB1.out; have := hb.out; omega⟩, h⟩
     ·have hci := eq_false ci
      have WN := Aside0.mk (show wrap64 (i + 1) = i + 1 from w64 (by have := HI.out; omega) (by have := HI.out; have := eM.out.2; omega))
      by_cases cx : x < 0
      ·have hcx := eq_true cx
       go_wp2
       go_roundg (M - (i + 1)).toNat
       case measure => have := HI.out; omega
       case rel => exact ⟨_, _, i + 1, _, _, rfl, rfl, congrArg (Value.int .i64) WN.out, ⟨by have := HI.out; omega, rfl⟩, ⟨by have := HB1.out; have := HS3.out; have := hb.out; omega, by have := HB1.out; have := hb.out; omega⟩, h⟩
      ·have hcx := eq_false cx
       go_wp2_with fail
       refine (h.out.edge0 _ _ (by have := HB1.out; have := hkid.out; omega)).mono ?_
       rintro e w_ ⟨rfl, h1⟩
       have h2 := Aside0.mk (h1.low (Nat.le_succ lo)); clear h h1; have h := h2; clear h2
       go_wp2
       go_roundg (M - (i + 1)).toNat
       case measure => have := HI.out; omega
       case rel => exact ⟨_, _, i + 1, _, _, rfl, rfl, congrArg (Value.int .i64) WN.out, ⟨by have := HI.out; omega, rfl⟩, ⟨by have := HB1.out; have := HS3.out; have := hb.out; omega, by have := HB1.out; have := hb.out; omega⟩, h⟩
   ·have hcond := eq_false c
    have HX := h
    go_wp2
    all_goals (go_ret2; exact ⟨_, _, s', n', rfl, hb.out.1, hb.out.2, HX.out.drop.drop⟩)
end

/-! ### spec_l6Maker_part: function 175 -/
section
open Go.Proofs.Ytfajfjgkkgigoaa.Kit
theorem spec_l6Maker_part.need13 : (rtab .any (opsOf Try.f175 13)).2.map Prod.fst = [[], [], [], [2], [3], [4], [0, 1, 5], [6], [7], [7], [8, 6, 0, 1, 2, 3, 4, 5, 6, 7, 8], [9, 10, 0, 1, 2, 3, 4, 5, 6, 7, 8, 9, 10]] := by kernel_rfl
theorem spec_l6Maker_part.dst13 : (opsOf Try.f175 13).toList.map Oper.dst = [some 52, some 53, some 54, some 55, some 56, some 57, some 58, some 51, some 59, some 60, some 11, some 12] := by kernel_rfl
theorem spec_l6Maker_part.need16 : (rtab .any (opsOf Try.f175 16)).2.map Prod.fst = [[], [], [], [2], [3], [4], [0, 1, 5], [6], [7], [7], [8, 6, 0, 1, 2, 3, 4, 5, 6, 7, 8], [9, 10, 0, 1, 2, 3, 4, 5, 6, 7, 8, 9, 10]] := by kernel_rfl
theorem spec_l6Maker_part.dst16 : (opsOf Try.f175 16).toList.map Oper.dst = [some 66, some 67, some 68, some 69, some 70, some 71, some 72, some 65, some 73, some 74, some 13, some 14] := by kernel_rfl
theorem spec_l6Maker_part.need20 : (rtab .any (opsOf Try.f175 20)).2.map Prod.fst = [[], [], [], [2], [3], [4], [0, 1, 5], [6], [7], [7], [8, 6, 0, 1, 2, 3, 4, 5, 6, 7, 8], [9, 10, 0, 1, 2, 3, 4, 5, 6, 7, 8, 9, 10]] := by kernel_rfl
theorem spec_l6Maker_part.dst20 : (opsOf Try.f175 20).toList.map Oper.dst = [some 84, some 85, some 86, some 87, some 88, some 89, some 90, some 83, some 91, some 92, some 15, some 16] := by kernel_rfl
set_option maxHeartbeats 4000000 in
set_option maxRecDepth 100000 in
theorem spec_l6Maker_part.all (g : Nat) (vf : Value) (An : Option Addr) (cn : Nat) (ns : List S230) (hok : ∀ i, i < ns.length → NodeOK ns i) (hlen : ns.length ≤ 300) (hcn : ns.length ≤ cn) : ∀ m, m < ns.length → PartOK g vf An cn ns m := by
 intro m
 induction m using Nat.strongRecOn with
 | ind m ih =>
  intro hm base w0 w L s lo n hN h hs hn; replace h := Aside0.mk h; have HS := Aside0.mk hs; have HN0 := Aside0.mk hn; have IH := Aside0.mk ih; have HLEN := Aside0.mk hlen; have HM := Aside0.mk hm; obtain ⟨ad, A1, c1, A2, c2, eA, ⟨hl1, hl2⟩, hW⟩ := hN m hm; subst eA; have ho := hok m hm
  unfold NodeOK at ho
  have HN := Aside0.mk hN; have hlt := eq_true (show (m : Int) < (ns.length : Int) by omega); have hge := eq_true (show (0 : Int) ≤ (m : Int) by omega); generalize rd_T230 ns (m : Int) = nd at *; have HO := Aside0.mk ho; have HW := Aside0.mk hW; clear ho hW hN hs hn ih hlen hm hl1 hl2 hok
  go_enter Try.func175, Try.ntmps175
  go_wp2_with (first | ((with_reducible refine gate_dst (N := 4) rfl ?_); refine ev_boxM h rfl rfl (cs := #[.slice (some ad) ns.length cn]) (t := 214) (by first | (go_simp; done) | (go_simp; rfl)) (fun g4 w_ h1 => ?_); clear h; have h := h1; clear h1))
  refine (h.out.full).mono ?_
  rintro e w_ ⟨b, rfl, hf, h1⟩
  clear h
  cases b with
  | true =>
   clear hf; have HX := Aside0.mk h1
   go_wp2
   go_ret2
   exact ⟨_, _, s, n, rfl, by omega, by omega, HX.out.drop⟩
  | false =>
   obtain ⟨hs3, h3⟩ := hf rfl; have h := Aside0.mk h3; have HS3 := Aside0.mk hs3; clear hf h1 h3 hs3; obtain ⟨x0, x1, x2, x3, x4, -, -⟩ := HW.out _ h.out.hp.tail; have y0 := h.out.cell 0 0 rfl rfl
   rcases (show nd.f0 = 1 ∨ nd.f0 = 2 ∨ nd.f0 = 8 ∨ ¬ (nd.f0 = 1 ∨ nd.f0 = 2 ∨ nd.f0 = 8) by omega) with c | c | c | c
   all_goals first | have hc1 := beq_iff_eq.2 (show nd.f0 = 1 by omega) | have hc1 := beq_eq_false_iff_ne.2 (show nd.f0 ≠ 1 by omega)
   all_goals first | have hc2 := beq_iff_eq.2 (show nd.f0 = 2 by omega) | have hc2 := beq_eq_false_iff_ne.2 (show nd.f0 ≠ 2 by omega)
   all_goals first | have hc8 := beq_iff_eq.2 (show nd.f0 = 8 by omega) | have hc8 := beq_eq_false_iff_ne.2 (show nd.f0 ≠ 8 by omega)
   all_goals have HCC := Aside0.mk c
   all_goals clear c
   all_goals
    go_wp2_with (first | ((with_reducible refine gate_dst (N := 8) rfl ?_); refine ev_boxM h rfl rfl (cs := #[.int .i64 0, .slice none 0 0, .slice none 0 0, .int .i64 0, .int .i64 0]) (t := 230) (by first | (go_simp; done) | (go_simp; rfl)) (fun g8 w_ h1 => ?_); clear h; have h := h1; clear h1; have z0 := h.out.cell 0 0 rfl rfl; have z1 := h.out.cell 0 1 rfl rfl; have z2 := h.out.cell 0 2 rfl rfl; have z3 := h.out.cell 0 3 rfl rfl; have z4 := h.out.cell 0 4 rfl rfl; have f0 := h.out.frozen 0 0 rfl; have f1 := h.out.frozen 0 1 rfl; have f2 := h.out.frozen 0 2 rfl; have f3 := h.out.frozen 0 3 rfl; have f4 := h.out.frozen 0 4 rfl) | ((with_reducible refine gate_store (t := 230) (p := 8) rfl ?_); refine ev_run (w1 := ((((((_ : World)).setCell ⟨g8, 0, none⟩ (.int .i64 nd.f0)).setCell ⟨g8, 1, none⟩ (.slice A1 nd.f1.length c1)).setCell ⟨g8, 2, none⟩ (.slice A2 nd.f2.length c2)).setCell ⟨g8, 3, none⟩ (.int .i64 nd.f3)).setCell ⟨g8, 4, none⟩ (.int .i64 nd.f4)) rfl rfl (by first | (go_simp; done) | (go_simp; rfl)) (fun w_ hw => ?_); have h1 := Aside0.mk ((((((h.out).put 0 0 (u := .int .i64 nd.f0) rfl rfl).put 0 1 (u := .slice A1 nd.f1.length c1) rfl rfl).put 0 2 (u := .slice A2 nd.f2.length c2) rfl rfl).put 0 3 (u := .int .i64 nd.f3) rfl rfl).put 0 4 (u := .int .i64 nd.f4) rfl rfl); rw [← hw] at h1; clear hw; clear h; have h := h1; clear h1; clear z0 z1 z2 z3 z4 f0 f1 f2 f3 f4 x0 x1 x2 x3 x4 y0; have z0 := h.out.cell 0 0 rfl rfl; have z1 := h.out.cell 0 1 rfl rfl; have z2 := h.out.cell 0 2 rfl rfl; have z3 := h.out.cell 0 3 rfl rfl; have z4 := h.out.cell 0 4 rfl rfl; have y0 := h.out.cell 1 0 rfl rfl))
    clear z0 z1 z2 z3 z4 y0
   ·have HB1 := Aside0.mk True.intro
    refine (h.out.state (by have := HO.out; have := HM.out; have := HLEN.out; have := HS3.out; omega)).mono ?_
    rintro e w_ ⟨rfl, h1⟩
    replace h := Aside0.mk h1; clear h1
    go_wp2_with fail
    refine (h.out.state (by have := HO.out; have := HM.out; have := HLEN.out; have := HS3.out; omega)).mono ?_
    rintro e w_ ⟨rfl, h1⟩
    replace h := Aside0.mk h1; clear h1; have z1 := h.out.cell 0 1 rfl rfl
    go_wp2_with fail
    refine (h.out.edge _ _ (fun W q => (HW.out W q.tail.tail).2.2.2.2.2.1) HO.out.1 (by omega)).mono ?_
    rintro e w_ ⟨rfl, h1⟩
    replace h := Aside0.mk (h1.low (Nat.le_succ lo)); clear h1 z1; have HX := h
    go_wp2
    go_ret2
    exact ⟨_, _, _, _, rfl, by have := HB1.out; have := HM.out; have := HS3.out; omega, by have := HB1.out; have := HM.out; have := HS3.out; omega, HX.out.drop.drop⟩
   ·have HB1 := Aside0.mk True.intro
    refine (h.out.state (by have := HO.out; have := HM.out; have := HLEN.out; have := HS3.out; omega)).mono ?_
    rintro e w_ ⟨rfl, h1⟩
    replace h := Aside0.mk h1; clear h1
    go_wp2_with fail
    refine (h.out.state (by have := HO.out; have := HM.out; have := HLEN.out; have := HS3.out; omega)).mono ?_
    rintro e w_ ⟨rfl, h1⟩
    replace h := Aside0.mk h1; clear h1; have z1 := h.out.cell 0 1 rfl rfl
    go_wp2_with fail
    refine (h.out.edge _ _ (fun W q => (HW.out W q.tail.tail).2.2.2.2.2.1) HO.out.1 (by omega)).mono ?_
    rintro e w_ ⟨rfl, h1⟩
    replace h := Aside0.mk (h1.low (Nat.le_succ lo)); clear h1 z1; have HX := h
    go_wp2
    go_ret2
    exact ⟨_, _, _, _, rfl, by have := HB1.out; have := HM.out; have := HS3.out; omega, by have := HB1.out; have := HM.out; have := HS3.out; omega, HX.out.drop.drop⟩
   ·obtain ⟨k0, hk0⟩ : ∃ k : Nat, rd nd.f2 0 = (k : Int) := ⟨(rd nd.f2 0).toNat, by have := HO.out; have := HCC.out; omega⟩
    have HK0 := Aside0.mk hk0
    have hkm : k0 < m := by have := HO.out; have := HCC.out; omega
    have HKM := Aside0.mk hkm; clear hk0 hkm
    refine (spec_l6Maker_times.calls g vf (some ad) cn ns k0 (IH.out k0 HKM.out (by have := HKM.out; have := HM.out; omega)) (by have := HKM.out; have := HM.out; have := HLEN.out; omega) (HN.out.more [_, _]) h.out (by have := HS3.out; omega) (by omega) nd.f0 nd.f3 nd.f4 A1 _ _ A2 _ nd.f2 (fun W q => (HW.out W q.tail.tail).2.2.2.2.2.2) (by have := HO.out; have := HCC.out; omega) HK0.out (by have := HO.out; have := HCC.out; omega)).mono ?_
    rintro e w_ ⟨x, z, s1, n1, rfl, b1, b2, h1⟩
    have HB1 := Aside0.mk (And.intro HKM.out (And.intro b1 b2)); replace h := Aside0.mk h1; clear h1 b1 b2; have HX := h
    go_wp2
    go_ret2
    exact ⟨_, _, s1, n1, rfl, by have := HB1.out; have := HM.out; have := HS3.out; omega, by have := HB1.out; have := HM.out; have := HS3.out; omega, HX.out.drop.drop⟩
   ·obtain ⟨k0, hk0⟩ : ∃ k : Nat, rd nd.f2 0 = (k : Int) := ⟨(rd nd.f2 0).toNat, by have := HO.out; have := HCC.out; omega⟩
    have HK0 := Aside0.mk hk0
    have hkm : k0 < m := by have := HO.out; have := HCC.out; omega
    have HKM := Aside0.mk hkm; clear hk0 hkm; have HKM0 := HKM; obtain ⟨ad2, ek, -⟩ := Kd.at_int (HW.out _ h.out.hp.tail.tail).2.2.2.2.2.2 0 (Int.le_refl _) (by have := HO.out; have := HCC.out; omega); subst ek; have HB0 := Aside0.mk (True.intro)
    refine mask_ (n := 12) (fun l v W => (l 0 = true → v 0 = .pointer (some ⟨g, 0, none⟩)) ∧ (l 1 = true → v 1 = .agg #[.slice (some ad) ns.length cn]) ∧ (l 2 = true → v 2 = .pointer (some ⟨g8, 2, none⟩)) ∧ (l 3 = true → v 3 = .slice (some ad2) nd.f2.length c2) ∧ (l 4 = true → v 4 = .pointer (some (ad2.add 0))) ∧ (l 5 = true → v 5 = .int .i64 (k0 : Int)) ∧ (l 6 = true → ∃ x z : Int, v 6 = .tuple #[.int .i64 x, .int .i64 z]) ∧ (l 7 = true → ∃ x z : Int, v 7 = .tuple #[.int .i64 x, .int .i64 z]) ∧ (l 8 = true → ∃ x : Int, v 8 = .int .i64 x) ∧ (l 9 = true → ∃ x : Int, v 9 = .int .i64 x) ∧ (l 10 = true → ∃ x : Int, v 10 = .int .i64 x) ∧ (l 11 = true → ∃ x : Int, v 11 = .int .i64 x) ∧ (bif l 6 then (∃ (s1 : Int) (n1_ : Nat), s1 ≤ max s (3002 + 2 * ((k0 : Int) + 1)) ∧ n1_ ≤ max 12000 (12001 + 5 * (k0 + 1)) ∧ MkP base w0 (fB base g8 #[.int .i64 nd.f0, .slice A1 nd.f1.length c1, .slice (some ad2) nd.f2.length c2, .int .i64 nd.f3, .int .i64 nd.f4] 230 :: fB base g4 #[.slice (some ad) ns.length cn] 214 :: L) g vf W s1 lo n1_) else (MkP base w0 (fB base g8 #[.int .i64 nd.f0, .slice A1 nd.f1.length c1, .slice (some ad2) nd.f2.length c2, .int .i64 nd.f3, .int .i64 nd.f4] 230 :: fB base g4 #[.slice (some ad) ns.length cn] 214 :: L) g vf W s lo 12000))) [[], [], [], [2], [3], [4], [0, 1, 5], [6], [7], [7], [8, 6, 0, 1, 2, 3, 4, 5, 6, 7, 8], [9, 10, 0, 1, 2, 3, 4, 5, 6, 7, 8, 9, 10]] [some 52, some 53, some 54, some 55, some 56, some 57, some 58, some 51, some 59, some 60, some 11, some 12] 123 (by kernel_rfl) spec_l6Maker_part.need13 spec_l6Maker_part.dst13 (by decide) rfl ⟨fun h => absurd h (by decide), fun h => absurd h (by decide), fun h => absurd h (by decide), fun h => absurd h (by decide), fun h => absurd h (by decide), fun h => absurd h (by decide), fun h => absurd h (by decide), fun h => absurd h (by decide), fun h => absurd h (by decide), fun h => absurd h (by decide), fun h => absurd h (by decide), fun h => absurd h (by decide), ?_⟩ ⟨?_, ?_, ?_, ?_, ?_, ?_, ?_, ?_, ?_, ?_, ?_, ?_, trivial⟩ (fun v W hJ => ?_)
    ·exact h.out.drew
    ·rintro l v W zb HZ hsz ⟨p0, p1, p2, p3, p4, p5, p6, p7, p8, p9, p10, p11, S⟩ hi hn hc K hK
     have e0 := oth_ (N := 0) (x := .pointer (some ⟨g, 0, none⟩)) HZ rfl rfl
     refine yields_ (N := some 52) (x := .pointer (some ⟨g, 0, none⟩)) rfl rfl ?_ (hK.out _ _ ⟨fun _ => rfl, p1, p2, p3, p4, p5, p6, p7, p8, p9, p10, p11, S⟩)
     clear hK HZ hn hc p0 p1 p2 p3 p4 p5 p6 p7 p8 p9 p10 p11; (try simp only [Array.getD_eq_getD_getElem?] at *); go_simp; try with_reducible rfl
    ·rintro l v W zb HZ hsz ⟨p0, p1, p2, p3, p4, p5, p6, p7, p8, p9, p10, p11, S⟩ hi hn hc K hK
     have e4 := oth_ (N := 4) (x := .pointer (some ⟨g4, 0, none⟩)) HZ rfl rfl; have S0 := S
     rw [show l 6 = false from hc 6 1 (by decide) hi] at S
     simp only [cond_true, cond_false] at S
     have z := S.cell 1 0 rfl rfl
     refine yields_ (N := some 53) (x := .agg #[.slice (some ad) ns.length cn]) rfl rfl ?_ (hK.out _ _ ⟨p0, fun _ => rfl, p2, p3, p4, p5, p6, p7, p8, p9, p10, p11, S0⟩)
     clear hK HZ hn hc p0 p1 p2 p3 p4 p5 p6 p7 p8 p9 p10 p11; (try simp only [Array.getD_eq_getD_getElem?] at *); go_simp; try with_reducible rfl
    ·rintro l v W zb HZ hsz ⟨p0, p1, p2, p3, p4, p5, p6, p7, p8, p9, p10, p11, S⟩ hi hn hc K hK
     have e8 := oth_ (N := 8) (x := .pointer (some ⟨g8, 0, none⟩)) HZ rfl rfl
     refine yields_ (N := some 54) (x := .pointer (some ⟨g8, 2, none⟩)) rfl rfl ?_ (hK.out _ _ ⟨p0, p1, fun _ => rfl, p3, p4, p5, p6, p7, p8, p9, p10, p11, S⟩)
     clear hK HZ hn hc p0 p1 p2 p3 p4 p5 p6 p7 p8 p9 p10 p11; (try simp only [Array.getD_eq_getD_getElem?] at *); go_simp; try with_reducible rfl
    ·rintro l v W zb HZ hsz ⟨p0, p1, p2, p3, p4, p5, p6, p7, p8, p9, p10, p11, S⟩ hi hn hc K hK
     have e54 := at1 HZ hsz (hn 2 (by decide)) p2 rfl rfl (by decide); have S0 := S
     rw [show l 6 = false from hc 6 5 (by decide) (hc 5 4 (by decide) (hc 4 3 (by decide) hi))] at S
     simp only [cond_true, cond_false] at S
     have z := S.cell 0 2 rfl rfl
     refine yields_ (N := some 55) (x := .slice (some ad2) nd.f2.length c2) rfl rfl ?_ (hK.out _ _ ⟨p0, p1, p2, fun _ => rfl, p4, p5, p6, p7, p8, p9, p10, p11, S0⟩)
     clear hK HZ hn hc p0 p1 p2 p3 p4 p5 p6 p7 p8 p9 p10 p11; (try simp only [Array.getD_eq_getD_getElem?] at *); go_simp; try with_reducible rfl
    ·rintro l v W zb HZ hsz ⟨p0, p1, p2, p3, p4, p5, p6, p7, p8, p9, p10, p11, S⟩ hi hn hc K hK
     have e55 := at1 HZ hsz (hn 3 (by decide)) p3 rfl rfl (by decide); have S0 := S
     rw [show l 6 = false from hc 6 5 (by decide) (hc 5 4 (by decide) hi)] at S
     simp only [cond_true, cond_false] at S
     have hb1 := eq_true (show (0 : Int) < (nd.f2.length : Int) by have := HO.out; have := HCC.out; omega)
     have hb2 : ¬ nd.f2 = [] := fun q => by have h1 := HO.out.2.1; have := HCC.out; rw [q] at h1; simp at h1; omega
     refine yields_ (N := some 56) (x := .pointer (some (ad2.add 0))) rfl rfl ?_ (hK.out _ _ ⟨p0, p1, p2, p3, fun _ => rfl, p5, p6, p7, p8, p9, p10, p11, S0⟩)
     clear hK HZ hn hc p0 p1 p2 p3 p4 p5 p6 p7 p8 p9 p10 p11; (try simp only [Array.getD_eq_getD_getElem?] at *); go_simp; try with_reducible rfl
    ·rintro l v W zb HZ hsz ⟨p0, p1, p2, p3, p4, p5, p6, p7, p8, p9, p10, p11, S⟩ hi hn hc K hK
     have e56 := at1 HZ hsz (hn 4 (by decide)) p4 rfl rfl (by decide); have S0 := S
     rw [show l 6 = false from hc 6 5 (by decide) hi] at S
     simp only [cond_true, cond_false] at S
     obtain ⟨ad', ek, hx⟩ := Kd.at_int (HW.out _ S.hp.tail.tail).2.2.2.2.2.2 0 (by omega) (by have := HO.out; have := HCC.out; omega); cases ek
     rw [HK0.out] at hx
     have hx2 : W.cell? ad2 = some (.int .i64 (k0 : Int)) := by rw [← Addr.add_zero' ad2]; exact hx
     refine yields_ (N := some 57) (x := .int .i64 (k0 : Int)) rfl rfl ?_ (hK.out _ _ ⟨p0, p1, p2, p3, p4, fun _ => rfl, p6, p7, p8, p9, p10, p11, S0⟩)
     clear hK HZ hn hc p0 p1 p2 p3 p4 p5 p6 p7 p8 p9 p10 p11; (try simp only [Array.getD_eq_getD_getElem?] at *); go_simp; try with_reducible rfl
    ·rintro l v W zb HZ hsz ⟨p0, p1, p2, p3, p4, p5, p6, p7, p8, p9, p10, p11, S⟩ hi hn hc K hK
     have e52 := at1 HZ hsz (hn 0 (by decide)) p0 rfl rfl (by decide); have e53 := at1 HZ hsz (hn 1 (by decide)) p1 rfl rfl (by decide); have e57 := at1 HZ hsz (hn 5 (by decide)) p5 rfl rfl (by decide); clear HZ
     rw [hi] at S
     simp only [cond_true, cond_false] at S
     refine goes_ Try.func175 (by kernel_rfl) rfl #[.pointer (some ⟨g, 0, none⟩), .agg #[.slice (some ad) ns.length cn], .int .i64 (k0 : Int)] rfl rfl rfl (by simp only [List.map_toArray, List.map_cons, List.map_nil]; show #[zb.tmps.getD 52 undef, zb.tmps.getD 53 undef, zb.tmps.getD 57 undef] = _; simp only [e52, e53, e57]) ?_
     refine (IH.out k0 HKM0.out (by have := HKM0.out; have := HM.out; omega) (HN.out.more [_, _]) S (by have := HS3.out; have := HB0.out; have := HKM0.out; have := HM.out; have := HLEN.out; omega) (by have := HB0.out; have := HKM0.out; have := HM.out; have := HLEN.out; omega)).mono ?_
     rintro e w' ⟨x, z, s1, n1_, rfl, b1, b2, h1⟩
     exact ⟨_, rfl, hK.out _ _ ⟨p0, p1, p2, p3, p4, p5, fun _ => ⟨x, z, rfl⟩, p7, p8, p9, p10, p11, ⟨s1, n1_, b1, b2, h1⟩⟩⟩
    ·rintro l v W zb HZ hsz ⟨p0, p1, p2, p3, p4, p5, p6, p7, p8, p9, p10, p11, S⟩ hi hn hc K hK
     have e58 := at0 HZ hsz (hn 6 (by decide)) rfl rfl (by decide); obtain ⟨x0, z0, q6⟩ := p6 (hn 6 (by decide))
     rw [q6] at e58
     clear HZ
     refine yields_ (N := some 51) (x := .tuple #[.int .i64 x0, .int .i64 z0]) rfl rfl ?_ (hK.out _ _ ⟨p0, p1, p2, p3, p4, p5, p6, fun _ => ⟨x0, z0, rfl⟩, p8, p9, p10, p11, S⟩)
     clear hK hn hc p0 p1 p2 p3 p4 p5 p6 p7 p8 p9 p10 p11; (try simp only [Array.getD_eq_getD_getElem?] at *); go_simp; try with_reducible rfl
    ·rintro l v W zb HZ hsz ⟨p0, p1, p2, p3, p4, p5, p6, p7, p8, p9, p10, p11, S⟩ hi hn hc K hK
     have e51 := at0 HZ hsz (hn 7 (by decide)) rfl rfl (by decide); obtain ⟨x1, z1, q7⟩ := p7 (hn 7 (by decide))
     rw [q7] at e51
     clear HZ
     refine yields_ (N := some 59) (x := .int .i64 x1) rfl rfl ?_ (hK.out _ _ ⟨p0, p1, p2, p3, p4, p5, p6, p7, fun _ => ⟨x1, rfl⟩, p9, p10, p11, S⟩)
     clear hK hn hc p0 p1 p2 p3 p4 p5 p6 p7 p8 p9 p10 p11; (try simp only [Array.getD_eq_getD_getElem?] at *); go_simp; try with_reducible rfl
    ·rintro l v W zb HZ hsz ⟨p0, p1, p2, p3, p4, p5, p6, p7, p8, p9, p10, p11, S⟩ hi hn hc K hK
     have e51 := at0 HZ hsz (hn 7 (by decide)) rfl rfl (by decide); obtain ⟨x1, z1, q7⟩ := p7 (hn 7 (by decide))
     rw [q7] at e51
     clear HZ
     refine yields_ (N := some 60) (x := .int .i64 z1) rfl rfl ?_ (hK.out _ _ ⟨p0, p1, p2, p3, p4, p5, p6, p7, p8, fun _ => ⟨z1, rfl⟩, p10, p11, S⟩)
     clear hK hn hc p0 p1 p2 p3 p4 p5 p6 p7 p8 p9 p10 p11; (try simp only [Array.getD_eq_getD_getElem?] at *); go_simp; try with_reducible rfl
    ·rintro l v W zb HZ hsz ⟨p0, p1, p2, p3, p4, p5, p6, p7, p8, p9, p10, p11, S⟩ hi hn hc K hK
     have e59 := at0 HZ hsz (hn 8 (by decide)) rfl rfl (by decide); obtain ⟨x2, q8⟩ := p8 (hn 8 (by decide))
     rw [q8] at e59
     clear HZ
     refine yields_ (N := some 11) (x := .int .i64 x2) rfl rfl ?_ (hK.out _ _ ⟨p0, p1, p2, p3, p4, p5, p6, p7, p8, p9, fun _ => ⟨x2, rfl⟩, p11, S⟩)
     clear hK hn hc p0 p1 p2 p3 p4 p5 p6 p7 p8 p9 p10 p11; (try simp only [Array.getD_eq_getD_getElem?] at *); go_simp; try with_reducible rfl
    ·rintro l v W zb HZ hsz ⟨p0, p1, p2, p3, p4, p5, p6, p7, p8, p9, p10, p11, S⟩ hi hn hc K hK
     have e60 := at0 HZ hsz (hn 9 (by decide)) rfl rfl (by decide); obtain ⟨x3, q9⟩ := p9 (hn 9 (by decide))
     rw [q9] at e60
     clear HZ
     refine yields_ (N := some 12) (x := .int .i64 x3) rfl rfl ?_ (hK.out _ _ ⟨p0, p1, p2, p3, p4, p5, p6, p7, p8, p9, p10, fun _ => ⟨x3, rfl⟩, S⟩)
     clear hK hn hc p0 p1 p2 p3 p4 p5 p6 p7 p8 p9 p10 p11; (try simp only [Array.getD_eq_getD_getElem?] at *); go_simp; try with_reducible rfl
    obtain ⟨-, -, -, -, -, -, p6, p7, p8, p9, p10, p11, S⟩ := hJ; obtain ⟨x13, qa⟩ := p10 rfl; obtain ⟨z13, qz⟩ := p11 rfl; obtain ⟨s13, n13, b1, b2, h1⟩ := (show ∃ (s1 : Int) (n1_ : Nat), s1 ≤ max s (3002 + 2 * ((k0 : Int) + 1)) ∧ n1_ ≤ max 12000 (12001 + 5 * (k0 + 1)) ∧ MkP base w0 (fB base g8 #[.int .i64 nd.f0, .slice A1 nd.f1.length c1, .slice (some ad2) nd.f2.length c2, .int .i64 nd.f3, .int .i64 nd.f4] 230 :: fB base g4 #[.slice (some ad) ns.length cn] 214 :: L) g vf W s1 lo n1_ from S); have h := Aside0.mk h1; have HB13 := Aside0.mk (And.intro b1 b2); clear S h1 b1 b2 p6 p7 p8 p9 p10 p11
    simp only [putIf, ↓reduceIte, Act.put, List.setIfInBounds_toArray, List.set_cons_succ, List.set_cons_zero, qa, qz]
    have z0 := h.out.cell 0 0 rfl rfl
    by_cases c3 : nd.f0 = 3
    ·have hc3 := beq_iff_eq.2 c3
     have HC34 := Aside0.mk (show nd.f0 = 3 ∨ nd.f0 = 4 from .inl c3); clear c3; obtain ⟨k1, hk1⟩ : ∃ k : Nat, rd nd.f2 1 = (k : Int) := ⟨(rd nd.f2 1).toNat, by have := HO.out; have := HC34.out; omega⟩; have HK1 := Aside0.mk hk1
     have hkm : k1 < m := by have := HO.out; have := HC34.out; omega
     have HKM1 := Aside0.mk hkm; clear hk1 hkm
     go_wp2_with fail
     clear z0
     refine mask_ (n := 12) (fun l v W => (l 0 = true → v 0 = .pointer (some ⟨g, 0, none⟩)) ∧ (l 1 = true → v 1 = .agg #[.slice (some ad) ns.length cn]) ∧ (l 2 = true → v 2 = .pointer (some ⟨g8, 2, none⟩)) ∧ (l 3 = true → v 3 = .slice (some ad2) nd.f2.length c2) ∧ (l 4 = true → v 4 = .pointer (some (ad2.add 1))) ∧ (l 5 = true → v 5 = .int .i64 (k1 : Int)) ∧ (l 6 = true → ∃ x z : Int, v 6 = .tuple #[.int .i64 x, .int .i64 z]) ∧ (l 7 = true → ∃ x z : Int, v 7 = .tuple #[.int .i64 x, .int .i64 z]) ∧ (l 8 = true → ∃ x : Int, v 8 = .int .i64 x) ∧ (l 9 = true → ∃ x : Int, v 9 = .int .i64 x) ∧ (l 10 = true → ∃ x : Int, v 10 = .int .i64 x) ∧ (l 11 = true → ∃ x : Int, v 11 = .int .i64 x) ∧ (bif l 6 then (∃ (s1 : Int) (n1_ : Nat), s1 ≤ max s13 (3002 + 2 * ((k1 : Int) + 1)) ∧ n1_ ≤ max n13 (12001 + 5 * (k1 + 1)) ∧ MkP base w0 (fB base g8 #[.int .i64 nd.f0, .slice A1 nd.f1.length c1, .slice (some ad2) nd.f2.length c2, .int .i64 nd.f3, .int .i64 nd.f4] 230 :: fB base g4 #[.slice (some ad) ns.length cn] 214 :: L) g vf W s1 lo n1_) else (MkP base w0 (fB base g8 #[.int .i64 nd.f0, .slice A1 nd.f1.length c1, .slice (some ad2) nd.f2.length c2, .int .i64 nd.f3, .int .i64 nd.f4] 230 :: fB base g4 #[.slice (some ad) ns.length cn] 214 :: L) g vf W s13 lo n13))) [[], [], [], [2], [3], [4], [0, 1, 5], [6], [7], [7], [8, 6, 0, 1, 2, 3, 4, 5, 6, 7, 8], [9, 10, 0, 1, 2, 3, 4, 5, 6, 7, 8, 9, 10]] [some 66, some 67, some 68, some 69, some 70, some 71, some 72, some 65, some 73, some 74, some 13, some 14] 123 (by kernel_rfl) spec_l6Maker_part.need16 spec_l6Maker_part.dst16 (by decide) rfl ⟨fun h => absurd h (by decide), fun h => absurd h (by decide), fun h => absurd h (by decide), fun h => absurd h (by decide), fun h => absurd h (by decide), fun h => absurd h (by decide), fun h => absurd h (by decide), fun h => absurd h (by decide), fun h => absurd h (by decide), fun h => absurd h (by decide), fun h => absurd h (by decide), fun h => absurd h (by decide), ?_⟩ ⟨?_, ?_, ?_, ?_, ?_, ?_, ?_, ?_, ?_, ?_, ?_, ?_, trivial⟩ (fun v W hJ => ?_)
     ·exact h.out.drew
     ·rintro l v W zb HZ hsz ⟨p0, p1, p2, p3, p4, p5, p6, p7, p8, p9, p10, p11, S⟩ hi hn hc K hK
      have e0 := oth_ (N := 0) (x := .pointer (some ⟨g, 0, none⟩)) HZ rfl rfl
      refine yields_ (N := some 66) (x := .pointer (some ⟨g, 0, none⟩)) rfl rfl ?_ (hK.out _ _ ⟨fun _ => rfl, p1, p2, p3, p4, p5, p6, p7, p8, p9, p10, p11, S⟩)
      clear hK HZ hn hc p0 p1 p2 p3 p4 p5 p6 p7 p8 p9 p10 p11; (try simp only [Array.getD_eq_getD_getElem?] at *); go_simp; try with_reducible rfl
     ·rintro l v W zb HZ hsz ⟨p0, p1, p2, p3, p4, p5, p6, p7, p8, p9, p10, p11, S⟩ hi hn hc K hK
      have e4 := oth_ (N := 4) (x := .pointer (some ⟨g4, 0, none⟩)) HZ rfl rfl; have S0 := S
      rw [show l 6 = false from hc 6 1 (by decide) hi] at S
      simp only [cond_true, cond_false] at S
      have z := S.cell 1 0 rfl rfl
      refine yields_ (N := some 67) (x := .agg #[.slice (some ad) ns.length cn]) rfl rfl ?_ (hK.out _ _ ⟨p0, fun _ => rfl, p2, p3, p4, p5, p6, p7, p8, p9, p10, p11, S0⟩)
      clear hK HZ hn hc p0 p1 p2 p3 p4 p5 p6 p7 p8 p9 p10 p11; (try simp only [Array.getD_eq_getD_getElem?] at *); go_simp; try with_reducible rfl
     ·rintro l v W zb HZ hsz ⟨p0, p1, p2, p3, p4, p5, p6, p7, p8, p9, p10, p11, S⟩ hi hn hc K hK
      have e8 := oth_ (N := 8) (x := .pointer (some ⟨g8, 0, none⟩)) HZ rfl rfl
      refine yields_ (N := some 68) (x := .pointer (some ⟨g8, 2, none⟩)) rfl rfl ?_ (hK.out _ _ ⟨p0, p1, fun _ => rfl, p3, p4, p5, p6, p7, p8, p9, p10, p11, S⟩)
      clear hK HZ hn hc p0 p1 p2 p3 p4 p5 p6 p7 p8 p9 p10 p11; (try simp only [Array.getD_eq_getD_getElem?] at *); go_simp; try with_reducible rfl
     ·rintro l v W zb HZ hsz ⟨p0, p1, p2, p3, p4, p5, p6, p7, p8, p9, p10, p11, S⟩ hi hn hc K hK
      have e68 := at1 HZ hsz (hn 2 (by decide)) p2 rfl rfl (by decide); have S0 := S
      rw [show l 6 = false from hc 6 5 (by decide) (hc 5 4 (by decide) (hc 4 3 (by decide) hi))] at S
      simp only [cond_true, cond_false] at S
      have z := S.cell 0 2 rfl rfl
      refine yields_ (N := some 69) (x := .slice (some ad2) nd.f2.length c2) rfl rfl ?_ (hK.out _ _ ⟨p0, p1, p2, fun _ => rfl, p4, p5, p6, p7, p8, p9, p10, p11, S0⟩)
      clear hK HZ hn hc p0 p1 p2 p3 p4 p5 p6 p7 p8 p9 p10 p11; (try simp only [Array.getD_eq_getD_getElem?] at *); go_simp; try with_reducible rfl
     ·rintro l v W zb HZ hsz ⟨p0, p1, p2, p3, p4, p5, p6, p7, p8, p9, p10, p11, S⟩ hi hn hc K hK
      have e69 := at1 HZ hsz (hn 3 (by decide)) p3 rfl rfl (by decide); have S0 := S
      rw [show l 6 = false from hc 6 5 (by decide) (hc 5 4 (by decide) hi)] at S
      simp only [cond_true, cond_false] at S
      have hb1 := eq_true (show (1 : Int) < (nd.f2.length : Int) by have := HO.out; have := HC34.out; omega)
      refine yields_ (N := some 70) (x := .pointer (some (ad2.add 1))) rfl rfl ?_ (hK.out _ _ ⟨p0, p1, p2, p3, fun _ => rfl, p5, p6, p7, p8, p9, p10, p11, S0⟩)
      clear hK HZ hn hc p0 p1 p2 p3 p4 p5 p6 p7 p8 p9 p10 p11; (try simp only [Array.getD_eq_getD_getElem?] at *); go_simp; try with_reducible rfl
     ·rintro l v W zb HZ hsz ⟨p0, p1, p2, p3, p4, p5, p6, p7, p8, p9, p10, p11, S⟩ hi hn hc K hK
      have e70 := at1 HZ hsz (hn 4 (by decide)) p4 rfl rfl (by decide); have S0 := S
      rw [show l 6 = false from hc 6 5 (by decide) hi] at S
      simp only [cond_true, cond_false] at S
      obtain ⟨ad', ek, hx⟩ := Kd.at_int (HW.out _ S.hp.tail.tail).2.2.2.2.2.2 1 (by omega) (by have := HO.out; have := HC34.out; omega); cases ek
      rw [HK1.out] at hx
      replace hx : W.cell? ⟨ad2.block, ad2.off + 1, none⟩ = some (.int .i64 (k1 : Int)) := hx
      refine yields_ (N := some 71) (x := .int .i64 (k1 : Int)) rfl rfl ?_ (hK.out _ _ ⟨p0, p1, p2, p3, p4, fun _ => rfl, p6, p7, p8, p9, p10, p11, S0⟩)
      clear hK HZ hn hc p0 p1 p2 p3 p4 p5 p6 p7 p8 p9 p10 p11; (try simp only [Array.getD_eq_getD_getElem?] at *); go_simp; try with_reducible rfl
     ·rintro l v W zb HZ hsz ⟨p0, p1, p2, p3, p4, p5, p6, p7, p8, p9, p10, p11, S⟩ hi hn hc K hK
      have e66 := at1 HZ hsz (hn 0 (by decide)) p0 rfl rfl (by decide); have e67 := at1 HZ hsz (hn 1 (by decide)) p1 rfl rfl (by decide); have e71 := at1 HZ hsz (hn 5 (by decide)) p5 rfl rfl (by decide); clear HZ
      rw [hi] at S
      simp only [cond_true, cond_false] at S
      refine goes_ Try.func175 (by kernel_rfl) rfl #[.pointer (some ⟨g, 0, none⟩), .agg #[.slice (some ad) ns.length cn], .int .i64 (k1 : Int)] rfl rfl rfl (by simp only [List.map_toArray, List.map_cons, List.map_nil]; show #[zb.tmps.getD 66 undef, zb.tmps.getD 67 undef, zb.tmps.getD 71 undef] = _; simp only [e66, e67, e71]) ?_
      refine (IH.out k1 HKM1.out (by have := HKM1.out; have := HM.out; omega) (HN.out.more [_, _]) S (by have := HS3.out; have := HB13.out; have := HKM0.out; have := HM.out; have := HLEN.out; omega) (by have := HB13.out; have := HKM0.out; have := HM.out; have := HLEN.out; omega)).mono ?_
      rintro e w' ⟨x, z, s1, n1_, rfl, b1, b2, h1⟩
      exact ⟨_, rfl, hK.out _ _ ⟨p0, p1, p2, p3, p4, p5, fun _ => ⟨x, z, rfl⟩, p7, p8, p9, p10, p11, ⟨s1, n1_, b1, b2, h1⟩⟩⟩
     ·rintro l v W zb HZ hsz ⟨p0, p1, p2, p3, p4, p5, p6, p7, p8, p9, p10, p11, S⟩ hi hn hc K hK
      have e72 := at0 HZ hsz (hn 6 (by decide)) rfl rfl (by decide); obtain ⟨x0, z0, q6⟩ := p6 (hn 6 (by decide))
      rw [q6] at e72
      clear HZ
      refine yields_ (N := some 65) (x := .tuple #[.int .i64 x0, .int .i64 z0]) rfl rfl ?_ (hK.out _ _ ⟨p0, p1, p2, p3, p4, p5, p6, fun _ => ⟨x0, z0, rfl⟩, p8, p9, p10, p11, S⟩)
      clear hK hn hc p0 p1 p2 p3 p4 p5 p6 p7 p8 p9 p10 p11; (try simp only [Array.getD_eq_getD_getElem?] at *); go_simp; try with_reducible rfl
     ·rintro l v W zb HZ hsz ⟨p0, p1, p2, p3, p4, p5, p6, p7, p8, p9, p10, p11, S⟩ hi hn hc K hK
      have e65 := at0 HZ hsz (hn 7 (by decide)) rfl rfl (by decide); obtain ⟨x1, z1, q7⟩ := p7 (hn 7 (by decide))
      rw [q7] at e65
      clear HZ
      refine yields_ (N := some 73) (x := .int .i64 x1) rfl rfl ?_ (hK.out _ _ ⟨p0, p1, p2, p3, p4, p5, p6, p7, fun _ => ⟨x1, rfl⟩, p9, p10, p11, S⟩)
      clear hK hn hc p0 p1 p2 p3 p4 p5 p6 p7 p8 p9 p10 p11; (try simp only [Array.getD_eq_getD_getElem?] at *); go_simp; try with_reducible rfl
     ·rintro l v W zb HZ hsz ⟨p0, p1, p2, p3, p4, p5, p6, p7, p8, p9, p10, p11, S⟩ hi hn hc K hK
      have e65 := at0 HZ hsz (hn 7 (by decide)) rfl rfl (by decide); obtain ⟨x1, z1, q7⟩ := p7 (hn 7 (by decide))
      rw [q7] at e65
      clear HZ
      refine yields_ (N := some 74) (x := .int .i64 z1) rfl rfl ?_ (hK.out _ _ ⟨p0, p1, p2, p3, p4, p5, p6, p7, p8, fun _ => ⟨z1, rfl⟩, p10, p11, S⟩)
      clear hK hn hc p0 p1 p2 p3 p4 p5 p6 p7 p8 p9 p10 p11; (try simp only [Array.getD_eq_getD_getElem?] at *); go_simp; try with_reducible rfl
     ·rintro l v W zb HZ hsz ⟨p0, p1, p2, p3, p4, p5, p6, p7, p8, p9, p10, p11, S⟩ hi hn hc K hK
      have e73 := at0 HZ hsz (hn 8 (by decide)) rfl rfl (by decide); obtain ⟨x2, q8⟩ := p8 (hn 8 (by decide))
      rw [q8] at e73
      clear HZ
      refine yields_ (N := some 13) (x := .int .i64 x2) rfl rfl ?_ (hK.out _ _ ⟨p0, p1, p2, p3, p4, p5, p6, p7, p8, p9, fun _ => ⟨x2, rfl⟩, p11, S⟩)
      clear hK hn hc p0 p1 p2 p3 p4 p5 p6 p7 p8 p9 p10 p11; (try simp only [Array.getD_eq_getD_getElem?] at *); go_simp; try with_reducible rfl
     ·rintro l v W zb HZ hsz ⟨p0, p1, p2, p3, p4, p5, p6, p7, p8, p9, p10, p11, S⟩ hi hn hc K hK
      have e74 := at0 HZ hsz (hn 9 (by decide)) rfl rfl (by decide); obtain ⟨x3, q9⟩ := p9 (hn 9 (by decide))
      rw [q9] at e74
      clear HZ
      refine yields_ (N := some 14) (x := .int .i64 x3) rfl rfl ?_ (hK.out _ _ ⟨p0, p1, p2, p3, p4, p5, p6, p7, p8, p9, p10, fun _ => ⟨x3, rfl⟩, S⟩)
      clear hK hn hc p0 p1 p2 p3 p4 p5 p6 p7 p8 p9 p10 p11; (try simp only [Array.getD_eq_getD_getElem?] at *); go_simp; try with_reducible rfl
     obtain ⟨-, -, -, -, -, -, p6, p7, p8, p9, p10, p11, S⟩ := hJ; obtain ⟨x16, qa⟩ := p10 rfl; obtain ⟨z16, qz⟩ := p11 rfl; obtain ⟨s16, n16, b1, b2, h1⟩ := (show ∃ (s1 : Int) (n1_ : Nat), s1 ≤ max s13 (3002 + 2 * ((k1 : Int) + 1)) ∧ n1_ ≤ max n13 (12001 + 5 * (k1 + 1)) ∧ MkP base w0 (fB base g8 #[.int .i64 nd.f0, .slice A1 nd.f1.length c1, .slice (some ad2) nd.f2.length c2, .int .i64 nd.f3, .int .i64 nd.f4] 230 :: fB base g4 #[.slice (some ad) ns.length cn] 214 :: L) g vf W s1 lo n1_ from S); have h := Aside0.mk h1; have HB16 := Aside0.mk (And.intro b1 b2); clear S h1 b1 b2 p6 p7 p8 p9 p10 p11
     simp only [putIf, ↓reduceIte, Act.put, List.setIfInBounds_toArray, List.set_cons_succ, List.set_cons_zero, qa, qz]
     go_wp2_with fail
     refine (h.out.edge0 _ _ (by have := HKM0.out; have := HKM1.out; have := HB13.out; have := HM.out; have := HLEN.out; have := HS3.out; have := HB16.out; omega)).mono ?_
     rintro e w_ ⟨rfl, h1⟩
     replace h := Aside0.mk (h1.low (Nat.le_succ lo)); clear h1; have HX := h
     go_wp2
     go_ret2
     exact ⟨_, _, _, _, rfl, by have := HKM0.out; have := HKM1.out; have := HB13.out; have := HM.out; have := HLEN.out; have := HS3.out; have := HB16.out; omega, by have := HKM0.out; have := HKM1.out; have := HB13.out; have := HM.out; have := HLEN.out; have := HS3.out; have := HB16.out; omega, HX.out.drop.drop⟩
    ·by_cases c4 : nd.f0 = 4
     ·have hc3 := beq_eq_false_iff_ne.2 c3
      have hc4 := beq_iff_eq.2 c4; have HC34 := Aside0.mk (show nd.f0 = 3 ∨ nd.f0 = 4 from .inr c4); clear c3 c4; obtain ⟨k1, hk1⟩ : ∃ k : Nat, rd nd.f2 1 = (k : Int) := ⟨(rd nd.f2 1).toNat, by have := HO.out; have := HC34.out; omega⟩; have HK1 := Aside0.mk hk1
      have hkm : k1 < m := by have := HO.out; have := HC34.out; omega
      have HKM1 := Aside0.mk hkm; clear hk1 hkm
      go_wp2_with fail
      clear z0
      refine mask_ (n := 12) (fun l v W => (l 0 = true → v 0 = .pointer (some ⟨g, 0, none⟩)) ∧ (l 1 = true → v 1 = .agg #[.slice (some ad) ns.length cn]) ∧ (l 2 = true → v 2 = .pointer (some ⟨g8, 2, none⟩)) ∧ (l 3 = true → v 3 = .slice (some ad2) nd.f2.length c2) ∧ (l 4 = true → v 4 = .pointer (some (ad2.add 1))) ∧ (l 5 = true → v 5 = .int .i64 (k1 : Int)) ∧ (l 6 = true → ∃ x z : Int, v 6 = .tuple #[.int .i64 x, .int .i64 z]) ∧ (l 7 = true → ∃ x z : Int, v 7 = .tuple #[.int .i64 x, .int .i64 z]) ∧ (l 8 = true → ∃ x : Int, v 8 = .int .i64 x) ∧ (l 9 = true → ∃ x : Int, v 9 = .int .i64 x) ∧ (l 10 = true → ∃ x : Int, v 10 = .int .i64 x) ∧ (l 11 = true → ∃ x : Int, v 11 = .int .i64 x) ∧ (bif l 6 then (∃ (s1 : Int) (n1_ : Nat), s1 ≤ max s13 (3002 + 2 * ((k1 : Int) + 1)) ∧ n1_ ≤ max n13 (12001 + 5 * (k1 + 1)) ∧ MkP base w0 (fB base g8 #[.int .i64 nd.f0, .slice A1 nd.f1.length c1, .slice (some ad2) nd.f2.length c2, .int .i64 nd.f3, .int .i64 nd.f4] 230 :: fB base g4 #[.slice (some ad) ns.length cn] 214 :: L) g vf W s1 lo n1_) else (MkP base w0 (fB base g8 #[.int .i64 nd.f0, .slice A1 nd.f1.length c1, .slice (some ad2) nd.f2.length c2, .int .i64 nd.f3, .int .i64 nd.f4] 230 :: fB base g4 #[.slice (some ad) ns.length cn] 214 :: L) g vf W s13 lo n13))) [[], [], [], [2], [3], [4], [0, 1, 5], [6], [7], [7], [8, 6, 0, 1, 2, 3, 4, 5, 6, 7, 8], [9, 10, 0, 1, 2, 3, 4, 5, 6, 7, 8, 9, 10]] [some 84, some 85, some 86, some 87, some 88, some 89, some 90, some 83, some 91, some 92, some 15, some 16] 123 (by kernel_rfl) spec_l6Maker_part.need20 spec_l6Maker_part.dst20 (by decide) rfl ⟨fun h => absurd h (by decide), fun h => absurd h (by decide), fun h => absurd h (by decide), fun h => absurd h (by decide), fun h => absurd h (by decide), fun h => absurd h (by decide), fun h => absurd h (by decide), fun h => absurd h (by decide), fun h => absurd h (by decide), fun h => absurd h (by decide), fun h => absurd h (by decide), fun h => absurd h (by decide), ?_⟩ ⟨?_, ?_, ?_, ?_, ?_, ?_, ?_, ?_, ?_, ?_, ?_, ?_, trivial⟩ (fun v W hJ => ?_)
      ·exact h.out.drew
      ·rintro l v W zb HZ hsz ⟨p0, p1, p2, p3, p4, p5, p6, p7, p8, p9, p10, p11, S⟩ hi hn hc K hK
       have e0 := oth_ (N := 0) (x := .pointer (some ⟨g, 0, none⟩)) HZ rfl rfl
       refine yields_ (N := some 84) (x := .pointer (some ⟨g, 0, none⟩)) rfl rfl ?_ (hK.out _ _ ⟨fun _ => rfl, p1, p2, p3, p4, p5, p6, p7, p8, p9, p10, p11, S⟩)
       clear hK HZ hn hc p0 p1 p2 p3 p4 p5 p6 p7 p8 p9 p10 p11; (try simp only [Array.getD_eq_getD_getElem?] at *); go_simp; try with_reducible rfl
      ·rintro l v W zb HZ hsz ⟨p0, p1, p2, p3, p4, p5, p6, p7, p8, p9, p10, p11, S⟩ hi hn hc K hK
       have e4 := oth_ (N := 4) (x := .pointer (some ⟨g4, 0, none⟩)) HZ rfl rfl; have S0 := S
       rw [show l 6 = false from hc 6 1 (by decide) hi] at S
       simp only [cond_true, cond_false] at S
       have z := S.cell 1 0 rfl rfl
       refine yields_ (N := some 85) (x := .agg #[.slice (some ad) ns.length cn]) rfl rfl ?_ (hK.out _ _ ⟨p0, fun _ => rfl, p2, p3, p4, p5, p6, p7, p8, p9, p10, p11, S0⟩)
       clear hK HZ hn hc p0 p1 p2 p3 p4 p5 p6 p7 p8 p9 p10 p11; (try simp only [Array.getD_eq_getD_getElem?] at *); go_simp; try with_reducible rfl
      ·rintro l v W zb HZ hsz ⟨p0, p1, p2, p3, p4, p5, p6, p7, p8, p9, p10, p11, S⟩ hi hn hc K hK
       have e8 := oth_ (N := 8) (x := .pointer (some ⟨g8, 0, none⟩)) HZ rfl rfl
       refine yields_ (N := some 86) (x := .pointer (some ⟨g8, 2, none⟩)) rfl rfl ?_ (hK.out _ _ ⟨p0, p1, fun _ => rfl, p3, p4, p5, p6, p7, p8, p9, p10, p11, S⟩)
       clear hK HZ hn hc p0 p1 p2 p3 p4 p5 p6 p7 p8 p9 p10 p11; (try simp only [Array.getD_eq_getD_getElem?] at *); go_simp; try with_reducible rfl
      ·rintro l v W zb HZ hsz ⟨p0, p1, p2, p3, p4, p5, p6, p7, p8, p9, p10, p11, S⟩ hi hn hc K hK
       have e86 := at1 HZ hsz (hn 2 (by decide)) p2 rfl rfl (by decide); have S0 := S
       rw [show l 6 = false from hc 6 5 (by decide) (hc 5 4 (by decide) (hc 4 3 (by decide) hi))] at S
       simp only [cond_true, cond_false] at S
       have z := S.cell 0 2 rfl rfl
       refine yields_ (N := some 87) (x := .slice (some ad2) nd.f2.length c2) rfl rfl ?_ (hK.out _ _ ⟨p0, p1, p2, fun _ => rfl, p4, p5, p6, p7, p8, p9, p10, p11, S0⟩)
       clear hK HZ hn hc p0 p1 p2 p3 p4 p5 p6 p7 p8 p9 p10 p11; (try simp only [Array.getD_eq_getD_getElem?] at *); go_simp; try with_reducible rfl
      ·rintro l v W zb HZ hsz ⟨p0, p1, p2, p3, p4, p5, p6, p7, p8, p9, p10, p11, S⟩ hi hn hc K hK
       have e87 := at1 HZ hsz (hn 3 (by decide)) p3 rfl rfl (by decide); have S0 := S
       rw [show l 6 = false from hc 6 5 (by decide) (hc 5 4 (by decide) hi)] at S
       simp only [cond_true, cond_false] at S
       have hb1 := eq_true (show (1 : Int) < (nd.f2.length : Int) by have := HO.out; have := HC34.out; omega)
       refine yields_ (N := some 88) (x := .pointer (some (ad2.add 1))) rfl rfl ?_ (hK.out _ _ ⟨p0, p1, p2, p3, fun _ => rfl, p5, p6, p7, p8, p9, p10, p11, S0⟩)
       clear hK HZ hn hc p0 p1 p2 p3 p4 p5 p6 p7 p8 p9 p10 p11; (try simp only [Array.getD_eq_getD_getElem?] at *); go_simp; try with_reducible rfl
      ·rintro l v W zb HZ hsz ⟨p0, p1, p2, p3, p4, p5, p6, p7, p8, p9, p10, p11, S⟩ hi hn hc K hK
       have e88 := at1 HZ hsz (hn 4 (by decide)) p4 rfl rfl (by decide); have S0 := S
       rw [show l 6 = false from hc 6 5 (by decide) hi] at S
       simp only [cond_true, cond_false] at S
       obtain ⟨ad', ek, hx⟩ := Kd.at_int (HW.out _ S.hp.tail.tail).2.2.2.2.2.2 1 (by omega) (by have := HO.out; have := HC34.out; omega); cases ek
       rw [HK1.out] at hx
       replace hx : W.cell? ⟨ad2.block, ad2.off + 1, none⟩ = some (.int .i64 (k1 : Int)) := hx
       refine yields_ (N := some 89) (x := .int .i64 (k1 : Int)) rfl rfl ?_ (hK.out _ _ ⟨p0, p1, p2, p3, p4, fun _ => rfl, p6, p7, p8, p9, p10, p11, S0⟩)
       clear hK HZ hn hc p0 p1 p2 p3 p4 p5 p6 p7 p8 p9 p10 p11; (try simp only [Array.getD_eq_getD_getElem?] at *); go_simp; try with_reducible rfl
      ·rintro l v W zb HZ hsz ⟨p0, p1, p2, p3, p4, p5, p6, p7, p8, p9, p10, p11, S⟩ hi hn hc K hK
       have e84 := at1 HZ hsz (hn 0 (by decide)) p0 rfl rfl (by decide); have e85 := at1 HZ hsz (hn 1 (by decide)) p1 rfl rfl (by decide); have e89 := at1 HZ hsz (hn 5 (by decide)) p5 rfl rfl (by decide); clear HZ
       rw [hi] at S
       simp only [cond_true, cond_false] at S
       refine goes_ Try.func175 (by kernel_rfl) rfl #[.pointer (some ⟨g, 0, none⟩), .agg #[.slice (some ad) ns.length cn], .int .i64 (k1 : Int)] rfl rfl rfl (by simp only [List.map_toArray, List.map_cons, List.map_nil]; show #[zb.tmps.getD 84 undef, zb.tmps.getD 85 undef, zb.tmps.getD 89 undef] = _; simp only [e84, e85, e89]) ?_
       refine (IH.out k1 HKM1.out (by have := HKM1.out; have := HM.out; omega) (HN.out.more [_, _]) S (by have := HS3.out; have := HB13.out; have := HKM0.out; have := HM.out; have := HLEN.out; omega) (by have := HB13.out; have := HKM0.out; have := HM.out; have := HLEN.out; omega)).mono ?_
       rintro e w' ⟨x, z, s1, n1_, rfl, b1, b2, h1⟩
       exact ⟨_, rfl, hK.out _ _ ⟨p0, p1, p2, p3, p4, p5, fun _ => ⟨x, z, rfl⟩, p7, p8, p9, p10, p11, ⟨s1, n1_, b1, b2, h1⟩⟩⟩
      ·rintro l v W zb HZ hsz ⟨p0, p1, p2, p3, p4, p5, p6, p7, p8, p9, p10, p11, S⟩ hi hn hc K hK
       have e90 := at0 HZ hsz (hn 6 (by decide)) rfl rfl (by decide); obtain ⟨x0, z0, q6⟩ := p6 (hn 6 (by decide))
       rw [q6] at e90
       clear HZ
       refine yields_ (N := some 83) (x := .tuple #[.int .i64 x0, .int .i64 z0]) rfl rfl ?_ (hK.out _ _ ⟨p0, p1, p2, p3, p4, p5, p6, fun _ => ⟨x0, z0, rfl⟩, p8, p9, p10, p11, S⟩)
       clear hK hn hc p0 p1 p2 p3 p4 p5 p6 p7 p8 p9 p10 p11; (try simp only [Array.getD_eq_getD_getElem?] at *); go_simp; try with_reducible rfl
      ·rintro l v W zb HZ hsz ⟨p0, p1, p2, p3, p4, p5, p6, p7, p8, p9, p10, p11, S⟩ hi hn hc K hK
       have e83 := at0 HZ hsz (hn 7 (by decide)) rfl rfl (by decide); obtain ⟨x1, z1, q7⟩ := p7 (hn 7 (by decide))
       rw [q7] at e83
       clear HZ
       refine yields_ (N := some 91) (x := .int .i64 x1) rfl rfl ?_ (hK.out _ _ ⟨p0, p1, p2, p3, p4, p5, p6, p7, fun _ => ⟨x1, rfl⟩, p9, p10, p11, S⟩)
       clear hK hn hc p0 p1 p2 p3 p4 p5 p6 p7 p8 p9 p10 p11; (try simp only [Array.getD_eq_getD_getElem?] at *); go_simp; try with_reducible rfl
      ·rintro l v W zb HZ hsz ⟨p0, p1, p2, p3, p4, p5, p6, p7, p8, p9, p10, p11, S⟩ hi hn hc K hK
       have e83 := at0 HZ hsz (hn 7 (by decide)) rfl rfl (by decide); obtain ⟨x1, z1, q7⟩ := p7 (hn 7 (by decide))
       rw [q7] at e83
       clear HZ
       refine yields_ (N := some 92) (x := .int .i64 z1) rfl rfl ?_ (hK.out _ _ ⟨p0, p1, p2, p3, p4, p5, p6, p7, p8, fun _ => ⟨z1, rfl⟩, p10, p11, S⟩)
       clear hK hn hc p0 p1 p2 p3 p4 p5 p6 p7 p8 p9 p10 p11; (try simp only [Array.getD_eq_getD_getElem?] at *); go_simp; try with_reducible rfl
      ·rintro l v W zb HZ hsz ⟨p0, p1, p2, p3, p4, p5, p6, p7, p8, p9, p10, p11, S⟩ hi hn hc K hK
       have e91 := at0 HZ hsz (hn 8 (by decide)) rfl rfl (by decide); obtain ⟨x2, q8⟩ := p8 (hn 8 (by decide))
       rw [q8] at e91
       clear HZ
       refine yields_ (N := some 15) (x := .int .i64 x2) rfl rfl ?_ (hK.out _ _ ⟨p0, p1, p2, p3, p4, p5, p6, p7, p8, p9, fun _ => ⟨x2, rfl⟩, p11, S⟩)
       clear hK hn hc p0 p1 p2 p3 p4 p5 p6 p7 p8 p9 p10 p11; (try simp only [Array.getD_eq_getD_getElem?] at *); go_simp; try with_reducible rfl
      ·rintro l v W zb HZ hsz ⟨p0, p1, p2, p3, p4, p5, p6, p7, p8, p9, p10, p11, S⟩ hi hn hc K hK
       have e92 := at0 HZ hsz (hn 9 (by decide)) rfl rfl (by decide); obtain ⟨x3, q9⟩ := p9 (hn 9 (by decide))
       rw [q9] at e92
       clear HZ
       refine yields_ (N := some 16) (x := .int .i64 x3) rfl rfl ?_ (hK.out _ _ ⟨p0, p1, p2, p3, p4, p5, p6, p7, p8, p9, p10, fun _ => ⟨x3, rfl⟩, S⟩)
       clear hK hn hc p0 p1 p2 p3 p4 p5 p6 p7 p8 p9 p10 p11; (try simp only [Array.getD_eq_getD_getElem?] at *); go_simp; try with_reducible rfl
      obtain ⟨-, -, -, -, -, -, p6, p7, p8, p9, p10, p11, S⟩ := hJ; obtain ⟨x20, qa⟩ := p10 rfl; obtain ⟨z20, qz⟩ := p11 rfl; obtain ⟨s20, n20, b1, b2, h1⟩ := (show ∃ (s1 : Int) (n1_ : Nat), s1 ≤ max s13 (3002 + 2 * ((k1 : Int) + 1)) ∧ n1_ ≤ max n13 (12001 + 5 * (k1 + 1)) ∧ MkP base w0 (fB base g8 #[.int .i64 nd.f0, .slice A1 nd.f1.length c1, .slice (some ad2) nd.f2.length c2, .int .i64 nd.f3, .int .i64 nd.f4] 230 :: fB base g4 #[.slice (some ad) ns.length cn] 214 :: L) g vf W s1 lo n1_ from S); have h := Aside0.mk h1; have HB20 := Aside0.mk (And.intro b1 b2); clear S h1 b1 b2 p6 p7 p8 p9 p10 p11
      simp only [putIf, ↓reduceIte, Act.put, List.setIfInBounds_toArray, List.set_cons_succ, List.set_cons_zero, qa, qz]
      go_wp2_with fail
      refine (h.out.state (by have := HKM0.out; have := HKM1.out; have := HB13.out; have := HM.out; have := HLEN.out; have := HS3.out; have := HB20.out; omega)).mono ?_
      rintro e w_ ⟨rfl, h1⟩
      replace h := Aside0.mk h1; clear h1
      go_wp2_with fail
      refine (h.out.state (by have := HKM0.out; have := HKM1.out; have := HB13.out; have := HM.out; have := HLEN.out; have := HS3.out; have := HB20.out; omega)).mono ?_
      rintro e w_ ⟨rfl, h1⟩
      replace h := Aside0.mk h1; clear h1
      go_wp2_with fail
      refine (h.out.edge0 _ _ (by have := HKM0.out; have := HKM1.out; have := HB13.out; have := HM.out; have := HLEN.out; have := HS3.out; have := HB20.out; omega)).mono ?_
      rintro e w_ ⟨rfl, h1⟩
      replace h := Aside0.mk (h1.low (Nat.le_succ lo)); clear h1
      go_wp2_with fail
      refine (h.out.edge0 _ _ (by have := HKM0.out; have := HKM1.out; have := HB13.out; have := HM.out; have := HLEN.out; have := HS3.out; have := HB20.out; omega)).mono ?_
      rintro e w_ ⟨rfl, h1⟩
      replace h := Aside0.mk (h1.low (Nat.le_succ lo)); clear h1
      go_wp2_with fail
      refine (h.out.edge0 _ _ (by have := HKM0.out; have := HKM1.out; have := HB13.out; have := HM.out; have := HLEN.out; have := HS3.out; have := HB20.out; omega)).mono ?_
      rintro e w_ ⟨rfl, h1⟩
      replace h := Aside0.mk (h1.low (Nat.le_succ lo)); clear h1
      go_wp2_with fail
      refine (h.out.edge0 _ _ (by have := HKM0.out; have := HKM1.out; have := HB13.out; have := HM.out; have := HLEN.out; have := HS3.out; have := HB20.out; omega)).mono ?_
      rintro e w_ ⟨rfl, h1⟩
      replace h := Aside0.mk (h1.low (Nat.le_succ lo)); clear h1; have HX := h
      go_wp2
      go_ret2
      exact ⟨_, _, _, _, rfl, by have := HKM0.out; have := HKM1.out; have := HB13.out; have := HM.out; have := HLEN.out; have := HS3.out; have := HB20.out; omega, by have := HKM0.out; have := HKM1.out; have := HB13.out; have := HM.out; have := HLEN.out; have := HS3.out; have := HB20.out; omega, HX.out.drop.drop⟩
     ·have hc3 := beq_eq_false_iff_ne.2 c3
      have hc4 := beq_eq_false_iff_ne.2 c4; clear c3 c4
      go_wp2_with fail
      refine (h.out.loop nd.f0 _ _ (by have := HKM0.out; have := HB13.out; have := HM.out; have := HLEN.out; have := HS3.out; omega) (by have := HKM0.out; have := HB13.out; have := HM.out; have := HLEN.out; have := HS3.out; omega)).mono ?_
      rintro e w_ ⟨xb, zb, rfl, h1⟩
      replace h := Aside0.mk h1; clear h1 z0; have HX := h
      go_wp2
      go_ret2
      exact ⟨_, _, _, _, rfl, by have := HKM0.out; have := HB13.out; have := HM.out; have := HLEN.out; have := HS3.out; omega, by have := HKM0.out; have := HB13.out; have := HM.out; have := HLEN.out; have := HS3.out; omega, HX.out.drop.drop⟩
end

end Go.Proofs.Ytfajfjgkkgigoaa.PFnDead
