-- Written by this session's own program (wip/pr.py) over the kit's printer; contracts that the printer does not know are given by hand.
import Derived.Test.YtfajfjgkkgigoaaPFnDeadx0
import Derived.Test.YtfajfjgkkgigoaaPFnDeadx2
import Derived.Test.YtfajfjgkkgigoaaPFnDeadx12
import Derived.Test.YtfajfjgkkgigoaaPFnDeadx13
namespace Go.Proofs.Ytfajfjgkkgigoaa.PFnDead
open Go.RowKit Go.Proofs.YtfajfjgkkgigoaaW.PrintWords Go.Proofs.YtfajfjgkkgigoaaW.PrintLast Go.Proofs.YtfajfjgkkgigoaaW.PrintMore
attribute [local go_sem] max2_int min2_int max_two min_two max_three min_three max_four min_four   -- for this text's walks alone
set_option linter.unusedVariables false
set_option linter.unusedSimpArgs false

/-! ### spec_BuildNfa: function 140 -/
section
open Go.Proofs.Ytfajfjgkkgigoaa.Kit
def edgeOk (n : Int) (e : S85) : Prop := (0 ≤ e.f0 ∧ e.f0 ≤ n - 1) ∧ (0 ≤ e.f1 ∧ e.f1 ≤ n - 1) ∧ classOk (e.f2.map toP)
def endOk (n : Int) (i : Nat) (e : S156) : Prop := (0 ≤ e.f0 ∧ e.f0 ≤ n - 1) ∧ e.f1 = i
def edgeP (n : Int) (l : List S85) (i : Nat) : Prop := edgeOk n (rd_T85 l i)
def endP (n : Int) (l : List S156) (i : Nat) : Prop := endOk n i (rd_T156 l i)
def nfaOk (n : Int) (es : List S85) (fs : List S156) : Prop := (1 ≤ n ∧ n ≤ 3000) ∧ (es.length ≤ 12000 ∧ fs.length ≤ 40) ∧ fromN (edgeP n es) es.length 0 ∧ fromN (endP n fs) fs.length 0

theorem edge_len {es : List S85} (g : ∀ y ∈ es, y.f2.length ≤ 1048576) (i : Nat) : (rd_T85 es i).f2.length ≤ 1048576 := by
 unfold rd_T85
 rw [Int.toNat_natCast, List.getD_eq_getElem?_getD]
 rcases Nat.lt_or_ge i es.length with h | h
 ·rw [List.getElem?_eq_getElem h]
  exact g _ (List.getElem_mem h)
 ·rw [List.getElem?_eq_none h]
  simp [z85]

open Classical in
theorem sNfa_l1 (n : Int) (hn : 1 ≤ n ∧ n ≤ 3000) (es : List S85) (fs : List S156) (hf : fs.length ≤ 40) (d : Nat) : ∀ (k i : Nat), d < k → fs.length - i = d → i ≤ fs.length →
  spec_NfaOk.l1 k (i : Int) n es fs = some (decide (fromN (endP n fs) fs.length i ∧ True)) := by
 induction d with
 | zero =>
  intro k i hk hd hi; obtain ⟨k, rfl⟩ : ∃ m, k = m + 1 := ⟨k - 1, by omega⟩
  simp only [spec_NfaOk.l1]
  rw [if_neg (by omega), decide_eq_true ⟨fromN_end (by omega), trivial⟩]
 | succ d ih =>
  intro k i hk hd hi; obtain ⟨k, rfl⟩ : ∃ m, k = m + 1 := ⟨k - 1, by omega⟩
  have hlt : i < fs.length := by omega
  simp only [spec_NfaOk.l1, sIn, Option.bind_some, decide_eq_true_eq]
  rw [if_pos (by omega), if_pos (by omega), w64 (x := n - 1) (by omega) (by omega), nat_next (by omega)]
  by_cases h1 : (rd_T156 fs i).f1 = (i : Int)
  ·rw [if_pos h1]
   by_cases h2 : 0 ≤ (rd_T156 fs i).f0 ∧ (rd_T156 fs i).f0 ≤ n - 1
   ·rw [if_pos h2, ih k (i + 1) (by omega) (by omega) (by omega)]; exact congrArg some (decide_eq_decide.2 (fromN_go hlt ⟨h2, h1⟩))
   ·rw [if_neg h2, decide_eq_false (fromN_no hlt (fun g => h2 g.1))]
  ·rw [if_neg h1, decide_eq_false (fromN_no hlt (fun g => h1 g.2))]
open Classical in
theorem sNfa_l0 (n : Int) (hn : 1 ≤ n ∧ n ≤ 3000) (es : List S85) (fs : List S156) (he : es.length ≤ 12000) (g : ∀ y ∈ es, y.f2.length ≤ 1048576) (hf : fs.length ≤ 40) (d : Nat) : ∀ (k i : Nat), d + 1048578 < k → es.length - i = d → i ≤ es.length →
  spec_NfaOk.l0 k (i : Int) n es fs = some (decide (fromN (edgeP n es) es.length i ∧ fromN (endP n fs) fs.length 0)) := by
 induction d with
 | zero =>
  intro k i hk hd hi; obtain ⟨k, rfl⟩ : ∃ m, k = m + 1 := ⟨k - 1, by omega⟩
  simp only [spec_NfaOk.l0]
  rw [if_neg (by omega)]
  have e : spec_NfaOk.l1 k 0 n es fs = some (decide (fromN (endP n fs) fs.length 0 ∧ True)) := sNfa_l1 n hn es fs hf fs.length k 0 (by omega) (by omega) (by omega)
  rw [e]
  congr 1
  exact decide_eq_decide.2 ⟨fun h => ⟨fromN_end (by omega), h.1⟩, fun h => ⟨h.2, trivial⟩⟩
 | succ d ih =>
  intro k i hk hd hi; obtain ⟨k, rfl⟩ : ∃ m, k = m + 1 := ⟨k - 1, by omega⟩
  have hlt : i < es.length := by omega
  have hL := edge_len g i
  simp only [spec_NfaOk.l0, sIn, Option.bind_some, decide_eq_true_eq]
  rw [if_pos (by omega), if_pos (by omega), w64 (x := n - 1) (by omega) (by omega), nat_next (by omega)]
  by_cases h1 : 0 ≤ (rd_T85 es i).f0 ∧ (rd_T85 es i).f0 ≤ n - 1
  ·rw [if_pos h1]
   by_cases h2 : 0 ≤ (rd_T85 es i).f1 ∧ (rd_T85 es i).f1 ≤ n - 1
   ·rw [if_pos h2, sClassOk _ hL k (by omega)]
    simp only [Option.bind_some, decide_eq_true_eq]
    by_cases h3 : classOk ((rd_T85 es i).f2.map toP)
    ·rw [if_pos h3, ih k (i + 1) (by omega) (by omega) (by omega)]; exact congrArg some (decide_eq_decide.2 (fromN_go hlt ⟨h1, h2, h3⟩))
    ·rw [if_neg h3, decide_eq_false (fromN_no hlt (fun g => h3 g.2.2))]
   ·rw [if_neg h2, decide_eq_false (fromN_no hlt (fun g => h2 g.2.1))]
  ·rw [if_neg h1, decide_eq_false (fromN_no hlt (fun g => h1 g.1))]
open Classical in
theorem sNfaOk (n : Int) (es : List S85) (fs : List S156) (g : ∀ y ∈ es, y.f2.length ≤ 1048576) (k : Nat) (hk : 2097156 ≤ k) : spec_NfaOk.f k n es fs = some (decide (nfaOk n es fs)) := by
 obtain ⟨k, rfl⟩ : ∃ m, k = m + 1 := ⟨k - 1, by omega⟩
 unfold spec_NfaOk.f
 simp only [sIn, Option.bind_some, decide_eq_true_eq]
 by_cases h1 : 1 ≤ n ∧ n ≤ 3000
 ·rw [if_pos h1]
  by_cases h2 : (es.length : Int) > 12000
  ·rw [if_pos h2, decide_eq_false (fun g => by have := g.2.1.1; omega)]
   simp [spec_NfaOk.j0]
  ·rw [if_neg h2]
   by_cases h3 : (fs.length : Int) > 40
   ·rw [decide_eq_true h3, decide_eq_false (fun g => by have := g.2.1.2; omega)]
    simp [spec_NfaOk.j0]
   ·rw [decide_eq_false h3]
    simp only [spec_NfaOk.j0]
    rw [if_neg (by simp)]
    have e : spec_NfaOk.l0 k 0 n es fs = some (decide (fromN (edgeP n es) es.length 0 ∧ fromN (endP n fs) fs.length 0)) := sNfa_l0 n h1 es fs (by omega) g (by omega) es.length k 0 (by omega) (by omega) (by omega)
    rw [e]
    congr 1
    exact decide_eq_decide.2 ⟨fun h => ⟨h1, by omega, h⟩, fun h => h.2.2⟩
 ·rw [if_neg h1, decide_eq_false (fun g => h1 g.1)]
  simp [spec_NfaOk.j0]
/-- what the networks' maker tells -/
def BNPost (base : Nat) (w0 : World) (L : List Fact) (e : Ending) (w' : World) : Prop := ∃ (s : Int) (ve : Value) (es : List S85) (vf : Value) (fs : List S156) (ok : Bool), e = .returned (.tuple #[.agg #[.int .i64 s, ve, vf], .bool ok]) ∧ (ok = true → 1 ≤ s ∧ s ≤ 3000 ∧ 1 ≤ es.length ∧ 1 ≤ fs.length) ∧ es.length ≤ 20000 ∧ fs.length ≤ 40 ∧ (∀ e ∈ es, e.f2.length ≤ 128) ∧ Hp base w0 w' (fR k85 85 base ve es :: fR k156 156 base vf fs :: L)
open Classical in
theorem nfaTot (n : Int) (es : List S85) (fs : List S156) (g : ∀ y ∈ es, y.f2.length ≤ 1048576) : ∃ b : Bool, spec_NfaOk.f 2097156 n es fs = some b ∧ (b = true → 1 ≤ n ∧ n ≤ 3000) :=
 ⟨_, sNfaOk n es fs g 2097156 (Nat.le_refl _), fun h => (of_decide_eq_true h).1⟩
theorem cell_same {W W0 : World} {p : Addr} (h : W.heap[p.block]? = W0.heap[p.block]?) : W.cell? p = W0.cell? p := by
 unfold World.cell?
 simp only [h]
/-- the nodes of a row that the bundle has, told for good: the row's cells are noted -/
theorem nodes_open {base : Nat} {w0 W : World} {L : List Fact} (S : Hp base w0 W L) (i : Nat) {F : Fact} (hi : L[i]? = some F) {v : Value} {ns : List S230} (hF : ∀ W ok, F.P W ok → Kd.R k230 230 W base ok v ns) :
  ∃ A c F', v = .slice A ns.length c ∧ ns.length ≤ c ∧ Hp base w0 W (L.set i F') ∧ (∀ W ok, F'.P W ok → F.P W ok) ∧ ∀ (M : List Fact) (k : Nat), M[k]? = some F' → NodesAt base w0 M A ns := by
 obtain ⟨ok, h1, h2, h3⟩ := S.open_ i hi
 obtain ⟨A, c, rfl, hl, hr⟩ := Kd.R_reads (hF W ok h1)
 by_cases hp : 0 < ns.length
 ·obtain ⟨g, cap, e, hb, _, cells, hc⟩ := Kd.R_form (hF W ok h1) hp
  injection e with e1 e2 e3
  subst e1; subst e3
  have hok : ∀ W' ok', F.P W' ok' → ok' g := fun W' ok' q => (hF W' ok' q).1 g rfl
  refine ⟨_, _, fAnd F (fB base g cells 230), rfl, hl, S.imp i hi (fun ok' q => ⟨q, hok W ok' q, hb, ?_⟩), fun _ _ q => q.1, fun M k hk j hj => ?_⟩
  ·exact hc
  ·obtain ⟨ad, A1, c1, A2, c2, ea, x0, x1, x2, x3, x4, l1, g1, l2, g2⟩ := at_T230 hr (j : Int) (by omega) (by omega)
   cases ea
   rw [Int.toNat_natCast] at x0 x1 x2 x3 x4
   have hbl : ∀ n, (Addr.add ⟨g, 0, none⟩ n).block = g := fun n => Kit.add_block _ n
   refine ⟨⟨g, 0, none⟩, A1, c1, A2, c2, rfl, ⟨l1, l2⟩, fun W' hW => ?_⟩
   obtain ⟨ok', q, _, _, q3⟩ := hW.get k hk; have hs : ∀ p : Addr, p.block = g → W'.cell? p = W.cell? p := fun p hp => cell_same (by rw [hp]; exact q3.trans hc.symm); obtain ⟨_, _, hr'⟩ := Kd.R_reads' (hF W' ok' q); obtain ⟨ad, B1, d1, B2, d2, ea, y0, y1, y2, y3, y4, m1, f1, m2, f2⟩ := at_T230 hr' (j : Int) (by omega) (by omega); cases ea
   rw [Int.toNat_natCast] at y0 y1 y2 y3 y4
   have t1 := Option.some.inj (y1.symm.trans ((hs ⟨(Addr.add ⟨g, 0, none⟩ (j * 5)).block, (Addr.add ⟨g, 0, none⟩ (j * 5)).off + 1, none⟩ (hbl _)).trans x1)); have t2 := Option.some.inj (y2.symm.trans ((hs ⟨(Addr.add ⟨g, 0, none⟩ (j * 5)).block, (Addr.add ⟨g, 0, none⟩ (j * 5)).off + 2, none⟩ (hbl _)).trans x2))
   injection t1 with u1 u2 u3
   injection t2 with u4 u5 u6
   subst u1; subst u3; subst u4; subst u6
   exact ⟨y0, y1, y2, y3, y4, f1, f2⟩
 ·refine ⟨A, c, F, rfl, hl, S.imp i hi (fun _ q => q), fun _ _ q => q, fun M k hk j hj => absurd hj (by omega)⟩
/-- an expression of a row of expressions that the bundle has -/
theorem rx_open {base : Nat} {w0 W : World} {L : List Fact} (S : Hp base w0 W L) (i : Nat) {A : Option Addr} {n c : Nat} {xs : List S214} (hi : L[i]? = some (fR k214 214 base (.slice A n c) xs)) (j : Nat) (hj : j < xs.length) :
  ∃ ad An cn F', A = some ad ∧ (rd_T214 xs j).f0.length ≤ cn ∧ Hp base w0 W (L.set i F') ∧ (∀ W ok, F'.P W ok → (fR k214 214 base (.slice A n c) xs).P W ok) ∧ (∀ W ok, F'.P W ok → W.cell? (ad.add j) = some (.slice An (rd_T214 xs j).f0.length cn)) ∧ ∀ (M : List Fact) (k : Nat), M[k]? = some F' → NodesAt base w0 M An (rd_T214 xs j).f0 := by
 obtain ⟨ok, h1, h2, h3⟩ := S.open_ i hi
 obtain ⟨g, cap, e, hb, _, cells, hc⟩ := Kd.R_form h1 (by omega)
 injection e with e1 e2 e3
 subst e1; subst e2; subst e3
 have hel : ∀ W' ok', Kd.R k214 214 W' base ok' (.slice (some ⟨g, 0, none⟩) xs.length c) xs → ∃ v, Kd.R k230 230 W' base ok' v (rd_T214 xs j).f0 ∧ W'.cell? (Addr.add ⟨g, 0, none⟩ j) = some v := fun W' ok' q => by
  obtain ⟨cs, hcl, hM, hcc, _⟩ := Kd.R_elem q z214 (j : Int) (by omega) (by omega); obtain ⟨v, rfl, hv⟩ := k214_openM hM
  refine ⟨v, Kd.R_mono hv (fun _ q => q.1), ?_⟩
  have := hcc 0 v rfl
  rw [Int.toNat_natCast] at this
  have e2 : (Addr.add ⟨g, 0, none⟩ j) = ⟨g, j * (k214).sz + 0, none⟩ := by
   show Addr.add ⟨g, 0, none⟩ j = ⟨g, j * 1 + 0, none⟩
   unfold Addr.add
   split
   ·next h => subst h; rfl
   ·simp
  rw [e2]
  exact this
 obtain ⟨v, hv, hx⟩ := hel W ok h1
 have S1 : Hp base w0 W (L.set i (fAnd (fR k214 214 base (.slice (some ⟨g, 0, none⟩) xs.length c) xs) (fB base g cells 214))) := S.imp i hi (fun ok' q => ⟨q, q.1 g rfl, hb, hc⟩)
 have hli := (List.getElem?_eq_some_iff.1 hi).1
 have hF : ∀ W' ok', (fAnd (fR k214 214 base (.slice (some ⟨g, 0, none⟩) xs.length c) xs) (fB base g cells 214)).P W' ok' → Kd.R k230 230 W' base ok' v (rd_T214 xs j).f0 ∧ W'.cell? (Addr.add ⟨g, 0, none⟩ j) = some v := fun W' ok' q => by
  obtain ⟨v', hv', hx'⟩ := hel W' ok' q.1; have hs : W'.cell? (Addr.add ⟨g, 0, none⟩ j) = W.cell? (Addr.add ⟨g, 0, none⟩ j) := cell_same (by rw [Kit.add_block]; exact q.2.2.2.trans hc.symm); have := Option.some.inj (hx'.symm.trans (hs.trans hx)); subst this
  exact ⟨hv', hx'⟩
 obtain ⟨An, cn, F', rfl, hl, S2, k1, k2⟩ := nodes_open S1 i (List.getElem?_set_self hli) (v := v) (ns := (rd_T214 xs j).f0) (fun W' ok' q => (hF W' ok' q).1)
 refine ⟨⟨g, 0, none⟩, An, cn, F', rfl, hl, ?_, fun W' ok' q => (k1 W' ok' q).1, fun W' ok' q => (hF W' ok' (k1 W' ok' q)).2, k2⟩
 rw [List.set_set] at S2
 exact S2
def RxG (ns : List S230) : Prop := 1 ≤ ns.length ∧ ns.length ≤ 300 ∧ ∀ i : Nat, i < ns.length → NodeOK ns i
def RxGat (xs : List S214) (j : Nat) : Prop := RxG (rd_T214 xs j).f0
theorem rxG_at {xs : List S214} {j : Nat} (h : RxG (rd_T214 xs j).f0) : RxGat xs j := h
theorem rxG_of {xs : List S214} {j : Nat} (h : RxGat xs j) : RxG (rd_T214 xs j).f0 := h
theorem spec_BuildNfa.need13 : (rtab .any (opsOf Try.f140 13)).2.map Prod.fst = [[], [], [], [1, 2], [3], [], [], [5, 6], [7], [8], [9], [10], [0, 4, 11], [12], [13], [13], [14, 12, 0, 1, 2, 3, 4, 5, 6, 7, 8, 9, 10, 11, 12, 13, 14], [15, 16, 0, 1, 2, 3, 4, 5, 6, 7, 8, 9, 10, 11, 12, 13, 14, 15, 16]] := by kernel_rfl
theorem spec_BuildNfa.dst13 : (opsOf Try.f140 13).toList.map Oper.dst = [some 43, some 44, some 45, some 46, some 47, some 48, some 49, some 50, some 51, some 52, some 53, some 54, some 55, some 42, some 56, some 57, some 8, some 9] := by kernel_rfl
set_option maxHeartbeats 4000000 in
set_option maxRecDepth 100000 in
theorem spec_BuildNfa.calls {base : Nat} {w0 w : World} {L : List Fact} (S : Hp base w0 w L) (i0 : Nat) (A : Option Addr) (c : Nat) (xs : List S214) (hi0 : L[i0]? = some (fR k214 214 base (.slice A xs.length c) xs)) (hb : ∀ i : Nat, i < xs.length → RxB (rd_T214 xs i).f0) :
  Calls Try.prog 140 #[.slice A xs.length c] w (BNPost base w0 L) := by
 replace S := Aside0.mk S
 have HB := Aside0.mk hb
 have HI0 := Aside0.mk hi0
 clear hb hi0
 by_cases cl : 1 ≤ xs.length ∧ xs.length ≤ 40
 case neg =>
  rcases (show xs.length < 1 ∨ 40 < xs.length by omega) with q | q
  ·have h1 := eq_true (show (xs.length : Int) < 1 by omega)
   have h2 := eq_true q; have h3 := eq_true (show xs.length = 0 by omega); have h4 := eq_true (List.length_eq_zero_iff.1 (show xs.length = 0 by omega))
   go_enter Try.func140, Try.ntmps140
   go_wp2_with (first | ((with_reducible refine gate_dst (N := 2) rfl ?_); refine ev_box S rfl rfl (cs := #[.int .i64 0, .slice none 0 0, .slice none 0 0]) (t := 36) (by first | (go_simp; done) | (go_simp; rfl)) (fun g2 w_ Gg2 S1 => ?_); clear S; have S := S1; clear S1) | ((with_reducible refine gate_dst (N := 4) rfl ?_); refine ev_box S rfl rfl (cs := #[.int .i64 0, .slice none 0 0, .slice none 0 0]) (t := 36) (by first | (go_simp; done) | (go_simp; rfl)) (fun g4 w_ Gg4 S1 => ?_); clear S; have S := S1; clear S1; have z0 := S.out.cell 0 0 rfl rfl; have z1 := S.out.cell 0 1 rfl rfl; have z2 := S.out.cell 0 2 rfl rfl; have f0 := S.out.frozen 0 0 rfl; have f1 := S.out.frozen 0 1 rfl; have f2 := S.out.frozen 0 2 rfl) | ((with_reducible refine gate_store (t := 36) (p := 4) rfl ?_); refine ev_run (w1 := ((((_ : World)).setCell ⟨g4, 0, none⟩ (.int .i64 0)).setCell ⟨g4, 1, none⟩ (.slice none 0 0)).setCell ⟨g4, 2, none⟩ (.slice none 0 0)) rfl rfl (by first | (go_simp; done) | (go_simp; rfl)) (fun w_ hw => ?_); have S1 := Aside0.mk ((((S.out).put 0 0 (u := .int .i64 0) rfl rfl).put 0 1 (u := .slice none 0 0) rfl rfl).put 0 2 (u := .slice none 0 0) rfl rfl); rw [← hw] at S1; clear hw; clear S; have S := S1; clear S1; (try clear z0 z1 z2 f0 f1 f2); have x0 := S.out.cell 0 0 rfl rfl; have x1 := S.out.cell 0 1 rfl rfl; have x2 := S.out.cell 0 2 rfl rfl; have y0 := S.out.cell 1 0 rfl rfl; have y1 := S.out.cell 1 1 rfl rfl; have y2 := S.out.cell 1 2 rfl rfl; have f0 := S.out.frozen 1 0 rfl; have f1 := S.out.frozen 1 1 rfl; have f2 := S.out.frozen 1 2 rfl))
   replace S := Aside0.mk (show Hp base w0 _ (fB base g4 #[.int .i64 0, .slice none 0 0, .slice none 0 0] 36 :: fB base g2 #[.int .i64 0, .slice none 0 0, .slice none 0 0] 36 :: L) from S.out)
   go_wp2
   have S1 := Aside0.mk ((((S.out).put 1 0 (u := .int .i64 0) rfl rfl).put 1 1 (u := .slice none 0 0) rfl rfl).put 1 2 (u := .slice none 0 0) rfl rfl)
   refine bodyPost_ret (results_ct rfl _ _ g2 36 #[.int .i64 0, .slice none 0 0, .slice none 0 0] (0, 0) _ rfl (S1.out.blk 1 rfl) Try.underlying36 rfl (by kernel_rfl)) rfl ?_
   exact ⟨0, _, [], _, [], false, rfl, fun q => absurd q (by decide), by simp, by simp, fun _ h => absurd h (by simp), (S1.out.tail.tail.none_ k156 156).none_ k85 85⟩
  ·have h1 := eq_false (show ¬ (xs.length : Int) < 1 by omega)
   have h2 := eq_true (show (40 : Int) < (xs.length : Int) by omega); have h3 := eq_true q; have h4 := eq_false (show ¬ xs.length < 1 by omega); have h5 := eq_false (show ¬ xs.length = 0 by omega)
   go_enter Try.func140, Try.ntmps140
   go_wp2_with (first | ((with_reducible refine gate_dst (N := 2) rfl ?_); refine ev_box S rfl rfl (cs := #[.int .i64 0, .slice none 0 0, .slice none 0 0]) (t := 36) (by first | (go_simp; done) | (go_simp; rfl)) (fun g2 w_ Gg2 S1 => ?_); clear S; have S := S1; clear S1) | ((with_reducible refine gate_dst (N := 4) rfl ?_); refine ev_box S rfl rfl (cs := #[.int .i64 0, .slice none 0 0, .slice none 0 0]) (t := 36) (by first | (go_simp; done) | (go_simp; rfl)) (fun g4 w_ Gg4 S1 => ?_); clear S; have S := S1; clear S1; have z0 := S.out.cell 0 0 rfl rfl; have z1 := S.out.cell 0 1 rfl rfl; have z2 := S.out.cell 0 2 rfl rfl; have f0 := S.out.frozen 0 0 rfl; have f1 := S.out.frozen 0 1 rfl; have f2 := S.out.frozen 0 2 rfl) | ((with_reducible refine gate_store (t := 36) (p := 4) rfl ?_); refine ev_run (w1 := ((((_ : World)).setCell ⟨g4, 0, none⟩ (.int .i64 0)).setCell ⟨g4, 1, none⟩ (.slice none 0 0)).setCell ⟨g4, 2, none⟩ (.slice none 0 0)) rfl rfl (by first | (go_simp; done) | (go_simp; rfl)) (fun w_ hw => ?_); have S1 := Aside0.mk ((((S.out).put 0 0 (u := .int .i64 0) rfl rfl).put 0 1 (u := .slice none 0 0) rfl rfl).put 0 2 (u := .slice none 0 0) rfl rfl); rw [← hw] at S1; clear hw; clear S; have S := S1; clear S1; (try clear z0 z1 z2 f0 f1 f2); have x0 := S.out.cell 0 0 rfl rfl; have x1 := S.out.cell 0 1 rfl rfl; have x2 := S.out.cell 0 2 rfl rfl; have y0 := S.out.cell 1 0 rfl rfl; have y1 := S.out.cell 1 1 rfl rfl; have y2 := S.out.cell 1 2 rfl rfl; have f0 := S.out.frozen 1 0 rfl; have f1 := S.out.frozen 1 1 rfl; have f2 := S.out.frozen 1 2 rfl))
   replace S := Aside0.mk (show Hp base w0 _ (fB base g4 #[.int .i64 0, .slice none 0 0, .slice none 0 0] 36 :: fB base g2 #[.int .i64 0, .slice none 0 0, .slice none 0 0] 36 :: L) from S.out)
   go_wp2
   have S1 := Aside0.mk ((((S.out).put 1 0 (u := .int .i64 0) rfl rfl).put 1 1 (u := .slice none 0 0) rfl rfl).put 1 2 (u := .slice none 0 0) rfl rfl)
   refine bodyPost_ret (results_ct rfl _ _ g2 36 #[.int .i64 0, .slice none 0 0, .slice none 0 0] (0, 0) _ rfl (S1.out.blk 1 rfl) Try.underlying36 rfl (by kernel_rfl)) rfl ?_
   exact ⟨0, _, [], _, [], false, rfl, fun q => absurd q (by decide), by simp, by simp, fun _ h => absurd h (by simp), (S1.out.tail.tail.none_ k156 156).none_ k85 85⟩
 have HL := Aside0.mk cl
 have h1 := eq_false (show ¬ (xs.length : Int) < 1 by omega)
 have h2 := eq_false (show ¬ (40 : Int) < (xs.length : Int) by omega)
 have h3 := eq_false (show ¬ 40 < xs.length by omega)
 have h4 := eq_false (show ¬ xs.length < 1 by omega)
 have h5 := eq_false (show ¬ xs = [] from fun q => by rw [q] at cl; simp at cl)
 clear cl
 go_enter Try.func140, Try.ntmps140
 go_wp2_with (first | ((with_reducible refine gate_dst (N := 2) rfl ?_); refine ev_box S rfl rfl (cs := #[.int .i64 0, .slice none 0 0, .slice none 0 0]) (t := 36) (by first | (go_simp; done) | (go_simp; rfl)) (fun g2 w_ Gg2 S1 => ?_); clear S; have S := S1; clear S1) | ((with_reducible refine gate_dst (N := 4) rfl ?_); refine ev_box S rfl rfl (cs := #[.int .i64 0, .slice none 0 0, .slice none 0 0]) (t := 36) (by first | (go_simp; done) | (go_simp; rfl)) (fun g4 w_ Gg4 S1 => ?_); clear S; have S := S1; clear S1; have z0 := S.out.cell 0 0 rfl rfl; have z1 := S.out.cell 0 1 rfl rfl; have z2 := S.out.cell 0 2 rfl rfl; have f0 := S.out.frozen 0 0 rfl; have f1 := S.out.frozen 0 1 rfl; have f2 := S.out.frozen 0 2 rfl) | ((with_reducible refine gate_store (t := 36) (p := 4) rfl ?_); refine ev_run (w1 := ((((_ : World)).setCell ⟨g4, 0, none⟩ (.int .i64 0)).setCell ⟨g4, 1, none⟩ (.slice none 0 0)).setCell ⟨g4, 2, none⟩ (.slice none 0 0)) rfl rfl (by first | (go_simp; done) | (go_simp; rfl)) (fun w_ hw => ?_); have S1 := Aside0.mk ((((S.out).put 0 0 (u := .int .i64 0) rfl rfl).put 0 1 (u := .slice none 0 0) rfl rfl).put 0 2 (u := .slice none 0 0) rfl rfl); rw [← hw] at S1; clear hw; clear S; have S := S1; clear S1; (try clear z0 z1 z2 f0 f1 f2)))
 replace S := Aside0.mk (show Hp base w0 _ (fB base g4 #[.int .i64 0, .slice none 0 0, .slice none 0 0] 36 :: fB base g2 #[.int .i64 0, .slice none 0 0, .slice none 0 0] 36 :: L) from S.out)
 clear h1 h2 h3 h4 h5
 go_wp2_with fail
 go_loopg [5] xs.length (fun gk v5 wr => ∃ i : Nat, v5 = .int .i64 (i : Int) ∧ i + gk = xs.length ∧ Aside0 (∀ j : Nat, j < i → RxGat xs j) ∧ Aside0 (Hp base w0 wr (fB base g4 #[.int .i64 0, .slice none 0 0, .slice none 0 0] 36 :: fB base g2 #[.int .i64 0, .slice none 0 0, .slice none 0 0] 36 :: L)))
 case atStart => exact ⟨0, rfl, by omega, ⟨fun j hj => absurd hj (Nat.not_lt_zero _)⟩, S⟩
 case round =>
  clear S; obtain ⟨i, rfl, hi, HJ, S⟩ := hrel
  by_cases cc : i < xs.length
  case pos =>
   obtain ⟨ad, An, cn, F', eA, hcn, S1, k1, k2, k3⟩ := rx_open S.out (i0 + 2) (show (fB base g4 #[.int .i64 0, .slice none 0 0, .slice none 0 0] 36 :: fB base g2 #[.int .i64 0, .slice none 0 0, .slice none 0 0] 36 :: L)[i0 + 2]? = _ from HI0.out) i cc; cases eA; have hli := (List.getElem?_eq_some_iff.1 HI0.out).1; have hget : (fB base g4 #[.int .i64 0, .slice none 0 0, .slice none 0 0] 36 :: fB base g2 #[.int .i64 0, .slice none 0 0, .slice none 0 0] 36 :: L.set i0 F')[i0 + 2]? = some F' := List.getElem?_set_self hli
   have hx := (fun (q : Hp base w0 wr (fB base g4 #[.int .i64 0, .slice none 0 0, .slice none 0 0] 36 :: fB base g2 #[.int .i64 0, .slice none 0 0, .slice none 0 0] 36 :: L.set i0 F')) => (q.get (i0 + 2) hget).elim (fun ok h => k2 wr ok h)) S1
   have HK1 := Aside0.mk k1; have HK3 := Aside0.mk (k3 _ _ hget); have HBI := Aside0.mk (HB.out i cc); have HOK := Aside0.mk (@rxG_at xs i); generalize (rd_T214 xs (i : Int)).f0 = ns at *; have S2 := Aside0.mk S1; have hm0 := eq_true (show (i : Int) < (xs.length : Int) by omega); have hm1 := eq_true (show (0 : Int) ≤ (i : Int) by omega); have HI := Aside0.mk (And.intro hi cc); have HGET := Aside0.mk hget; clear S S1 k1 k2 k3 hcn hli hget cc hi
   go_wp2_with fail
   refine (spec_RxOk.calls S2.out An cn ns HK3.out HBI.out).mono ?_
   rintro e w_ ⟨b, rfl, hq, S3⟩
   clear hx; replace S := Aside0.mk (show Hp base w0 w_ (fB base g4 #[.int .i64 0, .slice none 0 0, .slice none 0 0] 36 :: fB base g2 #[.int .i64 0, .slice none 0 0, .slice none 0 0] 36 :: L) from Hp.back (k := i0 + 2) (show Hp base w0 w_ ((fB base g4 #[.int .i64 0, .slice none 0 0, .slice none 0 0] 36 :: fB base g2 #[.int .i64 0, .slice none 0 0, .slice none 0 0] 36 :: L).set (i0 + 2) F') from S3) HI0.out HK1.out); clear S2 S3
   cases b with
   | false =>
    clear hq; have x0 := S.out.cell 0 0 rfl rfl; have x1 := S.out.cell 0 1 rfl rfl; have x2 := S.out.cell 0 2 rfl rfl; have y0 := S.out.cell 1 0 rfl rfl; have y1 := S.out.cell 1 1 rfl rfl; have y2 := S.out.cell 1 2 rfl rfl; have f0 := S.out.frozen 1 0 rfl; have f1 := S.out.frozen 1 1 rfl; have f2 := S.out.frozen 1 2 rfl
    go_wp2
    have S1 := Aside0.mk ((((S.out).put 1 0 (u := .int .i64 0) rfl rfl).put 1 1 (u := .slice none 0 0) rfl rfl).put 1 2 (u := .slice none 0 0) rfl rfl)
    refine bodyPost_ret (results_ct rfl _ _ g2 36 #[.int .i64 0, .slice none 0 0, .slice none 0 0] (0, 0) _ rfl (S1.out.blk 1 rfl) Try.underlying36 rfl (by kernel_rfl)) rfl ?_
    exact ⟨0, _, [], _, [], false, rfl, fun q => absurd q (by decide), by simp, by simp, fun _ h => absurd h (by simp), (S1.out.tail.tail.none_ k156 156).none_ k85 85⟩
   | true =>
    have HG := Aside0.mk (hq rfl); clear hq; have HJ2 := Aside0.mk (show ∀ j : Nat, j < i + 1 → RxGat xs j from fun j hj => (Nat.lt_or_eq_of_le (Nat.le_of_lt_succ hj)).elim (HJ.out j) (fun q => q ▸ HOK.out HG.out)); have WN := Aside0.mk (show wrap64 ((i : Int) + 1) = ((i + 1 : Nat) : Int) from nat_next (by have := HL.out; have := HI.out; omega)); clear hm0 hm1
    go_wp2
    go_roundg (xs.length - (i + 1))
    case measure => have := HI.out; omega
    case rel => exact ⟨i + 1, congrArg (Value.int .i64) WN.out, by have := HI.out; omega, HJ2, S⟩
  have hcond := eq_false (show ¬ (i : Int) < (xs.length : Int) by omega); have HALL := Aside0.mk (show ∀ j : Nat, j < xs.length → RxGat xs j from fun j hj => HJ.out j (by omega)); clear cc hi HJ
  go_wp2_with (first | ((with_reducible refine gate_dst (N := 35) rfl ?_); refine ev_box S rfl rfl (cs := #[.int .i64 1, .slice none 0 0, .slice none 0 0]) (t := 217) (by first | (go_simp; done) | (go_simp; rfl)) (fun g6 w_ Gg6 S1 => ?_); clear S; have S := S1; clear S1))
  have h := Aside0.mk (show MkP base w0 (fR k156 156 base (.slice none 0 0) [] :: fB base g4 #[.int .i64 0, .slice none 0 0, .slice none 0 0] 36 :: fB base g2 #[.int .i64 0, .slice none 0 0, .slice none 0 0] 36 :: L) g6 (.slice none 0 0) _ 1 0 13501 from ⟨by omega, _, [], ⟨by simp, by simp, fun _ h => absurd h (by simp)⟩, Hp.pick (A := [_, _, _, fB base g4 #[.int .i64 0, .slice none 0 0, .slice none 0 0] 36, fB base g2 #[.int .i64 0, .slice none 0 0, .slice none 0 0] 36]) [2, 0, 1, 3, 4] ((S.out.none_ k156 156).none_ k85 85) (by decide) (by simp)⟩); clear S hcond
  go_wp2_with fail
  go_loopg [7] xs.length (fun gk v7 wr => ∃ (i : Nat) (vf : Value) (fs : List S156) (s : Int) (n : Nat), v7 = .int .i64 (i : Int) ∧ i + gk = xs.length ∧ fs.length = i ∧ Aside0 (s ≤ 3604 ∧ n ≤ 13501 + i) ∧ Aside0 (MkP base w0 (fR k156 156 base vf fs :: fB base g4 #[.int .i64 0, .slice none 0 0, .slice none 0 0] 36 :: fB base g2 #[.int .i64 0, .slice none 0 0, .slice none 0 0] 36 :: L) g6 vf wr s i n))
  case atStart => exact ⟨0, _, [], 1, 13501, rfl, by omega, rfl, ⟨by omega, by omega⟩, h⟩
  case round =>
   clear h; obtain ⟨i, vf, fs, s, n, rfl, hi, hfs, HSN, h⟩ := hrel
   by_cases cc : i < xs.length
   case pos =>
    obtain ⟨h0, ve, es, he, S⟩ := h.out; obtain ⟨ad, An, cn, F', eA, hcn, S1, k1, k2, k3⟩ := rx_open S (i0 + 5) (show (fB base g6 #[.int .i64 s, ve, vf] 217 :: fR k85 85 base ve es :: fR k156 156 base vf fs :: fB base g4 #[.int .i64 0, .slice none 0 0, .slice none 0 0] 36 :: fB base g2 #[.int .i64 0, .slice none 0 0, .slice none 0 0] 36 :: L)[i0 + 5]? = _ from HI0.out) i cc; cases eA; have hli := (List.getElem?_eq_some_iff.1 HI0.out).1; have hget : (fR k156 156 base vf fs :: fB base g4 #[.int .i64 0, .slice none 0 0, .slice none 0 0] 36 :: fB base g2 #[.int .i64 0, .slice none 0 0, .slice none 0 0] 36 :: L.set i0 F')[i0 + 3]? = some F' := List.getElem?_set_self hli; have HX := Aside0.mk (show ∀ W, Hp base w0 W (fR k156 156 base vf fs :: fB base g4 #[.int .i64 0, .slice none 0 0, .slice none 0 0] 36 :: fB base g2 #[.int .i64 0, .slice none 0 0, .slice none 0 0] 36 :: L.set i0 F') → W.cell? (ad.add i) = some (.slice An (rd_T214 xs i).f0.length cn) from fun W q => (q.get (i0 + 3) hget).elim (fun ok h => k2 W ok h)); have h2 := Aside0.mk (show MkP base w0 (fR k156 156 base vf fs :: fB base g4 #[.int .i64 0, .slice none 0 0, .slice none 0 0] 36 :: fB base g2 #[.int .i64 0, .slice none 0 0, .slice none 0 0] 36 :: L.set i0 F') g6 vf wr s i n from ⟨h0, ve, es, he, S1⟩); have HK1 := Aside0.mk k1; have HK3 := Aside0.mk (k3 _ _ hget); have HG := Aside0.mk (rxG_of (HALL.out i cc)); have HCN := Aside0.mk hcn; generalize (rd_T214 xs (i : Int)).f0 = ns at *; obtain ⟨m, em⟩ : ∃ m, ns.length = m + 1 := ⟨ns.length - 1, by have := HG.out.1; omega⟩; have HM := Aside0.mk (show m < ns.length by omega); have WLA := Aside0.mk (show wrap64 ((ns.length : Int) - 1) = (m : Int) by rw [em, w64 (by omega) (by have := HG.out.2.1; omega)]; omega); have HML := Aside0.mk (show m ≤ 299 by have := HG.out.2.1; omega); have hm0 := eq_true (show (i : Int) < (xs.length : Int) by omega); have hm1 := eq_true (show (0 : Int) ≤ (i : Int) by omega); have HI := Aside0.mk (And.intro hi (And.intro cc hfs)); clear h h0 he S S1 k1 k2 k3 hcn hli hget cc hi hfs em es ve; have h := h2; clear h2
    go_wp2_with fail
    refine mask_ (n := 18) (fun l v W => (l 0 = true → v 0 = .pointer (some ⟨g6, 0, none⟩)) ∧ (l 1 = true → v 1 = .slice (some ad) xs.length c) ∧ (l 2 = true → v 2 = .int .i64 (i : Int)) ∧ (l 3 = true → v 3 = .pointer (some (ad.add i))) ∧ (l 4 = true → v 4 = .agg #[.slice An ns.length cn]) ∧ (l 5 = true → v 5 = .slice (some ad) xs.length c) ∧ (l 6 = true → v 6 = .int .i64 (i : Int)) ∧ (l 7 = true → v 7 = .pointer (some (ad.add i))) ∧ (l 8 = true → v 8 = .pointer (some (ad.add i))) ∧ (l 9 = true → v 9 = .slice An ns.length cn) ∧ (l 10 = true → v 10 = .int .i64 (ns.length : Int)) ∧ (l 11 = true → v 11 = .int .i64 (m : Int)) ∧ (l 12 = true → ∃ x z : Int, v 12 = .tuple #[.int .i64 x, .int .i64 z]) ∧ (l 13 = true → ∃ x z : Int, v 13 = .tuple #[.int .i64 x, .int .i64 z]) ∧ (l 14 = true → ∃ x : Int, v 14 = .int .i64 x) ∧ (l 15 = true → ∃ x : Int, v 15 = .int .i64 x) ∧ (l 16 = true → ∃ x : Int, v 16 = .int .i64 x) ∧ (l 17 = true → ∃ x : Int, v 17 = .int .i64 x) ∧ (bif l 12 then (∃ (s1 : Int) (n1_ : Nat), s1 ≤ max s (3002 + 2 * ((m : Int) + 1)) ∧ n1_ ≤ max n (12001 + 5 * (m + 1)) ∧ MkP base w0 (fR k156 156 base vf fs :: fB base g4 #[.int .i64 0, .slice none 0 0, .slice none 0 0] 36 :: fB base g2 #[.int .i64 0, .slice none 0 0, .slice none 0 0] 36 :: L.set i0 F') g6 vf W s1 i n1_) else (MkP base w0 (fR k156 156 base vf fs :: fB base g4 #[.int .i64 0, .slice none 0 0, .slice none 0 0] 36 :: fB base g2 #[.int .i64 0, .slice none 0 0, .slice none 0 0] 36 :: L.set i0 F') g6 vf W s i n))) [[], [], [], [1, 2], [3], [], [], [5, 6], [7], [8], [9], [10], [0, 4, 11], [12], [13], [13], [14, 12, 0, 1, 2, 3, 4, 5, 6, 7, 8, 9, 10, 11, 12, 13, 14], [15, 16, 0, 1, 2, 3, 4, 5, 6, 7, 8, 9, 10, 11, 12, 13, 14, 15, 16]] [some 43, some 44, some 45, some 46, some 47, some 48, some 49, some 50, some 51, some 52, some 53, some 54, some 55, some 42, some 56, some 57, some 8, some 9] 86 (by kernel_rfl) spec_BuildNfa.need13 spec_BuildNfa.dst13 (by decide) rfl ⟨fun h => absurd h (by decide), fun h => absurd h (by decide), fun h => absurd h (by decide), fun h => absurd h (by decide), fun h => absurd h (by decide), fun h => absurd h (by decide), fun h => absurd h (by decide), fun h => absurd h (by decide), fun h => absurd h (by decide), fun h => absurd h (by decide), fun h => absurd h (by decide), fun h => absurd h (by decide), fun h => absurd h (by decide), fun h => absurd h (by decide), fun h => absurd h (by decide), fun h => absurd h (by decide), fun h => absurd h (by decide), fun h => absurd h (by decide), ?_⟩ ⟨?_, ?_, ?_, ?_, ?_, ?_, ?_, ?_, ?_, ?_, ?_, ?_, ?_, ?_, ?_, ?_, ?_, ?_, trivial⟩ (fun v W hJ => ?_)
    ·exact h.out.drew
    ·rintro l v W zb HZ hsz ⟨p0, p1, p2, p3, p4, p5, p6, p7, p8, p9, p10, p11, p12, p13, p14, p15, p16, p17, S⟩ hi hn hc K hK
     have e6 := oth_ (N := 6) (x := .pointer (some ⟨g6, 0, none⟩)) HZ rfl rfl
     refine yields_ (N := some 43) (x := .pointer (some ⟨g6, 0, none⟩)) rfl rfl ?_ (hK.out _ _ ⟨fun _ => rfl, p1, p2, p3, p4, p5, p6, p7, p8, p9, p10, p11, p12, p13, p14, p15, p16, p17, S⟩)
     clear hK HZ hn hc p0 p1 p2 p3 p4 p5 p6 p7 p8 p9 p10 p11 p12 p13 p14 p15 p16 p17; (try simp only [Array.getD_eq_getD_getElem?] at *); go_simp; try with_reducible rfl
    ·rintro l v W zb HZ hsz ⟨p0, p1, p2, p3, p4, p5, p6, p7, p8, p9, p10, p11, p12, p13, p14, p15, p16, p17, S⟩ hi hn hc K hK
     have e0 := oth_ (N := 0) (x := .slice (some ad) xs.length c) HZ rfl rfl
     refine yields_ (N := some 44) (x := .slice (some ad) xs.length c) rfl rfl ?_ (hK.out _ _ ⟨p0, fun _ => rfl, p2, p3, p4, p5, p6, p7, p8, p9, p10, p11, p12, p13, p14, p15, p16, p17, S⟩)
     clear hK HZ hn hc p0 p1 p2 p3 p4 p5 p6 p7 p8 p9 p10 p11 p12 p13 p14 p15 p16 p17; (try simp only [Array.getD_eq_getD_getElem?] at *); go_simp; try with_reducible rfl
    ·rintro l v W zb HZ hsz ⟨p0, p1, p2, p3, p4, p5, p6, p7, p8, p9, p10, p11, p12, p13, p14, p15, p16, p17, S⟩ hi hn hc K hK
     have e7 := oth_ (N := 7) (x := .int .i64 (i : Int)) HZ rfl rfl
     refine yields_ (N := some 45) (x := .int .i64 (i : Int)) rfl rfl ?_ (hK.out _ _ ⟨p0, p1, fun _ => rfl, p3, p4, p5, p6, p7, p8, p9, p10, p11, p12, p13, p14, p15, p16, p17, S⟩)
     clear hK HZ hn hc p0 p1 p2 p3 p4 p5 p6 p7 p8 p9 p10 p11 p12 p13 p14 p15 p16 p17; (try simp only [Array.getD_eq_getD_getElem?] at *); go_simp; try with_reducible rfl
    ·rintro l v W zb HZ hsz ⟨p0, p1, p2, p3, p4, p5, p6, p7, p8, p9, p10, p11, p12, p13, p14, p15, p16, p17, S⟩ hi hn hc K hK
     have e44 := at1 HZ hsz (hn 1 (by decide)) p1 rfl rfl (by decide); have e45 := at1 HZ hsz (hn 2 (by decide)) p2 rfl rfl (by decide)
     refine yields_ (N := some 46) (x := .pointer (some (ad.add i))) rfl rfl ?_ (hK.out _ _ ⟨p0, p1, p2, fun _ => rfl, p4, p5, p6, p7, p8, p9, p10, p11, p12, p13, p14, p15, p16, p17, S⟩)
     clear hK HZ hn hc p0 p1 p2 p3 p4 p5 p6 p7 p8 p9 p10 p11 p12 p13 p14 p15 p16 p17; (try simp only [Array.getD_eq_getD_getElem?] at *); go_simp; try with_reducible rfl
    ·rintro l v W zb HZ hsz ⟨p0, p1, p2, p3, p4, p5, p6, p7, p8, p9, p10, p11, p12, p13, p14, p15, p16, p17, S⟩ hi hn hc K hK
     have e46 := at1 HZ hsz (hn 3 (by decide)) p3 rfl rfl (by decide); have S0 := S
     rw [show l 12 = false from hc 12 4 (by decide) hi] at S
     simp only [cond_true, cond_false] at S
     have hx := HX.out W S.hp
     refine yields_ (N := some 47) (x := .agg #[.slice An ns.length cn]) rfl rfl ?_ (hK.out _ _ ⟨p0, p1, p2, p3, fun _ => rfl, p5, p6, p7, p8, p9, p10, p11, p12, p13, p14, p15, p16, p17, S0⟩)
     clear hK HZ hn hc p0 p1 p2 p3 p4 p5 p6 p7 p8 p9 p10 p11 p12 p13 p14 p15 p16 p17; (try simp only [Array.getD_eq_getD_getElem?] at *); go_simp; try with_reducible rfl
    ·rintro l v W zb HZ hsz ⟨p0, p1, p2, p3, p4, p5, p6, p7, p8, p9, p10, p11, p12, p13, p14, p15, p16, p17, S⟩ hi hn hc K hK
     have e0 := oth_ (N := 0) (x := .slice (some ad) xs.length c) HZ rfl rfl
     refine yields_ (N := some 48) (x := .slice (some ad) xs.length c) rfl rfl ?_ (hK.out _ _ ⟨p0, p1, p2, p3, p4, fun _ => rfl, p6, p7, p8, p9, p10, p11, p12, p13, p14, p15, p16, p17, S⟩)
     clear hK HZ hn hc p0 p1 p2 p3 p4 p5 p6 p7 p8 p9 p10 p11 p12 p13 p14 p15 p16 p17; (try simp only [Array.getD_eq_getD_getElem?] at *); go_simp; try with_reducible rfl
    ·rintro l v W zb HZ hsz ⟨p0, p1, p2, p3, p4, p5, p6, p7, p8, p9, p10, p11, p12, p13, p14, p15, p16, p17, S⟩ hi hn hc K hK
     have e7 := oth_ (N := 7) (x := .int .i64 (i : Int)) HZ rfl rfl
     refine yields_ (N := some 49) (x := .int .i64 (i : Int)) rfl rfl ?_ (hK.out _ _ ⟨p0, p1, p2, p3, p4, p5, fun _ => rfl, p7, p8, p9, p10, p11, p12, p13, p14, p15, p16, p17, S⟩)
     clear hK HZ hn hc p0 p1 p2 p3 p4 p5 p6 p7 p8 p9 p10 p11 p12 p13 p14 p15 p16 p17; (try simp only [Array.getD_eq_getD_getElem?] at *); go_simp; try with_reducible rfl
    ·rintro l v W zb HZ hsz ⟨p0, p1, p2, p3, p4, p5, p6, p7, p8, p9, p10, p11, p12, p13, p14, p15, p16, p17, S⟩ hi hn hc K hK
     have e48 := at1 HZ hsz (hn 5 (by decide)) p5 rfl rfl (by decide); have e49 := at1 HZ hsz (hn 6 (by decide)) p6 rfl rfl (by decide)
     refine yields_ (N := some 50) (x := .pointer (some (ad.add i))) rfl rfl ?_ (hK.out _ _ ⟨p0, p1, p2, p3, p4, p5, p6, fun _ => rfl, p8, p9, p10, p11, p12, p13, p14, p15, p16, p17, S⟩)
     clear hK HZ hn hc p0 p1 p2 p3 p4 p5 p6 p7 p8 p9 p10 p11 p12 p13 p14 p15 p16 p17; (try simp only [Array.getD_eq_getD_getElem?] at *); go_simp; try with_reducible rfl
    ·rintro l v W zb HZ hsz ⟨p0, p1, p2, p3, p4, p5, p6, p7, p8, p9, p10, p11, p12, p13, p14, p15, p16, p17, S⟩ hi hn hc K hK
     have e50 := at1 HZ hsz (hn 7 (by decide)) p7 rfl rfl (by decide)
     refine yields_ (N := some 51) (x := .pointer (some (ad.add i))) rfl rfl ?_ (hK.out _ _ ⟨p0, p1, p2, p3, p4, p5, p6, p7, fun _ => rfl, p9, p10, p11, p12, p13, p14, p15, p16, p17, S⟩)
     clear hK HZ hn hc p0 p1 p2 p3 p4 p5 p6 p7 p8 p9 p10 p11 p12 p13 p14 p15 p16 p17; (try simp only [Array.getD_eq_getD_getElem?] at *); go_simp; try with_reducible rfl
    ·rintro l v W zb HZ hsz ⟨p0, p1, p2, p3, p4, p5, p6, p7, p8, p9, p10, p11, p12, p13, p14, p15, p16, p17, S⟩ hi hn hc K hK
     have e51 := at1 HZ hsz (hn 8 (by decide)) p8 rfl rfl (by decide); have S0 := S
     rw [show l 12 = false from hc 12 11 (by decide) (hc 11 10 (by decide) (hc 10 9 (by decide) hi))] at S
     simp only [cond_true, cond_false] at S
     have hx := HX.out W S.hp
     refine yields_ (N := some 52) (x := .slice An ns.length cn) rfl rfl ?_ (hK.out _ _ ⟨p0, p1, p2, p3, p4, p5, p6, p7, p8, fun _ => rfl, p10, p11, p12, p13, p14, p15, p16, p17, S0⟩)
     clear hK HZ hn hc p0 p1 p2 p3 p4 p5 p6 p7 p8 p9 p10 p11 p12 p13 p14 p15 p16 p17; (try simp only [Array.getD_eq_getD_getElem?] at *); go_simp; try with_reducible rfl
    ·rintro l v W zb HZ hsz ⟨p0, p1, p2, p3, p4, p5, p6, p7, p8, p9, p10, p11, p12, p13, p14, p15, p16, p17, S⟩ hi hn hc K hK
     have e52 := at1 HZ hsz (hn 9 (by decide)) p9 rfl rfl (by decide)
     refine yields_ (N := some 53) (x := .int .i64 (ns.length : Int)) rfl rfl ?_ (hK.out _ _ ⟨p0, p1, p2, p3, p4, p5, p6, p7, p8, p9, fun _ => rfl, p11, p12, p13, p14, p15, p16, p17, S⟩)
     clear hK HZ hn hc p0 p1 p2 p3 p4 p5 p6 p7 p8 p9 p10 p11 p12 p13 p14 p15 p16 p17; (try simp only [Array.getD_eq_getD_getElem?] at *); go_simp; try with_reducible rfl
    ·rintro l v W zb HZ hsz ⟨p0, p1, p2, p3, p4, p5, p6, p7, p8, p9, p10, p11, p12, p13, p14, p15, p16, p17, S⟩ hi hn hc K hK
     have e53 := at1 HZ hsz (hn 10 (by decide)) p10 rfl rfl (by decide); have S0 := S
     rw [show l 12 = false from hc 12 11 (by decide) hi] at S
     simp only [cond_true, cond_false] at S
     have WL := WLA.out
     refine yields_ (N := some 54) (x := .int .i64 (m : Int)) rfl rfl ?_ (hK.out _ _ ⟨p0, p1, p2, p3, p4, p5, p6, p7, p8, p9, p10, fun _ => rfl, p12, p13, p14, p15, p16, p17, S0⟩)
     clear hK HZ hn hc p0 p1 p2 p3 p4 p5 p6 p7 p8 p9 p10 p11 p12 p13 p14 p15 p16 p17; (try simp only [Array.getD_eq_getD_getElem?] at *); go_simp; rw [i64_w, WL]
    ·rintro l v W zb HZ hsz ⟨p0, p1, p2, p3, p4, p5, p6, p7, p8, p9, p10, p11, p12, p13, p14, p15, p16, p17, S⟩ hi hn hc K hK
     have e43 := at1 HZ hsz (hn 0 (by decide)) p0 rfl rfl (by decide); have e47 := at1 HZ hsz (hn 4 (by decide)) p4 rfl rfl (by decide); have e54 := at1 HZ hsz (hn 11 (by decide)) p11 rfl rfl (by decide); clear HZ
     rw [hi] at S
     simp only [cond_true, cond_false] at S
     refine goes_ Try.func175 (by kernel_rfl) rfl #[.pointer (some ⟨g6, 0, none⟩), .agg #[.slice An ns.length cn], .int .i64 (m : Int)] rfl rfl rfl (by simp only [List.map_toArray, List.map_cons, List.map_nil]; show #[zb.tmps.getD 43 undef, zb.tmps.getD 47 undef, zb.tmps.getD 54 undef] = _; simp only [e43, e47, e54]) ?_
     refine (spec_l6Maker_part.all g6 vf An cn ns HG.out.2.2 HG.out.2.1 HCN.out m HM.out HK3.out S (by have := HSN.out; omega) (by have := HSN.out; have := HI.out; have := HL.out; omega)).mono ?_
     rintro e w' ⟨x, z, s1, n1_, rfl, b1, b2, h1⟩
     exact ⟨_, rfl, hK.out _ _ ⟨p0, p1, p2, p3, p4, p5, p6, p7, p8, p9, p10, p11, fun _ => ⟨x, z, rfl⟩, p13, p14, p15, p16, p17, ⟨s1, n1_, b1, b2, h1⟩⟩⟩
    ·rintro l v W zb HZ hsz ⟨p0, p1, p2, p3, p4, p5, p6, p7, p8, p9, p10, p11, p12, p13, p14, p15, p16, p17, S⟩ hi hn hc K hK
     have e55 := at0 HZ hsz (hn 12 (by decide)) rfl rfl (by decide); obtain ⟨x0, z0, q12⟩ := p12 (hn 12 (by decide))
     rw [q12] at e55
     clear HZ
     refine yields_ (N := some 42) (x := .tuple #[.int .i64 x0, .int .i64 z0]) rfl rfl ?_ (hK.out _ _ ⟨p0, p1, p2, p3, p4, p5, p6, p7, p8, p9, p10, p11, p12, fun _ => ⟨x0, z0, rfl⟩, p14, p15, p16, p17, S⟩)
     clear hK hn hc p0 p1 p2 p3 p4 p5 p6 p7 p8 p9 p10 p11 p12 p13 p14 p15 p16 p17; (try simp only [Array.getD_eq_getD_getElem?] at *); go_simp; try with_reducible rfl
    ·rintro l v W zb HZ hsz ⟨p0, p1, p2, p3, p4, p5, p6, p7, p8, p9, p10, p11, p12, p13, p14, p15, p16, p17, S⟩ hi hn hc K hK
     have e42 := at0 HZ hsz (hn 13 (by decide)) rfl rfl (by decide); obtain ⟨x1, z1, q13⟩ := p13 (hn 13 (by decide))
     rw [q13] at e42
     clear HZ
     refine yields_ (N := some 56) (x := .int .i64 x1) rfl rfl ?_ (hK.out _ _ ⟨p0, p1, p2, p3, p4, p5, p6, p7, p8, p9, p10, p11, p12, p13, fun _ => ⟨x1, rfl⟩, p15, p16, p17, S⟩)
     clear hK hn hc p0 p1 p2 p3 p4 p5 p6 p7 p8 p9 p10 p11 p12 p13 p14 p15 p16 p17; (try simp only [Array.getD_eq_getD_getElem?] at *); go_simp; try with_reducible rfl
    ·rintro l v W zb HZ hsz ⟨p0, p1, p2, p3, p4, p5, p6, p7, p8, p9, p10, p11, p12, p13, p14, p15, p16, p17, S⟩ hi hn hc K hK
     have e42 := at0 HZ hsz (hn 13 (by decide)) rfl rfl (by decide); obtain ⟨x1, z1, q13⟩ := p13 (hn 13 (by decide))
     rw [q13] at e42
     clear HZ
     refine yields_ (N := some 57) (x := .int .i64 z1) rfl rfl ?_ (hK.out _ _ ⟨p0, p1, p2, p3, p4, p5, p6, p7, p8, p9, p10, p11, p12, p13, p14, fun _ => ⟨z1, rfl⟩, p16, p17, S⟩)
     clear hK hn hc p0 p1 p2 p3 p4 p5 p6 p7 p8 p9 p10 p11 p12 p13 p14 p15 p16 p17; (try simp only [Array.getD_eq_getD_getElem?] at *); go_simp; try with_reducible rfl
    ·rintro l v W zb HZ hsz ⟨p0, p1, p2, p3, p4, p5, p6, p7, p8, p9, p10, p11, p12, p13, p14, p15, p16, p17, S⟩ hi hn hc K hK
     have e56 := at0 HZ hsz (hn 14 (by decide)) rfl rfl (by decide); obtain ⟨x2, q14⟩ := p14 (hn 14 (by decide))
     rw [q14] at e56
     clear HZ
     refine yields_ (N := some 8) (x := .int .i64 x2) rfl rfl ?_ (hK.out _ _ ⟨p0, p1, p2, p3, p4, p5, p6, p7, p8, p9, p10, p11, p12, p13, p14, p15, fun _ => ⟨x2, rfl⟩, p17, S⟩)
     clear hK hn hc p0 p1 p2 p3 p4 p5 p6 p7 p8 p9 p10 p11 p12 p13 p14 p15 p16 p17; (try simp only [Array.getD_eq_getD_getElem?] at *); go_simp; try with_reducible rfl
    ·rintro l v W zb HZ hsz ⟨p0, p1, p2, p3, p4, p5, p6, p7, p8, p9, p10, p11, p12, p13, p14, p15, p16, p17, S⟩ hi hn hc K hK
     have e57 := at0 HZ hsz (hn 15 (by decide)) rfl rfl (by decide); obtain ⟨x3, q15⟩ := p15 (hn 15 (by decide))
     rw [q15] at e57
     clear HZ
     refine yields_ (N := some 9) (x := .int .i64 x3) rfl rfl ?_ (hK.out _ _ ⟨p0, p1, p2, p3, p4, p5, p6, p7, p8, p9, p10, p11, p12, p13, p14, p15, p16, fun _ => ⟨x3, rfl⟩, S⟩)
     clear hK hn hc p0 p1 p2 p3 p4 p5 p6 p7 p8 p9 p10 p11 p12 p13 p14 p15 p16 p17; (try simp only [Array.getD_eq_getD_getElem?] at *); go_simp; try with_reducible rfl
    obtain ⟨-, -, -, -, -, -, -, -, -, -, -, -, p12, p13, p14, p15, p16, p17, S⟩ := hJ; obtain ⟨xa, qa⟩ := p16 rfl; obtain ⟨za, qz⟩ := p17 rfl; obtain ⟨s1, n1, b1, b2, h0, ve, es, he, S⟩ := (show ∃ (s1 : Int) (n1_ : Nat), s1 ≤ max s (3002 + 2 * ((m : Int) + 1)) ∧ n1_ ≤ max n (12001 + 5 * (m + 1)) ∧ MkP base w0 (fR k156 156 base vf fs :: fB base g4 #[.int .i64 0, .slice none 0 0, .slice none 0 0] 36 :: fB base g2 #[.int .i64 0, .slice none 0 0, .slice none 0 0] 36 :: L.set i0 F') g6 vf W s1 i n1_ from S); have hb := Hp.back (k := i0 + 5) (show Hp base w0 W ((fB base g6 #[.int .i64 s1, ve, vf] 217 :: fR k85 85 base ve es :: fR k156 156 base vf fs :: fB base g4 #[.int .i64 0, .slice none 0 0, .slice none 0 0] 36 :: fB base g2 #[.int .i64 0, .slice none 0 0, .slice none 0 0] 36 :: L).set (i0 + 5) F') from S) HI0.out HK1.out; replace h := Aside0.mk (show MkP base w0 (fR k156 156 base vf fs :: fB base g4 #[.int .i64 0, .slice none 0 0, .slice none 0 0] 36 :: fB base g2 #[.int .i64 0, .slice none 0 0, .slice none 0 0] 36 :: L) g6 vf W s1 i n1 from ⟨h0, ve, es, he, hb⟩); have HSN2 := Aside0.mk (show s1 ≤ 3604 ∧ n1 ≤ 13501 + i by have := HSN.out; have := HML.out; omega); clear S hb b1 b2 h0 he p12 p13 p14 p15 p16 p17 hm0 hm1 es ve
    simp only [putIf, ↓reduceIte, Act.put, List.setIfInBounds_toArray, List.set_cons_succ, List.set_cons_zero, qa, qz]
    go_wp2_with fail
    refine (h.out.edge0 _ _ (by have := HSN2.out; have := HI.out; have := HL.out; omega)).mono ?_
    rintro e w_ ⟨rfl, h1⟩
    obtain ⟨h0, ve, es, he, S⟩ := h1; replace S := Aside0.mk S; have HE := Aside0.mk (And.intro h0 he); clear h h0 he; obtain ⟨Af, cf_, rfl⟩ := S.out.slice 2 rfl; have z2 := S.out.cell 0 2 rfl rfl
    go_wp2_with (first | ((with_reducible refine gate_dst (N := 70) rfl ?_); refine ev_lit S (k156) (156) rfl rfl (xs := [(⟨za, (i : Int)⟩ : S156)]) (inner := [.int .i64 za, .int .i64 (i : Int)]) (by first | (go_simp; done) | (go_simp; rfl)) (Reps.c2 (show Kd.M k156 _ _ _ (⟨za, (i : Int)⟩ : S156) [.int .i64 za, .int .i64 (i : Int)] from k156_mkM _ _ _ (⟨za, (i : Int)⟩ : S156)) (Reps.none _ _)) (by simp) (fun v70 w_ S1 => ?_); clear S; have S := S1; clear S1; obtain ⟨A70, c70, rfl⟩ := S.out.slice 0 rfl) | ((with_reducible refine gate_dst (N := 71) rfl ?_); refine ev_app S 3 rfl rfl (.tmp 66) (.tmp 70) (34) (.agg #[.int .i64 0, .int .i64 0]) (16) rfl Try.underlying34 (by kernel_rfl) rfl (by decide) (by omega) rfl rfl (S.out.row 0 rfl).2.2 (fun _ _ h => h) (by have := HI.out; have := HL.out; simp only [List.length_singleton]; omega) (fun v71 w_ S1 => ?_); clear S; have S := Aside0.mk S1.out.tail; clear S1; obtain ⟨A71, c71, rfl⟩ := S.out.slice 2 rfl; have f2 := S.out.frozen 0 2 rfl; clear z2; have z2 := S.out.cell 0 2 rfl rfl) | ((with_reducible refine gate_store (t := 34) (p := 74) rfl ?_); refine ev_run (w1 := ((_ : World)).setCell ⟨g6, 2, none⟩ (.slice A71 (fs ++ [(⟨za, (i : Int)⟩ : S156)]).length c71)) rfl rfl (by first | (go_simp; done) | (go_simp; rfl)) (fun w_ hw => ?_); have S1 := Aside0.mk ((S.out).put 0 2 (u := .slice A71 (fs ++ [(⟨za, (i : Int)⟩ : S156)]).length c71) rfl rfl); rw [← hw] at S1; clear hw; clear S; have S := S1; clear S1; clear z2 f2))
    have WN := Aside0.mk (show wrap64 ((i : Int) + 1) = ((i + 1 : Nat) : Int) from nat_next (by have := HL.out; have := HI.out; omega))
    go_wp2
    go_roundg (xs.length - (i + 1))
    case measure => have := HI.out; omega
    case rel => exact ⟨i + 1, _, _, s1, n1 + 1, congrArg (Value.int .i64) WN.out, by have := HI.out; omega, by rw [List.length_append, List.length_singleton]; have := HI.out; omega, ⟨by have := HSN2.out; omega, by have := HSN2.out; omega⟩, ⟨HE.out.1, ve, es, HE.out.2, S.out⟩⟩
   have hcond := eq_false (show ¬ (i : Int) < (xs.length : Int) by omega); obtain ⟨h0, ve, es, he, S⟩ := h.out; replace S := Aside0.mk S; have HE := Aside0.mk (And.intro he (show fs.length = xs.length by omega)); obtain ⟨Ae, ce, rfl⟩ := S.out.slice 1 rfl; obtain ⟨Af, cf_, rfl⟩ := S.out.slice 2 rfl; obtain ⟨b, hb, hbp⟩ := nfaTot s es fs (fun y hy => by have := he.2.2 y hy; omega); have HBP := Aside0.mk hbp; have HI := Aside0.mk (show i = xs.length by omega); clear h h0 he cc hi hfs hbp; have z0 := S.out.cell 0 0 rfl rfl; have z1 := S.out.cell 0 1 rfl rfl; have z2 := S.out.cell 0 2 rfl rfl
   go_wp2_with fail
   refine (spec_NfaOk.calls 2097156 s Ae ce es Af cf_ fs b _ (S.out.row 1 rfl).2.2 (S.out.row 1 rfl).2.1 (S.out.row 2 rfl).2.2 (S.out.row 2 rfl).2.1 hb).mono ?_
   rintro e w1 ⟨rfl, hb1⟩
   replace S := Aside0.mk (S.out.go hb1); clear hb1 z0 z1 z2 hb hcond
   cases b with
   | false =>
    have x0 := S.out.cell 3 0 rfl rfl; have x1 := S.out.cell 3 1 rfl rfl; have x2 := S.out.cell 3 2 rfl rfl; have y0 := S.out.cell 4 0 rfl rfl; have y1 := S.out.cell 4 1 rfl rfl; have y2 := S.out.cell 4 2 rfl rfl; have f0 := S.out.frozen 4 0 rfl; have f1 := S.out.frozen 4 1 rfl; have f2 := S.out.frozen 4 2 rfl
    go_wp2
    have S1 := Aside0.mk ((((S.out).put 4 0 (u := .int .i64 0) rfl rfl).put 4 1 (u := .slice none 0 0) rfl rfl).put 4 2 (u := .slice none 0 0) rfl rfl)
    refine bodyPost_ret (results_ct rfl _ _ g2 36 #[.int .i64 0, .slice none 0 0, .slice none 0 0] (0, 0) _ rfl (S1.out.blk 4 rfl) Try.underlying36 rfl (by kernel_rfl)) rfl ?_
    exact ⟨0, _, [], _, [], false, rfl, fun q => absurd q (by decide), by simp, by simp, fun _ h => absurd h (by simp), (S1.out.tail.tail.tail.tail.tail.none_ k156 156).none_ k85 85⟩
   | true =>
    have z0 := S.out.cell 0 0 rfl rfl; have z1 := S.out.cell 0 1 rfl rfl; have z2 := S.out.cell 0 2 rfl rfl; have y0 := S.out.cell 4 0 rfl rfl; have y1 := S.out.cell 4 1 rfl rfl; have y2 := S.out.cell 4 2 rfl rfl; have f0 := S.out.frozen 4 0 rfl; have f1 := S.out.frozen 4 1 rfl; have f2 := S.out.frozen 4 2 rfl
    go_wp2
    have S1 := Aside0.mk ((((S.out).put 4 0 (u := .int .i64 s) rfl rfl).put 4 1 (u := .slice Ae es.length ce) rfl rfl).put 4 2 (u := .slice Af fs.length cf_) rfl rfl)
    refine bodyPost_ret (results_ct rfl _ _ g2 36 #[.int .i64 s, .slice Ae es.length ce, .slice Af fs.length cf_] (0, 0) _ rfl (S1.out.blk 4 rfl) Try.underlying36 rfl (by kernel_rfl)) rfl ?_
    exact ⟨s, _, es, _, fs, true, rfl, fun _ => by have := HBP.out (by first | rfl | trivial); have := HE.out; have := HL.out; have := HI.out; exact ⟨by omega, by omega, by omega, by omega⟩, by have := HE.out; have := HSN.out; have := HL.out; have := HI.out; omega, by have := HE.out; have := HL.out; omega, HE.out.1.2.2, Hp.pick (A := [_, _, _, _, _]) [1, 2] S1.out (by decide) (by simp)⟩
end

/-! ### spec_l1Rd_next: function 143 -/
section
open Go.Proofs.Ytfajfjgkkgigoaa.Kit
set_option maxHeartbeats 4000000 in
set_option maxRecDepth 100000 in
theorem spec_l1Rd_next.calls {base : Nat} {w0 w : World} {L : List Fact} (S : Hp base w0 w L) (i g : Nat) (A : Option Addr) (c : Nat) (bs : List Int) (hB : RdOK base w0 A bs) (hi : L[i]? = some (fRd 179 base g (.slice A bs.length c))) :
  Calls Try.prog 143 #[.pointer (some ⟨g, 0, none⟩)] w (NPost base w0 L .i64 (fun m => 0 ≤ m ∧ m ≤ 255)) := by
 have HB := Aside0.mk hB
 have HI := Aside0.mk hi
 obtain ⟨p, hp, S1⟩ := S.rdOpen i hi
 replace S := Aside0.mk S1
 have HP := Aside0.mk hp
 have HLI := Aside0.mk (List.getElem?_eq_some_iff.1 hi).1
 clear hB hi hp S1
 have z0 := S.out.cell i 0 (List.getElem?_set_self HLI.out) rfl
 have z1 := S.out.cell i 1 (List.getElem?_set_self HLI.out) rfl
 by_cases cc : p < bs.length
 case neg =>
  have h1 := eq_true (show (bs.length : Int) ≤ (p : Int) by omega); have h2 := eq_true (show bs.length ≤ p by omega)
  go_enter Try.func143, Try.ntmps143
  go_wp2
  go_quiet (fail)
  go_wp2
  go_ret
  exact ⟨0, rfl, by omega, (S.out.drewN _).rdBack HI.out HP.out⟩
 have h1 := eq_false (show ¬ (bs.length : Int) ≤ (p : Int) by omega)
 have h2 := eq_false (show ¬ bs.length ≤ p by omega)
 have HC := Aside0.mk cc
 clear cc
 go_enter Try.func143, Try.ntmps143
 go_wp2
 go_quiet (fail)
 rename_i nq
 replace S := Aside0.mk (S.out.drewN nq)
 clear z0 z1 h1 h2
 generalize World.drewN _ nq = w2 at S ⊢
 have z0 := S.out.cell i 0 (List.getElem?_set_self HLI.out) rfl
 have z1 := S.out.cell i 1 (List.getElem?_set_self HLI.out) rfl
 have f1 := S.out.frozen i 1 (List.getElem?_set_self HLI.out)
 have W1 : wrap64 ((p : Int) + 1) = (p : Int) + 1 := w64 (by omega) (by have := HP.out; omega)
 have W2 : wrap64 (p : Int) = (p : Int) := w64 (by omega) (by have := HP.out; omega)
 go_wp2
 replace S := Aside0.mk (show Hp base w0 _ (L.set i (fB base g #[.slice A bs.length c, .int .i64 ((p : Int) + 1)] 179)) from by have := S.out.put i 1 (u := .int .i64 ((p : Int) + 1)) (List.getElem?_set_self HLI.out) rfl; rw [List.set_set] at this; exact this)
 clear z0 z1 f1 W1
 generalize World.setCell _ _ _ = w3 at S ⊢
 have z0 := S.out.cell i 0 (List.getElem?_set_self HLI.out) rfl
 have z1 := S.out.cell i 1 (List.getElem?_set_self HLI.out) rfl
 obtain ⟨ad, ek, hx⟩ := Kd.at_int (HB.out.2.2 _ S.out.below) (p : Int) (by omega) (by have := HC.out; omega)
 cases ek
 rw [Int.toNat_natCast] at hx
 have hb := HB.out.2.1 (rd bs (p : Int)) (by unfold rd; rw [Int.toNat_natCast, List.getD_eq_getElem?_getD, List.getElem?_eq_getElem HC.out]; exact List.getElem_mem _)
 generalize rd bs (p : Int) = x at hx hb
 have hm0 := eq_true (show (p : Int) < (bs.length : Int) by have := HC.out; omega)
 have hm1 := eq_true (show (0 : Int) ≤ (p : Int) by omega)
 have hm2 := eq_true HC.out
 have HX := Aside0.mk hb
 have WX : wrap64 x = x := w64 (by omega) (by omega)
 have WXA := Aside0.mk WX
 clear hb
 go_quiet (fail)
 go_wp2
 go_ret
 exact ⟨x, congrArg (fun y => Ending.returned (Value.int .i64 y)) WXA.out, HX.out, Hp.rdBack (p := p + 1) (S.out.drewN _) HI.out (by have := HC.out; have := HB.out.1; omega)⟩
end

/-! ### spec_l1Rd_below: function 85 -/
section
open Go.Proofs.Ytfajfjgkkgigoaa.Kit
set_option maxHeartbeats 4000000 in
set_option maxRecDepth 100000 in
theorem spec_l1Rd_below.calls {base : Nat} {w0 w : World} {L : List Fact} (S : Hp base w0 w L) (i g : Nat) (A : Option Addr) (c : Nat) (bs : List Int) (hB : RdOK base w0 A bs) (hi : L[i]? = some (fRd 179 base g (.slice A bs.length c))) (n : Int) (hn : n ≤ 1000000) :
  Calls Try.prog 85 #[.pointer (some ⟨g, 0, none⟩), .int .i64 n] w (NPost base w0 L .i64 (fun m => 0 ≤ m ∧ m ≤ max 0 (n - 1))) := by
 replace S := Aside0.mk S
 have HB := Aside0.mk hB
 have HI := Aside0.mk hi
 clear hB hi
 have HN := Aside0.mk hn
 by_cases c1 : n ≤ 1
 case pos =>
  have h1 := eq_true c1; clear hn
  go_enter Try.func85, Try.ntmps85
  go_wp2
  go_ret
  exact ⟨0, rfl, by omega, S.out⟩
 have h1 := eq_false c1
 have h0 := eq_false (show ¬ n = 0 by omega)
 have HN1 := Aside0.mk c1
 have hz : (n == 0) = false := beq_eq_false_iff_ne.2 (by omega)
 by_cases c2 : n ≤ 256
 case pos =>
  have h2 := eq_true c2; clear hn c1 c2
  go_enter Try.func85, Try.ntmps85
  go_wp2_with fail
  refine (spec_l1Rd_next.calls S.out i g A c bs HB.out HI.out).mono ?_
  rintro e w_ ⟨m, rfl, hm, S1⟩
  replace S := Aside0.mk S1; clear S1; have HM := Aside0.mk hm; clear hm
  go_wp2
  go_ret
  exact ⟨_, rfl, ⟨Int.tmod_nonneg _ (by have := HM.out; omega), by have := Int.tmod_lt_of_pos m (show 0 < n by have := HN1.out; omega); omega⟩, S.out⟩
 have h2 := eq_false c2
 clear hn c1 c2
 go_enter Try.func85, Try.ntmps85
 go_wp2_with fail
 refine (spec_l1Rd_next.calls S.out i g A c bs HB.out HI.out).mono ?_
 rintro e w_ ⟨m, rfl, hm, S1⟩
 replace S := Aside0.mk S1
 clear S1
 have HM := Aside0.mk hm
 have W1 : wrap64 (m * 256) = m * 256 := w64 (by omega) (by omega)
 clear hm
 go_wp2_with fail
 refine (spec_l1Rd_next.calls S.out i g A c bs HB.out HI.out).mono ?_
 rintro e w_ ⟨m2, rfl, hm, S1⟩
 replace S := Aside0.mk S1
 clear S1
 have HM2 := Aside0.mk hm
 have W2 : wrap64 (m * 256 + m2) = m * 256 + m2 := w64 (by have := HM.out; omega) (by have := HM.out; omega)
 clear hm
 go_wp2
 go_ret
 refine ⟨Int.tmod (m * 256 + m2) n, by first | rfl | (show Ending.returned (Value.int .i64 (Int.tmod (wrap64 (wrap64 (m * 256) + m2)) n)) = _; rw [w64 (x := m * 256) (by have := HM.out; omega) (by have := HM.out; omega), w64 (x := m * 256 + m2) (by have := HM.out; have := HM2.out; omega) (by have := HM.out; have := HM2.out; omega)]), ⟨Int.tmod_nonneg _ (by have := HM.out; have := HM2.out; omega), by have := Int.tmod_lt_of_pos (m * 256 + m2) (show 0 < n by have := HN1.out; omega); omega⟩, S.out⟩
end

/-! ### spec_l1Rd_once: function 98 -/
section
open Go.Proofs.Ytfajfjgkkgigoaa.Kit
/-- a flag is told -/
def EPost (base : Nat) (w0 : World) (L : List Fact) (e : Ending) (w' : World) : Prop := ∃ b : Bool, e = .returned (.bool b) ∧ Hp base w0 w' L
set_option maxHeartbeats 4000000 in
set_option maxRecDepth 100000 in
theorem spec_l1Rd_once.calls {base : Nat} {w0 w : World} {L : List Fact} (S : Hp base w0 w L) (i g : Nat) (A : Option Addr) (c : Nat) (bs : List Int) (hB : RdOK base w0 A bs) (hi : L[i]? = some (fRd 179 base g (.slice A bs.length c))) (n : Int) (hn : n ≤ 1000000) :
  Calls Try.prog 98 #[.pointer (some ⟨g, 0, none⟩), .int .i64 n] w (EPost base w0 L) := by
 replace S := Aside0.mk S
 have HB := Aside0.mk hB
 have HI := Aside0.mk hi
 clear hB hi
 have HN := Aside0.mk hn
 clear hn
 go_enter Try.func98, Try.ntmps98
 go_wp2_with fail
 refine (spec_l1Rd_below.calls S.out i g A c bs HB.out HI.out n HN.out).mono ?_
 rintro e w_ ⟨m, rfl, hm, S1⟩
 replace S := Aside0.mk S1
 clear S1
 clear hm
 go_wp2
 go_ret
 exact ⟨_, rfl, S.out⟩
end

/-! ### spec_l1Rd_word: function 144 -/
section
open Go.Proofs.Ytfajfjgkkgigoaa.Kit
set_option maxHeartbeats 4000000 in
set_option maxRecDepth 100000 in
theorem spec_l1Rd_word.calls {base : Nat} {w0 w : World} {L : List Fact} (S : Hp base w0 w L) (i g : Nat) (A : Option Addr) (c : Nat) (bs : List Int) (hB : RdOK base w0 A bs) (hi : L[i]? = some (fRd 179 base g (.slice A bs.length c))) :
  Calls Try.prog 144 #[.pointer (some ⟨g, 0, none⟩)] w (NPost base w0 L .u64 (fun _ => True)) := by
 replace S := Aside0.mk S
 have HB := Aside0.mk hB
 have HI := Aside0.mk hi
 clear hB hi
 go_enter Try.func144, Try.ntmps144
 go_wp2
 go_loopg [3, 4] 8 (fun gk v3 v4 wr => ∃ (x k : Int), v3 = .int .u64 x ∧ v4 = .int .i64 k ∧ k + gk = 8 ∧ 0 ≤ k ∧ Aside0 (Hp base w0 wr L))
 case atStart => exact ⟨0, 0, rfl, rfl, rfl, Int.le_refl _, S⟩
 case round =>
  clear S; obtain ⟨x, k, rfl, rfl, hk, hk0, S⟩ := hrel
  by_cases cc : k < 8
  ·have h1 := eq_true cc
   obtain ⟨gk_, egk⟩ : ∃ q, q = gk := ⟨_, rfl⟩; have HK := Aside0.mk (show k + (gk_ : Int) = 8 ∧ 0 ≤ k ∧ k < 8 ∧ gk_ = gk from ⟨by rw [egk]; exact hk, hk0, cc, egk⟩); clear egk; clear hk hk0 cc
   go_wp2_with fail
   refine (spec_l1Rd_next.calls S.out i g A c bs HB.out HI.out).mono ?_
   rintro e w_ ⟨m, rfl, hm, S1⟩
   replace S := Aside0.mk S1; clear S1; clear hm; have WN : wrap64 (k + 1) = k + 1 := w64 (by have := HK.out; omega) (by have := HK.out; omega); have WNA := Aside0.mk WN; clear WN
   go_wp2
   go_roundg (gk_ - 1)
   case measure => have := HK.out; omega
   case rel => exact ⟨_, k + 1, rfl, congrArg (Value.int .i64) WNA.out, by have := HK.out; omega, by have := HK.out; omega, S⟩
  ·have h1 := eq_false cc
   go_wp2
   go_ret
   exact ⟨_, rfl, trivial, S.out⟩
end

/-! ### spec_l1Rd_near: function 86 -/
section
open Go.Proofs.Ytfajfjgkkgigoaa.Kit
theorem near_nz (lo hi : Int) (h0 : 0 ≤ lo ∨ hi - lo ≤ 9223372036854775807) (h1 : lo ≤ hi) (h2 : hi ≤ 9223372036854775807) : IntKind.u64.wrap (wrap64 (wrap64 (hi - lo) + 1)) ≠ 0 := by
 rw [w64 (x := hi - lo) (by omega) (by omega)]
 intro h
 simp only [IntKind.wrap, wrap64, IntKind.bits, IntKind.signed] at h
 simp at h
 omega
theorem wrap_i64 (x : Int) : I64 (wrap64 x) := by
 unfold I64 wrap64
 omega
set_option maxHeartbeats 4000000 in
set_option maxRecDepth 100000 in
theorem spec_l1Rd_near.calls {base : Nat} {w0 w : World} {L : List Fact} (S : Hp base w0 w L) (i g : Nat) (A : Option Addr) (c : Nat) (bs : List Int) (hB : RdOK base w0 A bs) (hL : L[i]? = some (fRd 179 base g (.slice A bs.length c))) (lo hi : Int) (h0 : 0 ≤ lo ∨ hi - lo ≤ 9223372036854775807) (hl : I64 lo) (hh : I64 hi) :
  Calls Try.prog 86 #[.pointer (some ⟨g, 0, none⟩), .int .i64 lo, .int .i64 hi] w (NPost base w0 L .i64 I64) := by
 replace S := Aside0.mk S
 have HB := Aside0.mk hB
 have HI := Aside0.mk hL
 clear hB hL
 have HL := Aside0.mk hl
 have HH := Aside0.mk hh
 have H0 := Aside0.mk h0
 clear hl hh h0
 go_enter Try.func86, Try.ntmps86
 go_wp2_with fail
 refine (spec_l1Rd_below.calls S.out i g A c bs HB.out HI.out 8 (by omega)).mono ?_
 rintro e w_ ⟨m, rfl, hm, S1⟩
 replace S := Aside0.mk S1
 clear S1
 clear hm
 by_cases c0 : m = 0
 case pos =>
  have e0 := beq_iff_eq.2 c0; clear c0
  go_wp2
  go_ret
  exact ⟨lo, rfl, HL.out, S.out⟩
 by_cases c1 : m = 1
 case pos =>
  have e0 := beq_eq_false_iff_ne.2 c0; have e1 := beq_iff_eq.2 c1; clear c0 c1
  go_wp2
  go_ret
  exact ⟨hi, rfl, HH.out, S.out⟩
 have e0 := beq_eq_false_iff_ne.2 c0
 have e1 := beq_eq_false_iff_ne.2 c1
 clear c0 c1
 by_cases c2 : hi < lo
 case pos =>
  have e2 := eq_true c2
  go_wp2
  go_ret
  exact ⟨lo, rfl, HL.out, S.out⟩
 have e2 := eq_false c2
 have NZ := near_nz lo hi H0.out (by omega) HH.out.2
 have NZb := beq_eq_false_iff_ne.2 NZ
 clear c2
 go_wp2_with fail
 refine (spec_l1Rd_word.calls S.out i g A c bs HB.out HI.out).mono ?_
 rintro e w_ ⟨x, rfl, -, S1⟩
 replace S := Aside0.mk S1
 clear S1
 go_wp2
 go_ret
 exact ⟨_, rfl, wrap_i64 _, S.out⟩
end

/-! ### spec_l1Rd_off: function 112 -/
section
open Go.Proofs.Ytfajfjgkkgigoaa.Kit
set_option maxHeartbeats 4000000 in
set_option maxRecDepth 100000 in
theorem spec_l1Rd_off.calls {base : Nat} {w0 w : World} {L : List Fact} (S : Hp base w0 w L) (i g : Nat) (A : Option Addr) (c : Nat) (bs : List Int) (hB : RdOK base w0 A bs) (hL : L[i]? = some (fRd 179 base g (.slice A bs.length c))) (lo hi : Int) (h0 : 0 ≤ lo ∨ hi - lo ≤ 9223372036854775807) (hl : I64 lo) (hh : I64 hi) :
  Calls Try.prog 112 #[.pointer (some ⟨g, 0, none⟩), .int .i64 lo, .int .i64 hi] w (NPost base w0 L .i64 I64) := by
 replace S := Aside0.mk S
 have HB := Aside0.mk hB
 have HI := Aside0.mk hL
 clear hB hL
 have HL := Aside0.mk hl
 have HH := Aside0.mk hh
 have H0 := Aside0.mk h0
 clear hl hh h0
 go_enter Try.func112, Try.ntmps112
 go_wp2_with fail
 refine (spec_l1Rd_once.calls S.out i g A c bs HB.out HI.out 24 (by omega)).mono ?_
 rintro e w_ ⟨b, rfl, S1⟩
 replace S := Aside0.mk S1
 clear S1
 cases b with
 | false =>
  go_wp2_with fail
  refine (spec_l1Rd_near.calls S.out i g A c bs HB.out HI.out lo hi H0.out HL.out HH.out).mono ?_
  rintro e w_ ⟨m, rfl, hm, S1⟩
  replace S := Aside0.mk S1; clear S1; have HM := Aside0.mk hm; clear hm
  go_wp2
  go_ret
  exact ⟨m, rfl, HM.out, S.out⟩
 | true =>
  go_wp2_with (first | ((with_reducible refine gate_dst (N := 13) rfl ?_); refine ev_lit S (Kd.int .i64) (2) rfl rfl (xs := [wrap64 (lo - 1), wrap64 (hi + 1), -9223372036854775808, 9223372036854775807]) (inner := [.int .i64 (wrap64 (lo - 1)), .int .i64 (wrap64 (hi + 1)), .int .i64 (-9223372036854775808), .int .i64 9223372036854775807]) (by first | (go_simp; done) | (go_simp; rfl)) (Reps.one rfl (Reps.one rfl (Reps.one rfl (Reps.one rfl (Reps.none _ _))))) (by simp) (fun v13 w_ S1 => ?_); clear S; have S := S1; clear S1; obtain ⟨A13, c13, rfl⟩ := S.out.slice 0 rfl))
  refine (spec_l1Rd_below.calls S.out (i + 1) g A c bs HB.out (show (_ :: L)[i + 1]? = _ from HI.out) 4 (by omega)).mono ?_
  rintro e w_ ⟨m, rfl, hm, S1⟩
  replace S := Aside0.mk S1; clear S1; obtain ⟨ad, ek, hx⟩ := Kd.at_int (S.out.row 0 rfl).2.2 m (by omega) (by simp only [List.length_cons, List.length_nil]; omega); cases ek
  have hI : I64 (rd [wrap64 (lo - 1), wrap64 (hi + 1), -9223372036854775808, 9223372036854775807] m) := by
   have : m = 0 ∨ m = 1 ∨ m = 2 ∨ m = 3 := by omega
   rcases this with e | e | e | e <;> subst e
   ·exact wrap_i64 _
   ·exact wrap_i64 _
   ·show I64 (-9223372036854775808); unfold I64; omega
   ·show I64 9223372036854775807; unfold I64; omega
  have HIA := Aside0.mk hI; generalize rd [wrap64 (lo - 1), wrap64 (hi + 1), -9223372036854775808, 9223372036854775807] m = y at hx HIA; have hm0 := eq_true hm.1; have hm1 := eq_true (show m < (4 : Int) by omega); clear hI hm
  go_wp2
  go_ret
  exact ⟨y, rfl, HIA.out, S.out.tail⟩
end

end Go.Proofs.Ytfajfjgkkgigoaa.PFnDead
