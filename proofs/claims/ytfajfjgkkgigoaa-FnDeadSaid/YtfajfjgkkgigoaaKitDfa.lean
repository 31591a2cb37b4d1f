/- Tables that are drawn: a row of rows of which one is written or shortened; what is read of them, whoever owns it. -/
import Derived.Test.YtfajfjgkkgigoaaKitSep
import Derived.Test.YtfajfjgkkgigoaaWShare
namespace Go.Proofs.Ytfajfjgkkgigoaa.Kit
open Go.RowKit Go.Proofs.YtfajfjgkkgigoaaW.PrintWords Go.Proofs.YtfajfjgkkgigoaaW.PrintLast Go.Proofs.YtfajfjgkkgigoaaW.PrintMore

/-- a row that is read, wherever it lies -/
def fF {α : Type} (d : Kd α) (v : Value) (xs : List α) : Fact where
  P := fun W ok => ∃ A c, v = .slice A xs.length c ∧ xs.length ≤ c ∧ Kd.F d W ok A xs.length xs
  loc := by
    rintro W W' ok ok' h ⟨A, c, e, hl, hf⟩
    exact ⟨A, c, e, hl, Kd.F_mono (Kd.F_step (Kd.F_bound hf) (fun k hk hlt => (h k hk.1 hlt).1)) (fun k hk => (h k hk.1 hk.2).2)⟩
section
variable {α : Type} {base : Nat} {w0 W W' : World} {L : List Fact}
theorem fF_R {d : Kd α} {e : Nat} {v : Value} {xs : List α} (ok : Nat → Prop) (h : (fR d e base v xs).P W ok) : (fF d v xs).P W ok := by
  obtain ⟨A, c, rfl, hl, _⟩ := Kd.R_reads h
  exact ⟨A, c, rfl, hl, fun W1 hW => (Kd.R_reads' (Kd.R_move (Kd.R_bound h) (w1 := W1) (fun k hk => hW k hk.1 hk.2.2.1))).2.2⟩
theorem fF_S {d : Kd α} {e : Nat} {v : Value} {xs : List α} (ok : Nat → Prop) (h : (fS d e base v xs).P W ok) : (fF d v xs).P W ok := by
  obtain ⟨A, c, rfl, hl, _⟩ := Kd.S_reads h
  exact ⟨A, c, rfl, hl, fun W1 hW => (Kd.S_reads' (Kd.S_move (Kd.S_bound h) (w1 := W1) (fun k hk => hW k hk.1 hk.2.2.1))).2.2⟩
theorem Hp.rowF (h : Hp base w0 W L) (i : Nat) {d : Kd α} {A : Option Addr} {n c : Nat} {xs : List α} (hi : L[i]? = some (fF d (.slice A n c) xs)) : n = xs.length ∧ xs.length ≤ c ∧ d.C W A xs.length xs := by
  obtain ⟨ok, A', c', he, hl, hf⟩ := h.get i hi
  injection he with e1 e2 e3
  subst e1; subst e2; subst e3
  exact ⟨rfl, hl, Kd.F_now hf⟩
theorem Hp.sliceF (h : Hp base w0 W L) (i : Nat) {d : Kd α} {v : Value} {xs : List α} (hi : L[i]? = some (fF d v xs)) : ∃ A c, v = .slice A xs.length c := by
  obtain ⟨ok, A', c', he, _⟩ := h.get i hi
  exact ⟨A', c', he⟩
theorem Hp.rowS (h : Hp base w0 W L) (i : Nat) {d : Kd α} {e : Nat} {A : Option Addr} {n c : Nat} {xs : List α} (hi : L[i]? = some (fS d e base (.slice A n c) xs)) : n = xs.length ∧ xs.length ≤ c ∧ d.C W A xs.length xs := by
  obtain ⟨ok, q⟩ := h.get i hi
  obtain ⟨h1, h2, h3⟩ := Kd.S_reads' q
  exact ⟨h1, by omega, h3⟩
theorem Hp.formS (h : Hp base w0 W L) (i : Nat) {d : Kd α} {e : Nat} {v : Value} {xs : List α} (hi : L[i]? = some (fS d e base v xs)) (hp : 0 < xs.length) : ∃ g cap, v = .slice (some ⟨g, 0, none⟩) xs.length cap := by
  obtain ⟨ok, q⟩ := h.get i hi
  obtain ⟨g, cap, e, _⟩ := Kd.S_form q hp
  exact ⟨g, cap, e⟩
theorem Hp.noteS (h : Hp base w0 W L) (i : Nat) {d : Kd α} {e n c : Nat} {ad : Addr} {xs : List α} (hi : L[i]? = some (fS d e base (.slice (some ad) n c) xs)) {s : Nat} {u : Value} (hc : W.cell? (ad.add s) = some u) :
    Hp base w0 W (L.set i (fAnd (fS d e base (.slice (some ad) n c) xs) (fC ad s u))) :=
  h.imp i hi (fun _ q => ⟨q, q.elim (fun _ q2 => q2.1 _ rfl), hc⟩)
/-- a row of a row of rows: where it lies, and its cells -/
theorem Hp.elemS (h : Hp base w0 W L) (i : Nat) {e1 e2 g n cap : Nat} {nx : List (List Int)} (hi : L[i]? = some (fS (Kd.slice e1 (Kd.int .i64)) e2 base (.slice (some ⟨g, 0, none⟩) n cap) nx)) (s : Nat) (h1 : s < n) (hp : 0 < (nx.getD s []).length) :
    ∃ g' c, W.cell? ⟨g, s, none⟩ = some (.slice (some ⟨g', 0, none⟩) (nx.getD s []).length c) ∧ (nx.getD s []).length ≤ c ∧ ∀ j : Int, 0 ≤ j → j < (nx.getD s []).length → W.cell? ⟨g', j.toNat, none⟩ = some (.int .i64 (rdOf 0 (nx.getD s []) j)) ∧ W.frozen? ⟨g', j.toNat, none⟩ = false := by
  obtain ⟨ok, HS⟩ := h.get i hi
  obtain ⟨oki, cl, hlen, hM, hcells, hoki, hH⟩ := Kd.S_lend HS [] (s : Int) (by omega) (by omega)
  obtain ⟨v, rfl, hR⟩ := hM
  have hcv := hcells 0 v rfl
  rw [Int.toNat_natCast] at hcv hR
  rw [show s * (Kd.slice e1 (Kd.int .i64)).sz + 0 = s by show s * 1 + 0 = s; omega] at hcv
  obtain ⟨g', c, rfl, _⟩ := Kd.R_form hR hp
  have hl := (Kd.R_reads' hR).2.1
  exact ⟨g', c, hcv, hl, fun j h0 hj => Kd.R_celln 0 hR j h0 hj⟩
/-- a table that a callee has made -/
theorem hp_tab (h : Hp base w0 W L) {v0 v1 v2 : Value} {b ac : List Int} {nx : List (List Int)} {e0 e1 : Nat}
    (h0 : Kd.R (Kd.int .i64) e0 W' W.heap.size (fun k => some k ≠ v1.ownBlock ∧ some k ≠ v2.ownBlock) v0 b)
    (h1 : Kd.S (Kd.slice e0 (Kd.int .i64)) e1 W' W.heap.size (fun k => some k ≠ v0.ownBlock ∧ some k ≠ v2.ownBlock) v1 nx)
    (h2 : Kd.R (Kd.int .i64) e0 W' W.heap.size (fun k => some k ≠ v0.ownBlock ∧ some k ≠ v1.ownBlock) v2 ac) (hb : Below W.heap.size W W') :
    Hp base w0 W' (fR (Kd.int .i64) e0 base v0 b :: fS (Kd.slice e0 (Kd.int .i64)) e1 base v1 nx :: fR (Kd.int .i64) e0 base v2 ac :: L) := by
  obtain ⟨g1, g2, c, g3⟩ := h
  refine ⟨Nat.le_trans g1 hb.size, g2.trans (hb.mono g1), fun k => if W.heap.size ≤ k then (if some k = v0.ownBlock then 0 else if some k = v2.ownBlock then 2 else 1) else c k + 3, fun i F hF => ?_⟩
  match i, hF with
  | 0, hF =>
    obtain rfl := Option.some.inj hF
    have q := Kd.R_bound (Kd.R_tight rfl h0)
    exact Kd.R_lower (Kd.R_mono q (fun k hk => by show (if W.heap.size ≤ k then _ else _) = 0; rw [if_pos hk.2.1, if_pos hk.1])) g1
  | 1, hF =>
    obtain rfl := Option.some.inj hF
    exact Kd.S_lower (Kd.S_mono (Kd.S_bound h1) (fun k hk => by show (if W.heap.size ≤ k then _ else _) = 1; rw [if_pos hk.2.1, if_neg hk.1.1, if_neg hk.1.2])) g1
  | 2, hF =>
    obtain rfl := Option.some.inj hF
    have q := Kd.R_bound (Kd.R_tight rfl h2)
    exact Kd.R_lower (Kd.R_mono q (fun k hk => by show (if W.heap.size ≤ k then _ else _) = 2; rw [if_pos hk.2.1, if_neg (h2.1 k hk.1.symm).1, if_pos hk.1])) g1
  | i + 3, hF =>
    exact F.loc (fun k hk hlt => ⟨hb.block k hlt, by show (if W.heap.size ≤ k then _ else _) = _; rw [if_neg (by omega), hk]⟩) (g3 i F hF)
theorem C_tail {d : Kd α} {g m : Nat} {A' : Option Addr} {xs : List α} (hd : d.sz = 1) (h : d.C W (some ⟨g, 0, none⟩) m xs) (hA : 1 < m → A' = some ⟨g, 1, none⟩) : d.C W A' (m - 1) xs.tail := by
  obtain ⟨h1, h2, h3⟩ := h
  refine ⟨by rw [List.length_tail, h1], by omega, fun hp => ?_⟩
  obtain ⟨ad, e, h4⟩ := h3 (by omega)
  injection e with e
  subst e
  refine ⟨⟨g, 1, none⟩, hA (by omega), fun j p hj => ?_⟩
  rw [List.getElem?_tail] at hj
  obtain ⟨c, hc, hp', hcell⟩ := h4 (j + 1) p hj
  refine ⟨c, hc, hp', fun i u hu => ?_⟩
  have := hcell i u hu
  rw [add_at] at this ⊢
  rw [hd] at this ⊢
  rw [show 1 + (j * 1 + i) = 0 + ((j + 1) * 1 + i) by omega]
  exact this
/-- a row's cell is written, of a row of rows -/
theorem Hp.putIn (h : Hp base w0 W L) (i : Nat) {e1 e2 g g' n cap m c : Nat} {nx : List (List Int)} (hi : L[i]? = some (fS (Kd.slice e1 (Kd.int .i64)) e2 base (.slice (some ⟨g, 0, none⟩) n cap) nx)) (s : Int) (h0 : 0 ≤ s) (h1 : s < n) (hc : W.cell? ⟨g, s.toNat, none⟩ = some (.slice (some ⟨g', 0, none⟩) m c)) (j : Int) (x : Int) :
    Hp base w0 (W.setCell ⟨g', j.toNat, none⟩ (.int .i64 x)) (L.set i (fS (Kd.slice e1 (Kd.int .i64)) e2 base (.slice (some ⟨g, 0, none⟩) n cap) (nx.set s.toNat ((nx.getD s.toNat []).set j.toNat x)))) := by
  obtain ⟨ok, HS, _, hcl⟩ := h.open_ i hi
  obtain ⟨oki, cl, hlen, hM, hcells, hoki, hH⟩ := Kd.S_lend HS [] s h0 h1
  obtain ⟨v, rfl, hR⟩ := hM
  have hcv := hcells 0 v rfl
  rw [show s.toNat * (Kd.slice e1 (Kd.int .i64)).sz + 0 = s.toNat by show s.toNat * 1 + 0 = s.toNat; omega, hc] at hcv
  obtain rfl := Option.some.inj hcv
  obtain ⟨hn, hg⟩ := Kd.R_putg hR j x
  have hH2 := Kd.H_grown hH hg (fun k hk => hR.1 k (by rw [← hk]; simp [Value.ownBlock]))
  have hbg : base ≤ g' := Kd.R_base hR g' (by simp [Value.ownBlock])
  exact hcl _ _ (h.2.1.setCell hbg _) hg.size (fun k hk hok => hg.block k hk (fun q => hok (by injection q with q; rw [q]; exact (hoki _ (hR.1 g' (by simp [Value.ownBlock]))).1))) (Kd.H_back hH2 ⟨_, rfl, hn⟩ (fun _ q => q))
/-- a row is shortened from its front, of a row of rows: what is read then -/
theorem Hp.tailIn (h : Hp base w0 W L) (i : Nat) {e1 e2 g g' n cap m c : Nat} {nx : List (List Int)} (hi : L[i]? = some (fS (Kd.slice e1 (Kd.int .i64)) e2 base (.slice (some ⟨g, 0, none⟩) n cap) nx)) (s : Int) (h0 : 0 ≤ s) (h1 : s < n) (hm : 0 < m) (hc : W.cell? ⟨g, s.toNat, none⟩ = some (.slice (some ⟨g', 0, none⟩) m c)) (A' : Option Addr) (hA : 1 < m → A' = some ⟨g', 1, none⟩) :
    Hp base w0 (W.setCell ⟨g, s.toNat, none⟩ (.slice A' (m - 1) (c - 1))) (L.set i (fF (Kd.slice e1 (Kd.int .i64)) (.slice (some ⟨g, 0, none⟩) n cap) (nx.set s.toNat (nx.getD s.toNat []).tail))) := by
  obtain ⟨ok, HS, _, hcl⟩ := h.open_ i hi
  have hn := Kd.S_reads' HS
  obtain ⟨oki, cl, hlen, hM, hcells, hoki, hH⟩ := Kd.S_lend HS [] s h0 h1
  obtain ⟨v, rfl, hR⟩ := hM
  have hcv := hcells 0 v rfl
  have hs1 : s.toNat * (Kd.slice e1 (Kd.int .i64)).sz + 0 = s.toNat := by show s.toNat * 1 + 0 = s.toNat; omega
  rw [hs1, hc] at hcv
  obtain rfl := Option.some.inj hcv
  have hrd := Kd.R_reads' hR
  have hbg : base ≤ g := Kd.S_base HS g (by simp [Value.ownBlock])
  have hgo : ok g := by
    obtain ⟨f, hf⟩ := HS
    exact hf.1 g (by simp [Value.ownBlock])
  obtain ⟨hH2, hg2⟩ := Kd.H_seg hH h0 h1 (seg := [.slice A' (m - 1) (c - 1)]) (j := 0) (by show 0 + 1 ≤ 1; omega) (fun q hq => by rw [List.mem_singleton.1 hq]; rfl)
  rw [hs1] at hH2 hg2
  refine hcl _ _ (h.2.1.setCell hbg _) hg2.size (fun k hk hok => hg2.block k hk (fun q => hok (by injection q with q; rw [q]; exact hgo))) ⟨some ⟨g, 0, none⟩, cap, by rw [List.length_set, hn.1], by rw [List.length_set]; omega, fun W2 hW2 => ?_⟩
  have hH3 := Kd.H_step hH2 (w1 := W2) (fun k hk _ hlt => hW2 k hk hlt)
  have hR3 := Kd.R_move (Kd.R_bound hR) (w1 := W2) (fun k hk => by
    have h4 : (W.setCell ⟨g, s.toNat, none⟩ (.slice A' (m - 1) (c - 1))).heap[k]? = W.heap[k]? := Below.heap_setCell _ _ _ _ (hoki k hk.1).2
    exact (hW2 k (hoki k hk.1).1 (heap_lt h4 hk.2.2.1)).trans h4)
  have hC3 := (Kd.R_reads' hR3).2.2
  obtain ⟨_, f, hG⟩ := hH3
  obtain ⟨q1, q2, q3⟩ := (Kd.R_reads' hG).2.2
  rw [List.length_zipIdx] at q2 q3
  rw [List.length_set]
  have hl := hrd.1
  refine ⟨by rw [List.length_set], q2, fun hp => ?_⟩
  obtain ⟨ad, ea, q4⟩ := q3 hp
  refine ⟨ad, ea, fun j p hj => ?_⟩
  rw [List.getElem?_set] at hj
  by_cases hjs : s.toNat = j
  · subst hjs
    have hsl : s.toNat < nx.length := by omega
    rw [if_pos rfl, if_pos hsl] at hj
    obtain rfl := Option.some.inj hj
    obtain ⟨c', hc1, hc2, hc3⟩ := q4 s.toNat (nx[s.toNat], s.toNat) (Kd.zip_at (List.getElem?_eq_getElem hsl))
    have e2 := (hc2.1 rfl).1
    refine ⟨c', hc1, ⟨A', c - 1, ?_, ?_, ?_⟩, hc3⟩
    · rw [e2, List.length_tail, ← hl]; rfl
    · rw [List.length_tail, ← hl]; omega
    · rw [List.length_tail, ← hl]; exact C_tail rfl (by rw [hl]; exact hC3) hA
  · rw [if_neg hjs] at hj
    obtain ⟨c', hc1, hc2, hc3⟩ := q4 j (p, j) (Kd.zip_at hj)
    exact ⟨c', hc1, hc2.2 (fun e => hjs e.symm), hc3⟩
section
variable {e1 e2 g g' n cap m c s : Nat} {nx : List (List Int)}
theorem Hp.elemAt (h : Hp base w0 W L) (i : Nat) (hi : L[i]? = some (fAnd (fS (Kd.slice e1 (Kd.int .i64)) e2 base (.slice (some ⟨g, 0, none⟩) n cap) nx) (fC ⟨g, 0, none⟩ s (.slice (some ⟨g', 0, none⟩) m c)))) (h1 : s < n) (hp : 0 < (nx.getD s []).length) :
    W.cell? ⟨g, s, none⟩ = some (.slice (some ⟨g', 0, none⟩) m c) ∧ m = (nx.getD s []).length ∧ ∀ j : Int, 0 ≤ j → j < m → W.cell? ⟨g', j.toNat, none⟩ = some (.int .i64 (rdOf 0 (nx.getD s []) j)) ∧ W.frozen? ⟨g', j.toNat, none⟩ = false := by
  have zc := h.theCell i hi
  rw [add_plain] at zc
  have h2 := h.left i hi
  obtain ⟨k, c2, hx, _, hcl⟩ := h2.elemS i (List.getElem?_set_self (List.getElem?_eq_some_iff.1 hi).1) s h1 hp
  rw [zc] at hx
  injection Option.some.inj hx with q1 q2 q3
  injection q1 with q1
  injection q1 with q1
  subst q1
  exact ⟨zc, q2, fun j h0 hj => hcl j h0 (by omega)⟩
theorem Hp.putAt (h : Hp base w0 W L) (i : Nat) (hi : L[i]? = some (fAnd (fS (Kd.slice e1 (Kd.int .i64)) e2 base (.slice (some ⟨g, 0, none⟩) n cap) nx) (fC ⟨g, 0, none⟩ s (.slice (some ⟨g', 0, none⟩) m c)))) (h1 : s < n) (hp : 0 < (nx.getD s []).length) (j : Int) (x : Int) :
    Hp base w0 (W.setCell ⟨g', j.toNat, none⟩ (.int .i64 x)) (L.set i (fS (Kd.slice e1 (Kd.int .i64)) e2 base (.slice (some ⟨g, 0, none⟩) n cap) (nx.set s ((nx.getD s []).set j.toNat x)))) := by
  obtain ⟨zc, _⟩ := h.elemAt i hi h1 hp
  have h2 := h.left i hi
  have h3 := h2.putIn i (List.getElem?_set_self (List.getElem?_eq_some_iff.1 hi).1) (s : Int) (by omega) (by omega) (by rw [Int.toNat_natCast]; exact zc) j x
  rw [List.set_set, Int.toNat_natCast] at h3
  exact h3
theorem Hp.tailAt (h : Hp base w0 W L) (i : Nat) (hi : L[i]? = some (fAnd (fS (Kd.slice e1 (Kd.int .i64)) e2 base (.slice (some ⟨g, 0, none⟩) n cap) nx) (fC ⟨g, 0, none⟩ s (.slice (some ⟨g', 0, none⟩) m c)))) (h1 : s < n) (hp : 0 < (nx.getD s []).length) (A' : Option Addr) (hA : 1 < m → A' = some ⟨g', 1, none⟩) :
    Hp base w0 (W.setCell ⟨g, s, none⟩ (.slice A' (m - 1) (c - 1))) (L.set i (fF (Kd.slice e1 (Kd.int .i64)) (.slice (some ⟨g, 0, none⟩) n cap) (nx.set s (nx.getD s []).tail))) := by
  obtain ⟨zc, em, _⟩ := h.elemAt i hi h1 hp
  have h2 := h.left i hi
  have h3 := h2.tailIn i (List.getElem?_set_self (List.getElem?_eq_some_iff.1 hi).1) (s : Int) (by omega) (by omega) (by omega) (by rw [Int.toNat_natCast]; exact zc) A' hA
  rw [List.set_set, Int.toNat_natCast] at h3
  exact h3
end
end
end Go.Proofs.Ytfajfjgkkgigoaa.Kit
