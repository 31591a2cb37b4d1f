-- Written by this session's own program (wip/pr.py) over the kit's printer; contracts that the printer does not know are given by hand.
import Derived.Test.YtaemhmgcjpcicaaPFnBlocksx0
import Derived.Test.YtaemhmgcjpcicaaPFnBlocksx2
namespace Go.Proofs.Ytaemhmgcjpcicaa.PFnBlocks
open Go.RowKit Go.Proofs.YtaemhmgcjpcicaaW.PrintWords Go.Proofs.YtaemhmgcjpcicaaW.PrintLast Go.Proofs.YtaemhmgcjpcicaaW.PrintMore
attribute [local go_sem] max2_int min2_int max_two min_two max_three min_three max_four min_four   -- for this text's walks alone
set_option linter.unusedVariables false
set_option linter.unusedSimpArgs false

/-! ### impl_blocks: function 116 -/
section
open Go.Proofs.Ytaemhmgcjpcicaa.Kit Go.Maps
def inB (c : List S33) (b : Nat) : Bool := decide (InTo (c.map spP) c.length b)
def sgs (l : List (List S33)) (b : Nat) : List Int := l.map (fun c => if inB c b = true then 1 else 0)
def sgU (l : List (List S33)) (b : Nat) : List UInt8 := (sgs l b).map (fun n => UInt8.ofNat n.toNat)
def blkF (l : List (List S33)) : Nat → Nat → List (List UInt8) → List Int → List Int × Int
  | 0, _, ks, out => (out, (ks.length : Int))
  | d + 1, b, ks, out => match ks.findIdx? (fun s => decide (s = sgU l b)) with
    | some i => blkF l d (b + 1) ks (out ++ [(i : Int)])
    | none => blkF l d (b + 1) (ks ++ [sgU l b]) (out ++ [(ks.length : Int)])
def impl_blocks.f (l0 : List (List S33)) : Option (List Int × Int) := if (∀ c ∈ l0, classOk (c.map spP)) ∧ l0.length ≤ 500 then some (blkF l0 256 0 [] []) else none
open Classical in
noncomputable def LK (ks : List (List UInt8)) (z : Lit) : Option Int := (ks.findIdx? (fun s => decide (z = .string s))).map Int.ofNat
theorem LK_at (ks : List (List UInt8)) (s : List UInt8) : LK ks (.string s) = (ks.findIdx? (fun t => decide (t = s))).map Int.ofNat := by
  unfold LK
  congr 2
  funext t
  refine decide_eq_decide.2 ⟨fun h => ?_, fun h => by rw [h]⟩
  injection h with h
  exact h.symm
open Classical in
theorem LK_snoc (ks : List (List UInt8)) (s : List UInt8) (h : ks.findIdx? (fun t => decide (t = s)) = none) : LK (ks ++ [s]) = fun z => if z = .string s then some (ks.length : Int) else LK ks z := by
  funext z
  unfold LK
  rw [List.findIdx?_append]
  by_cases e : z = .string s
  · subst e
    have h2 : ks.findIdx? (fun t => decide ((Lit.string s) = .string t)) = none := by
      rw [List.findIdx?_eq_none_iff] at h ⊢
      intro x hx
      have := h x hx
      rw [decide_eq_false_iff_not] at this ⊢
      intro q
      injection q with q
      exact this q.symm
    rw [if_pos rfl, h2]
    simp
  · rw [if_neg e]
    have h3 : ([s] : List (List UInt8)).findIdx? (fun t => decide (z = .string t)) = none := by
      rw [List.findIdx?_eq_none_iff]
      intro x hx
      rw [List.mem_singleton] at hx
      subst hx
      exact decide_eq_false e
    rw [h3]
    simp
theorem LK_nil : LK [] = fun _ => none := by funext z; rfl
/-- the flags of a class, as cells -/
def arrV (c : List S33) : List Value := ((List.range 256).map (fun b => Value.bool (inB c b)))
theorem arrV_len (c : List S33) : (arrV c).length = 256 := by simp [arrV]
theorem arrV_of (c : List S33) (arr : List Bool) (ha : arr.length = 256) (hm : ∀ b, b < 256 → (arr.getD b false = true ↔ InTo (c.map spP) c.length b)) : (flags arr).toList = arrV c := by
  unfold flags arrV
  rw [List.toList_toArray]
  apply List.ext_getElem
  · simp [ha]
  · intro i h1 h2
    simp only [List.length_map] at h1
    simp only [List.getElem_map, List.getElem_range]
    congr 1
    have := hm i (by omega)
    rw [List.getD_eq_getElem?_getD, List.getElem?_eq_getElem h1, Option.getD_some] at this
    unfold inB
    cases hv : arr[i]
    · rw [hv] at this; exact (decide_eq_false (fun q => by simpa using this.2 q)).symm
    · rw [hv] at this; exact (decide_eq_true (this.1 rfl)).symm
theorem arrV_one (c : List S33) : ∀ u ∈ arrV c, u.oneCell' = true := by
  intro u hu
  unfold arrV at hu
  rw [List.mem_map] at hu
  obtain ⟨b, _, rfl⟩ := hu
  rfl
theorem fill_one {n : Nat} (hn : 0 < n) (cells : Array Value) (c : List Value) (hc : c.length = n) (hz : cells.size = n) : Instr.fill (fun i => some (i * n, n)) cells [(0, .agg c.toArray)] = some c.toArray := by
  have hcs : (Value.agg c.toArray).cells = c.toArray := rfl
  obtain ⟨r, hr, hsz, hk⟩ := Great.fill_dense (s := n) hn [Value.agg c.toArray] 0 cells (fun v hv => by rw [List.mem_singleton] at hv; subst hv; rw [hcs]; simp [hc]) (by simp [hz])
  have hr2 : Instr.fill (fun i => some (i * n, n)) cells [(0, .agg c.toArray)] = some r := hr
  rw [hr2]
  congr 1
  apply Array.ext_getElem?
  intro k
  rw [hk k]
  by_cases hlt : k < n
  · rw [if_pos (by simp; omega)]
    simp only [Nat.zero_mul, Nat.sub_zero, Nat.div_eq_of_lt hlt, Nat.mod_eq_of_lt hlt, List.getElem?_cons_zero, Option.bind_some, hcs]
  · rw [if_neg (by simp; omega)]
    rw [Array.getElem?_eq_none (by omega), Array.getElem?_eq_none (by simp; omega)]
theorem build_row {P : Program} {ops : Array Oper} {rest : List Oper} {o : Oper} {a : Act} {w : World} {Q : Exit → Act → World → Prop} (hg : o.guard = none) (t e : TypeId) (x : Operand) (ho : o.op = .buildSlice t 1 #[(0, x)]) (z : Value) (n bytes : Nat) (c : List Value)
    (hu : P.underlying t = some (.slice e)) (hinfo : (P.info? e).map (fun i => (i.zero, i.size, i.bytes)) = some (some z, n, bytes)) (hz : z.cells.size = n) (hn : 0 < n) (hn2 : n ≤ 2 ^ 24) (hc : c.length = n) (hx : a.eval x = .agg c.toArray)
    (h : wpList P ops Q rest (a.put o.dst (.slice (some ⟨w.heap.size, 0, none⟩) 1 1)) (w.alloc (.cells c.toArray e))) : wpList P ops Q (o :: rest) a w := by
  obtain ⟨ie, hie, hh⟩ := Option.map_eq_some_iff.1 hinfo
  injection hh with h1 hh
  injection hh with h2 h3
  refine wpList_buildSlice hg t e 1 _ ho c.toArray ie z hu hie h1 (by rw [h2]; omega) (by rw [h2]; omega) ?_ h
  rw [h2]
  have := fill_one hn ((Array.range (1 * n)).map (z.cells[· % z.cells.size]!)) c hc (by simp)
  have e : ((#[((0 : Nat), x)] : Array (Nat × Operand)).map fun (i, x) => (i, a.eval x)).toList = [(0, a.eval x)] := by simp
  rw [e, hx]
  exact this
theorem zero_size : Try.zeroCells160.size = 256 := by kernel_rfl
theorem infoB : (Try.prog.info? 160).map (fun i => (i.zero, i.size, i.bytes)) = some (some (.agg Try.zeroCells160), 256, 256) := by kernel_rfl
theorem NumB.below {P : Program} {k e : TypeId} {w w' : World} {b n c : Nat} {L : Lit → Option Int} (h : NumB w P k e b n L c) (hb : Below w.heap.size w w') : NumB w' P k e b n L c := h.kept (row := none) ⟨hb.os, hb.tape, hb.output, hb.size, fun i hi _ => hb.block i hi⟩ (by simp)
theorem NumB.ne_row {w : World} {P : Program} {k e : TypeId} {b n c : Nat} {L : Lit → Option Int} {α : Type} {d : Kd α} {t base : Nat} {ok : Nat → Prop} {v : Value} {xs : List α} (h : NumB w P k e b n L c) (hr : d.R t w base ok v xs) : v.ownBlock ≠ some b := by
  intro hv
  obtain ⟨D, ⟨es, clock, hb, _⟩, _⟩ := h
  obtain ⟨q, _, cells, hc⟩ := (Kd.R_bound hr).1 b hv |>.2.2.2
  rw [hb] at hc
  cases hc
theorem sgs_len (l : List (List S33)) (b : Nat) : (sgs l b).length = l.length := by simp [sgs]
/-- the signs of the first i classes, the others' still none -/
def sgI (l : List (List S33)) (b i : Nat) : List Int := sgs (l.take i) b ++ List.replicate (l.length - i) 0
theorem sgI_zero (l : List (List S33)) (b : Nat) : sgI l b 0 = List.replicate l.length 0 := by simp [sgI, sgs]
theorem sgI_end (l : List (List S33)) (b : Nat) : sgI l b l.length = sgs l b := by simp [sgI]
theorem sgI_len (l : List (List S33)) (b i : Nat) (hi : i ≤ l.length) : (sgI l b i).length = l.length := by simp [sgI, sgs]; omega
theorem sgI_step (l : List (List S33)) (b i : Nat) (hi : i < l.length) (c : List S33) (hc : c = l[i]) : sgI l b (i + 1) = if inB c b = true then (sgI l b i).set i 1 else sgI l b i := by
  subst hc
  have e1 : sgs (l.take (i + 1)) b = sgs (l.take i) b ++ [if inB l[i] b = true then 1 else 0] := by
    unfold sgs
    rw [List.take_succ_eq_append_getElem hi, List.map_append]
    rfl
  have e2 : List.replicate (l.length - i) (0 : Int) = 0 :: List.replicate (l.length - (i + 1)) 0 := by
    rw [show l.length - i = (l.length - (i + 1)) + 1 by omega, List.replicate_succ]
  have e3 : (sgs (l.take i) b).length = i := by rw [sgs_len, List.length_take]; omega
  unfold sgI
  rw [e1, e2]
  by_cases h : inB l[i] b = true
  · rw [if_pos h, if_pos h, List.set_append_right _ _ (by omega), e3, Nat.sub_self, List.set_cons_zero]
    simp
  · rw [if_neg h, if_neg h]
    simp
theorem sgU_key (l : List (List S33)) (b : Nat) : (strOfNums (sgs l b)).data.toList = sgU l b := rfl
set_option maxHeartbeats 4000000 in
set_option maxRecDepth 100000 in
theorem impl_blocks.calls (A0 : Option Addr) (c0 : Nat) (l0 : List (List S33)) (r1 : List Int) (r2 : Int) (w : World) (hr0 : Kd.C (Kd.slice 33 k33) w A0 l0.length l0) (hc0 : l0.length ≤ c0) (h : impl_blocks.f l0 = some (r1, r2)) :
    Calls Try.prog 116 #[.slice A0 l0.length c0] w fun e w' => ∃ v0_ : Value, e = .returned (.tuple #[v0_, .int .i64 r2]) ∧ Kd.R (Kd.int .i64) 2 w' w.heap.size (fun _ => True) v0_ r1 ∧ Below w.heap.size w w' := by
  unfold impl_blocks.f at h
  by_cases hz : (∀ c ∈ l0, classOk (c.map spP)) ∧ l0.length ≤ 500
  case neg => rw [if_neg hz] at h; exact absurd h (by simp)
  rw [if_pos hz] at h
  have HF := Aside0.mk (Option.some.inj h)
  have HR0 := Aside0.mk hr0
  have HC0 := Aside0.mk hc0
  have HOK := Aside0.mk hz.1
  have HN := Aside0.mk hz.2
  clear h hr0 hc0 hz
  have hmm := @run_makeMap Try.prog
  have LAW := Aside0.mk (show Keyed Try.prog 9 from string_keyed Try.underlying9)
  have ZE := Aside0.mk (fun w : World => (show (zeroValue 2).run Try.prog w = .ok (.int .i64 0) w by kernel_rfl))
  go_enter Try.func116, Try.ntmps116
  go_wp2_with (first | ((with_reducible refine gate_dst (N := 15) rfl ?_); refine Kd.R_lit (Kd.raw 256) _ 160 ?hg (N := 15) ?hd (xs := ([] : List (List Value))) (inner := []) (ok := fun _ => True) (okp := fun _ => True) ?hr ?hp (fun _ hk => hk) trivial (Below.refl _ _) (Nat.le_refl _) (by simp) ?_; (case hd => rfl); (case hg => rfl); (case hr => first | (go_simp; done) | (go_simp; rfl)); (case hp => exact (Reps.none _ _)); intro v4 w1 ho hb hg_ hnew_; clear hg_ hnew_; have HO4 := Aside0.mk ho; have HB := Aside0.mk hb; clear hb ho))
  go_loopg [4, 18] l0.length (fun gk v4 v18 wr => ∃ i : Nat, i ≤ l0.length ∧ l0.length - i ≤ gk ∧ v18 = .int .i64 i ∧ Aside0 (Kd.R (Kd.raw 256) 160 wr w.heap.size (fun _ => True) v4 ((l0.take i).map arrV)) ∧ Aside0 (Below w.heap.size w wr))
  case atStart => exact ⟨0, by omega, by omega, rfl, ⟨HO4.out⟩, HB⟩
  case round =>
    clear HO4 HB
    obtain ⟨i, hi, hg, rfl, HO4, HB⟩ := hrel
    by_cases hlt : i < l0.length
    · obtain ⟨ad, c, e, _, hK, hc0⟩ := Kd.C_get HR0.out ([] : List S33) (i : Int) (by omega) (by omega)
      obtain ⟨A1, c1, rfl, l1, g1⟩ := hK
      have hx : w.cell? (ad.add i) = some (.slice A1 (l0.getD (i : Int).toNat []).length c1) := by
        have q := hc0 0 _ rfl
        have e9 : (Kd.slice 33 k33).sz = 1 := rfl
        rw [e9] at q
        simpa using q
      cases e
      replace hx := (HB.out.cell (World.block_lt_of_cell? w _ hx)).trans hx
      have hok := HOK.out (l0.getD (i : Int).toNat []) (by rw [Int.toNat_natCast, List.getD_eq_getElem?_getD, List.getElem?_eq_getElem hlt]; exact List.getElem_mem hlt)
      have htk : (l0.take (i + 1)).map arrV = (l0.take i).map arrV ++ [arrV (l0.getD (i : Int).toNat [])] := by
        rw [List.take_succ_eq_append_getElem hlt, List.map_append, Int.toNat_natCast, List.getD_eq_getElem?_getD, List.getElem?_eq_getElem hlt]; rfl
      generalize l0.getD (i : Int).toNat [] = cl at *
      have HG := Aside0.mk g1
      have HL := Aside0.mk l1
      have HK := Aside0.mk hok
      have HTK := Aside0.mk htk
      clear hc0 g1 l1 hok htk
      have hcond := eq_true (show (i : Int) < (l0.length : Int) by omega)
      have hcond0 := eq_true (show (0 : Int) ≤ (i : Int) by omega)
      have HLT := Aside0.mk hlt
      clear hlt hi
      go_wp2_with fail
      refine (bytesOf_calls A1 c1 cl _ (Kd.C_below HG.out HB.out) HL.out HK.out).mono ?_
      rintro e w2 ⟨arr, rfl, ha, hm, hb⟩
      have hav := arrV_of cl arr ha hm
      have efl : flags arr = (arrV cl).toArray := by rw [← hav, Array.toArray_toList]
      rw [efl]
      replace HO4 := Aside0.mk (Kd.R_below HO4.out hb)
      replace HB := Aside0.mk (below_step HB.out hb)
      clear hb ha hm hav efl arr hx
      go_upto_region 6 with (first
        | ((with_reducible refine gate_dst (N := 25) rfl ?_); refine build_row rfl 221 160 (.tmp 24) rfl (.agg Try.zeroCells160) 256 256 (arrV cl) Try.underlying221 infoB (by kernel_rfl) (by decide) (by decide) (arrV_len cl) rfl ?_; refine wpList_frame (a' := ?fr) ?fe ?_; (case fe => simp only [Act.put, List.setIfInBounds_toArray, List.set_cons_zero, List.set_cons_succ]; rfl))
        | ((with_reducible refine gate_builtin (b := .append) (xs := #[.tmp 22, .tmp 25]) rfl ?_); at_builtin; refine Kd.R_append (Kd.raw 256) (w0 := w) w.heap.size rfl (.tmp 22) (.tmp 25) 221 160 (.agg Try.zeroCells160) 256 rfl Try.underlying221 infoB (by kernel_rfl) (by decide) (by omega) u4 ((l0.take i).map arrV) (arrV cl) (arrV cl) (fun _ => True) (fun _ => False) rfl rfl ?aP (fun _ hk => hk.elim) ?aF ?aO ?aB ?aS ?aL ?_; (case aP => exact ⟨rfl, arrV_len cl, arrV_one cl⟩); (case aB => exact HB.out); (case aF => exact (fun _ _ => trivial)); (case aO => exact HO4.out); (case aS => exact (below_size HB.out)); (case aL => rw [List.length_map, List.length_take]; have := HN.out; omega); intro v8 w9 ho hb hg2 hat))
      go_wp2
      go_roundg (l0.length - (i + 1))
      case measure => have := HLT.out; omega
      case rel => exact ⟨i + 1, by have := HLT.out; omega, by omega, by have := HLT.out; have := HN.out; show Value.int .i64 (wrap64 ((i : Int) + 1)) = _; rw [w64 (by omega) (by omega)]; rfl, ⟨by rw [HTK.out]; exact ho⟩, ⟨hb⟩⟩
    · have hcond := eq_false (show ¬ (i : Int) < (l0.length : Int) by omega)
      have ei : i = l0.length := by omega
      subst ei
      rw [List.take_length] at HO4
      clear hlt hi hg
      obtain ⟨bm, ebm⟩ : ∃ q, q = wr.heap.size := ⟨_, rfl⟩
      have GM := Aside0.mk (show w.heap.size ≤ bm by rw [ebm]; exact HB.out.size)
      have hbm : Below wr.heap.size wr (wr.alloc (.map #[] 0)) := below_alloc (Below.refl _ _) _
      have hmm2 := NumB.made wr Try.prog 9 2
      obtain ⟨S, hS⟩ : ∃ S, S = l0.map arrV := ⟨_, rfl⟩
      rw [← hS] at HO4
      have HSL := Aside0.mk (show S.length = l0.length by rw [hS, List.length_map])
      have HSG := Aside0.mk (show ∀ i, (hi : i < l0.length) → S.getD i [] = arrV l0[i] by
        intro i hi
        rw [hS, List.getD_eq_getElem?_getD, List.getElem?_map, List.getElem?_eq_getElem hi]
        rfl)
      have HMM := Aside0.mk hmm2
      have HBM := Aside0.mk hbm
      clear hS hbm hmm2
      go_upto_region 8 with (first | ((with_reducible refine gate_dst (N := 29) rfl ?_); refine Kd.R_lit (Kd.int .i64) _ 2 ?hg (N := 29) ?hd (xs := ([] : List Int)) (inner := []) (ok := fun _ => True) (okp := fun _ => True) ?hr ?hp (fun _ hk => hk) trivial (Below.refl _ _) (Nat.le_refl _) (by simp) ?_; (case hd => rfl); (case hg => rfl); (case hr => first | (go_simp; done) | (go_simp; rfl)); (case hp => exact (Reps.none _ _)); intro v29 w3 ho hb hg_ hnew_))
      have HO8 := Aside0.mk (Kd.R_lower ho (Nat.le_trans HB.out.size HBM.out.size))
      have HNB := Aside0.mk (NumB.below HMM.out hb)
      replace HO4 := Aside0.mk (Kd.R_below (Kd.R_below HO4.out HBM.out) hb)
      replace HB := Aside0.mk (below_step (below_step HB.out HBM.out) hb)
      clear ho hb hg_ hnew_ HBM HMM
      rw [← ebm] at HNB ⊢
      clear ebm
      obtain ⟨As, cs, rfl⟩ := Kd.R_slice HO4.out
      go_wp2_with fail
      go_loopg [8, 30] 256 (fun gk v8 v30 wr => ∃ (b : Nat) (ks : List (List UInt8)) (out : List Int), b ≤ 256 ∧ 256 - b ≤ gk ∧ v30 = .int .i64 b ∧ Aside0 (blkF l0 (256 - b) b ks out = (r1, r2)) ∧ Aside0 (out.length ≤ b) ∧ Aside0 (Kd.R (Kd.int .i64) 2 wr w.heap.size (fun _ => True) v8 out) ∧ Aside0 (∃ n', n' ≤ b ∧ NumB wr Try.prog 9 2 bm n' (LK ks) ks.length) ∧ Aside0 (Kd.R (Kd.raw 256) 160 wr w.heap.size (fun _ => True) (.slice As S.length cs) S) ∧ Aside0 (Below w.heap.size w wr))
      case atStart => exact ⟨0, [], [], by omega, by omega, rfl, HF, ⟨Nat.le_refl _⟩, HO8, ⟨0, Nat.le_refl _, by rw [LK_nil]; exact HNB.out⟩, HO4, HB⟩
      case round =>
        clear HF HO8 HNB HO4 HB
        obtain ⟨b, ks, out, hb, hg, rfl, HF, HOL, HO8, HNB, HO4, HB⟩ := hrel
        by_cases hlt : b < 256
        · obtain ⟨y, hy⟩ : ∃ y : List Int, y = List.replicate ((S.length : Int)).toNat 0 := ⟨_, rfl⟩
          have HY := Aside0.mk hy
          have HYL := Aside0.mk (show y.length = l0.length by rw [hy, List.length_replicate, Int.toNat_natCast, HSL.out])
          have HYI := Aside0.mk (show y = sgI l0 b 0 by rw [hy, Int.toNat_natCast, HSL.out, sgI_zero])
          have hcond := eq_true (show (b : Int) < 256 by omega)
          have hcond0 := eq_true (show (0 : Int) ≤ (b : Int) by omega)
          have HLT := Aside0.mk hlt
          have p1 : decide (0 ≤ (S.length : Int)) = true := decide_eq_true (by omega)
          have p2 : decide ((S.length : Int).toNat ≤ 281474976710656) = true := decide_eq_true (by have := HN.out; have := HSL.out; omega)
          have p1b := eq_true (show 0 ≤ (S.length : Int) by omega)
          have p2b := eq_true (show ((S.length : Int)).toNat ≤ 281474976710656 by have := HN.out; have := HSL.out; omega)
          clear hlt hb hy
          go_upto_region 12 with (first | ((with_reducible refine gate_dst (N := 35) rfl ?_); refine Kd.R_make (Kd.int .u8) _ 5 rfl (N := 35) rfl 22 _ _ rfl (S.length : Int) rfl rfl Try.underlying22 (.int .u8 0) 1 info5 rfl (by decide) (by omega) 0 (ok := fun _ => True) (okp := fun _ => True) rfl (fun _ hk => hk) trivial (of_decide_eq_true (by first | (with_reducible assumption) | assumption)) (Nat.le_trans (Nat.mul_le_mul_right _ (of_decide_eq_true (by first | (with_reducible assumption) | assumption) : (S.length : Int).toNat ≤ 281474976710656)) (by omega)) (Below.refl _ _) (Nat.le_refl _) ?_; intro v35 w4 ho hb hg_ hnew_))
          rw [← HY.out, HYI.out] at ho
          replace HO8 := Aside0.mk (Kd.R_below HO8.out hb)
          replace HNB := Aside0.mk (show ∃ n', n' ≤ b ∧ NumB w4 Try.prog 9 2 bm n' (LK ks) ks.length from HNB.out.elim (fun n' h => ⟨n', h.1, NumB.below h.2 hb⟩))
          replace HO4 := Aside0.mk (Kd.R_below HO4.out hb)
          have HO10 := Aside0.mk (Kd.R_lower ho HB.out.size)
          replace HB := Aside0.mk (below_step HB.out hb)
          clear ho hb hg_ hnew_ p1 p2 p1b p2b HY HYI HYL
          obtain ⟨Ai, ci, rfl⟩ := Kd.R_slice HO10.out
          have HIL := Aside0.mk (sgI_len l0 b 0 (Nat.zero_le _))
          generalize hz : (sgI l0 b 0).length = zl at HO10 HIL ⊢
          have HO10 := Aside0.mk (show Kd.R (Kd.int .u8) 5 w4 w.heap.size (fun _ => True) (.slice Ai zl ci) (sgI l0 b 0) from HO10.out)
          clear hz
          go_wp2_with fail
          go_loopg [38] l0.length (fun gk2 v38 wr2 => ∃ (i : Nat), i ≤ l0.length ∧ l0.length - i ≤ gk2 ∧ v38 = .int .i64 i ∧ Aside0 (Kd.R (Kd.int .u8) 5 wr2 w.heap.size (fun _ => True) (.slice Ai zl ci) (sgI l0 b i)) ∧ Aside0 (Kd.R (Kd.int .i64) 2 wr2 w.heap.size (fun _ => True) u8 out) ∧ Aside0 (∃ n', n' ≤ b ∧ NumB wr2 Try.prog 9 2 bm n' (LK ks) ks.length) ∧ Aside0 (Kd.R (Kd.raw 256) 160 wr2 w.heap.size (fun _ => True) (.slice As S.length cs) S) ∧ Aside0 (Below w.heap.size w wr2))
          case atStart => exact ⟨0, Nat.zero_le _, by omega, rfl, HO10, HO8, HNB, HO4, HB⟩
          case round =>
            clear HO10 HO8 HNB HO4 HB
            obtain ⟨i, hi, hg2, rfl, HO10, HO8, HNB, HO4, HB⟩ := hrel
            by_cases hil : i < l0.length
            · have hci := eq_true (show (i : Int) < (S.length : Int) by have := HSL.out; omega)
              have hci0 := eq_true (show (0 : Int) ≤ (i : Int) by omega)
              have hcz := eq_true (show (i : Int) < (zl : Int) by have := HIL.out; omega)
              obtain ⟨gs, cs', eS, gsb, gsl, _, HGS⟩ := Kd.R_form HO4.out (by have := HSL.out; omega)
              cases eS
              obtain ⟨gi, ci', eI, gib, gil, cI, HGI⟩ := Kd.R_form HO10.out (by rw [sgI_len _ _ _ hi]; omega)
              rw [sgI_len _ _ _ hi, ← HIL.out] at eI
              cases eI
              obtain ⟨cel, hcel, hM, hrd, _⟩ := Kd.R_elem HO4.out [] (i : Int) (by omega) (by have := HSL.out; omega)
              obtain ⟨rfl, _, _⟩ := hM
              rw [Int.toNat_natCast, HSG.out i hil] at hrd hcel
              have HRA := Aside0.mk (show wr.rangeAt gs (i * 256) (arrV l0[i]) from hrd)
              have hcl : ∃ c, c = l0[i] := ⟨_, rfl⟩
              obtain ⟨cl, ecl⟩ := hcl
              rw [← ecl] at HRA
              have HST := Aside0.mk (sgI_step l0 b i hil cl ecl)
              have HIL2 := Aside0.mk hil
              clear hrd hcel hil hi ecl gsb gsl HGS
              have hst := run_storeCells_new (P := Try.prog) wr 160 Try.zeroCells160 (arrV cl).toArray (by rw [List.size_toArray, arrV_len]; kernel_rfl) (zero_size.trans (by rw [List.size_toArray, arrV_len])) (by rw [Array.all_eq_true_iff_forall_mem]; intro v hv; exact arrV_one cl v (List.mem_toArray.1 hv))
              rw [List.toList_toArray] at hst
              have hbx : Below wr.heap.size wr (wr.alloc (.cells (arrV cl).toArray 160)) := below_alloc (Below.refl _ _) _
              have HBX := Aside0.mk hbx
              have HGP := Aside0.mk (heap_alloc_last wr (.cells (arrV cl).toArray 160))
              clear hbx
              go_upto_region 15 with (first
                | ((with_reducible refine gate_dst (N := 42) rfl ?_); have q1 : (Try.prog.info? 160).map (·.size) = some (arrV cl).length := (by rw [arrV_len]; kernel_rfl); refine wpList_load_mid rfl 160 (.tmp 41) rfl gs (i * 256) ?ax (arrV cl) (.array 256 4) HRA.out Try.underlying160 rfl q1 ?_; (case ax => rfl); refine wpList_frame (a' := ?fr2) ?fe2 ?_; (case fe2 => simp only [Act.put, List.setIfInBounds_toArray, List.set_cons_zero, List.set_cons_succ]; rfl))
                | fail)
              obtain ⟨gp, egp⟩ : ∃ q, q = wr.heap.size := ⟨_, rfl⟩
              have HW := Aside0.mk (show ∀ k, k < wr.heap.size → k < gp from fun k hk => by rw [egp]; exact hk)
              have gpb := Aside0.mk (show w.heap.size ≤ gp by rw [egp]; exact HB.out.size)
              replace HO10 := Aside0.mk (Kd.R_below HO10.out HBX.out)
              replace HO8 := Aside0.mk (Kd.R_below HO8.out HBX.out)
              replace HNB := Aside0.mk (HNB.out.elim (fun n' h => (⟨n', h.1, NumB.below h.2 HBX.out⟩ : ∃ n', n' ≤ b ∧ NumB (wr.alloc (.cells (arrV cl).toArray 160)) Try.prog 9 2 bm n' (LK ks) ks.length)))
              replace HO4 := Aside0.mk (Kd.R_below HO4.out HBX.out)
              replace HB := Aside0.mk (below_step HB.out HBX.out)
              generalize wr.alloc (.cells (arrV cl).toArray 160) = w5 at HO10 HO8 HNB HO4 HB HGP HBX ⊢
              rw [← egp] at HGP ⊢
              clear hst HRA egp HBX
              have hz : w5.cell? ⟨gp, b, none⟩ = some (.bool (inB cl b)) := by
                refine (blk_cell HGP.out b).trans ?_
                have := HLT.out
                unfold arrV
                rw [List.getElem?_toArray, List.getElem?_map, List.getElem?_range (by omega)]
                rfl
              have hst := HST.out
              clear HST HGP
              by_cases hin : inB cl b = true
              · rw [hin] at hz
                rw [if_pos hin] at hst
                have HST := Aside0.mk hst
                obtain ⟨hx10, hf10⟩ := Kd.R_celln 0 HO10.out (i : Int) (by omega) (by have := HIL.out; have := HIL2.out; omega)
                have HP := Kd.R_putg HO10.out (i : Int) 1
                rw [Int.toNat_natCast] at hx10 hf10 HP
                have HPP := Aside0.mk HP
                clear hst HP hin
                go_wp2_with (first | ((with_reducible refine gate_store (t := 5) (p := 48) rfl ?_); refine store_event (t := 5) (p := 48) (v := ?vo_b) (w1 := (w5.setCell ⟨gi, i, none⟩ (.int .u8 1))) ?hg ?ho ?hn ?hr ?_; (case ho => rfl); (case hg => rfl); (case hn => rfl); (case hr => first | (go_simp; done) | (go_simp; rfl)); intro w6 hw))
                go_roundg (l0.length - (i + 1))
                case measure => have := HIL2.out; omega
                case rel => exact ⟨i + 1, by have := HIL2.out; omega, by omega, by have := HIL2.out; have := HN.out; show Value.int .i64 (wrap64 ((i : Int) + 1)) = _; rw [w64 (by omega) (by omega)]; rfl, ⟨by rw [HST.out]; exact HPP.out.1⟩, ⟨Kd.R_over' (v := (.slice (some ⟨gi, 0, none⟩) zl ci)) HO8.out (Kd.R_typed HO10.out) (by decide) HPP.out.2⟩, HNB.out.elim (fun n' h => ⟨⟨n', h.1, h.2.kept HPP.out.2 (fun e_ => NumB.ne_row h.2 HO10.out e_.symm)⟩⟩), ⟨Kd.R_over' (v := (.slice (some ⟨gi, 0, none⟩) zl ci)) HO4.out (Kd.R_typed HO10.out) (by decide) HPP.out.2⟩, ⟨below_set HB.out gib⟩⟩
              · rw [Bool.eq_false_iff.2 hin] at hz
                rw [if_neg hin] at hst
                have HST := Aside0.mk hst
                clear hst hin
                go_wp2
                go_roundg (l0.length - (i + 1))
                case measure => have := HIL2.out; omega
                case rel => exact ⟨i + 1, by have := HIL2.out; omega, by omega, by have := HIL2.out; have := HN.out; show Value.int .i64 (wrap64 ((i : Int) + 1)) = _; rw [w64 (by omega) (by omega)]; rfl, ⟨by rw [HST.out]; exact HO10.out⟩, HO8, HNB, HO4, HB⟩
            · have hci := eq_false (show ¬ (i : Int) < (S.length : Int) by have := HSL.out; omega)
              have ei : i = l0.length := by omega
              subst ei
              rw [sgI_end] at HO10
              have HZ := Aside0.mk (show zl = (sgs l0 b).length by rw [HIL.out, sgs_len])
              clear hil hi hg2
              have hcv := own_string (P := Try.prog) Try.underlying22 Try.underlying5 Try.underlying9 (Kd.own_of_R HO10.out)
              have hkey : keyOf Try.prog 9 (.string (strOfNums (sgs l0 b))) = some (.string (sgU l0 b)) := (Go.WideMaps.keyOf_string_mk Try.underlying9 (by rw [strOfNums_size, sgs_len]; have := HN.out; unfold maxLen; omega)).trans (by rw [sgU_key])
              obtain ⟨nm, hnm, hs⟩ := HNB.out
              have hlook := hs.look_ok LAW.out Try.underlying222 Try.underlying2 (ZE.out _) hkey
              have hlat := LK_at ks (sgU l0 b)
              obtain ⟨st, est⟩ : ∃ st, st = strOfNums (sgs l0 b) := ⟨_, rfl⟩
              rw [← est] at hcv hkey hlook
              have HF2 := HF.out
              rw [show 256 - b = (255 - b) + 1 by have := HLT.out; omega, blkF] at HF2
              cases hfi : ks.findIdx? (fun s => decide (s = sgU l0 b)) with
              | some j =>
                rw [hfi] at hlat HF2
                rw [hlat] at hlook
                simp only [Option.map_some, Option.getD_some, Option.isSome_some] at hlook HF2
                rw [Int.ofNat_eq_natCast] at hlook
                have hlook2 := hs.look LAW.out Try.underlying222 Try.underlying2 (ZE.out _) hkey
                rw [hlat] at hlook2
                simp only [Option.map_some, Option.getD_some] at hlook2
                rw [Int.ofNat_eq_natCast] at hlook2
                have HNM := Aside0.mk hnm
                have HSS := Aside0.mk hs
                have HF3 := Aside0.mk HF2
                clear hs hnm HF2 hlat hfi hkey est HNB
                go_wp2_with (first | ((with_reducible refine gate_builtin (b := .append) (xs := #[.tmp 64, .tmp 69]) rfl ?_); at_builtin; refine Kd.R_append (Kd.int .i64) (w0 := w) w.heap.size rfl (.tmp 64) (.tmp 69) 29 2 (.int .i64 0) 8 rfl Try.underlying29 info2 rfl (by decide) (by omega) u8 out (j : Int) [.int .i64 (j : Int)] (fun _ => True) (fun _ => False) rfl rfl ?aP (fun _ hk => hk.elim) ?aF ?aO ?aB ?aS ?aL ?_; (case aP => exact rfl); (case aB => exact HB.out); (case aF => exact (fun _ _ => trivial)); (case aO => exact HO8.out); (case aS => exact (below_size HB.out)); (case aL => have := HOL.out; have := HLT.out; omega); intro v9 w9 ho hb hg2 hat))
                go_roundg (256 - (b + 1))
                case measure => have := HLT.out; omega
                case rel => exact ⟨b + 1, ks, out ++ [(j : Int)], by have := HLT.out; omega, by omega, by have := HLT.out; show Value.int .i64 (wrap64 ((b : Int) + 1)) = _; rw [w64 (by omega) (by omega)]; rfl, ⟨by rw [show 256 - (b + 1) = 255 - b by omega]; exact HF3.out⟩, ⟨by have := HOL.out; rw [List.length_append, List.length_singleton]; omega⟩, ⟨ho⟩, ⟨nm, by have := HNM.out; omega, HSS.out.kept hg2 (fun e_ => NumB.ne_row HSS.out HO8.out e_.symm)⟩, ⟨Kd.R_over' HO4.out (Kd.R_typed HO8.out) (by decide) hg2⟩, ⟨hb⟩⟩
              | none =>
                rw [hfi] at hlat HF2
                rw [hlat] at hlook
                simp only [Option.map_none, Option.getD_none, Option.isSome_none] at hlook HF2
                have hkl : ks.length ≤ 256 := by have := hs.le; have := HLT.out; omega
                obtain ⟨w7, hst, hs7, hgrow⟩ := hs.store LAW.out Try.underlying222 Try.underlying2 (by have := HLT.out; unfold maxLen; omega) hkey (ks.length : Int) (by simp [Lit.wf, IntKind.min, IntKind.max, IntKind.signed, IntKind.bits]; omega)
                rw [hlat, ← LK_snoc ks (sgU l0 b) hfi] at hs7
                have hs7 := hs7
                simp only [Option.map_none, Option.isSome_none, Bool.false_eq_true, if_false] at hs7
                have hlen := hs.len Try.underlying222 3
                have hlat2 := LK_at (ks ++ [sgU l0 b]) (sgU l0 b)
                have hlook2 := hs7.look LAW.out Try.underlying222 Try.underlying2 (ZE.out _) hkey
                rw [LK_snoc ks (sgU l0 b) hfi] at hlook2
                simp only [if_true, Option.getD_some] at hlook2
                have HO10' := Aside0.mk (Kd.R_grown1 HO10.out rfl hgrow (fun e_ => NumB.ne_row hs HO10.out e_.symm))
                replace HO8 := Aside0.mk (Kd.R_grown1 HO8.out rfl hgrow (fun e_ => NumB.ne_row hs HO8.out e_.symm))
                replace HO4 := Aside0.mk (Kd.R_grown1 HO4.out rfl hgrow (fun e_ => NumB.ne_row hs HO4.out e_.symm))
                replace HB := Aside0.mk (HB.out.grown hgrow HB.out.size (fun q hq => by cases hq; exact GM.out))
                have hcv2 := own_string (P := Try.prog) Try.underlying22 Try.underlying5 Try.underlying9 (Kd.own_of_R HO10'.out)
                rw [← est] at hcv2
                have HNM := Aside0.mk hnm
                have HSS := Aside0.mk hs7
                have HF3 := Aside0.mk HF2
                clear hs hs7 hnm HF2 hlat hlat2 hfi hkey est HNB HO10 hgrow hkl
                go_wp2_with (first | ((with_reducible refine gate_builtin (b := .append) (xs := #[.tmp 64, .tmp 69]) rfl ?_); at_builtin; refine Kd.R_append (Kd.int .i64) (w0 := w) w.heap.size rfl (.tmp 64) (.tmp 69) 29 2 (.int .i64 0) 8 rfl Try.underlying29 info2 rfl (by decide) (by omega) u8 out (ks.length : Int) [.int .i64 (ks.length : Int)] (fun _ => True) (fun _ => False) rfl rfl ?aP (fun _ hk => hk.elim) ?aF ?aO ?aB ?aS ?aL ?_; (case aP => exact rfl); (case aB => exact HB.out); (case aF => exact (fun _ _ => trivial)); (case aO => exact HO8.out); (case aS => exact (below_size HB.out)); (case aL => have := HOL.out; have := HLT.out; omega); intro v9 w9 ho hb hg2 hat))
                go_roundg (256 - (b + 1))
                case measure => have := HLT.out; omega
                case rel => exact ⟨b + 1, ks ++ [sgU l0 b], out ++ [(ks.length : Int)], by have := HLT.out; omega, by omega, by have := HLT.out; show Value.int .i64 (wrap64 ((b : Int) + 1)) = _; rw [w64 (by omega) (by omega)]; rfl, ⟨by rw [show 256 - (b + 1) = 255 - b by omega]; exact HF3.out⟩, ⟨by have := HOL.out; rw [List.length_append, List.length_singleton]; omega⟩, ⟨ho⟩, ⟨nm + 1, by have := HNM.out; omega, by rw [List.length_append, List.length_singleton]; exact HSS.out.kept hg2 (fun e_ => NumB.ne_row HSS.out HO8.out e_.symm)⟩, ⟨Kd.R_over' HO4.out (Kd.R_typed HO8.out) (by decide) hg2⟩, ⟨hb⟩⟩
        · have hcond := eq_false (show ¬ (b : Int) < 256 by omega)
          have eb : b = 256 := by omega
          subst eb
          have HF2 := HF.out
          rw [Nat.sub_self, blkF] at HF2
          injection HF2 with er1 er2
          subst er1
          subst er2
          obtain ⟨nm, hnm, hs⟩ := HNB.out
          have hlen := hs.len Try.underlying222 3
          clear hlt hb hg HF hnm hs HNB
          go_wp2
          go_ret2
          exact ⟨_, rfl, HO8.out, HB.out⟩
end

/-! ### impl_Blocks: function 43 -/
def impl_Blocks.l0 : Nat → List (List (S33)) → List (List (S33)) → Int → Int → Option (List Int × Int)
  | 0, _, _, _, _ => none
  | k + 1, x0, x9, x10, x11 => if x11 < x10 then (if 0 ≤ x11 then (if x11 < (x9.length : Int) then ((impl_ClassOk.f k (rd_L4 x9 x11)).bind fun t161 => (if t161 = true then (impl_Blocks.l0 k x0 x9 x10 (wrap64 (x11 + 1))) else (some (([] : List Int), 0)))) else (none)) else (none)) else ((impl_blocks.f x0).bind fun bt162 => (some (bt162.1, bt162.2)))
def impl_Blocks.f (k : Nat) (l0 : List (List (S33))) : Option (List Int × Int) := if (l0.length : Int) > 500 then (some (([] : List Int), 0)) else (impl_Blocks.l0 k l0 l0 (l0.length : Int) 0)
theorem impl_Blocks.mono_l : ∀ k, (∀ y0 y1 y2 y3, LeO (impl_Blocks.l0 k y0 y1 y2 y3) (impl_Blocks.l0 (k + 1) y0 y1 y2 y3))
  | 0 => fun _ _ _ _ r h => by simp [impl_Blocks.l0] at h
  | k + 1 => by
    have ih0 := impl_Blocks.mono_l k
    · intro y0 y1 y2 y3
      unfold impl_Blocks.l0
      repeat' first
      | (with_reducible exact ih0 _ _ _ _)
      | (with_reducible exact impl_ClassOk.mono _ _)
      | (with_reducible exact LeO.refl _)
      | (with_reducible exact LeO.none _)
      | (with_reducible refine LeO.ite ?_ ?_)
      | (with_reducible refine LeO.bind ?_ (fun _ => ?_))
      | exact ih0 _ _ _ _
      | exact impl_ClassOk.mono _ _
      | exact LeO.none _
      | refine LeO.ite ?_ ?_
      | refine LeO.bind ?_ (fun _ => ?_)
theorem impl_Blocks.mono : ∀ a0 k, LeO (impl_Blocks.f k a0) (impl_Blocks.f (k + 1) a0) := by
  intro a0 k
  have ih0 := impl_Blocks.mono_l k
  unfold impl_Blocks.f
  repeat' first
      | (with_reducible exact ih0 _ _ _ _)
      | (with_reducible exact impl_ClassOk.mono _ _)
      | (with_reducible exact LeO.refl _)
      | (with_reducible exact LeO.none _)
      | (with_reducible refine LeO.ite ?_ ?_)
      | (with_reducible refine LeO.bind ?_ (fun _ => ?_))
      | exact ih0 _ _ _ _
      | exact impl_ClassOk.mono _ _
      | exact LeO.none _
      | refine LeO.ite ?_ ?_
      | refine LeO.bind ?_ (fun _ => ?_)
set_option maxHeartbeats 8000000 in
set_option maxRecDepth 100000 in
theorem impl_Blocks.calls (k : Nat) (A0 : Option Addr) (c0 : Nat) (l0 : List (List (S33))) (r1 : List Int) (r2 : Int) (w : World) (hr0 : Kd.C (Kd.slice 33 k33) w A0 l0.length l0) (hc0 : l0.length ≤ c0) (h : impl_Blocks.f k l0 = some (r1, r2)) :
    Calls Try.prog 43 #[.slice A0 l0.length c0] w fun e w' => ∃ v0_ : Value, e = .returned (.tuple #[v0_, .int .i64 r2]) ∧ Kd.R (Kd.int .i64) 2 w' w.heap.size (fun _ => True) v0_ r1 ∧ Below w.heap.size w w' := by
  have HR0 := Aside0.mk hr0
  have HC0 := Aside0.mk hc0
  clear hr0 hc0
  have HB := Aside0.mk (Below.refl w.heap.size w)
  have H : (if (l0.length : Int) > 500 then (some (([] : List Int), 0)) else (impl_Blocks.l0 k l0 l0 (l0.length : Int) 0)) = some (r1, r2) := h
  clear h
  by_cases c2 : (l0.length : Int) > 500
  · rw [if_pos c2] at H
    have c2b0 : decide (500 < (l0.length : Int)) = true := decide_eq_true c2
    have c2b1 : decide (500 < l0.length) = true := decide_eq_true (by omega)
    clear c2
    simp only [Option.some.injEq, Prod.mk.injEq] at H
    obtain ⟨rfl, rfl⟩ := H
    go_enter Try.func43, Try.ntmps43
    go_wp2
    go_ret2
    exact ⟨_, by first | rfl | (simp [errW_none, errW_some] <;> rfl) | (simp [*, errW_none, errW_some] <;> rfl), by first | exact Kd.R_nil _ _ _ _ _ | exact Kd.N_nil _ _ _ _ _ | exact Kd.V_nil _ _ _ _ _ | exact Kd.Q_nil _ _ _ _ _ | exact Kd.S_nil _ _ _ _ _, by repeat (first | (with_reducible first | exact HB.out | apply below_alloc | apply pw_below_drewN | apply below_drew1) | exact HB.out)⟩
  · rw [if_neg c2] at H
    have c2b0 : decide (500 < (l0.length : Int)) = false := decide_eq_false c2
    have c2b1 : decide (500 < l0.length) = false := decide_eq_false (by omega)
    clear c2
    have H' := Aside0.mk H
    clear H
    go_enter Try.func43, Try.ntmps43
    go_wp2
    go_loopg [11] k (fun kq v11 w' => ∃ (x11_1 : Int), v11 = .int .i64 x11_1 ∧ Aside0 (impl_Blocks.l0 kq l0 l0 (l0.length : Int) x11_1 = some (r1, r2)) ∧ Aside0 (kq ≤ k) ∧ Aside0 (Below w.heap.size w w'))
    case atStart => exact ⟨(0), (by first | rfl | (simp; done) | (simp [*]; done)), H', ⟨Nat.le_refl _⟩, ⟨by repeat (first | (with_reducible first | exact HB.out | apply below_alloc | apply pw_below_drewN | apply below_drew1) | exact HB.out)⟩⟩
    case round =>
      clear H'
      try clear c2
      try clear c2b0
      try clear c2b1
      try clear p2
      obtain ⟨x11_1, rfl, HA, HK1, HB⟩ := hrel
      cases gk with
      | zero => exact absurd HA.out (by simp [impl_Blocks.l0])
      | succ k1 =>
        have H := HA.out
        clear HA
        simp only [impl_Blocks.l0] at H
        by_cases c3 : x11_1 < (l0.length : Int)
        · rw [if_pos c3] at H
          have c3b0 : decide (x11_1 < (l0.length : Int)) = true := decide_eq_true c3
          clear c3
          by_cases c4 : 0 ≤ x11_1
          · rw [if_pos c4] at H
            have c4b0 : decide (0 ≤ x11_1) = true := decide_eq_true c4
            clear c4
            by_cases c5 : x11_1 < (l0.length : Int)
            · rw [if_pos c5] at H
              have c5b0 : decide (x11_1 < (l0.length : Int)) = true := decide_eq_true c5
              clear c5
              replace H := Option.bind_eq_some_iff.mp H
              obtain ⟨t161, A60, H⟩ := H
              replace H : (if t161 = true then (impl_Blocks.l0 k1 l0 l0 (l0.length : Int) (wrap64 (x11_1 + 1))) else (some (([] : List Int), 0))) = some (r1, r2) := H
              have A6 := Aside0.mk A60
              clear A60
              by_cases c7 : t161 = true
              · subst c7
                have H1 : (impl_Blocks.l0 k1 l0 l0 (l0.length : Int) (wrap64 (x11_1 + 1))) = some (r1, r2) := by rw [if_pos rfl] at H; exact H
                clear H
                have H := H1
                clear H1
                have H' := Aside0.mk H
                clear H
                have p160 : 0 ≤ (x11_1 : Int) := of_decide_eq_true (by first | (with_reducible assumption) | assumption)
                have q160 : x11_1 < (l0.length : Int) := of_decide_eq_true (by first | (with_reducible assumption) | assumption)
                obtain ⟨ad160, A160_0, c160_0, e160, hx160_0, hl160_0, hi160_0⟩ := at_L4 HR0.out x11_1 p160 q160
                cases e160
                replace hx160_0 := (HB.out.cell (World.block_lt_of_cell? w _ hx160_0)).trans hx160_0
                have HR160_0 := Aside0.mk hi160_0
                have HC160_0 := Aside0.mk hl160_0
                clear hi160_0 hl160_0
                replace p160 := eq_true p160
                replace q160 := eq_true q160
                go_wp2_with (first | ((with_reducible refine gate_callee (f := 115) rfl ?_); refine goesL_ (some 16) rfl rfl Try.func115 (by kernel_rfl) rfl #[.slice A160_0 (rd_L4 l0 x11_1).length c160_0] rfl (by (try simp only [List.map_toArray, List.map_cons, List.map_nil]); first | done | rfl | (simp only [List.length_drop, List.length_take]; rfl)) ?_; (with_reducible refine (impl_ClassOk.calls k1 _ _ (rd_L4 l0 x11_1) true _ ?side1 ?side2 A6.out).mono ?_); (case side1 => repeat (first | exact (Kd.C_below HR160_0.out HB.out) | (with_reducible refine Kd.C_alloc ?_ _) | (with_reducible refine Kd.C_drewN ?_ _) | (with_reducible refine Kd.C_drew ?_))); (case side2 => exact HC160_0.out); rintro e w8 ⟨rfl, hb⟩; refine ⟨_, rfl, ?_⟩; have n0_ := Aside0.mk (below_step (by repeat (first | (with_reducible first | exact HB.out | apply below_alloc | apply pw_below_drewN | apply below_drew1) | exact HB.out)) hb); clear HB; have HB := n0_; clear n0_; (try clear hb); (try clear hb2); (try clear hk); (try clear hi)))
                go_roundg k1
                case measure => have := HK1.out; omega
                case rel => exact ⟨(wrap64 (x11_1 + 1)), (by first | rfl | (simp; done) | (simp [*]; done)), H', ⟨by have := HK1.out; omega⟩, ⟨by repeat (first | (with_reducible first | exact HB.out | apply below_alloc | apply pw_below_drewN | apply below_drew1) | exact HB.out)⟩⟩
              · replace c7 := Bool.eq_false_iff.mpr c7
                subst c7
                have H1 : (some (([] : List Int), 0)) = some (r1, r2) := by rw [if_neg (show ¬ (false = true) by decide)] at H; exact H
                clear H
                have H := H1
                clear H1
                simp only [Option.some.injEq, Prod.mk.injEq] at H
                obtain ⟨rfl, rfl⟩ := H
                have p160 : 0 ≤ (x11_1 : Int) := of_decide_eq_true (by first | (with_reducible assumption) | assumption)
                have q160 : x11_1 < (l0.length : Int) := of_decide_eq_true (by first | (with_reducible assumption) | assumption)
                obtain ⟨ad160, A160_0, c160_0, e160, hx160_0, hl160_0, hi160_0⟩ := at_L4 HR0.out x11_1 p160 q160
                cases e160
                replace hx160_0 := (HB.out.cell (World.block_lt_of_cell? w _ hx160_0)).trans hx160_0
                have HR160_0 := Aside0.mk hi160_0
                have HC160_0 := Aside0.mk hl160_0
                clear hi160_0 hl160_0
                replace p160 := eq_true p160
                replace q160 := eq_true q160
                go_wp2_with (first | ((with_reducible refine gate_callee (f := 115) rfl ?_); refine goesL_ (some 16) rfl rfl Try.func115 (by kernel_rfl) rfl #[.slice A160_0 (rd_L4 l0 x11_1).length c160_0] rfl (by (try simp only [List.map_toArray, List.map_cons, List.map_nil]); first | done | rfl | (simp only [List.length_drop, List.length_take]; rfl)) ?_; (with_reducible refine (impl_ClassOk.calls k1 _ _ (rd_L4 l0 x11_1) false _ ?side1 ?side2 A6.out).mono ?_); (case side1 => repeat (first | exact (Kd.C_below HR160_0.out HB.out) | (with_reducible refine Kd.C_alloc ?_ _) | (with_reducible refine Kd.C_drewN ?_ _) | (with_reducible refine Kd.C_drew ?_))); (case side2 => exact HC160_0.out); rintro e w9 ⟨rfl, hb⟩; refine ⟨_, rfl, ?_⟩; have n0_ := Aside0.mk (below_step (by repeat (first | (with_reducible first | exact HB.out | apply below_alloc | apply pw_below_drewN | apply below_drew1) | exact HB.out)) hb); clear HB; have HB := n0_; clear n0_; (try clear hb); (try clear hb2); (try clear hk); (try clear hi)))
                go_ret2
                exact ⟨_, by first | rfl | (simp [errW_none, errW_some] <;> rfl) | (simp [*, errW_none, errW_some] <;> rfl), by first | exact Kd.R_nil _ _ _ _ _ | exact Kd.N_nil _ _ _ _ _ | exact Kd.V_nil _ _ _ _ _ | exact Kd.Q_nil _ _ _ _ _ | exact Kd.S_nil _ _ _ _ _, by repeat (first | (with_reducible first | exact HB.out | apply below_alloc | apply pw_below_drewN | apply below_drew1) | exact HB.out)⟩
            · rw [if_neg c5] at H
              exact absurd H (by simp)
          · rw [if_neg c4] at H
            exact absurd H (by simp)
        · rw [if_neg c3] at H
          have c3b0 : decide (x11_1 < (l0.length : Int)) = false := decide_eq_false c3
          clear c3
          replace H := Option.bind_eq_some_iff.mp H
          obtain ⟨⟨t162, t163⟩, A100, H⟩ := H
          replace H : (some (t162, t163)) = some (r1, r2) := H
          have A10 := Aside0.mk A100
          clear A100
          simp only [Option.some.injEq, Prod.mk.injEq] at H
          obtain ⟨rfl, rfl⟩ := H
          go_wp2_with (first | ((with_reducible refine gate_callee (f := 116) rfl ?_); refine goesL_ (some 20) rfl rfl Try.func116 (by kernel_rfl) rfl #[.slice A0 l0.length c0] rfl (by (try simp only [List.map_toArray, List.map_cons, List.map_nil]); first | done | rfl | (simp only [List.length_drop, List.length_take]; rfl)) ?_; (with_reducible refine (impl_blocks.calls _ _ l0 t162 t163 _ ?side1 ?side2 A10.out).mono ?_); (case side1 => repeat (first | exact (Kd.C_below HR0.out HB.out) | (with_reducible refine Kd.C_alloc ?_ _) | (with_reducible refine Kd.C_drewN ?_ _) | (with_reducible refine Kd.C_drew ?_))); (case side2 => exact HC0.out); rintro e w11 ⟨v164, rfl, ho0, hb⟩; refine ⟨_, rfl, ?_⟩; have n0_ := Aside0.mk (Kd.R_lower ho0 (below_size (by repeat (first | (with_reducible first | exact HB.out | apply below_alloc | apply pw_below_drewN | apply below_drew1) | exact HB.out)))); have n1_ := Aside0.mk (below_step (by repeat (first | (with_reducible first | exact HB.out | apply below_alloc | apply pw_below_drewN | apply below_drew1) | exact HB.out)) hb); clear HB; have HO165 := n0_; have HB := n1_; clear n0_ n1_; (try clear hb); (try clear hb2); (try clear hk); (try clear hi); (try clear ho0)))
          go_ret2
          exact ⟨_, by first | rfl | (simp [errW_none, errW_some] <;> rfl) | (simp [*, errW_none, errW_some] <;> rfl), by (with_reducible repeat (first | apply Kd.R_alloc | apply Kd.R_drewN | apply Kd.R_drew)); exact HO165.out, by repeat (first | (with_reducible first | exact HB.out | apply below_alloc | apply pw_below_drewN | apply below_drew1) | exact HB.out)⟩

/-- A state of type 188 at block g of W; what its slices lead to came in by w0. -/
def IsS188 (w0 W : World) (g : Nat) (f0 : List Int) (f1 : Int) : Prop := ∃ A0 c0, W.heap[g]? = some (.cells #[.slice A0 f0.length c0, .int .i64 f1] 188 (0, 0)) ∧ w0.heap.size ≤ g ∧ Kd.C (Kd.int .u8) w0 A0 f0.length f0
theorem IsS188.grown {w0 W : World} {g : Nat} {f0 : List Int} {f1 : Int} {W1 : World} {row : Option Nat} (h : IsS188 w0 W g f0 f1) (hw : W.grownBy W1 row) (hne : some g ≠ row) : IsS188 w0 W1 g f0 f1 := by
  obtain ⟨A0, c0, hb, hg, hr0⟩ := h
  exact ⟨A0, c0, blk_grown hb hw hne, hg, hr0⟩
theorem IsS188.own_neN {w0 W : World} {g : Nat} {f0 : List Int} {f1 : Int} {α : Type} {d : Kd α} {e : Nat} {base : Nat} {ok : Nat → Prop} {v : Value} {xs : List α} (h : IsS188 w0 W g f0 f1) (ho : Kd.N d e W base ok v xs) (ht : e ≠ 188) : some g ≠ v.ownBlock := by
  obtain ⟨A0, c0, hb, hg, hr0⟩ := h
  exact Kd.N_ne ho hb ht
theorem IsS188.fresh {w0 W : World} {g : Nat} {f0 : List Int} {f1 : Int} (h : IsS188 w0 W g f0 f1) : ∀ k, W.heap.size ≤ k → k ≠ g := by
  obtain ⟨A0, c0, hb, hg, hr0⟩ := h
  exact Kd.freshB hb
theorem IsS188.kept {w0 W : World} {g : Nat} {f0 : List Int} {f1 : Int} {W1 : World} {S : Nat → Prop} (h : IsS188 w0 W g f0 f1) (hk : Kept W W1 S) (hne : ¬ S g) : IsS188 w0 W1 g f0 f1 := by
  obtain ⟨A0, c0, hb, hg, hr0⟩ := h
  exact ⟨A0, c0, blk_kept hb hk hne, hg, hr0⟩
theorem IsS188.below {w0 W : World} {g : Nat} {f0 : List Int} {f1 : Int} {W1 : World} (h : IsS188 w0 W g f0 f1) (hw : Below W.heap.size W W1) : IsS188 w0 W1 g f0 f1 := h.grown (grown_of_below hw none) (by simp)
theorem IsS188.alloc {w0 W : World} {g : Nat} {f0 : List Int} {f1 : Int} (h : IsS188 w0 W g f0 f1) (o : Obj) : IsS188 w0 (W.alloc o) g f0 f1 := h.below (below_alloc (Below.refl _ _) o)
theorem IsS188.drewN {w0 W : World} {g : Nat} {f0 : List Int} {f1 : Int} (h : IsS188 w0 W g f0 f1) (m : Nat) : IsS188 w0 (W.drewN m) g f0 f1 := h
theorem IsS188.drew {w0 W : World} {g : Nat} {f0 : List Int} {f1 : Int} (h : IsS188 w0 W g f0 f1) : IsS188 w0 W.drew g f0 f1 := h
theorem IsS188.at_ {w0 W : World} {g : Nat} {f0 : List Int} {f1 : Int} {w' : World} {m : Nat} (hq : W.drewN m = w') (h : IsS188 w0 W g f0 f1) : IsS188 w0 w' g f0 f1 := by subst hq; exact IsS188.drewN h m
theorem IsS188.apart {w0 W : World} {g : Nat} {f0 : List Int} {f1 : Int} {α : Type} {d : Kd α} {e : Nat} {base : Nat} {ok : Nat → Prop} {v : Value} {xs : List α} (h : IsS188 w0 W g f0 f1) (ho : d.R e W base ok v xs) (ht : ∀ q, q ∈ e :: d.E → q ≠ 188) : d.R e W base (fun k => ok k ∧ k ≠ g) v xs := by
  obtain ⟨A0, c0, hb, hg, hr0⟩ := h
  exact Kd.R_types ho hb ht
theorem IsS188.own_ne {w0 W : World} {g : Nat} {f0 : List Int} {f1 : Int} {α : Type} {d : Kd α} {e : Nat} {base : Nat} {ok : Nat → Prop} {v : Value} {xs : List α} (h : IsS188 w0 W g f0 f1) (ho : d.R e W base ok v xs) (ht : e ≠ 188) : some g ≠ v.ownBlock := by
  obtain ⟨A0, c0, hb, hg, hr0⟩ := h
  exact Kd.R_ne ho hb ht
theorem IsS188.apartQ {w0 W : World} {g : Nat} {f0 : List Int} {f1 : Int} {α : Type} {d : Kd α} {e : Nat} {base : Nat} {ok : Nat → Prop} {v : Value} {xs : List α} (h : IsS188 w0 W g f0 f1) (ho : d.Q e W base ok v xs) (ht : ∀ q, q ∈ e :: d.E → q ≠ 188) : d.Q e W base (fun k => ok k ∧ k ≠ g) v xs := by
  obtain ⟨A0, c0, hb, hg, hr0⟩ := h
  exact Kd.Q_types ho hb ht
theorem IsS188.own_neQ {w0 W : World} {g : Nat} {f0 : List Int} {f1 : Int} {α : Type} {d : Kd α} {e : Nat} {base : Nat} {ok : Nat → Prop} {v : Value} {xs : List α} (h : IsS188 w0 W g f0 f1) (ho : d.Q e W base ok v xs) (ht : e ≠ 188) : some g ≠ v.ownBlock := by
  obtain ⟨A0, c0, hb, hg, hr0⟩ := h
  exact Kd.Q_ne ho hb ht
theorem IsS188.apartS {w0 W : World} {g : Nat} {f0 : List Int} {f1 : Int} {α : Type} {d : Kd α} {e : Nat} {base : Nat} {ok : Nat → Prop} {v : Value} {xs : List α} (h : IsS188 w0 W g f0 f1) (ho : d.S e W base ok v xs) (ht : ∀ q, q ∈ e :: d.E → q ≠ 188) : d.S e W base (fun k => ok k ∧ k ≠ g) v xs := by
  obtain ⟨A0, c0, hb, hg, hr0⟩ := h
  exact Kd.S_types ho hb ht
theorem IsS188.own_neS {w0 W : World} {g : Nat} {f0 : List Int} {f1 : Int} {α : Type} {d : Kd α} {e : Nat} {base : Nat} {ok : Nat → Prop} {v : Value} {xs : List α} (h : IsS188 w0 W g f0 f1) (ho : d.S e W base ok v xs) (ht : e ≠ 188) : some g ≠ v.ownBlock := by
  obtain ⟨A0, c0, hb, hg, hr0⟩ := h
  exact Kd.S_ne ho hb ht
theorem IsS188.lt {w0 W : World} {g : Nat} {f0 : List Int} {f1 : Int} (h : IsS188 w0 W g f0 f1) : g < W.heap.size := by
  obtain ⟨A0, c0, hb, hg, hr0⟩ := h
  exact blk_lt hb
theorem IsS188.ge {w0 W : World} {g : Nat} {f0 : List Int} {f1 : Int} (h : IsS188 w0 W g f0 f1) : w0.heap.size ≤ g := by
  obtain ⟨A0, c0, hb, hg, hr0⟩ := h
  exact hg
theorem IsS188.ne_blk {w0 W : World} {g : Nat} {f0 : List Int} {f1 : Int} {a : Nat} {cs : Array Value} {t : TypeId} {fr : Nat × Nat} (h : IsS188 w0 W g f0 f1) (hb2 : W.heap[a]? = some (.cells cs t fr)) (ht : t ≠ 188) : g ≠ a := by
  obtain ⟨A0, c0, hb, hg, hr0⟩ := h
  rintro rfl
  rw [hb] at hb2
  injection hb2 with hb2
  injection hb2 with _ ht2
  exact ht ht2.symm
theorem IsS188.far {w0 W : World} {g : Nat} {f0 : List Int} {f1 : Int} {p : Addr} (h : IsS188 w0 W g f0 f1) (hne : g ≠ p.block) (u : Value) : IsS188 w0 (W.setCell p u) g f0 f1 := by
  obtain ⟨A0, c0, hb, hg, hr0⟩ := h
  exact ⟨A0, c0, blk_far hb hne u, hg, hr0⟩
theorem cellS188_0 {W : World} {g : Nat} {A0 : Option Addr} {c0 : Nat} {f0 : List Int} {f1 : Int} (h : W.heap[g]? = some (.cells #[.slice A0 f0.length c0, .int .i64 f1] 188 (0, 0))) : W.cell? ⟨g, 0, none⟩ = some (.slice A0 f0.length c0) := (blk_cell h 0).trans rfl
theorem cellS188_1 {W : World} {g : Nat} {A0 : Option Addr} {c0 : Nat} {f0 : List Int} {f1 : Int} (h : W.heap[g]? = some (.cells #[.slice A0 f0.length c0, .int .i64 f1] 188 (0, 0))) : W.cell? ⟨g, 1, none⟩ = some (.int .i64 f1) := (blk_cell h 1).trans rfl
theorem IsS188.set_1 {w0 W : World} {g : Nat} {f0 : List Int} {f1 : Int} (h : IsS188 w0 W g f0 f1) (x : Int) : IsS188 w0 (W.setCell ⟨g, 1, none⟩ (.int .i64 x)) g f0 x := by
  obtain ⟨A0, c0, hb, hg, hr0⟩ := h
  exact ⟨A0, c0, by simpa using blk_set hb 1 (.int .i64 x), hg, hr0⟩
theorem IsS188.new (w0 W : World) (A0 : Option Addr) (c0 : Nat) (f0 : List Int) (f1 : Int) (hB : Below w0.heap.size w0 W) (hr0 : Kd.C (Kd.int .u8) w0 A0 f0.length f0) : IsS188 w0 (W.alloc (.cells #[.slice A0 f0.length c0, .int .i64 f1] 188)) W.heap.size f0 f1 := ⟨A0, c0, by simpa using heap_alloc_new W _, hB.size, hr0⟩

/-! ### spec_l1Open: function 72 -/
def spec_l1Open.f (l0 : List Int) : Option (List Int × Int) := some (l0, 0)
set_option maxHeartbeats 8000000 in
set_option maxRecDepth 100000 in
theorem spec_l1Open.calls (A0 : Option Addr) (c0 : Nat) (l0 : List Int) (r1 : List Int) (r2 : Int) (w0 w : World) (hB : Below w0.heap.size w0 w) (hr0 : Kd.C (Kd.int .u8) w0 A0 l0.length l0) (hc0 : l0.length ≤ c0) (h : spec_l1Open.f l0 = some (r1, r2)) :
    Calls Try.prog 72 #[.slice A0 l0.length c0] w fun e w' => ∃ g_ : Nat, e = .returned (.pointer (some ⟨g_, 0, none⟩)) ∧ IsS188 w0 w' g_ r1 r2 ∧ Below w0.heap.size w0 w' ∧ Below w.heap.size w w' := by
  have hu188 := Try.underlying188
  have HR0 := Aside0.mk hr0
  have HC0 := Aside0.mk hc0
  clear hr0 hc0
  have HBW := Aside0.mk (Below.refl w.heap.size w)
  have HW0 := Aside0.mk hB.size
  have HB := Aside0.mk hB
  clear hB
  have H : (some (l0, 0)) = some (r1, r2) := h
  clear h
  simp only [Option.some.injEq, Prod.mk.injEq] at H
  obtain ⟨rfl, rfl⟩ := H
  go_enter Try.func72, Try.ntmps72
  go_wp2_with (first | ((with_reducible refine gate_dst (N := 5) rfl ?_); refine box_event ?hg (N := 5) ?hd (cs := #[.slice A0 l0.length c0, .int .i64 0]) (t := 188) ?hr ?_; (case hd => rfl); (case hg => rfl); (case hr => first | (go_simp; done) | (go_simp; rfl)); intro gb166 hg w2 hbox hb; have n0_ := Aside0.mk (below_step HBW.out hb); have n1_ := Aside0.mk (below_step (by repeat (first | (with_reducible first | exact HB.out | apply below_alloc | apply pw_below_drewN | apply below_drew1) | exact HB.out)) hb); have n2_ := Aside0.mk (hbox); have n3_ := Aside0.mk ((by rw [hg]; exact (below_size (by repeat (first | (with_reducible first | exact HBW.out | apply below_alloc | apply pw_below_drewN | apply below_drew1) | exact HBW.out))) : w.heap.size ≤ gb166)); have n4_ := Aside0.mk ((Nat.le_trans HW0.out (by rw [hg]; exact (below_size (by repeat (first | (with_reducible first | exact HBW.out | apply below_alloc | apply pw_below_drewN | apply below_drew1) | exact HBW.out))) : w.heap.size ≤ gb166) : w0.heap.size ≤ gb166)); clear HBW; clear HB; have HBW := n0_; have HB := n1_; have BK166 := n2_; have GW166 := n3_; have GE166 := n4_; clear n0_ n1_ n2_ n3_ n4_; clear hb hbox hg))
  go_ret
  exact ⟨_, rfl, (show IsS188 w0 _ gb166 l0 0 from ⟨_, _, by (with_reducible repeat (first | refine blk_drewN ?_ _ | refine blk_drew ?_ | refine blk_alloc ?_ _)); exact BK166.out, GE166.out, HR0.out⟩), by repeat (first | (with_reducible first | exact HB.out | apply below_alloc | apply pw_below_drewN | apply below_drew1 | refine below_set ?_ GE166.out) | exact HB.out), by repeat (first | (with_reducible first | exact HBW.out | apply below_alloc | apply pw_below_drewN | apply below_drew1 | refine below_set ?_ GW166.out) | exact HBW.out)⟩

/-! ### spec_l1Rd_next: function 183 -/
def spec_l1Rd_next.f (s0_0 : List Int) (s0_1 : Int) : Option (Int × Int) := if s0_1 ≥ (s0_0.length : Int) then (some (0, s0_1)) else (if 0 ≤ (wrap64 ((wrap64 (s0_1 + 1)) - 1)) then (if (wrap64 ((wrap64 (s0_1 + 1)) - 1)) < (s0_0.length : Int) then (some (wrap64 (rd s0_0 (wrap64 ((wrap64 (s0_1 + 1)) - 1))), wrap64 (s0_1 + 1))) else (none)) else (none))
set_option maxHeartbeats 8000000 in
set_option maxRecDepth 100000 in
theorem spec_l1Rd_next.calls (g : Nat) (s0_0 : List Int) (s0_1 : Int) (r1 : Int) (r2 : Int) (w0 w : World) (hI : IsS188 w0 w g s0_0 s0_1) (hB : Below w0.heap.size w0 w) (h : spec_l1Rd_next.f s0_0 s0_1 = some (r1, r2)) :
    Calls Try.prog 183 #[.pointer (some ⟨g, 0, none⟩)] w fun e w' => e = .returned (.int .i64 r1) ∧ IsS188 w0 w' g s0_0 r2 ∧ Below w0.heap.size w0 w' ∧ KeepBut w w' g none := by
  have HI0 := Aside0.mk hI
  have HK := Aside0.mk (KeepBut.refl w g none)
  have HL := Aside0.mk hB.size
  clear hI
  have HW0 := Aside0.mk hB.size
  have HB := Aside0.mk hB
  clear hB
  have H : (if s0_1 ≥ (s0_0.length : Int) then (some (0, s0_1)) else (if 0 ≤ (wrap64 ((wrap64 (s0_1 + 1)) - 1)) then (if (wrap64 ((wrap64 (s0_1 + 1)) - 1)) < (s0_0.length : Int) then (some (wrap64 (rd s0_0 (wrap64 ((wrap64 (s0_1 + 1)) - 1))), wrap64 (s0_1 + 1))) else (none)) else (none))) = some (r1, r2) := h
  clear h
  by_cases c2 : s0_1 ≥ (s0_0.length : Int)
  · rw [if_pos c2] at H
    have c2b0 : decide ((s0_0.length : Int) ≤ s0_1) = true := decide_eq_true c2
    clear c2
    simp only [Option.some.injEq, Prod.mk.injEq] at H
    obtain ⟨rfl, rfl⟩ := H
    obtain ⟨ASz3_0, cSz3_0, HGz3, hgz3, HSz3_0⟩ := HI0.out
    have hcz3_0 := cellS188_0 HGz3
    have hcz3_1 := cellS188_1 HGz3
    have hfz3_1 := blk_frozen HGz3 1
    clear HGz3 hgz3
    go_enter Try.func183, Try.ntmps183
    go_wp2
    repeat (go_quiet (fail); try go_wp2)
    go_ret
    exact ⟨by first | rfl | (simp [errW_none, errW_some] <;> rfl) | (simp [*, errW_none, errW_some] <;> rfl), by repeat (first | (with_reducible first | exact HI0.out | apply IsS188.alloc | apply IsS188.drewN | apply IsS188.drew | apply IsS188.set_1) | exact HI0.out), by repeat (first | (with_reducible first | exact HB.out | apply below_alloc | apply pw_below_drewN | apply below_drew1 | refine below_set ?_ (IsS188.ge HI0.out)) | exact HB.out), by repeat (first | (with_reducible first | exact HK.out | apply KeepBut.set_ | apply keep_drewN | apply keep_drew | apply keep_alloc) | exact HK.out)⟩
  · rw [if_neg c2] at H
    have c2b0 : decide ((s0_0.length : Int) ≤ s0_1) = false := decide_eq_false c2
    clear c2
    obtain ⟨ji4, hji4⟩ : ∃ j_ : Int, (wrap64 ((wrap64 (s0_1 + 1)) - 1)) = j_ := ⟨_, rfl⟩
    replace H : (if 0 ≤ (ji4) then (if (ji4) < (s0_0.length : Int) then (some (wrap64 (rd s0_0 (ji4)), wrap64 (s0_1 + 1))) else (none)) else (none)) = some (r1, r2) := by first | (rw [hji4] at H; exact H) | (simp only [hji4] at H ⊢; exact H)
    have hji4w : (IntKind.i64.wrap ((wrap64 (s0_1 + 1)) - 1)) = ji4 := (i64_w _).trans hji4
    by_cases c5 : 0 ≤ (ji4)
    · rw [if_pos c5] at H
      have c5b0 : decide (0 ≤ (ji4)) = true := decide_eq_true c5
      clear c5
      by_cases c6 : (ji4) < (s0_0.length : Int)
      · rw [if_pos c6] at H
        have c6b0 : decide ((ji4) < (s0_0.length : Int)) = true := decide_eq_true c6
        clear c6
        simp only [Option.some.injEq, Prod.mk.injEq] at H
        obtain ⟨rfl, rfl⟩ := H
        obtain ⟨ASz7_0, cSz7_0, HGz7, hgz7, HSz7_0⟩ := HI0.out
        have hcz7_0 := cellS188_0 HGz7
        have hcz7_1 := cellS188_1 HGz7
        have hfz7_1 := blk_frozen HGz7 1
        clear HGz7 hgz7
        have p167 : 0 ≤ ((ji4) : Int) := of_decide_eq_true (by first | (with_reducible assumption) | assumption)
        have q167 : (ji4) < (s0_0.length : Int) := of_decide_eq_true (by first | (with_reducible assumption) | assumption)
        obtain ⟨ad167, e167, hx167_0⟩ := Kd.at_int HSz7_0 (ji4) p167 q167
        cases e167
        have hn167_0 : ad167.block ≠ g := Nat.ne_of_lt (Nat.lt_of_lt_of_le (by have := World.block_lt_of_cell? _ _ hx167_0; first | rwa [add_block] at this | exact this) (IsS188.ge HI0.out))
        replace hx167_0 := pw_cell_below HB.out hx167_0
        replace hx167_0 := (cell_far (p := ⟨g, 1, none⟩) (by first | (rw [add_block]; exact hn167_0) | (show (Addr.add _ _).block ≠ _; rw [add_block]; exact hn167_0) | exact hn167_0) (.int .i64 (wrap64 (s0_1 + 1)))).trans hx167_0
        (try have hy167_0 := fun (n_ : Nat) => (show (((w.drewN n_).setCell ⟨g, 1, none⟩ (.int .i64 (wrap64 (s0_1 + 1))))).cell? _ = some _ from hx167_0))
        clear hn167_0
        replace p167 := eq_true p167
        replace q167 := eq_true q167
        go_enter Try.func183, Try.ntmps183
        go_wp2
        repeat (go_quiet (fail); try go_wp2)
        go_ret
        exact ⟨by first | rfl | (simp [errW_none, errW_some] <;> rfl) | (simp only [← hji4]; first | rfl | (simp [errW_none, errW_some] <;> rfl)) | (simp [*, errW_none, errW_some] <;> rfl), by repeat (first | (with_reducible first | exact HI0.out | apply IsS188.alloc | apply IsS188.drewN | apply IsS188.drew | apply IsS188.set_1) | exact HI0.out), by repeat (first | (with_reducible first | exact HB.out | apply below_alloc | apply pw_below_drewN | apply below_drew1 | refine below_set ?_ (IsS188.ge HI0.out)) | exact HB.out), by repeat (first | (with_reducible first | exact HK.out | apply KeepBut.set_ | apply keep_drewN | apply keep_drew | apply keep_alloc) | exact HK.out)⟩
      · rw [if_neg c6] at H
        exact absurd H (by simp)
    · rw [if_neg c5] at H
      exact absurd H (by simp)

/-! ### spec_l1Rd_below: function 119 -/
def spec_l1Rd_below.f (s0_0 : List Int) (s0_1 : Int) (a1 : Int) : Option (Int × Int) := if a1 ≤ 1 then (some (0, s0_1)) else (if a1 ≤ 256 then ((spec_l1Rd_next.f s0_0 s0_1).bind fun bt168 => (if a1 = 0 then (none) else (some (Int.tmod bt168.1 a1, bt168.2)))) else ((spec_l1Rd_next.f s0_0 s0_1).bind fun bt170 => ((spec_l1Rd_next.f s0_0 bt170.2).bind fun bt172 => (if a1 = 0 then (none) else (some (Int.tmod (wrap64 ((wrap64 (bt170.1 * 256)) + bt172.1)) a1, bt172.2))))))
set_option maxHeartbeats 8000000 in
set_option maxRecDepth 100000 in
theorem spec_l1Rd_below.calls (g : Nat) (s0_0 : List Int) (s0_1 : Int) (a1 : Int) (r1 : Int) (r2 : Int) (w0 w : World) (hI : IsS188 w0 w g s0_0 s0_1) (hB : Below w0.heap.size w0 w) (h : spec_l1Rd_below.f s0_0 s0_1 a1 = some (r1, r2)) :
    Calls Try.prog 119 #[.pointer (some ⟨g, 0, none⟩), .int .i64 a1] w fun e w' => e = .returned (.int .i64 r1) ∧ IsS188 w0 w' g s0_0 r2 ∧ Below w0.heap.size w0 w' ∧ KeepBut w w' g none := by
  have HI0 := Aside0.mk hI
  have HK := Aside0.mk (KeepBut.refl w g none)
  have HL := Aside0.mk hB.size
  clear hI
  have HW0 := Aside0.mk hB.size
  have HB := Aside0.mk hB
  clear hB
  have H : (if a1 ≤ 1 then (some (0, s0_1)) else (if a1 ≤ 256 then ((spec_l1Rd_next.f s0_0 s0_1).bind fun bt168 => (if a1 = 0 then (none) else (some (Int.tmod bt168.1 a1, bt168.2)))) else ((spec_l1Rd_next.f s0_0 s0_1).bind fun bt170 => ((spec_l1Rd_next.f s0_0 bt170.2).bind fun bt172 => (if a1 = 0 then (none) else (some (Int.tmod (wrap64 ((wrap64 (bt170.1 * 256)) + bt172.1)) a1, bt172.2))))))) = some (r1, r2) := h
  clear h
  by_cases c3 : a1 ≤ 1
  · rw [if_pos c3] at H
    have c3b0 : decide (a1 ≤ 1) = true := decide_eq_true c3
    clear c3
    simp only [Option.some.injEq, Prod.mk.injEq] at H
    obtain ⟨rfl, rfl⟩ := H
    go_enter Try.func119, Try.ntmps119
    go_wp2
    go_ret
    exact ⟨by first | rfl | (simp [errW_none, errW_some] <;> rfl) | (simp [*, errW_none, errW_some] <;> rfl), by repeat (first | (with_reducible first | exact HI0.out | apply IsS188.alloc | apply IsS188.drewN | apply IsS188.drew | apply IsS188.set_1) | exact HI0.out), by repeat (first | (with_reducible first | exact HB.out | apply below_alloc | apply pw_below_drewN | apply below_drew1 | refine below_set ?_ (IsS188.ge HI0.out)) | exact HB.out), by repeat (first | (with_reducible first | exact HK.out | apply KeepBut.set_ | apply keep_drewN | apply keep_drew | apply keep_alloc) | exact HK.out)⟩
  · rw [if_neg c3] at H
    have c3b0 : decide (a1 ≤ 1) = false := decide_eq_false c3
    clear c3
    by_cases c4 : a1 ≤ 256
    · rw [if_pos c4] at H
      have c4b0 : decide (a1 ≤ 256) = true := decide_eq_true c4
      clear c4
      replace H := Option.bind_eq_some_iff.mp H
      obtain ⟨⟨t168, t169⟩, A50, H⟩ := H
      replace H : (if a1 = 0 then (none) else (some (Int.tmod t168 a1, t169))) = some (r1, r2) := H
      have A5 := Aside0.mk A50
      clear A50
      by_cases c6 : a1 = 0
      · rw [if_pos c6] at H
        exact absurd H (by simp)
      · rw [if_neg c6] at H
        have c6b0 : (a1 == 0) = false := beq_eq_false_iff_ne.mpr c6
        have c6b1 : (a1 != 0) = true := bne_iff_ne.mpr c6
        simp only [Option.some.injEq, Prod.mk.injEq] at H
        obtain ⟨rfl, rfl⟩ := H
        go_enter Try.func119, Try.ntmps119
        go_wp2_with (first | ((with_reducible refine gate_callee (f := 183) rfl ?_); refine goesL_ (some 11) rfl rfl Try.func183 (by kernel_rfl) rfl #[.pointer (some ⟨g, 0, none⟩)] rfl (by (try simp only [List.map_toArray, List.map_cons, List.map_nil]); first | done | rfl | (simp only [List.length_drop, List.length_take]; rfl)) ?_; (with_reducible refine (spec_l1Rd_next.calls g s0_0 s0_1 t168 t169 w0 _ ?side1 ?side2 A5.out).mono ?_); (case side1 => repeat (first | (with_reducible first | exact HI0.out | apply IsS188.alloc | apply IsS188.drewN | apply IsS188.drew | apply IsS188.set_1) | exact HI0.out)); (case side2 => repeat (first | (with_reducible first | exact HB.out | apply below_alloc | apply pw_below_drewN | apply below_drew1 | refine below_set ?_ (IsS188.ge HI0.out)) | exact HB.out)); rintro e w7 ⟨rfl, hi, hb, hk⟩; refine ⟨_, rfl, ?_⟩; have n0_ := Aside0.mk (KeepBut.trans (by repeat (first | (with_reducible first | exact HK.out | apply KeepBut.set_ | apply keep_drewN | apply keep_drew | apply keep_alloc) | exact HK.out)) hk (.inl rfl)); have n1_ := Aside0.mk (hb); have n2_ := Aside0.mk (hi); clear HK; clear HB; clear HI0; have HK := n0_; have HB := n1_; have HI0 := n2_; clear n0_ n1_ n2_; (try clear hb); (try clear hb2); (try clear hk); (try clear hi)))
        go_ret
        exact ⟨by first | rfl | (simp [errW_none, errW_some] <;> rfl) | (simp [*, errW_none, errW_some] <;> rfl), by repeat (first | (with_reducible first | exact HI0.out | apply IsS188.alloc | apply IsS188.drewN | apply IsS188.drew | apply IsS188.set_1) | exact HI0.out), by repeat (first | (with_reducible first | exact HB.out | apply below_alloc | apply pw_below_drewN | apply below_drew1 | refine below_set ?_ (IsS188.ge HI0.out)) | exact HB.out), by repeat (first | (with_reducible first | exact HK.out | apply KeepBut.set_ | apply keep_drewN | apply keep_drew | apply keep_alloc) | exact HK.out)⟩
    · rw [if_neg c4] at H
      have c4b0 : decide (a1 ≤ 256) = false := decide_eq_false c4
      clear c4
      replace H := Option.bind_eq_some_iff.mp H
      obtain ⟨⟨t170, t171⟩, A80, H⟩ := H
      replace H : ((spec_l1Rd_next.f s0_0 t171).bind fun bt172 => (if a1 = 0 then (none) else (some (Int.tmod (wrap64 ((wrap64 (t170 * 256)) + bt172.1)) a1, bt172.2)))) = some (r1, r2) := H
      have A8 := Aside0.mk A80
      clear A80
      replace H := Option.bind_eq_some_iff.mp H
      obtain ⟨⟨t172, t173⟩, A90, H⟩ := H
      replace H : (if a1 = 0 then (none) else (some (Int.tmod (wrap64 ((wrap64 (t170 * 256)) + t172)) a1, t173))) = some (r1, r2) := H
      have A9 := Aside0.mk A90
      clear A90
      by_cases c10 : a1 = 0
      · rw [if_pos c10] at H
        exact absurd H (by simp)
      · rw [if_neg c10] at H
        have c10b0 : (a1 == 0) = false := beq_eq_false_iff_ne.mpr c10
        have c10b1 : (a1 != 0) = true := bne_iff_ne.mpr c10
        simp only [Option.some.injEq, Prod.mk.injEq] at H
        obtain ⟨rfl, rfl⟩ := H
        go_enter Try.func119, Try.ntmps119
        go_wp2_with (first | ((with_reducible refine gate_callee (f := 183) rfl ?_); refine goesL_ (some 15) rfl rfl Try.func183 (by kernel_rfl) rfl #[.pointer (some ⟨g, 0, none⟩)] rfl (by (try simp only [List.map_toArray, List.map_cons, List.map_nil]); first | done | rfl | (simp only [List.length_drop, List.length_take]; rfl)) ?_; (with_reducible refine (spec_l1Rd_next.calls g s0_0 s0_1 t170 t171 w0 _ ?side1 ?side2 A8.out).mono ?_); (case side1 => repeat (first | (with_reducible first | exact HI0.out | apply IsS188.alloc | apply IsS188.drewN | apply IsS188.drew | apply IsS188.set_1) | exact HI0.out)); (case side2 => repeat (first | (with_reducible first | exact HB.out | apply below_alloc | apply pw_below_drewN | apply below_drew1 | refine below_set ?_ (IsS188.ge HI0.out)) | exact HB.out)); rintro e w11 ⟨rfl, hi, hb, hk⟩; refine ⟨_, rfl, ?_⟩; have n0_ := Aside0.mk (KeepBut.trans (by repeat (first | (with_reducible first | exact HK.out | apply KeepBut.set_ | apply keep_drewN | apply keep_drew | apply keep_alloc) | exact HK.out)) hk (.inl rfl)); have n1_ := Aside0.mk (hb); have n2_ := Aside0.mk (hi); clear HK; clear HB; clear HI0; have HK := n0_; have HB := n1_; have HI0 := n2_; clear n0_ n1_ n2_; (try clear hb); (try clear hb2); (try clear hk); (try clear hi)) | ((with_reducible refine gate_callee (f := 183) rfl ?_); refine goesL_ (some 19) rfl rfl Try.func183 (by kernel_rfl) rfl #[.pointer (some ⟨g, 0, none⟩)] rfl (by (try simp only [List.map_toArray, List.map_cons, List.map_nil]); first | done | rfl | (simp only [List.length_drop, List.length_take]; rfl)) ?_; (with_reducible refine (spec_l1Rd_next.calls g s0_0 t171 t172 t173 w0 _ ?side1 ?side2 A9.out).mono ?_); (case side1 => repeat (first | (with_reducible first | exact HI0.out | apply IsS188.alloc | apply IsS188.drewN | apply IsS188.drew | apply IsS188.set_1) | exact HI0.out)); (case side2 => repeat (first | (with_reducible first | exact HB.out | apply below_alloc | apply pw_below_drewN | apply below_drew1 | refine below_set ?_ (IsS188.ge HI0.out)) | exact HB.out)); rintro e w12 ⟨rfl, hi, hb, hk⟩; refine ⟨_, rfl, ?_⟩; have n0_ := Aside0.mk (KeepBut.trans (by repeat (first | (with_reducible first | exact HK.out | apply KeepBut.set_ | apply keep_drewN | apply keep_drew | apply keep_alloc) | exact HK.out)) hk (.inl rfl)); have n1_ := Aside0.mk (hb); have n2_ := Aside0.mk (hi); clear HK; clear HB; clear HI0; have HK := n0_; have HB := n1_; have HI0 := n2_; clear n0_ n1_ n2_; (try clear hb); (try clear hb2); (try clear hk); (try clear hi)))
        go_ret
        exact ⟨by first | rfl | (simp [errW_none, errW_some] <;> rfl) | (simp [*, errW_none, errW_some] <;> rfl), by repeat (first | (with_reducible first | exact HI0.out | apply IsS188.alloc | apply IsS188.drewN | apply IsS188.drew | apply IsS188.set_1) | exact HI0.out), by repeat (first | (with_reducible first | exact HB.out | apply below_alloc | apply pw_below_drewN | apply below_drew1 | refine below_set ?_ (IsS188.ge HI0.out)) | exact HB.out), by repeat (first | (with_reducible first | exact HK.out | apply KeepBut.set_ | apply keep_drewN | apply keep_drew | apply keep_alloc) | exact HK.out)⟩

/-! ### spec_l1Rd_once: function 74 -/
def spec_l1Rd_once.f (s0_0 : List Int) (s0_1 : Int) (a1 : Int) : Option (Bool × Int) := (spec_l1Rd_below.f s0_0 s0_1 a1).bind fun bt174 => (some ((bt174.1 == (wrap64 (a1 - 1))), bt174.2))
set_option maxHeartbeats 8000000 in
set_option maxRecDepth 100000 in
theorem spec_l1Rd_once.calls (g : Nat) (s0_0 : List Int) (s0_1 : Int) (a1 : Int) (r1 : Bool) (r2 : Int) (w0 w : World) (hI : IsS188 w0 w g s0_0 s0_1) (hB : Below w0.heap.size w0 w) (h : spec_l1Rd_once.f s0_0 s0_1 a1 = some (r1, r2)) :
    Calls Try.prog 74 #[.pointer (some ⟨g, 0, none⟩), .int .i64 a1] w fun e w' => e = .returned (.bool r1) ∧ IsS188 w0 w' g s0_0 r2 ∧ Below w0.heap.size w0 w' ∧ KeepBut w w' g none := by
  have HI0 := Aside0.mk hI
  have HK := Aside0.mk (KeepBut.refl w g none)
  have HL := Aside0.mk hB.size
  clear hI
  have HW0 := Aside0.mk hB.size
  have HB := Aside0.mk hB
  clear hB
  have H : ((spec_l1Rd_below.f s0_0 s0_1 a1).bind fun bt174 => (some ((bt174.1 == (wrap64 (a1 - 1))), bt174.2))) = some (r1, r2) := h
  clear h
  replace H := Option.bind_eq_some_iff.mp H
  obtain ⟨⟨t174, t175⟩, A30, H⟩ := H
  replace H : (some ((t174 == (wrap64 (a1 - 1))), t175)) = some (r1, r2) := H
  have A3 := Aside0.mk A30
  clear A30
  simp only [Option.some.injEq, Prod.mk.injEq] at H
  obtain ⟨rfl, rfl⟩ := H
  go_enter Try.func74, Try.ntmps74
  go_wp2_with (first | ((with_reducible refine gate_callee (f := 119) rfl ?_); refine goesL_ (some 7) rfl rfl Try.func119 (by kernel_rfl) rfl #[.pointer (some ⟨g, 0, none⟩), .int .i64 a1] rfl (by (try simp only [List.map_toArray, List.map_cons, List.map_nil]); first | done | rfl | (simp only [List.length_drop, List.length_take]; rfl)) ?_; (with_reducible refine (spec_l1Rd_below.calls g s0_0 s0_1 a1 t174 t175 w0 _ ?side1 ?side2 A3.out).mono ?_); (case side1 => repeat (first | (with_reducible first | exact HI0.out | apply IsS188.alloc | apply IsS188.drewN | apply IsS188.drew | apply IsS188.set_1) | exact HI0.out)); (case side2 => repeat (first | (with_reducible first | exact HB.out | apply below_alloc | apply pw_below_drewN | apply below_drew1 | refine below_set ?_ (IsS188.ge HI0.out)) | exact HB.out)); rintro e w4 ⟨rfl, hi, hb, hk⟩; refine ⟨_, rfl, ?_⟩; have n0_ := Aside0.mk (KeepBut.trans (by repeat (first | (with_reducible first | exact HK.out | apply KeepBut.set_ | apply keep_drewN | apply keep_drew | apply keep_alloc) | exact HK.out)) hk (.inl rfl)); have n1_ := Aside0.mk (hb); have n2_ := Aside0.mk (hi); clear HK; clear HB; clear HI0; have HK := n0_; have HB := n1_; have HI0 := n2_; clear n0_ n1_ n2_; (try clear hb); (try clear hb2); (try clear hk); (try clear hi)))
  go_ret
  exact ⟨by first | rfl | (simp [errW_none, errW_some] <;> rfl) | (simp [*, errW_none, errW_some] <;> rfl), by repeat (first | (with_reducible first | exact HI0.out | apply IsS188.alloc | apply IsS188.drewN | apply IsS188.drew | apply IsS188.set_1) | exact HI0.out), by repeat (first | (with_reducible first | exact HB.out | apply below_alloc | apply pw_below_drewN | apply below_drew1 | refine below_set ?_ (IsS188.ge HI0.out)) | exact HB.out), by repeat (first | (with_reducible first | exact HK.out | apply KeepBut.set_ | apply keep_drewN | apply keep_drew | apply keep_alloc) | exact HK.out)⟩

end Go.Proofs.Ytaemhmgcjpcicaa.PFnBlocks
