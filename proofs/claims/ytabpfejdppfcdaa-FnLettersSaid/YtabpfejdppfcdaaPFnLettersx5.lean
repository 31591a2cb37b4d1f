-- Written by this session's own program (wip/pr.py) over the kit's printer; contracts that the printer does not know are given by hand.
import Derived.Test.YtabpfejdppfcdaaPFnLettersx0
import Derived.Test.YtabpfejdppfcdaaPFnLettersx1
import Derived.Test.YtabpfejdppfcdaaPFnLettersx2
import Derived.Test.YtabpfejdppfcdaaPFnLettersx3
import Derived.Test.YtabpfejdppfcdaaPFnLettersx4
namespace Go.Proofs.Ytabpfejdppfcdaa.PFnLetters
open Go.RowKit Go.Proofs.YtabpfejdppfcdaaW.PrintWords Go.Proofs.YtabpfejdppfcdaaW.PrintLast Go.Proofs.YtabpfejdppfcdaaW.PrintMore
attribute [local go_sem] max2_int min2_int max_two min_two max_three min_three max_four min_four   -- for this text's walks alone
set_option linter.unusedVariables false
set_option linter.unusedSimpArgs false

/-! ### spec_DrawLetterAt: function 38 -/
def spec_DrawLetterAt.bs (s : ByteArray) : List Int := s.data.toList.map (fun b => (b.toNat : Int))
def spec_DrawLetterAt.rest (k : Nat) (o : List Int) (q : Int) (s : ByteArray) (z : Int) : Option (ByteArray × Int) := (spec_l1Rd_once.f o q 6).bind fun d => if d.1 = true then (spec_l1Rd_below.f o d.2 8).bind fun p => (if 0 ≤ p.1 ∧ p.1 < 8 then some (rdOf ByteArray.empty ([(⟨#[192, 128]⟩ : ByteArray), (⟨#[237, 160, 128]⟩ : ByteArray), (⟨#[244, 144, 128, 128]⟩ : ByteArray), (⟨#[224, 128, 128]⟩ : ByteArray), (⟨#[255]⟩ : ByteArray), (⟨#[128]⟩ : ByteArray), (⟨#[248, 136, 128, 128]⟩ : ByteArray), (⟨#[194]⟩ : ByteArray)] : List ByteArray) p.1, (0 : Int)) else none) else (spec_l1Rd_off.f k o d.2 0 (wrap64 (z - 1))).bind fun q => some (s, q.1)
def spec_DrawLetterAt.put (s : ByteArray) (p v : Int) : ByteArray := strOfNums ((spec_DrawLetterAt.bs s).set p.toNat (v % 256))
def spec_DrawLetterAt.mid (k : Nat) (o : List Int) (q : Int) (s : ByteArray) (z : Int) : Option (ByteArray × Int) := (spec_l1Rd_once.f o q 3).bind fun c => if c.1 = true then (spec_l1Rd_below.f o c.2 z).bind fun p => (spec_l1Rd_below.f o p.2 256).bind fun v => (if 0 ≤ p.1 ∧ p.1 < z then spec_DrawLetterAt.rest k o v.2 (spec_DrawLetterAt.put s p.1 v.1) ((spec_DrawLetterAt.put s p.1 v.1).size : Int) else none) else spec_DrawLetterAt.rest k o c.2 s z
def spec_DrawLetterAt.f (k : Nat) (l0 : List Int) : Option (ByteArray × Int) := (spec_l1Open.f l0).bind fun o => (spec_l1Rd_letter.f k o.1 o.2).bind fun a => (spec_LetterBytes.f k a.1).bind fun sa => (spec_l1Rd_letter.f k o.1 a.2).bind fun b => (spec_LetterBytes.f k b.1).bind fun sb => (if 1 + sa.size + sb.size ≤ 9223372036854775807 then spec_DrawLetterAt.mid k o.1 b.2 ((⟨#[97]⟩ : ByteArray) ++ sa ++ sb) (1 + sa.size + sb.size : Int) else none)
theorem spec_DrawLetterAt.rest_mono : ∀ a b c z k, LeO (spec_DrawLetterAt.rest k a b c z) (spec_DrawLetterAt.rest (k + 1) a b c z) := by
  intro a b c z k
  unfold spec_DrawLetterAt.rest
  refine LeO.bind (LeO.refl _) (fun _ => LeO.ite (LeO.refl _) (LeO.bind (spec_l1Rd_off.mono _ _ _ _ _) (fun _ => LeO.refl _)))
theorem spec_DrawLetterAt.mono : ∀ a0 k, LeO (spec_DrawLetterAt.f k a0) (spec_DrawLetterAt.f (k + 1) a0) := by
  intro a0 k
  unfold spec_DrawLetterAt.f
  refine LeO.bind (LeO.refl _) (fun _ => LeO.bind (spec_l1Rd_letter.mono _ _ _) (fun _ => LeO.bind (spec_LetterBytes.mono _ _) (fun _ => LeO.bind (spec_l1Rd_letter.mono _ _ _) (fun _ => LeO.bind (spec_LetterBytes.mono _ _) (fun _ => LeO.ite ?_ (LeO.refl _))))))
  unfold spec_DrawLetterAt.mid
  refine LeO.bind (LeO.refl _) (fun _ => LeO.ite (LeO.bind (LeO.refl _) (fun _ => LeO.bind (LeO.refl _) (fun _ => LeO.ite (spec_DrawLetterAt.rest_mono _ _ _ _ _) (LeO.refl _)))) (spec_DrawLetterAt.rest_mono _ _ _ _ _))
/-- a row at block h whose first cells are these bytes, as a conversion leaves it -/
def spec_DrawLetterAt.Row (W : World) (h : Nat) (xs : List Int) : Prop := ∃ C : Array Value, W.heap[h]? = some (.cells C 5 (C.size, C.size + 1)) ∧ xs.length ≤ C.size ∧ ∀ i, i < xs.length → C[i]? = some (.int .u8 (xs.getD i 0))
theorem spec_DrawLetterAt.Row.keep {W W1 : World} {h g : Nat} {xs : List Int} (r : spec_DrawLetterAt.Row W h xs) (hk : KeepBut W W1 g none) (hg : h ≠ g) : spec_DrawLetterAt.Row W1 h xs := by
  obtain ⟨C, e, r⟩ := r
  exact ⟨C, hk.blk e hg (by simp), r⟩
theorem spec_DrawLetterAt.Row.drewN {W : World} {h : Nat} {xs : List Int} (r : spec_DrawLetterAt.Row W h xs) (m : Nat) : spec_DrawLetterAt.Row (W.drewN m) h xs := r
theorem spec_DrawLetterAt.Row.drew {W : World} {h : Nat} {xs : List Int} (r : spec_DrawLetterAt.Row W h xs) : spec_DrawLetterAt.Row W.drew h xs := r
theorem spec_DrawLetterAt.Row.cell {W : World} {h : Nat} {xs : List Int} (r : spec_DrawLetterAt.Row W h xs) (i : Nat) (hi : i < xs.length) : W.cell? ⟨h, i, none⟩ = some (.int .u8 (xs.getD i 0)) := by
  obtain ⟨C, e, hl, hc⟩ := r
  unfold World.cell?
  simp only [e]
  exact hc i hi
theorem spec_DrawLetterAt.Row.frozen {W : World} {h : Nat} {xs : List Int} (r : spec_DrawLetterAt.Row W h xs) (i : Nat) (hi : i < xs.length) : W.frozen? ⟨h, i, none⟩ = false := by
  obtain ⟨C, e, hl, hc⟩ := r
  unfold World.frozen?
  simp only [e]
  have : ¬ (C.size ≤ i) := by omega
  simp [this]
theorem spec_DrawLetterAt.Row.set {W : World} {h : Nat} {xs : List Int} (r : spec_DrawLetterAt.Row W h xs) (i : Nat) (hi : i < xs.length) (v : Int) : spec_DrawLetterAt.Row (W.setCell ⟨h, i, none⟩ (.int .u8 v)) h (xs.set i v) := by
  obtain ⟨C, e, hl, hc⟩ := r
  refine ⟨C.set! i (.int .u8 v), ?_, by simp [hl], fun j hj => ?_⟩
  · have hlt : h < W.heap.size := blk_lt e
    have e' := e
    rw [Array.getElem?_eq_getElem hlt] at e'
    have e2 := Option.some.inj e'
    simp [World.setCell, Array.getElem?_modify, e]
  · rw [List.length_set] at hj
    by_cases hij : i = j
    · subst hij
      have : i < C.size := by omega
      simp [List.getD, hi, this]
    · have h1 := hc j hj
      simp [List.getD, hij, List.getElem?_set_ne hij] at h1 ⊢
      exact h1
theorem spec_DrawLetterAt.bs_len (s : ByteArray) : (spec_DrawLetterAt.bs s).length = s.size := by simp [spec_DrawLetterAt.bs]
theorem spec_DrawLetterAt.bw_below (w : World) (e : TypeId) (s : ByteArray) : Below w.heap.size w (Lib.bytesWorld w e s) :=
  ⟨rfl, rfl, rfl, by rw [Lib.bytesWorld_size]; omega, fun i hi => Lib.bytesWorld_at_old w e s i hi⟩
theorem spec_DrawLetterAt.conv {P : Program} {w : World} {ops : Array Oper} {rest : List Oper} {o : Oper} {a : Act} {Q : Exit → Act → World → Prop} (hg : o.guard = none) {st dt : TypeId} {x : Operand} (hop : o.op = Op.convert st dt x) (s : ByteArray) (hx : a.eval x = .string s) {u : TypeDesc}
    (hs : P.underlying st = some u) (hd : P.underlying dt = some (.slice 5)) (he : P.underlying 5 = some (.int .u8))
    (hK : ∀ w1 cap, Below w.heap.size w w1 → spec_DrawLetterAt.Row w1 w.heap.size (spec_DrawLetterAt.bs s) → wpList P ops Q rest (a.put o.dst (.slice (some ⟨w.heap.size, 0, none⟩) s.size cap)) w1) : wpList P ops Q (o :: rest) a w := by
  refine wpList_plain hg fun K hK' => ?_
  have hrun := Lib.run_convert_string_bytes (P := P) w st dt 5 s hs hd he
  unfold Oper.wp
  simp [execOp, hop, hx, hrun, Result.andThen]
  refine hK' _ _ (hK _ _ (spec_DrawLetterAt.bw_below _ _ _) ?_)
  refine ⟨_, Lib.bytesWorld_at_new w 5 s, by simp [spec_DrawLetterAt.bs, Lib.bytesCells], fun i hi => ?_⟩
  rw [spec_DrawLetterAt.bs_len] at hi
  have hi' : i < s.data.size := hi
  simp [spec_DrawLetterAt.bs, Lib.bytesCells, Array.getElem?_append, hi', List.getD]
  rw [if_pos hi, Array.getElem?_eq_getElem hi']
  rfl
theorem spec_DrawLetterAt.back {P : Program} {w : World} {ops : Array Oper} {rest : List Oper} {o : Oper} {a : Act} {Q : Exit → Act → World → Prop} (hg : o.guard = none) {st dt : TypeId} {x : Operand} (hop : o.op = Op.convert st dt x) (h n cap : Nat) (xs : List Int) (hr : spec_DrawLetterAt.Row w h xs) (hn : xs.length = n) (hx : a.eval x = .slice (some ⟨h, 0, none⟩) n cap)
    (hs : P.underlying st = some (.slice 5)) (he : P.underlying 5 = some (.int .u8)) (hd : P.underlying dt = some .string)
    (hK : wpList P ops Q rest (a.put o.dst (.string (strOfNums xs))) w) : wpList P ops Q (o :: rest) a w := by
  refine wpList_plain hg fun K hK' => ?_
  have hrun := run_convert_bytes_arg (P := P) w st 5 hs he h 0 n cap xs hn (fun i hi => by rw [Nat.zero_add]; exact hr.cell i (by omega)) dt hd
  unfold Oper.wp
  simp [execOp, hop, hx, hrun, Result.andThen]
  exact hK' _ _ hK
set_option maxHeartbeats 8000000 in
set_option maxRecDepth 100000 in
theorem spec_DrawLetterAt.calls (k : Nat) (A0 : Option Addr) (c0 : Nat) (l0 : List Int) (r1 : ByteArray) (r2 : Int) (w : World) (hr0 : Kd.C (Kd.int .u8) w A0 l0.length l0) (hc0 : l0.length ≤ c0) (h : spec_DrawLetterAt.f k l0 = some (r1, r2)) :
    Calls Try.prog 38 #[.slice A0 l0.length c0] w fun e w' => e = .returned (.tuple #[.string r1, .int .i64 r2]) ∧ Below w.heap.size w w' := by
  have HR := Aside0.mk hr0
  have HC := Aside0.mk hc0
  have HB := Aside0.mk (Below.refl w.heap.size w)
  clear hr0 hc0
  unfold spec_DrawLetterAt.f at h
  obtain ⟨⟨o1, o2⟩, B0, h⟩ := Option.bind_eq_some_iff.mp h
  obtain ⟨⟨a1, a2⟩, B1, h⟩ := Option.bind_eq_some_iff.mp h
  obtain ⟨sa, B2, h⟩ := Option.bind_eq_some_iff.mp h
  obtain ⟨⟨b1, b2⟩, B3, h⟩ := Option.bind_eq_some_iff.mp h
  obtain ⟨sb, B4, h⟩ := Option.bind_eq_some_iff.mp h
  have A0_ := Aside0.mk B0
  have A1 := Aside0.mk B1
  have A2 := Aside0.mk B2
  have A3 := Aside0.mk B3
  have A4 := Aside0.mk B4
  clear B0 B1 B2 B3 B4
  by_cases hz : 1 + sa.size + sb.size ≤ 9223372036854775807
  case neg => rw [if_neg hz] at h; exact absurd h (by simp)
  rw [if_pos hz] at h
  have K1 : (9223372036854775807 < 1 + sa.size) = False := eq_false (by omega)
  have K2 : (9223372036854775807 < 1 + sa.size + sb.size) = False := eq_false (by omega)
  clear hz
  unfold spec_DrawLetterAt.mid at h
  obtain ⟨⟨c, c2⟩, A5_, h⟩ := Option.bind_eq_some_iff.mp h
  have A5 := Aside0.mk A5_
  clear A5_
  replace h : (if c = true then _ else _) = some (r1, r2) := h
  by_cases hc : c = true
  · subst hc
    rw [if_pos rfl] at h
    obtain ⟨⟨p1, p2⟩, A8_, h⟩ := Option.bind_eq_some_iff.mp h
    obtain ⟨⟨v1, v2⟩, A9_, h⟩ := Option.bind_eq_some_iff.mp h
    have A8 := Aside0.mk A8_
    have A9 := Aside0.mk A9_
    clear A8_ A9_
    replace h : (if 0 ≤ p1 ∧ p1 < (1 + sa.size + sb.size : Int) then _ else _) = some (r1, r2) := h
    by_cases hp : 0 ≤ p1 ∧ p1 < (1 + sa.size + sb.size : Int)
    case neg => rw [if_neg hp] at h; exact absurd h (by simp)
    rw [if_pos hp] at h
    have hp3 := eq_true hp.1
    have hp5 := eq_true hp.2
    have hp4 := Aside0.mk (show p1.toNat < (((⟨#[97]⟩ : ByteArray) ++ sa ++ sb)).size by have e1_ : (⟨#[97]⟩ : ByteArray).size = 1 := rfl; rw [ByteArray.size_append', ByteArray.size_append', e1_]; omega)
    clear hp
    obtain ⟨s2, hs2⟩ : ∃ s_, s_ = spec_DrawLetterAt.put ((⟨#[97]⟩ : ByteArray) ++ sa ++ sb) p1 v1 := ⟨_, rfl⟩
    rw [← hs2] at h
    have HS := Aside0.mk hs2
    clear hs2
    have hp6 := Aside0.mk (show p1.toNat < (spec_DrawLetterAt.bs ((⟨#[97]⟩ : ByteArray) ++ sa ++ sb)).length by rw [spec_DrawLetterAt.bs_len]; exact hp4.out)
    have hp7 := Aside0.mk (show ((spec_DrawLetterAt.bs ((⟨#[97]⟩ : ByteArray) ++ sa ++ sb)).set p1.toNat (v1 % 256)).length = 1 + sa.size + sb.size by rw [List.length_set, spec_DrawLetterAt.bs_len]; simp [ByteArray.size_append']; rfl)
    unfold spec_DrawLetterAt.rest at h
    obtain ⟨⟨d, d2⟩, A6_, h⟩ := Option.bind_eq_some_iff.mp h
    have A6 := Aside0.mk A6_
    clear A6_
    replace h : (if d = true then _ else _) = some (r1, r2) := h
    by_cases hd : d = true
    · subst hd
      rw [if_pos rfl] at h
      obtain ⟨⟨p8, p9⟩, A7_, h⟩ := Option.bind_eq_some_iff.mp h
      have A7 := Aside0.mk A7_
      clear A7_
      replace h : (if 0 ≤ p8 ∧ p8 < 8 then some (rdOf ByteArray.empty ([(⟨#[192, 128]⟩ : ByteArray), (⟨#[237, 160, 128]⟩ : ByteArray), (⟨#[244, 144, 128, 128]⟩ : ByteArray), (⟨#[224, 128, 128]⟩ : ByteArray), (⟨#[255]⟩ : ByteArray), (⟨#[128]⟩ : ByteArray), (⟨#[248, 136, 128, 128]⟩ : ByteArray), (⟨#[194]⟩ : ByteArray)] : List ByteArray) p8, (0 : Int)) else none) = some (r1, r2) := h
      by_cases hp : 0 ≤ p8 ∧ p8 < 8
      case neg => rw [if_neg hp] at h; exact absurd h (by simp)
      rw [if_pos hp] at h
      obtain ⟨y, hy⟩ : ∃ y_ : List ByteArray, y_ = ([(⟨#[192, 128]⟩ : ByteArray), (⟨#[237, 160, 128]⟩ : ByteArray), (⟨#[244, 144, 128, 128]⟩ : ByteArray), (⟨#[224, 128, 128]⟩ : ByteArray), (⟨#[255]⟩ : ByteArray), (⟨#[128]⟩ : ByteArray), (⟨#[248, 136, 128, 128]⟩ : ByteArray), (⟨#[194]⟩ : ByteArray)] : List ByteArray) := ⟨_, rfl⟩
      rw [← hy] at h
      have hp1 := Aside0.mk hp.1
      have hp2 := Aside0.mk (show p8 < (y.length : Int) by rw [hy]; exact hp.2)
      have Ny := Aside0.mk hy
      clear hp hy
      obtain ⟨rfl, rfl⟩ := Prod.mk.inj (Option.some.inj h)
      clear h
      go_enter Try.func38, Try.ntmps38
      go_wp2_with (first | ((with_reducible refine gate_callee (f := 103) rfl ?_); refine goesL_ (some 8) rfl rfl Try.func103 (by kernel_rfl) rfl #[.slice A0 l0.length c0] rfl (by (try simp only [List.map_toArray, List.map_cons, List.map_nil]); first | done | rfl | (simp; done)) ?_; (refine (spec_l1Open.calls _ _ l0 o1 o2 w _ ?side1 ?side2 ?side3 A0_.out).mono ?_); (case side1 => repeat (first | (with_reducible first | exact HB.out | apply below_alloc | apply pw_below_drewN | apply below_drew1) | exact HB.out)); (case side2 => exact HR.out); (case side3 => exact HC.out); rintro e w_8 ⟨g, rfl, hi, hb, hb2⟩; refine ⟨_, rfl, ?_⟩; clear HB; have HI := Aside0.mk hi; have HB := Aside0.mk hb; clear hi hb hb2) | ((with_reducible refine gate_callee (f := 106) rfl ?_); refine goesL_ (some 10) rfl rfl Try.func106 (by kernel_rfl) rfl #[.pointer (some ⟨g, 0, none⟩)] rfl (by (try simp only [List.map_toArray, List.map_cons, List.map_nil]); first | done | rfl | (simp; done)) ?_; (refine (spec_l1Rd_letter.calls k g o1 o2 a1 a2 w _ ?side1 ?side2 A1.out).mono ?_); (case side1 => repeat (first | (with_reducible first | exact HI.out | apply IsS190.alloc | apply IsS190.drewN | apply IsS190.drew | apply IsS190.set_1) | exact HI.out)); (case side2 => repeat (first | (with_reducible first | exact HB.out | apply below_alloc | apply pw_below_drewN | apply below_drew1) | exact HB.out)); rintro e w_10 ⟨rfl, hi, hb, hk⟩; refine ⟨_, rfl, ?_⟩; clear HI HB; have HI := Aside0.mk hi; have HB := Aside0.mk hb; clear hi hb hk) | ((with_reducible refine gate_callee (f := 36) rfl ?_); refine goesL_ (some 11) rfl rfl Try.func36 (by kernel_rfl) rfl #[.int .i64 a1] rfl (by (try simp only [List.map_toArray, List.map_cons, List.map_nil]); first | done | rfl | (simp; done)) ?_; (refine (spec_LetterBytes.calls k a1 sa _ A2.out).mono ?_); rintro e w_11 ⟨rfl, hb⟩; refine ⟨_, rfl, ?_⟩; have n0_ := Aside0.mk (below_step (by repeat (first | (with_reducible first | exact HB.out | apply below_alloc | apply pw_below_drewN | apply below_drew1) | exact HB.out)) hb); have n1_ := Aside0.mk (IsS190.below (by repeat (first | (with_reducible first | exact HI.out | apply IsS190.alloc | apply IsS190.drewN | apply IsS190.drew | apply IsS190.set_1) | exact HI.out)) hb); clear HI HB; have HI := n1_; have HB := n0_; clear n0_ n1_ hb) | ((with_reducible refine gate_callee (f := 106) rfl ?_); refine goesL_ (some 14) rfl rfl Try.func106 (by kernel_rfl) rfl #[.pointer (some ⟨g, 0, none⟩)] rfl (by (try simp only [List.map_toArray, List.map_cons, List.map_nil]); first | done | rfl | (simp; done)) ?_; (refine (spec_l1Rd_letter.calls k g o1 a2 b1 b2 w _ ?side1 ?side2 A3.out).mono ?_); (case side1 => repeat (first | (with_reducible first | exact HI.out | apply IsS190.alloc | apply IsS190.drewN | apply IsS190.drew | apply IsS190.set_1) | exact HI.out)); (case side2 => repeat (first | (with_reducible first | exact HB.out | apply below_alloc | apply pw_below_drewN | apply below_drew1) | exact HB.out)); rintro e w_14 ⟨rfl, hi, hb, hk⟩; refine ⟨_, rfl, ?_⟩; clear HI HB; have HI := Aside0.mk hi; have HB := Aside0.mk hb; clear hi hb hk) | ((with_reducible refine gate_callee (f := 36) rfl ?_); refine goesL_ (some 15) rfl rfl Try.func36 (by kernel_rfl) rfl #[.int .i64 b1] rfl (by (try simp only [List.map_toArray, List.map_cons, List.map_nil]); first | done | rfl | (simp; done)) ?_; (refine (spec_LetterBytes.calls k b1 sb _ A4.out).mono ?_); rintro e w_15 ⟨rfl, hb⟩; refine ⟨_, rfl, ?_⟩; have n0_ := Aside0.mk (below_step (by repeat (first | (with_reducible first | exact HB.out | apply below_alloc | apply pw_below_drewN | apply below_drew1) | exact HB.out)) hb); have n1_ := Aside0.mk (IsS190.below (by repeat (first | (with_reducible first | exact HI.out | apply IsS190.alloc | apply IsS190.drewN | apply IsS190.drew | apply IsS190.set_1) | exact HI.out)) hb); clear HI HB; have HI := n1_; have HB := n0_; clear n0_ n1_ hb) | ((with_reducible refine gate_callee (f := 104) rfl ?_); refine goesL_ (some 18) rfl rfl Try.func104 (by kernel_rfl) rfl #[.pointer (some ⟨g, 0, none⟩), .int .i64 3] rfl (by (try simp only [List.map_toArray, List.map_cons, List.map_nil]); first | done | rfl | (simp; done)) ?_; (refine (spec_l1Rd_once.calls g o1 b2 3 true c2 w _ ?side1 ?side2 A5.out).mono ?_); (case side1 => repeat (first | (with_reducible first | exact HI.out | apply IsS190.alloc | apply IsS190.drewN | apply IsS190.drew | apply IsS190.set_1) | exact HI.out)); (case side2 => repeat (first | (with_reducible first | exact HB.out | apply below_alloc | apply pw_below_drewN | apply below_drew1) | exact HB.out)); rintro e w_18 ⟨rfl, hi, hb, hk⟩; refine ⟨_, rfl, ?_⟩; clear HI HB; have HI := Aside0.mk hi; have HB := Aside0.mk hb; clear hi hb hk) | ((with_reducible refine gate_dst (N := 20) rfl ?_); refine spec_DrawLetterAt.conv rfl rfl ((⟨#[97]⟩ : ByteArray) ++ sa ++ sb) rfl Try.underlying9 Try.underlying45 Try.underlying5 ?_; have hge := Aside0.mk (below_size HB.out); have hne := Aside0.mk (Nat.ne_of_gt (IsS190.lt (by exact HI.out))); intro w_20 cap hb hrow; have n0_ := Aside0.mk (below_step (by repeat (first | (with_reducible first | exact HB.out | apply below_alloc | apply pw_below_drewN | apply below_drew1) | exact HB.out)) hb); have n1_ := Aside0.mk (IsS190.below (by repeat (first | (with_reducible first | exact HI.out | apply IsS190.alloc | apply IsS190.drewN | apply IsS190.drew | apply IsS190.set_1) | exact HI.out)) hb); clear HI HB; have HI := n1_; have HB := n0_; clear n0_ n1_ hb; have HW := Aside0.mk hrow; clear hrow) | ((with_reducible refine gate_callee (f := 105) rfl ?_); refine goesL_ (some 25) rfl rfl Try.func105 (by kernel_rfl) rfl #[.pointer (some ⟨g, 0, none⟩), .int .i64 (1 + sa.size + sb.size)] rfl (by (try simp only [List.map_toArray, List.map_cons, List.map_nil]); first | done | rfl | (simp; done)) ?_; (refine (spec_l1Rd_below.calls g o1 c2 (1 + sa.size + sb.size) p1 p2 w _ ?side1 ?side2 A8.out).mono ?_); (case side1 => repeat (first | (with_reducible first | exact HI.out | apply IsS190.alloc | apply IsS190.drewN | apply IsS190.drew | apply IsS190.set_1) | exact HI.out)); (case side2 => repeat (first | (with_reducible first | exact HB.out | apply below_alloc | apply pw_below_drewN | apply below_drew1) | exact HB.out)); rintro e w_25 ⟨rfl, hi, hb, hk⟩; refine ⟨_, rfl, ?_⟩; have n2_ := Aside0.mk (spec_DrawLetterAt.Row.keep (show spec_DrawLetterAt.Row _ _ _ from HW.out) hk hne.out); clear HW; have HW := n2_; clear n2_; clear HI HB; have HI := Aside0.mk hi; have HB := Aside0.mk hb; clear hi hb hk) | ((with_reducible refine gate_callee (f := 105) rfl ?_); refine goesL_ (some 27) rfl rfl Try.func105 (by kernel_rfl) rfl #[.pointer (some ⟨g, 0, none⟩), .int .i64 256] rfl (by (try simp only [List.map_toArray, List.map_cons, List.map_nil]); first | done | rfl | (simp; done)) ?_; (refine (spec_l1Rd_below.calls g o1 p2 256 v1 v2 w _ ?side1 ?side2 A9.out).mono ?_); (case side1 => repeat (first | (with_reducible first | exact HI.out | apply IsS190.alloc | apply IsS190.drewN | apply IsS190.drew | apply IsS190.set_1) | exact HI.out)); (case side2 => repeat (first | (with_reducible first | exact HB.out | apply below_alloc | apply pw_below_drewN | apply below_drew1) | exact HB.out)); rintro e w_27 ⟨rfl, hi, hb, hk⟩; refine ⟨_, rfl, ?_⟩; have n2_ := Aside0.mk (spec_DrawLetterAt.Row.keep (show spec_DrawLetterAt.Row _ _ _ from HW.out) hk hne.out); clear HW; have HW := n2_; clear n2_; have hc0 := HW.out.cell p1.toNat (by rw [spec_DrawLetterAt.bs_len]; exact hp4.out); have hz0 := HW.out.frozen p1.toNat (by rw [spec_DrawLetterAt.bs_len]; exact hp4.out); clear HI HB; have HI := Aside0.mk hi; have HB := Aside0.mk hb; clear hi hb hk) | ((with_reducible refine gate_dst (N := 31) rfl ?_); refine spec_DrawLetterAt.back rfl rfl w_18.heap.size (1 + sa.size + sb.size) cap ((spec_DrawLetterAt.bs ((⟨#[97]⟩ : ByteArray) ++ sa ++ sb)).set p1.toNat (v1 % 256)) (HW.out.set p1.toNat hp6.out (v1 % 256)) hp7.out rfl Try.underlying45 Try.underlying5 Try.underlying9 ?_; rw [show strOfNums ((spec_DrawLetterAt.bs ((⟨#[97]⟩ : ByteArray) ++ sa ++ sb)).set p1.toNat (v1 % 256)) = s2 from HS.out.symm]; have n0_ := Aside0.mk (show IsS190 w (w_27.setCell ⟨w_18.heap.size, p1.toNat, none⟩ (.int .u8 (v1 % 256))) g o1 v2 from IsS190.far HI.out (Ne.symm hne.out) _); have n1_ := Aside0.mk (show Below w.heap.size w (w_27.setCell ⟨w_18.heap.size, p1.toNat, none⟩ (.int .u8 (v1 % 256))) from below_set HB.out hge.out); clear HI HB; have HI := n0_; have HB := n1_; clear n0_ n1_) | ((with_reducible refine gate_callee (f := 104) rfl ?_); refine goesL_ (some 33) rfl rfl Try.func104 (by kernel_rfl) rfl #[.pointer (some ⟨g, 0, none⟩), .int .i64 6] rfl (by (try simp only [List.map_toArray, List.map_cons, List.map_nil]); first | done | rfl | (simp; done)) ?_; (refine (spec_l1Rd_once.calls g o1 v2 6 true d2 w _ ?side1 ?side2 A6.out).mono ?_); (case side1 => repeat (first | (with_reducible first | exact HI.out | apply IsS190.alloc | apply IsS190.drewN | apply IsS190.drew | apply IsS190.set_1) | exact HI.out)); (case side2 => repeat (first | (with_reducible first | exact HB.out | apply below_alloc | apply pw_below_drewN | apply below_drew1) | exact HB.out)); rintro e w_33 ⟨rfl, hi, hb, hk⟩; refine ⟨_, rfl, ?_⟩; clear HI HB; have HI := Aside0.mk hi; have HB := Aside0.mk hb; clear hi hb hk) | ((with_reducible refine gate_dst (N := 34) rfl ?_); refine Kd.R_lit Kd.string _ 9 ?hg (N := 34) ?hd (xs := ([(⟨#[192, 128]⟩ : ByteArray), (⟨#[237, 160, 128]⟩ : ByteArray), (⟨#[244, 144, 128, 128]⟩ : ByteArray), (⟨#[224, 128, 128]⟩ : ByteArray), (⟨#[255]⟩ : ByteArray), (⟨#[128]⟩ : ByteArray), (⟨#[248, 136, 128, 128]⟩ : ByteArray), (⟨#[194]⟩ : ByteArray)] : List ByteArray)) (inner := [.string (⟨#[192, 128]⟩ : ByteArray), .string (⟨#[237, 160, 128]⟩ : ByteArray), .string (⟨#[244, 144, 128, 128]⟩ : ByteArray), .string (⟨#[224, 128, 128]⟩ : ByteArray), .string (⟨#[255]⟩ : ByteArray), .string (⟨#[128]⟩ : ByteArray), .string (⟨#[248, 136, 128, 128]⟩ : ByteArray), .string (⟨#[194]⟩ : ByteArray)]) (ok := fun _ => True) (okp := fun _ => True) ?hr ?hp (fun _ hk => hk) trivial (Below.refl _ _) (Nat.le_refl _) (by simp) ?_; (case hd => rfl); (case hg => rfl); (case hr => first | (go_simp; done) | (go_simp; rfl)); (case hp => exact (Reps.one (show Kd.M Kd.string _ _ _ (⟨#[192, 128]⟩ : ByteArray) [.string (⟨#[192, 128]⟩ : ByteArray)] from rfl) (Reps.one (show Kd.M Kd.string _ _ _ (⟨#[237, 160, 128]⟩ : ByteArray) [.string (⟨#[237, 160, 128]⟩ : ByteArray)] from rfl) (Reps.one (show Kd.M Kd.string _ _ _ (⟨#[244, 144, 128, 128]⟩ : ByteArray) [.string (⟨#[244, 144, 128, 128]⟩ : ByteArray)] from rfl) (Reps.one (show Kd.M Kd.string _ _ _ (⟨#[224, 128, 128]⟩ : ByteArray) [.string (⟨#[224, 128, 128]⟩ : ByteArray)] from rfl) (Reps.one (show Kd.M Kd.string _ _ _ (⟨#[255]⟩ : ByteArray) [.string (⟨#[255]⟩ : ByteArray)] from rfl) (Reps.one (show Kd.M Kd.string _ _ _ (⟨#[128]⟩ : ByteArray) [.string (⟨#[128]⟩ : ByteArray)] from rfl) (Reps.one (show Kd.M Kd.string _ _ _ (⟨#[248, 136, 128, 128]⟩ : ByteArray) [.string (⟨#[248, 136, 128, 128]⟩ : ByteArray)] from rfl) (Reps.one (show Kd.M Kd.string _ _ _ (⟨#[194]⟩ : ByteArray) [.string (⟨#[194]⟩ : ByteArray)] from rfl) (Reps.none _ _)))))))))); intro v34 w_34 ho hb hg_ hnew_; clear hg_ hnew_; go_loud (rw [← Ny.out] at ho); have n0_ := Aside0.mk (Kd.R_lower ho (below_size (by repeat (first | (with_reducible first | exact HB.out | apply below_alloc | apply pw_below_drewN | apply below_drew1) | exact HB.out)))); have n1_ := Aside0.mk (IsS190.below (by repeat (first | (with_reducible first | exact HI.out | apply IsS190.alloc | apply IsS190.drewN | apply IsS190.drew | apply IsS190.set_1) | exact HI.out)) hb); have n2_ := Aside0.mk (below_step (by repeat (first | (with_reducible first | exact HB.out | apply below_alloc | apply pw_below_drewN | apply below_drew1) | exact HB.out)) hb); clear HI HB; have HO := n0_; have HI := n1_; have HB := n2_; clear n0_ n1_ n2_ hb ho) | ((with_reducible refine gate_callee (f := 105) rfl ?_); refine goesL_ (some 36) rfl rfl Try.func105 (by kernel_rfl) rfl #[.pointer (some ⟨g, 0, none⟩), .int .i64 8] rfl (by (try simp only [List.map_toArray, List.map_cons, List.map_nil]); first | done | rfl | (simp; done)) ?_; (refine (spec_l1Rd_below.calls g o1 d2 8 p8 p9 w _ ?side1 ?side2 A7.out).mono ?_); (case side1 => repeat (first | (with_reducible first | exact HI.out | apply IsS190.alloc | apply IsS190.drewN | apply IsS190.drew | apply IsS190.set_1) | exact HI.out)); (case side2 => repeat (first | (with_reducible first | exact HB.out | apply below_alloc | apply pw_below_drewN | apply below_drew1) | exact HB.out)); rintro e w_36 ⟨rfl, hi, hb, hk⟩; refine ⟨_, rfl, ?_⟩; go_loud (have n2_ := Aside0.mk (Kd.R_mono (Kd.R_keep (IsS190.apart (show IsS190 w _ g o1 d2 from by repeat (first | (with_reducible first | exact HI.out | apply IsS190.alloc | apply IsS190.drewN | apply IsS190.drew | apply IsS190.set_1) | exact HI.out)) (by (with_reducible repeat (first | apply Kd.R_alloc | apply Kd.R_drewN | apply Kd.R_drew)); exact HO.out) (by decide)) hk (fun _ h => h.2)) (fun _ h => h.1))); clear HO; have HO := n2_; clear n2_; obtain ⟨Ao, co, eo⟩ := Kd.R_slice HO.out; subst eo; go_loud (obtain ⟨ad, ead, hx0⟩ := Kd.at_string (Kd.R_reads' HO.out).2.2 p8 hp1.out hp2.out); cases ead; have p142 := eq_true hp1.out; have q142 := eq_true hp2.out; clear HI HB; have HI := Aside0.mk hi; have HB := Aside0.mk hb; clear hi hb hk))
      go_ret2
      exact ⟨by first | rfl | (simp; done), by repeat (first | (with_reducible first | exact HB.out | apply below_alloc | apply pw_below_drewN | apply below_drew1) | exact HB.out)⟩
    · obtain rfl : d = false := Bool.eq_false_iff.mpr hd
      rw [if_neg (by decide)] at h
      clear hd
      obtain ⟨⟨e1, e2⟩, A7_, h⟩ := Option.bind_eq_some_iff.mp h
      have A7 := Aside0.mk A7_
      clear A7_
      obtain ⟨rfl, rfl⟩ := Prod.mk.inj (Option.some.inj h)
      clear h
      go_enter Try.func38, Try.ntmps38
      go_wp2_with (first | ((with_reducible refine gate_callee (f := 103) rfl ?_); refine goesL_ (some 8) rfl rfl Try.func103 (by kernel_rfl) rfl #[.slice A0 l0.length c0] rfl (by (try simp only [List.map_toArray, List.map_cons, List.map_nil]); first | done | rfl | (simp; done)) ?_; (refine (spec_l1Open.calls _ _ l0 o1 o2 w _ ?side1 ?side2 ?side3 A0_.out).mono ?_); (case side1 => repeat (first | (with_reducible first | exact HB.out | apply below_alloc | apply pw_below_drewN | apply below_drew1) | exact HB.out)); (case side2 => exact HR.out); (case side3 => exact HC.out); rintro e w_8 ⟨g, rfl, hi, hb, hb2⟩; refine ⟨_, rfl, ?_⟩; clear HB; have HI := Aside0.mk hi; have HB := Aside0.mk hb; clear hi hb hb2) | ((with_reducible refine gate_callee (f := 106) rfl ?_); refine goesL_ (some 10) rfl rfl Try.func106 (by kernel_rfl) rfl #[.pointer (some ⟨g, 0, none⟩)] rfl (by (try simp only [List.map_toArray, List.map_cons, List.map_nil]); first | done | rfl | (simp; done)) ?_; (refine (spec_l1Rd_letter.calls k g o1 o2 a1 a2 w _ ?side1 ?side2 A1.out).mono ?_); (case side1 => repeat (first | (with_reducible first | exact HI.out | apply IsS190.alloc | apply IsS190.drewN | apply IsS190.drew | apply IsS190.set_1) | exact HI.out)); (case side2 => repeat (first | (with_reducible first | exact HB.out | apply below_alloc | apply pw_below_drewN | apply below_drew1) | exact HB.out)); rintro e w_10 ⟨rfl, hi, hb, hk⟩; refine ⟨_, rfl, ?_⟩; clear HI HB; have HI := Aside0.mk hi; have HB := Aside0.mk hb; clear hi hb hk) | ((with_reducible refine gate_callee (f := 36) rfl ?_); refine goesL_ (some 11) rfl rfl Try.func36 (by kernel_rfl) rfl #[.int .i64 a1] rfl (by (try simp only [List.map_toArray, List.map_cons, List.map_nil]); first | done | rfl | (simp; done)) ?_; (refine (spec_LetterBytes.calls k a1 sa _ A2.out).mono ?_); rintro e w_11 ⟨rfl, hb⟩; refine ⟨_, rfl, ?_⟩; have n0_ := Aside0.mk (below_step (by repeat (first | (with_reducible first | exact HB.out | apply below_alloc | apply pw_below_drewN | apply below_drew1) | exact HB.out)) hb); have n1_ := Aside0.mk (IsS190.below (by repeat (first | (with_reducible first | exact HI.out | apply IsS190.alloc | apply IsS190.drewN | apply IsS190.drew | apply IsS190.set_1) | exact HI.out)) hb); clear HI HB; have HI := n1_; have HB := n0_; clear n0_ n1_ hb) | ((with_reducible refine gate_callee (f := 106) rfl ?_); refine goesL_ (some 14) rfl rfl Try.func106 (by kernel_rfl) rfl #[.pointer (some ⟨g, 0, none⟩)] rfl (by (try simp only [List.map_toArray, List.map_cons, List.map_nil]); first | done | rfl | (simp; done)) ?_; (refine (spec_l1Rd_letter.calls k g o1 a2 b1 b2 w _ ?side1 ?side2 A3.out).mono ?_); (case side1 => repeat (first | (with_reducible first | exact HI.out | apply IsS190.alloc | apply IsS190.drewN | apply IsS190.drew | apply IsS190.set_1) | exact HI.out)); (case side2 => repeat (first | (with_reducible first | exact HB.out | apply below_alloc | apply pw_below_drewN | apply below_drew1) | exact HB.out)); rintro e w_14 ⟨rfl, hi, hb, hk⟩; refine ⟨_, rfl, ?_⟩; clear HI HB; have HI := Aside0.mk hi; have HB := Aside0.mk hb; clear hi hb hk) | ((with_reducible refine gate_callee (f := 36) rfl ?_); refine goesL_ (some 15) rfl rfl Try.func36 (by kernel_rfl) rfl #[.int .i64 b1] rfl (by (try simp only [List.map_toArray, List.map_cons, List.map_nil]); first | done | rfl | (simp; done)) ?_; (refine (spec_LetterBytes.calls k b1 sb _ A4.out).mono ?_); rintro e w_15 ⟨rfl, hb⟩; refine ⟨_, rfl, ?_⟩; have n0_ := Aside0.mk (below_step (by repeat (first | (with_reducible first | exact HB.out | apply below_alloc | apply pw_below_drewN | apply below_drew1) | exact HB.out)) hb); have n1_ := Aside0.mk (IsS190.below (by repeat (first | (with_reducible first | exact HI.out | apply IsS190.alloc | apply IsS190.drewN | apply IsS190.drew | apply IsS190.set_1) | exact HI.out)) hb); clear HI HB; have HI := n1_; have HB := n0_; clear n0_ n1_ hb) | ((with_reducible refine gate_callee (f := 104) rfl ?_); refine goesL_ (some 18) rfl rfl Try.func104 (by kernel_rfl) rfl #[.pointer (some ⟨g, 0, none⟩), .int .i64 3] rfl (by (try simp only [List.map_toArray, List.map_cons, List.map_nil]); first | done | rfl | (simp; done)) ?_; (refine (spec_l1Rd_once.calls g o1 b2 3 true c2 w _ ?side1 ?side2 A5.out).mono ?_); (case side1 => repeat (first | (with_reducible first | exact HI.out | apply IsS190.alloc | apply IsS190.drewN | apply IsS190.drew | apply IsS190.set_1) | exact HI.out)); (case side2 => repeat (first | (with_reducible first | exact HB.out | apply below_alloc | apply pw_below_drewN | apply below_drew1) | exact HB.out)); rintro e w_18 ⟨rfl, hi, hb, hk⟩; refine ⟨_, rfl, ?_⟩; clear HI HB; have HI := Aside0.mk hi; have HB := Aside0.mk hb; clear hi hb hk) | ((with_reducible refine gate_dst (N := 20) rfl ?_); refine spec_DrawLetterAt.conv rfl rfl ((⟨#[97]⟩ : ByteArray) ++ sa ++ sb) rfl Try.underlying9 Try.underlying45 Try.underlying5 ?_; have hge := Aside0.mk (below_size HB.out); have hne := Aside0.mk (Nat.ne_of_gt (IsS190.lt (by exact HI.out))); intro w_20 cap hb hrow; have n0_ := Aside0.mk (below_step (by repeat (first | (with_reducible first | exact HB.out | apply below_alloc | apply pw_below_drewN | apply below_drew1) | exact HB.out)) hb); have n1_ := Aside0.mk (IsS190.below (by repeat (first | (with_reducible first | exact HI.out | apply IsS190.alloc | apply IsS190.drewN | apply IsS190.drew | apply IsS190.set_1) | exact HI.out)) hb); clear HI HB; have HI := n1_; have HB := n0_; clear n0_ n1_ hb; have HW := Aside0.mk hrow; clear hrow) | ((with_reducible refine gate_callee (f := 105) rfl ?_); refine goesL_ (some 25) rfl rfl Try.func105 (by kernel_rfl) rfl #[.pointer (some ⟨g, 0, none⟩), .int .i64 (1 + sa.size + sb.size)] rfl (by (try simp only [List.map_toArray, List.map_cons, List.map_nil]); first | done | rfl | (simp; done)) ?_; (refine (spec_l1Rd_below.calls g o1 c2 (1 + sa.size + sb.size) p1 p2 w _ ?side1 ?side2 A8.out).mono ?_); (case side1 => repeat (first | (with_reducible first | exact HI.out | apply IsS190.alloc | apply IsS190.drewN | apply IsS190.drew | apply IsS190.set_1) | exact HI.out)); (case side2 => repeat (first | (with_reducible first | exact HB.out | apply below_alloc | apply pw_below_drewN | apply below_drew1) | exact HB.out)); rintro e w_25 ⟨rfl, hi, hb, hk⟩; refine ⟨_, rfl, ?_⟩; have n2_ := Aside0.mk (spec_DrawLetterAt.Row.keep (show spec_DrawLetterAt.Row _ _ _ from HW.out) hk hne.out); clear HW; have HW := n2_; clear n2_; clear HI HB; have HI := Aside0.mk hi; have HB := Aside0.mk hb; clear hi hb hk) | ((with_reducible refine gate_callee (f := 105) rfl ?_); refine goesL_ (some 27) rfl rfl Try.func105 (by kernel_rfl) rfl #[.pointer (some ⟨g, 0, none⟩), .int .i64 256] rfl (by (try simp only [List.map_toArray, List.map_cons, List.map_nil]); first | done | rfl | (simp; done)) ?_; (refine (spec_l1Rd_below.calls g o1 p2 256 v1 v2 w _ ?side1 ?side2 A9.out).mono ?_); (case side1 => repeat (first | (with_reducible first | exact HI.out | apply IsS190.alloc | apply IsS190.drewN | apply IsS190.drew | apply IsS190.set_1) | exact HI.out)); (case side2 => repeat (first | (with_reducible first | exact HB.out | apply below_alloc | apply pw_below_drewN | apply below_drew1) | exact HB.out)); rintro e w_27 ⟨rfl, hi, hb, hk⟩; refine ⟨_, rfl, ?_⟩; have n2_ := Aside0.mk (spec_DrawLetterAt.Row.keep (show spec_DrawLetterAt.Row _ _ _ from HW.out) hk hne.out); clear HW; have HW := n2_; clear n2_; have hc0 := HW.out.cell p1.toNat (by rw [spec_DrawLetterAt.bs_len]; exact hp4.out); have hz0 := HW.out.frozen p1.toNat (by rw [spec_DrawLetterAt.bs_len]; exact hp4.out); clear HI HB; have HI := Aside0.mk hi; have HB := Aside0.mk hb; clear hi hb hk) | ((with_reducible refine gate_dst (N := 31) rfl ?_); refine spec_DrawLetterAt.back rfl rfl w_18.heap.size (1 + sa.size + sb.size) cap ((spec_DrawLetterAt.bs ((⟨#[97]⟩ : ByteArray) ++ sa ++ sb)).set p1.toNat (v1 % 256)) (HW.out.set p1.toNat hp6.out (v1 % 256)) hp7.out rfl Try.underlying45 Try.underlying5 Try.underlying9 ?_; rw [show strOfNums ((spec_DrawLetterAt.bs ((⟨#[97]⟩ : ByteArray) ++ sa ++ sb)).set p1.toNat (v1 % 256)) = s2 from HS.out.symm]; have n0_ := Aside0.mk (show IsS190 w (w_27.setCell ⟨w_18.heap.size, p1.toNat, none⟩ (.int .u8 (v1 % 256))) g o1 v2 from IsS190.far HI.out (Ne.symm hne.out) _); have n1_ := Aside0.mk (show Below w.heap.size w (w_27.setCell ⟨w_18.heap.size, p1.toNat, none⟩ (.int .u8 (v1 % 256))) from below_set HB.out hge.out); clear HI HB; have HI := n0_; have HB := n1_; clear n0_ n1_) | ((with_reducible refine gate_callee (f := 104) rfl ?_); refine goesL_ (some 33) rfl rfl Try.func104 (by kernel_rfl) rfl #[.pointer (some ⟨g, 0, none⟩), .int .i64 6] rfl (by (try simp only [List.map_toArray, List.map_cons, List.map_nil]); first | done | rfl | (simp; done)) ?_; (refine (spec_l1Rd_once.calls g o1 v2 6 false d2 w _ ?side1 ?side2 A6.out).mono ?_); (case side1 => repeat (first | (with_reducible first | exact HI.out | apply IsS190.alloc | apply IsS190.drewN | apply IsS190.drew | apply IsS190.set_1) | exact HI.out)); (case side2 => repeat (first | (with_reducible first | exact HB.out | apply below_alloc | apply pw_below_drewN | apply below_drew1) | exact HB.out)); rintro e w_33 ⟨rfl, hi, hb, hk⟩; refine ⟨_, rfl, ?_⟩; clear HI HB; have HI := Aside0.mk hi; have HB := Aside0.mk hb; clear hi hb hk) | ((with_reducible refine gate_callee (f := 113) rfl ?_); refine goesL_ (some 45) rfl rfl Try.func113 (by kernel_rfl) rfl #[.pointer (some ⟨g, 0, none⟩), .int .i64 0, .int .i64 (wrap64 ((s2.size : Int) - 1))] rfl (by (try simp only [List.map_toArray, List.map_cons, List.map_nil]); first | done | rfl | (simp; done)) ?_; (refine (spec_l1Rd_off.calls k g o1 d2 0 (wrap64 ((s2.size : Int) - 1)) e1 e2 w _ ?side1 ?side2 A7.out).mono ?_); (case side1 => repeat (first | (with_reducible first | exact HI.out | apply IsS190.alloc | apply IsS190.drewN | apply IsS190.drew | apply IsS190.set_1) | exact HI.out)); (case side2 => repeat (first | (with_reducible first | exact HB.out | apply below_alloc | apply pw_below_drewN | apply below_drew1) | exact HB.out)); rintro e w_45 ⟨rfl, hi, hb, hk⟩; refine ⟨_, rfl, ?_⟩; clear HI HB; have HI := Aside0.mk hi; have HB := Aside0.mk hb; clear hi hb hk))
      go_ret2
      exact ⟨by first | rfl | (simp; done), by repeat (first | (with_reducible first | exact HB.out | apply below_alloc | apply pw_below_drewN | apply below_drew1) | exact HB.out)⟩
  · obtain rfl : c = false := Bool.eq_false_iff.mpr hc
    rw [if_neg (by decide)] at h
    clear hc
    unfold spec_DrawLetterAt.rest at h
    obtain ⟨⟨d, d2⟩, A6_, h⟩ := Option.bind_eq_some_iff.mp h
    have A6 := Aside0.mk A6_
    clear A6_
    replace h : (if d = true then _ else _) = some (r1, r2) := h
    by_cases hd : d = true
    · subst hd
      rw [if_pos rfl] at h
      obtain ⟨⟨p8, p9⟩, A7_, h⟩ := Option.bind_eq_some_iff.mp h
      have A7 := Aside0.mk A7_
      clear A7_
      replace h : (if 0 ≤ p8 ∧ p8 < 8 then some (rdOf ByteArray.empty ([(⟨#[192, 128]⟩ : ByteArray), (⟨#[237, 160, 128]⟩ : ByteArray), (⟨#[244, 144, 128, 128]⟩ : ByteArray), (⟨#[224, 128, 128]⟩ : ByteArray), (⟨#[255]⟩ : ByteArray), (⟨#[128]⟩ : ByteArray), (⟨#[248, 136, 128, 128]⟩ : ByteArray), (⟨#[194]⟩ : ByteArray)] : List ByteArray) p8, (0 : Int)) else none) = some (r1, r2) := h
      by_cases hp : 0 ≤ p8 ∧ p8 < 8
      case neg => rw [if_neg hp] at h; exact absurd h (by simp)
      rw [if_pos hp] at h
      obtain ⟨y, hy⟩ : ∃ y_ : List ByteArray, y_ = ([(⟨#[192, 128]⟩ : ByteArray), (⟨#[237, 160, 128]⟩ : ByteArray), (⟨#[244, 144, 128, 128]⟩ : ByteArray), (⟨#[224, 128, 128]⟩ : ByteArray), (⟨#[255]⟩ : ByteArray), (⟨#[128]⟩ : ByteArray), (⟨#[248, 136, 128, 128]⟩ : ByteArray), (⟨#[194]⟩ : ByteArray)] : List ByteArray) := ⟨_, rfl⟩
      rw [← hy] at h
      have hp1 := Aside0.mk hp.1
      have hp2 := Aside0.mk (show p8 < (y.length : Int) by rw [hy]; exact hp.2)
      have Ny := Aside0.mk hy
      clear hp hy
      obtain ⟨rfl, rfl⟩ := Prod.mk.inj (Option.some.inj h)
      clear h
      go_enter Try.func38, Try.ntmps38
      go_wp2_with (first | ((with_reducible refine gate_callee (f := 103) rfl ?_); refine goesL_ (some 8) rfl rfl Try.func103 (by kernel_rfl) rfl #[.slice A0 l0.length c0] rfl (by (try simp only [List.map_toArray, List.map_cons, List.map_nil]); first | done | rfl | (simp; done)) ?_; (refine (spec_l1Open.calls _ _ l0 o1 o2 w _ ?side1 ?side2 ?side3 A0_.out).mono ?_); (case side1 => repeat (first | (with_reducible first | exact HB.out | apply below_alloc | apply pw_below_drewN | apply below_drew1) | exact HB.out)); (case side2 => exact HR.out); (case side3 => exact HC.out); rintro e w_8 ⟨g, rfl, hi, hb, hb2⟩; refine ⟨_, rfl, ?_⟩; clear HB; have HI := Aside0.mk hi; have HB := Aside0.mk hb; clear hi hb hb2) | ((with_reducible refine gate_callee (f := 106) rfl ?_); refine goesL_ (some 10) rfl rfl Try.func106 (by kernel_rfl) rfl #[.pointer (some ⟨g, 0, none⟩)] rfl (by (try simp only [List.map_toArray, List.map_cons, List.map_nil]); first | done | rfl | (simp; done)) ?_; (refine (spec_l1Rd_letter.calls k g o1 o2 a1 a2 w _ ?side1 ?side2 A1.out).mono ?_); (case side1 => repeat (first | (with_reducible first | exact HI.out | apply IsS190.alloc | apply IsS190.drewN | apply IsS190.drew | apply IsS190.set_1) | exact HI.out)); (case side2 => repeat (first | (with_reducible first | exact HB.out | apply below_alloc | apply pw_below_drewN | apply below_drew1) | exact HB.out)); rintro e w_10 ⟨rfl, hi, hb, hk⟩; refine ⟨_, rfl, ?_⟩; clear HI HB; have HI := Aside0.mk hi; have HB := Aside0.mk hb; clear hi hb hk) | ((with_reducible refine gate_callee (f := 36) rfl ?_); refine goesL_ (some 11) rfl rfl Try.func36 (by kernel_rfl) rfl #[.int .i64 a1] rfl (by (try simp only [List.map_toArray, List.map_cons, List.map_nil]); first | done | rfl | (simp; done)) ?_; (refine (spec_LetterBytes.calls k a1 sa _ A2.out).mono ?_); rintro e w_11 ⟨rfl, hb⟩; refine ⟨_, rfl, ?_⟩; have n0_ := Aside0.mk (below_step (by repeat (first | (with_reducible first | exact HB.out | apply below_alloc | apply pw_below_drewN | apply below_drew1) | exact HB.out)) hb); have n1_ := Aside0.mk (IsS190.below (by repeat (first | (with_reducible first | exact HI.out | apply IsS190.alloc | apply IsS190.drewN | apply IsS190.drew | apply IsS190.set_1) | exact HI.out)) hb); clear HI HB; have HI := n1_; have HB := n0_; clear n0_ n1_ hb) | ((with_reducible refine gate_callee (f := 106) rfl ?_); refine goesL_ (some 14) rfl rfl Try.func106 (by kernel_rfl) rfl #[.pointer (some ⟨g, 0, none⟩)] rfl (by (try simp only [List.map_toArray, List.map_cons, List.map_nil]); first | done | rfl | (simp; done)) ?_; (refine (spec_l1Rd_letter.calls k g o1 a2 b1 b2 w _ ?side1 ?side2 A3.out).mono ?_); (case side1 => repeat (first | (with_reducible first | exact HI.out | apply IsS190.alloc | apply IsS190.drewN | apply IsS190.drew | apply IsS190.set_1) | exact HI.out)); (case side2 => repeat (first | (with_reducible first | exact HB.out | apply below_alloc | apply pw_below_drewN | apply below_drew1) | exact HB.out)); rintro e w_14 ⟨rfl, hi, hb, hk⟩; refine ⟨_, rfl, ?_⟩; clear HI HB; have HI := Aside0.mk hi; have HB := Aside0.mk hb; clear hi hb hk) | ((with_reducible refine gate_callee (f := 36) rfl ?_); refine goesL_ (some 15) rfl rfl Try.func36 (by kernel_rfl) rfl #[.int .i64 b1] rfl (by (try simp only [List.map_toArray, List.map_cons, List.map_nil]); first | done | rfl | (simp; done)) ?_; (refine (spec_LetterBytes.calls k b1 sb _ A4.out).mono ?_); rintro e w_15 ⟨rfl, hb⟩; refine ⟨_, rfl, ?_⟩; have n0_ := Aside0.mk (below_step (by repeat (first | (with_reducible first | exact HB.out | apply below_alloc | apply pw_below_drewN | apply below_drew1) | exact HB.out)) hb); have n1_ := Aside0.mk (IsS190.below (by repeat (first | (with_reducible first | exact HI.out | apply IsS190.alloc | apply IsS190.drewN | apply IsS190.drew | apply IsS190.set_1) | exact HI.out)) hb); clear HI HB; have HI := n1_; have HB := n0_; clear n0_ n1_ hb) | ((with_reducible refine gate_callee (f := 104) rfl ?_); refine goesL_ (some 18) rfl rfl Try.func104 (by kernel_rfl) rfl #[.pointer (some ⟨g, 0, none⟩), .int .i64 3] rfl (by (try simp only [List.map_toArray, List.map_cons, List.map_nil]); first | done | rfl | (simp; done)) ?_; (refine (spec_l1Rd_once.calls g o1 b2 3 false c2 w _ ?side1 ?side2 A5.out).mono ?_); (case side1 => repeat (first | (with_reducible first | exact HI.out | apply IsS190.alloc | apply IsS190.drewN | apply IsS190.drew | apply IsS190.set_1) | exact HI.out)); (case side2 => repeat (first | (with_reducible first | exact HB.out | apply below_alloc | apply pw_below_drewN | apply below_drew1) | exact HB.out)); rintro e w_18 ⟨rfl, hi, hb, hk⟩; refine ⟨_, rfl, ?_⟩; clear HI HB; have HI := Aside0.mk hi; have HB := Aside0.mk hb; clear hi hb hk) | ((with_reducible refine gate_callee (f := 104) rfl ?_); refine goesL_ (some 33) rfl rfl Try.func104 (by kernel_rfl) rfl #[.pointer (some ⟨g, 0, none⟩), .int .i64 6] rfl (by (try simp only [List.map_toArray, List.map_cons, List.map_nil]); first | done | rfl | (simp; done)) ?_; (refine (spec_l1Rd_once.calls g o1 c2 6 true d2 w _ ?side1 ?side2 A6.out).mono ?_); (case side1 => repeat (first | (with_reducible first | exact HI.out | apply IsS190.alloc | apply IsS190.drewN | apply IsS190.drew | apply IsS190.set_1) | exact HI.out)); (case side2 => repeat (first | (with_reducible first | exact HB.out | apply below_alloc | apply pw_below_drewN | apply below_drew1) | exact HB.out)); rintro e w_33 ⟨rfl, hi, hb, hk⟩; refine ⟨_, rfl, ?_⟩; clear HI HB; have HI := Aside0.mk hi; have HB := Aside0.mk hb; clear hi hb hk) | ((with_reducible refine gate_dst (N := 34) rfl ?_); refine Kd.R_lit Kd.string _ 9 ?hg (N := 34) ?hd (xs := ([(⟨#[192, 128]⟩ : ByteArray), (⟨#[237, 160, 128]⟩ : ByteArray), (⟨#[244, 144, 128, 128]⟩ : ByteArray), (⟨#[224, 128, 128]⟩ : ByteArray), (⟨#[255]⟩ : ByteArray), (⟨#[128]⟩ : ByteArray), (⟨#[248, 136, 128, 128]⟩ : ByteArray), (⟨#[194]⟩ : ByteArray)] : List ByteArray)) (inner := [.string (⟨#[192, 128]⟩ : ByteArray), .string (⟨#[237, 160, 128]⟩ : ByteArray), .string (⟨#[244, 144, 128, 128]⟩ : ByteArray), .string (⟨#[224, 128, 128]⟩ : ByteArray), .string (⟨#[255]⟩ : ByteArray), .string (⟨#[128]⟩ : ByteArray), .string (⟨#[248, 136, 128, 128]⟩ : ByteArray), .string (⟨#[194]⟩ : ByteArray)]) (ok := fun _ => True) (okp := fun _ => True) ?hr ?hp (fun _ hk => hk) trivial (Below.refl _ _) (Nat.le_refl _) (by simp) ?_; (case hd => rfl); (case hg => rfl); (case hr => first | (go_simp; done) | (go_simp; rfl)); (case hp => exact (Reps.one (show Kd.M Kd.string _ _ _ (⟨#[192, 128]⟩ : ByteArray) [.string (⟨#[192, 128]⟩ : ByteArray)] from rfl) (Reps.one (show Kd.M Kd.string _ _ _ (⟨#[237, 160, 128]⟩ : ByteArray) [.string (⟨#[237, 160, 128]⟩ : ByteArray)] from rfl) (Reps.one (show Kd.M Kd.string _ _ _ (⟨#[244, 144, 128, 128]⟩ : ByteArray) [.string (⟨#[244, 144, 128, 128]⟩ : ByteArray)] from rfl) (Reps.one (show Kd.M Kd.string _ _ _ (⟨#[224, 128, 128]⟩ : ByteArray) [.string (⟨#[224, 128, 128]⟩ : ByteArray)] from rfl) (Reps.one (show Kd.M Kd.string _ _ _ (⟨#[255]⟩ : ByteArray) [.string (⟨#[255]⟩ : ByteArray)] from rfl) (Reps.one (show Kd.M Kd.string _ _ _ (⟨#[128]⟩ : ByteArray) [.string (⟨#[128]⟩ : ByteArray)] from rfl) (Reps.one (show Kd.M Kd.string _ _ _ (⟨#[248, 136, 128, 128]⟩ : ByteArray) [.string (⟨#[248, 136, 128, 128]⟩ : ByteArray)] from rfl) (Reps.one (show Kd.M Kd.string _ _ _ (⟨#[194]⟩ : ByteArray) [.string (⟨#[194]⟩ : ByteArray)] from rfl) (Reps.none _ _)))))))))); intro v34 w_34 ho hb hg_ hnew_; clear hg_ hnew_; go_loud (rw [← Ny.out] at ho); have n0_ := Aside0.mk (Kd.R_lower ho (below_size (by repeat (first | (with_reducible first | exact HB.out | apply below_alloc | apply pw_below_drewN | apply below_drew1) | exact HB.out)))); have n1_ := Aside0.mk (IsS190.below (by repeat (first | (with_reducible first | exact HI.out | apply IsS190.alloc | apply IsS190.drewN | apply IsS190.drew | apply IsS190.set_1) | exact HI.out)) hb); have n2_ := Aside0.mk (below_step (by repeat (first | (with_reducible first | exact HB.out | apply below_alloc | apply pw_below_drewN | apply below_drew1) | exact HB.out)) hb); clear HI HB; have HO := n0_; have HI := n1_; have HB := n2_; clear n0_ n1_ n2_ hb ho) | ((with_reducible refine gate_callee (f := 105) rfl ?_); refine goesL_ (some 36) rfl rfl Try.func105 (by kernel_rfl) rfl #[.pointer (some ⟨g, 0, none⟩), .int .i64 8] rfl (by (try simp only [List.map_toArray, List.map_cons, List.map_nil]); first | done | rfl | (simp; done)) ?_; (refine (spec_l1Rd_below.calls g o1 d2 8 p8 p9 w _ ?side1 ?side2 A7.out).mono ?_); (case side1 => repeat (first | (with_reducible first | exact HI.out | apply IsS190.alloc | apply IsS190.drewN | apply IsS190.drew | apply IsS190.set_1) | exact HI.out)); (case side2 => repeat (first | (with_reducible first | exact HB.out | apply below_alloc | apply pw_below_drewN | apply below_drew1) | exact HB.out)); rintro e w_36 ⟨rfl, hi, hb, hk⟩; refine ⟨_, rfl, ?_⟩; go_loud (have n2_ := Aside0.mk (Kd.R_mono (Kd.R_keep (IsS190.apart (show IsS190 w _ g o1 d2 from by repeat (first | (with_reducible first | exact HI.out | apply IsS190.alloc | apply IsS190.drewN | apply IsS190.drew | apply IsS190.set_1) | exact HI.out)) (by (with_reducible repeat (first | apply Kd.R_alloc | apply Kd.R_drewN | apply Kd.R_drew)); exact HO.out) (by decide)) hk (fun _ h => h.2)) (fun _ h => h.1))); clear HO; have HO := n2_; clear n2_; obtain ⟨Ao, co, eo⟩ := Kd.R_slice HO.out; subst eo; go_loud (obtain ⟨ad, ead, hx0⟩ := Kd.at_string (Kd.R_reads' HO.out).2.2 p8 hp1.out hp2.out); cases ead; have p142 := eq_true hp1.out; have q142 := eq_true hp2.out; clear HI HB; have HI := Aside0.mk hi; have HB := Aside0.mk hb; clear hi hb hk))
      go_ret2
      exact ⟨by first | rfl | (simp; done), by repeat (first | (with_reducible first | exact HB.out | apply below_alloc | apply pw_below_drewN | apply below_drew1) | exact HB.out)⟩
    · obtain rfl : d = false := Bool.eq_false_iff.mpr hd
      rw [if_neg (by decide)] at h
      clear hd
      obtain ⟨⟨e1, e2⟩, A7_, h⟩ := Option.bind_eq_some_iff.mp h
      have A7 := Aside0.mk A7_
      clear A7_
      obtain ⟨rfl, rfl⟩ := Prod.mk.inj (Option.some.inj h)
      clear h
      go_enter Try.func38, Try.ntmps38
      go_wp2_with (first | ((with_reducible refine gate_callee (f := 103) rfl ?_); refine goesL_ (some 8) rfl rfl Try.func103 (by kernel_rfl) rfl #[.slice A0 l0.length c0] rfl (by (try simp only [List.map_toArray, List.map_cons, List.map_nil]); first | done | rfl | (simp; done)) ?_; (refine (spec_l1Open.calls _ _ l0 o1 o2 w _ ?side1 ?side2 ?side3 A0_.out).mono ?_); (case side1 => repeat (first | (with_reducible first | exact HB.out | apply below_alloc | apply pw_below_drewN | apply below_drew1) | exact HB.out)); (case side2 => exact HR.out); (case side3 => exact HC.out); rintro e w_8 ⟨g, rfl, hi, hb, hb2⟩; refine ⟨_, rfl, ?_⟩; clear HB; have HI := Aside0.mk hi; have HB := Aside0.mk hb; clear hi hb hb2) | ((with_reducible refine gate_callee (f := 106) rfl ?_); refine goesL_ (some 10) rfl rfl Try.func106 (by kernel_rfl) rfl #[.pointer (some ⟨g, 0, none⟩)] rfl (by (try simp only [List.map_toArray, List.map_cons, List.map_nil]); first | done | rfl | (simp; done)) ?_; (refine (spec_l1Rd_letter.calls k g o1 o2 a1 a2 w _ ?side1 ?side2 A1.out).mono ?_); (case side1 => repeat (first | (with_reducible first | exact HI.out | apply IsS190.alloc | apply IsS190.drewN | apply IsS190.drew | apply IsS190.set_1) | exact HI.out)); (case side2 => repeat (first | (with_reducible first | exact HB.out | apply below_alloc | apply pw_below_drewN | apply below_drew1) | exact HB.out)); rintro e w_10 ⟨rfl, hi, hb, hk⟩; refine ⟨_, rfl, ?_⟩; clear HI HB; have HI := Aside0.mk hi; have HB := Aside0.mk hb; clear hi hb hk) | ((with_reducible refine gate_callee (f := 36) rfl ?_); refine goesL_ (some 11) rfl rfl Try.func36 (by kernel_rfl) rfl #[.int .i64 a1] rfl (by (try simp only [List.map_toArray, List.map_cons, List.map_nil]); first | done | rfl | (simp; done)) ?_; (refine (spec_LetterBytes.calls k a1 sa _ A2.out).mono ?_); rintro e w_11 ⟨rfl, hb⟩; refine ⟨_, rfl, ?_⟩; have n0_ := Aside0.mk (below_step (by repeat (first | (with_reducible first | exact HB.out | apply below_alloc | apply pw_below_drewN | apply below_drew1) | exact HB.out)) hb); have n1_ := Aside0.mk (IsS190.below (by repeat (first | (with_reducible first | exact HI.out | apply IsS190.alloc | apply IsS190.drewN | apply IsS190.drew | apply IsS190.set_1) | exact HI.out)) hb); clear HI HB; have HI := n1_; have HB := n0_; clear n0_ n1_ hb) | ((with_reducible refine gate_callee (f := 106) rfl ?_); refine goesL_ (some 14) rfl rfl Try.func106 (by kernel_rfl) rfl #[.pointer (some ⟨g, 0, none⟩)] rfl (by (try simp only [List.map_toArray, List.map_cons, List.map_nil]); first | done | rfl | (simp; done)) ?_; (refine (spec_l1Rd_letter.calls k g o1 a2 b1 b2 w _ ?side1 ?side2 A3.out).mono ?_); (case side1 => repeat (first | (with_reducible first | exact HI.out | apply IsS190.alloc | apply IsS190.drewN | apply IsS190.drew | apply IsS190.set_1) | exact HI.out)); (case side2 => repeat (first | (with_reducible first | exact HB.out | apply below_alloc | apply pw_below_drewN | apply below_drew1) | exact HB.out)); rintro e w_14 ⟨rfl, hi, hb, hk⟩; refine ⟨_, rfl, ?_⟩; clear HI HB; have HI := Aside0.mk hi; have HB := Aside0.mk hb; clear hi hb hk) | ((with_reducible refine gate_callee (f := 36) rfl ?_); refine goesL_ (some 15) rfl rfl Try.func36 (by kernel_rfl) rfl #[.int .i64 b1] rfl (by (try simp only [List.map_toArray, List.map_cons, List.map_nil]); first | done | rfl | (simp; done)) ?_; (refine (spec_LetterBytes.calls k b1 sb _ A4.out).mono ?_); rintro e w_15 ⟨rfl, hb⟩; refine ⟨_, rfl, ?_⟩; have n0_ := Aside0.mk (below_step (by repeat (first | (with_reducible first | exact HB.out | apply below_alloc | apply pw_below_drewN | apply below_drew1) | exact HB.out)) hb); have n1_ := Aside0.mk (IsS190.below (by repeat (first | (with_reducible first | exact HI.out | apply IsS190.alloc | apply IsS190.drewN | apply IsS190.drew | apply IsS190.set_1) | exact HI.out)) hb); clear HI HB; have HI := n1_; have HB := n0_; clear n0_ n1_ hb) | ((with_reducible refine gate_callee (f := 104) rfl ?_); refine goesL_ (some 18) rfl rfl Try.func104 (by kernel_rfl) rfl #[.pointer (some ⟨g, 0, none⟩), .int .i64 3] rfl (by (try simp only [List.map_toArray, List.map_cons, List.map_nil]); first | done | rfl | (simp; done)) ?_; (refine (spec_l1Rd_once.calls g o1 b2 3 false c2 w _ ?side1 ?side2 A5.out).mono ?_); (case side1 => repeat (first | (with_reducible first | exact HI.out | apply IsS190.alloc | apply IsS190.drewN | apply IsS190.drew | apply IsS190.set_1) | exact HI.out)); (case side2 => repeat (first | (with_reducible first | exact HB.out | apply below_alloc | apply pw_below_drewN | apply below_drew1) | exact HB.out)); rintro e w_18 ⟨rfl, hi, hb, hk⟩; refine ⟨_, rfl, ?_⟩; clear HI HB; have HI := Aside0.mk hi; have HB := Aside0.mk hb; clear hi hb hk) | ((with_reducible refine gate_callee (f := 104) rfl ?_); refine goesL_ (some 33) rfl rfl Try.func104 (by kernel_rfl) rfl #[.pointer (some ⟨g, 0, none⟩), .int .i64 6] rfl (by (try simp only [List.map_toArray, List.map_cons, List.map_nil]); first | done | rfl | (simp; done)) ?_; (refine (spec_l1Rd_once.calls g o1 c2 6 false d2 w _ ?side1 ?side2 A6.out).mono ?_); (case side1 => repeat (first | (with_reducible first | exact HI.out | apply IsS190.alloc | apply IsS190.drewN | apply IsS190.drew | apply IsS190.set_1) | exact HI.out)); (case side2 => repeat (first | (with_reducible first | exact HB.out | apply below_alloc | apply pw_below_drewN | apply below_drew1) | exact HB.out)); rintro e w_33 ⟨rfl, hi, hb, hk⟩; refine ⟨_, rfl, ?_⟩; clear HI HB; have HI := Aside0.mk hi; have HB := Aside0.mk hb; clear hi hb hk) | ((with_reducible refine gate_callee (f := 113) rfl ?_); refine goesL_ (some 45) rfl rfl Try.func113 (by kernel_rfl) rfl #[.pointer (some ⟨g, 0, none⟩), .int .i64 0, .int .i64 (wrap64 ((1 + sa.size + sb.size : Int) - 1))] rfl (by (try simp only [List.map_toArray, List.map_cons, List.map_nil]); first | done | rfl | (simp; done)) ?_; (refine (spec_l1Rd_off.calls k g o1 d2 0 (wrap64 ((1 + sa.size + sb.size : Int) - 1)) e1 e2 w _ ?side1 ?side2 A7.out).mono ?_); (case side1 => repeat (first | (with_reducible first | exact HI.out | apply IsS190.alloc | apply IsS190.drewN | apply IsS190.drew | apply IsS190.set_1) | exact HI.out)); (case side2 => repeat (first | (with_reducible first | exact HB.out | apply below_alloc | apply pw_below_drewN | apply below_drew1) | exact HB.out)); rintro e w_45 ⟨rfl, hi, hb, hk⟩; refine ⟨_, rfl, ?_⟩; clear HI HB; have HI := Aside0.mk hi; have HB := Aside0.mk hb; clear hi hb hk))
      go_ret2
      exact ⟨by first | rfl | (simp; done), by repeat (first | (with_reducible first | exact HB.out | apply below_alloc | apply pw_below_drewN | apply below_drew1) | exact HB.out)⟩

/-! ### spec_LetterAt: function 39 -/
mutual
def spec_LetterAt.j0 : Nat → ByteArray → Int → Int → Option (Int × Int)
  | 0, _, _, _ => none
  | k + 1, x6, x8, x9 => if (x6.size : Int) < x9 then (some ((-1), 0)) else (spec_LetterAt.l0 k x6 x8 x9 1)
def spec_LetterAt.l0 : Nat → ByteArray → Int → Int → Int → Option (Int × Int)
  | 0, _, _, _, _ => none
  | k + 1, x6, x8, x9, x10 => if x10 < x9 then (if 0 ≤ x10 then (if x10 < (x6.size : Int) then (spec_LetterAt.l0 k x6 (wrap64 ((wrap64 ((wrap64 (x8 * 64)) + (wrap64 (bt x6 x10)))) - 128)) x9 (wrap64 (x10 + 1))) else (none)) else (none)) else (if x8 < 0 then (some ((-1), 0)) else ((spec_LetterBytes.f k x8).bind fun t202 => (if 0 ≤ x9 then (if x9 ≤ (x6.size : Int) then (if t202.toList = (x6.extract 0 (x9 : Int).toNat).toList then (some (x8, x9)) else (some ((-1), 0))) else (none)) else (none))))
end
def spec_LetterAt.f (k : Nat) (a0 : ByteArray) (a1 : Int) : Option (Int × Int) := (spec_l1In.f a1 0 (wrap64 ((a0.size : Int) - 1))).bind fun t201 => (if t201 = true then (if 0 ≤ a1 then (if a1 ≤ (a0.size : Int) then (if 0 < ((a0.extract (a1 : Int).toNat a0.size).size : Int) then (if (wrap64 (bt (a0.extract (a1 : Int).toNat a0.size) 0)) ≥ 240 then (spec_LetterAt.j0 k (a0.extract (a1 : Int).toNat a0.size) (wrap64 ((wrap64 (bt (a0.extract (a1 : Int).toNat a0.size) 0)) - 240)) 4) else (if (wrap64 (bt (a0.extract (a1 : Int).toNat a0.size) 0)) ≥ 224 then (spec_LetterAt.j0 k (a0.extract (a1 : Int).toNat a0.size) (wrap64 ((wrap64 (bt (a0.extract (a1 : Int).toNat a0.size) 0)) - 224)) 3) else (if (wrap64 (bt (a0.extract (a1 : Int).toNat a0.size) 0)) ≥ 192 then (spec_LetterAt.j0 k (a0.extract (a1 : Int).toNat a0.size) (wrap64 ((wrap64 (bt (a0.extract (a1 : Int).toNat a0.size) 0)) - 192)) 2) else (spec_LetterAt.j0 k (a0.extract (a1 : Int).toNat a0.size) (wrap64 (bt (a0.extract (a1 : Int).toNat a0.size) 0)) 1)))) else (none)) else (none)) else (none)) else (some ((-1), 0)))
theorem spec_LetterAt.mono_l : ∀ k, (∀ y0 y1 y2, LeO (spec_LetterAt.j0 k y0 y1 y2) (spec_LetterAt.j0 (k + 1) y0 y1 y2)) ∧ (∀ y0 y1 y2 y3, LeO (spec_LetterAt.l0 k y0 y1 y2 y3) (spec_LetterAt.l0 (k + 1) y0 y1 y2 y3))
  | 0 => ⟨fun _ _ _ r h => by simp [spec_LetterAt.j0] at h, fun _ _ _ _ r h => by simp [spec_LetterAt.l0] at h⟩
  | k + 1 => by
    obtain ⟨ih0, ih1⟩ := spec_LetterAt.mono_l k
    refine ⟨?_, ?_⟩
    · intro y0 y1 y2
      unfold spec_LetterAt.j0
      repeat' first
      | (with_reducible exact ih0 _ _ _)
      | (with_reducible exact ih1 _ _ _ _)
      | (with_reducible exact spec_LetterBytes.mono _ _)
      | (with_reducible exact LeO.refl _)
      | (with_reducible exact LeO.none _)
      | (with_reducible refine LeO.ite ?_ ?_)
      | (with_reducible refine LeO.bind ?_ (fun _ => ?_))
      | exact ih0 _ _ _
      | exact ih1 _ _ _ _
      | exact spec_LetterBytes.mono _ _
      | exact LeO.none _
      | refine LeO.ite ?_ ?_
      | refine LeO.bind ?_ (fun _ => ?_)
    · intro y0 y1 y2 y3
      unfold spec_LetterAt.l0
      repeat' first
      | (with_reducible exact ih0 _ _ _)
      | (with_reducible exact ih1 _ _ _ _)
      | (with_reducible exact spec_LetterBytes.mono _ _)
      | (with_reducible exact LeO.refl _)
      | (with_reducible exact LeO.none _)
      | (with_reducible refine LeO.ite ?_ ?_)
      | (with_reducible refine LeO.bind ?_ (fun _ => ?_))
      | exact ih0 _ _ _
      | exact ih1 _ _ _ _
      | exact spec_LetterBytes.mono _ _
      | exact LeO.none _
      | refine LeO.ite ?_ ?_
      | refine LeO.bind ?_ (fun _ => ?_)
theorem spec_LetterAt.mono : ∀ a0 a1 k, LeO (spec_LetterAt.f k a0 a1) (spec_LetterAt.f (k + 1) a0 a1) := by
  intro a0 a1 k
  obtain ⟨ih0, ih1⟩ := spec_LetterAt.mono_l k
  unfold spec_LetterAt.f
  repeat' first
      | (with_reducible exact ih0 _ _ _)
      | (with_reducible exact ih1 _ _ _ _)
      | (with_reducible exact spec_LetterBytes.mono _ _)
      | (with_reducible exact LeO.refl _)
      | (with_reducible exact LeO.none _)
      | (with_reducible refine LeO.ite ?_ ?_)
      | (with_reducible refine LeO.bind ?_ (fun _ => ?_))
      | exact ih0 _ _ _
      | exact ih1 _ _ _ _
      | exact spec_LetterBytes.mono _ _
      | exact LeO.none _
      | refine LeO.ite ?_ ?_
      | refine LeO.bind ?_ (fun _ => ?_)
def spec_LetterAt.T22 : Bool × List (List Nat × List Nat) := (true, [([], []), ([0], [0]), ([1], [1]), ([2], [2]), ([3, 2, 2], [2, 3]), ([2], [2]), ([2], [2]), ([5, 6, 2], [2, 5, 6]), ([4, 7, 2], [2, 4, 7]), ([2, 8], [2, 8])])
def spec_LetterAt.B22 : List Nat := [0, 1, 3, 7, 15, 7, 7, 103, 255, 511]
theorem spec_LetterAt.tab22 : rtab .any (opsOf Try.f39 22) = spec_LetterAt.T22 := by kernel_rfl
theorem spec_LetterAt.bits22 : waitsOk spec_LetterAt.T22.2 spec_LetterAt.B22 = true := by kernel_rfl
set_option maxHeartbeats 8000000 in
set_option maxRecDepth 100000 in
theorem spec_LetterAt.calls (k : Nat) (a0 : ByteArray) (a1 : Int) (r1 : Int) (r2 : Int) (w : World) (h : spec_LetterAt.f k a0 a1 = some (r1, r2)) :
    Calls Try.prog 39 #[.string a0, .int .i64 a1] w fun e w' => e = .returned (.tuple #[.int .i64 r1, .int .i64 r2]) ∧ Below w.heap.size w w' := by
  have HB := Aside0.mk (Below.refl w.heap.size w)
  have H : ((spec_l1In.f a1 0 (wrap64 ((a0.size : Int) - 1))).bind fun t201 => (if t201 = true then (if 0 ≤ a1 then (if a1 ≤ (a0.size : Int) then (if 0 < ((a0.extract (a1 : Int).toNat a0.size).size : Int) then (if (wrap64 (bt (a0.extract (a1 : Int).toNat a0.size) 0)) ≥ 240 then (spec_LetterAt.j0 k (a0.extract (a1 : Int).toNat a0.size) (wrap64 ((wrap64 (bt (a0.extract (a1 : Int).toNat a0.size) 0)) - 240)) 4) else (if (wrap64 (bt (a0.extract (a1 : Int).toNat a0.size) 0)) ≥ 224 then (spec_LetterAt.j0 k (a0.extract (a1 : Int).toNat a0.size) (wrap64 ((wrap64 (bt (a0.extract (a1 : Int).toNat a0.size) 0)) - 224)) 3) else (if (wrap64 (bt (a0.extract (a1 : Int).toNat a0.size) 0)) ≥ 192 then (spec_LetterAt.j0 k (a0.extract (a1 : Int).toNat a0.size) (wrap64 ((wrap64 (bt (a0.extract (a1 : Int).toNat a0.size) 0)) - 192)) 2) else (spec_LetterAt.j0 k (a0.extract (a1 : Int).toNat a0.size) (wrap64 (bt (a0.extract (a1 : Int).toNat a0.size) 0)) 1)))) else (none)) else (none)) else (none)) else (some ((-1), 0)))) = some (r1, r2) := h
  clear h
  replace H := Option.bind_eq_some_iff.mp H
  obtain ⟨t201, A30, H⟩ := H
  replace H : (if t201 = true then (if 0 ≤ a1 then (if a1 ≤ (a0.size : Int) then (if 0 < ((a0.extract (a1 : Int).toNat a0.size).size : Int) then (if (wrap64 (bt (a0.extract (a1 : Int).toNat a0.size) 0)) ≥ 240 then (spec_LetterAt.j0 k (a0.extract (a1 : Int).toNat a0.size) (wrap64 ((wrap64 (bt (a0.extract (a1 : Int).toNat a0.size) 0)) - 240)) 4) else (if (wrap64 (bt (a0.extract (a1 : Int).toNat a0.size) 0)) ≥ 224 then (spec_LetterAt.j0 k (a0.extract (a1 : Int).toNat a0.size) (wrap64 ((wrap64 (bt (a0.extract (a1 : Int).toNat a0.size) 0)) - 224)) 3) else (if (wrap64 (bt (a0.extract (a1 : Int).toNat a0.size) 0)) ≥ 192 then (spec_LetterAt.j0 k (a0.extract (a1 : Int).toNat a0.size) (wrap64 ((wrap64 (bt (a0.extract (a1 : Int).toNat a0.size) 0)) - 192)) 2) else (spec_LetterAt.j0 k (a0.extract (a1 : Int).toNat a0.size) (wrap64 (bt (a0.extract (a1 : Int).toNat a0.size) 0)) 1)))) else (none)) else (none)) else (none)) else (some ((-1), 0))) = some (r1, r2) := H
  have A3 := Aside0.mk A30
  clear A30
  by_cases c4 : t201 = true
  · subst c4
    have H1 : (if 0 ≤ a1 then (if a1 ≤ (a0.size : Int) then (if 0 < ((a0.extract (a1 : Int).toNat a0.size).size : Int) then (if (wrap64 (bt (a0.extract (a1 : Int).toNat a0.size) 0)) ≥ 240 then (spec_LetterAt.j0 k (a0.extract (a1 : Int).toNat a0.size) (wrap64 ((wrap64 (bt (a0.extract (a1 : Int).toNat a0.size) 0)) - 240)) 4) else (if (wrap64 (bt (a0.extract (a1 : Int).toNat a0.size) 0)) ≥ 224 then (spec_LetterAt.j0 k (a0.extract (a1 : Int).toNat a0.size) (wrap64 ((wrap64 (bt (a0.extract (a1 : Int).toNat a0.size) 0)) - 224)) 3) else (if (wrap64 (bt (a0.extract (a1 : Int).toNat a0.size) 0)) ≥ 192 then (spec_LetterAt.j0 k (a0.extract (a1 : Int).toNat a0.size) (wrap64 ((wrap64 (bt (a0.extract (a1 : Int).toNat a0.size) 0)) - 192)) 2) else (spec_LetterAt.j0 k (a0.extract (a1 : Int).toNat a0.size) (wrap64 (bt (a0.extract (a1 : Int).toNat a0.size) 0)) 1)))) else (none)) else (none)) else (none)) = some (r1, r2) := by rw [if_pos rfl] at H; exact H
    clear H
    have H := H1
    clear H1
    by_cases c5 : 0 ≤ a1
    · rw [if_pos c5] at H
      have c5b0 := eq_true c5
      have c5b1 : decide (0 ≤ a1) = true := decide_eq_true c5
      clear c5
      by_cases c6 : a1 ≤ (a0.size : Int)
      · rw [if_pos c6] at H
        have c6b0 := eq_true c6
        have c6b1 : decide (a1 ≤ (a0.size : Int)) = true := decide_eq_true c6
        clear c6
        by_cases c7 : 0 < ((a0.extract (a1 : Int).toNat a0.size).size : Int)
        · rw [if_pos c7] at H
          have c7b0 : decide (0 < ((a0.extract (a1 : Int).toNat a0.size).size : Int)) = true := decide_eq_true c7
          have c7b1 : decide (0 < (a0.extract (a1 : Int).toNat a0.size).size) = true := decide_eq_true (by omega)
          clear c7
          have HC9 := Aside0.mk H
          clear H
          go_enter Try.func39, Try.ntmps39
          go_upto_block 0 with (first | ((with_reducible refine gate_callee (f := 96) rfl ?_); refine goesL_ (some 15) rfl rfl Try.func96 (by kernel_rfl) rfl #[.int .i64 a1, .int .i64 0, .int .i64 (wrap64 ((a0.size : Int) - 1))] rfl (by (try simp only [List.map_toArray, List.map_cons, List.map_nil]); first | done | rfl | (simp only [List.length_drop, List.length_take]; rfl)) ?_; (with_reducible refine (spec_l1In.calls a1 0 (wrap64 ((a0.size : Int) - 1)) true _ A3.out).mono ?_); rintro e w' ⟨rfl, ⟨nd, rfl⟩⟩; refine ⟨_, rfl, ?_⟩; have p8 : 0 ≤ (0 : Int) := (by omega); have q8 : 0 < (a0.extract (a1 : Int).toNat a0.size).size := (by have : (0 : Int) < ((a0.extract (a1 : Int).toNat a0.size).size : Int) := of_decide_eq_true (by first | (with_reducible assumption) | assumption); omega); have hx8 : ∀ h : 0 < (a0.extract (a1 : Int).toNat a0.size).size, (((a0.extract (a1 : Int).toNat a0.size)[0]'h).toNat : Int) = bt (a0.extract (a1 : Int).toNat a0.size) 0 := bt_at (a0.extract (a1 : Int).toNat a0.size) 0; clear p8; have qi8 : (0 < ((a0.extract (a1 : Int).toNat a0.size).size : Int)) = True := eq_true (of_decide_eq_true (by first | (with_reducible assumption) | assumption)); replace q8 := eq_true q8))
          (try simp only [Act.put, List.setIfInBounds_toArray, List.set_cons_zero, List.set_cons_succ])
          all_goals (try (exfalso; rw [decide_eq_true_eq, ByteArray.size_extract] at c7b1; omega))
          go_cut [8, 9] (fun v8 v9 wc => ∃ (kq : Nat) (x8_8 : Int) (x9_8 : Int), v8 = .int .i64 x8_8 ∧ v9 = .int .i64 x9_8 ∧ Aside0 (spec_LetterAt.j0 kq (a0.extract (a1 : Int).toNat a0.size) x8_8 x9_8 = some (r1, r2)) ∧ Aside0 (kq ≤ k) ∧ Aside0 (Below w.heap.size w wc))
          case first =>
            have H := HC9.out
            clear HC9
            by_cases c10 : (wrap64 (bt (a0.extract (a1 : Int).toNat a0.size) 0)) ≥ 240
            · rw [if_pos c10] at H
              have c10b0 : decide (240 ≤ (wrap64 (bt (a0.extract (a1 : Int).toNat a0.size) 0))) = true := decide_eq_true c10
              clear c10
              (first | rw [c10b0] | (simp only [i64_w, i32_w]; rw [c10b0]) | skip)
              have H' := Aside0.mk H
              clear H
              go_wp2
              go_meet
              case rel => exact ⟨_, (wrap64 ((wrap64 (bt (a0.extract (a1 : Int).toNat a0.size) 0)) - 240)), (4), (by first | rfl | (simp; done) | (simp [*]; done)), (by first | rfl | (simp; done) | (simp [*]; done)), H', ⟨by first | omega | exact Nat.le_refl _⟩, ⟨by repeat (first | (with_reducible first | exact HB.out | apply below_alloc | apply pw_below_drewN | apply below_drew1) | exact HB.out)⟩⟩
            · rw [if_neg c10] at H
              have c10b0 : decide (240 ≤ (wrap64 (bt (a0.extract (a1 : Int).toNat a0.size) 0))) = false := decide_eq_false c10
              clear c10
              (first | rw [c10b0] | (simp only [i64_w, i32_w]; rw [c10b0]) | skip)
              by_cases c11 : (wrap64 (bt (a0.extract (a1 : Int).toNat a0.size) 0)) ≥ 224
              · rw [if_pos c11] at H
                have c11b0 : decide (224 ≤ (wrap64 (bt (a0.extract (a1 : Int).toNat a0.size) 0))) = true := decide_eq_true c11
                clear c11
                have H' := Aside0.mk H
                clear H
                go_wp2
                go_meet
                case rel => exact ⟨_, (wrap64 ((wrap64 (bt (a0.extract (a1 : Int).toNat a0.size) 0)) - 224)), (3), (by first | rfl | (simp; done) | (simp [*]; done)), (by first | rfl | (simp; done) | (simp [*]; done)), H', ⟨by first | omega | exact Nat.le_refl _⟩, ⟨by repeat (first | (with_reducible first | exact HB.out | apply below_alloc | apply pw_below_drewN | apply below_drew1) | exact HB.out)⟩⟩
              · rw [if_neg c11] at H
                have c11b0 : decide (224 ≤ (wrap64 (bt (a0.extract (a1 : Int).toNat a0.size) 0))) = false := decide_eq_false c11
                clear c11
                by_cases c12 : (wrap64 (bt (a0.extract (a1 : Int).toNat a0.size) 0)) ≥ 192
                · rw [if_pos c12] at H
                  have c12b0 : decide (192 ≤ (wrap64 (bt (a0.extract (a1 : Int).toNat a0.size) 0))) = true := decide_eq_true c12
                  clear c12
                  have H' := Aside0.mk H
                  clear H
                  go_wp2
                  go_meet
                  case rel => exact ⟨_, (wrap64 ((wrap64 (bt (a0.extract (a1 : Int).toNat a0.size) 0)) - 192)), (2), (by first | rfl | (simp; done) | (simp [*]; done)), (by first | rfl | (simp; done) | (simp [*]; done)), H', ⟨by first | omega | exact Nat.le_refl _⟩, ⟨by repeat (first | (with_reducible first | exact HB.out | apply below_alloc | apply pw_below_drewN | apply below_drew1) | exact HB.out)⟩⟩
                · rw [if_neg c12] at H
                  have c12b0 : decide (192 ≤ (wrap64 (bt (a0.extract (a1 : Int).toNat a0.size) 0))) = false := decide_eq_false c12
                  clear c12
                  have H' := Aside0.mk H
                  clear H
                  go_wp2
                  go_meet
                  case rel => exact ⟨_, (wrap64 (bt (a0.extract (a1 : Int).toNat a0.size) 0)), (1), (by first | rfl | (simp; done) | (simp [*]; done)), (by first | rfl | (simp; done) | (simp [*]; done)), H', ⟨by first | omega | exact Nat.le_refl _⟩, ⟨by repeat (first | (with_reducible first | exact HB.out | apply below_alloc | apply pw_below_drewN | apply below_drew1) | exact HB.out)⟩⟩
          case rest =>
            clear HC9
            try clear c1
            try clear p2
            try clear c3
            try clear c4
            try clear c5
            try clear c5b0
            try clear c5b1
            try clear c6
            try clear c6b0
            try clear c6b1
            try clear p6
            try clear c7
            try clear c7b0
            try clear c7b1
            try clear p8
            try clear q8
            try clear hx8
            try clear qi8
            try clear c9
            try clear c10
            try clear c10b0
            try clear c11
            try clear c11b0
            try clear c12
            try clear c12b0
            try clear p8
            try clear q8
            obtain ⟨kq, x8_8, x9_8, rfl, rfl, HA, HJ8, HB⟩ := hcut
            generalize a0.extract (a1 : Int).toNat a0.size = x_ at HA ⊢
            cases kq with
            | zero => exact absurd HA.out (by simp [spec_LetterAt.j0])
            | succ kj8 =>
              have H := HA.out
              clear HA
              simp only [spec_LetterAt.j0] at H
              by_cases c13 : (x_.size : Int) < x9_8
              · rw [if_pos c13] at H
                have c13b0 : decide ((x_.size : Int) < x9_8) = true := decide_eq_true c13
                clear c13
                simp only [Option.some.injEq, Prod.mk.injEq] at H
                obtain ⟨rfl, rfl⟩ := H
                go_wp2
                go_ret2
                exact ⟨by first | rfl | (simp [errW_none, errW_some] <;> rfl) | (simp [*, errW_none, errW_some] <;> rfl), by repeat (first | (with_reducible first | exact HB.out | apply below_alloc | apply pw_below_drewN | apply below_drew1) | exact HB.out)⟩
              · rw [if_neg c13] at H
                have c13b0 : decide ((x_.size : Int) < x9_8) = false := decide_eq_false c13
                clear c13
                have H' := Aside0.mk H
                clear H
                go_wp2
                go_loopg [8, 10] kj8 (fun kq v8 v10 w' => ∃ (x8_2 : Int) (x10_2 : Int), v8 = .int .i64 x8_2 ∧ v10 = .int .i64 x10_2 ∧ Aside0 (spec_LetterAt.l0 kq x_ x8_2 x9_8 x10_2 = some (r1, r2)) ∧ Aside0 (kq ≤ kj8) ∧ Aside0 (Below w.heap.size w w'))
                case atStart => exact ⟨(x8_8), (1), (by first | rfl | (simp; done) | (simp [*]; done)), (by first | rfl | (simp; done) | (simp [*]; done)), H', ⟨Nat.le_refl _⟩, ⟨by repeat (first | (with_reducible first | exact HB.out | apply below_alloc | apply pw_below_drewN | apply below_drew1) | exact HB.out)⟩⟩
                case round =>
                  clear H'
                  try clear c1
                  try clear p2
                  try clear c3
                  try clear c4
                  try clear c5
                  try clear c5b0
                  try clear c5b1
                  try clear c6
                  try clear c6b0
                  try clear c6b1
                  try clear p6
                  try clear c7
                  try clear c7b0
                  try clear c7b1
                  try clear p8
                  try clear q8
                  try clear hx8
                  try clear qi8
                  try clear c9
                  try clear c10
                  try clear c10b0
                  try clear c11
                  try clear c11b0
                  try clear c12
                  try clear c12b0
                  try clear c13
                  try clear c13b0
                  try clear p2
                  try clear p6
                  try clear p8
                  try clear q8
                  obtain ⟨x8_2, x10_2, rfl, rfl, HA, HK2, HB⟩ := hrel
                  cases gk with
                  | zero => exact absurd HA.out (by simp [spec_LetterAt.l0])
                  | succ k2 =>
                    have H := HA.out
                    clear HA
                    simp only [spec_LetterAt.l0] at H
                    by_cases c14 : x10_2 < x9_8
                    · rw [if_pos c14] at H
                      have c14b0 : decide (x10_2 < x9_8) = true := decide_eq_true c14
                      clear c14
                      by_cases c15 : 0 ≤ x10_2
                      · rw [if_pos c15] at H
                        have c15b0 : decide (0 ≤ x10_2) = true := decide_eq_true c15
                        clear c15
                        by_cases c16 : x10_2 < (x_.size : Int)
                        · rw [if_pos c16] at H
                          have c16b0 : decide (x10_2 < (x_.size : Int)) = true := decide_eq_true c16
                          clear c16
                          have H' := Aside0.mk H
                          clear H
                          have p17 : 0 ≤ (x10_2 : Int) := of_decide_eq_true (by first | (with_reducible assumption) | assumption)
                          have q17 : x10_2 < (x_.size : Int) := of_decide_eq_true (by first | (with_reducible assumption) | assumption)
                          have hx17 := bt_at x_ x10_2
                          replace p17 := eq_true p17
                          replace q17 := eq_true q17
                          go_wp2
                          go_roundg k2
                          case measure => have := HJ8.out; have := HK2.out; omega
                          case rel => exact ⟨(wrap64 ((wrap64 ((wrap64 (x8_2 * 64)) + (wrap64 (bt x_ x10_2)))) - 128)), (wrap64 (x10_2 + 1)), (by first | rfl | (simp; done) | (simp [*]; done)), (by first | rfl | (simp; done) | (simp [*]; done)), H', ⟨by have := HJ8.out; have := HK2.out; omega⟩, ⟨by repeat (first | (with_reducible first | exact HB.out | apply below_alloc | apply pw_below_drewN | apply below_drew1) | exact HB.out)⟩⟩
                        · rw [if_neg c16] at H
                          exact absurd H (by simp)
                      · rw [if_neg c15] at H
                        exact absurd H (by simp)
                    · rw [if_neg c14] at H
                      have c14b0 : decide (x10_2 < x9_8) = false := decide_eq_false c14
                      clear c14
                      by_cases c18 : x8_2 < 0
                      · rw [if_pos c18] at H
                        have c18b0 : decide (x8_2 < 0) = true := decide_eq_true c18
                        clear c18
                        simp only [Option.some.injEq, Prod.mk.injEq] at H
                        obtain ⟨rfl, rfl⟩ := H
                        try go_wp2
                        have n0_ := Aside0.mk (below_drew1 HB.out)
                        clear HB
                        have HB := n0_
                        clear n0_
                        refine start_ (n := 10) (S := fun w' => True) (ds := []) #[false, false, false, false, false, false, false, false, false, false] (by kernel_rfl) rfl rfl trivial (fun hHeld => ?_); refine with_tabW spec_LetterAt.tab22 spec_LetterAt.bits22 (fun HT_ HW_ => ?_)
                        generalize wr.drew = w19 at HB hHeld ⊢
                        refine pure_ (i := 0) (N := some 56) (v := ?_) (a' := ?_) #[true, false, false, false, false, false, false, false, false, false] rfl rfl (any_of HT_.out (by kernel_rfl)) (fun _ _ _ h => h) (Or.inl ⟨by rfl, ?_⟩) ?_ ?_
                        rotate_left
                        · intro w'
                          go_simp
                          with_reducible rfl
                        rotate_left
                        · simp only [Act.put, List.setIfInBounds_toArray, List.set_cons_zero, List.set_cons_succ, i64_w, i32_w]
                          rfl
                        refine pure_ (i := 1) (N := some 57) (v := ?_) (a' := ?_) #[true, true, false, false, false, false, false, false, false, false] rfl rfl (any_of HT_.out (by kernel_rfl)) (fun _ _ _ h => h) (Or.inl ⟨by rfl, ?_⟩) ?_ ?_
                        rotate_left
                        · intro w'
                          go_simp
                          with_reducible rfl
                        rotate_left
                        · simp only [Act.put, List.setIfInBounds_toArray, List.set_cons_zero, List.set_cons_succ, i64_w, i32_w]
                          rfl
                        refine pure_ (i := 2) (N := some 58) (v := ?_) (a' := ?_) #[true, true, true, false, false, false, false, false, false, false] rfl rfl (any_of HT_.out (by kernel_rfl)) (fun _ _ _ h => h) (Or.inl ⟨by rfl, ?_⟩) ?_ ?_
                        rotate_left
                        · intro w'
                          go_simp
                          with_reducible rfl
                        rotate_left
                        · simp only [Act.put, List.setIfInBounds_toArray, List.set_cons_zero, List.set_cons_succ, i64_w, i32_w]
                          rfl
                        refine pure_ (i := 3) (N := some 59) (v := undef) (a' := ?_) #[true, true, true, true, false, false, false, false, false, false] rfl rfl (any_of HT_.out (by kernel_rfl)) (fun _ _ _ h => h) (Or.inr ⟨by rfl, rfl⟩) ?_ ?_
                        rotate_left
                        · simp only [Act.put, List.setIfInBounds_toArray, List.set_cons_zero, List.set_cons_succ, i64_w, i32_w]
                          rfl
                        refine pure_ (i := 4) (N := some 60) (v := undef) (a' := ?_) #[true, true, true, true, true, false, false, false, false, false] rfl rfl (any_of HT_.out (by kernel_rfl)) (fun _ _ _ h => h) (Or.inr ⟨by rfl, rfl⟩) ?_ ?_
                        rotate_left
                        · simp only [Act.put, List.setIfInBounds_toArray, List.set_cons_zero, List.set_cons_succ, i64_w, i32_w]
                          rfl
                        refine pure_ (i := 5) (N := some 61) (v := undef) (a' := ?_) #[true, true, true, true, true, true, false, false, false, false] rfl rfl (any_of HT_.out (by kernel_rfl)) (fun _ _ _ h => h) (Or.inr ⟨by rfl, rfl⟩) ?_ ?_
                        rotate_left
                        · simp only [Act.put, List.setIfInBounds_toArray, List.set_cons_zero, List.set_cons_succ, i64_w, i32_w]
                          rfl
                        refine pure_ (i := 6) (N := some 62) (v := undef) (a' := ?_) #[true, true, true, true, true, true, true, false, false, false] rfl rfl (any_of HT_.out (by kernel_rfl)) (fun _ _ _ h => h) (Or.inr ⟨by rfl, rfl⟩) ?_ ?_
                        rotate_left
                        · simp only [Act.put, List.setIfInBounds_toArray, List.set_cons_zero, List.set_cons_succ, i64_w, i32_w]
                          rfl
                        refine pure_ (i := 7) (N := some 63) (v := undef) (a' := ?_) #[true, true, true, true, true, true, true, true, false, false] rfl rfl (any_of HT_.out (by kernel_rfl)) (fun _ _ _ h => h) (Or.inr ⟨by rfl, rfl⟩) ?_ ?_
                        rotate_left
                        · simp only [Act.put, List.setIfInBounds_toArray, List.set_cons_zero, List.set_cons_succ, i64_w, i32_w]
                          rfl
                        refine pure_ (i := 8) (N := some 64) (v := undef) (a' := ?_) #[true, true, true, true, true, true, true, true, true, false] rfl rfl (any_of HT_.out (by kernel_rfl)) (fun _ _ _ h => h) (Or.inr ⟨by rfl, rfl⟩) ?_ ?_
                        rotate_left
                        · simp only [Act.put, List.setIfInBounds_toArray, List.set_cons_zero, List.set_cons_succ, i64_w, i32_w]
                          rfl
                        refine pure_ (i := 9) (N := some 65) (v := ?_) (a' := ?_) #[true, true, true, true, true, true, true, true, true, true] rfl rfl (any_of HT_.out (by kernel_rfl)) (fun _ _ _ h => h) (Or.inl ⟨by rfl, ?_⟩) ?_ ?_
                        rotate_left
                        · intro w'
                          go_simp
                          with_reducible rfl
                        rotate_left
                        · simp only [Act.put, List.setIfInBounds_toArray, List.set_cons_zero, List.set_cons_succ, i64_w, i32_w]
                          rfl
                        refine done_ (done_of HT_.out (by kernel_rfl)) ?_
                        try go_wp2
                        go_ret2
                        exact ⟨by first | rfl | (simp [errW_none, errW_some] <;> rfl) | (simp [*, errW_none, errW_some] <;> rfl), by repeat (first | (with_reducible first | exact HB.out | apply below_alloc | apply pw_below_drewN | apply below_drew1) | exact HB.out)⟩
                      · rw [if_neg c18] at H
                        have c18b0 : decide (x8_2 < 0) = false := decide_eq_false c18
                        clear c18
                        replace H := Option.bind_eq_some_iff.mp H
                        obtain ⟨t202, A200, H⟩ := H
                        replace H : (if 0 ≤ x9_8 then (if x9_8 ≤ (x_.size : Int) then (if t202.toList = (x_.extract 0 (x9_8 : Int).toNat).toList then (some (x8_2, x9_8)) else (some ((-1), 0))) else (none)) else (none)) = some (r1, r2) := H
                        have A20 := Aside0.mk A200
                        clear A200
                        by_cases c21 : 0 ≤ x9_8
                        · rw [if_pos c21] at H
                          have c21b0 := eq_true c21
                          have c21b1 : decide (0 ≤ x9_8) = true := decide_eq_true c21
                          clear c21
                          by_cases c22 : x9_8 ≤ (x_.size : Int)
                          · rw [if_pos c22] at H
                            have c22b0 := eq_true c22
                            have c22b1 : decide (x9_8 ≤ (x_.size : Int)) = true := decide_eq_true c22
                            clear c22
                            by_cases c23 : t202.toList = (x_.extract 0 (x9_8 : Int).toNat).toList
                            · rw [if_pos c23] at H
                              have c23b0 : (t202.toList == (x_.extract 0 (x9_8 : Int).toNat).toList) = true := beq_iff_eq.mpr c23
                              have c23b1 : (t202.toList != (x_.extract 0 (x9_8 : Int).toNat).toList) = false := bne_eq_false_iff_eq.mpr c23
                              clear c23
                              simp only [Option.some.injEq, Prod.mk.injEq] at H
                              obtain ⟨rfl, rfl⟩ := H
                              try go_wp2
                              have n0_ := Aside0.mk (below_drew1 HB.out)
                              clear HB
                              have HB := n0_
                              clear n0_
                              refine start_ (n := 10) (S := fun w' => True) (ds := []) #[false, false, false, false, false, false, false, false, false, false] (by kernel_rfl) rfl rfl trivial (fun hHeld => ?_); refine with_tabW spec_LetterAt.tab22 spec_LetterAt.bits22 (fun HT_ HW_ => ?_)
                              generalize wr.drew = w24 at HB hHeld ⊢
                              refine pure_ (i := 0) (N := some 56) (v := ?_) (a' := ?_) #[true, false, false, false, false, false, false, false, false, false] rfl rfl (any_of HT_.out (by kernel_rfl)) (fun _ _ _ h => h) (Or.inl ⟨by rfl, ?_⟩) ?_ ?_
                              rotate_left
                              · intro w'
                                go_simp
                                with_reducible rfl
                              rotate_left
                              · simp only [Act.put, List.setIfInBounds_toArray, List.set_cons_zero, List.set_cons_succ, i64_w, i32_w]
                                rfl
                              refine pure_ (i := 1) (N := some 57) (v := ?_) (a' := ?_) #[true, true, false, false, false, false, false, false, false, false] rfl rfl (any_of HT_.out (by kernel_rfl)) (fun _ _ _ h => h) (Or.inl ⟨by rfl, ?_⟩) ?_ ?_
                              rotate_left
                              · intro w'
                                go_simp
                                with_reducible rfl
                              rotate_left
                              · simp only [Act.put, List.setIfInBounds_toArray, List.set_cons_zero, List.set_cons_succ, i64_w, i32_w]
                                rfl
                              refine pure_ (i := 2) (N := some 58) (v := ?_) (a' := ?_) #[true, true, true, false, false, false, false, false, false, false] rfl rfl (any_of HT_.out (by kernel_rfl)) (fun _ _ _ h => h) (Or.inl ⟨by rfl, ?_⟩) ?_ ?_
                              rotate_left
                              · intro w'
                                go_simp
                                with_reducible rfl
                              rotate_left
                              · simp only [Act.put, List.setIfInBounds_toArray, List.set_cons_zero, List.set_cons_succ, i64_w, i32_w]
                                rfl
                              refine pure_ (i := 3) (N := some 59) (v := ?_) (a' := ?_) #[true, true, true, true, false, false, false, false, false, false] rfl rfl (any_of HT_.out (by kernel_rfl)) (fun _ _ _ h => h) (Or.inl ⟨by rfl, ?_⟩) ?_ ?_
                              rotate_left
                              · intro w'
                                go_simp
                                with_reducible rfl
                              rotate_left
                              · simp only [Act.put, List.setIfInBounds_toArray, List.set_cons_zero, List.set_cons_succ, i64_w, i32_w]
                                rfl
                              refine pure_ (i := 5) (N := some 61) (v := ?_) (a' := ?_) #[true, true, true, true, false, true, false, false, false, false] rfl rfl (any_of HT_.out (by kernel_rfl)) (fun _ _ _ h => h) (Or.inl ⟨by rfl, ?_⟩) ?_ ?_
                              rotate_left
                              · intro w'
                                go_simp
                                with_reducible rfl
                              rotate_left
                              · simp only [Act.put, List.setIfInBounds_toArray, List.set_cons_zero, List.set_cons_succ, i64_w, i32_w]
                                rfl
                              refine pure_ (i := 6) (N := some 62) (v := ?_) (a' := ?_) #[true, true, true, true, false, true, true, false, false, false] rfl rfl (any_of HT_.out (by kernel_rfl)) (fun _ _ _ h => h) (Or.inl ⟨by rfl, ?_⟩) ?_ ?_
                              rotate_left
                              · intro w'
                                go_simp
                                with_reducible rfl
                              rotate_left
                              · simp only [Act.put, List.setIfInBounds_toArray, List.set_cons_zero, List.set_cons_succ, i64_w, i32_w]
                                rfl
                              refine pure_ (i := 7) (N := some 63) (v := ?_) (a' := ?_) #[true, true, true, true, false, true, true, true, false, false] rfl rfl (any_of HT_.out (by kernel_rfl)) (fun _ _ _ h => h) (Or.inl ⟨by rfl, ?_⟩) ?_ ?_
                              rotate_left
                              · intro w'
                                go_simp
                                with_reducible rfl
                              rotate_left
                              · simp only [Act.put, List.setIfInBounds_toArray, List.set_cons_zero, List.set_cons_succ, i64_w, i32_w]
                                rfl
                              refine one_ (i := 4) (N := some 60) #[true, true, true, true, true, true, true, true, false, false] rfl rfl (one_of HT_.out (by kernel_rfl)) (by decide) (fun K hK => ?_)
                              refine goes_ Try.func36 (by kernel_rfl) rfl #[.int .i64 x8_2] (by rfl) rfl rfl (by (try simp only [List.map_toArray, List.map_cons, List.map_nil]); first | done | rfl | (simp only [List.length_drop, List.length_take]; rfl)) ?_
                              with_reducible refine (spec_LetterBytes.calls k2 x8_2 t202 _ A20.out).mono ?_
                              rintro e w25 ⟨rfl, hb⟩
                              refine ⟨_, rfl, ?_⟩
                              have n0_ := Aside0.mk (below_step (by repeat (first | (with_reducible first | exact HB.out | apply below_alloc | apply pw_below_drewN | apply below_drew1) | exact HB.out)) hb)
                              clear HB
                              have HB := n0_
                              clear n0_
                              (try clear hb)
                              (try clear hb2)
                              (try clear hk)
                              (try clear hi)
                              refine hK.out _ _ trivial (fun hHeld => ?_)
                              clear hK K
                              refine norm_ (a' := ?_) ?_ ?_
                              rotate_left
                              · show Act.put _ (some 60) _ = _
                                simp only [Act.put, List.setIfInBounds_toArray, List.set_cons_zero, List.set_cons_succ, i64_w, i32_w]
                                rfl
                              refine pure_ (i := 8) (N := some 64) (v := ?_) (a' := ?_) #[true, true, true, true, true, true, true, true, true, false] rfl rfl (any_of HT_.out (by kernel_rfl)) (fun _ _ _ h => h) (Or.inl ⟨by rfl, ?_⟩) ?_ ?_
                              rotate_left
                              · intro w'
                                go_simp
                                with_reducible rfl
                              rotate_left
                              · simp only [Act.put, List.setIfInBounds_toArray, List.set_cons_zero, List.set_cons_succ, i64_w, i32_w]
                                rfl
                              refine pure_ (i := 9) (N := some 65) (v := ?_) (a' := ?_) #[true, true, true, true, true, true, true, true, true, true] rfl rfl (any_of HT_.out (by kernel_rfl)) (fun _ _ _ h => h) (Or.inl ⟨by rfl, ?_⟩) ?_ ?_
                              rotate_left
                              · intro w'
                                go_simp
                                with_reducible rfl
                              rotate_left
                              · simp only [Act.put, List.setIfInBounds_toArray, List.set_cons_zero, List.set_cons_succ, i64_w, i32_w]
                                rfl
                              refine done_ (done_of HT_.out (by kernel_rfl)) ?_
                              try go_wp2
                              go_ret2
                              exact ⟨by first | rfl | (simp [errW_none, errW_some] <;> rfl) | (simp [*, errW_none, errW_some] <;> rfl), by repeat (first | (with_reducible first | exact HB.out | apply below_alloc | apply pw_below_drewN | apply below_drew1) | exact HB.out)⟩
                            · rw [if_neg c23] at H
                              have c23b0 : (t202.toList == (x_.extract 0 (x9_8 : Int).toNat).toList) = false := beq_eq_false_iff_ne.mpr c23
                              have c23b1 : (t202.toList != (x_.extract 0 (x9_8 : Int).toNat).toList) = true := bne_iff_ne.mpr c23
                              simp only [Option.some.injEq, Prod.mk.injEq] at H
                              obtain ⟨rfl, rfl⟩ := H
                              try go_wp2
                              have n0_ := Aside0.mk (below_drew1 HB.out)
                              clear HB
                              have HB := n0_
                              clear n0_
                              refine start_ (n := 10) (S := fun w' => True) (ds := []) #[false, false, false, false, false, false, false, false, false, false] (by kernel_rfl) rfl rfl trivial (fun hHeld => ?_); refine with_tabW spec_LetterAt.tab22 spec_LetterAt.bits22 (fun HT_ HW_ => ?_)
                              generalize wr.drew = w26 at HB hHeld ⊢
                              refine pure_ (i := 0) (N := some 56) (v := ?_) (a' := ?_) #[true, false, false, false, false, false, false, false, false, false] rfl rfl (any_of HT_.out (by kernel_rfl)) (fun _ _ _ h => h) (Or.inl ⟨by rfl, ?_⟩) ?_ ?_
                              rotate_left
                              · intro w'
                                go_simp
                                with_reducible rfl
                              rotate_left
                              · simp only [Act.put, List.setIfInBounds_toArray, List.set_cons_zero, List.set_cons_succ, i64_w, i32_w]
                                rfl
                              refine pure_ (i := 1) (N := some 57) (v := ?_) (a' := ?_) #[true, true, false, false, false, false, false, false, false, false] rfl rfl (any_of HT_.out (by kernel_rfl)) (fun _ _ _ h => h) (Or.inl ⟨by rfl, ?_⟩) ?_ ?_
                              rotate_left
                              · intro w'
                                go_simp
                                with_reducible rfl
                              rotate_left
                              · simp only [Act.put, List.setIfInBounds_toArray, List.set_cons_zero, List.set_cons_succ, i64_w, i32_w]
                                rfl
                              refine pure_ (i := 2) (N := some 58) (v := ?_) (a' := ?_) #[true, true, true, false, false, false, false, false, false, false] rfl rfl (any_of HT_.out (by kernel_rfl)) (fun _ _ _ h => h) (Or.inl ⟨by rfl, ?_⟩) ?_ ?_
                              rotate_left
                              · intro w'
                                go_simp
                                with_reducible rfl
                              rotate_left
                              · simp only [Act.put, List.setIfInBounds_toArray, List.set_cons_zero, List.set_cons_succ, i64_w, i32_w]
                                rfl
                              refine pure_ (i := 3) (N := some 59) (v := ?_) (a' := ?_) #[true, true, true, true, false, false, false, false, false, false] rfl rfl (any_of HT_.out (by kernel_rfl)) (fun _ _ _ h => h) (Or.inl ⟨by rfl, ?_⟩) ?_ ?_
                              rotate_left
                              · intro w'
                                go_simp
                                with_reducible rfl
                              rotate_left
                              · simp only [Act.put, List.setIfInBounds_toArray, List.set_cons_zero, List.set_cons_succ, i64_w, i32_w]
                                rfl
                              refine pure_ (i := 5) (N := some 61) (v := ?_) (a' := ?_) #[true, true, true, true, false, true, false, false, false, false] rfl rfl (any_of HT_.out (by kernel_rfl)) (fun _ _ _ h => h) (Or.inl ⟨by rfl, ?_⟩) ?_ ?_
                              rotate_left
                              · intro w'
                                go_simp
                                with_reducible rfl
                              rotate_left
                              · simp only [Act.put, List.setIfInBounds_toArray, List.set_cons_zero, List.set_cons_succ, i64_w, i32_w]
                                rfl
                              refine pure_ (i := 6) (N := some 62) (v := ?_) (a' := ?_) #[true, true, true, true, false, true, true, false, false, false] rfl rfl (any_of HT_.out (by kernel_rfl)) (fun _ _ _ h => h) (Or.inl ⟨by rfl, ?_⟩) ?_ ?_
                              rotate_left
                              · intro w'
                                go_simp
                                with_reducible rfl
                              rotate_left
                              · simp only [Act.put, List.setIfInBounds_toArray, List.set_cons_zero, List.set_cons_succ, i64_w, i32_w]
                                rfl
                              refine pure_ (i := 7) (N := some 63) (v := ?_) (a' := ?_) #[true, true, true, true, false, true, true, true, false, false] rfl rfl (any_of HT_.out (by kernel_rfl)) (fun _ _ _ h => h) (Or.inl ⟨by rfl, ?_⟩) ?_ ?_
                              rotate_left
                              · intro w'
                                go_simp
                                with_reducible rfl
                              rotate_left
                              · simp only [Act.put, List.setIfInBounds_toArray, List.set_cons_zero, List.set_cons_succ, i64_w, i32_w]
                                rfl
                              refine one_ (i := 4) (N := some 60) #[true, true, true, true, true, true, true, true, false, false] rfl rfl (one_of HT_.out (by kernel_rfl)) (by decide) (fun K hK => ?_)
                              refine goes_ Try.func36 (by kernel_rfl) rfl #[.int .i64 x8_2] (by rfl) rfl rfl (by (try simp only [List.map_toArray, List.map_cons, List.map_nil]); first | done | rfl | (simp only [List.length_drop, List.length_take]; rfl)) ?_
                              with_reducible refine (spec_LetterBytes.calls k2 x8_2 t202 _ A20.out).mono ?_
                              rintro e w27 ⟨rfl, hb⟩
                              refine ⟨_, rfl, ?_⟩
                              have n0_ := Aside0.mk (below_step (by repeat (first | (with_reducible first | exact HB.out | apply below_alloc | apply pw_below_drewN | apply below_drew1) | exact HB.out)) hb)
                              clear HB
                              have HB := n0_
                              clear n0_
                              (try clear hb)
                              (try clear hb2)
                              (try clear hk)
                              (try clear hi)
                              refine hK.out _ _ trivial (fun hHeld => ?_)
                              clear hK K
                              refine norm_ (a' := ?_) ?_ ?_
                              rotate_left
                              · show Act.put _ (some 60) _ = _
                                simp only [Act.put, List.setIfInBounds_toArray, List.set_cons_zero, List.set_cons_succ, i64_w, i32_w]
                                rfl
                              refine pure_ (i := 8) (N := some 64) (v := ?_) (a' := ?_) #[true, true, true, true, true, true, true, true, true, false] rfl rfl (any_of HT_.out (by kernel_rfl)) (fun _ _ _ h => h) (Or.inl ⟨by rfl, ?_⟩) ?_ ?_
                              rotate_left
                              · intro w'
                                go_simp
                                with_reducible rfl
                              rotate_left
                              · simp only [Act.put, List.setIfInBounds_toArray, List.set_cons_zero, List.set_cons_succ, i64_w, i32_w]
                                rfl
                              refine pure_ (i := 9) (N := some 65) (v := ?_) (a' := ?_) #[true, true, true, true, true, true, true, true, true, true] rfl rfl (any_of HT_.out (by kernel_rfl)) (fun _ _ _ h => h) (Or.inl ⟨by rfl, ?_⟩) ?_ ?_
                              rotate_left
                              · intro w'
                                go_simp
                                with_reducible rfl
                              rotate_left
                              · simp only [Act.put, List.setIfInBounds_toArray, List.set_cons_zero, List.set_cons_succ, i64_w, i32_w]
                                rfl
                              refine done_ (done_of HT_.out (by kernel_rfl)) ?_
                              try go_wp2
                              go_ret2
                              exact ⟨by first | rfl | (simp [errW_none, errW_some] <;> rfl) | (simp [*, errW_none, errW_some] <;> rfl), by repeat (first | (with_reducible first | exact HB.out | apply below_alloc | apply pw_below_drewN | apply below_drew1) | exact HB.out)⟩
                          · rw [if_neg c22] at H
                            exact absurd H (by simp)
                        · rw [if_neg c21] at H
                          exact absurd H (by simp)
        · rw [if_neg c7] at H
          exact absurd H (by simp)
      · rw [if_neg c6] at H
        exact absurd H (by simp)
    · rw [if_neg c5] at H
      exact absurd H (by simp)
  · replace c4 := Bool.eq_false_iff.mpr c4
    subst c4
    have H1 : (some ((-1), 0)) = some (r1, r2) := by rw [if_neg (show ¬ (false = true) by decide)] at H; exact H
    clear H
    have H := H1
    clear H1
    simp only [Option.some.injEq, Prod.mk.injEq] at H
    obtain ⟨rfl, rfl⟩ := H
    go_enter Try.func39, Try.ntmps39
    go_wp2_with (first | ((with_reducible refine gate_callee (f := 96) rfl ?_); refine goesL_ (some 15) rfl rfl Try.func96 (by kernel_rfl) rfl #[.int .i64 a1, .int .i64 0, .int .i64 (wrap64 ((a0.size : Int) - 1))] rfl (by (try simp only [List.map_toArray, List.map_cons, List.map_nil]); first | done | rfl | (simp only [List.length_drop, List.length_take]; rfl)) ?_; (with_reducible refine (spec_l1In.calls a1 0 (wrap64 ((a0.size : Int) - 1)) false _ A3.out).mono ?_); rintro e w' ⟨rfl, ⟨nd, rfl⟩⟩; refine ⟨_, rfl, ?_⟩))
    go_ret2
    exact ⟨by first | rfl | (simp [errW_none, errW_some] <;> rfl) | (simp [*, errW_none, errW_some] <;> rfl), by repeat (first | (with_reducible first | exact HB.out | apply below_alloc | apply pw_below_drewN | apply below_drew1) | exact HB.out)⟩

end Go.Proofs.Ytabpfejdppfcdaa.PFnLetters
