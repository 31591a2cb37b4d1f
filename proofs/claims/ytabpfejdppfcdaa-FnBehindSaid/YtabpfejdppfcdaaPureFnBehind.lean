/- Line and column behind two pieces are those behind the second one from behind the first: whatever the code. -/
import Derived.Test.YtabpfejdppfcdaaPFnBehindx2
import Derived.Test.YtabpfejdppfcdaaKit
import Derived.Test.YtabpfejdppfcdaaKitNums
import Derived.Test.YtabpfejdppfcdaaKitTot
namespace Go.Proofs.Ytabpfejdppfcdaa.Pure
open Go.RowKit Go.Proofs.Ytabpfejdppfcdaa.PFnBehind Go.Proofs.YtabpfejdppfcdaaW.PrintWords Go.Proofs.YtabpfejdppfcdaaW.PrintLast Go.Proofs.YtabpfejdppfcdaaW.PrintMore Go.Proofs.Ytabpfejdppfcdaa.Kit
set_option linter.unusedVariables false
theorem sIn (a b c : Int) : spec_l1In.f a b c = some (decide (b ≤ a ∧ a ≤ c)) := by
  unfold spec_l1In.f
  by_cases h : a ≥ b
  · rw [if_pos h]; congr 1; simp; omega
  · rw [if_neg h]; congr 1; simp; omega
theorem iWithin (a b c : Int) : impl_within.f a b c = some (decide (b ≤ a ∧ a ≤ c)) := by
  unfold impl_within.f
  by_cases h : a ≥ b
  · rw [if_pos h]; congr 1; simp; omega
  · rw [if_neg h]; congr 1; simp; omega
theorem bt_el (x : ByteArray) (k : Nat) (h : k < x.size) : bt x k = ((x.data.toList[k]'h).toNat : Int) := by
  unfold bt
  rw [dif_pos (by rw [Int.toNat_natCast]; exact h)]
  simp [ByteArray.getElem_eq_getElem_data]
theorem ten_iff (u : UInt8) : ((u.toNat : Int) = 10) ↔ u = 10 := by
  constructor
  · intro h
    apply UInt8.toNat_inj.1
    have : u.toNat = 10 := by omega
    rw [this]
    rfl
  · rintro rfl
    rfl
theorem occ_bt (x : ByteArray) (k : Nat) (h : k < x.size) : Lib.occAt x.data.toList [10] k = decide (bt x k = 10) := by
  unfold Lib.occAt
  rw [List.drop_eq_getElem_cons (i := k) (l := x.data.toList) h, bt_el x k h]
  simp only [List.isPrefixOf, Bool.and_true]
  rw [Bool.eq_iff_iff, beq_iff_eq, decide_eq_true_eq, ten_iff]
  exact eq_comm
theorem count_step (x : ByteArray) (k : Nat) (h : k < x.size) : (x.data.toList.take (k + 1)).count 10 = (x.data.toList.take k).count 10 + (if bt x k = 10 then 1 else 0) := by
  rw [← List.take_append_getElem (i := k) (l := x.data.toList) h, List.count_append, bt_el x k h]
  congr 1
  by_cases g : x.data.toList[k]'h = 10
  · rw [if_pos ((ten_iff _).2 g), g]
    rfl
  · rw [if_neg (fun q => g ((ten_iff _).1 q)), List.count_singleton, if_neg (by rw [beq_iff_eq]; exact g)]
/-- where the place is behind i bytes -/
def plM (x : ByteArray) (l c : Int) (i : Nat) : Int × Int :=
  if (x.data.toList.take i).count 10 = 0 then (l, c + i) else (l + ((x.data.toList.take i).count 10 : Nat), i - Lib.lastOcc x.data.toList [10] i)
theorem count_le (x : ByteArray) (i : Nat) : (x.data.toList.take i).count 10 ≤ i := Nat.le_trans (List.count_le_length) (by rw [List.length_take]; omega)
theorem last_rng (x : ByteArray) (i : Nat) : -1 ≤ Lib.lastOcc x.data.toList [10] i ∧ Lib.lastOcc x.data.toList [10] i < i := by
  rcases Lib.lastOcc_spec x.data.toList [10] i with ⟨h, _⟩ | ⟨j, h1, h2, _⟩
  · omega
  · omega
theorem sBehind_l (x : ByteArray) (hx : x.size ≤ 20000) (l c : Int) (l0 : 1 ≤ l) (l1 : l ≤ 1000000000000) (c0 : 1 ≤ c) (c1 : c ≤ 1000000000000) (d : Nat) : ∀ (k i : Nat), d < k → x.size - i = d → i ≤ x.size →
    spec_PlaceBehind.l0 k (plM x l c i).1 (plM x l c i).2 x (i : Int) = some (plM x l c x.size) := by
  induction d with
  | zero =>
    intro k i hk hd hi
    obtain ⟨k, rfl⟩ : ∃ m, k = m + 1 := ⟨k - 1, by omega⟩
    obtain rfl : i = x.size := by omega
    simp only [spec_PlaceBehind.l0]
    rw [if_neg (by omega)]
  | succ d ih =>
    intro k i hk hd hi
    obtain ⟨k, rfl⟩ : ∃ m, k = m + 1 := ⟨k - 1, by omega⟩
    have hlt : i < x.size := by omega
    have ih := ih k (i + 1) (by omega) (by omega) (by omega)
    have q1 := count_le x i
    have q2 := last_rng x i
    have q3 := count_step x i hlt
    have q4 := occ_bt x i hlt
    simp only [spec_PlaceBehind.l0]
    rw [if_pos (by omega), if_pos (by omega), nat_next (by omega)]
    by_cases hb : bt x i = 10
    · rw [if_pos hb]
      rw [decide_eq_true hb] at q4
      rw [if_pos hb] at q3
      have e : plM x l c (i + 1) = (wrap64 ((plM x l c i).1 + 1), 1) := by
        unfold plM
        rw [q3, if_neg (by omega), Lib.lastOcc_hit _ _ _ q4]
        by_cases hc : (x.data.toList.take i).count 10 = 0
        · rw [if_pos hc, w64 (by omega) (by omega), hc]
          congr 1
          omega
        · rw [if_neg hc, w64 (by simp only; omega) (by simp only; omega)]
          simp only
          congr 1
          · omega
          · omega
      rw [e] at ih
      exact ih
    · rw [if_neg hb]
      rw [decide_eq_false hb] at q4
      rw [if_neg hb] at q3
      have e : plM x l c (i + 1) = ((plM x l c i).1, wrap64 ((plM x l c i).2 + 1)) := by
        unfold plM
        rw [q3, Lib.lastOcc_miss _ _ _ q4]
        by_cases hc : (x.data.toList.take i).count 10 = 0
        · rw [if_pos (by omega), if_pos hc, w64 (by simp only; omega) (by simp only; omega)]
          simp only
          congr 1
          omega
        · rw [if_neg (by omega), if_neg hc, w64 (by simp only; omega) (by simp only; omega)]
          simp only
          congr 1
          omega
      rw [e] at ih
      exact ih
theorem iBehind (x : ByteArray) (hx : x.size ≤ 20000) (l c : Int) (l0 : 1 ≤ l) (l1 : l ≤ 1000000000000) (c0 : 1 ≤ c) (c1 : c ≤ 1000000000000) : impl_behind.f l c x = some (plM x l c x.size) := by
  have q1 := count_le x x.size
  have q2 := last_rng x x.size
  have et : x.data.toList.take x.size = x.data.toList := List.take_of_length_le (Nat.le_refl _)
  unfold impl_behind.f plM
  rw [et] at q1 ⊢
  unfold Lib.countByte
  rw [if_pos (by omega)]
  by_cases hc : x.data.toList.count 10 = 0
  · rw [if_pos (by omega), if_pos hc, w64 (by omega) (by omega)]
  · rw [if_neg (by omega), if_neg hc, w64 (by omega) (by omega)]
    have hl : 1 ≤ x.size := by omega
    have e : Lib.lastIndex x.data.toList [10] = Lib.lastOcc x.data.toList [10] x.size := by
      unfold Lib.lastIndex
      have z : x.data.toList.length = x.size := rfl
      rw [if_pos (by rw [z]; exact hl), z]
      congr 1
      simp
      omega
    rw [e, w64 (by omega) (by omega)]
theorem sPlaceBehind (l c : Int) (x : ByteArray) (k : Nat) (hk : 20010 ≤ k) : spec_PlaceBehind.f k l c x = some (if (1 ≤ l ∧ l ≤ 1000000000000) ∧ (1 ≤ c ∧ c ≤ 1000000000000) ∧ x.size ≤ 20000 then plM x l c x.size else (-1, -1)) := by
  obtain ⟨k, rfl⟩ : ∃ m, k = m + 1 := ⟨k - 1, by omega⟩
  unfold spec_PlaceBehind.f
  rw [sIn, sIn]
  simp only [Option.bind_some, decide_eq_true_eq, spec_PlaceBehind.j0]
  by_cases h1 : 1 ≤ l ∧ l ≤ 1000000000000
  · rw [if_pos h1]
    by_cases h2 : 1 ≤ c ∧ c ≤ 1000000000000
    · rw [if_pos h2]
      by_cases h3 : (x.size : Int) > 20000
      · rw [if_pos h3, if_neg (by omega)]
      · have e := sBehind_l x (by omega) l c h1.1 h1.2 h2.1 h2.2 x.size k 0 (by omega) (by omega) (by omega)
        have e0 : plM x l c 0 = (l, c) := by unfold plM; simp
        rw [e0] at e
        rw [if_neg h3, if_pos ⟨h1, h2, by omega⟩]
        exact e
    · rw [if_neg h2, if_pos trivial, if_neg (fun g => h2 g.2.1)]
  · rw [if_neg h1, if_pos trivial, if_neg (fun g => h1 g.1)]
theorem iPlaceBehind (l c : Int) (x : ByteArray) : impl_PlaceBehind.f l c x = some (if (1 ≤ l ∧ l ≤ 1000000000000) ∧ (1 ≤ c ∧ c ≤ 1000000000000) ∧ x.size ≤ 20000 then plM x l c x.size else (-1, -1)) := by
  unfold impl_PlaceBehind.f
  rw [iWithin, iWithin]
  simp only [Option.bind_some, decide_eq_true_eq]
  by_cases h1 : 1 ≤ l ∧ l ≤ 1000000000000
  · rw [if_pos h1]
    by_cases h2 : 1 ≤ c ∧ c ≤ 1000000000000
    · rw [if_pos h2]
      by_cases h3 : (x.size : Int) > 20000
      · rw [if_pos h3, if_neg (by omega)]
      · rw [if_neg h3, if_pos ⟨h1, h2, by omega⟩, iBehind x (by omega) l c h1.1 h1.2 h2.1 h2.2]
        rfl
    · rw [if_neg h2, if_neg (fun g => h2 g.2.1)]
  · rw [if_neg h1, if_neg (fun g => h1 g.1)]
theorem plM_step (x : ByteArray) (l c : Int) (i : Nat) (hlt : i < x.size) : plM x l c (i + 1) = if bt x i = 10 then ((plM x l c i).1 + 1, 1) else ((plM x l c i).1, (plM x l c i).2 + 1) := by
  have q3 := count_step x i hlt
  have q4 := occ_bt x i hlt
  by_cases hb : bt x i = 10
  · rw [if_pos hb]
    rw [decide_eq_true hb] at q4
    rw [if_pos hb] at q3
    unfold plM
    rw [q3, if_neg (by omega), Lib.lastOcc_hit _ _ _ q4]
    by_cases hc : (x.data.toList.take i).count 10 = 0
    · rw [if_pos hc, hc]
      refine Prod.ext ?_ ?_ <;> simp only <;> omega
    · rw [if_neg hc]
      refine Prod.ext ?_ ?_ <;> simp only <;> omega
  · rw [if_neg hb]
    rw [decide_eq_false hb] at q4
    rw [if_neg hb] at q3
    unfold plM
    rw [q3, Lib.lastOcc_miss _ _ _ q4]
    by_cases hc : (x.data.toList.take i).count 10 = 0
    · rw [if_pos (by omega), if_pos hc]
      refine Prod.ext ?_ ?_ <;> simp only <;> omega
    · rw [if_neg (by omega), if_neg hc]
      refine Prod.ext ?_ ?_ <;> simp only <;> omega
theorem plM_zero (x : ByteArray) (l c : Int) : plM x l c 0 = (l, c) := by unfold plM; simp
theorem plM_pos (x : ByteArray) (l c : Int) (hl : 1 ≤ l) (hc : 1 ≤ c) : ∀ i, i ≤ x.size → 1 ≤ (plM x l c i).1 ∧ 1 ≤ (plM x l c i).2 ∧ (plM x l c i).1 ≤ l + i ∧ (plM x l c i).2 ≤ c + i
  | 0, _ => by rw [plM_zero]; simp only; omega
  | i + 1, h => by
    have ih := plM_pos x l c hl hc i (by omega)
    rw [plM_step x l c i (by omega)]
    split <;> simp only <;> omega
theorem bt_head {x : ByteArray} {p i : Nat} (h : i < p) (hp : p ≤ x.size) : bt (x.extract 0 p) i = bt x i := by
  rw [nums_bt, nums_bt, nums_take]
  unfold rd
  rw [List.getD_eq_getElem?_getD, List.getD_eq_getElem?_getD, List.getElem?_take, Int.toNat_natCast, if_pos h]
theorem head_size {x : ByteArray} {p : Nat} (hp : p ≤ x.size) : (x.extract 0 p).size = p := by
  rw [ByteArray.size_extract]; omega
theorem plM_head (x : ByteArray) (l c : Int) (p : Nat) (hp : p ≤ x.size) : ∀ i, i ≤ p → plM (x.extract 0 p) l c i = plM x l c i
  | 0, _ => by rw [plM_zero, plM_zero]
  | i + 1, h => by
    rw [plM_step _ l c i (by rw [head_size hp]; omega), plM_step x l c i (by omega), plM_head x l c p hp i (by omega), bt_head (by omega) hp]
theorem plM_tail (x : ByteArray) (l c : Int) (p : Nat) (hp : p ≤ x.size) : ∀ i, p + i ≤ x.size → plM (x.extract p x.size) (plM x l c p).1 (plM x l c p).2 i = plM x l c (p + i)
  | 0, _ => by rw [plM_zero]; rfl
  | i + 1, h => by
    rw [plM_step _ _ _ i (by rw [part_size]; omega), ← Nat.add_assoc, plM_step x l c (p + i) (by omega), plM_tail x l c p hp i (by omega), bt_part (by omega), show ((p : Int) + (i : Int)) = ((p + i : Nat) : Int) by omega]
theorem next_ok {b : List Int} {p : Int} (hb : Bytes b) (hp : At b p) : Tot (spec_l1Rd_next.f b p) (fun r => 0 ≤ r.1 ∧ r.1 ≤ 255 ∧ At b r.2) := by
  have hl := hb.len
  have h0 := hp.1
  have h1 := hp.2
  unfold spec_l1Rd_next.f
  by_cases h : p ≥ (b.length : Int)
  · rw [if_pos h]
    exact Tot.pure ⟨by simp, by simp, hp⟩
  · rw [if_neg h]
    have e : wrap64 (wrap64 (p + 1) - 1) = p := by
      rw [w64 (x := p + 1) (by omega) (by omega), w64 (by omega) (by omega)]
      omega
    rw [e, if_pos h0, if_pos (by omega)]
    have := hb.lo p
    have := hb.hi p
    rw [w64 (x := rd b p) (by omega) (by omega), w64 (x := p + 1) (by omega) (by omega)]
    exact Tot.pure ⟨hb.lo p, hb.hi p, by simp only; omega, by simp only; omega⟩
theorem below_ok {b : List Int} {p : Int} (n : Int) (hb : Bytes b) (hp : At b p) : Tot (spec_l1Rd_below.f b p n) (fun r => 0 ≤ r.1 ∧ (r.1 < n ∨ r.1 = 0) ∧ At b r.2) := by
  unfold spec_l1Rd_below.f
  by_cases h : n ≤ 1
  · rw [if_pos h]
    exact Tot.pure ⟨by simp, by simp, hp⟩
  · rw [if_neg h]
    by_cases h2 : n ≤ 256
    · rw [if_pos h2]
      refine (next_ok hb hp).bind fun v hv => ?_
      rw [if_neg (by omega)]
      obtain ⟨v0, v1, v2⟩ := hv
      have := Int.emod_nonneg v.1 (show n ≠ 0 by omega)
      have := Int.emod_lt_of_pos v.1 (show 0 < n by omega)
      exact Tot.pure ⟨by rw [tmod_pos v0]; omega, by rw [tmod_pos v0]; omega, v2⟩
    · rw [if_neg h2]
      refine (next_ok hb hp).bind fun v hv => ?_
      obtain ⟨v0, v1, v2⟩ := hv
      refine (next_ok hb v2).bind fun u hu => ?_
      obtain ⟨u0, u1, u2⟩ := hu
      rw [if_neg (by omega), w64 (x := v.1 * 256) (by omega) (by omega), w64 (x := v.1 * 256 + u.1) (by omega) (by omega)]
      have := Int.emod_nonneg (v.1 * 256 + u.1) (show n ≠ 0 by omega)
      have := Int.emod_lt_of_pos (v.1 * 256 + u.1) (show 0 < n by omega)
      exact Tot.pure ⟨by rw [tmod_pos (by omega)]; omega, by rw [tmod_pos (by omega)]; omega, u2⟩
theorem once_ok {b : List Int} {p : Int} (n : Int) (hb : Bytes b) (hp : At b p) : Tot (spec_l1Rd_once.f b p n) (fun r => At b r.2) := by
  unfold spec_l1Rd_once.f
  refine (below_ok n hb hp).bind fun v hv => ?_
  exact Tot.pure hv.2.2
theorem word_l {b : List Int} (hb : Bytes b) (d : Nat) : ∀ (k : Nat) (x i p : Int), d < k → 0 ≤ i → 8 - i = d → At b p → Tot (spec_l1Rd_word.l0 k x i b p) (fun r => At b r.2) := by
  induction d with
  | zero =>
    intro k x i p hk h0 hd hp
    obtain ⟨k, rfl⟩ : ∃ m, k = m + 1 := ⟨k - 1, by omega⟩
    simp only [spec_l1Rd_word.l0]
    rw [if_neg (by omega)]
    exact Tot.pure hp
  | succ d ih =>
    intro k x i p hk h0 hd hp
    obtain ⟨k, rfl⟩ : ∃ m, k = m + 1 := ⟨k - 1, by omega⟩
    simp only [spec_l1Rd_word.l0]
    rw [if_pos (by omega)]
    refine (next_ok hb hp).bind fun v hv => ?_
    rw [w64 (x := i + 1) (by omega) (by omega)]
    exact ih k _ (i + 1) _ (by omega) (by omega) (by omega) hv.2.2
theorem word_ok {b : List Int} {p : Int} {k : Nat} (hk : 10 ≤ k) (hb : Bytes b) (hp : At b p) : Tot (spec_l1Rd_word.f k b p) (fun r => At b r.2) := by
  unfold spec_l1Rd_word.f
  exact word_l hb 8 k 0 0 p (by omega) (by omega) (by omega) hp
theorem near_ok {b : List Int} {p : Int} {k : Nat} (lo hi : Int) (h : -4611686018427387904 ≤ lo) (h' : hi ≤ 4611686018427387902) (l' : lo ≤ 4611686018427387904) (g' : -4611686018427387904 ≤ hi) (hk : 10 ≤ k) (hb : Bytes b) (hp : At b p) : Tot (spec_l1Rd_near.f k b p lo hi) (fun r => i64 r.1 ∧ At b r.2) := by
  unfold spec_l1Rd_near.f
  refine (below_ok 8 hb hp).bind fun v hv => ?_
  refine Tot.ite (fun _ => Tot.pure ⟨⟨by simp only; omega, by simp only; omega⟩, hv.2.2⟩) (fun _ => ?_)
  refine Tot.ite (fun _ => Tot.pure ⟨⟨by simp only; omega, by simp only; omega⟩, hv.2.2⟩) (fun _ => ?_)
  refine Tot.ite (fun _ => Tot.pure ⟨⟨by simp only; omega, by simp only; omega⟩, hv.2.2⟩) (fun h3 => ?_)
  refine (word_ok hk hb hv.2.2).bind fun u hu => ?_
  rw [w64 (x := hi - lo) (by omega) (by omega), w64 (x := hi - lo + 1) (by omega) (by omega)]
  have e : IntKind.u64.wrap (hi - lo + 1) = hi - lo + 1 := by
    simp only [IntKind.wrap, IntKind.signed, IntKind.bits]
    first | omega | (simp; omega)
  rw [e, if_neg (by omega)]
  exact Tot.pure ⟨i64_wrap _, hu⟩
theorem off_ok {b : List Int} {p : Int} {k : Nat} (lo hi : Int) (h : -4611686018427387904 ≤ lo) (h' : hi ≤ 4611686018427387902) (l' : lo ≤ 4611686018427387904) (g' : -4611686018427387904 ≤ hi) (hk : 10 ≤ k) (hb : Bytes b) (hp : At b p) : Tot (spec_l1Rd_off.f k b p lo hi) (fun r => i64 r.1 ∧ At b r.2) := by
  unfold spec_l1Rd_off.f
  refine (once_ok 24 hb hp).bind fun v hv => ?_
  refine Tot.ite (fun _ => ?_) (fun _ => ?_)
  · simp only [Option.bind_some]
    refine (below_ok 4 hb hv).bind fun u hu => ?_
    obtain ⟨u0, u1, u2⟩ := hu
    refine Tot.yes u0 (Tot.yes (by simp only [List.length_cons, List.length_nil]; omega) (Tot.pure ⟨?_, u2⟩))
    have : u.1 = 0 ∨ u.1 = 1 ∨ u.1 = 2 ∨ u.1 = 3 := by omega
    rcases this with e | e | e | e <;> simp only [e, rd] <;> simp [i64] <;> first | done | exact i64_wrap _
  · refine (near_ok lo hi h h' l' g' hk hb hv).bind fun u hu => ?_
    exact Tot.pure hu
theorem size_ok {b : List Int} {p : Int} (per most : Int) (h0 : 1 ≤ per) (h1 : 1 ≤ most) (h2 : most ≤ 100000) (hb : Bytes b) (hp : At b p) : Tot (spec_l1Rd_size.f b p per most) (fun r => 1 ≤ r.1 ∧ r.1 ≤ most ∧ At b r.2) := by
  have hl := hb.len
  have e0 : 0 ≤ (b.length : Int) / per := Int.ediv_nonneg (by omega) (by omega)
  have e1 : (b.length : Int) / per ≤ b.length := Int.ediv_le_self _ (by omega)
  unfold spec_l1Rd_size.f
  rw [if_neg (by omega), w64 (x := (b.length : Int) / per) (by omega) (by omega), w64 (x := 1 + (b.length : Int) / per) (by omega) (by omega)]
  refine Tot.ite (fun h => ?_) (fun h => ?_)
  · refine (below_ok most hb hp).bind fun v hv => ?_
    obtain ⟨v0, v1, v2⟩ := hv
    rw [w64 (by omega) (by omega)]
    exact Tot.pure ⟨by simp only; omega, by simp only; omega, v2⟩
  · refine (below_ok (1 + (b.length : Int) / per) hb hp).bind fun v hv => ?_
    obtain ⟨v0, v1, v2⟩ := hv
    rw [w64 (by omega) (by omega)]
    exact Tot.pure ⟨by simp only; omega, by simp only; omega, v2⟩
theorem source_l1 {b : List Int} (hb : Bytes b) (d : Nat) : ∀ (k : Nat) (s : ByteArray) (p : Int), d < k → 20001 ≤ s.size + 100 * d → s.size ≤ 20101 → At b p → Tot (spec_l1Rd_source.l1 k s b p) (fun r => r.1.size ≤ 20101 ∧ At b r.2) := by
  induction d with
  | zero =>
    intro k s p hk h0 h1 hp
    obtain ⟨k, rfl⟩ : ∃ m, k = m + 1 := ⟨k - 1, by omega⟩
    simp only [spec_l1Rd_source.l1]
    refine (below_ok 2 hb hp).bind fun v hv => ?_
    obtain ⟨v0, v1, v2⟩ := hv
    rw [w64 (by omega) (by omega), if_neg (by omega)]
    exact Tot.pure ⟨h1, v2⟩
  | succ d ih =>
    intro k s p hk h0 h1 hp
    obtain ⟨k, rfl⟩ : ∃ m, k = m + 1 := ⟨k - 1, by omega⟩
    simp only [spec_l1Rd_source.l1]
    refine (below_ok 2 hb hp).bind fun v hv => ?_
    obtain ⟨v0, v1, v2⟩ := hv
    rw [w64 (by omega) (by omega)]
    refine Tot.ite (fun h => Tot.yes (by omega) ?_) (fun _ => Tot.pure ⟨h1, v2⟩)
    have e : ∀ t : ByteArray, t.size = 100 → (s ++ t).size = s.size + 100 := fun t ht => by rw [ByteArray.size_append, ht]
    exact ih k _ _ (by omega) (by rw [e _ rfl]; omega) (by rw [e _ rfl]; omega) v2
theorem source_l0 {b : List Int} (hb : Bytes b) (d : Nat) : ∀ (k : Nat) (s : ByteArray) (n p : Int), d + 300 < k → n = d → n ≤ 8 → s.size ≤ 5 * (8 - d) → At b p → Tot (spec_l1Rd_source.l0 k s n b p) (fun r => r.1.size ≤ 20101 ∧ At b r.2) := by
  induction d with
  | zero =>
    intro k s n p hk hn h1 hs hp
    obtain ⟨k, rfl⟩ : ∃ m, k = m + 1 := ⟨k - 1, by omega⟩
    simp only [spec_l1Rd_source.l0]
    rw [if_neg (by omega)]
    refine (once_ok 60 hb hp).bind fun v hv => ?_
    refine Tot.ite (fun _ => ?_) (fun _ => Tot.pure ⟨by simp only; omega, hv⟩)
    exact source_l1 hb 201 k s _ (by omega) (by omega) (by omega) hv
  | succ d ih =>
    intro k s n p hk hn h1 hs hp
    obtain ⟨k, rfl⟩ : ∃ m, k = m + 1 := ⟨k - 1, by omega⟩
    simp only [spec_l1Rd_source.l0, Option.bind_some]
    rw [if_pos (by omega)]
    refine (below_ok 5 hb hp).bind fun v hv => ?_
    obtain ⟨v0, v1, v2⟩ := hv
    have hz : (rdOf ByteArray.empty [(⟨#[]⟩ : ByteArray), (⟨#[97]⟩ : ByteArray), (⟨#[98, 99, 32]⟩ : ByteArray), (⟨#[105, 102, 32, 120]⟩ : ByteArray), (⟨#[32, 32, 121]⟩ : ByteArray)] v.1).size ≤ 4 := by
      have : v.1 = 0 ∨ v.1 = 1 ∨ v.1 = 2 ∨ v.1 = 3 ∨ v.1 = 4 := by omega
      rcases this with e | e | e | e | e <;> rw [e] <;> decide
    generalize rdOf ByteArray.empty [(⟨#[]⟩ : ByteArray), (⟨#[97]⟩ : ByteArray), (⟨#[98, 99, 32]⟩ : ByteArray), (⟨#[105, 102, 32, 120]⟩ : ByteArray), (⟨#[32, 32, 121]⟩ : ByteArray)] v.1 = y at hz ⊢
    have e1 : (s ++ y).size = s.size + y.size := ByteArray.size_append
    refine Tot.yes v0 (Tot.yes (by simp only [List.length_cons, List.length_nil]; omega) (Tot.yes (by omega) ?_))
    refine (once_ok 4 hb v2).bind fun u hu => ?_
    rw [w64 (by omega) (by omega)]
    refine Tot.ite (fun _ => ?_) (fun _ => Tot.yes (by omega) ?_)
    · exact ih k _ (n - 1) _ (by omega) (by omega) (by omega) (by omega) hu
    · refine ih k _ (n - 1) _ (by omega) (by omega) (by omega) ?_ hu
      have e2 : (s ++ y ++ (⟨#[10]⟩ : ByteArray)).size = s.size + y.size + 1 := by rw [ByteArray.size_append, e1]; rfl
      omega
theorem source_ok {b : List Int} {p : Int} {k : Nat} (hk : 400 ≤ k) (hb : Bytes b) (hp : At b p) : Tot (spec_l1Rd_source.f k b p) (fun r => r.1.size ≤ 20101 ∧ At b r.2) := by
  unfold spec_l1Rd_source.f
  refine (size_ok 4 8 (by omega) (by omega) (by omega) hb hp).bind fun v hv => ?_
  obtain ⟨v0, v1, v2⟩ := hv
  exact source_l0 hb v.1.toNat k _ v.1 _ (by omega) (by omega) (by omega) (by simp [ByteArray.size]) v2
theorem drawPlace_ok {b : List Int} {k : Nat} (hk : 1000 ≤ k) (hb : Bytes b) : Tot (spec_DrawPlaceBehind.f k b) (fun r => r.2.2.size ≤ 20101) := by
  have h0 : At b 0 := ⟨by omega, by omega⟩
  have eo : spec_l1Open.f b = some (b, 0) := by rw [spec_l1Open.f]
  rw [spec_DrawPlaceBehind.f, eo]
  simp only [bsm]
  refine (source_ok (by omega) hb h0).bind fun v hv => ?_
  refine (below_ok 2 hb hv.2).bind fun u hu => ?_
  obtain ⟨u0, u1, u2⟩ := hu
  refine Tot.yes u0 (Tot.yes (by simp only [List.length_cons, List.length_nil]; omega) ?_)
  have hr : rd [9, 1000000000000] u.1 = 9 ∨ rd [9, 1000000000000] u.1 = 1000000000000 := by
    have : u.1 = 0 ∨ u.1 = 1 := by omega
    rcases this with e | e <;> rw [e]
    · left; simp [rd]
    · right; simp [rd]
  refine (off_ok 1 _ (by omega) (by omega) (by omega) (by omega) (by omega) hb u2).bind fun x hx => ?_
  refine (off_ok 1 9 (by omega) (by omega) (by omega) (by omega) (by omega) hb hx.2).bind fun y hy => ?_
  exact Tot.pure hv.1
theorem FnBehind : laws_FnBehind.Pure := by
  intro code g0 _ g2
  suffices ∀ k, 100000 ≤ k → laws_FnBehind.f k code = some true from ⟨100000, this _ (Nat.le_refl _)⟩
  intro k hk
  have eb : laws_big.f code = some (decide ((code.length : Int) > 1048576)) := by rw [laws_big.f]
  rw [laws_FnBehind.f, eb]
  simp only [bsm, decide_eq_true_eq]
  by_cases hbig : (code.length : Int) > 1048576
  · rw [if_pos hbig]
  rw [if_neg hbig]
  have hb := Bytes.of hbig g2
  obtain ⟨⟨l, c, x⟩, e, hx⟩ := drawPlace_ok (k := k) (by omega) hb
  simp only at hx
  rw [e]
  simp only [bsm]
  rw [sPlaceBehind l c x k (by omega), iPlaceBehind]
  simp only [bsm, if_true, bne_self_eq_false]
  obtain ⟨k, rfl⟩ : ∃ m, k = m + 1 := ⟨k - 1, by omega⟩
  simp only [laws_FnBehind.j0, Bool.false_eq_true, if_false]
  by_cases h : (1 ≤ l ∧ l ≤ 1000000000000) ∧ (1 ≤ c ∧ c ≤ 1000000000000) ∧ x.size ≤ 20000
  · rw [if_pos h]
    have hpos := plM_pos x l c h.1.1 h.2.1.1 x.size (Nat.le_refl _)
    rw [if_neg (by omega), w64 (x := (x.size : Int) + 1) (by omega) (by omega), if_neg (by omega)]
    have m0 := Int.emod_nonneg (code.length : Int) (show (x.size : Int) + 1 ≠ 0 by omega)
    have m1 := Int.emod_lt_of_pos (code.length : Int) (show 0 < (x.size : Int) + 1 by omega)
    rw [if_pos m0, if_pos (by omega)]
    obtain ⟨p, hp⟩ : ∃ p : Nat, p = ((code.length : Int) % ((x.size : Int) + 1)).toNat := ⟨_, rfl⟩
    rw [← hp]
    have hpl : p ≤ x.size := by omega
    rw [iPlaceBehind, head_size hpl, if_pos ⟨h.1, h.2.1, by omega⟩]
    simp only [bsm]
    have e1 := plM_head x l c p hpl p (Nat.le_refl _)
    rw [e1]
    have hq := plM_pos x l c h.1.1 h.2.1.1 p hpl
    by_cases b1 : (plM x l c p).1 > 1000000000000
    · rw [if_pos b1]
    rw [if_neg b1]
    by_cases b2 : (plM x l c p).2 > 1000000000000
    · rw [if_pos b2]
    rw [if_neg b2, iPlaceBehind, part_size, if_pos ⟨by omega, by omega, by omega⟩]
    simp only [bsm]
    have e2 := plM_tail x l c p hpl (x.size - p) (by omega)
    rw [e2, show p + (x.size - p) = x.size by omega, if_pos rfl]
    simp
  · rw [if_neg h]
    simp
end Go.Proofs.Ytabpfejdppfcdaa.Pure
