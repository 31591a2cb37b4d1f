/- Words of packing, for the program's Pack and the reference's: a row's marks, and how they are laid. -/
import Derived.Test.YtbijmhooamjgoaaKit
namespace Go.Proofs.Ytbijmhooamjgoaa.Kit
open Go.RowKit Go.Proofs.YtbijmhooamjgoaaW.PrintWords Go.Proofs.YtbijmhooamjgoaaW.PrintLast Go.Proofs.YtbijmhooamjgoaaW.PrintMore

/-- the places of a row that are not its usual one, below i -/
def marksI (row : List Int) (u : Int) (i : Nat) : List Int := ((List.range i).filter (fun j => decide (row.getD j 0 ≠ u))).map (fun (j : Nat) => (j : Int))
theorem marksI_succ (row : List Int) (u : Int) (i : Nat) : marksI row u (i + 1) = if row.getD i 0 ≠ u then marksI row u i ++ [(i : Int)] else marksI row u i := by
  unfold marksI
  rw [List.range_succ, List.filter_append, List.map_append]
  by_cases h : row.getD i 0 ≠ u
  · rw [if_pos h, List.filter_cons_of_pos (by simpa using h)]; rfl
  · rw [if_neg h, List.filter_cons_of_neg (by simpa using h)]; simp
theorem marksI_len (row : List Int) (u : Int) (i : Nat) : (marksI row u i).length ≤ i := by
  unfold marksI
  rw [List.length_map]
  exact Nat.le_trans (List.length_filter_le _ _) (by simp)
theorem marksI_rng (row : List Int) (u : Int) (i : Nat) : ∀ m ∈ marksI row u i, 0 ≤ m ∧ m < i := by
  intro m hm
  unfold marksI at hm
  obtain ⟨j, hj, rfl⟩ := List.mem_map.1 hm
  have := List.mem_range.1 (List.mem_filter.1 hj).1
  omega
theorem at_rowI {w : World} {A : Option Addr} {n : Nat} {xs : List (List Int)} (h : Kd.C (Kd.slice 2 (Kd.int .i64)) w A n xs) (s : Nat) (hs : s < n) : ∃ ad A0 c0, A = some ad ∧ w.cell? (ad.add s) = some (.slice A0 (xs.getD s []).length c0) ∧ (xs.getD s []).length ≤ c0 ∧ (Kd.int .i64).C w A0 (xs.getD s []).length (xs.getD s []) := by
  obtain ⟨ad, cs, e, _, ⟨A0, c0, rfl, h1, h2⟩, hc⟩ := Kd.C_get h ([] : List Int) (s : Int) (by omega) (by omega)
  have := hc 0 _ rfl
  rw [Int.toNat_natCast] at this h1 h2
  refine ⟨ad, A0, c0, e, ?_, h1, h2⟩
  have e2 : s * (Kd.slice 2 (Kd.int .i64)).sz + 0 = s := by show s * 1 + 0 = s; omega
  rw [e2] at this
  exact this
theorem marksI_mem {row : List Int} {u : Int} {i n : Nat} (h : row.getD i 0 ≠ u) (hi : i < n) : (i : Int) ∈ marksI row u n := by
  unfold marksI
  exact List.mem_map.2 ⟨i, List.mem_filter.2 ⟨List.mem_range.2 hi, by simpa using h⟩, rfl⟩
def padTo (n : Nat) (x : Int) (c : List Int) : List Int := c ++ List.replicate (n - c.length) x
/-- a mark of a row laid -/
def place1 (s : Int) (row : List Int) (b : Int) (q : List Int × List Int) (m : Int) : List Int × List Int := ((padTo (b + m + 1).toNat (-1) q.1).set (b + m).toNat s, (padTo (b + m + 1).toNat 0 q.2).set (b + m).toNat (rd row m))
/-- a row's marks laid, one by one -/
def placeM (s : Int) (row : List Int) (b : Int) (ms : List Int) (q : List Int × List Int) : List Int × List Int := ms.foldl (place1 s row b) q
theorem padTo_len (n : Nat) (x : Int) (c : List Int) : (padTo n x c).length = max n c.length := by
  unfold padTo
  rw [List.length_append, List.length_replicate]
  omega
theorem place1_len {s : Int} {row : List Int} {b m : Int} {q : List Int × List Int} {n : Nat} (h : q.2.length = q.1.length) (hl : q.1.length ≤ n) (hb : (b + m + 1).toNat ≤ n) : (place1 s row b q m).2.length = (place1 s row b q m).1.length ∧ (place1 s row b q m).1.length ≤ n := by
  unfold place1
  simp only [List.length_set, padTo_len]
  omega
theorem placeM_len {s : Int} {row : List Int} {b : Int} {n : Nat} : ∀ (ms : List Int) (q : List Int × List Int), q.2.length = q.1.length → q.1.length ≤ n → (∀ m ∈ ms, (b + m + 1).toNat ≤ n) → (placeM s row b ms q).2.length = (placeM s row b ms q).1.length ∧ (placeM s row b ms q).1.length ≤ n
  | [], q, h, hl, _ => ⟨h, hl⟩
  | m :: r, q, h, hl, hb => by
    obtain ⟨h1, h2⟩ := place1_len (s := s) (row := row) h hl (hb m (List.mem_cons_self))
    exact placeM_len r _ h1 h2 (fun x hx => hb x (List.mem_cons_of_mem _ hx))
theorem placeM_snoc (s : Int) (row : List Int) (b : Int) (ms : List Int) (m : Int) (q : List Int × List Int) : placeM s row b (ms ++ [m]) q = place1 s row b (placeM s row b ms q) m := by
  unfold placeM
  rw [List.foldl_append]; rfl
end Go.Proofs.Ytbijmhooamjgoaa.Kit
