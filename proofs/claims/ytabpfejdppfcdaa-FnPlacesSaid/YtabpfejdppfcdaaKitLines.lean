/- The places at which lines begin, as plain lists: what both the program and the reference come to. -/
import Derived.Test.YtabpfejdppfcdaaKit
namespace Go.Proofs.Ytabpfejdppfcdaa.Kit
open Go.RowKit Go.Proofs.YtabpfejdppfcdaaW.PrintWords Go.Proofs.YtabpfejdppfcdaaW.PrintLast Go.Proofs.YtabpfejdppfcdaaW.PrintMore

/-- the loop over the bytes: d more of them, from the i-th on -/
def lsLoop (t : ByteArray) : Nat → Int → List Int → List Int
  | 0, _, acc => acc
  | d + 1, i, acc => lsLoop t d (i + 1) (if bt t i = 10 then acc ++ [i + 1] else acc)

def lsM (t : ByteArray) : List Int := lsLoop t t.size 0 [0]

structure LsOk (acc : List Int) (n : Int) : Prop where
  len : (acc.length : Int) ≤ n + 1
  pos : 0 < acc.length
  rng : ∀ j : Nat, j < acc.length → 0 ≤ acc.getD j 0 ∧ acc.getD j 0 ≤ n
  inc : ∀ j : Nat, j + 1 < acc.length → acc.getD j 0 + 1 ≤ acc.getD (j + 1) 0

theorem LsOk.more {acc : List Int} {n m : Int} (h : LsOk acc n) (hm : n ≤ m) : LsOk acc m :=
  ⟨by have := h.len; omega, h.pos, fun j hj => by have := h.rng j hj; omega, h.inc⟩

theorem LsOk.snoc {acc : List Int} {n : Int} (h : LsOk acc n) : LsOk (acc ++ [n + 1]) (n + 1) := by
  refine ⟨by have := h.len; simp; omega, by simp, fun j hj => ?_, fun j hj => ?_⟩
  · rw [List.getD_eq_getElem?_getD, List.getElem?_append]
    have hp := h.pos
    by_cases hl : j < acc.length
    · have := h.rng j hl
      rw [List.getD_eq_getElem?_getD] at this
      rw [if_pos hl]; omega
    · have hj' : j = acc.length := by simp at hj; omega
      have := h.len
      rw [if_neg hl, hj']; simp; omega
  · simp only [List.length_append, List.length_cons, List.length_nil] at hj
    rw [List.getD_eq_getElem?_getD, List.getD_eq_getElem?_getD, List.getElem?_append, List.getElem?_append]
    by_cases hl : j + 1 < acc.length
    · have := h.inc j hl
      rw [List.getD_eq_getElem?_getD, List.getD_eq_getElem?_getD] at this
      rw [if_pos hl, if_pos (by omega)]; exact this
    · have hj' : j + 1 = acc.length := by omega
      have := h.rng j (by omega)
      rw [List.getD_eq_getElem?_getD] at this
      rw [if_pos (by omega), if_neg hl, hj']; simp; omega

theorem lsLoop_ok (t : ByteArray) : ∀ (d : Nat) (i : Int) (acc : List Int), LsOk acc i → LsOk (lsLoop t d i acc) (i + d)
  | 0, i, acc, h => by simpa [lsLoop] using h
  | d + 1, i, acc, h => by
    have e : i + ((d + 1 : Nat) : Int) = i + 1 + (d : Nat) := by omega
    rw [e]
    unfold lsLoop
    refine lsLoop_ok t d (i + 1) _ ?_
    by_cases hb : bt t i = 10
    · rw [if_pos hb]; exact h.snoc
    · rw [if_neg hb]; exact h.more (by omega)

theorem lsM_ok (t : ByteArray) : LsOk (lsM t) t.size := by
  have h : LsOk [0] 0 := ⟨by simp, by simp, fun j hj => by
    have : j = 0 := by simp at hj; omega
    subst this; simp, fun j hj => by simp at hj⟩
  have := lsLoop_ok t t.size 0 [0] h
  rw [Int.zero_add] at this
  exact this

theorem lsM_rng (t : ByteArray) {j : Int} (h0 : 0 ≤ j) (h : j < ((lsM t).length : Int)) : 0 ≤ rd (lsM t) j ∧ rd (lsM t) j ≤ t.size :=
  (lsM_ok t).rng j.toNat (by omega)

theorem lsM_inc (t : ByteArray) {j : Int} (h0 : 0 ≤ j) (h : j + 1 < ((lsM t).length : Int)) : rd (lsM t) j + 1 ≤ rd (lsM t) (j + 1) := by
  have := (lsM_ok t).inc j.toNat (by omega)
  have e : (j + 1).toNat = j.toNat + 1 := by omega
  unfold rd
  rw [e]; exact this

theorem lsM_len (t : ByteArray) : 1 ≤ ((lsM t).length : Int) ∧ ((lsM t).length : Int) ≤ t.size + 1 := by
  have := (lsM_ok t).len
  have := (lsM_ok t).pos
  omega

end Go.Proofs.Ytabpfejdppfcdaa.Kit
