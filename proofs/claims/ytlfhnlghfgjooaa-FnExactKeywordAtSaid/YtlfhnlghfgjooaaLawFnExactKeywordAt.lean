/- The row of the law FnExactKeywordAt: for every input it returns true, and its arguments read as before. No condition. -/
import Derived.Test.YtlfhnlghfgjooaaRows
import Derived.Test.YtlfhnlghfgjooaaPFnExactKeywordAtx3
import Derived.Test.YtlfhnlghfgjooaaPureFnExactKeywordAt
import Derived.Test.YtlfhnlghfgjooaaKitOpen
import Derived.WalkKit
import Derived.ProofKit
import Derived.OpenShut
import Derived.ShutString
import Derived.ChangeOld
import Derived.Below
import Derived.SizedLaws
namespace Go.Proofs.Ytlfhnlghfgjooaa.fnExactKeywordAt
open Go.ChangeShapes Go.WideShapes Go.ChangeAt Go.RowKit Go.Proofs.Ytlfhnlghfgjooaa.Kit Go.Proofs.YtlfhnlghfgjooaaW.PrintWords
open Go.ChangeMaps (open_string shut_string)
set_option linter.unusedVariables false
set_option linter.unusedSimpArgs false
theorem own : ownKnob Try.prog.godebug = none := by kernel_rfl
theorem laidOut : laidOutB Try.prog = true := by kernel_rfl
set_option maxRecDepth 100000 in
theorem lifted (os : Os) (started : os.Started) (H : Type) (enc : TypeId × Value → H) :
    ReturnsInHanded {} Try.checked os 5 .any (Rows.fnExactKeywordAtSpec.pre6 enc Try.prog Try.f5 Rows.fnExactKeywordAtRow.domain false) (Rows.fnExactKeywordAtSpec.post enc Try.prog Try.f5 false true false false) := by
  refine returnsInHanded_of_change_sized (C := Try.checked) own started (by kernel_rfl) Try.func5
    (ChangeSpec.witness6 (enc := enc) (C := Try.checked) false ⟨#[], #[.agg #[.int .i64 0, .slice none 0 0], .string ByteArray.empty], []⟩ 8 (by kernel_rfl) (by kernel_rfl) (by kernel_rfl) (by kernel_rfl)) ?_
  intro W base args ds gs before hval0 hW hcnd hsz0 _
  have hsz : (DataW.weightsEach Try.prog (Try.f5.params.toList ++ Rows.fnExactKeywordAtSpec.plain.varTypes Try.prog) (ds ++ gs)).all (· ≤ reachBytes) = true := hsz0
  have hval : ∀ (j : Nat) t v, Try.f5.params[j]? = some t → args[j]? = some v → Value.okWide Try.prog W .any base t v := hval0
  have hW' := hW
  obtain ⟨p, q, hA0, hV, rfl, hfz, hnd⟩ := hW
  have hA : DataW.TrodAll enc Try.prog W 0 (fun _ => true) true Try.f5.params.toList args.toList ds p := hA0
  rw [Try.params5] at hA hval hsz
  obtain ⟨v0, vs0, d0, ds0, p0, q0, hargs, rfl, rfl, h0, r0⟩ := trodAll_cons hA
  obtain ⟨v1, vs1, d1, ds1, p1, q1, rfl, rfl, rfl, h1, r1⟩ := trodAll_cons r0
  obtain ⟨rfl, rfl, rfl⟩ := trodAll_nil r1
  obtain rfl : args = #[v0, v1] := by cases args; simp_all
  obtain ⟨rfl, rfl⟩ := trodVars_none hV
  obtain ⟨cs0, rfl, hcs0⟩ := okWide_struct Try.underlying24 (hval 0 24 v0 rfl rfl)
  have k0 := h0
  have lt0 : ∀ x ∈ p0, x.block < W.heap.size := by obtain ⟨m, hm⟩ := k0; exact DataW.trod_lt m _ _ _ hm
  obtain ⟨z0, hK0, g0⟩ := Opens.arg (Opens.struct (fun x => x) (fun y => y) (fun _ => rfl) Try.underlying24 (by kernel_rfl) (.cons rfl (by kernel_rfl) (Opens.int Try.underlying2) (.one rfl (by kernel_rfl) (Opens.slice 9 Try.underlying22 (by kernel_rfl) (Opens.string Try.underlying9))))) h0
  obtain ⟨cl0, rfl⟩ : ∃ l : List Value, cs0 = l.toArray := ⟨cs0.toList, by simp⟩
  replace hK0 : (Kd.pair (Kd.int .i64) (Kd.slice 9 Kd.string)).K W z0 cl0 := hK0
  obtain ⟨ca0_1, cb0_1, rfl, ha0_1, hb0_1⟩ := hK0
  obtain rfl := ha0_1
  obtain ⟨A0_1, c0_1, rfl, hl0_1, hC0_1⟩ := hb0_1
  obtain ⟨a1, rfl, rfl, rfl, y1⟩ := open_string Try.underlying9 (hval 1 9 v1 rfl rfl) h1
  have w1 : a1.size ≤ 140737488351232 := by
    have z := sized_string hsz (j := 1) (t := 9) rfl rfl
    rw [Array.length_toList] at z
    exact z
  clear hA0 hval0 hsz0 hsz
  obtain ⟨k, hk⟩ := Pure.FnExactKeywordAt z0 g0 a1 w1
  refine (PFnExactKeywordAt.laws_FnExactKeywordAt.calls (k := k) (a0_0 := z0.1) (A0_1 := A0_1) (c0_1 := c0_1) (l0_1 := z0.2) (hr0_1 := hC0_1) (hc0_1 := hl0_1) (a1 := a1) (r := true) (w := W) (h := hk)).mono fun e W' ⟨he, bel⟩ => ?_
  subst he
  exact ⟨_, rfl, _, _, _, [], _, [], hW', trodAll_mk1 (shut_bool Try.underlying4 _), (trodAll_cons_mk (Below.trod laidOut (by kernel_rfl) (of_decide_eq_true (by kernel_rfl)) k0 bel lt0) (trodAll_cons_mk (shut_string Try.underlying9 y1) trodAll_mk0)), rfl, bel.frame _, fun h => by cases h⟩
theorem over : Rows.fnExactKeywordAtRow.holds Try.pinned (OpenSpec.ofChange Rows.fnExactKeywordAtSpec) :=
  OpenClaim.holds_of_wide 5 Try.f5 rfl rfl rfl rfl rfl rfl rfl ⟨rfl, rfl, rfl, rfl, rfl⟩ rfl rfl rfl rfl rfl (by kernel_rfl) Try.func5 (by kernel_rfl)
    (of_decide_eq_true (by kernel_rfl)) (by unfold Func.isWrapper; first | (rw [if_pos (by decide +kernel)]; kernel_rfl) | (rw [if_neg (by decide +kernel)]; exact ⟨rfl, rfl⟩))
    (fun os started H enc _ => lifted os started H enc)
theorem proved : Rows.FnExactKeywordAtSaid := over
#print axioms proved
end Go.Proofs.Ytlfhnlghfgjooaa.fnExactKeywordAt
namespace Go.Proofs.Ytlfhnlghfgjooaa
/-- The row, under a short name, for the claim. -/
theorem fnExactKeywordAt_holds : Rows.FnExactKeywordAtSaid := fnExactKeywordAt.proved
end Go.Proofs.Ytlfhnlghfgjooaa
