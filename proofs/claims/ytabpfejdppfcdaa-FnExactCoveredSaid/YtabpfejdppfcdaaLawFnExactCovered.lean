/- The row of the law FnExactCovered: for every input it returns true, and its arguments read as before. No condition. -/
import Derived.Test.YtabpfejdppfcdaaRows
import Derived.Test.YtabpfejdppfcdaaPFnExactCoveredx6
import Derived.Test.YtabpfejdppfcdaaPureFnExactCovered
import Derived.Test.YtabpfejdppfcdaaKitOpen
import Derived.WalkKit
import Derived.ProofKit
import Derived.OpenShut
import Derived.ShutString
import Derived.ChangeOld
import Derived.Below
import Derived.SizedLaws
namespace Go.Proofs.Ytabpfejdppfcdaa.fnExactCovered
open Go.ChangeShapes Go.WideShapes Go.ChangeAt Go.RowKit Go.Proofs.Ytabpfejdppfcdaa.Kit Go.Proofs.YtabpfejdppfcdaaW.PrintWords
open Go.ChangeMaps (open_string shut_string)
set_option linter.unusedVariables false
set_option linter.unusedSimpArgs false
theorem own : ownKnob Try.prog.godebug = none := by kernel_rfl
theorem laidOut : laidOutB Try.prog = true := by kernel_rfl
set_option maxRecDepth 100000 in
theorem lifted (os : Os) (started : os.Started) (H : Type) (enc : TypeId × Value → H) :
    ReturnsInHanded {} Try.checked os 4 .any (Rows.fnExactCoveredSpec.pre6 enc Try.prog Try.f4 Rows.fnExactCoveredRow.domain false) (Rows.fnExactCoveredSpec.post enc Try.prog Try.f4 false true false false) := by
  refine returnsInHanded_of_change_sized (C := Try.checked) own started (by kernel_rfl) Try.func4
    (ChangeSpec.witness6 (enc := enc) (C := Try.checked) false ⟨#[], #[.slice none 0 0, .int .i64 0], []⟩ 8 (by kernel_rfl) (by kernel_rfl) (by kernel_rfl) (by kernel_rfl)) ?_
  intro W base args ds gs before hval0 hW hcnd hsz0 _
  have hsz : (DataW.weightsEach Try.prog (Try.f4.params.toList ++ Rows.fnExactCoveredSpec.plain.varTypes Try.prog) (ds ++ gs)).all (· ≤ reachBytes) = true := hsz0
  have hval : ∀ (j : Nat) t v, Try.f4.params[j]? = some t → args[j]? = some v → Value.okWide Try.prog W .any base t v := hval0
  have hW' := hW
  obtain ⟨p, q, hA0, hV, rfl, hfz, hnd⟩ := hW
  have hA : DataW.TrodAll enc Try.prog W 0 (fun _ => true) true Try.f4.params.toList args.toList ds p := hA0
  rw [Try.params4] at hA hval hsz
  obtain ⟨v0, vs0, d0, ds0, p0, q0, hargs, rfl, rfl, h0, r0⟩ := trodAll_cons hA
  obtain ⟨v1, vs1, d1, ds1, p1, q1, rfl, rfl, rfl, h1, r1⟩ := trodAll_cons r0
  obtain ⟨rfl, rfl, rfl⟩ := trodAll_nil r1
  obtain rfl : args = #[v0, v1] := by cases args; simp_all
  obtain ⟨rfl, rfl⟩ := trodVars_none hV
  obtain ⟨a0, len0, cap0, rfl⟩ := okWide_slice Try.underlying34 (hval 0 34 v0 rfl rfl)
  have k0 := h0
  have lt0 : ∀ x ∈ p0, x.block < W.heap.size := by obtain ⟨m, hm⟩ := k0; exact DataW.trod_lt m _ _ _ hm
  obtain ⟨z0, hK0, g0⟩ := Opens.arg (Opens.slice 129 Try.underlying34 (by kernel_rfl) (Opens.struct (fun x : PFnExactCovered.S129 => (x.f0, x.f1, x.f2, x.f3, x.f4, x.f5)) (fun y => ⟨y.1, y.2.1, y.2.2.1, y.2.2.2.1, y.2.2.2.2.1, y.2.2.2.2.2⟩) (fun _ => rfl) Try.underlying129 (by kernel_rfl) (.cons rfl (by kernel_rfl) (Opens.int Try.underlying2) (.cons rfl (by kernel_rfl) (Opens.int Try.underlying2) (.cons rfl (by kernel_rfl) (Opens.int Try.underlying2) (.cons rfl (by kernel_rfl) (Opens.int Try.underlying2) (.cons rfl (by kernel_rfl) (Opens.int Try.underlying2) (.one rfl (by kernel_rfl) (Opens.int Try.underlying2))))))))) h0
  obtain ⟨A0, c0, e0, hl0, hC0⟩ := hK0
  have e0' : a0 = A0 ∧ len0 = z0.length ∧ cap0 = c0 := by simpa [Value.cells] using e0
  clear e0
  obtain ⟨rfl, rfl, rfl⟩ := e0'
  obtain ⟨a1, rfl, rfl, rfl, w1⟩ := open_int Try.underlying2 (hval 1 2 v1 rfl rfl) h1
  clear hA0 hval0 hsz0 hsz
  obtain ⟨k, hk⟩ := Pure.FnExactCovered z0 g0 a1 w1
  refine (PFnExactCovered.laws_FnExactCovered.calls (k := k) (A0 := a0) (c0 := cap0) (l0 := z0) (hr0 := hC0) (hc0 := hl0) (a1 := a1) (r := true) (w := W) (h := hk)).mono fun e W' ⟨he, bel⟩ => ?_
  subst he
  exact ⟨_, rfl, _, _, _, [], _, [], hW', trodAll_mk1 (shut_bool Try.underlying4 _), (trodAll_cons_mk (Below.trod laidOut (by kernel_rfl) (of_decide_eq_true (by kernel_rfl)) k0 bel lt0) (trodAll_cons_mk (shut_int Try.underlying2 w1) trodAll_mk0)), rfl, bel.frame _, fun h => by cases h⟩
theorem over : Rows.fnExactCoveredRow.holds Try.pinned (OpenSpec.ofChange Rows.fnExactCoveredSpec) :=
  OpenClaim.holds_of_wide 4 Try.f4 rfl rfl rfl rfl rfl rfl rfl ⟨rfl, rfl, rfl, rfl, rfl⟩ rfl rfl rfl rfl rfl (by kernel_rfl) Try.func4 (by kernel_rfl)
    (of_decide_eq_true (by kernel_rfl)) (by unfold Func.isWrapper; first | (rw [if_pos (by decide +kernel)]; kernel_rfl) | (rw [if_neg (by decide +kernel)]; exact ⟨rfl, rfl⟩))
    (fun os started H enc _ => lifted os started H enc)
theorem proved : Rows.FnExactCoveredSaid := over
#print axioms proved
end Go.Proofs.Ytabpfejdppfcdaa.fnExactCovered
namespace Go.Proofs.Ytabpfejdppfcdaa
/-- The row, under a short name, for the claim. -/
theorem fnExactCovered_holds : Rows.FnExactCoveredSaid := fnExactCovered.proved
end Go.Proofs.Ytabpfejdppfcdaa
