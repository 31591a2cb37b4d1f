/- The row of the law FnExactRxOk: for every input it returns true, and its arguments read as before. No condition. -/
import Derived.Test.YtabpfejdppfcdaaRows
import Derived.Test.YtabpfejdppfcdaaPFnExactRxOkx9
import Derived.Test.YtabpfejdppfcdaaPureFnExactRxOk
import Derived.Test.YtabpfejdppfcdaaKitOpen
import Derived.WalkKit
import Derived.ProofKit
import Derived.OpenShut
import Derived.ShutString
import Derived.ChangeOld
import Derived.Below
import Derived.SizedLaws
namespace Go.Proofs.Ytabpfejdppfcdaa.fnExactRxOk
open Go.ChangeShapes Go.WideShapes Go.ChangeAt Go.RowKit Go.Proofs.Ytabpfejdppfcdaa.Kit Go.Proofs.YtabpfejdppfcdaaW.PrintWords
open Go.ChangeMaps (open_string shut_string)
set_option linter.unusedVariables false
set_option linter.unusedSimpArgs false
theorem own : ownKnob Try.prog.godebug = none := by kernel_rfl
theorem laidOut : laidOutB Try.prog = true := by kernel_rfl
set_option maxRecDepth 100000 in
theorem lifted (os : Os) (started : os.Started) (H : Type) (enc : TypeId × Value → H) :
    ReturnsInHanded {} Try.checked os 9 .any (Rows.fnExactRxOkSpec.pre6 enc Try.prog Try.f9 Rows.fnExactRxOkRow.domain false) (Rows.fnExactRxOkSpec.post enc Try.prog Try.f9 false true false false) := by
  refine returnsInHanded_of_change_sized (C := Try.checked) own started (by kernel_rfl) Try.func9
    (ChangeSpec.witness6 (enc := enc) (C := Try.checked) false ⟨#[], #[.agg #[.slice none 0 0]], []⟩ 8 (by kernel_rfl) (by kernel_rfl) (by kernel_rfl) (by kernel_rfl)) ?_
  intro W base args ds gs before hval0 hW hcnd hsz0 _
  have hsz : (DataW.weightsEach Try.prog (Try.f9.params.toList ++ Rows.fnExactRxOkSpec.plain.varTypes Try.prog) (ds ++ gs)).all (· ≤ reachBytes) = true := hsz0
  have hval : ∀ (j : Nat) t v, Try.f9.params[j]? = some t → args[j]? = some v → Value.okWide Try.prog W .any base t v := hval0
  have hW' := hW
  obtain ⟨p, q, hA0, hV, rfl, hfz, hnd⟩ := hW
  have hA : DataW.TrodAll enc Try.prog W 0 (fun _ => true) true Try.f9.params.toList args.toList ds p := hA0
  rw [Try.params9] at hA hval hsz
  obtain ⟨v0, vs0, d0, ds0, p0, q0, hargs, rfl, rfl, h0, r0⟩ := trodAll_cons hA
  obtain ⟨rfl, rfl, rfl⟩ := trodAll_nil r0
  obtain rfl : args = #[v0] := by cases args; simp_all
  obtain ⟨rfl, rfl⟩ := trodVars_none hV
  obtain ⟨cs0, rfl, hcs0⟩ := okWide_struct Try.underlying78 (hval 0 78 v0 rfl rfl)
  have k0 := h0
  have lt0 : ∀ x ∈ p0, x.block < W.heap.size := by obtain ⟨m, hm⟩ := k0; exact DataW.trod_lt m _ _ _ hm
  obtain ⟨z0, hK0, g0⟩ := Opens.arg (Opens.struct (fun x => x) (fun y => y) (fun _ => rfl) Try.underlying78 (by kernel_rfl) (.one rfl (by kernel_rfl) (Opens.slice 206 Try.underlying76 (by kernel_rfl) (Opens.struct (fun x : PFnExactRxOk.S206 => (x.f0, x.f1, x.f2, x.f3, x.f4)) (fun y => ⟨y.1, y.2.1, y.2.2.1, y.2.2.2.1, y.2.2.2.2⟩) (fun _ => rfl) Try.underlying206 (by kernel_rfl) (.cons rfl (by kernel_rfl) (Opens.int Try.underlying2) (.cons rfl (by kernel_rfl) (Opens.slice 230 Try.underlying204 (by kernel_rfl) (Opens.struct (fun x : PFnExactRxOk.S230 => (x.f0, x.f1)) (fun y => ⟨y.1, y.2⟩) (fun _ => rfl) Try.underlying230 (by kernel_rfl) (.cons rfl (by kernel_rfl) (Opens.int Try.underlying2) (.one rfl (by kernel_rfl) (Opens.int Try.underlying2))))) (.cons rfl (by kernel_rfl) (Opens.slice 2 Try.underlying60 (by kernel_rfl) (Opens.int Try.underlying2)) (.cons rfl (by kernel_rfl) (Opens.int Try.underlying2) (.one rfl (by kernel_rfl) (Opens.int Try.underlying2)))))))))) h0
  obtain ⟨cl0, rfl⟩ : ∃ l : List Value, cs0 = l.toArray := ⟨cs0.toList, by simp⟩
  replace hK0 : (Kd.slice 206 PFnExactRxOk.k206).K W z0 cl0 := hK0
  obtain ⟨A0_0, c0_0, rfl, hl0_0, hC0_0⟩ := hK0
  clear hA0 hval0 hsz0 hsz
  obtain ⟨k, hk⟩ := Pure.FnExactRxOk z0 g0
  refine (PFnExactRxOk.laws_FnExactRxOk.calls (k := k) (A0_0 := A0_0) (c0_0 := c0_0) (l0_0 := z0) (hr0_0 := hC0_0) (hc0_0 := hl0_0) (r := true) (w := W) (h := hk)).mono fun e W' ⟨he, bel⟩ => ?_
  subst he
  exact ⟨_, rfl, _, _, _, [], _, [], hW', trodAll_mk1 (shut_bool Try.underlying4 _), (trodAll_cons_mk (Below.trod laidOut (by kernel_rfl) (of_decide_eq_true (by kernel_rfl)) k0 bel lt0) trodAll_mk0), rfl, bel.frame _, fun h => by cases h⟩
theorem over : Rows.fnExactRxOkRow.holds Try.pinned (OpenSpec.ofChange Rows.fnExactRxOkSpec) :=
  OpenClaim.holds_of_wide 9 Try.f9 rfl rfl rfl rfl rfl rfl rfl ⟨rfl, rfl, rfl, rfl, rfl⟩ rfl rfl rfl rfl rfl (by kernel_rfl) Try.func9 (by kernel_rfl)
    (of_decide_eq_true (by kernel_rfl)) (by unfold Func.isWrapper; first | (rw [if_pos (by decide +kernel)]; kernel_rfl) | (rw [if_neg (by decide +kernel)]; exact ⟨rfl, rfl⟩))
    (fun os started H enc _ => lifted os started H enc)
theorem proved : Rows.FnExactRxOkSaid := over
#print axioms proved
end Go.Proofs.Ytabpfejdppfcdaa.fnExactRxOk
namespace Go.Proofs.Ytabpfejdppfcdaa
/-- The row, under a short name, for the claim. -/
theorem fnExactRxOk_holds : Rows.FnExactRxOkSaid := fnExactRxOk.proved
end Go.Proofs.Ytabpfejdppfcdaa
