/- The row of the law FnExactBlocks: for every input it returns true, and its arguments read as before. No condition. -/
import Derived.Test.YtaemhmgcjpcicaaRows
import Derived.Test.YtaemhmgcjpcicaaPFnExactBlocksx6
import Derived.Test.YtaemhmgcjpcicaaPureFnExactBlocks
import Derived.Test.YtaemhmgcjpcicaaKitOpen
import Derived.WalkKit
import Derived.ProofKit
import Derived.OpenShut
import Derived.ShutString
import Derived.ChangeOld
import Derived.Below
import Derived.SizedLaws
namespace Go.Proofs.Ytaemhmgcjpcicaa.fnExactBlocks
open Go.ChangeShapes Go.WideShapes Go.ChangeAt Go.RowKit Go.Proofs.Ytaemhmgcjpcicaa.Kit Go.Proofs.YtaemhmgcjpcicaaW.PrintWords
open Go.ChangeMaps (open_string shut_string)
set_option linter.unusedVariables false
set_option linter.unusedSimpArgs false
theorem own : ownKnob Try.prog.godebug = none := by kernel_rfl
theorem laidOut : laidOutB Try.prog = true := by kernel_rfl
set_option maxRecDepth 100000 in
theorem lifted (os : Os) (started : os.Started) (H : Type) (enc : TypeId × Value → H) :
    ReturnsInHanded {} Try.checked os 8 .any (Rows.fnExactBlocksSpec.pre6 enc Try.prog Try.f8 Rows.fnExactBlocksRow.domain false) (Rows.fnExactBlocksSpec.post enc Try.prog Try.f8 false true false false) := by
  refine returnsInHanded_of_change_sized (C := Try.checked) own started (by kernel_rfl) Try.func8
    (ChangeSpec.witness6 (enc := enc) (C := Try.checked) false ⟨#[], #[.slice none 0 0], []⟩ 8 (by kernel_rfl) (by kernel_rfl) (by kernel_rfl) (by kernel_rfl)) ?_
  intro W base args ds gs before hval0 hW hcnd hsz0 _
  have hsz : (DataW.weightsEach Try.prog (Try.f8.params.toList ++ Rows.fnExactBlocksSpec.plain.varTypes Try.prog) (ds ++ gs)).all (· ≤ reachBytes) = true := hsz0
  have hval : ∀ (j : Nat) t v, Try.f8.params[j]? = some t → args[j]? = some v → Value.okWide Try.prog W .any base t v := hval0
  have hW' := hW
  obtain ⟨p, q, hA0, hV, rfl, hfz, hnd⟩ := hW
  have hA : DataW.TrodAll enc Try.prog W 0 (fun _ => true) true Try.f8.params.toList args.toList ds p := hA0
  rw [Try.params8] at hA hval hsz
  obtain ⟨v0, vs0, d0, ds0, p0, q0, hargs, rfl, rfl, h0, r0⟩ := trodAll_cons hA
  obtain ⟨rfl, rfl, rfl⟩ := trodAll_nil r0
  obtain rfl : args = #[v0] := by cases args; simp_all
  obtain ⟨rfl, rfl⟩ := trodVars_none hV
  obtain ⟨a0, len0, cap0, rfl⟩ := okWide_slice Try.underlying68 (hval 0 68 v0 rfl rfl)
  have k0 := h0
  have lt0 : ∀ x ∈ p0, x.block < W.heap.size := by obtain ⟨m, hm⟩ := k0; exact DataW.trod_lt m _ _ _ hm
  obtain ⟨z0, hK0, g0⟩ := Opens.arg (Opens.slice 151 Try.underlying68 (by kernel_rfl) (Opens.slice 220 Try.underlying151 (by kernel_rfl) (Opens.struct (fun x : PFnExactBlocks.S220 => (x.f0, x.f1)) (fun y => ⟨y.1, y.2⟩) (fun _ => rfl) Try.underlying220 (by kernel_rfl) (.cons rfl (by kernel_rfl) (Opens.int Try.underlying2) (.one rfl (by kernel_rfl) (Opens.int Try.underlying2)))))) h0
  obtain ⟨A0, c0, e0, hl0, hC0⟩ := hK0
  have e0' : a0 = A0 ∧ len0 = z0.length ∧ cap0 = c0 := by simpa [Value.cells] using e0
  clear e0
  obtain ⟨rfl, rfl, rfl⟩ := e0'
  clear hA0 hval0 hsz0 hsz
  obtain ⟨k, hk⟩ := Pure.FnExactBlocks z0 g0
  refine (PFnExactBlocks.laws_FnExactBlocks.calls (k := k) (A0 := a0) (c0 := cap0) (l0 := z0) (hr0 := hC0) (hc0 := hl0) (r := true) (w := W) (h := hk)).mono fun e W' ⟨he, bel⟩ => ?_
  subst he
  exact ⟨_, rfl, _, _, _, [], _, [], hW', trodAll_mk1 (shut_bool Try.underlying4 _), (trodAll_cons_mk (Below.trod laidOut (by kernel_rfl) (of_decide_eq_true (by kernel_rfl)) k0 bel lt0) trodAll_mk0), rfl, bel.frame _, fun h => by cases h⟩
theorem over : Rows.fnExactBlocksRow.holds Try.pinned (OpenSpec.ofChange Rows.fnExactBlocksSpec) :=
  OpenClaim.holds_of_wide 8 Try.f8 rfl rfl rfl rfl rfl rfl rfl ⟨rfl, rfl, rfl, rfl, rfl⟩ rfl rfl rfl rfl rfl (by kernel_rfl) Try.func8 (by kernel_rfl)
    (of_decide_eq_true (by kernel_rfl)) (by unfold Func.isWrapper; first | (rw [if_pos (by decide +kernel)]; kernel_rfl) | (rw [if_neg (by decide +kernel)]; exact ⟨rfl, rfl⟩))
    (fun os started H enc _ => lifted os started H enc)
theorem proved : Rows.FnExactBlocksSaid := over
#print axioms proved
end Go.Proofs.Ytaemhmgcjpcicaa.fnExactBlocks
namespace Go.Proofs.Ytaemhmgcjpcicaa
/-- The row, under a short name, for the claim. -/
theorem fnExactBlocks_holds : Rows.FnExactBlocksSaid := fnExactBlocks.proved
end Go.Proofs.Ytaemhmgcjpcicaa
