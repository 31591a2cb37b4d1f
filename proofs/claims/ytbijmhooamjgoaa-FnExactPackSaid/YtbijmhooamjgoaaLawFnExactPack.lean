/- The row of the law FnExactPack: for every input it returns true, and its arguments read as before. No condition. -/
import Derived.Test.YtbijmhooamjgoaaRows
import Derived.Test.YtbijmhooamjgoaaPFnExactPackx9
import Derived.Test.YtbijmhooamjgoaaPureFnExactPack
import Derived.Test.YtbijmhooamjgoaaKitOpen
import Derived.WalkKit
import Derived.ProofKit
import Derived.OpenShut
import Derived.ShutString
import Derived.ChangeOld
import Derived.Below
import Derived.SizedLaws
namespace Go.Proofs.Ytbijmhooamjgoaa.fnExactPack
open Go.ChangeShapes Go.WideShapes Go.ChangeAt Go.RowKit Go.Proofs.Ytbijmhooamjgoaa.Kit Go.Proofs.YtbijmhooamjgoaaW.PrintWords
open Go.ChangeMaps (open_string shut_string)
set_option linter.unusedVariables false
set_option linter.unusedSimpArgs false
theorem own : ownKnob Try.prog.godebug = none := by kernel_rfl
theorem laidOut : laidOutB Try.prog = true := by kernel_rfl
set_option maxRecDepth 100000 in
theorem lifted (os : Os) (started : os.Started) (H : Type) (enc : TypeId × Value → H) :
    ReturnsInHanded {} Try.checked os 9 .any (Rows.fnExactPackSpec.pre6 enc Try.prog Try.f9 Rows.fnExactPackRow.domain false) (Rows.fnExactPackSpec.post enc Try.prog Try.f9 false true false false) := by
  refine returnsInHanded_of_change_sized (C := Try.checked) own started (by kernel_rfl) Try.func9
    (ChangeSpec.witness6 (enc := enc) (C := Try.checked) false ⟨#[], #[.agg #[.slice none 0 0, .slice none 0 0, .slice none 0 0]], []⟩ 8 (by kernel_rfl) (by kernel_rfl) (by kernel_rfl) (by kernel_rfl)) ?_
  intro W base args ds gs before hval0 hW hcnd hsz0 _
  have hsz : (DataW.weightsEach Try.prog (Try.f9.params.toList ++ Rows.fnExactPackSpec.plain.varTypes Try.prog) (ds ++ gs)).all (· ≤ reachBytes) = true := hsz0
  have hval : ∀ (j : Nat) t v, Try.f9.params[j]? = some t → args[j]? = some v → Value.okWide Try.prog W .any base t v := hval0
  have hW' := hW
  obtain ⟨p, q, hA0, hV, rfl, hfz, hnd⟩ := hW
  have hA : DataW.TrodAll enc Try.prog W 0 (fun _ => true) true Try.f9.params.toList args.toList ds p := hA0
  rw [Try.params9] at hA hval hsz
  obtain ⟨v0, vs0, d0, ds0, p0, q0, hargs, rfl, rfl, h0, r0⟩ := trodAll_cons hA
  obtain ⟨rfl, rfl, rfl⟩ := trodAll_nil r0
  obtain rfl : args = #[v0] := by cases args; simp_all
  obtain ⟨rfl, rfl⟩ := trodVars_none hV
  obtain ⟨cs0, rfl, hcs0⟩ := okWide_struct Try.underlying49 (hval 0 49 v0 rfl rfl)
  have k0 := h0
  have lt0 : ∀ x ∈ p0, x.block < W.heap.size := by obtain ⟨m, hm⟩ := k0; exact DataW.trod_lt m _ _ _ hm
  obtain ⟨z0, hK0, g0⟩ := Opens.arg (Opens.struct (fun x => x) (fun y => y) (fun _ => rfl) Try.underlying49 (by kernel_rfl) (.cons rfl (by kernel_rfl) (Opens.slice 2 Try.underlying29 (by kernel_rfl) (Opens.int Try.underlying2)) (.cons rfl (by kernel_rfl) (Opens.slice 29 Try.underlying47 (by kernel_rfl) (Opens.slice 2 Try.underlying29 (by kernel_rfl) (Opens.int Try.underlying2))) (.one rfl (by kernel_rfl) (Opens.slice 2 Try.underlying29 (by kernel_rfl) (Opens.int Try.underlying2)))))) h0
  obtain ⟨cl0, rfl⟩ : ∃ l : List Value, cs0 = l.toArray := ⟨cs0.toList, by simp⟩
  replace hK0 : (Kd.pair (Kd.slice 2 (Kd.int .i64)) (Kd.pair (Kd.slice 29 (Kd.slice 2 (Kd.int .i64))) (Kd.slice 2 (Kd.int .i64)))).K W z0 cl0 := hK0
  obtain ⟨ca0_1, cb0_1, rfl, ha0_1, hb0_1⟩ := hK0
  obtain ⟨A0_0, c0_0, rfl, hl0_0, hC0_0⟩ := ha0_1
  obtain ⟨ca0_2, cb0_2, rfl, ha0_2, hb0_2⟩ := hb0_1
  obtain ⟨A0_1, c0_1, rfl, hl0_1, hC0_1⟩ := ha0_2
  obtain ⟨A0_2, c0_2, rfl, hl0_2, hC0_2⟩ := hb0_2
  clear hA0 hval0 hsz0 hsz
  obtain ⟨k, hk⟩ := Pure.FnExactPack z0 g0
  refine (PFnExactPack.laws_FnExactPack.calls (k := k) (A0_0 := A0_0) (c0_0 := c0_0) (l0_0 := z0.1) (hr0_0 := hC0_0) (hc0_0 := hl0_0) (A0_1 := A0_1) (c0_1 := c0_1) (l0_1 := z0.2.1) (hr0_1 := hC0_1) (hc0_1 := hl0_1) (A0_2 := A0_2) (c0_2 := c0_2) (l0_2 := z0.2.2) (hr0_2 := hC0_2) (hc0_2 := hl0_2) (r := true) (w := W) (h := hk)).mono fun e W' ⟨he, bel⟩ => ?_
  subst he
  exact ⟨_, rfl, _, _, _, [], _, [], hW', trodAll_mk1 (shut_bool Try.underlying4 _), (trodAll_cons_mk (Below.trod laidOut (by kernel_rfl) (of_decide_eq_true (by kernel_rfl)) k0 bel lt0) trodAll_mk0), rfl, bel.frame _, fun h => by cases h⟩
theorem over : Rows.fnExactPackRow.holds Try.pinned (OpenSpec.ofChange Rows.fnExactPackSpec) :=
  OpenClaim.holds_of_wide 9 Try.f9 rfl rfl rfl rfl rfl rfl rfl ⟨rfl, rfl, rfl, rfl, rfl⟩ rfl rfl rfl rfl rfl (by kernel_rfl) Try.func9 (by kernel_rfl)
    (of_decide_eq_true (by kernel_rfl)) (by unfold Func.isWrapper; first | (rw [if_pos (by decide +kernel)]; kernel_rfl) | (rw [if_neg (by decide +kernel)]; exact ⟨rfl, rfl⟩))
    (fun os started H enc _ => lifted os started H enc)
theorem proved : Rows.FnExactPackSaid := over
#print axioms proved
end Go.Proofs.Ytbijmhooamjgoaa.fnExactPack
namespace Go.Proofs.Ytbijmhooamjgoaa
/-- The row, under a short name, for the claim. -/
theorem fnExactPack_holds : Rows.FnExactPackSaid := fnExactPack.proved
end Go.Proofs.Ytbijmhooamjgoaa
