/- The row of the law FnExactFolded: for every input it returns true, and its arguments read as before. No condition. -/
import Derived.Test.YtbijmhooamjgoaaRows
import Derived.Test.YtbijmhooamjgoaaPFnExactFoldedx14
import Derived.Test.YtbijmhooamjgoaaPureFnExactFolded
import Derived.Test.YtbijmhooamjgoaaKitOpen
import Derived.WalkKit
import Derived.ProofKit
import Derived.OpenShut
import Derived.ShutString
import Derived.ChangeOld
import Derived.Below
import Derived.SizedLaws
namespace Go.Proofs.Ytbijmhooamjgoaa.fnExactFolded
open Go.ChangeShapes Go.WideShapes Go.ChangeAt Go.RowKit Go.Proofs.Ytbijmhooamjgoaa.Kit Go.Proofs.YtbijmhooamjgoaaW.PrintWords
open Go.ChangeMaps (open_string shut_string)
set_option linter.unusedVariables false
set_option linter.unusedSimpArgs false
theorem own : ownKnob Try.prog.godebug = none := by kernel_rfl
theorem laidOut : laidOutB Try.prog = true := by kernel_rfl
set_option maxRecDepth 100000 in
theorem lifted (os : Os) (started : os.Started) (H : Type) (enc : TypeId × Value → H) :
    ReturnsInHanded {} Try.checked os 13 .any (Rows.fnExactFoldedSpec.pre6 enc Try.prog Try.f13 Rows.fnExactFoldedRow.domain false) (Rows.fnExactFoldedSpec.post enc Try.prog Try.f13 false true false false) := by
  refine returnsInHanded_of_change_sized (C := Try.checked) own started (by kernel_rfl) Try.func13
    (ChangeSpec.witness6 (enc := enc) (C := Try.checked) false ⟨#[], #[.agg #[.slice none 0 0]], []⟩ 8 (by kernel_rfl) (by kernel_rfl) (by kernel_rfl) (by kernel_rfl)) ?_
  intro W base args ds gs before hval0 hW hcnd hsz0 _
  have hsz : (DataW.weightsEach Try.prog (Try.f13.params.toList ++ Rows.fnExactFoldedSpec.plain.varTypes Try.prog) (ds ++ gs)).all (· ≤ reachBytes) = true := hsz0
  have hval : ∀ (j : Nat) t v, Try.f13.params[j]? = some t → args[j]? = some v → Value.okWide Try.prog W .any base t v := hval0
  have hW' := hW
  obtain ⟨p, q, hA0, hV, rfl, hfz, hnd⟩ := hW
  have hA : DataW.TrodAll enc Try.prog W 0 (fun _ => true) true Try.f13.params.toList args.toList ds p := hA0
  rw [Try.params13] at hA hval hsz
  obtain ⟨v0, vs0, d0, ds0, p0, q0, hargs, rfl, rfl, h0, r0⟩ := trodAll_cons hA
  obtain ⟨rfl, rfl, rfl⟩ := trodAll_nil r0
  obtain rfl : args = #[v0] := by cases args; simp_all
  obtain ⟨rfl, rfl⟩ := trodVars_none hV
  obtain ⟨cs0, rfl, hcs0⟩ := okWide_struct Try.underlying102 (hval 0 102 v0 rfl rfl)
  have k0 := h0
  have lt0 : ∀ x ∈ p0, x.block < W.heap.size := by obtain ⟨m, hm⟩ := k0; exact DataW.trod_lt m _ _ _ hm
  obtain ⟨z0, hK0, g0⟩ := Opens.arg (Opens.struct (fun x => x) (fun y => y) (fun _ => rfl) Try.underlying102 (by kernel_rfl) (.one rfl (by kernel_rfl) (Opens.slice 235 Try.underlying100 (by kernel_rfl) (Opens.struct (fun x : PFnExactFolded.S235 => (x.f0, x.f1, x.f2, x.f3, x.f4)) (fun y => ⟨y.1, y.2.1, y.2.2.1, y.2.2.2.1, y.2.2.2.2⟩) (fun _ => rfl) Try.underlying235 (by kernel_rfl) (.cons rfl (by kernel_rfl) (Opens.int Try.underlying2) (.cons rfl (by kernel_rfl) (Opens.slice 195 Try.underlying120 (by kernel_rfl) (Opens.struct (fun x : PFnExactFolded.S195 => (x.f0, x.f1)) (fun y => ⟨y.1, y.2⟩) (fun _ => rfl) Try.underlying195 (by kernel_rfl) (.cons rfl (by kernel_rfl) (Opens.int Try.underlying2) (.one rfl (by kernel_rfl) (Opens.int Try.underlying2))))) (.cons rfl (by kernel_rfl) (Opens.slice 2 Try.underlying29 (by kernel_rfl) (Opens.int Try.underlying2)) (.cons rfl (by kernel_rfl) (Opens.int Try.underlying2) (.one rfl (by kernel_rfl) (Opens.int Try.underlying2)))))))))) h0
  obtain ⟨cl0, rfl⟩ : ∃ l : List Value, cs0 = l.toArray := ⟨cs0.toList, by simp⟩
  replace hK0 : (Kd.slice 235 PFnExactFolded.k235).K W z0 cl0 := hK0
  obtain ⟨A0_0, c0_0, rfl, hl0_0, hC0_0⟩ := hK0
  clear hA0 hval0 hsz0 hsz
  obtain ⟨k, hk⟩ := Pure.FnExactFolded z0 g0
  refine (PFnExactFolded.laws_FnExactFolded.calls (k := k) (A0_0 := A0_0) (c0_0 := c0_0) (l0_0 := z0) (hr0_0 := hC0_0) (hc0_0 := hl0_0) (r := true) (w := W) (h := hk)).mono fun e W' ⟨he, bel⟩ => ?_
  subst he
  exact ⟨_, rfl, _, _, _, [], _, [], hW', trodAll_mk1 (shut_bool Try.underlying4 _), (trodAll_cons_mk (Below.trod laidOut (by kernel_rfl) (of_decide_eq_true (by kernel_rfl)) k0 bel lt0) trodAll_mk0), rfl, bel.frame _, fun h => by cases h⟩
theorem over : Rows.fnExactFoldedRow.holds Try.pinned (OpenSpec.ofChange Rows.fnExactFoldedSpec) :=
  OpenClaim.holds_of_wide 13 Try.f13 rfl rfl rfl rfl rfl rfl rfl ⟨rfl, rfl, rfl, rfl, rfl⟩ rfl rfl rfl rfl rfl (by kernel_rfl) Try.func13 (by kernel_rfl)
    (of_decide_eq_true (by kernel_rfl)) (by unfold Func.isWrapper; first | (rw [if_pos (by decide +kernel)]; kernel_rfl) | (rw [if_neg (by decide +kernel)]; exact ⟨rfl, rfl⟩))
    (fun os started H enc _ => lifted os started H enc)
theorem proved : Rows.FnExactFoldedSaid := over
#print axioms proved
end Go.Proofs.Ytbijmhooamjgoaa.fnExactFolded
namespace Go.Proofs.Ytbijmhooamjgoaa
/-- The row, under a short name, for the claim. -/
theorem fnExactFolded_holds : Rows.FnExactFoldedSaid := fnExactFolded.proved
end Go.Proofs.Ytbijmhooamjgoaa
