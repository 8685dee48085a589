/- HeaderDecodesSaid: what the given statement of that name says: the law returns true at every input, and its arguments read behind the call as they read before. No condition. -/
import Derived.Test.YtojdfmmgihefkaaL33h
import Derived.Test.YtojdfmmgihefkaaP33
import Derived.Test.YtojdfmmgihefkaaV25
import Derived.ProofKit
import Derived.OpenShut
import Derived.ShutString
import Derived.ChangeOld
import Derived.Below
namespace Go.Proofs.Ytojdfmmgihefkaa
open Go.ChangeShapes Go.WideShapes Go.ChangeAt Go.RowKit
set_option linter.unusedVariables false

theorem headerDecodesProved_own : ownKnob Try.prog.godebug = none := by kernel_rfl
theorem headerDecodesProved_laid : laidOutB Try.prog = true := by kernel_rfl
def headerDecodesProved_ks : List (Bool × V.Sh) := [(false, V.nest [(.list (.int .u64))])]

theorem headerDecodesProved_walk (w : World) (vs : Array Value) (x : V.All headerDecodesProved_ks) (hA : V.ArgsRd w headerDecodesProved_ks vs.toList x) :
    Calls Try.prog 4 vs w fun e w' => e = .returned (.bool true) ∧ Below w.heap.size w w' := by
  revert x; intro x0 hA
  have hB := hA
  obtain ⟨_, _, b0⟩ := hB
  have f0 := V.ArgRd.fine b0
  refine V.law_args (vals := V.F_law33_HeaderDecodes.vals) (run := V.F_law33_HeaderDecodes.run) V.R_law33_HeaderDecodes headerDecodesProved_ks x0 x0 hA (by kernel_rfl) ?_
  exact V.law33_decodes x0 f0

set_option maxRecDepth 100000 in
theorem headerDecodesProved_lifted (os : Os) (started : os.Started) (H : Type) (enc : TypeId × Value → H) :
    ReturnsInHanded {} Try.checked os 4 .any (Rows.headerDecodesSpec.pre6 enc Try.prog Try.f4 Rows.headerDecodesRow.domain false) (Rows.headerDecodesSpec.post enc Try.prog Try.f4 false true false false) := by
  refine returnsInHanded_of_change (C := Try.checked) headerDecodesProved_own started (by kernel_rfl) Try.func4
    (ChangeSpec.witness6 (enc := enc) (C := Try.checked) false ⟨#[], #[.slice none 0 0], []⟩ 8 (by kernel_rfl) (by kernel_rfl) (by kernel_rfl) (by kernel_rfl)) ?_
  intro W base args ds gs before hval0 hW hcnd _
  have hval : ∀ (j : Nat) t v, Try.f4.params[j]? = some t → args[j]? = some v → Value.okWide Try.prog W .any base t v := hval0
  have hW' := hW
  obtain ⟨p, q, hA0, hV, rfl, hfz, hnd⟩ := hW
  have hA : DataW.TrodAll enc Try.prog W 0 (fun _ => true) true Try.f4.params.toList args.toList ds p := hA0
  rw [Try.params4] at hA hval
  obtain ⟨v0, vs0, d0, ds0, p0, q0, hargs, rfl, rfl, h0, r0⟩ := trodAll_cons hA
  obtain ⟨rfl, rfl, rfl⟩ := trodAll_nil r0
  obtain rfl : args = #[v0] := by cases args; simp_all
  obtain ⟨rfl, rfl⟩ := trodVars_none hV
  have k0 := h0
  have lt0 : ∀ x ∈ p0, x.block < W.heap.size := by obtain ⟨m, hm⟩ := k0; exact DataW.trod_lt m _ _ _ hm
  obtain ⟨y0, w0⟩ := V.open_arg (n := 12) (l := [(.list (.int .u64))]) (show V.flatT Try.prog 12 22 = some [(.list (.int .u64))] by kernel_rfl) (List.cons_ne_nil _ _) (hval 0 22 v0 rfl rfl) h0
  rw [show V.isAgg Try.prog 22 = false by kernel_rfl] at w0
  clear hA0 hval0
  refine (headerDecodesProved_walk W #[v0] y0 ⟨v0, rfl, w0⟩).mono fun e W' ⟨he, bel⟩ => ?_
  subst he
  exact ⟨_, rfl, _, _, _, [], _, [], hW', trodAll_mk1 (shut_bool Try.underlying4 _), (trodAll_cons_mk (Below.trod headerDecodesProved_laid (by kernel_rfl) (of_decide_eq_true (by kernel_rfl)) k0 bel lt0) trodAll_mk0), rfl, bel.frame _, fun h => by cases h⟩

theorem headerDecodesProved_over : Rows.headerDecodesRow.holds Try.pinned (OpenSpec.ofChange Rows.headerDecodesSpec) :=
  OpenClaim.holds_of_wide 4 Try.f4 rfl rfl rfl rfl rfl rfl rfl ⟨rfl, rfl, rfl, rfl, rfl⟩ rfl rfl rfl rfl rfl (by kernel_rfl) Try.func4 (by kernel_rfl)
    (of_decide_eq_true (by kernel_rfl)) (by unfold Func.isWrapper; first | (rw [if_pos (by decide +kernel)]; kernel_rfl) | (rw [if_neg (by decide +kernel)]; exact ⟨rfl, rfl⟩))
    (fun os started H enc _ => headerDecodesProved_lifted os started H enc)

theorem headerDecodesProved : Rows.HeaderDecodesSaid := headerDecodesProved_over
#print axioms headerDecodesProved
end Go.Proofs.Ytojdfmmgihefkaa
