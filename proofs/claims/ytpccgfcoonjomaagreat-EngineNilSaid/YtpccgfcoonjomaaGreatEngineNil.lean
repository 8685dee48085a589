/- EngineNilSaid: what the given statement of that name says: the law returns true at every input, and its arguments read behind the call as they read before. No condition. -/
import Derived.Test.YtpccgfcoonjomaaGreatL37n
import Derived.Test.YtpccgfcoonjomaaGreatP37n
import Derived.Test.YtpccgfcoonjomaaGreatV25
import Derived.ProofKit
import Derived.OpenShut
import Derived.ShutString
import Derived.ChangeOld
import Derived.Below
namespace Go.Proofs.YtpccgfcoonjomaaGreat
open Go.ChangeShapes Go.WideShapes Go.ChangeAt Go.RowKit
set_option linter.unusedVariables false

theorem engineNilProved_own : ownKnob Tryz.prog.godebug = none := by kernel_rfl
theorem engineNilProved_laid : laidOutB Tryz.prog = true := by kernel_rfl
def engineNilProved_ks : List (Bool × V.Sh) := [(false, V.nest [.bool])]

set_option maxRecDepth 100000 in
theorem engineNilProved_walk (w : World) (vs : Array Value) (x : V.All engineNilProved_ks) (hA : V.ArgsRd w engineNilProved_ks vs.toList x) :
    Calls Tryz.prog 5 vs w fun e w' => e = .returned (.bool true) ∧ Below w.heap.size w w' := by
  revert x; intro x0 hA
  have hB := hA
  obtain ⟨_, _, b0⟩ := hB
  have f0 := V.ArgRd.fine b0
  refine V.law_args (vals := V.F_law37_EngineNil.vals) (run := V.F_law37_EngineNil.run) V.R_law37_EngineNil engineNilProved_ks x0 x0 hA (by kernel_rfl) ?_
  exact V.law37_nil x0 f0

set_option maxRecDepth 100000 in
theorem engineNilProved_lifted (os : Os) (started : os.Started) (H : Type) (enc : TypeId × Value → H) :
    ReturnsInHanded {} Tryz.checked os 5 .any (Rows.engineNilSpec.pre6 enc Tryz.prog Tryz.f5 Rows.engineNilRow.domain false) (Rows.engineNilSpec.post enc Tryz.prog Tryz.f5 false true false false) := by
  refine returnsInHanded_of_change (C := Tryz.checked) engineNilProved_own started (by kernel_rfl) Tryz.func5
    (ChangeSpec.witness6 (enc := enc) (C := Tryz.checked) false ⟨#[], #[.bool false], []⟩ 8 (by kernel_rfl) (by kernel_rfl) (by kernel_rfl) (by kernel_rfl)) ?_
  intro W base args ds gs before hval0 hW hcnd _
  have hval : ∀ (j : Nat) t v, Tryz.f5.params[j]? = some t → args[j]? = some v → Value.okWide Tryz.prog W .any base t v := hval0
  have hW' := hW
  obtain ⟨p, q, hA0, hV, rfl, hfz, hnd⟩ := hW
  have hA : DataW.TrodAll enc Tryz.prog W 0 (fun _ => true) true Tryz.f5.params.toList args.toList ds p := hA0
  rw [Tryz.params5] at hA hval
  obtain ⟨v0, vs0, d0, ds0, p0, q0, hargs, rfl, rfl, h0, r0⟩ := trodAll_cons hA
  obtain ⟨rfl, rfl, rfl⟩ := trodAll_nil r0
  obtain rfl : args = #[v0] := by cases args; simp_all
  obtain ⟨rfl, rfl⟩ := trodVars_none hV
  have k0 := h0
  have lt0 : ∀ x ∈ p0, x.block < W.heap.size := by obtain ⟨m, hm⟩ := k0; exact DataW.trod_lt m _ _ _ hm
  obtain ⟨y0, w0⟩ := V.open_arg (n := 12) (l := [.bool]) (show V.flatT Tryz.prog 12 4 = some [.bool] by kernel_rfl) (List.cons_ne_nil _ _) (hval 0 4 v0 rfl rfl) h0
  rw [show V.isAgg Tryz.prog 4 = false by kernel_rfl] at w0
  clear hA0 hval0
  refine (engineNilProved_walk W #[v0] y0 ⟨v0, rfl, w0⟩).mono fun e W' ⟨he, bel⟩ => ?_
  subst he
  exact ⟨_, rfl, _, _, _, [], _, [], hW', trodAll_mk1 (shut_bool Tryz.underlying4 _), (trodAll_cons_mk (Below.trod engineNilProved_laid (by kernel_rfl) (of_decide_eq_true (by kernel_rfl)) k0 bel lt0) trodAll_mk0), rfl, bel.frame _, fun h => by cases h⟩

theorem engineNilProved_named : Tryz.pinned.checked.prog.funcNamed Rows.engineNilRow.func = some 5 := by kernel_rfl
theorem engineNilProved_facts : joinedFacts Tryz.pinned.checked.prog 5 Tryz.f5 Rows.engineNilSpec Rows.engineNilRow = true := by kernel_rfl
theorem engineNilProved_inst : Tryz.f5.isInstance Tryz.pinned.checked.prog Rows.engineNilRow.origin Rows.engineNilRow.targs := of_decide_eq_true (by kernel_rfl)
theorem engineNilProved_wrap : Tryz.f5.isWrapper Tryz.pinned.checked.prog Rows.engineNilRow.wrapper Rows.engineNilRow.mainSum := by unfold Func.isWrapper; first | (rw [if_pos (by decide +kernel)]; kernel_rfl) | (rw [if_neg (by decide +kernel)]; exact ⟨rfl, rfl⟩)
theorem engineNilProved_over : Rows.engineNilRow.holds Tryz.pinned (OpenSpec.ofChange Rows.engineNilSpec) :=
  OpenClaim.holds_of_wide 5 Tryz.f5 rfl rfl rfl rfl rfl rfl rfl ⟨rfl, rfl, rfl, rfl, rfl⟩ rfl rfl rfl rfl rfl engineNilProved_named Tryz.func5 engineNilProved_facts
    engineNilProved_inst engineNilProved_wrap
    (fun os started H enc _ => engineNilProved_lifted os started H enc)

theorem engineNilProved : Rows.EngineNilSaid := engineNilProved_over
#print axioms engineNilProved
end Go.Proofs.YtpccgfcoonjomaaGreat
