/- DriveNilSaid: what the given statement of that name says: the law returns true at every input, and its arguments read behind the call as they read before. No condition. -/
import Derived.Test.YtojdfmmgihefkaaGreatL35n
import Derived.Test.YtojdfmmgihefkaaGreatP35n
import Derived.Test.YtojdfmmgihefkaaGreatV25
import Derived.ProofKit
import Derived.OpenShut
import Derived.ShutString
import Derived.ChangeOld
import Derived.Below
namespace Go.Proofs.YtojdfmmgihefkaaGreat
open Go.ChangeShapes Go.WideShapes Go.ChangeAt Go.RowKit
set_option linter.unusedVariables false

theorem driveNilProved_own : ownKnob Tryz.prog.godebug = none := by kernel_rfl
theorem driveNilProved_laid : laidOutB Tryz.prog = true := by kernel_rfl
def driveNilProved_ks : List (Bool × V.Sh) := [(true, V.nest [(.int .i64), (.int .i64)])]

set_option maxRecDepth 100000 in
theorem driveNilProved_walk (w : World) (vs : Array Value) (x : V.All driveNilProved_ks) (hA : V.ArgsRd w driveNilProved_ks vs.toList x) :
    Calls Tryz.prog 4 vs w fun e w' => e = .returned (.bool true) ∧ Below w.heap.size w w' := by
  obtain ⟨x0_0, x0_1⟩ := x
  have hB := hA
  obtain ⟨_, _, b0⟩ := hB
  have f0 := V.ArgRd.fine b0
  refine V.law_args (vals := V.F_law35_DriveNil.vals) (run := V.F_law35_DriveNil.run) V.R_law35_DriveNil driveNilProved_ks (x0_0, x0_1) (x0_0, x0_1) hA (by kernel_rfl) ?_
  exact V.law35_nil x0_0 x0_1 f0.1 f0.2

set_option maxRecDepth 100000 in
theorem driveNilProved_lifted (os : Os) (started : os.Started) (H : Type) (enc : TypeId × Value → H) :
    ReturnsInHanded {} Tryz.checked os 4 .any (Rows.driveNilSpec.pre6 enc Tryz.prog Tryz.f4 Rows.driveNilRow.domain false) (Rows.driveNilSpec.post enc Tryz.prog Tryz.f4 false true false false) := by
  refine returnsInHanded_of_change (C := Tryz.checked) driveNilProved_own started (by kernel_rfl) Tryz.func4
    (ChangeSpec.witness6 (enc := enc) (C := Tryz.checked) false ⟨#[], #[.agg #[.int .i64 0, .int .i64 0]], []⟩ 8 (by kernel_rfl) (by kernel_rfl) (by kernel_rfl) (by kernel_rfl)) ?_
  intro W base args ds gs before hval0 hW hcnd _
  have hval : ∀ (j : Nat) t v, Tryz.f4.params[j]? = some t → args[j]? = some v → Value.okWide Tryz.prog W .any base t v := hval0
  have hW' := hW
  obtain ⟨p, q, hA0, hV, rfl, hfz, hnd⟩ := hW
  have hA : DataW.TrodAll enc Tryz.prog W 0 (fun _ => true) true Tryz.f4.params.toList args.toList ds p := hA0
  rw [Tryz.params4] at hA hval
  obtain ⟨v0, vs0, d0, ds0, p0, q0, hargs, rfl, rfl, h0, r0⟩ := trodAll_cons hA
  obtain ⟨rfl, rfl, rfl⟩ := trodAll_nil r0
  obtain rfl : args = #[v0] := by cases args; simp_all
  obtain ⟨rfl, rfl⟩ := trodVars_none hV
  have k0 := h0
  have lt0 : ∀ x ∈ p0, x.block < W.heap.size := by obtain ⟨m, hm⟩ := k0; exact DataW.trod_lt m _ _ _ hm
  obtain ⟨y0, w0⟩ := V.open_arg (n := 12) (l := [(.int .i64), (.int .i64)]) (show V.flatT Tryz.prog 12 54 = some [(.int .i64), (.int .i64)] by kernel_rfl) (List.cons_ne_nil _ _) (hval 0 54 v0 rfl rfl) h0
  rw [show V.isAgg Tryz.prog 54 = true by kernel_rfl] at w0
  clear hA0 hval0
  refine (driveNilProved_walk W #[v0] y0 ⟨v0, rfl, w0⟩).mono fun e W' ⟨he, bel⟩ => ?_
  subst he
  exact ⟨_, rfl, _, _, _, [], _, [], hW', trodAll_mk1 (shut_bool Tryz.underlying4 _), (trodAll_cons_mk (Below.trod driveNilProved_laid (by kernel_rfl) (of_decide_eq_true (by kernel_rfl)) k0 bel lt0) trodAll_mk0), rfl, bel.frame _, fun h => by cases h⟩

theorem driveNilProved_over : Rows.driveNilRow.holds Tryz.pinned (OpenSpec.ofChange Rows.driveNilSpec) :=
  OpenClaim.holds_of_wide 4 Tryz.f4 rfl rfl rfl rfl rfl rfl rfl ⟨rfl, rfl, rfl, rfl, rfl⟩ rfl rfl rfl rfl rfl (by kernel_rfl) Tryz.func4 (by kernel_rfl)
    (of_decide_eq_true (by kernel_rfl)) (by unfold Func.isWrapper; first | (rw [if_pos (by decide +kernel)]; kernel_rfl) | (rw [if_neg (by decide +kernel)]; exact ⟨rfl, rfl⟩))
    (fun os started H enc _ => driveNilProved_lifted os started H enc)

theorem driveNilProved : Rows.DriveNilSaid := driveNilProved_over
#print axioms driveNilProved
end Go.Proofs.YtojdfmmgihefkaaGreat
