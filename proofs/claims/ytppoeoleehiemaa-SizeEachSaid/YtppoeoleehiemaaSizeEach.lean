/- SizeEachSaid: what the given statement of that name says: the law returns true at every input, and its arguments read behind the call as they read before. No condition. -/
import Derived.Test.YtppoeoleehiemaaL9e
import Derived.Test.YtppoeoleehiemaaP9c
import Derived.Test.YtppoeoleehiemaaV25
import Derived.ProofKit
import Derived.OpenShut
import Derived.ShutString
import Derived.ChangeOld
import Derived.Below
namespace Go.Proofs.Ytppoeoleehiemaa
open Go.ChangeShapes Go.WideShapes Go.ChangeAt Go.RowKit
set_option linter.unusedVariables false

theorem sizeEachProved_own : ownKnob Try.prog.godebug = none := by kernel_rfl
theorem sizeEachProved_laid : laidOutB Try.prog = true := by kernel_rfl
def sizeEachProved_ks : List (Bool × V.Sh) := [(false, V.nest [(.list (.pair (.int .i64) (.pair (.int .i64) (.pair (.int .i64) (.pair (.int .i64) (.int .u64))))))])]

theorem sizeEachProved_walk (w : World) (vs : Array Value) (x : V.All sizeEachProved_ks) (hA : V.ArgsRd w sizeEachProved_ks vs.toList x) :
    Calls Try.prog 13 vs w fun e w' => e = .returned (.bool true) ∧ Below w.heap.size w w' := by
  revert x; intro x0 hA
  have hB := hA
  obtain ⟨_, _, b0⟩ := hB
  have f0 := V.ArgRd.fine b0
  refine V.law_args (vals := V.F_law09_SizeEach.vals) (run := V.F_law09_SizeEach.run) V.R_law09_SizeEach sizeEachProved_ks x0 x0 hA (by kernel_rfl) ?_
  exact V.law09_each x0 f0

set_option maxRecDepth 100000 in
theorem sizeEachProved_lifted (os : Os) (started : os.Started) (H : Type) (enc : TypeId × Value → H) :
    ReturnsInHanded {} Try.checked os 13 .any (Rows.sizeEachSpec.pre6 enc Try.prog Try.f13 Rows.sizeEachRow.domain false) (Rows.sizeEachSpec.post enc Try.prog Try.f13 false true false false) := by
  refine returnsInHanded_of_change (C := Try.checked) sizeEachProved_own started (by kernel_rfl) Try.func13
    (ChangeSpec.witness6 (enc := enc) (C := Try.checked) false ⟨#[], #[.slice none 0 0], []⟩ 8 (by kernel_rfl) (by kernel_rfl) (by kernel_rfl) (by kernel_rfl)) ?_
  intro W base args ds gs before hval0 hW hcnd _
  have hval : ∀ (j : Nat) t v, Try.f13.params[j]? = some t → args[j]? = some v → Value.okWide Try.prog W .any base t v := hval0
  have hW' := hW
  obtain ⟨p, q, hA0, hV, rfl, hfz, hnd⟩ := hW
  have hA : DataW.TrodAll enc Try.prog W 0 (fun _ => true) true Try.f13.params.toList args.toList ds p := hA0
  rw [Try.params13] at hA hval
  obtain ⟨v0, vs0, d0, ds0, p0, q0, hargs, rfl, rfl, h0, r0⟩ := trodAll_cons hA
  obtain ⟨rfl, rfl, rfl⟩ := trodAll_nil r0
  obtain rfl : args = #[v0] := by cases args; simp_all
  obtain ⟨rfl, rfl⟩ := trodVars_none hV
  have k0 := h0
  have lt0 : ∀ x ∈ p0, x.block < W.heap.size := by obtain ⟨m, hm⟩ := k0; exact DataW.trod_lt m _ _ _ hm
  obtain ⟨y0, w0⟩ := V.open_arg (n := 12) (l := [(.list (.pair (.int .i64) (.pair (.int .i64) (.pair (.int .i64) (.pair (.int .i64) (.int .u64))))))]) (show V.flatT Try.prog 12 78 = some [(.list (.pair (.int .i64) (.pair (.int .i64) (.pair (.int .i64) (.pair (.int .i64) (.int .u64))))))] by kernel_rfl) (List.cons_ne_nil _ _) (hval 0 78 v0 rfl rfl) h0
  rw [show V.isAgg Try.prog 78 = false by kernel_rfl] at w0
  clear hA0 hval0
  refine (sizeEachProved_walk W #[v0] y0 ⟨v0, rfl, w0⟩).mono fun e W' ⟨he, bel⟩ => ?_
  subst he
  exact ⟨_, rfl, _, _, _, [], _, [], hW', trodAll_mk1 (shut_bool Try.underlying4 _), (trodAll_cons_mk (Below.trod sizeEachProved_laid (by kernel_rfl) (of_decide_eq_true (by kernel_rfl)) k0 bel lt0) trodAll_mk0), rfl, bel.frame _, fun h => by cases h⟩

theorem sizeEachProved_over : Rows.sizeEachRow.holds Try.pinned (OpenSpec.ofChange Rows.sizeEachSpec) :=
  OpenClaim.holds_of_wide 13 Try.f13 rfl rfl rfl rfl rfl rfl rfl ⟨rfl, rfl, rfl, rfl, rfl⟩ rfl rfl rfl rfl rfl (by kernel_rfl) Try.func13 (by kernel_rfl)
    (of_decide_eq_true (by kernel_rfl)) (by unfold Func.isWrapper; first | (rw [if_pos (by decide +kernel)]; kernel_rfl) | (rw [if_neg (by decide +kernel)]; exact ⟨rfl, rfl⟩))
    (fun os started H enc _ => sizeEachProved_lifted os started H enc)

theorem sizeEachProved : Rows.SizeEachSaid := sizeEachProved_over
#print axioms sizeEachProved
end Go.Proofs.Ytppoeoleehiemaa
