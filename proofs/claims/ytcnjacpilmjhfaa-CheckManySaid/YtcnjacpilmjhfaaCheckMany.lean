/- CheckManySaid: what the given statement of that name says: the law returns true at every input, and its arguments read behind the call as they read before. No condition. -/
import Derived.Test.YtcnjacpilmjhfaaL10m
import Derived.Test.YtcnjacpilmjhfaaP10
import Derived.Test.YtcnjacpilmjhfaaV25
import Derived.ProofKit
import Derived.OpenShut
import Derived.ShutString
import Derived.ChangeOld
import Derived.Below
namespace Go.Proofs.Ytcnjacpilmjhfaa
open Go.ChangeShapes Go.WideShapes Go.ChangeAt Go.RowKit
set_option linter.unusedVariables false

theorem checkManyProved_own : ownKnob Try.prog.godebug = none := by kernel_rfl
theorem checkManyProved_laid : laidOutB Try.prog = true := by kernel_rfl
def checkManyProved_ks : List (Bool × V.Sh) := [(false, V.nest [.bool]), (false, V.nest [(.int .u8)])]

theorem checkManyProved_walk (w : World) (vs : Array Value) (x : V.All checkManyProved_ks) (hA : V.ArgsRd w checkManyProved_ks vs.toList x) :
    Calls Try.prog 3 vs w fun e w' => e = .returned (.bool true) ∧ Below w.heap.size w w' := by
  obtain ⟨x0, x1⟩ := x
  have hB := hA
  obtain ⟨_, _, _, b0, hB⟩ := hB
  obtain ⟨_, _, b1⟩ := hB
  have f0 := V.ArgRd.fine b0
  have f1 := V.ArgRd.fine b1
  refine V.law_args (vals := V.F_law10_CheckMany.vals) (run := V.F_law10_CheckMany.run) V.R_law10_CheckMany checkManyProved_ks (x0, x1) (x0, x1) hA (by kernel_rfl) ?_
  exact V.law10_many x0 x1 f0 f1

set_option maxRecDepth 100000 in
theorem checkManyProved_lifted (os : Os) (started : os.Started) (H : Type) (enc : TypeId × Value → H) :
    ReturnsInHanded {} Try.checked os 3 .any (Rows.checkManySpec.pre6 enc Try.prog Try.f3 Rows.checkManyRow.domain false) (Rows.checkManySpec.post enc Try.prog Try.f3 false true false false) := by
  refine returnsInHanded_of_change (C := Try.checked) checkManyProved_own started (by kernel_rfl) Try.func3
    (ChangeSpec.witness6 (enc := enc) (C := Try.checked) false ⟨#[], #[.bool false, .int .u8 0], []⟩ 8 (by kernel_rfl) (by kernel_rfl) (by kernel_rfl) (by kernel_rfl)) ?_
  intro W base args ds gs before hval0 hW hcnd _
  have hval : ∀ (j : Nat) t v, Try.f3.params[j]? = some t → args[j]? = some v → Value.okWide Try.prog W .any base t v := hval0
  have hW' := hW
  obtain ⟨p, q, hA0, hV, rfl, hfz, hnd⟩ := hW
  have hA : DataW.TrodAll enc Try.prog W 0 (fun _ => true) true Try.f3.params.toList args.toList ds p := hA0
  rw [Try.params3] at hA hval
  obtain ⟨v0, vs0, d0, ds0, p0, q0, hargs, rfl, rfl, h0, r0⟩ := trodAll_cons hA
  obtain ⟨v1, vs1, d1, ds1, p1, q1, rfl, rfl, rfl, h1, r1⟩ := trodAll_cons r0
  obtain ⟨rfl, rfl, rfl⟩ := trodAll_nil r1
  obtain rfl : args = #[v0, v1] := by cases args; simp_all
  obtain ⟨rfl, rfl⟩ := trodVars_none hV
  have k0 := h0
  have lt0 : ∀ x ∈ p0, x.block < W.heap.size := by obtain ⟨m, hm⟩ := k0; exact DataW.trod_lt m _ _ _ hm
  obtain ⟨y0, w0⟩ := V.open_arg (n := 12) (l := [.bool]) (show V.flatT Try.prog 12 4 = some [.bool] by kernel_rfl) (List.cons_ne_nil _ _) (hval 0 4 v0 rfl rfl) h0
  rw [show V.isAgg Try.prog 4 = false by kernel_rfl] at w0
  have k1 := h1
  have lt1 : ∀ x ∈ p1, x.block < W.heap.size := by obtain ⟨m, hm⟩ := k1; exact DataW.trod_lt m _ _ _ hm
  obtain ⟨y1, w1⟩ := V.open_arg (n := 12) (l := [(.int .u8)]) (show V.flatT Try.prog 12 5 = some [(.int .u8)] by kernel_rfl) (List.cons_ne_nil _ _) (hval 1 5 v1 rfl rfl) h1
  rw [show V.isAgg Try.prog 5 = false by kernel_rfl] at w1
  clear hA0 hval0
  refine (checkManyProved_walk W #[v0, v1] (y0, y1) ⟨v0, [v1], rfl, w0, ⟨v1, rfl, w1⟩⟩).mono fun e W' ⟨he, bel⟩ => ?_
  subst he
  exact ⟨_, rfl, _, _, _, [], _, [], hW', trodAll_mk1 (shut_bool Try.underlying4 _), (trodAll_cons_mk (Below.trod checkManyProved_laid (by kernel_rfl) (of_decide_eq_true (by kernel_rfl)) k0 bel lt0) (trodAll_cons_mk (Below.trod checkManyProved_laid (by kernel_rfl) (of_decide_eq_true (by kernel_rfl)) k1 bel lt1) trodAll_mk0)), rfl, bel.frame _, fun h => by cases h⟩

theorem checkManyProved_over : Rows.checkManyRow.holds Try.pinned (OpenSpec.ofChange Rows.checkManySpec) :=
  OpenClaim.holds_of_wide 3 Try.f3 rfl rfl rfl rfl rfl rfl rfl ⟨rfl, rfl, rfl, rfl, rfl⟩ rfl rfl rfl rfl rfl (by kernel_rfl) Try.func3 (by kernel_rfl)
    (of_decide_eq_true (by kernel_rfl)) (by unfold Func.isWrapper; first | (rw [if_pos (by decide +kernel)]; kernel_rfl) | (rw [if_neg (by decide +kernel)]; exact ⟨rfl, rfl⟩))
    (fun os started H enc _ => checkManyProved_lifted os started H enc)

theorem checkManyProved : Rows.CheckManySaid := checkManyProved_over
#print axioms checkManyProved
end Go.Proofs.Ytcnjacpilmjhfaa
