/- DrivePlaysSaid: what the given statement of that name says: the law returns true at every input, and its arguments read behind the call as they read before. No condition. -/
import Derived.Test.YtbocegmeciaanaaGreatL4
import Derived.Test.YtbocegmeciaanaaGreatP1
import Derived.Test.YtbocegmeciaanaaGreatA6
import Derived.ProofKit
import Derived.OpenShut
import Derived.ShutString
import Derived.ChangeOld
import Derived.Below
namespace Go.Proofs.YtbocegmeciaanaaGreat
open Go.ChangeShapes Go.WideShapes Go.ChangeAt Go.RowKit
set_option linter.unusedVariables false

theorem drivePlaysProved_own : ownKnob Tryz.prog.godebug = none := by kernel_rfl
theorem drivePlaysProved_laid : laidOutB Tryz.prog = true := by kernel_rfl
def drivePlaysProved_ks : List (Bool × V.Sh) := [(true, V.yT [(.int .i64), (.list (.int .u64)), (.list (.int .u64)), (.int .i64), (.list (.pair (.int .i64) (.pair (.int .i64) (.pair (.int .i64) (.pair (.int .i64) (.int .u64)))))), (.int .i64), (.list (.pair (.int .i64) (.pair (.int .i64) (.pair (.int .i64) (.pair (.int .i64) (.int .u64)))))), (.int .i64), (.int .i64)]), (false, V.yT [(.list (.pair (.int .i64) (.int .i64)))])]

set_option maxRecDepth 1000000 in
theorem drivePlaysProved_walk (w : World) (vs : Array Value) (x : V.All drivePlaysProved_ks) (hA : V.bt6 w drivePlaysProved_ks vs.toList x) :
    Calls Tryz.prog 3 vs w fun e w' => e = .returned (.bool true) ∧ Below w.heap.size w w' := by
  obtain ⟨⟨x0_0, x0_1, x0_2, x0_3, x0_4, x0_5, x0_6, x0_7, x0_8⟩, x1⟩ := x
  have hB := hA
  obtain ⟨_, _, _, b0, hB⟩ := hB
  obtain ⟨_, _, b1⟩ := hB
  have f0 := V.aA8.fine b0
  have f1 := V.aA8.fine b1
  refine V.ct4 (vals := V.qO.vals) (run := V.qO.run) V.ax4 (fun h => (h (by kernel_rfl)).elim) drivePlaysProved_ks ((x0_0, x0_1, x0_2, x0_3, x0_4, x0_5, x0_6, x0_7, x0_8), x1) (x0_0, x0_1, x0_2, x0_3, x0_4, x0_5, x0_6, x0_7, x0_8, x1) hA (by kernel_rfl) ?_
  exact V.bN1 (fun v hv => ⟨(f0.2.1.2 v hv).1, Int.lt_of_le_of_lt (f0.2.1.2 v hv).2 (by decide)⟩) (fun v hv => ⟨(f0.2.2.1.2 v hv).1, Int.lt_of_le_of_lt (f0.2.2.1.2 v hv).2 (by decide)⟩) (fun o ho => (f0.2.2.2.2.1.2 o ho).2.2.2.2) (fun o ho => (f0.2.2.2.2.2.2.1.2 o ho).2.2.2.2)

set_option maxRecDepth 1000000 in
theorem drivePlaysProved_lifted (os : Os) (started : os.Started) (H : Type) (enc : TypeId × Value → H) :
    ReturnsInHanded {} Tryz.checked os 3 .any (Rows.drivePlaysSpec.pre6 enc Tryz.prog Tryz.f3 Rows.drivePlaysRow.domain false) (Rows.drivePlaysSpec.post enc Tryz.prog Tryz.f3 false true false false) := by
  refine returnsInHanded_of_change (C := Tryz.checked) drivePlaysProved_own started (by kernel_rfl) Tryz.func3
    (ChangeSpec.witness6 (enc := enc) (C := Tryz.checked) false ⟨#[], #[.agg #[.int .i64 0, .slice none 0 0, .slice none 0 0, .int .i64 0, .slice none 0 0, .int .i64 0, .slice none 0 0, .int .i64 0, .int .i64 0], .slice none 0 0], []⟩ 8 (by kernel_rfl) (by kernel_rfl) (by kernel_rfl) (by kernel_rfl)) ?_
  intro W base args ds gs before hval0 hW hcnd _
  have hval : ∀ (j : Nat) t v, Tryz.f3.params[j]? = some t → args[j]? = some v → Value.okWide Tryz.prog W .any base t v := hval0
  have hW' := hW
  obtain ⟨p, q, hA0, hV, rfl, hfz, hnd⟩ := hW
  have hA : DataW.TrodAll enc Tryz.prog W 0 (fun _ => true) true Tryz.f3.params.toList args.toList ds p := hA0
  rw [Tryz.params3] at hA hval
  obtain ⟨v0, vs0, d0, ds0, p0, q0, hargs, rfl, rfl, h0, r0⟩ := trodAll_cons hA
  obtain ⟨v1, vs1, d1, ds1, p1, q1, rfl, rfl, rfl, h1, r1⟩ := trodAll_cons r0
  obtain ⟨rfl, rfl, rfl⟩ := trodAll_nil r1
  obtain rfl : args = #[v0, v1] := by cases args; simp_all
  obtain ⟨rfl, rfl⟩ := trodVars_none hV
  have k0 := h0
  have lt0 : ∀ x ∈ p0, x.block < W.heap.size := by obtain ⟨m, hm⟩ := k0; exact DataW.trod_lt m _ _ _ hm
  obtain ⟨y0, w0⟩ := V.bO7 (n := 12) (l := [(.int .i64), (.list (.int .u64)), (.list (.int .u64)), (.int .i64), (.list (.pair (.int .i64) (.pair (.int .i64) (.pair (.int .i64) (.pair (.int .i64) (.int .u64)))))), (.int .i64), (.list (.pair (.int .i64) (.pair (.int .i64) (.pair (.int .i64) (.pair (.int .i64) (.int .u64)))))), (.int .i64), (.int .i64)]) (show V.sF Tryz.prog 12 27 = some [(.int .i64), (.list (.int .u64)), (.list (.int .u64)), (.int .i64), (.list (.pair (.int .i64) (.pair (.int .i64) (.pair (.int .i64) (.pair (.int .i64) (.int .u64)))))), (.int .i64), (.list (.pair (.int .i64) (.pair (.int .i64) (.pair (.int .i64) (.pair (.int .i64) (.int .u64)))))), (.int .i64), (.int .i64)] by kernel_rfl) (List.cons_ne_nil _ _) (hval 0 27 v0 rfl rfl) h0
  rw [show V.isAgg Tryz.prog 27 = true by kernel_rfl] at w0
  have k1 := h1
  have lt1 : ∀ x ∈ p1, x.block < W.heap.size := by obtain ⟨m, hm⟩ := k1; exact DataW.trod_lt m _ _ _ hm
  obtain ⟨y1, w1⟩ := V.bO7 (n := 12) (l := [(.list (.pair (.int .i64) (.int .i64)))]) (show V.sF Tryz.prog 12 28 = some [(.list (.pair (.int .i64) (.int .i64)))] by kernel_rfl) (List.cons_ne_nil _ _) (hval 1 28 v1 rfl rfl) h1
  rw [show V.isAgg Tryz.prog 28 = false by kernel_rfl] at w1
  clear hA0 hval0
  refine (drivePlaysProved_walk W #[v0, v1] (y0, y1) ⟨v0, [v1], rfl, w0, ⟨v1, rfl, w1⟩⟩).mono fun e W' ⟨he, bel⟩ => ?_
  subst he
  exact ⟨_, rfl, _, _, _, [], _, [], hW', trodAll_mk1 (shut_bool Tryz.underlying4 _), (trodAll_cons_mk (Below.trod drivePlaysProved_laid (by kernel_rfl) (of_decide_eq_true (by kernel_rfl)) k0 bel lt0) (trodAll_cons_mk (Below.trod drivePlaysProved_laid (by kernel_rfl) (of_decide_eq_true (by kernel_rfl)) k1 bel lt1) trodAll_mk0)), rfl, bel.frame _, fun h => by cases h⟩

theorem drivePlaysProved_named : Tryz.pinned.checked.prog.funcNamed Rows.drivePlaysRow.func = some 3 := by kernel_rfl
theorem drivePlaysProved_and {a b : Bool} (x : a = true) (y : b = true) : (a && b) = true := by rw [x, y]; rfl
set_option maxHeartbeats 40000000 in
theorem drivePlaysProved_facts : joinedFacts Tryz.pinned.checked.prog 3 Tryz.f3 Rows.drivePlaysSpec Rows.drivePlaysRow = true := by
  unfold joinedFacts
  repeat' with_reducible refine drivePlaysProved_and ?_ ?_
  all_goals as_aux_lemma => kernel_rfl
theorem drivePlaysProved_inst : Tryz.f3.isInstance Tryz.pinned.checked.prog Rows.drivePlaysRow.origin Rows.drivePlaysRow.targs := of_decide_eq_true (by kernel_rfl)
theorem drivePlaysProved_wrap : Tryz.f3.isWrapper Tryz.pinned.checked.prog Rows.drivePlaysRow.wrapper Rows.drivePlaysRow.mainSum := by unfold Func.isWrapper; first | (rw [if_pos (by decide +kernel)]; kernel_rfl) | (rw [if_neg (by decide +kernel)]; exact ⟨rfl, rfl⟩)
theorem drivePlaysProved_over : Rows.drivePlaysRow.holds Tryz.pinned (OpenSpec.ofChange Rows.drivePlaysSpec) :=
  OpenClaim.holds_of_wide 3 Tryz.f3 rfl rfl rfl rfl rfl rfl rfl ⟨rfl, rfl, rfl, rfl, rfl⟩ rfl rfl rfl rfl rfl drivePlaysProved_named Tryz.func3 drivePlaysProved_facts
    drivePlaysProved_inst drivePlaysProved_wrap
    (fun os started H enc _ => drivePlaysProved_lifted os started H enc)

theorem drivePlaysProved : Rows.DrivePlaysSaid := drivePlaysProved_over
#print axioms drivePlaysProved
end Go.Proofs.YtbocegmeciaanaaGreat
