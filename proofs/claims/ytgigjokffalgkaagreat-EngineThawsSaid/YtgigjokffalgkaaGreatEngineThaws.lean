/- EngineThawsSaid: what the given statement of that name says: the law returns true at every input, and its arguments read behind the call as they read before. No condition. -/
import Derived.Test.YtgigjokffalgkaaGreatL4
import Derived.Test.YtgigjokffalgkaaGreatP1
import Derived.Test.YtgigjokffalgkaaGreatA6
import Derived.ProofKit
import Derived.OpenShut
import Derived.ShutString
import Derived.ChangeOld
import Derived.Below
namespace Go.Proofs.YtgigjokffalgkaaGreat
open Go.ChangeShapes Go.WideShapes Go.ChangeAt Go.RowKit
set_option linter.unusedVariables false

theorem engineThawsProved_own : ownKnob Tryz.prog.godebug = none := by kernel_rfl
theorem engineThawsProved_laid : laidOutB Tryz.prog = true := by kernel_rfl
def engineThawsProved_ks : List (Bool × V.Sh) := [(true, V.zd [(.int .i64), (.list (.int .u64)), (.list (.int .u64)), (.int .i64), (.list (.pair (.int .i64) (.pair (.int .i64) (.pair (.int .i64) (.pair (.int .i64) (.int .u64)))))), (.int .i64), (.list (.pair (.int .i64) (.pair (.int .i64) (.pair (.int .i64) (.pair (.int .i64) (.int .u64)))))), (.int .i64), (.int .i64)]), (false, V.zd [(.list (.int .u8))]), (false, V.zd [(.int .i64)]), (false, V.zd [(.int .u64)])]

set_option maxRecDepth 1000000 in
theorem engineThawsProved_walk (w : World) (vs : Array Value) (x : V.All engineThawsProved_ks) (hA : V.bN9 w engineThawsProved_ks vs.toList x) :
    Calls Tryz.prog 3 vs w fun e w' => e = .returned (.bool true) ∧ Below w.heap.size w w' := by
  obtain ⟨⟨x0_0, x0_1, x0_2, x0_3, x0_4, x0_5, x0_6, x0_7, x0_8⟩, x1, x2, x3⟩ := x
  have hB := hA
  obtain ⟨_, _, _, b0, hB⟩ := hB
  obtain ⟨_, _, _, b1, hB⟩ := hB
  obtain ⟨_, _, _, b2, hB⟩ := hB
  obtain ⟨_, _, b3⟩ := hB
  have f0 := V.as9.fine b0
  have f1 := V.as9.fine b1
  have f2 := V.as9.fine b2
  have f3 := V.as9.fine b3
  refine V.cT5 (vals := V.qm.vals) (run := V.qm.run) V.aG7 (fun h => (h (by kernel_rfl)).elim) engineThawsProved_ks ((x0_0, x0_1, x0_2, x0_3, x0_4, x0_5, x0_6, x0_7, x0_8), x1, x2, x3) (x0_0, x0_1, x0_2, x0_3, x0_4, x0_5, x0_6, x0_7, x0_8, x1, x2, x3) hA (by kernel_rfl) ?_
  exact V.cm4 (fun v hv => ⟨(f0.2.1.2 v hv).1, Int.lt_of_le_of_lt (f0.2.1.2 v hv).2 (by decide)⟩) (fun v hv => ⟨(f0.2.2.1.2 v hv).1, Int.lt_of_le_of_lt (f0.2.2.1.2 v hv).2 (by decide)⟩) (fun o ho => (f0.2.2.2.2.1.2 o ho).2.2.2.2) (fun o ho => (f0.2.2.2.2.2.2.1.2 o ho).2.2.2.2) ⟨f3.1, Int.lt_of_le_of_lt f3.2 (by decide)⟩

set_option maxRecDepth 1000000 in
theorem engineThawsProved_lifted (os : Os) (started : os.Started) (H : Type) (enc : TypeId × Value → H) :
    ReturnsInHanded {} Tryz.checked os 3 .any (Rows.engineThawsSpec.pre6 enc Tryz.prog Tryz.f3 Rows.engineThawsRow.domain false) (Rows.engineThawsSpec.post enc Tryz.prog Tryz.f3 false true false false) := by
  refine returnsInHanded_of_change (C := Tryz.checked) engineThawsProved_own started (by kernel_rfl) Tryz.func3
    (ChangeSpec.witness6 (enc := enc) (C := Tryz.checked) false ⟨#[], #[.agg #[.int .i64 0, .slice none 0 0, .slice none 0 0, .int .i64 0, .slice none 0 0, .int .i64 0, .slice none 0 0, .int .i64 0, .int .i64 0], .slice none 0 0, .int .i64 0, .int .u64 0], []⟩ 8 (by kernel_rfl) (by kernel_rfl) (by kernel_rfl) (by kernel_rfl)) ?_
  intro W base args ds gs before hval0 hW hcnd _
  have hval : ∀ (j : Nat) t v, Tryz.f3.params[j]? = some t → args[j]? = some v → Value.okWide Tryz.prog W .any base t v := hval0
  have hW' := hW
  obtain ⟨p, q, hA0, hV, rfl, hfz, hnd⟩ := hW
  have hA : DataW.TrodAll enc Tryz.prog W 0 (fun _ => true) true Tryz.f3.params.toList args.toList ds p := hA0
  rw [Tryz.params3] at hA hval
  obtain ⟨v0, vs0, d0, ds0, p0, q0, hargs, rfl, rfl, h0, r0⟩ := trodAll_cons hA
  obtain ⟨v1, vs1, d1, ds1, p1, q1, rfl, rfl, rfl, h1, r1⟩ := trodAll_cons r0
  obtain ⟨v2, vs2, d2, ds2, p2, q2, rfl, rfl, rfl, h2, r2⟩ := trodAll_cons r1
  obtain ⟨v3, vs3, d3, ds3, p3, q3, rfl, rfl, rfl, h3, r3⟩ := trodAll_cons r2
  obtain ⟨rfl, rfl, rfl⟩ := trodAll_nil r3
  obtain rfl : args = #[v0, v1, v2, v3] := by cases args; simp_all
  obtain ⟨rfl, rfl⟩ := trodVars_none hV
  have k0 := h0
  have lt0 : ∀ x ∈ p0, x.block < W.heap.size := by obtain ⟨m, hm⟩ := k0; exact DataW.trod_lt m _ _ _ hm
  obtain ⟨y0, w0⟩ := V.aU1 (n := 12) (l := [(.int .i64), (.list (.int .u64)), (.list (.int .u64)), (.int .i64), (.list (.pair (.int .i64) (.pair (.int .i64) (.pair (.int .i64) (.pair (.int .i64) (.int .u64)))))), (.int .i64), (.list (.pair (.int .i64) (.pair (.int .i64) (.pair (.int .i64) (.pair (.int .i64) (.int .u64)))))), (.int .i64), (.int .i64)]) (show V.qH Tryz.prog 12 27 = some [(.int .i64), (.list (.int .u64)), (.list (.int .u64)), (.int .i64), (.list (.pair (.int .i64) (.pair (.int .i64) (.pair (.int .i64) (.pair (.int .i64) (.int .u64)))))), (.int .i64), (.list (.pair (.int .i64) (.pair (.int .i64) (.pair (.int .i64) (.pair (.int .i64) (.int .u64)))))), (.int .i64), (.int .i64)] by kernel_rfl) (List.cons_ne_nil _ _) (hval 0 27 v0 rfl rfl) h0
  rw [show V.isAgg Tryz.prog 27 = true by kernel_rfl] at w0
  have k1 := h1
  have lt1 : ∀ x ∈ p1, x.block < W.heap.size := by obtain ⟨m, hm⟩ := k1; exact DataW.trod_lt m _ _ _ hm
  obtain ⟨y1, w1⟩ := V.aU1 (n := 12) (l := [(.list (.int .u8))]) (show V.qH Tryz.prog 12 28 = some [(.list (.int .u8))] by kernel_rfl) (List.cons_ne_nil _ _) (hval 1 28 v1 rfl rfl) h1
  rw [show V.isAgg Tryz.prog 28 = false by kernel_rfl] at w1
  have k2 := h2
  have lt2 : ∀ x ∈ p2, x.block < W.heap.size := by obtain ⟨m, hm⟩ := k2; exact DataW.trod_lt m _ _ _ hm
  obtain ⟨y2, w2⟩ := V.aU1 (n := 12) (l := [(.int .i64)]) (show V.qH Tryz.prog 12 3 = some [(.int .i64)] by kernel_rfl) (List.cons_ne_nil _ _) (hval 2 3 v2 rfl rfl) h2
  rw [show V.isAgg Tryz.prog 3 = false by kernel_rfl] at w2
  have k3 := h3
  have lt3 : ∀ x ∈ p3, x.block < W.heap.size := by obtain ⟨m, hm⟩ := k3; exact DataW.trod_lt m _ _ _ hm
  obtain ⟨y3, w3⟩ := V.aU1 (n := 12) (l := [(.int .u64)]) (show V.qH Tryz.prog 12 29 = some [(.int .u64)] by kernel_rfl) (List.cons_ne_nil _ _) (hval 3 29 v3 rfl rfl) h3
  rw [show V.isAgg Tryz.prog 29 = false by kernel_rfl] at w3
  clear hA0 hval0
  refine (engineThawsProved_walk W #[v0, v1, v2, v3] (y0, y1, y2, y3) ⟨v0, [v1, v2, v3], rfl, w0, ⟨v1, [v2, v3], rfl, w1, ⟨v2, [v3], rfl, w2, ⟨v3, rfl, w3⟩⟩⟩⟩).mono fun e W' ⟨he, bel⟩ => ?_
  subst he
  exact ⟨_, rfl, _, _, _, [], _, [], hW', trodAll_mk1 (shut_bool Tryz.underlying4 _), (trodAll_cons_mk (Below.trod engineThawsProved_laid (by kernel_rfl) (of_decide_eq_true (by kernel_rfl)) k0 bel lt0) (trodAll_cons_mk (Below.trod engineThawsProved_laid (by kernel_rfl) (of_decide_eq_true (by kernel_rfl)) k1 bel lt1) (trodAll_cons_mk (Below.trod engineThawsProved_laid (by kernel_rfl) (of_decide_eq_true (by kernel_rfl)) k2 bel lt2) (trodAll_cons_mk (Below.trod engineThawsProved_laid (by kernel_rfl) (of_decide_eq_true (by kernel_rfl)) k3 bel lt3) trodAll_mk0)))), rfl, bel.frame _, fun h => by cases h⟩

theorem engineThawsProved_named : Tryz.pinned.checked.prog.funcNamed Rows.engineThawsRow.func = some 3 := by kernel_rfl
theorem engineThawsProved_and {a b : Bool} (x : a = true) (y : b = true) : (a && b) = true := by rw [x, y]; rfl
set_option maxHeartbeats 40000000 in
theorem engineThawsProved_facts : joinedFacts Tryz.pinned.checked.prog 3 Tryz.f3 Rows.engineThawsSpec Rows.engineThawsRow = true := by
  unfold joinedFacts
  repeat' with_reducible refine engineThawsProved_and ?_ ?_
  all_goals as_aux_lemma => kernel_rfl
theorem engineThawsProved_inst : Tryz.f3.isInstance Tryz.pinned.checked.prog Rows.engineThawsRow.origin Rows.engineThawsRow.targs := of_decide_eq_true (by kernel_rfl)
theorem engineThawsProved_wrap : Tryz.f3.isWrapper Tryz.pinned.checked.prog Rows.engineThawsRow.wrapper Rows.engineThawsRow.mainSum := by unfold Func.isWrapper; first | (rw [if_pos (by decide +kernel)]; kernel_rfl) | (rw [if_neg (by decide +kernel)]; exact ⟨rfl, rfl⟩)
theorem engineThawsProved_over : Rows.engineThawsRow.holds Tryz.pinned (OpenSpec.ofChange Rows.engineThawsSpec) :=
  OpenClaim.holds_of_wide 3 Tryz.f3 rfl rfl rfl rfl rfl rfl rfl ⟨rfl, rfl, rfl, rfl, rfl⟩ rfl rfl rfl rfl rfl engineThawsProved_named Tryz.func3 engineThawsProved_facts
    engineThawsProved_inst engineThawsProved_wrap
    (fun os started H enc _ => engineThawsProved_lifted os started H enc)

theorem engineThawsProved : Rows.EngineThawsSaid := engineThawsProved_over
#print axioms engineThawsProved
end Go.Proofs.YtgigjokffalgkaaGreat
