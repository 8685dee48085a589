/- DriveOnSaid: what the given statement of that name says: the law returns true at every input, and its arguments read behind the call as they read before. No condition. -/
import Derived.Test.YtbocegmeciaanaaGreatL3
import Derived.Test.YtbocegmeciaanaaGreatP1
import Derived.Test.YtbocegmeciaanaaGreatA6
import Derived.ProofKit
import Derived.OpenShut
import Derived.ShutString
import Derived.ChangeOld
import Derived.Below
namespace Go.Proofs.YtbocegmeciaanaaGreat
open Go.ChangeShapes Go.WideShapes Go.ChangeAt Go.RowKit
set_option linter.unusedVariables false

theorem driveOnProved_own : ownKnob Tryz.prog.godebug = none := by kernel_rfl
theorem driveOnProved_laid : laidOutB Tryz.prog = true := by kernel_rfl
def driveOnProved_ks : List (Bool × V.Sh) := [(true, V.yJ [(.int .i64), (.list (.int .u64)), (.list (.int .u64)), (.int .i64), (.list (.pair (.int .i64) (.pair (.int .i64) (.pair (.int .i64) (.pair (.int .i64) (.int .u64)))))), (.int .i64), (.list (.pair (.int .i64) (.pair (.int .i64) (.pair (.int .i64) (.pair (.int .i64) (.int .u64)))))), (.int .i64), (.int .i64)]), (false, V.yJ [(.list (.pair (.int .i64) (.int .i64)))]), (false, V.yJ [(.int .i64)])]

set_option maxRecDepth 1000000 in
theorem driveOnProved_walk (w : World) (vs : Array Value) (x : V.All driveOnProved_ks) (hA : V.bj7 w driveOnProved_ks vs.toList x) :
    Calls Tryz.prog 5 vs w fun e w' => e = .returned (.bool true) ∧ Below w.heap.size w w' := by
  obtain ⟨⟨x0_0, x0_1, x0_2, x0_3, x0_4, x0_5, x0_6, x0_7, x0_8⟩, x1, x2⟩ := x
  have hB := hA
  obtain ⟨_, _, _, b0, hB⟩ := hB
  obtain ⟨_, _, _, b1, hB⟩ := hB
  obtain ⟨_, _, b2⟩ := hB
  have f0 := V.av5.fine b0
  have f1 := V.av5.fine b1
  have f2 := V.av5.fine b2
  refine V.ca3 (vals := V.vC.vals) (run := V.vC.run) V.aO1 (fun h => (h (by kernel_rfl)).elim) driveOnProved_ks ((x0_0, x0_1, x0_2, x0_3, x0_4, x0_5, x0_6, x0_7, x0_8), x1, x2) (x0_0, x0_1, x0_2, x0_3, x0_4, x0_5, x0_6, x0_7, x0_8, x1, x2) hA (by kernel_rfl) ?_
  exact V.ca2 (fun o ho => (f0.2.2.2.2.1.2 o ho).2.2.2.2) (fun o ho => (f0.2.2.2.2.2.2.1.2 o ho).2.2.2.2)

set_option maxRecDepth 1000000 in
theorem driveOnProved_lifted (os : Os) (started : os.Started) (H : Type) (enc : TypeId × Value → H) :
    ReturnsInHanded {} Tryz.checked os 5 .any (Rows.driveOnSpec.pre6 enc Tryz.prog Tryz.f5 Rows.driveOnRow.domain false) (Rows.driveOnSpec.post enc Tryz.prog Tryz.f5 false true false false) := by
  refine returnsInHanded_of_change (C := Tryz.checked) driveOnProved_own started (by kernel_rfl) Tryz.func5
    (ChangeSpec.witness6 (enc := enc) (C := Tryz.checked) false ⟨#[], #[.agg #[.int .i64 0, .slice none 0 0, .slice none 0 0, .int .i64 0, .slice none 0 0, .int .i64 0, .slice none 0 0, .int .i64 0, .int .i64 0], .slice none 0 0, .int .i64 0], []⟩ 8 (by kernel_rfl) (by kernel_rfl) (by kernel_rfl) (by kernel_rfl)) ?_
  intro W base args ds gs before hval0 hW hcnd _
  have hval : ∀ (j : Nat) t v, Tryz.f5.params[j]? = some t → args[j]? = some v → Value.okWide Tryz.prog W .any base t v := hval0
  have hW' := hW
  obtain ⟨p, q, hA0, hV, rfl, hfz, hnd⟩ := hW
  have hA : DataW.TrodAll enc Tryz.prog W 0 (fun _ => true) true Tryz.f5.params.toList args.toList ds p := hA0
  rw [Tryz.params5] at hA hval
  obtain ⟨v0, vs0, d0, ds0, p0, q0, hargs, rfl, rfl, h0, r0⟩ := trodAll_cons hA
  obtain ⟨v1, vs1, d1, ds1, p1, q1, rfl, rfl, rfl, h1, r1⟩ := trodAll_cons r0
  obtain ⟨v2, vs2, d2, ds2, p2, q2, rfl, rfl, rfl, h2, r2⟩ := trodAll_cons r1
  obtain ⟨rfl, rfl, rfl⟩ := trodAll_nil r2
  obtain rfl : args = #[v0, v1, v2] := by cases args; simp_all
  obtain ⟨rfl, rfl⟩ := trodVars_none hV
  have k0 := h0
  have lt0 : ∀ x ∈ p0, x.block < W.heap.size := by obtain ⟨m, hm⟩ := k0; exact DataW.trod_lt m _ _ _ hm
  obtain ⟨y0, w0⟩ := V.aX9 (n := 12) (l := [(.int .i64), (.list (.int .u64)), (.list (.int .u64)), (.int .i64), (.list (.pair (.int .i64) (.pair (.int .i64) (.pair (.int .i64) (.pair (.int .i64) (.int .u64)))))), (.int .i64), (.list (.pair (.int .i64) (.pair (.int .i64) (.pair (.int .i64) (.pair (.int .i64) (.int .u64)))))), (.int .i64), (.int .i64)]) (show V.sZ Tryz.prog 12 27 = some [(.int .i64), (.list (.int .u64)), (.list (.int .u64)), (.int .i64), (.list (.pair (.int .i64) (.pair (.int .i64) (.pair (.int .i64) (.pair (.int .i64) (.int .u64)))))), (.int .i64), (.list (.pair (.int .i64) (.pair (.int .i64) (.pair (.int .i64) (.pair (.int .i64) (.int .u64)))))), (.int .i64), (.int .i64)] by kernel_rfl) (List.cons_ne_nil _ _) (hval 0 27 v0 rfl rfl) h0
  rw [show V.isAgg Tryz.prog 27 = true by kernel_rfl] at w0
  have k1 := h1
  have lt1 : ∀ x ∈ p1, x.block < W.heap.size := by obtain ⟨m, hm⟩ := k1; exact DataW.trod_lt m _ _ _ hm
  obtain ⟨y1, w1⟩ := V.aX9 (n := 12) (l := [(.list (.pair (.int .i64) (.int .i64)))]) (show V.sZ Tryz.prog 12 28 = some [(.list (.pair (.int .i64) (.int .i64)))] by kernel_rfl) (List.cons_ne_nil _ _) (hval 1 28 v1 rfl rfl) h1
  rw [show V.isAgg Tryz.prog 28 = false by kernel_rfl] at w1
  have k2 := h2
  have lt2 : ∀ x ∈ p2, x.block < W.heap.size := by obtain ⟨m, hm⟩ := k2; exact DataW.trod_lt m _ _ _ hm
  obtain ⟨y2, w2⟩ := V.aX9 (n := 12) (l := [(.int .i64)]) (show V.sZ Tryz.prog 12 3 = some [(.int .i64)] by kernel_rfl) (List.cons_ne_nil _ _) (hval 2 3 v2 rfl rfl) h2
  rw [show V.isAgg Tryz.prog 3 = false by kernel_rfl] at w2
  clear hA0 hval0
  refine (driveOnProved_walk W #[v0, v1, v2] (y0, y1, y2) ⟨v0, [v1, v2], rfl, w0, ⟨v1, [v2], rfl, w1, ⟨v2, rfl, w2⟩⟩⟩).mono fun e W' ⟨he, bel⟩ => ?_
  subst he
  exact ⟨_, rfl, _, _, _, [], _, [], hW', trodAll_mk1 (shut_bool Tryz.underlying4 _), (trodAll_cons_mk (Below.trod driveOnProved_laid (by kernel_rfl) (of_decide_eq_true (by kernel_rfl)) k0 bel lt0) (trodAll_cons_mk (Below.trod driveOnProved_laid (by kernel_rfl) (of_decide_eq_true (by kernel_rfl)) k1 bel lt1) (trodAll_cons_mk (Below.trod driveOnProved_laid (by kernel_rfl) (of_decide_eq_true (by kernel_rfl)) k2 bel lt2) trodAll_mk0))), rfl, bel.frame _, fun h => by cases h⟩

theorem driveOnProved_named : Tryz.pinned.checked.prog.funcNamed Rows.driveOnRow.func = some 5 := by kernel_rfl
theorem driveOnProved_facts : joinedFacts Tryz.pinned.checked.prog 5 Tryz.f5 Rows.driveOnSpec Rows.driveOnRow = true := by kernel_rfl
theorem driveOnProved_inst : Tryz.f5.isInstance Tryz.pinned.checked.prog Rows.driveOnRow.origin Rows.driveOnRow.targs := of_decide_eq_true (by kernel_rfl)
theorem driveOnProved_wrap : Tryz.f5.isWrapper Tryz.pinned.checked.prog Rows.driveOnRow.wrapper Rows.driveOnRow.mainSum := by unfold Func.isWrapper; first | (rw [if_pos (by decide +kernel)]; kernel_rfl) | (rw [if_neg (by decide +kernel)]; exact ⟨rfl, rfl⟩)
theorem driveOnProved_over : Rows.driveOnRow.holds Tryz.pinned (OpenSpec.ofChange Rows.driveOnSpec) :=
  OpenClaim.holds_of_wide 5 Tryz.f5 rfl rfl rfl rfl rfl rfl rfl ⟨rfl, rfl, rfl, rfl, rfl⟩ rfl rfl rfl rfl rfl driveOnProved_named Tryz.func5 driveOnProved_facts
    driveOnProved_inst driveOnProved_wrap
    (fun os started H enc _ => driveOnProved_lifted os started H enc)

theorem driveOnProved : Rows.DriveOnSaid := driveOnProved_over
#print axioms driveOnProved
end Go.Proofs.YtbocegmeciaanaaGreat
