/- DriveAgainSaid: what the given statement of that name says: the law returns true at every input, and its arguments read behind the call as they read before. No condition. -/
import Derived.Test.YtbocegmeciaanaaGreatL4
import Derived.Test.YtbocegmeciaanaaGreatP1
import Derived.Test.YtbocegmeciaanaaGreatA6
import Derived.ProofKit
import Derived.OpenShut
import Derived.ShutString
import Derived.ChangeOld
import Derived.Below
namespace Go.Proofs.YtbocegmeciaanaaGreat
open Go.ChangeShapes Go.WideShapes Go.ChangeAt Go.RowKit
set_option linter.unusedVariables false

theorem driveAgainProved_own : ownKnob Tryz.prog.godebug = none := by kernel_rfl
theorem driveAgainProved_laid : laidOutB Tryz.prog = true := by kernel_rfl
def driveAgainProved_ks : List (Bool × V.Sh) := [(true, V.vW [(.int .i64), (.list (.int .u64)), (.list (.int .u64)), (.int .i64), (.list (.pair (.int .i64) (.pair (.int .i64) (.pair (.int .i64) (.pair (.int .i64) (.int .u64)))))), (.int .i64), (.list (.pair (.int .i64) (.pair (.int .i64) (.pair (.int .i64) (.pair (.int .i64) (.int .u64)))))), (.int .i64), (.int .i64)]), (false, V.vW [(.list (.pair (.int .i64) (.int .i64)))]), (false, V.vW [(.int .i64)]), (false, V.vW [(.int .u64)]), (false, V.vW [(.int .i64)]), (false, V.vW [(.int .u64)])]

set_option maxRecDepth 1000000 in
theorem driveAgainProved_walk (w : World) (vs : Array Value) (x : V.All driveAgainProved_ks) (hA : V.bw4 w driveAgainProved_ks vs.toList x) :
    Calls Tryz.prog 4 vs w fun e w' => e = .returned (.bool true) ∧ Below w.heap.size w w' := by
  obtain ⟨⟨x0_0, x0_1, x0_2, x0_3, x0_4, x0_5, x0_6, x0_7, x0_8⟩, x1, x2, x3, x4, x5⟩ := x
  have hB := hA
  obtain ⟨_, _, _, b0, hB⟩ := hB
  obtain ⟨_, _, _, b1, hB⟩ := hB
  obtain ⟨_, _, _, b2, hB⟩ := hB
  obtain ⟨_, _, _, b3, hB⟩ := hB
  obtain ⟨_, _, _, b4, hB⟩ := hB
  obtain ⟨_, _, b5⟩ := hB
  have f0 := V.yQ.fine b0
  have f1 := V.yQ.fine b1
  have f2 := V.yQ.fine b2
  have f3 := V.yQ.fine b3
  have f4 := V.yQ.fine b4
  have f5 := V.yQ.fine b5
  refine V.cx4 (vals := V.qK.vals) (run := V.qK.run) V.aA1 (fun h => (h (by kernel_rfl)).elim) driveAgainProved_ks ((x0_0, x0_1, x0_2, x0_3, x0_4, x0_5, x0_6, x0_7, x0_8), x1, x2, x3, x4, x5) (x0_0, x0_1, x0_2, x0_3, x0_4, x0_5, x0_6, x0_7, x0_8, x1, x2, x3, x4, x5) hA (by kernel_rfl) ?_
  exact V.bQ7 (fun v hv => ⟨(f0.2.1.2 v hv).1, Int.lt_of_le_of_lt (f0.2.1.2 v hv).2 (by decide)⟩) (fun v hv => ⟨(f0.2.2.1.2 v hv).1, Int.lt_of_le_of_lt (f0.2.2.1.2 v hv).2 (by decide)⟩) (fun o ho => (f0.2.2.2.2.1.2 o ho).2.2.2.2) (fun o ho => (f0.2.2.2.2.2.2.1.2 o ho).2.2.2.2) ⟨f3.1, Int.lt_of_le_of_lt f3.2 (by decide)⟩ ⟨f5.1, Int.lt_of_le_of_lt f5.2 (by decide)⟩

set_option maxRecDepth 1000000 in
theorem driveAgainProved_lifted (os : Os) (started : os.Started) (H : Type) (enc : TypeId × Value → H) :
    ReturnsInHanded {} Tryz.checked os 4 .any (Rows.driveAgainSpec.pre6 enc Tryz.prog Tryz.f4 Rows.driveAgainRow.domain false) (Rows.driveAgainSpec.post enc Tryz.prog Tryz.f4 false true false false) := by
  refine returnsInHanded_of_change (C := Tryz.checked) driveAgainProved_own started (by kernel_rfl) Tryz.func4
    (ChangeSpec.witness6 (enc := enc) (C := Tryz.checked) false ⟨#[], #[.agg #[.int .i64 0, .slice none 0 0, .slice none 0 0, .int .i64 0, .slice none 0 0, .int .i64 0, .slice none 0 0, .int .i64 0, .int .i64 0], .slice none 0 0, .int .i64 0, .int .u64 0, .int .i64 0, .int .u64 0], []⟩ 8 (by kernel_rfl) (by kernel_rfl) (by kernel_rfl) (by kernel_rfl)) ?_
  intro W base args ds gs before hval0 hW hcnd _
  have hval : ∀ (j : Nat) t v, Tryz.f4.params[j]? = some t → args[j]? = some v → Value.okWide Tryz.prog W .any base t v := hval0
  have hW' := hW
  obtain ⟨p, q, hA0, hV, rfl, hfz, hnd⟩ := hW
  have hA : DataW.TrodAll enc Tryz.prog W 0 (fun _ => true) true Tryz.f4.params.toList args.toList ds p := hA0
  rw [Tryz.params4] at hA hval
  obtain ⟨v0, vs0, d0, ds0, p0, q0, hargs, rfl, rfl, h0, r0⟩ := trodAll_cons hA
  obtain ⟨v1, vs1, d1, ds1, p1, q1, rfl, rfl, rfl, h1, r1⟩ := trodAll_cons r0
  obtain ⟨v2, vs2, d2, ds2, p2, q2, rfl, rfl, rfl, h2, r2⟩ := trodAll_cons r1
  obtain ⟨v3, vs3, d3, ds3, p3, q3, rfl, rfl, rfl, h3, r3⟩ := trodAll_cons r2
  obtain ⟨v4, vs4, d4, ds4, p4, q4, rfl, rfl, rfl, h4, r4⟩ := trodAll_cons r3
  obtain ⟨v5, vs5, d5, ds5, p5, q5, rfl, rfl, rfl, h5, r5⟩ := trodAll_cons r4
  obtain ⟨rfl, rfl, rfl⟩ := trodAll_nil r5
  obtain rfl : args = #[v0, v1, v2, v3, v4, v5] := by cases args; simp_all
  obtain ⟨rfl, rfl⟩ := trodVars_none hV
  have k0 := h0
  have lt0 : ∀ x ∈ p0, x.block < W.heap.size := by obtain ⟨m, hm⟩ := k0; exact DataW.trod_lt m _ _ _ hm
  obtain ⟨y0, w0⟩ := V.zx (n := 12) (l := [(.int .i64), (.list (.int .u64)), (.list (.int .u64)), (.int .i64), (.list (.pair (.int .i64) (.pair (.int .i64) (.pair (.int .i64) (.pair (.int .i64) (.int .u64)))))), (.int .i64), (.list (.pair (.int .i64) (.pair (.int .i64) (.pair (.int .i64) (.pair (.int .i64) (.int .u64)))))), (.int .i64), (.int .i64)]) (show V.pg Tryz.prog 12 27 = some [(.int .i64), (.list (.int .u64)), (.list (.int .u64)), (.int .i64), (.list (.pair (.int .i64) (.pair (.int .i64) (.pair (.int .i64) (.pair (.int .i64) (.int .u64)))))), (.int .i64), (.list (.pair (.int .i64) (.pair (.int .i64) (.pair (.int .i64) (.pair (.int .i64) (.int .u64)))))), (.int .i64), (.int .i64)] by kernel_rfl) (List.cons_ne_nil _ _) (hval 0 27 v0 rfl rfl) h0
  rw [show V.isAgg Tryz.prog 27 = true by kernel_rfl] at w0
  have k1 := h1
  have lt1 : ∀ x ∈ p1, x.block < W.heap.size := by obtain ⟨m, hm⟩ := k1; exact DataW.trod_lt m _ _ _ hm
  obtain ⟨y1, w1⟩ := V.zx (n := 12) (l := [(.list (.pair (.int .i64) (.int .i64)))]) (show V.pg Tryz.prog 12 28 = some [(.list (.pair (.int .i64) (.int .i64)))] by kernel_rfl) (List.cons_ne_nil _ _) (hval 1 28 v1 rfl rfl) h1
  rw [show V.isAgg Tryz.prog 28 = false by kernel_rfl] at w1
  have k2 := h2
  have lt2 : ∀ x ∈ p2, x.block < W.heap.size := by obtain ⟨m, hm⟩ := k2; exact DataW.trod_lt m _ _ _ hm
  obtain ⟨y2, w2⟩ := V.zx (n := 12) (l := [(.int .i64)]) (show V.pg Tryz.prog 12 3 = some [(.int .i64)] by kernel_rfl) (List.cons_ne_nil _ _) (hval 2 3 v2 rfl rfl) h2
  rw [show V.isAgg Tryz.prog 3 = false by kernel_rfl] at w2
  have k3 := h3
  have lt3 : ∀ x ∈ p3, x.block < W.heap.size := by obtain ⟨m, hm⟩ := k3; exact DataW.trod_lt m _ _ _ hm
  obtain ⟨y3, w3⟩ := V.zx (n := 12) (l := [(.int .u64)]) (show V.pg Tryz.prog 12 43 = some [(.int .u64)] by kernel_rfl) (List.cons_ne_nil _ _) (hval 3 43 v3 rfl rfl) h3
  rw [show V.isAgg Tryz.prog 43 = false by kernel_rfl] at w3
  have k4 := h4
  have lt4 : ∀ x ∈ p4, x.block < W.heap.size := by obtain ⟨m, hm⟩ := k4; exact DataW.trod_lt m _ _ _ hm
  obtain ⟨y4, w4⟩ := V.zx (n := 12) (l := [(.int .i64)]) (show V.pg Tryz.prog 12 3 = some [(.int .i64)] by kernel_rfl) (List.cons_ne_nil _ _) (hval 4 3 v4 rfl rfl) h4
  rw [show V.isAgg Tryz.prog 3 = false by kernel_rfl] at w4
  have k5 := h5
  have lt5 : ∀ x ∈ p5, x.block < W.heap.size := by obtain ⟨m, hm⟩ := k5; exact DataW.trod_lt m _ _ _ hm
  obtain ⟨y5, w5⟩ := V.zx (n := 12) (l := [(.int .u64)]) (show V.pg Tryz.prog 12 43 = some [(.int .u64)] by kernel_rfl) (List.cons_ne_nil _ _) (hval 5 43 v5 rfl rfl) h5
  rw [show V.isAgg Tryz.prog 43 = false by kernel_rfl] at w5
  clear hA0 hval0
  refine (driveAgainProved_walk W #[v0, v1, v2, v3, v4, v5] (y0, y1, y2, y3, y4, y5) ⟨v0, [v1, v2, v3, v4, v5], rfl, w0, ⟨v1, [v2, v3, v4, v5], rfl, w1, ⟨v2, [v3, v4, v5], rfl, w2, ⟨v3, [v4, v5], rfl, w3, ⟨v4, [v5], rfl, w4, ⟨v5, rfl, w5⟩⟩⟩⟩⟩⟩).mono fun e W' ⟨he, bel⟩ => ?_
  subst he
  exact ⟨_, rfl, _, _, _, [], _, [], hW', trodAll_mk1 (shut_bool Tryz.underlying4 _), (trodAll_cons_mk (Below.trod driveAgainProved_laid (by kernel_rfl) (of_decide_eq_true (by kernel_rfl)) k0 bel lt0) (trodAll_cons_mk (Below.trod driveAgainProved_laid (by kernel_rfl) (of_decide_eq_true (by kernel_rfl)) k1 bel lt1) (trodAll_cons_mk (Below.trod driveAgainProved_laid (by kernel_rfl) (of_decide_eq_true (by kernel_rfl)) k2 bel lt2) (trodAll_cons_mk (Below.trod driveAgainProved_laid (by kernel_rfl) (of_decide_eq_true (by kernel_rfl)) k3 bel lt3) (trodAll_cons_mk (Below.trod driveAgainProved_laid (by kernel_rfl) (of_decide_eq_true (by kernel_rfl)) k4 bel lt4) (trodAll_cons_mk (Below.trod driveAgainProved_laid (by kernel_rfl) (of_decide_eq_true (by kernel_rfl)) k5 bel lt5) trodAll_mk0)))))), rfl, bel.frame _, fun h => by cases h⟩

theorem driveAgainProved_named : Tryz.pinned.checked.prog.funcNamed Rows.driveAgainRow.func = some 4 := by kernel_rfl
theorem driveAgainProved_and {a b : Bool} (x : a = true) (y : b = true) : (a && b) = true := by rw [x, y]; rfl
set_option maxHeartbeats 40000000 in
theorem driveAgainProved_facts : joinedFacts Tryz.pinned.checked.prog 4 Tryz.f4 Rows.driveAgainSpec Rows.driveAgainRow = true := by
  unfold joinedFacts
  repeat' with_reducible refine driveAgainProved_and ?_ ?_
  all_goals as_aux_lemma => kernel_rfl
theorem driveAgainProved_inst : Tryz.f4.isInstance Tryz.pinned.checked.prog Rows.driveAgainRow.origin Rows.driveAgainRow.targs := of_decide_eq_true (by kernel_rfl)
theorem driveAgainProved_wrap : Tryz.f4.isWrapper Tryz.pinned.checked.prog Rows.driveAgainRow.wrapper Rows.driveAgainRow.mainSum := by unfold Func.isWrapper; first | (rw [if_pos (by decide +kernel)]; kernel_rfl) | (rw [if_neg (by decide +kernel)]; exact ⟨rfl, rfl⟩)
theorem driveAgainProved_over : Rows.driveAgainRow.holds Tryz.pinned (OpenSpec.ofChange Rows.driveAgainSpec) :=
  OpenClaim.holds_of_wide 4 Tryz.f4 rfl rfl rfl rfl rfl rfl rfl ⟨rfl, rfl, rfl, rfl, rfl⟩ rfl rfl rfl rfl rfl driveAgainProved_named Tryz.func4 driveAgainProved_facts
    driveAgainProved_inst driveAgainProved_wrap
    (fun os started H enc _ => driveAgainProved_lifted os started H enc)

theorem driveAgainProved : Rows.DriveAgainSaid := driveAgainProved_over
#print axioms driveAgainProved
end Go.Proofs.YtbocegmeciaanaaGreat
