/- TopCutSaid: what the given statement of that name says: the law returns true at every input, and its arguments read behind the call as they read before. No condition. -/
import Derived.Test.YtabdgoepkddlbaaGreatL4
import Derived.Test.YtabdgoepkddlbaaGreatP1
import Derived.Test.YtabdgoepkddlbaaGreatA6
import Derived.Test.YtabdgoepkddlbaaGreatL1
import Derived.ProofKit
import Derived.OpenShut
import Derived.ShutString
import Derived.ChangeOld
import Derived.Below
namespace Go.Proofs.YtabdgoepkddlbaaGreat
open Go.ChangeShapes Go.WideShapes Go.ChangeAt Go.RowKit
set_option linter.unusedVariables false

theorem topCutProved_own : ownKnob Tryz.prog.godebug = none := by kernel_rfl
theorem topCutProved_laid : laidOutB Tryz.prog = true := by kernel_rfl
def topCutProved_ks : List (Bool × V.Sh) := [(true, V.ap5 [(.int .i64), (.list (.int .u64)), (.list (.int .u64)), (.int .i64), (.list (.pair (.int .i64) (.pair (.int .i64) (.pair (.int .i64) (.pair (.int .i64) (.int .u64)))))), (.int .i64), (.list (.pair (.int .i64) (.pair (.int .i64) (.pair (.int .i64) (.pair (.int .i64) (.int .u64)))))), (.int .i64), (.int .i64)]), (false, V.ap5 [(.int .u8)]), (false, V.ap5 [(.int .u16)])]

set_option maxRecDepth 1000000 in
theorem topCutProved_walk (w : World) (vs : Array Value) (x : V.All topCutProved_ks) (hA : V.cj9 w topCutProved_ks vs.toList x)(hs : x.1.2.2.2.2.1.length ≤ 3518437208780 ∧ x.1.2.2.2.2.2.2.1.length ≤ 3518437208780) :
    Calls Tryz.prog 4 vs w fun e w' => e = .returned (.bool true) ∧ Below w.heap.size w w' := by
  obtain ⟨⟨x0_0, x0_1, x0_2, x0_3, x0_4, x0_5, x0_6, x0_7, x0_8⟩, x1, x2⟩ := x
  obtain ⟨g4, g6⟩ := hs
  have hB := hA
  obtain ⟨_, _, _, b0, hB⟩ := hB
  obtain ⟨_, _, _, b1, hB⟩ := hB
  obtain ⟨_, _, b2⟩ := hB
  have f0 := V.aU3.fine b0
  have f1 := V.aU3.fine b1
  have f2 := V.aU3.fine b2
  refine V.dn7 (vals := V.aH7.vals) (run := V.aH7.run) V.co3 (fun h => (h (by kernel_rfl)).elim) topCutProved_ks ((x0_0, x0_1, x0_2, x0_3, x0_4, x0_5, x0_6, x0_7, x0_8), x1, x2) (x0_0, x0_1, x0_2, x0_3, x0_4, x0_5, x0_6, x0_7, x0_8, x1, x2) hA (by kernel_rfl) ?_
  exact V.dI5 (fun o ho => (f0.2.2.2.2.1.2 o ho).2.2.2.2) (fun o ho => (f0.2.2.2.2.2.2.1.2 o ho).2.2.2.2) g4 g6 f1.1

set_option maxRecDepth 1000000 in
theorem topCutProved_lifted (os : Os) (started : os.Started) (H : Type) (enc : TypeId × Value → H) :
    ReturnsInHanded {} Tryz.checked os 4 .any (Rows.topCutSpec.pre6 enc Tryz.prog Tryz.f4 Rows.topCutRow.domain false) (Rows.topCutSpec.post enc Tryz.prog Tryz.f4 false true false false) := by
  refine returnsInHanded_of_change_sized (C := Tryz.checked) topCutProved_own started (by kernel_rfl) Tryz.func4
    (ChangeSpec.witness6 (enc := enc) (C := Tryz.checked) false ⟨#[], #[.agg #[.int .i64 0, .slice none 0 0, .slice none 0 0, .int .i64 0, .slice none 0 0, .int .i64 0, .slice none 0 0, .int .i64 0, .int .i64 0], .int .u8 0, .int .u16 0], []⟩ 8 (by kernel_rfl) (by kernel_rfl) (by kernel_rfl) (by kernel_rfl)) ?_
  intro W base args ds gs before hval0 hW hcnd hsz _
  have hval : ∀ (j : Nat) t v, Tryz.f4.params[j]? = some t → args[j]? = some v → Value.okWide Tryz.prog W .any base t v := hval0
  have hW' := hW
  obtain ⟨p, q, hA0, hV, rfl, hfz, hnd⟩ := hW
  have hA : DataW.TrodAll enc Tryz.prog W 0 (fun _ => true) true Tryz.f4.params.toList args.toList ds p := hA0
  rw [Tryz.params4] at hA hval
  obtain ⟨v0, vs0, d0, ds0, p0, q0, hargs, rfl, rfl, h0, r0⟩ := trodAll_cons hA
  obtain ⟨v1, vs1, d1, ds1, p1, q1, rfl, rfl, rfl, h1, r1⟩ := trodAll_cons r0
  obtain ⟨v2, vs2, d2, ds2, p2, q2, rfl, rfl, rfl, h2, r2⟩ := trodAll_cons r1
  obtain ⟨rfl, rfl, rfl⟩ := trodAll_nil r2
  obtain rfl : args = #[v0, v1, v2] := by cases args; simp_all
  obtain ⟨rfl, rfl⟩ := trodVars_none hV
  have k0 := h0
  have lt0 : ∀ x ∈ p0, x.block < W.heap.size := by obtain ⟨m, hm⟩ := k0; exact DataW.trod_lt m _ _ _ hm
  obtain ⟨y0, w0⟩ := V.bU3 (n := 12) (l := [(.int .i64), (.list (.int .u64)), (.list (.int .u64)), (.int .i64), (.list (.pair (.int .i64) (.pair (.int .i64) (.pair (.int .i64) (.pair (.int .i64) (.int .u64)))))), (.int .i64), (.list (.pair (.int .i64) (.pair (.int .i64) (.pair (.int .i64) (.pair (.int .i64) (.int .u64)))))), (.int .i64), (.int .i64)]) (show V.xr Tryz.prog 12 27 = some [(.int .i64), (.list (.int .u64)), (.list (.int .u64)), (.int .i64), (.list (.pair (.int .i64) (.pair (.int .i64) (.pair (.int .i64) (.pair (.int .i64) (.int .u64)))))), (.int .i64), (.list (.pair (.int .i64) (.pair (.int .i64) (.pair (.int .i64) (.pair (.int .i64) (.int .u64)))))), (.int .i64), (.int .i64)] by kernel_rfl) (List.cons_ne_nil _ _) (hval 0 27 v0 rfl rfl) h0
  rw [show V.isAgg Tryz.prog 27 = true by kernel_rfl] at w0
  have z0 := V.cr7 (tp := 25) (tl := 23) (e := 67) (R := reachBytes) (by kernel_rfl) (by kernel_rfl) (by kernel_rfl) (by kernel_rfl) (by kernel_rfl) (by kernel_rfl) h0 (fun n hn => of_decide_eq_true (List.all_eq_true.1 hsz n (DataW.weights_mem_each (j := 0) rfl rfl n hn))) w0
  rw [show Tryz.prog.bytesOf 67 = 40 by kernel_rfl] at z0
  have z1 : 0x7ffffffff000 < 3518437208781 * 40 := by decide
  unfold reachBytes at z0
  have k1 := h1
  have lt1 : ∀ x ∈ p1, x.block < W.heap.size := by obtain ⟨m, hm⟩ := k1; exact DataW.trod_lt m _ _ _ hm
  obtain ⟨y1, w1⟩ := V.bU3 (n := 12) (l := [(.int .u8)]) (show V.xr Tryz.prog 12 5 = some [(.int .u8)] by kernel_rfl) (List.cons_ne_nil _ _) (hval 1 5 v1 rfl rfl) h1
  rw [show V.isAgg Tryz.prog 5 = false by kernel_rfl] at w1
  have k2 := h2
  have lt2 : ∀ x ∈ p2, x.block < W.heap.size := by obtain ⟨m, hm⟩ := k2; exact DataW.trod_lt m _ _ _ hm
  obtain ⟨y2, w2⟩ := V.bU3 (n := 12) (l := [(.int .u16)]) (show V.xr Tryz.prog 12 46 = some [(.int .u16)] by kernel_rfl) (List.cons_ne_nil _ _) (hval 2 46 v2 rfl rfl) h2
  rw [show V.isAgg Tryz.prog 46 = false by kernel_rfl] at w2
  clear hA0 hval0
  refine (topCutProved_walk W #[v0, v1, v2] (y0, y1, y2) ⟨v0, [v1, v2], rfl, w0, ⟨v1, [v2], rfl, w1, ⟨v2, rfl, w2⟩⟩⟩ ⟨show y0.2.2.2.2.1.length ≤ 3518437208780 by omega, show y0.2.2.2.2.2.2.1.length ≤ 3518437208780 by omega⟩).mono fun e W' ⟨he, bel⟩ => ?_
  subst he
  exact ⟨_, rfl, _, _, _, [], _, [], hW', trodAll_mk1 (shut_bool Tryz.underlying4 _), (trodAll_cons_mk (Below.trod topCutProved_laid (by kernel_rfl) (of_decide_eq_true (by kernel_rfl)) k0 bel lt0) (trodAll_cons_mk (Below.trod topCutProved_laid (by kernel_rfl) (of_decide_eq_true (by kernel_rfl)) k1 bel lt1) (trodAll_cons_mk (Below.trod topCutProved_laid (by kernel_rfl) (of_decide_eq_true (by kernel_rfl)) k2 bel lt2) trodAll_mk0))), rfl, bel.frame _, fun h => by cases h⟩

theorem topCutProved_named : Tryz.pinned.checked.prog.funcNamed Rows.topCutRow.func = some 4 := by kernel_rfl
theorem topCutProved_and {a b : Bool} (x : a = true) (y : b = true) : (a && b) = true := by rw [x, y]; rfl
set_option maxHeartbeats 40000000 in
theorem topCutProved_facts : joinedFacts Tryz.pinned.checked.prog 4 Tryz.f4 Rows.topCutSpec Rows.topCutRow = true := by
  unfold joinedFacts
  repeat' with_reducible refine topCutProved_and ?_ ?_
  all_goals as_aux_lemma => kernel_rfl
theorem topCutProved_inst : Tryz.f4.isInstance Tryz.pinned.checked.prog Rows.topCutRow.origin Rows.topCutRow.targs := of_decide_eq_true (by kernel_rfl)
theorem topCutProved_wrap : Tryz.f4.isWrapper Tryz.pinned.checked.prog Rows.topCutRow.wrapper Rows.topCutRow.mainSum := by unfold Func.isWrapper; first | (rw [if_pos (by decide +kernel)]; kernel_rfl) | (rw [if_neg (by decide +kernel)]; exact ⟨rfl, rfl⟩)
theorem topCutProved_over : Rows.topCutRow.holds Tryz.pinned (OpenSpec.ofChange Rows.topCutSpec) :=
  OpenClaim.holds_of_wide 4 Tryz.f4 rfl rfl rfl rfl rfl rfl rfl ⟨rfl, rfl, rfl, rfl, rfl⟩ rfl rfl rfl rfl rfl topCutProved_named Tryz.func4 topCutProved_facts
    topCutProved_inst topCutProved_wrap
    (fun os started H enc _ => topCutProved_lifted os started H enc)

theorem topCutProved : Rows.TopCutSaid := topCutProved_over
#print axioms topCutProved
end Go.Proofs.YtabdgoepkddlbaaGreat
