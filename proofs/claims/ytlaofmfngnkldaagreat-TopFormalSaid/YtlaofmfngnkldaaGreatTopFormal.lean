/- TopFormalSaid: what the given statement of that name says: the law returns true at every input, and its arguments read behind the call as they read before. No condition. -/
import Derived.Test.YtlaofmfngnkldaaGreatL7
import Derived.Test.YtlaofmfngnkldaaGreatP1
import Derived.Test.YtlaofmfngnkldaaGreatA11
import Derived.Test.YtlaofmfngnkldaaGreatL1
import Derived.ProofKit
import Derived.OpenShut
import Derived.ShutString
import Derived.ChangeOld
import Derived.Below
namespace Go.Proofs.YtlaofmfngnkldaaGreat
open Go.ChangeShapes Go.WideShapes Go.ChangeAt Go.RowKit
set_option linter.unusedVariables false

theorem topFormalProved_own : ownKnob Tryz.prog.godebug = none := by kernel_rfl
theorem topFormalProved_laid : laidOutB Tryz.prog = true := by kernel_rfl
def topFormalProved_ks : List (Bool × V.Sh) := [(true, V.yS [(.int .i64), (.list (.int .u64)), (.list (.int .u64)), (.int .i64), (.list (.pair (.int .i64) (.pair (.int .i64) (.pair (.int .i64) (.pair (.int .i64) (.int .u64)))))), (.int .i64), (.list (.pair (.int .i64) (.pair (.int .i64) (.pair (.int .i64) (.pair (.int .i64) (.int .u64)))))), (.int .i64), (.int .i64)]), (false, V.yS [(.int .u8)])]

set_option maxRecDepth 1000000 in
theorem topFormalProved_walk (w : World) (vs : Array Value) (x : V.All topFormalProved_ks) (hA : V.O9 w topFormalProved_ks vs.toList x)(hs : x.1.2.2.2.2.1.length ≤ 3518437208780 ∧ x.1.2.2.2.2.2.2.1.length ≤ 3518437208780) :
    Calls Tryz.prog 3 vs w fun e w' => e = .returned (.bool true) ∧ Below w.heap.size w w' := by
  obtain ⟨⟨x0_0, x0_1, x0_2, x0_3, x0_4, x0_5, x0_6, x0_7, x0_8⟩, x1⟩ := x
  obtain ⟨g4, g6⟩ := hs
  have hB := hA
  obtain ⟨_, _, _, b0, hB⟩ := hB
  obtain ⟨_, _, b1⟩ := hB
  have f0 := V.Fv.fine b0
  have f1 := V.Fv.fine b1
  refine V.ae1 V.JK ⟨fun h => (h (by kernel_rfl)).elim, of_decide_eq_true (by kernel_rfl)⟩ topFormalProved_ks ((x0_0, x0_1, x0_2, x0_3, x0_4, x0_5, x0_6, x0_7, x0_8), x1) (x0_0, x0_1, x0_2, x0_3, x0_4, x0_5, x0_6, x0_7, x0_8, x1) hA (by kernel_rfl) ?_
  exact V.Vb (fun o ho => (f0.2.2.2.2.1.2 o ho).2.2.2.2) (fun o ho => (f0.2.2.2.2.2.2.1.2 o ho).2.2.2.2) (fun x hx => ⟨(f0.2.1.2 x hx).1, Int.lt_of_le_of_lt (f0.2.1.2 x hx).2 (by decide)⟩) (fun x hx => ⟨(f0.2.2.1.2 x hx).1, Int.lt_of_le_of_lt (f0.2.2.1.2 x hx).2 (by decide)⟩) g4 g6 f1.1

set_option maxRecDepth 1000000 in
theorem topFormalProved_lifted (os : Os) (started : os.Started) (H : Type) (enc : TypeId × Value → H) :
    ReturnsInHanded {} Tryz.checked os 3 .any (Rows.topFormalSpec.pre6 enc Tryz.prog Tryz.f3 Rows.topFormalRow.domain false) (Rows.topFormalSpec.post enc Tryz.prog Tryz.f3 false true false false) := by
  refine returnsInHanded_of_change_sized (C := Tryz.checked) topFormalProved_own started (by kernel_rfl) Tryz.func3
    (ChangeSpec.witness6 (enc := enc) (C := Tryz.checked) false ⟨#[], #[.agg #[.int .i64 0, .slice none 0 0, .slice none 0 0, .int .i64 0, .slice none 0 0, .int .i64 0, .slice none 0 0, .int .i64 0, .int .i64 0], .int .u8 0], []⟩ 8 (by kernel_rfl) (by kernel_rfl) (by kernel_rfl) (by kernel_rfl)) ?_
  intro W base args ds gs before hval0 hW hcnd hsz _
  have hval : ∀ (j : Nat) t v, Tryz.f3.params[j]? = some t → args[j]? = some v → Value.okWide Tryz.prog W .any base t v := hval0
  have hW' := hW
  obtain ⟨p, q, hA0, hV, rfl, hfz, hnd⟩ := hW
  have hA : DataW.TrodAll enc Tryz.prog W 0 (fun _ => true) true Tryz.f3.params.toList args.toList ds p := hA0
  rw [Tryz.params3] at hA hval
  obtain ⟨v0, vs0, d0, ds0, p0, q0, hargs, rfl, rfl, h0, r0⟩ := trodAll_cons hA
  obtain ⟨v1, vs1, d1, ds1, p1, q1, rfl, rfl, rfl, h1, r1⟩ := trodAll_cons r0
  obtain ⟨rfl, rfl, rfl⟩ := trodAll_nil r1
  obtain rfl : args = #[v0, v1] := by cases args; simp_all
  obtain ⟨rfl, rfl⟩ := trodVars_none hV
  have k0 := h0
  have lt0 : ∀ x ∈ p0, x.block < W.heap.size := by obtain ⟨m, hm⟩ := k0; exact DataW.trod_lt m _ _ _ hm
  obtain ⟨y0, w0⟩ := V.SA (n := 12) (l := [(.int .i64), (.list (.int .u64)), (.list (.int .u64)), (.int .i64), (.list (.pair (.int .i64) (.pair (.int .i64) (.pair (.int .i64) (.pair (.int .i64) (.int .u64)))))), (.int .i64), (.list (.pair (.int .i64) (.pair (.int .i64) (.pair (.int .i64) (.pair (.int .i64) (.int .u64)))))), (.int .i64), (.int .i64)]) (show V.tD Tryz.prog 12 27 = some [(.int .i64), (.list (.int .u64)), (.list (.int .u64)), (.int .i64), (.list (.pair (.int .i64) (.pair (.int .i64) (.pair (.int .i64) (.pair (.int .i64) (.int .u64)))))), (.int .i64), (.list (.pair (.int .i64) (.pair (.int .i64) (.pair (.int .i64) (.pair (.int .i64) (.int .u64)))))), (.int .i64), (.int .i64)] by kernel_rfl) (List.cons_ne_nil _ _) (hval 0 27 v0 rfl rfl) h0
  rw [show V.isAgg Tryz.prog 27 = true by kernel_rfl] at w0
  have z0 := V.PX (tp := 25) (tl := 23) (e := 61) (R := reachBytes) (by kernel_rfl) (by kernel_rfl) (by kernel_rfl) (by kernel_rfl) (by kernel_rfl) (by kernel_rfl) h0 (fun n hn => of_decide_eq_true (List.all_eq_true.1 hsz n (DataW.weights_mem_each (j := 0) rfl rfl n hn))) w0
  rw [show Tryz.prog.bytesOf 61 = 40 by kernel_rfl] at z0
  have z1 : 0x7ffffffff000 < 3518437208781 * 40 := by decide
  unfold reachBytes at z0
  have k1 := h1
  have lt1 : ∀ x ∈ p1, x.block < W.heap.size := by obtain ⟨m, hm⟩ := k1; exact DataW.trod_lt m _ _ _ hm
  obtain ⟨y1, w1⟩ := V.SA (n := 12) (l := [(.int .u8)]) (show V.tD Tryz.prog 12 5 = some [(.int .u8)] by kernel_rfl) (List.cons_ne_nil _ _) (hval 1 5 v1 rfl rfl) h1
  rw [show V.isAgg Tryz.prog 5 = false by kernel_rfl] at w1
  clear hA0 hval0
  refine (topFormalProved_walk W #[v0, v1] (y0, y1) ⟨v0, [v1], rfl, w0, ⟨v1, rfl, w1⟩⟩ ⟨show y0.2.2.2.2.1.length ≤ 3518437208780 by omega, show y0.2.2.2.2.2.2.1.length ≤ 3518437208780 by omega⟩).mono fun e W' ⟨he, bel⟩ => ?_
  subst he
  exact ⟨_, rfl, _, _, _, [], _, [], hW', trodAll_mk1 (shut_bool Tryz.underlying4 _), (trodAll_cons_mk (Below.trod topFormalProved_laid (by kernel_rfl) (of_decide_eq_true (by kernel_rfl)) k0 bel lt0) (trodAll_cons_mk (Below.trod topFormalProved_laid (by kernel_rfl) (of_decide_eq_true (by kernel_rfl)) k1 bel lt1) trodAll_mk0)), rfl, bel.frame _, fun h => by cases h⟩

theorem topFormalProved_named : Tryz.pinned.checked.prog.funcNamed Rows.topFormalRow.func = some 3 := by kernel_rfl
theorem topFormalProved_and {a b : Bool} (x : a = true) (y : b = true) : (a && b) = true := by rw [x, y]; rfl
set_option maxHeartbeats 40000000 in
theorem topFormalProved_facts : joinedFacts Tryz.pinned.checked.prog 3 Tryz.f3 Rows.topFormalSpec Rows.topFormalRow = true := by
  unfold joinedFacts
  repeat' with_reducible refine topFormalProved_and ?_ ?_
  all_goals as_aux_lemma => kernel_rfl
theorem topFormalProved_inst : Tryz.f3.isInstance Tryz.pinned.checked.prog Rows.topFormalRow.origin Rows.topFormalRow.targs := of_decide_eq_true (by kernel_rfl)
theorem topFormalProved_wrap : Tryz.f3.isWrapper Tryz.pinned.checked.prog Rows.topFormalRow.wrapper Rows.topFormalRow.mainSum := by unfold Func.isWrapper; first | (rw [if_pos (by decide +kernel)]; kernel_rfl) | (rw [if_neg (by decide +kernel)]; exact ⟨rfl, rfl⟩)
theorem topFormalProved_over : Rows.topFormalRow.holds Tryz.pinned (OpenSpec.ofChange Rows.topFormalSpec) :=
  OpenClaim.holds_of_wide 3 Tryz.f3 rfl rfl rfl rfl rfl rfl rfl ⟨rfl, rfl, rfl, rfl, rfl⟩ rfl rfl rfl rfl rfl topFormalProved_named Tryz.func3 topFormalProved_facts
    topFormalProved_inst topFormalProved_wrap
    (fun os started H enc _ => topFormalProved_lifted os started H enc)

theorem topFormalProved : Rows.TopFormalSaid := topFormalProved_over
#print axioms topFormalProved
end Go.Proofs.YtlaofmfngnkldaaGreat
