/- HeaderOrderSaid: what the given statement of that name says: the law returns true at every input, and its arguments read behind the call as they read before. No condition. -/
import Derived.Test.YtojdfmmgihefkaaL33k
import Derived.Test.YtojdfmmgihefkaaP33
import Derived.Test.YtojdfmmgihefkaaV25
import Derived.ProofKit
import Derived.OpenShut
import Derived.ShutString
import Derived.ChangeOld
import Derived.Below
namespace Go.Proofs.Ytojdfmmgihefkaa
open Go.ChangeShapes Go.WideShapes Go.ChangeAt Go.RowKit
set_option linter.unusedVariables false

theorem headerOrderProved_own : ownKnob Try.prog.godebug = none := by kernel_rfl
theorem headerOrderProved_laid : laidOutB Try.prog = true := by kernel_rfl
def headerOrderProved_ks : List (Bool × V.Sh) := [(true, V.nest [(.int .i64), (.list (.int .u64)), (.list (.int .u64)), (.int .i64), (.list (.pair (.int .i64) (.pair (.int .i64) (.pair (.int .i64) (.pair (.int .i64) (.int .u64)))))), (.int .i64), (.list (.pair (.int .i64) (.pair (.int .i64) (.pair (.int .i64) (.pair (.int .i64) (.int .u64)))))), (.int .i64), (.int .i64)]), (false, V.nest [(.int .u8)]), (false, V.nest [(.int .u8)])]

theorem headerOrderProved_walk (w : World) (vs : Array Value) (x : V.All headerOrderProved_ks) (hA : V.ArgsRd w headerOrderProved_ks vs.toList x) :
    Calls Try.prog 7 vs w fun e w' => e = .returned (.bool true) ∧ Below w.heap.size w w' := by
  obtain ⟨⟨x0_0, x0_1, x0_2, x0_3, x0_4, x0_5, x0_6, x0_7, x0_8⟩, x1, x2⟩ := x
  have hB := hA
  obtain ⟨_, _, _, b0, hB⟩ := hB
  obtain ⟨_, _, _, b1, hB⟩ := hB
  obtain ⟨_, _, b2⟩ := hB
  have f0 := V.ArgRd.fine b0
  have f1 := V.ArgRd.fine b1
  have f2 := V.ArgRd.fine b2
  refine V.law_args (vals := V.F_law33_HeaderOrder.vals) (run := V.F_law33_HeaderOrder.run) V.R_law33_HeaderOrder headerOrderProved_ks ((x0_0, x0_1, x0_2, x0_3, x0_4, x0_5, x0_6, x0_7, x0_8), x1, x2) (x0_0, x0_1, x0_2, x0_3, x0_4, x0_5, x0_6, x0_7, x0_8, x1, x2) hA (by kernel_rfl) ?_
  exact V.law33_order x0_0 x0_1 x0_2 x0_3 x0_4 x0_5 x0_6 x0_7 x0_8 x1 x2 f0.1 f0.2.1 f0.2.2.1 f0.2.2.2.1 f0.2.2.2.2.1 f0.2.2.2.2.2.1 f0.2.2.2.2.2.2.1 f0.2.2.2.2.2.2.2.1 f0.2.2.2.2.2.2.2.2 f1 f2

set_option maxRecDepth 100000 in
theorem headerOrderProved_lifted (os : Os) (started : os.Started) (H : Type) (enc : TypeId × Value → H) :
    ReturnsInHanded {} Try.checked os 7 .any (Rows.headerOrderSpec.pre6 enc Try.prog Try.f7 Rows.headerOrderRow.domain false) (Rows.headerOrderSpec.post enc Try.prog Try.f7 false true false false) := by
  refine returnsInHanded_of_change (C := Try.checked) headerOrderProved_own started (by kernel_rfl) Try.func7
    (ChangeSpec.witness6 (enc := enc) (C := Try.checked) false ⟨#[], #[.agg #[.int .i64 0, .slice none 0 0, .slice none 0 0, .int .i64 0, .slice none 0 0, .int .i64 0, .slice none 0 0, .int .i64 0, .int .i64 0], .int .u8 0, .int .u8 0], []⟩ 8 (by kernel_rfl) (by kernel_rfl) (by kernel_rfl) (by kernel_rfl)) ?_
  intro W base args ds gs before hval0 hW hcnd _
  have hval : ∀ (j : Nat) t v, Try.f7.params[j]? = some t → args[j]? = some v → Value.okWide Try.prog W .any base t v := hval0
  have hW' := hW
  obtain ⟨p, q, hA0, hV, rfl, hfz, hnd⟩ := hW
  have hA : DataW.TrodAll enc Try.prog W 0 (fun _ => true) true Try.f7.params.toList args.toList ds p := hA0
  rw [Try.params7] at hA hval
  obtain ⟨v0, vs0, d0, ds0, p0, q0, hargs, rfl, rfl, h0, r0⟩ := trodAll_cons hA
  obtain ⟨v1, vs1, d1, ds1, p1, q1, rfl, rfl, rfl, h1, r1⟩ := trodAll_cons r0
  obtain ⟨v2, vs2, d2, ds2, p2, q2, rfl, rfl, rfl, h2, r2⟩ := trodAll_cons r1
  obtain ⟨rfl, rfl, rfl⟩ := trodAll_nil r2
  obtain rfl : args = #[v0, v1, v2] := by cases args; simp_all
  obtain ⟨rfl, rfl⟩ := trodVars_none hV
  have k0 := h0
  have lt0 : ∀ x ∈ p0, x.block < W.heap.size := by obtain ⟨m, hm⟩ := k0; exact DataW.trod_lt m _ _ _ hm
  obtain ⟨y0, w0⟩ := V.open_arg (n := 12) (l := [(.int .i64), (.list (.int .u64)), (.list (.int .u64)), (.int .i64), (.list (.pair (.int .i64) (.pair (.int .i64) (.pair (.int .i64) (.pair (.int .i64) (.int .u64)))))), (.int .i64), (.list (.pair (.int .i64) (.pair (.int .i64) (.pair (.int .i64) (.pair (.int .i64) (.int .u64)))))), (.int .i64), (.int .i64)]) (show V.flatT Try.prog 12 27 = some [(.int .i64), (.list (.int .u64)), (.list (.int .u64)), (.int .i64), (.list (.pair (.int .i64) (.pair (.int .i64) (.pair (.int .i64) (.pair (.int .i64) (.int .u64)))))), (.int .i64), (.list (.pair (.int .i64) (.pair (.int .i64) (.pair (.int .i64) (.pair (.int .i64) (.int .u64)))))), (.int .i64), (.int .i64)] by kernel_rfl) (List.cons_ne_nil _ _) (hval 0 27 v0 rfl rfl) h0
  rw [show V.isAgg Try.prog 27 = true by kernel_rfl] at w0
  have k1 := h1
  have lt1 : ∀ x ∈ p1, x.block < W.heap.size := by obtain ⟨m, hm⟩ := k1; exact DataW.trod_lt m _ _ _ hm
  obtain ⟨y1, w1⟩ := V.open_arg (n := 12) (l := [(.int .u8)]) (show V.flatT Try.prog 12 5 = some [(.int .u8)] by kernel_rfl) (List.cons_ne_nil _ _) (hval 1 5 v1 rfl rfl) h1
  rw [show V.isAgg Try.prog 5 = false by kernel_rfl] at w1
  have k2 := h2
  have lt2 : ∀ x ∈ p2, x.block < W.heap.size := by obtain ⟨m, hm⟩ := k2; exact DataW.trod_lt m _ _ _ hm
  obtain ⟨y2, w2⟩ := V.open_arg (n := 12) (l := [(.int .u8)]) (show V.flatT Try.prog 12 5 = some [(.int .u8)] by kernel_rfl) (List.cons_ne_nil _ _) (hval 2 5 v2 rfl rfl) h2
  rw [show V.isAgg Try.prog 5 = false by kernel_rfl] at w2
  clear hA0 hval0
  refine (headerOrderProved_walk W #[v0, v1, v2] (y0, y1, y2) ⟨v0, [v1, v2], rfl, w0, ⟨v1, [v2], rfl, w1, ⟨v2, rfl, w2⟩⟩⟩).mono fun e W' ⟨he, bel⟩ => ?_
  subst he
  exact ⟨_, rfl, _, _, _, [], _, [], hW', trodAll_mk1 (shut_bool Try.underlying4 _), (trodAll_cons_mk (Below.trod headerOrderProved_laid (by kernel_rfl) (of_decide_eq_true (by kernel_rfl)) k0 bel lt0) (trodAll_cons_mk (Below.trod headerOrderProved_laid (by kernel_rfl) (of_decide_eq_true (by kernel_rfl)) k1 bel lt1) (trodAll_cons_mk (Below.trod headerOrderProved_laid (by kernel_rfl) (of_decide_eq_true (by kernel_rfl)) k2 bel lt2) trodAll_mk0))), rfl, bel.frame _, fun h => by cases h⟩

theorem headerOrderProved_over : Rows.headerOrderRow.holds Try.pinned (OpenSpec.ofChange Rows.headerOrderSpec) :=
  OpenClaim.holds_of_wide 7 Try.f7 rfl rfl rfl rfl rfl rfl rfl ⟨rfl, rfl, rfl, rfl, rfl⟩ rfl rfl rfl rfl rfl (by kernel_rfl) Try.func7 (by kernel_rfl)
    (of_decide_eq_true (by kernel_rfl)) (by unfold Func.isWrapper; first | (rw [if_pos (by decide +kernel)]; kernel_rfl) | (rw [if_neg (by decide +kernel)]; exact ⟨rfl, rfl⟩))
    (fun os started H enc _ => headerOrderProved_lifted os started H enc)

theorem headerOrderProved : Rows.HeaderOrderSaid := headerOrderProved_over
#print axioms headerOrderProved
end Go.Proofs.Ytojdfmmgihefkaa
