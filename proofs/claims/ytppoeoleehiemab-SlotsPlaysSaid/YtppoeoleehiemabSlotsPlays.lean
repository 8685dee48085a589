/- SlotsPlaysSaid: what the given statement of that name says: the law returns true at every input, and its arguments read behind the call as they read before. No condition. -/
import Derived.Test.YtppoeoleehiemabL25b
import Derived.Test.YtppoeoleehiemabP25b
import Derived.Test.YtppoeoleehiemabV25
import Derived.ProofKit
import Derived.OpenShut
import Derived.ShutString
import Derived.ChangeOld
import Derived.Below
namespace Go.Proofs.Ytppoeoleehiemab
open Go.ChangeShapes Go.WideShapes Go.ChangeAt Go.RowKit
set_option linter.unusedVariables false

theorem slotsPlaysProved_own : ownKnob Try.prog.godebug = none := by kernel_rfl
theorem slotsPlaysProved_laid : laidOutB Try.prog = true := by kernel_rfl
def slotsPlaysProved_ks : List (Bool × V.Sh) := [(false, V.nest [(.int .i64)]), (false, V.nest [(.int .i64)]), (false, V.nest [(.int .i64)]), (false, V.nest [(.list (.pair (.int .i64) (.pair (.int .i64) (.pair (.int .i64) (.list (.int .u64))))))])]

theorem slotsPlaysProved_walk (w : World) (vs : Array Value) (x : V.All slotsPlaysProved_ks) (hA : V.ArgsRd w slotsPlaysProved_ks vs.toList x) :
    Calls Try.prog 4 vs w fun e w' => e = .returned (.bool true) ∧ Below w.heap.size w w' := by
  obtain ⟨x0, x1, x2, x3⟩ := x
  have hB := hA
  obtain ⟨_, _, _, b0, hB⟩ := hB
  obtain ⟨_, _, _, b1, hB⟩ := hB
  obtain ⟨_, _, _, b2, hB⟩ := hB
  obtain ⟨_, _, b3⟩ := hB
  have f0 := V.ArgRd.fine b0
  have f1 := V.ArgRd.fine b1
  have f2 := V.ArgRd.fine b2
  have f3 := V.ArgRd.fine b3
  refine V.law_args (vals := V.F_law25_SlotsPlays.vals) (run := V.F_law25_SlotsPlays.run) V.R_law25_SlotsPlays slotsPlaysProved_ks (x0, x1, x2, x3) (x0, x1, x2, x3) hA (by kernel_rfl) ?_
  exact V.law25_plays x0 x1 x2 x3 f0 f1 f2 f3

set_option maxRecDepth 100000 in
theorem slotsPlaysProved_lifted (os : Os) (started : os.Started) (H : Type) (enc : TypeId × Value → H) :
    ReturnsInHanded {} Try.checked os 4 .any (Rows.slotsPlaysSpec.pre6 enc Try.prog Try.f4 Rows.slotsPlaysRow.domain false) (Rows.slotsPlaysSpec.post enc Try.prog Try.f4 false true false false) := by
  refine returnsInHanded_of_change (C := Try.checked) slotsPlaysProved_own started (by kernel_rfl) Try.func4
    (ChangeSpec.witness6 (enc := enc) (C := Try.checked) false ⟨#[], #[.int .i64 0, .int .i64 0, .int .i64 0, .slice none 0 0], []⟩ 8 (by kernel_rfl) (by kernel_rfl) (by kernel_rfl) (by kernel_rfl)) ?_
  intro W base args ds gs before hval0 hW hcnd _
  have hval : ∀ (j : Nat) t v, Try.f4.params[j]? = some t → args[j]? = some v → Value.okWide Try.prog W .any base t v := hval0
  have hW' := hW
  obtain ⟨p, q, hA0, hV, rfl, hfz, hnd⟩ := hW
  have hA : DataW.TrodAll enc Try.prog W 0 (fun _ => true) true Try.f4.params.toList args.toList ds p := hA0
  rw [Try.params4] at hA hval
  obtain ⟨v0, vs0, d0, ds0, p0, q0, hargs, rfl, rfl, h0, r0⟩ := trodAll_cons hA
  obtain ⟨v1, vs1, d1, ds1, p1, q1, rfl, rfl, rfl, h1, r1⟩ := trodAll_cons r0
  obtain ⟨v2, vs2, d2, ds2, p2, q2, rfl, rfl, rfl, h2, r2⟩ := trodAll_cons r1
  obtain ⟨v3, vs3, d3, ds3, p3, q3, rfl, rfl, rfl, h3, r3⟩ := trodAll_cons r2
  obtain ⟨rfl, rfl, rfl⟩ := trodAll_nil r3
  obtain rfl : args = #[v0, v1, v2, v3] := by cases args; simp_all
  obtain ⟨rfl, rfl⟩ := trodVars_none hV
  have k0 := h0
  have lt0 : ∀ x ∈ p0, x.block < W.heap.size := by obtain ⟨m, hm⟩ := k0; exact DataW.trod_lt m _ _ _ hm
  obtain ⟨y0, w0⟩ := V.open_arg (n := 12) (l := [(.int .i64)]) (show V.flatT Try.prog 12 3 = some [(.int .i64)] by kernel_rfl) (List.cons_ne_nil _ _) (hval 0 3 v0 rfl rfl) h0
  rw [show V.isAgg Try.prog 3 = false by kernel_rfl] at w0
  have k1 := h1
  have lt1 : ∀ x ∈ p1, x.block < W.heap.size := by obtain ⟨m, hm⟩ := k1; exact DataW.trod_lt m _ _ _ hm
  obtain ⟨y1, w1⟩ := V.open_arg (n := 12) (l := [(.int .i64)]) (show V.flatT Try.prog 12 3 = some [(.int .i64)] by kernel_rfl) (List.cons_ne_nil _ _) (hval 1 3 v1 rfl rfl) h1
  rw [show V.isAgg Try.prog 3 = false by kernel_rfl] at w1
  have k2 := h2
  have lt2 : ∀ x ∈ p2, x.block < W.heap.size := by obtain ⟨m, hm⟩ := k2; exact DataW.trod_lt m _ _ _ hm
  obtain ⟨y2, w2⟩ := V.open_arg (n := 12) (l := [(.int .i64)]) (show V.flatT Try.prog 12 3 = some [(.int .i64)] by kernel_rfl) (List.cons_ne_nil _ _) (hval 2 3 v2 rfl rfl) h2
  rw [show V.isAgg Try.prog 3 = false by kernel_rfl] at w2
  have k3 := h3
  have lt3 : ∀ x ∈ p3, x.block < W.heap.size := by obtain ⟨m, hm⟩ := k3; exact DataW.trod_lt m _ _ _ hm
  obtain ⟨y3, w3⟩ := V.open_arg (n := 12) (l := [(.list (.pair (.int .i64) (.pair (.int .i64) (.pair (.int .i64) (.list (.int .u64))))))]) (show V.flatT Try.prog 12 28 = some [(.list (.pair (.int .i64) (.pair (.int .i64) (.pair (.int .i64) (.list (.int .u64))))))] by kernel_rfl) (List.cons_ne_nil _ _) (hval 3 28 v3 rfl rfl) h3
  rw [show V.isAgg Try.prog 28 = false by kernel_rfl] at w3
  clear hA0 hval0
  refine (slotsPlaysProved_walk W #[v0, v1, v2, v3] (y0, y1, y2, y3) ⟨v0, [v1, v2, v3], rfl, w0, ⟨v1, [v2, v3], rfl, w1, ⟨v2, [v3], rfl, w2, ⟨v3, rfl, w3⟩⟩⟩⟩).mono fun e W' ⟨he, bel⟩ => ?_
  subst he
  exact ⟨_, rfl, _, _, _, [], _, [], hW', trodAll_mk1 (shut_bool Try.underlying4 _), (trodAll_cons_mk (Below.trod slotsPlaysProved_laid (by kernel_rfl) (of_decide_eq_true (by kernel_rfl)) k0 bel lt0) (trodAll_cons_mk (Below.trod slotsPlaysProved_laid (by kernel_rfl) (of_decide_eq_true (by kernel_rfl)) k1 bel lt1) (trodAll_cons_mk (Below.trod slotsPlaysProved_laid (by kernel_rfl) (of_decide_eq_true (by kernel_rfl)) k2 bel lt2) (trodAll_cons_mk (Below.trod slotsPlaysProved_laid (by kernel_rfl) (of_decide_eq_true (by kernel_rfl)) k3 bel lt3) trodAll_mk0)))), rfl, bel.frame _, fun h => by cases h⟩

theorem slotsPlaysProved_over : Rows.slotsPlaysRow.holds Try.pinned (OpenSpec.ofChange Rows.slotsPlaysSpec) :=
  OpenClaim.holds_of_wide 4 Try.f4 rfl rfl rfl rfl rfl rfl rfl ⟨rfl, rfl, rfl, rfl, rfl⟩ rfl rfl rfl rfl rfl (by kernel_rfl) Try.func4 (by kernel_rfl)
    (of_decide_eq_true (by kernel_rfl)) (by unfold Func.isWrapper; first | (rw [if_pos (by decide +kernel)]; kernel_rfl) | (rw [if_neg (by decide +kernel)]; exact ⟨rfl, rfl⟩))
    (fun os started H enc _ => slotsPlaysProved_lifted os started H enc)

theorem slotsPlaysProved : Rows.SlotsPlaysSaid := slotsPlaysProved_over
#print axioms slotsPlaysProved
end Go.Proofs.Ytppoeoleehiemab
