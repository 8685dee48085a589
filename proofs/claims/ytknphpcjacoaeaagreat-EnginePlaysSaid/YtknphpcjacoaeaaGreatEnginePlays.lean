/- EnginePlaysSaid: no condition. -/
import Derived.Test.YtknphpcjacoaeaaGreatL8
import Derived.Test.YtknphpcjacoaeaaGreatP1
import Derived.ProofKit
import Derived.OpenShut
import Derived.ShutString
import Derived.ChangeOld
import Derived.Below
namespace Go.V
open Go.Ab
def Fine : (s : Sh) → El s → Prop
  | .int .u64, n => 0 ≤ n ∧ n ≤ 18446744073709551615
  | .list s, l => ∀ x ∈ l, Fine s x
  | .pair a b, x => Fine a x.1 ∧ Fine b x.2
  | _, _ => True
theorem pn.fine {w : World} : ∀ {s : Sh} {cs : List Value} {x : El s}, pn w s cs x → Fine s x
  | .int k, _, _, ⟨_, h⟩ => by
    cases k <;> try trivial
    show 0 ≤ _ ∧ _ ≤ (18446744073709551615:Int)
    simpa [Lit.wf, IntKind.min, IntKind.max, IntKind.signed, IntKind.bits] using h
  | .bool, _, _, _ => trivial
  | .str, _, _, _ => trivial
  | .list s, _, l, h => by
    rcases h with ⟨_, h⟩ | ⟨a, len, cap, ys, _, hlc, hcm, hyl, hl, hy⟩
    · subst h
      exact fun x hx => by cases hx
    · subst hl
      refine fun x hx => ?_
      obtain ⟨i, hi, rfl⟩ := List.getElem_of_mem (List.mem_of_mem_take hx)
      obtain ⟨zs, _, h⟩ := hy i _ (List.getElem?_eq_getElem hi)
      exact h.fine
  | .pair a b, _, _, ⟨c1, c2, _, h1, h2⟩ => ⟨h1.fine, h2.fine⟩
end Go.V
namespace Go.Proofs.YtknphpcjacoaeaaGreat
open Go.ChangeShapes Go.WideShapes Go.ChangeAt Go.RowKit
set_option linter.unusedVariables false
theorem e_own : ownKnob Tryz.prog.godebug = none := by kernel_rfl
theorem e_laid : laidOutB Tryz.prog = true := by kernel_rfl
abbrev e_l : List V.Sh := [V.SE, V.zh2, V.zh2, V.SE, V.bq1, V.SE, V.bq1, V.SE, V.SE]
def e_ks : List (Bool × V.Sh) := [(true, V.Fb e_l), (false, V.Fb [(.list (.int .u8))])]

set_option maxRecDepth 1000000 in
theorem e_walk (w : World) (vs : Array Value) (x : V.All e_ks) (hA : V.SM w e_ks vs.toList x) :
    Calls Tryz.prog 3 vs w fun e w' => e = .returned (.bool true) ∧ Below w.heap.size w w' := by
  obtain ⟨⟨a, b, c, d, e, g, h, i, j⟩, k⟩ := x
  have hB := hA
  obtain ⟨_, _, _, b0, hB⟩ := hB
  obtain ⟨_, _, b1⟩ := hB
  obtain ⟨_, _, b0⟩ := b0
  have f := V.pn.fine b0
  refine V.au0 (vals := V.uS.vals) (a := V.uS.run) V.JE (fun h => (h (by kernel_rfl)).elim) e_ks ((a, b, c, d, e, g, h, i, j), k) (a, b, c, d, e, g, h, i, j, k) hA (by kernel_rfl) ?_
  exact V.VP (fun v hv => ⟨(f.2.1 v hv).1, Int.lt_of_le_of_lt (f.2.1 v hv).2 (by decide)⟩) (fun v hv => ⟨(f.2.2.1 v hv).1, Int.lt_of_le_of_lt (f.2.2.1 v hv).2 (by decide)⟩) (fun o ho => (f.2.2.2.2.1 o ho).2.2.2.2) (fun o ho => (f.2.2.2.2.2.2.1 o ho).2.2.2.2)

set_option maxRecDepth 1000000 in
theorem e_lifted (os : Os) (started : os.Started) (H : Type) (enc : TypeId × Value → H) :
    ReturnsInHanded {} Tryz.checked os 3 .any (Rows.enginePlaysSpec.pre6 enc Tryz.prog Tryz.f3 Rows.enginePlaysRow.domain false) (Rows.enginePlaysSpec.post enc Tryz.prog Tryz.f3 false true false false) := by
  refine returnsInHanded_of_change (C := Tryz.checked) e_own started (by kernel_rfl) Tryz.func3
    (ChangeSpec.witness6 (enc := enc) (C := Tryz.checked) false ⟨#[], #[.agg #[.int .i64 0, .slice none 0 0, .slice none 0 0, .int .i64 0, .slice none 0 0, .int .i64 0, .slice none 0 0, .int .i64 0, .int .i64 0], .slice none 0 0], []⟩ 8 (by kernel_rfl) (by kernel_rfl) (by kernel_rfl) (by kernel_rfl)) ?_
  intro W base args ds gs before hval0 hW hcnd _
  have hval : ∀ (j : Nat) t v, Tryz.f3.params[j]? = some t → args[j]? = some v → Value.okWide Tryz.prog W .any base t v := hval0
  have hW' := hW
  obtain ⟨p, q, hA0, hV, rfl, hfz, hnd⟩ := hW
  have hA : DataW.TrodAll enc Tryz.prog W 0 (fun _ => true) true Tryz.f3.params.toList args.toList ds p := hA0
  rw [Tryz.params3] at hA hval
  obtain ⟨v0, vs0, d0, ds0, p0, q0, hargs, rfl, rfl, h0, r0⟩ := trodAll_cons hA
  obtain ⟨v1, vs1, d1, ds1, p1, q1, rfl, rfl, rfl, h1, r1⟩ := trodAll_cons r0
  obtain ⟨rfl, rfl, rfl⟩ := trodAll_nil r1
  obtain rfl : args = #[v0, v1] := by cases args; simp_all
  obtain ⟨rfl, rfl⟩ := trodVars_none hV
  have k0 := h0
  have lt0 : ∀ x ∈ p0, x.block < W.heap.size := by obtain ⟨m, hm⟩ := k0; exact DataW.trod_lt m _ _ _ hm
  obtain ⟨y0, w0⟩ := V.Wg (n := 12) (l := e_l) (show V.yq Tryz.prog 12 27 = some e_l by kernel_rfl) (List.cons_ne_nil _ _) (hval 0 27 v0 rfl rfl) h0
  rw [show V.isAgg Tryz.prog 27 = true by kernel_rfl] at w0
  have k1 := h1
  have lt1 : ∀ x ∈ p1, x.block < W.heap.size := by obtain ⟨m, hm⟩ := k1; exact DataW.trod_lt m _ _ _ hm
  obtain ⟨y1, w1⟩ := V.Wg (n := 12) (l := [(.list (.int .u8))]) (show V.yq Tryz.prog 12 28 = some [(.list (.int .u8))] by kernel_rfl) (List.cons_ne_nil _ _) (hval 1 28 v1 rfl rfl) h1
  rw [show V.isAgg Tryz.prog 28 = false by kernel_rfl] at w1
  clear hA0 hval0
  refine (e_walk W #[v0, v1] (y0, y1) ⟨v0, [v1], rfl, w0, ⟨v1, rfl, w1⟩⟩).mono fun e W' ⟨he, bel⟩ => ?_
  subst he
  exact ⟨_, rfl, _, _, _, [], _, [], hW', trodAll_mk1 (shut_bool Tryz.underlying4 _), (trodAll_cons_mk (Below.trod e_laid (by kernel_rfl) (of_decide_eq_true (by kernel_rfl)) k0 bel lt0) (trodAll_cons_mk (Below.trod e_laid (by kernel_rfl) (of_decide_eq_true (by kernel_rfl)) k1 bel lt1) trodAll_mk0)), rfl, bel.frame _, fun h => by cases h⟩

theorem e_named : Tryz.pinned.checked.prog.funcNamed Rows.enginePlaysRow.func = some 3 := by kernel_rfl
theorem e_and {a b : Bool} (x : a = true) (y : b = true) : (a && b) = true := by rw [x, y]; rfl
set_option maxHeartbeats 40000000 in
theorem e_facts : joinedFacts Tryz.pinned.checked.prog 3 Tryz.f3 Rows.enginePlaysSpec Rows.enginePlaysRow = true := by
  unfold joinedFacts
  repeat' with_reducible refine e_and ?_ ?_
  all_goals as_aux_lemma => kernel_rfl
theorem e_inst : Tryz.f3.isInstance Tryz.pinned.checked.prog Rows.enginePlaysRow.origin Rows.enginePlaysRow.targs := of_decide_eq_true (by kernel_rfl)
theorem e_wrap : Tryz.f3.isWrapper Tryz.pinned.checked.prog Rows.enginePlaysRow.wrapper Rows.enginePlaysRow.mainSum := by unfold Func.isWrapper; first | (rw [if_pos (by decide +kernel)]; kernel_rfl) | (rw [if_neg (by decide +kernel)]; exact ⟨rfl, rfl⟩)
theorem e_over : Rows.enginePlaysRow.holds Tryz.pinned (OpenSpec.ofChange Rows.enginePlaysSpec) :=
  OpenClaim.holds_of_wide 3 Tryz.f3 rfl rfl rfl rfl rfl rfl rfl ⟨rfl, rfl, rfl, rfl, rfl⟩ rfl rfl rfl rfl rfl e_named Tryz.func3 e_facts
    e_inst e_wrap
    (fun os started H enc _ => e_lifted os started H enc)

theorem enginePlaysProved : Rows.EnginePlaysSaid := e_over
#print axioms enginePlaysProved
end Go.Proofs.YtknphpcjacoaeaaGreat
