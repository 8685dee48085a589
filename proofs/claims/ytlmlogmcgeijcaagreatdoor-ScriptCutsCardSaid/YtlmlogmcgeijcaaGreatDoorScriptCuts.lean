/- ScriptCutsCardSaid: what the given statement of that name says: the law returns true at every input, and its arguments read behind the call as they read before. No condition. -/
import Derived.Test.YtlmlogmcgeijcaaGreatDoorL5
import Derived.Test.YtlmlogmcgeijcaaGreatDoorP1
import Derived.Test.YtlmlogmcgeijcaaGreatDoorA6
import Derived.ProofKit
import Derived.OpenShut
import Derived.ShutString
import Derived.ChangeOld
import Derived.Below
import Derived.LaidMore
import Derived.Stop.Joined
import Derived.Lib.LaidU8
import Derived.Test.YtlmlogmcgeijcaaGreatDoorCards
import Derived.Test.YtlmlogmcgeijcaaGreatDoorTie
import Derived.SevenTiedAt
namespace Go.Proofs.YtlmlogmcgeijcaaGreatDoor
open Go.ChangeShapes Go.WideShapes Go.ChangeAt Go.RowKit
set_option linter.unusedVariables false

theorem e_own : ownKnob Tryz.prog.godebug = none := by kernel_rfl
theorem e_laid : laidOutB Tryz.prog = true := by kernel_rfl
def e_ks : List (Bool × V.Sh) := [(true, V.Au [(.int .i64), (.list (.int .u64)), (.list (.int .u64)), (.int .i64), (.list (.pair (.int .i64) (.pair (.int .i64) (.pair (.int .i64) (.pair (.int .i64) (.int .u64)))))), (.int .i64), (.list (.pair (.int .i64) (.pair (.int .i64) (.pair (.int .i64) (.pair (.int .i64) (.int .u64)))))), (.int .i64), (.int .i64)]), (false, V.Au [(.list (.int .u64))]), (false, V.Au [(.list (.int .u64))]), (false, V.Au [(.int .i64)])]

set_option maxRecDepth 1000000 in
theorem e_walk (w : World) (vs : Array Value) (x : V.All e_ks) (hA : V.O0 w e_ks vs.toList x) (hT : Ab.Re Tryz.prog w) :
    Calls Tryz.prog 4 vs w fun e w' => e = .returned (.bool true) ∧ Below w.heap.size w w' := by
  obtain ⟨⟨x0_0, x0_1, x0_2, x0_3, x0_4, x0_5, x0_6, x0_7, x0_8⟩, x1, x2, x3⟩ := x
  have hB := hA
  obtain ⟨_, _, _, b0, hB⟩ := hB
  obtain ⟨_, _, _, b1, hB⟩ := hB
  obtain ⟨_, _, _, b2, hB⟩ := hB
  obtain ⟨_, _, b3⟩ := hB
  have f0 := V.Ed.fine b0
  have f1 := V.Ed.fine b1
  have f2 := V.Ed.fine b2
  have f3 := V.Ed.fine b3
  refine V.ae0 V.GF hT e_ks ((x0_0, x0_1, x0_2, x0_3, x0_4, x0_5, x0_6, x0_7, x0_8), x1, x2, x3) (x0_0, x0_1, x0_2, x0_3, x0_4, x0_5, x0_6, x0_7, x0_8, x1, x2, x3) hA (by kernel_rfl) ?_
  exact V.Uj (fun o ho => (f0.2.2.2.2.1.2 o ho).2.2.2.2) (fun o ho => (f0.2.2.2.2.2.2.1.2 o ho).2.2.2.2) f0.2.1.2 f0.2.2.1.2 f1.2 f2.2

theorem e_g : Tryz.prog.globalNamed "internal/strconv.uint64pow10" = some 0 := by kernel_rfl
theorem e_gt : (Tryz.prog.globals[0]?).map (·.type) = some 280 := by kernel_rfl
theorem e_tabIs {P : Program} {W : World} {name : String} {k : IntKind} {zs : List Int} {g : Nat} {t e : TypeId} {n : Nat}
    (hg : P.globalNamed name = some g) (hty : (P.globals[g]?).map (·.type) = some t) (ht : P.underlying t = some (.array n e)) (he : P.underlying e = some (.int k)) (hce : P.cellsOf e = 1) (hct : P.cellsOf t = n)
    (h : Lib.VarReads P W name (Lib.tabData k zs)) : Lib.TabIs P W name k zs := by
  obtain ⟨g', t', cs, fuel, p, hg', ht', hvar, hd⟩ := h
  obtain rfl := Option.some.inj (hg.symm.trans hg')
  obtain rfl := Option.some.inj (hty.symm.trans ht')
  unfold Lib.TabIs
  rw [hvar, ← Lib.cells_of_tab ht he hce hct hd]
theorem e_tabs {W : World} (h : laidMetH Tryz.prog Rows.scriptCutsRow.laid W) : Ab.Re Tryz.prog W := fun _ => by
  rw [MakeChecks.laidMetH_plain _ _ _ (by kernel_rfl)] at h
  have hr : Lib.VarReads Tryz.prog W "internal/strconv.uint64pow10" (Lib.tabData .u64 Lib.pow10Tab) := Lib.laidMet.reads h (show ("internal/strconv.uint64pow10", (Rows.laid_internal_strconv_uint64pow10 : DataW Unit)) ∈ Rows.scriptCutsRow.laid from .tail _ (.tail _ (.head _)))
  exact e_tabIs e_g e_gt (show Tryz.prog.underlying 280 = some (.array 20 34) by kernel_rfl) (show Tryz.prog.underlying 34 = some (.int .u64) by kernel_rfl) (by kernel_rfl) (by kernel_rfl) hr
theorem e_met (os : Os) (args : Array Value) : laidMetH Tryz.prog Rows.scriptCutsRow.laid ((World.doorLaid Tryz.prog 400 os).forCall (fun _ _ => 0) ⟨#[], args, []⟩).memory := by
  rw [MakeChecks.laidMetH_plain _ _ _ (by kernel_rfl)]
  exact laidMet_of_run' 8 (by kernel_rfl) (by kernel_rfl)
set_option maxRecDepth 1000000 in
theorem e_lifted (os : Os) (started : os.Started) (H : Type) (enc : TypeId × Value → H) :
    ReturnsInHanded {} Tryz.checked os 4 .any (fun w args => (Rows.scriptCutsSpec.pre enc Tryz.prog Tryz.f4 [] false w args ∧ laidMetH Tryz.prog Rows.scriptCutsRow.laid w) ∧ sizedMet enc Tryz.prog Tryz.f4 (OpenSpec.ofChange Rows.scriptCutsSpec) false w args) (Rows.scriptCutsSpec.post enc Tryz.prog Tryz.f4 false true false false) := by
  refine returnsInHanded_of_change_and (C := Tryz.checked) (X := fun w _ => laidMetH Tryz.prog Rows.scriptCutsRow.laid w) (fun _ _ _ hh h => h.of_heap hh) e_own started (by kernel_rfl) Tryz.func4
    (ChangeSpec.witness_shaped (enc := enc) (C := Tryz.checked) (os := os) (X := fun w _ => laidMetH Tryz.prog Rows.scriptCutsRow.laid w) false (World.doorLaid Tryz.prog 400 os) #[.agg #[.int .i64 0, .slice none 0 0, .slice none 0 0, .int .i64 0, .slice none 0 0, .int .i64 0, .slice none 0 0, .int .i64 0, .int .i64 0], .slice none 0 0, .slice none 0 0, .int .i64 0] 8 rfl (World.shaped_of_RefB (by kernel_rfl) (by kernel_rfl)) (by kernel_rfl) (by kernel_rfl) (by kernel_rfl) (e_met os _)) ?_
  intro W base args ds gs before hval0 hW hcnd _ hL _
  have hval : ∀ (j : Nat) t v, Tryz.f4.params[j]? = some t → args[j]? = some v → Value.okWide Tryz.prog W .any base t v := hval0
  have hW' := hW
  obtain ⟨p, q, hA0, hV, rfl, hfz, hnd⟩ := hW
  have hA : DataW.TrodAll enc Tryz.prog W 0 (fun _ => true) true Tryz.f4.params.toList args.toList ds p := hA0
  rw [Tryz.params4] at hA hval
  obtain ⟨v0, vs0, d0, ds0, p0, q0, hargs, rfl, rfl, h0, r0⟩ := trodAll_cons hA
  obtain ⟨v1, vs1, d1, ds1, p1, q1, rfl, rfl, rfl, h1, r1⟩ := trodAll_cons r0
  obtain ⟨v2, vs2, d2, ds2, p2, q2, rfl, rfl, rfl, h2, r2⟩ := trodAll_cons r1
  obtain ⟨v3, vs3, d3, ds3, p3, q3, rfl, rfl, rfl, h3, r3⟩ := trodAll_cons r2
  obtain ⟨rfl, rfl, rfl⟩ := trodAll_nil r3
  obtain rfl : args = #[v0, v1, v2, v3] := by cases args; simp_all
  obtain ⟨rfl, rfl⟩ := trodVars_none hV
  have k0 := h0
  have lt0 : ∀ x ∈ p0, x.block < W.heap.size := by obtain ⟨m, hm⟩ := k0; exact DataW.trod_lt m _ _ _ hm
  obtain ⟨y0, w0⟩ := V.HW (n := 12) (l := [(.int .i64), (.list (.int .u64)), (.list (.int .u64)), (.int .i64), (.list (.pair (.int .i64) (.pair (.int .i64) (.pair (.int .i64) (.pair (.int .i64) (.int .u64)))))), (.int .i64), (.list (.pair (.int .i64) (.pair (.int .i64) (.pair (.int .i64) (.pair (.int .i64) (.int .u64)))))), (.int .i64), (.int .i64)]) (show V.sa Tryz.prog 12 27 = some [(.int .i64), (.list (.int .u64)), (.list (.int .u64)), (.int .i64), (.list (.pair (.int .i64) (.pair (.int .i64) (.pair (.int .i64) (.pair (.int .i64) (.int .u64)))))), (.int .i64), (.list (.pair (.int .i64) (.pair (.int .i64) (.pair (.int .i64) (.pair (.int .i64) (.int .u64)))))), (.int .i64), (.int .i64)] by kernel_rfl) (List.cons_ne_nil _ _) (hval 0 27 v0 rfl rfl) h0
  rw [show V.isAgg Tryz.prog 27 = true by kernel_rfl] at w0
  have k1 := h1
  have lt1 : ∀ x ∈ p1, x.block < W.heap.size := by obtain ⟨m, hm⟩ := k1; exact DataW.trod_lt m _ _ _ hm
  obtain ⟨y1, w1⟩ := V.HW (n := 12) (l := [(.list (.int .u64))]) (show V.sa Tryz.prog 12 22 = some [(.list (.int .u64))] by kernel_rfl) (List.cons_ne_nil _ _) (hval 1 22 v1 rfl rfl) h1
  rw [show V.isAgg Tryz.prog 22 = false by kernel_rfl] at w1
  have k2 := h2
  have lt2 : ∀ x ∈ p2, x.block < W.heap.size := by obtain ⟨m, hm⟩ := k2; exact DataW.trod_lt m _ _ _ hm
  obtain ⟨y2, w2⟩ := V.HW (n := 12) (l := [(.list (.int .u64))]) (show V.sa Tryz.prog 12 22 = some [(.list (.int .u64))] by kernel_rfl) (List.cons_ne_nil _ _) (hval 2 22 v2 rfl rfl) h2
  rw [show V.isAgg Tryz.prog 22 = false by kernel_rfl] at w2
  have k3 := h3
  have lt3 : ∀ x ∈ p3, x.block < W.heap.size := by obtain ⟨m, hm⟩ := k3; exact DataW.trod_lt m _ _ _ hm
  obtain ⟨y3, w3⟩ := V.HW (n := 12) (l := [(.int .i64)]) (show V.sa Tryz.prog 12 3 = some [(.int .i64)] by kernel_rfl) (List.cons_ne_nil _ _) (hval 3 3 v3 rfl rfl) h3
  rw [show V.isAgg Tryz.prog 3 = false by kernel_rfl] at w3
  clear hA0 hval0
  refine (e_walk W #[v0, v1, v2, v3] (y0, y1, y2, y3) ⟨v0, [v1, v2, v3], rfl, w0, ⟨v1, [v2, v3], rfl, w1, ⟨v2, [v3], rfl, w2, ⟨v3, rfl, w3⟩⟩⟩⟩ (e_tabs hL)).mono fun e W' ⟨he, bel⟩ => ?_
  subst he
  exact ⟨_, rfl, _, _, _, [], _, [], hW', trodAll_mk1 (shut_bool Tryz.underlying4 _), (trodAll_cons_mk (Below.trod e_laid (by kernel_rfl) (of_decide_eq_true (by kernel_rfl)) k0 bel lt0) (trodAll_cons_mk (Below.trod e_laid (by kernel_rfl) (of_decide_eq_true (by kernel_rfl)) k1 bel lt1) (trodAll_cons_mk (Below.trod e_laid (by kernel_rfl) (of_decide_eq_true (by kernel_rfl)) k2 bel lt2) (trodAll_cons_mk (Below.trod e_laid (by kernel_rfl) (of_decide_eq_true (by kernel_rfl)) k3 bel lt3) trodAll_mk0)))), rfl, bel.frame _, fun h => by cases h⟩

theorem e_named : Tryz.pinned.checked.prog.funcNamed Rows.scriptCutsRow.func = some 4 := by kernel_rfl
theorem e_and {a b : Bool} (x : a = true) (y : b = true) : (a && b) = true := by rw [x, y]; rfl
set_option maxHeartbeats 40000000 in
theorem e_facts : joinedFacts Tryz.pinned.checked.prog 4 Tryz.f4 Rows.scriptCutsSpec Rows.scriptCutsRow = true := by
  unfold joinedFacts
  repeat' with_reducible refine e_and ?_ ?_
  all_goals as_aux_lemma => kernel_rfl
theorem e_inst : Tryz.f4.isInstance Tryz.pinned.checked.prog Rows.scriptCutsRow.origin Rows.scriptCutsRow.targs := of_decide_eq_true (by kernel_rfl)
theorem e_wrap : Tryz.f4.isWrapper Tryz.pinned.checked.prog Rows.scriptCutsRow.wrapper Rows.scriptCutsRow.mainSum := by unfold Func.isWrapper; first | (rw [if_pos (by decide +kernel)]; kernel_rfl) | (rw [if_neg (by decide +kernel)]; exact ⟨rfl, rfl⟩)
theorem e_over : Rows.scriptCutsRow.holds Tryz.pinned (OpenSpec.ofChange Rows.scriptCutsSpec) :=
  OpenClaim.holds_of_wide 4 Tryz.f4 rfl rfl rfl rfl rfl rfl rfl ⟨rfl, rfl, rfl, rfl, rfl⟩ rfl rfl rfl rfl rfl e_named Tryz.func4 e_facts
    e_inst e_wrap
    (fun os started H enc _ => e_lifted os started H enc)

theorem scriptCutsProved : Rows.ScriptCutsCardSaid :=
  Claim7.holds_tied_plain_at .later [] [.data, .data, .data] true (true, "3f37177f75e5b765e6345231dd3ceada4b0fb71446761034968ac5d103fa5050") false
    e_over (fun _ h => by cases h) (by kernel_rfl) (fun _ h => by cases h) scriptCuts_row_tie rfl ⟨rfl, rfl⟩ (by kernel_rfl) rfl
    (fun f fn hf hfn => by
      obtain rfl : f = 4 := Option.some.inj ((show Tryz.prog.funcNamed "backstitch/backstitchlaw38.ScriptCuts" = some 4 by kernel_rfl).symm.trans hf) |>.symm
      obtain rfl : fn = Tryz.f4 := (Option.some.inj (Tryz.func4.symm.trans hfn)).symm
      exact ⟨by kernel_rfl, fun j t ht => by
        rw [Tryz.params4] at ht
        have hm : t ∈ [27, 22, 22, 3] := by simpa using Array.mem_of_getElem? ht
        have hall : ([27, 22, 22, 3].all fun u => !Tryz.prog.wantsStandIn u) = true := by kernel_rfl
        exact (show Tryz.prog.wantsStandIn t = false by simpa using List.all_eq_true.1 hall t hm)⟩)
    (by kernel_rfl)
#print axioms scriptCutsProved
end Go.Proofs.YtlmlogmcgeijcaaGreatDoor
