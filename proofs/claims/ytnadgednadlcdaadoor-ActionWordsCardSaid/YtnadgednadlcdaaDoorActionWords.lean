/- ActionWordsCardSaid: what the given statement of that name says: the law returns true at every input, and its arguments read behind the call as they read before. No condition. -/
import Derived.Test.YtnadgednadlcdaaDoorL26a
import Derived.Test.YtnadgednadlcdaaDoorP26
import Derived.Test.YtnadgednadlcdaaDoorV25
import Derived.ProofKit
import Derived.OpenShut
import Derived.ShutString
import Derived.ChangeOld
import Derived.Below
import Derived.LaidMore
import Derived.Stop.Joined
import Derived.Lib.LaidU8
import Derived.Test.YtnadgednadlcdaaDoorCards
import Derived.Test.YtnadgednadlcdaaDoorTie
import Derived.SevenTiedAt
namespace Go.Proofs.YtnadgednadlcdaaDoor
open Go.ChangeShapes Go.WideShapes Go.ChangeAt Go.RowKit
set_option linter.unusedVariables false

theorem actionWordsProved_own : ownKnob Tryd.prog.godebug = none := by kernel_rfl
theorem actionWordsProved_laid : laidOutB Tryd.prog = true := by kernel_rfl
def actionWordsProved_ks : List (Bool × V.Sh) := [(true, V.nest [(.int .i64), (.int .i64)]), (false, V.nest [(.int .u64)])]

set_option maxRecDepth 100000 in
theorem actionWordsProved_walk (w : World) (vs : Array Value) (x : V.All actionWordsProved_ks) (hA : V.ArgsRd w actionWordsProved_ks vs.toList x) (hT : Ab.Tabs Tryd.prog w) :
    Calls Tryd.prog 8 vs w fun e w' => e = .returned (.bool true) ∧ Below w.heap.size w w' := by
  obtain ⟨⟨x0_0, x0_1⟩, x1⟩ := x
  have hB := hA
  obtain ⟨_, _, _, b0, hB⟩ := hB
  obtain ⟨_, _, b1⟩ := hB
  have f0 := V.ArgRd.fine b0
  have f1 := V.ArgRd.fine b1
  refine V.law_args (vals := V.F_law26_ActionWords.vals) (run := V.F_law26_ActionWords.run) V.R_law26_ActionWords hT actionWordsProved_ks ((x0_0, x0_1), x1) (x0_0, x0_1, x1) hA (by kernel_rfl) ?_
  exact V.law26_words x0_0 x0_1 x1 f1

theorem actionWordsProved_g : Tryd.prog.globalNamed "internal/strconv.uint64pow10" = some 0 := by kernel_rfl
theorem actionWordsProved_gt : (Tryd.prog.globals[0]?).map (·.type) = some 172 := by kernel_rfl
theorem tabIs_of_reads {P : Program} {W : World} {name : String} {k : IntKind} {zs : List Int} {g : Nat} {t e : TypeId} {n : Nat}
    (hg : P.globalNamed name = some g) (hty : (P.globals[g]?).map (·.type) = some t) (ht : P.underlying t = some (.array n e)) (he : P.underlying e = some (.int k)) (hce : P.cellsOf e = 1) (hct : P.cellsOf t = n)
    (h : Lib.VarReads P W name (Lib.tabData k zs)) : Lib.TabIs P W name k zs := by
  obtain ⟨g', t', cs, fuel, p, hg', ht', hvar, hd⟩ := h
  obtain rfl := Option.some.inj (hg.symm.trans hg')
  obtain rfl := Option.some.inj (hty.symm.trans ht')
  unfold Lib.TabIs
  rw [hvar, ← Lib.cells_of_tab ht he hce hct hd]
theorem actionWordsProved_tabs {W : World} (h : laidMetH Tryd.prog Rows.actionWordsRow.laid W) : Ab.Tabs Tryd.prog W := fun _ => by
  rw [MakeChecks.laidMetH_plain _ _ _ (by kernel_rfl)] at h
  have hr : Lib.VarReads Tryd.prog W "internal/strconv.uint64pow10" (Lib.tabData .u64 Lib.pow10Tab) := Lib.laidMet.reads h (show ("internal/strconv.uint64pow10", (Rows.laid_internal_strconv_uint64pow10 : DataW Unit)) ∈ Rows.actionWordsRow.laid from .tail _ (.tail _ (.head _)))
  exact tabIs_of_reads actionWordsProved_g actionWordsProved_gt (show Tryd.prog.underlying 172 = some (.array 20 31) by kernel_rfl) (show Tryd.prog.underlying 31 = some (.int .u64) by kernel_rfl) (by kernel_rfl) (by kernel_rfl) hr
theorem actionWordsProved_met (os : Os) (args : Array Value) : laidMetH Tryd.prog Rows.actionWordsRow.laid ((World.doorLaid Tryd.prog 400 os).forCall (fun _ _ => 0) ⟨#[], args, []⟩).memory := by
  rw [MakeChecks.laidMetH_plain _ _ _ (by kernel_rfl)]
  exact laidMet_of_run' 8 (by kernel_rfl) (by kernel_rfl)
set_option maxRecDepth 100000 in
theorem actionWordsProved_lifted (os : Os) (started : os.Started) (H : Type) (enc : TypeId × Value → H) :
    ReturnsInHanded {} Tryd.checked os 8 .any (fun w args => (Rows.actionWordsSpec.pre enc Tryd.prog Tryd.f8 [] false w args ∧ laidMetH Tryd.prog Rows.actionWordsRow.laid w) ∧ sizedMet enc Tryd.prog Tryd.f8 (OpenSpec.ofChange Rows.actionWordsSpec) false w args) (Rows.actionWordsSpec.post enc Tryd.prog Tryd.f8 false true false false) := by
  refine returnsInHanded_of_change_and (C := Tryd.checked) (X := fun w _ => laidMetH Tryd.prog Rows.actionWordsRow.laid w) (fun _ _ _ hh h => h.of_heap hh) actionWordsProved_own started (by kernel_rfl) Tryd.func8
    (ChangeSpec.witness_shaped (enc := enc) (C := Tryd.checked) (os := os) (X := fun w _ => laidMetH Tryd.prog Rows.actionWordsRow.laid w) false (World.doorLaid Tryd.prog 400 os) #[.agg #[.int .i64 0, .int .i64 0], .int .u64 0] 8 rfl (World.shaped_of_RefB (by kernel_rfl) (by kernel_rfl)) (by kernel_rfl) (by kernel_rfl) (by kernel_rfl) (actionWordsProved_met os _)) ?_
  intro W base args ds gs before hval0 hW hcnd _ hL _
  have hval : ∀ (j : Nat) t v, Tryd.f8.params[j]? = some t → args[j]? = some v → Value.okWide Tryd.prog W .any base t v := hval0
  have hW' := hW
  obtain ⟨p, q, hA0, hV, rfl, hfz, hnd⟩ := hW
  have hA : DataW.TrodAll enc Tryd.prog W 0 (fun _ => true) true Tryd.f8.params.toList args.toList ds p := hA0
  rw [Tryd.params8] at hA hval
  obtain ⟨v0, vs0, d0, ds0, p0, q0, hargs, rfl, rfl, h0, r0⟩ := trodAll_cons hA
  obtain ⟨v1, vs1, d1, ds1, p1, q1, rfl, rfl, rfl, h1, r1⟩ := trodAll_cons r0
  obtain ⟨rfl, rfl, rfl⟩ := trodAll_nil r1
  obtain rfl : args = #[v0, v1] := by cases args; simp_all
  obtain ⟨rfl, rfl⟩ := trodVars_none hV
  have k0 := h0
  have lt0 : ∀ x ∈ p0, x.block < W.heap.size := by obtain ⟨m, hm⟩ := k0; exact DataW.trod_lt m _ _ _ hm
  obtain ⟨y0, w0⟩ := V.open_arg (n := 12) (l := [(.int .i64), (.int .i64)]) (show V.flatT Tryd.prog 12 46 = some [(.int .i64), (.int .i64)] by kernel_rfl) (List.cons_ne_nil _ _) (hval 0 46 v0 rfl rfl) h0
  rw [show V.isAgg Tryd.prog 46 = true by kernel_rfl] at w0
  have k1 := h1
  have lt1 : ∀ x ∈ p1, x.block < W.heap.size := by obtain ⟨m, hm⟩ := k1; exact DataW.trod_lt m _ _ _ hm
  obtain ⟨y1, w1⟩ := V.open_arg (n := 12) (l := [(.int .u64)]) (show V.flatT Tryd.prog 12 31 = some [(.int .u64)] by kernel_rfl) (List.cons_ne_nil _ _) (hval 1 31 v1 rfl rfl) h1
  rw [show V.isAgg Tryd.prog 31 = false by kernel_rfl] at w1
  clear hA0 hval0
  refine (actionWordsProved_walk W #[v0, v1] (y0, y1) ⟨v0, [v1], rfl, w0, ⟨v1, rfl, w1⟩⟩ (actionWordsProved_tabs hL)).mono fun e W' ⟨he, bel⟩ => ?_
  subst he
  exact ⟨_, rfl, _, _, _, [], _, [], hW', trodAll_mk1 (shut_bool Tryd.underlying4 _), (trodAll_cons_mk (Below.trod actionWordsProved_laid (by kernel_rfl) (of_decide_eq_true (by kernel_rfl)) k0 bel lt0) (trodAll_cons_mk (Below.trod actionWordsProved_laid (by kernel_rfl) (of_decide_eq_true (by kernel_rfl)) k1 bel lt1) trodAll_mk0)), rfl, bel.frame _, fun h => by cases h⟩

theorem actionWordsProved_named : Tryd.pinned.checked.prog.funcNamed Rows.actionWordsRow.func = some 8 := by kernel_rfl
theorem actionWordsProved_facts : joinedFacts Tryd.pinned.checked.prog 8 Tryd.f8 Rows.actionWordsSpec Rows.actionWordsRow = true := by kernel_rfl
theorem actionWordsProved_inst : Tryd.f8.isInstance Tryd.pinned.checked.prog Rows.actionWordsRow.origin Rows.actionWordsRow.targs := of_decide_eq_true (by kernel_rfl)
theorem actionWordsProved_wrap : Tryd.f8.isWrapper Tryd.pinned.checked.prog Rows.actionWordsRow.wrapper Rows.actionWordsRow.mainSum := by unfold Func.isWrapper; first | (rw [if_pos (by decide +kernel)]; kernel_rfl) | (rw [if_neg (by decide +kernel)]; exact ⟨rfl, rfl⟩)
theorem actionWordsProved_over : Rows.actionWordsRow.holds Tryd.pinned (OpenSpec.ofChange Rows.actionWordsSpec) :=
  OpenClaim.holds_of_wide 8 Tryd.f8 rfl rfl rfl rfl rfl rfl rfl ⟨rfl, rfl, rfl, rfl, rfl⟩ rfl rfl rfl rfl rfl actionWordsProved_named Tryd.func8 actionWordsProved_facts
    actionWordsProved_inst actionWordsProved_wrap
    (fun os started H enc _ => actionWordsProved_lifted os started H enc)

theorem actionWordsProved : Rows.ActionWordsCardSaid :=
  Claim7.holds_tied_plain_at .later [] [.data, .data, .data] true (true, "065a69ca1ea91a18cf88b61d6ef24cc804c62e8b2b7b719aaa79cfade03e898a") false
    actionWordsProved_over (fun _ h => by cases h) (by kernel_rfl) (fun _ h => by cases h) actionWords_row_tie rfl ⟨rfl, rfl⟩ (by kernel_rfl) rfl
    (fun f fn hf hfn => by
      obtain rfl : f = 8 := Option.some.inj ((show Tryd.prog.funcNamed "backstitch/backstitchlaw26.ActionWords" = some 8 by kernel_rfl).symm.trans hf) |>.symm
      obtain rfl : fn = Tryd.f8 := (Option.some.inj (Tryd.func8.symm.trans hfn)).symm
      exact ⟨by kernel_rfl, fun j t ht => by
        rw [Tryd.params8] at ht
        have hm : t ∈ [46, 31] := by simpa using Array.mem_of_getElem? ht
        have hall : ([46, 31].all fun u => !Tryd.prog.wantsStandIn u) = true := by kernel_rfl
        exact (show Tryd.prog.wantsStandIn t = false by simpa using List.all_eq_true.1 hall t hm)⟩)
    (by kernel_rfl)
#print axioms actionWordsProved
end Go.Proofs.YtnadgednadlcdaaDoor
