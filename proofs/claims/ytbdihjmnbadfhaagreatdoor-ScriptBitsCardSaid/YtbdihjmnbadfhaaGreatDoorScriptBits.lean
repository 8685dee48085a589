/- ScriptBitsCardSaid: what the given statement of that name says: the law returns true at every input, and its arguments read behind the call as they read before. No condition. -/
import Derived.Test.YtbdihjmnbadfhaaGreatDoorL38b
import Derived.Test.YtbdihjmnbadfhaaGreatDoorP38b
import Derived.Test.YtbdihjmnbadfhaaGreatDoorV25
import Derived.ProofKit
import Derived.OpenShut
import Derived.ShutString
import Derived.ChangeOld
import Derived.Below
import Derived.LaidMore
import Derived.Stop.Joined
import Derived.Lib.LaidU8
import Derived.Test.YtbdihjmnbadfhaaGreatDoorCards
import Derived.Test.YtbdihjmnbadfhaaGreatDoorTie
import Derived.SevenTiedAt
namespace Go.Proofs.YtbdihjmnbadfhaaGreatDoor
open Go.ChangeShapes Go.WideShapes Go.ChangeAt Go.RowKit
set_option linter.unusedVariables false

theorem scriptBitsProved_own : ownKnob Tryz.prog.godebug = none := by kernel_rfl
theorem scriptBitsProved_laid : laidOutB Tryz.prog = true := by kernel_rfl
def scriptBitsProved_ks : List (Bool × V.Sh) := [(false, V.nest [(.int .i64)]), (false, V.nest [(.list (.int .u64))])]

set_option maxRecDepth 100000 in
theorem scriptBitsProved_walk (w : World) (vs : Array Value) (x : V.All scriptBitsProved_ks) (hA : V.ArgsRd w scriptBitsProved_ks vs.toList x) (hT : Ab.Tabs Tryz.prog w) :
    Calls Tryz.prog 3 vs w fun e w' => e = .returned (.bool true) ∧ Below w.heap.size w w' := by
  obtain ⟨x0, x1⟩ := x
  have hB := hA
  obtain ⟨_, _, _, b0, hB⟩ := hB
  obtain ⟨_, _, b1⟩ := hB
  have f0 := V.ArgRd.fine b0
  have f1 := V.ArgRd.fine b1
  refine V.law_args (vals := V.F_law38_ScriptBits.vals) (run := V.F_law38_ScriptBits.run) V.R_law38_ScriptBits hT scriptBitsProved_ks (x0, x1) (x0, x1) hA (by kernel_rfl) ?_
  exact V.law38_bits x0 x1 f1.2

theorem scriptBitsProved_g : Tryz.prog.globalNamed "internal/strconv.uint64pow10" = some 0 := by kernel_rfl
theorem scriptBitsProved_gt : (Tryz.prog.globals[0]?).map (·.type) = some 290 := by kernel_rfl
theorem tabIs_of_reads {P : Program} {W : World} {name : String} {k : IntKind} {zs : List Int} {g : Nat} {t e : TypeId} {n : Nat}
    (hg : P.globalNamed name = some g) (hty : (P.globals[g]?).map (·.type) = some t) (ht : P.underlying t = some (.array n e)) (he : P.underlying e = some (.int k)) (hce : P.cellsOf e = 1) (hct : P.cellsOf t = n)
    (h : Lib.VarReads P W name (Lib.tabData k zs)) : Lib.TabIs P W name k zs := by
  obtain ⟨g', t', cs, fuel, p, hg', ht', hvar, hd⟩ := h
  obtain rfl := Option.some.inj (hg.symm.trans hg')
  obtain rfl := Option.some.inj (hty.symm.trans ht')
  unfold Lib.TabIs
  rw [hvar, ← Lib.cells_of_tab ht he hce hct hd]
theorem scriptBitsProved_tabs {W : World} (h : laidMetH Tryz.prog Rows.scriptBitsRow.laid W) : Ab.Tabs Tryz.prog W := fun _ => by
  rw [MakeChecks.laidMetH_plain _ _ _ (by kernel_rfl)] at h
  have hr : Lib.VarReads Tryz.prog W "internal/strconv.uint64pow10" (Lib.tabData .u64 Lib.pow10Tab) := Lib.laidMet.reads h (show ("internal/strconv.uint64pow10", (Rows.laid_internal_strconv_uint64pow10 : DataW Unit)) ∈ Rows.scriptBitsRow.laid from .tail _ (.tail _ (.head _)))
  exact tabIs_of_reads scriptBitsProved_g scriptBitsProved_gt (show Tryz.prog.underlying 290 = some (.array 20 43) by kernel_rfl) (show Tryz.prog.underlying 43 = some (.int .u64) by kernel_rfl) (by kernel_rfl) (by kernel_rfl) hr
theorem scriptBitsProved_met (os : Os) (args : Array Value) : laidMetH Tryz.prog Rows.scriptBitsRow.laid ((World.doorLaid Tryz.prog 400 os).forCall (fun _ _ => 0) ⟨#[], args, []⟩).memory := by
  rw [MakeChecks.laidMetH_plain _ _ _ (by kernel_rfl)]
  exact laidMet_of_run' 8 (by kernel_rfl) (by kernel_rfl)
set_option maxRecDepth 100000 in
theorem scriptBitsProved_lifted (os : Os) (started : os.Started) (H : Type) (enc : TypeId × Value → H) :
    ReturnsInHanded {} Tryz.checked os 3 .any (fun w args => (Rows.scriptBitsSpec.pre enc Tryz.prog Tryz.f3 [] false w args ∧ laidMetH Tryz.prog Rows.scriptBitsRow.laid w) ∧ sizedMet enc Tryz.prog Tryz.f3 (OpenSpec.ofChange Rows.scriptBitsSpec) false w args) (Rows.scriptBitsSpec.post enc Tryz.prog Tryz.f3 false true false false) := by
  refine returnsInHanded_of_change_and (C := Tryz.checked) (X := fun w _ => laidMetH Tryz.prog Rows.scriptBitsRow.laid w) (fun _ _ _ hh h => h.of_heap hh) scriptBitsProved_own started (by kernel_rfl) Tryz.func3
    (ChangeSpec.witness_shaped (enc := enc) (C := Tryz.checked) (os := os) (X := fun w _ => laidMetH Tryz.prog Rows.scriptBitsRow.laid w) false (World.doorLaid Tryz.prog 400 os) #[.int .i64 0, .slice none 0 0] 8 rfl (World.shaped_of_RefB (by kernel_rfl) (by kernel_rfl)) (by kernel_rfl) (by kernel_rfl) (by kernel_rfl) (scriptBitsProved_met os _)) ?_
  intro W base args ds gs before hval0 hW hcnd _ hL _
  have hval : ∀ (j : Nat) t v, Tryz.f3.params[j]? = some t → args[j]? = some v → Value.okWide Tryz.prog W .any base t v := hval0
  have hW' := hW
  obtain ⟨p, q, hA0, hV, rfl, hfz, hnd⟩ := hW
  have hA : DataW.TrodAll enc Tryz.prog W 0 (fun _ => true) true Tryz.f3.params.toList args.toList ds p := hA0
  rw [Tryz.params3] at hA hval
  obtain ⟨v0, vs0, d0, ds0, p0, q0, hargs, rfl, rfl, h0, r0⟩ := trodAll_cons hA
  obtain ⟨v1, vs1, d1, ds1, p1, q1, rfl, rfl, rfl, h1, r1⟩ := trodAll_cons r0
  obtain ⟨rfl, rfl, rfl⟩ := trodAll_nil r1
  obtain rfl : args = #[v0, v1] := by cases args; simp_all
  obtain ⟨rfl, rfl⟩ := trodVars_none hV
  have k0 := h0
  have lt0 : ∀ x ∈ p0, x.block < W.heap.size := by obtain ⟨m, hm⟩ := k0; exact DataW.trod_lt m _ _ _ hm
  obtain ⟨y0, w0⟩ := V.open_arg (n := 12) (l := [(.int .i64)]) (show V.flatT Tryz.prog 12 3 = some [(.int .i64)] by kernel_rfl) (List.cons_ne_nil _ _) (hval 0 3 v0 rfl rfl) h0
  rw [show V.isAgg Tryz.prog 3 = false by kernel_rfl] at w0
  have k1 := h1
  have lt1 : ∀ x ∈ p1, x.block < W.heap.size := by obtain ⟨m, hm⟩ := k1; exact DataW.trod_lt m _ _ _ hm
  obtain ⟨y1, w1⟩ := V.open_arg (n := 12) (l := [(.list (.int .u64))]) (show V.flatT Tryz.prog 12 22 = some [(.list (.int .u64))] by kernel_rfl) (List.cons_ne_nil _ _) (hval 1 22 v1 rfl rfl) h1
  rw [show V.isAgg Tryz.prog 22 = false by kernel_rfl] at w1
  clear hA0 hval0
  refine (scriptBitsProved_walk W #[v0, v1] (y0, y1) ⟨v0, [v1], rfl, w0, ⟨v1, rfl, w1⟩⟩ (scriptBitsProved_tabs hL)).mono fun e W' ⟨he, bel⟩ => ?_
  subst he
  exact ⟨_, rfl, _, _, _, [], _, [], hW', trodAll_mk1 (shut_bool Tryz.underlying4 _), (trodAll_cons_mk (Below.trod scriptBitsProved_laid (by kernel_rfl) (of_decide_eq_true (by kernel_rfl)) k0 bel lt0) (trodAll_cons_mk (Below.trod scriptBitsProved_laid (by kernel_rfl) (of_decide_eq_true (by kernel_rfl)) k1 bel lt1) trodAll_mk0)), rfl, bel.frame _, fun h => by cases h⟩

theorem scriptBitsProved_named : Tryz.pinned.checked.prog.funcNamed Rows.scriptBitsRow.func = some 3 := by kernel_rfl
theorem scriptBitsProved_facts : joinedFacts Tryz.pinned.checked.prog 3 Tryz.f3 Rows.scriptBitsSpec Rows.scriptBitsRow = true := by kernel_rfl
theorem scriptBitsProved_inst : Tryz.f3.isInstance Tryz.pinned.checked.prog Rows.scriptBitsRow.origin Rows.scriptBitsRow.targs := of_decide_eq_true (by kernel_rfl)
theorem scriptBitsProved_wrap : Tryz.f3.isWrapper Tryz.pinned.checked.prog Rows.scriptBitsRow.wrapper Rows.scriptBitsRow.mainSum := by unfold Func.isWrapper; first | (rw [if_pos (by decide +kernel)]; kernel_rfl) | (rw [if_neg (by decide +kernel)]; exact ⟨rfl, rfl⟩)
theorem scriptBitsProved_over : Rows.scriptBitsRow.holds Tryz.pinned (OpenSpec.ofChange Rows.scriptBitsSpec) :=
  OpenClaim.holds_of_wide 3 Tryz.f3 rfl rfl rfl rfl rfl rfl rfl ⟨rfl, rfl, rfl, rfl, rfl⟩ rfl rfl rfl rfl rfl scriptBitsProved_named Tryz.func3 scriptBitsProved_facts
    scriptBitsProved_inst scriptBitsProved_wrap
    (fun os started H enc _ => scriptBitsProved_lifted os started H enc)

theorem scriptBitsProved : Rows.ScriptBitsCardSaid :=
  Claim7.holds_tied_plain_at .later [] [.data, .data, .data] true (true, "f6ef74c11baed8804dd3858b09a0bb9430a1536e6569b59a0418093a1eeeba84") false
    scriptBitsProved_over (fun _ h => by cases h) (by kernel_rfl) (fun _ h => by cases h) scriptBits_row_tie rfl ⟨rfl, rfl⟩ (by kernel_rfl) rfl
    (fun f fn hf hfn => by
      obtain rfl : f = 3 := Option.some.inj ((show Tryz.prog.funcNamed "backstitch/backstitchlaw38.ScriptBits" = some 3 by kernel_rfl).symm.trans hf) |>.symm
      obtain rfl : fn = Tryz.f3 := (Option.some.inj (Tryz.func3.symm.trans hfn)).symm
      exact ⟨by kernel_rfl, fun j t ht => by
        rw [Tryz.params3] at ht
        have hm : t ∈ [3, 22] := by simpa using Array.mem_of_getElem? ht
        have hall : ([3, 22].all fun u => !Tryz.prog.wantsStandIn u) = true := by kernel_rfl
        exact (show Tryz.prog.wantsStandIn t = false by simpa using List.all_eq_true.1 hall t hm)⟩)
    (by kernel_rfl)
#print axioms scriptBitsProved
end Go.Proofs.YtbdihjmnbadfhaaGreatDoor
