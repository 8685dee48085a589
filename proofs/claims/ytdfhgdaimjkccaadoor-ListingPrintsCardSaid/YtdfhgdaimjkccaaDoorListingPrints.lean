/- ListingPrintsCardSaid: what the given statement of that name says: the law returns true at every input, and its arguments read behind the call as they read before. No condition. -/
import Derived.Test.YtdfhgdaimjkccaaDoorL11w
import Derived.Test.YtdfhgdaimjkccaaDoorP11q
import Derived.Test.YtdfhgdaimjkccaaDoorV25
import Derived.ProofKit
import Derived.OpenShut
import Derived.ShutString
import Derived.ChangeOld
import Derived.Below
import Derived.LaidMore
import Derived.Stop.Joined
import Derived.Lib.LaidU8
import Derived.Test.YtdfhgdaimjkccaaDoorCards
import Derived.Test.YtdfhgdaimjkccaaDoorTie
import Derived.SevenTiedAt
namespace Go.Proofs.YtdfhgdaimjkccaaDoor
open Go.ChangeShapes Go.WideShapes Go.ChangeAt Go.RowKit
set_option linter.unusedVariables false

theorem listingPrintsProved_own : ownKnob Tryd.prog.godebug = none := by kernel_rfl
theorem listingPrintsProved_laid : laidOutB Tryd.prog = true := by kernel_rfl
def listingPrintsProved_ks : List (Bool × V.Sh) := [(true, V.nest [(.int .i64), (.list (.pair (.int .i64) (.pair (.int .i64) (.pair (.int .i64) (.pair (.int .i64) (.int .u64))))))]), (true, V.nest [(.int .i64), (.int .i64), (.int .i64), (.int .i64), (.int .u64)])]

set_option maxRecDepth 100000 in
theorem listingPrintsProved_walk (w : World) (vs : Array Value) (x : V.All listingPrintsProved_ks) (hA : V.ArgsRd w listingPrintsProved_ks vs.toList x) (hT : Ab.Tabs Tryd.prog w) :
    Calls Tryd.prog 3 vs w fun e w' => e = .returned (.bool true) ∧ Below w.heap.size w w' := by
  obtain ⟨⟨x0_0, x0_1⟩, ⟨x1_0, x1_1, x1_2, x1_3, x1_4⟩⟩ := x
  have hB := hA
  obtain ⟨_, _, _, b0, hB⟩ := hB
  obtain ⟨_, _, b1⟩ := hB
  have f0 := V.ArgRd.fine b0
  have f1 := V.ArgRd.fine b1
  refine V.law_args (vals := V.F_law11_ListingPrints.vals) (run := V.F_law11_ListingPrints.run) V.R_law11_ListingPrints hT listingPrintsProved_ks ((x0_0, x0_1), (x1_0, x1_1, x1_2, x1_3, x1_4)) (x0_0, x0_1, x1_0, x1_1, x1_2, x1_3, x1_4) hA (by kernel_rfl) ?_
  exact V.law11_prints x0_0 x0_1 x1_0 x1_1 x1_2 x1_3 x1_4 (fun x hx => (f0.2.2 x hx).2.2.2.2) f1.2.2.2.2

theorem listingPrintsProved_g : Tryd.prog.globalNamed "internal/strconv.uint64pow10" = some 0 := by kernel_rfl
theorem listingPrintsProved_gt : (Tryd.prog.globals[0]?).map (·.type) = some 119 := by kernel_rfl
theorem tabIs_of_reads {P : Program} {W : World} {name : String} {k : IntKind} {zs : List Int} {g : Nat} {t e : TypeId} {n : Nat}
    (hg : P.globalNamed name = some g) (hty : (P.globals[g]?).map (·.type) = some t) (ht : P.underlying t = some (.array n e)) (he : P.underlying e = some (.int k)) (hce : P.cellsOf e = 1) (hct : P.cellsOf t = n)
    (h : Lib.VarReads P W name (Lib.tabData k zs)) : Lib.TabIs P W name k zs := by
  obtain ⟨g', t', cs, fuel, p, hg', ht', hvar, hd⟩ := h
  obtain rfl := Option.some.inj (hg.symm.trans hg')
  obtain rfl := Option.some.inj (hty.symm.trans ht')
  unfold Lib.TabIs
  rw [hvar, ← Lib.cells_of_tab ht he hce hct hd]
theorem listingPrintsProved_tabs {W : World} (h : laidMetH Tryd.prog Rows.listingPrintsRow.laid W) : Ab.Tabs Tryd.prog W := fun _ => by
  rw [MakeChecks.laidMetH_plain _ _ _ (by kernel_rfl)] at h
  have hr : Lib.VarReads Tryd.prog W "internal/strconv.uint64pow10" (Lib.tabData .u64 Lib.pow10Tab) := Lib.laidMet.reads h (show ("internal/strconv.uint64pow10", (Rows.laid_internal_strconv_uint64pow10 : DataW Unit)) ∈ Rows.listingPrintsRow.laid from .tail _ (.tail _ (.head _)))
  exact tabIs_of_reads listingPrintsProved_g listingPrintsProved_gt (show Tryd.prog.underlying 119 = some (.array 20 25) by kernel_rfl) (show Tryd.prog.underlying 25 = some (.int .u64) by kernel_rfl) (by kernel_rfl) (by kernel_rfl) hr
theorem listingPrintsProved_met (os : Os) (args : Array Value) : laidMetH Tryd.prog Rows.listingPrintsRow.laid ((World.doorLaid Tryd.prog 400 os).forCall (fun _ _ => 0) ⟨#[], args, []⟩).memory := by
  rw [MakeChecks.laidMetH_plain _ _ _ (by kernel_rfl)]
  exact laidMet_of_run' 8 (by kernel_rfl) (by kernel_rfl)
set_option maxRecDepth 100000 in
theorem listingPrintsProved_lifted (os : Os) (started : os.Started) (H : Type) (enc : TypeId × Value → H) :
    ReturnsInHanded {} Tryd.checked os 3 .any (fun w args => (Rows.listingPrintsSpec.pre enc Tryd.prog Tryd.f3 [] false w args ∧ laidMetH Tryd.prog Rows.listingPrintsRow.laid w) ∧ sizedMet enc Tryd.prog Tryd.f3 (OpenSpec.ofChange Rows.listingPrintsSpec) false w args) (Rows.listingPrintsSpec.post enc Tryd.prog Tryd.f3 false true false false) := by
  refine returnsInHanded_of_change_and (C := Tryd.checked) (X := fun w _ => laidMetH Tryd.prog Rows.listingPrintsRow.laid w) (fun _ _ _ hh h => h.of_heap hh) listingPrintsProved_own started (by kernel_rfl) Tryd.func3
    (ChangeSpec.witness_shaped (enc := enc) (C := Tryd.checked) (os := os) (X := fun w _ => laidMetH Tryd.prog Rows.listingPrintsRow.laid w) false (World.doorLaid Tryd.prog 400 os) #[.agg #[.int .i64 0, .slice none 0 0], .agg #[.int .i64 0, .int .i64 0, .int .i64 0, .int .i64 0, .int .u64 0]] 8 rfl (World.shaped_of_RefB (by kernel_rfl) (by kernel_rfl)) (by kernel_rfl) (by kernel_rfl) (by kernel_rfl) (listingPrintsProved_met os _)) ?_
  intro W base args ds gs before hval0 hW hcnd _ hL _
  have hval : ∀ (j : Nat) t v, Tryd.f3.params[j]? = some t → args[j]? = some v → Value.okWide Tryd.prog W .any base t v := hval0
  have hW' := hW
  obtain ⟨p, q, hA0, hV, rfl, hfz, hnd⟩ := hW
  have hA : DataW.TrodAll enc Tryd.prog W 0 (fun _ => true) true Tryd.f3.params.toList args.toList ds p := hA0
  rw [Tryd.params3] at hA hval
  obtain ⟨v0, vs0, d0, ds0, p0, q0, hargs, rfl, rfl, h0, r0⟩ := trodAll_cons hA
  obtain ⟨v1, vs1, d1, ds1, p1, q1, rfl, rfl, rfl, h1, r1⟩ := trodAll_cons r0
  obtain ⟨rfl, rfl, rfl⟩ := trodAll_nil r1
  obtain rfl : args = #[v0, v1] := by cases args; simp_all
  obtain ⟨rfl, rfl⟩ := trodVars_none hV
  have k0 := h0
  have lt0 : ∀ x ∈ p0, x.block < W.heap.size := by obtain ⟨m, hm⟩ := k0; exact DataW.trod_lt m _ _ _ hm
  obtain ⟨y0, w0⟩ := V.open_arg (n := 12) (l := [(.int .i64), (.list (.pair (.int .i64) (.pair (.int .i64) (.pair (.int .i64) (.pair (.int .i64) (.int .u64))))))]) (show V.flatT Tryd.prog 12 24 = some [(.int .i64), (.list (.pair (.int .i64) (.pair (.int .i64) (.pair (.int .i64) (.pair (.int .i64) (.int .u64))))))] by kernel_rfl) (List.cons_ne_nil _ _) (hval 0 24 v0 rfl rfl) h0
  rw [show V.isAgg Tryd.prog 24 = true by kernel_rfl] at w0
  have k1 := h1
  have lt1 : ∀ x ∈ p1, x.block < W.heap.size := by obtain ⟨m, hm⟩ := k1; exact DataW.trod_lt m _ _ _ hm
  obtain ⟨y1, w1⟩ := V.open_arg (n := 12) (l := [(.int .i64), (.int .i64), (.int .i64), (.int .i64), (.int .u64)]) (show V.flatT Tryd.prog 12 27 = some [(.int .i64), (.int .i64), (.int .i64), (.int .i64), (.int .u64)] by kernel_rfl) (List.cons_ne_nil _ _) (hval 1 27 v1 rfl rfl) h1
  rw [show V.isAgg Tryd.prog 27 = true by kernel_rfl] at w1
  clear hA0 hval0
  refine (listingPrintsProved_walk W #[v0, v1] (y0, y1) ⟨v0, [v1], rfl, w0, ⟨v1, rfl, w1⟩⟩ (listingPrintsProved_tabs hL)).mono fun e W' ⟨he, bel⟩ => ?_
  subst he
  exact ⟨_, rfl, _, _, _, [], _, [], hW', trodAll_mk1 (shut_bool Tryd.underlying4 _), (trodAll_cons_mk (Below.trod listingPrintsProved_laid (by kernel_rfl) (of_decide_eq_true (by kernel_rfl)) k0 bel lt0) (trodAll_cons_mk (Below.trod listingPrintsProved_laid (by kernel_rfl) (of_decide_eq_true (by kernel_rfl)) k1 bel lt1) trodAll_mk0)), rfl, bel.frame _, fun h => by cases h⟩

theorem listingPrintsProved_named : Tryd.pinned.checked.prog.funcNamed Rows.listingPrintsRow.func = some 3 := by kernel_rfl
theorem listingPrintsProved_facts : joinedFacts Tryd.pinned.checked.prog 3 Tryd.f3 Rows.listingPrintsSpec Rows.listingPrintsRow = true := by kernel_rfl
theorem listingPrintsProved_inst : Tryd.f3.isInstance Tryd.pinned.checked.prog Rows.listingPrintsRow.origin Rows.listingPrintsRow.targs := of_decide_eq_true (by kernel_rfl)
theorem listingPrintsProved_wrap : Tryd.f3.isWrapper Tryd.pinned.checked.prog Rows.listingPrintsRow.wrapper Rows.listingPrintsRow.mainSum := by unfold Func.isWrapper; first | (rw [if_pos (by decide +kernel)]; kernel_rfl) | (rw [if_neg (by decide +kernel)]; exact ⟨rfl, rfl⟩)
theorem listingPrintsProved_over : Rows.listingPrintsRow.holds Tryd.pinned (OpenSpec.ofChange Rows.listingPrintsSpec) :=
  OpenClaim.holds_of_wide 3 Tryd.f3 rfl rfl rfl rfl rfl rfl rfl ⟨rfl, rfl, rfl, rfl, rfl⟩ rfl rfl rfl rfl rfl listingPrintsProved_named Tryd.func3 listingPrintsProved_facts
    listingPrintsProved_inst listingPrintsProved_wrap
    (fun os started H enc _ => listingPrintsProved_lifted os started H enc)

theorem listingPrintsProved : Rows.ListingPrintsCardSaid :=
  Claim7.holds_tied_plain_at .later [] [.data, .data, .data] true (true, "fa1b488254eaf950b739aa37ee0f245436334e373ea3c7cf5016880c7a9ab630") false
    listingPrintsProved_over (fun _ h => by cases h) (by kernel_rfl) (fun _ h => by cases h) listingPrints_row_tie rfl ⟨rfl, rfl⟩ (by kernel_rfl) rfl
    (fun f fn hf hfn => by
      obtain rfl : f = 3 := Option.some.inj ((show Tryd.prog.funcNamed "backstitch/backstitchlaw11.ListingPrints" = some 3 by kernel_rfl).symm.trans hf) |>.symm
      obtain rfl : fn = Tryd.f3 := (Option.some.inj (Tryd.func3.symm.trans hfn)).symm
      exact ⟨by kernel_rfl, fun j t ht => by
        rw [Tryd.params3] at ht
        have hm : t ∈ [24, 27] := by simpa using Array.mem_of_getElem? ht
        have hall : ([24, 27].all fun u => !Tryd.prog.wantsStandIn u) = true := by kernel_rfl
        exact (show Tryd.prog.wantsStandIn t = false by simpa using List.all_eq_true.1 hall t hm)⟩)
    (by kernel_rfl)
#print axioms listingPrintsProved
end Go.Proofs.YtdfhgdaimjkccaaDoor
