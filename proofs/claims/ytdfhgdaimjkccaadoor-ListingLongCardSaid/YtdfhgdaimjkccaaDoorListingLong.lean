/- ListingLongCardSaid: what the given statement of that name says: the law returns true at every input, and its arguments read behind the call as they read before. No condition. -/
import Derived.Test.YtdfhgdaimjkccaaDoorL11k
import Derived.Test.YtdfhgdaimjkccaaDoorP11k
import Derived.Test.YtdfhgdaimjkccaaDoorV25
import Derived.ProofKit
import Derived.OpenShut
import Derived.ShutString
import Derived.ChangeOld
import Derived.Below
import Derived.LaidMore
import Derived.Stop.Joined
import Derived.Lib.LaidU8
import Derived.Test.YtdfhgdaimjkccaaDoorCards
import Derived.Test.YtdfhgdaimjkccaaDoorTie
import Derived.SevenTiedAt
namespace Go.Proofs.YtdfhgdaimjkccaaDoor
open Go.ChangeShapes Go.WideShapes Go.ChangeAt Go.RowKit
set_option linter.unusedVariables false

theorem listingLongProved_own : ownKnob Tryd.prog.godebug = none := by kernel_rfl
theorem listingLongProved_laid : laidOutB Tryd.prog = true := by kernel_rfl
def listingLongProved_ks : List (Bool × V.Sh) := [(false, V.nest [.bool])]

set_option maxRecDepth 100000 in
theorem listingLongProved_walk (w : World) (vs : Array Value) (x : V.All listingLongProved_ks) (hA : V.ArgsRd w listingLongProved_ks vs.toList x) (hT : Ab.Tabs Tryd.prog w) :
    Calls Tryd.prog 4 vs w fun e w' => e = .returned (.bool true) ∧ Below w.heap.size w w' := by
  revert x; intro x0 hA
  have hB := hA
  obtain ⟨_, _, b0⟩ := hB
  have f0 := V.ArgRd.fine b0
  refine V.law_args (vals := V.F_law11_ListingLong.vals) (run := V.F_law11_ListingLong.run) V.R_law11_ListingLong hT listingLongProved_ks x0 x0 hA (by kernel_rfl) ?_
  exact V.law11_long x0

theorem listingLongProved_g : Tryd.prog.globalNamed "internal/strconv.uint64pow10" = some 0 := by kernel_rfl
theorem listingLongProved_gt : (Tryd.prog.globals[0]?).map (·.type) = some 119 := by kernel_rfl
theorem tabIs_of_reads {P : Program} {W : World} {name : String} {k : IntKind} {zs : List Int} {g : Nat} {t e : TypeId} {n : Nat}
    (hg : P.globalNamed name = some g) (hty : (P.globals[g]?).map (·.type) = some t) (ht : P.underlying t = some (.array n e)) (he : P.underlying e = some (.int k)) (hce : P.cellsOf e = 1) (hct : P.cellsOf t = n)
    (h : Lib.VarReads P W name (Lib.tabData k zs)) : Lib.TabIs P W name k zs := by
  obtain ⟨g', t', cs, fuel, p, hg', ht', hvar, hd⟩ := h
  obtain rfl := Option.some.inj (hg.symm.trans hg')
  obtain rfl := Option.some.inj (hty.symm.trans ht')
  unfold Lib.TabIs
  rw [hvar, ← Lib.cells_of_tab ht he hce hct hd]
theorem listingLongProved_tabs {W : World} (h : laidMetH Tryd.prog Rows.listingLongRow.laid W) : Ab.Tabs Tryd.prog W := fun _ => by
  rw [MakeChecks.laidMetH_plain _ _ _ (by kernel_rfl)] at h
  have hr : Lib.VarReads Tryd.prog W "internal/strconv.uint64pow10" (Lib.tabData .u64 Lib.pow10Tab) := Lib.laidMet.reads h (show ("internal/strconv.uint64pow10", (Rows.laid_internal_strconv_uint64pow10 : DataW Unit)) ∈ Rows.listingLongRow.laid from .tail _ (.tail _ (.head _)))
  exact tabIs_of_reads listingLongProved_g listingLongProved_gt (show Tryd.prog.underlying 119 = some (.array 20 25) by kernel_rfl) (show Tryd.prog.underlying 25 = some (.int .u64) by kernel_rfl) (by kernel_rfl) (by kernel_rfl) hr
theorem listingLongProved_met (os : Os) (args : Array Value) : laidMetH Tryd.prog Rows.listingLongRow.laid ((World.doorLaid Tryd.prog 400 os).forCall (fun _ _ => 0) ⟨#[], args, []⟩).memory := by
  rw [MakeChecks.laidMetH_plain _ _ _ (by kernel_rfl)]
  exact laidMet_of_run' 8 (by kernel_rfl) (by kernel_rfl)
set_option maxRecDepth 100000 in
theorem listingLongProved_lifted (os : Os) (started : os.Started) (H : Type) (enc : TypeId × Value → H) :
    ReturnsInHanded {} Tryd.checked os 4 .any (fun w args => (Rows.listingLongSpec.pre enc Tryd.prog Tryd.f4 [] false w args ∧ laidMetH Tryd.prog Rows.listingLongRow.laid w) ∧ sizedMet enc Tryd.prog Tryd.f4 (OpenSpec.ofChange Rows.listingLongSpec) false w args) (Rows.listingLongSpec.post enc Tryd.prog Tryd.f4 false true false false) := by
  refine returnsInHanded_of_change_and (C := Tryd.checked) (X := fun w _ => laidMetH Tryd.prog Rows.listingLongRow.laid w) (fun _ _ _ hh h => h.of_heap hh) listingLongProved_own started (by kernel_rfl) Tryd.func4
    (ChangeSpec.witness_shaped (enc := enc) (C := Tryd.checked) (os := os) (X := fun w _ => laidMetH Tryd.prog Rows.listingLongRow.laid w) false (World.doorLaid Tryd.prog 400 os) #[.bool false] 8 rfl (World.shaped_of_RefB (by kernel_rfl) (by kernel_rfl)) (by kernel_rfl) (by kernel_rfl) (by kernel_rfl) (listingLongProved_met os _)) ?_
  intro W base args ds gs before hval0 hW hcnd _ hL _
  have hval : ∀ (j : Nat) t v, Tryd.f4.params[j]? = some t → args[j]? = some v → Value.okWide Tryd.prog W .any base t v := hval0
  have hW' := hW
  obtain ⟨p, q, hA0, hV, rfl, hfz, hnd⟩ := hW
  have hA : DataW.TrodAll enc Tryd.prog W 0 (fun _ => true) true Tryd.f4.params.toList args.toList ds p := hA0
  rw [Tryd.params4] at hA hval
  obtain ⟨v0, vs0, d0, ds0, p0, q0, hargs, rfl, rfl, h0, r0⟩ := trodAll_cons hA
  obtain ⟨rfl, rfl, rfl⟩ := trodAll_nil r0
  obtain rfl : args = #[v0] := by cases args; simp_all
  obtain ⟨rfl, rfl⟩ := trodVars_none hV
  have k0 := h0
  have lt0 : ∀ x ∈ p0, x.block < W.heap.size := by obtain ⟨m, hm⟩ := k0; exact DataW.trod_lt m _ _ _ hm
  obtain ⟨y0, w0⟩ := V.open_arg (n := 12) (l := [.bool]) (show V.flatT Tryd.prog 12 4 = some [.bool] by kernel_rfl) (List.cons_ne_nil _ _) (hval 0 4 v0 rfl rfl) h0
  rw [show V.isAgg Tryd.prog 4 = false by kernel_rfl] at w0
  clear hA0 hval0
  refine (listingLongProved_walk W #[v0] y0 ⟨v0, rfl, w0⟩ (listingLongProved_tabs hL)).mono fun e W' ⟨he, bel⟩ => ?_
  subst he
  exact ⟨_, rfl, _, _, _, [], _, [], hW', trodAll_mk1 (shut_bool Tryd.underlying4 _), (trodAll_cons_mk (Below.trod listingLongProved_laid (by kernel_rfl) (of_decide_eq_true (by kernel_rfl)) k0 bel lt0) trodAll_mk0), rfl, bel.frame _, fun h => by cases h⟩

theorem listingLongProved_named : Tryd.pinned.checked.prog.funcNamed Rows.listingLongRow.func = some 4 := by kernel_rfl
theorem listingLongProved_facts : joinedFacts Tryd.pinned.checked.prog 4 Tryd.f4 Rows.listingLongSpec Rows.listingLongRow = true := by kernel_rfl
theorem listingLongProved_inst : Tryd.f4.isInstance Tryd.pinned.checked.prog Rows.listingLongRow.origin Rows.listingLongRow.targs := of_decide_eq_true (by kernel_rfl)
theorem listingLongProved_wrap : Tryd.f4.isWrapper Tryd.pinned.checked.prog Rows.listingLongRow.wrapper Rows.listingLongRow.mainSum := by unfold Func.isWrapper; first | (rw [if_pos (by decide +kernel)]; kernel_rfl) | (rw [if_neg (by decide +kernel)]; exact ⟨rfl, rfl⟩)
theorem listingLongProved_over : Rows.listingLongRow.holds Tryd.pinned (OpenSpec.ofChange Rows.listingLongSpec) :=
  OpenClaim.holds_of_wide 4 Tryd.f4 rfl rfl rfl rfl rfl rfl rfl ⟨rfl, rfl, rfl, rfl, rfl⟩ rfl rfl rfl rfl rfl listingLongProved_named Tryd.func4 listingLongProved_facts
    listingLongProved_inst listingLongProved_wrap
    (fun os started H enc _ => listingLongProved_lifted os started H enc)

theorem listingLongProved : Rows.ListingLongCardSaid :=
  Claim7.holds_tied_plain_at .later [] [.data, .data, .data] true (true, "fa1b488254eaf950b739aa37ee0f245436334e373ea3c7cf5016880c7a9ab630") false
    listingLongProved_over (fun _ h => by cases h) (by kernel_rfl) (fun _ h => by cases h) listingLong_row_tie rfl ⟨rfl, rfl⟩ (by kernel_rfl) rfl
    (fun f fn hf hfn => by
      obtain rfl : f = 4 := Option.some.inj ((show Tryd.prog.funcNamed "backstitch/backstitchlaw11.ListingLong" = some 4 by kernel_rfl).symm.trans hf) |>.symm
      obtain rfl : fn = Tryd.f4 := (Option.some.inj (Tryd.func4.symm.trans hfn)).symm
      exact ⟨by kernel_rfl, fun j t ht => by
        rw [Tryd.params4] at ht
        have hm : t ∈ [4] := by simpa using Array.mem_of_getElem? ht
        have hall : ([4].all fun u => !Tryd.prog.wantsStandIn u) = true := by kernel_rfl
        exact (show Tryd.prog.wantsStandIn t = false by simpa using List.all_eq_true.1 hall t hm)⟩)
    (by kernel_rfl)
#print axioms listingLongProved
end Go.Proofs.YtdfhgdaimjkccaaDoor
