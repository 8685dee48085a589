/- ListingBackCardSaid: what the given statement of that name says: the law returns true at every input, and its arguments read behind the call as they read before. No condition. -/
import Derived.Test.YtnadgednadlcdaaDoorL11
import Derived.Test.YtnadgednadlcdaaDoorP11
import Derived.Test.YtnadgednadlcdaaDoorV25
import Derived.ProofKit
import Derived.OpenShut
import Derived.ShutString
import Derived.ChangeOld
import Derived.Below
import Derived.LaidMore
import Derived.Stop.Joined
import Derived.Lib.LaidU8
import Derived.Test.YtnadgednadlcdaaDoorCards
import Derived.Test.YtnadgednadlcdaaDoorTie
import Derived.SevenTiedAt
namespace Go.Proofs.YtnadgednadlcdaaDoor
open Go.ChangeShapes Go.WideShapes Go.ChangeAt Go.RowKit
set_option linter.unusedVariables false

theorem listingBackProved_own : ownKnob Tryd.prog.godebug = none := by kernel_rfl
theorem listingBackProved_laid : laidOutB Tryd.prog = true := by kernel_rfl
def listingBackProved_ks : List (Bool × V.Sh) := [(true, V.nest [(.int .i64), (.list (.pair (.int .i64) (.pair (.int .i64) (.pair (.int .i64) (.pair (.int .i64) (.int .u64))))))])]

set_option maxRecDepth 100000 in
theorem listingBackProved_walk (w : World) (vs : Array Value) (x : V.All listingBackProved_ks) (hA : V.ArgsRd w listingBackProved_ks vs.toList x) (hT : Ab.Tabs Tryd.prog w) :
    Calls Tryd.prog 13 vs w fun e w' => e = .returned (.bool true) ∧ Below w.heap.size w w' := by
  obtain ⟨x0_0, x0_1⟩ := x
  have hB := hA
  obtain ⟨_, _, b0⟩ := hB
  have f0 := V.ArgRd.fine b0
  refine V.law_args (vals := V.F_law11_ListingBack.vals) (run := V.F_law11_ListingBack.run) V.R_law11_ListingBack hT listingBackProved_ks (x0_0, x0_1) (x0_0, x0_1) hA (by kernel_rfl) ?_
  exact V.law11_back x0_0 x0_1 (fun x hx => (f0.2.2 x hx).2.2.2.2)

theorem listingBackProved_g : Tryd.prog.globalNamed "internal/strconv.uint64pow10" = some 0 := by kernel_rfl
theorem listingBackProved_gt : (Tryd.prog.globals[0]?).map (·.type) = some 172 := by kernel_rfl
theorem tabIs_of_reads {P : Program} {W : World} {name : String} {k : IntKind} {zs : List Int} {g : Nat} {t e : TypeId} {n : Nat}
    (hg : P.globalNamed name = some g) (hty : (P.globals[g]?).map (·.type) = some t) (ht : P.underlying t = some (.array n e)) (he : P.underlying e = some (.int k)) (hce : P.cellsOf e = 1) (hct : P.cellsOf t = n)
    (h : Lib.VarReads P W name (Lib.tabData k zs)) : Lib.TabIs P W name k zs := by
  obtain ⟨g', t', cs, fuel, p, hg', ht', hvar, hd⟩ := h
  obtain rfl := Option.some.inj (hg.symm.trans hg')
  obtain rfl := Option.some.inj (hty.symm.trans ht')
  unfold Lib.TabIs
  rw [hvar, ← Lib.cells_of_tab ht he hce hct hd]
theorem listingBackProved_tabs {W : World} (h : laidMetH Tryd.prog Rows.listingBackRow.laid W) : Ab.Tabs Tryd.prog W := fun _ => by
  rw [MakeChecks.laidMetH_plain _ _ _ (by kernel_rfl)] at h
  have hr : Lib.VarReads Tryd.prog W "internal/strconv.uint64pow10" (Lib.tabData .u64 Lib.pow10Tab) := Lib.laidMet.reads h (show ("internal/strconv.uint64pow10", (Rows.laid_internal_strconv_uint64pow10 : DataW Unit)) ∈ Rows.listingBackRow.laid from .tail _ (.tail _ (.head _)))
  exact tabIs_of_reads listingBackProved_g listingBackProved_gt (show Tryd.prog.underlying 172 = some (.array 20 31) by kernel_rfl) (show Tryd.prog.underlying 31 = some (.int .u64) by kernel_rfl) (by kernel_rfl) (by kernel_rfl) hr
theorem listingBackProved_met (os : Os) (args : Array Value) : laidMetH Tryd.prog Rows.listingBackRow.laid ((World.doorLaid Tryd.prog 400 os).forCall (fun _ _ => 0) ⟨#[], args, []⟩).memory := by
  rw [MakeChecks.laidMetH_plain _ _ _ (by kernel_rfl)]
  exact laidMet_of_run' 8 (by kernel_rfl) (by kernel_rfl)
set_option maxRecDepth 100000 in
theorem listingBackProved_lifted (os : Os) (started : os.Started) (H : Type) (enc : TypeId × Value → H) :
    ReturnsInHanded {} Tryd.checked os 13 .any (fun w args => (Rows.listingBackSpec.pre enc Tryd.prog Tryd.f13 [] false w args ∧ laidMetH Tryd.prog Rows.listingBackRow.laid w) ∧ sizedMet enc Tryd.prog Tryd.f13 (OpenSpec.ofChange Rows.listingBackSpec) false w args) (Rows.listingBackSpec.post enc Tryd.prog Tryd.f13 false true false false) := by
  refine returnsInHanded_of_change_and (C := Tryd.checked) (X := fun w _ => laidMetH Tryd.prog Rows.listingBackRow.laid w) (fun _ _ _ hh h => h.of_heap hh) listingBackProved_own started (by kernel_rfl) Tryd.func13
    (ChangeSpec.witness_shaped (enc := enc) (C := Tryd.checked) (os := os) (X := fun w _ => laidMetH Tryd.prog Rows.listingBackRow.laid w) false (World.doorLaid Tryd.prog 400 os) #[.agg #[.int .i64 0, .slice none 0 0]] 8 rfl (World.shaped_of_RefB (by kernel_rfl) (by kernel_rfl)) (by kernel_rfl) (by kernel_rfl) (by kernel_rfl) (listingBackProved_met os _)) ?_
  intro W base args ds gs before hval0 hW hcnd _ hL _
  have hval : ∀ (j : Nat) t v, Tryd.f13.params[j]? = some t → args[j]? = some v → Value.okWide Tryd.prog W .any base t v := hval0
  have hW' := hW
  obtain ⟨p, q, hA0, hV, rfl, hfz, hnd⟩ := hW
  have hA : DataW.TrodAll enc Tryd.prog W 0 (fun _ => true) true Tryd.f13.params.toList args.toList ds p := hA0
  rw [Tryd.params13] at hA hval
  obtain ⟨v0, vs0, d0, ds0, p0, q0, hargs, rfl, rfl, h0, r0⟩ := trodAll_cons hA
  obtain ⟨rfl, rfl, rfl⟩ := trodAll_nil r0
  obtain rfl : args = #[v0] := by cases args; simp_all
  obtain ⟨rfl, rfl⟩ := trodVars_none hV
  have k0 := h0
  have lt0 : ∀ x ∈ p0, x.block < W.heap.size := by obtain ⟨m, hm⟩ := k0; exact DataW.trod_lt m _ _ _ hm
  obtain ⟨y0, w0⟩ := V.open_arg (n := 12) (l := [(.int .i64), (.list (.pair (.int .i64) (.pair (.int .i64) (.pair (.int .i64) (.pair (.int .i64) (.int .u64))))))]) (show V.flatT Tryd.prog 12 71 = some [(.int .i64), (.list (.pair (.int .i64) (.pair (.int .i64) (.pair (.int .i64) (.pair (.int .i64) (.int .u64))))))] by kernel_rfl) (List.cons_ne_nil _ _) (hval 0 71 v0 rfl rfl) h0
  rw [show V.isAgg Tryd.prog 71 = true by kernel_rfl] at w0
  clear hA0 hval0
  refine (listingBackProved_walk W #[v0] y0 ⟨v0, rfl, w0⟩ (listingBackProved_tabs hL)).mono fun e W' ⟨he, bel⟩ => ?_
  subst he
  exact ⟨_, rfl, _, _, _, [], _, [], hW', trodAll_mk1 (shut_bool Tryd.underlying4 _), (trodAll_cons_mk (Below.trod listingBackProved_laid (by kernel_rfl) (of_decide_eq_true (by kernel_rfl)) k0 bel lt0) trodAll_mk0), rfl, bel.frame _, fun h => by cases h⟩

theorem listingBackProved_named : Tryd.pinned.checked.prog.funcNamed Rows.listingBackRow.func = some 13 := by kernel_rfl
theorem listingBackProved_facts : joinedFacts Tryd.pinned.checked.prog 13 Tryd.f13 Rows.listingBackSpec Rows.listingBackRow = true := by kernel_rfl
theorem listingBackProved_inst : Tryd.f13.isInstance Tryd.pinned.checked.prog Rows.listingBackRow.origin Rows.listingBackRow.targs := of_decide_eq_true (by kernel_rfl)
theorem listingBackProved_wrap : Tryd.f13.isWrapper Tryd.pinned.checked.prog Rows.listingBackRow.wrapper Rows.listingBackRow.mainSum := by unfold Func.isWrapper; first | (rw [if_pos (by decide +kernel)]; kernel_rfl) | (rw [if_neg (by decide +kernel)]; exact ⟨rfl, rfl⟩)
theorem listingBackProved_over : Rows.listingBackRow.holds Tryd.pinned (OpenSpec.ofChange Rows.listingBackSpec) :=
  OpenClaim.holds_of_wide 13 Tryd.f13 rfl rfl rfl rfl rfl rfl rfl ⟨rfl, rfl, rfl, rfl, rfl⟩ rfl rfl rfl rfl rfl listingBackProved_named Tryd.func13 listingBackProved_facts
    listingBackProved_inst listingBackProved_wrap
    (fun os started H enc _ => listingBackProved_lifted os started H enc)

theorem listingBackProved : Rows.ListingBackCardSaid :=
  Claim7.holds_tied_plain_at .later [] [.data, .data, .data] true (true, "065a69ca1ea91a18cf88b61d6ef24cc804c62e8b2b7b719aaa79cfade03e898a") false
    listingBackProved_over (fun _ h => by cases h) (by kernel_rfl) (fun _ h => by cases h) listingBack_row_tie rfl ⟨rfl, rfl⟩ (by kernel_rfl) rfl
    (fun f fn hf hfn => by
      obtain rfl : f = 13 := Option.some.inj ((show Tryd.prog.funcNamed "backstitch/backstitchlaw11.ListingBack" = some 13 by kernel_rfl).symm.trans hf) |>.symm
      obtain rfl : fn = Tryd.f13 := (Option.some.inj (Tryd.func13.symm.trans hfn)).symm
      exact ⟨by kernel_rfl, fun j t ht => by
        rw [Tryd.params13] at ht
        have hm : t ∈ [71] := by simpa using Array.mem_of_getElem? ht
        have hall : ([71].all fun u => !Tryd.prog.wantsStandIn u) = true := by kernel_rfl
        exact (show Tryd.prog.wantsStandIn t = false by simpa using List.all_eq_true.1 hall t hm)⟩)
    (by kernel_rfl)
#print axioms listingBackProved
end Go.Proofs.YtnadgednadlcdaaDoor
