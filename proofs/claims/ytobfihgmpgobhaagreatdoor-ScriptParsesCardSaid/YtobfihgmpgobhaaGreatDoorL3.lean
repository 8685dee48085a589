/- A part of the proof. No condition. -/
import Derived.Test.YtobfihgmpgobhaaGreatDoorL2
import Derived.Test.YtobfihgmpgobhaaGreatDoorP1
import Derived.Test.YtobfihgmpgobhaaGreatDoorA6
import Derived.ProofKit
import Derived.OpenShut
import Derived.ShutString
import Derived.ChangeOld
import Derived.Below
import Derived.LaidMore
import Derived.Stop.Joined
import Derived.Lib.LaidU8
import Derived.Test.YtobfihgmpgobhaaGreatDoorCards
import Derived.Test.YtobfihgmpgobhaaGreatDoorTie
import Derived.SevenTiedAt
namespace Go.Proofs.YtobfihgmpgobhaaGreatDoor
open Go.ChangeShapes Go.WideShapes Go.ChangeAt Go.RowKit
set_option linter.unusedVariables false

theorem e_own : ownKnob Tryz.prog.godebug = none := by kernel_rfl
theorem e_laid : laidOutB Tryz.prog = true := by kernel_rfl
def e_ks : List (Bool × V.Sh) := [(false, V.sO [.str])]

set_option maxRecDepth 1000000 in
theorem e_walk (w : World) (vs : Array Value) (x : V.Rj e_ks) (hA : V.Fa w e_ks vs.toList x) (hT : Ab.GB Tryz.prog w) :
    Calls Tryz.prog 3 vs w fun e w' => e = .returned (.bool true) ∧ Below w.heap.size w w' := by
  revert x; intro x0 hA
  have hB := hA
  obtain ⟨_, _, b0⟩ := hB
  have f0 := V.Ag.fine b0
  refine V.MB V.ur hT e_ks x0 x0 hA (by kernel_rfl) ?_
  exact V.FQ f0

theorem e_g : Tryz.prog.globalNamed "internal/strconv.uint64pow10" = some 0 := by kernel_rfl
theorem e_gt : (Tryz.prog.globals[0]?).map (·.type) = some 286 := by kernel_rfl
theorem e_tabIs {P : Program} {W : World} {name : String} {k : IntKind} {zs : List Int} {g : Nat} {t e : TypeId} {n : Nat}
    (hg : P.globalNamed name = some g) (hty : (P.globals[g]?).map (·.type) = some t) (ht : P.underlying t = some (.array n e)) (he : P.underlying e = some (.int k)) (hce : P.cellsOf e = 1) (hct : P.cellsOf t = n)
    (h : Lib.VarReads P W name (Lib.tabData k zs)) : Lib.TabIs P W name k zs := by
  obtain ⟨g', t', cs, fuel, p, hg', ht', hvar, hd⟩ := h
  obtain rfl := Option.some.inj (hg.symm.trans hg')
  obtain rfl := Option.some.inj (hty.symm.trans ht')
  unfold Lib.TabIs
  rw [hvar, ← Lib.cells_of_tab ht he hce hct hd]
theorem e_tabs {W : World} (h : laidMetH Tryz.prog Rows.scriptParsesRow.laid W) : Ab.GB Tryz.prog W := fun _ => by
  rw [MakeChecks.laidMetH_plain _ _ _ (by kernel_rfl)] at h
  have hr : Lib.VarReads Tryz.prog W "internal/strconv.uint64pow10" (Lib.tabData .u64 Lib.pow10Tab) := Lib.laidMet.reads h (show ("internal/strconv.uint64pow10", (Rows.laid_internal_strconv_uint64pow10 : DataW Unit)) ∈ Rows.scriptParsesRow.laid from .tail _ (.tail _ (.head _)))
  exact e_tabIs e_g e_gt (show Tryz.prog.underlying 286 = some (.array 20 36) by kernel_rfl) (show Tryz.prog.underlying 36 = some (.int .u64) by kernel_rfl) (by kernel_rfl) (by kernel_rfl) hr
theorem e_met (os : Os) (args : Array Value) : laidMetH Tryz.prog Rows.scriptParsesRow.laid ((World.doorLaid Tryz.prog 400 os).forCall (fun _ _ => 0) ⟨#[], args, []⟩).memory := by
  rw [MakeChecks.laidMetH_plain _ _ _ (by kernel_rfl)]
  exact laidMet_of_run' 8 (by kernel_rfl) (by kernel_rfl)
set_option maxRecDepth 1000000 in
theorem e_lifted (os : Os) (started : os.Started) (H : Type) (enc : TypeId × Value → H) :
    ReturnsInHanded {} Tryz.checked os 3 .any (fun w args => (Rows.scriptParsesSpec.pre enc Tryz.prog Tryz.f3 [] false w args ∧ laidMetH Tryz.prog Rows.scriptParsesRow.laid w) ∧ sizedMet enc Tryz.prog Tryz.f3 (OpenSpec.ofChange Rows.scriptParsesSpec) false w args) (Rows.scriptParsesSpec.post enc Tryz.prog Tryz.f3 false true false false) := by
  refine returnsInHanded_of_change_and (C := Tryz.checked) (X := fun w _ => laidMetH Tryz.prog Rows.scriptParsesRow.laid w) (fun _ _ _ hh h => h.of_heap hh) e_own started (by kernel_rfl) Tryz.func3
    (ChangeSpec.witness_shaped (enc := enc) (C := Tryz.checked) (os := os) (X := fun w _ => laidMetH Tryz.prog Rows.scriptParsesRow.laid w) false (World.doorLaid Tryz.prog 400 os) #[.string ByteArray.empty] 8 rfl (World.shaped_of_RefB (by kernel_rfl) (by kernel_rfl)) (by kernel_rfl) (by kernel_rfl) (by kernel_rfl) (e_met os _)) ?_
  intro W base args ds gs before hval0 hW hcnd _ hL _
  have hval : ∀ (j : Nat) t v, Tryz.f3.params[j]? = some t → args[j]? = some v → Value.okWide Tryz.prog W .any base t v := hval0
  have hW' := hW
  obtain ⟨p, q, hA0, hV, rfl, hfz, hnd⟩ := hW
  have hA : DataW.TrodAll enc Tryz.prog W 0 (fun _ => true) true Tryz.f3.params.toList args.toList ds p := hA0
  rw [Tryz.params3] at hA hval
  obtain ⟨v0, vs0, d0, ds0, p0, q0, hargs, rfl, rfl, h0, r0⟩ := trodAll_cons hA
  obtain ⟨rfl, rfl, rfl⟩ := trodAll_nil r0
  obtain rfl : args = #[v0] := by cases args; simp_all
  obtain ⟨rfl, rfl⟩ := trodVars_none hV
  have k0 := h0
  have lt0 : ∀ x ∈ p0, x.block < W.heap.size := by obtain ⟨m, hm⟩ := k0; exact DataW.trod_lt m _ _ _ hm
  obtain ⟨y0, w0⟩ := V.M8 (n := 12) (l := [.str]) (show V.lI Tryz.prog 12 9 = some [.str] by kernel_rfl) (List.cons_ne_nil _ _) (hval 0 9 v0 rfl rfl) h0
  rw [show V.isAgg Tryz.prog 9 = false by kernel_rfl] at w0
  clear hA0 hval0
  refine (e_walk W #[v0] y0 ⟨v0, rfl, w0⟩ (e_tabs hL)).mono fun e W' ⟨he, bel⟩ => ?_
  subst he
  exact ⟨_, rfl, _, _, _, [], _, [], hW', trodAll_mk1 (shut_bool Tryz.underlying4 _), (trodAll_cons_mk (Below.trod e_laid (by kernel_rfl) (of_decide_eq_true (by kernel_rfl)) k0 bel lt0) trodAll_mk0), rfl, bel.frame _, fun h => by cases h⟩

end Go.Proofs.YtobfihgmpgobhaaGreatDoor
