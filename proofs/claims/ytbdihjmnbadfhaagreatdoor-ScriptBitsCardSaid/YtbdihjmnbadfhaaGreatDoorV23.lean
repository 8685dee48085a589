/- Arguments that are arrays of numbers. -/
import Derived.Test.YtbdihjmnbadfhaaGreatDoorV22
import Derived.WideKeyArr2
import Derived.RowKit
namespace Go.V
set_option linter.unusedVariables false
set_option linter.unusedSimpArgs false
open Go.Ab Go.ChangeShapes Go.WideShapes

def numOf : Value → Int
  | .int _ a => a
  | _ => 0
theorem mapM_ints {H : Type} {enc : TypeId × Value → H} {P : Program} {e : TypeId} {q : IntKind} {W : World} {base : Nat} {sp : Nat → Bool} {held : Bool} (he : P.underlying e = some (.int q)) {m : Nat} {cs : List Value} {c : Nat} : ∀ (L : List Nat) (xs : List (DataW H × List MemPlace)),
    L.mapM (fun i => DataW.trod enc P W base sp held m e ((cs.drop (i * c)).take c)) = some xs → ∀ i ∈ L, ∃ a, (cs.drop (i * c)).take c = [.int q a] ∧ (Lit.int q a).wf = true
  | [], xs, h, i, hi => by cases hi
  | j :: L, xs, h, i, hi => by
    rw [List.mapM_cons] at h
    simp only [bind, Option.bind_eq_some_iff, pure, Option.some.injEq] at h
    obtain ⟨y, hy, ys, hys, rfl⟩ := h
    rcases List.mem_cons.1 hi with rfl | hi
    · obtain ⟨a, ea, _, wa⟩ := DataW.trod_int he hy
      exact ⟨a, ea, wa⟩
    · exact mapM_ints he L ys hys i hi
theorem open_nums {H : Type} {enc : TypeId × Value → H} {P : Program} {t e : TypeId} {n : Nat} {q : IntKind} {W : World} {base : Nat} {sp : Nat → Bool} {held : Bool} (hu : P.underlying t = some (.array n e)) (he : P.underlying e = some (.int q)) (h1 : P.cellsOf e = 1) (hs : P.cellsOf t = n)
    {r : Reach} {b0 : Nat} {v : Value} (hval : Value.okWide P W r b0 t v) {d : DataW H} {ps : List MemPlace} (hd : DataW.Trod enc P W base sp held t v d ps) :
    ∃ zs : List Int, v = .agg (zs.map (Value.int q)).toArray ∧ zs.length = n ∧ ∀ z ∈ zs, (Lit.int q z).wf = true := by
  simp only [Value.okWide, hu] at hval
  obtain ⟨cs, rfl, hn, _⟩ := hval
  rw [hs] at hn
  obtain ⟨fuel, hf⟩ := hd
  cases fuel with
  | zero => simp [DataW.trod] at hf
  | succ m =>
    rw [DataW.trod_step] at hf
    unfold DataW.trodStep at hf
    simp only [hu, Value.cells] at hf
    rw [if_pos (by rw [hs]; simpa using hn)] at hf
    simp only [Option.map_eq_some_iff] at hf
    obtain ⟨ys, hy, e1⟩ := hf
    have hall := mapM_ints he _ ys hy
    rw [h1] at hall
    have hc : ∀ i (h : i < cs.toList.length), ∃ a, cs.toList[i] = .int q a ∧ (Lit.int q a).wf = true := by
      intro i h
      obtain ⟨a, ha, hw⟩ := hall i (by simp at h ⊢; omega)
      rw [Nat.mul_one, List.drop_eq_getElem_cons h] at ha
      simp only [List.take_succ_cons, List.take_zero, List.cons.injEq, and_true] at ha
      exact ⟨a, ha, hw⟩
    have hm : ∀ v ∈ cs.toList, v = .int q (numOf v) ∧ (Lit.int q (numOf v)).wf = true := by
      intro v hv
      obtain ⟨i, hi, rfl⟩ := List.getElem_of_mem hv
      obtain ⟨a, ha, hw⟩ := hc i hi
      rw [ha]
      exact ⟨rfl, hw⟩
    refine ⟨cs.toList.map numOf, ?_, by simpa using hn, ?_⟩
    · congr 1
      apply Array.toList_inj.1
      rw [List.map_map]
      generalize cs.toList = l at hm
      simp only
      induction l with
      | nil => rfl
      | cons a l ih =>
        rw [List.map_cons, ← ih fun v hv => hm v (List.mem_cons_of_mem _ hv)]
        rw [Function.comp, ← (hm a List.mem_cons_self).1]
    · intro z hz
      obtain ⟨v, hv, rfl⟩ := List.mem_map.1 hz
      exact (hm v hv).2
theorem list16 {l : List Int} (h : l.length = 16) : ∃ a0 a1 a2 a3 a4 a5 a6 a7 a8 a9 a10 a11 a12 a13 a14 a15, l = [a0, a1, a2, a3, a4, a5, a6, a7, a8, a9, a10, a11, a12, a13, a14, a15] := by
  match l, h with
  | [a0, a1, a2, a3, a4, a5, a6, a7, a8, a9, a10, a11, a12, a13, a14, a15], _ => exact ⟨a0, a1, a2, a3, a4, a5, a6, a7, a8, a9, a10, a11, a12, a13, a14, a15, rfl⟩
theorem law_true' {P : Program} {f : FuncId} {vals : List Sk} {run : Tup (SSk.shs ⟨vals, [], []⟩) → Option (SumA lawOut)} (h : Right P ⟨f, vals, [], lawOut, run⟩) {w : World} (hT : Tabs P w) {rows : List Row} {args : List Value} {cargs : Array Value} {vs : List VV} (t : Tup (SSk.shs ⟨vals, [], []⟩))
    (hrows : ∀ r ∈ rows, ∀ (i : Nat) (v : Value), r.cells[i]? = some v → ∃ v', w.cell? ⟨r.c, r.o + i, none⟩ = some v' ∧ VR (rowsMu rows) v v') (hargs : F2 (VR (rowsMu rows)) args cargs.toList)
    (hv : F2 (VRel (lawCtx (rowsHp w.heap.size rows))) vs args) (hd : ((decSt [] 0 [] ⟨vals, [], []⟩ vs).bind fun st => ofL _ st.ls) = some t) (hr : run t = some true) :
    Calls P f cargs w fun e w' => e = .returned (.bool true) ∧ Go.RowKit.Below w.heap.size w w' := by
  obtain ⟨st, h1, h2⟩ := bind_some' hd
  exact law_true h hT hrows hargs hv h1 h2 hr
end Go.V
