/- Operations whose order is open. -/
import Derived.Test.YtbdihjmnbadfhaaGreatDoorAb11
namespace Go.Ab
open Go.RowKit

def tmpsOf : Operand → List Nat
  | .tmp t => [t]
  | _ => []
def tmpsO : Option Operand → List Nat
  | some x => tmpsOf x
  | none => []
/-- The slots that an operation reads. -/
def AOp.reads : AOp → List Nat
  | .move x | .box _ x | .load x | .loadN _ x | .nilCheck x | .un _ x | .conv _ x | .off _ x | .fieldV _ _ _ x | .extract x _ | .len x | .lenS x | .capN x | .range x | .next x | .encR x | .mark x | .strOf x | .strOfR x | .runesOf x => tmpsOf x
  | .pick c a b | .sliceX c a b => tmpsOf c ++ tmpsOf a ++ tmpsOf b
  | .alloc _ _ | .lenC _ | .stuck | .newB => []
  | .build _ ps | .buildSlice _ _ _ ps => ps.flatMap fun p => tmpsOf p.2.2
  | .store _ a x => tmpsOf a ++ tmpsOf x
  | .bin _ x y | .eqv _ _ x y | .eqCells _ _ x y | .idx _ x y | .idxA _ _ x y | .indexV _ _ _ x y | .indexS x y | .append _ _ x y | .appendZ _ _ _ x y | .copy _ x y | .most x y | .least x y | .makeSlice _ _ _ x y => tmpsOf x ++ tmpsOf y
  | .mkFunc _ xs cs => xs.flatMap tmpsOf ++ cs.flatMap tmpsOf
  | .slice _ x lo hi | .sliceStr x lo hi | .sliceArr _ _ x lo hi => tmpsOf x ++ tmpsO lo ++ tmpsO hi
  | .call _ xs => xs.flatMap tmpsOf
  | .callv f xs => tmpsOf f ++ xs.flatMap tmpsOf

theorem ev_congr {e e' : Env} {x : Operand} (h : ∀ t ∈ tmpsOf x, e t = e' t) : e.ev x = e'.ev x := by
  cases x <;> first | rfl | exact h _ (by simp [tmpsOf])
theorem evO_congr {e e' : Env} {x : Option Operand} (h : ∀ t ∈ tmpsO x, e t = e' t) : x.map e.ev = x.map e'.ev := by
  cases x with
  | none => rfl
  | some x => simp only [Option.map_some]; rw [ev_congr h]
theorem evL_congr {e e' : Env} {xs : List Operand} (h : ∀ t ∈ xs.flatMap tmpsOf, e t = e' t) : xs.map e.ev = xs.map e'.ev := by
  apply List.map_congr_left
  intro x hx
  exact ev_congr fun t ht => h t (List.mem_flatMap.2 ⟨x, hx, ht⟩)
theorem evP_congr {e e' : Env} {ps : List (Nat × Nat × Operand)} (h : ∀ t ∈ ps.flatMap (fun p => tmpsOf p.2.2), e t = e' t) : (ps.map fun (o, s, x) => (o, s, e.ev x)) = ps.map fun (o, s, x) => (o, s, e'.ev x) := by
  apply List.map_congr_left
  rintro ⟨o, s, x⟩ hx
  simp only
  rw [ev_congr fun t ht => h t (List.mem_flatMap.2 ⟨_, hx, ht⟩)]

theorem run_congr {e e' : Env} {σ : Hp} {op : AOp} (h : ∀ t ∈ op.reads, e t = e' t) : op.run e σ = op.run e' σ := by
  cases op <;> simp only [AOp.reads, List.mem_append] at h <;> simp only [AOp.run]
  case move x => rw [ev_congr h]
  case pick c a b => rw [ev_congr fun t ht => h t (.inl (.inl ht)), ev_congr fun t ht => h t (.inl (.inr ht)), ev_congr fun t ht => h t (.inr ht)]
  case box es x => rw [ev_congr h]
  case build z ps => rw [evP_congr h]
  case buildSlice es ln z ps => rw [evP_congr h]
  case load x => rw [ev_congr h]
  case loadN n x => rw [ev_congr h]
  case store n a x => rw [ev_congr fun t ht => h t (.inl ht), ev_congr fun t ht => h t (.inr ht)]
  case nilCheck x => rw [ev_congr h]
  case bin op x y => rw [ev_congr fun t ht => h t (.inl ht), ev_congr fun t ht => h t (.inr ht)]
  case eqv kd neg x y => rw [ev_congr fun t ht => h t (.inl ht), ev_congr fun t ht => h t (.inr ht)]
  case eqCells neg ks x y => rw [ev_congr fun t ht => h t (.inl ht), ev_congr fun t ht => h t (.inr ht)]
  case un op x => rw [ev_congr h]
  case conv k x => rw [ev_congr h]
  case mkFunc f xs cs => rw [evL_congr fun t ht => h t (.inl ht), evL_congr fun t ht => h t (.inr ht)]
  case makeSlice es by_ z l c => rw [ev_congr fun t ht => h t (.inl ht), ev_congr fun t ht => h t (.inr ht)]
  case slice es x lo hi => rw [ev_congr fun t ht => h t (.inl (.inl ht)), evO_congr fun t ht => h t (.inl (.inr ht)), evO_congr fun t ht => h t (.inr ht)]
  case sliceStr x lo hi => rw [ev_congr fun t ht => h t (.inl (.inl ht)), evO_congr fun t ht => h t (.inl (.inr ht)), evO_congr fun t ht => h t (.inr ht)]
  case sliceArr es n x lo hi => rw [ev_congr fun t ht => h t (.inl (.inl ht)), evO_congr fun t ht => h t (.inl (.inr ht)), evO_congr fun t ht => h t (.inr ht)]
  case off n x => rw [ev_congr h]
  case idx es x i => rw [ev_congr fun t ht => h t (.inl ht), ev_congr fun t ht => h t (.inr ht)]
  case idxA ln es x i => rw [ev_congr fun t ht => h t (.inl ht), ev_congr fun t ht => h t (.inr ht)]
  case fieldV fo n agg x => rw [ev_congr h]
  case indexV ln es agg x i => rw [ev_congr fun t ht => h t (.inl ht), ev_congr fun t ht => h t (.inr ht)]
  case indexS x i => rw [ev_congr fun t ht => h t (.inl ht), ev_congr fun t ht => h t (.inr ht)]
  case extract x i => rw [ev_congr h]
  case append es by_ s x => rw [ev_congr fun t ht => h t (.inl ht), ev_congr fun t ht => h t (.inr ht)]
  case appendZ es by_ z s x => rw [ev_congr fun t ht => h t (.inl ht), ev_congr fun t ht => h t (.inr ht)]
  case copy es d s => rw [ev_congr fun t ht => h t (.inl ht), ev_congr fun t ht => h t (.inr ht)]
  case len x => rw [ev_congr h]
  case lenS x => rw [ev_congr h]
  case capN x => rw [ev_congr h]
  case range x => rw [ev_congr h]
  case next x => rw [ev_congr h]
  case encR x => rw [ev_congr h]
  case strOf x => rw [ev_congr h]
  case strOfR x => rw [ev_congr h]
  case runesOf x => rw [ev_congr h]
  case mark x => rw [ev_congr h]
  case sliceX c a b => rw [ev_congr fun t ht => h t (.inl (.inl ht)), ev_congr fun t ht => h t (.inl (.inr ht)), ev_congr fun t ht => h t (.inr ht)]
  case most x y => rw [ev_congr fun t ht => h t (.inl ht), ev_congr fun t ht => h t (.inr ht)]
  case least x y => rw [ev_congr fun t ht => h t (.inl ht), ev_congr fun t ht => h t (.inr ht)]

theorem runOp_congr {T : Specs} {e e' : Env} {σ : Hp} {op : AOp} {k : Value → Hp → Prop} (h : ∀ t ∈ op.reads, e t = e' t) (hr : runOp T op e σ k) : runOp T op e' σ k := by
  by_cases hc : op.isCall = true
  · cases op <;> simp [AOp.isCall] at hc
    case call f xs =>
      simp only [runOp, AOp.reads] at *
      rw [← evL_congr h]
      exact hr
    case callv f xs =>
      simp only [runOp, AOp.reads, List.mem_append] at *
      rw [← evL_congr fun t ht => h t (.inr ht), ← ev_congr fun t ht => h t (.inl ht)]
      exact hr
  · unfold runOp at *
    cases op <;> simp [AOp.isCall] at hc <;> simp only at hr ⊢ <;> rw [← run_congr h] <;> exact hr

def AOper.looks (o : AOper) : List Nat := o.op.reads ++ (match o.guard with | some (t, _) => [t] | none => [])
theorem wanted_congr {e e' : Env} {o : AOper} (h : ∀ t ∈ o.looks, e t = e' t) : wanted o e = wanted o e' := by
  unfold wanted
  unfold AOper.looks at h
  cases hg : o.guard with
  | none => rfl
  | some g =>
    rw [hg] at h
    have := h g.1 (by simp)
    simp only [this]

theorem still_same {e : Env} {σ σ' : Hp} {op : AOp} {v : Value} (hs : op.still = true) (h : op.run e σ = some (v, σ')) : σ' = σ := by
  cases op <;> simp [AOp.still] at hs <;> simp only [AOp.run] at h
  all_goals
    revert h
    repeat' split
    all_goals first
      | (intro h; cases h; done)
      | (intro h; simp only [Option.some.injEq, Prod.mk.injEq] at h; exact h.2.symm)
      | (intro h; obtain ⟨_, _, h⟩ := Option.map_eq_some_iff.1 h; simp only [Prod.mk.injEq] at h; exact h.2.symm)

theorem still_any {e : Env} {σ : Hp} {op : AOp} {v : Value} (hs : op.still = true) (hl : op.isLoad = false) (h : op.run e σ = some (v, σ)) (σ' : Hp) : op.run e σ' = some (v, σ') := by
  cases op <;> simp [AOp.still] at hs
  case slice es x lo hi =>
    cases lo with
    | some _ => simp [AOp.isLoad] at hl
    | none =>
      simp only [AOp.run, mayCut, Bool.or_true, if_true] at h ⊢
      revert h
      repeat' split
      all_goals first
        | (intro h; cases h; done)
        | (intro h; simp only [Option.some.injEq, Prod.mk.injEq] at h ⊢; exact ⟨h.1, trivial⟩)
        | simp_all
  all_goals first
    | (simp [AOp.isLoad] at hl; done)
    | (simp only [AOp.run] at h ⊢
       revert h
       repeat' split
       all_goals first
         | (intro h; cases h; done)
         | (intro h; simp only [Option.some.injEq, Prod.mk.injEq] at h ⊢; exact ⟨h.1, trivial⟩)
         | (intro h; obtain ⟨u, hu, h⟩ := Option.map_eq_some_iff.1 h; simp only [Prod.mk.injEq] at h; rw [hu]; simp [h.1]))
end Go.Ab
