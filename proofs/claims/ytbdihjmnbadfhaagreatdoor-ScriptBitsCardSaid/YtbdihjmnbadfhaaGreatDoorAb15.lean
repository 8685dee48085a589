/- Functions; what may be forgotten behind a call. -/
import Derived.Test.YtbdihjmnbadfhaaGreatDoorAb14
namespace Go.Ab
open Go.RowKit

def trRes (P : Program) : List ResultVar → Option (List ARes)
  | [] => some []
  | .tmp t :: r => (trRes P r).map (.tmp t :: ·)
  | .cell a t :: r => match aggOf P t, szOf P t, trRes P r with
    | some true, some n, some r => some (.cellN a n :: r)
    | some false, some _, some r => some (.cell a :: r)
    | _, _, _ => none

def trFn (P : Program) (f : FuncId) : Option AFn := match P.funcs[f]? with
  | some fn => match fn.body, enters P f with
    | some c, true => match trCode P fn.ntmps c, trRes P fn.results.toList with
      | some ac, some rs => some ⟨fn.ntmps, rs, ac⟩
      | _, _ => none
    | _, _ => none
  | none => none

section
variable {P : Program} {T : Specs} {B : Base P} {N : Nat} {μ : Mu} {σ : Hp} {w : World} {e : Env}

def resF (tmps : Array Value) : ResultVar → Sem Value
  | .tmp t => pure (tmps.getD t undef)
  | .cell a t => do loadVar t (← asAddr (tmps.getD a undef))
theorem results_eq (fn : Func) (tmps : Array Value) : results fn tmps = (do
    let vs ← fn.results.mapM (resF tmps)
    pure (if h : vs.size = 1 then vs[0] else .tuple vs)) := rfl

theorem res_ok {tmps : Array Value} (he : EnvR μ N e tmps) (hR : R B μ σ w) : ∀ (l : List ResultVar) (rs : List ARes) (vs : List Value), trRes P l = some rs → resL e σ rs = some vs →
    ∃ vs', (l.mapM (resF tmps)).run P w = .ok vs' w ∧ F2 (VR μ) vs vs'
  | [], rs, vs, h, hr => by
    simp [trRes] at h
    subst h
    simp [resL] at hr
    subst hr
    exact ⟨[], by simp, .nil⟩
  | .tmp t :: l, rs, vs, h, hr => by
    simp only [trRes] at h
    obtain ⟨rs', h1, h⟩ := Option.map_eq_some_iff.1 h
    subst h
    simp only [resL] at hr
    split at hr
    · rename_i v vs1 h2 h3
      injection hr with hr
      subst hr
      simp [resOf] at h2
      subst h2
      obtain ⟨vs', h4, h5⟩ := res_ok he hR l rs' vs1 h1 h3
      refine ⟨tmps.getD t undef :: vs', ?_, .cons (he.2 t) h5⟩
      have hF : (resF tmps (.tmp t)).run P w = .ok (tmps.getD t undef) w := rfl
      simp only [List.mapM_cons, Sem.run_bind, Sem.run_pure, Result.andThen_ok, hF, h4]
    · cases hr
  | .cell a t :: l, rs, vs, h, hr => by
    simp only [trRes] at h
    have hv := he.2 a
    split at h
    · rename_i n rs' h1 h2 h3
      injection h with h
      subst h
      simp only [resL] at hr
      split at hr
      · rename_i v vs1 h4 h5
        injection hr with hr
        subst hr
        obtain ⟨vs', h6, h7⟩ := res_ok he hR l rs' vs1 h3 h5
        simp only [resOf] at h4
        split at h4
        · rename_i b o hb
          rw [hb] at hv
          obtain ⟨g, hg, hq⟩ := hv.ptr_inv
          obtain ⟨x, hx, h4⟩ := Option.bind_eq_some_iff.1 h4
          obtain ⟨cs, hcs, rfl⟩ := Option.map_eq_some_iff.1 h4
          obtain ⟨cs', k1, k2⟩ := hR.reads hx hg hcs
          refine ⟨.agg cs'.toArray :: vs', ?_, .cons (.agg k2) h7⟩
          have hF : (resF tmps (.cell a t)).run P w = .ok (.agg cs'.toArray) w := by
            simp only [resF, Sem.run_bind, hq, asAddr, Sem.run_pure, Result.andThen_ok, loadVar, run_agg h1, if_true, run_sz h2, k1 P w rfl]
          simp only [List.mapM_cons, Sem.run_bind, Sem.run_pure, Result.andThen_ok, hF, h6]
        · cases h4
      · cases hr
    · rename_i n rs' h1 h2 h3
      injection h with h
      subst h
      simp only [resL] at hr
      split at hr
      · rename_i v vs1 h4 h5
        injection hr with hr
        subst hr
        obtain ⟨vs', h6, h7⟩ := res_ok he hR l rs' vs1 h3 h5
        simp only [resOf] at h4
        split at h4
        · rename_i b o hb
          rw [hb] at hv
          obtain ⟨g, hg, hq⟩ := hv.ptr_inv
          obtain ⟨x, hx, h4⟩ := Option.bind_eq_some_iff.1 h4
          obtain ⟨v', k1, k2⟩ := (hR.get hx hg.1).cell hg.2 o v h4
          refine ⟨v' :: vs', ?_, .cons k2 h7⟩
          have hF : (resF tmps (.cell a t)).run P w = .ok v' w := by
            simp only [resF, Sem.run_bind, hq, asAddr, Sem.run_pure, Result.andThen_ok, loadVar, run_agg h1, Bool.false_eq_true, if_false, run_load, k1]
          simp only [List.mapM_cons, Sem.run_bind, Sem.run_pure, Result.andThen_ok, hF, h6]
        · cases h4
      · cases hr
    · cases h

theorem fn_ok {f : FuncId} {af : AFn} (h : trFn P f = some af) (hM : MonoT T) (hT : ∀ g, Sim P g (T g)) : Sim P f (wpF T af) := by
  unfold trFn at h
  split at h
  · rename_i fn hfn
    split at h
    · rename_i c hb hen
      split at h
      · rename_i ac rs h1 h2
        injection h with h
        subst h
        intro B μ σ w args cargs K hw hR ha
        obtain ⟨hlen, hw⟩ := hw
        have hcall : CallOk P f := by
          unfold enters at hen
          rw [hfn] at hen
          simp only [Bool.and_eq_true, Bool.not_eq_true'] at hen
          exact ⟨fn, hfn, hen.1, hen.2⟩
        refine ⟨hcall, calls_of_wp hfn hb ?_⟩
        have hsz : cargs.size = args.length := by simpa using ha.length.symm
        have henv : EnvR μ fn.ntmps (Env.of args) (cargs ++ Array.replicate (fn.ntmps - cargs.size) undef) := by
          refine ⟨by simp only [Array.size_append, Array.size_replicate]; simp only at hlen; omega, fun t => ?_⟩
          unfold Env.of
          by_cases ht : t < args.length
          · obtain ⟨v', h3, h4⟩ := ha.get t args[t] (List.getElem?_eq_getElem ht)
            have : (cargs ++ Array.replicate (fn.ntmps - cargs.size) undef).getD t undef = v' := by
              simp only [Array.getD_eq_getD_getElem?]
              rw [Array.getElem?_append_left (by omega)]
              have : cargs[t]? = some v' := by simpa using h3
              simp [this]
            rw [this, List.getElem?_eq_getElem ht]
            exact h4
          · have : (cargs ++ Array.replicate (fn.ntmps - cargs.size) undef).getD t undef = undef := by
              simp only [Array.getD_eq_getD_getElem?]
              rw [Array.getElem?_append_right (by omega), Array.getElem?_replicate]
              split <;> rfl
            rw [this, List.getElem?_eq_none (by omega)]
            exact VR.undef μ
        refine wp_mono (code_ok hM hT c ac h1 _ _ σ μ ⟨_, []⟩ w hw hR henv rfl) fun x a' w' hx => ?_
        obtain ⟨ax, e', σ', μ', hxr, hq, g1, g2, g3, g4, g5⟩ := hx
        have fin : (match resL e' σ' rs with
            | some vs => K (tupleOf vs) σ'
            | none => False) → a'.defers = [] ∧ ∃ v, (results fn a'.tmps).run P w' = .ok v w' ∧ Ends P B μ w K (.returned v) w' := by
          intro hq
          refine ⟨g4, ?_⟩
          split at hq
          · rename_i vs hvs
            obtain ⟨vs', k1, k2⟩ := res_ok (P := P) g3 g2 fn.results.toList rs vs h2 hvs
            have hl := k2.length
            refine ⟨tupleOf vs', ?_, _, σ', _, μ', rfl, hq, g1, g2, ?_, g5, rfl⟩
            · rw [results_eq, Array.mapM_eq_mapM_toList]
              simp only [Sem.run_bind, Sem.run_map, k1, Result.andThen_ok, Sem.run_pure]
              congr 1
              match vs', hl with
              | [], _ => rfl
              | [v], _ => rfl
              | v :: u :: r, _ => simp [tupleOf]
            · match vs, vs', k2 with
              | [], _, .nil => exact .tuple .nil
              | [v], _, .cons h .nil => exact h
              | v :: u :: r, _, .cons h (.cons h' t) => exact .tuple (.cons h (.cons h' t))
          · exact hq.elim
        cases ax with
        | normal =>
          cases x <;> simp [exitRel] at hxr
          exact fin hq
        | exit id => exact hq.elim
        | ret =>
          cases x <;> simp [exitRel] at hxr
          exact fin hq
      · cases h
    · cases h
  · cases h

/-- Nothing is known of a function. -/
theorem Sim.none (P : Program) (f : FuncId) : Sim P f fun _ _ _ => False := fun _ _ _ _ _ _ _ h => h.elim
theorem Sim.of {f : FuncId} {S S' : Spec} (h : Sim P f S) (hS : ∀ args σ K, S' args σ K → S args σ K) : Sim P f S' :=
  fun B μ σ w args cargs K hk => h B μ σ w args cargs K (hS args σ K hk)
end

/-! ### What may be forgotten -/
/-- A value under other numbers of blocks. -/
inductive Rn (ν : Nat → Nat) (n : Nat) : Value → Value → Prop where
  | bool (b : Bool) : Rn ν n (.bool b) (.bool b)
  | int (k : IntKind) (m : Int) : Rn ν n (.int k m) (.int k m)
  | string (s : ByteArray) : Rn ν n (.string s) (.string s)
  | nilp : Rn ν n (.pointer none) (.pointer none)
  | ptr {b o : Nat} : b < n → Rn ν n (.pointer (some ⟨b, o, none⟩)) (.pointer (some ⟨ν b, o, none⟩))
  | nils : Rn ν n (.slice none 0 0) (.slice none 0 0)
  | slice {b o l c : Nat} : b < n → Rn ν n (.slice (some ⟨b, o, none⟩) l c) (.slice (some ⟨ν b, o, none⟩) l c)
  | nilf : Rn ν n .nilFunc .nilFunc
  | func {f : Fn} {a a' c c' : Array Value} : F2 (Rn ν n) a.toList a'.toList → F2 (Rn ν n) c.toList c'.toList → Rn ν n (.func f a c) (.func f a' c')
  | nili : Rn ν n .nilIface .nilIface
  | agg {a a' : Array Value} : F2 (Rn ν n) a.toList a'.toList → Rn ν n (.agg a) (.agg a')
  | tuple {a a' : Array Value} : F2 (Rn ν n) a.toList a'.toList → Rn ν n (.tuple a) (.tuple a')

theorem Rn.vr {ν : Nat → Nat} {n : Nat} {μ1 μ' : Mu} (hμ : ∀ b, b < n → μ' b = μ1 (ν b)) : ∀ {v u : Value}, Rn ν n v u → ∀ {u' : Value}, VR μ1 u u' → VR μ' v u'
  | _, _, .bool b, _, h => by cases h; exact .bool b
  | _, _, .int k m, _, h => by cases h; exact .int k m
  | _, _, .string s, _, h => by cases h; exact .string s
  | _, _, .nilp, _, h => by cases h; exact .nilp
  | _, _, .ptr hb, _, h => by cases h with | ptr h1 => exact .ptr ⟨(hμ _ hb).trans h1.1, h1.2⟩
  | _, _, .nils, _, h => by cases h; exact .nils
  | _, _, .slice hb, _, h => by cases h with
    | slice h1 h2 h3 h4 => exact .slice ⟨(hμ _ hb).trans h1.1, h1.2⟩ h2 h3 h4
    | slice0 A' h1 => exact .slice0 _ ⟨(hμ _ hb).trans h1.1, h1.2⟩
  | _, _, .nilf, _, h => by cases h; exact .nilf
  | _, _, .func h1 h2, _, h => by cases h with | func k1 k2 => exact .func (go h1 k1) (go h2 k2)
  | _, _, .nili, _, h => by cases h; exact .nili
  | _, _, .agg h1, _, h => by cases h with | agg k1 => exact .agg (go h1 k1)
  | _, _, .tuple h1, _, h => by cases h with | tuple k1 => exact .tuple (go h1 k1)
where
  go {l m : List Value} : F2 (Rn ν n) l m → ∀ {m' : List Value}, F2 (VR μ1) m m' → F2 (VR μ') l m'
  | .nil, _, h => by cases h; exact .nil
  | .cons h1 t1, _, h => by cases h with | cons k1 k2 => exact .cons (Rn.vr hμ h1 k1) (go t1 k2)

/-- What a value refers to is known under a smaller map, too. -/
theorem VR.narrow {μ μ1 μ' : Mu} (hμ : ∀ b g g1, μ b = some g → μ1 b = some g1 → μ' b = some g1) : ∀ {v u : Value}, VR μ v u → ∀ {u' : Value}, VR μ1 v u' → VR μ' v u'
  | _, _, .bool b, _, h => by cases h; exact .bool b
  | _, _, .int k m, _, h => by cases h; exact .int k m
  | _, _, .string s, _, h => by cases h; exact .string s
  | _, _, .nilp, _, h => by cases h; exact .nilp
  | _, _, .ptr hb, _, h => by cases h with | ptr h1 => exact .ptr ⟨hμ _ _ _ hb.1 h1.1, h1.2⟩
  | _, _, .nils, _, h => by cases h; exact .nils
  | _, _, .slice hb _ _ _, _, h => by cases h with
    | slice h1 h2 h3 h4 => exact .slice ⟨hμ _ _ _ hb.1 h1.1, h1.2⟩ h2 h3 h4
    | slice0 A' h1 => exact .slice0 _ ⟨hμ _ _ _ hb.1 h1.1, h1.2⟩
  | _, _, .slice0 A' hb, _, h => by cases h with
    | slice h1 h2 h3 h4 => exact .slice ⟨hμ _ _ _ hb.1 h1.1, h1.2⟩ h2 h3 h4
    | slice0 A' h1 => exact .slice0 _ ⟨hμ _ _ _ hb.1 h1.1, h1.2⟩
  | _, _, .sliceX hb _, _, h => by cases h with
    | sliceX h1 h2 => exact .sliceX ⟨hμ _ _ _ hb.1 h1.1, h1.2⟩ h2
    | sliceX0 A' h1 => exact .sliceX0 _ ⟨hμ _ _ _ hb.1 h1.1, h1.2⟩
  | _, _, .sliceX0 A' hb, _, h => by cases h with
    | sliceX h1 h2 => exact .sliceX ⟨hμ _ _ _ hb.1 h1.1, h1.2⟩ h2
    | sliceX0 A' h1 => exact .sliceX0 _ ⟨hμ _ _ _ hb.1 h1.1, h1.2⟩
  | _, _, .nilf, _, h => by cases h; exact .nilf
  | _, _, .func h1 h2, _, h => by cases h with | func k1 k2 => exact .func (go h1 k1) (go h2 k2)
  | _, _, .iter hb _, _, h => by cases h with | iter k1 k2 => exact .iter (hμ _ _ _ hb k1) k2
  | _, _, .nili, _, h => by cases h; exact .nili
  | _, _, .agg h1, _, h => by cases h with | agg k1 => exact .agg (go h1 k1)
  | _, _, .tuple h1, _, h => by cases h with | tuple k1 => exact .tuple (go h1 k1)
where
  go {l m : List Value} : F2 (VR μ) l m → ∀ {m' : List Value}, F2 (VR μ1) l m' → F2 (VR μ') l m'
  | .nil, _, h => by cases h; exact .nil
  | .cons h1 t1, _, h => by cases h with | cons k1 k2 => exact .cons (VR.narrow hμ h1 k1) (go t1 k2)
end Go.Ab
