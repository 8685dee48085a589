/- The translation of code; what the abstract machine says holds of the program. Operations whose order is open: the next text. -/
import Derived.Test.YtbdihjmnbadfhaaGreatDoorAb10
namespace Go.Ab
open Go.RowKit

def trGuard (ops : Array Oper) : Option (Nat × Bool) → Option (Option (Nat × Bool))
  | none => some none
  | some (j, want) => match (ops[j]?).bind (·.dst) with
    | some t => some (some (t, want))
    | none => none
def dstOk (N : Nat) : Option Nat → Bool
  | none => true
  | some d => d < N
def trOper (P : Program) (N : Nat) (ops : Array Oper) (o : Oper) : Option AOper := match trOp P o, trGuard ops o.guard with
  | some op, some g => if dstOk N o.dst then some ⟨o.dst, op, g⟩ else none
  | _, _ => none
def trOpers (P : Program) (N : Nat) (ops : Array Oper) : List Oper → Option (List AOper)
  | [] => some []
  | o :: r => match trOper P N ops o, trOpers P N ops r with
    | some x, some l => some (x :: l)
    | _, _ => none

/-- The function has a body of Go text. -/
def CallOk (P : Program) (f : FuncId) : Prop := ∃ fn, P.funcs[f]? = some fn ∧ fn.body.isSome = true ∧ (fn.name == "runtime.NumGoroutine") = false

def Ends (P : Program) (B : Base P) (μ : Mu) (w : World) (K : Value → Hp → Prop) : Ending → World → Prop := fun x w' =>
  ∃ r σ' r' μ', x = .returned r' ∧ K r σ' ∧ μ.le μ' ∧ R B μ' σ' w' ∧ VR μ' r r' ∧ Below B w w' ∧ P = P

/-- The function does what the specification says. -/
def Sim (P : Program) (f : FuncId) (S : Spec) : Prop :=
  ∀ (B : Base P) μ σ w args (cargs : Array Value) K, S args σ K → R B μ σ w → F2 (VR μ) args cargs.toList → CallOk P f ∧ Calls P f cargs w (Ends P B μ w K)

/-- The ways out that are jumps to a label bear numbers from here on: to a label, and out behind it. -/
def jumpB : Nat := 1000000
def exitRel : AExit → Exit → Prop
  | .normal, .normal => True
  | .exit i, .exit j => i = j ∧ j < jumpB
  | .exit i, .goto l => i = jumpB + 2 * l
  | .ret, .ret => True
  | _, _ => False

def Post {P : Program} (B : Base P) (N : Nat) (μ : Mu) (w : World) (Q : AExit → Env → Hp → Prop) : Exit → Act → World → Prop := fun x a' w' =>
  ∃ ax e' σ' μ', exitRel ax x ∧ Q ax e' σ' ∧ μ.le μ' ∧ R B μ' σ' w' ∧ EnvR μ' N e' a'.tmps ∧ a'.defers = [] ∧ Below B w w'

section
variable {P : Program} {T : Specs} {o : Oper} {a : Act} {w : World} {B : Base P} {N : Nat} {μ : Mu} {e : Env} {σ σ' : Hp} {v : Value}

theorem Post.trans {μ' : Mu} {w' : World} {Q : AExit → Env → Hp → Prop} (hμ : μ.le μ') (hb : Below B w w') {x : Exit} {a' : Act} {w'' : World} (h : Post B N μ' w' Q x a' w'') : Post B N μ w Q x a' w'' := by
  obtain ⟨ax, e', σ', μ'', h1, h2, h3, h4, h5, h6, h7⟩ := h
  exact ⟨ax, e', σ', μ'', h1, h2, Mu.le_trans hμ h3, h4, h5, h6, hb.trans h7⟩

theorem wanted_ok {ops : Array Oper} {g : Option (Nat × Bool)} {op : AOp} (hg : trGuard ops o.guard = some g) (he : EnvR μ N e a.tmps) : Region.wanted o (yielded ops a.tmps) = wanted ⟨o.dst, op, g⟩ e := by
  unfold trGuard at hg
  unfold Region.wanted wanted
  split at hg
  · rename_i h
    injection hg with hg
    subst hg
    simp [h]
  · rename_i j want h
    split at hg
    · rename_i t ht
      injection hg with hg
      subst hg
      simp only [h]
      have hv := he.2 t
      unfold yielded
      rw [ht]
      simp only [Option.bind_some]
      by_cases hlt : t < a.tmps.size
      · have e1 : a.tmps[t]? = some (a.tmps.getD t undef) := by simp [hlt]
        rw [e1]
        generalize a.tmps.getD t undef = u at *
        generalize e t = u' at *
        cases hv <;> simp
        try (rename_i b; cases b <;> cases want <;> rfl)
      · have e1 : a.tmps[t]? = none := Array.getElem?_eq_none (Nat.le_of_not_lt hlt)
        have e2 : a.tmps.getD t undef = undef := by simp [e1]
        rw [e2] at hv
        rw [e1]
        generalize e t = u at *
        cases hv
        simp
    · cases hg

theorem EnvR.putO (h : EnvR μ N e a.tmps) {d : Option Nat} (hd : dstOk N d = true) {v' : Value} (hv : VR μ v v') : EnvR μ N (e.putO d v) (a.put d v').tmps := by
  cases d with
  | none => exact h
  | some d => exact h.put d (by simpa [dstOk] using hd) hv
theorem put_defers (d : Option Nat) (v' : Value) : (a.put d v').defers = a.defers := by cases d <;> rfl

theorem enters_ok {f : FuncId} (h : CallOk P f) (args : Array Value) (w : World) : (callFunc f args).run P w = .ok (.enter f args) w := by
  obtain ⟨fn, h1, h2, h3⟩ := h
  have h4 : fn.body.isNone = false := by cases hb : fn.body <;> simp [hb] at h2 ⊢
  simp only [callFunc, Sem.run_bind, run_program, Result.andThen_ok, h1, h3, h4, Bool.false_eq_true, if_false, Sem.run_pure]

theorem VR.func_inv {f : Fn} {x y : Array Value} {v' : Value} (h : VR μ (.func f x y) v') : ∃ x' y', v' = .func f x' y' ∧ F2 (VR μ) x.toList x'.toList ∧ F2 (VR μ) y.toList y'.toList := by
  cases h with
  | func h1 h2 => exact ⟨_, _, rfl, h1, h2⟩

theorem trOp_call {f : FuncId} {args : List Operand} (h : trOp P o = some (.call f args)) : ∃ c, o.op = .call c ∧ trCall P c = some (.call f args) := by
  unfold trOp at h
  split at h
  all_goals first
    | exact ⟨_, ‹_›, h⟩
    | (exfalso; revert h; unfold trBin; (repeat' split) <;> simp)
    | (exfalso; revert h; (repeat' split) <;> simp)
theorem trOp_callv {f : Operand} {args : List Operand} (h : trOp P o = some (.callv f args)) : ∃ c, o.op = .call c ∧ trCall P c = some (.callv f args) := by
  unfold trOp at h
  split at h
  all_goals first
    | exact ⟨_, ‹_›, h⟩
    | (exfalso; revert h; unfold trBin; (repeat' split) <;> simp)
    | (exfalso; revert h; (repeat' split) <;> simp)
theorem trCall_call {c : Call} {f : FuncId} {args : List Operand} (h : trCall P c = some (.call f args)) : c.callee = .value (.func f) ∧ opds c.args.toList = some args := by
  unfold trCall at h
  split at h
  · rename_i hc
    split at h
    · simp at h
      obtain ⟨h1, rfl⟩ := h
      exact ⟨hc, h1⟩
    · cases h
  all_goals (exfalso; revert h; (repeat' split) <;> simp)
theorem trCall_callv {c : Call} {f : Operand} {args : List Operand} (h : trCall P c = some (.callv f args)) : c.callee = .value f ∧ okOpd f = true ∧ opds c.args.toList = some args := by
  unfold trCall at h
  split at h
  · exfalso; revert h; split <;> simp
  · rename_i hc
    simp at h
    obtain ⟨h1, rfl⟩ := h
    exact ⟨hc, rfl, h1⟩
  all_goals (exfalso; revert h; (repeat' split) <;> simp)

theorem call_ok (hT : ∀ f, Sim P f (T f)) {f : FuncId} {args : List Value} {cargs : Array Value} {k : Value → Hp → Prop} (hr : T f args σ k) (hR : R B μ σ w) (ha : F2 (VR μ) args cargs.toList)
    (hrun : CallOk P f → (execOp a.eval o).run P w = .ok (.enter f cargs) w) {next : Act → World → Prop} {Q : Exit → Act → World → Prop}
    (hk : ∀ v σ' v' μ' w', k v σ' → μ.le μ' → R B μ' σ' w' → VR μ' v v' → Below B w w' → next (a.put o.dst v') w') : o.wp P a w next Q := by
  obtain ⟨h1, h2⟩ := hT f B μ σ w args cargs k hr hR ha
  unfold Oper.wp
  rw [hrun h1]
  simp only [Oper.upon]
  refine h2.mono fun x w' hx => ?_
  obtain ⟨r, σ', r', μ', rfl, q1, q2, q3, q4, q5, _⟩ := hx
  exact hk r σ' r' μ' w' q1 q2 q3 q4 q5

/-- One operation that is carried out. -/
theorem runOp_ok (hT : ∀ f, Sim P f (T f)) {op : AOp} (h : trOp P o = some op) {k : Value → Hp → Prop} (hr : runOp T op e σ k) (he : EnvR μ N e a.tmps) (hR : R B μ σ w)
    {next : Act → World → Prop} {Q : Exit → Act → World → Prop}
    (hk : ∀ v σ' v' μ' w', k v σ' → μ.le μ' → R B μ' σ' w' → VR μ' v v' → Below B w w' → next (a.put o.dst v') w') : o.wp P a w next Q := by
  by_cases hc : op.isCall = true
  · cases op <;> simp [AOp.isCall] at hc
    case call f args =>
      obtain ⟨c, ho, h1⟩ := trOp_call h
      obtain ⟨h2, h3⟩ := trCall_call h1
      have ha := ev_list he h3
      simp only [runOp] at hr
      refine call_ok (cargs := c.args.map a.eval) hT hr hR (by simpa using ha) (fun hcall => ?_) hk
      simp only [execOp, ho, resolve, h2, Sem.run_bind, Act.eval, Deferred.ofValue, Sem.run_pure, Result.andThen_ok, invoke]
      simp [enters_ok hcall]
    case callv f args =>
      obtain ⟨c, ho, h1⟩ := trOp_callv h
      obtain ⟨h2, h4, h3⟩ := trCall_callv h1
      have ha := ev_list he h3
      have hf := he.ev h4
      simp only [runOp] at hr
      split at hr
      · rename_i g first captured hg
        rw [hg] at hf
        obtain ⟨x', y', e1, e2, e3⟩ := hf.func_inv
        refine call_ok (cargs := x' ++ c.args.map a.eval ++ y') hT hr hR (by simpa using (e2.append ha).append e3) (fun hcall => ?_) hk
        simp only [execOp, ho, resolve, h2, e1, Sem.run_bind, Deferred.ofValue, Sem.run_pure, Result.andThen_ok, invoke]
        simp [enters_ok hcall]
      · exact hr.elim
  · have hr' : ∃ v σ', op.run e σ = some (v, σ') ∧ k v σ' := by
      unfold runOp at hr
      cases op <;> simp [AOp.isCall] at hc <;> simp only at hr
      all_goals
        split at hr
        · rename_i v σ' hv; exact ⟨v, σ', hv, hr⟩
        · exact hr.elim
    obtain ⟨v, σ', hv, hkv⟩ := hr'
    obtain ⟨nx, w', μ', v', h1, h2, h3, h4, h5, h6⟩ := trOp_ok h (by simpa using hc) hv he hR
    unfold Oper.wp
    rw [h1]
    rcases h2 with rfl | ⟨rfl, rfl⟩
    · exact hk v σ' v' μ' w' hkv h3 h4 h5 h6
    · exact hk v σ' undef μ' w' hkv h3 h4 h5 h6

/-- Operations in the order of the text. -/
theorem ops_ok (hT : ∀ f, Sim P f (T f)) {ops : Array Oper} {Q : AExit → Env → Hp → Prop} {μ0 : Mu} {w0 : World} : ∀ (l : List Oper) (al : List AOper) (e : Env) (σ : Hp) (μ : Mu) (a : Act) (w : World), trOpers P N ops l = some al → wpOps T (Q .normal) al e σ →
    R B μ σ w → EnvR μ N e a.tmps → a.defers = [] → μ0.le μ → Below B w0 w → wpList P ops (Post B N μ0 w0 Q) l a w
  | [], al, e, σ, μ, a, w, h, hw, hR, he, hd, hμ0, hb0 => by
    simp [trOpers] at h
    subst h
    exact ⟨.normal, e, σ, μ, trivial, hw, hμ0, hR, he, hd, hb0⟩
  | o :: l, al, e, σ, μ, a, w, h, hw, hR, he, hd, hμ0, hb0 => by
    simp only [trOpers] at h
    split at h
    · rename_i x r h1 h2
      injection h with h
      subst h
      unfold trOper at h1
      split at h1
      · rename_i op g h3 h4
        split at h1
        · rename_i h5
          injection h1 with h1
          subst h1
          have hwant := wanted_ok (op := op) h4 he
          unfold wpList
          simp only [wpOps] at hw
          rw [hwant]
          split
          · rename_i hb
            rw [if_pos hb] at hw
            left
            refine runOp_ok hT h3 hw he hR fun v σ' v' μ' w' hk hμ hR' hv hbel => ?_
            exact ops_ok hT l r _ σ' μ' (a.put o.dst v') w' h2 hk hR' ((he.mono hμ).putO h5 hv) (by rw [put_defers]; exact hd) (Mu.le_trans hμ0 hμ) (hb0.trans hbel)
          · rename_i hb
            rw [if_neg hb] at hw
            exact ops_ok hT l r _ σ μ (a.put o.dst undef) w h2 hw hR (he.putO h5 (VR.undef μ)) (by rw [put_defers]; exact hd) hμ0 hb0
        · cases h1
      · cases h1
    · cases h
end
end Go.Ab
