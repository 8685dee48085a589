/- Code, functions: what the abstract machine says holds of the program. -/
import Derived.Test.YtbdihjmnbadfhaaGreatDoorAb13m
namespace Go.Ab
open Go.RowKit

def trDraw (P : Program) (N : Nat) (ops : Array Oper) : List Oper → Option DL
  | [] => some []
  | o :: r => match trOper P N ops o, trDraw P N ops r with
    | some x, some l => some ((x, (o.after.toList.filter (Region.binds .any ·)).map (·.on)) :: l)
    | _, _ => none

/-- By which numbers code may be left, told as a list. -/
def AC.outsL : AC → List Nat
  | .seq a b | .cond _ a b => a.outsL ++ b.outsL
  | .block id b => b.outsL.filter fun i => !(i == id)
  | .loop b => b.outsL
  | .exit j => [j]
  | _ => []
theorem outs_mem : ∀ (c : AC) (i : Nat), c.outs i = true → i ∈ c.outsL := by
  intro c
  induction c with
  | seq a b iha ihb =>
    intro i h
    simp only [AC.outs, Bool.or_eq_true] at h
    exact List.mem_append.2 (h.elim (fun h => .inl (iha i h)) fun h => .inr (ihb i h))
  | cond c a b iha ihb =>
    intro i h
    simp only [AC.outs, Bool.or_eq_true] at h
    exact List.mem_append.2 (h.elim (fun h => .inl (iha i h)) fun h => .inr (ihb i h))
  | block id b ih =>
    intro i h
    simp only [AC.outs, Bool.and_eq_true] at h
    exact List.mem_filter.2 ⟨ih i h.1, h.2⟩
  | loop b ih => intro i h; exact ih i h
  | exit j => intro i h; simp [AC.outs] at h; simp [AC.outsL, h]
  | _ => intro i h; simp [AC.outs] at h
def AC.noJump (c : AC) : Bool := c.outsL.all fun i => decide (i < jumpB)
theorem noJump_lt {c : AC} (h : c.noJump = true) {i : Nat} (hi : c.outs i = true) : i < jumpB := by
  have := List.all_eq_true.1 h i (outs_mem c i hi)
  exact of_decide_eq_true this

/-- The labels that code bears outside its blocks. -/
def spineLabels : Code → List Nat
  | .seq a b => spineLabels a ++ spineLabels b
  | .label l => [l]
  | _ => []
theorem findLabel_none : ∀ (c : Code) (l : Nat), l ∉ spineLabels c → findLabel c l = none := by
  intro c
  induction c with
  | seq a b iha ihb =>
    intro l h
    simp only [spineLabels, List.mem_append, not_or] at h
    simp only [findLabel, iha l h.1, ihb l h.2]
  | label l' =>
    intro l h
    simp only [spineLabels, List.mem_singleton] at h
    simp only [findLabel]
    rw [if_neg (by simpa using fun e => h e.symm)]
  | _ => intro l h; rfl
def hasGoto (l : Nat) : Code → Bool
  | .goto l' => l' == l
  | .seq a b | .cond _ a b => hasGoto l a || hasGoto l b
  | .block _ b | .loop b | .scope b => hasGoto l b
  | _ => false
def isLabel : Code → Option Nat
  | .label l => some l
  | _ => none
theorem isLabel_some {c : Code} {l : Nat} (h : isLabel c = some l) : c = .label l := by
  cases c <;> simp [isLabel] at h
  rw [h]
/-- The label to which code jumps back. -/
def loopLabel : Code → Option Nat
  | .seq a b => match isLabel a with
    | some l => if hasGoto l b then some l else loopLabel b
    | none => loopLabel b
  | _ => none
def jumpIn (l : Nat) : Nat := jumpB + 2 * l
def jumpOut (l : Nat) : Nat := jumpB + 2 * l + 1
def loopify (l : Nat) (b : AC) : AC := .block (jumpOut l) (.loop (.block (jumpIn l) (.seq b (.exit (jumpOut l)))))
def labelsOk (a b : Code) : Bool := match loopLabel b with
  | some l => !(spineLabels a).contains l
  | none => true

def twice (x : Option AC) : Option AC × Option AC := (x, x)
def seqO : Option AC → Option AC → Option AC
  | some a, some b => some (.seq a b)
  | _, _ => none
def spineO (a b : Code) (xa xb sb : Option AC) : Option AC := match isLabel a with
  | some l => if hasGoto l b then xb.map (loopify l) else if labelsOk a b then sb.map (.seq .skip) else none
  | none => match xa, sb with
    | some x, some y => if labelsOk a b && ((loopLabel b).isNone || x.noJump) then some (.seq x y) else none
    | _, _ => none
/-- Code as code, and as a scope's. -/
def tr2 (P : Program) (N : Nat) : Code → Option AC × Option AC
  | .skip => twice (some .skip)
  | .label _ => twice (some .skip)
  | .region _ ops draw => twice (if draw then match trDraw P N ops ops.toList with
      | some l => if drawOk l && P.follows .mixedOrders then (match mkItems l l.length [] [] with
        | some its => some (.sched its)
        | none => some (.draw l)) else none
      | none => none
    else (trOpers P N ops ops.toList).map .region)
  | .seq a b => (seqO (tr2 P N a).1 (tr2 P N b).1, spineO a b (tr2 P N a).1 (tr2 P N b).1 (tr2 P N b).2)
  | .cond c a b => twice (match opd c, (tr2 P N a).1, (tr2 P N b).1 with
    | some c, some a, some b => some (.cond c a b)
    | _, _, _ => none)
  | .block id b => twice (if id < jumpB then ((tr2 P N b).1).map (.block id) else none)
  | .loop b => twice (((tr2 P N b).1).map .loop)
  | .scope b => twice (match (tr2 P N b).2 with
    | some ac => if ac.noJump then some ac else none
    | none => none)
  | .exit id => twice (if id < jumpB then some (.exit id) else none)
  | .goto l => twice (some (.exit (jumpIn l)))
  | .ret => twice (some .ret)
  | _ => twice none
def trCode (P : Program) (N : Nat) (c : Code) : Option AC := (tr2 P N c).1
def trSpine (P : Program) (N : Nat) (c : Code) : Option AC := (tr2 P N c).2

section
variable {P : Program} {T : Specs} {ops : Array Oper} {B : Base P} {N : Nat}

theorem trDraw_fits : ∀ {l : List Oper} {al : DL}, trDraw P N ops l = some al → l.length = al.length ∧ ∀ (i : Nat) o, l[i]? = some o → ∃ x, al[i]? = some (x, (o.after.toList.filter (Region.binds .any ·)).map (·.on)) ∧ trOper P N ops o = some x
  | [], al, h => by
    simp [trDraw] at h
    subst h
    exact ⟨rfl, fun i o h => by simp at h⟩
  | o :: l, al, h => by
    simp only [trDraw] at h
    split at h
    · rename_i x r h1 h2
      injection h with h
      subst h
      obtain ⟨h3, h4⟩ := trDraw_fits h2
      refine ⟨by simp [h3], fun i o' ho => ?_⟩
      cases i with
      | zero => simp at ho; subst ho; exact ⟨x, rfl, h1⟩
      | succ i => simp at ho; simpa using h4 i o' ho
    · cases h

theorem fits_of {al : DL} (h : trDraw P N ops ops.toList = some al) : Fits P N ops al := by
  obtain ⟨h1, h2⟩ := trDraw_fits h
  refine ⟨by simpa using h1, fun i o ho => ?_, fun i o ho q => ?_⟩
  · obtain ⟨x, h3, h4⟩ := h2 i o (by simpa using ho)
    refine ⟨x, ?_, h4⟩
    have : predsOf al i = (o.after.toList.filter (Region.binds .any ·)).map (·.on) := by simp [predsOf, h3]
    rw [this]
    exact h3
  · obtain ⟨x, h3, h4⟩ := h2 i o (by simpa using ho)
    have : predsOf al i = (o.after.toList.filter (Region.binds .any ·)).map (·.on) := by simp [predsOf, h3]
    rw [this]
    simp [and_assoc]

theorem wpLoop_sound {b : Code} {f : (AExit → Env → Hp → Prop) → Env → Hp → Prop}
    (hb : ∀ (Q : AExit → Env → Hp → Prop) (e : Env) (σ : Hp) (μ : Mu) (a : Act) (w : World), f Q e σ → R B μ σ w → EnvR μ N e a.tmps → a.defers = [] → b.wp P (Post B N μ w Q) a w)
    {Q : AExit → Env → Hp → Prop} {μ0 : Mu} {w0 : World} {n : Nat} {e : Env} {σ : Hp} {μ : Mu} {a : Act} {w : World} (h : wpLoop f Q n e σ) (hR : R B μ σ w) (he : EnvR μ N e a.tmps) (hd : a.defers = []) (hμ : μ0.le μ) (hbel : Below B w0 w) :
    (Code.loop b).wp P (Post B N μ0 w0 Q) a w := by
  -- the number of rounds that are left is a ghost: the loop's rule takes the greatest that serves
  intro bf k cs
  have key : ∀ n e σ μ a w, wpLoop f Q n e σ → R B μ σ w → EnvR μ N e a.tmps → a.defers = [] → μ0.le μ → Below B w0 w →
      ∃ x a' w', Post B N μ0 w0 Q x a' w' ∧ Arrives P (lone (bf.at a (.code b :: .inLoop b :: k)) cs w) bf k cs x a' w' := by
    intro n
    induction n with
    | zero => intro e σ μ a w h; exact h.elim
    | succ n ih =>
      intro e σ μ a w h hR he hd hμ hbel
      simp only [wpLoop] at h
      obtain ⟨x, a₁, w₁, hq, harr⟩ := hb _ e σ μ a w h hR he hd bf (.inLoop b :: k) cs
      obtain ⟨ax, e1, σ1, μ1, hx, hq, h1, h2, h3, h4, h5⟩ := hq
      cases ax with
      | normal =>
        cases x <;> simp [exitRel] at hx
        obtain ⟨x₂, a₂, w₂, hq₂, harr₂⟩ := ih e1 σ1 μ1 a₁ w₁ hq h2 h3 h4 (Mu.le_trans hμ h1) (hbel.trans h5)
        exact ⟨x₂, a₂, w₂, hq₂, .of_steps (Steps.trans harr (.one step_inLoop)) harr₂⟩
      | exit id =>
        cases x with
        | exit j =>
          obtain ⟨rfl, hj⟩ := hx
          exact ⟨.exit id, a₁, w₁, ⟨.exit id, e1, σ1, μ1, ⟨rfl, hj⟩, hq, Mu.le_trans hμ h1, h2, h3, h4, hbel.trans h5⟩, .pass (x := .inLoop b) rfl (fun _ _ => .inl (by simp)) harr⟩
        | goto l => exact ⟨.goto l, a₁, w₁, ⟨.exit id, e1, σ1, μ1, hx, hq, Mu.le_trans hμ h1, h2, h3, h4, hbel.trans h5⟩, fun k' hk => harr k' (by simp [gotoIn, hk])⟩
        | _ => exact hx.elim
      | ret =>
        cases x <;> simp [exitRel] at hx
        exact ⟨.ret, a₁, w₁, ⟨.ret, e1, σ1, μ1, trivial, hq, Mu.le_trans hμ h1, h2, h3, h4, hbel.trans h5⟩, .pass (x := .inLoop b) rfl (fun _ _ => .inl (by simp)) harr⟩
  obtain ⟨x, a', w', hq, harr⟩ := key n e σ μ a w h hR he hd hμ hbel
  exact ⟨x, a', w', hq, .of_steps (.one step_loop) harr⟩

theorem recheck_mem {is : List Nat} {σ : Hp} : ∀ {chk : List (Nat × (Hp → Prop))}, recheck is σ chk → ∀ i c, (i, c) ∈ chk → i ∈ is → c σ
  | [], _, i, c, h, _ => by cases h
  | (j, d) :: r, hr, i, c, h, hi => by
    simp only [recheck] at hr
    rcases List.mem_cons.1 h with h | h
    · injection h with h1 h2
      subst h1 h2
      rw [if_pos (by simpa using hi)] at hr
      exact hr.1
    · split at hr
      · exact recheck_mem hr.2 i c h hi
      · exact recheck_mem hr i c h hi

theorem keeps_of {al : DL} {m : Nat} {σ : Hp} : ∀ {chk : List (Nat × (Hp → Prop))}, (∀ i c, (i, c) ∈ chk → befB al i m = false → c σ) → keeps al m σ chk
  | [], _ => trivial
  | (j, d) :: r, h => by
    simp only [keeps]
    split
    · exact keeps_of fun i c hc => h i c (List.mem_cons_of_mem _ hc)
    · rename_i hb
      exact ⟨h j d (List.mem_cons_self ..) (by simpa using hb), keeps_of fun i c hc => h i c (List.mem_cons_of_mem _ hc)⟩

theorem runOp_mono' {op : AOp} {e : Env} {σ : Hp} {k k' : Value → Hp → Prop} (hT : MonoT T) (hk : ∀ v σ', k v σ' → k' v σ') (h : runOp T op e σ k) : runOp T op e σ k' := by
  unfold runOp at *
  cases op <;> simp only at h ⊢
  case call f xs => exact hT _ _ _ _ _ hk h
  case callv f xs =>
    split at h
    · exact hT _ _ _ _ _ hk h
    · exact h.elim
  all_goals
    split at h
    · exact hk _ _ h
    · exact h.elim

theorem items_ok (hT : MonoT T) {Q : Env → Hp → Prop} {al : DL} : ∀ (f : Nat) (done loads : List Nat) (its : List SItem) (chk chk' : List (Nat × (Hp → Prop))) (e : Env) (σ : Hp), mkItems al f done loads = some its → wpI T Q its chk' e σ →
    (∀ i c, (i, c) ∈ chk → i ∈ loads) → (∀ i c, (i, c) ∈ chk → keepB al i = true → (i, c) ∈ chk') → wpD T Q al f done chk e σ
  | 0, done, loads, its, chk, chk', e, σ, h, hw, _, _ => by
    simp [mkItems] at h
    subst h
    exact hw
  | f + 1, done, loads, its, chk, chk', e, σ, h, hw, h1, h2 => by
    simp only [mkItems] at h
    simp only [wpD]
    split at h
    · rename_i i hn
      split at h
      · rename_i o p ho
        obtain ⟨r, hr, h⟩ := Option.map_eq_some_iff.1 h
        subst h
        simp only [wpI] at hw
        split at hw
        · rename_i hwant
          rw [if_pos hwant]
          simp only [Bool.false_eq_true, if_false] at hw
          split at hw
          · rename_i v σ1 hrun
            refine items_ok hT f _ _ _ _ _ _ _ hr hw (fun j c hc => ?_) (fun j c hc hk => ?_)
            · by_cases hl : o.op.isLoad = true
              · rw [if_pos hl] at hc ⊢
                rcases List.mem_cons.1 hc with hc | hc
                · injection hc with hc _
                  subst hc
                  exact List.mem_cons_self ..
                · exact List.mem_cons_of_mem _ (h1 j c hc)
              · rw [if_neg hl] at hc ⊢
                exact h1 j c hc
            · by_cases hl : o.op.isLoad = true
              · rw [if_pos hl] at hc
                rcases List.mem_cons.1 hc with hc | hc
                · have hj : j = i := by injection hc
                  subst hj
                  rw [if_pos (by simp [hl, hk]), hc]
                  exact List.mem_cons_self ..
                · split
                  · exact List.mem_cons_of_mem _ (h2 j c hc hk)
                  · exact h2 j c hc hk
              · rw [if_neg hl] at hc
                split
                · exact List.mem_cons_of_mem _ (h2 j c hc hk)
                · exact h2 j c hc hk
          · exact hw.elim
        · rename_i hwant
          rw [if_neg hwant]
          refine items_ok hT f _ _ _ _ _ _ _ hr hw (fun j c hc => ?_) h2
          split
          · exact List.mem_cons_of_mem _ (h1 j c hc)
          · exact h1 j c hc
      · cases h
    · rename_i hn
      split at h
      · rename_i hm
        rw [hm]
        injection h with h
        subst h
        exact hw
      · rename_i m hm
        rw [hm]
        simp only [allL]
        split at h
        · rename_i o p ho
          obtain ⟨r, hr, h⟩ := Option.map_eq_some_iff.1 h
          subst h
          have hmv : moverB al m = true := by
            have := (mem_movers.1 (show m ∈ readyMovers al done by rw [hm]; exact List.mem_cons_self ..)).2.2.2
            simpa [stillB, moverB, ho] using this
          have hml : m < al.length := (mem_movers.1 (show m ∈ readyMovers al done by rw [hm]; exact List.mem_cons_self ..)).1
          simp only [wpI] at hw ⊢
          split at hw
          · rename_i hwant
            rw [if_pos hwant]
            simp only [if_true] at hw
            refine runOp_mono' hT (fun v σ' hk => ?_) hw
            refine ⟨keeps_of fun i c hc hb => ?_, items_ok hT f _ _ _ _ _ _ _ hr hk.2 h1 h2⟩
            have hkp : keepB al i = true := List.any_eq_true.2 ⟨m, List.mem_range.2 hml, by simp [hmv, hb]⟩
            exact recheck_mem hk.1 i c (h2 i c hc hkp) (by simp [h1 i c hc, hb])
          · rename_i hwant
            rw [if_neg hwant]
            exact items_ok hT f _ _ _ _ _ _ _ hr hw h1 h2
        · cases h
      · cases h

/-- As Q; at a jump to the label l: J. -/
def jumpX (l : Nat) (J : Act → World → Prop) (Q : Exit → Act → World → Prop) : Exit → Act → World → Prop
  | .goto l', a, w => (l' = l ∧ J a w) ∨ (l' ≠ l ∧ Q (.goto l') a w)
  | x, a, w => Q x a w
theorem scope_jumps {c rest : Code} {Q : Exit → Act → World → Prop} {a : Act} {w : World} (l : Nat) (J : Nat → Act → World → Prop) (hf : findLabel c l = some rest) (hQ : ∀ l' a w, ¬Q (.goto l') a w)
    (first : c.wp P (jumpX l (fun a w => ∃ n, J n a w) Q) a w) (pass : ∀ n a w, J n a w → rest.wp P (jumpX l (fun a w => ∃ m, m < n ∧ J m a w) Q) a w) : (Code.scope c).wp P Q a w := by
  intro b k cs
  have hg : gotoIn l (.inScope c :: k) = some (.code rest :: .inScope c :: k) := by simp [gotoIn, hf]
  have key : ∀ n a w, J n a w → ∃ e a' w', Q e a' w' ∧ Arrives P (lone (b.at a (.code rest :: .inScope c :: k)) cs w) b k cs e a' w' := by
    intro n
    induction n using Nat.strongRecOn with
    | _ n ih =>
      intro a w hJ
      obtain ⟨e, a₁, w₁, hq, harr⟩ := pass n a w hJ b (.inScope c :: k) cs
      cases e with
      | normal => exact ⟨.normal, a₁, w₁, hq, Steps.trans harr (.one step_inScope)⟩
      | exit id => exact ⟨.exit id, a₁, w₁, hq, fun k' hk => harr k' (by simp [exitTo, hk])⟩
      | goto l' =>
        rcases hq with ⟨rfl, m, hlt, hJ'⟩ | ⟨_, hq⟩
        · obtain ⟨e₂, a₂, w₂, hq₂, harr₂⟩ := ih m hlt a₁ w₁ hJ'
          exact ⟨e₂, a₂, w₂, hq₂, .of_steps (harr _ hg) harr₂⟩
        · exact (hQ _ _ _ hq).elim
      | ret => exact ⟨_, a₁, w₁, hq, harr⟩
      | panic ch => exact ⟨_, a₁, w₁, hq, harr⟩
      | outgrown => exact ⟨_, a₁, w₁, hq, harr⟩
  obtain ⟨e, a₁, w₁, hq, harr⟩ := first b (.inScope c :: k) cs
  cases e with
  | normal => exact ⟨.normal, a₁, w₁, hq, .head step_scope (Steps.trans harr (.one step_inScope))⟩
  | exit id => exact ⟨.exit id, a₁, w₁, hq, fun k' hk => .head step_scope (harr k' (by simp [exitTo, hk]))⟩
  | goto l' =>
    rcases hq with ⟨rfl, n, hJ'⟩ | ⟨_, hq⟩
    · obtain ⟨e₂, a₂, w₂, hq₂, harr₂⟩ := key n a₁ w₁ hJ'
      exact ⟨e₂, a₂, w₂, hq₂, .of_steps (.head step_scope (harr _ hg)) harr₂⟩
    · exact (hQ _ _ _ hq).elim
  | ret => exact ⟨_, a₁, w₁, hq, .of_steps (.one step_scope) harr⟩
  | panic ch => exact ⟨_, a₁, w₁, hq, .of_steps (.one step_scope) harr⟩
  | outgrown => exact ⟨_, a₁, w₁, hq, .of_steps (.one step_scope) harr⟩

/-- A state from which a number of rounds is left. -/
def Jst {P : Program} (B : Base P) (N : Nat) (μ0 : Mu) (w0 : World) (L : Nat → Env → Hp → Prop) (n : Nat) : Act → World → Prop := fun a w =>
  ∃ e σ μ, L n e σ ∧ μ0.le μ ∧ R B μ σ w ∧ EnvR μ N e a.tmps ∧ a.defers = [] ∧ Below B w0 w
def Aok (P : Program) (T : Specs) (B : Base P) (N : Nat) (c : Code) : Prop := ∀ (ac : AC), trCode P N c = some ac → ∀ (Q : AExit → Env → Hp → Prop) (e : Env) (σ : Hp) (μ : Mu) (a : Act) (w : World), wpA T ac Q e σ →
    R B μ σ w → EnvR μ N e a.tmps → a.defers = [] → c.wp P (Post B N μ w Q) a w
def Sok (P : Program) (T : Specs) (B : Base P) (N : Nat) (c : Code) : Prop := ∀ (ac : AC), trSpine P N c = some ac → ∀ (Q : AExit → Env → Hp → Prop),
  (loopLabel c = none → ∀ (e : Env) (σ : Hp) (μ : Mu) (a : Act) (w : World), wpA T ac Q e σ → R B μ σ w → EnvR μ N e a.tmps → a.defers = [] → c.wp P (Post B N μ w Q) a w) ∧
  (∀ l, loopLabel c = some l → ∃ rest L, findLabel c l = some rest ∧ ∀ μ0 w0,
    (∀ (e : Env) (σ : Hp) (μ : Mu) (a : Act) (w : World), wpA T ac Q e σ → R B μ σ w → EnvR μ N e a.tmps → a.defers = [] → μ0.le μ → Below B w0 w → c.wp P (jumpX l (fun a w => ∃ n, Jst B N μ0 w0 L n a w) (Post B N μ0 w0 Q)) a w) ∧
    (∀ n a w, Jst B N μ0 w0 L n a w → rest.wp P (jumpX l (fun a w => ∃ m, m < n ∧ Jst B N μ0 w0 L m a w) (Post B N μ0 w0 Q)) a w))
theorem Sok.of {c : Code} (h1 : trSpine P N c = trCode P N c) (h2 : loopLabel c = none) (h : Aok P T B N c) : Sok P T B N c := fun ac hac Q =>
  ⟨fun _ => h ac (h1 ▸ hac) Q, fun l hl => by rw [h2] at hl; cases hl⟩
theorem post_exit {μ : Mu} {w : World} {Q : AExit → Env → Hp → Prop} {x : Exit} {a' : Act} {w' : World} (h : Post B N μ w Q x a' w') (hx : x ≠ .normal) : ∃ ax e' σ' μ', ax ≠ .normal ∧ exitRel ax x ∧ Q ax e' σ' ∧ μ.le μ' ∧ R B μ' σ' w' ∧ EnvR μ' N e' a'.tmps ∧ a'.defers = [] ∧ Below B w w' := by
  obtain ⟨ax, e', σ', μ', h1, h2, h3⟩ := h
  refine ⟨ax, e', σ', μ', ?_, h1, h2, h3⟩
  rintro rfl
  cases x <;> first | exact h1.elim | exact hx rfl
/-- Ways out, told anew. -/
theorem post_to {μ : Mu} {w : World} {Q Q' : AExit → Env → Hp → Prop} {x : Exit} {a' : Act} {w' : World} (h : Post B N μ w Q x a' w') (hq : ∀ ax e σ, exitRel ax x → Q ax e σ → Q' ax e σ) : Post B N μ w Q' x a' w' := by
  obtain ⟨ax, e', σ', μ', h1, h2, h3⟩ := h
  exact ⟨ax, e', σ', μ', h1, hq _ _ _ h1 h2, h3⟩
theorem seq_ok {x y : Code} {a : Act} {w : World} {μ : Mu} {Q1 : AExit → Env → Hp → Prop} {F : Exit → Act → World → Prop} (h : x.wp P (Post B N μ w Q1) a w)
    (hn : ∀ e σ μ' a' w', Q1 .normal e σ → μ.le μ' → R B μ' σ w' → EnvR μ' N e a'.tmps → a'.defers = [] → Below B w w' → y.wp P F a' w')
    (ho : ∀ x a' w', x ≠ .normal → Post B N μ w Q1 x a' w' → F x a' w') : (Code.seq x y).wp P F a w := by
  refine wp_seq (wp_mono h fun x' a' w' hx => ?_)
  cases x' with
  | normal =>
    obtain ⟨ax, e', σ', μ', h1, h2, h3, h4, h5, h6, h7⟩ := hx
    cases ax with
    | normal => exact hn e' σ' μ' a' w' h2 h3 h4 h5 h6 h7
    | exit i => exact h1.elim
    | ret => exact h1.elim
  | exit i => exact ho _ a' w' (by simp) hx
  | goto l => exact ho _ a' w' (by simp) hx
  | ret => exact ho _ a' w' (by simp) hx
  | panic ch => exact ho _ a' w' (by simp) hx
  | outgrown => exact ho _ a' w' (by simp) hx
theorem jumpX_of {l : Nat} {J : Act → World → Prop} {F : Exit → Act → World → Prop} {x : Exit} {a : Act} {w : World} (hg : x = .goto l → J a w) (hF : x ≠ .goto l → F x a w) : jumpX l J F x a w := by
  cases x with
  | goto l' =>
    by_cases hl : l' = l
    · subst hl; exact .inl ⟨rfl, hg rfl⟩
    · exact .inr ⟨hl, hF (by simpa using hl)⟩
  | _ => exact hF (by simp)
theorem jumpX_mono {l : Nat} {J J' : Act → World → Prop} {F F' : Exit → Act → World → Prop} (hJ : ∀ a w, J a w → J' a w) (hF : ∀ x a w, F x a w → F' x a w) {x : Exit} {a : Act} {w : World} (h : jumpX l J F x a w) : jumpX l J' F' x a w := by
  cases x with
  | goto l' =>
    rcases h with ⟨h1, h2⟩ | ⟨h1, h2⟩
    · exact .inl ⟨h1, hJ _ _ h2⟩
    · exact .inr ⟨h1, hF _ _ _ h2⟩
  | _ => exact hF _ _ _ h
theorem code_ok' (hM : MonoT T) (hT : ∀ f, Sim P f (T f)) : ∀ (c : Code), Aok P T B N c ∧ Sok P T B N c := by
  intro c
  induction c with
  | skip =>
    refine (fun A => ⟨A, Sok.of rfl rfl A⟩) ?_
    intro ac h Q e σ μ a w hw hR he hd
    simp [trCode, tr2, twice] at h
    subst h
    exact wp_skip ⟨.normal, e, σ, μ, trivial, hw, μ.le_refl, hR, he, hd, Below.refl _ _⟩
  | label l =>
    refine (fun A => ⟨A, Sok.of rfl rfl A⟩) ?_
    intro ac h Q e σ μ a w hw hR he hd
    simp [trCode, tr2, twice] at h
    subst h
    exact wp_label ⟨.normal, e, σ, μ, trivial, hw, μ.le_refl, hR, he, hd, Below.refl _ _⟩
  | goto l =>
    refine (fun A => ⟨A, Sok.of rfl rfl A⟩) ?_
    intro ac h Q e σ μ a w hw hR he hd
    simp [trCode, tr2, twice] at h
    subst h
    exact wp_goto ⟨.exit (jumpIn l), e, σ, μ, rfl, hw, μ.le_refl, hR, he, hd, Below.refl _ _⟩
  | region id ops draw =>
    refine (fun A => ⟨A, Sok.of rfl rfl A⟩) ?_
    intro ac h Q e σ μ a w hw hR he hd
    simp only [trCode, tr2, twice] at h
    cases draw with
    | false =>
      simp only [Bool.false_eq_true, if_false] at h
      obtain ⟨al, h1, h⟩ := Option.map_eq_some_iff.1 h
      subst h
      exact wp_region_list (ops_ok hT ops.toList al e σ μ a w h1 hw hR he hd μ.le_refl (Below.refl _ _))
    | true =>
      simp only [if_true] at h
      split at h
      · rename_i al h1
        split at h
        · rename_i h2
          have hw : wpD T (Q .normal) al al.length [] [] e σ := by
            split at h
            · rename_i its hits
              injection h with h
              subst h
              exact items_ok hM al.length [] [] its [] [] e σ hits hw (fun i c hc => (by cases hc)) (fun i c hc => (by cases hc))
            · injection h with h
              subst h
              exact hw
          simp only [Bool.and_eq_true] at h2
          have hF := fits_of h1
          have hempty : ∀ (val : Nat → Value), envOf al e val [] = e := fun val => funext fun t => envOf_out fun i hi => by cases hi
          refine wp_region_any h2.2 ?_
          have hl : left al.length [] ≤ al.length := by unfold left; exact Nat.le_trans (List.length_filter_le _ _) (by simp)
          refine draw_ok hT hF h2.1 (e0 := e) ops.size al.length (fun _ => undef) [] [] [] _ σ μ a _ (by rw [hempty]; exact hw) hl (by rw [hF.len]; exact hl) ⟨fun i hi => (by cases hi), fun i hi => (by cases hi), fun i hi => (by cases hi), fun i hi => (by cases hi), fun i hi => (by cases hi)⟩ (by simp) (fun i hi => by simp [hi]) (hR.same rfl) (by rw [hempty]; exact he) hd μ.le_refl (Below.refl _ _).drew
        · cases h
      · cases h
  | seq x y ihx ihy =>
    refine ⟨?_, ?_⟩
    · intro ac h Q e σ μ a w hw hR he hd
      have h : seqO (trCode P N x) (trCode P N y) = some ac := h
      unfold seqO at h
      split at h
      · rename_i ax ay h1 h2
        injection h with h
        subst h
        simp only [wpA] at hw
        have h1 : trCode P N x = some ax := h1
        have h2 : trCode P N y = some ay := h2
        refine seq_ok (ihx.1 ax h1 _ e σ μ a w hw hR he hd) (fun e' σ' μ' a' w' hq g1 g2 g3 g4 g5 => ?_) fun x' a' w' hx hp => ?_
        · exact wp_mono (ihy.1 ay h2 Q e' σ' μ' a' w' hq g2 g3 g4) fun x'' a'' w'' h'' => h''.trans g1 g5
        · obtain ⟨axx, e', σ', μ', h0, h1', h2', h3'⟩ := post_exit hp hx
          refine ⟨axx, e', σ', μ', h1', ?_, h3'⟩
          cases axx with
          | normal => exact (h0 rfl).elim
          | exit i => exact h2'
          | ret => exact h2'
      · cases h
    · intro ac h Q
      have h : spineO x y (trCode P N x) (trCode P N y) (trSpine P N y) = some ac := h
      unfold spineO at h
      split at h
      · rename_i l hl
        obtain rfl := isLabel_some hl
        split at h
        · -- the label to which the code jumps back
          rename_i hg
          obtain ⟨yc, h1, h⟩ := Option.map_eq_some_iff.1 h
          subst h
          have hll : loopLabel (.seq (.label l) y) = some l := by simp [loopLabel, isLabel, hg]
          refine ⟨fun hn => (by rw [hll] at hn; cases hn), fun l' hl' => ?_⟩
          rw [hll] at hl'
          injection hl' with hl'
          subst hl'
          let Q1 : AExit → Env → Hp → Prop := fun x e σ => match x with
            | .exit i => if i = jumpOut l then Q .normal e σ else Q (.exit i) e σ
            | x => Q x e σ
          let body : AC := .block (jumpIn l) (.seq yc (.exit (jumpOut l)))
          have hne : jumpOut l ≠ jumpIn l := by unfold jumpOut jumpIn; omega
          -- a round
          have round : ∀ (n : Nat) (e : Env) (σ : Hp) (μ : Mu) (a : Act) (w : World) (μ0 : Mu) (w0 : World), wpLoop (wpA T body) Q1 (n + 1) e σ → R B μ σ w → EnvR μ N e a.tmps → a.defers = [] → μ0.le μ → Below B w0 w →
              y.wp P (jumpX l (fun a w => Jst B N μ0 w0 (fun n => wpLoop (wpA T body) Q1 n) n a w) (Post B N μ0 w0 Q)) a w := by
            intro n e σ μ a w μ0 w0 hw hR he hd hμ hb
            simp only [wpLoop, body, wpA] at hw
            refine wp_mono (ihy.1 yc h1 _ e σ μ a w hw hR he hd) fun x' a' w' hp => ?_
            obtain ⟨ax, e', σ', μ', q1, q2, q3, q4, q5, q6, q7⟩ := hp
            refine jumpX_of (fun hx => ?_) fun hx => ?_
            · subst hx
              cases ax with
              | exit i =>
                have q1 : i = jumpIn l := q1
                subst q1
                simp only [if_true] at q2
                exact ⟨e', σ', μ', q2, Mu.le_trans hμ q3, q4, q5, q6, hb.trans q7⟩
              | _ => exact q1.elim
            · cases ax with
              | normal =>
                simp only [if_neg hne] at q2
                simp only [Q1, if_true] at q2
                exact ⟨.normal, e', σ', μ', q1, q2, Mu.le_trans hμ q3, q4, q5, q6, hb.trans q7⟩
              | ret => exact ⟨.ret, e', σ', μ', q1, q2, Mu.le_trans hμ q3, q4, q5, q6, hb.trans q7⟩
              | exit i =>
                have hi : i ≠ jumpIn l ∧ i ≠ jumpOut l := by
                  cases x' with
                  | exit j =>
                    obtain ⟨rfl, hj⟩ := q1
                    unfold jumpIn jumpOut
                    omega
                  | goto l' =>
                    have q1 : i = jumpB + 2 * l' := q1
                    have : l' ≠ l := fun e => hx (by rw [e])
                    unfold jumpIn jumpOut
                    omega
                  | _ => exact q1.elim
                simp only [if_neg hi.1, Q1, if_neg hi.2] at q2
                exact ⟨.exit i, e', σ', μ', q1, q2, Mu.le_trans hμ q3, q4, q5, q6, hb.trans q7⟩
          refine ⟨.seq .skip y, fun n => wpLoop (wpA T body) Q1 n, by simp [findLabel], fun μ0 w0 => ⟨fun e σ μ a w hw hR he hd hμ hb => ?_, fun n a w hJ => ?_⟩⟩
          · have hw' : ∃ n, wpLoop (wpA T body) Q1 n e σ := hw
            obtain ⟨n, hn⟩ := hw'
            cases n with
            | zero => exact hn.elim
            | succ n =>
              refine wp_seq (wp_label ?_)
              exact wp_mono (round n e σ μ a w μ0 w0 hn hR he hd hμ hb) fun x' a' w' h' => jumpX_mono (fun _ _ h => ⟨n, h⟩) (fun _ _ _ h => h) h'
          · obtain ⟨e, σ, μ, hn, hμ, hR, he, hd, hb⟩ := hJ
            cases n with
            | zero => exact hn.elim
            | succ n =>
              refine wp_seq (wp_skip ?_)
              exact wp_mono (round n e σ μ a w μ0 w0 hn hR he hd hμ hb) fun x' a' w' h' => jumpX_mono (fun _ _ h => ⟨n, Nat.lt_succ_self n, h⟩) (fun _ _ _ h => h) h'
        · -- a label to which it does not
          rename_i hg
          split at h
          · rename_i hlo
            obtain ⟨yc, h1, h⟩ := Option.map_eq_some_iff.1 h
            subst h
            have hll : loopLabel (.seq (.label l) y) = loopLabel y := by simp [loopLabel, isLabel, hg]
            obtain ⟨s1, s2⟩ := ihy.2 yc h1 Q
            refine ⟨fun hn e σ μ a w hw hR he hd => wp_seq (wp_label ?_), fun l' hl' => ?_⟩
            · exact s1 (hll ▸ hn) e σ μ a w hw hR he hd
            · rw [hll] at hl'
              obtain ⟨rest, L, hf, hJ⟩ := s2 l' hl'
              have hlab : findLabel (.seq (.label l) y) l' = some rest := by
                have : findLabel (.label l) l' = none := findLabel_none _ _ (by
                  unfold labelsOk at hlo
                  rw [hl'] at hlo
                  simpa using hlo)
                simp [findLabel, hf] at this ⊢
                simp [this]
              refine ⟨rest, L, hlab, fun μ0 w0 => ⟨fun e σ μ a w hw hR he hd hμ hb => wp_seq (wp_label ?_), (hJ μ0 w0).2⟩⟩
              exact (hJ μ0 w0).1 e σ μ a w hw hR he hd hμ hb
          · cases h
      · rename_i hl
        split at h
        · rename_i ax ay h1 h2
          split at h
          · rename_i hlo
            rw [Bool.and_eq_true, Bool.or_eq_true] at hlo
            obtain ⟨hlo, hnj⟩ := hlo
            injection h with h
            subst h
            have hll : loopLabel (.seq x y) = loopLabel y := by simp [loopLabel, hl]
            obtain ⟨s1, s2⟩ := ihy.2 ay h2 Q
            refine ⟨fun hn e σ μ a w hw hR he hd => ?_, fun l' hl' => ?_⟩
            · simp only [wpA] at hw
              refine seq_ok (ihx.1 ax h1 _ e σ μ a w hw hR he hd) (fun e' σ' μ' a' w' hq g1 g2 g3 g4 g5 => ?_) fun x' a' w' hx hp => ?_
              · exact wp_mono (s1 (hll ▸ hn) e' σ' μ' a' w' hq g2 g3 g4) fun x'' a'' w'' h'' => h''.trans g1 g5
              · obtain ⟨axx, e', σ', μ', h0, h1', h2', h3'⟩ := post_exit hp hx
                refine ⟨axx, e', σ', μ', h1', ?_, h3'⟩
                cases axx with
                | normal => exact (h0 rfl).elim
                | exit i => exact h2'
                | ret => exact h2'
            · rw [hll] at hl'
              obtain ⟨rest, L, hf, hJ⟩ := s2 l' hl'
              have hlab : findLabel (.seq x y) l' = some rest := by
                have : findLabel x l' = none := findLabel_none _ _ (by
                  unfold labelsOk at hlo
                  rw [hl'] at hlo
                  simpa using hlo)
                simp [findLabel, hf, this]
              have hnj : ax.noJump = true := by
                rcases hnj with h | h
                · rw [hl'] at h; cases h
                · exact h
              refine ⟨rest, L, hlab, fun μ0 w0 => ⟨fun e σ μ a w hw hR he hd hμ hb => ?_, (hJ μ0 w0).2⟩⟩
              simp only [wpA] at hw
              refine seq_ok (ihx.1 ax h1 _ e σ μ a w (wpA_outs hM _ _ e σ hw) hR he hd) (fun e' σ' μ' a' w' hq g1 g2 g3 g4 g5 => ?_) fun x' a' w' hx hp => ?_
              · exact (hJ μ0 w0).1 e' σ' μ' a' w' hq.2 g2 g3 g4 (Mu.le_trans hμ g1) (hb.trans g5)
              · obtain ⟨axx, e', σ', μ', h0, h1', h2', h3', h4', h5', h6', h7'⟩ := post_exit hp hx
                refine jumpX_of (fun hg => ?_) fun _ => ?_
                · subst hg
                  cases axx with
                  | exit i =>
                    have k1 : i = jumpB + 2 * l' := h1'
                    have := noJump_lt hnj (h2'.1 i rfl)
                    omega
                  | _ => exact h1'.elim
                · refine ⟨axx, e', σ', μ', h1', ?_, Mu.le_trans hμ h3', h4', h5', h6', hb.trans h7'⟩
                  cases axx with
                  | normal => exact (h0 rfl).elim
                  | exit i => exact h2'.2
                  | ret => exact h2'.2
          · cases h
        · cases h
  | cond c x y ihx ihy =>
    refine (fun A => ⟨A, Sok.of rfl rfl A⟩) ?_
    intro ac h Q e σ μ a w hw hR he hd
    simp only [trCode, tr2, twice] at h
    split at h
    · rename_i c' ax ay h0 h1 h2
      injection h with h
      subst h
      obtain ⟨rfl, k0⟩ := opd_some h0
      have hv := he.ev k0
      simp only [wpA] at hw
      split at hw
      · rename_i hb
        rw [hb] at hv
        exact wp_cond_true hv.bool_inv (ihx.1 ax h1 Q e σ μ a w hw hR he hd)
      · rename_i hb
        rw [hb] at hv
        exact wp_cond_false hv.bool_inv (ihy.1 ay h2 Q e σ μ a w hw hR he hd)
      · exact hw.elim
    · cases h
  | block id b ih =>
    refine (fun A => ⟨A, Sok.of rfl rfl A⟩) ?_
    intro ac h Q e σ μ a w hw hR he hd
    simp only [trCode, tr2, twice] at h
    split at h
    · rename_i hlt
      obtain ⟨ab, h1, h⟩ := Option.map_eq_some_iff.1 h
      subst h
      simp only [wpA] at hw
      refine wp_block (wp_mono (ih.1 ab h1 _ e σ μ a w hw hR he hd) fun x a' w' hx => ?_)
      obtain ⟨axx, e', σ', μ', hxr, hq, g1, g2, g3, g4, g5⟩ := hx
      cases axx with
      | normal =>
        cases x <;> simp [exitRel] at hxr
        exact ⟨.normal, e', σ', μ', trivial, hq, g1, g2, g3, g4, g5⟩
      | exit i =>
        simp only at hq
        cases x with
        | exit j =>
          obtain ⟨rfl, hj⟩ := hxr
          simp only [Exit.inBlock]
          split
          · rename_i hid
            rw [if_pos hid] at hq
            exact ⟨.normal, e', σ', μ', trivial, hq, g1, g2, g3, g4, g5⟩
          · rename_i hid
            rw [if_neg hid] at hq
            exact ⟨.exit i, e', σ', μ', ⟨rfl, hj⟩, hq, g1, g2, g3, g4, g5⟩
        | goto l =>
          have hxr' : i = jumpB + 2 * l := hxr
          rw [if_neg (by omega)] at hq
          exact ⟨.exit i, e', σ', μ', hxr, hq, g1, g2, g3, g4, g5⟩
        | _ => exact hxr.elim
      | ret =>
        cases x <;> simp [exitRel] at hxr
        exact ⟨.ret, e', σ', μ', trivial, hq, g1, g2, g3, g4, g5⟩
    · cases h
  | loop b ih =>
    refine (fun A => ⟨A, Sok.of rfl rfl A⟩) ?_
    intro ac h Q e σ μ a w hw hR he hd
    simp only [trCode, tr2, twice] at h
    obtain ⟨ab, h1, h⟩ := Option.map_eq_some_iff.1 h
    subst h
    simp only [wpA] at hw
    obtain ⟨n, hn⟩ := hw
    exact wpLoop_sound (f := wpA T ab) (fun Q e σ μ a w hf => ih.1 ab h1 Q e σ μ a w hf) hn hR he hd μ.le_refl (Below.refl _ _)
  | scope b ih =>
    refine (fun A => ⟨A, Sok.of rfl rfl A⟩) ?_
    intro ac h Q e σ μ a w hw hR he hd
    simp only [trCode, tr2, twice] at h
    split at h
    · rename_i ac' h1
      split at h
      · rename_i hno
        injection h with h
        subst h
        have hw' := wpA_outs hM _ Q e σ hw
        have hng : ∀ (l' : Nat) (a : Act) (w' : World), ¬Post B N μ w (Outs ac' Q) (.goto l') a w' := by
          rintro l' a w' ⟨ax, e', σ', μ', k1, k2, _⟩
          cases ax with
          | exit i =>
            have k1 : i = jumpB + 2 * l' := k1
            have := noJump_lt hno (k2.1 i rfl)
            omega
          | _ => exact k1.elim
        have fin : ∀ {x : Exit} {a' : Act} {w' : World}, Post B N μ w (Outs ac' Q) x a' w' → Post B N μ w Q x a' w' := fun h => post_to h fun _ _ _ _ h => h.2
        obtain ⟨s1, s2⟩ := ih.2 ac' h1 (Outs ac' Q)
        cases hl : loopLabel b with
        | none =>
          refine wp_scope_straight (wp_mono (s1 hl e σ μ a w hw' hR he hd) fun x a' w' hx => ?_)
          cases x with
          | goto l' => exact (hng l' a' w' hx).elim
          | _ => exact fin hx
        | some l =>
          obtain ⟨rest, L, hf, hJ⟩ := s2 l hl
          obtain ⟨j1, j2⟩ := hJ μ w
          refine wp_mono (scope_jumps l (Jst B N μ w L) hf hng (j1 e σ μ a w hw' hR he hd μ.le_refl (Below.refl _ _)) j2) fun x a' w' hx => fin hx
      · cases h
    · cases h
  | exit id =>
    refine (fun A => ⟨A, Sok.of rfl rfl A⟩) ?_
    intro ac h Q e σ μ a w hw hR he hd
    simp only [trCode, tr2, twice] at h
    split at h
    · rename_i hlt
      injection h with h
      subst h
      exact wp_exit ⟨.exit id, e, σ, μ, ⟨rfl, hlt⟩, hw, μ.le_refl, hR, he, hd, Below.refl _ _⟩
    · cases h
  | ret =>
    refine (fun A => ⟨A, Sok.of rfl rfl A⟩) ?_
    intro ac h Q e σ μ a w hw hR he hd
    simp [trCode, tr2, twice] at h
    subst h
    exact wp_ret ⟨.ret, e, σ, μ, trivial, hw, μ.le_refl, hR, he, hd, Below.refl _ _⟩
  | _ =>
    refine (fun A => ⟨A, Sok.of rfl rfl A⟩) ?_
    intro ac h; simp [trCode, tr2, twice] at h
theorem code_ok (hM : MonoT T) (hT : ∀ f, Sim P f (T f)) (c : Code) (ac : AC) (h : trCode P N c = some ac) (Q : AExit → Env → Hp → Prop) (e : Env) (σ : Hp) (μ : Mu) (a : Act) (w : World) (hw : wpA T ac Q e σ)
    (hR : R B μ σ w) (he : EnvR μ N e a.tmps) (hd : a.defers = []) : c.wp P (Post B N μ w Q) a w := (code_ok' hM hT c).1 ac h Q e σ μ a w hw hR he hd
end
end Go.Ab
