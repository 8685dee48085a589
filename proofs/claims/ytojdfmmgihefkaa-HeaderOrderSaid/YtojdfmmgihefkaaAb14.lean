/- Code, functions: what the abstract machine says holds of the program. -/
import Derived.Test.YtojdfmmgihefkaaAb13
namespace Go.Ab
open Go.RowKit

def trDraw (P : Program) (N : Nat) (ops : Array Oper) : List Oper → Option DL
  | [] => some []
  | o :: r => match trOper P N ops o, trDraw P N ops r with
    | some x, some l => some ((x, (o.after.toList.filter (Region.binds .any ·)).map (·.on)) :: l)
    | _, _ => none

def trCode (P : Program) (N : Nat) : Code → Option AC
  | .skip => some .skip
  | .label _ => some .skip
  | .region _ ops draw => if draw then match trDraw P N ops ops.toList with
      | some l => if drawOk l && P.follows .mixedOrders then (match mkItems l l.length [] [] with
        | some its => some (.sched its)
        | none => some (.draw l)) else none
      | none => none
    else (trOpers P N ops ops.toList).map .region
  | .seq a b => match trCode P N a, trCode P N b with
    | some a, some b => some (.seq a b)
    | _, _ => none
  | .cond c a b => match opd c, trCode P N a, trCode P N b with
    | some c, some a, some b => some (.cond c a b)
    | _, _, _ => none
  | .block id b => (trCode P N b).map (.block id)
  | .loop b => (trCode P N b).map .loop
  | .scope b => trCode P N b
  | .exit id => some (.exit id)
  | .ret => some .ret
  | _ => none

def MonoT (T : Specs) : Prop := ∀ f args σ (K K' : Value → Hp → Prop), (∀ r σ', K r σ' → K' r σ') → T f args σ K → T f args σ K'

section
variable {P : Program} {T : Specs} {ops : Array Oper} {B N : Nat}

theorem trDraw_fits : ∀ {l : List Oper} {al : DL}, trDraw P N ops l = some al → l.length = al.length ∧ ∀ (i : Nat) o, l[i]? = some o → ∃ x, al[i]? = some (x, (o.after.toList.filter (Region.binds .any ·)).map (·.on)) ∧ trOper P N ops o = some x
  | [], al, h => by
    simp [trDraw] at h
    subst h
    exact ⟨rfl, fun i o h => by simp at h⟩
  | o :: l, al, h => by
    simp only [trDraw] at h
    split at h
    · rename_i x r h1 h2
      injection h with h
      subst h
      obtain ⟨h3, h4⟩ := trDraw_fits h2
      refine ⟨by simp [h3], fun i o' ho => ?_⟩
      cases i with
      | zero => simp at ho; subst ho; exact ⟨x, rfl, h1⟩
      | succ i => simp at ho; simpa using h4 i o' ho
    · cases h

theorem fits_of {al : DL} (h : trDraw P N ops ops.toList = some al) : Fits P N ops al := by
  obtain ⟨h1, h2⟩ := trDraw_fits h
  refine ⟨by simpa using h1, fun i o ho => ?_, fun i o ho q => ?_⟩
  · obtain ⟨x, h3, h4⟩ := h2 i o (by simpa using ho)
    refine ⟨x, ?_, h4⟩
    have : predsOf al i = (o.after.toList.filter (Region.binds .any ·)).map (·.on) := by simp [predsOf, h3]
    rw [this]
    exact h3
  · obtain ⟨x, h3, h4⟩ := h2 i o (by simpa using ho)
    have : predsOf al i = (o.after.toList.filter (Region.binds .any ·)).map (·.on) := by simp [predsOf, h3]
    rw [this]
    simp [and_assoc]

theorem wpLoop_sound {b : Code} {f : (AExit → Env → Hp → Prop) → Env → Hp → Prop}
    (hb : ∀ (Q : AExit → Env → Hp → Prop) (e : Env) (σ : Hp) (μ : Mu) (a : Act) (w : World), f Q e σ → R B μ σ w → EnvR μ N e a.tmps → a.defers = [] → b.wp P (Post B N μ w Q) a w)
    {Q : AExit → Env → Hp → Prop} {μ0 : Mu} {w0 : World} {n : Nat} {e : Env} {σ : Hp} {μ : Mu} {a : Act} {w : World} (h : wpLoop f Q n e σ) (hR : R B μ σ w) (he : EnvR μ N e a.tmps) (hd : a.defers = []) (hμ : μ0.le μ) (hbel : Below B w0 w) :
    (Code.loop b).wp P (Post B N μ0 w0 Q) a w := by
  -- the number of rounds that are left is a ghost: the loop's rule takes the greatest that serves
  intro bf k cs
  have key : ∀ n e σ μ a w, wpLoop f Q n e σ → R B μ σ w → EnvR μ N e a.tmps → a.defers = [] → μ0.le μ → Below B w0 w →
      ∃ x a' w', Post B N μ0 w0 Q x a' w' ∧ Arrives P (lone (bf.at a (.code b :: .inLoop b :: k)) cs w) bf k cs x a' w' := by
    intro n
    induction n with
    | zero => intro e σ μ a w h; exact h.elim
    | succ n ih =>
      intro e σ μ a w h hR he hd hμ hbel
      simp only [wpLoop] at h
      obtain ⟨x, a₁, w₁, hq, harr⟩ := hb _ e σ μ a w h hR he hd bf (.inLoop b :: k) cs
      obtain ⟨ax, e1, σ1, μ1, hx, hq, h1, h2, h3, h4, h5⟩ := hq
      cases ax with
      | normal =>
        cases x <;> simp [exitRel] at hx
        obtain ⟨x₂, a₂, w₂, hq₂, harr₂⟩ := ih e1 σ1 μ1 a₁ w₁ hq h2 h3 h4 (Mu.le_trans hμ h1) (hbel.trans h5)
        exact ⟨x₂, a₂, w₂, hq₂, .of_steps (Steps.trans harr (.one step_inLoop)) harr₂⟩
      | exit id =>
        cases x <;> simp [exitRel] at hx
        subst hx
        exact ⟨.exit id, a₁, w₁, ⟨.exit id, e1, σ1, μ1, rfl, hq, Mu.le_trans hμ h1, h2, h3, h4, hbel.trans h5⟩, .pass (x := .inLoop b) rfl (fun _ _ => .inl (by simp)) harr⟩
      | ret =>
        cases x <;> simp [exitRel] at hx
        exact ⟨.ret, a₁, w₁, ⟨.ret, e1, σ1, μ1, trivial, hq, Mu.le_trans hμ h1, h2, h3, h4, hbel.trans h5⟩, .pass (x := .inLoop b) rfl (fun _ _ => .inl (by simp)) harr⟩
  obtain ⟨x, a', w', hq, harr⟩ := key n e σ μ a w h hR he hd hμ hbel
  exact ⟨x, a', w', hq, .of_steps (.one step_loop) harr⟩

theorem recheck_mem {is : List Nat} {σ : Hp} : ∀ {chk : List (Nat × (Hp → Prop))}, recheck is σ chk → ∀ i c, (i, c) ∈ chk → i ∈ is → c σ
  | [], _, i, c, h, _ => by cases h
  | (j, d) :: r, hr, i, c, h, hi => by
    simp only [recheck] at hr
    rcases List.mem_cons.1 h with h | h
    · injection h with h1 h2
      subst h1 h2
      rw [if_pos (by simpa using hi)] at hr
      exact hr.1
    · split at hr
      · exact recheck_mem hr.2 i c h hi
      · exact recheck_mem hr i c h hi

theorem keeps_of {al : DL} {m : Nat} {σ : Hp} : ∀ {chk : List (Nat × (Hp → Prop))}, (∀ i c, (i, c) ∈ chk → befB al i m = false → c σ) → keeps al m σ chk
  | [], _ => trivial
  | (j, d) :: r, h => by
    simp only [keeps]
    split
    · exact keeps_of fun i c hc => h i c (List.mem_cons_of_mem _ hc)
    · rename_i hb
      exact ⟨h j d (List.mem_cons_self ..) (by simpa using hb), keeps_of fun i c hc => h i c (List.mem_cons_of_mem _ hc)⟩

theorem runOp_mono' {op : AOp} {e : Env} {σ : Hp} {k k' : Value → Hp → Prop} (hT : MonoT T) (hk : ∀ v σ', k v σ' → k' v σ') (h : runOp T op e σ k) : runOp T op e σ k' := by
  unfold runOp at *
  cases op <;> simp only at h ⊢
  case call f xs => exact hT _ _ _ _ _ hk h
  case callv f xs =>
    split at h
    · exact hT _ _ _ _ _ hk h
    · exact h.elim
  all_goals
    split at h
    · exact hk _ _ h
    · exact h.elim

theorem items_ok (hT : MonoT T) {Q : Env → Hp → Prop} {al : DL} : ∀ (f : Nat) (done loads : List Nat) (its : List SItem) (chk chk' : List (Nat × (Hp → Prop))) (e : Env) (σ : Hp), mkItems al f done loads = some its → wpI T Q its chk' e σ →
    (∀ i c, (i, c) ∈ chk → i ∈ loads) → (∀ i c, (i, c) ∈ chk → keepB al i = true → (i, c) ∈ chk') → wpD T Q al f done chk e σ
  | 0, done, loads, its, chk, chk', e, σ, h, hw, _, _ => by
    simp [mkItems] at h
    subst h
    exact hw
  | f + 1, done, loads, its, chk, chk', e, σ, h, hw, h1, h2 => by
    simp only [mkItems] at h
    simp only [wpD]
    split at h
    · rename_i i hn
      split at h
      · rename_i o p ho
        obtain ⟨r, hr, h⟩ := Option.map_eq_some_iff.1 h
        subst h
        simp only [wpI] at hw
        split at hw
        · rename_i hwant
          rw [if_pos hwant]
          simp only [Bool.false_eq_true, if_false] at hw
          split at hw
          · rename_i v σ1 hrun
            refine items_ok hT f _ _ _ _ _ _ _ hr hw (fun j c hc => ?_) (fun j c hc hk => ?_)
            · by_cases hl : o.op.isLoad = true
              · rw [if_pos hl] at hc ⊢
                rcases List.mem_cons.1 hc with hc | hc
                · injection hc with hc _
                  subst hc
                  exact List.mem_cons_self ..
                · exact List.mem_cons_of_mem _ (h1 j c hc)
              · rw [if_neg hl] at hc ⊢
                exact h1 j c hc
            · by_cases hl : o.op.isLoad = true
              · rw [if_pos hl] at hc
                rcases List.mem_cons.1 hc with hc | hc
                · have hj : j = i := by injection hc
                  subst hj
                  rw [if_pos (by simp [hl, hk]), hc]
                  exact List.mem_cons_self ..
                · split
                  · exact List.mem_cons_of_mem _ (h2 j c hc hk)
                  · exact h2 j c hc hk
              · rw [if_neg hl] at hc
                split
                · exact List.mem_cons_of_mem _ (h2 j c hc hk)
                · exact h2 j c hc hk
          · exact hw.elim
        · rename_i hwant
          rw [if_neg hwant]
          refine items_ok hT f _ _ _ _ _ _ _ hr hw (fun j c hc => ?_) h2
          split
          · exact List.mem_cons_of_mem _ (h1 j c hc)
          · exact h1 j c hc
      · cases h
    · rename_i hn
      split at h
      · rename_i hm
        rw [hm]
        injection h with h
        subst h
        exact hw
      · rename_i m hm
        rw [hm]
        simp only [allL]
        split at h
        · rename_i o p ho
          obtain ⟨r, hr, h⟩ := Option.map_eq_some_iff.1 h
          subst h
          have hmv : moverB al m = true := by
            have := (mem_movers.1 (show m ∈ readyMovers al done by rw [hm]; exact List.mem_cons_self ..)).2.2.2
            simpa [stillB, moverB, ho] using this
          have hml : m < al.length := (mem_movers.1 (show m ∈ readyMovers al done by rw [hm]; exact List.mem_cons_self ..)).1
          simp only [wpI] at hw ⊢
          split at hw
          · rename_i hwant
            rw [if_pos hwant]
            simp only [if_true] at hw
            refine runOp_mono' hT (fun v σ' hk => ?_) hw
            refine ⟨keeps_of fun i c hc hb => ?_, items_ok hT f _ _ _ _ _ _ _ hr hk.2 h1 h2⟩
            have hkp : keepB al i = true := List.any_eq_true.2 ⟨m, List.mem_range.2 hml, by simp [hmv, hb]⟩
            exact recheck_mem hk.1 i c (h2 i c hc hkp) (by simp [h1 i c hc, hb])
          · rename_i hwant
            rw [if_neg hwant]
            exact items_ok hT f _ _ _ _ _ _ _ hr hw h1 h2
        · cases h
      · cases h

theorem code_ok (hM : MonoT T) (hT : ∀ f, Sim P f (T f)) : ∀ (c : Code) (ac : AC), trCode P N c = some ac → ∀ (Q : AExit → Env → Hp → Prop) (e : Env) (σ : Hp) (μ : Mu) (a : Act) (w : World), wpA T ac Q e σ →
    R B μ σ w → EnvR μ N e a.tmps → a.defers = [] → c.wp P (Post B N μ w Q) a w := by
  intro c
  induction c with
  | skip =>
    intro ac h Q e σ μ a w hw hR he hd
    simp [trCode] at h
    subst h
    exact wp_skip ⟨.normal, e, σ, μ, trivial, hw, μ.le_refl, hR, he, hd, Below.refl _ _⟩
  | label l =>
    intro ac h Q e σ μ a w hw hR he hd
    simp [trCode] at h
    subst h
    exact wp_label ⟨.normal, e, σ, μ, trivial, hw, μ.le_refl, hR, he, hd, Below.refl _ _⟩
  | region id ops draw =>
    intro ac h Q e σ μ a w hw hR he hd
    simp only [trCode] at h
    cases draw with
    | false =>
      simp only [Bool.false_eq_true, if_false] at h
      obtain ⟨al, h1, h⟩ := Option.map_eq_some_iff.1 h
      subst h
      exact wp_region_list (ops_ok hT ops.toList al e σ μ a w h1 hw hR he hd μ.le_refl (Below.refl _ _))
    | true =>
      simp only [if_true] at h
      split at h
      · rename_i al h1
        split at h
        · rename_i h2
          have hw : wpD T (Q .normal) al al.length [] [] e σ := by
            split at h
            · rename_i its hits
              injection h with h
              subst h
              exact items_ok hM al.length [] [] its [] [] e σ hits hw (fun i c hc => (by cases hc)) (fun i c hc => (by cases hc))
            · injection h with h
              subst h
              exact hw
          simp only [Bool.and_eq_true] at h2
          have hF := fits_of h1
          have hempty : ∀ (val : Nat → Value), envOf al e val [] = e := fun val => funext fun t => envOf_out fun i hi => by cases hi
          refine wp_region_any h2.2 ?_
          have hl : left al.length [] ≤ al.length := by unfold left; exact Nat.le_trans (List.length_filter_le _ _) (by simp)
          refine draw_ok hT hF h2.1 (e0 := e) ops.size al.length (fun _ => undef) [] [] [] _ σ μ a _ (by rw [hempty]; exact hw) hl (by rw [hF.len]; exact hl) ⟨fun i hi => (by cases hi), fun i hi => (by cases hi), fun i hi => (by cases hi), fun i hi => (by cases hi), fun i hi => (by cases hi)⟩ (by simp) (fun i hi => by simp [hi]) (hR.same rfl) (by rw [hempty]; exact he) hd μ.le_refl (Below.refl _ _).drew
        · cases h
      · cases h
  | seq x y ihx ihy =>
    intro ac h Q e σ μ a w hw hR he hd
    simp only [trCode] at h
    split at h
    · rename_i ax ay h1 h2
      injection h with h
      subst h
      simp only [wpA] at hw
      refine wp_seq (wp_mono (ihx ax h1 _ e σ μ a w hw hR he hd) fun x a' w' hx => ?_)
      obtain ⟨axx, e', σ', μ', hxr, hq, g1, g2, g3, g4, g5⟩ := hx
      cases axx with
      | normal =>
        cases x <;> simp [exitRel] at hxr
        exact wp_mono (ihy ay h2 Q e' σ' μ' a' w' hq g2 g3 g4) fun x'' a'' w'' h'' => h''.trans g1 g5
      | exit id =>
        cases x <;> simp [exitRel] at hxr
        subst hxr
        exact ⟨.exit id, e', σ', μ', rfl, hq, g1, g2, g3, g4, g5⟩
      | ret =>
        cases x <;> simp [exitRel] at hxr
        exact ⟨.ret, e', σ', μ', trivial, hq, g1, g2, g3, g4, g5⟩
    · cases h
  | cond c x y ihx ihy =>
    intro ac h Q e σ μ a w hw hR he hd
    simp only [trCode] at h
    split at h
    · rename_i c' ax ay h0 h1 h2
      injection h with h
      subst h
      obtain ⟨rfl, k0⟩ := opd_some h0
      have hv := he.ev k0
      simp only [wpA] at hw
      split at hw
      · rename_i hb
        rw [hb] at hv
        exact wp_cond_true hv.bool_inv (ihx ax h1 Q e σ μ a w hw hR he hd)
      · rename_i hb
        rw [hb] at hv
        exact wp_cond_false hv.bool_inv (ihy ay h2 Q e σ μ a w hw hR he hd)
      · exact hw.elim
    · cases h
  | block id b ih =>
    intro ac h Q e σ μ a w hw hR he hd
    simp only [trCode] at h
    obtain ⟨ab, h1, h⟩ := Option.map_eq_some_iff.1 h
    subst h
    simp only [wpA] at hw
    refine wp_block (wp_mono (ih ab h1 _ e σ μ a w hw hR he hd) fun x a' w' hx => ?_)
    obtain ⟨axx, e', σ', μ', hxr, hq, g1, g2, g3, g4, g5⟩ := hx
    cases axx with
    | normal =>
      cases x <;> simp [exitRel] at hxr
      exact ⟨.normal, e', σ', μ', trivial, hq, g1, g2, g3, g4, g5⟩
    | exit i =>
      cases x <;> simp [exitRel] at hxr
      subst hxr
      simp only [Exit.inBlock]
      simp only at hq
      split
      · rename_i hid
        rw [if_pos hid] at hq
        exact ⟨.normal, e', σ', μ', trivial, hq, g1, g2, g3, g4, g5⟩
      · rename_i hid
        rw [if_neg hid] at hq
        exact ⟨.exit i, e', σ', μ', rfl, hq, g1, g2, g3, g4, g5⟩
    | ret =>
      cases x <;> simp [exitRel] at hxr
      exact ⟨.ret, e', σ', μ', trivial, hq, g1, g2, g3, g4, g5⟩
  | loop b ih =>
    intro ac h Q e σ μ a w hw hR he hd
    simp only [trCode] at h
    obtain ⟨ab, h1, h⟩ := Option.map_eq_some_iff.1 h
    subst h
    simp only [wpA] at hw
    obtain ⟨n, hn⟩ := hw
    exact wpLoop_sound (f := wpA T ab) (fun Q e σ μ a w hf => ih ab h1 Q e σ μ a w hf) hn hR he hd μ.le_refl (Below.refl _ _)
  | scope b ih =>
    intro ac h Q e σ μ a w hw hR he hd
    simp only [trCode] at h
    refine wp_scope_straight (wp_mono (ih ac h Q e σ μ a w hw hR he hd) fun x a' w' hx => ?_)
    cases x <;> first
      | exact hx
      | (obtain ⟨axx, e', σ', μ', hxr, _⟩ := hx; cases axx <;> exact hxr.elim)
  | exit id =>
    intro ac h Q e σ μ a w hw hR he hd
    simp [trCode] at h
    subst h
    exact wp_exit ⟨.exit id, e, σ, μ, rfl, hw, μ.le_refl, hR, he, hd, Below.refl _ _⟩
  | ret =>
    intro ac h Q e σ μ a w hw hR he hd
    simp [trCode] at h
    subst h
    exact wp_ret ⟨.ret, e, σ, μ, trivial, hw, μ.le_refl, hR, he, hd, Below.refl _ _⟩
  | _ => intro ac h; simp [trCode] at h
end
end Go.Ab
