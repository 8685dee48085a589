/- The value machine: what it says of functions, they do. -/
import Derived.Test.YtbdihjmnbadfhaaGreatDoorV18
namespace Go.V
set_option linter.unusedVariables false
set_option linter.unusedSimpArgs false
open Go.Ab

section
variable {tab : Tab}
theorem put_bool {c : Ctx} {e : VEnv} {ea : Env} {t : Nat} {p : Bool} (he : EnvRel c e ea) (hp : getV e t = .bool p) : EnvRel c (putV e t (.bool p)) ea := by
  have ht := he t
  rw [hp] at ht
  have ht := ht.bool_inv
  intro i
  rw [getV_put]
  by_cases hi : i = t
  · subst hi; rw [if_pos rfl, ht]; exact .bool _
  · rw [if_neg hi]; exact he i
theorem evItems_ok {β : Type} {y : β} : ∀ {its : List SItem} {c : Ctx} {e : VEnv} {ea : Env} {chk : Chk} {ach : List (Nat × (Hp → Prop))} {k : VEnv → Store → Option β}, Rel c → EnvRel c e ea → ChkRel c ach chk → evItems tab its chk e c.S k = some y → wpI (tabSpec tab) (PostE c k y) its ach ea c.σ
  | [], c, e, ea, chk, ach, k, hR, he, hc, h => ⟨e, c, rfl, Le.refl c, hR, he, h⟩
  | it :: r, c, e, ea, chk, ach, k, hR, he, hc, h => by
    have step : ∀ e1, EnvRel c e1 ea → evItem tab it chk e1 c.S (fun chk' e' S' => evItems tab r chk' e' S' k) = some y →
        (if it.mover then runOp (tabSpec tab) it.o.op ea c.σ (fun v σ' => recheck it.chks σ' ach ∧ wpI (tabSpec tab) (PostE c k y) r ach (ea.putO it.o.dst v) σ')
        else match it.o.op.run ea c.σ with
          | some (v, _) => wpI (tabSpec tab) (PostE c k y) r (if it.keep then (it.idx, fun σ' => it.o.op.run ea σ' = some (v, σ')) :: ach else ach) (ea.putO it.o.dst v) c.σ
          | none => False) := by
      intro e1 he1 h1
      refine evItem_ok (Q := fun ach' ea' σ' => wpI (tabSpec tab) (PostE c k y) r ach' ea' σ') hR he1 hc h1 fun c' ach' chk' e' ea' h2 h3 h4 h5 h6 => ?_
      exact wpI_mono (tabSpec_mono tab) (fun ea'' σ'' hp => hp.of h2) _ _ _ _ (evItems_ok h3 h5 h4 h6)
    have skip : ∀ e1, EnvRel c e1 ea → evItems tab r chk (putO e1 it.o.dst (.tup [])) c.S k = some y → wpI (tabSpec tab) (PostE c k y) r ach (ea.putO it.o.dst undef) c.σ := fun e1 he1 h1 => evItems_ok hR (he1.putO (.tup .nil)) hc h1
    simp only [evItems] at h
    simp only [wpI]
    split at h
    · rename_i hg
      have : wanted it.o ea = true := by simp only [wanted, hg]
      rw [if_pos this]
      exact step e he h
    · rename_i t w hg
      split at h
      · rename_i p hp
        have ht := he t
        rw [hp] at ht
        have ht := ht.bool_inv
        have hw : wanted it.o ea = (p == w) := by simp only [wanted, hg, ht]
        have hput := put_bool he hp
        rw [hw]
        cases p <;> cases w <;> simp only [cond_true, cond_false] at h
        · rw [if_pos (by decide)]; exact step _ hput h
        · rw [if_neg (by decide)]; exact skip _ hput h
        · rw [if_neg (by decide)]; exact skip _ hput h
        · rw [if_pos (by decide)]; exact step _ hput h
      · rename_i hp
        have ht := he t
        rw [hp] at ht
        have hw : wanted it.o ea = false := by
          simp only [wanted, hg]
          generalize ea t = u at ht
          cases ht
          rfl
        rw [hw, if_neg (by decide)]
        exact skip _ he h
      · cases h

/-! ### The abstract machine leaves what it does not assign -/
def Keeps (as : List Nat) (e e' : Env) : Prop := ∀ t, t ∉ as → e' t = e t
theorem Keeps.refl (as : List Nat) (e : Env) : Keeps as e e := fun _ _ => rfl
theorem Keeps.put {as : List Nat} {e e' : Env} {d : Option Nat} {v : Value} (h : Keeps as e e') (hd : ∀ t, t ∈ dstL d → t ∈ as) : Keeps as e (e'.putO d v) := by
  intro t ht
  cases d with
  | none => exact h t ht
  | some d =>
    have : t ≠ d := by rintro rfl; exact ht (hd t (List.mem_singleton.2 rfl))
    simp only [Env.putO, Env.put, if_neg this]
    exact h t ht
theorem wpOps_keep {T : Ab.Specs} (hT : MonoT T) {Q : Env → Hp → Prop} {as : List Nat} {e0 : Env} : ∀ {ops : List AOper} {e : Env} {σ : Hp}, (∀ o, o ∈ ops → ∀ t, t ∈ dstL o.dst → t ∈ as) → Keeps as e0 e → Ab.wpOps T Q ops e σ → Ab.wpOps T (fun e' σ' => Keeps as e0 e' ∧ Q e' σ') ops e σ
  | [], e, σ, _, hk, h => ⟨hk, h⟩
  | o :: r, e, σ, ha, hk, h => by
    simp only [Ab.wpOps] at h ⊢
    have hr : ∀ o, o ∈ r → ∀ t, t ∈ dstL o.dst → t ∈ as := fun o ho => ha o (List.mem_cons_of_mem _ ho)
    split at h
    · rename_i hw
      rw [if_pos hw]
      exact runOp_mono hT (fun v σ' hv => wpOps_keep hT hr (hk.put (ha o List.mem_cons_self)) hv) h
    · rename_i hw
      rw [if_neg hw]
      exact wpOps_keep hT hr (hk.put (ha o List.mem_cons_self)) h
theorem wpI_keep {T : Ab.Specs} (hT : MonoT T) {Q : Env → Hp → Prop} {as : List Nat} {e0 : Env} : ∀ {its : List SItem} {chk : List (Nat × (Hp → Prop))} {e : Env} {σ : Hp}, (∀ o, o ∈ its → ∀ t, t ∈ dstL o.o.dst → t ∈ as) → Keeps as e0 e → wpI T Q its chk e σ → wpI T (fun e' σ' => Keeps as e0 e' ∧ Q e' σ') its chk e σ
  | [], chk, e, σ, _, hk, h => ⟨hk, h⟩
  | it :: r, chk, e, σ, ha, hk, h => by
    simp only [wpI] at h ⊢
    have hr : ∀ o, o ∈ r → ∀ t, t ∈ dstL o.o.dst → t ∈ as := fun o ho => ha o (List.mem_cons_of_mem _ ho)
    split at h
    · rename_i hw
      rw [if_pos hw]
      split at h
      · rename_i hm
        rw [if_pos hm]
        exact runOp_mono hT (fun v σ' hv => ⟨hv.1, wpI_keep hT hr (hk.put (ha it List.mem_cons_self)) hv.2⟩) h
      · rename_i hm
        rw [if_neg hm]
        split at h
        · exact wpI_keep hT hr (hk.put (ha it List.mem_cons_self)) h
        · exact h.elim
    · rename_i hw
      rw [if_neg hw]
      exact wpI_keep hT hr (hk.put (ha it List.mem_cons_self)) h
theorem allL_imp {F G : Nat → Prop} (h : ∀ m, F m → G m) : ∀ {l : List Nat}, allL F l → allL G l
  | [], _ => trivial
  | [m], q => h m q
  | m :: m' :: r, q => ⟨h m q.1, allL_imp h q.2⟩
theorem wpD_keep {T : Ab.Specs} (hT : MonoT T) {Q : Env → Hp → Prop} {as : List Nat} {e0 : Env} {ops : List (AOper × List Nat)} (ha : ∀ o, o ∈ ops → ∀ t, t ∈ dstL o.1.dst → t ∈ as) : ∀ (f : Nat) {D : List Nat} {chk : List (Nat × (Hp → Prop))} {e : Env} {σ : Hp}, Keeps as e0 e → wpD T Q ops f D chk e σ → wpD T (fun e' σ' => Keeps as e0 e' ∧ Q e' σ') ops f D chk e σ
  | 0, D, chk, e, σ, hk, h => ⟨hk, h⟩
  | f + 1, D, chk, e, σ, hk, h => by
    simp only [wpD] at h ⊢
    cases hn : nextStill ops D with
    | some i =>
      rw [hn] at h
      simp only at h ⊢
      cases ho : ops[i]? with
      | none => rw [ho] at h; exact h
      | some p =>
        obtain ⟨o, pr⟩ := p
        rw [ho] at h
        have hm : (o, pr) ∈ ops := List.mem_of_getElem? ho
        simp only at h ⊢
        split at h
        · rename_i hw
          rw [if_pos hw]
          split at h
          · rename_i v σ' hr
            exact wpD_keep hT ha f (hk.put (ha _ hm)) h
          · exact h.elim
        · rename_i hw
          rw [if_neg hw]
          exact wpD_keep hT ha f (hk.put (ha _ hm)) h
    | none =>
      rw [hn] at h
      simp only at h ⊢
      cases hr : readyMovers ops D with
      | nil => rw [hr] at h; exact ⟨hk, h⟩
      | cons a l =>
        rw [hr] at h
        simp only at h ⊢
        refine allL_imp (fun m hm => ?_) h
        cases ho : ops[m]? with
        | none => rw [ho] at hm; exact hm
        | some p =>
          obtain ⟨o, pr⟩ := p
          rw [ho] at hm
          have hmem : (o, pr) ∈ ops := List.mem_of_getElem? ho
          simp only at hm ⊢
          split at hm
          · rename_i hw
            rw [if_pos hw]
            exact runOp_mono hT (fun v σ' hx => ⟨hx.1, wpD_keep hT ha f (hk.put (ha _ hmem)) hx.2⟩) hm
          · rename_i hw
            rw [if_neg hw]
            exact wpD_keep hT ha f (hk.put (ha _ hmem)) hm
theorem wpA_keep {T : Ab.Specs} (hT : MonoT T) {as : List Nat} {e0 : Env} : ∀ (c : AC) {Q : AExit → Env → Hp → Prop} {e : Env} {σ : Hp}, noDraw c = true → (∀ t, t ∈ assigned c → t ∈ as) → Keeps as e0 e → wpA T c Q e σ → wpA T c (fun x e' σ' => Keeps as e0 e' ∧ Q x e' σ') e σ
  | .skip, _, _, _, _, _, hk, h => ⟨hk, h⟩
  | .exit _, _, _, _, _, _, hk, h => ⟨hk, h⟩
  | .ret, _, _, _, _, _, hk, h => ⟨hk, h⟩
  | .region ops, Q, e, σ, _, ha, hk, h => wpOps_keep hT (fun o ho t ht => ha t (List.mem_flatMap.2 ⟨o, ho, ht⟩)) hk h
  | .sched its, Q, e, σ, _, ha, hk, h => wpI_keep hT (fun o ho t ht => ha t (List.mem_flatMap.2 ⟨o, ho, ht⟩)) hk h
  | .draw ops, Q, e, σ, _, ha, hk, h => wpD_keep hT (fun o ho t ht => ha t (List.mem_flatMap.2 ⟨o, ho, ht⟩)) _ hk h
  | .seq a b, Q, e, σ, hd, ha, hk, h => by
    simp only [noDraw, Bool.and_eq_true] at hd
    have h1 := wpA_keep hT a hd.1 (fun t ht => ha t (List.mem_append.2 (.inl ht))) hk h
    refine wpA_mono hT a _ _ (fun x e' σ' hx => ?_) e σ h1
    obtain ⟨hx1, hx2⟩ := hx
    cases x with
    | normal => exact wpA_keep hT b hd.2 (fun t ht => ha t (List.mem_append.2 (.inr ht))) hx1 hx2
    | exit i => exact ⟨hx1, hx2⟩
    | ret => exact ⟨hx1, hx2⟩
  | .cond c a b, Q, e, σ, hd, ha, hk, h => by
    simp only [noDraw, Bool.and_eq_true] at hd
    simp only [wpA] at h ⊢
    split at h
    · exact wpA_keep hT a hd.1 (fun t ht => ha t (List.mem_append.2 (.inl ht))) hk h
    · exact wpA_keep hT b hd.2 (fun t ht => ha t (List.mem_append.2 (.inr ht))) hk h
    · exact h.elim
  | .block id b, Q, e, σ, hd, ha, hk, h => by
    have h1 := wpA_keep hT b hd ha hk h
    refine wpA_mono hT b _ _ (fun x e' σ' hx => ?_) e σ h1
    obtain ⟨hx1, hx2⟩ := hx
    cases x with
    | normal => exact ⟨hx1, hx2⟩
    | exit i =>
      simp only at hx2 ⊢
      split at hx2
      · rename_i hi; rw [if_pos hi]; exact ⟨hx1, hx2⟩
      · rename_i hi; rw [if_neg hi]; exact ⟨hx1, hx2⟩
    | ret => exact ⟨hx1, hx2⟩
  | .loop b, Q, e, σ, hd, ha, hk, h => by
    obtain ⟨n, hn⟩ := h
    refine ⟨n, ?_⟩
    induction n generalizing e σ with
    | zero => exact hn.elim
    | succ n ih =>
      simp only [wpLoop] at hn ⊢
      have h1 := wpA_keep hT b hd ha hk hn
      refine wpA_mono hT b _ _ (fun x e' σ' hx => ?_) e σ h1
      obtain ⟨hx1, hx2⟩ := hx
      cases x with
      | normal => exact ih _ _ hx1 hx2
      | exit i => exact ⟨hx1, hx2⟩
      | ret => exact ⟨hx1, hx2⟩

/-! ### Ways out -/
theorem decOne_ok {S : Store} {N : Nat} {fx : List Nat} {sk : SSk} {vals : List VV} {t : Tup sk.shs} (h : decOne S N fx sk vals = some t) : sk.noRo = true ∧ ∃ st, decSt S N fx sk vals = some st ∧ toL sk.shs t = st.ls := by
  unfold decOne at h
  obtain ⟨h1, h2⟩ := gd_some h
  obtain ⟨st, h3, h4⟩ := bind_some' h2
  exact ⟨h1, st, h3, ofL_toL h4⟩
theorem decAlt_ok {S : Store} {N : Nat} {fx : List Nat} {vals : List Nat → List VV} {hit : XK → Bool} : ∀ {l : List Alt} {s : SumA l}, decAlt S N fx vals hit l = some s → ∃ p, altOf l s = some p ∧ hit p.1.x = true ∧ decOne S N fx p.1.sk (vals p.1.ts) = some p.2
  | [], s, h => by cases h
  | [a], s, h => by
    simp only [decAlt] at h
    cases hh : hit a.x with
    | false => rw [hh] at h; cases h
    | true => rw [hh] at h; exact ⟨⟨a, s⟩, rfl, hh, h⟩
  | a :: b :: r, s, h => by
    simp only [decAlt] at h
    split at h
    · rename_i t ht
      injection h with h
      subst h
      cases hh : hit a.x with
      | false => rw [hh] at ht; cases ht
      | true => rw [hh] at ht; exact ⟨⟨a, t⟩, rfl, hh, ht⟩
    · obtain ⟨s', h1, h2⟩ := bind_some' h
      injection h2 with h2
      subst h2
      obtain ⟨p, h3, h4, h5⟩ := decAlt_ok h1
      exact ⟨p, h3, h4, h5⟩
theorem XK.is_out {x : XK} {y : AExit} (h : x.is y = true) : x.out = y := by
  cases x <;> cases y <;> simp only [XK.is] at h <;> first | rfl | (cases h; done) | skip
  rename_i i j
  rw [show (XK.exit i).out = AExit.exit i from rfl, Nat.eq_of_beq_eq_true h]

theorem puts_rel {c : Ctx} : ∀ {ts : List Nat} {e : VEnv} {ea : Env} {vs : List VV}, EnvRel c e ea → F2 (VRel c) vs (ts.map ea) → EnvRel c (putsV e ts vs) ea
  | [], e, ea, vs, he, hf => by
    cases hf
    exact he
  | t :: ts, e, ea, vs, he, hf => by
    cases hf with
    | cons h1 h2 =>
      have := puts_rel he h2
      intro i
      simp only [putsV, getV_put]
      by_cases hi : i = t
      · subst hi; rw [if_pos rfl]; exact h1
      · rw [if_neg hi]; exact this i
theorem clear_rel {c : Ctx} {as : List Nat} {e : VEnv} {ea ea' : Env} (he : EnvRel c e ea) (hk : Keeps as ea ea') : EnvRel c (clearV e as) ea' := by
  intro t
  rcases clear_get (ts := as) (e := e) (t := t) with h | ⟨h1, h2⟩
  · rw [h]; exact .undef _
  · rw [h2, hk t h1]; exact he t
theorem map_rel {c : Ctx} {e : VEnv} {ea : Env} (he : EnvRel c e ea) : ∀ ts : List Nat, F2 (VRel c) (ts.map (getV e)) (ts.map ea)
  | [] => .nil
  | t :: ts => .cons (he t) (map_rel he ts)

theorem goOn_ok {β : Type} {c c1 c' : Ctx} {e0 : VEnv} {ea0 ea' : Env} {fx mov asg : List Nat} {exits : List Alt} {s : SumA exits} {k : AExit → VEnv → Store → Option β} {y : β} {e' : VEnv} {x : AExit} (hR : Rel c) (he0 : EnvRel c e0 ea0) (hR' : Rel c') (hw : Within c c1 fx mov) (hR1 : Rel c1) (hle : Le c1 c') (hok : okFx c.S fx = true)
    (hke : Keeps asg ea0 ea') (he' : EnvRel c' e' ea') (hd : decAlt c'.S c.S.length fx (fun ts => ts.map (getV e')) (fun y => y.is x) exits = some s) (h : goOn e0 c.S fx mov asg exits s k = some y) : Post c k y x ea' c'.σ := by
  obtain ⟨p, h1, h2, h3⟩ := decAlt_ok hd
  obtain ⟨hro, st, h4, h5⟩ := decOne_ok h3
  unfold goOn at h
  rw [altK_eq, h1] at h
  simp only [Option.bind_some] at h
  rw [XK.is_out h2] at h
  unfold setSt at h
  rw [h5] at h
  cases he : encSt id p.1.sk st.ls with
  | none => rw [he] at h; cases h
  | some q =>
    obtain ⟨vs, fs, bs⟩ := q
    rw [he] at h
    simp only [Bool.false_or] at h
    cases hS : sputs fx fs (around fx mov (alAll vs fs bs) 0 c.S) with
    | none => rw [hS] at h; cases h
    | some S2 =>
      rw [hS] at h
      obtain ⟨ct, g1, g2, g3, g4, g5⟩ := leaveTo hR hR' hw hR1 hle hok hro h4 he (map_rel he' _) hS
      refine ⟨_, ct, g1, g3, g4, puts_rel (clear_rel (he0.frame g3) hke) g5, ?_⟩
      rw [g2]
      exact h

theorem around_frz {S : Store} {fx : List Nat} : Frz S (around fx [] true 0 S) := by
  refine ⟨around_len, fun k => ?_⟩
  by_cases hk : k < S.length
  · rw [around_get hk]
    simp only [memN, cond_false, Nat.zero_add]
    cases memN k fx with
    | true => exact .inl rfl
    | false => exact .inr rfl
  · rw [sget_out (by rw [around_len]; omega), sget_out (by omega)]
    exact .inl rfl

/-! ### Code -/
/-- The head of a loop. -/
def Head (c : Ctx) (e0 : VEnv) (ea0 : Env) (fx mov asg : List Nat) (ts : List Nat) (sk : SSk) (t : Tup sk.shs) (ea : Env) (σ : Hp) : Prop :=
  ∃ c1 e1, c1.σ = σ ∧ setSt e0 c.S fx mov asg true ts sk t = some (e1, c1.S) ∧ Rel c1 ∧ EnvRel c1 e1 ea ∧ Within c c1 fx mov ∧ Keeps asg ea0 ea
theorem setSt_some {e0 e1 : VEnv} {S S1 : Store} {fx mov asg ts : List Nat} {sk : SSk} {t : Tup sk.shs} (h : setSt e0 S fx mov asg true ts sk t = some (e1, S1)) : ∃ vs fs bs S', encSt id sk (toL sk.shs t) = some (vs, fs, bs) ∧ sputs fx fs (around fx mov true 0 S) = some S' ∧ e1 = putsV (clearV e0 asg) ts vs ∧ S1 = S' ++ bs := by
  unfold setSt at h
  split at h
  · rename_i vs fs bs he
    simp only [Bool.true_or] at h
    split at h
    · rename_i S' hS
      injection h with h
      injection h with h1 h2
      exact ⟨vs, fs, bs, S', he, hS, h1.symm, h2.symm⟩
    · cases h
  · cases h

theorem freshDs_mem {ops : List (AOper × List Nat)} : ∀ {r : List LItem} {it : LItem} {t : Nat}, it ∈ r → Nat.beq it.kind 2 = true → (opAt ops it.i).dst = some t → t ∈ freshDs ops r
  | a :: r, it, t, h, hk, ht => by
    simp only [freshDs]
    rcases List.mem_cons.1 h with rfl | h
    · rw [hk, cond_true, ht]
      exact List.mem_cons_self
    · have := freshDs_mem h hk ht
      cases Nat.beq a.kind 2 with
      | false => exact this
      | true => exact List.mem_append.2 (.inr this)
theorem loopN_succ {α γ : Type} (f : α → Option (α ⊕ γ)) (n : Nat) (a : α) : loopN f (n + 1) a = (f a).bind fun s => caseS s (loopN f n) some := rfl

theorem wpLoop_le {f : (AExit → Env → Hp → Prop) → Env → Hp → Prop} (hf : ∀ (Q Q' : AExit → Env → Hp → Prop), (∀ x e σ, Q x e σ → Q' x e σ) → ∀ e σ, f Q e σ → f Q' e σ) {Q : AExit → Env → Hp → Prop} :
    ∀ (n m : Nat) (e : Env) (σ : Hp), n ≤ m → wpLoop f Q n e σ → wpLoop f Q m e σ
  | 0, _, _, _, _, h => h.elim
  | n + 1, 0, _, _, hm, _ => absurd hm (Nat.not_succ_le_zero _)
  | n + 1, m + 1, e, σ, hm, h => by
    simp only [wpLoop] at h ⊢
    refine hf _ _ (fun x e' σ' hx => ?_) e σ h
    cases x with
    | normal => exact wpLoop_le hf n m e' σ' (Nat.le_of_succ_le_succ hm) hx
    | exit id => exact hx
    | ret => exact hx
theorem loopU_ok {b : AC} (ih : ∀ (at' : AT) {β : Type} {y : β} {c : Ctx} {e : VEnv} {ea : Env} {k : AExit → VEnv → Store → Option β}, Rel c → EnvRel c e ea → eval tab b at' β e c.S k = some y → wpA (tabSpec tab) b (Post c k y) ea c.σ) :
    ∀ (at' : AT) {β : Type} {y : β} {c : Ctx} {e : VEnv} {ea : Env} {k : AExit → VEnv → Store → Option β}, Rel c → EnvRel c e ea → loopU (eval tab b) at' β e c.S k = some y → wpLoop (wpA (tabSpec tab) b) (Post c k y) at'.rounds ea c.σ
  | .n l r, β, y, c, e, ea, k, hR, he, h => by
    simp only [loopU] at h
    have h1 := ih l hR he h
    simp only [AT.rounds, wpLoop]
    refine wpA_mono (tabSpec_mono tab) b _ _ (fun x ea' σ' hx => ?_) ea c.σ h1
    obtain ⟨e', c', h2, h3, h4, h5, h6⟩ := hx
    subst h2
    cases x with
    | normal => exact wpLoop_mono (wpA_mono (tabSpec_mono tab) b) (fun x ea'' σ'' hp => PostE.of h3 hp) _ _ _ (loopU_ok ih r h4 h5 h6)
    | exit i => exact ⟨e', c', rfl, h3, h4, h5, h6⟩
    | ret => exact ⟨e', c', rfl, h3, h4, h5, h6⟩
  | .sz m l r, β, y, c, e, ea, k, hR, he, h => by
    simp only [loopU] at h
    simp only [AT.rounds]
    cases hm : Nat.beq m c.S.length with
    | true =>
      rw [hm] at h
      exact wpLoop_le (wpA_mono (tabSpec_mono tab) b) _ _ _ _ (Nat.le_add_right _ _) (loopU_ok ih l hR he h)
    | false =>
      rw [hm] at h
      exact wpLoop_le (wpA_mono (tabSpec_mono tab) b) _ _ _ _ (Nat.le_add_left _ _) (loopU_ok ih r hR he h)
  | .no, _, _, _, _, _, _, _, _, h => by cases h
  | .lp _ _ _ _, _, _, _, _, _, _, _, _, h => by cases h
  | .jn _ _ _ _ _, _, _, _, _, _, _, _, _, h => by cases h
  | .dr _, _, _, _, _, _, _, _, _, h => by cases h
  | .all, _, _, _, _, _, _, _, _, h => by cases h
theorem loopA_ok {b : AC} (ih : ∀ {β : Type} {y : β} {c : Ctx} {e : VEnv} {ea : Env} {k : AExit → VEnv → Store → Option β}, Rel c → EnvRel c e ea → eval tab b .all β e c.S k = some y → wpA (tabSpec tab) b (Post c k y) ea c.σ) :
    ∀ (n : Nat) {β : Type} {y : β} {c : Ctx} {e : VEnv} {ea : Env} {k : AExit → VEnv → Store → Option β}, Rel c → EnvRel c e ea → loopA (eval tab b .all) n β e c.S k = some y → wpLoop (wpA (tabSpec tab) b) (Post c k y) n ea c.σ
  | 0, _, _, _, _, _, _, _, _, h => by cases h
  | n + 1, β, y, c, e, ea, k, hR, he, h => by
    have h1 := ih hR he (show eval tab b .all β e c.S (fun x e' S' => match x with
      | .normal => loopA (eval tab b .all) n β e' S' k
      | x => k x e' S') = some y from h)
    simp only [wpLoop]
    refine wpA_mono (tabSpec_mono tab) b _ _ (fun x ea' σ' hx => ?_) ea c.σ h1
    obtain ⟨e', c', h2, h3, h4, h5, h6⟩ := hx
    subst h2
    cases x with
    | normal => exact wpLoop_mono (wpA_mono (tabSpec_mono tab) b) (fun x ea'' σ'' hp => PostE.of h3 hp) _ _ _ (loopA_ok ih n h4 h5 h6)
    | exit i => exact ⟨e', c', rfl, h3, h4, h5, h6⟩
    | ret => exact ⟨e', c', rfl, h3, h4, h5, h6⟩

theorem eval_ok : ∀ (ac : AC) (at' : AT) {β : Type} {y : β} {c : Ctx} {e : VEnv} {ea : Env} {k : AExit → VEnv → Store → Option β}, Rel c → EnvRel c e ea → eval tab ac at' β e c.S k = some y → wpA (tabSpec tab) ac (Post c k y) ea c.σ
  | .skip, _, _, _, c, e, ea, k, hR, he, h => ⟨e, c, rfl, Le.refl c, hR, he, h⟩
  | .exit i, _, _, _, c, e, ea, k, hR, he, h => ⟨e, c, rfl, Le.refl c, hR, he, h⟩
  | .ret, _, _, _, c, e, ea, k, hR, he, h => ⟨e, c, rfl, Le.refl c, hR, he, h⟩
  | .region ops, _, _, _, c, e, ea, k, hR, he, h => evOps_ok hR he h
  | .sched its, _, _, _, c, e, ea, k, hR, he, h => evItems_ok hR he .nil h
  | .draw ops, at', _, y, c, e, ea, k, hR, he, h => by
    simp only [eval] at h
    split at h
    · rename_i L _
      obtain ⟨hg, h⟩ := gd_some h
      rw [Bool.and_eq_true] at hg
      refine evL_ok hR ops.length (pd := fun _ => 0) hg.1 ⟨Le.refl c, hR, clear_rel he (Keeps.refl _ ea), .nil, rfl, rfl, fun b => ⟨.inl, fun h => ?_⟩, List.nodup_nil, (fun _ _ h => by cases h), (fun _ h => by cases h), (fun _ h => by cases h), fun it hit hk t ht => ?_, hg.2⟩ h
      · rcases h with h | ⟨_, h, _⟩
        · exact h
        · cases h
      · rcases @clear_get (freshDs ops (itemsOf ops L L [])) e t with h1 | ⟨h1, _⟩
        · exact h1
        · exact (h1 (freshDs_mem hit hk ht)).elim
    · cases h
  | .seq a b, at', β, y, c, e, ea, k, hR, he, h => by
    have plain : ∀ l r, (eval tab a l β e c.S fun x e' S' => match x with
        | .normal => eval tab b r β e' S' k
        | x => k x e' S') = some y → wpA (tabSpec tab) (.seq a b) (Post c k y) ea c.σ := by
      intro l r h1
      refine wpA_mono (tabSpec_mono tab) a _ _ (fun x ea' σ' hx => ?_) ea c.σ (eval_ok a l hR he h1)
      obtain ⟨e', c', h2, h3, h4, h5, h6⟩ := hx
      subst h2
      cases x with
      | normal => exact wpA_mono (tabSpec_mono tab) b _ _ (fun x ea'' σ'' hp => PostE.of h3 hp) _ _ (eval_ok b r h4 h5 h6)
      | exit i => exact ⟨e', c', rfl, h3, h4, h5, h6⟩
      | ret => exact ⟨e', c', rfl, h3, h4, h5, h6⟩
    simp only [eval] at h
    split at h
    · rename_i fx mov exits l r _
      obtain ⟨hg, h⟩ := gd_some h
      rw [Bool.and_eq_true] at hg
      obtain ⟨s, h1, h2⟩ := bind_some' h
      have hfz : Frz c.S (around (fx ++ mov) [] true 0 c.S) := around_frz
      have hR1 : Rel ⟨c.μ, around (fx ++ mov) [] true 0 c.S, c.σ, c.fb⟩ := hfz.rel hR
      have hw : Within c ⟨c.μ, around (fx ++ mov) [] true 0 c.S, c.σ, c.fb⟩ fx mov := by
        refine ⟨hfz.le, fun q hq hn hm => ?_, fun _ _ _ _ _ _ _ _ hy => hy⟩
        show sget (around (fx ++ mov) [] true 0 c.S) q = _
        rw [around_get hq]
        simp only [memN, cond_false, Nat.zero_add]
        rcases hm with hm | hz
        · rw [memN_false (by simp [hn, hm])]
          rfl
        · cases memN q (fx ++ mov) with
          | true => exact (freeze_id hz).symm
          | false => rfl
      have h3 := wpA_keep (tabSpec_mono tab) (as := assigned a) (e0 := ea) a hg.2 (fun t ht => ht) (Keeps.refl _ ea) (eval_ok a l (c := ⟨c.μ, around (fx ++ mov) [] true 0 c.S, c.σ, c.fb⟩) hR1 (he.frame hfz.le) h1)
      refine wpA_mono (tabSpec_mono tab) a _ _ (fun x ea' σ' hx => ?_) ea c.σ h3
      obtain ⟨hk, e', c', h4, h5, h6, h7, h8⟩ := hx
      subst h4
      have h9 := goOn_ok hR he h6 hw hR1 h5 hg.1 hk h7 h8 h2
      cases x with
      | normal =>
        obtain ⟨e2, c2, g1, g2, g3, g4, g5⟩ := h9
        rw [← g1]
        exact wpA_mono (tabSpec_mono tab) b _ _ (fun x ea'' σ'' hp => PostE.of g2 hp) _ _ (eval_ok b r g3 g4 g5)
      | exit i => exact h9
      | ret => exact h9
    · exact plain _ _ h
    · exact plain _ _ h
  | .cond t a b, at', β, y, c, e, ea, k, hR, he, h => by
    simp only [eval] at h
    split at h
    · rename_i p hp
      have ht := ev_rel he t
      rw [hp] at ht
      have ht := ht.bool_inv
      have key : ∀ (e1 e2 : VEnv) (l r : AT), EnvRel c e1 ea ∨ p = false → EnvRel c e2 ea ∨ p = true → cond p (eval tab a l β e1 c.S k) (eval tab b r β e2 c.S k) = some y → wpA (tabSpec tab) (.cond t a b) (Post c k y) ea c.σ := by
        intro e1 e2 l r h1 h2 h3
        simp only [wpA, ht]
        cases p with
        | true =>
          rcases h1 with h1 | h1
          · exact eval_ok a l hR h1 h3
          · cases h1
        | false =>
          rcases h2 with h2 | h2
          · exact eval_ok b r hR h2 h3
          · cases h2
      have pb : ∀ (i : Nat), t = .tmp i → (EnvRel c (putV e i (.bool true)) ea ∨ p = false) ∧ (EnvRel c (putV e i (.bool false)) ea ∨ p = true) := by
        intro i hi
        subst hi
        have := put_bool he hp
        cases p with
        | true => exact ⟨.inl this, .inr rfl⟩
        | false => exact ⟨.inr rfl, .inl this⟩
      split at h
      · exact key _ _ _ _ (pb _ rfl).1 (pb _ rfl).2 h
      · exact key _ _ _ _ (pb _ rfl).1 (pb _ rfl).2 h
      · exact key _ _ _ _ (.inl he) (.inl he) h
      · exact key _ _ _ _ (.inl he) (.inl he) h
    · cases h
  | .block id b, at', β, y, c, e, ea, k, hR, he, h => by
    simp only [eval] at h
    refine wpA_mono (tabSpec_mono tab) b _ _ (fun x ea' σ' hx => ?_) ea c.σ (eval_ok b _ hR he h)
    obtain ⟨e', c', h2, h3, h4, h5, h6⟩ := hx
    cases x with
    | normal => exact ⟨e', c', h2, h3, h4, h5, h6⟩
    | ret => exact ⟨e', c', h2, h3, h4, h5, h6⟩
    | exit i =>
      simp only at h6 ⊢
      cases hi : Nat.beq i id with
      | true =>
        rw [hi] at h6
        rw [if_pos (Nat.eq_of_beq_eq_true hi)]
        exact ⟨e', c', h2, h3, h4, h5, h6⟩
      | false =>
        rw [hi] at h6
        rw [if_neg (fun e => by rw [e, Nat.beq_refl] at hi; cases hi)]
        exact ⟨e', c', h2, h3, h4, h5, h6⟩
  | .loop b, at', β, y, c, e, ea, k, hR, he, h => by
    simp only [eval] at h
    split at h
    · rename_i fx head exits l _
      obtain ⟨hg, h⟩ := gd_some h
      rw [Bool.and_eq_true, Bool.and_eq_true] at hg
      obtain ⟨⟨g1, g2⟩, g3⟩ := hg
      split at h
      · rename_i st hd
        obtain ⟨t0, h1, h⟩ := bind_some' h
        obtain ⟨s, h2, h3⟩ := bind_some' h
        -- each round
        have round : ∀ (n : Nat) (t : Tup head.sk.shs) (ea1 : Env) (σ1 : Hp), Head c e ea fx (ksOf st.m) (assigned b) head.ts head.sk t ea1 σ1 → loopN (fun t => match setSt e c.S fx (ksOf st.m) (assigned b) true head.ts head.sk t with
            | some (e1, S1) => eval tab b l (Tup head.sk.shs ⊕ SumA exits) e1 S1 fun x e' S' => (match x with
              | .normal => (decOne S' c.S.length fx head.sk (head.ts.map (getV e'))).bind fun t => some (.inl t)
              | x => (decAlt S' c.S.length fx (fun ts => ts.map (getV e')) (fun y => y.is x) exits).bind fun s => some (.inr s))
            | none => none) n t = some s → wpLoop (wpA (tabSpec tab) b) (Post c k y) n ea1 σ1 := by
          intro n
          induction n with
          | zero => intro t ea1 σ1 _ hl; cases hl
          | succ n ih =>
            intro t ea1 σ1 hH hl
            rw [loopN_succ] at hl
            obtain ⟨z, hl1, hl2⟩ := bind_some' hl
            obtain ⟨c1, e1, q1, q2, q3, q4, q5, q6⟩ := hH
            subst q1
            rw [q2] at hl1
            simp only at hl1
            have h4 := wpA_keep (tabSpec_mono tab) (as := assigned b) (e0 := ea) b g3 (fun t ht => ht) q6 (eval_ok b l q3 q4 hl1)
            simp only [wpLoop]
            refine wpA_mono (tabSpec_mono tab) b _ _ (fun x ea' σ' hx => ?_) ea1 c1.σ h4
            obtain ⟨hk, e', c', h5, h6, h7, h8, h9⟩ := hx
            subst h5
            cases x with
            | normal =>
              simp only at h9 ⊢
              obtain ⟨t', h10, h11⟩ := bind_some' h9
              injection h11 with h11
              subst h11
              simp only [caseS] at hl2
              refine ih t' ea' c'.σ ?_ hl2
              obtain ⟨hro, st', h12, h13⟩ := decOne_ok h10
              -- back at the head
              have hset : ∃ e2 S2, setSt e c.S fx (ksOf st.m) (assigned b) true head.ts head.sk t' = some (e2, S2) := by
                cases n with
                | zero => cases hl2
                | succ n =>
                  rw [loopN_succ] at hl2
                  obtain ⟨z', hl3, _⟩ := bind_some' hl2
                  cases hz : setSt e c.S fx (ksOf st.m) (assigned b) true head.ts head.sk t' with
                  | none => rw [hz] at hl3; cases hl3
                  | some q => exact ⟨q.1, q.2, rfl⟩
              obtain ⟨e2, S2, hset⟩ := hset
              obtain ⟨vs, fs, bs, S3, r1, r2, r3, r4⟩ := setSt_some hset
              rw [h13] at r1
              obtain ⟨ct, u1, u2, u3, u4, u5, u6, u7, u8⟩ := leave hR h7 q5 q3 h6 g2 hro h12 r1 (map_rel h8 _) r2
              refine ⟨ct, e2, u1, by rw [hset, r4, u2], u6, ?_, within_of u5 r2 u2 fun q hq hn hm hdm b' y' hb hy => ?_, hk⟩
              · rw [r3]
                exact puts_rel (clear_rel (he.frame u5) hk) u7
              · refine (u8 q hq hn ?_).2 b' y' hb hy
                obtain ⟨v1, v2, v3, _⟩ := sputs_ok r2
                rw [around_len] at v2
                rw [u2, sget_app (by rw [v2]; exact hq), v3 q hn, around_get hq, Nat.zero_add, memN_false hn]
                rcases hm with hm | hz
                · rw [memN_false hm, cond_false, cond_false, cond_true, dim_freeze]; exact hdm
                · rw [hz]
                  cases memN q (ksOf st.m) with
                  | true => exact hdm
                  | false => rw [cond_false, cond_false, cond_true, dim_freeze]; exact hdm
            | exit i =>
              simp only at h9 ⊢
              obtain ⟨s', h10, h11⟩ := bind_some' h9
              injection h11 with h11
              subst h11
              simp only [caseS] at hl2
              injection hl2 with hl2
              subst hl2
              exact goOn_ok hR he h7 q5 q3 h6 g2 hk h8 h10 h3
            | ret =>
              simp only at h9 ⊢
              obtain ⟨s', h10, h11⟩ := bind_some' h9
              injection h11 with h11
              subst h11
              simp only [caseS] at hl2
              injection hl2 with hl2
              subst hl2
              exact goOn_ok hR he h7 q5 q3 h6 g2 hk h8 h10 h3
        refine ⟨BIG, round BIG t0 ea c.σ ?_ h2⟩
        have hset : ∃ e2 S2, setSt e c.S fx (ksOf st.m) (assigned b) true head.ts head.sk t0 = some (e2, S2) := by
          have hb : BIG = (BIG - 1) + 1 := rfl
          rw [hb, loopN_succ] at h2
          obtain ⟨z', hl3, _⟩ := bind_some' h2
          cases hz : setSt e c.S fx (ksOf st.m) (assigned b) true head.ts head.sk t0 with
          | none => rw [hz] at hl3; cases hl3
          | some q => exact ⟨q.1, q.2, rfl⟩
        obtain ⟨e2, S2, hset⟩ := hset
        obtain ⟨vs, fs, bs, S3, r1, r2, r3, r4⟩ := setSt_some hset
        rw [ofL_toL h1] at r1
        obtain ⟨ct, u1, u2, u3, u4, u5, u6, u7⟩ := enterLoop hR g2 g1 hd r1 (map_rel he _) r2
        refine ⟨ct, e2, u1, by rw [hset, r4, u2], u6, ?_, within_of u5 r2 u2 fun q hq hn hm hdm b' y' hb hy => by rw [u1]; exact hy, Keeps.refl _ _⟩
        rw [r3]
        exact puts_rel (clear_rel (he.frame u5) (Keeps.refl _ _)) u7
      · cases h
    · exact ⟨_, loopA_ok (fun hR he h => eval_ok b .all hR he h) _ hR he h⟩
    · exact ⟨_, loopU_ok (fun at'' {β y c e ea k} hR he h => eval_ok b at'' hR he h) at' hR he h⟩
end
end Go.V
