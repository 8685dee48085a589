/- The abstract machine's word grows with what is asked less of it; by which ways code is left. -/
import Derived.Test.YtbdihjmnbadfhaaGreatDoorAb13
namespace Go.Ab
open Go.RowKit

def MonoT (T : Specs) : Prop := ∀ f args σ (K K' : Value → Hp → Prop), (∀ r σ', K r σ' → K' r σ') → T f args σ K → T f args σ K'

/-! ### The abstract machine's word grows with what is asked less of it -/
theorem runOp_mono {T : Specs} (hT : MonoT T) {op : AOp} {e : Env} {σ : Hp} {k k' : Value → Hp → Prop} (hk : ∀ v σ', k v σ' → k' v σ') (h : runOp T op e σ k) : runOp T op e σ k' := by
  unfold runOp at *
  cases op <;> simp only at h ⊢
  case call f xs => exact hT _ _ _ _ _ hk h
  case callv f xs =>
    split at h
    · exact hT _ _ _ _ _ hk h
    · exact h.elim
  all_goals
    split at h
    · exact hk _ _ h
    · exact h.elim


section
variable {T : Specs}
theorem wpOps_mono (hT : MonoT T) {Q Q' : Env → Hp → Prop} (hq : ∀ e σ, Q e σ → Q' e σ) : ∀ (l : List AOper) (e : Env) (σ : Hp), wpOps T Q l e σ → wpOps T Q' l e σ
  | [], e, σ, h => hq e σ h
  | o :: l, e, σ, h => by
    simp only [wpOps] at h ⊢
    split at h
    · rename_i hw; rw [if_pos hw]; exact runOp_mono hT (fun v σ' hk => wpOps_mono hT hq l _ σ' hk) h
    · rename_i hw; rw [if_neg hw]; exact wpOps_mono hT hq l _ σ h

theorem allL_mono {f g : Nat → Prop} (h : ∀ m, f m → g m) : ∀ {l : List Nat}, allL f l → allL g l
  | [], _ => trivial
  | [_], hf => h _ hf
  | _ :: _ :: _, hf => ⟨h _ hf.1, allL_mono h hf.2⟩

theorem wpD_mono (hT : MonoT T) {Q Q' : Env → Hp → Prop} (hq : ∀ e σ, Q e σ → Q' e σ) {ops : List (AOper × List Nat)} : ∀ (f : Nat) (done : List Nat) (chk : List (Nat × (Hp → Prop))) (e : Env) (σ : Hp), wpD T Q ops f done chk e σ → wpD T Q' ops f done chk e σ
  | 0, done, chk, e, σ, h => hq e σ h
  | f + 1, done, chk, e, σ, h => by
    simp only [wpD] at h ⊢
    split at h
    · split at h
      · split at h
        · rename_i hw
          rw [if_pos hw]
          split at h
          · exact wpD_mono hT hq f _ _ _ _ h
          · exact h.elim
        · rename_i hw
          rw [if_neg hw]
          exact wpD_mono hT hq f _ _ _ _ h
      · exact h.elim
    · split at h
      · exact hq e σ h
      · refine allL_mono (fun m hm => ?_) h
        split at hm
        · split at hm
          · rename_i hw
            rw [if_pos hw]
            exact runOp_mono hT (fun v σ' hk => ⟨hk.1, wpD_mono hT hq f _ _ _ _ hk.2⟩) hm
          · rename_i hw
            rw [if_neg hw]
            exact wpD_mono hT hq f _ _ _ _ hm
        · exact hm.elim

theorem wpI_mono (hT : MonoT T) {Q Q' : Env → Hp → Prop} (hq : ∀ e σ, Q e σ → Q' e σ) : ∀ (l : List SItem) (chk : List (Nat × (Hp → Prop))) (e : Env) (σ : Hp), wpI T Q l chk e σ → wpI T Q' l chk e σ
  | [], _, e, σ, h => hq e σ h
  | it :: l, chk, e, σ, h => by
    simp only [wpI] at h ⊢
    split at h
    · rename_i hw
      rw [if_pos hw]
      split at h
      · rename_i hm
        rw [if_pos hm]
        exact runOp_mono hT (fun v σ' hk => ⟨hk.1, wpI_mono hT hq l _ _ σ' hk.2⟩) h
      · rename_i hm
        rw [if_neg hm]
        split at h
        · exact wpI_mono hT hq l _ _ σ h
        · exact h.elim
    · rename_i hw; rw [if_neg hw]; exact wpI_mono hT hq l _ _ σ h

theorem wpLoop_mono {f : (AExit → Env → Hp → Prop) → Env → Hp → Prop} (hf : ∀ (Q Q' : AExit → Env → Hp → Prop), (∀ x e σ, Q x e σ → Q' x e σ) → ∀ e σ, f Q e σ → f Q' e σ) {Q Q' : AExit → Env → Hp → Prop} (hq : ∀ x e σ, Q x e σ → Q' x e σ) :
    ∀ (n : Nat) (e : Env) (σ : Hp), wpLoop f Q n e σ → wpLoop f Q' n e σ
  | 0, _, _, h => h.elim
  | n + 1, e, σ, h => by
    simp only [wpLoop] at h ⊢
    refine hf _ _ (fun x e' σ' hx => ?_) e σ h
    cases x with
    | normal => exact wpLoop_mono hf hq n e' σ' hx
    | exit id => exact hq _ _ _ hx
    | ret => exact hq _ _ _ hx

theorem wpA_mono (hT : MonoT T) : ∀ (c : AC) (Q Q' : AExit → Env → Hp → Prop), (∀ x e σ, Q x e σ → Q' x e σ) → ∀ (e : Env) (σ : Hp), wpA T c Q e σ → wpA T c Q' e σ := by
  intro c
  induction c with
  | skip => intro Q Q' hq e σ h; exact hq _ _ _ h
  | region ops => intro Q Q' hq e σ h; exact wpOps_mono hT (hq .normal) ops e σ h
  | draw ops => intro Q Q' hq e σ h; exact wpD_mono hT (hq .normal) _ _ _ e σ h
  | sched its => intro Q Q' hq e σ h; exact wpI_mono hT (hq .normal) its [] e σ h
  | seq a b iha ihb =>
    intro Q Q' hq e σ h
    refine iha _ _ (fun x e' σ' hx => ?_) e σ h
    cases x with
    | normal => exact ihb Q Q' hq e' σ' hx
    | exit id => exact hq _ _ _ hx
    | ret => exact hq _ _ _ hx
  | cond c a b iha ihb =>
    intro Q Q' hq e σ h
    simp only [wpA] at h ⊢
    split at h
    · exact iha Q Q' hq e σ h
    · exact ihb Q Q' hq e σ h
    · exact h.elim
  | block id b ih =>
    intro Q Q' hq e σ h
    refine ih _ _ (fun x e' σ' hx => ?_) e σ h
    cases x with
    | normal => exact hq _ _ _ hx
    | exit i =>
      simp only at hx ⊢
      split at hx
      · rename_i hi; rw [if_pos hi]; exact hq _ _ _ hx
      · rename_i hi; rw [if_neg hi]; exact hq _ _ _ hx
    | ret => exact hq _ _ _ hx
  | loop b ih =>
    intro Q Q' hq e σ h
    obtain ⟨n, hn⟩ := h
    exact ⟨n, wpLoop_mono (f := wpA T b) ih hq n e σ hn⟩
  | exit id => intro Q Q' hq e σ h; exact hq _ _ _ h
  | ret => intro Q Q' hq e σ h; exact hq _ _ _ h


/-- By which numbers code may be left. -/
def AC.outs : AC → Nat → Bool
  | .seq a b, i | .cond _ a b, i => a.outs i || b.outs i
  | .block id b, i => b.outs i && !(i == id)
  | .loop b, i => b.outs i
  | .exit j, i => i == j
  | _, _ => false
def Outs (c : AC) (Q : AExit → Env → Hp → Prop) : AExit → Env → Hp → Prop := fun x e σ => (∀ i, x = .exit i → c.outs i = true) ∧ Q x e σ
theorem outs_normal {c : AC} {Q : AExit → Env → Hp → Prop} : Outs c Q .normal = Q .normal := by
  funext e σ
  exact propext ⟨fun h => h.2, fun h => ⟨fun i hi => (by cases hi), h⟩⟩
theorem wpLoop_outs {f : (AExit → Env → Hp → Prop) → Env → Hp → Prop} {b : AC} (hf : ∀ (Q Q' : AExit → Env → Hp → Prop), (∀ x e σ, Q x e σ → Q' x e σ) → ∀ e σ, f Q e σ → f Q' e σ)
    (ho : ∀ Q e σ, f Q e σ → f (Outs b Q) e σ) {Q : AExit → Env → Hp → Prop} : ∀ (n : Nat) (e : Env) (σ : Hp), wpLoop f Q n e σ → wpLoop f (Outs b Q) n e σ
  | 0, _, _, h => h.elim
  | n + 1, e, σ, h => by
    simp only [wpLoop] at h ⊢
    refine hf _ _ (fun x e' σ' hx => ?_) e σ (ho _ e σ h)
    obtain ⟨h1, h2⟩ := hx
    cases x with
    | normal => exact wpLoop_outs hf ho n e' σ' h2
    | exit id => exact ⟨h1, h2⟩
    | ret => exact ⟨h1, h2⟩
theorem wpA_outs (hT : MonoT T) : ∀ (c : AC) (Q : AExit → Env → Hp → Prop) (e : Env) (σ : Hp), wpA T c Q e σ → wpA T c (Outs c Q) e σ := by
  intro c
  induction c with
  | skip => intro Q e σ h; exact ⟨fun i hi => (by cases hi), h⟩
  | region ops => intro Q e σ h; simp only [wpA] at h ⊢; rw [outs_normal]; exact h
  | draw ops => intro Q e σ h; simp only [wpA] at h ⊢; rw [outs_normal]; exact h
  | sched its => intro Q e σ h; simp only [wpA] at h ⊢; rw [outs_normal]; exact h
  | seq a b iha ihb =>
    intro Q e σ h
    simp only [wpA] at h ⊢
    refine wpA_mono hT a _ _ (fun x e' σ' hx => ?_) e σ (iha _ e σ h)
    obtain ⟨h1, h2⟩ := hx
    cases x with
    | normal => exact wpA_mono hT b _ _ (fun x e σ hx => ⟨fun i hi => by rw [AC.outs, hx.1 i hi, Bool.or_true], hx.2⟩) e' σ' (ihb Q e' σ' h2)
    | exit id => exact ⟨fun i hi => by rw [AC.outs, h1 i hi, Bool.true_or], h2⟩
    | ret => exact ⟨fun i hi => (by cases hi), h2⟩
  | cond c a b iha ihb =>
    intro Q e σ h
    simp only [wpA] at h ⊢
    split at h
    · exact wpA_mono hT a _ _ (fun x e σ hx => ⟨fun i hi => by rw [AC.outs, hx.1 i hi, Bool.true_or], hx.2⟩) e σ (iha Q e σ h)
    · exact wpA_mono hT b _ _ (fun x e σ hx => ⟨fun i hi => by rw [AC.outs, hx.1 i hi, Bool.or_true], hx.2⟩) e σ (ihb Q e σ h)
    · exact h.elim
  | block id b ih =>
    intro Q e σ h
    simp only [wpA] at h ⊢
    refine wpA_mono hT b _ _ (fun x e' σ' hx => ?_) e σ (ih _ e σ h)
    obtain ⟨h1, h2⟩ := hx
    cases x with
    | normal => exact ⟨fun i hi => (by cases hi), h2⟩
    | exit i =>
      simp only at h2 ⊢
      split at h2
      · rename_i hi; rw [if_pos hi]; exact ⟨fun i hi => (by cases hi), h2⟩
      · rename_i hi
        rw [if_neg hi]
        refine ⟨fun j hj => ?_, h2⟩
        injection hj with hj
        subst hj
        rw [AC.outs, h1 i rfl]
        simp [hi]
    | ret => exact ⟨fun i hi => (by cases hi), h2⟩
  | loop b ih =>
    intro Q e σ h
    obtain ⟨n, hn⟩ := h
    exact ⟨n, wpLoop_outs (f := wpA T b) (wpA_mono hT b) ih n e σ hn⟩
  | exit id =>
    intro Q e σ h
    refine ⟨fun i hi => ?_, h⟩
    injection hi with hi
    subst hi
    simp [AC.outs]
  | ret => intro Q e σ h; exact ⟨fun i hi => (by cases hi), h⟩
end
end Go.Ab
