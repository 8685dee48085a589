/- The value machine: its code is the abstract machine's. -/
import Derived.Test.YtppoeoleehiemabV17
namespace Go.V
set_option linter.unusedVariables false
set_option linter.unusedSimpArgs false
open Go.Ab

/-- What a stretch leaves. -/
def PostE {β : Type} (c : Ctx) (k : VEnv → Store → Option β) (y : β) : Env → Hp → Prop := fun ea σ' => ∃ e' c', c'.σ = σ' ∧ Le c c' ∧ Rel c' ∧ EnvRel c' e' ea ∧ k e' c'.S = some y
theorem PostE.of {β : Type} {c c1 : Ctx} {k : VEnv → Store → Option β} {y : β} (h : Le c c1) {ea : Env} {σ' : Hp} (hp : PostE c1 k y ea σ') : PostE c k y ea σ' := by
  obtain ⟨e', c', h1, h2, h3⟩ := hp
  exact ⟨e', c', h1, h.trans h2, h3⟩
def Post {β : Type} (c : Ctx) (k : AExit → VEnv → Store → Option β) (y : β) : AExit → Env → Hp → Prop := fun x => PostE c (k x) y
theorem undef_rel (c : Ctx) (a : Value) : VRel c .undef a := .undef a

section
variable {β : Type} {tab : Tab} {y : β}
theorem evOps_ok : ∀ {ops : List AOper} {c : Ctx} {e : VEnv} {ea : Env} {k : VEnv → Store → Option β}, Rel c → EnvRel c e ea → evOps tab ops e c.S k = some y → Ab.wpOps (tabSpec tab) (PostE c k y) ops ea c.σ
  | [], c, e, ea, k, hR, he, h => ⟨e, c, rfl, Le.refl c, hR, he, h⟩
  | o :: r, c, e, ea, k, hR, he, h => by
    have step : ∀ e1, EnvRel c e1 ea → evOp tab o.op e1 c.S (fun v S' => evOps tab r (putO e1 o.dst v) S' k) = some y → runOp (tabSpec tab) o.op ea c.σ fun v σ' => Ab.wpOps (tabSpec tab) (PostE c k y) r (ea.putO o.dst v) σ' := by
      intro e1 he1 h1
      refine runOp_mono (tabSpec_mono tab) (fun v σ' hv => ?_) (evOp_ok hR he1 h1)
      obtain ⟨vv, c', h2, h3, h4, _, h6, h7⟩ := hv
      subst h2
      exact Ab.wpOps_mono (tabSpec_mono tab) (fun ea' σ'' hp => hp.of h3) _ _ _ (evOps_ok h4 ((he1.frame h3).putO h6) h7)
    have skip : ∀ e1, EnvRel c e1 ea → evOps tab r (putO e1 o.dst (.tup [])) c.S k = some y → Ab.wpOps (tabSpec tab) (PostE c k y) r (ea.putO o.dst undef) c.σ := fun e1 he1 h1 => evOps_ok hR (he1.putO (.tup .nil)) h1
    simp only [evOps] at h
    simp only [Ab.wpOps]
    split at h
    · rename_i hg
      have : wanted o ea = true := by simp only [wanted, hg]
      rw [if_pos this]
      exact step e he h
    · rename_i t w hg
      split at h
      · rename_i p hp
        have ht := he t
        rw [hp] at ht
        have ht := ht.bool_inv
        have hw : wanted o ea = (p == w) := by simp only [wanted, hg, ht]
        have hput : EnvRel c (putV e t (.bool p)) ea := by
          have := he.put (d := t) (VRel.bool (c := c) p)
          intro i
          have h1 := this i
          unfold Env.put at h1
          by_cases hi : i = t
          · rw [if_pos hi] at h1; subst hi; rw [ht]; exact h1
          · rw [if_neg hi] at h1; exact h1
        rw [hw]
        cases p <;> cases w <;> simp only [cond_true, cond_false] at h
        · rw [if_pos (by decide)]; exact step _ hput h
        · rw [if_neg (by decide)]; exact skip _ hput h
        · rw [if_neg (by decide)]; exact skip _ hput h
        · rw [if_pos (by decide)]; exact step _ hput h
      · rename_i hp
        have ht := he t
        rw [hp] at ht
        have hw : wanted o ea = false := by
          simp only [wanted, hg]
          generalize ea t = u at ht
          cases ht
          rfl
        rw [hw, if_neg (by decide)]
        exact skip _ he h
      · cases h

/-! ### Stretches whose order is open -/
def addrB : Value → Option Nat
  | .pointer (some a) => some a.block
  | .slice (some a) _ _ => some a.block
  | _ => none
def opnd : AOp → Operand
  | .load x | .loadN _ x | .sliceArr _ _ x _ _ | .slice _ x _ _ => x
  | _ => .global 0
theorem load_dep {op : AOp} {ea : Env} {σ σ1 σ' : Hp} {v : Value} (hl : op.isLoad = true) (h : op.run ea σ = some (v, σ1)) (hd : ∀ b, addrB (ea.ev (opnd op)) = some b → σ'.m b = σ.m b) : op.run ea σ' = some (v, σ') := by
  cases op <;> try (cases hl; done)
  case load x =>
    simp only [AOp.run, opnd] at h hd ⊢
    split at h
    · rename_i b o hx
      rw [hx] at hd
      rw [hd b rfl]
      split at h
      · rename_i blk hb
        cases hc : blk.cells[o]? with
        | none => rw [hc] at h; cases h
        | some u =>
          rw [hc] at h
          injection h with h
          injection h with h1 h2
          subst h1
          rfl
      · cases h
    · cases h
  case loadN n x =>
    simp only [AOp.run, opnd] at h hd ⊢
    split at h
    · rename_i b o hx
      rw [hx] at hd
      rw [hd b rfl]
      split at h
      · rename_i blk hb
        cases hc : readN blk o n with
        | none => rw [hc] at h; cases h
        | some u =>
          rw [hc] at h
          injection h with h
          injection h with h1 h2
          subst h1
          rfl
      · cases h
    · cases h
  case slice es x lo hi =>
    cases lo with
    | none => cases hl
    | some l =>
      simp only [AOp.run, opnd] at h hd ⊢
      split at h
      · rename_i a ln cap hx
        rw [hx] at hd
        have hm : mayCut σ' es a (some l) = mayCut σ es a (some l) := by
          cases a with
          | none => rfl
          | some a => simp only [mayCut]; rw [hd a.block rfl]
        rw [hm]
        cases hc : (cap == 0 || mayCut σ es a (some l)) with
        | false => rw [hc] at h; simp at h
        | true =>
          rw [hc, if_pos rfl] at h
          rw [if_pos rfl]
          split at h
          · split at h
            · injection h with h
              injection h with h1 h2
              subst h1
              rfl
            · cases h
          · cases h
      · cases h
  case sliceArr es n x lo hi =>
    simp only [AOp.run, opnd] at h hd ⊢
    split at h
    · rename_i b o hx
      rw [hx] at hd
      rw [hd b rfl]
      split at h
      · rename_i blk hb
        split at h
        · rename_i hc
          rw [if_pos hc]
          split at h
          · split at h
            · split at h
              · rename_i hlt
                injection h with h
                injection h with h1 h2
                subst h1
                rw [if_pos hlt]
              · cases h
            · cases h
          · cases h
        · cases h
      · cases h
    · cases h

theorem lstn_dep {op : AOp} {ea : Env} {σ σ1 : Hp} {v : Value} {q : Option Addr} (hl : op.isLoad = true) (hx : ea.ev (opnd op) = .slice q 0 0) (h : op.run ea σ = some (v, σ1)) (σ' : Hp) : op.run ea σ' = some (v, σ') := by
  cases op <;> try (cases hl; done)
  case load x =>
    simp only [opnd] at hx
    simp only [AOp.run, hx] at h
    cases h
  case loadN n x =>
    simp only [opnd] at hx
    simp only [AOp.run, hx] at h
    cases h
  case slice es x lo hi =>
    simp only [opnd] at hx
    simp only [AOp.run, hx, beq_self_eq_true, Bool.true_or, if_true] at h ⊢
    split at h
    · split at h
      · injection h with h
        injection h with h1 h2
        subst h1
        rfl
      · cases h
    · cases h
  case sliceArr es n x lo hi =>
    simp only [opnd] at hx
    simp only [AOp.run, hx] at h
    cases h

/-- What is kept of loads. -/
def Kept (c : Ctx) (p : Hp → Prop) : Option (Option Nat) → Prop
  | none => True
  | some none => p c.σ ∧ ∀ σ', (∀ b y, c.σ.m b = some y → ¬c.mut b → σ'.m b = some y) → p σ'
  | some (some q) => (sget c.S q).dim ≠ none ∧ p c.σ ∧ ∀ σ', (∀ b, c.μ q = some b → σ'.m b = c.σ.m b) → p σ'
inductive ChkRel (c : Ctx) : List (Nat × (Hp → Prop)) → Chk → Prop where
  | nil : ChkRel c [] []
  | cons {i : Nat} {p : Hp → Prop} {s : Option (Option Nat)} {l : List (Nat × (Hp → Prop))} {m : Chk} : Kept c p s → ChkRel c l m → ChkRel c ((i, p) :: l) ((i, s) :: m)
theorem Kept.now {c : Ctx} {p : Hp → Prop} {s : Option Nat} (h : Kept c p (some s)) : p c.σ := by
  cases s with
  | none => exact h.1
  | some q => exact h.2.1
theorem Kept.next {c c' : Ctx} {p : Hp → Prop} {d : List Nat} (hl : Le c c') (hc : Calm d c c') : ∀ {s : Option (Option Nat)}, Kept c p s → Kept c' p (match s with
    | some (some q) => cond (memN q d) none (some (some q))
    | s => s)
  | none, _ => trivial
  | some none, h => by
    refine ⟨h.2 _ fun b y hy hn => (hl.rd b y hy hn).1, fun σ' hσ => h.2 σ' fun b y hy hn => ?_⟩
    obtain ⟨h1, h2⟩ := hl.rd b y hy hn
    exact hσ b y h1 h2
  | some (some q), h => by
    cases hm : memN q d with
    | true =>
      show Kept c' p (cond (memN q d) none (some (some q)))
      rw [hm]
      exact trivial
    | false =>
      show Kept c' p (cond (memN q d) none (some (some q)))
      rw [hm]
      obtain ⟨h1, h2, h3⟩ := h
      have hq : q ∉ d := fun e => by rw [memN_iff.2 e] at hm; cases hm
      obtain ⟨h4, h5⟩ := hc q (sget_lt h1) hq h1
      have hmu : c'.μ q = c.μ q := by
        cases hdd : (sget c'.S q).dim with
        | none => exact (h4 hdd).elim
        | some dd => exact (hl.al q dd (sget_lt h1) hdd).2
      exact ⟨h4, h3 _ h5, fun σ' hσ => h3 σ' fun b hb => by rw [hσ b (by rw [hmu]; exact hb), h5 b hb]⟩
theorem ChkRel.next {c c' : Ctx} {d : List Nat} (hl : Le c c') (hc : Calm d c c') : ∀ {l : List (Nat × (Hp → Prop))} {m : Chk}, ChkRel c l m → ChkRel c' l (updC d m)
  | _, _, .nil => .nil
  | _, _, .cons (s := s) h1 h2 => by
    have h3 := h1.next hl hc
    have h4 := ChkRel.next hl hc h2
    cases s with
    | none => exact .cons h3 h4
    | some s =>
      cases s with
      | none => exact .cons h3 h4
      | some q => exact .cons h3 h4
theorem updC_nil : ∀ m : Chk, updC [] m = m
  | [] => rfl
  | (i, none) :: r => by simp only [updC, updC_nil r]
  | (i, some none) :: r => by simp only [updC, updC_nil r]
  | (i, some (some q)) :: r => by simp only [updC, updC_nil r, memN, cond_false]
theorem recheck_ok {c : Ctx} {is : List Nat} : ∀ {l : List (Nat × (Hp → Prop))} {m : Chk}, ChkRel c l m → recheckV is m = true → recheck is c.σ l
  | _, _, .nil, _ => trivial
  | _, _, .cons (i := i) (s := s) h1 h2, h => by
    simp only [recheckV] at h
    simp only [recheck]
    have hc : is.contains i = memN i is := by
      cases hm : memN i is with
      | true => simpa using memN_iff.1 hm
      | false =>
        cases hh : is.contains i with
        | false => rfl
        | true =>
          have : i ∈ is := by simpa using hh
          rw [memN_iff.2 this] at hm; cases hm
    rw [hc]
    cases hm : memN i is with
    | false =>
      rw [hm, cond_false] at h
      rw [if_neg (by decide)]
      exact recheck_ok h2 h
    | true =>
      rw [hm, cond_true] at h
      rw [if_pos rfl]
      cases s with
      | none => cases h
      | some s => exact ⟨h1.now, recheck_ok h2 h⟩

theorem asks_kept {c : Ctx} {e : VEnv} {ea : Env} {op : AOp} {v : Value} {σ1 : Hp} (hR : Rel c) (he : EnvRel c e ea) (hl : op.isLoad = true) (h : op.run ea c.σ = some (v, σ1)) : Kept c (fun σ' => op.run ea σ' = some (v, σ')) (asks c.S op e) := by
  have hx := ev_rel he (opnd op)
  have hself : op.run ea c.σ = some (v, c.σ) := load_dep hl h fun _ _ => rfl
  have key : Kept c (fun σ' => op.run ea σ' = some (v, σ')) (asksV c.S (ev e (opnd op))) := by
    generalize ev e (opnd op) = xv at *
    have blkcase : ∀ q, blkOf xv = some q → (∀ b, addrB (ea.ev (opnd op)) = some b → (sget c.S q).dim ≠ none → c.μ q = some b) → Kept c (fun σ' => op.run ea σ' = some (v, σ')) (cond (sget c.S q).live (some (some q)) none) := by
      intro q hq hb
      cases hlv : (sget c.S q).live with
      | false => trivial
      | true =>
        obtain ⟨dm, hdm⟩ := live_dim hlv
        exact ⟨by rw [hdm]; simp, hself, fun σ' hσ => load_dep hl h fun b hbb => hσ b (hb b hbb (by rw [hdm]; simp))⟩
    have novalue : (∀ b, addrB (ea.ev (opnd op)) = some b → ∃ y, c.σ.m b = some y ∧ ¬c.mut b) → Kept c (fun σ' => op.run ea σ' = some (v, σ')) (some none) := by
      intro hb
      refine ⟨hself, fun σ' hσ => load_dep hl h fun b hbb => ?_⟩
      obtain ⟨y, h1, h2⟩ := hb b hbb
      rw [hσ b y h1 h2, h1]
    cases xv <;> simp only [asksV, blkOf] <;> try exact trivial
    case ptr q o =>
      refine blkcase q rfl fun b hb hdm => ?_
      cases hx with
      | ptr hk ho hd =>
        cases hdd : (sget c.S q).dim with
        | none => exact (hdm hdd).elim
        | some d =>
          obtain ⟨b', h1, h2⟩ := hd d hdd
          rw [h2] at hb
          injection hb with hb
          subst hb
          exact h1
    case pix q o n i =>
      refine blkcase q rfl fun b hb hdm => ?_
      cases hx with
      | pix hk ho hi hd =>
        cases hdd : (sget c.S q).dim with
        | none => exact (hdm hdd).elim
        | some d =>
          obtain ⟨b', h1, h2⟩ := hd d hdd
          rw [h2] at hb
          injection hb with hb
          subst hb
          exact h1
    case pel q i o =>
      refine blkcase q rfl fun b hb hdm => ?_
      cases hx with
      | pel hk ho hd =>
        cases hdd : (sget c.S q).dim with
        | none => exact (hdm hdd).elim
        | some d =>
          obtain ⟨b', h1, h2⟩ := hd d hdd
          rw [h2] at hb
          injection hb with hb
          subst hb
          exact h1
    case full q =>
      refine blkcase q rfl fun b hb hdm => ?_
      cases hx with
      | full hk ho hd =>
        cases hdd : (sget c.S q).dim with
        | none => exact (hdm hdd).elim
        | some d =>
          obtain ⟨n, _, h2⟩ := hd d hdd
          rcases h2 with ⟨h2, _⟩ | ⟨b', cp, yb, h2, h3, _⟩
          · rw [h2] at hb; cases hb
          · rw [h2] at hb
            injection hb with hb
            subst hb
            exact h3
    case part q lo n =>
      refine blkcase q rfl fun b hb hdm => ?_
      cases hx with
      | part hk ho hd =>
        cases hdd : (sget c.S q).dim with
        | none => exact (hdm hdd).elim
        | some d =>
          rcases hd d hdd with ⟨h2, _⟩ | ⟨b', cp, yb, h2, h3, _⟩
          · rw [h2] at hb; cases hb
          · rw [h2] at hb
            injection hb with hb
            subst hb
            exact h3
    case pin s x o =>
      refine novalue fun b hb => ?_
      generalize ea.ev (opnd op) = xa at *
      cases hx with
      | pin hn hy hl hf =>
        injection hb with hb
        subst hb
        exact ⟨_, hy, hn⟩
    case lst s l =>
      generalize hxa : ea.ev (opnd op) = xa at *
      cases hx with
      | lstn hq =>
        refine ⟨hself, fun σ' hσ => ?_⟩
        have := lstn_dep hl hxa h
        exact this σ'
      | lst hn hy _ _ _ _ _ =>
        refine novalue fun b hb => ?_
        injection hb with hb
        subst hb
        exact ⟨_, hy, hn⟩
    case nils =>
      refine novalue fun b hb => ?_
      generalize ea.ev (opnd op) = xa at *
      cases hx
      cases hb
  cases op <;> first | (cases hl; done) | exact key

theorem runOp_still_eq {T : Ab.Specs} {op : AOp} {e : Env} {σ : Hp} (hs : op.still = true) {k : Value → Hp → Prop} : (match op.run e σ with
    | some (v, σ') => k v σ'
    | none => False) = runOp T op e σ k := by
  cases op <;> first | (cases hs; done) | rfl
theorem evItem_ok {it : SItem} {c : Ctx} {e : VEnv} {ea : Env} {chk : Chk} {ach : List (Nat × (Hp → Prop))} {k : Chk → VEnv → Store → Option β} (hR : Rel c) (he : EnvRel c e ea) (hc : ChkRel c ach chk) (h : evItem tab it chk e c.S k = some y) {Q : List (Nat × (Hp → Prop)) → Env → Hp → Prop}
    (hQ : ∀ c' ach' chk' e' ea', Le c c' → Rel c' → ChkRel c' ach' chk' → EnvRel c' e' ea' → k chk' e' c'.S = some y → Q ach' ea' c'.σ) :
    if it.mover then runOp (tabSpec tab) it.o.op ea c.σ (fun v σ' => recheck it.chks σ' ach ∧ Q ach (ea.putO it.o.dst v) σ')
    else match it.o.op.run ea c.σ with
      | some (v, _) => Q (if it.keep then (it.idx, fun σ' => it.o.op.run ea σ' = some (v, σ')) :: ach else ach) (ea.putO it.o.dst v) c.σ
      | none => False := by
  unfold evItem at h
  cases hm : it.mover with
  | true =>
    rw [hm, cond_true] at h
    rw [if_pos rfl]
    obtain ⟨h1, h2⟩ := gd_some h
    refine runOp_mono (tabSpec_mono tab) (fun v σ' hv => ?_) (evOp_ok hR he h2)
    obtain ⟨vv, c', h3, h4, h5, h6, h7, h8⟩ := hv
    subst h3
    have hn := hc.next h4 h6
    exact ⟨recheck_ok hn h1, hQ c' ach _ _ _ h4 h5 hn ((he.frame h4).putO h7) h8⟩
  | false =>
    rw [hm, cond_false] at h
    rw [if_neg (by decide)]
    obtain ⟨h1, h2⟩ := gd_some h
    rw [Bool.and_eq_true] at h1
    have h3 := evOp_ok hR he h2
    rw [← runOp_still_eq h1.1] at h3
    cases hr : it.o.op.run ea c.σ with
    | none => rw [hr] at h3; exact h3
    | some p =>
      obtain ⟨v, σ1⟩ := p
      rw [hr] at h3
      obtain ⟨vv, c', h4, h5, h6, h7, h8, h9⟩ := h3
      simp only
      have hd : dirty tab it.o.op e c.S = [] := by
        have := h1.1
        cases hop : it.o.op <;> rw [hop] at this <;> first | (cases this; done) | rfl
      have hn := hc.next h5 h7
      rw [hd, updC_nil] at hn
      have hσ1 : σ1 = c.σ := still_same h1.1 hr
      rw [← hσ1, ← h4]
      cases hk : it.keep with
      | false =>
        rw [hk, cond_false] at h9
        rw [if_neg (by decide)]
        exact hQ c' ach chk _ _ h5 h6 hn ((he.frame h5).putO h8) h9
      | true =>
        rw [hk, cond_true] at h9
        rw [if_pos rfl]
        have hld : it.o.op.isLoad = true := by have := h1.2; rw [hk] at this; simpa using this
        have hkp := asks_kept hR he hld hr
        have hn2 := (ChkRel.cons (i := it.idx) hkp hc).next h5 h7
        rw [hd, updC_nil] at hn2
        exact hQ c' _ _ _ _ h5 h6 hn2 ((he.frame h5).putO h8) h9
end
end Go.V
