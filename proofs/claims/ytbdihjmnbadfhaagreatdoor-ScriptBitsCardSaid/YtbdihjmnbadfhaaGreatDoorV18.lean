/- The value machine: its code is the abstract machine's. -/
import Derived.Test.YtbdihjmnbadfhaaGreatDoorV17
namespace Go.V
set_option linter.unusedVariables false
set_option linter.unusedSimpArgs false
open Go.Ab

/-- What a stretch leaves. -/
def PostE {β : Type} (c : Ctx) (k : VEnv → Store → Option β) (y : β) : Env → Hp → Prop := fun ea σ' => ∃ e' c', c'.σ = σ' ∧ Le c c' ∧ Rel c' ∧ EnvRel c' e' ea ∧ k e' c'.S = some y
theorem PostE.of {β : Type} {c c1 : Ctx} {k : VEnv → Store → Option β} {y : β} (h : Le c c1) {ea : Env} {σ' : Hp} (hp : PostE c1 k y ea σ') : PostE c k y ea σ' := by
  obtain ⟨e', c', h1, h2, h3⟩ := hp
  exact ⟨e', c', h1, h.trans h2, h3⟩
def Post {β : Type} (c : Ctx) (k : AExit → VEnv → Store → Option β) (y : β) : AExit → Env → Hp → Prop := fun x => PostE c (k x) y
theorem undef_rel (c : Ctx) (a : Value) : VRel c .undef a := .undef a

section
variable {β : Type} {tab : Tab} {y : β}
theorem evOps_ok : ∀ {ops : List AOper} {c : Ctx} {e : VEnv} {ea : Env} {k : VEnv → Store → Option β}, Rel c → EnvRel c e ea → evOps tab ops e c.S k = some y → Ab.wpOps (tabSpec tab) (PostE c k y) ops ea c.σ
  | [], c, e, ea, k, hR, he, h => ⟨e, c, rfl, Le.refl c, hR, he, h⟩
  | o :: r, c, e, ea, k, hR, he, h => by
    have step : ∀ e1, EnvRel c e1 ea → evOp tab o.op e1 c.S (fun v S' => evOps tab r (putO e1 o.dst v) S' k) = some y → runOp (tabSpec tab) o.op ea c.σ fun v σ' => Ab.wpOps (tabSpec tab) (PostE c k y) r (ea.putO o.dst v) σ' := by
      intro e1 he1 h1
      refine runOp_mono (tabSpec_mono tab) (fun v σ' hv => ?_) (evOp_ok hR he1 h1)
      obtain ⟨vv, c', h2, h3, h4, _, h6, h7⟩ := hv
      subst h2
      exact Ab.wpOps_mono (tabSpec_mono tab) (fun ea' σ'' hp => hp.of h3) _ _ _ (evOps_ok h4 ((he1.frame h3).putO h6) h7)
    have skip : ∀ e1, EnvRel c e1 ea → evOps tab r (putO e1 o.dst (.tup [])) c.S k = some y → Ab.wpOps (tabSpec tab) (PostE c k y) r (ea.putO o.dst undef) c.σ := fun e1 he1 h1 => evOps_ok hR (he1.putO (.tup .nil)) h1
    simp only [evOps] at h
    simp only [Ab.wpOps]
    split at h
    · rename_i hg
      have : wanted o ea = true := by simp only [wanted, hg]
      rw [if_pos this]
      exact step e he h
    · rename_i t w hg
      split at h
      · rename_i p hp
        have ht := he t
        rw [hp] at ht
        have ht := ht.bool_inv
        have hw : wanted o ea = (p == w) := by simp only [wanted, hg, ht]
        have hput : EnvRel c (putV e t (.bool p)) ea := by
          have := he.put (d := t) (VRel.bool (c := c) p)
          intro i
          have h1 := this i
          unfold Env.put at h1
          by_cases hi : i = t
          · rw [if_pos hi] at h1; subst hi; rw [ht]; exact h1
          · rw [if_neg hi] at h1; exact h1
        rw [hw]
        cases p <;> cases w <;> simp only [cond_true, cond_false] at h
        · rw [if_pos (by decide)]; exact step _ hput h
        · rw [if_neg (by decide)]; exact skip _ hput h
        · rw [if_neg (by decide)]; exact skip _ hput h
        · rw [if_pos (by decide)]; exact step _ hput h
      · rename_i hp
        have ht := he t
        rw [hp] at ht
        have hw : wanted o ea = false := by
          simp only [wanted, hg]
          generalize ea t = u at ht
          cases ht
          rfl
        rw [hw, if_neg (by decide)]
        exact skip _ he h
      · cases h

/-! ### Stretches whose order is open -/
def addrB : Value → Option Nat
  | .pointer (some a) => some a.block
  | .slice (some a) _ _ => some a.block
  | _ => none
def opnd : AOp → Operand
  | .load x | .loadN _ x | .sliceArr _ _ x _ _ | .slice _ x _ _ => x
  | _ => .global 0
theorem load_dep {op : AOp} {ea : Env} {σ σ1 σ' : Hp} {v : Value} (hl : op.isLoad = true) (h : op.run ea σ = some (v, σ1)) (hd : ∀ b, addrB (ea.ev (opnd op)) = some b → σ'.m b = σ.m b) : op.run ea σ' = some (v, σ') := by
  cases op <;> try (cases hl; done)
  case load x =>
    simp only [AOp.run, opnd] at h hd ⊢
    split at h
    · rename_i b o hx
      rw [hx] at hd
      rw [hd b rfl]
      split at h
      · rename_i blk hb
        cases hc : blk.cells[o]? with
        | none => rw [hc] at h; cases h
        | some u =>
          rw [hc] at h
          injection h with h
          injection h with h1 h2
          subst h1
          rfl
      · cases h
    · cases h
  case loadN n x =>
    simp only [AOp.run, opnd] at h hd ⊢
    split at h
    · rename_i b o hx
      rw [hx] at hd
      rw [hd b rfl]
      split at h
      · rename_i blk hb
        cases hc : readN blk o n with
        | none => rw [hc] at h; cases h
        | some u =>
          rw [hc] at h
          injection h with h
          injection h with h1 h2
          subst h1
          rfl
      · cases h
    · cases h
  case slice es x lo hi =>
    cases lo with
    | none => cases hl
    | some l =>
      simp only [AOp.run, opnd] at h hd ⊢
      split at h
      · rename_i a ln cap hx
        rw [hx] at hd
        have hm : mayCut σ' es a (some l) = mayCut σ es a (some l) := by
          cases a with
          | none => rfl
          | some a => simp only [mayCut]; rw [hd a.block rfl]
        rw [hm]
        cases hc : (cap == 0 || mayCut σ es a (some l)) with
        | false => rw [hc] at h; simp at h
        | true =>
          rw [hc, if_pos rfl] at h
          rw [if_pos rfl]
          split at h
          · split at h
            · injection h with h
              injection h with h1 h2
              subst h1
              rfl
            · cases h
          · cases h
      · cases h
  case sliceArr es n x lo hi =>
    simp only [AOp.run, opnd] at h hd ⊢
    split at h
    · rename_i b o hx
      rw [hx] at hd
      rw [hd b rfl]
      split at h
      · rename_i blk hb
        split at h
        · rename_i hc
          rw [if_pos hc]
          split at h
          · split at h
            · split at h
              · rename_i hlt
                injection h with h
                injection h with h1 h2
                subst h1
                rw [if_pos hlt]
              · cases h
            · cases h
          · cases h
        · cases h
      · cases h
    · cases h

theorem lstn_dep {op : AOp} {ea : Env} {σ σ1 : Hp} {v : Value} {q : Option Addr} (hl : op.isLoad = true) (hx : ea.ev (opnd op) = .slice q 0 0) (h : op.run ea σ = some (v, σ1)) (σ' : Hp) : op.run ea σ' = some (v, σ') := by
  cases op <;> try (cases hl; done)
  case load x =>
    simp only [opnd] at hx
    simp only [AOp.run, hx] at h
    cases h
  case loadN n x =>
    simp only [opnd] at hx
    simp only [AOp.run, hx] at h
    cases h
  case slice es x lo hi =>
    simp only [opnd] at hx
    simp only [AOp.run, hx, beq_self_eq_true, Bool.true_or, if_true] at h ⊢
    split at h
    · split at h
      · injection h with h
        injection h with h1 h2
        subst h1
        rfl
      · cases h
    · cases h
  case sliceArr es n x lo hi =>
    simp only [opnd] at hx
    simp only [AOp.run, hx] at h
    cases h

/-- Values stand for what they stood for, where nothing that they point to went. -/
structure LeV (c c' : Ctx) : Prop where
  len : c.S.length ≤ c'.S.length
  al : ∀ k d, k < c.S.length → (sget c'.S k).dim = some d → (sget c.S k).dim = some d ∧ c'.μ k = c.μ k
  ln : ∀ k d b y, k < c.S.length → (sget c'.S k).dim = some d → c.μ k = some b → c.σ.m b = some y → ∃ y', c'.σ.m b = some y' ∧ y'.cells.length = y.cells.length
  rd : ∀ b y, c.σ.m b = some y → ¬c.mut b → c'.σ.m b = some y ∧ ¬c'.mut b
theorem LeV.trans {a b c : Ctx} (h : LeV a b) (k : LeV b c) : LeV a c := by
  refine ⟨Nat.le_trans h.len k.len, fun q d hq hd => ?_, fun q d x y hq hd hm hy => ?_, fun x y hy hn => ?_⟩
  · obtain ⟨h1, h2⟩ := k.al q d (Nat.lt_of_lt_of_le hq h.len) hd
    obtain ⟨h3, h4⟩ := h.al q d hq h1
    exact ⟨h3, h2.trans h4⟩
  · obtain ⟨h1, h2⟩ := k.al q d (Nat.lt_of_lt_of_le hq h.len) hd
    obtain ⟨h3, h4⟩ := h.al q d hq h1
    obtain ⟨y1, h5, h6⟩ := h.ln q d x y hq h1 hm hy
    obtain ⟨y2, h7, h8⟩ := k.ln q d x y1 (Nat.lt_of_lt_of_le hq h.len) hd (h4.trans hm) h5
    exact ⟨y2, h7, h8.trans h6⟩
  · obtain ⟨h1, h2⟩ := h.rd x y hy hn
    exact k.rd x y h1 h2
theorem Le.toV {c c' : Ctx} (h : Le c c') : LeV c c' := ⟨h.len, h.al, h.ln, h.rd⟩
theorem LeV.refl (c : Ctx) : LeV c c := (Le.refl c).toV
theorem SlR.frameV {c c' : Ctx} (h : LeV c c') {k lo n : Nat} {d : Nat × Nat} {a : Value} (hk : k < c.S.length) (hd : (sget c'.S k).dim = some d) (hs : SlR c k lo n d a) : SlR c' k lo n d a := by
  obtain ⟨h1, h2⟩ := h.al k d hk hd
  rcases hs with ⟨rfl, rfl, rfl, hm, hz⟩ | ⟨b, cp, y, rfl, hm, h3, h4, hy, h5⟩
  · exact .inl ⟨rfl, rfl, rfl, h2.trans hm, hz⟩
  · obtain ⟨y', hy', hl⟩ := h.ln k d b y hk hd hm hy
    exact .inr ⟨b, cp, y', rfl, h2.trans hm, h3, h4, hy', by rw [hl]; exact h5⟩
theorem VRel.frameV {c c' : Ctx} (h : LeV c c') : ∀ {v : VV} {a : Value}, VRel c v a → VRel c' v a
  | _, _, .undef a => .undef a
  | _, _, .bool b => .bool b
  | _, _, .int k n => .int k n
  | _, _, .str hs => .str hs
  | _, _, .nilp => .nilp
  | _, _, .nils => .nils
  | _, _, .nilf => .nilf
  | _, _, .ptr hk h1 hd => .ptr (Nat.lt_of_lt_of_le hk h.len) h1 fun d hd' => by
    obtain ⟨h1, h2⟩ := h.al _ d hk hd'
    obtain ⟨b, h3, h4⟩ := hd d h1
    exact ⟨b, h2.trans h3, h4⟩
  | _, _, .it hk h1 hs hd => .it (Nat.lt_of_lt_of_le hk h.len) h1 hs fun d hd' => by
    obtain ⟨h1, h2⟩ := h.al _ d hk hd'
    obtain ⟨b, h3, h4⟩ := hd d h1
    exact ⟨b, h2.trans h3, h4⟩
  | _, _, .bld hk h1 hd => .bld (Nat.lt_of_lt_of_le hk h.len) h1 fun d hd' => by
    obtain ⟨h1, h2⟩ := h.al _ d hk hd'
    obtain ⟨b, h3, h4⟩ := hd d h1
    exact ⟨b, h2.trans h3, h4⟩
  | _, _, .pix hk h1 hi hd => .pix (Nat.lt_of_lt_of_le hk h.len) h1 hi fun d hd' => by
    obtain ⟨h1, h2⟩ := h.al _ d hk hd'
    obtain ⟨b, h3, h4⟩ := hd d h1
    exact ⟨b, h2.trans h3, h4⟩
  | _, _, .pel hk h1 hd => .pel (Nat.lt_of_lt_of_le hk h.len) h1 fun d hd' => by
    obtain ⟨h1, h2⟩ := h.al _ d hk hd'
    obtain ⟨b, h3, h4⟩ := hd d h1
    exact ⟨b, h2.trans h3, h4⟩
  | _, _, .pin hn hy hl hf => .pin (h.rd _ _ hy hn).2 (h.rd _ _ hy hn).1 hl (go hf)
  | _, _, .lstn hq => .lstn hq
  | _, _, .tgtn hq => .tgtn hq
  | _, _, .tgt hn hy he h3 hf => .tgt (h.rd _ _ hy hn).2 (h.rd _ _ hy hn).1 he h3 (go hf)
  | _, _, .lst hn hy he h1 h2 h3 hf => .lst (h.rd _ _ hy hn).2 (h.rd _ _ hy hn).1 he h1 h2 h3 (go hf)
  | _, _, .full hk h1 hd => .full (Nat.lt_of_lt_of_le hk h.len) h1 fun d hd' => by
    obtain ⟨h1, h2⟩ := h.al _ d hk hd'
    obtain ⟨n, h3, h4⟩ := hd d h1
    exact ⟨n, h3, h4.frameV h hk hd'⟩
  | _, _, .part hk h1 hd => .part (Nat.lt_of_lt_of_le hk h.len) h1 fun d hd' => by
    obtain ⟨h1, h2⟩ := h.al _ d hk hd'
    exact (hd d h1).frameV h hk hd'
  | _, _, .fn h1 h2 => .fn (go h1) (go h2)
  | _, _, .agg h1 => .agg (go h1)
  | _, _, .tup h1 => .tup (go h1)
where
  go : ∀ {l : List VV} {m : List Value}, F2 (VRel c) l m → F2 (VRel c') l m
    | _, _, .nil => .nil
    | _, _, .cons h1 h2 => .cons (VRel.frameV h h1) (go h2)
theorem VRel.framesV {c c' : Ctx} (h : LeV c c') {l : List VV} {m : List Value} (hf : F2 (VRel c) l m) : F2 (VRel c') l m := hf.imp fun _ _ hv => hv.frameV h
theorem EnvRel.frameV {c c' : Ctx} {e : VEnv} {ea : Env} (h : EnvRel c e ea) (hl : LeV c c') : EnvRel c' e ea := fun t => (h t).frameV hl

def Again (c : Ctx) (p : Hp → Prop) (f : Store → Bool) : Prop := ∀ c', LeV c c' → Rel c' → f c'.S = true → p c'.σ
theorem Again.next {c c' : Ctx} {p : Hp → Prop} {f : Store → Bool} (h : Again c p f) (hl : LeV c c') : Again c' p f := fun c2 h2 => h c2 (hl.trans h2)
/-- What is kept of loads. -/
def Kept (c : Ctx) (p : Hp → Prop) : Option (Option Nat) → Prop
  | none => True
  | some none => p c.σ ∧ ∀ σ', (∀ b y, c.σ.m b = some y → ¬c.mut b → σ'.m b = some y) → p σ'
  | some (some q) => (sget c.S q).dim ≠ none ∧ p c.σ ∧ ∀ σ', (∀ b, c.μ q = some b → σ'.m b = c.σ.m b) → p σ'
inductive ChkRel (c : Ctx) : List (Nat × (Hp → Prop)) → Chk → Prop where
  | nil : ChkRel c [] []
  | cons {i : Nat} {p : Hp → Prop} {s : Option (Option Nat)} {f : Store → Bool} {l : List (Nat × (Hp → Prop))} {m : Chk} : Kept c p s → Again c p f → ChkRel c l m → ChkRel c ((i, p) :: l) ((i, s, f) :: m)
theorem Kept.now {c : Ctx} {p : Hp → Prop} {s : Option Nat} (h : Kept c p (some s)) : p c.σ := by
  cases s with
  | none => exact h.1
  | some q => exact h.2.1
theorem Kept.next {c c' : Ctx} {p : Hp → Prop} {d : List Nat} (hl : Le c c') (hc : Calm d c c') : ∀ {s : Option (Option Nat)}, Kept c p s → Kept c' p (match s with
    | some (some q) => cond (memN q d) none (some (some q))
    | s => s)
  | none, _ => trivial
  | some none, h => by
    refine ⟨h.2 _ fun b y hy hn => (hl.rd b y hy hn).1, fun σ' hσ => h.2 σ' fun b y hy hn => ?_⟩
    obtain ⟨h1, h2⟩ := hl.rd b y hy hn
    exact hσ b y h1 h2
  | some (some q), h => by
    cases hm : memN q d with
    | true =>
      show Kept c' p (cond (memN q d) none (some (some q)))
      rw [hm]
      exact trivial
    | false =>
      show Kept c' p (cond (memN q d) none (some (some q)))
      rw [hm]
      obtain ⟨h1, h2, h3⟩ := h
      have hq : q ∉ d := fun e => by rw [memN_iff.2 e] at hm; cases hm
      obtain ⟨h4, h5⟩ := hc q (sget_lt h1) hq h1
      have hmu : c'.μ q = c.μ q := by
        cases hdd : (sget c'.S q).dim with
        | none => exact (h4 hdd).elim
        | some dd => exact (hl.al q dd (sget_lt h1) hdd).2
      exact ⟨h4, h3 _ h5, fun σ' hσ => h3 σ' fun b hb => by rw [hσ b (by rw [hmu]; exact hb), h5 b hb]⟩
theorem ChkRel.next {c c' : Ctx} {d : List Nat} (hl : Le c c') (hc : Calm d c c') : ∀ {l : List (Nat × (Hp → Prop))} {m : Chk}, ChkRel c l m → ChkRel c' l (updC d m)
  | _, _, .nil => .nil
  | _, _, .cons (s := s) h1 hj h2 => by
    have h3 := h1.next hl hc
    have h4 := ChkRel.next hl hc h2
    have hj := hj.next hl.toV
    cases s with
    | none => exact .cons h3 hj h4
    | some s =>
      cases s with
      | none => exact .cons h3 hj h4
      | some q => exact .cons h3 hj h4
theorem updC_nil : ∀ m : Chk, updC [] m = m
  | [] => rfl
  | (i, none, _) :: r => by simp only [updC, updC_nil r]
  | (i, some none, _) :: r => by simp only [updC, updC_nil r]
  | (i, some (some q), _) :: r => by simp only [updC, updC_nil r, memN, cond_false]
theorem recheck_ok {c : Ctx} {is : List Nat} (hR : Rel c) : ∀ {l : List (Nat × (Hp → Prop))} {m : Chk}, ChkRel c l m → recheckS c.S is m = true → recheck is c.σ l
  | _, _, .nil, _ => trivial
  | _, _, .cons (i := i) (s := s) (f := f) h1 hj h2, h => by
    simp only [recheckS] at h
    simp only [recheck]
    have hc : is.contains i = memN i is := by
      cases hm : memN i is with
      | true => simpa using memN_iff.1 hm
      | false =>
        cases hh : is.contains i with
        | false => rfl
        | true =>
          have : i ∈ is := by simpa using hh
          rw [memN_iff.2 this] at hm; cases hm
    rw [hc]
    cases hm : memN i is with
    | false =>
      rw [hm, cond_false] at h
      rw [if_neg (by decide)]
      exact recheck_ok hR h2 h
    | true =>
      rw [hm, cond_true] at h
      rw [if_pos rfl]
      cases s with
      | none =>
        simp only at h
        cases hf : f c.S with
        | false => rw [hf] at h; cases h
        | true =>
          rw [hf, cond_true] at h
          exact ⟨hj c (LeV.refl c) hR hf, recheck_ok hR h2 h⟩
      | some s => exact ⟨h1.now, recheck_ok hR h2 h⟩
theorem runOp_still_eq {T : Ab.Specs} {op : AOp} {e : Env} {σ : Hp} (hs : op.still = true) {k : Value → Hp → Prop} : (match op.run e σ with
    | some (v, σ') => k v σ'
    | none => False) = runOp T op e σ k := by
  cases op <;> first | (cases hs; done) | rfl
theorem bytesI_inj {s t : ByteArray} (h : bytesI s = bytesI t) : s = t := by
  unfold bytesI at h
  have h1 := List.map_inj_right (fun a b (h : ((a.toNat : Nat) : Int) = (b.toNat : Int)) => UInt8.toNat_inj.1 (Int.ofNat.inj h)) |>.1 h
  obtain ⟨⟨s⟩⟩ := s
  obtain ⟨⟨t⟩⟩ := t
  simp only at h1
  rw [h1]
/-- A value that stands for itself. -/
theorem eqSc_ok {c c' : Ctx} {x y : VV} {a b : Value} (hx : VRel c x a) (hy : VRel c' y b) (h : eqSc x y = true) : a = b := by
  cases hx <;> cases hy <;> simp only [eqSc, Bool.and_eq_true, decide_eq_true_eq, Bool.false_eq_true] at h
  case bool.bool => rw [h]
  case int.int => rw [h.1, h.2]
  case str.str h1 _ _ h2 => rw [bytesI_inj (h1.trans (h.trans h2.symm))]
  all_goals rfl
theorem reLoad_ok {tab : Tab} {c c0 : Ctx} {e : VEnv} {ea : Env} {op : AOp} {vv : VV} {v : Value} (he : EnvRel c e ea) (hs : op.still = true) (hv : VRel c0 vv v) : Again c (fun σ' => op.run ea σ' = some (v, σ')) (reLoad tab op e vv) := by
  intro c' hl hR h
  unfold reLoad at h
  split at h
  · rename_i b hb
    subst h
    have h1 := evOp_ok hR (he.frameV hl) hb
    rw [← runOp_still_eq hs] at h1
    show op.run ea c'.σ = some (v, c'.σ)
    cases hr : op.run ea c'.σ with
    | none => rw [hr] at h1; exact h1.elim
    | some q =>
      obtain ⟨v1, σ1⟩ := q
      rw [hr] at h1
      obtain ⟨vv1, c2, g1, g2, g3, g4, g5, g6⟩ := h1
      injection g6 with g6
      rw [still_same hs hr, eqSc_ok hv g5 g6]
  · cases h

theorem asks_kept {c : Ctx} {e : VEnv} {ea : Env} {op : AOp} {v : Value} {σ1 : Hp} (hR : Rel c) (he : EnvRel c e ea) (hl : op.isLoad = true) (h : op.run ea c.σ = some (v, σ1)) : Kept c (fun σ' => op.run ea σ' = some (v, σ')) (asks c.S op e) := by
  have hx := ev_rel he (opnd op)
  have hself : op.run ea c.σ = some (v, c.σ) := load_dep hl h fun _ _ => rfl
  have key : Kept c (fun σ' => op.run ea σ' = some (v, σ')) (asksV c.S (ev e (opnd op))) := by
    generalize ev e (opnd op) = xv at *
    have blkcase : ∀ q, blkOf xv = some q → (∀ b, addrB (ea.ev (opnd op)) = some b → (sget c.S q).dim ≠ none → c.μ q = some b) → Kept c (fun σ' => op.run ea σ' = some (v, σ')) (cond (sget c.S q).live (some (some q)) none) := by
      intro q hq hb
      cases hlv : (sget c.S q).live with
      | false => trivial
      | true =>
        obtain ⟨dm, hdm⟩ := live_dim hlv
        exact ⟨by rw [hdm]; simp, hself, fun σ' hσ => load_dep hl h fun b hbb => hσ b (hb b hbb (by rw [hdm]; simp))⟩
    have novalue : (∀ b, addrB (ea.ev (opnd op)) = some b → ∃ y, c.σ.m b = some y ∧ ¬c.mut b) → Kept c (fun σ' => op.run ea σ' = some (v, σ')) (some none) := by
      intro hb
      refine ⟨hself, fun σ' hσ => load_dep hl h fun b hbb => ?_⟩
      obtain ⟨y, h1, h2⟩ := hb b hbb
      rw [hσ b y h1 h2, h1]
    cases xv <;> simp only [asksV, blkOf] <;> try exact trivial
    case ptr q o =>
      refine blkcase q rfl fun b hb hdm => ?_
      cases hx with
      | ptr hk ho hd =>
        cases hdd : (sget c.S q).dim with
        | none => exact (hdm hdd).elim
        | some d =>
          obtain ⟨b', h1, h2⟩ := hd d hdd
          rw [h2] at hb
          injection hb with hb
          subst hb
          exact h1
    case it q l =>
      refine blkcase q rfl fun b hb hdm => ?_
      obtain ⟨s, _, hd⟩ := hx.it_inv
      cases hdd : (sget c.S q).dim with
      | none => exact (hdm hdd).elim
      | some d =>
        obtain ⟨b', h1, h2⟩ := hd d hdd
        rw [h2] at hb
        cases hb
    case bld q =>
      refine blkcase q rfl fun b hb hdm => ?_
      cases hx with
      | bld _ _ hd =>
      cases hdd : (sget c.S q).dim with
      | none => exact (hdm hdd).elim
      | some d =>
        obtain ⟨b', h1, h2⟩ := hd d hdd
        rw [h2] at hb
        cases hb
    case pix q o n i =>
      refine blkcase q rfl fun b hb hdm => ?_
      cases hx with
      | pix hk ho hi hd =>
        cases hdd : (sget c.S q).dim with
        | none => exact (hdm hdd).elim
        | some d =>
          obtain ⟨b', h1, h2⟩ := hd d hdd
          rw [h2] at hb
          injection hb with hb
          subst hb
          exact h1
    case pel q i o =>
      refine blkcase q rfl fun b hb hdm => ?_
      cases hx with
      | pel hk ho hd =>
        cases hdd : (sget c.S q).dim with
        | none => exact (hdm hdd).elim
        | some d =>
          obtain ⟨b', h1, h2⟩ := hd d hdd
          rw [h2] at hb
          injection hb with hb
          subst hb
          exact h1
    case full q =>
      refine blkcase q rfl fun b hb hdm => ?_
      cases hx with
      | full hk ho hd =>
        cases hdd : (sget c.S q).dim with
        | none => exact (hdm hdd).elim
        | some d =>
          obtain ⟨n, _, h2⟩ := hd d hdd
          rcases h2 with ⟨h2, _⟩ | ⟨b', cp, yb, h2, h3, _⟩
          · rw [h2] at hb; cases hb
          · rw [h2] at hb
            injection hb with hb
            subst hb
            exact h3
    case part q lo n =>
      refine blkcase q rfl fun b hb hdm => ?_
      cases hx with
      | part hk ho hd =>
        cases hdd : (sget c.S q).dim with
        | none => exact (hdm hdd).elim
        | some d =>
          rcases hd d hdd with ⟨h2, _⟩ | ⟨b', cp, yb, h2, h3, _⟩
          · rw [h2] at hb; cases hb
          · rw [h2] at hb
            injection hb with hb
            subst hb
            exact h3
    case pin s x o =>
      refine novalue fun b hb => ?_
      generalize ea.ev (opnd op) = xa at *
      cases hx with
      | pin hn hy hl hf =>
        injection hb with hb
        subst hb
        exact ⟨_, hy, hn⟩
    case lst s l =>
      generalize hxa : ea.ev (opnd op) = xa at *
      cases hx with
      | lstn hq =>
        refine ⟨hself, fun σ' hσ => ?_⟩
        have := lstn_dep hl hxa h
        exact this σ'
      | lst hn hy _ _ _ _ _ =>
        refine novalue fun b hb => ?_
        injection hb with hb
        subst hb
        exact ⟨_, hy, hn⟩
    case nils =>
      refine novalue fun b hb => ?_
      generalize ea.ev (opnd op) = xa at *
      cases hx
      cases hb
  cases op <;> first | (cases hl; done) | exact key

theorem evItem_ok {it : SItem} {c : Ctx} {e : VEnv} {ea : Env} {chk : Chk} {ach : List (Nat × (Hp → Prop))} {k : Chk → VEnv → Store → Option β} (hR : Rel c) (he : EnvRel c e ea) (hc : ChkRel c ach chk) (h : evItem tab it chk e c.S k = some y) {Q : List (Nat × (Hp → Prop)) → Env → Hp → Prop}
    (hQ : ∀ c' ach' chk' e' ea', Le c c' → Rel c' → ChkRel c' ach' chk' → EnvRel c' e' ea' → k chk' e' c'.S = some y → Q ach' ea' c'.σ) :
    if it.mover then runOp (tabSpec tab) it.o.op ea c.σ (fun v σ' => recheck it.chks σ' ach ∧ Q ach (ea.putO it.o.dst v) σ')
    else match it.o.op.run ea c.σ with
      | some (v, _) => Q (if it.keep then (it.idx, fun σ' => it.o.op.run ea σ' = some (v, σ')) :: ach else ach) (ea.putO it.o.dst v) c.σ
      | none => False := by
  unfold evItem at h
  cases hm : it.mover with
  | true =>
    rw [hm, cond_true] at h
    rw [if_pos rfl]
    refine runOp_mono (tabSpec_mono tab) (fun v σ' hv => ?_) (evOp_ok hR he h)
    obtain ⟨vv, c', h3, h4, h5, h6, h7, h8⟩ := hv
    subst h3
    obtain ⟨h1, h8⟩ := gd_some h8
    have hn := hc.next h4 h6
    exact ⟨recheck_ok h5 hn h1, hQ c' ach _ _ _ h4 h5 hn ((he.frame h4).putO h7) h8⟩
  | false =>
    rw [hm, cond_false] at h
    rw [if_neg (by decide)]
    obtain ⟨h1, h2⟩ := gd_some h
    rw [Bool.and_eq_true] at h1
    have h3 := evOp_ok hR he h2
    rw [← runOp_still_eq h1.1] at h3
    cases hr : it.o.op.run ea c.σ with
    | none => rw [hr] at h3; exact h3
    | some p =>
      obtain ⟨v, σ1⟩ := p
      rw [hr] at h3
      obtain ⟨vv, c', h4, h5, h6, h7, h8, h9⟩ := h3
      simp only
      have hd : dirty tab it.o.op e c.S = [] := by
        have := h1.1
        cases hop : it.o.op <;> rw [hop] at this <;> first | (cases this; done) | rfl
      have hn := hc.next h5 h7
      rw [hd, updC_nil] at hn
      have hσ1 : σ1 = c.σ := still_same h1.1 hr
      rw [← hσ1, ← h4]
      cases hk : it.keep with
      | false =>
        simp only [hk, cond_false] at h9
        rw [if_neg (by decide)]
        exact hQ c' ach chk _ _ h5 h6 hn ((he.frame h5).putO h8) h9
      | true =>
        simp only [hk, cond_true] at h9
        rw [if_pos rfl]
        have hld : it.o.op.isLoad = true := by have := h1.2; rw [hk] at this; simpa using this
        have hkp := asks_kept hR he hld hr
        have hn2 := (ChkRel.cons (i := it.idx) (f := reLoad tab it.o.op e vv) hkp (reLoad_ok he h1.1 h8) hc).next h5 h7
        rw [hd, updC_nil] at hn2
        exact hQ c' _ _ _ _ h5 h6 hn2 ((he.frame h5).putO h8) h9
end

/-! ### Stretches whose order is open -/
/-- An operation that makes a block, whatever the memory. -/
def FreshAb (op : AOp) (ea : Env) (x : Ab.Blk) (vf : Nat → Value) : Prop := ∀ σ : Hp, op.run ea σ = some (vf σ.n, σ.add x)
theorem FreshAb.unique {op : AOp} {ea : Env} {x x' : Ab.Blk} {vf vf' : Nat → Value} (h : FreshAb op ea x vf) (h' : FreshAb op ea x' vf') : x = x' ∧ vf = vf' := by
  have key : ∀ n, vf n = vf' n ∧ x = x' := by
    intro n
    have h1 := h ⟨fun _ => none, n⟩
    rw [h' ⟨fun _ => none, n⟩] at h1
    injection h1 with h1
    injection h1 with h1 h2
    refine ⟨h1.symm, ?_⟩
    have h3 := congrArg (fun s : Hp => s.m n) h2
    simp only [Hp.add, if_true] at h3
    injection h3 with h3
    exact h3.symm
  exact ⟨(key 0).2, funext fun n => (key n).1⟩
theorem ev_same {ea ea' : Env} {x : Operand} (h : ∀ t ∈ opdT x, ea' t = ea t) : ea'.ev x = ea.ev x := by
  cases x with
  | tmp t => exact h t (by simp [opdT])
  | _ => rfl
theorem FreshAb.same {op : AOp} {ea ea' : Env} {x : Ab.Blk} {vf : Nat → Value} (h : FreshAb op ea x vf) (hf : freshB op = true) (he : ∀ t ∈ usesF op, ea' t = ea t) : FreshAb op ea' x vf := by
  intro σ
  have h1 := h σ
  cases op <;> first | (cases hf; done) | skip
  case alloc es z => exact h1
  case makeSlice es bytes z l m =>
    have e1 : ea'.ev l = ea.ev l := ev_same fun t ht => he t (by simp [usesF, ht])
    have e2 : ea'.ev m = ea.ev m := ev_same fun t ht => he t (by simp [usesF, ht])
    simp only [AOp.run] at h1 ⊢
    rw [e1, e2]
    exact h1
  case buildSlice es ln z ps =>
    have e1 : (ps.map fun (o, s, x) => (o, s, ea'.ev x)) = ps.map fun (o, s, x) => (o, s, ea.ev x) := by
      apply List.map_congr_left
      rintro ⟨o, s, x⟩ hx
      simp only
      rw [ev_same fun t ht => he t (List.mem_flatMap.2 ⟨_, hx, ht⟩)]
    simp only [AOp.run] at h1 ⊢
    rw [e1]
    exact h1
theorem scalar_rel {c c' : Ctx} : ∀ {l : List VV} {m : List Value}, l.all scalarV = true → F2 (VRel c) l m → F2 (VRel c') l m
  | _, _, _, .nil => .nil
  | v :: l, _, h, .cons h1 h2 => by
    rw [List.all_cons, Bool.and_eq_true] at h
    refine .cons ?_ (scalar_rel h.2 h2)
    cases h1 <;> first | (cases h.1; done) | skip
    · exact .bool _
    · exact .int _ _
    · exact .str (by assumption)
/-- What the value machine says of it. -/
structure FreshFact (op : AOp) (ea : Env) (blk : Blk) (w : Bool) (x : Ab.Blk) (vf : Nat → Value) : Prop where
  run : FreshAb op ea x vf
  fz : blk.frozen = false
  dm : ∃ dm cs rest, blk.dim = some dm ∧ 1 ≤ dm.1 ∧ x.es = dm.1 ∧ x.own = true ∧ x.cells = cs ++ rest ∧ ∀ c' : Ctx, F2 (VRel c') blk.vals cs
  vv : ∀ (c' : Ctx) (k b : Nat), k < c'.S.length → sget c'.S k = blk → c'.μ k = some b → c'.σ.m b = some x → VRel c' (vvF w k) (vf b)
theorem fresh_fact {β : Type} {c : Ctx} {e : VEnv} {ea : Env} {op : AOp} {k : Blk → Bool → Option β} {y : β} (he : EnvRel c e ea) (h : freshK op e k = some y) : freshB op = true ∧ ∃ blk w x vf, k blk w = some y ∧ FreshFact op ea blk w x vf := by
  cases op <;> simp only [freshK] at h <;> first | (cases h; done) | skip
  case alloc es z =>
    obtain ⟨h1, h2⟩ := gd_some h
    have h1 := Nat.le_of_ble_eq_true h1
    refine ⟨rfl, _, _, ⟨z, true, es⟩, fun n => .pointer (some ⟨n, 0, none⟩), h2, ⟨fun σ => rfl, (allocB_facts es z).2.1, ⟨(es, z.length), z, [], (allocB_facts es z).1, h1, rfl, rfl, by simp, fun c' => (allocB_facts es z).2.2 c'⟩, fun c' k b hk hs hm hy => ?_⟩⟩
    refine .ptr hk rfl fun d hd => ⟨b, hm, rfl⟩
  case makeSlice es bytes z l m =>
    have hl := ev_rel he l
    have hm := ev_rel he m
    split at h
    · rename_i k1 a k2 b s h1 h2 hs
      rw [h1] at hl
      rw [h2] at hm
      obtain ⟨hg, hk⟩ := gd_some h
      simp only [Bool.and_eq_true] at hg
      obtain ⟨⟨⟨⟨g1, g2⟩, g3⟩, g4⟩, g5⟩ := hg
      have g1 := Nat.eq_of_beq_eq_true g1
      have g2 := of_decide_eq_true g2
      have g3 := of_decide_eq_true g3
      have g4 := of_decide_eq_true g4
      have g5 := Nat.le_of_ble_eq_true g5
      have hz : ∀ c' : Ctx, F2 (VRel c') (toCells s (zeroEl s)) z := fun c' => shOfC_rel (c := c') hs
      have hzl : z.length = s.w := by rw [← (hz c).length, toCells_len]
      have hb : b ≤ bytes * b := by
        have : (1 : Int) * b ≤ bytes * b := Int.mul_le_mul_of_nonneg_right (by omega) (by omega)
        omega
      refine ⟨rfl, _, _, ⟨times z b.toNat, true, es⟩, fun n => .slice (some ⟨n, 0, none⟩) a.toNat b.toNat, hk, ⟨fun σ => ?_, rfl, ⟨(s.w, (List.replicate a.toNat (zeroEl s)).length * s.w), times z a.toNat, times z (b.toNat - a.toNat), rfl, w_pos s, g1, rfl, ?_, fun c' => ?_⟩, fun c' k q hk hs' hm' hy => ?_⟩⟩
      · simp only [AOp.run, hl.int_inv, hm.int_inv]
        rw [if_pos ⟨g2, g3, by omega, by omega⟩]
      · show times z b.toNat = _
        rw [← times_app]
        congr 1
        omega
      · show F2 (VRel c') (flatL s (List.replicate a.toNat (zeroEl s))) (times z a.toNat)
        rw [flatL_replicate]
        generalize a.toNat = n
        induction n with
        | zero => exact .nil
        | succ n ih =>
          simp only [times, List.replicate_succ, List.flatten_cons] at ih ⊢
          exact (hz c').append ih
      · refine .full hk rfl fun d hd => ?_
        rw [hs'] at hd
        injection hd with hd
        subst hd
        refine ⟨a.toNat, by simp, .inr ⟨q, b.toNat, _, by simp, hm', by simp, by omega, hy, ?_⟩⟩
        rw [Nat.zero_add]
        show b.toNat * s.w ≤ (times z b.toNat).length
        rw [times_len, hzl]
        exact Nat.le_refl _
    · cases h
  case buildSlice es ln z ps =>
    split at h
    · rename_i cs hf
      obtain ⟨h1, h2⟩ := gd_some h
      simp only [Bool.and_eq_true] at h1
      obtain ⟨⟨⟨⟨g1, g2⟩, g3⟩, g4⟩, g5⟩ := h1
      have g2 := Nat.eq_of_beq_eq_true g2
      have g3 := Nat.le_of_ble_eq_true g3
      obtain ⟨ra, h3, h4⟩ := fill_ok he ps hf (times_rel ln z)
      refine ⟨g5, _, _, ⟨ra, true, es⟩, fun n => .slice (some ⟨n, 0, none⟩) ln ln, h2, ⟨fun σ => ?_, rfl, ⟨(es, cs.length), ra, [], rfl, g3, rfl, rfl, by simp, fun c' => scalar_rel g4 h4⟩, fun c' k q hk hs' hm' hy => ?_⟩⟩
      · simp only [AOp.run, h3]
        rw [if_pos (allOne_all h4 g1)]
      · refine .full hk rfl fun d hd => ?_
        rw [hs'] at hd
        injection hd with hd
        subst hd
        refine ⟨ln, g2, .inr ⟨q, ln, _, by simp, hm', by simp [g2], Nat.le_refl _, hy, ?_⟩⟩
        rw [Nat.zero_add]
        show ln * es ≤ ra.length
        rw [← h4.length]
        exact Nat.le_of_eq g2
    · cases h

theorem dropN_mem {i q : Nat} : ∀ {l : List Nat}, l.Nodup → (q ∈ dropN i l ↔ q ∈ l ∧ q ≠ i)
  | [], _ => by simp [dropN]
  | a :: r, h => by
    obtain ⟨h1, h2⟩ := List.nodup_cons.1 h
    simp only [dropN]
    cases hb : Nat.beq a i with
    | true =>
      have := Nat.eq_of_beq_eq_true hb
      subst this
      rw [cond_true]
      constructor
      · intro hq; exact ⟨List.mem_cons_of_mem _ hq, fun e => h1 (e ▸ hq)⟩
      · rintro ⟨hq, hn⟩
        rcases List.mem_cons.1 hq with rfl | hq
        · exact (hn rfl).elim
        · exact hq
    | false =>
      have hne : a ≠ i := fun e => by subst e; rw [Nat.beq_refl] at hb; cases hb
      rw [cond_false, List.mem_cons, List.mem_cons, dropN_mem h2]
      constructor
      · rintro (rfl | ⟨h3, h4⟩)
        · exact ⟨.inl rfl, hne⟩
        · exact ⟨.inr h3, h4⟩
      · rintro ⟨rfl | h3, h4⟩
        · exact .inl rfl
        · exact .inr ⟨h3, h4⟩
theorem dropN_nodup {i : Nat} : ∀ {l : List Nat}, l.Nodup → (dropN i l).Nodup
  | [], h => h
  | a :: r, h => by
    obtain ⟨h1, h2⟩ := List.nodup_cons.1 h
    simp only [dropN]
    cases hb : Nat.beq a i with
    | true => exact h2
    | false =>
      rw [cond_false, List.nodup_cons]
      exact ⟨fun hq => h1 ((dropN_mem h2).1 hq).1, dropN_nodup h2⟩

theorem clear_get : ∀ {ts : List Nat} {e : VEnv} {t : Nat}, getV (clearV e ts) t = .undef ∨ (t ∉ ts ∧ getV (clearV e ts) t = getV e t)
  | [], e, t => .inr ⟨by simp, rfl⟩
  | a :: ts, e, t => by
    simp only [clearV, getV_put]
    by_cases h : t = a
    · rw [if_pos h]; exact .inl rfl
    · rw [if_neg h]
      rcases clear_get (ts := ts) (e := e) (t := t) with h1 | ⟨h1, h2⟩
      · exact .inl h1
      · exact .inr ⟨by simp [h, h1], h2⟩
section
variable {tab : Tab} {ops : List (AOper × List Nat)}
/-- Between two operations: P have made their blocks, which the value machine does not know yet. -/
structure InvL (ops : List (AOper × List Nat)) (c0 c : Ctx) (e : VEnv) (ea : Env) (ach : List (Nat × (Hp → Prop))) (chk : Chk) (P ls nd : List Nat) (r : List LItem) (pd : Nat → Nat) : Prop where
  le : Le c0 ⟨c.μ, c.S, c.σ, c0.fb⟩
  R : Rel c
  E : EnvRel c e ea
  K : ChkRel c ach chk
  ks : ach.map (·.1) = ls
  nd : recheckV nd chk = true
  fb : ∀ b, c.fb b ↔ (c0.fb b ∨ ∃ q ∈ P, pd q = b)
  nod : P.Nodup
  inj : ∀ q q', q ∈ P → q' ∈ P → pd q = pd q' → q = q'
  new : ∀ q ∈ P, c0.σ.n ≤ pd q
  pend : ∀ q ∈ P, freshB (opAt ops q).op = true ∧ ∃ x vf, FreshAb (opAt ops q).op ea x vf ∧ c.σ.m (pd q) = some x ∧ ∀ t, (opAt ops q).dst = some t → ea t = vf (pd q)
  und : ∀ it ∈ r, Nat.beq it.kind 2 = true → ∀ t, (opAt ops it.i).dst = some t → getV e t = .undef
  ds : distF ops r = true

theorem Kept.frameV {c c' : Ctx} {p : Hp → Prop} (hR : Rel c) (hl : LeV c c') (hS : ∀ q, q < c.S.length → sget c'.S q = sget c.S q) (hmu : ∀ q, q < c.S.length → c'.μ q = c.μ q) (hσ : ∀ b y, c.σ.m b = some y → c'.σ.m b = some y) : ∀ {s : Option (Option Nat)}, Kept c p s → Kept c' p s
  | none, _ => trivial
  | some none, h => by
    refine ⟨h.2 _ fun b y hy _ => hσ b y hy, fun σ' hσ' => h.2 σ' fun b y hy hn => ?_⟩
    obtain ⟨h1, h2⟩ := hl.rd b y hy hn
    exact hσ' b y h1 h2
  | some (some q), h => by
    obtain ⟨h1, h2, h3⟩ := h
    have hq := sget_lt h1
    have hb : ∀ b, c.μ q = some b → c'.σ.m b = c.σ.m b := by
      intro b hb
      cases hd : (sget c.S q).dim with
      | none => exact (h1 hd).elim
      | some d =>
        obtain ⟨_, h4⟩ := hR.blk q d hd
        rcases h4 with ⟨_, h4⟩ | ⟨b', y, cs, rest, h4, h5, _⟩
        · rw [hb] at h4; cases h4
        · rw [hb] at h4
          injection h4 with h4
          subst h4
          rw [h5]
          exact hσ _ _ h5
    exact ⟨by rw [hS q hq]; exact h1, h3 _ hb, fun σ' hs => h3 σ' fun b hb' => (hs b (by rw [hmu q hq]; exact hb')).trans (hb b hb')⟩
theorem ChkRel.frameV {c c' : Ctx} (hR : Rel c) (hl : LeV c c') (hS : ∀ q, q < c.S.length → sget c'.S q = sget c.S q) (hmu : ∀ q, q < c.S.length → c'.μ q = c.μ q) (hσ : ∀ b y, c.σ.m b = some y → c'.σ.m b = some y) : ∀ {l : List (Nat × (Hp → Prop))} {m : Chk}, ChkRel c l m → ChkRel c' l m
  | _, _, .nil => .nil
  | _, _, .cons h1 hj h2 => .cons (h1.frameV hR hl hS hmu hσ) (hj.next hl) (h2.frameV hR hl hS hmu hσ)
theorem keeps_of {c : Ctx} {m : Nat} {is : List Nat} : ∀ {l : List (Nat × (Hp → Prop))} {chk : Chk}, ChkRel c l chk → recheckV is chk = true → (∀ i ∈ l.map (·.1), befB ops i m = true ∨ memN i is = true) → keeps ops m c.σ l
  | _, _, .nil, _, _ => trivial
  | _, _, .cons (i := i) (s := s) h1 _ h2, h, hb => by
    simp only [recheckV] at h
    simp only [keeps]
    have hrest : recheckV is _ = true → keeps ops m c.σ _ := fun h3 => keeps_of h2 h3 fun j hj => hb j (by simp only [List.map_cons]; exact List.mem_cons_of_mem _ hj)
    cases hbf : befB ops i m with
    | true =>
      rw [if_pos rfl]
      cases hm : memN i is with
      | false => rw [hm, cond_false] at h; exact hrest h
      | true =>
        rw [hm, cond_true] at h
        cases s with
        | none => cases h
        | some s => exact hrest h
    | false =>
      rw [if_neg (by decide)]
      rcases hb i (by simp) with h3 | h3
      · rw [hbf] at h3; cases h3
      · rw [h3, cond_true] at h
        cases s with
        | none => cases h
        | some s => exact ⟨h1.now, hrest h⟩

/-- A block that is there becomes known. -/
theorem late_gen {β : Type} {c0 c : Ctx} {e : VEnv} {ea : Env} {ach : List (Nat × (Hp → Prop))} {chk : Chk} {P ls nd : List Nat} {it : LItem} {r : List LItem} {pd : Nat → Nat} {K : VEnv → Store → Option β} {y : β} (h0 : Rel c0)
    (hI : InvL ops c0 c e ea ach chk P ls nd (it :: r) pd) (hk : Nat.beq it.kind 2 = true) (hP : it.i ∈ P) (h : freshK (opAt ops it.i).op e (fun blk w => K (putO e (opAt ops it.i).dst (vvF w c.S.length)) (c.S ++ [blk])) = some y) :
    ∃ c' e', c'.σ = c.σ ∧ InvL ops c0 c' e' ea ach chk (dropN it.i P) ls nd r pd ∧ K e' c'.S = some y ∧ c'.μ c.S.length = some (pd it.i) ∧ c.S.length < c'.S.length ∧ ∃ vv, e' = putO e (opAt ops it.i).dst vv := by
  obtain ⟨hfb, blk, w, x', vf', h1, h2⟩ := fresh_fact hI.E h
  obtain ⟨_, x, vf, h3, h4, h5⟩ := hI.pend _ hP
  obtain ⟨ex, ef⟩ := h2.run.unique h3
  subst ex
  subst ef
  obtain ⟨dm, cs, rest, d1, d2, d3, d4, d5, d6⟩ := h2.dm
  have hlen : (c.S ++ [blk]).length = c.S.length + 1 := by simp
  have hds := hI.ds
  simp only [distF, Bool.and_eq_true] at hds
  let b := pd it.i
  let c' : Ctx := ⟨fun q => if q = c.S.length then some b else c.μ q, c.S ++ [blk], c.σ, fun q => c0.fb q ∨ ∃ j ∈ dropN it.i P, pd j = q⟩
  have hfbb : c.fb b := (hI.fb b).2 (.inr ⟨it.i, hP, rfl⟩)
  have hS : ∀ q, q < c.S.length → sget c'.S q = sget c.S q := fun q hq => sget_app hq
  have hmu : ∀ q, q < c.S.length → c'.μ q = c.μ q := fun q hq => if_neg (Nat.ne_of_lt hq)
  have hnewS : sget c'.S c.S.length = blk := sget_new
  have hnewmu : c'.μ c.S.length = some b := if_pos rfl
  have hfb' : ∀ q, c'.fb q → c.fb q := by
    rintro q (hq | ⟨j, hj, rfl⟩)
    · exact (hI.fb q).2 (.inl hq)
    · exact (hI.fb _).2 (.inr ⟨j, ((dropN_mem hI.nod).1 hj).1, rfl⟩)
  have hbnot : ¬c'.fb b := by
    rintro (hq | ⟨j, hj, hjb⟩)
    · have := h0.fbl _ hq
      have := hI.new _ hP
      omega
    · obtain ⟨hj1, hj2⟩ := (dropN_mem hI.nod).1 hj
      exact hj2 (hI.inj _ _ hj1 hP hjb)
  have hown : ∀ q, c'.own q → c.own q ∨ q = b := by
    rintro q ⟨j, hj1, hj2⟩
    by_cases hj : j < c.S.length
    · rw [hS j hj] at hj1
      rw [hmu j hj] at hj2
      exact .inl ⟨j, hj1, hj2⟩
    · by_cases hj3 : j = c.S.length
      · subst hj3
        rw [hnewmu] at hj2
        injection hj2 with hj2
        exact .inr hj2.symm
      · rw [sget_out (by show c'.S.length ≤ j; rw [hlen]; omega)] at hj1
        cases hj1
  have hV : LeV c c' := by
    refine ⟨by rw [hlen]; omega, fun q d hq hd => ?_, fun q d b' y' hq hd hm hy => ⟨y', hy, rfl⟩, fun b' y' hy hn => ⟨hy, fun hm => ?_⟩⟩
    · rw [hS q hq] at hd
      exact ⟨hd, hmu q hq⟩
    · rcases hm with hm | hm
      · rcases hown b' hm with hm | hm
        · exact hn (.inl hm)
        · subst hm; exact hn (.inr hfbb)
      · exact hn (.inr (hfb' _ hm))
  have hR' : Rel c' := by
    refine ⟨hI.R.ok, fun q q' b' hq hq' hm hm' => ?_, fun q d hd => ?_, fun q b' hd hm => ?_, fun b' hb' => hI.R.fbl _ (hfb' _ hb')⟩
    · have cases3 : ∀ j, (sget c'.S j).dim ≠ none → j < c.S.length ∨ j = c.S.length := by
        intro j hj
        have := sget_lt hj
        rw [hlen] at this
        omega
      rcases cases3 q (dim_fz hq) with h6 | h6
      · rcases cases3 q' hq' with h7 | h7
        · rw [hS q h6] at hq
          rw [hS q' h7] at hq'
          rw [hmu q h6] at hm
          rw [hmu q' h7] at hm'
          exact hI.R.inj q q' b' hq hq' hm hm'
        · subst h7
          rw [hnewmu] at hm'
          injection hm' with hm'
          subst hm'
          rw [hmu q h6] at hm
          rw [hS q h6] at hq
          exact (hI.R.fbk q _ (dim_fz hq) hm hfbb).elim
      · rcases cases3 q' hq' with h7 | h7
        · subst h6
          rw [hnewmu] at hm
          injection hm with hm
          subst hm
          rw [hmu q' h7] at hm'
          rw [hS q' h7] at hq'
          exact (hI.R.fbk q' _ hq' hm' hfbb).elim
        · rw [h6, h7]
    · by_cases hq : q < c.S.length
      · rw [hS q hq] at hd ⊢
        obtain ⟨h6, h7⟩ := hI.R.blk q d hd
        refine ⟨h6, ?_⟩
        rcases h7 with ⟨h7, h8⟩ | ⟨b', y', cs', rest', h7, h8, h9, h10, h11, h12⟩
        · exact .inl ⟨h7, by rw [hmu q hq]; exact h8⟩
        · exact .inr ⟨b', y', cs', rest', by rw [hmu q hq]; exact h7, h8, h9, h10, h11, VRel.framesV hV h12⟩
      · by_cases hq2 : q = c.S.length
        · subst hq2
          rw [hnewS] at hd ⊢
          rw [d1] at hd
          injection hd with hd
          subst hd
          exact ⟨d2, .inr ⟨b, x', cs, rest, hnewmu, h4, d3, fun _ => d4, d5, d6 c'⟩⟩
        · rw [sget_out (by show c'.S.length ≤ q; rw [hlen]; omega)] at hd
          cases hd
    · by_cases hq : q < c.S.length
      · rw [hS q hq] at hd
        rw [hmu q hq] at hm
        exact fun hf => hI.R.fbk q b' hd hm (hfb' _ hf)
      · have := sget_lt hd
        rw [hlen] at this
        have hq2 : q = c.S.length := by omega
        subst hq2
        rw [hnewmu] at hm
        injection hm with hm
        subst hm
        exact hbnot
  have hvv : VRel c' (vvF w c.S.length) (vf' b) := h2.vv c' c.S.length b (by rw [hlen]; omega) hnewS hnewmu h4
  have hE' : EnvRel c' (putO e (opAt ops it.i).dst (vvF w c.S.length)) ea := by
    have hE := hI.E.frameV hV
    cases hd : (opAt ops it.i).dst with
    | none => exact hE
    | some t =>
      intro t'
      show VRel c' (getV (putV e t _) t') (ea t')
      rw [getV_put]
      by_cases ht : t' = t
      · subst ht
        rw [if_pos rfl, h5 _ hd]
        exact hvv
      · rw [if_neg ht]
        exact hE t'
  refine ⟨c', _, rfl, ⟨?_, hR', hE', hI.K.frameV hI.R hV hS hmu (fun _ _ hy => hy), hI.ks, hI.nd, fun q => Iff.rfl, dropN_nodup hI.nod, fun q q' hq hq' => hI.inj q q' ((dropN_mem hI.nod).1 hq).1 ((dropN_mem hI.nod).1 hq').1, fun q hq => hI.new q ((dropN_mem hI.nod).1 hq).1, fun q hq => hI.pend q ((dropN_mem hI.nod).1 hq).1, ?_, hds.2⟩, h1, hnewmu, by rw [hlen]; omega, _, rfl⟩
  · have hle := hI.le
    refine ⟨Nat.le_trans hle.len (by show c.S.length ≤ c'.S.length; rw [hlen]; omega), fun q d hq hd => ?_, fun q hf hd => ?_, fun q d b' y' hq hd hm hy => ?_, fun b' y' hy hn => hle.un b' y' hy hn, fun b' y' hy hn ho => ?_, hle.n, rfl⟩
    · have hq' : q < c.S.length := Nat.lt_of_lt_of_le hq hle.len
      have := hS q hq'
      rw [show (⟨c'.μ, c'.S, c'.σ, c0.fb⟩ : Ctx).S = c'.S from rfl, this] at hd
      obtain ⟨h6, h7⟩ := hle.al q d hq hd
      exact ⟨h6, (hmu q hq').trans h7⟩
    · have hq' : q < c.S.length := Nat.lt_of_lt_of_le (sget_lt hd) hle.len
      exact (hS q hq').trans (hle.fz q hf hd)
    · have hq' : q < c.S.length := Nat.lt_of_lt_of_le hq hle.len
      have := hS q hq'
      rw [show (⟨c'.μ, c'.S, c'.σ, c0.fb⟩ : Ctx).S = c'.S from rfl, this] at hd
      exact hle.ln q d b' y' hq hd hm hy
    · have ho' : c'.own b' := ho
      rcases hown b' ho' with ho2 | ho2
      · exact hle.ow b' y' hy hn ho2
      · subst ho2
        have := h0.ok _ _ hy
        have := hI.new _ hP
        omega
  · intro it' hit' hk' t ht
    have hu := hI.und it' (List.mem_cons_of_mem _ hit') hk' t ht
    cases hd : (opAt ops it.i).dst with
    | none => exact hu
    | some t' =>
      show getV (putV e t' _) t = _
      rw [getV_put]
      by_cases htt : t = t'
      · subst htt
        have := List.all_eq_true.1 hds.1 it' hit'
        rw [hk, hk'] at this
        simp only [Bool.not_true, Bool.false_or, neO, hd, ht, Nat.beq_refl] at this
        cases this
      · rw [if_neg htt]; exact hu

theorem late_ok {β : Type} {c0 c : Ctx} {e : VEnv} {ea : Env} {ach : List (Nat × (Hp → Prop))} {chk : Chk} {P ls nd : List Nat} {it : LItem} {r : List LItem} {pd : Nat → Nat} {k : VEnv → Store → Option β} {y : β} (h0 : Rel c0)
    (hI : InvL ops c0 c e ea ach chk P ls nd (it :: r) pd) (hk : Nat.beq it.kind 2 = true) (hP : it.i ∈ P) (h : evL tab ops (it :: r) chk e c.S k = some y) :
    ∃ c' e', c'.σ = c.σ ∧ InvL ops c0 c' e' ea ach chk (dropN it.i P) ls nd r pd ∧ evL tab ops r chk e' c'.S k = some y := by
  have hk3 : Nat.beq it.kind 3 = false := by rw [Nat.eq_of_beq_eq_true hk]; rfl
  simp only [evL, hk, hk3, cond_true, cond_false] at h
  obtain ⟨c', e', h1, h2, h3, _⟩ := late_gen (K := fun e' S' => evL tab ops r chk e' S' k) h0 hI hk hP h
  exact ⟨c', e', h1, h2, h3⟩

/-- A look ahead. -/
theorem probe_ok {β : Type} {c0 c : Ctx} {e : VEnv} {ea : Env} {ach : List (Nat × (Hp → Prop))} {chk : Chk} {P ls nd : List Nat} {it : LItem} {r : List LItem} {pd : Nat → Nat} {k : VEnv → Store → Option β} {y : β}
    (hI : InvL ops c0 c e ea ach chk P ls nd (it :: r) pd) (hk : Nat.beq it.kind 3 = true) (h : evL tab ops (it :: r) chk e c.S k = some y) :
    InvL ops c0 c e ea ach chk P ls nd r pd ∧ evL tab ops r chk e c.S k = some y := by
  simp only [evL, hk, cond_true] at h
  obtain ⟨_, _, _, _, _, h1, _⟩ := fresh_fact hI.E h
  have hds := hI.ds
  simp only [distF, Bool.and_eq_true] at hds
  exact ⟨⟨hI.le, hI.R, hI.E, hI.K, hI.ks, hI.nd, hI.fb, hI.nod, hI.inj, hI.new, hI.pend, fun j hj hk t ht => hI.und j (List.mem_cons_of_mem _ hj) hk t ht, hds.2⟩, h1⟩
/-- Up to an operation that is taken now. -/
theorem strip_ok {β : Type} {c0 : Ctx} {ea : Env} {ach : List (Nat × (Hp → Prop))} {chk : Chk} {ls nd : List Nat} {pd : Nat → Nat} {k : VEnv → Store → Option β} {y : β} {i : Nat} (h0 : Rel c0) : ∀ (r : List LItem) {P P' : List Nat} {it : LItem} {r' : List LItem} {c : Ctx} {e : VEnv}, stripL r P i = some (P', it, r') →
    InvL ops c0 c e ea ach chk P ls nd r pd → evL tab ops r chk e c.S k = some y →
    ∃ c' e', c'.σ = c.σ ∧ InvL ops c0 c' e' ea ach chk P' ls nd (it :: r') pd ∧ evL tab ops (it :: r') chk e' c'.S k = some y ∧ Nat.beq it.kind 2 = false ∧ it.i = i ∧ ∀ q ∈ P', q ∈ P
  | [], P, P', it, r', c, e, h, _, _ => by cases h
  | a :: r, P, P', it, r', c, e, h, hI, hv => by
    simp only [stripL] at h
    cases hk3 : Nat.beq a.kind 3 with
    | true =>
      rw [hk3, cond_true] at h
      obtain ⟨h1, h2⟩ := probe_ok hI hk3 hv
      exact strip_ok h0 r h h1 h2
    | false =>
    rw [hk3, cond_false] at h
    cases hk : Nat.beq a.kind 2 with
    | false =>
      rw [hk, cond_false] at h
      cases hi : Nat.beq a.i i with
      | false => rw [hi] at h; cases h
      | true =>
        rw [hi, cond_true] at h
        injection h with h
        injection h with h1 h
        injection h with h2 h3
        subst h1
        subst h2
        subst h3
        exact ⟨c, e, rfl, hI, hv, hk, Nat.eq_of_beq_eq_true hi, fun q hq => hq⟩
    | true =>
      rw [hk, cond_true] at h
      cases hm : memN a.i P with
      | false => rw [hm] at h; cases h
      | true =>
        rw [hm, cond_true] at h
        obtain ⟨c1, e1, h1, h2, h3⟩ := late_ok h0 hI hk (memN_iff.1 hm) hv
        obtain ⟨c2, e2, h4, h5, h6, h7, h8, h9⟩ := strip_ok h0 r h h2 h3
        exact ⟨c2, e2, h4.trans h1, h5, h6, h7, h8, fun q hq => ((dropN_mem hI.nod).1 (h9 q hq)).1⟩
theorem fin_ok {β : Type} {c0 : Ctx} {ea : Env} {ach : List (Nat × (Hp → Prop))} {chk : Chk} {ls nd : List Nat} {pd : Nat → Nat} {k : VEnv → Store → Option β} {y : β} (h0 : Rel c0) : ∀ (r : List LItem) {P : List Nat} {c : Ctx} {e : VEnv}, finL r P = true →
    InvL ops c0 c e ea ach chk P ls nd r pd → evL tab ops r chk e c.S k = some y → PostE c0 k y ea c.σ
  | [], P, c, e, h, hI, hv => by
    have hP : P = [] := by
      cases P with
      | nil => rfl
      | cons a r => simp [finL] at h
    subst hP
    have hfb : c.fb = c0.fb := by
      funext b
      refine propext ((hI.fb b).trans ⟨fun h => ?_, .inl⟩)
      rcases h with h | ⟨q, hq, _⟩
      · exact h
      · cases hq
    refine ⟨e, c, rfl, ?_, hI.R, hI.E, hv⟩
    have := hI.le
    rw [← hfb] at this
    exact this
  | a :: r, P, c, e, h, hI, hv => by
    simp only [finL] at h
    cases hk3 : Nat.beq a.kind 3 with
    | true =>
      rw [hk3, cond_true] at h
      obtain ⟨h1, h2⟩ := probe_ok hI hk3 hv
      exact fin_ok h0 r h h1 h2
    | false =>
    rw [hk3, cond_false] at h
    simp only [Bool.and_eq_true] at h
    obtain ⟨c1, e1, h1, h2, h3⟩ := late_ok h0 hI h.1.1 (memN_iff.1 h.1.2) hv
    rw [← h1]
    exact fin_ok h0 r h.2 h2 h3
/-- What a new block needs is known already. -/
theorem head_ok {β : Type} {c : Ctx} {ea : Env} {chk : Chk} {k : VEnv → Store → Option β} {y : β} {m : Nat} : ∀ (r : List LItem) {e e' : VEnv} {S : Store}, headF ops r m = true → EnvRel c e ea → (∀ t ∈ usesF (opAt ops m).op, getV e' t = getV e t) → evL tab ops r chk e' S k = some y → ∃ x vf, freshB (opAt ops m).op = true ∧ FreshAb (opAt ops m).op ea x vf
  | [], e, e', S, h, _, _, _ => by cases h
  | a :: r, e, e', S, h, he, hu, hv => by
    have huse : ∀ (vv : VV), notIn (opAt ops a.i).dst (usesF (opAt ops m).op) = true → ∀ t ∈ usesF (opAt ops m).op, getV (putO e' (opAt ops a.i).dst vv) t = getV e t := by
      intro vv h1 t ht
      rw [← hu t ht]
      cases hd : (opAt ops a.i).dst with
      | none => rfl
      | some t' =>
        show getV (putV e' t' _) t = _
        rw [getV_put]
        by_cases htt : t = t'
        · subst htt
          rw [hd] at h1
          simp only [notIn] at h1
          rw [memN_iff.2 ht] at h1
          cases h1
        · rw [if_neg htt]
    have fresh_here : ∀ {γ : Type} {k' : Blk → Bool → Option γ} {z : γ}, freshK (opAt ops m).op e' k' = some z → ∃ x vf, freshB (opAt ops m).op = true ∧ FreshAb (opAt ops m).op ea x vf := by
      intro γ k' z hv
      have hv' : freshK (opAt ops m).op e k' = some z := by
        cases hop : (opAt ops m).op <;> rw [hop] at hv hu <;> simp only [freshK] at hv <;> first | (cases hv; done) | skip
        case alloc es z => exact hv
        case makeSlice es bytes z l q =>
          have e1 : ev e' l = ev e l := by
            cases l with
            | tmp t => exact hu t (by simp [usesF, opdT])
            | _ => rfl
          have e2 : ev e' q = ev e q := by
            cases q with
            | tmp t => exact hu t (by simp [usesF, opdT])
            | _ => rfl
          rw [e1, e2] at hv
          exact hv
        case buildSlice es ln z ps =>
          have e1 : partsV e' ps = partsV e ps := by
            unfold partsV
            apply List.map_congr_left
            rintro ⟨o, s, x⟩ hx
            simp only
            have : ev e' x = ev e x := by
              cases x with
              | tmp t => exact hu t (List.mem_flatMap.2 ⟨_, hx, by simp [opdT]⟩)
              | _ => rfl
            rw [this]
          rw [e1] at hv
          exact hv
      obtain ⟨hf, blk, w, x, vf, _, h2⟩ := fresh_fact he hv'
      exact ⟨x, vf, hf, h2.run⟩
    simp only [headF] at h
    cases hk3 : Nat.beq a.kind 3 with
    | true =>
      rw [hk3, cond_true, Bool.or_eq_true] at h
      simp only [evL, hk3, cond_true] at hv
      rcases h with h | h
      · rw [Nat.eq_of_beq_eq_true h] at hv
        exact fresh_here hv
      · have hnext : evL tab ops r chk e' S k = some y := by
          cases hop : (opAt ops a.i).op <;> rw [hop] at hv <;> simp only [freshK] at hv <;> first | (cases hv; done) | skip
          case alloc es z => exact (gd_some hv).2
          case makeSlice es bytes z l q =>
            split at hv
            · exact (gd_some hv).2
            · cases hv
          case buildSlice es ln z ps =>
            split at hv
            · exact (gd_some hv).2
            · cases hv
        exact head_ok r h he hu hnext
    | false =>
    rw [hk3, cond_false] at h
    simp only [Bool.or_eq_true, Bool.and_eq_true] at h
    rcases h with ⟨hk, h⟩ | ⟨⟨⟨hk, hmv⟩, h1⟩, h2⟩
    · simp only [evL, hk, hk3, cond_true, cond_false] at hv
      by_cases hi : a.i = m
      · rw [hi] at hv
        exact fresh_here hv
      · rcases h with h | ⟨h1, h2⟩
        · exact (hi (Nat.eq_of_beq_eq_true h)).elim
        · have hnext : ∃ blk w, evL tab ops r chk (putO e' (opAt ops a.i).dst (vvF w S.length)) (S ++ [blk]) k = some y := by
            cases hop : (opAt ops a.i).op <;> rw [hop] at hv <;> simp only [freshK] at hv <;> first | (cases hv; done) | skip
            case alloc es z => exact ⟨_, _, (gd_some hv).2⟩
            case makeSlice es bytes z l q =>
              split at hv
              · exact ⟨_, _, (gd_some hv).2⟩
              · cases hv
            case buildSlice es ln z ps =>
              split at hv
              · exact ⟨_, _, (gd_some hv).2⟩
              · cases hv
          obtain ⟨blk, w, hv2⟩ := hnext
          exact head_ok r h2 he (huse _ h1) hv2
    · have hk2 : Nat.beq a.kind 2 = false := by rw [Nat.eq_of_beq_eq_true hk]; rfl
      have hk1 : Nat.beq a.kind 1 = false := by rw [Nat.eq_of_beq_eq_true hk]; rfl
      have hk5 : Nat.beq a.kind 5 = false := by rw [Nat.eq_of_beq_eq_true hk]; rfl
      simp only [evL, hk2, hk1, hk3, hk5, cond_false] at hv
      obtain ⟨_, hv⟩ := gd_some hv
      cases hop : (opAt ops a.i).op <;> rw [hop] at hmv <;> first | (cases hmv; done) | skip
      case move x =>
        rw [hop] at hv
        simp only [evOp, AOp.isLoad, cond_false] at hv
        obtain ⟨_, hv⟩ := gd_some hv
        exact head_ok r h2 he (huse _ h1) hv
theorem allL_of {F : Nat → Prop} : ∀ {l : List Nat}, (∀ m ∈ l, F m) → allL F l
  | [], _ => trivial
  | [m], h => h m (by simp)
  | m :: m' :: r, h => ⟨h m (by simp), allL_of fun q hq => h q (List.mem_cons_of_mem _ hq)⟩
theorem next_at {D : List Nat} {i : Nat} (h : nextStill ops D = some i) : ∃ p, ops[i]? = some (opAt ops i, p) ∧ (opAt ops i).op.still = true := by
  unfold nextStill at h
  have h1 := List.find?_some h
  simp only [Bool.and_eq_true] at h1
  have h2 := h1.2
  unfold stillB at h2
  unfold opAt
  split at h2
  · rename_i o p ho
    rw [ho]
    exact ⟨p, rfl, h2⟩
  · cases h2
theorem mover_at {D : List Nat} {m : Nat} (h : m ∈ readyMovers ops D) : ∃ p, ops[m]? = some (opAt ops m, p) ∧ (opAt ops m).op.still = false := by
  unfold readyMovers at h
  obtain ⟨h1, h2⟩ := List.mem_filter.1 h
  have h1 := List.mem_range.1 h1
  simp only [Bool.and_eq_true] at h2
  have h3 := h2.2
  unfold stillB at h3
  unfold opAt
  rw [List.getElem?_eq_getElem h1] at h3 ⊢
  exact ⟨_, rfl, by simpa using h3⟩
theorem okDst_P {self : Nat} {ex : Bool} {P : List Nat} {r : List LItem} (h : okDst ops self ex P r = true) {q : Nat} (hq : q ∈ P) : (∀ t, (opAt ops self).dst = some t → (opAt ops q).dst ≠ some t) ∧ ∀ t, (opAt ops self).dst = some t → t ∉ usesF (opAt ops q).op := by
  simp only [okDst, Bool.and_eq_true] at h
  have h1 := List.all_eq_true.1 h.1 q hq
  rw [Bool.and_eq_true] at h1
  refine ⟨fun t ht e => ?_, fun t ht hu => ?_⟩
  · have := h1.1
    rw [ht, e] at this
    simp only [neO, Nat.beq_refl] at this
    cases this
  · have := h1.2
    rw [ht] at this
    simp only [notIn] at this
    rw [memN_iff.2 hu] at this
    cases this
theorem okDst_r {self : Nat} {ex : Bool} {P : List Nat} {r : List LItem} (h : okDst ops self ex P r = true) {it : LItem} (hit : it ∈ r) (hk : Nat.beq it.kind 2 = true) (hne : ex = true → it.i ≠ self) {t : Nat} (ht : (opAt ops self).dst = some t) : (opAt ops it.i).dst ≠ some t := by
  simp only [okDst, Bool.and_eq_true] at h
  have h1 := List.all_eq_true.1 h.2 it hit
  have h2 : (ex && Nat.beq it.i self) = false := by
    cases ex with
    | false => rfl
    | true => exact Bool.eq_false_iff.2 fun e => hne rfl (Nat.eq_of_beq_eq_true e)
  rw [hk, h2] at h1
  intro e
  rw [ht, e] at h1
  simp only [Bool.not_true, Bool.false_or, neO, Nat.beq_refl] at h1
  cases h1
theorem putO_ne {ea : Env} {d : Option Nat} {v : Value} {t : Nat} (h : ∀ t', d = some t' → t ≠ t') : (ea.putO d v) t = ea t := by
  cases d with
  | none => rfl
  | some t' => exact if_neg (h t' rfl)
theorem putOV_ne {e : VEnv} {d : Option Nat} {v : VV} {t : Nat} (h : ∀ t', d = some t' → t ≠ t') : getV (putO e d v) t = getV e t := by
  cases d with
  | none => rfl
  | some t' =>
    show getV (putV e t' v) t = _
    rw [getV_put, if_neg (h t' rfl)]
/-- On, behind an operation that is no new block. -/
theorem InvL.on {c0 c c' : Ctx} {e : VEnv} {ea : Env} {ach ach' : List (Nat × (Hp → Prop))} {chk chk' : Chk} {P ls ls' nd nd' : List Nat} {it : LItem} {r : List LItem} {pd : Nat → Nat} {i : Nat} {vv : VV} {v : Value}
    (hI : InvL ops c0 c e ea ach chk P ls nd (it :: r) pd) (hd : okDst ops i false P r = true) (hl : Le c c') (hR : Rel c') (hv : VRel c' vv v) (hK : ChkRel c' ach' chk') (hks : ach'.map (·.1) = ls') (hnd : recheckV nd' chk' = true) :
    InvL ops c0 c' (putO e (opAt ops i).dst vv) (ea.putO (opAt ops i).dst v) ach' chk' P ls' nd' r pd := by
  have hds := hI.ds
  simp only [distF, Bool.and_eq_true] at hds
  refine ⟨?_, hR, (hI.E.frame hl).putO hv, hK, hks, hnd, fun b => by rw [hl.fb]; exact hI.fb b, hI.nod, hI.inj, hI.new, fun q hq => ?_, fun j hj hk t ht => ?_, hds.2⟩
  · have h1 := hI.le
    have h2 : Le ⟨c.μ, c.S, c.σ, c0.fb⟩ ⟨c'.μ, c'.S, c'.σ, c0.fb⟩ := ⟨hl.len, hl.al, hl.fz, hl.ln, hl.un, hl.ow, hl.n, rfl⟩
    exact h1.trans h2
  · obtain ⟨hf, x, vf, h1, h2, h3⟩ := hI.pend q hq
    obtain ⟨k1, k2⟩ := okDst_P hd hq
    refine ⟨hf, x, vf, h1.same hf fun t ht => putO_ne fun t' ht' e => k2 t' ht' (e ▸ ht), hl.un _ _ h2 fun ho => ?_, fun t ht => ?_⟩
    · obtain ⟨j, hj1, hj2⟩ := ho
      exact hI.R.fbk j _ (dim_fz hj1) hj2 ((hI.fb _).2 (.inr ⟨q, hq, rfl⟩))
    · rw [putO_ne fun t' ht' e => k1 t' ht' (e ▸ ht)]
      exact h3 t ht
  · rw [putOV_ne fun t' ht' e => okDst_r hd hj hk (fun h => by cases h) ht' (e ▸ ht)]
    exact hI.und j (List.mem_cons_of_mem _ hj) hk t ht
/-- A new block is made. -/
theorem fresh_inv {c0 c : Ctx} {e : VEnv} {ea : Env} {ach : List (Nat × (Hp → Prop))} {chk : Chk} {P ls nd : List Nat} {r : List LItem} {pd : Nat → Nat} {m : Nat} {x : Ab.Blk} {vf : Nat → Value}
    (hI : InvL ops c0 c e ea ach chk P ls nd r pd) (hmP : m ∉ P) (hfr : freshB (opAt ops m).op = true) (hF : FreshAb (opAt ops m).op ea x vf) (hd : okDst ops m true P r = true) (hself : notIn (opAt ops m).dst (usesF (opAt ops m).op) = true)
    (hany : r.any (fun it => Nat.beq it.kind 2 && Nat.beq it.i m) = true) :
    InvL ops c0 ⟨c.μ, c.S, c.σ.add x, fun b => c.fb b ∨ b = c.σ.n⟩ e (ea.putO (opAt ops m).dst (vf c.σ.n)) ach chk (m :: P) ls nd r (fun q => if q = m then c.σ.n else pd q) := by
  let c' : Ctx := ⟨c.μ, c.S, c.σ.add x, fun b => c.fb b ∨ b = c.σ.n⟩
  have hadd : ∀ b y, c.σ.m b = some y → (c.σ.add x).m b = some y := by
    intro b y hy
    have := hI.R.ok b y hy
    simp only [Hp.add]
    rw [if_neg (by omega)]
    exact hy
  have hV : LeV c c' := by
    refine ⟨Nat.le_refl _, fun q d hq hdm => ⟨hdm, rfl⟩, fun q d b y hq hdm hm hy => ⟨y, hadd b y hy, rfl⟩, fun b y hy hn => ⟨hadd b y hy, fun hm => ?_⟩⟩
    rcases hm with hm | hm | hm
    · exact hn (.inl hm)
    · exact hn (.inr hm)
    · have := hI.R.ok b y hy
      omega
  have hR' : Rel c' := by
    refine ⟨fun b y hy => ?_, hI.R.inj, fun q d hdm => ?_, fun q b hdm hm hf => ?_, fun b hb => ?_⟩
    · simp only [c', Hp.add] at hy ⊢
      split at hy
      · omega
      · have := hI.R.ok b y hy; omega
    · obtain ⟨h6, h7⟩ := hI.R.blk q d hdm
      refine ⟨h6, ?_⟩
      rcases h7 with h7 | ⟨b', y', cs', rest', h7, h8, h9, h10, h11, h12⟩
      · exact .inl h7
      · exact .inr ⟨b', y', cs', rest', h7, hadd _ _ h8, h9, h10, h11, VRel.framesV hV h12⟩
    · rcases hf with hf | hf
      · exact hI.R.fbk q b hdm hm hf
      · subst hf
        have hdm' : (sget c.S q).dim ≠ none := hdm
        cases hd2 : (sget c.S q).dim with
        | none => exact hdm' hd2
        | some d =>
          obtain ⟨_, h7⟩ := hI.R.blk q d hd2
          have hm' : c.μ q = some c.σ.n := hm
          rcases h7 with ⟨_, h7⟩ | ⟨b', y', cs', rest', h7, h8, _⟩
          · rw [hm'] at h7; cases h7
          · rw [hm'] at h7
            injection h7 with h7
            subst h7
            have := hI.R.ok _ _ h8
            omega
    · show b < c.σ.n + 1
      rcases hb with hb | hb
      · have := hI.R.fbl b hb; omega
      · omega
  have hK' := hI.K.frameV hI.R hV (fun _ _ => rfl) (fun _ _ => rfl) hadd
  refine ⟨?_, hR', ?_, hK', hI.ks, hI.nd, fun b => ?_, List.nodup_cons.2 ⟨hmP, hI.nod⟩, fun q q' hq hq' he => ?_, fun q hq => ?_, fun q hq => ?_, hI.und, hI.ds⟩
  · have hle := hI.le
    refine ⟨hle.len, hle.al, hle.fz, fun q d b y hq hdm hm hy => ?_, fun b y hy hn => hadd _ _ (hle.un b y hy hn), hle.ow, Nat.le_trans hle.n (Nat.le_succ _), rfl⟩
    obtain ⟨y', q1, q2⟩ := hle.ln q d b y hq hdm hm hy
    exact ⟨y', hadd _ _ q1, q2⟩
  · have hE := hI.E.frameV hV
    intro t
    cases hdst : (opAt ops m).dst with
    | none => exact hE t
    | some t' =>
      show VRel c' (getV e t) (if t = t' then _ else ea t)
      by_cases htt : t = t'
      · subst htt
        rw [if_pos rfl]
        obtain ⟨it, hit, hit2⟩ := List.any_eq_true.1 hany
        rw [Bool.and_eq_true] at hit2
        have hitm := Nat.eq_of_beq_eq_true hit2.2
        subst hitm
        rw [hI.und it hit hit2.1 _ hdst]
        exact .undef _
      · rw [if_neg htt]
        exact hE t
  · constructor
    · rintro (hb | hb)
      · rcases (hI.fb b).1 hb with hb | ⟨q, hq, hb⟩
        · exact .inl hb
        · refine .inr ⟨q, List.mem_cons_of_mem _ hq, ?_⟩
          show (if q = m then c.σ.n else pd q) = b
          rw [if_neg (fun e : q = m => hmP (e ▸ hq))]
          exact hb
      · exact .inr ⟨m, List.mem_cons_self, by simp [hb]⟩
    · rintro (hb | ⟨q, hq, hb⟩)
      · exact .inl ((hI.fb b).2 (.inl hb))
      · rcases List.mem_cons.1 hq with rfl | hq
        · simp only [if_true] at hb
          exact .inr hb.symm
        · have hb : (if q = m then c.σ.n else pd q) = b := hb
          rw [if_neg (fun e : q = m => hmP (e ▸ hq))] at hb
          exact .inl ((hI.fb b).2 (.inr ⟨q, hq, hb⟩))
  · have hlt : ∀ q ∈ P, pd q < c.σ.n := fun q hq => hI.R.fbl _ ((hI.fb _).2 (.inr ⟨q, hq, rfl⟩))
    have he : (if q = m then c.σ.n else pd q) = if q' = m then c.σ.n else pd q' := he
    rcases List.mem_cons.1 hq with rfl | hq1
    · rcases List.mem_cons.1 hq' with rfl | hq2
      · rfl
      · rw [if_pos rfl, if_neg (fun e : q' = q => hmP (e ▸ hq2))] at he
        have := hlt _ hq2
        omega
    · rw [if_neg (fun e : q = m => hmP (e ▸ hq1))] at he
      rcases List.mem_cons.1 hq' with rfl | hq2
      · rw [if_pos rfl] at he
        have := hlt _ hq1
        omega
      · rw [if_neg (fun e : q' = m => hmP (e ▸ hq2))] at he
        exact hI.inj q q' hq1 hq2 he
  · show c0.σ.n ≤ (if q = m then c.σ.n else pd q)
    rcases List.mem_cons.1 hq with rfl | hq
    · rw [if_pos rfl]
      exact hI.le.n
    · rw [if_neg (fun e : q = m => hmP (e ▸ hq))]
      exact hI.new q hq
  · show freshB (opAt ops q).op = true ∧ ∃ x1 vf1, FreshAb (opAt ops q).op (ea.putO (opAt ops m).dst (vf c.σ.n)) x1 vf1 ∧ c'.σ.m (if q = m then c.σ.n else pd q) = some x1 ∧ ∀ t, (opAt ops q).dst = some t → ea.putO (opAt ops m).dst (vf c.σ.n) t = vf1 (if q = m then c.σ.n else pd q)
    rcases List.mem_cons.1 hq with rfl | hq
    · rw [if_pos rfl]
      refine ⟨hfr, x, vf, hF.same hfr fun t ht => putO_ne fun t' ht' e => ?_, if_pos rfl, fun t ht => ?_⟩
      · subst e
        rw [ht'] at hself
        simp only [notIn] at hself
        rw [memN_iff.2 ht] at hself
        cases hself
      · rw [ht]
        exact if_pos rfl
    · rw [if_neg (fun e : q = m => hmP (e ▸ hq))]
      obtain ⟨hf', x', vf', q1, q2, q3⟩ := hI.pend q hq
      obtain ⟨k1, k2⟩ := okDst_P hd hq
      refine ⟨hf', x', vf', q1.same hf' fun t ht => putO_ne fun t' ht' e => k2 t' ht' (e ▸ ht), hadd _ _ q2, fun t ht => ?_⟩
      rw [putO_ne fun t' ht' e => k1 t' ht' (e ▸ ht)]
      exact q3 t ht
/-! ### A new block with what hangs on it, and a call, whichever first -/
def vO (ops : List (AOper × List Nat)) (j : Nat) (ea : Env) : Value := match (opAt ops j).dst with
  | some t => ea t
  | none => undef
def FactsG (ops : List (AOper × List Nat)) (b : Nat) (x : Ab.Blk) (l : List Nat) (ea : Env) : Prop := ∀ j ∈ l, ∀ σ' : Hp, σ'.m b = some x → (opAt ops j).op.run ea σ' = some (vO ops j ea, σ')
def GrpAb (ops : List (AOper × List Nat)) (b : Nat) (x : Ab.Blk) : List Nat → Env → Prop
  | [], _ => True
  | i :: g, ea => ∃ v, (∀ σ' : Hp, σ'.m b = some x → (opAt ops i).op.run ea σ' = some (v, σ')) ∧ GrpAb ops b x g (ea.putO (opAt ops i).dst v)
theorem eqNO_some {o : Option Nat} {i : Nat} (h : eqNO o i = true) : o = some i := by
  cases o with
  | none => cases h
  | some a => rw [Nat.eq_of_beq_eq_true (h : Nat.beq a i = true)]
theorem wanted_none {o : AOper} {ea : Env} (h : o.guard.isNone = true) : wanted o ea = true := by
  unfold wanted
  cases hg : o.guard with
  | none => rfl
  | some q => rw [hg] at h; cases h
theorem notIn_iff {d : Option Nat} {l : List Nat} (h : notIn d l = true) : ∀ t, d = some t → t ∉ l := by
  intro t ht hm
  rw [ht] at h
  simp only [notIn] at h
  rw [memN_iff.2 hm] at h
  cases h
theorem neO_iff {d d' : Option Nat} (h : neO d d' = true) : ∀ t, d = some t → d' ≠ some t := by
  intro t ht e
  rw [ht, e] at h
  simp only [neO, Nat.beq_refl] at h
  cases h
theorem facts_put {b : Nat} {x : Ab.Blk} {l : List Nat} {ea : Env} {d : Option Nat} {v : Value} (h : FactsG ops b x l ea) (h1 : ∀ j ∈ l, notIn d (opAt ops j).op.reads = true) (h2 : ∀ j ∈ l, neO d (opAt ops j).dst = true) : FactsG ops b x l (ea.putO d v) := by
  intro j hj σ' hσ
  have e1 : (opAt ops j).op.run (ea.putO d v) σ' = (opAt ops j).op.run ea σ' := run_congr fun t ht => putO_ne fun t' ht' e => notIn_iff (h1 j hj) t' ht' (e ▸ ht)
  have e2 : vO ops j (ea.putO d v) = vO ops j ea := by
    unfold vO
    cases hd : (opAt ops j).dst with
    | none => rfl
    | some t => exact putO_ne fun t' ht' e => neO_iff (h2 j hj) t' ht' (e ▸ hd)
  rw [e1, e2]
  exact h j hj σ' hσ
theorem evG_ok {β : Type} {n b : Nat} {x : Ab.Blk} {y : β} {z : Option β} {c1 : Ctx} (hμ : c1.μ n = some b) (hn : n < c1.S.length) (hx : c1.σ.m b = some x) : ∀ (g : List Nat) {c : Ctx} {e : VEnv} {ea : Env}, Le c1 c → c.σ = c1.σ → Rel c → EnvRel c e ea → evG tab ops n g e c.S z = some y → GrpAb ops b x g ea ∧ z = some y
  | [], _, _, _, _, _, _, _, h => ⟨trivial, h⟩
  | i :: g, c, e, ea, hl, hσ, hR, hE, h => by
    simp only [evG] at h
    obtain ⟨h1, h2⟩ := gd_some h
    rw [Bool.and_eq_true] at h1
    obtain ⟨hst, hld⟩ := h1
    have h3 := evOp_ok hR hE h2
    rw [← runOp_still_eq hst] at h3
    cases hr : (opAt ops i).op.run ea c.σ with
    | none => rw [hr] at h3; exact h3.elim
    | some q =>
      obtain ⟨v, σ1⟩ := q
      rw [hr] at h3
      obtain ⟨vv, c2, g1, g2, g3, g4, g5, g6⟩ := h3
      have hσ1 : σ1 = c.σ := still_same hst hr
      rw [hσ1] at g1 hr
      obtain ⟨k1, k2⟩ := evG_ok hμ hn hx g (hl.trans g2) (g1.trans hσ) g3 ((hE.frame g2).putO g5) g6
      refine ⟨⟨v, fun σ' hs => ?_, k1⟩, k2⟩
      cases hlo : (opAt ops i).op.isLoad with
      | false => exact still_any hst hlo hr σ'
      | true =>
        rw [hlo] at hld
        have hk := asks_kept hR hE hlo hr
        cases ha : asks c.S (opAt ops i).op e with
        | none => rw [ha] at hld; cases hld
        | some s =>
          cases s with
          | none => rw [ha] at hld; cases hld
          | some q =>
            rw [ha] at hld hk
            have hq : q = n := by
              simp only [Bool.not_true, Bool.false_or, asksN] at hld
              exact Nat.eq_of_beq_eq_true hld
            subst hq
            obtain ⟨hd, _, hp⟩ := hk
            refine hp σ' fun b' hb' => ?_
            cases hdm : (sget c.S q).dim with
            | none => exact (hd hdm).elim
            | some d =>
              obtain ⟨_, q2⟩ := hl.al q d hn hdm
              rw [q2, hμ] at hb'
              injection hb' with hb'
              subst hb'
              rw [hs, hσ, hx]
theorem chain_ok {T : Ab.Specs} {Q : Env → Hp → Prop} {ach : List (Nat × (Hp → Prop))} {b m cc : Nat} {x : Ab.Blk} {σ : Hp} (hx : σ.m b = some x) : ∀ (g pre : List Nat) {f f2 : Nat} {D D2 : List Nat} {ea : Env} {gl : List (Nat × (Hp → Prop))}, chkS ops g f D = some (f2, D2) → GrpAb ops b x g ea → okG ops m cc pre g = true → FactsG ops b x pre ea → (∀ p ∈ gl, ∀ σ' : Hp, σ'.m b = some x → p.2 σ') →
    (∀ ea' gl', FactsG ops b x (g.reverse ++ pre) ea' → (∀ p ∈ gl', ∀ σ' : Hp, σ'.m b = some x → p.2 σ') → (∀ t, t ∉ grpDs ops g → ea' t = ea t) → wpD T Q ops f2 D2 (gl' ++ ach) ea' σ) → wpD T Q ops f D (gl ++ ach) ea σ
  | [], pre, f, f2, D, D2, ea, gl, hs, hg, ho, hf, hgl, hk => by
    simp only [chkS] at hs
    injection hs with hs
    injection hs with h1 h2
    subst h1
    subst h2
    exact hk ea gl hf hgl fun t _ => rfl
  | i :: g, pre, 0, f2, D, D2, ea, gl, hs, hg, ho, hf, hgl, hk => by cases hs
  | i :: g, pre, f + 1, f2, D, D2, ea, gl, hs, hg, ho, hf, hgl, hk => by
    simp only [chkS] at hs
    cases hc : eqNO (nextStill ops D) i && (opAt ops i).guard.isNone with
    | false => rw [hc] at hs; cases hs
    | true =>
      rw [hc, cond_true] at hs
      rw [Bool.and_eq_true] at hc
      have hns := eqNO_some hc.1
      obtain ⟨p, hp, hst⟩ := next_at hns
      obtain ⟨v, hv, hg2⟩ := hg
      simp only [okG, Bool.and_eq_true] at ho
      obtain ⟨⟨⟨⟨⟨⟨⟨o1, o2⟩, o3⟩, o4⟩, o5⟩, o6⟩, o7⟩, o8⟩ := ho
      simp only [wpD]
      rw [hns]
      simp only [hp, wanted_none hc.2, if_true, hv σ hx]
      obtain ⟨t0, ht0⟩ := Option.isSome_iff_exists.1 o1
      have o6' := List.all_eq_true.1 o6
      have hf2 : FactsG ops b x (i :: pre) (ea.putO (opAt ops i).dst v) := by
        intro j hj
        rcases List.mem_cons.1 hj with rfl | hj
        · intro σ' hσ
          have e1 : (opAt ops j).op.run (ea.putO (opAt ops j).dst v) σ' = (opAt ops j).op.run ea σ' := run_congr fun t ht => putO_ne fun t' ht' e => notIn_iff (o6' j List.mem_cons_self) t' ht' (e ▸ ht)
          have e2 : vO ops j (ea.putO (opAt ops j).dst v) = v := by
            unfold vO
            rw [ht0]
            exact if_pos rfl
          rw [e1, e2]
          exact hv σ' hσ
        · exact facts_put hf (fun j hj => o6' j (List.mem_cons_of_mem _ hj)) (List.all_eq_true.1 o7) j hj
      have hfin : ∀ gl2 : List (Nat × (Hp → Prop)), (∀ p ∈ gl2, ∀ σ' : Hp, σ'.m b = some x → p.2 σ') → wpD T Q ops f (i :: D) (gl2 ++ ach) (ea.putO (opAt ops i).dst v) σ := by
        intro gl2 hgl2
        refine chain_ok hx g (i :: pre) hs hg2 o8 hf2 hgl2 fun ea' gl' k1 k2 k3 => hk ea' gl' (by rw [List.reverse_cons, List.append_assoc]; exact k1) k2 fun t ht => ?_
        simp only [grpDs, ht0, List.mem_append, List.mem_singleton, not_or] at ht
        rw [k3 t ht.2, ht0]
        exact if_neg ht.1
      cases hlo : (opAt ops i).op.isLoad with
      | false =>
        rw [if_neg (by decide)]
        exact hfin gl hgl
      | true =>
        rw [if_pos rfl]
        refine hfin ((i, _) :: gl) fun p hp => ?_
        rcases List.mem_cons.1 hp with rfl | hp
        · exact hv
        · exact hgl p hp
theorem lateI_ok {β : Type} {b : Nat} {x : Ab.Blk} {k : VEnv → Store → Option β} {y : β} {ea : Env} : ∀ (g : List Nat) {r r3 : List LItem} {c : Ctx} {e : VEnv} {chk : Chk}, lateI g r = some r3 → FactsG ops b x g ea → c.σ.m b = some x → (∀ j ∈ g, (opAt ops j).dst.isSome = true) → Rel c → EnvRel c e ea → evL tab ops r chk e c.S k = some y →
    ∃ c' e' chk', c'.σ = c.σ ∧ Le c c' ∧ Rel c' ∧ EnvRel c' e' ea ∧ evL tab ops r3 chk' e' c'.S k = some y
  | [], r, r3, c, e, chk, h, _, _, _, hR, hE, hv => by
    injection h with h
    subst h
    exact ⟨c, e, chk, rfl, Le.refl c, hR, hE, hv⟩
  | i :: g, [], r3, c, e, chk, h, _, _, _, _, _, _ => by cases h
  | i :: g, it :: r, r3, c, e, chk, h, hf, hx, hs, hR, hE, hv => by
    simp only [lateI] at h
    cases hc : Nat.beq it.kind 0 && Nat.beq it.i i with
    | false => rw [hc] at h; cases h
    | true =>
      rw [hc, cond_true] at h
      rw [Bool.and_eq_true] at hc
      have hi := Nat.eq_of_beq_eq_true hc.2
      subst hi
      have hk := Nat.eq_of_beq_eq_true hc.1
      simp only [evL, hk, show Nat.beq 0 3 = false from rfl, show Nat.beq 0 2 = false from rfl, show Nat.beq 0 1 = false from rfl, show Nat.beq 0 5 = false from rfl, cond_false] at hv
      obtain ⟨hst, hv⟩ := gd_some hv
      have h7 := evOp_ok hR hE hv
      rw [← runOp_still_eq hst, hf it.i List.mem_cons_self c.σ hx] at h7
      obtain ⟨vv, c2, g1, g2, g3, g4, g5, g6⟩ := h7
      obtain ⟨_, g8⟩ := gd_some g6
      have hE2 : EnvRel c2 (putO e (opAt ops it.i).dst vv) ea := by
        have h8 := (hE.frame g2).putO (d := (opAt ops it.i).dst) g5
        obtain ⟨t, ht⟩ := Option.isSome_iff_exists.1 (hs it.i List.mem_cons_self)
        have : ea.putO (opAt ops it.i).dst (vO ops it.i ea) = ea := by
          funext t'
          unfold vO
          rw [ht]
          show (if t' = t then ea t else ea t') = ea t'
          by_cases h : t' = t
          · subst h; rw [if_pos rfl]
          · rw [if_neg h]
        rw [this] at h8
        exact h8
      obtain ⟨c3, e3, chk3, k1, k2, k3, k4, k5⟩ := lateI_ok g h (fun j hj => hf j (List.mem_cons_of_mem _ hj)) (by rw [g1]; exact hx) (fun j hj => hs j (List.mem_cons_of_mem _ hj)) g3 hE2 g8
      exact ⟨c3, e3, chk3, k1.trans g1, g2.trans k2, k3, k4, k5⟩
theorem restZ_ok {β : Type} {k : VEnv → Store → Option β} {y : β} {c0 : Ctx} : ∀ (r : List LItem) {f : Nat} {D : List Nat} {c : Ctx} {e : VEnv} {ea : Env} {chk : Chk} {ach : List (Nat × (Hp → Prop))}, chkZ ops r f D = true → Le c0 c → Rel c → EnvRel c e ea → evL tab ops r chk e c.S k = some y → wpD (tabSpec tab) (PostE c0 k y) ops f D ach ea c.σ
  | [], 0, D, c, e, ea, chk, ach, h, hl, hR, hE, hv => ⟨e, c, rfl, hl, hR, hE, hv⟩
  | [], f + 1, D, c, e, ea, chk, ach, h, hl, hR, hE, hv => by
    simp only [chkZ, Bool.and_eq_true] at h
    simp only [wpD]
    cases hns : nextStill ops D with
    | some i => rw [hns] at h; cases h.1
    | none =>
      cases hrm : readyMovers ops D with
      | cons a l => rw [hrm] at h; cases h.2
      | nil => exact ⟨e, c, rfl, hl, hR, hE, hv⟩
  | it :: r, 0, D, c, e, ea, chk, ach, h, hl, hR, hE, hv => by cases h
  | it :: r, f + 1, D, c, e, ea, chk, ach, h, hl, hR, hE, hv => by
    simp only [chkZ, Bool.and_eq_true] at h
    obtain ⟨⟨⟨h1, h2⟩, h3⟩, h4⟩ := h
    have hns := eqNO_some h2
    obtain ⟨p, hp, hst⟩ := next_at hns
    have hk := Nat.eq_of_beq_eq_true h1
    simp only [evL, hk, show Nat.beq 0 3 = false from rfl, show Nat.beq 0 2 = false from rfl, show Nat.beq 0 1 = false from rfl, show Nat.beq 0 5 = false from rfl, cond_false] at hv
    obtain ⟨_, hv⟩ := gd_some hv
    have h7 := evOp_ok hR hE hv
    rw [← runOp_still_eq hst] at h7
    simp only [wpD]
    rw [hns]
    simp only [hp, wanted_none h3, if_true]
    cases hr : (opAt ops it.i).op.run ea c.σ with
    | none => rw [hr] at h7; exact h7.elim
    | some q =>
      obtain ⟨v, σ1⟩ := q
      rw [hr] at h7
      obtain ⟨vv, c2, g1, g2, g3, g4, g5, g6⟩ := h7
      obtain ⟨_, g8⟩ := gd_some g6
      have hσ1 : σ1 = c.σ := still_same hst hr
      have := restZ_ok r (ach := if (opAt ops it.i).op.isLoad = true then (it.i, fun σ' => (opAt ops it.i).op.run ea σ' = some (v, σ')) :: ach else ach) h4 (hl.trans g2) g3 ((hE.frame g2).putO g5) g8
      rw [g1, hσ1] at this
      exact this
theorem okG_all {m c : Nat} : ∀ {g pre : List Nat}, okG ops m c pre g = true → ∀ i ∈ g, (opAt ops i).dst.isSome = true ∧ notIn (opAt ops i).dst (usesF (opAt ops m).op) = true ∧ neO (opAt ops i).dst (opAt ops m).dst = true ∧ notIn (opAt ops c).dst (opAt ops i).op.reads = true ∧ neO (opAt ops c).dst (opAt ops i).dst = true
  | [], _, _, _, h => by cases h
  | j :: g, pre, ho, i, h => by
    simp only [okG, Bool.and_eq_true] at ho
    obtain ⟨⟨⟨⟨⟨⟨⟨o1, o2⟩, o3⟩, o4⟩, o5⟩, _⟩, _⟩, o8⟩ := ho
    rcases List.mem_cons.1 h with rfl | h
    · exact ⟨o1, o2, o3, o4, o5⟩
    · exact okG_all o8 i h
theorem grpDs_mem {t : Nat} : ∀ {g : List Nat}, t ∈ grpDs ops g → ∃ i ∈ g, (opAt ops i).dst = some t
  | [], h => by cases h
  | i :: g, h => by
    simp only [grpDs] at h
    rcases List.mem_append.1 h with h | h
    · cases hd : (opAt ops i).dst with
      | none => rw [hd] at h; cases h
      | some t' =>
        rw [hd] at h
        rw [List.mem_singleton.1 h]
        exact ⟨i, List.mem_cons_self, hd⟩
    · obtain ⟨j, h1, h2⟩ := grpDs_mem h
      exact ⟨j, List.mem_cons_of_mem _ h1, h2⟩
/-- The block first. -/
theorem grp_first {β : Type} {k : VEnv → Store → Option β} {y : β} {c0 c : Ctx} {e : VEnv} {ea : Env} {ach : List (Nat × (Hp → Prop))} {chk : Chk} {ls nd D D1 g : List Nat} {itc itm : LItem} {r2 r3 : List LItem} {pd : Nat → Nat} {f f1 m : Nat} {x : Ab.Blk} {vf : Nat → Value} (h0 : Rel c0)
    (hk1 : itc.kind = 1) (hkm : itm.kind = 2) (him : itm.i = m) (hfr : freshB (opAt ops m).op = true) (hF : FreshAb (opAt ops m).op ea x vf) (hself : notIn (opAt ops m).dst (usesF (opAt ops m).op) = true) (hgc : (opAt ops itc.i).guard.isNone = true)
    (hls1 : ls.all (fun i => befB ops i m || memN i nd) = true) (hls2 : ls.all (fun i => befB ops i itc.i || memN i itc.chks) = true) (hdst : okDst ops itc.i false [m] [itm] = true) (hG : okG ops m itc.i [] g = true) (hS : chkS ops g f (m :: D) = some (f1 + 1, D1)) (hns : nextStill ops D1 = none) (hrm : readyMovers ops D1 = [itc.i]) (hL : lateI g r2 = some r3) (hZ : chkZ ops r3 f1 (itc.i :: D1) = true)
    (hI : InvL ops c0 c e ea ach chk [] ls nd [itc, itm] pd) (hcl : ∀ t ∈ grpDs ops g, getV e t = .undef) (hGrp : GrpAb ops c.σ.n x g (ea.putO (opAt ops m).dst (vf c.σ.n))) (hz : evL tab ops (itc :: itm :: r2) chk e c.S k = some y) :
    keeps ops m (c.σ.add x) ach ∧ wpD (tabSpec tab) (PostE c0 k y) ops f (m :: D) ach (ea.putO (opAt ops m).dst (vf c.σ.n)) (c.σ.add x) := by
  have hN := fresh_inv hI (by simp) hfr hF (by simp [okDst, hk1, hkm, him, show Nat.beq 1 2 = false from rfl, show Nat.beq 2 2 = true from rfl]) hself (by simp [hk1, hkm, him, show Nat.beq 1 2 = false from rfl, show Nat.beq 2 2 = true from rfl])
  have hx : (c.σ.add x).m c.σ.n = some x := if_pos rfl
  refine ⟨keeps_of hN.K hI.nd fun i hi => ?_, chain_ok (ach := ach) (gl := []) hx g [] hS hGrp hG (fun _ h => by cases h) (fun _ h => by cases h) fun ea2 gl hf2 hgl hsame => ?_⟩
  · rw [hI.ks] at hi
    have := List.all_eq_true.1 hls1 i hi
    rw [Bool.or_eq_true] at this
    exact this
  · obtain ⟨p, hp, hst⟩ := mover_at (show itc.i ∈ readyMovers ops D1 by rw [hrm]; simp)
    simp only [wpD]
    rw [hns]
    simp only [hrm, allL, hp, wanted_none hgc, if_true]
    have hE2 : EnvRel ⟨c.μ, c.S, c.σ.add x, fun b => c.fb b ∨ b = c.σ.n⟩ e ea2 := by
      intro t
      by_cases ht : t ∈ grpDs ops g
      · rw [hcl t ht]
        exact .undef _
      · rw [hsame t ht]
        exact hN.E t
    have hN2 : InvL ops c0 ⟨c.μ, c.S, c.σ.add x, fun b => c.fb b ∨ b = c.σ.n⟩ e ea2 ach chk [m] ls nd [itc, itm] (fun q => if q = m then c.σ.n else pd q) := by
      refine ⟨hN.le, hN.R, hE2, hN.K, hN.ks, hN.nd, hN.fb, hN.nod, hN.inj, hN.new, fun q hq => ?_, hN.und, hN.ds⟩
      obtain ⟨q1, x', vf', q2, q3, q4⟩ := hN.pend q hq
      have hqm := List.mem_singleton.1 hq
      refine ⟨q1, x', vf', q2.same q1 fun t ht => hsame t fun hm => ?_, q3, fun t ht => (hsame t fun hm => ?_).trans (q4 t ht)⟩
      · obtain ⟨i, hi, hd⟩ := grpDs_mem hm
        rw [hqm] at ht
        exact notIn_iff (okG_all hG i hi).2.1 t hd ht
      · obtain ⟨i, hi, hd⟩ := grpDs_mem hm
        rw [hqm] at ht
        exact neO_iff (okG_all hG i hi).2.2.1 t hd ht
    simp only [evL, hk1, show Nat.beq 1 3 = false from rfl, show Nat.beq 1 2 = false from rfl, show Nat.beq 1 1 = true from rfl, cond_false, cond_true] at hz
    refine runOp_mono (tabSpec_mono tab) (fun v σ' hx' => ?_) (evOp_ok hN2.R hN2.E hz)
    obtain ⟨vv, c4, g1, g2, g3, g4, g5, g6⟩ := hx'
    obtain ⟨g7, g8⟩ := gd_some g6
    rw [Bool.and_eq_true] at g7
    have hn := hN2.K.next g2 g4
    subst g1
    have hI4 := hN2.on hdst g2 g3 g5 hn hN2.ks g7.2
    have hx4 : c4.σ.m c.σ.n = some x := by
      refine g2.un _ _ hx fun ho => ?_
      obtain ⟨j, hj1, hj2⟩ := ho
      exact hN2.R.fbk j _ (dim_fz hj1) hj2 (.inr rfl)
    refine ⟨Ab.keeps_of fun i p hip hbf => ?_, ?_⟩
    · rcases List.mem_append.1 hip with h | h
      · exact hgl _ h _ hx4
      · refine Ab.keeps_mem (keeps_of hn g7.1 fun i hi => ?_) i p h hbf
        rw [hN2.ks] at hi
        have := List.all_eq_true.1 hls2 i hi
        rw [Bool.or_eq_true] at this
        exact this
    · simp only [evL, hkm, show Nat.beq 2 3 = false from rfl, show Nat.beq 2 2 = true from rfl, cond_false, cond_true] at g8
      obtain ⟨c5, e5, l1, l2, l3, _⟩ := late_gen (K := fun e' S' => evL tab ops r2 _ e' S' k) h0 hI4 (by rw [hkm]; rfl) (by rw [him]; simp) g8
      have hP : dropN itm.i [m] = [] := by rw [him]; simp [dropN]
      rw [hP] at l2
      have hfb : c5.fb = c0.fb := by
        funext b
        refine propext ((l2.fb b).trans ⟨fun h => ?_, .inl⟩)
        rcases h with h | ⟨q, hq, _⟩
        · exact h
        · cases hq
      have hle : Le c0 c5 := by
        have := l2.le
        rw [← hfb] at this
        exact this
      have hf4 : FactsG ops c.σ.n x g (ea2.putO (opAt ops itc.i).dst v) := by
        refine facts_put (fun j hj => hf2 j (by simp [hj])) (fun j hj => (okG_all hG j hj).2.2.2.1) fun j hj => (okG_all hG j hj).2.2.2.2
      obtain ⟨c6, e6, chk6, k1, k2, k3, k4, k5⟩ := lateI_ok g hL hf4 (by rw [l1]; exact hx4) (fun j hj => (okG_all hG j hj).1) l2.R l2.E l3
      have := restZ_ok r3 (ach := gl ++ ach) hZ (hle.trans k2) k3 k4 k5
      rw [k1, l1] at this
      exact this
theorem evL_ok {β : Type} {c0 : Ctx} {k : VEnv → Store → Option β} {y : β} (h0 : Rel c0) : ∀ (f : Nat) {D P ls nd : List Nat} {r : List LItem} {c : Ctx} {e : VEnv} {ea : Env} {ach : List (Nat × (Hp → Prop))} {chk : Chk} {pd : Nat → Nat}, chkT ops f D P ls nd r = true → InvL ops c0 c e ea ach chk P ls nd r pd → evL tab ops r chk e c.S k = some y →
    wpD (tabSpec tab) (PostE c0 k y) ops f D ach ea c.σ
  | 0, D, P, ls, nd, r, c, e, ea, ach, chk, pd, h, hI, hv => fin_ok h0 r h hI hv
  | f + 1, D, P, ls, nd, r, c, e, ea, ach, chk, pd, h, hI, hv => by
    simp only [chkT] at h
    simp only [wpD]
    cases hns : nextStill ops D with
    | some i =>
      rw [hns] at h
      simp only [Bool.and_eq_true] at h ⊢
      obtain ⟨hg, h⟩ := h
      obtain ⟨p, ho, hst⟩ := next_at hns
      rw [ho]
      have hw : wanted (opAt ops i) ea = true := by
        unfold wanted
        cases hgg : (opAt ops i).guard with
        | none => rfl
        | some q => rw [hgg] at hg; cases hg
      simp only [hw, if_true]
      cases hs : stripL r P i with
      | none => rw [hs] at h; cases h
      | some q =>
        obtain ⟨P', it, r'⟩ := q
        rw [hs] at h
        simp only [Bool.and_eq_true] at h
        obtain ⟨⟨hk0, hd⟩, hc⟩ := h
        obtain ⟨c1, e1, h1, h2, h3, h4, h5, h6⟩ := strip_ok h0 r hs hI hv
        subst h5
        have hk1 : Nat.beq it.kind 1 = false := by rw [Nat.eq_of_beq_eq_true hk0]; rfl
        have hk3 : Nat.beq it.kind 3 = false := by rw [Nat.eq_of_beq_eq_true hk0]; rfl
        have hk5 : Nat.beq it.kind 5 = false := by rw [Nat.eq_of_beq_eq_true hk0]; rfl
        simp only [evL, h4, hk1, hk3, hk5, cond_false] at h3
        obtain ⟨_, h3⟩ := gd_some h3
        have h7 := evOp_ok h2.R h2.E h3
        rw [← runOp_still_eq hst, h1] at h7
        cases hr : (opAt ops it.i).op.run ea c.σ with
        | none => rw [hr] at h7; exact h7.elim
        | some q =>
          obtain ⟨v, σ1⟩ := q
          rw [hr] at h7
          obtain ⟨vv, c2, g1, g2, g3, g4, g5, g6⟩ := h7
          simp only
          have hdd : dirty tab (opAt ops it.i).op e1 c1.S = [] := by
            cases hop : (opAt ops it.i).op <;> rw [hop] at hst <;> first | (cases hst; done) | rfl
          have hσ1 : σ1 = c.σ := still_same hst hr
          obtain ⟨g7, g8⟩ := gd_some g6
          have hn := h2.K.next g2 g4
          rw [hdd, updC_nil] at hn
          have hstep : ∀ {ach' : List (Nat × (Hp → Prop))} {chk' : Chk} {ls' : List Nat}, ChkRel c2 ach' chk' → ach'.map (·.1) = ls' → recheckV it.need chk' = true → evL tab ops r' chk' (putO e1 (opAt ops it.i).dst vv) c2.S k = some y → chkT ops f (it.i :: D) P' ls' it.need r' = true →
              wpD (tabSpec tab) (PostE c0 k y) ops f (it.i :: D) ach' (ea.putO (opAt ops it.i).dst v) c.σ := by
            intro ach' chk' ls' q1 q2 q3 q4 q5
            have := evL_ok h0 f q5 (h2.on hd g2 g3 g5 q1 q2 q3) q4
            rw [g1, hσ1] at this
            exact this
          cases hld : (opAt ops it.i).op.isLoad with
          | false =>
            rw [hld] at g7 g8 hc
            rw [if_neg (by decide)]
            exact hstep hn h2.ks g7 g8 hc
          | true =>
            rw [hld] at g7 g8 hc
            rw [if_pos rfl]
            have hkp := asks_kept h2.R h2.E hld (by rw [h1]; exact hr)
            have hn2 := (ChkRel.cons (i := it.i) (f := fun _ => false) hkp (fun _ _ _ h => by cases h) h2.K).next g2 g4
            rw [hdd, updC_nil] at hn2
            exact hstep hn2 (by rw [List.map_cons, h2.ks]; rfl) g7 g8 hc
    | none =>
      rw [hns] at h
      simp only at h ⊢
      cases hgp : isGrp r with
      | true =>
        rw [hgp, cond_true, Bool.and_eq_true] at h
        obtain ⟨hA, hB⟩ := h
        obtain ⟨it, itc, itm, r2, rfl⟩ : ∃ it itc itm r2, r = it :: itc :: itm :: r2 := by
          match r, hA with
          | it :: itc :: itm :: r2, _ => exact ⟨it, itc, itm, r2, rfl⟩
          | [], hA => cases hA
          | [_], hA => cases hA
          | [_, _], hA => cases hA
        simp only [chkGrp, Bool.and_eq_true] at hA
        obtain ⟨⟨⟨⟨⟨⟨⟨⟨⟨⟨⟨⟨⟨⟨⟨a1, a2⟩, a3⟩, a4⟩, a5⟩, a6⟩, a7⟩, a8⟩, a9⟩, a10⟩, a11⟩, a12⟩, a13⟩, a14⟩, a15⟩, a16⟩ := hA
        have hP : P = [] := by
          cases P with
          | nil => rfl
          | cons a l => cases a1
        subst hP
        have hk5 : it.kind = 5 := Nat.eq_of_beq_eq_true hgp
        have hk1 := Nat.eq_of_beq_eq_true a2
        have hkm := Nat.eq_of_beq_eq_true a3
        have him := Nat.eq_of_beq_eq_true a4
        simp only [evL, hk5, show Nat.beq 5 3 = false from rfl, show Nat.beq 5 2 = false from rfl, show Nat.beq 5 1 = false from rfl, show Nat.beq 5 5 = true from rfl, cond_false, cond_true] at hv
        have hds := hI.ds
        simp only [distF, Bool.and_eq_true] at hds
        have hI' : InvL ops c0 c (clearV e (grpDs ops it.chks)) ea ach chk [] ls nd (itc :: itm :: r2) pd := by
          refine ⟨hI.le, hI.R, fun t => ?_, hI.K, hI.ks, hI.nd, hI.fb, hI.nod, hI.inj, hI.new, hI.pend, fun j hj hk t ht => ?_, by simp only [distF, Bool.and_eq_true]; exact hds.2⟩
          · rcases @clear_get (grpDs ops it.chks) e t with h1 | ⟨_, h1⟩
            · rw [h1]; exact .undef _
            · rw [h1]; exact hI.E t
          · rcases @clear_get (grpDs ops it.chks) e t with h1 | ⟨_, h1⟩
            · exact h1
            · rw [h1]; exact hI.und j (List.mem_cons_of_mem _ hj) hk t ht
        have hI2 : InvL ops c0 c (clearV e (grpDs ops it.chks)) ea ach chk [] ls nd [itc, itm] pd := by
          refine ⟨hI'.le, hI'.R, hI'.E, hI'.K, hI'.ks, hI'.nd, hI'.fb, hI'.nod, hI'.inj, hI'.new, hI'.pend, fun j hj hk t ht => hI'.und j (by simp only [List.mem_cons, List.not_mem_nil, or_false] at hj ⊢; rcases hj with h | h <;> simp [h]) hk t ht, by simp [distF, hk1, show Nat.beq 1 2 = false from rfl]⟩
        have hcl : ∀ t ∈ grpDs ops it.chks, getV (clearV e (grpDs ops it.chks)) t = .undef := by
          intro t ht
          rcases @clear_get (grpDs ops it.chks) e t with h1 | ⟨h1, _⟩
          · exact h1
          · exact (h1 ht).elim
        obtain ⟨_, _, _, x, vf, _, hFF⟩ := fresh_fact hI'.E hv
        have hF := hFF.run
        have hN := fresh_inv hI2 (by simp) a5 hF (by simp [okDst, hk1, hkm, him, show Nat.beq 1 2 = false from rfl, show Nat.beq 2 2 = true from rfl]) a9 (by simp [hk1, hkm, him, show Nat.beq 1 2 = false from rfl, show Nat.beq 2 2 = true from rfl])
        rw [← him] at hv hN
        have hN3 : InvL ops c0 ⟨c.μ, c.S, c.σ.add x, fun b => c.fb b ∨ b = c.σ.n⟩ (clearV e (grpDs ops it.chks)) (ea.putO (opAt ops itm.i).dst (vf c.σ.n)) ach chk [itm.i] ls nd [itm] (fun q => if q = itm.i then c.σ.n else pd q) :=
          ⟨hN.le, hN.R, hN.E, hN.K, hN.ks, hN.nd, hN.fb, hN.nod, hN.inj, hN.new, hN.pend, fun j hj hk t ht => hN.und j (List.mem_cons_of_mem _ hj) hk t ht, by simp [distF]⟩
        obtain ⟨c3, e3, l1, l2, l3, l4, l5, _⟩ := late_gen (K := fun e2 S2 => evG tab ops c.S.length it.chks e2 S2 (evL tab ops (itc :: itm :: r2) chk (clearV e (grpDs ops it.chks)) c.S k)) h0 hN3 (by rw [hkm]; rfl) (by simp) hv
        obtain ⟨hGrp, hz⟩ := evG_ok (b := c.σ.n) (x := x) (by rw [l4]; simp) l5 (by rw [l1]; exact if_pos rfl) it.chks (Le.refl c3) rfl l2.R l2.E l3
        rw [him] at hGrp
        have hdst : okDst ops itc.i false [it.i] [itm] = true := by
          simp only [okDst, Bool.and_eq_true, List.all_cons] at a14 ⊢
          exact ⟨a14.1, a14.2.1, rfl⟩
        cases hrm : readyMovers ops D with
        | nil => rw [hrm] at a10; cases a10
        | cons a l =>
          refine allL_of fun m hm => ?_
          have hmem : m ∈ readyMovers ops D := by rw [hrm]; exact hm
          obtain ⟨p, ho, hst⟩ := mover_at hmem
          have hor := List.all_eq_true.1 a11 m hmem
          rw [Bool.or_eq_true] at hor
          rw [ho]
          rcases hor with hor | hor
          · have := Nat.eq_of_beq_eq_true hor
            subst this
            simp only [wanted_none a7, if_true]
            split at a16
            · rename_i f1 D1 r3 hS hL
              simp only [Bool.and_eq_true] at a16
              obtain ⟨⟨b1, b2⟩, b3⟩ := a16
              have hns1 : nextStill ops D1 = none := by
                cases h : nextStill ops D1 with
                | none => rfl
                | some i => rw [h] at b1; cases b1
              have hrm1 : readyMovers ops D1 = [itc.i] := by
                split at b2
                · rename_i x hx
                  rw [hx, Nat.eq_of_beq_eq_true b2]
                · cases b2
              exact run_of (hF c.σ) (grp_first h0 hk1 hkm him a5 hF a9 a8 a12 a13 hdst a15 hS hns1 hrm1 hL b3 hI2 hcl hGrp hz)
            · cases a16
          · have := Nat.eq_of_beq_eq_true hor
            subst this
            simp only [wanted_none a8, if_true]
            simp only [evL, hk1, show Nat.beq 1 3 = false from rfl, show Nat.beq 1 2 = false from rfl, show Nat.beq 1 1 = true from rfl, cond_false, cond_true] at hz
            refine runOp_mono (tabSpec_mono tab) (fun v σ' hx' => ?_) (evOp_ok hI'.R hI'.E hz)
            obtain ⟨vv, c2, g1, g2, g3, g4, g5, g6⟩ := hx'
            obtain ⟨g7, g8⟩ := gd_some g6
            rw [Bool.and_eq_true] at g7
            have hn := hI'.K.next g2 g4
            subst g1
            have hd0 : okDst ops itc.i false [] (itm :: r2) = true := by
              simp only [okDst, Bool.and_eq_true] at a14 ⊢
              exact ⟨rfl, a14.2⟩
            refine ⟨keeps_of hn g7.1 fun i hi => ?_, evL_ok h0 f hB (hI'.on hd0 g2 g3 g5 hn hI'.ks g7.2) g8⟩
            rw [hI'.ks] at hi
            have := List.all_eq_true.1 a13 i hi
            rw [Bool.or_eq_true] at this
            exact this
      | false =>
      rw [hgp, cond_false] at h
      have each : ∀ {ms : List Nat}, (∀ m ∈ ms, m ∈ readyMovers ops D) → (ms.all fun m => (opAt ops m).guard.isNone && cond (freshB (opAt ops m).op)
        (!memN m P && r.any (fun it => Nat.beq it.kind 2 && Nat.beq it.i m) && (isAllocB (opAt ops m).op || headF ops r m) && okDst ops m true P r && notIn (opAt ops m).dst (usesF (opAt ops m).op) && ls.all (fun i => befB ops i m || memN i nd) && chkT ops f (m :: D) (m :: P) ls nd r)
        (match stripL r P m with
        | some (P', it, r') => Nat.beq it.kind 1 && okDst ops m false P' r' && ls.all (fun i => befB ops i m || memN i it.chks) && chkT ops f (m :: D) P' ls it.need r'
        | none => false)) = true → allL (fun m => match ops[m]? with
          | some (o, _) => if wanted o ea then runOp (tabSpec tab) o.op ea c.σ fun v σ' => keeps ops m σ' ach ∧ wpD (tabSpec tab) (PostE c0 k y) ops f (m :: D) ach (ea.putO o.dst v) σ'
            else wpD (tabSpec tab) (PostE c0 k y) ops f (m :: D) ach (ea.putO o.dst undef) c.σ
          | none => False) ms := by
        intro ms hms hall
        refine allL_of fun m hm => ?_
        have h := List.all_eq_true.1 hall m hm
        simp only [Bool.and_eq_true] at h
        obtain ⟨hg, h⟩ := h
        obtain ⟨p, ho, hst⟩ := mover_at (hms m hm)
        rw [ho]
        have hw : wanted (opAt ops m) ea = true := by
          unfold wanted
          cases hgg : (opAt ops m).guard with
          | none => rfl
          | some q => rw [hgg] at hg; cases hg
        simp only [hw, if_true]
        cases hfr : freshB (opAt ops m).op with
        | false =>
          rw [hfr, cond_false] at h
          cases hs : stripL r P m with
          | none => rw [hs] at h; cases h
          | some q =>
            obtain ⟨P', it, r'⟩ := q
            rw [hs] at h
            simp only [Bool.and_eq_true] at h
            obtain ⟨⟨⟨hk1, hd⟩, hls⟩, hc⟩ := h
            obtain ⟨c1, e1, h1, h2, h3, h4, h5, h6⟩ := strip_ok h0 r hs hI hv
            subst h5
            have hk3 : Nat.beq it.kind 3 = false := by rw [Nat.eq_of_beq_eq_true hk1]; rfl
            simp only [evL, h4, hk1, hk3, cond_false, cond_true] at h3
            have h7 := evOp_ok h2.R h2.E h3
            rw [h1] at h7
            refine runOp_mono (tabSpec_mono tab) (fun v σ' hx => ?_) h7
            obtain ⟨vv, c2, g1, g2, g3, g4, g5, g6⟩ := hx
            obtain ⟨g7, g8⟩ := gd_some g6
            rw [Bool.and_eq_true] at g7
            have hn := h2.K.next g2 g4
            subst g1
            refine ⟨keeps_of hn g7.1 fun i hi => ?_, evL_ok h0 f hc (h2.on hd g2 g3 g5 hn h2.ks g7.2) g8⟩
            rw [h2.ks] at hi
            have := List.all_eq_true.1 hls i hi
            rw [Bool.or_eq_true] at this
            exact this
        | true =>
          rw [hfr, cond_true] at h
          simp only [Bool.and_eq_true] at h
          obtain ⟨⟨⟨⟨⟨⟨hnm, hany⟩, hor⟩, hd⟩, hself⟩, hls⟩, hc⟩ := h
          have hmP : m ∉ P := fun e => by rw [memN_iff.2 e] at hnm; cases hnm
          obtain ⟨x, vf, hF⟩ : ∃ x vf, FreshAb (opAt ops m).op ea x vf := by
            rw [Bool.or_eq_true] at hor
            rcases hor with hor | hor
            · cases hop : (opAt ops m).op <;> rw [hop] at hor <;> first | (cases hor; done) | skip
              case alloc es z => exact ⟨⟨z, true, es⟩, fun n => .pointer (some ⟨n, 0, none⟩), fun σ => rfl⟩
            · obtain ⟨x, vf, _, h1⟩ := head_ok r hor hI.E (fun t _ => rfl) hv
              exact ⟨x, vf, h1⟩
          have hI' := fresh_inv hI hmP hfr hF hd hself hany
          refine run_of (hF c.σ) ⟨keeps_of hI'.K hI.nd fun i hi => ?_, ?_⟩
          · rw [hI.ks] at hi
            have := List.all_eq_true.1 hls i hi
            rw [Bool.or_eq_true] at this
            exact this
          · exact evL_ok h0 f hc hI' hv
      cases hrm : readyMovers ops D with
      | nil => rw [hrm] at h; exact fin_ok h0 r h hI hv
      | cons a l =>
        rw [hrm] at h
        exact each (fun m hm => by rw [hrm]; exact hm) h
end
end Go.V
