/- What a caller may forget of what a call has left. -/
import Derived.Test.YtbdihjmnbadfhaaGreatDoorAb15
namespace Go.Ab
open Go.RowKit

structure Weak (σ0 σ1 : Hp) (r : Value) (σ' : Hp) (r' : Value) (ν : Nat → Nat) : Prop where
  n : σ0.n ≤ σ'.n
  old : ∀ b, b < σ0.n → ν b = b
  inj : ∀ b b' x x', σ'.m b = some x → σ'.m b' = some x' → b ≠ b' → ν b ≠ ν b'
  blk : ∀ b x', σ'.m b = some x' → (σ0.m b = some x' ∧ σ1.m b = some x') ∨
    (b < σ'.n ∧ ∃ x, σ1.m (ν b) = some x ∧ x'.es = x.es ∧ (x'.own = true → x.own = true) ∧ F2 (Rn ν σ'.n) x'.cells (x.cells.take x'.cells.length))
  res : Rn ν σ'.n r' r

section
variable {P : Program} {f : FuncId} {S S' : Spec}

theorem R.weak {P : Program} {B : Base P} {μ μ1 : Mu} {σ σ1 σ' : Hp} {w w' : World} {r r' : Value} {ν : Nat → Nat} (hR : R B μ σ w) (hR1 : R B μ1 σ1 w') (hμ : μ.le μ1) (h : Weak σ σ1 r σ' r' ν) :
    ∃ μ', μ.le μ' ∧ R B μ' σ' w' ∧ ∀ rc, VR μ1 r rc → VR μ' r' rc := by
  have hdom : ∀ b g, μ b = some g → b < σ.n := fun b g hb => by
    rcases Nat.lt_or_ge b σ.n with h1 | h1
    · exact h1
    · rw [hR.fresh b h1] at hb; cases hb
  have hin : ∀ b, b < σ'.n → (fun b => if b < σ'.n then μ1 (ν b) else none) b = μ1 (ν b) := fun b hb => if_pos hb
  have hlt0 : ∀ b x, σ.m b = some x → b < σ.n := fun b x hx => by
    obtain ⟨g, hg, _⟩ := hR.live b x hx
    exact hdom b g hg
  have hnar : ∀ b g g1, μ b = some g → μ1 b = some g1 → (fun b => if b < σ'.n then μ1 (ν b) else none) b = some g1 := by
    intro b g g1 hb hb1
    have h1 := hdom b g hb
    rw [hin b (Nat.lt_of_lt_of_le h1 h.n), h.old b h1]
    exact hb1
  refine ⟨fun b => if b < σ'.n then μ1 (ν b) else none, fun b g hb => ?_, ⟨hR1.base, hR1.old, fun b hb => if_neg (by omega), fun b x' hx' => ?_, fun b b' x x' g g' hx hx' hne ho hg hg' => ?_, ?_⟩, fun rc hrc => h.res.vr hin hrc⟩
  · exact hnar b g g hb (hμ b g hb)
  · rcases h.blk b x' hx' with ⟨h1, h2⟩ | ⟨h1, x, h2, h3, h4, h5⟩
    · obtain ⟨g, hg, hl⟩ := hR1.live b x' h2
      obtain ⟨g0, hg0, hl0⟩ := hR.live b x' h1
      have hgg : g = g0 := by have := hμ b g0 hg0; rw [hg] at this; exact Option.some.inj this
      refine ⟨g, hnar b g0 g hg0 hg, hl.lt, hl.es, fun h0 i v hv => ?_, hl.own, hl.iter, hl.bld⟩
      obtain ⟨u, hu, hvu⟩ := hl.cell h0 i v hv
      obtain ⟨u0, _, hvu0⟩ := hl0.cell (hgg ▸ h0) i v hv
      exact ⟨u, hu, hvu0.narrow hnar hvu⟩
    · obtain ⟨g, hg, hl⟩ := hR1.live (ν b) x h2
      have hlen : x'.cells.length ≤ x.cells.length := by
        have := h5.length
        rw [List.length_take] at this
        omega
      refine ⟨g, by simp only [if_pos h1]; exact hg, hl.lt, hl.es.trans h3.symm, fun h0 i v hv => ?_, fun h0 ho => ?_, fun s hs => ?_, fun hs => ?_⟩
      · obtain ⟨u, hu, hvu⟩ := h5.get i v hv
        have hi : i < x'.cells.length := by
          rcases Nat.lt_or_ge i x'.cells.length with h6 | h6
          · exact h6
          · rw [List.getElem?_eq_none h6] at hv; cases hv
        rw [List.getElem?_take, if_pos hi] at hu
        obtain ⟨u', hu', huu⟩ := hl.cell h0 i u hu
        exact ⟨u', hu', hvu.vr hin huu⟩
      · obtain ⟨k1, k2, k3⟩ := hl.own h0 (h4 ho)
        exact ⟨k1, by omega, k3⟩
      · obtain ⟨k1, p, k2, k3⟩ := hl.iter s hs
        refine ⟨k1, p, ?_, k3⟩
        rw [k2] at h5
        have hl5 := h5.length
        cases hx' : x'.cells with
        | nil => rfl
        | cons v r =>
          rw [hx'] at h5 hl5
          cases hc : x.cells.length with
          | zero => rw [hc] at h5; simp at h5; cases h5
          | succ n =>
            rw [hc] at h5
            simp at h5
            cases h5 with
            | cons h6 h7 =>
              cases h7
              cases h6
              simp
      · obtain ⟨k1, p, s, k0, k2, k3⟩ := hl.bld hs
        refine ⟨k1, p, s, k0, ?_, k3⟩
        rw [k2] at h5
        have hl5 := h5.length
        cases hx' : x'.cells with
        | nil => rfl
        | cons v r =>
          rw [hx'] at h5 hl5
          cases hc : x.cells.length with
          | zero => rw [hc] at h5; simp at h5; cases h5
          | succ n =>
            rw [hc] at h5
            simp at h5
            cases h5 with
            | cons h6 h7 =>
              cases h7
              cases h6
              simp
  · have key : ∀ b x, σ'.m b = some x → ∃ y, σ1.m (ν b) = some y ∧ (x.own = true → y.own = true) ∧ b < σ'.n := by
      intro b x hx
      rcases h.blk b x hx with ⟨h1, h2⟩ | ⟨h1, y, h2, _, h4, _⟩
      · have hb := hlt0 b x h1
        exact ⟨x, by rw [h.old b hb]; exact h2, id, Nat.lt_of_lt_of_le hb h.n⟩
      · exact ⟨y, h2, h4, h1⟩
    obtain ⟨y, hy, hyo, hb⟩ := key b x hx
    obtain ⟨y', hy', _, hb'⟩ := key b' x' hx'
    simp only [if_pos hb] at hg
    simp only [if_pos hb'] at hg'
    exact hR1.inj (ν b) (ν b') y y' g g' hy hy' (h.inj b b' x x' hx hx' hne) (hyo ho) hg hg'
  · have key : ∀ b x g, σ'.m b = some x → (fun b => if b < σ'.n then μ1 (ν b) else none) b = some g → ∃ y, σ1.m (ν b) = some y ∧ μ1 (ν b) = some g := by
      intro b x g hx hg
      have hb : b < σ'.n := by
        rcases Nat.lt_or_ge b σ'.n with h | h
        · exact h
        · simp only [if_neg (show ¬b < σ'.n by omega)] at hg; cases hg
      simp only [if_pos hb] at hg
      rcases h.blk b x hx with ⟨h1, h2⟩ | ⟨_, y, h2, _⟩
      · exact ⟨x, by rw [h.old b (hlt0 b x h1)]; exact h2, hg⟩
      · exact ⟨y, h2, hg⟩
    intro b x g hx hg hi k hk b' x' g' hx' hg'
    obtain ⟨y, h1, h2⟩ := key b x g hx hg
    obtain ⟨y', h3, h4⟩ := key b' x' g' hx' hg'
    obtain ⟨m1, m2⟩ := hR1.sep (ν b) y g h1 h2 hi k hk (ν b') y' g' h3 h4
    exact ⟨m1, fun hne => m2 (h.inj b' b x' x hx' hx hne)⟩

theorem Sim.weak (h : Sim P f S) (hS : ∀ args σ K, S' args σ K → S args σ fun r1 σ1 => ∃ ν σ' r', Weak σ σ1 r1 σ' r' ν ∧ K r' σ') : Sim P f S' := by
  intro B μ σ w args cargs K hk hR ha
  obtain ⟨hc, hcalls⟩ := h B μ σ w args cargs _ (hS args σ K hk) hR ha
  refine ⟨hc, hcalls.mono fun x w' hx => ?_⟩
  obtain ⟨r1, σ1, rc, μ1, rfl, ⟨ν, σ', r', hw, hK⟩, h1, h2, h3, h4, _⟩ := hx
  obtain ⟨μ', k1, k2, k3⟩ := hR.weak h2 h1 hw
  exact ⟨r', σ', rc, μ', rfl, hK, k1, k2, k3 rc h3, h4, rfl⟩
end

/-- The blocks that were there are as they were. -/
def Ext (σ σ1 : Hp) : Prop := σ.n ≤ σ1.n ∧ ∀ b, b < σ.n → σ1.m b = σ.m b
theorem Ext.refl (σ : Hp) : Ext σ σ := ⟨Nat.le_refl _, fun _ _ => rfl⟩
theorem Ext.trans {a b c : Hp} (h : Ext a b) (k : Ext b c) : Ext a c := ⟨Nat.le_trans h.1 k.1, fun x hx => (k.2 x (Nat.lt_of_lt_of_le hx h.1)).trans (h.2 x hx)⟩
theorem Ext.add {σ σ1 : Hp} (h : Ext σ σ1) (x : Blk) : Ext σ (σ1.add x) := by
  refine ⟨Nat.le_succ_of_le h.1, fun b hb => ?_⟩
  have : b ≠ σ1.n := by have := h.1; omega
  simp only [Hp.add, if_neg this]
  exact h.2 b hb
theorem Ext.set {σ σ1 : Hp} (h : Ext σ σ1) {b : Nat} (hb : σ.n ≤ b) (x : Option Blk) : Ext σ (σ1.set b x) := by
  refine ⟨h.1, fun b' hb' => ?_⟩
  have : b' ≠ b := by omega
  simp only [Hp.set, if_neg this]
  exact h.2 b' hb'

/-- A value that refers to nothing. -/
def flat : Value → Bool
  | .bool _ | .int _ _ | .string _ | .pointer none | .slice none 0 0 | .nilFunc | .nilIface => true
  | _ => false
theorem Rn.flat {ν : Nat → Nat} {n : Nat} {v : Value} (h : flat v = true) : Rn ν n v v := by
  unfold Ab.flat at h
  split at h <;> first | exact .bool _ | exact .int _ _ | exact .string _ | exact .nilp | exact .nils | exact .nilf | exact .nili | cases h
theorem Rn.flats {ν : Nat → Nat} {n : Nat} {l : List Value} (h : ∀ v ∈ l, Ab.flat v = true) : F2 (Rn ν n) l l := F2.same l fun v hv => Rn.flat (h v hv)

/-- No block lies beyond the count. -/
def Hp.Ok (σ : Hp) : Prop := ∀ b x, σ.m b = some x → b < σ.n
/-- What a caller is told: as much of what the call has left as one likes. -/
def Fin (σ : Hp) (K : Value → Hp → Prop) (r1 : Value) (σ1 : Hp) : Prop := ∃ ν σ' r', Weak σ σ1 r1 σ' r' ν ∧ K r' σ'

section
variable {P : Program} {f : FuncId} {S S' : Spec} {σ σ1 : Hp} {K : Value → Hp → Prop}

theorem Sim.lt (h : Sim P f fun args σ K => σ.Ok ∧ S args σ K) : Sim P f S := by
  intro B μ σ w args cargs K hk hR ha
  refine h B μ σ w args cargs K ⟨fun b x hx => ?_, hk⟩ hR ha
  obtain ⟨g, hg, _⟩ := hR.live b x hx
  rcases Nat.lt_or_ge b σ.n with h1 | h1
  · exact h1
  · rw [hR.fresh b h1] at hg; cases hg

theorem Sim.fin (h : Sim P f S) (hS : ∀ args σ K, σ.Ok → S' args σ K → S args σ (Fin σ K)) : Sim P f S' :=
  Sim.lt (Sim.weak h fun args σ K ⟨hlt, hk⟩ => hS args σ K hlt hk)

/-- An answer that refers to no new block, beside which nothing has turned. -/
theorem Fin.plain {r : Value} (h : Ext σ σ1) (hlt : σ.Ok) (hr : Rn id σ.n r r) (hK : K r σ) : Fin σ K r σ1 :=
  ⟨id, σ, r, ⟨Nat.le_refl _, fun _ _ => rfl, fun _ _ _ _ _ _ hne => hne, fun b x' hx' => .inl ⟨hx', (h.2 b (hlt b x' hx')).trans hx'⟩, hr⟩, hK⟩

/-- Nothing is forgotten. -/
theorem Fin.all {r : Value} (hn : σ.n ≤ σ1.n) (h1 : σ1.Ok) (hr : Rn id σ1.n r r) (hc : ∀ b x, σ1.m b = some x → F2 (Rn id σ1.n) x.cells x.cells) (hK : K r σ1) : Fin σ K r σ1 :=
  ⟨id, σ1, r, ⟨hn, fun _ _ => rfl, fun _ _ _ _ _ _ hne => hne, fun b x' hx' => .inr ⟨h1 b x' hx', x', hx', rfl, id, by rw [List.take_length]; exact hc b x' hx'⟩, hr⟩, hK⟩

/-- One new block is kept, and gets the first number. -/
theorem Fin.new1 {r r' : Value} {b : Nat} {x x' : Blk} (h : Ext σ σ1) (hlt : σ.Ok) (hb : σ.n ≤ b) (hx : σ1.m b = some x) (he : x'.es = x.es) (ho : x'.own = true → x.own = true) (hc : F2 (Rn (fun i => if i = σ.n then b else i) (σ.n + 1)) x'.cells (x.cells.take x'.cells.length))
    (hr : Rn (fun i => if i = σ.n then b else i) (σ.n + 1) r' r) (hK : K r' (σ.add x')) : Fin σ K r σ1 := by
  refine ⟨fun i => if i = σ.n then b else i, σ.add x', r', ⟨Nat.le_succ _, fun i hi => if_neg (by omega), fun i i' y y' hy hy' hne => ?_, fun i y hy => ?_, hr⟩, hK⟩
  · have hold : ∀ i y, (σ.add x').m i = some y → i ≠ σ.n → i < σ.n := by
      intro i y hy hi
      simp only [Hp.add, if_neg hi] at hy
      exact hlt i y hy
    by_cases h1 : i = σ.n
    · have h2 : i' ≠ σ.n := fun e => hne (h1.trans e.symm)
      have := hold i' y' hy' h2
      simp only [if_pos h1, if_neg h2]
      omega
    · have := hold i y hy h1
      by_cases h2 : i' = σ.n
      · simp only [if_neg h1, if_pos h2]
        omega
      · simp only [if_neg h1, if_neg h2]
        exact hne
  · by_cases h1 : i = σ.n
    · subst h1
      simp only [Hp.add, if_pos trivial] at hy
      injection hy with hy
      subst hy
      exact .inr ⟨Nat.lt_succ_self _, x, by simp only [if_pos trivial]; exact hx, he, ho, hc⟩
    · simp only [Hp.add, if_neg h1] at hy
      exact .inl ⟨hy, (h.2 i (hlt i y hy)).trans hy⟩
end

section
variable {T : Specs}
/-- A loop: what holds at each round's head; a number that each round lowers. -/
theorem wpA_loop (hT : MonoT T) {b : AC} {Q : AExit → Env → Hp → Prop} {e : Env} {σ : Hp} (I : Env → Hp → Prop) (m : Env → Hp → Nat) (h0 : I e σ)
    (hs : ∀ e σ, I e σ → wpA T b (fun x e' σ' => match x with
      | .normal => I e' σ' ∧ m e' σ' < m e σ
      | x => Q x e' σ') e σ) : wpA T (.loop b) Q e σ := by
  have key : ∀ n e σ, I e σ → m e σ < n → wpLoop (wpA T b) Q n e σ := by
    intro n
    induction n with
    | zero => intro e σ _ h; omega
    | succ n ih =>
      intro e σ hI hm
      simp only [wpLoop]
      refine wpA_mono hT b _ _ (fun x e' σ' hx => ?_) e σ (hs e σ hI)
      cases x with
      | normal => exact ih e' σ' hx.1 (by omega)
      | exit id => exact hx
      | ret => exact hx
  exact ⟨m e σ + 1, key _ e σ h0 (Nat.lt_succ_self _)⟩

/-- A thing behind another one: what holds between them. -/
theorem wpA_cut (hT : MonoT T) {a b : AC} {Q : AExit → Env → Hp → Prop} {e : Env} {σ : Hp} (M : Env → Hp → Prop) (ha : wpA T a (fun x e' σ' => match x with
      | .normal => M e' σ'
      | x => Q x e' σ') e σ) (hb : ∀ e' σ', M e' σ' → wpA T b Q e' σ') : wpA T (.seq a b) Q e σ := by
  refine wpA_mono hT a _ _ (fun x e' σ' hx => ?_) e σ ha
  cases x with
  | normal => exact hb e' σ' hx
  | exit id => exact hx
  | ret => exact hx
end

/-- What a function may be taken to answer: arguments, memory, the answer, the memory behind it. -/
abbrev Rel := List Value → Hp → Value → Hp → Prop
def sp (S : Rel) : Spec := fun args σ K => ∃ r σ', S args σ r σ' ∧ K r σ'
abbrev Rels := FuncId → Rel
def sps (U : Rels) : Specs := fun f => sp (U f)
theorem mono_sps (U : Rels) : MonoT (sps U) := fun _ _ _ _ _ hk ⟨r, σ', h1, h2⟩ => ⟨r, σ', h1, hk r σ' h2⟩
def Sound (P : Program) (U : Rels) : Prop := ∀ f, Sim P f (sps U f)

theorem fn_rel {P : Program} {f : FuncId} {af : AFn} {U : Rels} {S : Rel} (h : trFn P f = some af) (hU : Sound P U)
    (hS : ∀ args σ r σ', σ.Ok → S args σ r σ' → wpF (sps U) af args σ (Fin σ fun r1 σ1 => r1 = r ∧ σ1 = σ')) : Sim P f (sp S) := by
  refine Sim.fin (fn_ok h (mono_sps U) hU) fun args σ K hlt hk => ?_
  obtain ⟨r, σ', h1, h2⟩ := hk
  have := hS args σ r σ' hlt h1
  refine ⟨this.1, wpA_mono (mono_sps U) _ _ _ (fun x e s hx => ?_) _ _ this.2⟩
  have hfin : ∀ r1 σ1, Fin σ (fun r1 σ1 => r1 = r ∧ σ1 = σ') r1 σ1 → Fin σ K r1 σ1 := by
    rintro r1 σ1 ⟨ν, s', r', hw, rfl, rfl⟩
    exact ⟨ν, s', r', hw, h2⟩
  cases x with
  | exit id => exact hx
  | normal =>
    simp only at hx ⊢
    split at hx
    · exact hfin _ _ hx
    · exact hx.elim
  | ret =>
    simp only at hx ⊢
    split at hx
    · exact hfin _ _ hx
    · exact hx.elim

/-- A table of what is known, one function more. -/
def Rels.put (U : Rels) (f : FuncId) (S : Rel) : Rels := fun g => if g = f then S else U g
def noRels : Rels := fun _ _ _ _ _ => False
theorem Sound.none (P : Program) : Sound P noRels := fun f B μ σ w args cargs K h => by
  obtain ⟨_, _, h, _⟩ := h
  exact h.elim
theorem Sound.put {P : Program} {U : Rels} (h : Sound P U) {f : FuncId} {S : Rel} (hS : Sim P f (sp S)) : Sound P (U.put f S) := by
  intro g
  show Sim P g (sp (if g = f then S else U g))
  by_cases e : g = f
  · subst e; rw [if_pos rfl]; exact hS
  · rw [if_neg e]; exact h g
end Go.Ab
