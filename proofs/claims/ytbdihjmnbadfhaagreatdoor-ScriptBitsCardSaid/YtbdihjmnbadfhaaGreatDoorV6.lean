/- The value machine: how memory turns. -/
import Derived.Test.YtbdihjmnbadfhaaGreatDoorV5
namespace Go.V
set_option linter.unusedVariables false
set_option linter.unusedSimpArgs false
open Go.Ab

theorem BlkRel.frame {c c' : Ctx} (hl : Le c c') {k : Nat} (h : BlkRel c k) (hS : sget c'.S k = sget c.S k) (hμ : (sget c.S k).dim ≠ none → c'.μ k = c.μ k) (hσ : ∀ b y, (sget c.S k).dim ≠ none → c.μ k = some b → c.σ.m b = some y → c'.σ.m b = some y) : BlkRel c' k := by
  intro d hd
  rw [hS] at hd
  obtain ⟨h1, h2⟩ := h d hd
  have hm := hμ (by rw [hd]; simp)
  refine ⟨h1, ?_⟩
  rcases h2 with ⟨h3, h4⟩ | ⟨b, y, cs, rest, h3, h4, h5, h6, h7, h8⟩
  · exact .inl ⟨h3, hm.trans h4⟩
  · exact .inr ⟨b, y, cs, rest, hm.trans h3, hσ b y (by rw [hd]; simp) h3 h4, h5, by rw [hS]; exact h6, h7, by rw [hS]; exact VRel.frames hl h8⟩

/-! ### Freezing -/
def Frz (S S' : Store) : Prop := S'.length = S.length ∧ ∀ k, sget S' k = sget S k ∨ sget S' k = (sget S k).freeze
theorem Frz.refl (S : Store) : Frz S S := ⟨rfl, fun _ => .inl rfl⟩
theorem freeze_freeze {b : Blk} : b.freeze.freeze = b.freeze := by cases b <;> rfl
theorem Frz.trans {a b c : Store} (h : Frz a b) (k : Frz b c) : Frz a c := by
  refine ⟨k.1.trans h.1, fun i => ?_⟩
  rcases h.2 i with h1 | h1 <;> rcases k.2 i with h2 | h2
  · exact .inl (h2.trans h1)
  · exact .inr (by rw [h2, h1])
  · exact .inr (h2.trans h1)
  · exact .inr (by rw [h2, h1, freeze_freeze])
theorem Frz.put {S : Store} {k : Nat} : Frz S (sput S k (sget S k).freeze) := by
  refine ⟨sput_len, fun i => ?_⟩
  rw [sget_sput]
  split
  · rename_i h
    rw [h.1]
    exact .inr rfl
  · exact .inl rfl
theorem Frz.fold {f : Store → VV → Store} (hf : ∀ S v, Frz S (f S v)) : ∀ (l : List VV) (S : Store), Frz S (l.foldl f S)
  | [], S => Frz.refl S
  | v :: l, S => (hf S v).trans (Frz.fold hf l _)
theorem fzv_frz : ∀ (n : Nat) (S : Store) (v : VV), Frz S (fzv n S v)
  | 0, S, _ => Frz.refl S
  | n + 1, S, v => by
    have key : ∀ k, Frz S (match sget S k with
        | .cells es _ l => l.foldl (fzv n) (sput S k (.cells es true l))
        | b => sput S k b.freeze) := by
      intro k
      have hp := Frz.put (S := S) (k := k)
      split
      · rename_i es z l h
        rw [h] at hp
        exact Frz.trans hp (Frz.fold (fzv_frz n) l _)
      · exact hp
    unfold fzv
    split
    · exact key _
    · exact key _
    · exact Frz.refl S
theorem fzL_frz (S : Store) (l : List VV) : Frz S (fzL S l) := Frz.fold (fzv_frz 3) l S
theorem fzIn_frz (S : Store) (v : VV) : Frz S (fzIn S v) := by
  unfold fzIn
  split
  · split
    · exact fzL_frz S _
    · exact Frz.refl S
  · split
    · exact fzL_frz S _
    · exact Frz.refl S
  · exact Frz.refl S
theorem fzArg_frz (k : Sk) (v : VV) (S : Store) : Frz S (fzArg k v S) := by
  unfold fzArg
  split
  · exact fzIn_frz S v
  · exact Frz.refl S
theorem fzArgs_frz : ∀ (l : List Sk) (vs : List VV) (S : Store), Frz S (fzArgs l vs S)
  | [], _, S => Frz.refl S
  | _ :: _, [], S => Frz.refl S
  | k :: r, v :: vs, S => (fzArg_frz k v S).trans (fzArgs_frz r vs _)
theorem fzAll_frz : ∀ (l : List Nat) (S : Store), Frz S (fzAll l S)
  | [], S => Frz.refl S
  | _ :: l, S => Frz.put.trans (fzAll_frz l _)

theorem Frz.dim {S S' : Store} (h : Frz S S') (k : Nat) : (sget S' k).dim = (sget S k).dim := by
  rcases h.2 k with h | h <;> rw [h]
  exact dim_freeze
theorem Frz.vals {S S' : Store} (h : Frz S S') (k : Nat) : (sget S' k).vals = (sget S k).vals := by
  rcases h.2 k with h | h <;> rw [h]
  exact vals_freeze
theorem Frz.fz {S S' : Store} (h : Frz S S') {k : Nat} (hz : (sget S' k).frozen = false) : sget S' k = sget S k := by
  rcases h.2 k with h | h
  · exact h
  · rw [h, fz_freeze] at hz; cases hz
theorem Frz.le {c : Ctx} {S' : Store} (h : Frz c.S S') : Le c ⟨c.μ, S', c.σ, c.fb⟩ := by
  refine ⟨Nat.le_of_eq h.1.symm, fun k d _ hd => ⟨(h.dim k) ▸ hd, rfl⟩, fun k hk _ => ?_, fun _ _ _ y _ _ _ hy => ⟨y, hy, rfl⟩, fun b y hy _ => hy, fun b y hy hn => ?_, Nat.le_refl _, rfl⟩
  · rcases h.2 k with h | h
    · exact h
    · exact h.trans (freeze_id hk)
  · rintro ⟨k, h1, h2⟩
    exact hn ⟨k, by rw [← h.fz h1]; exact h1, h2⟩
theorem Frz.rel {c : Ctx} (hR : Rel c) {S' : Store} (h : Frz c.S S') : Rel ⟨c.μ, S', c.σ, c.fb⟩ := by
  refine ⟨hR.ok, fun k k' b hk hk' hm hm' => hR.inj k k' b (by rw [← h.fz hk]; exact hk) (by rw [← h.dim]; exact hk') hm hm', fun k d hd => ?_, fun k b hk hm => hR.fbk k b (by rw [← h.dim]; exact hk) hm, hR.fbl⟩
  have hd' : (sget c.S k).dim = some d := (h.dim k) ▸ hd
  obtain ⟨h1, h2⟩ := hR.blk k d hd'
  refine ⟨h1, ?_⟩
  rcases h2 with h2 | ⟨b, y, cs, rest, h3, h4, h5, h6, h7, h8⟩
  · exact .inl h2
  · exact .inr ⟨b, y, cs, rest, h3, h4, h5, fun hz => h6 (by rw [← h.fz hz]; exact hz), h7, by rw [h.vals k]; exact VRel.frames h.le h8⟩
theorem Frz.calm {c : Ctx} {S' : Store} (d : List Nat) (h : Frz c.S S') : Calm d c ⟨c.μ, S', c.σ, c.fb⟩ := fun k _ _ hk => ⟨by rw [h.dim]; exact hk, fun _ _ => rfl⟩
theorem Calm.trans {a b c : Ctx} {d : List Nat} (h : Calm d a b) (k : Calm d b c) (hl : Le a b) : Calm d a c := by
  intro i hi hd hn
  obtain ⟨h1, h2⟩ := h i hi hd hn
  obtain ⟨h3, h4⟩ := k i (Nat.lt_of_lt_of_le hi hl.len) hd h1
  refine ⟨h3, fun x hx => ?_⟩
  have hx' : b.μ i = some x := by
    cases hb : (sget b.S i).dim with
    | none => exact (h1 hb).elim
    | some z => exact (hl.al i z hi hb).2.trans hx
  exact (h4 x hx').trans (h2 x hx)

/-! ### A block more; one that goes for it -/
def Kills (c : Ctx) (kill : Option Nat) (b : Nat) : Prop := ∃ k, kill = some k ∧ c.μ k = some b
def newMu (c : Ctx) (b1 : Option Nat) : Nat → Option Nat := fun i => if i = c.S.length then b1 else c.μ i
theorem killO_len {S : Store} {kill : Option Nat} : (killO S kill).length = S.length := by cases kill <;> simp [killO, sput_len]
theorem killO_get {S : Store} {kill : Option Nat} {i : Nat} : sget (killO S kill) i = if kill = some i then .dead else sget S i := by
  cases kill with
  | none => simp [killO]
  | some k =>
    simp only [killO, sget_sput, Option.some.injEq]
    by_cases h : i = k
    · subst h
      by_cases h1 : i < S.length
      · simp [h1]
      · simp [h1, sget_out (Nat.le_of_not_lt h1)]
    · simp [h, Ne.symm h]

structure Moves (c : Ctx) (kill : Option Nat) (b1 : Option Nat) (blk : Blk) (σ' : Hp) : Prop where
  fr : ∀ b, b1 = some b → (∀ z, c.σ.m b ≠ some z) → ¬c.fb b
  kz : ∀ k, kill = some k → (sget c.S k).frozen = false
  ok : σ'.Ok
  n : c.σ.n ≤ σ'.n
  old : ∀ i y, c.σ.m i = some y → ¬Kills c kill i → σ'.m i = some y
  one : ∃ d, blk.dim = some d ∧ 1 ≤ d.1 ∧ ((b1 = none ∧ d.2 = 0) ∨ ∃ b y cs rest, b1 = some b ∧ σ'.m b = some y ∧ y.es = d.1 ∧ (blk.frozen = false → y.own = true) ∧ y.cells = cs ++ rest ∧ F2 (VRel c) blk.vals cs ∧ ((∀ z, c.σ.m b ≠ some z) ∨ Kills c kill b))

section
variable {c : Ctx} {kill b1 : Option Nat} {blk : Blk} {σ' : Hp}
theorem moved_get (i : Nat) : sget (killO c.S kill ++ [blk]) i = if i = c.S.length then blk else if kill = some i then .dead else sget c.S i := by
  by_cases h : i = c.S.length
  · subst h
    rw [if_pos rfl, ← killO_len (S := c.S) (kill := kill), sget_new]
  · rw [if_neg h]
    by_cases h1 : i < c.S.length
    · rw [sget_app (by rw [killO_len]; exact h1), killO_get]
    · have h2 : c.S.length < i := by omega
      rw [sget_out (by rw [List.length_append, killO_len]; simp; omega), sget_out (k := i) (S := c.S) (by omega)]
      split <;> rfl
theorem Moves.low (hR : Rel c) (h : Moves c kill b1 blk σ') {i b : Nat} (_ : i ≠ c.S.length) (hk : kill ≠ some i) (hd : (sget c.S i).dim ≠ none) (hm : c.μ i = some b) : ¬Kills c kill b := by
  rintro ⟨k, rfl, h1⟩
  exact hk (congrArg some (hR.inj k i b (h.kz k rfl) hd h1 hm))
theorem Moves.le (hR : Rel c) (h : Moves c kill b1 blk σ') : Le c ⟨newMu c b1, killO c.S kill ++ [blk], σ', c.fb⟩ := by
  have hlt : ∀ k, k < c.S.length → k ≠ c.S.length := fun k hk => by omega
  refine ⟨by simp [killO_len], fun k d hk hd => ?_, fun k hz hd => ?_, fun k d b y hk hd hm hy => ?_, fun b y hy hn => h.old b y hy fun ⟨k, e, hm⟩ => hn ⟨k, h.kz k e, hm⟩, fun b y hy hn => ?_, h.n, rfl⟩
  · simp only [moved_get, if_neg (hlt k hk)] at hd
    split at hd
    · cases hd
    · exact ⟨hd, if_neg (hlt k hk)⟩
  · have hk := sget_lt hd
    simp only [moved_get, if_neg (hlt k hk)]
    rw [if_neg]
    intro e
    have := h.kz k e
    rw [hz] at this
    cases this
  · simp only [moved_get, if_neg (hlt k hk)] at hd
    split at hd
    · cases hd
    · rename_i hne
      exact ⟨y, h.old b y hy (h.low hR (hlt k hk) hne (by rw [hd]; simp) hm), rfl⟩
  · have hnk : ¬Kills c kill b := fun ⟨k, e, hm⟩ => hn ⟨k, h.kz k e, hm⟩
    rintro ⟨k, h1, h2⟩
    simp only [moved_get] at h1
    simp only [newMu] at h2
    by_cases hk : k = c.S.length
    · rw [if_pos hk] at h1 h2
      obtain ⟨d, _, _, h3⟩ := h.one
      rcases h3 with ⟨h3, _⟩ | ⟨b', y', cs, rest, h3, _, _, _, _, _, h4⟩
      · rw [h3] at h2; cases h2
      · rw [h3] at h2
        injection h2 with h2
        subst h2
        rcases h4 with h4 | h4
        · exact h4 y hy
        · exact hnk h4
    · rw [if_neg hk] at h1 h2
      split at h1
      · cases h1
      · exact hn ⟨k, h1, h2⟩
theorem Moves.rel (hR : Rel c) (h : Moves c kill b1 blk σ') : Rel ⟨newMu c b1, killO c.S kill ++ [blk], σ', c.fb⟩ := by
  have hle := h.le hR
  have hnew : ∀ i b, i ≠ c.S.length → kill ≠ some i → (sget c.S i).dim ≠ none → c.μ i = some b → b1 ≠ some b := by
    intro i b hi hk hd hm e
    obtain ⟨d, _, _, h3⟩ := h.one
    rcases h3 with ⟨h3, _⟩ | ⟨b', y', cs, rest, h3, _, _, _, _, _, h4⟩
    · rw [h3] at e; cases e
    · rw [h3] at e
      injection e with e
      subst e
      rcases h4 with h4 | h4
      · cases hdd : (sget c.S i).dim with
        | none => exact hd hdd
        | some dd =>
          obtain ⟨y, _, _, hy, _⟩ := hR.block hdd hm
          exact h4 y hy
      · exact h.low hR hi hk hd hm h4
  have hfb : ∀ b, c.fb b → b1 ≠ some b := by
    intro b hb e
    obtain ⟨d, _, _, h3⟩ := h.one
    rcases h3 with ⟨h3, _⟩ | ⟨b', y', cs, rest, h3, _, _, _, _, _, h4⟩
    · rw [h3] at e; cases e
    · rw [h3] at e
      injection e with e
      subst e
      rcases h4 with h4 | ⟨k, h4, h5⟩
      · exact h.fr _ h3 h4 hb
      · exact hR.fbk k _ (dim_fz (h.kz k h4)) h5 hb
  refine ⟨h.ok, fun k k' b hk hk' hm hm' => ?_, fun k => ?_, fun k b hk hm hb => ?_, fun b hb => Nat.lt_of_lt_of_le (hR.fbl b hb) h.n⟩
  rotate_left 2
  · simp only [moved_get] at hk
    simp only [newMu] at hm
    by_cases h1 : k = c.S.length
    · rw [if_pos h1] at hm
      exact hfb b hb hm
    · rw [if_neg h1] at hm hk
      split at hk
      · exact hk rfl
      · exact hR.fbk k b hk hm hb
  · simp only [moved_get] at hk hk'
    simp only [newMu] at hm hm'
    by_cases h1 : k = c.S.length <;> by_cases h2 : k' = c.S.length
    · omega
    · rw [if_pos h1] at hm
      rw [if_neg h2] at hm' hk'
      split at hk'
      · exact (hk' rfl).elim
      · rename_i hne
        exact (hnew k' b h2 hne hk' hm' hm).elim
    · rw [if_neg h1] at hm hk
      rw [if_pos h2] at hm'
      split at hk
      · cases hk
      · rename_i hne
        exact (hnew k b h1 hne (dim_fz hk) hm hm').elim
    · rw [if_neg h1] at hm hk
      rw [if_neg h2] at hm' hk'
      split at hk
      · cases hk
      · split at hk'
        · exact (hk' rfl).elim
        · exact hR.inj k k' b hk hk' hm hm'
  · by_cases hk : k = c.S.length
    · subst hk
      intro d hd
      simp only [moved_get, if_true] at hd ⊢
      obtain ⟨d', h1, h2, h3⟩ := h.one
      rw [hd] at h1
      injection h1 with h1
      subst h1
      refine ⟨h2, ?_⟩
      simp only [newMu, if_true]
      rcases h3 with ⟨h3, h4⟩ | ⟨b', y', cs, rest, h3, h4, h5, h6, h7, h8, _⟩
      · exact .inl ⟨h4, h3⟩
      · exact .inr ⟨b', y', cs, rest, h3, h4, h5, h6, h7, VRel.frames hle h8⟩
    · by_cases hne : kill = some k
      · intro d hd
        simp only [moved_get, if_neg hk, if_pos hne] at hd
        cases hd
      · refine (hR.blk k).frame hle ?_ (fun _ => if_neg hk) fun b y hd hm hy => ?_
        · simp only [moved_get, if_neg hk, if_neg hne]
        · exact h.old b y hy (h.low hR hk hne hd hm)
theorem Moves.calm (hR : Rel c) (h : Moves c kill b1 blk σ') {d : List Nat} (hd : ∀ k, kill = some k → k ∈ d) : Calm d c ⟨newMu c b1, killO c.S kill ++ [blk], σ', c.fb⟩ := by
  intro k hk hn hdim
  have h1 : k ≠ c.S.length := by omega
  have h2 : kill ≠ some k := fun e => hn (hd k e)
  simp only [moved_get, if_neg h1, if_neg h2]
  refine ⟨hdim, fun b hm => ?_⟩
  cases hdd : (sget c.S k).dim with
  | none => exact (hdim hdd).elim
  | some dd =>
    obtain ⟨y, _, _, hy, _⟩ := hR.block hdd hm
    rw [hy]
    exact h.old b y hy (h.low hR h1 h2 hdim hm)
end

/-- A block that is new. -/
theorem adds {c : Ctx} (hR : Rel c) {blk : Blk} {x : Ab.Blk} {d : Nat × Nat} (hd : blk.dim = some d) (h1 : 1 ≤ d.1) (he : x.es = d.1) (ho : x.own = true) (hf : F2 (VRel c) blk.vals x.cells) :
    Moves c none (some c.σ.n) blk (c.σ.add x) := by
  refine ⟨(fun b h _ hb => by injection h with h; subst h; exact Nat.lt_irrefl _ (hR.fbl _ hb)), (fun _ h => by cases h), fun b y hy => ?_, Nat.le_succ _, fun i y hy _ => ?_, d, hd, h1, .inr ⟨c.σ.n, x, x.cells, [], rfl, if_pos rfl, he, fun _ => ho, by simp, hf, .inl fun z hz => ?_⟩⟩
  · simp only [Hp.add] at hy ⊢
    split at hy
    · omega
    · have := hR.ok b y hy; omega
  · have := hR.ok i y hy
    simp only [Hp.add]
    rw [if_neg (by omega)]
    exact hy
  · have := hR.ok _ _ hz; omega

/-! ### A block that is written in its place -/
structure Writes (c : Ctx) (k b : Nat) (blk : Blk) (y' : Ab.Blk) : Prop where
  kz : (sget c.S k).frozen = false
  mu : c.μ k = some b
  dim : blk.dim = (sget c.S k).dim
  fz : blk.frozen = false
  one : ∃ y cs rest d, c.σ.m b = some y ∧ (sget c.S k).dim = some d ∧ y'.es = d.1 ∧ y'.own = true ∧ y'.cells.length = y.cells.length ∧ y'.cells = cs ++ rest ∧ F2 (VRel c) blk.vals cs
section
variable {c : Ctx} {k b : Nat} {blk : Blk} {y' : Ab.Blk}
theorem Writes.get (h : Writes c k b blk y') (i : Nat) : sget (sput c.S k blk) i = if i = k then blk else sget c.S i := by
  rw [sget_sput]
  have := sget_lt (dim_fz h.kz)
  by_cases hi : i = k
  · rw [if_pos ⟨hi, this⟩, if_pos hi]
  · rw [if_neg (fun e => hi e.1), if_neg hi]
theorem Writes.low (hR : Rel c) (h : Writes c k b blk y') {i b' : Nat} (hi : i ≠ k) (hd : (sget c.S i).dim ≠ none) (hm : c.μ i = some b') : b' ≠ b := by
  rintro rfl
  exact hi (hR.inj k i b' h.kz hd h.mu hm).symm
theorem Writes.le (hR : Rel c) (h : Writes c k b blk y') : Le c ⟨c.μ, sput c.S k blk, c.σ.set b (some y'), c.fb⟩ := by
  refine ⟨by simp [sput_len], fun i d _ hd => ?_, fun i hz hd => ?_, fun i d x y _ hd hm hy => ?_, fun x y hy hn => ?_, fun x y hy hn => ?_, Nat.le_refl _, rfl⟩
  · simp only [h.get] at hd
    split at hd
    · rename_i e; subst e; exact ⟨h.dim ▸ hd, rfl⟩
    · exact ⟨hd, rfl⟩
  · simp only [h.get]
    rw [if_neg]
    rintro rfl
    rw [h.kz] at hz; cases hz
  · by_cases e : x = b
    · subst e
      obtain ⟨y0, _, _, _, h1, _, _, _, h2, _⟩ := h.one
      rw [hy] at h1
      injection h1 with h1
      subst h1
      exact ⟨y', by simp [Hp.set], h2⟩
    · exact ⟨y, by simp [Hp.set, e, hy], rfl⟩
  · have hne : x ≠ b := by rintro rfl; exact hn ⟨k, h.kz, h.mu⟩
    simp [Hp.set, hne, hy]
  · rintro ⟨i, h1, h2⟩
    simp only [h.get] at h1
    split at h1
    · rename_i e; subst e; exact hn ⟨i, h.kz, h2⟩
    · exact hn ⟨i, h1, h2⟩
theorem Writes.rel (hR : Rel c) (h : Writes c k b blk y') : Rel ⟨c.μ, sput c.S k blk, c.σ.set b (some y'), c.fb⟩ := by
  have hle := h.le hR
  have hfz : ∀ i, (sget (sput c.S k blk) i).frozen = false → (sget c.S i).frozen = false := by
    intro i hi
    rw [h.get] at hi
    split at hi
    · rename_i e; subst e; exact h.kz
    · exact hi
  have hdm : ∀ i, (sget (sput c.S k blk) i).dim = (sget c.S i).dim := by
    intro i
    rw [h.get]
    split
    · rename_i e; subst e; exact h.dim
    · rfl
  refine ⟨fun x z hz => ?_, fun i j x hi hj hm hm' => hR.inj i j x (hfz i hi) (by rw [← hdm]; exact hj) hm hm', fun i => ?_, fun i x hi hm => hR.fbk i x (by rw [← hdm]; exact hi) hm, hR.fbl⟩
  · simp only [Hp.set] at hz
    split at hz
    · rename_i e
      subst e
      obtain ⟨y, _, _, _, h1, _⟩ := h.one
      exact hR.ok _ _ h1
    · exact hR.ok _ _ hz
  · by_cases e : i = k
    · subst e
      intro d hd
      obtain ⟨y, cs, rest, d', h1, h2, h3, h4, h5, h6, h7⟩ := h.one
      have hd' : (sget c.S i).dim = some d := by rw [← hdm]; exact hd
      rw [hd'] at h2
      injection h2 with h2
      subst h2
      refine ⟨(hR.blk i d hd').1, .inr ⟨b, y', cs, rest, h.mu, by simp [Hp.set], h3, fun _ => h4, h6, ?_⟩⟩
      simp only [h.get, if_true]
      exact VRel.frames hle h7
    · refine (hR.blk i).frame hle (by simp only [h.get, if_neg e]) (fun _ => rfl) fun x z hd hm hz => ?_
      have := h.low hR e hd hm
      simp [Hp.set, this, hz]
theorem Writes.calm (hR : Rel c) (h : Writes c k b blk y') {d : List Nat} (hd : k ∈ d) : Calm d c ⟨c.μ, sput c.S k blk, c.σ.set b (some y'), c.fb⟩ := by
  intro i _ hn hdim
  have hne : i ≠ k := by rintro rfl; exact hn hd
  simp only [h.get, if_neg hne]
  refine ⟨hdim, fun x hm => ?_⟩
  have := h.low hR hne hdim hm
  simp [Hp.set, this]
end
end Go.V
