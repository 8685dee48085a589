/- The value machine: from the end of a stretch within to the state around it. -/
import Derived.Test.YtbdihjmnbadfhaaGreatDoorV11
namespace Go.V
set_option linter.unusedVariables false
set_option linter.unusedSimpArgs false
open Go.Ab

def srcMu (c : Ctx) : Option Src → Option Nat
  | none => none
  | some x => c.μ x.k
theorem FixTell.get {c ct : Ctx} : ∀ {os : List OSk} {js : List Nat} {bs : List Blk}, FixTell c ct os js bs → js.length = bs.length ∧ os.length = bs.length ∧ ∀ (i j : Nat) (b : Blk), js[i]? = some j → bs[i]? = some b → ∃ o, os[i]? = some o ∧ BlkTell c ct o (some ⟨j, none⟩) b
  | _, _, _, .nil => ⟨rfl, rfl, fun i j b h => by simp at h⟩
  | _, _, _, .cons h1 h2 => by
    obtain ⟨e1, e2, e3⟩ := h2.get
    refine ⟨by simp [e1], by simp [e2], fun i j b hj hb => ?_⟩
    cases i with
    | zero =>
      simp at hj hb
      subst hj; subst hb
      exact ⟨_, rfl, h1⟩
    | succ i =>
      simp at hj hb
      obtain ⟨o, h3, h4⟩ := e3 i j b hj hb
      exact ⟨o, by simpa using h3, h4⟩
theorem FreeTell.get {c ct : Ctx} : ∀ {os : List OSk} {xs : List (Option Src)} {bs : List Blk}, FreeTell c ct os xs bs → xs.length = bs.length ∧ os.length = bs.length ∧ ∀ (i : Nat) (x : Option Src) (b : Blk), xs[i]? = some x → bs[i]? = some b → ∃ o, os[i]? = some o ∧ BlkTell c ct o x b
  | _, _, _, .nil => ⟨rfl, rfl, fun i j b h => by simp at h⟩
  | _, _, _, .cons h1 h2 => by
    obtain ⟨e1, e2, e3⟩ := h2.get
    refine ⟨by simp [e1], by simp [e2], fun i j b hj hb => ?_⟩
    cases i with
    | zero =>
      simp at hj hb
      subst hj; subst hb
      exact ⟨_, rfl, h1⟩
    | succ i =>
      simp at hj hb
      obtain ⟨o, h3, h4⟩ := e3 i j b hj hb
      exact ⟨o, by simpa using h3, h4⟩

theorem BlkTell.blkRel {c ct : Ctx} (hR : Rel c) (hσ : ct.σ = c.σ) {o : OSk} {x : Option Src} {b : Blk} {p : Nat} (h : BlkTell c ct o x b) (hp : sget ct.S p = b) (hμ : b.dim ≠ none → ct.μ p = srcMu c x) : BlkRel ct p := by
  intro d' hd'
  rw [hp] at hd'
  have hμ2 : ct.μ p = srcMu c x := hμ (by rw [hd']; simp)
  clear hμ
  rcases h with ⟨_, h⟩ | ⟨h1, h2⟩
  · subst h; cases hd'
  · cases x with
    | none =>
      obtain ⟨_, s, h3⟩ := h2
      subst h3
      injection hd' with hd'
      subst hd'
      exact ⟨w_pos s, .inl ⟨by simp, by simpa [srcMu] using hμ2⟩⟩
    | some x =>
      obtain ⟨k, cut⟩ := x
      obtain ⟨h3, d, h4, h5, h6⟩ := h2
      simp only [srcMu] at hμ2
      obtain ⟨h7, h8⟩ := hR.blk k d h4
      have hd1 : d'.1 = d.1 ∧ d'.2 ≤ d.2 := by
        cases cut with
        | none =>
          simp only at h5
          rw [h5] at hd'
          injection hd' with hd'
          subst hd'
          exact ⟨rfl, Nat.le_refl _⟩
        | some n =>
          simp only at h5
          rw [h5] at hd'
          injection hd' with hd'
          subst hd'
          exact ⟨rfl, Nat.min_le_right _ _⟩
      refine ⟨by rw [hd1.1]; exact h7, ?_⟩
      rcases h8 with ⟨h9, h10⟩ | ⟨bb, y, cs, rest, h9, h10, h11, h12, h13, h14⟩
      · exact .inl ⟨by omega, hμ2.trans h10⟩
      · have hlen : b.vals.length = d'.2 := blk_vals_len hd'
        refine .inr ⟨bb, y, cs.take b.vals.length, cs.drop b.vals.length ++ rest, hμ2.trans h9, by rw [hσ]; exact h10, by rw [hd1.1]; exact h11, fun hz => ?_, by rw [← List.append_assoc, List.take_append_drop]; exact h13, ?_⟩
        · rw [hp, h1] at hz
          exact h12 (h3 hz)
        · rw [hp]
          exact h6 cs h14

theorem bounded (f : Nat → Nat) : ∀ n, ∃ K, ∀ j, j < n → f j < K
  | 0 => ⟨0, fun j h => by omega⟩
  | n + 1 => by
    obtain ⟨K, h⟩ := bounded f n
    refine ⟨max K (f n + 1), fun j hj => ?_⟩
    rcases Nat.lt_or_ge j n with h1 | h1
    · have := h j h1; omega
    · have : j = n := by omega
      subst this; omega
theorem sget_replicate {n k : Nat} : sget (List.replicate n Blk.dead) k = .dead := by
  induction n generalizing k with
  | zero => rfl
  | succ n ih =>
    cases k with
    | zero => rfl
    | succ k => exact ih
/-- What is put together, before it is known where. -/
theorem decSt_pre {c : Ctx} {N : Nat} {f : Nat → Nat} {fx : List Nat} {sk : SSk} {vals : List VV} {as : List Value} {st : DSt} (hR : Rel c) (h : decSt c.S N fx sk vals = some st) (hf : F2 (VRel c) vals as) :
    ∃ ct0 vs fs bs, encSt f sk st.ls = some (vs, fs, bs) ∧ FixTell c ct0 sk.fix fx fs ∧ FreeTell c ct0 sk.free st.m bs := by
  obtain ⟨K, hK⟩ := bounded f (N + st.m.length)
  have hT : Tell c ⟨fun _ => none, List.replicate K .dead, c.σ, fun _ => False⟩ N f st := by
    have hno : ∀ b, ¬(⟨fun _ => none, List.replicate K .dead, c.σ, fun _ => False⟩ : Ctx).mut b := by
      rintro b (⟨k, h1, _⟩ | h)
      · simp only [sget_replicate] at h1; cases h1
      · exact h
    refine ⟨⟨rfl, fun b _ _ _ => hno b⟩, fun j x hl => ⟨?_, fun d' hd' => ?_⟩, fun k _ _ b _ => hno b⟩
    · simp only [List.length_replicate]
      refine hK j ?_
      rcases hl with ⟨h1, _⟩ | ⟨h1, h2⟩
      · omega
      · rw [nth_eq] at h2
        rcases Nat.lt_or_ge (j - N) st.m.length with h3 | h3
        · omega
        · rw [List.getElem?_eq_none h3] at h2; cases h2
    · simp only [sget_replicate] at hd'; cases hd'
  obtain ⟨vs, fs, bs, h1, _, h2, h3⟩ := decSt_val hR hT h hf
  exact ⟨_, vs, fs, bs, h1, h2, h3⟩

theorem memN_iff {k : Nat} {l : List Nat} : memN k l = true ↔ k ∈ l := by
  induction l with
  | nil => simp [memN]
  | cons a l ih =>
    simp only [memN, List.mem_cons]
    cases h : Nat.beq a k with
    | true =>
      have := Nat.eq_of_beq_eq_true h
      simp [this]
    | false =>
      have : a ≠ k := by rintro rfl; rw [Nat.beq_refl] at h; cases h
      rw [cond_false, ih]
      simp [Ne.symm this]
theorem apart_nodup {l : List Nat} : apart l = true → l.Nodup := by
  induction l with
  | nil => intro _; exact List.nodup_nil
  | cons a l ih =>
    intro h
    simp only [apart] at h
    cases hm : memN a l with
    | true => rw [hm] at h; cases h
    | false =>
      rw [hm] at h
      refine List.nodup_cons.2 ⟨fun h1 => ?_, ih h⟩
      rw [memN_iff.2 h1] at hm; cases hm
theorem freeOf_not {w l : List Nat} (h : freeOf w l = true) {k : Nat} (hk : k ∈ w) : k ∉ l := by
  intro h1
  simp only [freeOf, List.all_eq_true] at h
  have := h k hk
  rw [memN_iff.2 h1] at this
  cases this
theorem ksOf_mem {m : List (Option Src)} {i : Nat} {x : Src} (h : m[i]? = some (some x)) : x.k ∈ ksOf m := by
  induction m generalizing i with
  | nil => simp at h
  | cons a m ih =>
    cases i with
    | zero =>
      simp at h
      subst h
      exact List.mem_cons_self
    | succ i =>
      simp at h
      have := ih h
      cases a with
      | none => exact this
      | some a => exact List.mem_cons_of_mem _ this
theorem ksOf_inj {m : List (Option Src)} (hn : (ksOf m).Nodup) {i j : Nat} {x y : Src} (h : m[i]? = some (some x)) (h' : m[j]? = some (some y)) (e : x.k = y.k) : i = j := by
  induction m generalizing i j with
  | nil => simp at h
  | cons a m ih =>
    cases i with
    | zero =>
      simp at h
      subst h
      cases j with
      | zero => rfl
      | succ j =>
        simp at h'
        have h1 := ksOf_mem h'
        simp only [ksOf, List.nodup_cons] at hn
        rw [e] at hn
        exact (hn.1 h1).elim
    | succ i =>
      simp at h
      cases j with
      | zero =>
        simp at h'
        subst h'
        have h1 := ksOf_mem h
        simp only [ksOf, List.nodup_cons] at hn
        rw [← e] at hn
        exact (hn.1 h1).elim
      | succ j =>
        simp at h'
        have hn' : (ksOf m).Nodup := by
          cases a with
          | none => exact hn
          | some a => exact (List.nodup_cons.1 hn).2
        rw [ih hn' h h']
theorem wrOf_mem {os : List OSk} {m : List (Option Src)} {i : Nat} {x : Src} {o : OSk} (h : m[i]? = some (some x)) (ho : os[i]? = some o) (hr : o.ro = false) : x.k ∈ wrOf os m := by
  induction m generalizing os i with
  | nil => simp at h
  | cons a m ih =>
    cases os with
    | nil => simp at ho
    | cons o' os =>
      cases i with
      | zero =>
        simp at h ho
        subst h; subst ho
        simp only [wrOf, hr, cond_false]
        exact List.mem_cons_self
      | succ i =>
        simp at h ho
        have := ih h ho
        cases a with
        | none => exact this
        | some a =>
          simp only [wrOf]
          cases o'.ro with
          | true => exact this
          | false => exact List.mem_cons_of_mem _ this

theorem may_fz {b : Blk} (h : b.may = true) (hd : b.dim ≠ none) (hz : b.frozen = true) : False := by
  cases b with
  | dead => exact hd rfl
  | cells es z l => simp only [Blk.may, Blk.frozen] at h hz; rw [hz] at h; cases h
  | arr s z l => simp only [Blk.may, Blk.frozen] at h hz; rw [hz] at h; cases h
/-- The state around: what is known of it. -/
structure GT (c c' ct : Ctx) (N : Nat) (f : Nat → Nat) (fx : List Nat) (sk : SSk) (st : DSt) (fs bs : List Blk) : Prop where
  σ : ct.σ = c'.σ
  fb : ct.fb = c.fb
  len : ct.S.length = c.S.length + bs.length
  oth : ∀ k, k < c.S.length → (∀ j, j ∈ fx → f j ≠ k) → sget ct.S k = sget c.S k ∨ sget ct.S k = (sget c.S k).freeze ∨ (sget ct.S k = .dead ∧ (sget c.S k).frozen = false)
  fix : ∀ (i j : Nat) (b : Blk), fx[i]? = some j → fs[i]? = some b → sget ct.S (f j) = b
  fixlt : ∀ j, j ∈ fx → f j < c.S.length
  free : ∀ (i : Nat) (b : Blk), bs[i]? = some b → sget ct.S (c.S.length + i) = b
  fN : ∀ i, f (N + i) = c.S.length + i
  μo : ∀ k, k < c.S.length → ct.μ k = c.μ k
  μn : ∀ (i : Nat) (x : Option Src), st.m[i]? = some x → ct.μ (c.S.length + i) = srcMu c' x
  un : ∀ b y, c.σ.m b = some y → ¬c.own b → c'.σ.m b = some y
  ow : ∀ b y, c.σ.m b = some y → ¬c.own b → ¬c'.own b
  n : c.σ.n ≤ c'.σ.n
  oun : ∀ k, k < c.S.length → (∀ j, j ∈ fx → f j ≠ k) → (sget ct.S k).dim ≠ none → ∀ b y, c.μ k = some b → c.σ.m b = some y → c'.σ.m b = some y
  odis : ∀ k, k < c.S.length → (∀ j, j ∈ fx → f j ≠ k) → (sget ct.S k).dim ≠ none → ∀ s, (s ∈ fx ∨ s ∈ ksOf st.m) → (sget c'.S s).frozen = false → ∀ b, c'.μ s = some b → c.μ k ≠ some b
  wr : ∀ j, j ∈ fx → (sget c'.S j).dim ≠ none → (sget c.S (f j)).dim = (sget c'.S j).dim ∧ c'.μ j = c.μ (f j) ∧ ∀ b y, c.μ (f j) = some b → c.σ.m b = some y → ∃ y', c'.σ.m b = some y' ∧ y'.cells.length = y.cells.length
  wrz : ∀ j, j ∈ fx → (sget c.S (f j)).may = true
  finj : ∀ j j', j ∈ fx → j' ∈ fx → f j = f j' → j = j'
  fbk : ∀ k b, (sget c'.S k).dim ≠ none → c'.μ k = some b → ¬c.fb b
  lk : ∀ j, j < N → j ∉ fx → Lk c' ct (some ⟨j, none⟩) (f j)
  onm : ∀ k, k < c.S.length → (∀ j, j ∈ fx → f j ≠ k) → (sget ct.S k).frozen = false → ∀ b y, c.μ k = some b → c'.σ.m b = some y → c'.mut b
  olent : ∀ k, k < c.S.length → (∀ j, j ∈ fx → f j ≠ k) → (sget ct.S k).frozen = false → ∀ s, s ∈ st.lent → (sget c'.S s).dim ≠ none → ∀ b, c'.μ s = some b → c.μ k ≠ some b
  fbm : ∀ b, c.fb b → c'.mut b
  fxN : ∀ j, j ∈ fx → j < N
  noro : sk.noRo = true

theorem GT.all {c c' ct : Ctx} {N : Nat} {f : Nat → Nat} {fx : List Nat} {sk : SSk} {st : DSt} {fs bs : List Blk} {vals vs : List VV} {as : List Value} (g : GT c c' ct N f fx sk st fs bs) (hR : Rel c) (hR' : Rel c') (hd : decSt c'.S N fx sk vals = some st)
    (he : encSt f sk st.ls = some (vs, fs, bs)) (hf : F2 (VRel c') vals as) : Le c ct ∧ Rel ct ∧ F2 (VRel ct) vs as := by
  obtain ⟨ct0, vs0, fs0, bs0, p1, p2, p3⟩ := decSt_pre (f := f) hR' hd hf
  rw [he] at p1
  injection p1 with p1
  injection p1 with q1 p1
  injection p1 with q2 q3
  subst q1; subst q2; subst q3
  obtain ⟨ap1, ap2⟩ := decSt_apart hd
  have hnd := apart_nodup ap1
  rw [List.nodup_append] at hnd
  obtain ⟨nd1, nd2, nd3⟩ := hnd
  obtain ⟨x1, x2, x3⟩ := p2.get
  obtain ⟨y1, y2, y3⟩ := p3.get
  -- each block of the state around: one that stayed, one that was found, another one
  have hro := g.noro
  unfold SSk.noRo at hro
  rw [Bool.and_eq_true, List.all_eq_true, List.all_eq_true] at hro
  have nro : ∀ (i : Nat) (o : OSk), (sk.fix[i]? = some o ∨ sk.free[i]? = some o) → o.ro = false := by
    intro i o h
    rcases h with h | h
    · simpa using hro.1 o (List.mem_of_getElem? h)
    · simpa using hro.2 o (List.mem_of_getElem? h)
  have fxget : ∀ j, j ∈ fx → ∃ (i : Nat) (b : Blk) (o : OSk), fx[i]? = some j ∧ fs[i]? = some b ∧ sk.fix[i]? = some o ∧ sget ct.S (f j) = b ∧ BlkTell c' ct0 o (some ⟨j, none⟩) b := by
    intro j hj
    obtain ⟨i, hi, e⟩ := List.mem_iff_getElem.1 hj
    have h1 : fx[i]? = some j := by rw [List.getElem?_eq_getElem hi, e]
    have h2 : i < fs.length := by rw [← x1]; exact hi
    obtain ⟨o, h3, h4⟩ := x3 i j _ h1 (List.getElem?_eq_getElem h2)
    exact ⟨i, fs[i], o, h1, List.getElem?_eq_getElem h2, h3, g.fix i j _ h1 (List.getElem?_eq_getElem h2), h4⟩
  have frget : ∀ i, i < bs.length → ∃ (b : Blk) (x : Option Src) (o : OSk), st.m[i]? = some x ∧ bs[i]? = some b ∧ sk.free[i]? = some o ∧ sget ct.S (c.S.length + i) = b ∧ ct.μ (c.S.length + i) = srcMu c' x ∧ BlkTell c' ct0 o x b := by
    intro i hi
    have h2 : i < st.m.length := by rw [y1]; exact hi
    obtain ⟨o, h3, h4⟩ := y3 i _ _ (List.getElem?_eq_getElem h2) (List.getElem?_eq_getElem hi)
    exact ⟨bs[i], st.m[i], o, List.getElem?_eq_getElem h2, List.getElem?_eq_getElem hi, h3, g.free i _ (List.getElem?_eq_getElem hi), g.μn i _ (List.getElem?_eq_getElem h2), h4⟩
  have three : ∀ k, (sget ct.S k).dim ≠ none → (∃ j, j ∈ fx ∧ f j = k) ∨ (k < c.S.length ∧ (∀ j, j ∈ fx → f j ≠ k)) ∨ (∃ i, i < bs.length ∧ k = c.S.length + i) := by
    intro k hk
    have hl := sget_lt hk
    rw [g.len] at hl
    by_cases h1 : k < c.S.length
    · by_cases h2 : ∃ j, j ∈ fx ∧ f j = k
      · exact .inl h2
      · exact .inr (.inl ⟨h1, fun j hj e => h2 ⟨j, hj, e⟩⟩)
    · exact .inr (.inr ⟨k - c.S.length, by omega, by omega⟩)
  -- a block that stayed
  have stay : ∀ j, j ∈ fx → ∀ d, (sget ct.S (f j)).dim = some d → (sget c'.S j).dim = some d ∧ (sget c'.S j).frozen = false ∧ (sget c.S (f j)).dim = some d ∧ c'.μ j = c.μ (f j) := by
    intro j hj d hd'
    obtain ⟨i, b, o, h1, h2, h3, h4, h5⟩ := fxget j hj
    rw [h4] at hd'
    rcases h5 with ⟨_, h5⟩ | ⟨h5, h6, d0, h7, h8, h9⟩
    · subst h5; cases hd'
    · simp only at h8
      rw [h8] at hd'
      injection hd' with hd'
      subst hd'
      obtain ⟨w1, w2, _⟩ := g.wr j hj (by rw [h7]; simp)
      exact ⟨h7, h6 (nro i o (.inl h3)), by rw [w1, h7], w2⟩
  -- a block that was found
  have found : ∀ i, i < bs.length → ∀ d, (sget ct.S (c.S.length + i)).dim = some d → (∃ x, st.m[i]? = some (some x) ∧ (sget c'.S x.k).frozen = false ∧ ct.μ (c.S.length + i) = c'.μ x.k) ∨ ct.μ (c.S.length + i) = none := by
    intro i hi d hd'
    obtain ⟨b, x, o, h1, h2, h3, h4, h5, h6⟩ := frget i hi
    rw [h4] at hd'
    rcases h6 with ⟨_, h6⟩ | ⟨h6, h7⟩
    · subst h6; cases hd'
    · cases x with
      | none => exact .inr h5
      | some x =>
        obtain ⟨k, cut⟩ := x
        exact .inl ⟨_, h1, h7.1 (nro i o (.inr h3)), h5⟩
  -- where a block of the state around comes from
  have orig : ∀ k b, (sget ct.S k).dim ≠ none → ct.μ k = some b → (k < c.S.length ∧ (∀ j, j ∈ fx → f j ≠ k) ∧ c.μ k = some b) ∨
      ∃ s, (s ∈ fx ∨ s ∈ ksOf st.m) ∧ (sget c'.S s).frozen = false ∧ c'.μ s = some b ∧ ((s ∈ fx ∧ k = f s) ∨ ∃ i x, st.m[i]? = some (some x) ∧ x.k = s ∧ k = c.S.length + i) := by
    intro k b hk hm
    cases hdd : (sget ct.S k).dim with
    | none => exact (hk hdd).elim
    | some d =>
      rcases three k hk with ⟨j, hj, rfl⟩ | ⟨h1, h2⟩ | ⟨i, hi, rfl⟩
      · obtain ⟨h1, h2, h3, h4⟩ := stay j hj d hdd
        exact .inr ⟨j, .inl hj, h2, by rw [h4, ← g.μo _ (g.fixlt j hj)]; exact hm, .inl ⟨hj, rfl⟩⟩
      · exact .inl ⟨h1, h2, by rw [← g.μo k h1]; exact hm⟩
      · rcases found i hi d hdd with ⟨x, h1, h2, h3⟩ | h1
        · exact .inr ⟨x.k, .inr (ksOf_mem h1), h2, by rw [← h3]; exact hm, .inr ⟨i, x, h1, rfl, rfl⟩⟩
        · rw [h1] at hm; cases hm
  have othdim : ∀ k, k < c.S.length → (∀ j, j ∈ fx → f j ≠ k) → (sget ct.S k).dim ≠ none → (sget ct.S k = sget c.S k ∨ sget ct.S k = (sget c.S k).freeze) := by
    intro k h1 h2 h3
    rcases g.oth k h1 h2 with h | h | ⟨h, _⟩
    · exact .inl h
    · exact .inr h
    · rw [h] at h3; exact (h3 rfl).elim
  have othfz : ∀ k, k < c.S.length → (∀ j, j ∈ fx → f j ≠ k) → (sget ct.S k).frozen = false → sget ct.S k = sget c.S k := by
    intro k h1 h2 h3
    rcases othdim k h1 h2 (dim_fz h3) with h | h
    · exact h
    · rw [h, fz_freeze] at h3; cases h3
  have hle : Le c ct := by
    refine ⟨by rw [g.len]; exact Nat.le_add_right _ _, fun k d hk hd' => ⟨?_, g.μo k hk⟩, fun k hz hdm => ?_, fun k d b y hk hd' hm hy => ?_, fun b y hy hn => by rw [g.σ]; exact g.un b y hy hn, fun b y hy hn => ?_, by rw [g.σ]; exact g.n, g.fb⟩
    · rcases three k (by rw [hd']; simp) with ⟨j, hj, rfl⟩ | ⟨h1, h2⟩ | ⟨i, hi, rfl⟩
      · exact (stay j hj d hd').2.2.1
      · rcases othdim k h1 h2 (by rw [hd']; simp) with h | h
        · rw [← h]; exact hd'
        · rw [h, dim_freeze] at hd'; exact hd'
      · omega
    · have hk := sget_lt hdm
      by_cases h2 : ∃ j, j ∈ fx ∧ f j = k
      · obtain ⟨j, hj, rfl⟩ := h2
        exact (may_fz (g.wrz j hj) hdm hz).elim
      · rcases g.oth k hk (fun j hj e => h2 ⟨j, hj, e⟩) with h | h | ⟨_, h⟩
        · exact h
        · rw [h, freeze_id hz]
        · rw [h] at hz; cases hz
    · rw [g.σ]
      rcases three k (by rw [hd']; simp) with ⟨j, hj, rfl⟩ | ⟨h1, h2⟩ | ⟨i, hi, rfl⟩
      · obtain ⟨h1, h2, h3, h4⟩ := stay j hj d hd'
        exact (g.wr j hj (by rw [h1]; simp)).2.2 b y hm hy
      · exact ⟨y, g.oun k h1 h2 (by rw [hd']; simp) b y hm hy, rfl⟩
      · omega
    · rintro ⟨k, h1, h2⟩
      rcases orig k b (dim_fz h1) h2 with ⟨h3, h4, h5⟩ | ⟨s, h3, h4, h5, _⟩
      · exact hn ⟨k, by rw [← othfz k h3 h4 h1]; exact h1, h5⟩
      · exact g.ow b y hy hn ⟨s, h4, h5⟩
  have hT : Tell c' ct N f st := by
    have hsp : ∀ k b, (sget ct.S k).frozen = false → ct.μ k = some b → (k < c.S.length ∧ (∀ j, j ∈ fx → f j ≠ k) ∧ c.μ k = some b) ∨ ∃ s, (s ∈ fx ∨ s ∈ wrOf sk.free st.m) ∧ (sget c'.S s).frozen = false ∧ c'.μ s = some b := by
      intro k b h1 h2
      rcases orig k b (dim_fz h1) h2 with h | ⟨s, h3, h4, h5, h6⟩
      · exact .inl h
      · refine .inr ⟨s, ?_, h4, h5⟩
        rcases h6 with ⟨h6, _⟩ | ⟨i, x, h6, h7, _⟩
        · exact .inl h6
        · refine .inr ?_
          have hi : i < bs.length := by
            rw [← y1]
            rcases Nat.lt_or_ge i st.m.length with h | h
            · exact h
            · rw [List.getElem?_eq_none h] at h6; cases h6
          obtain ⟨b', x', o, q1, q2, q3, _⟩ := frget i hi
          rw [← h7]
          exact wrOf_mem h6 q3 (nro i o (.inr q3))
    refine ⟨⟨g.σ, fun b y hy hn => ?_⟩, fun j x hl => ?_, fun s hs hsd b hm => ?_⟩
    · rintro (⟨k, h1, h2⟩ | h)
      · rcases hsp k b h1 h2 with ⟨h3, h4, h5⟩ | ⟨s, h3, h4, h5⟩
        · exact hn (g.onm k h3 h4 h1 b y h5 hy)
        · exact hn (.inl ⟨s, h4, h5⟩)
      · rw [g.fb] at h; exact hn (g.fbm b h)
    · rcases hl with ⟨h1, rfl⟩ | ⟨h1, h2⟩
      · by_cases hj : j ∈ fx
        · refine ⟨by rw [g.len]; exact Nat.lt_of_lt_of_le (g.fixlt j hj) (Nat.le_add_right _ _), fun d' hd' => ?_⟩
          obtain ⟨q1, q2, q3, q4⟩ := stay j hj d' hd'
          exact ⟨d', q1, rfl, by rw [g.μo _ (g.fixlt j hj), q4], rfl⟩
        · exact g.lk j h1 hj
      · rw [nth_eq] at h2
        have hi : j - N < bs.length := by
          rw [← y1]
          rcases Nat.lt_or_ge (j - N) st.m.length with h | h
          · exact h
          · rw [List.getElem?_eq_none h] at h2; cases h2
        have hfj : f j = c.S.length + (j - N) := by rw [← g.fN]; congr 1; omega
        rw [hfj]
        refine ⟨by rw [g.len]; omega, fun d' hd' => ?_⟩
        obtain ⟨b, x', o, q1, q2, q3, q4, q5, q6⟩ := frget (j - N) hi
        rw [h2] at q1
        injection q1 with q1
        subst q1
        rw [q4] at hd'
        rcases q6 with ⟨_, q6⟩ | ⟨q6, q7⟩
        · subst q6; cases hd'
        · cases x with
          | none =>
            obtain ⟨_, s, q8⟩ := q7
            subst q8
            injection hd' with hd'
            subst hd'
            exact ⟨by simp, q5⟩
          | some x =>
            obtain ⟨k, cut⟩ := x
            obtain ⟨q8, d, q9, q10, q11⟩ := q7
            refine ⟨d, q9, ?_⟩
            cases cut with
            | none =>
              simp only at q10
              rw [q10] at hd'
              injection hd' with hd'
              subst hd'
              exact ⟨rfl, q5, rfl⟩
            | some n =>
              simp only at q10
              rw [q10] at hd'
              injection hd' with hd'
              subst hd'
              exact ⟨rfl, q5, rfl⟩
    · rintro (⟨k, h1, h2⟩ | h)
      · rcases hsp k b h1 h2 with ⟨h3, h4, h5⟩ | ⟨s', h3, h4, h5⟩
        · exact g.olent k h3 h4 h1 s hs hsd b hm h5
        · have := hR'.inj s' s b h4 hsd h5 hm
          subst this
          exact freeOf_not ap2 (List.mem_append.2 h3) hs
      · rw [g.fb] at h; exact g.fbk s b hsd hm h
  obtain ⟨vs1, fs1, bs1, r1, r2, r3, r4⟩ := decSt_val hR' hT hd hf
  rw [he] at r1
  injection r1 with r1
  injection r1 with e1 r1
  injection r1 with e2 e3
  subst e1; subst e2; subst e3
  obtain ⟨_, _, x4⟩ := r3.get
  obtain ⟨_, _, y4⟩ := r4.get
  refine ⟨hle, ⟨by rw [g.σ]; exact hR'.ok, fun k k' b hk hk' hm hm' => ?_, fun k => ?_, fun k b hk hm hb => ?_, fun b hb => ?_⟩, r2⟩
  · rcases orig k b (dim_fz hk) hm with ⟨h1, h2, h3⟩ | ⟨s, h1, h2, h3, h4⟩
    · rcases orig k' b hk' hm' with ⟨g1, g2, g3⟩ | ⟨s', g1, g2, g3, g4⟩
      · refine hR.inj k k' b (by rw [← othfz k h1 h2 hk]; exact hk) ?_ h3 g3
        rcases othdim k' g1 g2 hk' with h | h
        · rw [← h]; exact hk'
        · rw [h, dim_freeze] at hk'; exact hk'
      · exact (g.odis k h1 h2 (dim_fz hk) s' g1 g2 b g3 h3).elim
    · rcases orig k' b hk' hm' with ⟨g1, g2, g3⟩ | ⟨s', g1, g2, g3, g4⟩
      · exact (g.odis k' g1 g2 hk' s h1 h2 b h3 g3).elim
      · have := hR'.inj s s' b h2 (dim_fz g2) h3 g3
        subst this
        rcases h4 with ⟨h4, h5⟩ | ⟨i, x, h4, h5, h6⟩
        · rcases g4 with ⟨g4, g5⟩ | ⟨i', x', g4, g5, g6⟩
          · rw [h5, g5]
          · subst g5
            exact (nd3 _ h4 _ (ksOf_mem g4) rfl).elim
        · rcases g4 with ⟨g4, g5⟩ | ⟨i', x', g4, g5, g6⟩
          · subst h5
            exact (nd3 _ g4 _ (ksOf_mem h4) rfl).elim
          · rw [h6, g6, ksOf_inj nd2 h4 g4 (h5.trans g5.symm)]
  · by_cases hdm : (sget ct.S k).dim = none
    · intro d hd'
      rw [hdm] at hd'; cases hd'
    · rcases three k hdm with ⟨j, hj, rfl⟩ | ⟨h1, h2⟩ | ⟨i, hi, rfl⟩
      · obtain ⟨i, b, o, q1, q2, q3, q4, q5⟩ := fxget j hj
        obtain ⟨o', q6, q7⟩ := x4 i j b q1 q2
        refine q7.blkRel hR' g.σ q4 fun hb => ?_
        cases hdd : (sget ct.S (f j)).dim with
        | none => exact (hdm hdd).elim
        | some d =>
          obtain ⟨_, _, _, q8⟩ := stay j hj d hdd
          rw [g.μo _ (g.fixlt j hj), ← q8]
          rfl
      · intro d hd'
        have h3 := othdim k h1 h2 hdm
        have hdc : (sget c.S k).dim = some d := by
          rcases h3 with h | h
          · rw [← h]; exact hd'
          · rw [h, dim_freeze] at hd'; exact hd'
        have hvc : (sget ct.S k).vals = (sget c.S k).vals := by
          rcases h3 with h | h
          · rw [h]
          · rw [h, vals_freeze]
        obtain ⟨q1, q2⟩ := hR.blk k d hdc
        refine ⟨q1, ?_⟩
        rcases q2 with ⟨q2, q3⟩ | ⟨b, y, cs, rest, q2, q3, q4, q5, q6, q7⟩
        · exact .inl ⟨q2, (g.μo k h1).trans q3⟩
        · refine .inr ⟨b, y, cs, rest, (g.μo k h1).trans q2, by rw [g.σ]; exact g.oun k h1 h2 hdm b y q2 q3, q4, fun hz => ?_, q6, by rw [hvc]; exact VRel.frames hle q7⟩
          rw [othfz k h1 h2 hz] at hz
          exact q5 hz
      · obtain ⟨b, x, o, q1, q2, q3, q4, q5, q6⟩ := frget i hi
        obtain ⟨o', q7, q8⟩ := y4 i x b q1 q2
        exact q8.blkRel hR' g.σ q4 fun _ => q5
  · rw [g.fb] at hb
    rcases orig k b hk hm with ⟨h1, h2, h3⟩ | ⟨s, h1, h2, h3, _⟩
    · refine hR.fbk k b ?_ h3 hb
      rcases othdim k h1 h2 hk with h | h
      · rw [← h]; exact hk
      · rw [h, dim_freeze] at hk; exact hk
    · exact g.fbk s b (dim_fz h2) h3 hb
  · rw [g.fb] at hb
    rw [g.σ]
    exact Nat.lt_of_lt_of_le (hR.fbl b hb) g.n
end Go.V
