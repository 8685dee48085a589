/- The value machine: calls. -/
import Derived.Test.YtbdihjmnbadfhaaGreatDoorV13
namespace Go.V
set_option linter.unusedVariables false
set_option linter.unusedSimpArgs false
open Go.Ab

theorem noCut_get : ∀ {m : List (Option Src)}, noCut m = true → ∀ (i : Nat) (x : Option Src), m[i]? = some x → ∃ k, x = some ⟨k, none⟩
  | [], _, i, x, h => by simp at h
  | none :: _, h, _, _, _ => by cases h
  | some ⟨k, some n⟩ :: _, h, _, _, _ => by cases h
  | some ⟨k, none⟩ :: r, h, 0, x, hx => by simp at hx; exact ⟨k, hx.symm⟩
  | some ⟨k, none⟩ :: r, h, i + 1, x, hx => noCut_get (m := r) h i x (by simpa using hx)
theorem fixOf_mem : ∀ {os : List OSk} {i j : Nat}, j ∈ fixOf os i ↔ ∃ p o, os[p]? = some o ∧ o.ro = false ∧ j = i + p
  | [], i, j => by simp [fixOf]
  | o :: os, i, j => by
    simp only [fixOf]
    have ih := @fixOf_mem os (i + 1) j
    constructor
    · intro h
      cases hr : o.ro with
      | true =>
        rw [hr, cond_true] at h
        obtain ⟨p, o', h1, h2, h3⟩ := ih.1 h
        exact ⟨p + 1, o', by simpa using h1, h2, by omega⟩
      | false =>
        rw [hr, cond_false] at h
        rcases List.mem_cons.1 h with h | h
        · exact ⟨0, o, rfl, hr, by omega⟩
        · obtain ⟨p, o', h1, h2, h3⟩ := ih.1 h
          exact ⟨p + 1, o', by simpa using h1, h2, by omega⟩
    · rintro ⟨p, o', h1, h2, h3⟩
      cases p with
      | zero =>
        simp at h1
        subst h1
        rw [h2, cond_false]
        exact List.mem_cons.2 (.inl (by omega))
      | succ p =>
        have := ih.2 ⟨p, o', by simpa using h1, h2, by omega⟩
        cases o.ro with
        | true => exact this
        | false => exact List.mem_cons_of_mem _ this
/-- The blocks that a function may write, here and there. -/
theorem fixOf_map : ∀ {os : List OSk} {m : List (Option Src)} {i : Nat} {f : Nat → Nat}, os.length = m.length → (∀ (p : Nat) (x : Option Src), m[p]? = some x → ∃ k, x = some ⟨k, none⟩ ∧ f (i + p) = k) → (fixOf os i).map f = wrOf os m
  | [], [], i, f, _, _ => rfl
  | [], _ :: _, _, _, h, _ => by simp at h
  | _ :: _, [], _, _, h, _ => by simp at h
  | o :: os, x :: m, i, f, h, hf => by
    obtain ⟨k, h1, h2⟩ := hf 0 x rfl
    subst h1
    have ih := @fixOf_map os m (i + 1) f (by simpa using h) fun p y hy => by
      obtain ⟨k', h3, h4⟩ := hf (p + 1) y (by simpa using hy)
      exact ⟨k', h3, by rw [← h4]; congr 1; omega⟩
    simp only [fixOf, wrOf]
    cases o.ro with
    | true => exact ih
    | false =>
      simp only [cond_false, List.map_cons, ih]
      rw [Nat.add_zero] at h2
      rw [h2]
theorem wrOf_sub : ∀ {os : List OSk} {m : List (Option Src)} {k : Nat}, k ∈ wrOf os m → ∃ (i : Nat) (o : OSk) (x : Src), m[i]? = some (some x) ∧ os[i]? = some o ∧ o.ro = false ∧ x.k = k
  | [], [], k, h => by simp [wrOf] at h
  | [], _ :: _, k, h => by simp [wrOf] at h
  | _ :: _, [], k, h => by simp [wrOf] at h
  | o :: os, none :: m, k, h => by
    obtain ⟨i, o', x, h1, h2, h3, h4⟩ := wrOf_sub (os := os) (m := m) h
    exact ⟨i + 1, o', x, by simpa using h1, by simpa using h2, h3, h4⟩
  | o :: os, some x :: m, k, h => by
    simp only [wrOf] at h
    cases hr : o.ro with
    | true =>
      rw [hr, cond_true] at h
      obtain ⟨i, o', x', h1, h2, h3, h4⟩ := wrOf_sub (os := os) (m := m) h
      exact ⟨i + 1, o', x', by simpa using h1, by simpa using h2, h3, h4⟩
    | false =>
      rw [hr, cond_false] at h
      rcases List.mem_cons.1 h with h | h
      · exact ⟨0, o, x, rfl, rfl, hr, h.symm⟩
      · obtain ⟨i, o', x', h1, h2, h3, h4⟩ := wrOf_sub (os := os) (m := m) h
        exact ⟨i + 1, o', x', by simpa using h1, by simpa using h2, h3, h4⟩
theorem ksOf_get : ∀ {m : List (Option Src)} {k : Nat}, k ∈ ksOf m → ∃ (i : Nat) (x : Src), m[i]? = some (some x) ∧ x.k = k
  | [], k, h => by simp [ksOf] at h
  | none :: m, k, h => by
    obtain ⟨i, x, h1, h2⟩ := ksOf_get (m := m) h
    exact ⟨i + 1, x, by simpa using h1, h2⟩
  | some x :: m, k, h => by
    rcases List.mem_cons.1 h with h | h
    · exact ⟨0, x, rfl, h.symm⟩
    · obtain ⟨i, x', h1, h2⟩ := ksOf_get (m := m) h
      exact ⟨i + 1, x', by simpa using h1, h2⟩
theorem wrOf_nodup : ∀ {os : List OSk} {m : List (Option Src)}, (ksOf m).Nodup → (wrOf os m).Nodup
  | [], [], _ => List.nodup_nil
  | [], _ :: _, _ => List.nodup_nil
  | _ :: _, [], _ => List.nodup_nil
  | o :: os, none :: m, h => wrOf_nodup (os := os) (m := m) h
  | o :: os, some x :: m, h => by
    have h1 := List.nodup_cons.1 h
    have ih := wrOf_nodup (os := os) h1.2
    simp only [wrOf]
    cases o.ro with
    | true => exact ih
    | false =>
      refine List.nodup_cons.2 ⟨fun h2 => h1.1 ?_, ih⟩
      obtain ⟨i, o', x', h3, _, _, h4⟩ := wrOf_sub h2
      rw [← h4]
      exact ksOf_mem h3
/-- What is handed in for reading is lent. -/
theorem ro_lent {S : Store} {N : Nat} : ∀ {os : List OSk} {i : Nat} {st st1 : DSt}, decFree S N os i st = some st1 → ∀ (p : Nat) (o : OSk) (x : Src), os[p]? = some o → o.ro = true → st1.m[i + p]? = some (some x) → x.k ∈ st1.lent
  | [], i, st, st1, h, p, o, x, ho, _, _ => by simp at ho
  | o' :: os, i, st, st1, h, p, o, x, ho, hr, hx => by
    simp only [decFree] at h
    split at h
    · rename_i y hy
      obtain ⟨st2, h1, h2⟩ := bind_some' h
      cases p with
      | succ p => exact ro_lent h2 p o x (by simpa using ho) hr (by rw [← hx]; congr 1; omega)
      | zero =>
        simp at ho
        subst ho
        obtain ⟨t1, t2⟩ := (decO_sub h1).m
        obtain ⟨t3, t4⟩ := (decFree_sub h2).m
        have hx' : st1.m[i]? = some y := by
          rw [← nth_eq, t4, t2]
          exact nth_app (nth_app hy)
        rw [Nat.add_zero, hx'] at hx
        injection hx with hx
        subst hx
        refine (decFree_sub h2).lent _ ?_
        unfold decO at h1
        split at h1
        · cases hr
        · rename_i hxx
          injection hxx with hxx
          subst hxx
          split at h1
          · rename_i es ro l k _ es' fz cs hb
            simp only [OSk.ro] at hr
            subst hr
            cases hk : (Nat.beq es es' && (true || !fz)) with
            | false => rw [hk] at h1; cases h1
            | true =>
              rw [hk, cond_true] at h1
              exact (decL_sub _ _ _ _ h1).lent _ List.mem_cons_self
          · cases h1
        · rename_i hxx
          cases hxx
        · rename_i hxx
          injection hxx with hxx
          subst hxx
          rename_i ro s cut _ _
          simp only [OSk.ro] at hr
          subst hr
          cases hk : (true || !(sget S _).frozen) with
          | false => rw [hk] at h1; cases h1
          | true =>
            rw [hk, cond_true] at h1
            obtain ⟨l, h3, h4⟩ := bind_some' h1
            injection h4 with h4
            subst h4
            exact List.mem_cons_self
        · cases h1
    · cases h

/-- The state in which a function begins. -/
def enterCtx (c : Ctx) (st : DSt) (bs : List Blk) : Ctx := ⟨fun i => match st.m[i]? with
  | some x => srcMu c x
  | none => none, bs, c.σ, fun b => c.mut b ∧ ¬∃ k, (k ∈ ksOf st.m ∨ k ∈ st.lent) ∧ (sget c.S k).dim ≠ none ∧ c.μ k = some b⟩
structure Entered (c c0 : Ctx) (objs : List OSk) (st : DSt) (bs : List Blk) : Prop where
  rel : Rel c0
  sub : ∀ i, (sget c0.S i).dim ≠ none → ∃ x, st.m[i]? = some x ∧ c0.μ i = srcMu c x ∧ ∀ y, x = some y → (sget c.S y.k).dim ≠ none ∧ (y.cut = none → (sget c0.S i).dim = (sget c.S y.k).dim) ∧ ((sget c0.S i).frozen = false → (sget c.S y.k).frozen = false)
  own : ∀ b, c0.own b → c.own b
  fz : ∀ (i : Nat) (o : OSk), objs[i]? = some o → o.ro = true → (sget c0.S i).frozen = true ∧ (sget c0.S i).dim ≠ none
  len : bs.length = objs.length ∧ st.m.length = objs.length
theorem enter {c : Ctx} {sk : SSk} {vals vs : List VV} {as : List Value} {st : DSt} {fs bs : List Blk} (hR : Rel c) (h0 : sk.fix = []) (hd : decSt c.S 0 [] sk vals = some st) (he : encSt id sk st.ls = some (vs, fs, bs)) (hf : F2 (VRel c) vals as) :
    Entered c (enterCtx c st bs) sk.free st bs ∧ F2 (VRel (enterCtx c st bs)) vs as := by
  obtain ⟨ct0, vs0, fs0, bs0, p1, p2, p3⟩ := decSt_pre (f := id) hR hd hf
  rw [he] at p1
  injection p1 with p1
  injection p1 with q1 p1
  injection p1 with q2 q3
  subst q1; subst q2; subst q3
  obtain ⟨ap1, ap2⟩ := decSt_apart hd
  have hnd := apart_nodup ap1
  rw [List.nil_append] at hnd ap2
  obtain ⟨y1, y2, y3⟩ := p3.get
  have sub : ∀ i, (sget bs i).dim ≠ none → ∃ (x : Option Src) (o : OSk), st.m[i]? = some x ∧ sk.free[i]? = some o ∧ BlkTell c ct0 o x (sget bs i) := by
    intro i hi
    have hlt := sget_lt hi
    have hb := List.getElem?_eq_getElem hlt
    have hm : i < st.m.length := by rw [y1]; exact hlt
    obtain ⟨o, h1, h2⟩ := y3 i _ _ (List.getElem?_eq_getElem hm) hb
    rw [sget_nth hb]
    exact ⟨_, o, List.getElem?_eq_getElem hm, h1, h2⟩
  have hmu : ∀ i x, st.m[i]? = some x → (enterCtx c st bs).μ i = srcMu c x := by
    intro i x hx
    show (match st.m[i]? with
      | some x => srcMu c x
      | none => none) = _
    rw [hx]
  -- a block that may be written comes from one that may be written
  have src : ∀ i, (sget bs i).frozen = false → ∀ b, (enterCtx c st bs).μ i = some b → ∃ x, st.m[i]? = some (some x) ∧ (sget c.S x.k).frozen = false ∧ c.μ x.k = some b ∧ x.k ∈ wrOf sk.free st.m := by
    intro i hz b hm
    obtain ⟨x, o, h1, h2, h3⟩ := sub i (dim_fz hz)
    rw [hmu i x h1] at hm
    rcases h3 with ⟨_, h3⟩ | ⟨h3, h4⟩
    · rw [h3] at hz; cases hz
    · cases x with
      | none => cases hm
      | some x =>
        obtain ⟨k, cut⟩ := x
        rw [h3] at hz
        exact ⟨_, h1, h4.1 hz, hm, wrOf_mem h1 h2 hz⟩
  have src2 : ∀ i, (sget bs i).dim ≠ none → ∀ b, (enterCtx c st bs).μ i = some b → ∃ x, st.m[i]? = some (some x) ∧ (sget c.S x.k).dim ≠ none ∧ c.μ x.k = some b := by
    intro i hz b hm
    obtain ⟨x, o, h1, h2, h3⟩ := sub i hz
    rw [hmu i x h1] at hm
    rcases h3 with ⟨_, h3⟩ | ⟨h3, h4⟩
    · rw [h3] at hz; exact (hz rfl).elim
    · cases x with
      | none => cases hm
      | some x =>
        obtain ⟨k, cut⟩ := x
        obtain ⟨_, d, h5, _⟩ := h4
        exact ⟨_, h1, by rw [h5]; simp, hm⟩
  have hT : Tell c (enterCtx c st bs) 0 id st := by
    refine ⟨⟨rfl, fun b y hy hn => ?_⟩, fun j x hl => ?_, fun s hs hsd b hm => ?_⟩
    · rintro (⟨i, h1, h2⟩ | h)
      · obtain ⟨x, _, h3, h4, _⟩ := src i h1 b h2
        exact hn (.inl ⟨x.k, h3, h4⟩)
      · exact hn h.1
    · rcases hl with ⟨h1, _⟩ | ⟨_, h2⟩
      · omega
      · rw [Nat.sub_zero, nth_eq] at h2
        have hlt : j < bs.length := by
          rw [← y1]
          rcases Nat.lt_or_ge j st.m.length with h | h
          · exact h
          · rw [List.getElem?_eq_none h] at h2; cases h2
        refine ⟨hlt, fun d' hd' => ?_⟩
        obtain ⟨x', o, h1, h3, h4⟩ := sub j (by rw [show (sget bs j).dim = some d' from hd']; simp)
        rw [h2] at h1
        injection h1 with h1
        subst h1
        have hd'' : (sget bs j).dim = some d' := hd'
        rcases h4 with ⟨_, h4⟩ | ⟨h4, h5⟩
        · rw [h4] at hd''; cases hd''
        · cases x with
          | none =>
            obtain ⟨_, s, h6⟩ := h5
            rw [h6] at hd''
            injection hd'' with hd''
            subst hd''
            exact ⟨by simp, hmu j _ h2⟩
          | some x =>
            obtain ⟨k, cut⟩ := x
            obtain ⟨_, d, h6, h7, _⟩ := h5
            refine ⟨d, h6, ?_⟩
            cases cut with
            | none =>
              simp only at h7
              rw [h7] at hd''
              injection hd'' with hd''
              subst hd''
              exact ⟨rfl, hmu j _ h2, rfl⟩
            | some n =>
              simp only at h7
              rw [h7] at hd''
              injection hd'' with hd''
              subst hd''
              exact ⟨rfl, hmu j _ h2, rfl⟩
    · rintro (⟨i, h1, h2⟩ | h)
      · obtain ⟨x, _, h3, h4, h5⟩ := src i h1 b h2
        have := hR.inj x.k s b h3 hsd h4 hm
        rw [this] at h5
        exact freeOf_not ap2 h5 hs
      · exact h.2 ⟨s, .inr hs, hsd, hm⟩
  obtain ⟨vs1, fs1, bs1, r1, r2, r3, r4⟩ := decSt_val hR hT hd hf
  rw [he] at r1
  injection r1 with r1
  injection r1 with e1 r1
  injection r1 with e2 e3
  subst e1; subst e2; subst e3
  obtain ⟨_, _, y4⟩ := r4.get
  refine ⟨⟨⟨hR.ok, fun i i' b hz hdm hm hm' => ?_, fun i => ?_, fun i b hdm hm hb => ?_, fun b hb => ?_⟩, fun i hi => ?_, fun b hb => ?_, fun i o ho hr => ?_, ⟨y2.symm, by rw [y1, y2]⟩⟩, r2⟩
  · obtain ⟨x, h1, h2, h3, _⟩ := src i hz b hm
    obtain ⟨x', h4, h5, h6⟩ := src2 i' hdm b hm'
    exact ksOf_inj hnd h1 h4 (hR.inj _ _ b h2 h5 h3 h6)
  · by_cases hdm : (sget bs i).dim = none
    · intro d hd'
      rw [show (sget (enterCtx c st bs).S i).dim = none from hdm] at hd'; cases hd'
    · have hlt := sget_lt hdm
      have hb := List.getElem?_eq_getElem hlt
      have hm : i < st.m.length := by rw [y1]; exact hlt
      obtain ⟨o, h1, h2⟩ := y4 i _ _ (List.getElem?_eq_getElem hm) hb
      exact h2.blkRel (ct := enterCtx c st bs) hR rfl (sget_nth hb) fun _ => hmu i _ (List.getElem?_eq_getElem hm)
  · obtain ⟨x', h4, h5, h6⟩ := src2 i hdm b hm
    exact hb.2 ⟨x'.k, .inl (ksOf_mem h4), h5, h6⟩
  · rcases hb.1 with ⟨k, h1, h2⟩ | h
    · cases hdd : (sget c.S k).dim with
      | none => exact (dim_fz h1 hdd).elim
      | some d =>
        obtain ⟨y, _, _, hy, _⟩ := hR.block hdd h2
        exact hR.ok b y hy
    · exact hR.fbl b h
  · obtain ⟨x, o, h1, h2, h3⟩ := sub i hi
    refine ⟨x, h1, hmu i x h1, fun y hy => ?_⟩
    subst hy
    rcases h3 with ⟨_, h3⟩ | ⟨h3, h4, d, h5, h6, _⟩
    · rw [show sget (enterCtx c st bs).S i = sget bs i from rfl, h3] at hi; exact (hi rfl).elim
    · refine ⟨by rw [h5]; simp, fun hc => ?_, fun hz => h4 (by rw [← h3]; exact hz)⟩
      rw [hc] at h6
      rw [h5]
      exact h6
  · obtain ⟨i, h1, h2⟩ := hb
    obtain ⟨x, _, h3, h4, _⟩ := src i h1 b h2
    exact ⟨x.k, h3, h4⟩
  · have hi : i < bs.length := by
      rw [← y2]
      rcases Nat.lt_or_ge i sk.free.length with h | h
      · exact h
      · rw [List.getElem?_eq_none h] at ho; cases ho
    have hm : i < st.m.length := by rw [y1]; exact hi
    obtain ⟨o', h1, h2⟩ := y3 i _ _ (List.getElem?_eq_getElem hm) (List.getElem?_eq_getElem hi)
    rw [ho] at h1
    injection h1 with h1
    subst h1
    rw [show sget (enterCtx c st bs).S i = sget bs i from rfl, sget_nth (List.getElem?_eq_getElem hi)]
    rcases h2 with ⟨h2, _⟩ | ⟨h2, h3⟩
    · subst h2; cases hr
    · refine ⟨h2.trans hr, ?_⟩
      cases hx : st.m[i] with
      | none => rw [hx] at h3; obtain ⟨h3, _⟩ := h3; rw [h3] at hr; cases hr
      | some x =>
        obtain ⟨k, cut⟩ := x
        rw [hx] at h3
        obtain ⟨_, d, _, h4, _⟩ := h3
        cases cut with
        | none => simp only at h4; rw [h4]; simp
        | some n => simp only at h4; rw [h4]; simp
end Go.V
