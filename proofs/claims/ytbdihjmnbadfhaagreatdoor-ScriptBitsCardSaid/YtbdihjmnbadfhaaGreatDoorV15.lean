/- The value machine: what a call has left. -/
import Derived.Test.YtbdihjmnbadfhaaGreatDoorV14
namespace Go.V
set_option linter.unusedVariables false
set_option linter.unusedSimpArgs false
open Go.Ab

theorem fzAll_get : ∀ {l : List Nat} {S : Store} {k : Nat}, k ∈ l → (sget (fzAll l S) k).frozen = true
  | [], S, k, h => by simp at h
  | a :: l, S, k, h => by
    simp only [fzAll]
    by_cases hk : k ∈ l
    · exact fzAll_get hk
    · have : k = a := by
        rcases List.mem_cons.1 h with h | h
        · exact h
        · exact (hk h).elim
      subst this
      rcases (fzAll_frz l (sput S k (sget S k).freeze)).2 k with h1 | h1
      · rw [h1, sget_sput]
        split
        · exact fz_freeze
        · rename_i hn
          have : ¬k < S.length := fun e => hn ⟨rfl, e⟩
          rw [sget_out (by omega)]
          rfl
      · rw [h1]; exact fz_freeze

theorem leaveCall {c c0 c' : Ctx} {objs : List OSk} {sk : SSk} {vals vs : List VV} {as : List Value} {st st' : DSt} {fs bs bs0 : List Blk} {Sf : Store} (hR : Rel c) (h0 : c0 = enterCtx c st bs0) (hE : Entered c c0 objs st bs0) (hle : Le c0 c') (hR' : Rel c')
    (hcut : noCut st.m = true) (hok : okFx c.S (wrOf objs st.m) = true) (hnd : (ksOf st.m).Nodup) (hlent : ∀ (i : Nat) (o : OSk) (x : Src), objs[i]? = some o → o.ro = true → st.m[i]? = some (some x) → x.k ∈ st.lent)
    (hro : sk.noRo = true) (hd : decSt c'.S objs.length (fixOf objs 0) sk vals = some st') (he : encSt (actual st.m objs.length c.S.length) sk st'.ls = some (vs, fs, bs)) (hf : F2 (VRel c') vals as) (hS : sputs (wrOf objs st.m) fs (fzAll st.lent c.S) = some Sf) :
    ∃ ct : Ctx, ct.σ = c'.σ ∧ ct.S = Sf ++ bs ∧ ct.fb = c.fb ∧ (∀ k, k < c.S.length → ct.μ k = c.μ k) ∧ Le c ct ∧ Rel ct ∧ F2 (VRel ct) vs as ∧
      (∀ k, k < c.S.length → k ∉ wrOf objs st.m → (sget c.S k).dim ≠ none → ∀ b y, c.μ k = some b → c.σ.m b = some y → ct.σ.m b = some y) := by
  have hσ0 : c0.σ = c.σ := by rw [h0]; rfl
  have hfb0 : ∀ b, c0.fb b ↔ (c.mut b ∧ ¬∃ k, (k ∈ ksOf st.m ∨ k ∈ st.lent) ∧ (sget c.S k).dim ≠ none ∧ c.μ k = some b) := by rw [h0]; exact fun b => Iff.rfl
  have hS0 : c0.S = bs0 := by rw [h0]; rfl
  have hfb' : c'.fb = c0.fb := hle.fb
  obtain ⟨l1, l2⟩ := hE.len
  obtain ⟨s1, s2, s3, s4⟩ := sputs_ok hS
  rw [(fzAll_frz st.lent c.S).1] at s2 s4
  have hfz := fzAll_frz st.lent c.S
  -- where a block of the function stands
  have pos : ∀ i, i < objs.length → ∃ k, st.m[i]? = some (some ⟨k, none⟩) ∧ actual st.m objs.length c.S.length i = k := by
    intro i hi
    have hm : i < st.m.length := by omega
    obtain ⟨k, hk⟩ := noCut_get hcut i _ (List.getElem?_eq_getElem hm)
    have h1 : st.m[i]? = some (some ⟨k, none⟩) := by rw [List.getElem?_eq_getElem hm, hk]
    refine ⟨k, h1, ?_⟩
    unfold actual
    rw [show Nat.blt i objs.length = true from Nat.ble_eq_true_of_le hi, cond_true, nth_eq, h1]
  have fmap : (fixOf objs 0).map (actual st.m objs.length c.S.length) = wrOf objs st.m := by
    refine fixOf_map l2.symm fun p x hx => ?_
    have hp : p < objs.length := by
      rw [← l2]
      rcases Nat.lt_or_ge p st.m.length with h | h
      · exact h
      · rw [List.getElem?_eq_none h] at hx; cases hx
    obtain ⟨k, h1, h2⟩ := pos p hp
    rw [hx] at h1
    injection h1 with h1
    exact ⟨k, h1, by rw [Nat.zero_add]; exact h2⟩
  have fxlt : ∀ j, j ∈ fixOf objs 0 → j < objs.length ∧ ∃ o, objs[j]? = some o ∧ o.ro = false := by
    intro j hj
    obtain ⟨p, o, h1, h2, h3⟩ := fixOf_mem.1 hj
    rw [Nat.zero_add] at h3
    subst h3
    refine ⟨?_, o, h1, h2⟩
    rcases Nat.lt_or_ge j objs.length with h | h
    · exact h
    · rw [List.getElem?_eq_none h] at h1; cases h1
  have fxw : ∀ j, j ∈ fixOf objs 0 → actual st.m objs.length c.S.length j ∈ wrOf objs st.m := fun j hj => by rw [← fmap]; exact List.mem_map_of_mem hj
  have wfx : ∀ k, k ∈ wrOf objs st.m → ∃ j, j ∈ fixOf objs 0 ∧ actual st.m objs.length c.S.length j = k := fun k hk => by rw [← fmap] at hk; obtain ⟨j, h1, h2⟩ := List.mem_map.1 hk; exact ⟨j, h1, h2⟩
  have oth : ∀ k, (∀ j, j ∈ fixOf objs 0 → actual st.m objs.length c.S.length j ≠ k) → k ∉ wrOf objs st.m := fun k hk h => by obtain ⟨j, h1, h2⟩ := wfx k h; exact hk j h1 h2
  let ct : Ctx := ⟨fun i => if i < c.S.length then c.μ i else match st'.m[i - c.S.length]? with
    | some x => srcMu c' x
    | none => none, Sf ++ bs, c'.σ, c.fb⟩
  have hget : ∀ k, k < c.S.length → sget ct.S k = sget Sf k := fun k hk => sget_app (by rw [s2]; exact hk)
  have hoth : ∀ k, k < c.S.length → k ∉ wrOf objs st.m → sget ct.S k = sget (fzAll st.lent c.S) k := fun k hk hn => by rw [hget k hk, s3 k hn]
  -- what is written within, of what was there, is what was handed in for that
  have own0 : ∀ b, c0.own b → ∃ k, k ∈ wrOf objs st.m ∧ (sget c.S k).frozen = false ∧ c.μ k = some b := by
    rintro b ⟨i, h1, h2⟩
    obtain ⟨x, h3, h4, h5⟩ := hE.sub i (dim_fz h1)
    rw [h4] at h2
    cases x with
    | none => cases h2
    | some x =>
      obtain ⟨h6, _, h8⟩ := h5 x rfl
      have hi : i < objs.length := by
        rw [← l2]
        rcases Nat.lt_or_ge i st.m.length with h | h
        · exact h
        · rw [List.getElem?_eq_none h] at h3; cases h3
      have ho : objs[i]? = some objs[i] := List.getElem?_eq_getElem hi
      refine ⟨x.k, wrOf_mem h3 ho ?_, h8 h1, h2⟩
      cases hr : (objs[i]).ro with
      | false => rfl
      | true => rw [(hE.fz i _ ho hr).1] at h1; cases h1
  have nown : ∀ k, k ∉ wrOf objs st.m → (sget c.S k).dim ≠ none → ∀ b, c.μ k = some b → ¬c0.own b := by
    intro k hk hdm b hm h
    obtain ⟨k', h1, h2, h3⟩ := own0 b h
    have := hR.inj k' k b h2 hdm h3 hm
    subst this
    exact hk h1
  have hun : ∀ k, k < c.S.length → k ∉ wrOf objs st.m → (sget c.S k).dim ≠ none → ∀ b y, c.μ k = some b → c.σ.m b = some y → c'.σ.m b = some y := fun k _ hk hdm b y hm hy => hle.un b y (by rw [hσ0]; exact hy) (nown k hk hdm b hm)
  have exists_blk : ∀ k b, (sget c.S k).dim ≠ none → c.μ k = some b → ∃ y, c.σ.m b = some y := by
    intro k b hdm hm
    cases hdd : (sget c.S k).dim with
    | none => exact (hdm hdd).elim
    | some d =>
      obtain ⟨y, _, _, hy, _⟩ := hR.block hdd hm
      exact ⟨y, hy⟩
  have dimo : ∀ k, k < c.S.length → k ∉ wrOf objs st.m → (sget ct.S k).dim = (sget c.S k).dim := fun k hk hn => by rw [hoth k hk hn]; exact hfz.dim k
  -- a block that may be written around is not one that was handed in
  have notin : ∀ k, k < c.S.length → k ∉ wrOf objs st.m → (sget ct.S k).frozen = false → ∀ b, c.μ k = some b → (sget c.S k).frozen = false ∧ ¬∃ k', (k' ∈ ksOf st.m ∨ k' ∈ st.lent) ∧ (sget c.S k').dim ≠ none ∧ c.μ k' = some b := by
    intro k hk hn hz b hm
    rw [hoth k hk hn] at hz
    have hz' : (sget c.S k).frozen = false := by rw [← hfz.fz hz]; exact hz
    refine ⟨hz', ?_⟩
    rintro ⟨k', h1, h2, h3⟩
    have := hR.inj k k' b hz' h2 hm h3
    subst this
    have hnl : k ∉ st.lent := fun e => by rw [fzAll_get e] at hz; cases hz
    rcases h1 with h1 | h1
    · obtain ⟨i, x, h4, h5⟩ := ksOf_get h1
      have hi : i < objs.length := by
        rw [← l2]
        rcases Nat.lt_or_ge i st.m.length with h | h
        · exact h
        · rw [List.getElem?_eq_none h] at h4; cases h4
      have ho : objs[i]? = some objs[i] := List.getElem?_eq_getElem hi
      cases hr : (objs[i]).ro with
      | true => exact hnl (by rw [← h5]; exact hlent i _ x ho hr h4)
      | false => exact hn (by rw [← h5]; exact wrOf_mem h4 ho hr)
    · exact hnl h1
  have g : GT c c' ct objs.length (actual st.m objs.length c.S.length) (fixOf objs 0) sk st' fs bs := by
    refine ⟨rfl, rfl, by simp [ct, s2], fun k hk hn => ?_, fun i j b hi hb => ?_, fun j hj => (okFx_get hok (fxw j hj)).1, fun i b hb => ?_, fun i => ?_, fun k hk => if_pos hk, fun i x hx => ?_, fun b y hy hn => hle.un b y (by rw [hσ0]; exact hy) fun e => hn (hE.own b e), fun b y hy hn => hle.ow b y (by rw [hσ0]; exact hy) fun e => hn (hE.own b e), by rw [← hσ0]; exact hle.n, fun k hk hn hdm b y hm hy => ?_, fun k hk hn hdm s hs hz b hm e => ?_, fun j hj hdm => ?_, fun j hj => (okFx_get hok (fxw j hj)).2,
      fun j j' hj hj' e => ?_, fun k b hdm hm hb => ?_, fun j hj hn => ?_, fun k hk hn hz b y hm hy => ?_, fun k hk hn hz s hs hsd b hm e => ?_, fun b hb => ?_, fun j hj => (fxlt j hj).1, hro⟩
    · rw [hoth k hk (oth k hn)]
      rcases hfz.2 k with h | h
      · exact .inl h
      · exact .inr (.inl h)
    · have hj := List.mem_of_getElem? hi
      have hw := fxw j hj
      have hlt := (okFx_get hok hw).1
      show sget ct.S _ = b
      rw [hget _ hlt]
      refine s4 (wrOf_nodup hnd) i _ b ?_ hb hlt
      rw [← fmap, List.getElem?_map, hi]
      rfl
    · show sget (Sf ++ bs) (c.S.length + i) = b
      rw [← s2, sget_app']
      exact sget_nth hb
    · unfold actual
      have : Nat.blt (objs.length + i) objs.length = false := by
        cases hb : Nat.blt (objs.length + i) objs.length with
        | false => rfl
        | true => have := Nat.le_of_ble_eq_true hb; omega
      rw [this, cond_false, Nat.add_sub_cancel_left]
    · show (if c.S.length + i < c.S.length then _ else _) = _
      rw [if_neg (by omega), Nat.add_sub_cancel_left, hx]
    · exact hun k hk (oth k hn) (by rw [← dimo k hk (oth k hn)]; exact hdm) b y hm hy
    · have hdm' : (sget c.S k).dim ≠ none := by rw [← dimo k hk (oth k hn)]; exact hdm
      obtain ⟨y, hy⟩ := exists_blk k b hdm' e
      exact hle.ow b y (by rw [hσ0]; exact hy) (nown k (oth k hn) hdm' b e) ⟨s, hz, hm⟩
    · obtain ⟨k, h1, h2⟩ := pos j (fxlt j hj).1
      have hj0 : j < c0.S.length := by rw [hS0, l1]; exact (fxlt j hj).1
      cases hdd : (sget c'.S j).dim with
      | none => exact (hdm hdd).elim
      | some d =>
        obtain ⟨h3, h4⟩ := hle.al j d hj0 hdd
        obtain ⟨x, h5, h6, h7⟩ := hE.sub j (by rw [h3]; simp)
        rw [h1] at h5
        injection h5 with h5
        subst h5
        obtain ⟨h8, h9, _⟩ := h7 _ rfl
        rw [h2]
        refine ⟨by rw [← h9 rfl, h3], h4.trans h6, fun b y hm hy => hle.ln j d b y hj0 hdd (h6.trans hm) (by rw [hσ0]; exact hy)⟩
    · obtain ⟨k, h1, h2⟩ := pos j (fxlt j hj).1
      obtain ⟨k', h3, h4⟩ := pos j' (fxlt j' hj').1
      rw [h2, h4] at e
      subst e
      exact ksOf_inj hnd h1 h3 rfl
    · have h1 := hR'.fbk k b hdm hm
      rw [hfb', hfb0] at h1
      refine h1 ⟨.inr hb, ?_⟩
      rintro ⟨k', _, h3, h4⟩
      exact hR.fbk k' b h3 h4 hb
    · obtain ⟨k, h1, h2⟩ := pos j hj
      have ho : objs[j]? = some objs[j] := List.getElem?_eq_getElem hj
      have hr : (objs[j]).ro = true := by
        cases hr : (objs[j]).ro with
        | true => rfl
        | false => exact (hn (fixOf_mem.2 ⟨j, _, ho, hr, by omega⟩)).elim
      obtain ⟨h3, h4⟩ := hE.fz j _ ho hr
      obtain ⟨x, h5, h6, h7⟩ := hE.sub j h4
      rw [h1] at h5
      injection h5 with h5
      subst h5
      obtain ⟨h8, h9, _⟩ := h7 _ rfl
      simp only at h8 h9
      have hkl : k < c.S.length := sget_lt h8
      have hkw : k ∉ wrOf objs st.m := by
        intro hk
        obtain ⟨i, o, x, g1, g2, g3, g4⟩ := wrOf_sub hk
        have := ksOf_inj hnd g1 h1 g4
        subst this
        rw [ho] at g2
        injection g2 with g2
        rw [g2, g3] at hr
        cases hr
      have hj0 : j < c0.S.length := by rw [hS0, l1]; exact hj
      have hsame := hle.fz j h3 h4
      rw [h2]
      refine ⟨by simp only [ct, List.length_append, s2]; omega, fun d' hd' => ?_⟩
      rw [dimo k hkl hkw] at hd'
      refine ⟨d', by rw [hsame, h9 trivial]; exact hd', rfl, ?_, rfl⟩
      show (if k < c.S.length then c.μ k else _) = _
      rw [if_pos hkl, (hle.al j d' hj0 (by rw [hsame, h9 trivial]; exact hd')).2, h6]
      rfl
    · obtain ⟨h1, h2⟩ := notin k hk (oth k hn) hz b hm
      exact .inr (by rw [hfb', hfb0]; exact ⟨.inl ⟨k, h1, hm⟩, h2⟩)
    · obtain ⟨h1, h2⟩ := notin k hk (oth k hn) hz b e
      have h3 := hR'.fbk s b hsd hm
      rw [hfb', hfb0] at h3
      exact h3 ⟨.inl ⟨k, h1, e⟩, h2⟩
    · refine .inr ?_
      rw [hfb', hfb0]
      refine ⟨.inr hb, ?_⟩
      rintro ⟨k', _, h3, h4⟩
      exact hR.fbk k' b h3 h4 hb
  obtain ⟨r1, r2, r3⟩ := g.all hR hR' hd he hf
  exact ⟨ct, rfl, rfl, rfl, fun k hk => if_pos hk, r1, r2, r3, hun⟩
end Go.V
