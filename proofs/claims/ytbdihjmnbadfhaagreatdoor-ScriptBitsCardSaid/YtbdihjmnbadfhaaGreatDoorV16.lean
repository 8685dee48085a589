/- The value machine: calls and ways out, as a whole. -/
import Derived.Test.YtbdihjmnbadfhaaGreatDoorV15
namespace Go.V
set_option linter.unusedVariables false
set_option linter.unusedSimpArgs false
open Go.Ab

theorem sputs_any : ∀ {js : List Nat} {bs : List Blk} {S S1 : Store}, js.length = bs.length → ∃ S2, sputs js bs S1 = some S2
  | [], [], _, S1, _ => ⟨S1, rfl⟩
  | [], _ :: _, _, _, h => by simp at h
  | _ :: _, [], _, _, h => by simp at h
  | j :: js, b :: bs, S, S1, h => by
    obtain ⟨S2, h1⟩ := sputs_any (js := js) (bs := bs) (S := S) (S1 := sput S1 j b) (by simpa using h)
    exact ⟨S2, h1⟩
theorem encOs_fz {f : Nat → Nat} : ∀ {os : List OSk} {ls rest : List Leaf} {bs : List Blk}, encOs f os ls = some (bs, rest) → (∀ o, o ∈ os → o.ro = false) → ∀ b, b ∈ bs → b.dim ≠ none → b.frozen = false
  | [], ls, rest, bs, h, _, b, hb, _ => by
    simp only [encOs] at h
    injection h with h
    injection h with h1 h2
    subst h1
    simp at hb
  | o :: os, ls, rest, bs, h, hr, b, hb, hd => by
    simp only [encOs] at h
    obtain ⟨p, h1, h⟩ := bind_some' h
    obtain ⟨q, h2, h⟩ := bind_some' h
    injection h with h
    injection h with h3 h4
    subst h3
    rcases List.mem_cons.1 hb with hb | hb
    · subst hb
      have ho := hr o List.mem_cons_self
      cases o with
      | dead =>
        simp only [encO] at h1
        injection h1 with h1
        rw [← h1] at hd
        exact (hd rfl).elim
      | cells es ro l =>
        simp only [encO] at h1
        obtain ⟨v, h5, h6⟩ := bind_some' h1
        injection h6 with h6
        rw [← h6]
        exact ho
      | arr ro s =>
        cases ls with
        | nil => simp [encO] at h1
        | cons x ls =>
          simp only [encO] at h1
          obtain ⟨v, h5, h6⟩ := bind_some' h1
          injection h6 with h6
          rw [← h6]
          exact ho
    · exact encOs_fz h2 (fun o ho => hr o (List.mem_cons_of_mem _ ho)) b hb hd
theorem encSt_fz {f : Nat → Nat} {sk : SSk} {ls : List Leaf} {vs : List VV} {fs bs : List Blk} (h : encSt f sk ls = some (vs, fs, bs)) (hr : sk.noRo = true) : (∀ b, b ∈ fs → b.dim ≠ none → b.frozen = false) ∧ ∀ b, b ∈ bs → b.dim ≠ none → b.frozen = false := by
  unfold SSk.noRo at hr
  rw [Bool.and_eq_true, List.all_eq_true, List.all_eq_true] at hr
  unfold encSt at h
  obtain ⟨p, h1, h⟩ := bind_some' h
  obtain ⟨q, h2, h⟩ := bind_some' h
  obtain ⟨r, h3, h⟩ := bind_some' h
  split at h
  · injection h with h
    injection h with e1 h
    injection h with e2 e3
    subst e2; subst e3
    exact ⟨encOs_fz (rest := q.2) h2 fun o ho => by simpa using hr.1 o ho, encOs_fz (rest := r.2) h3 fun o ho => by simpa using hr.2 o ho⟩
  · cases h
theorem alAll_false {vs : List VV} {fs bs : List Blk} (h : alAll vs fs bs = false) : alL vs = false ∧ (∀ b, b ∈ fs → alB b = false) ∧ ∀ b, b ∈ bs → alB b = false := by
  unfold alAll at h
  rw [Bool.or_eq_false_iff, Bool.or_eq_false_iff, List.any_eq_false, List.any_eq_false] at h
  exact ⟨h.1.1, fun b hb => by simpa using h.1.2 b hb, fun b hb => by simpa using h.2 b hb⟩
theorem sget_mem {l : List Blk} {i : Nat} (h : (sget l i).dim ≠ none) : sget l i ∈ l := by
  have hi := sget_lt h
  rw [sget_nth (List.getElem?_eq_getElem hi)]
  exact List.getElem_mem hi

/-- The memory after a stretch: where it is told without lists, what stands around is as it was. -/
theorem thaw_puts {c ctf : Ctx} {js : List Nat} {vs : List VV} {as : List Value} {fs bs : List Blk} {Sa Sb S1 S2 : Store} (hR : Rel c) (hle : Le c ctf) (hRf : Rel ctf) (hf : F2 (VRel ctf) vs as) (hal : alAll vs fs bs = false)
    (hz1 : ∀ b, b ∈ fs → b.dim ≠ none → b.frozen = false) (hz2 : ∀ b, b ∈ bs → b.dim ≠ none → b.frozen = false) (hla : Sa.length = c.S.length) (hlb : Sb.length = c.S.length) (hS1 : sputs js fs Sa = some S1) (hS2 : sputs js fs Sb = some S2) (hjs : js.Nodup) (hjl : ∀ j, j ∈ js → j < c.S.length)
    (hS : ctf.S = S1 ++ bs) (hμ : ∀ k, k < c.S.length → ctf.μ k = c.μ k)
    (hoth : ∀ k, k < c.S.length → k ∉ js → (sget Sa k = sget Sb k ∧ ((sget Sa k).dim ≠ none → sget Sa k = sget c.S k)) ∨ (sget Sb k = sget c.S k ∧ sget Sa k = (sget c.S k).freeze))
    (hun : ∀ k, k < c.S.length → k ∉ js → (sget Sa k).dim ≠ none → ∀ b y, c.μ k = some b → c.σ.m b = some y → ctf.σ.m b = some y) :
    Le c ⟨ctf.μ, S2 ++ bs, ctf.σ, ctf.fb⟩ ∧ Rel ⟨ctf.μ, S2 ++ bs, ctf.σ, ctf.fb⟩ ∧ F2 (VRel ⟨ctf.μ, S2 ++ bs, ctf.σ, ctf.fb⟩) vs as := by
  obtain ⟨a1, a2, a3⟩ := alAll_false hal
  obtain ⟨p1, p2, p3, p4⟩ := sputs_ok hS1
  obtain ⟨q1, q2, q3, q4⟩ := sputs_ok hS2
  refine thaw hR hle hRf hf a1 (by rw [hS, List.length_append, List.length_append, p2, q2, hla, hlb]) hμ fun k => ?_
  by_cases hk : k < c.S.length
  · have g1 : sget (S2 ++ bs) k = sget S2 k := sget_app (by rw [q2, hlb]; exact hk)
    have g2 : sget ctf.S k = sget S1 k := by rw [hS]; exact sget_app (by rw [p2, hla]; exact hk)
    by_cases hj : k ∈ js
    · obtain ⟨i, hi, e⟩ := List.mem_iff_getElem.1 hj
      have hi' : i < fs.length := by rw [← p1]; exact hi
      have e1 := p4 hjs i k _ (by rw [List.getElem?_eq_getElem hi, e]) (List.getElem?_eq_getElem hi') (by rw [hla]; exact hk)
      have e2 := q4 hjs i k _ (by rw [List.getElem?_eq_getElem hi, e]) (List.getElem?_eq_getElem hi') (by rw [hlb]; exact hk)
      refine .inl ⟨by rw [g1, g2, e1, e2], fun hdm => .inl ?_⟩
      rw [g2, e1] at hdm ⊢
      exact ⟨hz1 _ (List.getElem_mem hi') hdm, a2 _ (List.getElem_mem hi')⟩
    · rw [g1, g2, q3 k hj, p3 k hj]
      rcases hoth k hk hj with ⟨h1, h2⟩ | ⟨h1, h2⟩
      · exact .inl ⟨h1.symm, fun hdm => .inr ⟨hk, h2 hdm, hun k hk hj hdm⟩⟩
      · exact .inr ⟨hk, h1, h2, fun hdm => hun k hk hj (by rw [h2, dim_freeze]; exact hdm)⟩
  · have h1 : k = c.S.length + (k - c.S.length) := by omega
    have g1 : sget (S2 ++ bs) k = sget bs (k - c.S.length) := by
      rw [h1, ← hlb, ← q2, sget_app']
      congr 1
      omega
    have g2 : sget ctf.S k = sget bs (k - c.S.length) := by
      rw [hS, h1, ← hla, ← p2, sget_app']
      congr 1
      omega
    refine .inl ⟨by rw [g1, g2], fun hdm => .inl ?_⟩
    rw [g2] at hdm ⊢
    exact ⟨hz2 _ (sget_mem hdm) hdm, a3 _ (sget_mem hdm)⟩

theorem returnCall {c c0 c' : Ctx} {objs : List OSk} {sk : SSk} {vals vs : List VV} {as : List Value} {st st' : DSt} {fs bs bs0 : List Blk} {S2 : Store} (hR : Rel c) (h0 : c0 = enterCtx c st bs0) (hE : Entered c c0 objs st bs0) (hle : Le c0 c') (hR' : Rel c')
    (hcut : noCut st.m = true) (hok : okFx c.S (wrOf objs st.m) = true) (hnd : (ksOf st.m).Nodup) (hlent : ∀ (i : Nat) (o : OSk) (x : Src), objs[i]? = some o → o.ro = true → st.m[i]? = some (some x) → x.k ∈ st.lent)
    (hro : sk.noRo = true) (hd : decSt c'.S objs.length (fixOf objs 0) sk vals = some st') (he : encSt (actual st.m objs.length c.S.length) sk st'.ls = some (vs, fs, bs)) (hf : F2 (VRel c') vals as)
    (hS : sputs (wrOf objs st.m) fs (cond (alAll vs fs bs) (fzAll st.lent c.S) c.S) = some S2) :
    ∃ ct : Ctx, ct.σ = c'.σ ∧ ct.S = S2 ++ bs ∧ Le c ct ∧ Rel ct ∧ F2 (VRel ct) vs as ∧ Calm (wrOf objs st.m) c ct := by
  obtain ⟨q1, q2, q3, q4⟩ := sputs_ok hS
  obtain ⟨Sf, hSf⟩ := sputs_any (S := c.S) (S1 := fzAll st.lent c.S) q1
  obtain ⟨ct, e1, e2, e3, e4, e5, e6, e7, e8⟩ := leaveCall hR h0 hE hle hR' hcut hok hnd hlent hro hd he hf hSf
  have calm : ∀ ct' : Ctx, ct'.σ = ct.σ → (∀ k, (sget ct'.S k).dim = (sget ct.S k).dim) → Calm (wrOf objs st.m) c ct' := by
    intro ct' h1 h2 k hk hn hdm
    obtain ⟨_, p2, p3, _⟩ := sputs_ok hSf
    have hl : (fzAll st.lent c.S).length = c.S.length := (fzAll_frz st.lent c.S).1
    refine ⟨?_, fun b hm => ?_⟩
    · rw [h2, e2, sget_app (by rw [p2, hl]; exact hk), p3 k hn, (fzAll_frz st.lent c.S).dim]
      exact hdm
    · cases hdd : (sget c.S k).dim with
      | none => exact (hdm hdd).elim
      | some d =>
        obtain ⟨y, _, _, hy, _⟩ := hR.block hdd hm
        rw [hy, h1]
        exact e8 k hk hn hdm b y hm hy
  cases hal : alAll vs fs bs with
  | true =>
    rw [hal, cond_true, hSf] at hS
    injection hS with hS
    subst hS
    exact ⟨ct, e1, e2, e5, e6, e7, calm ct rfl fun _ => rfl⟩
  | false =>
    rw [hal, cond_false] at hS
    obtain ⟨z1, z2⟩ := encSt_fz he hro
    have hfz := fzAll_frz st.lent c.S
    obtain ⟨r1, r2, r3⟩ := thaw_puts hR e5 e6 e7 hal z1 z2 hfz.1 rfl hSf hS (wrOf_nodup hnd) (fun j hj => (okFx_get hok hj).1) e2 e4 (fun k hk hn => by
      rcases hfz.2 k with h | h
      · exact .inl ⟨h, fun _ => h⟩
      · exact .inr ⟨rfl, h⟩) (fun k hk hn hdm => e8 k hk hn (by rw [← hfz.dim]; exact hdm))
    refine ⟨⟨ct.μ, S2 ++ bs, ct.σ, ct.fb⟩, e1, rfl, r1, r2, r3, calm _ rfl fun k => ?_⟩
    obtain ⟨_, p2, p3, p4⟩ := sputs_ok hSf
    rw [e2]
    show (sget (S2 ++ bs) k).dim = (sget (Sf ++ bs) k).dim
    by_cases hk : k < c.S.length
    · rw [sget_app (S := S2) (by rw [q2, hal]; exact hk), sget_app (S := Sf) (by rw [p2, hfz.1]; exact hk)]
      by_cases hw : k ∈ wrOf objs st.m
      · obtain ⟨i, hi, e⟩ := List.mem_iff_getElem.1 hw
        have hi' : i < fs.length := by rw [← q1]; exact hi
        obtain ⟨_, _, _, t4⟩ := sputs_ok hS
        rw [t4 (wrOf_nodup hnd) i k _ (by rw [List.getElem?_eq_getElem hi, e]) (List.getElem?_eq_getElem hi') hk,
          p4 (wrOf_nodup hnd) i k _ (by rw [List.getElem?_eq_getElem hi, e]) (List.getElem?_eq_getElem hi') (by rw [hfz.1]; exact hk)]
      · obtain ⟨_, _, t3, _⟩ := sputs_ok hS
        rw [t3 k hw, p3 k hw, hfz.dim]
    · have h1 : k = c.S.length + (k - c.S.length) := by omega
      have g1 : sget (S2 ++ bs) k = sget bs (k - c.S.length) := by
        obtain ⟨_, t2, _, _⟩ := sputs_ok hS
        rw [h1, ← t2, sget_app']
        congr 1
        omega
      have g2 : sget (Sf ++ bs) k = sget bs (k - c.S.length) := by
        rw [h1, ← hfz.1, ← p2, sget_app']
        congr 1
        omega
      rw [g1, g2]

/-- Out of a loop, or of a stretch. -/
theorem leaveTo {c c1 c' : Ctx} {fx mov : List Nat} {sk : SSk} {vals vs : List VV} {as : List Value} {st : DSt} {fs bs : List Blk} {S2 : Store} (hR : Rel c) (hR' : Rel c') (hw : Within c c1 fx mov) (hR1 : Rel c1) (hle : Le c1 c')
    (hok : okFx c.S fx = true) (hro : sk.noRo = true) (hd : decSt c'.S c.S.length fx sk vals = some st) (he : encSt id sk st.ls = some (vs, fs, bs)) (hf : F2 (VRel c') vals as) (hS : sputs fx fs (around fx mov (alAll vs fs bs) 0 c.S) = some S2) :
    ∃ ct : Ctx, ct.σ = c'.σ ∧ ct.S = S2 ++ bs ∧ Le c ct ∧ Rel ct ∧ F2 (VRel ct) vs as := by
  obtain ⟨q1, q2, q3, q4⟩ := sputs_ok hS
  obtain ⟨Sf, hSf⟩ := sputs_any (S := c.S) (S1 := around fx mov true 0 c.S) q1
  obtain ⟨ct, e1, e2, e3, e4, e5, e6, e7, e8⟩ := leave hR hR' hw hR1 hle hok hro hd he hf hSf
  cases hal : alAll vs fs bs with
  | true =>
    rw [hal, hSf] at hS
    injection hS with hS
    subst hS
    exact ⟨ct, e1, e2, e5, e6, e7⟩
  | false =>
    rw [hal] at hS
    obtain ⟨z1, z2⟩ := encSt_fz he hro
    obtain ⟨ap1, _⟩ := decSt_apart hd
    have hnd := apart_nodup ap1
    rw [List.nodup_append] at hnd
    obtain ⟨_, p2, p3, _⟩ := sputs_ok hSf
    rw [around_len] at p2
    obtain ⟨r1, r2, r3⟩ := thaw_puts hR e5 e6 e7 hal z1 z2 around_len around_len hSf hS hnd.1 (fun j hj => (okFx_get hok hj).1) e2 e4 (fun k hk hn => by
      rw [around_get hk, around_get hk, Nat.zero_add, memN_false hn]
      cases memN k mov with
      | true =>
        refine .inl ⟨rfl, fun h => ?_⟩
        cases hz : (sget c.S k).frozen with
        | true => rfl
        | false => rw [hz] at h; exact (h rfl).elim
      | false => exact .inr ⟨rfl, rfl⟩) (fun k hk hn hdm => (e8 k hk hn (by rw [e2, sget_app (by rw [p2]; exact hk), p3 k hn]; exact hdm)).2)
    exact ⟨⟨ct.μ, S2 ++ bs, ct.σ, ct.fb⟩, e1, rfl, r1, r2, r3⟩
end Go.V
