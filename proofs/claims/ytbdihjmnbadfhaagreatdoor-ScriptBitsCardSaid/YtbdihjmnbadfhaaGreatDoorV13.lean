/- The value machine: states around loops and joins. -/
import Derived.Test.YtbdihjmnbadfhaaGreatDoorV12
namespace Go.V
set_option linter.unusedVariables false
set_option linter.unusedSimpArgs false
open Go.Ab

theorem around_len {fx mov : List Nat} {fz : Bool} : ∀ {S : Store} {i : Nat}, (around fx mov fz i S).length = S.length
  | [], _ => rfl
  | _ :: r, i => by simp [around, around_len (S := r)]
theorem around_get {fx mov : List Nat} {fz : Bool} : ∀ {S : Store} {i k : Nat}, k < S.length → sget (around fx mov fz i S) k = cond (memN (i + k) mov) (cond (sget S k).frozen (sget S k) .dead) (cond (memN (i + k) fx) (sget S k) (cond fz (sget S k).freeze (sget S k)))
  | [], _, _, h => by simp at h
  | b :: r, i, 0, _ => rfl
  | b :: r, i, k + 1, h => by
    have := around_get (fx := fx) (mov := mov) (fz := fz) (S := r) (i := i + 1) (k := k) (by simpa using h)
    rw [show i + 1 + k = i + (k + 1) by omega] at this
    exact this
theorem sputs_ok : ∀ {js : List Nat} {bs : List Blk} {S S' : Store}, sputs js bs S = some S' → js.length = bs.length ∧ S'.length = S.length ∧ (∀ k, k ∉ js → sget S' k = sget S k) ∧
    (js.Nodup → ∀ (i j : Nat) (b : Blk), js[i]? = some j → bs[i]? = some b → j < S.length → sget S' j = b)
  | [], [], S, S', h => by
    injection h with h; subst h
    exact ⟨rfl, rfl, fun _ _ => rfl, fun _ i j b h => by simp at h⟩
  | [], _ :: _, S, S', h => by cases h
  | _ :: _, [], S, S', h => by cases h
  | j :: js, b :: bs, S, S', h => by
    simp only [sputs] at h
    obtain ⟨h1, h2, h3, h4⟩ := sputs_ok h
    refine ⟨by simp [h1], by rw [h2, sput_len], fun k hk => ?_, fun hn i j' b' hi hb hl => ?_⟩
    · rw [h3 k (fun e => hk (List.mem_cons_of_mem _ e))]
      exact sget_ne (fun e => hk (by rw [e]; exact List.mem_cons_self))
    · rw [List.nodup_cons] at hn
      cases i with
      | zero =>
        simp at hi hb
        subst hi; subst hb
        rw [h3 j hn.1]
        exact sget_at hl
      | succ i =>
        simp at hi hb
        exact h4 hn.2 i j' b' hi hb (by rw [sput_len]; exact hl)

theorem sget_nth : ∀ {l : List Blk} {i : Nat} {b : Blk}, l[i]? = some b → sget l i = b
  | [], i, b, h => by simp at h
  | a :: l, 0, b, h => by simpa [sget] using h
  | a :: l, i + 1, b, h => sget_nth (l := l) (by simpa using h)
/-- Within: what stands around is frozen, and is as it was. -/
structure Within (c c1 : Ctx) (fx mov : List Nat) : Prop where
  le : Le c c1
  fr : ∀ k, k < c.S.length → k ∉ fx → (k ∉ mov ∨ (sget c.S k).frozen = true) → sget c1.S k = (sget c.S k).freeze
  un : ∀ k, k < c.S.length → k ∉ fx → (k ∉ mov ∨ (sget c.S k).frozen = true) → (sget c.S k).dim ≠ none → ∀ b y, c.μ k = some b → c.σ.m b = some y → c1.σ.m b = some y

theorem okFx_get {S : Store} {fx : List Nat} (h : okFx S fx = true) {j : Nat} (hj : j ∈ fx) : j < S.length ∧ (sget S j).may = true := by
  simp only [okFx, List.all_eq_true, Bool.and_eq_true] at h
  obtain ⟨h1, h2⟩ := h j hj
  exact ⟨Nat.le_of_ble_eq_true h1, h2⟩
theorem memN_false {k : Nat} {l : List Nat} (h : k ∉ l) : memN k l = false := by
  cases hb : memN k l with
  | false => rfl
  | true => exact (h (memN_iff.1 hb)).elim
theorem around_other {fx mov : List Nat} {fz : Bool} {S : Store} {k : Nat} (hk : k < S.length) (h1 : k ∉ fx) (h2 : (sget (around fx mov fz 0 S) k).dim ≠ none) : (k ∉ mov ∨ (sget S k).frozen = true) ∧ sget (around fx mov fz 0 S) k = cond fz (sget S k).freeze (sget S k) := by
  rw [around_get hk, Nat.zero_add, memN_false h1] at h2 ⊢
  by_cases hm : k ∈ mov
  · rw [memN_iff.2 hm] at h2 ⊢
    cases hz : (sget S k).frozen with
    | false => rw [hz] at h2; exact (h2 rfl).elim
    | true => exact ⟨.inr rfl, by cases fz <;> simp [freeze_id hz]⟩
  · rw [memN_false hm]
    exact ⟨.inl hm, rfl⟩

/-- From within to around: what stands around stays frozen. -/
theorem leave {c c1 c' : Ctx} {fx mov : List Nat} {sk : SSk} {vals vs : List VV} {as : List Value} {st : DSt} {fs bs : List Blk} {S' : Store} (hR : Rel c) (hR' : Rel c') (hw : Within c c1 fx mov) (hR1 : Rel c1) (hle : Le c1 c')
    (hok : okFx c.S fx = true) (hro : sk.noRo = true) (hd : decSt c'.S c.S.length fx sk vals = some st) (he : encSt id sk st.ls = some (vs, fs, bs)) (hf : F2 (VRel c') vals as) (hS : sputs fx fs (around fx mov true 0 c.S) = some S') :
    ∃ ct : Ctx, ct.σ = c'.σ ∧ ct.S = S' ++ bs ∧ ct.fb = c.fb ∧ (∀ k, k < c.S.length → ct.μ k = c.μ k) ∧ Le c ct ∧ Rel ct ∧ F2 (VRel ct) vs as ∧
      (∀ k, k < c.S.length → k ∉ fx → (sget ct.S k).dim ≠ none → (k ∉ mov ∨ (sget c.S k).frozen = true) ∧ ∀ b y, c.μ k = some b → c.σ.m b = some y → ct.σ.m b = some y) := by
  obtain ⟨s1, s2, s3, s4⟩ := sputs_ok hS
  rw [around_len] at s2 s4
  obtain ⟨ap1, _⟩ := decSt_apart hd
  have hnd := apart_nodup ap1
  rw [List.nodup_append] at hnd
  obtain ⟨nd1, _, _⟩ := hnd
  have hcc := hw.le.trans hle
  have hfb : c'.fb = c.fb := hcc.fb
  let ct : Ctx := ⟨fun i => if i < c.S.length then c.μ i else match st.m[i - c.S.length]? with
    | some x => srcMu c' x
    | none => none, S' ++ bs, c'.σ, c.fb⟩
  have hget : ∀ k, k < c.S.length → sget ct.S k = sget S' k := fun k hk => sget_app (by rw [s2]; exact hk)
  have hoth : ∀ k, k < c.S.length → k ∉ fx → sget ct.S k = sget (around fx mov true 0 c.S) k := fun k hk hn => by rw [hget k hk, s3 k hn]
  have hoth2 : ∀ k, k < c.S.length → k ∉ fx → (sget ct.S k).dim ≠ none → (k ∉ mov ∨ (sget c.S k).frozen = true) ∧ sget ct.S k = (sget c.S k).freeze ∧ sget c'.S k = (sget c.S k).freeze ∧ c'.μ k = c.μ k ∧ (sget c.S k).dim ≠ none := by
    intro k hk hn hdm
    rw [hoth k hk hn] at hdm ⊢
    obtain ⟨h1, h2⟩ := around_other hk hn hdm
    have h3 := hw.fr k hk hn h1
    rw [h2] at hdm
    simp only [cond_true] at hdm h2
    rw [dim_freeze] at hdm
    have h4 : sget c'.S k = (sget c.S k).freeze := by
      rw [hle.fz k (by rw [h3, fz_freeze]) (by rw [h3, dim_freeze]; exact hdm), h3]
    refine ⟨h1, h2, h4, ?_, hdm⟩
    cases hdd : (sget c.S k).dim with
    | none => exact (hdm hdd).elim
    | some d => exact (hcc.al k d hk (by rw [h4, dim_freeze]; exact hdd)).2
  have hun2 : ∀ k, k < c.S.length → k ∉ fx → (sget ct.S k).dim ≠ none → ∀ b y, c.μ k = some b → c.σ.m b = some y → c'.σ.m b = some y := by
    intro k hk hn hdm b y hm hy
    obtain ⟨h1, h2, h3, h4, h5⟩ := hoth2 k hk hn hdm
    have h6 := hw.un k hk hn h1 h5 b y hm hy
    have h7 := hw.fr k hk hn h1
    have hmu1 : c1.μ k = some b := by
      cases hdd : (sget c.S k).dim with
      | none => exact (h5 hdd).elim
      | some d => rw [(hw.le.al k d hk (by rw [h7, dim_freeze]; exact hdd)).2]; exact hm
    have h8 : ¬c1.mut b := hR1.fz_mut (by rw [h7, fz_freeze]) (by rw [h7, dim_freeze]; exact h5) hmu1
    exact hle.un b y h6 fun e => h8 (.inl e)
  have g : GT c c' ct c.S.length id fx sk st fs bs := by
    refine ⟨rfl, rfl, by simp [ct, s2], fun k hk hn => ?_, fun i j b hi hb => ?_, fun j hj => (okFx_get hok hj).1, fun i b hb => ?_, fun _ => rfl, fun k hk => if_pos hk, fun i x hx => ?_, hcc.un, hcc.ow, hcc.n, fun k hk hn hdm b y hm hy => ?_, fun k hk hn hdm s hs hz b hm e => ?_, fun j hj hdm => ?_, fun j hj => (okFx_get hok hj).2,
      fun _ _ _ _ e => e, fun k b hdm hm => ?_, fun j hj hn => ?_, fun k hk hn hz b y hm hy => ?_, fun k hk hn hz s hs hsd b hm e => ?_, fun b hb => ?_, fun j hj => (okFx_get hok hj).1, hro⟩
    · have hn' : k ∉ fx := fun e => hn k e rfl
      rw [hoth k hk hn']
      by_cases hdm : (sget (around fx mov true 0 c.S) k).dim = none
      · rw [around_get hk, Nat.zero_add, memN_false hn'] at hdm ⊢
        by_cases hm : k ∈ mov
        · rw [memN_iff.2 hm] at hdm ⊢
          cases hz : (sget c.S k).frozen with
          | false => exact .inr (.inr ⟨rfl, rfl⟩)
          | true => exact .inl rfl
        · rw [memN_false hm]
          exact .inr (.inl rfl)
      · exact .inr (.inl (around_other hk hn' hdm).2)
    · have hj := List.mem_of_getElem? hi
      have hlt := (okFx_get hok hj).1
      show sget ct.S j = b
      rw [hget j hlt]
      exact s4 nd1 i j b hi hb hlt
    · show sget (S' ++ bs) (c.S.length + i) = b
      rw [← s2, sget_app']
      exact sget_nth hb
    · show (if c.S.length + i < c.S.length then _ else _) = _
      rw [if_neg (by omega), Nat.add_sub_cancel_left, hx]
    · exact hun2 k hk (fun e => hn k e rfl) hdm b y hm hy
    · obtain ⟨h1, h2, h3, h4, h5⟩ := hoth2 k hk (fun e => hn k e rfl) hdm
      have := hR'.inj s k b hz (by rw [h3, dim_freeze]; exact h5) hm (h4.trans e)
      subst this
      rw [h3, fz_freeze] at hz; cases hz
    · have hlt := (okFx_get hok hj).1
      cases hdd : (sget c'.S j).dim with
      | none => exact (hdm hdd).elim
      | some d =>
        obtain ⟨h1, h2⟩ := hcc.al j d hlt hdd
        exact ⟨h1, h2, fun b y hm hy => hcc.ln j d b y hlt hdd hm hy⟩
    · rw [← hfb]; exact hR'.fbk k b hdm hm
    · refine ⟨by simp only [id, ct, List.length_append, s2]; omega, fun d' hd' => ?_⟩
      obtain ⟨h1, h2, h3, h4, h5⟩ := hoth2 j hj hn (by rw [show id j = j from rfl] at hd'; rw [hd']; simp)
      rw [show id j = j from rfl, h2] at hd'
      refine ⟨d', by rw [h3]; exact hd', rfl, ?_, rfl⟩
      show (if j < c.S.length then c.μ j else _) = _
      rw [if_pos hj, h4]
    · obtain ⟨h1, h2, h3, h4, h5⟩ := hoth2 k hk (fun e => hn k e rfl) (dim_fz hz)
      rw [h2, fz_freeze] at hz; cases hz
    · obtain ⟨h1, h2, h3, h4, h5⟩ := hoth2 k hk (fun e => hn k e rfl) (dim_fz hz)
      rw [h2, fz_freeze] at hz; cases hz
    · exact .inr (by rw [hfb]; exact hb)
  obtain ⟨r1, r2, r3⟩ := g.all hR hR' hd he hf
  exact ⟨ct, rfl, rfl, rfl, fun k hk => if_pos hk, r1, r2, r3, fun k hk hn hdm => ⟨(hoth2 k hk hn hdm).1, hun2 k hk hn hdm⟩⟩
end Go.V
namespace Go.V
open Go.Ab
/-- Into a loop. -/
theorem enterLoop {c : Ctx} {fx : List Nat} {sk : SSk} {vals vs : List VV} {as : List Value} {st : DSt} {fs bs : List Blk} {S' : Store} (hR : Rel c)
    (hok : okFx c.S fx = true) (hro : sk.noRo = true) (hd : decSt c.S c.S.length fx sk vals = some st) (he : encSt id sk st.ls = some (vs, fs, bs)) (hf : F2 (VRel c) vals as) (hS : sputs fx fs (around fx (ksOf st.m) true 0 c.S) = some S') :
    ∃ ct : Ctx, ct.σ = c.σ ∧ ct.S = S' ++ bs ∧ ct.fb = c.fb ∧ (∀ k, k < c.S.length → ct.μ k = c.μ k) ∧ Le c ct ∧ Rel ct ∧ F2 (VRel ct) vs as := by
  obtain ⟨s1, s2, s3, s4⟩ := sputs_ok hS
  rw [around_len] at s2 s4
  obtain ⟨ap1, _⟩ := decSt_apart hd
  have hnd := apart_nodup ap1
  rw [List.nodup_append] at hnd
  obtain ⟨nd1, _, _⟩ := hnd
  let ct : Ctx := ⟨fun i => if i < c.S.length then c.μ i else match st.m[i - c.S.length]? with
    | some x => srcMu c x
    | none => none, S' ++ bs, c.σ, c.fb⟩
  have hget : ∀ k, k < c.S.length → sget ct.S k = sget S' k := fun k hk => sget_app (by rw [s2]; exact hk)
  have hoth : ∀ k, k < c.S.length → k ∉ fx → sget ct.S k = sget (around fx (ksOf st.m) true 0 c.S) k := fun k hk hn => by rw [hget k hk, s3 k hn]
  have hoth2 : ∀ k, k < c.S.length → k ∉ fx → (sget ct.S k).dim ≠ none → (k ∉ ksOf st.m ∨ (sget c.S k).frozen = true) ∧ sget ct.S k = (sget c.S k).freeze ∧ (sget c.S k).dim ≠ none := by
    intro k hk hn hdm
    rw [hoth k hk hn] at hdm ⊢
    obtain ⟨h1, h2⟩ := around_other hk hn hdm
    rw [h2] at hdm
    simp only [cond_true] at hdm h2
    rw [dim_freeze] at hdm
    exact ⟨h1, h2, hdm⟩
  have g : GT c c ct c.S.length id fx sk st fs bs := by
    refine ⟨rfl, rfl, by simp [ct, s2], fun k hk hn => ?_, fun i j b hi hb => ?_, fun j hj => (okFx_get hok hj).1, fun i b hb => ?_, fun _ => rfl, fun k hk => if_pos hk, fun i x hx => ?_, fun _ _ h _ => h, fun _ _ _ h => h, Nat.le_refl _, fun k hk hn hdm b y hm hy => hy, fun k hk hn hdm s hs hz b hm e => ?_, fun j hj hdm => ⟨rfl, rfl, fun b y _ hy => ⟨y, hy, rfl⟩⟩, fun j hj => (okFx_get hok hj).2,
      fun _ _ _ _ e => e, fun k b hdm hm => hR.fbk k b hdm hm, fun j hj hn => ?_, fun k hk hn hz b y hm hy => ?_, fun k hk hn hz s hs hsd b hm e => ?_, fun b hb => .inr hb, fun j hj => (okFx_get hok hj).1, hro⟩
    · have hn' : k ∉ fx := fun e => hn k e rfl
      rw [hoth k hk hn']
      by_cases hdm : (sget (around fx (ksOf st.m) true 0 c.S) k).dim = none
      · rw [around_get hk, Nat.zero_add, memN_false hn'] at hdm ⊢
        by_cases hm : k ∈ ksOf st.m
        · rw [memN_iff.2 hm] at hdm ⊢
          cases hz : (sget c.S k).frozen with
          | false => exact .inr (.inr ⟨rfl, rfl⟩)
          | true => exact .inl rfl
        · rw [memN_false hm]
          exact .inr (.inl rfl)
      · exact .inr (.inl (around_other hk hn' hdm).2)
    · have hj := List.mem_of_getElem? hi
      have hlt := (okFx_get hok hj).1
      show sget ct.S j = b
      rw [hget j hlt]
      exact s4 nd1 i j b hi hb hlt
    · show sget (S' ++ bs) (c.S.length + i) = b
      rw [← s2, sget_app']
      exact sget_nth hb
    · show (if c.S.length + i < c.S.length then _ else _) = _
      rw [if_neg (by omega), Nat.add_sub_cancel_left, hx]
    · obtain ⟨h1, h2, h5⟩ := hoth2 k hk (fun e => hn k e rfl) hdm
      have := hR.inj s k b hz h5 hm e
      subst this
      rcases hs with hs | hs
      · exact hn s hs rfl
      · rcases h1 with h1 | h1
        · exact h1 hs
        · rw [h1] at hz; cases hz
    · refine ⟨by simp only [id, ct, List.length_append, s2]; omega, fun d' hd' => ?_⟩
      obtain ⟨h1, h2, h5⟩ := hoth2 j hj hn (by rw [show id j = j from rfl] at hd'; rw [hd']; simp)
      rw [show id j = j from rfl, h2, dim_freeze] at hd'
      refine ⟨d', hd', rfl, ?_, rfl⟩
      show (if j < c.S.length then c.μ j else _) = _
      rw [if_pos hj]
    · obtain ⟨h1, h2, h5⟩ := hoth2 k hk (fun e => hn k e rfl) (dim_fz hz)
      rw [h2, fz_freeze] at hz; cases hz
    · obtain ⟨h1, h2, h5⟩ := hoth2 k hk (fun e => hn k e rfl) (dim_fz hz)
      rw [h2, fz_freeze] at hz; cases hz
  obtain ⟨r1, r2, r3⟩ := g.all hR hR hd he hf
  exact ⟨ct, rfl, rfl, rfl, fun k hk => if_pos hk, r1, r2, r3⟩

/-- A head of a loop, or the start of a stretch, has what stands around frozen. -/
theorem within_of {c c1 : Ctx} {fx mov : List Nat} {fs bs : List Blk} {S' : Store} (hle : Le c c1) (hS : sputs fx fs (around fx mov true 0 c.S) = some S') (h1 : c1.S = S' ++ bs)
    (hun : ∀ k, k < c.S.length → k ∉ fx → (k ∉ mov ∨ (sget c.S k).frozen = true) → (sget c.S k).dim ≠ none → ∀ b y, c.μ k = some b → c.σ.m b = some y → c1.σ.m b = some y) : Within c c1 fx mov := by
  obtain ⟨s1, s2, s3, s4⟩ := sputs_ok hS
  rw [around_len] at s2
  refine ⟨hle, fun k hk hn hm => ?_, hun⟩
  rw [h1, sget_app (by rw [s2]; exact hk), s3 k hn, around_get hk, Nat.zero_add, memN_false hn]
  rcases hm with hm | hz
  · rw [memN_false hm]; rfl
  · cases memN k mov with
    | false => rfl
    | true => rw [hz]; simp [freeze_id hz]

/-! ### Thawing -/
section
variable {ctf ct : Ctx}
theorem VRel.thaw (hμ : ct.μ = ctf.μ) (hσ : ct.σ = ctf.σ) (hl : ct.S.length = ctf.S.length) (hd : ∀ k, (sget ct.S k).dim = (sget ctf.S k).dim) : ∀ {v : VV} {a : Value}, VRel ctf v a → alV v = false → VRel ct v a
  | _, _, .undef a, _ => .undef a
  | _, _, .bool b, _ => .bool b
  | _, _, .int k n, _ => .int k n
  | _, _, .str hs, _ => .str hs
  | _, _, .nilp, _ => .nilp
  | _, _, .nils, _ => .nils
  | _, _, .nilf, _ => .nilf
  | _, _, .ptr hk h1 h2, _ => .ptr (by rw [hl]; exact hk) h1 fun d h => by rw [hd] at h; rw [hμ]; exact h2 d h
  | _, _, .it hk h1 hs h2, _ => .it (by rw [hl]; exact hk) h1 hs fun d h => by rw [hd] at h; rw [hμ]; exact h2 d h
  | _, _, .bld hk h1 h2, _ => .bld (by rw [hl]; exact hk) h1 fun d h => by rw [hd] at h; rw [hμ]; exact h2 d h
  | _, _, .pix hk h1 hi h2, _ => .pix (by rw [hl]; exact hk) h1 hi fun d h => by rw [hd] at h; rw [hμ]; exact h2 d h
  | _, _, .pel hk h1 h2, _ => .pel (by rw [hl]; exact hk) h1 fun d h => by rw [hd] at h; rw [hμ]; exact h2 d h
  | _, _, .pin _ _ _ _, h => by cases h
  | _, _, .lstn _, h => by cases h
  | _, _, .tgtn _, h => by cases h
  | _, _, .tgt _ _ _ _ _, h => by cases h
  | _, _, .lst _ _ _ _ _ _ _, h => by cases h
  | _, _, .full hk h1 h2, _ => .full (by rw [hl]; exact hk) h1 fun d h => by
    rw [hd] at h
    obtain ⟨n, h3, h4⟩ := h2 d h
    refine ⟨n, h3, ?_⟩
    unfold SlR at h4 ⊢
    rw [hμ, hσ]
    exact h4
  | _, _, .part hk h1 h2, _ => .part (by rw [hl]; exact hk) h1 fun d h => by
    rw [hd] at h
    have h4 := h2 d h
    unfold SlR at h4 ⊢
    rw [hμ, hσ]
    exact h4
  | _, _, .fn h1 h2, h => by
    simp only [alV, Bool.or_eq_false_iff] at h
    exact .fn (go h1 h.1) (go h2 h.2)
  | _, _, .agg h1, h => by
    simp only [alV] at h
    exact .agg (go h1 h)
  | _, _, .tup h1, h => by
    simp only [alV] at h
    exact .tup (go h1 h)
where
  go : ∀ {l : List VV} {m : List Value}, F2 (VRel ctf) l m → alL l = false → F2 (VRel ct) l m
    | _, _, .nil, _ => .nil
    | _, _, .cons h1 h2, h => by
      simp only [alL, Bool.or_eq_false_iff] at h
      exact .cons (VRel.thaw hμ hσ hl hd h1 h.1) (go h2 h.2)
theorem toCells_al : ∀ {s : Sh} (x : El s), s.al = false → alL (toCells s x) = false
  | .int _, _, _ => rfl
  | .bool, _, _ => rfl
  | .str, _, _ => rfl
  | .list _, _, h => by cases h
  | .pair a b, x, h => by
    simp only [Sh.al, Bool.or_eq_false_iff] at h
    have h1 := toCells_al x.1 h.1
    have h2 := toCells_al x.2 h.2
    simp only [toCells]
    revert h1
    generalize toCells a x.1 = l
    intro h1
    induction l with
    | nil => exact h2
    | cons v l ih =>
      simp only [alL, Bool.or_eq_false_iff, List.cons_append] at h1 ⊢
      exact ⟨h1.1, ih h1.2⟩
theorem alL_app {l m : List VV} (h1 : alL l = false) (h2 : alL m = false) : alL (l ++ m) = false := by
  induction l with
  | nil => exact h2
  | cons v l ih =>
    simp only [alL, Bool.or_eq_false_iff, List.cons_append] at h1 ⊢
    exact ⟨h1.1, ih h1.2⟩
theorem alB_vals {b : Blk} (h : alB b = false) : alL b.vals = false := by
  cases b with
  | dead => rfl
  | cells es z l => exact h
  | arr s z l =>
    simp only [Blk.vals]
    induction l with
    | nil => rfl
    | cons x l ih => rw [flatL_cons]; exact alL_app (toCells_al x h) (ih h)

/-- What stands around is written again. -/
theorem thaw {c : Ctx} {S2 : Store} {vs : List VV} {as : List Value} (hR : Rel c) (hle : Le c ctf) (hRf : Rel ctf) (hf : F2 (VRel ctf) vs as) (hal : alL vs = false) (hlen : S2.length = ctf.S.length) (hμ : ∀ k, k < c.S.length → ctf.μ k = c.μ k)
    (hk : ∀ k, (sget S2 k = sget ctf.S k ∧ ((sget ctf.S k).dim ≠ none → ((sget ctf.S k).frozen = false ∧ alB (sget ctf.S k) = false) ∨ (k < c.S.length ∧ sget ctf.S k = sget c.S k ∧ ∀ b y, c.μ k = some b → c.σ.m b = some y → ctf.σ.m b = some y))) ∨
      (k < c.S.length ∧ sget S2 k = sget c.S k ∧ sget ctf.S k = (sget c.S k).freeze ∧ ((sget c.S k).dim ≠ none → ∀ b y, c.μ k = some b → c.σ.m b = some y → ctf.σ.m b = some y))) :
    Le c ⟨ctf.μ, S2, ctf.σ, ctf.fb⟩ ∧ Rel ⟨ctf.μ, S2, ctf.σ, ctf.fb⟩ ∧ F2 (VRel ⟨ctf.μ, S2, ctf.σ, ctf.fb⟩) vs as := by
  have hd : ∀ k, (sget S2 k).dim = (sget ctf.S k).dim := by
    intro k
    rcases hk k with ⟨h, _⟩ | ⟨_, h1, h2, _⟩
    · rw [h]
    · rw [h1, h2, dim_freeze]
  have hle2 : Le c ⟨ctf.μ, S2, ctf.σ, ctf.fb⟩ := by
    refine ⟨by rw [hlen]; exact hle.len, fun k d hkl h => hle.al k d hkl (by rw [← hd]; exact h), fun k hz hdm => ?_, fun k d b y hkl h => hle.ln k d b y hkl (by rw [← hd]; exact h), hle.un, fun b y hy hn => ?_, hle.n, hle.fb⟩
    · rcases hk k with ⟨h, _⟩ | ⟨_, h1, h2, _⟩
      · rw [h]; exact hle.fz k hz hdm
      · exact h1
    · rintro ⟨k, h1, h2⟩
      rcases hk k with ⟨h, _⟩ | ⟨h3, h4, h5, _⟩
      · exact hle.ow b y hy hn ⟨k, by rw [← h]; exact h1, h2⟩
      · exact hn ⟨k, by rw [← h4]; exact h1, by rw [← hμ k h3]; exact h2⟩
  have hth : ∀ {v : VV} {a : Value}, VRel ctf v a → alV v = false → VRel ⟨ctf.μ, S2, ctf.σ, ctf.fb⟩ v a := fun h1 h2 => VRel.thaw (ctf := ctf) (ct := ⟨ctf.μ, S2, ctf.σ, ctf.fb⟩) rfl rfl hlen hd h1 h2
  have hths : ∀ {l : List VV} {m : List Value}, F2 (VRel ctf) l m → alL l = false → F2 (VRel ⟨ctf.μ, S2, ctf.σ, ctf.fb⟩) l m := fun h1 h2 => VRel.thaw.go (ctf := ctf) (ct := ⟨ctf.μ, S2, ctf.σ, ctf.fb⟩) rfl rfl hlen hd h1 h2
  refine ⟨hle2, ⟨hRf.ok, fun k k' b hz hdm hm hm' => ?_, fun k => ?_, fun k b hdm hm => hRf.fbk k b (by rw [← hd]; exact hdm) hm, hRf.fbl⟩, hths hf hal⟩
  · have hdm' : (sget ctf.S k').dim ≠ none := by rw [← hd]; exact hdm
    rcases hk k with ⟨h, _⟩ | ⟨h3, h4, h5, _⟩
    · exact hRf.inj k k' b (by rw [← h]; exact hz) hdm' hm hm'
    · rw [h4] at hz
      rw [hμ k h3] at hm
      have hcase : (k' < c.S.length ∧ (sget c.S k').dim ≠ none) ∨ (sget ctf.S k').frozen = false := by
        rcases hk k' with ⟨g1, g2⟩ | ⟨g1, g2, g3, _⟩
        · rcases g2 hdm' with ⟨g2, _⟩ | ⟨g2, g3, _⟩
          · exact .inr g2
          · exact .inl ⟨g2, by rw [← g3]; exact hdm'⟩
        · exact .inl ⟨g1, by rw [← g2]; exact hdm⟩
      rcases hcase with ⟨g1, g2⟩ | g1
      · rw [hμ k' g1] at hm'
        exact hR.inj k k' b hz g2 hm hm'
      · exact (hRf.inj k' k b g1 (by rw [h5, dim_freeze]; exact dim_fz hz) hm' (by rw [hμ k h3]; exact hm)).symm
  · intro d hdd
    have old : k < c.S.length → sget S2 k = sget c.S k → (∀ b y, c.μ k = some b → c.σ.m b = some y → ctf.σ.m b = some y) → 1 ≤ d.1 ∧
      ((d.2 = 0 ∧ ctf.μ k = none) ∨ ∃ b y cs rest, ctf.μ k = some b ∧ ctf.σ.m b = some y ∧ y.es = d.1 ∧ ((sget S2 k).frozen = false → y.own = true) ∧ y.cells = cs ++ rest ∧ F2 (VRel ⟨ctf.μ, S2, ctf.σ, ctf.fb⟩) (sget S2 k).vals cs) := by
      intro h1 h2 h3
      obtain ⟨q1, q2⟩ := hR.blk k d (by rw [← h2]; exact hdd)
      refine ⟨q1, ?_⟩
      rcases q2 with ⟨q2, q3⟩ | ⟨b, y, cs, rest, q2, q3, q4, q5, q6, q7⟩
      · exact .inl ⟨q2, (hμ k h1).trans q3⟩
      · exact .inr ⟨b, y, cs, rest, (hμ k h1).trans q2, h3 b y q2 q3, q4, by rw [h2]; exact q5, q6, by rw [h2]; exact VRel.frames hle2 q7⟩
    rcases hk k with ⟨h, h'⟩ | ⟨h3, h4, h5, h6⟩
    · have hdf : (sget ctf.S k).dim = some d := by rw [← hd]; exact hdd
      rcases h' (by rw [hdf]; simp) with ⟨h1, h2⟩ | ⟨h1, h2, h3⟩
      · obtain ⟨q1, q2⟩ := hRf.blk k d hdf
        refine ⟨q1, ?_⟩
        rcases q2 with q2 | ⟨b, y, cs, rest, q2, q3, q4, q5, q6, q7⟩
        · exact .inl q2
        · exact .inr ⟨b, y, cs, rest, q2, q3, q4, by rw [h]; exact q5, q6, by rw [h]; exact hths q7 (alB_vals h2)⟩
      · exact old h1 (h.trans h2) h3
    · exact old h3 h4 (h6 (by rw [← h4, hdd]; simp))
end
end Go.V
