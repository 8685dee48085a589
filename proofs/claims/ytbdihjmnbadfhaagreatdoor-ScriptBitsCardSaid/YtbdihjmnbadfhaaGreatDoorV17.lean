/- The value machine: what functions are taken to do; calls and all operations are right. -/
import Derived.Test.YtbdihjmnbadfhaaGreatDoorV16
namespace Go.V
set_option linter.unusedVariables false
set_option linter.unusedSimpArgs false
open Go.Ab

def altOf (l : List Alt) (s : SumA l) : Option (Σ a : Alt, a.Ty) := altK l s fun a u => some ⟨a, u⟩
theorem altK_eq {β : Type} : ∀ (l : List Alt) (s : SumA l) (k : (a : Alt) → a.Ty → Option β), altK l s k = (altOf l s).bind fun p => k p.1 p.2
  | [], _, _ => rfl
  | [a], t, k => rfl
  | a :: b :: r, .inl t, k => rfl
  | a :: b :: r, .inr s, k => altK_eq (b :: r) s k

/-- What a function is taken to do. -/
def FSum.spec (F : FSum) : Ab.Spec := fun args σ K => ∃ (c : Ctx) (vals : List VV) (st : DSt) (t : Tup F.ins.shs) (o : SumA F.outs) (p : Σ a : Alt, a.Ty) (v : VV) (fs bs : List Blk) (S' : Store),
  c.σ = σ ∧ Rel c ∧ F2 (VRel c) vals args ∧ decSt c.S 0 [] F.ins vals = some st ∧ ofL F.ins.shs st.ls = some t ∧ noCut st.m = true ∧ okFx c.S (wrOf F.objs st.m) = true ∧ F.run t = some o ∧ altOf F.outs o = some p ∧
  encSt (actual st.m F.objs.length c.S.length) p.1.sk (toL p.1.sk.shs p.2) = some ([v], fs, bs) ∧ sputs (wrOf F.objs st.m) fs (cond (alAll [v] fs bs) (fzAll st.lent c.S) c.S) = some S' ∧
  ∀ r σ', (∃ ct : Ctx, ct.σ = σ' ∧ ct.S = S' ++ bs ∧ Le c ct ∧ Rel ct ∧ VRel ct v r ∧ Calm (wrOf F.objs st.m) c ct) → K r σ'
theorem FSum.mono (F : FSum) : MonoS F.spec := by
  rintro args σ K K' hk ⟨c, vals, st, t, o, p, v, fs, bs, S', h1, h2, h3, h4, h5, h6, h7, h8, h9, h10, h11, h12⟩
  exact ⟨c, vals, st, t, o, p, v, fs, bs, S', h1, h2, h3, h4, h5, h6, h7, h8, h9, h10, h11, fun r σ' h => hk r σ' (h12 r σ' h)⟩
def Inl.spec (I : Inl) : Ab.Spec := fun args σ K => ∃ (β : Type) (y : β) (c : Ctx) (vals : List VV) (k : VV → Store → Option β), c.σ = σ ∧ Rel c ∧ F2 (VRel c) vals args ∧ I.run β vals c.S k = some y ∧ ∀ r σ', Out c (belowN c.S.length) k y r σ' → K r σ'
theorem Inl.mono (I : Inl) : MonoS I.spec := by
  rintro args σ K K' hk ⟨β, y, c, vals, k, h1, h2, h3, h4, h5⟩
  exact ⟨β, y, c, vals, k, h1, h2, h3, h4, fun r σ' h => hk r σ' (h5 r σ' h)⟩
/-- What a table says of a function. -/
def tabSpec (tab : Tab) : Ab.Specs := fun f args σ K => (∃ F, F ∈ tab.fs ∧ F.f = f ∧ F.spec args σ K) ∨ ∃ I, I ∈ tab.is ∧ I.f = f ∧ I.spec args σ K
theorem tabSpec_mono (tab : Tab) : MonoT (tabSpec tab) := by
  rintro f args σ K K' hk (⟨F, h1, h2, h3⟩ | ⟨F, h1, h2, h3⟩)
  · exact .inl ⟨F, h1, h2, F.mono args σ K K' hk h3⟩
  · exact .inr ⟨F, h1, h2, F.mono args σ K K' hk h3⟩
/-- A table all of which is right. -/
def Right (P : Program) (F : FSum) : Prop := Sim P F.f F.spec
def RightI (P : Program) (I : Inl) : Prop := Sim P I.f I.spec
def AllRight (P : Program) (tab : List FSum) : Prop := ∀ F, F ∈ tab → Right P F
def AllRightI (P : Program) (is : List Inl) : Prop := ∀ I, I ∈ is → RightI P I
theorem AllRightI.nil (P : Program) : AllRightI P [] := fun F h => by cases h
theorem AllRightI.cons {P : Program} {F : Inl} {tab : List Inl} (h : RightI P F) (ht : AllRightI P tab) : AllRightI P (F :: tab) := fun G hG => by
  rcases List.mem_cons.1 hG with rfl | hG
  · exact h
  · exact ht G hG
theorem AllRight.nil (P : Program) : AllRight P [] := fun F h => by cases h
theorem AllRight.cons {P : Program} {F : FSum} {tab : List FSum} (h : Right P F) (ht : AllRight P tab) : AllRight P (F :: tab) := fun G hG => by
  rcases List.mem_cons.1 hG with rfl | hG
  · exact h
  · exact ht G hG
theorem AllRight.app {P : Program} {a b : List FSum} (h : AllRight P a) (k : AllRight P b) : AllRight P (a ++ b) := fun G hG => by
  rcases List.mem_append.1 hG with hG | hG
  · exact h G hG
  · exact k G hG
theorem tabSpec_sim {P : Program} {tab : Tab} (h : AllRight P tab.fs) (h' : AllRightI P tab.is) (f : FuncId) : Sim P f (tabSpec tab f) := by
  rintro B μ σ w args cargs K (⟨F, h1, h2, h3⟩ | ⟨F, h1, h2, h3⟩) hR ha
  · subst h2
    exact h F h1 B μ σ w args cargs K h3 hR ha
  · subst h2
    exact h' F h1 B μ σ w args cargs K h3 hR ha

theorem callF_ok {β : Type} {c : Ctx} {k : VV → Store → Option β} {y : β} {f : Nat} {args : List VV} {as : List Value} (hR : Rel c) (hf : F2 (VRel c) args as) : ∀ {tab : List FSum}, callT tab f args c.S k = some y → (fun f args σ K => ∃ F, F ∈ tab ∧ F.f = f ∧ F.spec args σ K : Ab.Specs) f as c.σ (Out c (dirtyC tab f args c.S) k y)
  | [], h => by cases h
  | F :: r, h => by
    have next : callT r f args c.S k = some y → dirtyC (F :: r) f args c.S = dirtyC r f args c.S → (fun f args σ K => ∃ G, G ∈ F :: r ∧ G.f = f ∧ G.spec args σ K : Ab.Specs) f as c.σ (Out c (dirtyC (F :: r) f args c.S) k y) := by
      intro h1 h2
      obtain ⟨G, h3, h4, h5⟩ := callF_ok hR hf h1
      rw [h2]
      exact ⟨G, List.mem_cons_of_mem _ h3, h4, h5⟩
    simp only [callT] at h
    cases hb : Nat.beq F.f f with
    | false =>
      rw [hb, cond_false] at h
      exact next h (by simp only [dirtyC, hb, cond_false])
    | true =>
      rw [hb, cond_true] at h
      cases hd : decSt (fzArgs F.vals args c.S) 0 [] F.ins args with
      | none =>
        rw [hd] at h
        exact next h (by simp only [dirtyC, hb, cond_true, hd])
      | some st =>
        rw [hd] at h
        simp only at h
        cases ht : ofL F.ins.shs st.ls with
        | none =>
          rw [ht] at h
          exact next h (by simp only [dirtyC, hb, cond_true, hd, ht])
        | some t =>
          rw [ht] at h
          simp only at h
          obtain ⟨h1, h2⟩ := gd_some h
          rw [Bool.and_eq_true] at h1
          have hdirty : dirtyC (F :: r) f args c.S = wrOf F.objs st.m := by simp only [dirtyC, hb, cond_true, hd, ht]
          rw [hdirty]
          unfold callF at h2
          obtain ⟨o, h3, h4⟩ := bind_some' h2
          rw [altK_eq] at h4
          obtain ⟨p, h5, h6⟩ := bind_some' h4
          have hfz := fzArgs_frz F.vals args c.S
          split at h6
          · rename_i v fs bs he
            split at h6
            · rename_i S' hS
              refine ⟨F, List.mem_cons_self, Nat.eq_of_beq_eq_true hb, ⟨c.μ, fzArgs F.vals args c.S, c.σ, c.fb⟩, args, st, t, o, p, v, fs, bs, S', rfl, hfz.rel hR, VRel.frames hfz.le hf, hd, ht, h1.1, h1.2, h3, h5, he, hS, ?_⟩
              rintro rv σ' ⟨ct, e1, e2, e3, e4, e5, e6⟩
              exact ⟨v, ct, e1, hfz.le.trans e3, e4, (hfz.calm _).trans e6 hfz.le, e5, by rw [e2]; exact h6⟩
            · cases h6
          · cases h6

theorem callI_ok {β : Type} {c : Ctx} {k : VV → Store → Option β} {y : β} {f : Nat} {args : List VV} {as : List Value} (hR : Rel c) (hf : F2 (VRel c) args as) : ∀ {is : List Inl}, callI is f args c.S k = some y → ∃ I, I ∈ is ∧ I.f = f ∧ I.spec as c.σ (Out c (belowN c.S.length) k y)
  | [], h => by cases h
  | I :: r, h => by
    simp only [callI] at h
    cases hb : Nat.beq I.f f with
    | false =>
      rw [hb, cond_false] at h
      obtain ⟨J, h1, h2, h3⟩ := callI_ok hR hf h
      exact ⟨J, List.mem_cons_of_mem _ h1, h2, h3⟩
    | true =>
      rw [hb, cond_true] at h
      exact ⟨I, List.mem_cons_self, Nat.eq_of_beq_eq_true hb, β, y, c, args, k, rfl, hR, hf, h, fun r σ' h => h⟩
theorem callT_ok {β : Type} {c : Ctx} {k : VV → Store → Option β} {y : β} {f : Nat} {args : List VV} {as : List Value} (hR : Rel c) (hf : F2 (VRel c) args as) {tab : Tab} (h : callX tab f args c.S k = some y) : tabSpec tab f as c.σ (Out c (dirtyX tab f args c.S) k y) := by
  unfold callX at h
  unfold dirtyX
  cases hb : hasI tab.is f with
  | false =>
    rw [hb, cond_false] at h
    rw [cond_false]
    exact .inl (callF_ok hR hf h)
  | true =>
    rw [hb, cond_true] at h
    rw [cond_true]
    exact .inr (callI_ok hR hf h)
theorem evOp_ok {β : Type} {tab : Tab} {c : Ctx} {e : VEnv} {ea : Env} {k : VV → Store → Option β} {y : β} (hR : Rel c) (he : EnvRel c e ea) {op : AOp} (h : evOp tab op e c.S k = some y) : runOp (tabSpec tab) op ea c.σ (Out c (dirty tab op e c.S) k y) := by
  cases op <;> simp only [evOp] at h
  case move x => exact move_ok hR he h
  case pick t a b =>
    split at h
    · rename_i p hp; exact pick_ok hR he hp h
    · cases h
  case alloc es z => exact alloc_ok hR h
  case box es x => exact box_ok hR he h
  case build z ps =>
    split at h
    · rename_i cs hc; exact build_ok hR he hc h
    · cases h
  case buildSlice es ln z ps =>
    split at h
    · rename_i cs hc; exact buildSlice_ok hR he hc h
    · cases h
  case load x => exact load_ok hR he h
  case loadN n x => exact loadN_ok hR he h
  case store n a x => exact store_ok hR he (fun q hq => dirtyO _ hq) h
  case nilCheck x => exact nilCheck_ok hR he h
  case bin op x z => exact bin_ok hR he h
  case eqv kd neg x z =>
    split at h
    · rename_i p hp; exact eqv_ok hR he hp h
    · cases h
  case eqCells neg ks x z =>
    split at h
    · rename_i a b h1 h2
      split at h
      · rename_i p hp; exact eqCells_ok hR he h1 h2 hp h
      · cases h
    · cases h
  case un op x => exact un_ok hR he h
  case conv kd x =>
    split at h
    · rename_i n hn; exact conv_ok hR he hn h
    · cases h
  case mkFunc f a b => exact mkFunc_ok hR he h
  case makeSlice es bytes z l m => exact make_ok hR he h
  case slice es x lo hi => exact slice_ok hR he h
  case sliceStr x lo hi => exact sliceStr_ok hR he h
  case sliceArr es n x lo hi => exact sliceArr_ok hR he h
  case off n x => exact off_ok hR he h
  case idx es x i => exact idx_ok hR he h
  case idxA ln es x i => exact idxA_ok hR he h
  case fieldV o n agg x =>
    split at h
    · rename_i cs hc; exact fieldV_ok hR he hc h
    · cases h
  case indexV ln es agg x i =>
    split at h
    · rename_i cs kd i h1 h2; exact indexV_ok hR he h1 h2 h
    · cases h
  case indexS x i =>
    split at h
    · rename_i l kd i h1 h2; exact indexS_ok hR he h1 h2 h
    · cases h
  case extract x i =>
    split at h
    · rename_i vs hc; exact extract_ok hR he hc h
    · cases h
  case call f xs => exact callT_ok hR (ev_rels he xs) h
  case callv x xs =>
    have hx := ev_rel he x
    split at h
    · rename_i f a b hv
      rw [hv] at hx
      have : ∃ a' b', ea.ev x = .func (.func f) a' b' ∧ F2 (VRel c) a a'.toList ∧ F2 (VRel c) b b'.toList := by
        generalize ea.ev x = xa at hx
        cases hx
        exact ⟨_, _, rfl, by assumption, by assumption⟩
      obtain ⟨a', b', h1, h2, h3⟩ := this
      have := callT_ok hR ((h2.append (ev_rels he xs)).append h3) h
      simp only [runOp, h1, dirty, hv]
      exact this
    · cases h
  case append es bytes s x => exact appendV_ok hR he (fun q hq => dirtyO _ hq) h fun h => append_ok hR he (fun q hq => dirtyO _ hq) h
  case stuck => cases h
  case capN x =>
    split at h
    · rename_i hx; exact capN_ok hR he hx h
    · cases h
  case sliceX x hi mx => exact sliceX_ok hR he h
  case range x =>
    split at h
    · rename_i l hx; exact range_ok hR he hx h
    · cases h
  case next x => exact next_ok hR he (fun q hq => dirtyO _ hq) h
  case newB => exact newB_ok hR h
  case encR x =>
    split at h
    · rename_i n hx; exact encR_ok hR he hx h
    · cases h
  case strOf x => exact strOf_ok hR he h
  case strOfR x => exact strR_ok hR he h
  case runesOf x => exact runes_ok hR he h
  case mark x => exact mark_ok hR he h
  case appendZ es bytes z s x => exact appendZ_ok hR he (fun q hq => dirtyO _ hq) h
  case copy es s x => exact copy_ok hR he (fun q hq => dirtyO _ hq) h
  case len x =>
    split at h
    · cases h
    · rename_i hns
      split at h
      · rename_i n hn; exact len_ok hR he hns hn h
      · cases h
  case lenS x =>
    split at h
    · rename_i l hl; exact lenS_ok hR he hl h
    · cases h
  case lenC n => exact run_of rfl (Out.same hR (.int _ _) h)
  case most x z =>
    split at h
    · rename_i kd a kd' b h1 h2; exact most_ok hR he h1 h2 h
    · cases h
  case least x z =>
    split at h
    · rename_i kd a kd' b h1 h2; exact least_ok hR he h1 h2 h
    · cases h
end Go.V
