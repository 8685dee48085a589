/- The value machine: functions; laws. -/
import Derived.Test.YtbdihjmnbadfhaaGreatDoorV19
import Derived.Test.YtbdihjmnbadfhaaGreatDoorAb20
namespace Go.V
set_option linter.unusedVariables false
set_option linter.unusedSimpArgs false
open Go.Ab

theorem res_rel {c : Ctx} {e : VEnv} {ea : Env} (hR : Rel c) (he : EnvRel c e ea) : ∀ {rs : List ARes} {vs : List VV}, resVL e c.S rs = some vs → ∃ us, resL ea c.σ rs = some us ∧ F2 (VRel c) vs us
  | [], vs, h => by injection h with h; subst h; exact ⟨[], rfl, .nil⟩
  | r :: rs, vs, h => by
    simp only [resVL] at h
    obtain ⟨v, h1, h⟩ := bind_some' h
    obtain ⟨vs', h2, h⟩ := bind_some' h
    injection h with h
    subst h
    obtain ⟨us, h3, h4⟩ := res_rel hR he h2
    have key : ∃ u, resOf ea c.σ r = some u ∧ VRel c v u := by
      cases r with
      | tmp t =>
        simp only [resV] at h1
        injection h1 with h1
        subst h1
        exact ⟨_, rfl, he t⟩
      | cell t =>
        simp only [resV] at h1
        split at h1
        · rename_i b o hp
          split at h1
          · rename_i es z l hb
            have ht := he t
            rw [hp] at ht
            cases ht with
            | ptr hk _ hd =>
              have hdim : (sget c.S b).dim = some (es, l.length) := by rw [hb]; rfl
              obtain ⟨bb, hm, ha⟩ := hd _ hdim
              have hs := hR.stands hdim hm
              rw [hb] at hs
              obtain ⟨y, a, h5, h6, h7⟩ := hs.get h1
              refine ⟨a, ?_, h7⟩
              rw [Nat.zero_add] at h6
              simp only [resOf, ha, h5, Option.bind_some, h6]
          · cases h1
        · cases h1
      | cellN t n =>
        simp only [resV] at h1
        split at h1
        · rename_i b o hp
          split at h1
          · rename_i es z l hb
            cases hc : Nat.ble (o + n) l.length with
            | false => rw [hc] at h1; cases h1
            | true =>
              rw [hc] at h1
              injection h1 with h1
              subst h1
              have ht := he t
              rw [hp] at ht
              cases ht with
              | ptr hk _ hd =>
                have hdim : (sget c.S b).dim = some (es, l.length) := by rw [hb]; rfl
                obtain ⟨bb, hm, ha⟩ := hd _ hdim
                have hs := hR.stands hdim hm
                rw [hb] at hs
                obtain ⟨y, as, h5, h6, h7⟩ := hs.read (Nat.le_of_ble_eq_true hc)
                rw [Nat.zero_add] at h6
                refine ⟨.agg as.toArray, ?_, .agg (by simp only [Blk.vals] at h7; simpa using h7)⟩
                simp only [resOf, ha, h5, Option.bind_some, h6, Option.map_some]
          · cases h1
        · cases h1
    obtain ⟨u, h5, h6⟩ := key
    exact ⟨u :: us, by simp only [resL, h5, h3], .cons h6 h4⟩
theorem tup_rel {c : Ctx} {vs : List VV} {us : List Value} (h : F2 (VRel c) vs us) : VRel c (tupV vs) (tupleOf us) := by
  cases h with
  | nil => exact .tup .nil
  | cons h1 h2 =>
    cases h2 with
    | nil => exact h1
    | cons h2 h3 => exact .tup (by simpa using F2.cons h1 (F2.cons h2 h3))
theorem args_rel {c : Ctx} {vs : List VV} {as : List Value} (h : F2 (VRel c) vs as) : EnvRel c vs (Env.of as) := by
  intro t
  have hg : ∀ (l : List VV) (i : Nat), getV l i = (l[i]?).getD .undef := by
    intro l
    induction l with
    | nil => intro i; simp [getV]
    | cons a l ih => intro i; cases i with
      | zero => simp [getV]
      | succ i => simp [getV, ih]
  rw [hg]
  unfold Env.of
  cases hv : vs[t]? with
  | none => exact .undef _
  | some v =>
    obtain ⟨a, h1, h2⟩ := h.get t v hv
    rw [h1]
    exact h2

theorem belowN_mem : ∀ {n q : Nat}, q < n → q ∈ belowN n
  | n + 1, q, h => by
    by_cases e : q = n
    · subst e; exact List.mem_cons_self
    · exact List.mem_cons_of_mem _ (belowN_mem (by omega))
/-- What the value machine says of a function, it does. -/
theorem right_of {P : Program} {f : FuncId} {tab : Tab} {vals : List Sk} {objs : List OSk} {outs : List Alt} {at' : AT} {run : Tup (SSk.shs ⟨vals, [], objs⟩) → Option (SumA outs)} (ht : AllRight P tab.fs) (hi : AllRightI P tab.is)
    (he : ∀ t o, run t = some o → evalFn P f tab vals objs outs at' t = some o) : Right P ⟨f, vals, objs, outs, run⟩ := by
  intro B μ σ w args cargs K hs hR0 ha
  obtain ⟨c, vals', st, t, o, p, v, fs, bs, S', h1, hR, hf, hd, hl, hcut, hok, hrun, hp, henc, hS, hK⟩ := hs
  subst h1
  have hev := he t o hrun
  unfold evalFn at hev
  split at hev
  · rename_i af vs fs0 S0 htr hen
    obtain ⟨hg, hev⟩ := gd_some hev
    refine fn_ok htr (tabSpec_mono tab) (tabSpec_sim ht hi) B μ c.σ w args cargs K ?_ hR0 ha
    have htl : toL (SSk.shs ⟨vals, [], objs⟩) t = st.ls := ofL_toL hl
    rw [htl] at hen
    obtain ⟨hE, hfv⟩ := enter hR rfl hd hen hf
    have hlen : args.length ≤ af.ntmps := by rw [← hfv.length]; exact Nat.le_of_ble_eq_true hg
    refine ⟨hlen, ?_⟩
    obtain ⟨l1, l2⟩ := hE.len
    have hbody := eval_ok af.body at' (c := enterCtx c st S0) hE.rel (args_rel hfv) hev
    refine wpA_mono (tabSpec_mono tab) af.body _ _ (fun x ea σ' hx => ?_) _ _ hbody
    obtain ⟨e', c', h2, h3, h4, h5, h6⟩ := hx
    subst h2
    have fin : (match resVL e' c'.S af.results with
        | some rs => decAlt c'.S S0.length (fixOf objs 0) (fun _ => [tupV rs]) (fun _ => true) outs
        | none => none) = some o → (match resL ea c'.σ af.results with
        | some vs => K (tupleOf vs) c'.σ
        | none => False) := by
      intro h7
      split at h7
      · rename_i rs hrs
        obtain ⟨us, h8, h9⟩ := res_rel h4 h5 hrs
        rw [h8]
        simp only
        obtain ⟨p', q1, _, q3⟩ := decAlt_ok h7
        simp only at hp
        rw [hp] at q1
        injection q1 with q1
        subst q1
        obtain ⟨hro, st', q4, q5⟩ := decOne_ok q3
        obtain ⟨ap1, _⟩ := decSt_apart hd
        have hnd := apart_nodup ap1
        rw [List.nil_append] at hnd
        simp only at henc hS hcut hok
        rw [q5] at henc
        have hlent : ∀ (i : Nat) (o : OSk) (x : Src), objs[i]? = some o → o.ro = true → st.m[i]? = some (some x) → x.k ∈ st.lent := by
          intro i o x g1 g2 g3
          unfold decSt at hd
          obtain ⟨st1, d1, hd⟩ := bind_some' hd
          obtain ⟨st2, d2, hd⟩ := bind_some' hd
          obtain ⟨st3, d3, hd⟩ := bind_some' hd
          have : st3 = st := by
            cases hb : (apart ([] ++ ksOf st3.m) && freeOf ([] ++ wrOf (FSum.ins ⟨f, vals, objs, outs, run⟩).free st3.m) st3.lent) with
            | false => rw [hb] at hd; cases hd
            | true => rw [hb] at hd; injection hd
          subst this
          exact ro_lent d3 i o x g1 g2 (by rw [Nat.zero_add]; exact g3)
        obtain ⟨ct, r1, r2, r3, r4, r5, r6⟩ := returnCall hR rfl hE h3 h4 hcut hok hnd hlent hro (by rw [← l1]; exact q4) henc (.cons (tup_rel h9) .nil) hS
        cases r5 with
        | cons r5 _ => exact hK _ _ ⟨ct, r1, r2, r3, r4, r5, r6⟩
      · cases h7
    cases x with
    | exit i => cases h6
    | normal => exact fin h6
    | ret => exact fin h6
  · cases hev
theorem right_eqI {P : Program} {f : FuncId} {tab : List FSum} {ins : List Inl} {vals : List Sk} {objs : List OSk} {outs : List Alt} {at' : AT} {run : Tup (SSk.shs ⟨vals, [], objs⟩) → Option (SumA outs)} (ht : AllRight P tab) (hi : AllRightI P ins)
    (he : ∀ t, evalFn P f ⟨tab, ins⟩ vals objs outs at' t = run t) : Right P ⟨f, vals, objs, outs, run⟩ := right_of (tab := ⟨tab, ins⟩) ht hi fun t o h => (he t).trans h
theorem right_eq {P : Program} {f : FuncId} {tab : List FSum} {vals : List Sk} {objs : List OSk} {outs : List Alt} {at' : AT} {run : Tup (SSk.shs ⟨vals, [], objs⟩) → Option (SumA outs)} (ht : AllRight P tab)
    (he : ∀ t, evalFn P f ⟨tab, []⟩ vals objs outs at' t = run t) : Right P ⟨f, vals, objs, outs, run⟩ := right_eqI ht (AllRightI.nil P) he
/-- A function run in its caller's place. -/
theorem inl_right {P : Program} {f : FuncId} {tab : List FSum} {ins : List Inl} {at' : AT} (ht : AllRight P tab) (hi : AllRightI P ins) : RightI P ⟨f, inlRun P f ⟨tab, ins⟩ at'⟩ := by
  intro B μ σ w args cargs K hs hR0 ha
  obtain ⟨β, y, c, vals, k, h1, hR, hf, hev, hK⟩ := hs
  subst h1
  simp only [inlRun] at hev
  split at hev
  · rename_i af htr
    obtain ⟨hg, hev⟩ := gd_some hev
    refine fn_ok htr (tabSpec_mono ⟨tab, ins⟩) (tabSpec_sim (tab := ⟨tab, ins⟩) ht hi) B μ c.σ w args cargs K ?_ hR0 ha
    have hlen : args.length ≤ af.ntmps := by rw [← hf.length]; exact Nat.le_of_ble_eq_true hg
    refine ⟨hlen, ?_⟩
    have hbody := eval_ok af.body at' (c := c) hR (args_rel hf) hev
    refine wpA_mono (tabSpec_mono ⟨tab, ins⟩) af.body _ _ (fun x ea σ' hx => ?_) _ _ hbody
    obtain ⟨e', c', h2, h3, h4, h5, h6⟩ := hx
    subst h2
    have fin : (match resVL e' c'.S af.results with
        | some rs => k (tupV rs) c'.S
        | none => none) = some y → (match resL ea c'.σ af.results with
        | some vs => K (tupleOf vs) c'.σ
        | none => False) := by
      intro h7
      split at h7
      · rename_i rs hrs
        obtain ⟨us, h8, h9⟩ := res_rel h4 h5 hrs
        rw [h8]
        exact hK _ _ ⟨tupV rs, c', rfl, h3, h4, fun q hq hn => (hn (belowN_mem hq)).elim, tup_rel h9, h7⟩
      · cases h7
    cases x with
    | exit i => cases h6
    | normal => exact fin h6
    | ret => exact fin h6
  · cases hev
/-- Functions that are all run in their callers' places, calls within calls up to a depth. -/
def inlAll (P : Program) (fs : List FSum) (bs : List Inl) (ns : List FuncId) (n : Nat) : List Inl := Nat.rec bs (fun _ is => bs ++ ns.map fun f => ⟨f, inlRun P f ⟨fs, is⟩ .all⟩) n
theorem inlAll_right {P : Program} {fs : List FSum} {bs : List Inl} {ns : List FuncId} (ht : AllRight P fs) (hb : AllRightI P bs) : ∀ n, AllRightI P (inlAll P fs bs ns n)
  | 0 => hb
  | n + 1 => fun I hI => by
    rcases List.mem_append.1 (show I ∈ bs ++ ns.map fun f => (⟨f, inlRun P f ⟨fs, inlAll P fs bs ns n⟩ .all⟩ : Inl) from hI) with hI | hI
    · exact hb I hI
    · obtain ⟨f, _, rfl⟩ := List.mem_map.1 hI
      exact inl_right ht (inlAll_right ht hb n)
/-- A function that is right for each of several measures. -/
theorem right_any {P : Program} {f : FuncId} {vals : List Sk} {objs : List OSk} {outs : List Alt} {run : Tup (SSk.shs ⟨vals, [], objs⟩) → Option (SumA outs)} (runN : Nat → Tup (SSk.shs ⟨vals, [], objs⟩) → Option (SumA outs)) (h : ∀ n, Right P ⟨f, vals, objs, outs, runN n⟩)
    (hr : ∀ t o, run t = some o → ∃ n, runN n t = some o) : Right P ⟨f, vals, objs, outs, run⟩ := by
  intro B μ σ w args cargs K hs
  obtain ⟨c, vals', st, t, o, p, v, fs, bs, S', h1, hR, hf, hd, hl, hcut, hok, hrun, hp, henc, hS, hK⟩ := hs
  obtain ⟨n, hn⟩ := hr t o hrun
  exact h n B μ σ w args cargs K ⟨c, vals', st, t, o, p, v, fs, bs, S', h1, hR, hf, hd, hl, hcut, hok, hn, hp, henc, hS, hK⟩

/-! ### Laws -/
def lawOut : List Alt := [⟨.ret, [], ⟨[.leaf .bool], [], []⟩⟩]
/-- The state in which a law begins: nothing may be written. -/
def lawCtx (σ : Hp) : Ctx := ⟨fun _ => none, [], σ, fun _ => False⟩
theorem lawCtx_rel {σ : Hp} (h : σ.Ok) : Rel (lawCtx σ) :=
  ⟨h, fun k k' b hz _ _ _ => (by cases hz), fun k d hd => (by cases hd), fun k b hd => (hd rfl).elim, fun b hb => hb.elim⟩
theorem lawCtx_mut {σ : Hp} (b : Nat) : ¬(lawCtx σ).mut b := by
  rintro (⟨k, h, _⟩ | h)
  · cases h
  · exact h
/-- A law that the value machine says to be true. -/
theorem law_true {P : Program} {f : FuncId} {vals : List Sk} {run : Tup (SSk.shs ⟨vals, [], []⟩) → Option (SumA lawOut)} (h : Right P ⟨f, vals, [], lawOut, run⟩) {w : World} (hT : Tabs P w) {rows : List Row} {args : List Value} {cargs : Array Value} {vs : List VV} {st : DSt} {t : Tup (SSk.shs ⟨vals, [], []⟩)}
    (hrows : ∀ r ∈ rows, ∀ (i : Nat) (v : Value), r.cells[i]? = some v → ∃ v', w.cell? ⟨r.c, r.o + i, none⟩ = some v' ∧ VR (rowsMu rows) v v') (hargs : F2 (VR (rowsMu rows)) args cargs.toList)
    (hv : F2 (VRel (lawCtx (rowsHp w.heap.size rows))) vs args) (hd : decSt [] 0 [] ⟨vals, [], []⟩ vs = some st) (hl : ofL _ st.ls = some t) (hr : run t = some true) :
    Calls P f cargs w fun e w' => e = .returned (.bool true) ∧ Go.RowKit.Below w.heap.size w w' := by
  have hm : st.m = [] := by
    unfold decSt at hd
    obtain ⟨st1, d1, hd⟩ := bind_some' hd
    obtain ⟨st2, d2, hd⟩ := bind_some' hd
    obtain ⟨st3, d3, hd⟩ := bind_some' hd
    have : st3 = st := by
      cases hb : (apart ([] ++ ksOf st3.m) && freeOf ([] ++ wrOf ([] : List OSk) st3.m) st3.lent) with
      | false => rw [hb] at hd; cases hd
      | true => rw [hb] at hd; injection hd
    subst this
    simp only [decFree] at d3
    cases hb : Nat.beq 0 st2.m.length with
    | false => rw [hb] at d3; cases d3
    | true =>
      rw [hb] at d3
      injection d3 with d3
      subst d3
      exact List.length_eq_zero_iff.1 (Nat.eq_of_beq_eq_true hb).symm
  refine law_of (S := (FSum.mk f vals [] lawOut run).spec) h hT hrows hargs ?_
  refine ⟨lawCtx (rowsHp w.heap.size rows), vs, st, t, true, ⟨⟨.ret, [], ⟨[.leaf .bool], [], []⟩⟩, true⟩, .bool true, [], [], cond (alAll [.bool true] [] []) (fzAll st.lent []) [], rfl, lawCtx_rel rows_Ok, hv, hd, hl, by rw [hm]; rfl, by rw [hm]; rfl, hr, rfl, rfl, by rw [hm]; rfl, ?_⟩
  rintro r σ' ⟨ct, _, _, _, _, hrel, _⟩
  exact hrel.bool_inv
end Go.V
