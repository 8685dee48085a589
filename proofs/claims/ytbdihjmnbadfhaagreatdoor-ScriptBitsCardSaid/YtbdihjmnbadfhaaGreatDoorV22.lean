/- The value machine: a copy of a slice, which may be nil. -/
import Derived.Test.YtbdihjmnbadfhaaGreatDoorV21
import Derived.KernelRfl
namespace Go.V
set_option linter.unusedVariables false
set_option linter.unusedSimpArgs false
open Go.Ab

/-- What a function's code comes to. -/
def evalCode (a : AFn) (tab : Tab) (vals : List Sk) (objs : List OSk) (outs : List Alt) (at' : AT) (t : Tup (SSk.shs ⟨vals, [], objs⟩)) : Option (SumA outs) :=
  match encSt id ⟨vals, [], objs⟩ (toL _ t) with
  | some (vs, _, S) => gd (Nat.ble vs.length a.ntmps) (eval tab a.body at' (SumA outs) vs S fun x e S' => match x with
    | .exit _ => none
    | _ => (match resVL e S' a.results with
      | some rs => decAlt S' S.length (fixOf objs 0) (fun _ => [tupV rs]) (fun _ => true) outs
      | none => none))
  | _ => none

/-- What other code says of a function, where that code does no more. -/
theorem right_of_code {P : Program} {f : FuncId} {af : AFn} {tab : Tab} {vals : List Sk} {objs : List OSk} {outs : List Alt} {at' : AT} {run : Tup (SSk.shs ⟨vals, [], objs⟩) → Option (SumA outs)} (ht : AllRight P tab.fs) (hi : AllRightI P tab.is) (htr : trFn P f = some af) (hen0 : ∀ t : Tup (SSk.shs ⟨vals, [], objs⟩), ∃ r, encSt id ⟨vals, [], objs⟩ (toL _ t) = some r)
    (he : ∀ t o vs fs S, run t = some o → encSt id ⟨vals, [], objs⟩ (toL _ t) = some (vs, fs, S) → ∀ (c : Ctx) args, F2 (VRel c) vs args →
      ∃ b, evalCode ⟨af.ntmps, af.results, b⟩ tab vals objs outs at' t = some o ∧ ∀ T (_ : MonoT T) Q σ, wpA T b Q (Env.of args) σ → wpA T af.body Q (Env.of args) σ) : Right P ⟨f, vals, objs, outs, run⟩ := by
  intro B μ σ w args cargs K hs hR0 ha
  obtain ⟨c, vals', st, t, o, p, v, fs, bs, S', h1, hR, hf, hd, hl, hcut, hok, hrun, hp, henc, hS, hK⟩ := hs
  subst h1
  have htl : toL (SSk.shs ⟨vals, [], objs⟩) t = st.ls := ofL_toL hl
  cases hen : encSt id ⟨vals, [], objs⟩ (toL (SSk.shs ⟨vals, [], objs⟩) t) with
  | none =>
    obtain ⟨r, q⟩ := hen0 t
    rw [hen] at q; cases q
  | some tr =>
  obtain ⟨vs, fs0, S0⟩ := tr
  refine fn_ok htr (tabSpec_mono tab) (tabSpec_sim ht hi) B μ c.σ w args cargs K ?_ hR0 ha
  have hen' := hen
  rw [htl] at hen
  obtain ⟨hE, hfv⟩ := enter hR rfl hd hen hf
  obtain ⟨bd, hev, himp⟩ := he t o vs fs0 S0 hrun hen' _ _ hfv
  unfold evalCode at hev
  rw [hen'] at hev
  obtain ⟨hg, hev⟩ := gd_some hev
  have hlen : args.length ≤ af.ntmps := by rw [← hfv.length]; exact Nat.le_of_ble_eq_true hg
  refine ⟨hlen, himp _ (tabSpec_mono tab) _ _ ?_⟩
  obtain ⟨l1, l2⟩ := hE.len
  have hbody := eval_ok bd at' (c := enterCtx c st S0) hE.rel (args_rel hfv) hev
  refine wpA_mono (tabSpec_mono tab) bd _ _ (fun x ea σ' hx => ?_) _ _ hbody
  obtain ⟨e', c', h2, h3, h4, h5, h6⟩ := hx
  subst h2
  have fin : (match resVL e' c'.S af.results with
      | some rs => decAlt c'.S S0.length (fixOf objs 0) (fun _ => [tupV rs]) (fun _ => true) outs
      | none => none) = some o → (match resL ea c'.σ af.results with
      | some vs => K (tupleOf vs) c'.σ
      | none => False) := by
    intro h7
    split at h7
    · rename_i rs hrs
      obtain ⟨us, h8, h9⟩ := res_rel h4 h5 hrs
      rw [h8]
      simp only
      obtain ⟨p', q1, _, q3⟩ := decAlt_ok h7
      simp only at hp
      rw [hp] at q1
      injection q1 with q1
      subst q1
      obtain ⟨hro, st', q4, q5⟩ := decOne_ok q3
      obtain ⟨ap1, _⟩ := decSt_apart hd
      have hnd := apart_nodup ap1
      rw [List.nil_append] at hnd
      simp only at henc hS hcut hok
      rw [q5] at henc
      have hlent : ∀ (i : Nat) (o : OSk) (x : Src), objs[i]? = some o → o.ro = true → st.m[i]? = some (some x) → x.k ∈ st.lent := by
        intro i o x g1 g2 g3
        unfold decSt at hd
        obtain ⟨st1, d1, hd⟩ := bind_some' hd
        obtain ⟨st2, d2, hd⟩ := bind_some' hd
        obtain ⟨st3, d3, hd⟩ := bind_some' hd
        have : st3 = st := by
          cases hb : (apart ([] ++ ksOf st3.m) && freeOf ([] ++ wrOf (FSum.ins ⟨f, vals, objs, outs, run⟩).free st3.m) st3.lent) with
          | false => rw [hb] at hd; cases hd
          | true => rw [hb] at hd; injection hd
        subst this
        exact ro_lent d3 i o x g1 g2 (by rw [Nat.zero_add]; exact g3)
      obtain ⟨ct, r1, r2, r3, r4, r5, r6⟩ := returnCall hR rfl hE h3 h4 hcut hok hnd hlent hro (by rw [← l1]; exact q4) henc (.cons (tup_rel h9) .nil) hS
      cases r5 with
      | cons r5 _ => exact hK _ _ ⟨ct, r1, r2, r3, r4, r5, r6⟩
    · cases h7
  cases x with
  | exit i => cases h6
  | normal => exact fin h6
  | ret => exact fin h6

/-! ### Copies -/
def cloneB (es bytes : Nat) (z : List Value) (c : AOp) (n : AOp) : AC :=
  .seq (.region [⟨some 2, .move (.const (.slice none 0 0)), none⟩]) (.seq (.seq (.region [⟨some 3, .move (.tmp 0), none⟩, ⟨some 4, c, none⟩]) (.cond (.tmp 4) (.seq (.region [⟨some 2, n, none⟩]) .ret) .skip))
    (.seq (.region [⟨some 5, .buildSlice es 0 z [], none⟩, ⟨some 6, .move (.tmp 0), none⟩, ⟨some 7, .append es bytes (.tmp 5) (.tmp 6), none⟩, ⟨some 2, .move (.tmp 7), none⟩]) .ret))
def cloneF (es bytes : Nat) (z : List Value) : AFn := ⟨8, [.tmp 2], cloneB es bytes z (.eqv 2 false (.tmp 3) (.const (.slice none 0 0))) (.move (.const (.slice none 0 0)))⟩
def cloneNo (es bytes : Nat) (z : List Value) : AFn := ⟨8, [.tmp 2], cloneB es bytes z (.move (.const (.bool false))) (.move (.const (.slice none 0 0)))⟩
def cloneYes (es bytes : Nat) (z : List Value) : AFn := ⟨8, [.tmp 2], cloneB es bytes z (.move (.const (.bool true))) (.append es bytes (.const (.slice none 0 0)) (.tmp 0))⟩
def cloneOut (s : Sh) : List Alt := [⟨.ret, [], ⟨[.full 0], [], [.arr false s]⟩⟩]

theorem clone_right {P : Program} {f : FuncId} {es bytes : Nat} {z : List Value} {s : Sh} (htr : trFn P f = some (cloneF es bytes z))
    (h0 : ∀ t : Tup (SSk.shs ⟨[.leaf (.list s)], [], []⟩), encSt id ⟨[.leaf (.list s)], [], []⟩ (toL _ t) = some ([.lst s t], [], []))
    (h1 : ∀ l : List (El s), evalCode (cloneNo es bytes z) ⟨[], []⟩ [.leaf (.list s)] [] (cloneOut s) .no l = gd (fits (0 + l.length) bytes) (some l))
    (h2 : evalCode (cloneYes es bytes z) ⟨[], []⟩ [.leaf (.list s)] [] (cloneOut s) .no ([] : List (El s)) = gd (fits (0 + 0) bytes) (some ([] : List (El s)))) :
    Right P ⟨f, [.leaf (.list s)], [], cloneOut s, fun l : List (El s) => gd (fits (0 + l.length) bytes) (some l)⟩ := by
  refine right_of_code (at' := .no) (tab := ⟨[], []⟩) (AllRight.nil P) (AllRightI.nil P) htr (fun t => ⟨_, h0 t⟩) fun t o vs fs S hrun hen c args ha => ?_
  have hvs : vs = [.lst s t] := by
    rw [h0 t] at hen
    injection hen with hen
    injection hen with hen
    exact hen.symm
  subst hvs
  cases ha with
  | cons ha hb =>
  cases hb
  have no : ∀ q n cp (args : List Value), args = [.slice (some q) n cp] → ∃ b, evalCode ⟨(cloneF es bytes z).ntmps, (cloneF es bytes z).results, b⟩ ⟨[], []⟩ [.leaf (.list s)] [] (cloneOut s) .no t = some o ∧
      ∀ T (_ : MonoT T) Q σ, wpA T b Q (Env.of args) σ → wpA T (cloneF es bytes z).body Q (Env.of args) σ := by
    rintro q n cp args rfl
    exact ⟨_, (h1 t).trans hrun, fun T _ Q σ h => h⟩
  cases ha with
  | @lst s l b p n cp y h3 h4 h5 h6 h7 h8 h9 => exact no _ _ _ _ rfl
  | @lstn s q h3 =>
    cases q with
    | some q => exact no _ _ _ _ rfl
    | none => exact ⟨_, h2.trans hrun, fun T _ Q σ h => h⟩

theorem testC {P : Program} {f : FuncId} (htr : trFn P f = some (cloneF 1 8 [.int .u64 0])) :  Right P ⟨f, [.leaf (.list (.int .u64))], [], cloneOut (.int .u64), fun l : List Int => gd (fits (0 + l.length) 8) (some l)⟩ :=
  clone_right htr (fun _ => rfl) (fun l => by kernel_rfl) (by kernel_rfl)
end Go.V

namespace Go.V
open Go.Ab
/-- What answers nothing is right. -/
theorem right_none {P : Program} {f : FuncId} {vals : List Sk} {objs : List OSk} {outs : List Alt} {run : Tup (SSk.shs ⟨vals, [], objs⟩) → Option (SumA outs)} (h : ∀ t, run t = none) : Right P ⟨f, vals, objs, outs, run⟩ := by
  intro B μ σ w args cargs K hs
  obtain ⟨c, vals', st, t, o, p, v, fs, bs, S', h1, hR, hf, hd, hl, hcut, hok, hrun, _⟩ := hs
  have hrun : run t = some o := hrun
  rw [h t] at hrun
  cases hrun
end Go.V
