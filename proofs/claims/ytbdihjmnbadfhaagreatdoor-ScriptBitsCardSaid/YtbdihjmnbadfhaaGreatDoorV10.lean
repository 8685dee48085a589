/- The value machine: its operations are the abstract machine's, fourth part: slices that are made, that grow, that are copied. -/
import Derived.Test.YtbdihjmnbadfhaaGreatDoorV9
namespace Go.V
set_option linter.unusedVariables false
set_option linter.unusedSimpArgs false
open Go.Ab

section
variable {β : Type} {T : Specs} {c : Ctx} {e : VEnv} {ea : Env} {k : VV → Store → Option β} {y : β} {d : List Nat}

theorem shOfC_rel : ∀ {z : List Value} {s : Sh}, shOfC z = some s → F2 (VRel c) (toCells s (zeroEl s)) z
  | [], s, h => by simp [shOfC] at h
  | v :: r, s, h => by
    unfold shOfC at h
    split at h
    · rename_i h0
      injection h0 with h1 h2
      subst h1; subst h2
      injection h with h; subst h
      exact .cons (.int _ _) .nil
    · rename_i h0
      injection h0 with h1 h2
      subst h1; subst h2
      injection h with h; subst h
      exact .cons (.bool _) .nil
    · rename_i h0
      injection h0 with h1 h2
      subst h1; subst h2
      obtain ⟨s', h3, h4⟩ := bind_some' h
      injection h4 with h4; subst h4
      exact .cons (.int _ _) (shOfC_rel h3)
    · rename_i h0
      injection h0 with h1 h2
      subst h1; subst h2
      obtain ⟨s', h3, h4⟩ := bind_some' h
      injection h4 with h4; subst h4
      exact .cons (.bool _) (shOfC_rel h3)
    · cases h
theorem flatL_replicate {s : Sh} {x : El s} : ∀ n, flatL s (List.replicate n x) = (List.replicate n (toCells s x)).flatten
  | 0 => rfl
  | n + 1 => by rw [List.replicate_succ, flatL_cons, flatL_replicate n, List.replicate_succ, List.flatten_cons]
theorem times_app (z : List Value) (m n : Nat) : times z (m + n) = times z m ++ times z n := by
  simp only [times]
  rw [← List.replicate_append_replicate, List.flatten_append]
theorem times_len (z : List Value) (n : Nat) : (times z n).length = n * z.length := by
  simp [times, List.length_flatten, List.map_replicate]

theorem make_ok (hR : Rel c) (he : EnvRel c e ea) {es bytes : Nat} {z : List Value} {l m : Operand} (h : makeK c.S es bytes z (ev e l) (ev e m) k = some y) : runOp T (.makeSlice es bytes z l m) ea c.σ (Out c d k y) := by
  have hl := ev_rel he l
  have hm := ev_rel he m
  unfold makeK at h
  split at h
  · rename_i k1 a k2 b s h1 h2 hs
    rw [h1] at hl
    rw [h2] at hm
    obtain ⟨hg, hk⟩ := gd_some h
    simp only [Bool.and_eq_true] at hg
    obtain ⟨⟨⟨⟨g1, g2⟩, g3⟩, g4⟩, g5⟩ := hg
    have g1 := Nat.eq_of_beq_eq_true g1
    have g2 := of_decide_eq_true g2
    have g3 := of_decide_eq_true g3
    have g4 := of_decide_eq_true g4
    have g5 := Nat.le_of_ble_eq_true g5
    have hz := shOfC_rel (c := c) hs
    have hzl : z.length = s.w := by rw [← hz.length, toCells_len]
    have hb : b ≤ bytes * b := by
      have : (1 : Int) * b ≤ bytes * b := Int.mul_le_mul_of_nonneg_right (by omega) (by omega)
      omega
    refine run_of (v := .slice (some ⟨c.σ.n, 0, none⟩) a.toNat b.toNat) (σ' := c.σ.add ⟨times z b.toNat, true, es⟩) ?_ ?_
    · simp only [AOp.run, hl.int_inv, hm.int_inv]
      rw [if_pos ⟨g2, g3, by omega, by omega⟩]
    · have hab : times z b.toNat = times z a.toNat ++ times z (b.toNat - a.toNat) := by rw [← times_app]; congr 1; omega
      have hrel : F2 (VRel c) (flatL s (List.replicate a.toNat (zeroEl s))) (times z a.toNat) := by
        rw [flatL_replicate]
        clear hab
        generalize a.toNat = n
        induction n with
        | zero => exact .nil
        | succ n ih =>
          simp only [times, List.replicate_succ, List.flatten_cons] at ih ⊢
          exact hz.append ih
      have hmv : Moves c none (some c.σ.n) (.arr s false (List.replicate a.toNat (zeroEl s))) (c.σ.add ⟨times z b.toNat, true, es⟩) := by
        refine ⟨(fun b h _ hb => by injection h with h; subst h; exact Nat.lt_irrefl _ (hR.fbl _ hb)), (fun _ h => by cases h), fun q x hx => ?_, Nat.le_succ _, fun i x hx _ => ?_, (s.w, (List.replicate a.toNat (zeroEl s)).length * s.w), rfl, w_pos s, .inr ⟨c.σ.n, ⟨times z b.toNat, true, es⟩, times z a.toNat, times z (b.toNat - a.toNat), rfl, if_pos rfl, g1, fun _ => rfl, hab, hrel, .inl fun w hw => ?_⟩⟩
        · simp only [Hp.add] at hx ⊢
          split at hx
          · omega
          · have := hR.ok q x hx; omega
        · have := hR.ok i x hx
          simp only [Hp.add]
          rw [if_neg (by omega)]
          exact hx
        · have := hR.ok _ _ hw; omega
      refine Out.new (kill := none) hR hmv (fun _ h => by cases h) (new_full (dm := (s.w, (List.replicate a.toNat (zeroEl s)).length * s.w)) (n := a.toNat) (m := b.toNat) (yb := ⟨times z b.toNat, true, es⟩) rfl (by simp) (by omega) (if_pos rfl) ?_) hk
      rw [times_len, hzl]
      exact Nat.le_refl _
  · cases h

/-! ### What comes behind -/
def More.cellsOf : More → List VV
  | .cells l => l
  | .lst s l => flatL s l
theorem readN_take {x : Ab.Blk} {o n m : Nat} (h : o + n ≤ x.cells.length) (hm : m ≤ n) : readN x o m = some (((x.cells.drop o).take n).take m) := by
  unfold readN
  rw [if_pos (by omega), List.take_take, Nat.min_eq_left hm]
theorem part_more (hR : Rel c) {q o n es : Nat} {dm : Nat × Nat} {a : Value} (hd : (sget c.S q).dim = some dm) (he : dm.1 = es) (hs : SlR c q o n dm a) :
    ∃ all, lenV a = some n ∧ (∀ m, m ≤ n → c.σ.slice es a m = some (all.take (m * es))) ∧ all.length = n * es ∧ F2 (VRel c) (((sget c.S q).vals.drop (o * es)).take (n * es)) all := by
  subst he
  rcases hs with ⟨rfl, rfl, rfl, hm, hz⟩ | ⟨b, cp, x, rfl, hm, h3, h4, hx, h5⟩
  · refine ⟨[], rfl, fun m hm' => ?_, by simp, by simp; exact .nil⟩
    have : m = 0 := by omega
    subst this
    simp [Hp.slice]
  · obtain ⟨y0, cs, rest, h6, _, _, h7, h8⟩ := hR.block hd hm
    rw [hx] at h6
    injection h6 with h6
    subst h6
    have hl := h8.length
    have hvl : (sget c.S q).vals.length = dm.2 := by
      generalize sget c.S q = blk at hd
      cases blk with
      | dead => cases hd
      | cells es z l => injection hd with hd; subst hd; rfl
      | arr s z l => injection hd with hd; subst hd; exact flatL_len
    rw [Nat.add_mul] at h3
    have h9 : ((cs.drop (o * dm.1)).take (n * dm.1)).length = n * dm.1 := by rw [List.length_take, List.length_drop]; omega
    refine ⟨(cs.drop (o * dm.1)).take (n * dm.1), rfl, fun m hm' => ?_, h9, (h8.drop _).take _⟩
    have h10 : m * dm.1 ≤ n * dm.1 := Nat.mul_le_mul_right _ hm'
    by_cases hm0 : m = 0
    · subst hm0; simp [Hp.slice]
    simp only [Hp.slice, hx, if_neg hm0]
    rw [readN_take (n := n * dm.1) (by rw [h7, List.length_append]; omega) h10, h7, List.drop_append_of_le_length (by omega), List.take_append_of_le_length (l₁ := cs.drop (o * dm.1)) (by rw [List.length_drop]; omega)]
theorem moreOf_ok (hR : Rel c) {es : Nat} {v : VV} {a : Value} {m : More} (h : moreOf c.S es v = some m) (hv : VRel c v a) :
    ∃ n all, lenV a = some n ∧ (∀ i, i ≤ n → c.σ.slice es a i = some (all.take (i * es))) ∧ all.length = n * es ∧ F2 (VRel c) m.cellsOf all ∧ (∀ s l, m = .lst s l → es = s.w ∧ n = l.length) := by
  cases v <;> simp only [moreOf] at h <;> try (cases h; done)
  case nils =>
    injection h with h; subst h
    cases hv
    refine ⟨0, [], rfl, fun i hi => ?_, by simp, .nil, fun s l h => by cases h⟩
    have : i = 0 := by omega
    subst this
    simp [Hp.slice]
  case str l =>
    cases he : Nat.beq es 1 with
    | false => rw [he] at h; cases h
    | true =>
      rw [he] at h
      have he := Nat.eq_of_beq_eq_true he
      subst he
      injection h with h; subst h
      obtain ⟨s, rfl, rfl⟩ := hv.str_inv
      refine ⟨s.size, s.data.toList.map fun b => .int .u8 b.toNat, rfl, fun i hi => ?_, by simp, ?_, fun s' l h => ?_⟩
      · simp only [Hp.slice, if_true, Nat.mul_one]
        simp [ByteArray.data_extract, Array.toList_extract, List.extract_eq_take_drop, List.map_take]
      · simp only [More.cellsOf, bytesI, flatL]
        generalize s.data.toList = l
        induction l with
        | nil => exact .nil
        | cons b l ih => exact .cons (.int _ _) ih
      · injection h with h1 h2
        subst h1
        cases h2
        exact ⟨rfl, (bytesI_size s).symm⟩
  case lst s l =>
    cases he : Nat.beq es s.w with
    | false => rw [he] at h; cases h
    | true =>
      rw [he] at h
      have he := Nat.eq_of_beq_eq_true he
      subst he
      injection h with h; subst h
      refine ⟨l.length, ?_⟩
      rcases hv.listAt with ⟨qq, rfl, rfl, hqq⟩ | ⟨b, p, cp, x, rfl, h1, h2, h3, h4, h5⟩
      · refine ⟨[], rfl, fun i hi => ?_, by simp, .nil, fun s' l h => by injection h with h1 h2; subst h1; cases h2; exact ⟨rfl, rfl⟩⟩
        have : i = 0 := by simp at hi; exact hi
        subst this
        cases qq with
        | none => simp [Hp.slice]
        | some z =>
          have := hqq z rfl
          obtain ⟨zb, zo, zs⟩ := z
          simp only at this
          subst this
          simp [Hp.slice]
      · refine ⟨(x.cells.drop p).take (l.length * s.w), rfl, fun i hi => ?_, by rw [← h5.length, flatL_len], h5, fun s' l' h => by injection h with h1 h2; subst h1; cases h2; exact ⟨rfl, rfl⟩⟩
        by_cases hi0 : i = 0
        · subst hi0; simp [Hp.slice]
        simp only [Hp.slice, h1, if_neg hi0]
        exact readN_take h4 (Nat.mul_le_mul_right _ hi)
  case full q =>
    cases hv with
    | full hk _ hd =>
      cases hb : sget c.S q with
      | dead => rw [hb] at h; cases h
      | arr s z l =>
        rw [hb] at h
        cases he : Nat.beq es s.w with
        | false => simp only [he] at h; cases h
        | true =>
          simp only [he] at h
          have he := Nat.eq_of_beq_eq_true he
          subst he
          injection h with h; subst h
          have hdim : (sget c.S q).dim = some (s.w, l.length * s.w) := by rw [hb]; rfl
          obtain ⟨n, h1, h2⟩ := hd _ hdim
          have : n = l.length := Nat.eq_of_mul_eq_mul_right (w_pos s) h1
          subst this
          obtain ⟨all, h3, h4, h5, h6⟩ := part_more hR hdim rfl h2
          rw [hb, Nat.zero_mul, List.drop_zero, List.take_of_length_le (by simp [Blk.vals, flatL_len])] at h6
          exact ⟨_, all, h3, h4, h5, h6, fun s' l' h => by injection h with h1 h2; subst h1; cases h2; exact ⟨rfl, rfl⟩⟩
      | cells es' z l =>
        rw [hb] at h
        cases he : (Nat.beq es es' && Nat.ble 1 es) with
        | false => simp only [he] at h; cases h
        | true =>
          simp only [he] at h
          rw [Bool.and_eq_true] at he
          have he1 := Nat.eq_of_beq_eq_true he.1
          subst he1
          injection h with h; subst h
          have hdim : (sget c.S q).dim = some (es, l.length) := by rw [hb]; rfl
          obtain ⟨n, h1, h2⟩ := hd _ hdim
          obtain ⟨all, h3, h4, h5, h6⟩ := part_more hR hdim rfl h2
          simp only at h1
          rw [hb, Nat.zero_mul, List.drop_zero, h1, List.take_of_length_le (by exact Nat.le_refl _)] at h6
          exact ⟨_, all, h3, h4, h5, h6, fun s' l' h => by cases h⟩
  case part q o n =>
    cases hv with
    | part hk _ hd =>
      cases hb : sget c.S q with
      | dead => rw [hb] at h; cases h
      | arr s z l =>
        rw [hb] at h
        cases he : Nat.beq es s.w with
        | false => simp only [he] at h; cases h
        | true =>
          simp only [he] at h
          have he := Nat.eq_of_beq_eq_true he
          subst he
          injection h with h; subst h
          have hdim : (sget c.S q).dim = some (s.w, l.length * s.w) := by rw [hb]; rfl
          have h2 := hd _ hdim
          obtain ⟨all, h3, h4, h5, h6⟩ := part_more hR hdim rfl h2
          rw [hb] at h6
          simp only [Blk.vals] at h6
          rw [← flatL_drop, ← flatL_take] at h6
          have h7 : n = ((l.drop o).take n).length := by
            have := h6.length
            rw [flatL_len, h5] at this
            exact (Nat.eq_of_mul_eq_mul_right (w_pos s) this).symm
          exact ⟨_, all, h3, h4, h5, h6, fun s' l' h => by injection h with h1 h2; subst h1; cases h2; exact ⟨rfl, h7⟩⟩
      | cells es' z l =>
        rw [hb] at h
        cases he : (Nat.beq es es' && Nat.ble 1 es) with
        | false => simp only [he] at h; cases h
        | true =>
          simp only [he] at h
          rw [Bool.and_eq_true] at he
          have he1 := Nat.eq_of_beq_eq_true he.1
          subst he1
          injection h with h; subst h
          have hdim : (sget c.S q).dim = some (es, l.length) := by rw [hb]; rfl
          have h2 := hd _ hdim
          obtain ⟨all, h3, h4, h5, h6⟩ := part_more hR hdim rfl h2
          rw [hb] at h6
          exact ⟨_, all, h3, h4, h5, h6, fun s' l' h => by cases h⟩

/-! ### A list that grows -/
def Base.cellsOf : Base → List VV
  | .none => []
  | .cells _ l => l
  | .arr s l => flatL s l
/-- What stands at the place where a list is to grow. -/
structure BaseAt (c : Ctx) (es sl : Nat) (base : Base) (kill : Option Nat) (a : Value) : Prop where
  no : kill = none → a = .slice none 0 0 ∧ sl = 0 ∧ base = .none
  yes : ∀ q, kill = some q → ∃ dm, (sget c.S q).dim = some dm ∧ dm.1 = es ∧ (sget c.S q).frozen = false ∧ SlR c q 0 sl dm a ∧ base.cellsOf = (sget c.S q).vals.take (sl * es)
  es : ∀ e l, base = .cells e l → e = es ∧ 1 ≤ es
theorem blk_vals_len {blk : Blk} {dm : Nat × Nat} (h : blk.dim = some dm) : blk.vals.length = dm.2 := by
  cases blk with
  | dead => cases h
  | cells es z l => injection h with h; subst h; rfl
  | arr s z l => injection h with h; subst h; exact flatL_len
theorem baseOf_ok {es : Nat} {v : VV} {a : Value} {base : Base} {kill : Option Nat} (hR : Rel c) (h : baseOf c.S es v = some (base, kill)) (hv : VRel c v a) : ∃ sl, BaseAt c es sl base kill a ∧ base.cellsOf.length = sl * es ∧ (∀ s l, base = .arr s l → es = s.w ∧ sl = l.length) := by
  cases v <;> try (cases h; done)
  case nils =>
    simp only [baseOf] at h
    injection h with h
    injection h with h1 h2
    subst h1; subst h2
    cases hv
    exact ⟨0, ⟨fun _ => ⟨rfl, rfl, rfl⟩, (fun q h => by cases h), (fun e l h => by cases h)⟩, by simp [Base.cellsOf], fun s l h => by cases h⟩
  case full q =>
    simp only [baseOf] at h
    cases hv with
    | full hk _ hd =>
      cases hb : sget c.S q with
      | dead => rw [hb] at h; cases h
      | arr s z l =>
        rw [hb] at h
        cases z with
        | true => cases h
        | false =>
          simp only at h
          cases he : Nat.beq es s.w with
          | false => rw [he] at h; cases h
          | true =>
            rw [he] at h
            have he := Nat.eq_of_beq_eq_true he
            subst he
            injection h with h
            injection h with h1 h2
            subst h1; subst h2
            have hdim : (sget c.S q).dim = some (s.w, l.length * s.w) := by rw [hb]; rfl
            obtain ⟨n, h1, h2⟩ := hd _ hdim
            have : n = l.length := Nat.eq_of_mul_eq_mul_right (w_pos s) h1
            subst this
            refine ⟨l.length, ⟨(fun h => by cases h), fun q' h => ?_, (fun e l h => by cases h)⟩, flatL_len, fun s' l' h => by injection h with h1 h2; subst h1; cases h2; exact ⟨rfl, rfl⟩⟩
            injection h with h
            subst h
            refine ⟨_, hdim, rfl, by rw [hb]; rfl, h2, ?_⟩
            rw [hb]
            exact (List.take_of_length_le (by rw [show (Base.arr s l).cellsOf = flatL s l from rfl, flatL_len]; exact Nat.le_refl _)).symm
      | cells es' z l =>
        rw [hb] at h
        cases z with
        | true => cases h
        | false =>
          simp only at h
          cases he : (Nat.beq es es' && Nat.ble 1 es) with
          | false => rw [he] at h; cases h
          | true =>
            rw [he] at h
            rw [Bool.and_eq_true] at he
            have he1 := Nat.eq_of_beq_eq_true he.1
            subst he1
            injection h with h
            injection h with h1 h2
            subst h1; subst h2
            have hdim : (sget c.S q).dim = some (es, l.length) := by rw [hb]; rfl
            obtain ⟨n, h1, h2⟩ := hd _ hdim
            simp only at h1
            refine ⟨n, ⟨(fun h => by cases h), fun q' h => ?_, fun e l h => by injection h with h1 h2; exact ⟨h1.symm, Nat.le_of_ble_eq_true he.2⟩⟩, h1.symm, fun s' l' h => by cases h⟩
            injection h with h
            subst h
            refine ⟨_, hdim, rfl, by rw [hb]; rfl, h2, ?_⟩
            rw [hb, h1]
            exact (List.take_of_length_le (Nat.le_refl _)).symm
  case part q lo n =>
    cases lo with
    | succ lo => cases h
    | zero =>
      simp only [baseOf] at h
      cases hv with
      | part hk _ hd =>
        cases hb : sget c.S q with
        | dead => rw [hb] at h; cases h
        | arr s z l =>
          rw [hb] at h
          cases z with
          | true => cases h
          | false =>
            simp only at h
            cases he : Nat.beq es s.w with
            | false => rw [he] at h; cases h
            | true =>
              rw [he] at h
              have he := Nat.eq_of_beq_eq_true he
              subst he
              injection h with h
              injection h with h1 h2
              subst h1; subst h2
              have hdim : (sget c.S q).dim = some (s.w, l.length * s.w) := by rw [hb]; rfl
              have h2 := hd _ hdim
              have hn : n ≤ l.length := by
                rcases h2 with ⟨_, _, h3, _, _⟩ | ⟨b, cp, x, _, _, h3, _⟩
                · omega
                · rw [Nat.zero_add] at h3
                  exact Nat.le_of_mul_le_mul_right h3 (w_pos s)
              have hlen : (l.take n).length = n := by rw [List.length_take]; omega
              refine ⟨n, ⟨(fun h => by cases h), fun q' h => ?_, (fun e l h => by cases h)⟩, by simp only [Base.cellsOf]; rw [flatL_len, hlen], fun s' l' h => by injection h with h1 h2; subst h1; cases h2; exact ⟨rfl, hlen.symm⟩⟩
              injection h with h
              subst h
              refine ⟨_, hdim, rfl, by rw [hb]; rfl, h2, ?_⟩
              rw [hb]
              exact flatL_take
        | cells es' z l =>
          rw [hb] at h
          cases z with
          | true => cases h
          | false =>
            simp only at h
            cases he : (Nat.beq es es' && Nat.ble 1 es) with
            | false => rw [he] at h; cases h
            | true =>
              rw [he] at h
              rw [Bool.and_eq_true] at he
              have he1 := Nat.eq_of_beq_eq_true he.1
              subst he1
              injection h with h
              injection h with h1 h2
              subst h1; subst h2
              have hdim : (sget c.S q).dim = some (es, l.length) := by rw [hb]; rfl
              have h2 := hd _ hdim
              have hn : n * es ≤ l.length := by
                rcases h2 with ⟨_, _, h3, _, _⟩ | ⟨b, cp, x, _, _, h3, _⟩
                · subst h3; simp
                · rwa [Nat.zero_add] at h3
              refine ⟨n, ⟨(fun h => by cases h), fun q' h => ?_, fun e l h => by injection h with h1 h2; exact ⟨h1.symm, Nat.le_of_ble_eq_true he.2⟩⟩, by simp only [Base.cellsOf]; rw [List.length_take]; omega, fun s' l' h => by cases h⟩
              injection h with h
              subst h
              exact ⟨_, hdim, rfl, by rw [hb]; rfl, h2, by rw [hb]; rfl⟩

theorem setL_all {vs cs : List Value} (h : cs.length = vs.length) : setL cs 0 vs = vs := by
  induction vs generalizing cs with
  | nil => simp only [setL]; exact List.length_eq_zero_iff.1 h
  | cons v vs ih =>
    cases cs with
    | nil => simp at h
    | cons a cs =>
      have h1 : cs.length = vs.length := by simpa using h
      show setL ((a :: cs).set 0 v) (0 + 1) vs = _
      have h2 := setL_app_right vs [v] cs 0
      simp only [List.length_cons, List.length_nil, List.singleton_append, Nat.zero_add] at h2
      rw [List.set_cons_zero, h2, ih h1]
theorem setL_at {vs cs : List Value} {p : Nat} (h : p + vs.length ≤ cs.length) : setL cs p vs = cs.take p ++ (vs ++ cs.drop (p + vs.length)) := by
  have := setL_mid (vs := vs) (cs := cs) (p := p) (o := 0) (w := vs.length) (by omega) h
  rw [Nat.add_zero, setL_all (by rw [List.length_take, List.length_drop]; omega)] at this
  exact this

theorem add_set_some {σ : Hp} {x z : Ab.Blk} {b i : Nat} (h : ((σ.set b none).add x).m i = some z) : i = σ.n ∨ (i ≠ b ∧ σ.m i = some z) := by
  by_cases h1 : i = σ.n
  · exact .inl h1
  · refine .inr ?_
    have h2 : ((σ.set b none).add x).m i = (σ.set b none).m i := if_neg h1
    rw [h2] at h
    by_cases h3 : i = b
    · have h4 : (σ.set b none).m i = none := if_pos h3
      rw [h4] at h; cases h
    · have h4 : (σ.set b none).m i = σ.m i := if_neg h3
      exact ⟨h3, h4 ▸ h⟩
theorem add_set_old {σ : Hp} {x : Ab.Blk} {b i : Nat} (h1 : i ≠ σ.n) (h3 : i ≠ b) : ((σ.set b none).add x).m i = σ.m i := by
  have h2 : ((σ.set b none).add x).m i = (σ.set b none).m i := if_neg h1
  have h4 : (σ.set b none).m i = σ.m i := if_neg h3
  exact h2.trans h4
/-- What a block's list is that grew. -/
structure Grown (c : Ctx) (base more : List VV) (es n : Nat) (blk : Blk) : Prop where
  dim : blk.dim = some (es, n * es)
  fz : blk.frozen = false
  rel : ∀ bs ms, F2 (VRel c) base bs → F2 (VRel c) more ms → F2 (VRel c) blk.vals (bs ++ ms)

theorem append_core {c1 : Ctx} {es bytes sl n : Nat} {base : Base} {kill : Option Nat} {more : List VV} {blk : Blk} {s : Operand} {op : AOp} {all : List Value} (hR : Rel c1) (hS : Frz c.S c1.S) (hμ : c1.μ = c.μ) (hσ : c1.σ = c.σ) (hle : Le c c1) (hcalm : Calm d c c1)
    (he1 : 1 ≤ es) (hb : BaseAt c es sl base kill (ea.ev s)) (hkz : ∀ q, kill = some q → (sget c1.S q).frozen = false)
    (hop : ∀ a sl' sc, ea.ev s = .slice a sl' sc → op.run ea c.σ = appRun es bytes c.σ a sl' sc n all) (h3 : all.length = n * es) (h4 : F2 (VRel c1) more all) (h5 : all.all one = true) (hg : Grown c1 base.cellsOf more es (sl + n) blk)
    (hf : fits (sl + n) bytes = true) (hd : ∀ q, kill = some q → q ∈ d) (hk : k (.full c1.S.length) (killO c1.S kill ++ [blk]) = some y) : runOp T op ea c.σ (Out c d k y) := by
  have hfit : (sl + n) * bytes ≤ 140737488355328 ∧ sl + n ≤ 9223372036854775807 := by
    unfold fits at hf
    rw [Bool.and_eq_true] at hf
    have g1 := of_decide_eq_true hf.1
    have g2 := Nat.le_of_ble_eq_true hf.2
    refine ⟨g1, ?_⟩
    have : (sl + n) * 1 ≤ (sl + n) * bytes := Nat.mul_le_mul_left _ g2
    omega
  have hnew : all = [] → n = 0 := by
    intro h
    subst h
    simp only [List.length_nil] at h3
    rcases Nat.eq_zero_or_pos n with h | h
    · exact h
    · have := Nat.mul_pos h he1; omega
  have fin : ∀ {v : Value} {σ' : Hp} {b1 : Option Nat}, Moves c1 kill b1 blk σ' → VRel ⟨newMu c1 b1, killO c1.S kill ++ [blk], σ', c1.fb⟩ (.full c1.S.length) v → Out c d k y v σ' := by
    intro v σ' b1 hm hv
    exact ⟨_, _, rfl, hle.trans (hm.le hR), hm.rel hR, hcalm.trans (hm.calm hR hd) hle, hv, hk⟩
  cases kill with
  | none =>
    obtain ⟨e1, e2, e3⟩ := hb.no rfl
    subst e2; subst e3
    by_cases hn : n = 0
    · subst hn
      have : all = [] := by simpa using h3
      subst this
      have hmv : Moves c1 none none blk c1.σ := ⟨(fun _ h => by cases h), (fun _ h => by cases h), hR.ok, Nat.le_refl _, fun _ _ h _ => h, _, hg.dim, he1, .inl ⟨rfl, by simp⟩⟩
      refine run_of (v := .slice none 0 0) (σ' := c.σ) ?_ ?_
      · rw [hop _ _ _ e1]
        unfold appRun
        rw [if_pos (by simp)]
        simp
      · rw [← hσ]
        refine fin hmv (.full (by simp [killO]) rfl fun d' hd' => ?_)
        simp only [moved_get, if_true] at hd'
        rw [hg.dim] at hd'
        injection hd' with hd'
        subst hd'
        exact ⟨0, by simp, .inl ⟨rfl, rfl, rfl, by simp [newMu], by simp⟩⟩
    · have hmv := adds hR (blk := blk) (x := ⟨all, true, es⟩) hg.dim he1 rfl rfl (by have := hg.rel [] all .nil h4; simpa using this)
      refine run_of (v := .slice (some ⟨c.σ.n, 0, none⟩) n n) (σ' := c.σ.add ⟨all, true, es⟩) ?_ ?_
      · rw [hop _ _ _ e1]
        unfold appRun
        rw [if_neg (by omega), if_pos ⟨hfit.1, hfit.2, h5⟩]
        simp
      · rw [← hσ]
        refine fin hmv (new_full (yb := ⟨all, true, es⟩) hg.dim (by simp) (Nat.le_refl _) (if_pos rfl) ?_)
        show n * es ≤ all.length
        omega
  | some q =>
    obtain ⟨dm, g1, g2, g3, g4, g5⟩ := hb.yes q rfl
    subst g2
    have hdim1 : (sget c1.S q).dim = some dm := by rw [hS.dim]; exact g1
    have hvals1 : (sget c1.S q).vals = (sget c.S q).vals := hS.vals q
    rcases g4 with ⟨e1, _, e2, e3, e4⟩ | ⟨b, cp, yb, e1, e3, e4, e5, e6, e7⟩
    · subst e2
      have hbase : base.cellsOf = [] := by rw [g5]; simp
      by_cases hn : n = 0
      · subst hn
        have : all = [] := by simpa using h3
        subst this
        have hmv : Moves c1 (some q) none blk c1.σ := ⟨(fun _ h => by cases h), (fun _ h => by injection h with h; subst h; exact hkz q rfl), hR.ok, Nat.le_refl _, fun _ _ h _ => h, _, hg.dim, he1, .inl ⟨rfl, by simp⟩⟩
        refine run_of (v := .slice none 0 0) (σ' := c.σ) ?_ ?_
        · rw [hop _ _ _ e1]
          unfold appRun
          rw [if_pos (by simp)]
          simp
        · rw [← hσ]
          refine fin hmv (.full (by simp [killO_len]) rfl fun d' hd' => ?_)
          simp only [moved_get, if_true] at hd'
          rw [hg.dim] at hd'
          injection hd' with hd'
          subst hd'
          exact ⟨0, by simp, .inl ⟨rfl, rfl, rfl, by simp [newMu], by simp⟩⟩
      · have hmv : Moves c1 (some q) (some c1.σ.n) blk (c1.σ.add ⟨all, true, dm.1⟩) := by
          have h0 := adds hR (blk := blk) (x := ⟨all, true, dm.1⟩) hg.dim he1 rfl rfl (by have := hg.rel [] all (by rw [hbase]; exact .nil) h4; simpa using this)
          refine ⟨h0.fr, (fun _ h => by injection h with h; subst h; exact hkz q rfl), h0.ok, h0.n, fun i z hz _ => h0.old i z hz (fun ⟨_, h, _⟩ => by cases h), ?_⟩
          obtain ⟨dd, k1, k2, k3⟩ := h0.one
          refine ⟨dd, k1, k2, ?_⟩
          rcases k3 with k3 | ⟨b', y', cs, rest, k3, k4, k5, k6, k7, k8, k9⟩
          · exact .inl k3
          · refine .inr ⟨b', y', cs, rest, k3, k4, k5, k6, k7, k8, .inl ?_⟩
            rcases k9 with k9 | ⟨_, k9, _⟩
            · exact k9
            · cases k9
        refine run_of (v := .slice (some ⟨c.σ.n, 0, none⟩) n n) (σ' := c.σ.add ⟨all, true, dm.1⟩) ?_ ?_
        · rw [hop _ _ _ e1]
          unfold appRun
          rw [if_neg (by omega), if_pos ⟨hfit.1, hfit.2, h5⟩]
          simp
        · rw [← hσ]
          refine fin hmv (new_full (yb := ⟨all, true, dm.1⟩) hg.dim (by simp) (Nat.le_refl _) (if_pos rfl) ?_)
          show n * dm.1 ≤ all.length
          omega
    · rw [Nat.zero_mul] at e1
      rw [Nat.zero_add] at e4 e7
      have e3' : c1.μ q = some b := by rw [hμ]; exact e3
      obtain ⟨yb', cs, rest, f1, f2, f3, f4, f5⟩ := hR.block hdim1 e3'
      rw [hσ] at f1
      rw [e6] at f1
      injection f1 with f1
      subst f1
      have hown := f3 (hkz q rfl)
      have hcl : cs.length = dm.2 := by rw [← f5.length]; exact blk_vals_len hdim1
      have hbs : F2 (VRel c1) base.cellsOf (cs.take (sl * dm.1)) := by rw [g5, ← hvals1]; exact f5.take _
      have hrel := hg.rel _ _ hbs h4
      have hytake : yb.cells.take (sl * dm.1) = cs.take (sl * dm.1) := by rw [f4, List.take_append_of_le_length (by omega)]
      have hcp : sl * dm.1 ≤ cp * dm.1 := Nat.mul_le_mul_right _ e5
      by_cases hroom : sl + n ≤ cp
      · have hroom' : sl * dm.1 + n * dm.1 ≤ cp * dm.1 := by rw [← Nat.add_mul]; exact Nat.mul_le_mul_right _ hroom
        have hset : setL yb.cells (sl * dm.1) all = cs.take (sl * dm.1) ++ (all ++ yb.cells.drop (sl * dm.1 + all.length)) := by rw [setL_at (by omega), hytake]
        have mk : ∀ σ' : Hp, σ'.Ok → σ'.n = c1.σ.n → (∀ i, i ≠ b → σ'.m i = c1.σ.m i) → σ'.m b = some ⟨setL yb.cells (sl * dm.1) all, true, yb.es⟩ → Moves c1 (some q) (some b) blk σ' := by
          intro σ' ho hn hm hb'
          refine ⟨(fun b' h hz _ => by injection h with h; subst h; exact hz _ (by rw [hσ]; exact e6)), (fun _ h => by injection h with h; subst h; exact hkz q rfl), ho, by omega, fun i z hz hK => ?_, (dm.1, (sl + n) * dm.1), hg.dim, he1, .inr ⟨b, _, cs.take (sl * dm.1) ++ all, yb.cells.drop (sl * dm.1 + all.length), rfl, hb', f2, fun _ => rfl, by show setL _ _ _ = _; rw [hset, List.append_assoc], hrel, .inr ⟨q, rfl, e3'⟩⟩⟩
          have : i ≠ b := by rintro rfl; exact hK ⟨q, rfl, e3'⟩
          rw [hm i this]
          exact hz
        have hfull : ∀ σ' : Hp, σ'.m b = some ⟨setL yb.cells (sl * dm.1) all, true, yb.es⟩ → VRel ⟨newMu c1 (some b), killO c1.S (some q) ++ [blk], σ', c1.fb⟩ (.full c1.S.length) (.slice (some ⟨b, 0, none⟩) (sl + n) cp) := by
          intro σ' hb'
          refine new_full hg.dim rfl hroom hb' ?_
          show cp * dm.1 ≤ (setL yb.cells (sl * dm.1) all).length
          rw [setL_len]
          exact e7
        by_cases hn : all = []
        · have hself : yb = ⟨setL yb.cells (sl * dm.1) all, true, yb.es⟩ := by
            subst hn
            cases yb
            simp only [setL] at *
            simp [hown]
          refine run_of (v := .slice (some ⟨b, 0, none⟩) (sl + n) cp) (σ' := c.σ) ?_ ?_
          · rw [hop _ _ _ e1]
            unfold appRun
            rw [if_pos hroom]
            simp [hn]
          · rw [← hσ]
            have e6' : c1.σ.m b = some ⟨setL yb.cells (sl * dm.1) all, true, yb.es⟩ := by rw [← hself, hσ]; exact e6
            exact fin (mk c1.σ hR.ok rfl (fun _ _ => rfl) e6') (hfull _ e6')
        · refine run_of (v := .slice (some ⟨b, 0, none⟩) (sl + n) cp) (σ' := c.σ.set b (some ⟨setL yb.cells (sl * dm.1) all, true, yb.es⟩)) ?_ ?_
          · rw [hop _ _ _ e1]
            unfold appRun
            rw [if_pos hroom]
            simp only [hn, if_false, e6, Nat.zero_add]
            rw [writeN_ok hown (by omega) h5]
          · rw [← hσ]
            refine fin (mk _ (fun i z hz => ?_) rfl (fun i hi => by simp [Hp.set, hi]) (by simp [Hp.set])) (hfull _ (by simp [Hp.set]))
            simp only [Hp.set] at hz
            split at hz
            · rename_i e
              subst e
              exact hR.ok _ _ (by rw [hσ]; exact e6)
            · exact hR.ok _ _ hz
      · have hmv : Moves c1 (some q) (some c1.σ.n) blk ((c1.σ.set b none).add ⟨cs.take (sl * dm.1) ++ all, true, dm.1⟩) := by
          refine ⟨(fun b h _ hb => by injection h with h; subst h; exact Nat.lt_irrefl _ (hR.fbl _ hb)), (fun _ h => by injection h with h; subst h; exact hkz q rfl), fun i z hz => ?_, Nat.le_succ _, fun i z hz hK => ?_, (dm.1, (sl + n) * dm.1), hg.dim, he1, .inr ⟨c1.σ.n, _, cs.take (sl * dm.1) ++ all, [], rfl, if_pos rfl, rfl, fun _ => rfl, by simp, hrel, .inl fun z hz => ?_⟩⟩
          · show i < c1.σ.n + 1
            rcases add_set_some hz with h0 | ⟨_, h0⟩
            · omega
            · have := hR.ok i z h0; omega
          · have h0 : i ≠ b := by rintro rfl; exact hK ⟨q, rfl, e3'⟩
            have h9 := hR.ok i z hz
            rw [add_set_old (by omega) h0]
            exact hz
          · have := hR.ok _ _ hz; omega
        refine run_of (v := .slice (some ⟨c.σ.n, 0, none⟩) (sl + n) (sl + n)) (σ' := (c.σ.set b none).add ⟨cs.take (sl * dm.1) ++ all, true, dm.1⟩) ?_ ?_
        · rw [hop _ _ _ e1]
          unfold appRun
          rw [if_neg hroom, if_pos ⟨hfit.1, hfit.2, h5⟩]
          simp only [e6]
          rw [if_pos ⟨hown, f2⟩]
          have : readN yb 0 (sl * dm.1) = some (cs.take (sl * dm.1)) := by
            unfold readN
            rw [if_pos (by omega), List.drop_zero, hytake]
          rw [this]
        · rw [← hσ]
          refine fin hmv (new_full (yb := ⟨cs.take (sl * dm.1) ++ all, true, dm.1⟩) hg.dim rfl (Nat.le_refl _) (if_pos rfl) ?_)
          show (sl + n) * dm.1 ≤ (cs.take (sl * dm.1) ++ all).length
          rw [List.length_append, List.length_take, Nat.add_mul]
          omega

theorem typed_rel {S : Store} {s : Sh} {cs : List VV} {l : List (El s)} {c1 : Ctx} (hR : Rel c1) (hS : c1.S = S) (h : typed S s cs = some l) : cs.length = l.length * s.w ∧ ∀ as, F2 (VRel c1) cs as → F2 (VRel c1) (flatL s l) as := by
  subst hS
  exact chunk_rel (ofCells_takes hR s) _ _ _ h

theorem appendM_ok (hR : Rel c) (he : EnvRel c e ea) {es bytes : Nat} {s : Operand} {op : AOp} {mo : Option More} (hd : ∀ q, blkOf (ev e s) = some q → q ∈ d) (h : appendM c.S es bytes (baseOf c.S es (ev e s)) mo k = some y)
    (hm : ∀ m, mo = some m → ∃ n all, (∀ a sl' sc, ea.ev s = .slice a sl' sc → op.run ea c.σ = appRun es bytes c.σ a sl' sc n all) ∧ all.length = n * es ∧ F2 (VRel c) m.cellsOf all ∧ (∀ s l, m = .lst s l → es = s.w ∧ n = l.length)) : runOp T op ea c.σ (Out c d k y) := by
  have hs := ev_rel he s
  unfold appendM at h
  cases hbo : baseOf c.S es (ev e s) with
  | none => rw [hbo] at h; cases h
  | some p =>
    obtain ⟨base, kill⟩ := p
    cases mo with
    | none => rw [hbo] at h; cases base <;> cases h
    | some m =>
      obtain ⟨sl, hb, hbl, hba⟩ := baseOf_ok hR hbo hs
      obtain ⟨n, all, hop, h3, h4, h5⟩ := hm m rfl
      have hkd : ∀ q, kill = some q → q ∈ d := by
        intro q hq
        refine hd q ?_
        subst hq
        cases hv : ev e s <;> rw [hv] at hbo <;> try (cases hbo; done)
        case full b =>
          simp only [baseOf] at hbo
          split at hbo
          · rename_i s' l hbb
            cases hh : Nat.beq es s'.w with
            | false => rw [hh] at hbo; cases hbo
            | true => rw [hh] at hbo; simp only [cond_true, Option.some.injEq, Prod.mk.injEq] at hbo; rw [← hbo.2]; rfl
          · rename_i es' l hbb
            cases hh : (Nat.beq es es' && Nat.ble 1 es) with
            | false => rw [hh] at hbo; cases hbo
            | true => rw [hh] at hbo; simp only [cond_true, Option.some.injEq, Prod.mk.injEq] at hbo; rw [← hbo.2]; rfl
          · cases hbo
        case part b lo m =>
          cases lo with
          | succ lo => cases hbo
          | zero =>
            simp only [baseOf] at hbo
            split at hbo
            · rename_i s' l hbb
              cases hh : Nat.beq es s'.w with
              | false => rw [hh] at hbo; cases hbo
              | true => rw [hh] at hbo; simp only [cond_true, Option.some.injEq, Prod.mk.injEq] at hbo; rw [← hbo.2]; rfl
            · rename_i es' l hbb
              cases hh : (Nat.beq es es' && Nat.ble 1 es) with
              | false => rw [hh] at hbo; cases hbo
              | true => rw [hh] at hbo; simp only [cond_true, Option.some.injEq, Prod.mk.injEq] at hbo; rw [← hbo.2]; rfl
            · cases hbo
      have hkz : ∀ q, kill = some q → (sget c.S q).frozen = false := by
        intro q hq
        obtain ⟨_, _, _, h, _⟩ := hb.yes q hq
        exact h
      rw [hbo] at h
      have one4 : ∀ (c1 : Ctx) (l : List VV), F2 (VRel c1) l all → allOne l = true → all.all one = true := fun c1 l h1 h2 => allOne_all h1 h2
      cases base with
      | arr s' l =>
        obtain ⟨g1, g2⟩ := hba s' l rfl
        subst g1
        cases m with
        | lst s2 l' =>
          simp only at h
          obtain ⟨l2, k1, k2⟩ := bind_some' h
          obtain ⟨ee, k3⟩ := castEl_some k1
          cases ee
          subst k3
          obtain ⟨k4, k5⟩ := gd_some k2
          obtain ⟨_, k6⟩ := h5 _ _ rfl
          refine append_core hR (Frz.refl _) rfl rfl (Le.refl c) (Calm.refl d c) (w_pos _) hb hkz hop h3 h4 (one4 c _ h4 (flatL_one _ _)) ⟨?_, rfl, fun bs ms f1 f2 => ?_⟩ (by rw [g2, k6]; exact k4) hkd k5
          · simp only [Blk.dim, List.length_append, g2, k6]
          · simp only [Blk.vals]
            rw [flatL_app]
            exact f1.append f2
        | cells cs =>
          simp only at h
          split at h
          · rename_i s3 l3 hkk
            obtain ⟨l2, k1, k2⟩ := bind_some' h
            obtain ⟨k4, k5⟩ := gd_some k2
            have hfz := fzL_frz c.S cs
            have hR1 : Rel ⟨c.μ, fzL c.S cs, c.σ, c.fb⟩ := hfz.rel hR
            obtain ⟨k6, k7⟩ := typed_rel hR1 rfl k1
            have h4' : F2 (VRel ⟨c.μ, fzL c.S cs, c.σ, c.fb⟩) cs all := VRel.frames hfz.le h4
            have k8 : n = l2.length := by
              have := h4.length
              simp only [More.cellsOf] at this
              rw [k6, h3] at this
              exact (Nat.eq_of_mul_eq_mul_right (w_pos _) this).symm
            have hkz' : ∀ q, kill = some q → (sget (fzL c.S cs) q).frozen = false := by
              intro q hq
              subst hq
              simp only [Option.getD_some] at hkk
              rw [hkk]
              rfl
            refine append_core (c1 := ⟨c.μ, fzL c.S cs, c.σ, c.fb⟩) hR1 hfz rfl rfl hfz.le (hfz.calm d) (w_pos _) hb hkz' hop h3 h4' (one4 _ _ (k7 _ h4') (flatL_one _ _)) ⟨?_, rfl, fun bs ms f1 f2 => ?_⟩ (by rw [g2, k8]; exact k4) hkd k5
            · simp only [Blk.dim, List.length_append, g2, k8]
            · simp only [Blk.vals]
              rw [flatL_app]
              exact f1.append (k7 _ f2)
          · cases h
      | cells es0 l =>
        obtain ⟨g1, g2⟩ := hb.es _ _ rfl
        subst g1
        cases m with
        | lst s2 l' =>
          simp only at h
          obtain ⟨w1, w2⟩ := h5 _ _ rfl
          subst w1
          split at h
          · rename_i s3 l3 hkk
            obtain ⟨l1, k1, k2⟩ := bind_some' h
            obtain ⟨k4, k5⟩ := gd_some k2
            have hfz := fzL_frz c.S l
            have hR1 : Rel ⟨c.μ, fzL c.S l, c.σ, c.fb⟩ := hfz.rel hR
            obtain ⟨k6, k7⟩ := typed_rel hR1 rfl k1
            have h4' : F2 (VRel ⟨c.μ, fzL c.S l, c.σ, c.fb⟩) (flatL s2 l') all := VRel.frames hfz.le h4
            have k8 : sl = l1.length := by
              simp only [Base.cellsOf] at hbl
              rw [k6] at hbl
              exact (Nat.eq_of_mul_eq_mul_right (w_pos _) hbl).symm
            have hkz' : ∀ q, kill = some q → (sget (fzL c.S l) q).frozen = false := by
              intro q hq
              subst hq
              simp only [Option.getD_some] at hkk
              rw [hkk]
              rfl
            refine append_core (c1 := ⟨c.μ, fzL c.S l, c.σ, c.fb⟩) hR1 hfz rfl rfl hfz.le (hfz.calm d) (w_pos _) hb hkz' hop h3 h4' (one4 _ _ h4' (flatL_one _ _)) ⟨?_, rfl, fun bs ms f1 f2 => ?_⟩ (by rw [w2, k8]; exact k4) hkd k5
            · simp only [Blk.dim, List.length_append, w2, k8]
            · simp only [Blk.vals]
              rw [flatL_app]
              exact (k7 _ f1).append f2
          · cases h
        | cells cs =>
          simp only at h
          obtain ⟨k4, k5⟩ := gd_some h
          rw [Bool.and_eq_true] at k4
          simp only [Base.cellsOf] at hbl
          simp only [More.cellsOf] at h4
          have k6 : cs.length = n * es0 := by rw [h4.length]; exact h3
          refine append_core (blk := .cells es0 false (l ++ cs)) hR (Frz.refl _) rfl rfl (Le.refl c) (Calm.refl d c) g2 hb hkz hop h3 h4 (one4 c _ h4 k4.2) ⟨?_, rfl, fun bs ms f1 f2 => F2.append (l := l) f1 f2⟩ ?_ hkd k5
          · simp only [Blk.dim, List.length_append, hbl, k6, Nat.add_mul]
          · have : (l.length + cs.length) / es0 = sl + n := by rw [hbl, k6, ← Nat.add_mul, Nat.mul_div_cancel _ g2]
            rw [← this]
            exact k4.1
      | none =>
        have hsl : kill = none → sl = 0 := fun hh => (hb.no hh).2.1
        have hsl0 : ∀ (q : Nat), 1 ≤ es → sl = 0 := by
          intro _ hh
          simp only [Base.cellsOf, List.length_nil] at hbl
          rcases Nat.eq_zero_or_pos sl with h | h
          · exact h
          · have := Nat.mul_pos h hh; omega
        cases m with
        | lst s2 l' =>
          simp only at h
          obtain ⟨w1, w2⟩ := h5 _ _ rfl
          subst w1
          have hz := hsl0 0 (w_pos _)
          subst hz
          obtain ⟨k4, k5⟩ := gd_some h
          refine append_core hR (Frz.refl _) rfl rfl (Le.refl c) (Calm.refl d c) (w_pos _) hb hkz hop h3 h4 (one4 c _ h4 (flatL_one _ _)) ⟨?_, rfl, fun bs ms f1 f2 => ?_⟩ (by rw [w2]; exact k4) hkd k5
          · simp only [Blk.dim, List.length_append, w2, List.length_nil]
          · cases f1
            exact f2
        | cells cs =>
          simp only at h
          obtain ⟨k4, k5⟩ := gd_some h
          rw [Bool.and_eq_true, Bool.and_eq_true] at k4
          have g2 := Nat.le_of_ble_eq_true k4.1.2
          have hz := hsl0 0 g2
          subst hz
          simp only [More.cellsOf] at h4
          have k6 : cs.length = n * es := by rw [h4.length]; exact h3
          refine append_core (blk := .cells es false cs) hR (Frz.refl _) rfl rfl (Le.refl c) (Calm.refl d c) g2 hb hkz hop h3 h4 (one4 c _ h4 k4.2) ⟨?_, rfl, fun bs ms f1 f2 => by cases f1; exact f2⟩ ?_ hkd k5
          · simp only [Blk.dim, k6, Nat.zero_add]
          · have : cs.length / es = 0 + n := by rw [k6, Nat.mul_div_cancel _ g2, Nat.zero_add]
            rw [← this]
            exact k4.1.1

/-! ### A slice that has no room behind it -/
theorem tight_run {s : Sh} {l : List (El s)} {a : Value} {bytes n : Nat} {all : List Value} (hv : VRel c (.tgt s l) a) (h3 : all.length = n * s.w) (h1 : 1 ≤ n) (h5 : all.all one = true) (hf : fits (l.length + n) bytes = true) :
    ∃ p sc old, a = .slice p l.length sc ∧ F2 (VRel c) (flatL s l) old ∧ appRun s.w bytes c.σ p l.length sc n all = some (.slice (some ⟨c.σ.n, 0, none⟩) (l.length + n) (l.length + n), c.σ.add ⟨old ++ all, true, s.w⟩) := by
  have hfit : (l.length + n) * bytes ≤ 140737488355328 ∧ l.length + n ≤ 9223372036854775807 := by
    unfold fits at hf
    rw [Bool.and_eq_true] at hf
    have g1 := of_decide_eq_true hf.1
    have g2 := Nat.le_of_ble_eq_true hf.2
    refine ⟨g1, ?_⟩
    have : (l.length + n) * 1 ≤ (l.length + n) * bytes := Nat.mul_le_mul_left _ g2
    omega
  cases hv with
  | tgtn hq =>
    simp only [List.length_nil, Nat.zero_add] at hfit ⊢
    rcases hq with rfl | ⟨b, o, rfl⟩
    · refine ⟨none, 0, [], rfl, .nil, ?_⟩
      unfold appRun
      rw [if_neg (by omega), if_pos (by rw [Nat.zero_add]; exact ⟨hfit.1, hfit.2, h5⟩)]
      simp
    · refine ⟨_, 0, [], rfl, .nil, ?_⟩
      unfold appRun
      rw [if_neg (by omega), if_pos (by rw [Nat.zero_add]; exact ⟨hfit.1, hfit.2, h5⟩)]
      simp
  | tgt hn hy he h4 hf' =>
    rename_i b p yb
    by_cases h0 : l = []
    · subst h0
      simp only [List.length_nil, Nat.zero_add] at hfit ⊢
      refine ⟨_, 0, [], rfl, .nil, ?_⟩
      unfold appRun
      rw [if_neg (by omega), if_pos (by rw [Nat.zero_add]; exact ⟨hfit.1, hfit.2, h5⟩)]
      simp
    · have hl : l.length ≠ 0 := fun h => h0 (List.eq_nil_of_length_eq_zero h)
      refine ⟨_, _, _, rfl, hf', ?_⟩
      unfold appRun
      rw [if_neg (by omega), if_pos ⟨hfit.1, hfit.2, h5⟩]
      simp only [hl, if_false, hy, he, if_true]
      have : readN yb p (l.length * s.w) = some ((yb.cells.drop p).take (l.length * s.w)) := by
        unfold readN
        rw [if_pos h4]
      rw [this]
theorem tight_core {c1 : Ctx} {bytes n : Nat} {s : Sh} {l l2 : List (El s)} {so : Operand} {op : AOp} {all : List Value} (hR : Rel c1) (hσ : c1.σ = c.σ) (hle : Le c c1) (hcalm : Calm d c c1)
    (hv : VRel c1 (.tgt s l) (ea.ev so)) (hop : ∀ a sl' sc, ea.ev so = .slice a sl' sc → op.run ea c.σ = appRun s.w bytes c.σ a sl' sc n all) (h3 : all.length = n * s.w) (h4 : F2 (VRel c1) (flatL s l2) all) (h5 : all.all one = true) (hn : n = l2.length) (h1 : 1 ≤ n)
    (h : grow c1.S bytes s none l l2 k = some y) : runOp T op ea c.σ (Out c d k y) := by
  unfold grow at h
  obtain ⟨g1, g2⟩ := gd_some h
  rw [← hn] at g1
  obtain ⟨p, sc, old, e1, f1, f2⟩ := tight_run hv h3 h1 h5 g1
  have hrel : F2 (VRel c1) (flatL s (l ++ l2)) (old ++ all) := by rw [flatL_app]; exact f1.append h4
  have hmv := adds hR (blk := .arr s false (l ++ l2)) (x := ⟨old ++ all, true, s.w⟩) (d := (s.w, (l ++ l2).length * s.w)) rfl (w_pos s) rfl rfl hrel
  refine run_of (v := .slice (some ⟨c.σ.n, 0, none⟩) (l.length + n) (l.length + n)) (σ' := c.σ.add ⟨old ++ all, true, s.w⟩) ?_ ?_
  · rw [hop _ _ _ e1, ← hσ, f2]
  · rw [← hσ]
    refine ⟨_, _, rfl, hle.trans (hmv.le hR), hmv.rel hR, hcalm.trans (hmv.calm hR (fun q h => by cases h)) hle, ?_, g2⟩
    refine new_full (yb := ⟨old ++ all, true, s.w⟩) (dm := (s.w, (l ++ l2).length * s.w)) rfl (by simp [hn]) (Nat.le_refl _) (if_pos rfl) ?_
    show (l.length + n) * s.w ≤ (old ++ all).length
    rw [List.length_append, ← f1.length, flatL_len, h3, Nat.add_mul]
    exact Nat.le_refl _
theorem tight_ok (hR : Rel c) (he : EnvRel c e ea) {es bytes : Nat} {s : Sh} {l : List (El s)} {so : Operand} {op : AOp} {mo : Option More} (hs : ev e so = .tgt s l) (h : tightK c.S es bytes s l mo k = some y)
    (hm : ∀ m, mo = some m → ∃ n all, (∀ a sl' sc, ea.ev so = .slice a sl' sc → op.run ea c.σ = appRun es bytes c.σ a sl' sc n all) ∧ all.length = n * es ∧ F2 (VRel c) m.cellsOf all ∧ (∀ s l, m = .lst s l → es = s.w ∧ n = l.length)) : runOp T op ea c.σ (Out c d k y) := by
  have hv := ev_rel he so
  rw [hs] at hv
  unfold tightK at h
  cases mo with
  | none => cases h
  | some m =>
    obtain ⟨n, all, hop, h3, h4, h5⟩ := hm m rfl
    cases m with
    | lst s' l' =>
      simp only at h
      obtain ⟨l2, k1, k2⟩ := bind_some' h
      obtain ⟨ee, k3⟩ := castEl_some k1
      cases ee
      subst k3
      obtain ⟨k4, k5⟩ := gd_some k2
      rw [Bool.and_eq_true] at k4
      have w1 := Nat.eq_of_beq_eq_true k4.1
      have w2 := Nat.le_of_ble_eq_true k4.2
      subst w1
      obtain ⟨_, k6⟩ := h5 _ _ rfl
      exact tight_core hR rfl (Le.refl c) (Calm.refl d c) hv hop h3 h4 (allOne_all h4 (flatL_one _ _)) k6 (by rw [k6]; exact w2) k5
    | cells cs =>
      simp only at h
      obtain ⟨l2, k1, k2⟩ := bind_some' h
      obtain ⟨k4, k5⟩ := gd_some k2
      rw [Bool.and_eq_true] at k4
      have w1 := Nat.eq_of_beq_eq_true k4.1
      have w2 := Nat.le_of_ble_eq_true k4.2
      subst w1
      have hfz := fzL_frz c.S cs
      have hR1 : Rel ⟨c.μ, fzL c.S cs, c.σ, c.fb⟩ := hfz.rel hR
      obtain ⟨k6, k7⟩ := typed_rel hR1 rfl k1
      have h4' : F2 (VRel ⟨c.μ, fzL c.S cs, c.σ, c.fb⟩) cs all := VRel.frames hfz.le h4
      have k8 : n = l2.length := by
        have := h4.length
        simp only [More.cellsOf] at this
        rw [k6, h3] at this
        exact (Nat.eq_of_mul_eq_mul_right (w_pos _) this).symm
      exact tight_core (c1 := ⟨c.μ, fzL c.S cs, c.σ, c.fb⟩) hR1 rfl hfz.le (hfz.calm d) (hv.frame hfz.le) hop h3 (k7 _ h4') (allOne_all (k7 _ h4') (flatL_one _ _)) k8 (by rw [k8]; exact w2) k5
theorem tightSrc_ok (hR : Rel c) {v : VV} {a : Value} {S1 : Store} {s : Sh} {l : List (El s)} (h : tightSrc c.S v = some (S1, .arr s l)) (hv : VRel c v a) : Frz c.S S1 ∧ VRel ⟨c.μ, S1, c.σ, c.fb⟩ (.lst s l) a := by
  unfold tightSrc at h
  split at h
  · simp only [Option.some.injEq, Prod.mk.injEq, Base.arr.injEq] at h
    obtain ⟨h1, rfl, h2⟩ := h
    have h2 := eq_of_heq h2
    subst h1; subst h2
    exact ⟨Frz.refl _, hv⟩
  · rename_i q
    split at h
    · rename_i s' z l' hb
      simp only [Option.some.injEq, Prod.mk.injEq, Base.arr.injEq] at h
      obtain ⟨h1, rfl, h2⟩ := h
      have h2 := eq_of_heq h2
      subst h1; subst h2
      have hfz : Frz c.S (sput c.S q (sget c.S q).freeze) := Frz.put
      refine ⟨hfz, ?_⟩
      have hR1 := hfz.rel hR
      have hq : q < c.S.length := sget_lt (by rw [hb]; simp [Blk.dim])
      have hg : sget (sput c.S q (sget c.S q).freeze) q = .arr s' true l' := by rw [sget_at hq, hb]; rfl
      refine listFz_rel hR1 (ofCells_takes hR1 s') (v := .full q) ?_ (hv.frame hfz.le)
      show cond (sget (sput c.S q (sget c.S q).freeze) q).frozen _ _ = _
      rw [hg]
      simp only [Blk.frozen, cond_true, listOf, hg, blkList, castEl_self]
    · cases h
  · cases h
theorem capN_ok (hR : Rel c) (he : EnvRel c e ea) {x : Operand} (hx : ev e x = .nils) (h : k (.int .i64 0) c.S = some y) : runOp T (.capN x) ea c.σ (Out c d k y) := by
  have hv := ev_rel he x
  rw [hx] at hv
  have e1 : ea.ev x = .slice none 0 0 := by generalize ea.ev x = q at hv; cases hv; rfl
  refine run_of (v := .int .i64 0) (σ' := c.σ) ?_ (Out.same hR (.int _ _) h)
  simp only [AOp.run, e1]
theorem sliceX_ok (hR : Rel c) (he : EnvRel c e ea) {x hi mx : Operand} (h : sliceXK c.S (ev e x) (ev e hi) (ev e mx) k = some y) : runOp T (.sliceX x hi mx) ea c.σ (Out c d k y) := by
  have hv := ev_rel he x
  have hvh := ev_rel he hi
  have hvm := ev_rel he mx
  unfold sliceXK at h
  split at h
  · rename_i kh zh km zm eh em
    rw [eh] at hvh
    rw [em] at hvm
    have q1 : ea.ev hi = .int kh zh := hvh.int_inv
    have q2 : ea.ev mx = .int km zm := hvm.int_inv
    obtain ⟨g1, h1⟩ := gd_some h
    clear h
    have g1 := of_decide_eq_true g1
    subst g1
    have h := h1
    clear h1
    have run : ∀ (p : Option Addr) (n cp : Nat) (r : Value), ea.ev x = .slice p n cp → 0 ≤ zh → zh ≤ cp → (match p with
        | none => some (Value.slice none 0 0, c.σ)
        | some ⟨b, o, none⟩ => some (.slice (some ⟨b, o, some 0⟩) zh.toNat zh.toNat, c.σ)
        | _ => none) = some (r, c.σ) → (AOp.sliceX x hi mx).run ea c.σ = some (r, c.σ) := by
      intro p n cp r hp h0 h1 hr
      have b1 : bound cp 0 (some (.int km zh)) = some zh.toNat := if_pos ⟨h0, h1⟩
      have b2 : bound zh.toNat 0 (some (.int kh zh)) = some zh.toNat := if_pos ⟨h0, by omega⟩
      simp only [AOp.run, hp, q1, q2, b1, b2, if_true]
      exact hr
    split at h
    · rename_i hx
      rw [hx] at hv
      obtain ⟨g2, h1⟩ := gd_some h
      clear h
      have h := h1
      clear h1
      have g2 := of_decide_eq_true g2
      subst g2
      have e1 : ea.ev x = .slice none 0 0 := by generalize ea.ev x = q at hv; cases hv; rfl
      exact run_of (run _ _ _ (.slice none 0 0) e1 (by simp) (by simp) rfl) (Out.same hR .nils h)
    · split at h
      · rename_i S1 s l hsrc
        obtain ⟨g2, h1⟩ := gd_some h
        clear h
        have h := h1
        clear h1
        obtain ⟨c1, c2, c3⟩ := cutG_some g2
        obtain ⟨hfz, hl⟩ := tightSrc_ok hR hsrc hv
        have hR1 := hfz.rel hR
        have out : ∀ v : Value, VRel ⟨c.μ, S1, c.σ, c.fb⟩ (.tgt s (l.take zh.toNat)) v → Out c d k y v c.σ := fun v hv => ⟨_, ⟨c.μ, S1, c.σ, c.fb⟩, rfl, hfz.le, hR1, hfz.calm d, hv, h⟩
        cases hl' : ea.ev x with
        | slice p n cp =>
          rw [hl'] at hl
          cases hl with
          | lstn hq =>
            have z0 : zh = 0 := by simp at c3; omega
            subst z0
            cases p with
            | none => exact run_of (run _ _ _ (.slice none 0 0) hl' (by simp) (by simp) rfl) (out _ (.tgtn (.inl rfl)))
            | some A =>
              obtain ⟨b, o, sp⟩ := A
              have : sp = none := hq _ rfl
              subst this
              exact run_of (run _ _ _ (.slice (some ⟨b, o, some 0⟩) 0 0) hl' (by simp) (by simp) rfl) (out _ (.tgtn (.inr ⟨_, _, rfl⟩)))
          | lst hn hy he' h1 h2 h3 hf =>
            rename_i b o yb
            refine run_of (run _ _ _ (.slice (some ⟨b, o, some 0⟩) zh.toNat zh.toNat) hl' c2 (by omega) rfl) (out _ ?_)
            have hlen : (l.take zh.toNat).length = zh.toNat := by rw [List.length_take]; omega
            have hmul : zh.toNat * s.w ≤ n * s.w := Nat.mul_le_mul_right _ (by omega)
            have := VRel.tgt (c := ⟨c.μ, S1, c.σ, c.fb⟩) (l := l.take zh.toNat) hn hy he' (p := o) (by rw [hlen]; omega) (by
              rw [hlen, flatL_take]
              have h9 := hf.take (zh.toNat * s.w)
              rw [List.take_take, Nat.min_eq_left hmul] at h9
              exact h9)
            rw [hlen] at this
            exact this
        | _ => rw [hl'] at hl; cases hl
      · cases h
  · cases h
theorem appendV_ok (hR : Rel c) (he : EnvRel c e ea) {es bytes : Nat} {s x : Operand} (hd : ∀ q, blkOf (ev e s) = some q → q ∈ d) (h : appendVK c.S es bytes (ev e s) (ev e x) k = some y) (hap : appendK c.S es bytes (ev e s) (ev e x) k = some y → runOp T (.append es bytes s x) ea c.σ (Out c d k y)) : runOp T (.append es bytes s x) ea c.σ (Out c d k y) := by
  unfold appendVK at h
  split at h
  · rename_i s' l hs
    refine tight_ok hR he hs h fun m hmo => ?_
    obtain ⟨n, all, h1, h2, h3, h4, h5⟩ := moreOf_ok hR hmo (ev_rel he x)
    have h2n := h2 n (Nat.le_refl _)
    rw [List.take_of_length_le (by omega)] at h2n
    refine ⟨n, all, fun a sl' sc hs => ?_, h3, h4, h5⟩
    simp only [AOp.run, hs, h1, h2n]
  · exact hap h
/-! ### A list that is copied into another one -/
theorem append_ok (hR : Rel c) (he : EnvRel c e ea) {es bytes : Nat} {s x : Operand} (hd : ∀ q, blkOf (ev e s) = some q → q ∈ d) (h : appendK c.S es bytes (ev e s) (ev e x) k = some y) : runOp T (.append es bytes s x) ea c.σ (Out c d k y) := by
  refine appendM_ok hR he hd h fun m hmo => ?_
  obtain ⟨n, all, h1, h2, h3, h4, h5⟩ := moreOf_ok hR hmo (ev_rel he x)
  have h2n := h2 n (Nat.le_refl _)
  rw [List.take_of_length_le (by omega)] at h2n
  refine ⟨n, all, fun a sl' sc hs => ?_, h3, h4, h5⟩
  simp only [AOp.run, hs, h1, h2n]
theorem appendZ_ok (hR : Rel c) (he : EnvRel c e ea) {es bytes : Nat} {z : List Value} {s x : Operand} (hd : ∀ q, blkOf (ev e s) = some q → q ∈ d) (h : appendZK c.S es bytes z (ev e s) (ev e x) k = some y) : runOp T (.appendZ es bytes z s x) ea c.σ (Out c d k y) := by
  have hx := ev_rel he x
  unfold appendZK at h
  split at h
  · rename_i kd l hl
    rw [hl] at hx
    obtain ⟨hg, h⟩ := gd_some h
    unfold zeroFits at hg
    rw [Bool.and_eq_true, Bool.and_eq_true] at hg
    have g1 := of_decide_eq_true hg.1
    have g2 := of_decide_eq_true hg.2.1
    have g3 := of_decide_eq_true hg.2.2
    refine appendM_ok hR he hd h fun m hmo => ?_
    unfold zeroMore at hmo
    split at hmo
    · rename_i sh hs
      cases hb : Nat.beq es sh.w with
      | false => rw [hb] at hmo; cases hmo
      | true =>
        rw [hb] at hmo
        simp only [cond_true, Option.some.injEq] at hmo
        subst hmo
        have he := Nat.eq_of_beq_eq_true hb
        subst he
        have hz := shOfC_rel (c := c) hs
        have hzl : z.length = sh.w := by rw [← hz.length, toCells_len]
        refine ⟨l.toNat, times z l.toNat, fun a sl' sc hs' => ?_, by rw [times_length, hzl], ?_, fun s' l' h' => ?_⟩
        · simp only [AOp.run, hs', hx.int_inv]
          rw [if_pos ⟨g1, g2, g3⟩]
        · show F2 (VRel c) (flatL sh (List.replicate l.toNat (zeroEl sh))) (times z l.toNat)
          rw [flatL_replicate]
          generalize l.toNat = n
          induction n with
          | zero => exact .nil
          | succ n ih =>
            simp only [times, List.replicate_succ, List.flatten_cons] at ih ⊢
            exact hz.append ih
        · injection h' with h1 h2
          subst h1
          have h2 := eq_of_heq h2
          rw [← h2, List.length_replicate]
          exact ⟨rfl, rfl⟩
    · cases hmo
  · cases h

theorem sput_self {S : Store} {q : Nat} : sput S q (sget S q) = S := by
  induction S generalizing q with
  | nil => rfl
  | cons a r ih =>
    cases q with
    | zero => rfl
    | succ q => simp only [sput, sget, ih]
theorem set_self {σ : Hp} {b : Nat} {x : Ab.Blk} (h : σ.m b = some x) : σ.set b (some x) = σ := by
  have : (fun i => if i = b then some x else σ.m i) = σ.m := by
    funext i
    by_cases hi : i = b
    · rw [if_pos hi, hi, h]
    · rw [if_neg hi]
  show Hp.mk _ _ = _
  rw [this]

/-- What the abstract machine makes of a copy. -/
theorem copy_run {es n m b o cp : Nat} {x z : Operand} {all : List Value} {x0 : Ab.Blk} (hx : ea.ev x = .slice (some ⟨b, o, none⟩) n cp) (h1 : lenV (ea.ev z) = some m) (h2 : c.σ.slice es (ea.ev z) (min m n) = some all) (hy : c.σ.m b = some x0)
    (hown : x0.own = true) (hlen : o + all.length ≤ x0.cells.length) (hone : all.all one = true) : (AOp.copy es x z).run ea c.σ = some (.int .i64 (min m n : Nat), c.σ.set b (some ⟨setL x0.cells o all, true, x0.es⟩)) := by
  simp only [AOp.run, hx, h1, h2]
  by_cases hn : all = []
  · rw [if_pos hn]
    subst hn
    have : (⟨setL x0.cells o [], true, x0.es⟩ : Ab.Blk) = x0 := by cases x0; simp only [setL] at *; simp [hown]
    rw [this, set_self hy]
  · rw [if_neg hn, hy]
    simp only [writeN_ok hown hlen hone]

theorem copy_core (hR : Rel c) {es q o n m : Nat} {dm : Nat × Nat} {x z : Operand} {blk : Blk} {all : List Value} (hdim : (sget c.S q).dim = some dm) (hes : dm.1 = es) (hz : (sget c.S q).frozen = false) (hs : SlR c q o n dm (ea.ev x))
    (h1 : lenV (ea.ev z) = some m) (h2 : c.σ.slice es (ea.ev z) (min m n) = some all) (h3 : all.length = min m n * es) (h5 : all.all one = true) (hd : q ∈ d) (hbd : blk.dim = some dm) (hbz : blk.frozen = false) (hnil : dm.2 = 0 → blk = sget c.S q)
    (hrel : ∀ cs, F2 (VRel c) (sget c.S q).vals cs → F2 (VRel c) blk.vals (setL cs (o * es) all)) (hk : k (.int .i64 (min m n : Nat)) (sput c.S q blk) = some y) : runOp T (.copy es x z) ea c.σ (Out c d k y) := by
  subst hes
  rcases hs with ⟨e1, e2, e3, e4, e5⟩ | ⟨b, cp, yb, e1, e2, e3, e4, e5, e6⟩
  · subst e2; subst e3
    have : all = [] := by simpa using h3
    subst this
    refine run_of (v := .int .i64 (min m 0 : Nat)) (σ' := c.σ) ?_ (Out.same hR (.int _ _) ?_)
    · simp only [AOp.run, e1, h1, h2]
      simp
    · rw [hnil e5, sput_self] at hk
      exact hk
  · obtain ⟨y0, cs, rest, f1, f2, f3, f4, f5⟩ := hR.block hdim e2
    rw [e5] at f1
    injection f1 with f1
    subst f1
    have hl := f5.length
    rw [blk_vals_len hdim] at hl
    have hle : o * dm.1 + min m n * dm.1 ≤ dm.2 := by
      have : (o + min m n) * dm.1 ≤ (o + n) * dm.1 := Nat.mul_le_mul_right _ (by omega)
      rw [Nat.add_mul] at this
      omega
    have hlen : o * dm.1 + all.length ≤ yb.cells.length := by rw [f4, List.length_append, h3]; omega
    have hw : Writes c q b blk ⟨setL yb.cells (o * dm.1) all, true, yb.es⟩ := ⟨hz, e2, hbd.trans hdim.symm, hbz, yb, setL cs (o * dm.1) all, rest, dm, e5, hdim, f2, rfl, setL_len _ _ _, by show setL _ _ _ = _; rw [f4, setL_app _ _ _ _ (by omega)], hrel cs f5⟩
    exact run_of (copy_run e1 h1 h2 e5 (f3 hz) hlen h5) ⟨_, _, rfl, hw.le hR, hw.rel hR, hw.calm hR hd, .int _ _, hk⟩

theorem overI_rel {kd : IntKind} : ∀ {cs r : List VV} {m ml : List Int} {j : Nat} {as ms : List Value}, overI kd m j cs = some r → F2 (VRel c) cs as → F2 (VRel c) (ml.map (VV.int kd)) ms → ml = (m.drop j).take cs.length →
    F2 (VRel c) r (ms ++ as.drop ms.length)
  | [], r, m, ml, j, as, ms, h, hf, hm, hl => by
    simp only [overI] at h
    injection h with h; subst h
    cases hf
    simp at hl
    subst hl
    cases hm
    exact .nil
  | v :: cs, r, m, ml, j, as, ms, h, hf, hm, hl => by
    cases v <;> simp only [overI] at h <;> try (cases h; done)
    rename_i k' n
    cases hk : decide (k' = kd) with
    | false => rw [hk] at h; cases h
    | true =>
      rw [hk, cond_true] at h
      have hk := of_decide_eq_true hk
      subst hk
      obtain ⟨r', h1, h2⟩ := bind_some' h
      injection h2 with h2
      subst h2
      cases hf with
      | cons hf1 hf2 =>
        rename_i a as
        have ha := hf1.int_inv
        subst ha
        by_cases hj : j < m.length
        · have hd : m.drop j = m[j] :: m.drop (j + 1) := List.drop_eq_getElem_cons hj
          rw [hd] at hl
          simp only [List.length_cons, List.take_succ_cons] at hl
          subst hl
          cases hm with
          | cons hm1 hm2 =>
            rename_i b ms
            have hb := hm1.int_inv
            subst hb
            have := overI_rel h1 hf2 hm2 rfl
            rw [List.getD_eq_getElem?_getD, List.getElem?_eq_getElem hj]
            exact .cons (.int _ _) this
        · have hd : m.drop j = [] := List.drop_eq_nil_of_le (by omega)
          rw [hd] at hl
          simp only [List.take_nil] at hl
          subst hl
          cases hm
          have := overI_rel (ml := []) h1 hf2 .nil (by rw [List.drop_eq_nil_of_le (by omega)]; simp)
          rw [List.getD_eq_getElem?_getD, List.getElem?_eq_none (by omega)]
          exact .cons (.int _ _) this
theorem overI_len {kd : IntKind} {m : List Int} : ∀ {cs r : List VV} {j : Nat}, overI kd m j cs = some r → r.length = cs.length
  | [], r, j, h => by injection h with h; subst h; rfl
  | v :: cs, r, j, h => by
    cases v <;> simp only [overI] at h <;> try (cases h; done)
    rename_i k' n
    cases hk : decide (k' = kd) with
    | false => rw [hk] at h; cases h
    | true =>
      rw [hk, cond_true] at h
      obtain ⟨r', h1, h2⟩ := bind_some' h
      injection h2 with h2
      subst h2
      simp [overI_len h1]

theorem map_flat {kd : IntKind} {m : List Int} : flatL (.int kd) m = m.map (VV.int kd) := by
  induction m with
  | nil => rfl
  | cons a m ih => rw [flatL_cons, ih]; rfl

theorem blit_take {α : Type} {l m : List α} {o n : Nat} (h : o + n ≤ l.length) : blit l o n m = l.take o ++ (m.take (min m.length n) ++ l.drop (o + min m.length n)) := by
  unfold blit
  rw [Nat.min_comm n m.length]
  congr 2
  by_cases hh : n ≤ m.length
  · rw [Nat.min_eq_right hh]
  · rw [Nat.min_eq_left (by omega), List.take_of_length_le (by omega), List.take_of_length_le (by omega)]
theorem blit_len {α : Type} {l m : List α} {o n : Nat} (h : o + n ≤ l.length) : (blit l o n m).length = l.length := by
  rw [blit_take h]
  simp only [List.length_append, List.length_take, List.length_drop]
  omega

/-- The typed list of a stretch that is copied over. -/
theorem copy_arr (hR : Rel c) {es q o n : Nat} {x z : Operand} {s : Sh} {l l2 : List (El s)} {mc : List VV} {m : Nat} {all : List Value} (hb : sget c.S q = .arr s false l) (hs : SlR c q o n (s.w, l.length * s.w) (ea.ev x)) (he : es = s.w)
    (h1 : lenV (ea.ev z) = some m) (h2 : ∀ i, i ≤ m → c.σ.slice es (ea.ev z) i = some (all.take (i * es))) (h3 : all.length = m * es) (h4 : F2 (VRel c) (flatL s l2) all) (hm : m = l2.length) (hd : q ∈ d)
    (hk : k (.int .i64 (min l2.length n : Nat)) (sput c.S q (.arr s false (blit l o n l2))) = some y) : runOp T (.copy es x z) ea c.σ (Out c d k y) := by
  subst he
  have hdim : (sget c.S q).dim = some (s.w, l.length * s.w) := by rw [hb]; rfl
  have hle : o + n ≤ l.length := by
    rcases hs with ⟨_, e2, e3, _, _⟩ | ⟨b, cp, yb, _, _, e3, _⟩
    · omega
    · exact Nat.le_of_mul_le_mul_right e3 (w_pos s)
  have h2' := h2 (min m n) (Nat.min_le_left _ _)
  have hal : (all.take (min m n * s.w)).length = min m n * s.w := by
    rw [List.length_take, h3, Nat.min_eq_left]
    exact Nat.mul_le_mul_right _ (Nat.min_le_left _ _)
  have h4' := h4.take (min m n * s.w)
  rw [← flatL_take] at h4'
  rw [← hm] at hk
  refine copy_core hR hdim rfl (by rw [hb]; rfl) hs h1 h2' hal (allOne_all h4' (flatL_one _ _)) hd ?_ rfl (fun h0 => ?_) (fun cs hcs => ?_) hk
  · simp only [Blk.dim, blit_len hle]
  · have : l.length = 0 := by
      rcases Nat.eq_zero_or_pos l.length with h | h
      · exact h
      · have := Nat.mul_pos h (w_pos s); simp only at h0; omega
    rw [hb, blit_take hle]
    rw [List.length_eq_zero_iff] at this
    subst this
    have hn : n = 0 := by simp at hle; omega
    subst hn
    simp
  · rw [hb] at hcs
    simp only [Blk.vals] at hcs ⊢
    have hcl := hcs.length
    rw [flatL_len] at hcl
    have hle2 : o * s.w + min m n * s.w ≤ l.length * s.w := by rw [← Nat.add_mul]; exact Nat.mul_le_mul_right _ (by omega)
    rw [setL_at (by rw [hal]; omega), blit_take hle, flatL_app, flatL_app, flatL_take, flatL_drop, hal, ← hm, Nat.add_mul]
    exact (hcs.take _).append (h4'.append (hcs.drop _))

theorem copy_ok (hR : Rel c) (he : EnvRel c e ea) {es : Nat} {x z : Operand} (hd : ∀ q, blkOf (ev e x) = some q → q ∈ d) (h : copyK c.S es (ev e x) (ev e z) k = some y) : runOp T (.copy es x z) ea c.σ (Out c d k y) := by
  have hx := ev_rel he x
  have hz := ev_rel he z
  unfold copyK at h
  have go : ∀ (q o n : Nat) (dm : Nat × Nat), (sget c.S q).dim = some dm → q ∈ d → SlR c q o n dm (ea.ev x) →
      (match sget c.S q, moreOf c.S es (ev e z) with
      | .arr s false l, some (.lst s' l') => (castEl (.list s') (.list s) l').bind fun l2 => gd (Nat.beq es s.w) (k (.int .i64 (min l2.length n : Nat)) (sput c.S q (.arr s false (blit l o n l2))))
      | .arr s false l, some (.cells cs) => (ints? .u64 cs).bind fun m => (castEl (.list (.int .u64)) (.list s) m).bind fun l2 => gd (Nat.beq es s.w) (k (.int .i64 (min l2.length n : Nat)) (sput c.S q (.arr s false (blit l o n l2))))
      | .cells 1 false l, some (.lst (.int kd) m) => gd (Nat.beq es 1 && Nat.ble (o + n) l.length) (match overI kd m 0 ((l.drop o).take n) with
        | some c' => k (.int .i64 (min m.length n : Nat)) (sput c.S q (.cells 1 false (l.take o ++ c' ++ l.drop (o + n))))
        | none => none)
      | _, _ => none) = some y → runOp T (.copy es x z) ea c.σ (Out c d k y) := by
    intro q o n dm hdim hqd hs h
    split at h
    · rename_i s l s' l' hb hm
      obtain ⟨m, all, h1, h2, h3, h4, h5⟩ := moreOf_ok hR hm hz
      obtain ⟨l2, k1, k2⟩ := bind_some' h
      obtain ⟨ee, k3⟩ := castEl_some k1
      cases ee
      subst k3
      obtain ⟨k4, k5⟩ := gd_some k2
      rw [hb] at hdim
      injection hdim with hdim
      subst hdim
      exact copy_arr (mc := []) hR hb hs (Nat.eq_of_beq_eq_true k4) h1 h2 h3 h4 (h5 _ _ rfl).2 hqd k5
    · rename_i s l cs hb hm
      obtain ⟨m, all, h1, h2, h3, h4, h5⟩ := moreOf_ok hR hm hz
      obtain ⟨ml, k0, k1⟩ := bind_some' h
      obtain ⟨l2, k1, k2⟩ := bind_some' k1
      obtain ⟨ee, k3⟩ := castEl_some k1
      cases ee
      subst k3
      obtain ⟨k4, k5⟩ := gd_some k2
      rw [hb] at hdim
      injection hdim with hdim
      subst hdim
      have hcs := ints_some k0
      simp only [More.cellsOf] at h4
      rw [hcs, ← map_flat] at h4
      have he1 := Nat.eq_of_beq_eq_true k4
      have hml : m = l2.length := by
        have := h4.length
        rw [flatL_len, h3, he1] at this
        exact (Nat.eq_of_mul_eq_mul_right (w_pos _) this).symm
      exact copy_arr (mc := []) hR hb hs he1 h1 h2 h3 h4 hml hqd k5
    · rename_i l kd ml hb hm
      obtain ⟨m, all, h1, h2, h3, h4, h5⟩ := moreOf_ok hR hm hz
      obtain ⟨k1, k2⟩ := gd_some h
      rw [Bool.and_eq_true] at k1
      have he1 := Nat.eq_of_beq_eq_true k1.1
      have hle := Nat.le_of_ble_eq_true k1.2
      subst he1
      split at k2
      · rename_i c' hov
        have hml := (h5 _ _ rfl).2
        rw [hb] at hdim
        injection hdim with hdim
        subst hdim
        have h2' := h2 (min m n) (Nat.min_le_left _ _)
        have hal : (all.take (min m n * 1)).length = min m n * 1 := by rw [List.length_take, h3, Nat.min_eq_left]; omega
        simp only [More.cellsOf] at h4
        have h4' : F2 (VRel c) (flatL (.int kd) (ml.take (min m n))) (all.take (min m n * 1)) := by rw [flatL_take]; exact h4.take (min m n * 1)
        have hc' := overI_len hov
        have hlen : ((l.drop o).take n).length = n := by rw [List.length_take, List.length_drop]; omega
        rw [← hml] at k2
        refine copy_core hR (by rw [hb]; rfl) rfl (by rw [hb]; rfl) hs h1 h2' hal (allOne_all h4' (flatL_one _ _)) hqd ?_ rfl (fun h0 => ?_) (fun cs hcs => ?_) k2
        · simp only [Blk.dim, List.length_append, List.length_take, List.length_drop, hc']
          congr 2
          omega
        · simp only at h0
          have : l = [] := List.length_eq_zero_iff.1 h0
          subst this
          rw [hb]
          simp at hle
          have hn : n = 0 := by omega
          subst hn
          simp [overI] at hov
          subst hov
          simp
        · rw [hb] at hcs
          simp only [Blk.vals] at hcs ⊢
          have hcl := hcs.length
          rw [setL_at (by rw [hal]; omega), List.append_assoc, Nat.mul_one]
          refine (hcs.take _).append ?_
          have h6 := overI_rel (ml := ml.take (min m n)) hov ((hcs.drop o).take n) (by rw [← map_flat]; exact h4') (by rw [hlen, List.drop_zero, hml, Nat.min_comm, ← List.take_take, List.take_of_length_le (l := ml) (Nat.le_refl _)])
          have h7 : cs.drop (o + (all.take (min m n * 1)).length) = ((cs.drop o).take n).drop (all.take (min m n * 1)).length ++ cs.drop (o + n) := by
            rw [hal, Nat.mul_one, List.drop_take, List.drop_drop]
            conv => lhs; rw [← List.take_append_drop (n - min m n) (cs.drop (o + min m n))]
            rw [List.drop_drop]
            congr 2
            omega
          rw [h7, ← List.append_assoc]
          exact h6.append (hcs.drop _)
      · cases k2
    · cases h
  generalize ev e x = xv at *
  cases xv <;> try (cases h; done)
  case full q =>
    simp only at h
    cases hx with
    | full hk _ hdd =>
      split at h
      · rename_i n hn
        cases hb : sget c.S q with
        | dead => simp only [lenOf, hb] at hn; cases hn
        | arr s z' l =>
          simp only [lenOf, hb] at hn
          injection hn with hn
          have hdim : (sget c.S q).dim = some (s.w, l.length * s.w) := by rw [hb]; rfl
          obtain ⟨n', h1, h2⟩ := hdd _ hdim
          have : n' = n := by rw [← hn]; exact Nat.eq_of_mul_eq_mul_right (w_pos s) h1
          subst this
          exact go q 0 n' _ hdim (hd q rfl) h2 h
        | cells es' z' l =>
          simp only [lenOf, hb] at hn
          injection hn with hn
          have hdim : (sget c.S q).dim = some (es', l.length) := by rw [hb]; rfl
          obtain ⟨n', h1, h2⟩ := hdd _ hdim
          have h3 := (hR.blk q _ hdim).1
          have : n' = n := by
            simp only at h1 h3
            rw [← hn, ← h1, Nat.mul_div_cancel _ h3]
          subst this
          exact go q 0 n' _ hdim (hd q rfl) h2 h
      · cases h
  case part q o n =>
    simp only at h
    cases hx with
    | part hk _ hdd =>
      cases hdm : (sget c.S q).dim with
      | none =>
        have : sget c.S q = .dead := by
          generalize sget c.S q = blk at hdm
          cases blk <;> first | rfl | (cases hdm; done)
        rw [this] at h
        cases h
      | some dm => exact go q o n dm hdm (hd q rfl) (hdd dm hdm) h
end
end Go.V
