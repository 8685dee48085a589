/- CheckMore in plain Lean. -/
import Derived.Test.YtlmjaeaeihobdaaL34d
namespace Go.V
set_option linter.unusedVariables false
set_option linter.unusedSimpArgs false
open Go.Ab
set_option linter.unusedVariables false
set_option linter.unusedSimpArgs false
def Reach {α γ : Type} (f : α → Option (α ⊕ γ)) (k : Nat) (s s' : α) : Prop := ∀ fu, loopN f (fu + k) s = loopN f fu s'
theorem Reach.refl {α γ : Type} {f : α → Option (α ⊕ γ)} {s : α} : Reach f 0 s s := fun _ => rfl
theorem Reach.trans {α γ : Type} {f : α → Option (α ⊕ γ)} {k k' : Nat} {s s' s'' : α} (h : Reach f k s s') (h' : Reach f k' s' s'') : Reach f (k + k') s s'' := by
  intro fu
  rw [show fu + (k + k') = (fu + k') + k by omega, h, h']
theorem Reach.one {α γ : Type} {f : α → Option (α ⊕ γ)} {s s' : α} (h : f s = some (.inl s')) : Reach f 1 s s' := by
  intro fu
  rw [loopN_succ, h]
  rfl
section
variable {l : List Op5}
theorem nm_op {i : Nat} {out st : List Int} (hl : l.length ≤ 1000) (hst : st.length ≤ 1000) (hi : i < l.length) (hk : 0 < l[i].1 ∧ l[i].1 < 7) (ho : out.length = l.length) :
    D_nest_Match_L0 l ((i : Int), true, out, st, st) = some (.inl (((i + 1 : Nat) : Int), true, out.set i (-1), st, st)) := by
  simp only [D_nest_Match_L0]
  rw [decide_eq_true (show (i : Int) < (l.length : Int) by omega), cond_true, rd_get hi]
  simp only [Option.bind_some]
  generalize hx : l[i] = x at *
  rw [decide_eq_false (show ¬x.1 < 0 by omega), cond_false, decide_eq_false (show ¬7 < x.1 by omega), cond_false, decide_eq_false (show ¬x.1 = 0 by omega)]
  simp only [cond_false, Option.bind_some, caseS_r]
  rw [ix_in (show i < out.length by omega)]
  simp only [Option.bind_some]
  rw [List.getElem?_eq_getElem (show i < out.length by omega)]
  simp only [Option.bind_some]
  rw [decide_eq_false (show ¬x.1 = 7 by omega)]
  simp only [cond_false]
  rw [wrap64 (n := (i : Int) + 1) (by omega)]
  rfl
theorem nm_open {i : Nat} {out st : List Int} (hl : l.length ≤ 1000) (hst : st.length ≤ 1000) (hi : i < l.length) (hk : l[i].1 = 7) (ho : out.length = l.length) :
    D_nest_Match_L0 l ((i : Int), true, out, st, st) = some (.inl (((i + 1 : Nat) : Int), true, out.set i (-1), st ++ [(i : Int)], st ++ [(i : Int)])) := by
  simp only [D_nest_Match_L0]
  rw [decide_eq_true (show (i : Int) < (l.length : Int) by omega), cond_true, rd_get hi]
  simp only [Option.bind_some]
  generalize hx : l[i] = x at *
  rw [decide_eq_false (show ¬x.1 < 0 by omega), cond_false, decide_eq_false (show ¬7 < x.1 by omega), cond_false, decide_eq_false (show ¬x.1 = 0 by omega)]
  simp only [cond_false, Option.bind_some, caseS_r]
  rw [ix_in (show i < out.length by omega)]
  simp only [Option.bind_some]
  rw [List.getElem?_eq_getElem (show i < out.length by omega)]
  simp only [Option.bind_some]
  rw [decide_eq_true hk]
  simp only [cond_true]
  rw [gd_fits (by omega) (by omega), gd_fits (by omega) (by omega), wrap64 (n := (i : Int) + 1) (by omega)]
  rfl
theorem nm_close {i q : Nat} {out st : List Int} (hl : l.length ≤ 1000) (hst : st.length < 1000) (hi : i < l.length) (hk : l[i].1 = 0) (ho : out.length = l.length) (hq : q < l.length) :
    D_nest_Match_L0 l ((i : Int), true, out, st ++ [(q : Int)], st ++ [(q : Int)]) = some (.inl (((i + 1 : Nat) : Int), true, ((out.set i (-1)).set i (q : Int)).set q (i : Int), st, st)) := by
  have hlen : (st ++ [(q : Int)]).length = st.length + 1 := by simp
  simp only [D_nest_Match_L0]
  rw [decide_eq_true (show (i : Int) < (l.length : Int) by omega), cond_true, rd_get hi]
  simp only [Option.bind_some]
  generalize hx : l[i] = x at *
  rw [decide_eq_false (show ¬x.1 < 0 by omega), cond_false, decide_eq_false (show ¬7 < x.1 by omega), cond_false, decide_eq_true hk]
  simp only [cond_true, Option.bind_some, caseS_r]
  rw [decide_eq_false (show ¬((st ++ [(q : Int)]).length : Int) = 0 by omega), cond_false]
  rw [wrap64 (n := ((st ++ [(q : Int)]).length : Int) - 1) (by omega), cutG_in (by omega), gd_true]
  simp only [Option.bind_some, caseS_r]
  have e7 : decide (x.1 = 7) = false := decide_eq_false (by omega)
  rw [ix_in (show i < out.length by omega)]
  simp only [Option.bind_some]
  rw [List.getElem?_eq_getElem (show i < out.length by omega)]
  simp only [Option.bind_some]
  rw [e7, cond_false, show ((st ++ [(q : Int)]).length : Int) - 1 = (st.length : Int) by rw [hlen]; omega, ix_in (show st.length < (st ++ [(q : Int)]).length by omega)]
  simp only [Option.bind_some]
  rw [List.getElem?_append_right (Nat.le_refl _), Nat.sub_self]
  simp only [List.getElem?_cons_zero, Option.bind_some]
  rw [gd_true, ix_in (show i < (out.set i (-1)).length by simp; omega)]
  simp only [Option.bind_some]
  rw [List.getElem?_eq_getElem (show i < (out.set i (-1)).length by simp; omega)]
  simp only [Option.bind_some]
  rw [ix_in (show q < ((out.set i (-1)).set i ((q : Nat) : Int)).length by simp; omega)]
  simp only [Option.bind_some]
  rw [List.getElem?_eq_getElem (show q < ((out.set i (-1)).set i ((q : Nat) : Int)).length by simp; omega)]
  simp only [Option.bind_some]
  have htk : (st ++ [(q : Int)]).take ((st.length : Int).toNat - 0) = st := by
    rw [show (st.length : Int).toNat - 0 = st.length by omega, List.take_left']
    rfl
  rw [htk, wrap64 (n := (i : Int) + 1) (by omega)]
  rfl
theorem nm_seg (hl : l.length ≤ 1000) : ∀ (k : Nat) (A seg B : List Op5) (out st : List Int), seg.length ≤ k → l = A ++ seg ++ B → scan seg 0 = some 0 → out.length = l.length → st.length ≤ A.length →
    ∃ out', Reach (D_nest_Match_L0 l) seg.length ((A.length : Int), true, out, st, st) (((A.length + seg.length : Nat) : Int), true, out', st, st) ∧ out'.length = l.length ∧
      (∀ j, ¬(A.length ≤ j ∧ j < A.length + seg.length) → out'[j]? = out[j]?) ∧ ∀ j, A.length ≤ j → j < A.length + seg.length → (hj : j < l.length) → l[j].1 = 7 → ∀ inner e rest, l.drop (j + 1) = inner ++ e :: rest → e.1 = 0 → scan inner 0 = some 0 → out'[j]? = some ((j + 1 + inner.length : Nat) : Int)
  | k, A, [], B, out, st, _, hsplit, hs, ho, hst => ⟨out, Reach.refl, ho, fun j _ => rfl, fun j h1 h2 => by simp at h2; omega⟩
  | 0, A, o :: seg, B, out, st, hk, _, _, _, _ => by simp at hk
  | k + 1, A, o :: seg, B, out, st, hk, hsplit, hs, ho, hst => by
    simp only [List.length_cons] at hk ⊢
    have hlen : l.length = A.length + (seg.length + 1) + B.length := by rw [hsplit]; simp; omega
    have hlt : A.length < l.length := by omega
    have hget : l[A.length] = o := by
      have : l[A.length]? = some o := by
        rw [hsplit, List.append_assoc, List.getElem?_append_right (Nat.le_refl _), Nat.sub_self]
        rfl
      rw [List.getElem?_eq_getElem hlt] at this
      injection this
    by_cases hk7 : o.1 = 7
    · have hs1 : scan seg 1 = some 0 := by
        simp only [scan] at hs
        rw [if_neg (by omega), if_neg (by omega), if_pos hk7] at hs
        exact hs
      obtain ⟨inner, e, rest, h1, h2, h3, h4⟩ := split9 _ seg 0 (Nat.le_refl _) hs1
      subst h1
      simp only [List.length_append, List.length_cons] at hk hlen ⊢
      have hd : l.drop (A.length + 1) = inner ++ e :: (rest ++ B) := by
        rw [hsplit, List.append_assoc, List.drop_append, List.drop_of_length_le (by omega), show A.length + 1 - A.length = 1 by omega]
        simp
      have hA1 : (A ++ [o]).length = A.length + 1 := by simp
      obtain ⟨S1, r1, l1, k1, g1⟩ := nm_seg hl k (A ++ [o]) inner (e :: (rest ++ B)) (out.set A.length (-1)) (st ++ [(A.length : Int)]) (by omega) (by rw [hsplit]; simp) h3 (by simp [ho]) (by simp; omega)
      rw [hA1] at r1 k1 g1
      have hei : A.length + 1 + inner.length < l.length := by omega
      have hee : l[A.length + 1 + inner.length] = e := by
        have h5 : (l.drop (A.length + 1))[inner.length]? = some e := by
          rw [hd, List.getElem?_append_right (Nat.le_refl _), Nat.sub_self]
          rfl
        rw [List.getElem?_drop, List.getElem?_eq_getElem hei] at h5
        injection h5
      have c1 := nm_close (st := st) hl (by omega) hei (by rw [hee]; exact h2) l1 hlt
      have hA2 : (A ++ o :: (inner ++ [e])).length = A.length + 1 + inner.length + 1 := by simp; omega
      obtain ⟨S2, r2, l3, k2, g2⟩ := nm_seg hl k (A ++ o :: (inner ++ [e])) rest B (((S1.set (A.length + 1 + inner.length) (-1)).set (A.length + 1 + inner.length) (A.length : Int)).set A.length ((A.length + 1 + inner.length : Nat) : Int)) st (by omega) (by rw [hsplit]; simp) h4 (by simp [l1]) (by omega)
      rw [hA2] at r2 k2 g2
      refine ⟨S2, ?_, l3, fun j hj => ?_, fun j h5 h6 hj hk inner' e' rest' p1 p2 p3 => ?_⟩
      · have h0 := Reach.one (nm_open (out := out) (st := st) hl (by omega) hlt (by rw [hget]; exact hk7) ho)
        have h7 := ((h0.trans r1).trans (Reach.one c1)).trans r2
        rw [show 1 + inner.length + 1 + rest.length = inner.length + (rest.length + 1) + 1 by omega, show A.length + 1 + inner.length + 1 + rest.length = A.length + (inner.length + (rest.length + 1) + 1) by omega] at h7
        exact h7
      · rw [k2 j (by omega), List.getElem?_set_ne (by omega), List.getElem?_set_ne (by omega), List.getElem?_set_ne (by omega), k1 j (by omega), List.getElem?_set_ne (by omega)]
      · by_cases hj1 : A.length + 1 + inner.length + 1 ≤ j
        · exact g2 j hj1 (by omega) hj hk inner' e' rest' p1 p2 p3
        · rw [k2 j (by omega)]
          by_cases hj2 : A.length = j
          · subst hj2
            rw [List.getElem?_set_self (by simp; omega)]
            have := split_unique (hd.symm.trans p1) h3 p3 h2 p2
            subst this
            rfl
          · have hj3 : j < A.length + 1 + inner.length := by
              by_cases hj4 : j < A.length + 1 + inner.length
              · exact hj4
              · exfalso
                have hj4 : j = A.length + 1 + inner.length := by omega
                subst hj4
                rw [hee] at hk
                omega
            rw [List.getElem?_set_ne hj2, List.getElem?_set_ne (by omega), List.getElem?_set_ne (by omega)]
            exact g1 j (by omega) hj3 hj hk inner' e' rest' p1 p2 p3
    · obtain ⟨hsr, hko, _⟩ := Q9_op hs hk7
      have hA1 : (A ++ [o]).length = A.length + 1 := by simp
      have c1 := nm_op (out := out) (st := st) hl (by omega) hlt (by rw [hget]; exact hko) ho
      obtain ⟨S1, r1, l1, k1, g1⟩ := nm_seg hl k (A ++ [o]) seg B (out.set A.length (-1)) st (by omega) (by rw [hsplit]; simp) hsr (by simp [ho]) (by omega)
      rw [hA1] at r1 k1 g1
      refine ⟨S1, ?_, l1, fun j hj => ?_, fun j h5 h6 hj hk inner' e' rest' p1 p2 p3 => ?_⟩
      · have h7 := (Reach.one c1).trans r1
        rw [show 1 + seg.length = seg.length + 1 by omega, show A.length + 1 + seg.length = A.length + (seg.length + 1) by omega] at h7
        exact h7
      · rw [k1 j (by omega), List.getElem?_set_ne (by omega)]
      · by_cases hj1 : A.length + 1 ≤ j
        · exact g1 j hj1 (by omega) hj hk inner' e' rest' p1 p2 p3
        · have hj2 : j = A.length := by omega
          subst hj2
          exact (hk7 (by rw [← hget]; exact hk)).elim
theorem nest_Match_full (hl : l.length ≤ 1000) (hs : scan l 0 = some 0) : ∃ m, D_nest_Match l = some (0, m) ∧ MOK l m := by
  obtain ⟨S', r1, l1, k1, g1⟩ := nm_seg (l := l) hl _ [] l [] (List.replicate ((l.length : Int)).toNat (0 : Int)) [] (Nat.le_refl _) (by simp) hs (by simp) (by simp)
  rw [show ([] : List Op5).length + l.length = l.length by simp] at r1 g1
  have hloop : loopN (D_nest_Match_L0 l) BIG ((0 : Int), true, List.replicate ((l.length : Int)).toNat (0 : Int), ([] : List Int), ([] : List Int)) = some (true, S', [], []) := by
    have h1 := r1 (18446744073709551616 - l.length)
    rw [show 18446744073709551616 - l.length + l.length = BIG by unfold BIG; omega, show 18446744073709551616 - l.length = (18446744073709551615 - l.length) + 1 by omega] at h1
    refine h1.trans ?_
    rw [loopN_succ]
    simp only [D_nest_Match_L0]
    rw [decide_eq_false (by omega), cond_false]
    rfl
  refine ⟨S', ?_, ⟨l1, fun i hi hk inner e rest p1 p2 p3 => g1 i (Nat.zero_le _) hi hi hk inner e rest p1 p2 p3⟩⟩
  unfold D_nest_Match
  rw [decide_eq_true (show (0 : Int) ≤ (l.length : Int) by omega), decide_eq_true (show (l.length : Int) ≤ (l.length : Int) by omega), decide_eq_true (show 8 * (l.length : Int) ≤ 140737488355328 by omega)]
  show gd true _ = _
  rw [gd_true, hloop]
  rfl
/-- A block's operations. -/
theorem nest_Inside (h : OpsOk l) (hs : scan l 0 = some 0) (i : Int) : (∃ e r, D_nest_Inside l i = some (e, r) ∧ e ≠ 0) ∨ ∃ (n : Nat) (hn : n < l.length) (inner : List Op5) (e : Op5) (rest : List Op5), D_nest_Inside l i = some (0, inner) ∧ l = l.take n ++ l[n] :: (inner ++ e :: rest) ∧ l[n].1 = 7 ∧ e.1 = 0 ∧ scan inner 0 = some 0 := by
  have hl := h.len
  obtain ⟨m, hm, hok⟩ := nest_Match_full (l := l) (by omega) hs
  unfold D_nest_Inside
  rw [hm]
  simp only [Option.bind_some, cond_dec]
  rw [if_neg (by simp)]
  by_cases c1 : i < 0
  · rw [if_pos c1]
    exact .inl ⟨_, _, rfl, by simp⟩
  rw [if_neg c1]
  by_cases c2 : (l.length : Int) ≤ i
  · rw [if_pos c2]
    exact .inl ⟨_, _, rfl, by simp⟩
  rw [if_neg c2]
  obtain ⟨n, rfl⟩ := Int.eq_ofNat_of_zero_le (show 0 ≤ i by omega)
  have hn : n < l.length := by omega
  rw [rd_get hn]
  simp only [Option.bind_some]
  by_cases c3 : l[n].1 ≠ 7
  · rw [if_pos c3]
    exact .inl ⟨_, _, rfl, by simp⟩
  rw [if_neg c3]
  have hk : l[n].1 = 7 := by omega
  obtain ⟨inner, e, rest, hd, he, hi⟩ := block_at hs hn hk
  have hlen : l.length = n + 1 + inner.length + 1 + rest.length := by
    have := congrArg List.length hd
    rw [List.length_drop] at this
    simp at this
    omega
  rw [ix_in (show n < m.length by rw [hok.len]; exact hn)]
  simp only [Option.bind_some]
  rw [hok.at' n hn hk inner e rest hd he hi]
  simp only [Option.bind_some]
  rw [wrap64 (n := (n : Int) + 1) (by omega), cutG_in (by omega), gd_true]
  have hcut : cutL l ((n : Int) + 1) ((n + 1 + inner.length : Nat) : Int) = inner := by
    unfold cutL
    rw [show ((n : Int) + 1).toNat = n + 1 by omega, show (((n + 1 + inner.length : Nat) : Int)).toNat = n + 1 + inner.length by omega, List.drop_take, hd, show n + 1 + inner.length - (n + 1) = inner.length by omega, List.take_left']
    rfl
  rw [hcut]
  unfold D_slices_Clone_api_Op_api_Op
  rw [gd_fits (by omega) (by omega)]
  refine .inr ⟨n, hn, inner, e, rest, rfl, ?_, hk, he, hi⟩
  rw [← hd, List.getElem_cons_drop hn, List.take_append_drop]
end
/-! ### What is within -/
theorem le_hmax : ∀ (l : List Op5) (d m : Nat), m ≤ hmax l d m
  | [], _, _ => Nat.le_refl _
  | o :: l, d, m => by
    simp only [hmax]
    split
    · have := le_hmax l (d + 1) (max m (d + 1))
      omega
    split
    · exact le_hmax l _ _
    · exact le_hmax l _ _
theorem hmax_mono : ∀ (l : List Op5) (d m D M : Nat), d ≤ D → m ≤ M → hmax l d m ≤ hmax l D M
  | [], _, _, _, _, _, h => h
  | o :: l, d, m, D, M, h1, h2 => by
    simp only [hmax]
    split
    · exact hmax_mono l _ _ _ _ (by omega) (by omega)
    split
    · exact hmax_mono l _ _ _ _ (by omega) h2
    · exact hmax_mono l _ _ _ _ h1 h2
theorem hmax_app : ∀ (a b : List Op5) (d m : Nat), ∃ D, hmax (a ++ b) d m = hmax b D (hmax a d m)
  | [], b, d, m => ⟨d, rfl⟩
  | o :: a, b, d, m => by
    simp only [List.cons_append, hmax]
    split
    · exact hmax_app a b _ _
    split
    · exact hmax_app a b _ _
    · exact hmax_app a b _ _
theorem hmax_part (a b c : List Op5) : hmax b 0 0 ≤ hmax (a ++ (b ++ c)) 0 0 := by
  obtain ⟨D, h⟩ := hmax_app a (b ++ c) 0 0
  obtain ⟨E, h'⟩ := hmax_app b c D (hmax a 0 0)
  rw [h, h']
  have h1 := le_hmax c E (hmax b D (hmax a 0 0))
  have h2 := hmax_mono b 0 0 D (hmax a 0 0) (Nat.zero_le _) (Nat.zero_le _)
  omega
theorem prog_zero {R : Int} {l : List Op5} (h : prog10 R l = 0) : formB l = true ∧ regsB R l = true ∧ ¬8 < (deepI l).1 ∧ (writes9 l).2 = 0 := by
  unfold prog10 at h
  split at h
  · rename_i c; exact (c h).elim
  rename_i c0
  split at h
  · rename_i c; exact (c h).elim
  rename_i c1
  split at h
  · rename_i c; exact (c h).elim
  rename_i c2
  refine ⟨?_, ?_, ?_, h⟩
  · cases hb : formB l with
    | true => rfl
    | false => exact (c0 (by unfold lk0; rw [hb]; simp)).elim
  · cases hb : regsB R l with
    | true => rfl
    | false => exact (c1 (by unfold lk1; rw [hb]; simp)).elim
  · intro hb
    exact c2 (by unfold lk2; rw [if_pos hb]; simp)
theorem zero_prog {R : Int} {l : List Op5} (h0 : formB l = true) (h1 : regsB R l = true) (h2 : ¬8 < (deepI l).1) (h3 : (writes9 l).2 = 0) : prog10 R l = 0 := by
  unfold prog10
  rw [show lk0 l = 0 by unfold lk0; rw [h0]; rfl, show lk1 R l = 0 by unfold lk1; rw [h1]; rfl, show lk2 l = 0 by unfold lk2; rw [if_neg h2]]
  exact h3
theorem any_part {p : Op5 → Bool} {l b : List Op5} (h : (l.any p) = false) (hb : ∀ o ∈ b, o ∈ l) : (b.any p) = false := by
  rw [Bool.eq_false_iff] at h ⊢
  intro ht
  obtain ⟨x, hx, hp⟩ := List.any_eq_true.1 ht
  exact h (List.any_eq_true.2 ⟨x, hb x hx, hp⟩)
theorem inner_ok {R : Int} {l : List Op5} (hl : OpsOk l) (h : prog10 R l = 0) {n : Nat} (hn : n < l.length) {inner rest : List Op5} {e : Op5} (hs : l = l.take n ++ l[n] :: (inner ++ e :: rest)) (hk : l[n].1 = 7) (he : e.1 = 0) (hi : scan inner 0 = some 0) : prog10 R inner = 0 := by
  obtain ⟨h0, h1, h2, h3⟩ := prog_zero h
  have hmem : ∀ o ∈ inner, o ∈ l := fun o ho => by rw [hs]; simp [ho]
  unfold formB at h0
  rw [Bool.and_eq_true] at h0
  have hsc : scan l 0 = some 0 := of_decide_eq_true h0.1
  unfold regsB at h1
  rw [Bool.and_eq_true] at h1
  refine zero_prog ?_ ?_ ?_ ?_
  · unfold formB
    rw [decide_eq_true hi, any_part (l := l) (by simpa using h0.2) hmem]
    rfl
  · unfold regsB
    rw [h1.1, any_part (l := l) (by simpa using h1.2) hmem]
    rfl
  · unfold deepI at h2 ⊢
    rw [if_pos hsc] at h2
    rw [if_pos hi]
    have := hmax_part (l.take n ++ [l[n]]) inner (e :: rest)
    rw [show l.take n ++ [l[n]] ++ (inner ++ e :: rest) = l by rw [List.append_assoc]; exact hs.symm] at this
    simp only at h2 ⊢
    omega
  · unfold writes9 at h3
    rw [if_pos hsc] at h3
    cases hq : Q9 l with
    | none => rw [hq] at h3; cases h3
    | some t =>
      obtain ⟨w, b, g1, g2⟩ := good_at hq hs hk he hi
      have hw := Q9_nn (fun o ho => (hl.v o (hmem o ho)).1) hi g1
      have hv := (hl.v _ (List.getElem_mem hn)).1
      obtain ⟨_, hle⟩ := bval_blk hw hv g2
      unfold writes9
      rw [if_pos hi, g1]
      simp only
      rw [if_neg (by omega)]
theorem more_regs {R R' : Int} {l : List Op5} (h : prog10 R l = 0) (hR : R ≤ R') : prog10 R' l = if R' ≤ 64 then 0 else 7 := by
  obtain ⟨h0, h1, h2, h3⟩ := prog_zero h
  unfold regsB at h1
  rw [Bool.and_eq_true] at h1
  have hr : 1 ≤ R ∧ R ≤ 64 := of_decide_eq_true h1.1
  have hno : (l.any (offB R')) = false := by
    rw [Bool.eq_false_iff]
    intro ht
    obtain ⟨x, hx, hp⟩ := List.any_eq_true.1 ht
    have : (l.any (offB R)) = true := by
      refine List.any_eq_true.2 ⟨x, hx, ?_⟩
      unfold offB at hp ⊢
      simp only [Bool.or_eq_true, Bool.and_eq_true, decide_eq_true_eq] at hp ⊢
      rcases hp with (hp | hp) | hp
      · exact .inl (.inl ⟨hp.1, by omega⟩)
      · exact .inl (.inr ⟨hp.1, by omega⟩)
      · exact .inr ⟨hp.1, by omega⟩
    rw [this] at h1
    simp at h1
  by_cases c : R' ≤ 64
  · rw [if_pos c]
    refine zero_prog h0 ?_ h2 h3
    unfold regsB
    rw [decide_eq_true (by omega), hno]
    rfl
  · rw [if_neg c]
    unfold prog10
    rw [show lk0 l = 0 by unfold lk0; rw [h0]; rfl, show lk1 R' l = 7 by unfold lk1 regsB; rw [decide_eq_false (by omega)]; rfl]
    rfl
theorem law10_more (a0 : Int) (a1 : List Op5) (a2 a3 : Int) (f0 : Fine (.int .i64) a0) (f1 : Fine opsS a1) (f2 : Fine (.int .i64) a2) (f3 : Fine (.int .i64) a3) : D_law10_CheckMore a0 a1 a2 a3 = some true := by
  unfold D_law10_CheckMore
  simp only [cond_dec, goes10, Option.bind_some]
  by_cases c1 : 100 < (a1.length : Int)
  · rw [if_pos c1]
    rfl
  rw [if_neg c1]
  have h := ops_ok f1 (by omega)
  rw [check_Program h, check_Program h]
  simp only [Option.bind_some]
  by_cases c2 : prog10 a0 a1 = 0
  · rw [decide_eq_false (fun k => k c2)]
    simp only [cond_false]
    obtain ⟨k, hk, hk'⟩ := spot (L := 64) (by omega) (by omega) (a := a2) (by have : -9223372036854775808 ≤ a2 ∧ a2 ≤ 9223372036854775807 := f2; exact this)
    have hk' : Int.tmod (IntKind.i64.wrap (Int.tmod a2 64 + 64)) 64 = (k : Int) := hk'
    obtain ⟨p0, p1, p2, p3⟩ := prog_zero c2
    unfold formB at p0
    rw [Bool.and_eq_true] at p0
    have hsc : scan a1 0 = some 0 := of_decide_eq_true p0.1
    unfold regsB at p1
    rw [Bool.and_eq_true] at p1
    have hr : 1 ≤ a0 ∧ a0 ≤ 64 := of_decide_eq_true p1.1
    rw [hk', wrap64 (n := a0 + (k : Int)) (by omega), more_regs c2 (R' := a0 + k) (by omega)]
    have hin : ((D_nest_Inside a1 a3).bind fun r11 =>
        (((if r11.1 = 0 then ((D_check_Program a0 r11.2).bind fun r12 => if r12 ≠ 0 then some (.inl false) else some (.inr ())) else some (.inr ())) : Option (Bool ⊕ Unit))).bind fun s13 =>
        caseS s13 (fun u14 => some u14) (fun w15 => some true)) = some true := by
      rcases nest_Inside h hsc a3 with ⟨e, r, h1, h2⟩ | ⟨n, hn, inner, e, rest, h1, h2, h3, h4, h5⟩
      · rw [h1]
        simp only [Option.bind_some]
        rw [if_neg h2]
        rfl
      · rw [h1]
        simp only [Option.bind_some]
        have hio : OpsOk inner := ⟨by
          have := congrArg List.length h2
          have hl := h.len
          simp at this
          omega, fun o ho => h.v o (by rw [h2]; simp [ho])⟩
        rw [if_pos trivial, check_Program hio, inner_ok h c2 hn h2 h3 h4 h5]
        rfl
    by_cases c3 : a0 + (k : Int) ≤ 64
    · rw [if_pos c3, decide_eq_true c3]
      simp only [decide_true, beq_self_eq_true, Bool.not_true, cond_false, ne_eq, not_true_eq_false, if_false, Option.bind_some, caseS]
      exact hin
    · rw [if_neg c3, decide_eq_false c3]
      have e7 : decide ((7 : Int) = 0) = false := by decide
      rw [e7]
      simp only [beq_self_eq_true, Bool.not_true, cond_false]
      rw [if_pos (by decide), if_neg (by decide)]
      simp only [Option.bind_some, caseS]
      exact hin
  · rw [decide_eq_true c2]
    rfl
end Go.V
