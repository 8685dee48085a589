/- SizeWrites in plain Lean. -/
import Derived.Test.YtojdfmmgihefkaaL33a
namespace Go.V
set_option linter.unusedVariables false
set_option linter.unusedSimpArgs false
open Go.Ab
set_option linter.unusedVariables false
theorem loop_first1 {δ : Type} {f : Int → Option (Int ⊕ δ)} (n : Nat) (hn : n < 9223372036854775808) (stop : Nat → Prop) (c e : δ)
    (hs : ∀ i : Nat, i < n → ¬stop i → f (i : Int) = some (.inl ((i + 1 : Nat) : Int))) (hx : ∀ i : Nat, i < n → stop i → f (i : Int) = some (.inr c)) (he : f (n : Int) = some (.inr e)) :
    (∃ i, i < n ∧ stop i ∧ (∀ j, j < i → ¬stop j) ∧ loopN f BIG 0 = some c) ∨ ((∀ j, j < n → ¬stop j) ∧ loopN f BIG 0 = some e) := by
  by_cases h : ∃ i, i < n ∧ stop i
  · obtain ⟨i, h1, h2⟩ := h
    have hex : ∃ i, i < n ∧ stop i ∧ ∀ j, j < i → ¬stop j := by
      induction i using Nat.strongRecOn with
      | ind i ih =>
        by_cases hj : ∃ j, j < i ∧ stop j
        · obtain ⟨j, h3, h4⟩ := hj
          exact ih j h3 (by omega) h4
        · exact ⟨i, h1, h2, fun j h h3 => hj ⟨j, h, h3⟩⟩
    obtain ⟨i, h1, h2, h3⟩ := hex
    exact .inl ⟨i, h1, h2, h3, loop_nat0 (n := i) (by omega) (fun j hj => hs j (by omega) (h3 j hj)) (hx i h1 h2)⟩
  · have h' : ∀ j, j < n → ¬stop j := fun j h1 h2 => h ⟨j, h1, h2⟩
    exact .inr ⟨h', loop_nat0 (n := n) hn (fun j hj => hs j hj (h' j hj)) he⟩
/-- Where all is few, each block is. -/
theorem good_at {seg pre inner rest : List Op5} {o e : Op5} {t : Int} (hq : Q9 seg = some t) (hs : seg = pre ++ o :: (inner ++ e :: rest)) (ho : o.1 = 7) (he : e.1 = 0) (hi : scan inner 0 = some 0) :
    ∃ w b, Q9 inner = some w ∧ blk9 w o.2.2.2.2 = some b := by
  unfold Q9 at hq
  rw [hs, runS_app] at hq
  obtain ⟨st, h1, h2⟩ := bind_some' hq
  obtain ⟨st1, h3, h4⟩ := bind_some' h1
  cases st1 with
  | nil => simp [runS] at h4
  | cons p st1 =>
    simp only [runS] at h4
    rw [if_pos ho, runS_app, Q9_run hi] at h4
    cases hw : Q9 inner with
    | none => rw [hw] at h4; cases h4
    | some w =>
      rw [hw] at h4
      have h4 : runS (e :: rest) ((o.2.2.2.2, 0 + w) :: (p.1, p.2) :: st1) = some st := h4
      simp only [runS] at h4
      rw [if_neg (by omega), if_pos he, Int.zero_add] at h4
      cases hb : blk9 w o.2.2.2.2 with
      | none => rw [hb] at h4; cases h4
      | some b => exact ⟨w, b, rfl, hb⟩
/-- Where all is too much, a block is. -/
theorem bad_at : ∀ (n : Nat) (seg : List Op5), seg.length ≤ n → scan seg 0 = some 0 → Q9 seg = none → ∃ pre o inner e rest w, seg = pre ++ o :: (inner ++ e :: rest) ∧ o.1 = 7 ∧ e.1 = 0 ∧ scan inner 0 = some 0 ∧ Q9 inner = some w ∧ blk9 w o.2.2.2.2 = none
  | n, [], _, _, hq => by cases hq
  | 0, o :: s, h, _, _ => by simp at h
  | n + 1, o :: s, hn, hs, hq => by
    simp only [List.length_cons] at hn
    by_cases hk : o.1 = 7
    · have hs1 : scan s 1 = some 0 := by
        simp only [scan] at hs
        rw [if_neg (by omega), if_neg (by omega), if_pos hk] at hs
        exact hs
      obtain ⟨inner, e, rest, h1, h2, h3, h4⟩ := split9 _ s 0 (Nat.le_refl _) hs1
      subst h1
      simp only [List.length_append, List.length_cons] at hn
      obtain ⟨hsr, hQ⟩ := Q9_blk hs hk h2 h3
      rw [hQ] at hq
      cases hw : Q9 inner with
      | none =>
        obtain ⟨pre, o', i', e', r', w, q1, q2⟩ := bad_at n inner (by omega) h3 hw
        exact ⟨o :: pre, o', i', e', r' ++ e :: rest, w, by rw [q1]; simp, q2⟩
      | some w =>
        rw [hw] at hq
        simp only [Option.bind_some] at hq
        cases hb : blk9 w o.2.2.2.2 with
        | none => exact ⟨[], o, inner, e, rest, w, rfl, hk, h2, h3, hw, hb⟩
        | some b =>
          rw [hb] at hq
          simp only [Option.bind_some] at hq
          cases hr : Q9 rest with
          | some t => rw [hr] at hq; cases hq
          | none =>
            obtain ⟨pre, o', i', e', r', w', q1, q2⟩ := bad_at n rest (by omega) hsr hr
            exact ⟨o :: (inner ++ e :: pre), o', i', e', r', w', by rw [q1]; simp, q2⟩
    · obtain ⟨hsr, _, hQ⟩ := Q9_op hs hk
      rw [hQ] at hq
      cases hr : Q9 s with
      | some t => rw [hr] at hq; cases hq
      | none =>
        obtain ⟨pre, o', i', e', r', w', q1, q2⟩ := bad_at n s (by omega) hsr hr
        exact ⟨o :: pre, o', i', e', r', w', by rw [q1]; rfl, q2⟩
section
variable {l : List Op5} {m : List Int}
/-- What the document says of the block at a place. -/
theorem block_says (hl : l.length ≤ 100000) (hH : hmax l 0 0 ≤ 180) (hv : ∀ o ∈ l, 0 ≤ o.2.2.2.2 ∧ o.2.2.2.2 ≤ 18446744073709551615) (hm : MOK l m) (hs : scan l 0 = some 0) {i : Nat} (hi : i < l.length) (hk : l[i].1 = 7) :
    ∃ inner e rest b w mi, l.drop (i + 1) = inner ++ e :: rest ∧ e.1 = 0 ∧ scan inner 0 = some 0 ∧ m[i]? = some mi ∧ mi = ((i + 1 + inner.length : Nat) : Int) ∧ D_ref09_Block l m (i : Int) = some b ∧ D_ref09_within l m ((i + 1 : Nat) : Int) mi = some w ∧ 0 ≤ b ∧ 0 ≤ w ∧
      ∀ t, Q9 inner = some t → b = bval t l[i].2.2.2.2 ∧ w = sat9 t := by
  obtain ⟨inner, e, rest, hd, he, hi0⟩ := block_at hs hi hk
  have hlen : l.length = i + 1 + inner.length + 1 + rest.length := by
    have := congrArg List.length hd
    rw [List.length_drop] at this
    simp at this
    omega
  have hsplit : l = l.take (i + 1) ++ inner ++ e :: rest := by
    rw [List.append_assoc, ← hd, List.take_append_drop]
  have hA : (l.take (i + 1)).length = i + 1 := by rw [List.length_take]; omega
  have hHi : hmax inner 0 0 ≤ hmax l 0 0 := by
    have := hmax_part (l.take (i + 1)) inner (e :: rest)
    rwa [← List.append_assoc, ← hsplit] at this
  obtain ⟨b, b1, b2, b3, b4⟩ := block_of (by omega) hv hm (wok (by omega) hv hm 181) (f := 400) (by omega) hi hk hd he hi0 (by omega)
  obtain ⟨w, w1, w2, w3, w4⟩ := wok (by omega) hv hm 181 400 (by omega) (l.take (i + 1)) inner (e :: rest) hsplit (by omega) hi0
  rw [hA] at w1
  exact ⟨inner, e, rest, b, w, _, hd, he, hi0, hm.at' i hi hk inner e rest hd he hi0, rfl, b1, w1, b2, w2, fun t ht => ⟨b4 t ht, w4 t ht⟩⟩
theorem ref09_loop (hl : l.length ≤ 100000) (hH : hmax l 0 0 ≤ 180) (hv : ∀ o ∈ l, 0 ≤ o.2.2.2.2 ∧ o.2.2.2.2 ≤ 18446744073709551615) (hm : MOK l m) (hs : scan l 0 = some 0) :
    loopN (D_ref09_Writes_L0 l (0, m)) BIG 0 = some (match Q9 l with | some _ => .inr () | none => .inl ()) := by
  have key := loop_first1 (f := D_ref09_Writes_L0 l (0, m)) l.length (by omega)
    (fun i => ∃ hi : i < l.length, l[i].1 = 7 ∧ ∃ b w mi, m[i]? = some mi ∧ D_ref09_Block l m (i : Int) = some b ∧ D_ref09_within l m ((i + 1 : Nat) : Int) mi = some w ∧ (65536 < b ∨ 65536 < w)) (.inl ()) (.inr ())
    (fun i hi hn => by
      unfold D_ref09_Writes_L0
      simp only [cond_dec]
      rw [if_pos (by omega), rd_get hi]
      simp only [Option.bind_some]
      by_cases hk : l[i].1 = 7
      · obtain ⟨inner, e, rest, b, w, mi, q1, q2, q3, q4, q5, q6, q7, q8⟩ := block_says hl hH hv hm hs hi hk
        rw [if_pos hk, q6]
        simp only [Option.bind_some]
        rw [if_neg (fun h => hn ⟨hi, hk, b, w, mi, q4, q6, q7, .inl h⟩), ix_in (show i < m.length by rw [hm.len]; exact hi)]
        simp only [Option.bind_some]
        rw [q4]
        simp only [Option.bind_some]
        rw [wrap64 (n := (i : Int) + 1) (by omega), show (i : Int) + 1 = ((i + 1 : Nat) : Int) by omega, q7]
        simp only [Option.bind_some]
        rw [if_neg (fun h => hn ⟨hi, hk, b, w, mi, q4, q6, q7, .inr h⟩)]
      · rw [if_neg hk, wrap64 (n := (i : Int) + 1) (by omega)]
        rfl)
    (fun i _ hst => by
      obtain ⟨hi, hk, b, w, mi, q4, q6, q7, q8⟩ := hst
      unfold D_ref09_Writes_L0
      simp only [cond_dec]
      rw [if_pos (by omega), rd_get hi]
      simp only [Option.bind_some]
      rw [if_pos hk, q6]
      simp only [Option.bind_some]
      by_cases hb : 65536 < b
      · rw [if_pos hb]
      · rw [if_neg hb, ix_in (show i < m.length by rw [hm.len]; exact hi)]
        simp only [Option.bind_some]
        rw [q4]
        simp only [Option.bind_some]
        rw [wrap64 (n := (i : Int) + 1) (by omega), show (i : Int) + 1 = ((i + 1 : Nat) : Int) by omega, q7]
        simp only [Option.bind_some]
        rw [if_pos (by omega)])
    (by
      unfold D_ref09_Writes_L0
      simp only [cond_dec]
      rw [if_neg (by omega)])
  cases hq : Q9 l with
  | some t =>
    rcases key with ⟨i, h1, ⟨hi, hk, b, w, mi, q4, q6, q7, q8⟩, _⟩ | ⟨_, h⟩
    · exfalso
      obtain ⟨inner, e, rest, b', w', mi', p1, p2, p3, p4, p5, p6, p7, p8, p9, p10⟩ := block_says hl hH hv hm hs hi hk
      have hsplit : l = l.take i ++ l[i] :: (inner ++ e :: rest) := by
        rw [← p1, List.getElem_cons_drop hi, List.take_append_drop]
      obtain ⟨w0, b0, g1, g2⟩ := good_at hq hsplit hk p2 p3
      obtain ⟨e1, e2⟩ := p10 w0 g1
      have hmem : ∀ o' ∈ inner, 0 ≤ o'.2.2.2.2 := fun o' ho' => (hv o' (by rw [hsplit]; simp [ho'])).1
      have hw0 := Q9_nn hmem p3 g1
      obtain ⟨x1, x2⟩ := bval_blk hw0 (hv _ (List.getElem_mem hi)).1 g2
      obtain ⟨x3, x4⟩ := blk9_in hw0 (hv _ (List.getElem_mem hi)).1 g2
      rw [q4] at p4
      injection p4 with p4
      rw [q6] at p6
      injection p6 with p6
      rw [← p4, q7] at p7
      injection p7 with p7
      have hs9 : sat9 w0 = w0 := if_neg (by omega)
      rw [hs9] at e2
      omega
    · exact h
  | none =>
    rcases key with ⟨_, _, _, _, h⟩ | ⟨h, _⟩
    · exact h
    · exfalso
      obtain ⟨pre, o, inner, e, rest, w, q1, q2, q3, q4, q5, q6⟩ := bad_at _ l (Nat.le_refl _) hs hq
      have hi : pre.length < l.length := by rw [q1]; simp
      have hget : l[pre.length] = o := by
        have : l[pre.length]? = some o := by
          rw [q1, List.getElem?_append_right (Nat.le_refl _), Nat.sub_self]
          rfl
        rw [List.getElem?_eq_getElem hi] at this
        injection this
      have hk : l[pre.length].1 = 7 := by rw [hget]; exact q2
      have hd : l.drop (pre.length + 1) = inner ++ e :: rest := by
        rw [q1, List.drop_append, List.drop_of_length_le (by omega), show pre.length + 1 - pre.length = 1 by omega]
        simp
      obtain ⟨inner', e', rest', b', w', mi', p1, p2, p3, p4, p5, p6, p7, p8, p9, p10⟩ := block_says hl hH hv hm hs hi hk
      have := split_unique (hd.symm.trans p1) q4 p3 q3 p2
      subst this
      obtain ⟨e1, e2⟩ := p10 w q5
      have hmem : ∀ o' ∈ inner, 0 ≤ o'.2.2.2.2 := fun o' ho' => (hv o' (by rw [q1]; simp [ho'])).1
      have hw0 := Q9_nn hmem q4 q5
      rw [hget] at e1
      have hov : 0 ≤ o.2.2.2.2 := by rw [← hget]; exact (hv _ (List.getElem_mem hi)).1
      refine h _ hi ⟨hi, hk, b', w', mi', p4, p6, p7, ?_⟩
      rcases bval_bad hw0 hov q6 with x | x
      · right
        rw [e2]
        unfold sat9
        rw [if_pos x]
        omega
      · left
        rw [e1, x]
        omega
theorem ref09_Writes (hl : l.length ≤ 100000) (hH : scan l 0 = some 0 → hmax l 0 0 ≤ 180) (hv : ∀ o ∈ l, 0 ≤ o.2.2.2.2 ∧ o.2.2.2.2 ≤ 18446744073709551615) : D_ref09_Writes l = some (writes9 l) := by
  unfold D_ref09_Writes writes9
  rcases ref08_Match (l := l) (by omega) with ⟨hs, m, hm, hok⟩ | ⟨hs, hm⟩
  · have hHl := hH hs
    rw [hm, if_pos hs]
    simp only [Option.bind_some]
    rw [decide_eq_false (by simp), cond_false, ref09_loop hl (hH hs) hv hok hs]
    cases hq : Q9 l with
    | none => rfl
    | some t =>
      have ht := Q9_nn (fun o ho => (hv o ho).1) hs hq
      simp only [Option.bind_some, caseS]
      obtain ⟨w, w1, w2, w3, w4⟩ := wok (by omega) hv hok 181 400 (by omega) [] l [] (by simp) (by omega) hs
      have w1 : D_ref09_within l m 0 (l.length : Int) = some w := by
        rw [← w1]
        show _ = (D_rec_ref09_within 400).1 l m 0 ((0 + l.length : Nat) : Int)
        rw [Nat.zero_add]
        rfl
      rw [w1]
      simp only [Option.bind_some, cond_dec]
      have e2 := w4 t hq
      unfold sat9 at e2
      by_cases c : 65536 < t
      · rw [if_pos c] at e2
        rw [if_pos c, if_pos (by omega)]
      · rw [if_neg c] at e2
        rw [if_neg c, if_neg (by omega), e2]
  · rw [hm, if_neg hs]
    rfl
end
end Go.V
