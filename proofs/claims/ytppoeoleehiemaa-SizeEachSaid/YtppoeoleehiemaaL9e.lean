/- SizeEach in plain Lean. -/
import Derived.Test.YtppoeoleehiemaaL9d
namespace Go.V
set_option linter.unusedVariables false
set_option linter.unusedSimpArgs false
open Go.Ab
set_option linter.unusedVariables false
def Reach {α γ : Type} (f : α → Option (α ⊕ γ)) (k : Nat) (s s' : α) : Prop := ∀ fu, loopN f (fu + k) s = loopN f fu s'
theorem Reach.refl {α γ : Type} {f : α → Option (α ⊕ γ)} {s : α} : Reach f 0 s s := fun _ => rfl
theorem Reach.trans {α γ : Type} {f : α → Option (α ⊕ γ)} {k k' : Nat} {s s' s'' : α} (h : Reach f k s s') (h' : Reach f k' s' s'') : Reach f (k + k') s s'' := by
  intro fu
  rw [show fu + (k + k') = (fu + k') + k by omega, h, h']
theorem Reach.one {α γ : Type} {f : α → Option (α ⊕ γ)} {s s' : α} (h : f s = some (.inl s')) : Reach f 1 s s' := by
  intro fu
  rw [loopN_succ, h]
  rfl
section
variable {l : List Op5}
theorem m_pre {i : Nat} {sz rds : List Int} {pre : List (Int × Int)} {a w : Int} (hl : l.length ≤ 1000) (hp : pre.length ≤ 1000) (hi : i < l.length) :
    D_size_measure_L0 l ((i : Int), sz, rds, pre ++ [(a, w)]) = (cond (decide (l[i].1 = 7))
      (some (.inl (((i + 1 : Nat) : Int), sz, rds, pre ++ [(a, w)] ++ [((i : Int), 0)])))
      (cond (decide (l[i].1 = 0))
        ((rd l a).bind fun x14 =>
        (D_size_block w x14.2.2.2.2).bind fun r15 =>
        cond (!r15.2)
          (some (.inr ((9, sz, rds, pre ++ [(a, w)]))))
          ((ix a sz.length).bind fun j19 =>
          (sz[j19]?).bind fun x20 =>
          (ix a rds.length).bind fun j21 =>
          (rds[j21]?).bind fun x22 =>
          gd (cutG 0 (pre.length : Int) (pre.length + 1)) ((ix (IntKind.i64.wrap ((pre.length : Int) - 1)) pre.length).bind fun j23 =>
          ((pre ++ [(a, w)])[(0 + j23)]?).bind fun x24 =>
          (D_size_add ([x24.2, r15.1])).bind fun r25 =>
          (ix (IntKind.i64.wrap ((pre.length : Int) - 1)) pre.length).bind fun j26 =>
          ((pre ++ [(a, w)])[(0 + j26)]?).bind fun x27 =>
          some (.inl (((i + 1 : Nat) : Int), (List.set sz j19 r15.1), (List.set rds j21 w), (List.take pre.length ((List.set (pre ++ [(a, w)]) (0 + j26) ((x27.1, r25))))))))))
        ((D_opcode_Writes l[i].1 l[i].2.1 l[i].2.2.1 l[i].2.2.2.1 l[i].2.2.2.2).bind fun r28 =>
        cond (r28.2)
          ((ix (i : Int) sz.length).bind fun j29 =>
          (sz[j29]?).bind fun x30 =>
          some (.inl (((i + 1 : Nat) : Int), (List.set sz j29 1), rds, pre ++ [(a, IntKind.i64.wrap (w + 1))])))
          (some (.inl (((i + 1 : Nat) : Int), sz, rds, pre ++ [(a, w)])))))) := by
  have hlen : (pre ++ [(a, w)]).length = pre.length + 1 := by simp
  have hget : (pre ++ [(a, w)])[pre.length]? = some (a, w) := by
    rw [List.getElem?_append_right (Nat.le_refl _), Nat.sub_self]
    rfl
  have hset : ∀ w', (pre ++ [(a, w)]).set pre.length (a, w') = pre ++ [(a, w')] := by
    intro w'
    rw [List.set_append_right _ _ (Nat.le_refl _), Nat.sub_self]
    rfl
  simp only [D_size_measure_L0]
  rw [decide_eq_true (show (i : Int) < (l.length : Int) by omega), cond_true, rd_get hi]
  simp only [Option.bind_some]
  rw [hlen, wrap64 (n := ((pre.length + 1 : Nat) : Int) - 1) (by omega), show ((pre.length + 1 : Nat) : Int) - 1 = (pre.length : Int) by omega, ix_in (show pre.length < pre.length + 1 by omega)]
  simp only [Option.bind_some]
  rw [hget, wrap64 (n := (i : Int) + 1) (by omega), gd_fits (by omega) (by omega), show (i : Int) + 1 = ((i + 1 : Nat) : Int) by omega]
  simp only [Option.bind_some]
  rw [hset, show ((pre.length : Int).toNat - 0) = pre.length by omega]
theorem m_op {i : Nat} {sz rds : List Int} {pre : List (Int × Int)} {a w : Int} (hl : l.length ≤ 1000) (hp : pre.length ≤ 1000) (hi : i < l.length) (hk : 0 < l[i].1 ∧ l[i].1 < 7) (hsz : sz.length = l.length) (hw : 0 ≤ w ∧ w ≤ 1000000000) :
    D_size_measure_L0 l ((i : Int), sz, rds, pre ++ [(a, w)]) = some (.inl (((i + 1 : Nat) : Int), sz.set i 1, rds, pre ++ [(a, w + 1)])) := by
  rw [m_pre hl hp hi, decide_eq_false (by omega), decide_eq_false (by omega)]
  simp only [cond_false]
  rw [opcode_Writes hk]
  simp only [Option.bind_some, cond_true]
  rw [ix_in (show i < sz.length by omega)]
  simp only [Option.bind_some]
  rw [List.getElem?_eq_getElem (show i < sz.length by omega)]
  simp only [Option.bind_some]
  rw [wrap64 (n := w + 1) (by omega)]
theorem m_open {i : Nat} {sz rds : List Int} {pre : List (Int × Int)} {a w : Int} (hl : l.length ≤ 1000) (hp : pre.length ≤ 1000) (hi : i < l.length) (hk : l[i].1 = 7) :
    D_size_measure_L0 l ((i : Int), sz, rds, pre ++ [(a, w)]) = some (.inl (((i + 1 : Nat) : Int), sz, rds, pre ++ [(a, w)] ++ [((i : Int), 0)])) := by
  rw [m_pre hl hp hi, decide_eq_true hk, cond_true]
theorem m_close {i an : Nat} {sz rds : List Int} {pre : List (Int × Int)} {a w w2 n : Int} (hl : l.length ≤ 1000) (hp : pre.length < 1000) (hi : i < l.length) (hk : l[i].1 = 0) (han : an < l.length) (hsz : sz.length = l.length) (hrd : rds.length = l.length) (hw : 0 ≤ w ∧ w ≤ 1000000000) (hw2 : 0 ≤ w2 ∧ w2 ≤ 1000000000)
    (hv : 0 ≤ l[an].2.2.2.2 ∧ l[an].2.2.2.2 ≤ 18446744073709551615) (hb : blk9 w l[an].2.2.2.2 = some n) :
    D_size_measure_L0 l ((i : Int), sz, rds, pre ++ [(a, w2)] ++ [((an : Int), w)]) = some (.inl (((i + 1 : Nat) : Int), sz.set an n, rds.set an w, pre ++ [(a, w2 + n)])) := by
  have hl2 : (pre ++ [(a, w2)]).length = pre.length + 1 := by simp
  rw [m_pre hl (by omega) hi, decide_eq_false (by omega), decide_eq_true hk]
  simp only [cond_false, cond_true]
  rw [rd_get han]
  simp only [Option.bind_some]
  rw [size_block ⟨hw.1, by omega⟩ hv, hb]
  have hn := blk9_in hw.1 hv.1 hb
  simp only [Option.bind_some, Bool.not_true, cond_false]
  rw [ix_in (show an < sz.length by omega)]
  simp only [Option.bind_some]
  rw [List.getElem?_eq_getElem (show an < sz.length by omega)]
  simp only [Option.bind_some]
  rw [ix_in (show an < rds.length by omega)]
  simp only [Option.bind_some]
  rw [List.getElem?_eq_getElem (show an < rds.length by omega)]
  simp only [Option.bind_some]
  rw [cutG_in (by omega), gd_true, hl2, wrap64 (n := ((pre.length + 1 : Nat) : Int) - 1) (by omega), show ((pre.length + 1 : Nat) : Int) - 1 = (pre.length : Int) by omega, ix_in (show pre.length < pre.length + 1 by omega)]
  simp only [Option.bind_some, Nat.zero_add]
  have hg2 : (pre ++ [(a, w2)] ++ [((an : Int), w)])[pre.length]? = some (a, w2) := by
    rw [List.append_assoc, List.getElem?_append_right (Nat.le_refl _), Nat.sub_self]
    rfl
  rw [hg2]
  simp only [Option.bind_some]
  rw [size_add _ _ (by omega) hn]
  simp only [Option.bind_some]
  have htk : ((pre ++ [(a, w2)] ++ [((an : Int), w)]).set pre.length (a, w2 + n)).take (pre.length + 1) = pre ++ [(a, w2 + n)] := by
    rw [List.append_assoc, List.set_append_right _ _ (Nat.le_refl _), Nat.sub_self]
    show (pre ++ [(a, w2 + n), ((an : Int), w)]).take (pre.length + 1) = _
    rw [show [(a, w2 + n), ((an : Int), w)] = [(a, w2 + n)] ++ [((an : Int), w)] from rfl, ← List.append_assoc, List.take_left']
    simp
  rw [htk]
/-- What the two lists hold at a place. -/
def OKat (l : List Op5) (j : Nat) (a b : Int) : Prop := ∀ h : j < l.length, (l[j].1 = 7 → ∀ inner e rest, l.drop (j + 1) = inner ++ e :: rest → e.1 = 0 → scan inner 0 = some 0 → Q9 inner = some b ∧ blk9 b l[j].2.2.2.2 = some a) ∧ (l[j].1 ≠ 7 → b = 0 ∧ a = if l[j].1 = 0 then 0 else 1)
theorem m_seg (hl : l.length ≤ 1000) (hv : ∀ o ∈ l, 0 ≤ o.2.2.2.2 ∧ o.2.2.2.2 ≤ 18446744073709551615) : ∀ (k : Nat) (A seg B : List Op5) (S R : List Int) (pre : List (Int × Int)) (p w t : Int), seg.length ≤ k → l = A ++ seg ++ B → scan seg 0 = some 0 → Q9 seg = some t → S.length = l.length → R.length = l.length → pre.length ≤ A.length → 0 ≤ w ∧ w ≤ 65537 * A.length → (∀ j, A.length ≤ j → j < A.length + seg.length → S[j]? = some 0 ∧ R[j]? = some 0) →
    ∃ S' R', Reach (D_size_measure_L0 l) seg.length ((A.length : Int), S, R, pre ++ [(p, w)]) (((A.length + seg.length : Nat) : Int), S', R', pre ++ [(p, w + t)]) ∧ S'.length = l.length ∧ R'.length = l.length ∧ (0 ≤ t ∧ t ≤ 65537 * seg.length) ∧
      (∀ j, ¬(A.length ≤ j ∧ j < A.length + seg.length) → S'[j]? = S[j]? ∧ R'[j]? = R[j]?) ∧ ∀ j, A.length ≤ j → j < A.length + seg.length → ∃ a b, S'[j]? = some a ∧ R'[j]? = some b ∧ OKat l j a b
  | k, A, [], B, S, R, pre, p, w, t, _, hsplit, hs, hq, hS, hR, hpre, hw, hz => by
    injection hq with hq
    subst hq
    refine ⟨S, R, ?_, hS, hR, ⟨Int.le_refl _, by simp⟩, fun j _ => ⟨rfl, rfl⟩, fun j h1 h2 => ?_⟩
    · rw [Int.add_zero]
      exact Reach.refl
    · simp at h2; omega
  | 0, A, o :: seg, B, S, R, pre, p, w, t, hk, _, _, _, _, _, _, _, _ => by simp at hk
  | k + 1, A, o :: seg, B, S, R, pre, p, w, t, hk, hsplit, hs, hq, hS, hR, hpre, hw, hz => by
    simp only [List.length_cons] at hk hz ⊢
    have hlen : l.length = A.length + (seg.length + 1) + B.length := by rw [hsplit]; simp; omega
    have hlt : A.length < l.length := by omega
    have hget : l[A.length] = o := by
      have : l[A.length]? = some o := by
        rw [hsplit, List.append_assoc, List.getElem?_append_right (Nat.le_refl _), Nat.sub_self]
        rfl
      rw [List.getElem?_eq_getElem hlt] at this
      injection this
    by_cases hk7 : o.1 = 7
    · have hs1 : scan seg 1 = some 0 := by
        simp only [scan] at hs
        rw [if_neg (by omega), if_neg (by omega), if_pos hk7] at hs
        exact hs
      obtain ⟨inner, e, rest, h1, h2, h3, h4⟩ := split9 _ seg 0 (Nat.le_refl _) hs1
      subst h1
      simp only [List.length_append, List.length_cons] at hk hz hlen ⊢
      obtain ⟨hsr, hQ⟩ := Q9_blk hs hk7 h2 h3
      rw [hQ] at hq
      obtain ⟨wi, hwi, hq⟩ := bind_some' hq
      obtain ⟨b, hb, hq⟩ := bind_some' hq
      cases hqr : Q9 rest with
      | none => rw [hqr] at hq; cases hq
      | some tr =>
      rw [hqr] at hq
      injection hq with hq
      have hq : b + tr = t := hq
      have hov : 0 ≤ o.2.2.2.2 ∧ o.2.2.2.2 ≤ 18446744073709551615 := by rw [← hget]; exact hv _ (List.getElem_mem hlt)
      have hd : l.drop (A.length + 1) = inner ++ e :: (rest ++ B) := by
        rw [hsplit, List.append_assoc, List.drop_append, List.drop_of_length_le (by omega), show A.length + 1 - A.length = 1 by omega]
        simp
      have hA1 : (A ++ [o]).length = A.length + 1 := by simp
      obtain ⟨S1, R1, r1, l1, l2, ⟨t1, t2⟩, k1, g1⟩ := m_seg hl hv k (A ++ [o]) inner (e :: (rest ++ B)) S R (pre ++ [(p, w)]) (A.length : Int) 0 wi (by omega) (by rw [hsplit]; simp) h3 hwi hS hR (by simp; omega) (by omega) (fun j h5 h6 => hz j (by omega) (by omega))
      rw [hA1] at r1 k1 g1
      have hei : A.length + 1 + inner.length < l.length := by omega
      have hee : l[A.length + 1 + inner.length] = e := by
        have h5 : (l.drop (A.length + 1))[inner.length]? = some e := by
          rw [hd, List.getElem?_append_right (Nat.le_refl _), Nat.sub_self]
          rfl
        rw [List.getElem?_drop, List.getElem?_eq_getElem hei] at h5
        injection h5
      have hbn := blk9_in t1 hov.1 hb
      have c1 := m_close (pre := pre) (a := p) (w2 := w) hl (by omega) hei (by rw [hee]; exact h2) hlt l1 l2 (w := 0 + wi) (by omega) (by omega) (by rw [hget]; exact hov) (n := b) (by rw [hget, Int.zero_add]; exact hb)
      have hA2 : (A ++ o :: (inner ++ [e])).length = A.length + 1 + inner.length + 1 := by simp; omega
      obtain ⟨S2, R2, r2, l3, l4, ⟨t3, t4⟩, k2, g2⟩ := m_seg hl hv k (A ++ o :: (inner ++ [e])) rest B (S1.set A.length b) (R1.set A.length (0 + wi)) pre p (w + b) tr (by omega) (by rw [hsplit]; simp) hsr hqr (by simp [l1]) (by simp [l2]) (by omega) (by omega) (fun j h5 h6 => by
        rw [hA2] at h5 h6
        rw [List.getElem?_set_ne (by omega), List.getElem?_set_ne (by omega), (k1 j (by omega)).1, (k1 j (by omega)).2]
        exact hz j (by omega) (by omega))
      rw [hA2] at r2 k2 g2
      refine ⟨S2, R2, ?_, l3, l4, ⟨by omega, by omega⟩, fun j hj => ?_, fun j h5 h6 => ?_⟩
      · have h0 := Reach.one (m_open (sz := S) (rds := R) (pre := pre) (a := p) (w := w) hl (by omega) hlt (by rw [hget]; exact hk7))
        have h7 := ((h0.trans r1).trans (Reach.one c1)).trans r2
        rw [show 1 + inner.length + 1 + rest.length = inner.length + (rest.length + 1) + 1 by omega, Int.add_assoc, hq, show A.length + 1 + inner.length + 1 + rest.length = A.length + (inner.length + (rest.length + 1) + 1) by omega] at h7
        exact h7
      · rw [(k2 j (by omega)).1, (k2 j (by omega)).2, List.getElem?_set_ne (by omega), List.getElem?_set_ne (by omega), (k1 j (by omega)).1, (k1 j (by omega)).2]
        exact ⟨rfl, rfl⟩
      · by_cases hj1 : A.length + 1 + inner.length + 1 ≤ j
        · exact g2 j hj1 (by omega)
        · rw [(k2 j (by omega)).1, (k2 j (by omega)).2]
          by_cases hj2 : A.length = j
          · subst hj2
            rw [List.getElem?_set_self (by omega), List.getElem?_set_self (by omega)]
            refine ⟨_, _, rfl, rfl, fun h => ⟨fun _ inner' e' rest' p1 p2 p3 => ?_, fun h' => (h' (by rw [hget]; exact hk7)).elim⟩⟩
            have := split_unique (hd.symm.trans p1) h3 p3 h2 p2
            subst this
            rw [Int.zero_add, hget]
            exact ⟨hwi, hb⟩
          · rw [List.getElem?_set_ne hj2, List.getElem?_set_ne hj2]
            by_cases hj3 : j < A.length + 1 + inner.length
            · exact g1 j (by omega) hj3
            · have hj4 : j = A.length + 1 + inner.length := by omega
              subst hj4
              rw [(k1 _ (by omega)).1, (k1 _ (by omega)).2, (hz _ h5 h6).1, (hz _ h5 h6).2]
              refine ⟨0, 0, rfl, rfl, fun h => ⟨fun h' => ?_, fun _ => ⟨rfl, ?_⟩⟩⟩
              · rw [hee] at h'
                omega
              · rw [hee, if_pos h2]
    · obtain ⟨hsr, hko, hQ⟩ := Q9_op hs hk7
      rw [hQ] at hq
      cases hqr : Q9 seg with
      | none => rw [hqr] at hq; cases hq
      | some tr =>
      rw [hqr] at hq
      injection hq with hq
      have hq : 1 + tr = t := hq
      have hA1 : (A ++ [o]).length = A.length + 1 := by simp
      have c1 := m_op (sz := S) (rds := R) (pre := pre) (a := p) (w := w) hl (by omega) hlt (by rw [hget]; exact hko) hS (by omega)
      obtain ⟨S1, R1, r1, l1, l2, ⟨t1, t2⟩, k1, g1⟩ := m_seg hl hv k (A ++ [o]) seg B (S.set A.length 1) R pre p (w + 1) tr (by omega) (by rw [hsplit]; simp) hsr hqr (by simp [hS]) hR (by omega) (by omega) (fun j h5 h6 => by
        rw [hA1] at h5 h6
        rw [List.getElem?_set_ne (by omega)]
        exact hz j (by omega) (by omega))
      rw [hA1] at r1 k1 g1
      refine ⟨S1, R1, ?_, l1, l2, ⟨by omega, by omega⟩, fun j hj => ?_, fun j h5 h6 => ?_⟩
      · have h7 := (Reach.one c1).trans r1
        rw [show 1 + seg.length = seg.length + 1 by omega, Int.add_assoc, hq, show A.length + 1 + seg.length = A.length + (seg.length + 1) by omega] at h7
        exact h7
      · rw [(k1 j (by omega)).1, (k1 j (by omega)).2, List.getElem?_set_ne (by omega)]
        exact ⟨rfl, rfl⟩
      · by_cases hj1 : A.length + 1 ≤ j
        · exact g1 j hj1 (by omega)
        · have hj2 : j = A.length := by omega
          subst hj2
          rw [(k1 _ (by omega)).1, (k1 _ (by omega)).2, List.getElem?_set_self (by omega), (hz _ h5 h6).2]
          refine ⟨1, 0, rfl, rfl, fun h => ⟨fun h' => (hk7 (by rw [← hget]; exact h')).elim, fun _ => ⟨rfl, ?_⟩⟩⟩
          rw [hget, if_neg (by omega)]
end
/-- All that the program measures. -/
theorem size_measure {l : List Op5} (hl : l.length ≤ 100) (hv : ∀ o ∈ l, 0 ≤ o.2.2.2.2 ∧ o.2.2.2.2 ≤ 18446744073709551615) :
    ∃ r, D_size_measure l = some r ∧ r.1 = (writes9 l).1 ∧ r.2.1 = (writes9 l).2 ∧ (((writes9 l).2 ≠ 0 ∧ r.2.2 = ([], [])) ∨ ((writes9 l).2 = 0 ∧ scan l 0 = some 0 ∧ r.2.2.1.length = l.length ∧ r.2.2.2.length = l.length ∧ ∀ j, j < l.length → ∃ a b, r.2.2.1[j]? = some a ∧ r.2.2.2[j]? = some b ∧ OKat l j a b)) := by
  have hW := size_Writes (by omega) hv
  unfold D_size_Writes at hW
  obtain ⟨r, hr, hW⟩ := bind_some' hW
  injection hW with hW
  refine ⟨r, hr, by rw [← hW], by rw [← hW], ?_⟩
  unfold D_size_measure at hr
  obtain ⟨m, hm⟩ := nest_Match (l := l) (by omega)
  rw [hm] at hr
  by_cases hs : scan l 0 = some 0
  · simp only [if_pos hs] at hr
    simp only [Option.bind_some] at hr
    rw [decide_eq_false (by simp), cond_false] at hr
    rw [decide_eq_true (show (0 : Int) ≤ (l.length : Int) by omega), decide_eq_true (show (l.length : Int) ≤ (l.length : Int) by omega), decide_eq_true (show 8 * (l.length : Int) ≤ 140737488355328 by omega)] at hr
    have hgd : ∀ {β : Type} {y : Option β}, gd (Nat.beq 1 (Sh.w (.int .i64)) && true && true && true && Nat.ble 1 8) y = y := fun {β y} => rfl
    rw [hgd, hgd] at hr
    cases hq : Q9 l with
    | none =>
      have hw9 : writes9 l = (0, 9) := by unfold writes9; rw [if_pos hs, hq]
      left
      refine ⟨by rw [hw9]; simp, ?_⟩
      obtain ⟨c, hc, hr⟩ := bind_some' hr
      obtain ⟨s36, h36, hr⟩ := bind_some' hr
      rw [cond_dec] at hr
      split at hr
      · injection hr with hr
        rw [← hr]
      · rename_i hz
        exfalso
        obtain ⟨j, hj, hr⟩ := bind_some' hr
        obtain ⟨x, hx, hr⟩ := bind_some' hr
        injection hr with hr
        rw [← hr, hw9] at hW
        injection hW with _ hW
        cases hW
    | some t =>
      obtain ⟨S', R', r1, l1, l2, ⟨t1, t2⟩, k1, g1⟩ := m_seg (l := l) (by omega) hv _ [] l [] (List.replicate ((l.length : Int)).toNat (0 : Int)) (List.replicate ((l.length : Int)).toNat (0 : Int)) [] 0 0 t (Nat.le_refl _) (by simp) hs hq (by simp) (by simp) (by simp) (by simp) (fun j _ hj => by
        rw [List.getElem?_replicate, if_pos (by simpa using hj)]
        exact ⟨rfl, rfl⟩)
      rw [show ([] : List Op5).length + l.length = l.length by simp] at r1 g1
      have hloop : loopN (D_size_measure_L0 l) BIG ((0 : Int), List.replicate ((l.length : Int)).toNat (0 : Int), List.replicate ((l.length : Int)).toNat (0 : Int), [((0 : Int), (0 : Int))]) = some (0, S', R', [(0, 0 + t)]) := by
        have h1 := r1 (18446744073709551616 - l.length)
        rw [show 18446744073709551616 - l.length + l.length = BIG by unfold BIG; omega, show 18446744073709551616 - l.length = (18446744073709551615 - l.length) + 1 by omega] at h1
        refine h1.trans ?_
        rw [loopN_succ]
        simp only [D_size_measure_L0]
        rw [decide_eq_false (by omega), cond_false]
        rfl
      rw [hloop, Int.zero_add] at hr
      have hr : ((((cond (decide (65536 < t)) (some (9 : Int)) (some 0)).bind fun s36 => cond (decide (s36 ≠ 0)) (some ((0 : Int), s36, ([] : List Int), ([] : List Int))) (some (t, 0, S', R'))))) = some r := hr
      rw [cond_dec] at hr
      have hw9 : writes9 l = if 65536 < t then (0, 9) else (t, 0) := by unfold writes9; rw [if_pos hs, hq]
      by_cases c : 65536 < t
      · rw [if_pos c] at hr hw9
        left
        injection hr with hr
        rw [← hr, hw9]
        exact ⟨by simp, rfl⟩
      · rw [if_neg c] at hr hw9
        right
        injection hr with hr
        rw [← hr, hw9]
        exact ⟨rfl, hs, l1, l2, fun j hj => g1 j (Nat.zero_le _) hj⟩
  · simp only [if_neg hs] at hr
    left
    have hw9 : writes9 l = (0, 6) := by unfold writes9; rw [if_neg hs]
    have hr : some ((0 : Int), (6 : Int), ([] : List Int), ([] : List Int)) = some r := hr
    injection hr with hr
    rw [← hr, hw9]
    exact ⟨by simp, rfl⟩
theorem ref07_Asks0 : D_ref07_Asks 0 = some (false, false, false, false) := by rfl
section
variable {l : List Op5} {m : List Int}
/-- The document's lists. -/
theorem ref09_lists (hl : l.length ≤ 100) (hv : ∀ o ∈ l, 0 ≤ o.2.2.2.2 ∧ o.2.2.2.2 ≤ 18446744073709551615) (hm : MOK l m) (hs : scan l 0 = some 0) {S R : List Int} (hS : S.length = l.length) (hR : R.length = l.length) (h : ∀ j, j < l.length → ∃ a b, S[j]? = some a ∧ R[j]? = some b ∧ OKat l j a b) :
    loopN (D_ref09_Sizes_L0 l (0, m)) BIG (0, []) = some S ∧ loopN (D_ref09_Rounds_L0 l (0, m)) BIG (0, []) = some R := by
  have hkind : ∀ i, (hi : i < l.length) → l[i].1 ≠ 7 → l[i].1 ≠ 0 → 0 < l[i].1 ∧ l[i].1 < 7 := by
    intro i hi h7 h0
    obtain ⟨d, _, h2⟩ := at_place hs (i := i) (by omega)
    rw [(List.getElem_cons_drop hi).symm] at h2
    simp only [scan] at h2
    split at h2
    · cases h2
    · omega
  constructor
  · refine loop_nat (n := l.length) (fun i => S.take i) (by omega) (fun i hi => ?_) ?_
    · obtain ⟨a, b, ha, hb, hok⟩ := h i hi
      unfold D_ref09_Sizes_L0
      simp only [cond_dec]
      rw [if_pos (by omega), rd_get hi]
      simp only [Option.bind_some]
      have htk : S.take (i + 1) = S.take i ++ [a] := by
        rw [List.getElem?_eq_getElem (by omega)] at ha
        injection ha with ha
        rw [List.take_succ_eq_append_getElem (by omega), ha]
      have hfin : ∀ {β : Type} {y : Option β}, gd (fits ((S.take i).length + 1) 8) y = y := fun {β y} => gd_fits (by rw [List.length_take]; omega) (by omega)
      rw [htk]
      simp only [hfin]
      rw [wrap64 (n := (i : Int) + 1) (by omega)]
      by_cases hk : l[i].1 = 7
      · rw [if_pos hk]
        obtain ⟨inner, e, rest, b', w', mi, p1, p2, p3, p4, p5, p6, p7, p8, p9, p10⟩ := block_says hl hv hm hs hi hk
        obtain ⟨q1, q2⟩ := (hok hi).1 hk inner e rest p1 p2 p3
        obtain ⟨e1, e2⟩ := p10 b q1
        have hsplit : l = l.take i ++ l[i] :: (inner ++ e :: rest) := by
          rw [← p1, List.getElem_cons_drop hi, List.take_append_drop]
        have hw0 := Q9_nn (fun o' ho' => (hv o' (by rw [hsplit]; simp [ho'])).1) p3 q1
        obtain ⟨x1, x2⟩ := bval_blk hw0 (hv _ (List.getElem_mem hi)).1 q2
        rw [p6]
        simp only [Option.bind_some]
        rw [e1, x1]
        rfl
      · obtain ⟨q1, q2⟩ := (hok hi).2 hk
        rw [if_neg hk]
        by_cases h0 : l[i].1 = 0
        · rw [if_pos h0] at q2
          rw [h0, ref07_Asks0, q2]
          rfl
        · rw [if_neg h0] at q2
          obtain ⟨x, hx⟩ := ref07_Asks (hkind i hi hk h0)
          rw [hx, q2]
          rfl
    · unfold D_ref09_Sizes_L0
      simp only [cond_dec]
      rw [if_neg (by omega), ← hS, List.take_length]
  · refine loop_nat (n := l.length) (fun i => R.take i) (by omega) (fun i hi => ?_) ?_
    · obtain ⟨a, b, ha, hb, hok⟩ := h i hi
      unfold D_ref09_Rounds_L0
      simp only [cond_dec]
      rw [if_pos (by omega), rd_get hi]
      simp only [Option.bind_some]
      have htk : R.take (i + 1) = R.take i ++ [b] := by
        rw [List.getElem?_eq_getElem (by omega)] at hb
        injection hb with hb
        rw [List.take_succ_eq_append_getElem (by omega), hb]
      have hfin : ∀ {β : Type} {y : Option β}, gd (fits ((R.take i).length + 1) 8) y = y := fun {β y} => gd_fits (by rw [List.length_take]; omega) (by omega)
      rw [htk]
      simp only [hfin]
      by_cases hk : l[i].1 = 7
      · rw [if_pos hk, ix_in (show i < m.length by rw [hm.len]; exact hi)]
        obtain ⟨inner, e, rest, b', w', mi, p1, p2, p3, p4, p5, p6, p7, p8, p9, p10⟩ := block_says hl hv hm hs hi hk
        obtain ⟨q1, q2⟩ := (hok hi).1 hk inner e rest p1 p2 p3
        obtain ⟨e1, e2⟩ := p10 b q1
        have hsplit : l = l.take i ++ l[i] :: (inner ++ e :: rest) := by
          rw [← p1, List.getElem_cons_drop hi, List.take_append_drop]
        have hw0 := Q9_nn (fun o' ho' => (hv o' (by rw [hsplit]; simp [ho'])).1) p3 q1
        obtain ⟨x1, x2⟩ := bval_blk hw0 (hv _ (List.getElem_mem hi)).1 q2
        simp only [Option.bind_some]
        rw [p4]
        simp only [Option.bind_some]
        rw [wrap64 (n := (i : Int) + 1) (by omega), show (i : Int) + 1 = ((i + 1 : Nat) : Int) by omega, p7]
        simp only [Option.bind_some]
        rw [e2, show sat9 b = b from if_neg (by omega)]
      · obtain ⟨q1, q2⟩ := (hok hi).2 hk
        rw [if_neg hk, q1, wrap64 (n := (i : Int) + 1) (by omega)]
        rfl
    · unfold D_ref09_Rounds_L0
      simp only [cond_dec]
      rw [if_neg (by omega), ← hR, List.take_length]
end
theorem ref07_Ints {a : List Int} (ha : a.length < 1000000) : D_ref07_Ints a a = some true := by
  have h : loopN (D_ref07_Ints_L0 a a) BIG 0 = some (.inr ()) := by
    refine loop_nat0 (n := a.length) (by omega) (fun i hi => ?_) ?_
    · unfold D_ref07_Ints_L0
      rw [cond_dec, if_pos (by omega), rd_get hi]
      simp only [Option.bind_some, cond_dec]
      rw [if_neg (fun h => h rfl), wrap64 (n := (i : Int) + 1) (by omega)]
      rfl
    · unfold D_ref07_Ints_L0
      rw [cond_dec, if_neg (by omega)]
  unfold D_ref07_Ints
  rw [cond_dec, if_neg (fun h => h rfl), h]
  rfl
theorem law09_each (a0 : List Op5) (f0 : Fine (.list (.pair (.int .i64) (.pair (.int .i64) (.pair (.int .i64) (.pair (.int .i64) (.int .u64)))))) a0) : D_law09_SizeEach a0 = some true := by
  unfold D_law09_SizeEach
  by_cases c : 100 < (a0.length : Int)
  · rw [decide_eq_true c, cond_true, goes9]; rfl
  rw [decide_eq_false c, cond_false]
  have hv : ∀ o ∈ a0, 0 ≤ o.2.2.2.2 ∧ o.2.2.2.2 ≤ 18446744073709551615 := fun o ho => (f0.2 o ho).2.2.2.2
  obtain ⟨r, hr, h1, h2, h3⟩ := size_measure (l := a0) (by omega) hv
  unfold D_size_Sizes D_size_Rounds D_ref09_Sizes D_ref09_Rounds
  rw [hr, ref09_Writes (by omega) hv]
  simp only [Option.bind_some, cond_dec]
  rw [h2]
  rcases h3 with ⟨h4, h5⟩ | ⟨h4, hs, h5, h6, h7⟩
  · rw [if_pos h4, if_pos h4, h5]
    simp only [Option.bind_some]
    rw [ref07_Ints (by simp), goes9]
    simp only [Option.bind_some, cond_true, if_pos]
  · rw [if_neg (by omega), if_neg (by omega)]
    rcases ref08_Match (l := a0) (by omega) with ⟨_, m, hm, hok⟩ | ⟨hs', _⟩
    · rw [hm]
      simp only [Option.bind_some]
      obtain ⟨g1, g2⟩ := ref09_lists (by omega) hv hok hs h5 h6 h7
      rw [g1, g2]
      simp only [Option.bind_some]
      rw [ref07_Ints (by omega), ref07_Ints (by omega), h4, goes9]
      simp only [Option.bind_some, cond_true, if_pos]
    · exact (hs' hs).elim
end Go.V
