/- The size of operations: how many writes, in plain Lean. -/
import Derived.Test.YtojdfmmgihefkaaD33
import Derived.Test.YtojdfmmgihefkaaV25
import Derived.KernelRfl
namespace Go.V
set_option linter.unusedVariables false
set_option linter.unusedSimpArgs false
open Go.Ab
set_option linter.unusedVariables false
set_option linter.unusedSimpArgs false

abbrev Op5 := Int × Int × Int × Int × Int
/-- How many blocks are open behind operations; none: they are not well nested. -/
def scan : List Op5 → Nat → Option Nat
  | [], d => some d
  | o :: r, d => if o.1 < 0 ∨ 7 < o.1 then none else if o.1 = 0 then (if d = 0 then none else scan r (d - 1)) else if o.1 = 7 then scan r (d + 1) else scan r d
theorem scan_app : ∀ (l r : List Op5) (d : Nat), scan (l ++ r) d = (scan l d).bind (scan r)
  | [], r, d => rfl
  | o :: l, r, d => by
    simp only [List.cons_append, scan]
    split
    · rfl
    split
    · split
      · rfl
      · exact scan_app l r _
    split
    · exact scan_app l r _
    · exact scan_app l r _
theorem scan_up : ∀ (l : List Op5) (d d' : Nat), scan l d = some d' → scan l (d + 1) = some (d' + 1)
  | [], d, d', h => by
    injection h with h
    subst h; rfl
  | o :: l, d, d', h => by
    simp only [scan] at h ⊢
    split at h
    · cases h
    rename_i c
    rw [if_neg c]
    split at h
    · rename_i c2
      rw [if_pos c2]
      split at h
      · cases h
      · rename_i c3
        rw [if_neg (by omega)]
        have := scan_up l _ _ h
        rwa [show d - 1 + 1 = d + 1 - 1 by omega] at this
    rename_i c2
    rw [if_neg c2]
    split at h
    · rename_i c3
      rw [if_pos c3]
      exact scan_up l _ _ h
    · rename_i c3
      rw [if_neg c3]
      exact scan_up l _ _ h

/-! ### What belongs together -/
def MInv (l : List Op5) (s : Int × Bool × (List Int) × (List Int) × List Int) : Prop :=
  ∃ (i : Nat) (out st : List Int), i ≤ l.length ∧ s = ((i : Int), true, out, st, st) ∧ out.length = l.length ∧ (∀ x ∈ st, 0 ≤ x ∧ x < l.length) ∧ st.length ≤ i ∧ scan (l.drop i) st.length = scan l 0
theorem st_last {st : List Int} (h : st ≠ []) : ∃ pre x, st = pre ++ [x] := ⟨st.dropLast, st.getLast h, (List.dropLast_concat_getLast h).symm⟩
theorem match_step {l : List Op5} (hl : l.length ≤ 100000) (s : Int × Bool × (List Int) × (List Int) × List Int) (h : MInv l s) :
    (∃ b, D_nest_Match_L0 l s = some (.inl b) ∧ MInv l b ∧ l.length - b.1.toNat < l.length - s.1.toNat) ∨ ∃ c, D_nest_Match_L0 l s = some (.inr c) ∧ ((c.1 = false ∧ scan l 0 = none) ∨ (c.1 = true ∧ scan l 0 = some c.2.2.1.length)) := by
  obtain ⟨i, out, st, hi, rfl, ho, hst, hsl, hsc⟩ := h
  by_cases c : i < l.length
  · have hdrop : l.drop i = l[i] :: l.drop (i + 1) := (List.getElem_cons_drop c).symm
    rw [hdrop] at hsc
    simp only [D_nest_Match_L0]
    rw [decide_eq_true (show (i : Int) < (l.length : Int) by omega), cond_true, rd_get c]
    simp only [Option.bind_some]
    generalize hx : l[i] = x at *
    simp only [scan] at hsc
    by_cases k0 : x.1 < 0
    · rw [if_pos (.inl k0)] at hsc
      rw [decide_eq_true k0]
      simp only [cond_true, Option.bind_some, caseS_l]
      exact .inr ⟨_, rfl, .inl ⟨rfl, hsc.symm⟩⟩
    rw [decide_eq_false k0, cond_false]
    by_cases k7 : 7 < x.1
    · rw [if_pos (.inr k7)] at hsc
      rw [decide_eq_true k7]
      simp only [cond_true, Option.bind_some, caseS_r, caseS_l]
      exact .inr ⟨_, rfl, .inl ⟨rfl, hsc.symm⟩⟩
    rw [decide_eq_false k7, cond_false]
    rw [if_neg (by omega)] at hsc
    by_cases kz : x.1 = 0
    · rw [if_pos kz] at hsc
      rw [decide_eq_true kz]
      simp only [cond_true, Option.bind_some, caseS_r]
      by_cases hs0 : st.length = 0
      · rw [if_pos hs0] at hsc
        rw [decide_eq_true (show (st.length : Int) = 0 by omega)]
        simp only [cond_true, Option.bind_some, caseS_l]
        exact .inr ⟨_, rfl, .inl ⟨rfl, hsc.symm⟩⟩
      · rw [if_neg hs0] at hsc
        rw [decide_eq_false (show ¬(st.length : Int) = 0 by omega), cond_false]
        rw [wrap64 (n := (st.length : Int) - 1) (by omega), cutG_in (by omega), gd_true]
        simp only [Option.bind_some, caseS_r]
        obtain ⟨pre, q, rfl⟩ := st_last (st := st) (by intro e; subst e; exact hs0 rfl)
        have hq := hst q (by simp)
        have hlen : (pre ++ [q]).length = pre.length + 1 := by simp
        have ht : (((pre ++ [q]).length : Int) - 1).toNat - 0 = pre.length := by rw [hlen]; omega
        have e7 : decide (x.1 = 7) = false := decide_eq_false (by omega)
        rw [ix_in (show i < out.length by omega)]
        simp only [Option.bind_some]
        rw [List.getElem?_eq_getElem (show i < out.length by omega)]
        simp only [Option.bind_some]
        rw [e7, cond_false, show ((pre ++ [q]).length : Int) - 1 = (pre.length : Int) by rw [hlen]; omega, ix_in (show pre.length < (pre ++ [q]).length by omega)]
        simp only [Option.bind_some]
        rw [List.getElem?_append_right (Nat.le_refl _), Nat.sub_self]
        simp only [List.getElem?_cons_zero, Option.bind_some]
        rw [gd_true, ix_in (show i < (out.set i (-1)).length by simp; omega)]
        simp only [Option.bind_some]
        rw [List.getElem?_eq_getElem (show i < (out.set i (-1)).length by simp; omega)]
        simp only [Option.bind_some]
        obtain ⟨qn, rfl⟩ := Int.eq_ofNat_of_zero_le hq.1
        have hqn : qn < out.length := by omega
        rw [ix_in (show qn < ((out.set i (-1)).set i ((qn : Nat) : Int)).length by simp; omega)]
        simp only [Option.bind_some]
        rw [List.getElem?_eq_getElem (show qn < ((out.set i (-1)).set i ((qn : Nat) : Int)).length by simp; omega)]
        simp only [Option.bind_some]
        have htk : (pre ++ [(qn : Int)]).take ((pre.length : Int).toNat - 0) = pre := by
          rw [show (pre.length : Int).toNat - 0 = pre.length by omega, List.take_left']
          rfl
        rw [htk, wrap64 (n := (i : Int) + 1) (by omega)]
        refine .inl ⟨_, rfl, ⟨i + 1, _, pre, c, rfl, by simp [ho], fun y hy => hst y (by simp [hy]), by rw [hlen] at hsl; omega, ?_⟩, by simp; omega⟩
        rw [hlen] at hsc
        exact hsc
    · rw [if_neg kz] at hsc
      have ez : decide (x.1 = 0) = false := decide_eq_false kz
      rw [ez]
      simp only [cond_false, Option.bind_some, caseS_r]
      rw [ix_in (show i < out.length by omega)]
      simp only [Option.bind_some]
      rw [List.getElem?_eq_getElem (show i < out.length by omega)]
      simp only [Option.bind_some]
      by_cases k7 : x.1 = 7
      · rw [if_pos k7] at hsc
        rw [decide_eq_true k7]
        simp only [cond_true]
        rw [gd_fits (by omega) (by omega), gd_fits (by omega) (by omega), wrap64 (n := (i : Int) + 1) (by omega)]
        refine .inl ⟨_, rfl, ⟨i + 1, _, st ++ [(i : Int)], c, rfl, by simp [ho], fun y hy => ?_, by simp; omega, ?_⟩, by simp; omega⟩
        · rcases List.mem_append.1 hy with hy | hy
          · exact hst y hy
          · simp at hy
            subst hy
            omega
        · rw [List.length_append]
          exact hsc
      · rw [if_neg k7] at hsc
        rw [decide_eq_false k7]
        simp only [cond_false]
        rw [wrap64 (n := (i : Int) + 1) (by omega)]
        exact .inl ⟨_, rfl, ⟨i + 1, _, st, c, rfl, by simp [ho], hst, by omega, hsc⟩, by simp; omega⟩
  · have hi' : i = l.length := by omega
    subst hi'
    rw [List.drop_length] at hsc
    simp only [D_nest_Match_L0]
    rw [decide_eq_false (show ¬(l.length : Int) < (l.length : Int) by omega), cond_false]
    exact .inr ⟨_, rfl, .inr ⟨rfl, hsc.symm⟩⟩
theorem nest_Match {l : List Op5} (hl : l.length ≤ 100000) : ∃ m, D_nest_Match l = some (if scan l 0 = some 0 then 0 else 6, m) := by
  unfold D_nest_Match
  rw [decide_eq_true (show (0 : Int) ≤ (l.length : Int) by omega), decide_eq_true (show (l.length : Int) ≤ (l.length : Int) by omega), decide_eq_true (show 8 * (l.length : Int) ≤ 140737488355328 by omega)]
  show ∃ m, gd true _ = _
  rw [gd_true]
  obtain ⟨c, hc, h⟩ := loop_inv (f := D_nest_Match_L0 l) (a := ((0 : Int), true, List.replicate ((l.length : Int)).toNat (0 : Int), ([] : List Int), ([] : List Int))) (MInv l) (fun s => l.length - s.1.toNat) (fun c => (c.1 = false ∧ scan l 0 = none) ∨ (c.1 = true ∧ scan l 0 = some c.2.2.1.length))
    ⟨0, _, [], Nat.zero_le _, rfl, by simp, (fun x hx => by cases hx), Nat.le_refl _, rfl⟩ (by simp; omega) (fun s hs => match_step hl s hs)
  rw [hc]
  simp only [Option.bind_some]
  rcases h with ⟨h1, h2⟩ | ⟨h1, h2⟩
  · rw [h1, h2]
    exact ⟨_, rfl⟩
  · rw [h1, h2, cond_true]
    by_cases c0 : c.2.2.1.length = 0
    · rw [decide_eq_true (show (c.2.2.1.length : Int) = 0 by omega), if_pos (by rw [c0])]
      exact ⟨_, rfl⟩
    · rw [decide_eq_false (show ¬(c.2.2.1.length : Int) = 0 by omega), if_neg (by intro e; injection e with e; exact c0 e)]
      exact ⟨_, rfl⟩

/-! ### Writes -/
/-- A block's writes, of those of one round. -/
def blk9 (w v : Int) : Option Int := if w = 0 then some 0 else if 65536 < w then none else if 65536 / w < v then none else some (w * v)
/-- The frames (how often; writes so far), the last opened first. -/
def runS : List Op5 → List (Int × Int) → Option (List (Int × Int))
  | [], st => some st
  | o :: r, (v, w) :: st => if o.1 = 7 then runS r ((o.2.2.2.2, 0) :: (v, w) :: st) else if o.1 = 0 then (match blk9 w v, st with
      | some n, (v', w') :: st' => runS r ((v', w' + n) :: st')
      | _, _ => none)
    else runS r ((v, w + 1) :: st)
  | _ :: _, [] => none
theorem size_block {w v : Int} (hw : 0 ≤ w ∧ w ≤ 10000000000) (hv : 0 ≤ v ∧ v ≤ 18446744073709551615) : D_size_block w v = some (match blk9 w v with
    | some n => (n, true)
    | none => (0, false)) := by
  unfold D_size_block blk9
  simp only [cond_dec]
  by_cases c1 : w = 0
  · rw [if_pos c1, if_pos c1]
  rw [if_neg c1, if_neg c1]
  by_cases c2 : 65536 < w
  · rw [if_pos c2, if_pos c2]
  rw [if_neg c2, if_neg c2, decide_eq_true (show w ≠ 0 from c1), gd_true, tdiv_nn (by omega)]
  have h1 : 0 ≤ 65536 / w := Int.ediv_nonneg (by omega) (by omega)
  have h2 : 65536 / w ≤ 65536 := Int.ediv_le_self _ (by omega)
  rw [wrap64 (n := 65536 / w) (by omega), wrapU_in (by omega)]
  by_cases c3 : 65536 / w < v
  · rw [if_pos c3, if_pos c3]
  · rw [if_neg c3, if_neg c3]
    have h3 : w * v ≤ 65536 := by
      have h4 : v ≤ 65536 / w := by omega
      have h5 := Int.mul_le_mul_of_nonneg_left h4 (show 0 ≤ w by omega)
      have h6 := Int.mul_ediv_self_le (x := 65536) (k := w) (by omega)
      omega
    have h7 := Int.mul_nonneg (show 0 ≤ w by omega) hv.1
    rw [wrap64 (n := v) (by omega), wrap64 (n := w * v) (by omega)]
theorem blk9_in {w v n : Int} (hw : 0 ≤ w) (hv : 0 ≤ v) (h : blk9 w v = some n) : 0 ≤ n ∧ n ≤ 65536 := by
  unfold blk9 at h
  split at h
  · injection h with h; subst h; omega
  split at h
  · cases h
  split at h
  · cases h
  rename_i c1 c2 c3
  injection h with h
  subst h
  have h4 : v ≤ 65536 / w := by omega
  have h5 := Int.mul_le_mul_of_nonneg_left h4 (show 0 ≤ w by omega)
  have h6 := Int.mul_ediv_self_le (x := 65536) (k := w) (by omega)
  exact ⟨Int.mul_nonneg hw hv, by omega⟩
theorem opcode_Writes {k : Int} (h : 0 < k ∧ k < 7) (d a b v : Int) : D_opcode_Writes k d a b v = some (d, true) := by
  unfold D_opcode_Writes D_opcode_of
  simp only [cond_dec]
  have : k = 1 ∨ k = 2 ∨ k = 3 ∨ k = 4 ∨ k = 5 ∨ k = 6 := by omega
  rcases this with rfl | rfl | rfl | rfl | rfl | rfl <;> rfl
theorem size_add (a b : Int) (ha : 0 ≤ a ∧ a ≤ 1000000000000) (hb : 0 ≤ b ∧ b ≤ 65536) : D_size_add [a, b] = some (a + b) := by
  unfold D_size_add
  have hl : loopN (D_size_add_L0 [a, b]) BIG (0, 0) = some (a + b) := by
    have h := loop_nat (f := D_size_add_L0 [a, b]) (n := 2) (fun i => match i with | 0 => 0 | 1 => a | _ => a + b) (c := a + b) (by omega) ?_ ?_
    · exact h
    · intro i hi
      match i, hi with
      | 0, _ =>
        show some (Sum.inl (IntKind.i64.wrap 1, IntKind.i64.wrap (0 + a))) = _
        rw [wrap64 (by omega), wrap64 (by omega), Int.zero_add]
        rfl
      | 1, _ =>
        show some (Sum.inl (IntKind.i64.wrap 2, IntKind.i64.wrap (a + b))) = _
        rw [wrap64 (by omega), wrap64 (by omega)]
        rfl
    · rfl
  rw [hl]
  rfl
/-- The frames as the program has them, and as they are told. -/
def stOf (l : List Op5) (op : List (Int × Int)) : List (Int × Int) := op.reverse.map fun p => ((l.getD p.1.toNat (0, 0, 0, 0, 0)).2.2.2.2, p.2)
theorem stOf_snoc (l : List Op5) (pre : List (Int × Int)) (p : Int × Int) : stOf l (pre ++ [p]) = ((l.getD p.1.toNat (0, 0, 0, 0, 0)).2.2.2.2, p.2) :: stOf l pre := by
  unfold stOf
  rw [List.reverse_append, List.map_append]
  rfl
def ZInv (l : List Op5) (s : Int × (List Int) × (List Int) × List (Int × Int)) : Prop :=
  ∃ (i : Nat) (sz rd : List Int) (op : List (Int × Int)), i ≤ l.length ∧ s = ((i : Int), sz, rd, op) ∧ sz.length = l.length ∧ rd.length = l.length ∧ op ≠ [] ∧ op.length ≤ i + 1 ∧ (∀ p ∈ op, 0 ≤ p.1 ∧ p.1 < max (l.length : Int) 1 ∧ 0 ≤ p.2 ∧ p.2 ≤ 65537 * i) ∧
    scan (l.drop i) (op.length - 1) = some 0 ∧ runS (l.drop i) (stOf l op) = runS l [((l.getD 0 (0, 0, 0, 0, 0)).2.2.2.2, 0)]
theorem getD_at {l : List Op5} {i : Nat} (h : i < l.length) : l.getD i (0, 0, 0, 0, 0) = l[i] := by
  rw [List.getD_eq_getElem?_getD, List.getElem?_eq_getElem h]
  rfl
theorem measure_step {l : List Op5} (hl : l.length ≤ 100000) (hv : ∀ o ∈ l, 0 ≤ o.2.2.2.2 ∧ o.2.2.2.2 ≤ 18446744073709551615) (s : Int × (List Int) × (List Int) × List (Int × Int)) (h : ZInv l s) :
    (∃ b, D_size_measure_L0 l s = some (.inl b) ∧ ZInv l b ∧ l.length - b.1.toNat < l.length - s.1.toNat) ∨
    ∃ c, D_size_measure_L0 l s = some (.inr c) ∧ ((c.1 = 9 ∧ runS l [((l.getD 0 (0, 0, 0, 0, 0)).2.2.2.2, 0)] = none) ∨ (c.1 = 0 ∧ ∃ p : Int × Int, c.2.2.2 = [p] ∧ 0 ≤ p.2 ∧ runS l [((l.getD 0 (0, 0, 0, 0, 0)).2.2.2.2, 0)] = some [((l.getD p.1.toNat (0, 0, 0, 0, 0)).2.2.2.2, p.2)])) := by
  obtain ⟨i, sz, rds, op, hi, rfl, hsz, hrd, hne, hol, hop, hsc, hrun⟩ := h
  obtain ⟨pre, ⟨at', w⟩, rfl⟩ : ∃ pre x, op = pre ++ [x] := ⟨op.dropLast, op.getLast hne, (List.dropLast_concat_getLast hne).symm⟩
  have hlast := hop (at', w) (by simp)
  simp only at hlast
  have hlen : (pre ++ [(at', w)]).length = pre.length + 1 := by simp
  rw [hlen] at hol hsc
  rw [Nat.add_sub_cancel] at hsc
  have hget : (pre ++ [(at', w)])[pre.length]? = some (at', w) := by
    rw [List.getElem?_append_right (Nat.le_refl _), Nat.sub_self]
    rfl
  by_cases c : i < l.length
  · have hdrop : l.drop i = l[i] :: l.drop (i + 1) := (List.getElem_cons_drop c).symm
    have hlv := hv _ (List.getElem_mem c)
    have hDi : l.getD i (0, 0, 0, 0, 0) = l[i] := getD_at c
    rw [hdrop] at hsc hrun
    rw [stOf_snoc] at hrun
    simp only [D_size_measure_L0]
    rw [decide_eq_true (show (i : Int) < (l.length : Int) by omega), cond_true, rd_get c]
    simp only [Option.bind_some]
    generalize hx : l[i] = x at *
    simp only [scan] at hsc
    simp only [runS] at hrun
    have hk : ¬(x.1 < 0 ∨ 7 < x.1) := by
      intro hk
      rw [if_pos hk] at hsc
      cases hsc
    rw [if_neg hk] at hsc
    rw [hlen, wrap64 (n := ((pre.length + 1 : Nat) : Int) - 1) (by omega), show ((pre.length + 1 : Nat) : Int) - 1 = (pre.length : Int) by omega, ix_in (show pre.length < pre.length + 1 by omega)]
    simp only [Option.bind_some]
    by_cases k7 : x.1 = 7
    · rw [if_neg (by omega), if_pos k7] at hsc
      rw [if_pos k7] at hrun
      rw [decide_eq_true k7, cond_true, gd_fits (by omega) (by omega), wrap64 (n := (i : Int) + 1) (by omega)]
      refine .inl ⟨_, rfl, ⟨i + 1, sz, rds, pre ++ [(at', w)] ++ [((i : Int), 0)], c, rfl, hsz, hrd, by simp, by simp; omega, fun p hp => ?_, ?_, ?_⟩, by simp; omega⟩
      · rcases List.mem_append.1 hp with hp | hp
        · have := hop p hp
          omega
        · simp at hp
          subst hp
          simp only
          omega
      · rw [List.length_append, hlen]
        exact hsc
      · rw [stOf_snoc, stOf_snoc]
        simp only [Int.toNat_natCast]
        rw [hDi]
        exact hrun
    · rw [if_neg k7] at hrun
      rw [decide_eq_false k7, cond_false]
      by_cases kz : x.1 = 0
      · rw [if_pos kz] at hsc hrun
        rw [decide_eq_true kz, cond_true]
        have hp0 : pre.length ≠ 0 := by
          intro e
          rw [if_pos e] at hsc
          cases hsc
        rw [if_neg hp0] at hsc
        obtain ⟨pre2, ⟨at2, w2⟩, rfl⟩ : ∃ pre2 x, pre = pre2 ++ [x] := by
          have hne2 : pre ≠ [] := by intro e; subst e; exact hp0 rfl
          exact ⟨pre.dropLast, pre.getLast hne2, (List.dropLast_concat_getLast hne2).symm⟩
        have hl2 : (pre2 ++ [(at2, w2)]).length = pre2.length + 1 := by simp
        have hlast2 := hop (at2, w2) (by simp)
        simp only at hlast2
        obtain ⟨an, rfl⟩ := Int.eq_ofNat_of_zero_le hlast.1
        have han : an < l.length := by omega
        rw [hget]
        simp only [Option.bind_some]
        rw [rd_get han]
        simp only [Option.bind_some]
        have hvv := hv _ (List.getElem_mem han)
        rw [size_block ⟨hlast.2.2.1, by omega⟩ hvv]
        simp only [Option.bind_some]
        rw [stOf_snoc] at hrun
        simp only [Int.toNat_natCast] at hrun
        rw [getD_at han] at hrun
        cases hb : blk9 w l[an].2.2.2.2 with
        | none =>
          rw [hb] at hrun
          simp only [Bool.not_false, cond_true]
          exact .inr ⟨_, rfl, .inl ⟨rfl, hrun.symm⟩⟩
        | some n =>
          rw [hb] at hrun
          have hn := blk9_in hlast.2.2.1 hvv.1 hb
          simp only [Bool.not_true, cond_false]
          rw [ix_in (show an < sz.length by omega)]
          simp only [Option.bind_some]
          rw [List.getElem?_eq_getElem (show an < sz.length by omega)]
          simp only [Option.bind_some]
          rw [ix_in (show an < rds.length by omega)]
          simp only [Option.bind_some]
          rw [List.getElem?_eq_getElem (show an < rds.length by omega)]
          simp only [Option.bind_some]
          rw [cutG_in (by omega), gd_true]
          have e1 : ((pre2 ++ [(at2, w2)]).length : Int).toNat - 0 = pre2.length + 1 := by rw [hl2]; omega
          rw [e1, wrap64 (n := ((pre2.length + 1 : Nat) : Int) - 1) (by omega), show ((pre2.length + 1 : Nat) : Int) - 1 = (pre2.length : Int) by omega, ix_in (show pre2.length < pre2.length + 1 by omega)]
          simp only [Option.bind_some, Nat.zero_add]
          have hg2 : (pre2 ++ [(at2, w2)] ++ [((an : Int), w)])[pre2.length]? = some (at2, w2) := by
            rw [List.append_assoc, List.getElem?_append_right (Nat.le_refl _), Nat.sub_self]
            rfl
          rw [hg2]
          simp only [Option.bind_some]
          rw [size_add _ _ (by omega) hn]
          simp only [Option.bind_some]
          have htk : ((pre2 ++ [(at2, w2)] ++ [((an : Int), w)]).set pre2.length (at2, w2 + n)).take (pre2.length + 1) = pre2 ++ [(at2, w2 + n)] := by
            rw [List.append_assoc, List.set_append_right _ _ (Nat.le_refl _), Nat.sub_self]
            show (pre2 ++ [(at2, w2 + n), ((an : Int), w)]).take (pre2.length + 1) = _
            rw [show [(at2, w2 + n), ((an : Int), w)] = [(at2, w2 + n)] ++ [((an : Int), w)] from rfl, ← List.append_assoc, List.take_left']
            simp
          rw [htk, wrap64 (n := (i : Int) + 1) (by omega)]
          refine .inl ⟨_, rfl, ⟨i + 1, _, _, pre2 ++ [(at2, w2 + n)], c, rfl, by simp [hsz], by simp [hrd], by simp, by simp; omega, fun p hp => ?_, ?_, ?_⟩, by simp; omega⟩
          · rcases List.mem_append.1 hp with hp | hp
            · have := hop p (by simp [hp])
              omega
            · simp at hp
              subst hp
              simp only
              omega
          · rw [hl2] at hsc
            rw [List.length_append]
            exact hsc
          · rw [stOf_snoc]
            exact hrun
      · rw [if_neg kz] at hsc hrun
        rw [if_neg k7] at hsc
        rw [decide_eq_false kz, cond_false, opcode_Writes (by omega)]
        simp only [Option.bind_some, cond_true]
        rw [ix_in (show i < sz.length by omega)]
        simp only [Option.bind_some]
        rw [List.getElem?_eq_getElem (show i < sz.length by omega)]
        simp only [Option.bind_some]
        rw [hget]
        simp only [Option.bind_some]
        rw [wrap64 (n := w + 1) (by omega), wrap64 (n := (i : Int) + 1) (by omega)]
        have hset : (pre ++ [(at', w)]).set pre.length (at', w + 1) = pre ++ [(at', w + 1)] := by
          rw [List.set_append_right _ _ (Nat.le_refl _), Nat.sub_self]
          rfl
        rw [hset]
        refine .inl ⟨_, rfl, ⟨i + 1, _, rds, pre ++ [(at', w + 1)], c, rfl, by simp [hsz], hrd, by simp, by simp; omega, fun p hp => ?_, ?_, ?_⟩, by simp; omega⟩
        · rcases List.mem_append.1 hp with hp | hp
          · have := hop p (by simp [hp])
            omega
          · simp at hp
            subst hp
            simp only
            omega
        · rw [List.length_append]
          exact hsc
        · rw [stOf_snoc]
          exact hrun
  · have hi' : i = l.length := by omega
    subst hi'
    rw [List.drop_length] at hsc hrun
    simp only [D_size_measure_L0]
    rw [decide_eq_false (show ¬(l.length : Int) < (l.length : Int) by omega), cond_false]
    have hp : pre = [] := by
      have hsc : some pre.length = some 0 := hsc
      injection hsc with hsc
      exact List.length_eq_zero_iff.1 hsc
    subst hp
    refine .inr ⟨_, rfl, .inr ⟨rfl, (at', w), rfl, hlast.2.2.1, ?_⟩⟩
    rw [← hrun]
    rfl
/-- How many writes there are. -/
def Q9 (l : List Op5) : Option Int := (runS l [((l.getD 0 (0, 0, 0, 0, 0)).2.2.2.2, 0)]).bind fun st => match st with
  | [p] => some p.2
  | _ => none
def writes9 (l : List Op5) : Int × Int := if scan l 0 = some 0 then (match Q9 l with
  | some w => if 65536 < w then (0, 9) else (w, 0)
  | none => (0, 9)) else (0, 6)
theorem size_Writes {l : List Op5} (hl : l.length ≤ 100000) (hv : ∀ o ∈ l, 0 ≤ o.2.2.2.2 ∧ o.2.2.2.2 ≤ 18446744073709551615) : D_size_Writes l = some (writes9 l) := by
  unfold D_size_Writes D_size_measure
  obtain ⟨m, hm⟩ := nest_Match hl
  rw [hm]
  unfold writes9
  by_cases hs : scan l 0 = some 0
  · simp only [if_pos hs]
    simp only [Option.bind_some]
    rw [decide_eq_false (by simp), cond_false]
    rw [decide_eq_true (show (0 : Int) ≤ (l.length : Int) by omega), decide_eq_true (show (l.length : Int) ≤ (l.length : Int) by omega), decide_eq_true (show 8 * (l.length : Int) ≤ 140737488355328 by omega)]
    have hgd : ∀ {β : Type} {y : Option β}, gd (Nat.beq 1 (Sh.w (.int .i64)) && true && true && true && Nat.ble 1 8) y = y := fun {β y} => rfl
    rw [hgd, hgd]
    obtain ⟨c, hc, h⟩ := loop_inv (f := D_size_measure_L0 l) (a := ((0 : Int), List.replicate ((l.length : Int)).toNat (0 : Int), List.replicate ((l.length : Int)).toNat (0 : Int), [((0 : Int), (0 : Int))])) (ZInv l) (fun s => l.length - s.1.toNat) _
      ⟨0, _, _, [(0, 0)], Nat.zero_le _, rfl, by simp, by simp, by simp, by simp, (fun p hp => by simp at hp; subst hp; simp only; omega), hs, rfl⟩ (by simp; omega) (fun s h => measure_step hl hv s h)
    rw [hc]
    simp only [Option.bind_some]
    unfold Q9
    rcases h with ⟨h1, h2⟩ | ⟨h1, p, h3, h4, h5⟩
    · rw [h1, h2]
      rfl
    · rw [h1, h5, h3]
      show ((((cond (decide (65536 < p.2)) (some (9 : Int)) (some 0)).bind fun s36 => cond (decide (s36 ≠ 0)) (some ((0 : Int), s36, ([] : List Int), ([] : List Int))) (some (p.2, 0, c.2.1, c.2.2.1))).bind fun r1 => some (r1.1, r1.2.1))) = some (if 65536 < p.2 then (0, 9) else (p.2, 0))
      rw [cond_dec]
      by_cases c6 : 65536 < p.2
      · rw [if_pos c6, if_pos c6]
        rfl
      · rw [if_neg c6, if_neg c6]
        rfl
  · simp only [if_neg hs]
    rfl

/-! ### Side by side and within one another -/
theorem runS_app : ∀ (l r : List Op5) (st : List (Int × Int)), runS (l ++ r) st = (runS l st).bind (runS r)
  | [], r, st => rfl
  | o :: l, r, [] => rfl
  | o :: l, r, (v, w) :: st => by
    simp only [List.cons_append, runS]
    split
    · exact runS_app l r _
    split
    · split
      · exact runS_app l r _
      · rfl
    · exact runS_app l r _
/-- The lowest frame is another one. -/
def lift9 (v w : Int) (base : List (Int × Int)) : List (Int × Int) → List (Int × Int)
  | [] => []
  | [p] => (v, w + p.2) :: base
  | p :: q :: r => p :: lift9 v w base (q :: r)
theorem lift9_app (v w : Int) (base : List (Int × Int)) (p : Int × Int) : ∀ fs : List (Int × Int), lift9 v w base (fs ++ [p]) = fs ++ (v, w + p.2) :: base
  | [] => rfl
  | [a] => rfl
  | a :: b :: r => by
    show a :: lift9 v w base (b :: r ++ [p]) = _
    rw [lift9_app v w base p (b :: r)]
    rfl
theorem runS_lift (v w : Int) (base : List (Int × Int)) : ∀ (l : List Op5) (fs : List (Int × Int)) (n0 : Int) (d' : Nat), scan l fs.length = some d' → runS l (fs ++ (v, w + n0) :: base) = (runS l (fs ++ [(0, n0)])).map (lift9 v w base)
  | [], fs, n0, d', _ => by
    show some _ = some _
    rw [lift9_app]
  | o :: l, [], n0, d', h => by
    simp only [scan, List.length_nil] at h
    simp only [List.nil_append, runS]
    split at h
    · cases h
    split at h
    · rw [if_pos trivial] at h
      cases h
    rename_i c1 c2
    split at h
    · rename_i c3
      rw [if_pos c3, if_pos c3]
      exact runS_lift v w base l [(o.2.2.2.2, 0)] n0 d' h
    · rename_i c3
      rw [if_neg c3, if_neg c2, if_neg c3, if_neg c2, Int.add_assoc]
      exact runS_lift v w base l [] (n0 + 1) d' h
  | o :: l, (fv, fw) :: fs, n0, d', h => by
    simp only [scan, List.length_cons] at h
    simp only [List.cons_append, runS]
    split at h
    · cases h
    split at h
    · rename_i c1 c2
      rw [if_neg (by omega)] at h
      rw [if_neg (by omega), if_pos c2, if_neg (by omega), if_pos c2]
      cases hb : blk9 fw fv with
      | none => rfl
      | some n =>
        cases fs with
        | nil =>
          simp only [List.nil_append]
          rw [Int.add_assoc]
          exact runS_lift v w base l [] (n0 + n) d' h
        | cons q fs =>
          simp only [List.cons_append]
          exact runS_lift v w base l ((q.1, q.2 + n) :: fs) n0 d' h
    rename_i c1 c2
    split at h
    · rename_i c3
      rw [if_pos c3, if_pos c3]
      exact runS_lift v w base l ((o.2.2.2.2, 0) :: (fv, fw) :: fs) n0 d' h
    · rename_i c3
      rw [if_neg c3, if_neg c2, if_neg c3, if_neg c2]
      exact runS_lift v w base l ((fv, fw + 1) :: fs) n0 d' h
theorem runS_len : ∀ (l : List Op5) (st st' : List (Int × Int)) (d d' : Nat), st.length = d + 1 → scan l d = some d' → runS l st = some st' → st'.length = d' + 1
  | [], st, st', d, d', h1, h2, h3 => by
    injection h2 with h2
    injection h3 with h3
    subst h2
    subst h3
    exact h1
  | o :: l, [], st', d, d', h1, _, _ => by simp at h1
  | o :: l, (v, w) :: st, st', d, d', h1, h2, h3 => by
    simp only [scan] at h2
    simp only [runS] at h3
    simp only [List.length_cons, Nat.add_right_cancel_iff] at h1
    split at h2
    · cases h2
    split at h2
    · rename_i c1 c2
      split at h2
      · cases h2
      rw [if_neg (by omega), if_pos c2] at h3
      split at h3
      · rename_i c3 _ _ n v' w' st2 _
        exact runS_len l _ st' (d - 1) d' (by simp at h1 ⊢; omega) h2 h3
      · cases h3
    rename_i c1 c2
    split at h2
    · rename_i c3
      rw [if_pos c3] at h3
      exact runS_len l _ st' (d + 1) d' (by simp; omega) h2 h3
    · rename_i c3
      rw [if_neg c3, if_neg c2] at h3
      exact runS_len l _ st' d d' (by simp; omega) h2 h3
theorem runS_nn : ∀ (l : List Op5) (st st' : List (Int × Int)), (∀ o ∈ l, 0 ≤ o.2.2.2.2) → (∀ p ∈ st, 0 ≤ p.1 ∧ 0 ≤ p.2) → runS l st = some st' → ∀ p ∈ st', 0 ≤ p.2
  | [], st, st', _, h, h3 => by
    injection h3 with h3
    subst h3
    exact fun p hp => (h p hp).2
  | o :: l, [], st', _, _, h3 => by cases h3
  | o :: l, (v, w) :: st, st', ho, h, h3 => by
    have hvw := h (v, w) (by simp)
    have hrest : ∀ p ∈ st, 0 ≤ p.1 ∧ 0 ≤ p.2 := fun p hp => h p (by simp [hp])
    have hol : ∀ o' ∈ l, 0 ≤ o'.2.2.2.2 := fun o' ho' => ho o' (by simp [ho'])
    simp only at hvw
    simp only [runS] at h3
    split at h3
    · refine runS_nn l _ st' hol (fun p hp => ?_) h3
      rcases List.mem_cons.1 hp with rfl | hp
      · exact ⟨ho o (by simp), Int.le_refl _⟩
      · exact h p hp
    split at h3
    · split at h3
      · rename_i n v' w' st2 hb
        have hn := blk9_in hvw.2 hvw.1 hb
        refine runS_nn l _ st' hol (fun p hp => ?_) h3
        rcases List.mem_cons.1 hp with rfl | hp
        · have := hrest (v', w') (by simp)
          simp only at this ⊢
          omega
        · exact hrest p (by simp [hp])
      · cases h3
    · refine runS_nn l _ st' hol (fun p hp => ?_) h3
      rcases List.mem_cons.1 hp with rfl | hp
      · simp only; omega
      · exact h p (by simp [hp])
theorem Q9_run {l : List Op5} (h : scan l 0 = some 0) (v w : Int) (base : List (Int × Int)) : runS l ((v, w) :: base) = (Q9 l).map fun m => (v, w + m) :: base := by
  have h1 := runS_lift v w base l [] 0 0 h
  rw [List.nil_append, List.nil_append, Int.add_zero] at h1
  have h2 := runS_lift ((l.getD 0 (0, 0, 0, 0, 0)).2.2.2.2) 0 [] l [] 0 0 h
  rw [List.nil_append, List.nil_append, Int.add_zero] at h2
  unfold Q9
  rw [h1, h2]
  cases hr : runS l [(0, 0)] with
  | none => rfl
  | some st =>
    have hl := runS_len l _ st 0 0 rfl h hr
    match st, hl with
    | [p], _ =>
      show some ((v, w + p.2) :: base) = some ((v, w + (0 + p.2)) :: base)
      rw [Int.zero_add]
theorem Q9_nn {l : List Op5} (hv : ∀ o ∈ l, 0 ≤ o.2.2.2.2) {m : Int} (h : scan l 0 = some 0) (hq : Q9 l = some m) : 0 ≤ m := by
  have h1 := Q9_run h 0 0 []
  rw [hq] at h1
  have := runS_nn l _ _ hv (fun p hp => by simp at hp; subst hp; simp) h1 (0, 0 + m) (by simp)
  simp only at this
  omega


/-! ### The document's way -/
theorem ref08_Well {l : List Op5} (hl : l.length ≤ 100000) : D_ref08_Well l = some (decide (scan l 0 = some 0)) := by
  unfold D_ref08_Well
  obtain ⟨c, hc, h⟩ := loop_inv (f := D_ref08_Well_L0 l) (a := ((0 : Int), (0 : Int))) (fun s => ∃ i d : Nat, i ≤ l.length ∧ d ≤ i ∧ s = ((i : Int), (d : Int)) ∧ scan (l.drop i) d = scan l 0) (fun s => l.length - s.1.toNat)
    (fun c => (c = .inl false ∧ scan l 0 = none) ∨ ∃ d : Nat, c = .inr (d : Int) ∧ scan l 0 = some d) ⟨0, 0, Nat.zero_le _, Nat.le_refl _, rfl, rfl⟩ (by simp; omega) (by
    rintro _ ⟨i, d, hi, hd, rfl, hs⟩
    simp only [D_ref08_Well_L0, cond_dec]
    by_cases c : i < l.length
    · rw [(List.getElem_cons_drop c).symm] at hs
      rw [if_pos (by omega), rd_get c]
      simp only [Option.bind_some]
      generalize l[i] = x at *
      simp only [scan] at hs
      by_cases k0 : x.1 < 0
      · rw [if_pos (.inl k0)] at hs
        rw [if_pos k0]
        exact .inr ⟨_, rfl, .inl ⟨rfl, hs.symm⟩⟩
      rw [if_neg k0]
      by_cases k7 : 7 < x.1
      · rw [if_pos (.inr k7)] at hs
        rw [if_pos k7]
        exact .inr ⟨_, rfl, .inl ⟨rfl, hs.symm⟩⟩
      rw [if_neg (by omega)] at hs
      rw [if_neg k7]
      by_cases kz : x.1 = 0
      · rw [if_pos kz] at hs
        rw [if_neg (by omega)]
        simp only [Option.bind_some]
        rw [if_pos kz, wrap64 (n := (d : Int) - 1) (by omega), wrap64 (n := (i : Int) + 1) (by omega)]
        by_cases hd0 : d = 0
        · rw [if_pos hd0] at hs
          rw [if_pos (by omega)]
          exact .inr ⟨_, rfl, .inl ⟨rfl, hs.symm⟩⟩
        · rw [if_neg hd0] at hs
          rw [if_neg (by omega)]
          exact .inl ⟨_, rfl, ⟨i + 1, d - 1, c, by omega, by rw [show ((d - 1 : Nat) : Int) = (d : Int) - 1 by omega]; rfl, hs⟩, by simp; omega⟩
      · rw [if_neg kz] at hs
        by_cases k77 : x.1 = 7
        · rw [if_pos k77] at hs
          rw [if_pos k77]
          simp only [Option.bind_some]
          rw [if_neg kz, wrap64 (n := (d : Int) + 1) (by omega), wrap64 (n := (i : Int) + 1) (by omega), if_neg (by omega)]
          exact .inl ⟨_, rfl, ⟨i + 1, d + 1, c, by omega, rfl, hs⟩, by simp; omega⟩
        · rw [if_neg k77] at hs
          rw [if_neg k77]
          simp only [Option.bind_some]
          rw [if_neg kz, wrap64 (n := (i : Int) + 1) (by omega), if_neg (by omega)]
          exact .inl ⟨_, rfl, ⟨i + 1, d, c, by omega, rfl, hs⟩, by simp; omega⟩
    · have : i = l.length := by omega
      subst this
      rw [List.drop_length] at hs
      rw [if_neg (by omega)]
      exact .inr ⟨_, rfl, .inr ⟨d, rfl, hs.symm⟩⟩)
  rw [hc]
  rcases h with ⟨rfl, h⟩ | ⟨d, rfl, h⟩
  · rw [h]; rfl
  · rw [h]
    show some (decide ((d : Int) = 0)) = some (decide (some d = some 0))
    congr 1
    rw [decide_eq_decide]
    constructor
    · intro e; have : d = 0 := by omega
      rw [this]
    · intro e; injection e with e; omega
/-- A block that is open ends. -/
theorem split9 : ∀ (n : Nat) (s : List Op5) (d : Nat), s.length ≤ n → scan s (d + 1) = some 0 → ∃ inner e rest, s = inner ++ e :: rest ∧ e.1 = 0 ∧ scan inner 0 = some 0 ∧ scan rest d = some 0
  | n, [], d, _, h => by
    injection h with h
    omega
  | 0, o :: s, d, hn, _ => by simp at hn
  | n + 1, o :: s, d, hn, h => by
    simp only [List.length_cons] at hn
    simp only [scan] at h
    split at h
    · cases h
    rename_i c1
    split at h
    · rename_i c2
      rw [if_neg (by omega)] at h
      exact ⟨[], o, s, rfl, c2, rfl, h⟩
    rename_i c2
    split at h
    · rename_i c3
      obtain ⟨i1, e1, r1, h1, h2, h3, h4⟩ := split9 n s (d + 1) (by omega) h
      have hlen : r1.length ≤ n := by rw [h1] at hn; simp at hn; omega
      obtain ⟨i2, e2, r2, h5, h6, h7, h8⟩ := split9 n r1 d hlen h4
      refine ⟨o :: i1 ++ e1 :: i2, e2, r2, ?_, h6, ?_, h8⟩
      · rw [h1, h5]; simp
      · show scan (o :: (i1 ++ e1 :: i2)) 0 = _
        simp only [scan]
        rw [if_neg c1, if_neg c2, if_pos c3, scan_app, scan_up _ _ _ h3]
        show scan (e1 :: i2) 1 = _
        simp only [scan]
        rw [if_neg (by omega), if_pos h2, if_neg (by omega)]
        exact h7
    · rename_i c3
      obtain ⟨i1, e1, r1, h1, h2, h3, h4⟩ := split9 n s d (by omega) h
      refine ⟨o :: i1, e1, r1, by rw [h1]; rfl, h2, ?_, h4⟩
      simp only [scan]
      rw [if_neg c1, if_neg c2, if_neg c3]
      exact h3
theorem split_unique {i1 i2 r1 r2 : List Op5} {e1 e2 : Op5} (h : i1 ++ e1 :: r1 = i2 ++ e2 :: r2) (h1 : scan i1 0 = some 0) (h2 : scan i2 0 = some 0) (he1 : e1.1 = 0) (he2 : e2.1 = 0) : i1 = i2 := by
  have key : ∀ {a b : List Op5} {e : Op5} {x : List Op5}, a ++ e :: x = b → e.1 = 0 → scan a 0 = some 0 → scan b 0 = some 0 → False := by
    intro a b e x hab he ha hb
    rw [← hab, scan_app, ha] at hb
    have hb : scan (e :: x) 0 = some 0 := hb
    simp only [scan] at hb
    rw [if_neg (by omega), if_pos he, if_pos trivial] at hb
    cases hb
  rcases List.append_eq_append_iff.1 h with ⟨a', h3, h4⟩ | ⟨a', h3, h4⟩
  · cases a' with
    | nil => rw [List.append_nil] at h3; exact h3.symm
    | cons q a' =>
      rw [List.cons_append] at h4
      injection h4 with h4 h5
      subst h4
      exact (key h3.symm he1 h1 h2).elim
  · cases a' with
    | nil => rw [List.append_nil] at h3; exact h3
    | cons q a' =>
      rw [List.cons_append] at h4
      injection h4 with h4 h5
      subst h4
      exact (key h3.symm he2 h2 h1).elim
/-- At any place of what is well nested. -/
theorem at_place {l : List Op5} (h : scan l 0 = some 0) {i : Nat} (hi : i ≤ l.length) : ∃ d, scan (l.take i) 0 = some d ∧ scan (l.drop i) d = some 0 := by
  rw [← List.take_append_drop i l, scan_app] at h
  obtain ⟨d, h1, h2⟩ := bind_some' h
  exact ⟨d, h1, h2⟩
theorem block_at {l : List Op5} (h : scan l 0 = some 0) {i : Nat} (hi : i < l.length) (hk : l[i].1 = 7) : ∃ inner e rest, l.drop (i + 1) = inner ++ e :: rest ∧ e.1 = 0 ∧ scan inner 0 = some 0 := by
  obtain ⟨d, _, h2⟩ := at_place h (i := i) (by omega)
  rw [(List.getElem_cons_drop hi).symm] at h2
  simp only [scan] at h2
  rw [if_neg (by omega), if_neg (by omega), if_pos hk] at h2
  obtain ⟨inner, e, rest, h3, h4, h5, _⟩ := split9 _ _ d (Nat.le_refl _) h2
  exact ⟨inner, e, rest, h3, h4, h5⟩
/-- What the document's table of matches holds. -/
structure MOK (l : List Op5) (m : List Int) : Prop where
  len : m.length = l.length
  at' : ∀ i, (hi : i < l.length) → l[i].1 = 7 → ∀ inner e rest, l.drop (i + 1) = inner ++ e :: rest → e.1 = 0 → scan inner 0 = some 0 → m[i]? = some ((i + 1 + inner.length : Nat) : Int)
theorem search9 {l : List Op5} (hl : l.length ≤ 100000) {i : Nat} (hi : i < l.length) {inner rest : List Op5} {e : Op5} (h : l.drop (i + 1) = inner ++ e :: rest) (he : e.1 = 0) (hs : scan inner 0 = some 0) : loopN (D_ref08_Match_L1 l) BIG (1, (i : Int)) = some ((i + 1 + inner.length : Nat) : Int) := by
  have hlen : l.length = i + 1 + inner.length + 1 + rest.length := by
    have := congrArg List.length h
    rw [List.length_drop] at this
    simp at this
    omega
  have hget : ∀ j, j < inner.length + 1 → ∃ x, rd l ((i + 1 + j : Nat) : Int) = some x ∧ (inner ++ e :: rest)[j]? = some x := by
    intro j hj
    have hlt : i + 1 + j < l.length := by omega
    refine ⟨l[i + 1 + j], rd_get hlt, ?_⟩
    rw [← h, List.getElem?_drop, List.getElem?_eq_getElem hlt]
  have hpre : ∀ j, j ≤ inner.length → ∃ d, scan (inner.take j) 0 = some d := by
    intro j hj
    obtain ⟨d, h1, _⟩ := at_place hs hj
    exact ⟨d, h1⟩
  let hs' : Nat → Nat := fun j => (scan (inner.take j) 0).getD 0
  have hhs : ∀ j, j ≤ inner.length → scan (inner.take j) 0 = some (hs' j) := by
    intro j hj
    obtain ⟨d, hd⟩ := hpre j hj
    show _ = some ((scan (inner.take j) 0).getD 0)
    rw [hd]; rfl
  have hle : ∀ j, hs' j ≤ j ∨ inner.length < j := by
    intro j
    induction j with
    | zero => exact .inl (Nat.le_refl _)
    | succ j ih =>
      by_cases hj : j + 1 ≤ inner.length
      · left
        have h1 := hhs (j + 1) hj
        rw [List.take_succ_eq_append_getElem (show j < inner.length by omega), scan_app, hhs j (by omega)] at h1
        have h1 : scan [inner[j]] (hs' j) = some (hs' (j + 1)) := h1
        simp only [scan] at h1
        split at h1
        · cases h1
        split at h1
        · split at h1
          · cases h1
          · injection h1 with h1; omega
        split at h1
        · injection h1 with h1; omega
        · injection h1 with h1; omega
      · right; omega
  refine loop_steps (f := D_ref08_Match_L1 l) (n := inner.length + 1) (fun j => if j ≤ inner.length then ((1 + hs' j : Nat), ((i + j : Nat) : Int)) else (0, ((i + 1 + inner.length : Nat) : Int))) (by omega) (fun j hj => ?_) ?_
  · have hb := hle j
    rw [if_pos (show j ≤ inner.length by omega)]
    obtain ⟨x, hx1, hx2⟩ := hget j (by omega)
    simp only [D_ref08_Match_L1, cond_dec]
    rw [if_pos (by omega), wrap64 (n := ((i + j : Nat) : Int) + 1) (by omega), show ((i + j : Nat) : Int) + 1 = ((i + 1 + j : Nat) : Int) by omega, hx1]
    simp only [Option.bind_some]
    by_cases hj2 : j < inner.length
    · rw [List.getElem?_append_left hj2, List.getElem?_eq_getElem hj2] at hx2
      injection hx2 with hx2
      have h1 := hhs (j + 1) hj2
      rw [List.take_succ_eq_append_getElem hj2, scan_app, hhs j (by omega)] at h1
      have h1 : scan [inner[j]] (hs' j) = some (hs' (j + 1)) := h1
      rw [hx2] at h1
      simp only [scan] at h1
      rw [if_pos (show j + 1 ≤ inner.length by omega)]
      split at h1
      · cases h1
      split at h1
      · rename_i k1 k2
        split at h1
        · cases h1
        · injection h1 with h1
          rw [if_neg (by omega), if_pos k2, wrap64 (by omega)]
          congr 3 <;> omega
      rename_i k1 k2
      split at h1
      · rename_i k3
        injection h1 with h1
        rw [if_pos k3, if_neg k2, wrap64 (by omega)]
        congr 3 <;> omega
      · rename_i k3
        injection h1 with h1
        rw [if_neg k3, if_neg k2]
        congr 3 <;> omega
    · have hje : j = inner.length := by omega
      subst hje
      rw [List.getElem?_append_right (Nat.le_refl _), Nat.sub_self] at hx2
      injection hx2 with hx2
      subst hx2
      have hz : hs' inner.length = 0 := by
        have := hhs inner.length (Nat.le_refl _)
        rw [List.take_length, hs] at this
        injection this with this
        exact this.symm
      rw [if_neg (by omega), if_pos he, if_neg (show ¬inner.length + 1 ≤ inner.length by omega), hz, wrap64 (by omega)]
      rfl
  · rw [if_neg (by omega)]
    simp only [D_ref08_Match_L1, cond_dec]
    rw [if_neg (by omega)]
theorem ref08_Match {l : List Op5} (hl : l.length ≤ 100000) : (scan l 0 = some 0 ∧ ∃ m, D_ref08_Match l = some (0, m) ∧ MOK l m) ∨ (scan l 0 ≠ some 0 ∧ D_ref08_Match l = some (6, [])) := by
  unfold D_ref08_Match
  rw [ref08_Well hl]
  simp only [Option.bind_some]
  by_cases hs : scan l 0 = some 0
  · left
    refine ⟨hs, ?_⟩
    rw [decide_eq_true hs]
    simp only [Bool.not_true, cond_false]
    have h0 : loopN (D_ref08_Match_L0 l) BIG (0, []) = some (List.replicate l.length (-1)) := by
      have h := loop_nat (f := D_ref08_Match_L0 l) (n := l.length) (fun i => List.replicate i (-1 : Int)) (c := List.replicate l.length (-1)) (by omega) ?_ ?_
      · exact h
      · intro i hi
        simp only [D_ref08_Match_L0, cond_dec]
        rw [if_pos (by omega), gd_fits (by simp; omega) (by omega), wrap64 (by omega), List.replicate_succ']
        rfl
      · simp only [D_ref08_Match_L0, cond_dec]
        rw [if_neg (by omega)]
    rw [h0]
    simp only [Option.bind_some]
    obtain ⟨c, hc, h⟩ := loop_inv (f := D_ref08_Match_L2 l) (a := ((0 : Int), List.replicate l.length (-1 : Int))) (fun s => ∃ (i : Nat) (out : List Int), i ≤ l.length ∧ s = ((i : Int), out) ∧ out.length = l.length ∧ ∀ j, j < i → (hj : j < l.length) → l[j].1 = 7 → ∀ inner e rest, l.drop (j + 1) = inner ++ e :: rest → e.1 = 0 → scan inner 0 = some 0 → out[j]? = some ((j + 1 + inner.length : Nat) : Int)) (fun s => l.length - s.1.toNat)
      (fun c => MOK l c) ⟨0, _, Nat.zero_le _, rfl, by simp, fun j hj => by omega⟩ (by simp; omega) (by
      rintro _ ⟨i, out, hi, rfl, ho, hout⟩
      simp only [D_ref08_Match_L2, cond_dec]
      by_cases c : i < l.length
      · rw [if_pos (by omega), rd_get c]
        simp only [Option.bind_some]
        by_cases hk : l[i].1 = 7
        · obtain ⟨inner, e, rest, h1, h2, h3⟩ := block_at hs c hk
          have hlen : l.length = i + 1 + inner.length + 1 + rest.length := by
            have := congrArg List.length h1
            rw [List.length_drop] at this
            simp at this
            omega
          rw [if_neg (by simp [hk]), search9 hl c h1 h2 h3]
          simp only [Option.bind_some]
          rw [ix_in (show i < out.length by omega)]
          simp only [Option.bind_some]
          rw [List.getElem?_eq_getElem (show i < out.length by omega)]
          simp only [Option.bind_some]
          rw [ix_in (show i + 1 + inner.length < (out.set i ((i + 1 + inner.length : Nat) : Int)).length by simp; omega)]
          simp only [Option.bind_some]
          rw [List.getElem?_eq_getElem (show i + 1 + inner.length < (out.set i ((i + 1 + inner.length : Nat) : Int)).length by simp; omega)]
          simp only [Option.bind_some]
          rw [wrap64 (n := (i : Int) + 1) (by omega)]
          refine .inl ⟨_, rfl, ⟨i + 1, _, c, rfl, by simp [ho], fun j hj hjl hjk inner' e' rest' q1 q2 q3 => ?_⟩, by simp; omega⟩
          have hke : l[i + 1 + inner.length].1 = 0 := by
            have h4 : (l.drop (i + 1))[inner.length]? = some e := by
              rw [h1, List.getElem?_append_right (Nat.le_refl _), Nat.sub_self]
              rfl
            rw [List.getElem?_drop, List.getElem?_eq_getElem (show i + 1 + inner.length < l.length by omega)] at h4
            injection h4 with h4
            rw [h4]
            exact h2
          have hne : i + 1 + inner.length ≠ j := by
            intro e4
            subst e4
            rw [hke] at hjk
            cases hjk
          rw [List.getElem?_set_ne hne]
          by_cases hji : i = j
          · subst hji
            have := split_unique (h1.symm.trans q1) h3 q3 h2 q2
            subst this
            rw [List.getElem?_set_self (by omega)]
          · rw [List.getElem?_set_ne hji]
            exact hout j (by omega) hjl hjk inner' e' rest' q1 q2 q3
        · rw [if_pos hk, wrap64 (n := (i : Int) + 1) (by omega)]
          refine .inl ⟨_, rfl, ⟨i + 1, out, c, rfl, ho, fun j hj hjl hjk => ?_⟩, by simp; omega⟩
          by_cases hji : j = i
          · subst hji
            exact (hk hjk).elim
          · exact hout j (by omega) hjl hjk
      · have : i = l.length := by omega
        subst this
        rw [if_neg (by omega)]
        exact .inr ⟨_, rfl, ho, fun j hj hjk => hout j hj hj hjk⟩)
    rw [hc]
    exact ⟨c, rfl, h⟩
  · right
    refine ⟨hs, ?_⟩
    rw [decide_eq_false hs]
    rfl

/-! ### Writes by the document -/
theorem map_inj {α β : Type} {f : α → β} (hf : ∀ a b, f a = f b → a = b) {x y : Option α} (h : x.map f = y.map f) : x = y := by
  cases x with
  | none => cases y with
    | none => rfl
    | some b => cases h
  | some a => cases y with
    | none => cases h
    | some b =>
      injection h with h
      rw [hf _ _ h]
theorem Q9_nil : Q9 [] = some 0 := rfl
theorem pair_inj (v c : Int) (base : List (Int × Int)) : ∀ a b : Int, (v, c + a) :: base = (v, c + b) :: base → a = b := by
  intro a b h
  injection h with h
  injection h with _ h
  omega
theorem Q9_op {o : Op5} {s : List Op5} (h : scan (o :: s) 0 = some 0) (hk : o.1 ≠ 7) : scan s 0 = some 0 ∧ (0 < o.1 ∧ o.1 < 7) ∧ Q9 (o :: s) = (Q9 s).map (1 + ·) := by
  have h1 := Q9_run h 0 0 []
  simp only [scan] at h
  split at h
  · cases h
  rename_i c1
  split at h
  · rw [if_pos trivial] at h; cases h
  rename_i c2
  refine ⟨h, by omega, map_inj (pair_inj 0 0 []) ?_⟩
  rw [← h1]
  simp only [runS]
  rw [if_neg hk, if_neg c2, Q9_run h]
  cases Q9 s with
  | none => rfl
  | some m =>
    show some [((0 : Int), 0 + 1 + m)] = some [((0 : Int), 0 + (1 + m))]
    rw [Int.add_assoc]
theorem Q9_blk {o e : Op5} {inner rest : List Op5} (h : scan (o :: (inner ++ e :: rest)) 0 = some 0) (hk : o.1 = 7) (he : e.1 = 0) (hi : scan inner 0 = some 0) :
    scan rest 0 = some 0 ∧ Q9 (o :: (inner ++ e :: rest)) = (Q9 inner).bind fun w => (blk9 w o.2.2.2.2).bind fun b => (Q9 rest).map (b + ·) := by
  have h1 := Q9_run h 0 0 []
  simp only [scan] at h
  rw [if_neg (by omega), if_neg (by omega), if_pos hk, scan_app, scan_up _ _ _ hi] at h
  have h : scan (e :: rest) 1 = some 0 := h
  simp only [scan] at h
  rw [if_neg (by omega), if_pos he, if_neg (by omega)] at h
  have h : scan rest 0 = some 0 := h
  refine ⟨h, map_inj (pair_inj 0 0 []) ?_⟩
  rw [← h1]
  simp only [runS]
  rw [if_pos hk, runS_app, Q9_run hi]
  cases Q9 inner with
  | none => rfl
  | some w =>
    show runS (e :: rest) [(o.2.2.2.2, 0 + w), (0, 0)] = _
    simp only [runS]
    rw [if_neg (by omega), if_pos he, Int.zero_add]
    simp only [Option.bind_some]
    cases blk9 w o.2.2.2.2 with
    | none => rfl
    | some b =>
      simp only [Option.bind_some]
      rw [Q9_run h]
      cases Q9 rest with
      | none => rfl
      | some m =>
        show some [((0 : Int), 0 + b + m)] = some [((0 : Int), 0 + (b + m))]
        rw [Int.add_assoc]
theorem ref07_Asks {k : Int} (h : 0 < k ∧ k < 7) : ∃ x, D_ref07_Asks k = some (true, x) := by
  have : k = 1 ∨ k = 2 ∨ k = 3 ∨ k = 4 ∨ k = 5 ∨ k = 6 := by omega
  rcases this with rfl | rfl | rfl | rfl | rfl | rfl <;> exact ⟨_, rfl⟩
def sat9 (t : Int) : Int := if 65536 < t then 65537 else t
def bval (w v : Int) : Int := if sat9 w = 0 then 0 else if v = 0 then 0 else if 65536 < v then 65537 else if 65536 < sat9 w * v then 65537 else sat9 w * v
theorem bval_blk {w v b : Int} (hw : 0 ≤ w) (hv : 0 ≤ v) (h : blk9 w v = some b) : bval w v = b ∧ w ≤ 65536 := by
  unfold blk9 at h
  unfold bval
  split at h
  · rename_i c1
    injection h with h
    subst h
    subst c1
    exact ⟨by rw [if_pos (show sat9 0 = 0 from rfl)], by omega⟩
  split at h
  · cases h
  split at h
  · cases h
  rename_i c1 c2 c3
  injection h with h
  have hs : sat9 w = w := if_neg c2
  rw [hs, if_neg c1]
  have hd : 65536 / w ≤ 65536 := Int.ediv_le_self _ (by omega)
  have h4 : v ≤ 65536 / w := by omega
  have h5 := Int.mul_le_mul_of_nonneg_left h4 hw
  have h6 := Int.mul_ediv_self_le (x := 65536) (k := w) c1
  refine ⟨?_, by omega⟩
  by_cases c4 : v = 0
  · rw [if_pos c4, ← h, c4, Int.mul_zero]
  · rw [if_neg c4, if_neg (by omega), if_neg (by omega), h]
theorem bval_bad {w v : Int} (hw : 0 ≤ w) (hv : 0 ≤ v) (h : blk9 w v = none) : 65536 < w ∨ bval w v = 65537 := by
  unfold blk9 at h
  split at h
  · cases h
  rename_i c1
  split at h
  · rename_i c2; exact .inl c2
  rename_i c2
  split at h
  · rename_i c3
    right
    unfold bval
    have hs : sat9 w = w := if_neg c2
    have hlt := Int.lt_mul_of_ediv_lt (show 0 < w by omega) c3
    rw [Int.mul_comm] at hlt
    have hd : 0 ≤ 65536 / w := Int.ediv_nonneg (by omega) hw
    rw [hs, if_neg c1, if_neg (by omega)]
    by_cases c4 : 65536 < v
    · rw [if_pos c4]
    · rw [if_neg c4, if_pos hlt]
  · cases h
/-! ### How deep -/
def hmax : List Op5 → Nat → Nat → Nat
  | [], _, m => m
  | o :: r, d, m => if o.1 = 7 then hmax r (d + 1) (max m (d + 1)) else if o.1 = 0 then hmax r (d - 1) m else hmax r d m
theorem le_hmax : ∀ (l : List Op5) (d m : Nat), m ≤ hmax l d m
  | [], _, _ => Nat.le_refl _
  | o :: l, d, m => by
    simp only [hmax]
    split
    · have := le_hmax l (d + 1) (max m (d + 1))
      omega
    split
    · exact le_hmax l _ _
    · exact le_hmax l _ _
theorem hmax_mono : ∀ (l : List Op5) (d m D M : Nat), d ≤ D → m ≤ M → hmax l d m ≤ hmax l D M
  | [], _, _, _, _, _, h => h
  | o :: l, d, m, D, M, h1, h2 => by
    simp only [hmax]
    split
    · exact hmax_mono l _ _ _ _ (by omega) (by omega)
    split
    · exact hmax_mono l _ _ _ _ (by omega) h2
    · exact hmax_mono l _ _ _ _ h1 h2
theorem hmax_app : ∀ (a b : List Op5) (d m : Nat), ∃ D, hmax (a ++ b) d m = hmax b D (hmax a d m)
  | [], b, d, m => ⟨d, rfl⟩
  | o :: a, b, d, m => by
    simp only [List.cons_append, hmax]
    split
    · exact hmax_app a b _ _
    split
    · exact hmax_app a b _ _
    · exact hmax_app a b _ _
theorem hmax_part (a b c : List Op5) : hmax b 0 0 ≤ hmax (a ++ (b ++ c)) 0 0 := by
  obtain ⟨D, h⟩ := hmax_app a (b ++ c) 0 0
  obtain ⟨E, h'⟩ := hmax_app b c D (hmax a 0 0)
  rw [h, h']
  have h1 := le_hmax c E (hmax b D (hmax a 0 0))
  have h2 := hmax_mono b 0 0 D (hmax a 0 0) (Nat.zero_le _) (Nat.zero_le _)
  omega
theorem hmax_up : ∀ (l : List Op5) (d m d' : Nat), scan l d = some d' → hmax l d m + 1 ≤ hmax l (d + 1) (m + 1)
  | [], _, _, _, _ => Nat.le_refl _
  | o :: l, d, m, d', h => by
    simp only [scan] at h
    simp only [hmax]
    split at h
    · cases h
    split at h
    · rename_i c1 c2
      rw [if_neg (by omega), if_pos c2, if_neg (by omega), if_pos c2]
      split at h
      · cases h
      · have := hmax_up l (d - 1) m d' h
        rwa [show d - 1 + 1 = d + 1 - 1 by omega] at this
    split at h
    · rename_i c3
      rw [if_pos c3, if_pos c3]
      have := hmax_up l (d + 1) (max m (d + 1)) d' h
      rwa [show max m (d + 1) + 1 = max (m + 1) (d + 1 + 1) by omega] at this
    · rename_i c2 c3
      rw [if_neg c3, if_neg c2, if_neg c3, if_neg c2]
      exact hmax_up l d m d' h
/-- A block stands one deeper than what is within. -/
theorem hmax_inner {o e : Op5} {inner rest : List Op5} (hk : o.1 = 7) (hi : scan inner 0 = some 0) : hmax inner 0 0 + 1 ≤ hmax (o :: (inner ++ e :: rest)) 0 0 := by
  have h1 := hmax_up inner 0 0 0 hi
  show _ ≤ (if o.1 = 7 then hmax (inner ++ e :: rest) (0 + 1) (max 0 (0 + 1)) else _)
  rw [if_pos hk]
  obtain ⟨D, h⟩ := hmax_app inner (e :: rest) (0 + 1) (max 0 (0 + 1))
  rw [h]
  have h2 := le_hmax (e :: rest) D (hmax inner (0 + 1) (max 0 (0 + 1)))
  exact Nat.le_trans h1 h2
theorem hmax_rest (a b : List Op5) : hmax b 0 0 ≤ hmax (a ++ b) 0 0 := by
  have := hmax_part a b []
  rwa [List.append_nil] at this
def WOK (l : List Op5) (m : List Int) (N : Nat) : Prop := ∀ f, 2 * N < f → ∀ A seg B, l = A ++ seg ++ B → hmax seg 0 0 < N → scan seg 0 = some 0 →
  ∃ r, (D_rec_ref09_within f).1 l m (A.length : Int) ((A.length + seg.length : Nat) : Int) = some r ∧ 0 ≤ r ∧ r ≤ 65537 ∧ ∀ t, Q9 seg = some t → r = sat9 t
section
variable {l : List Op5} {m : List Int}
theorem block_of (hl : l.length ≤ 100000) (hv : ∀ o ∈ l, 0 ≤ o.2.2.2.2 ∧ o.2.2.2.2 ≤ 18446744073709551615) (hm : MOK l m) {N : Nat} (h : WOK l m N) {f : Nat} (hf : 2 * N + 1 < f) {i : Nat} (hi : i < l.length) (hk : l[i].1 = 7) {inner rest : List Op5} {e : Op5} (hd : l.drop (i + 1) = inner ++ e :: rest) (he : e.1 = 0) (hs : scan inner 0 = some 0) (hN : hmax inner 0 0 < N) :
    ∃ r, (D_rec_ref09_within f).2 l m (i : Int) = some r ∧ 0 ≤ r ∧ r ≤ 65537 ∧ ∀ w, Q9 inner = some w → r = bval w l[i].2.2.2.2 := by
  obtain ⟨g, rfl⟩ : ∃ g, f = g + 1 := ⟨f - 1, by omega⟩
  have hlen : l.length = i + 1 + inner.length + 1 + rest.length := by
    have := congrArg List.length hd
    rw [List.length_drop] at this
    simp at this
    omega
  have hmi := hm.at' i hi hk inner e rest hd he hs
  have hsplit : l = l.take (i + 1) ++ inner ++ e :: rest := by
    rw [List.append_assoc, ← hd, List.take_append_drop]
  have hA : (l.take (i + 1)).length = i + 1 := by rw [List.length_take]; omega
  obtain ⟨r4, h1, h2, h3, h4⟩ := h g (by omega) (l.take (i + 1)) inner (e :: rest) hsplit hN hs
  rw [hA] at h1
  have hrd : rd m (i : Int) = some ((i + 1 + inner.length : Nat) : Int) := by
    have hlt : i < m.length := by rw [hm.len]; exact hi
    rw [rd_get hlt, ← hmi, List.getElem?_eq_getElem hlt]
  have hvi := hv _ (List.getElem_mem hi)
  show ∃ r, B_ref09_Block ((D_rec_ref09_within g).1) ((D_rec_ref09_within g).2) l m i = some r ∧ _
  unfold B_ref09_Block
  rw [hrd]
  simp only [Option.bind_some]
  rw [wrap64 (n := (i : Int) + 1) (by omega), show (i : Int) + 1 = ((i + 1 : Nat) : Int) by omega, h1]
  simp only [Option.bind_some, cond_dec]
  rw [rd_get hi]
  simp only [Option.bind_some]
  generalize l[i].2.2.2.2 = v at *
  have hval : (if r4 = 0 then some 0 else if v = 0 then some 0 else if 65536 < v then some 65537 else if 65536 < IntKind.i64.wrap (r4 * IntKind.i64.wrap v) then some 65537 else some (IntKind.i64.wrap (r4 * IntKind.i64.wrap v))) =
      some (if r4 = 0 then 0 else if v = 0 then 0 else if 65536 < v then 65537 else if 65536 < r4 * v then 65537 else r4 * v) := by
    split
    · rfl
    split
    · rfl
    split
    · rfl
    rename_i c1 c2 c3
    have h5 := Int.mul_le_mul h3 (show v ≤ 65536 by omega) hvi.1 (by omega)
    have h6 := Int.mul_nonneg h2 hvi.1
    rw [wrap64 (n := v) (by omega), wrap64 (by omega)]
    split <;> rfl
  rw [hval]
  refine ⟨_, rfl, ?_, ?_, fun w hw => ?_⟩
  · split
    · omega
    split
    · omega
    split
    · omega
    split
    · omega
    · exact Int.mul_nonneg h2 hvi.1
  · split
    · omega
    split
    · omega
    split
    · omega
    split <;> omega
  · rw [h4 w hw]
    rfl
theorem within_loop (hl : l.length ≤ 100000) (hv : ∀ o ∈ l, 0 ≤ o.2.2.2.2 ∧ o.2.2.2.2 ≤ 18446744073709551615) (hm : MOK l m) {N : Nat} (h : WOK l m N) {g : Nat} (hg : 2 * N + 1 < g) (hi : Nat) : ∀ (k : Nat) (pre seg B : List Op5) (n : Int) (fu : Nat), l = pre ++ seg ++ B → seg.length ≤ k → hmax seg 0 0 ≤ N → seg.length < fu → scan seg 0 = some 0 → hi = pre.length + seg.length → 0 ≤ n ∧ n ≤ 65536 →
    ∃ c, loopN (B_ref09_within_L0 ((D_rec_ref09_within g).2) l m hi) fu ((pre.length : Int), n) = some c ∧ (c = .inl () ∨ ∃ r, c = .inr r ∧ 0 ≤ r ∧ r ≤ 65536) ∧ ∀ t, Q9 seg = some t → c = if 65536 < n + t then .inl () else .inr (n + t)
  | k, pre, [], B, n, 0, _, _, _, hfu, _, _, _ => by simp at hfu
  | k, pre, [], B, n, fu + 1, hsplit, _, _, _, hs, hh, hn => by
    refine ⟨.inr n, ?_, .inr ⟨n, rfl, hn⟩, fun t ht => ?_⟩
    · rw [loopN_succ]
      simp only [B_ref09_within_L0, cond_dec]
      rw [if_neg (by simp at hh; omega)]
      rfl
    · injection ht with ht
      subst ht
      rw [Int.add_zero, if_neg (by omega)]
  | 0, pre, o :: seg, B, n, fu, _, hk, _, _, _, _, _ => by simp at hk
  | k + 1, pre, o :: seg, B, n, 0, _, _, _, hfu, _, _, _ => by simp at hfu
  | k + 1, pre, o :: seg, B, n, fu + 1, hsplit, hk, hN, hfu, hs, hh, hn => by
    simp only [List.length_cons] at hk hfu hh
    have hlen : l.length = pre.length + (seg.length + 1) + B.length := by rw [hsplit]; simp; omega
    have hlt : pre.length < l.length := by omega
    have hget : l[pre.length] = o := by
      have : l[pre.length]? = some o := by
        rw [hsplit, List.append_assoc, List.getElem?_append_right (Nat.le_refl _), Nat.sub_self]
        rfl
      rw [List.getElem?_eq_getElem hlt] at this
      injection this
    have hov : 0 ≤ o.2.2.2.2 ∧ o.2.2.2.2 ≤ 18446744073709551615 := by rw [← hget]; exact hv _ (List.getElem_mem hlt)
    rw [loopN_succ]
    simp only [B_ref09_within_L0, cond_dec]
    rw [if_pos (by omega), rd_get hlt, hget]
    simp only [Option.bind_some]
    by_cases hk7 : o.1 = 7
    · -- a block
      rw [if_pos hk7]
      have hs1 : scan seg 1 = some 0 := by
        simp only [scan] at hs
        rw [if_neg (by omega), if_neg (by omega), if_pos hk7] at hs
        exact hs
      obtain ⟨inner, e, rest, h1, h2, h3, h4⟩ := split9 _ seg 0 (Nat.le_refl _) hs1
      subst h1
      have hNi := hmax_inner (e := e) (rest := rest) hk7 h3
      have hNr := hmax_rest (o :: (inner ++ [e])) rest
      rw [show o :: (inner ++ [e]) ++ rest = o :: (inner ++ e :: rest) by simp] at hNr
      simp only [List.length_append, List.length_cons] at hk hfu hh hlen
      have hd : l.drop (pre.length + 1) = inner ++ e :: (rest ++ B) := by
        rw [hsplit, List.append_assoc, List.drop_append, List.drop_of_length_le (by omega), show pre.length + 1 - pre.length = 1 by omega]
        simp
      obtain ⟨r9, b1, b2, b3, b4⟩ := block_of hl hv hm h hg hlt (by rw [hget]; exact hk7) hd h2 h3 (by omega)
      rw [hget] at b4
      rw [b1]
      simp only [Option.bind_some]
      have hmi := hm.at' pre.length hlt (by rw [hget]; exact hk7) inner e (rest ++ B) hd h2 h3
      have hrd : rd m (pre.length : Int) = some ((pre.length + 1 + inner.length : Nat) : Int) := by
        have hlt' : pre.length < m.length := by rw [hm.len]; exact hlt
        rw [rd_get hlt', ← hmi, List.getElem?_eq_getElem hlt']
      rw [hrd]
      simp only [Option.bind_some]
      rw [wrap64 (n := n + r9) (by omega), wrap64 (n := ((pre.length + 1 + inner.length : Nat) : Int) + 1) (by omega)]
      obtain ⟨hsr, hQ⟩ := Q9_blk hs hk7 h2 h3
      by_cases c1 : 65536 < n + r9
      · rw [if_pos c1]
        refine ⟨.inl (), rfl, .inl rfl, fun t ht => ?_⟩
        rw [hQ] at ht
        obtain ⟨w, hw, ht⟩ := bind_some' ht
        obtain ⟨b, hb, ht⟩ := bind_some' ht
        have hw0 := Q9_nn (l := inner) (fun o' ho' => (hv o' (by rw [hsplit]; simp [ho'])).1) h3 hw
        obtain ⟨e1, _⟩ := bval_blk hw0 hov.1 hb
        rw [b4 w hw, e1] at c1
        cases hqr : Q9 rest with
        | none => rw [hqr] at ht; cases ht
        | some tr =>
          rw [hqr] at ht
          injection ht with ht
          have ht : b + tr = t := ht
          have := Q9_nn (l := rest) (fun o' ho' => (hv o' (by rw [hsplit]; simp [ho'])).1) hsr hqr
          rw [if_pos (by omega)]
      · rw [if_neg c1]
        simp only [Option.bind_some, caseS]
        have hp : (pre ++ o :: (inner ++ [e])).length = pre.length + 1 + inner.length + 1 := by simp; omega
        obtain ⟨c, d1, d2, d3⟩ := within_loop hl hv hm h hg hi k (pre ++ o :: (inner ++ [e])) rest B (n + r9) fu (by rw [hsplit]; simp) (by omega) (by omega) (by omega) hsr (by rw [hp]; omega) (by omega)
        rw [hp] at d1
        refine ⟨c, by rw [show ((pre.length + 1 + inner.length : Nat) : Int) + 1 = ((pre.length + 1 + inner.length + 1 : Nat) : Int) by omega]; exact d1, d2, fun t ht => ?_⟩
        rw [hQ] at ht
        obtain ⟨w, hw, ht⟩ := bind_some' ht
        obtain ⟨b, hb, ht⟩ := bind_some' ht
        have hw0 := Q9_nn (l := inner) (fun o' ho' => (hv o' (by rw [hsplit]; simp [ho'])).1) h3 hw
        obtain ⟨e1, _⟩ := bval_blk hw0 hov.1 hb
        have hr9 : r9 = b := by rw [b4 w hw, e1]
        cases hqr : Q9 rest with
        | none => rw [hqr] at ht; cases ht
        | some tr =>
          rw [hqr] at ht
          injection ht with ht
          have := d3 tr hqr
          rw [this, ← ht, hr9, Int.add_assoc]
    · rw [if_neg hk7]
      obtain ⟨hsr, hko, hQ⟩ := Q9_op hs hk7
      have hNr := hmax_rest [o] seg
      have hNr : hmax seg 0 0 ≤ hmax (o :: seg) 0 0 := hNr
      obtain ⟨x, hx⟩ := ref07_Asks hko
      rw [hx]
      simp only [Option.bind_some, cond_true]
      rw [wrap64 (n := n + 1) (by omega), wrap64 (n := (pre.length : Int) + 1) (by omega)]
      by_cases c1 : 65536 < n + 1
      · rw [if_pos c1]
        refine ⟨.inl (), rfl, .inl rfl, fun t ht => ?_⟩
        rw [hQ] at ht
        cases hqr : Q9 seg with
        | none => rw [hqr] at ht; cases ht
        | some tr =>
          rw [hqr] at ht
          injection ht with ht
          have ht : 1 + tr = t := ht
          have := Q9_nn (l := seg) (fun o' ho' => (hv o' (by rw [hsplit]; simp [ho'])).1) hsr hqr
          rw [if_pos (by omega)]
      · rw [if_neg c1]
        simp only [Option.bind_some, caseS]
        have hp : (pre ++ [o]).length = pre.length + 1 := by simp
        obtain ⟨c, d1, d2, d3⟩ := within_loop hl hv hm h hg hi k (pre ++ [o]) seg B (n + 1) fu (by rw [hsplit]; simp) (by omega) (by omega) (by omega) hsr (by rw [hp]; omega) (by omega)
        rw [hp] at d1
        refine ⟨c, d1, d2, fun t ht => ?_⟩
        rw [hQ] at ht
        cases hqr : Q9 seg with
        | none => rw [hqr] at ht; cases ht
        | some tr =>
          rw [hqr] at ht
          injection ht with ht
          rw [d3 tr hqr, ← ht, Int.add_assoc]
theorem wok (hl : l.length ≤ 100000) (hv : ∀ o ∈ l, 0 ≤ o.2.2.2.2 ∧ o.2.2.2.2 ≤ 18446744073709551615) (hm : MOK l m) : ∀ N, WOK l m N
  | 0 => fun _ _ _ _ _ _ h => absurd h (Nat.not_lt_zero _)
  | N + 1 => fun f hf A seg B hs0 hN hs => by
    obtain ⟨g, rfl⟩ : ∃ g, f = g + 1 := ⟨f - 1, by omega⟩
    show ∃ r, B_ref09_within ((D_rec_ref09_within g).1) ((D_rec_ref09_within g).2) l m _ _ = some r ∧ _
    unfold B_ref09_within
    have hsl : seg.length ≤ 100000 := by
      have := congrArg List.length hs0
      simp at this
      omega
    obtain ⟨c, h1, h2, h3⟩ := within_loop hl hv hm (wok hl hv hm N) (g := g) (by omega) (A.length + seg.length) _ A seg B 0 BIG hs0 (Nat.le_refl _) (by omega) (by unfold BIG; omega) hs rfl (by omega)
    rw [h1]
    simp only [Option.bind_some]
    rcases h2 with rfl | ⟨r, rfl, h4, h5⟩
    · refine ⟨65537, rfl, by omega, by omega, fun t ht => ?_⟩
      have := h3 t ht
      rw [Int.zero_add] at this
      unfold sat9
      split at this
      · rename_i c; rw [if_pos c]
      · cases this
    · refine ⟨r, rfl, h4, by omega, fun t ht => ?_⟩
      have := h3 t ht
      rw [Int.zero_add] at this
      unfold sat9
      split at this
      · cases this
      · rename_i c
        injection this with this
        rw [if_neg c, this]
end
end Go.V
