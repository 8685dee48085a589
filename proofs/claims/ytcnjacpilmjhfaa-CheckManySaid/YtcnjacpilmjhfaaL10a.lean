/- A part of the proofs of this seat: what functions of the program answer on the abstract machine. -/
import Derived.Test.YtcnjacpilmjhfaaD10
import Derived.Test.YtcnjacpilmjhfaaV25
import Derived.KernelRfl
namespace Go.V
set_option linter.unusedVariables false
set_option linter.unusedSimpArgs false
open Go.Ab
set_option linter.unusedVariables false
set_option linter.unusedSimpArgs false
abbrev Op5 := Int × Int × Int × Int × Int
def scan : List Op5 → Nat → Option Nat
  | [], d => some d
  | o :: r, d => if o.1 < 0 ∨ 7 < o.1 then none else if o.1 = 0 then (if d = 0 then none else scan r (d - 1)) else if o.1 = 7 then scan r (d + 1) else scan r d
theorem scan_app : ∀ (l r : List Op5) (d : Nat), scan (l ++ r) d = (scan l d).bind (scan r)
  | [], r, d => rfl
  | o :: l, r, d => by
    simp only [List.cons_append, scan]
    split
    · rfl
    split
    · split
      · rfl
      · exact scan_app l r _
    split
    · exact scan_app l r _
    · exact scan_app l r _
theorem scan_up : ∀ (l : List Op5) (d d' : Nat), scan l d = some d' → scan l (d + 1) = some (d' + 1)
  | [], d, d', h => by
    injection h with h
    subst h; rfl
  | o :: l, d, d', h => by
    simp only [scan] at h ⊢
    split at h
    · cases h
    rename_i c
    rw [if_neg c]
    split at h
    · rename_i c2
      rw [if_pos c2]
      split at h
      · cases h
      · rename_i c3
        rw [if_neg (by omega)]
        have := scan_up l _ _ h
        rwa [show d - 1 + 1 = d + 1 - 1 by omega] at this
    rename_i c2
    rw [if_neg c2]
    split at h
    · rename_i c3
      rw [if_pos c3]
      exact scan_up l _ _ h
    · rename_i c3
      rw [if_neg c3]
      exact scan_up l _ _ h
def MInv (l : List Op5) (s : Int × Bool × (List Int) × (List Int) × List Int) : Prop :=
  ∃ (i : Nat) (out st : List Int), i ≤ l.length ∧ s = ((i : Int), true, out, st, st) ∧ out.length = l.length ∧ (∀ x ∈ st, 0 ≤ x ∧ x < l.length) ∧ st.length ≤ i ∧ scan (l.drop i) st.length = scan l 0
theorem st_last {st : List Int} (h : st ≠ []) : ∃ pre x, st = pre ++ [x] := ⟨st.dropLast, st.getLast h, (List.dropLast_concat_getLast h).symm⟩
theorem match_step {l : List Op5} (hl : l.length ≤ 100000) (s : Int × Bool × (List Int) × (List Int) × List Int) (h : MInv l s) :
    (∃ b, D_nest_Match_L0 l s = some (.inl b) ∧ MInv l b ∧ l.length - b.1.toNat < l.length - s.1.toNat) ∨ ∃ c, D_nest_Match_L0 l s = some (.inr c) ∧ ((c.1 = false ∧ scan l 0 = none) ∨ (c.1 = true ∧ scan l 0 = some c.2.2.1.length)) := by
  obtain ⟨i, out, st, hi, rfl, ho, hst, hsl, hsc⟩ := h
  by_cases c : i < l.length
  · have hdrop : l.drop i = l[i] :: l.drop (i + 1) := (List.getElem_cons_drop c).symm
    rw [hdrop] at hsc
    simp only [D_nest_Match_L0]
    rw [decide_eq_true (show (i : Int) < (l.length : Int) by omega), cond_true, rd_get c]
    simp only [Option.bind_some]
    generalize hx : l[i] = x at *
    simp only [scan] at hsc
    by_cases k0 : x.1 < 0
    · rw [if_pos (.inl k0)] at hsc
      rw [decide_eq_true k0]
      simp only [cond_true, Option.bind_some, caseS_l]
      exact .inr ⟨_, rfl, .inl ⟨rfl, hsc.symm⟩⟩
    rw [decide_eq_false k0, cond_false]
    by_cases k7 : 7 < x.1
    · rw [if_pos (.inr k7)] at hsc
      rw [decide_eq_true k7]
      simp only [cond_true, Option.bind_some, caseS_r, caseS_l]
      exact .inr ⟨_, rfl, .inl ⟨rfl, hsc.symm⟩⟩
    rw [decide_eq_false k7, cond_false]
    rw [if_neg (by omega)] at hsc
    by_cases kz : x.1 = 0
    · rw [if_pos kz] at hsc
      rw [decide_eq_true kz]
      simp only [cond_true, Option.bind_some, caseS_r]
      by_cases hs0 : st.length = 0
      · rw [if_pos hs0] at hsc
        rw [decide_eq_true (show (st.length : Int) = 0 by omega)]
        simp only [cond_true, Option.bind_some, caseS_l]
        exact .inr ⟨_, rfl, .inl ⟨rfl, hsc.symm⟩⟩
      · rw [if_neg hs0] at hsc
        rw [decide_eq_false (show ¬(st.length : Int) = 0 by omega), cond_false]
        rw [wrap64 (n := (st.length : Int) - 1) (by omega), cutG_in (by omega), gd_true]
        simp only [Option.bind_some, caseS_r]
        obtain ⟨pre, q, rfl⟩ := st_last (st := st) (by intro e; subst e; exact hs0 rfl)
        have hq := hst q (by simp)
        have hlen : (pre ++ [q]).length = pre.length + 1 := by simp
        have ht : (((pre ++ [q]).length : Int) - 1).toNat - 0 = pre.length := by rw [hlen]; omega
        have e7 : decide (x.1 = 7) = false := decide_eq_false (by omega)
        rw [ix_in (show i < out.length by omega)]
        simp only [Option.bind_some]
        rw [List.getElem?_eq_getElem (show i < out.length by omega)]
        simp only [Option.bind_some]
        rw [e7, cond_false, show ((pre ++ [q]).length : Int) - 1 = (pre.length : Int) by rw [hlen]; omega, ix_in (show pre.length < (pre ++ [q]).length by omega)]
        simp only [Option.bind_some]
        rw [List.getElem?_append_right (Nat.le_refl _), Nat.sub_self]
        simp only [List.getElem?_cons_zero, Option.bind_some]
        rw [gd_true, ix_in (show i < (out.set i (-1)).length by simp; omega)]
        simp only [Option.bind_some]
        rw [List.getElem?_eq_getElem (show i < (out.set i (-1)).length by simp; omega)]
        simp only [Option.bind_some]
        obtain ⟨qn, rfl⟩ := Int.eq_ofNat_of_zero_le hq.1
        have hqn : qn < out.length := by omega
        rw [ix_in (show qn < ((out.set i (-1)).set i ((qn : Nat) : Int)).length by simp; omega)]
        simp only [Option.bind_some]
        rw [List.getElem?_eq_getElem (show qn < ((out.set i (-1)).set i ((qn : Nat) : Int)).length by simp; omega)]
        simp only [Option.bind_some]
        have htk : (pre ++ [(qn : Int)]).take ((pre.length : Int).toNat - 0) = pre := by
          rw [show (pre.length : Int).toNat - 0 = pre.length by omega, List.take_left']
          rfl
        rw [htk, wrap64 (n := (i : Int) + 1) (by omega)]
        refine .inl ⟨_, rfl, ⟨i + 1, _, pre, c, rfl, by simp [ho], fun y hy => hst y (by simp [hy]), by rw [hlen] at hsl; omega, ?_⟩, by simp; omega⟩
        rw [hlen] at hsc
        exact hsc
    · rw [if_neg kz] at hsc
      have ez : decide (x.1 = 0) = false := decide_eq_false kz
      rw [ez]
      simp only [cond_false, Option.bind_some, caseS_r]
      rw [ix_in (show i < out.length by omega)]
      simp only [Option.bind_some]
      rw [List.getElem?_eq_getElem (show i < out.length by omega)]
      simp only [Option.bind_some]
      by_cases k7 : x.1 = 7
      · rw [if_pos k7] at hsc
        rw [decide_eq_true k7]
        simp only [cond_true]
        rw [gd_fits (by omega) (by omega), gd_fits (by omega) (by omega), wrap64 (n := (i : Int) + 1) (by omega)]
        refine .inl ⟨_, rfl, ⟨i + 1, _, st ++ [(i : Int)], c, rfl, by simp [ho], fun y hy => ?_, by simp; omega, ?_⟩, by simp; omega⟩
        · rcases List.mem_append.1 hy with hy | hy
          · exact hst y hy
          · simp at hy
            subst hy
            omega
        · rw [List.length_append]
          exact hsc
      · rw [if_neg k7] at hsc
        rw [decide_eq_false k7]
        simp only [cond_false]
        rw [wrap64 (n := (i : Int) + 1) (by omega)]
        exact .inl ⟨_, rfl, ⟨i + 1, _, st, c, rfl, by simp [ho], hst, by omega, hsc⟩, by simp; omega⟩
  · have hi' : i = l.length := by omega
    subst hi'
    rw [List.drop_length] at hsc
    simp only [D_nest_Match_L0]
    rw [decide_eq_false (show ¬(l.length : Int) < (l.length : Int) by omega), cond_false]
    exact .inr ⟨_, rfl, .inr ⟨rfl, hsc.symm⟩⟩
theorem nest_Match {l : List Op5} (hl : l.length ≤ 100000) : ∃ m, D_nest_Match l = some (if scan l 0 = some 0 then 0 else 6, m) := by
  unfold D_nest_Match
  rw [decide_eq_true (show (0 : Int) ≤ (l.length : Int) by omega), decide_eq_true (show (l.length : Int) ≤ (l.length : Int) by omega), decide_eq_true (show 8 * (l.length : Int) ≤ 140737488355328 by omega)]
  show ∃ m, gd true _ = _
  rw [gd_true]
  obtain ⟨c, hc, h⟩ := loop_inv (f := D_nest_Match_L0 l) (a := ((0 : Int), true, List.replicate ((l.length : Int)).toNat (0 : Int), ([] : List Int), ([] : List Int))) (MInv l) (fun s => l.length - s.1.toNat) (fun c => (c.1 = false ∧ scan l 0 = none) ∨ (c.1 = true ∧ scan l 0 = some c.2.2.1.length))
    ⟨0, _, [], Nat.zero_le _, rfl, by simp, (fun x hx => by cases hx), Nat.le_refl _, rfl⟩ (by simp; omega) (fun s hs => match_step hl s hs)
  rw [hc]
  simp only [Option.bind_some]
  rcases h with ⟨h1, h2⟩ | ⟨h1, h2⟩
  · rw [h1, h2]
    exact ⟨_, rfl⟩
  · rw [h1, h2, cond_true]
    by_cases c0 : c.2.2.1.length = 0
    · rw [decide_eq_true (show (c.2.2.1.length : Int) = 0 by omega), if_pos (by rw [c0])]
      exact ⟨_, rfl⟩
    · rw [decide_eq_false (show ¬(c.2.2.1.length : Int) = 0 by omega), if_neg (by intro e; injection e with e; exact c0 e)]
      exact ⟨_, rfl⟩
def blk9 (w v : Int) : Option Int := if w = 0 then some 0 else if 65536 < w then none else if 65536 / w < v then none else some (w * v)
def runS : List Op5 → List (Int × Int) → Option (List (Int × Int))
  | [], st => some st
  | o :: r, (v, w) :: st => if o.1 = 7 then runS r ((o.2.2.2.2, 0) :: (v, w) :: st) else if o.1 = 0 then (match blk9 w v, st with
      | some n, (v', w') :: st' => runS r ((v', w' + n) :: st')
      | _, _ => none)
    else runS r ((v, w + 1) :: st)
  | _ :: _, [] => none
theorem size_block {w v : Int} (hw : 0 ≤ w ∧ w ≤ 10000000000) (hv : 0 ≤ v ∧ v ≤ 18446744073709551615) : D_size_block w v = some (match blk9 w v with
    | some n => (n, true)
    | none => (0, false)) := by
  unfold D_size_block blk9
  simp only [cond_dec]
  by_cases c1 : w = 0
  · rw [if_pos c1, if_pos c1]
  rw [if_neg c1, if_neg c1]
  by_cases c2 : 65536 < w
  · rw [if_pos c2, if_pos c2]
  rw [if_neg c2, if_neg c2, decide_eq_true (show w ≠ 0 from c1), gd_true, tdiv_nn (by omega)]
  have h1 : 0 ≤ 65536 / w := Int.ediv_nonneg (by omega) (by omega)
  have h2 : 65536 / w ≤ 65536 := Int.ediv_le_self _ (by omega)
  rw [wrap64 (n := 65536 / w) (by omega), wrapU_in (by omega)]
  by_cases c3 : 65536 / w < v
  · rw [if_pos c3, if_pos c3]
  · rw [if_neg c3, if_neg c3]
    have h3 : w * v ≤ 65536 := by
      have h4 : v ≤ 65536 / w := by omega
      have h5 := Int.mul_le_mul_of_nonneg_left h4 (show 0 ≤ w by omega)
      have h6 := Int.mul_ediv_self_le (x := 65536) (k := w) (by omega)
      omega
    have h7 := Int.mul_nonneg (show 0 ≤ w by omega) hv.1
    rw [wrap64 (n := v) (by omega), wrap64 (n := w * v) (by omega)]
theorem blk9_in {w v n : Int} (hw : 0 ≤ w) (hv : 0 ≤ v) (h : blk9 w v = some n) : 0 ≤ n ∧ n ≤ 65536 := by
  unfold blk9 at h
  split at h
  · injection h with h; subst h; omega
  split at h
  · cases h
  split at h
  · cases h
  rename_i c1 c2 c3
  injection h with h
  subst h
  have h4 : v ≤ 65536 / w := by omega
  have h5 := Int.mul_le_mul_of_nonneg_left h4 (show 0 ≤ w by omega)
  have h6 := Int.mul_ediv_self_le (x := 65536) (k := w) (by omega)
  exact ⟨Int.mul_nonneg hw hv, by omega⟩
theorem opcode_Writes {k : Int} (h : 0 < k ∧ k < 7) (d a b v : Int) : D_opcode_Writes k d a b v = some (d, true) := by
  unfold D_opcode_Writes D_opcode_of
  simp only [cond_dec]
  have : k = 1 ∨ k = 2 ∨ k = 3 ∨ k = 4 ∨ k = 5 ∨ k = 6 := by omega
  rcases this with rfl | rfl | rfl | rfl | rfl | rfl <;> rfl
theorem size_add (a b : Int) (ha : 0 ≤ a ∧ a ≤ 1000000000000) (hb : 0 ≤ b ∧ b ≤ 65536) : D_size_add [a, b] = some (a + b) := by
  unfold D_size_add
  have hl : loopN (D_size_add_L0 [a, b]) BIG (0, 0) = some (a + b) := by
    have h := loop_nat (f := D_size_add_L0 [a, b]) (n := 2) (fun i => match i with | 0 => 0 | 1 => a | _ => a + b) (c := a + b) (by omega) ?_ ?_
    · exact h
    · intro i hi
      match i, hi with
      | 0, _ =>
        show some (Sum.inl (IntKind.i64.wrap 1, IntKind.i64.wrap (0 + a))) = _
        rw [wrap64 (by omega), wrap64 (by omega), Int.zero_add]
        rfl
      | 1, _ =>
        show some (Sum.inl (IntKind.i64.wrap 2, IntKind.i64.wrap (a + b))) = _
        rw [wrap64 (by omega), wrap64 (by omega)]
        rfl
    · rfl
  rw [hl]
  rfl
def stOf (l : List Op5) (op : List (Int × Int)) : List (Int × Int) := op.reverse.map fun p => ((l.getD p.1.toNat (0, 0, 0, 0, 0)).2.2.2.2, p.2)
theorem stOf_snoc (l : List Op5) (pre : List (Int × Int)) (p : Int × Int) : stOf l (pre ++ [p]) = ((l.getD p.1.toNat (0, 0, 0, 0, 0)).2.2.2.2, p.2) :: stOf l pre := by
  unfold stOf
  rw [List.reverse_append, List.map_append]
  rfl
def ZInv (l : List Op5) (s : Int × (List Int) × (List Int) × List (Int × Int)) : Prop :=
  ∃ (i : Nat) (sz rd : List Int) (op : List (Int × Int)), i ≤ l.length ∧ s = ((i : Int), sz, rd, op) ∧ sz.length = l.length ∧ rd.length = l.length ∧ op ≠ [] ∧ op.length ≤ i + 1 ∧ (∀ p ∈ op, 0 ≤ p.1 ∧ p.1 < max (l.length : Int) 1 ∧ 0 ≤ p.2 ∧ p.2 ≤ 65537 * i) ∧
    scan (l.drop i) (op.length - 1) = some 0 ∧ runS (l.drop i) (stOf l op) = runS l [((l.getD 0 (0, 0, 0, 0, 0)).2.2.2.2, 0)]
theorem getD_at {l : List Op5} {i : Nat} (h : i < l.length) : l.getD i (0, 0, 0, 0, 0) = l[i] := by
  rw [List.getD_eq_getElem?_getD, List.getElem?_eq_getElem h]
  rfl
theorem measure_step {l : List Op5} (hl : l.length ≤ 100000) (hv : ∀ o ∈ l, 0 ≤ o.2.2.2.2 ∧ o.2.2.2.2 ≤ 18446744073709551615) (s : Int × (List Int) × (List Int) × List (Int × Int)) (h : ZInv l s) :
    (∃ b, D_size_measure_L0 l s = some (.inl b) ∧ ZInv l b ∧ l.length - b.1.toNat < l.length - s.1.toNat) ∨
    ∃ c, D_size_measure_L0 l s = some (.inr c) ∧ ((c.1 = 9 ∧ runS l [((l.getD 0 (0, 0, 0, 0, 0)).2.2.2.2, 0)] = none) ∨ (c.1 = 0 ∧ ∃ p : Int × Int, c.2.2.2 = [p] ∧ 0 ≤ p.2 ∧ runS l [((l.getD 0 (0, 0, 0, 0, 0)).2.2.2.2, 0)] = some [((l.getD p.1.toNat (0, 0, 0, 0, 0)).2.2.2.2, p.2)])) := by
  obtain ⟨i, sz, rds, op, hi, rfl, hsz, hrd, hne, hol, hop, hsc, hrun⟩ := h
  obtain ⟨pre, ⟨at', w⟩, rfl⟩ : ∃ pre x, op = pre ++ [x] := ⟨op.dropLast, op.getLast hne, (List.dropLast_concat_getLast hne).symm⟩
  have hlast := hop (at', w) (by simp)
  simp only at hlast
  have hlen : (pre ++ [(at', w)]).length = pre.length + 1 := by simp
  rw [hlen] at hol hsc
  rw [Nat.add_sub_cancel] at hsc
  have hget : (pre ++ [(at', w)])[pre.length]? = some (at', w) := by
    rw [List.getElem?_append_right (Nat.le_refl _), Nat.sub_self]
    rfl
  by_cases c : i < l.length
  · have hdrop : l.drop i = l[i] :: l.drop (i + 1) := (List.getElem_cons_drop c).symm
    have hlv := hv _ (List.getElem_mem c)
    have hDi : l.getD i (0, 0, 0, 0, 0) = l[i] := getD_at c
    rw [hdrop] at hsc hrun
    rw [stOf_snoc] at hrun
    simp only [D_size_measure_L0]
    rw [decide_eq_true (show (i : Int) < (l.length : Int) by omega), cond_true, rd_get c]
    simp only [Option.bind_some]
    generalize hx : l[i] = x at *
    simp only [scan] at hsc
    simp only [runS] at hrun
    have hk : ¬(x.1 < 0 ∨ 7 < x.1) := by
      intro hk
      rw [if_pos hk] at hsc
      cases hsc
    rw [if_neg hk] at hsc
    rw [hlen, wrap64 (n := ((pre.length + 1 : Nat) : Int) - 1) (by omega), show ((pre.length + 1 : Nat) : Int) - 1 = (pre.length : Int) by omega, ix_in (show pre.length < pre.length + 1 by omega)]
    simp only [Option.bind_some]
    by_cases k7 : x.1 = 7
    · rw [if_neg (by omega), if_pos k7] at hsc
      rw [if_pos k7] at hrun
      rw [decide_eq_true k7, cond_true, gd_fits (by omega) (by omega), wrap64 (n := (i : Int) + 1) (by omega)]
      refine .inl ⟨_, rfl, ⟨i + 1, sz, rds, pre ++ [(at', w)] ++ [((i : Int), 0)], c, rfl, hsz, hrd, by simp, by simp; omega, fun p hp => ?_, ?_, ?_⟩, by simp; omega⟩
      · rcases List.mem_append.1 hp with hp | hp
        · have := hop p hp
          omega
        · simp at hp
          subst hp
          simp only
          omega
      · rw [List.length_append, hlen]
        exact hsc
      · rw [stOf_snoc, stOf_snoc]
        simp only [Int.toNat_natCast]
        rw [hDi]
        exact hrun
    · rw [if_neg k7] at hrun
      rw [decide_eq_false k7, cond_false]
      by_cases kz : x.1 = 0
      · rw [if_pos kz] at hsc hrun
        rw [decide_eq_true kz, cond_true]
        have hp0 : pre.length ≠ 0 := by
          intro e
          rw [if_pos e] at hsc
          cases hsc
        rw [if_neg hp0] at hsc
        obtain ⟨pre2, ⟨at2, w2⟩, rfl⟩ : ∃ pre2 x, pre = pre2 ++ [x] := by
          have hne2 : pre ≠ [] := by intro e; subst e; exact hp0 rfl
          exact ⟨pre.dropLast, pre.getLast hne2, (List.dropLast_concat_getLast hne2).symm⟩
        have hl2 : (pre2 ++ [(at2, w2)]).length = pre2.length + 1 := by simp
        have hlast2 := hop (at2, w2) (by simp)
        simp only at hlast2
        obtain ⟨an, rfl⟩ := Int.eq_ofNat_of_zero_le hlast.1
        have han : an < l.length := by omega
        rw [hget]
        simp only [Option.bind_some]
        rw [rd_get han]
        simp only [Option.bind_some]
        have hvv := hv _ (List.getElem_mem han)
        rw [size_block ⟨hlast.2.2.1, by omega⟩ hvv]
        simp only [Option.bind_some]
        rw [stOf_snoc] at hrun
        simp only [Int.toNat_natCast] at hrun
        rw [getD_at han] at hrun
        cases hb : blk9 w l[an].2.2.2.2 with
        | none =>
          rw [hb] at hrun
          simp only [Bool.not_false, cond_true]
          exact .inr ⟨_, rfl, .inl ⟨rfl, hrun.symm⟩⟩
        | some n =>
          rw [hb] at hrun
          have hn := blk9_in hlast.2.2.1 hvv.1 hb
          simp only [Bool.not_true, cond_false]
          rw [ix_in (show an < sz.length by omega)]
          simp only [Option.bind_some]
          rw [List.getElem?_eq_getElem (show an < sz.length by omega)]
          simp only [Option.bind_some]
          rw [ix_in (show an < rds.length by omega)]
          simp only [Option.bind_some]
          rw [List.getElem?_eq_getElem (show an < rds.length by omega)]
          simp only [Option.bind_some]
          rw [cutG_in (by omega), gd_true]
          have e1 : ((pre2 ++ [(at2, w2)]).length : Int).toNat - 0 = pre2.length + 1 := by rw [hl2]; omega
          rw [e1, wrap64 (n := ((pre2.length + 1 : Nat) : Int) - 1) (by omega), show ((pre2.length + 1 : Nat) : Int) - 1 = (pre2.length : Int) by omega, ix_in (show pre2.length < pre2.length + 1 by omega)]
          simp only [Option.bind_some, Nat.zero_add]
          have hg2 : (pre2 ++ [(at2, w2)] ++ [((an : Int), w)])[pre2.length]? = some (at2, w2) := by
            rw [List.append_assoc, List.getElem?_append_right (Nat.le_refl _), Nat.sub_self]
            rfl
          rw [hg2]
          simp only [Option.bind_some]
          rw [size_add _ _ (by omega) hn]
          simp only [Option.bind_some]
          have htk : ((pre2 ++ [(at2, w2)] ++ [((an : Int), w)]).set pre2.length (at2, w2 + n)).take (pre2.length + 1) = pre2 ++ [(at2, w2 + n)] := by
            rw [List.append_assoc, List.set_append_right _ _ (Nat.le_refl _), Nat.sub_self]
            show (pre2 ++ [(at2, w2 + n), ((an : Int), w)]).take (pre2.length + 1) = _
            rw [show [(at2, w2 + n), ((an : Int), w)] = [(at2, w2 + n)] ++ [((an : Int), w)] from rfl, ← List.append_assoc, List.take_left']
            simp
          rw [htk, wrap64 (n := (i : Int) + 1) (by omega)]
          refine .inl ⟨_, rfl, ⟨i + 1, _, _, pre2 ++ [(at2, w2 + n)], c, rfl, by simp [hsz], by simp [hrd], by simp, by simp; omega, fun p hp => ?_, ?_, ?_⟩, by simp; omega⟩
          · rcases List.mem_append.1 hp with hp | hp
            · have := hop p (by simp [hp])
              omega
            · simp at hp
              subst hp
              simp only
              omega
          · rw [hl2] at hsc
            rw [List.length_append]
            exact hsc
          · rw [stOf_snoc]
            exact hrun
      · rw [if_neg kz] at hsc hrun
        rw [if_neg k7] at hsc
        rw [decide_eq_false kz, cond_false, opcode_Writes (by omega)]
        simp only [Option.bind_some, cond_true]
        rw [ix_in (show i < sz.length by omega)]
        simp only [Option.bind_some]
        rw [List.getElem?_eq_getElem (show i < sz.length by omega)]
        simp only [Option.bind_some]
        rw [hget]
        simp only [Option.bind_some]
        rw [wrap64 (n := w + 1) (by omega), wrap64 (n := (i : Int) + 1) (by omega)]
        have hset : (pre ++ [(at', w)]).set pre.length (at', w + 1) = pre ++ [(at', w + 1)] := by
          rw [List.set_append_right _ _ (Nat.le_refl _), Nat.sub_self]
          rfl
        rw [hset]
        refine .inl ⟨_, rfl, ⟨i + 1, _, rds, pre ++ [(at', w + 1)], c, rfl, by simp [hsz], hrd, by simp, by simp; omega, fun p hp => ?_, ?_, ?_⟩, by simp; omega⟩
        · rcases List.mem_append.1 hp with hp | hp
          · have := hop p (by simp [hp])
            omega
          · simp at hp
            subst hp
            simp only
            omega
        · rw [List.length_append]
          exact hsc
        · rw [stOf_snoc]
          exact hrun
  · have hi' : i = l.length := by omega
    subst hi'
    rw [List.drop_length] at hsc hrun
    simp only [D_size_measure_L0]
    rw [decide_eq_false (show ¬(l.length : Int) < (l.length : Int) by omega), cond_false]
    have hp : pre = [] := by
      have hsc : some pre.length = some 0 := hsc
      injection hsc with hsc
      exact List.length_eq_zero_iff.1 hsc
    subst hp
    refine .inr ⟨_, rfl, .inr ⟨rfl, (at', w), rfl, hlast.2.2.1, ?_⟩⟩
    rw [← hrun]
    rfl
def Q9 (l : List Op5) : Option Int := (runS l [((l.getD 0 (0, 0, 0, 0, 0)).2.2.2.2, 0)]).bind fun st => match st with
  | [p] => some p.2
  | _ => none
def writes9 (l : List Op5) : Int × Int := if scan l 0 = some 0 then (match Q9 l with
  | some w => if 65536 < w then (0, 9) else (w, 0)
  | none => (0, 9)) else (0, 6)
theorem size_Writes {l : List Op5} (hl : l.length ≤ 100000) (hv : ∀ o ∈ l, 0 ≤ o.2.2.2.2 ∧ o.2.2.2.2 ≤ 18446744073709551615) : D_size_Writes l = some (writes9 l) := by
  unfold D_size_Writes D_size_measure
  obtain ⟨m, hm⟩ := nest_Match hl
  rw [hm]
  unfold writes9
  by_cases hs : scan l 0 = some 0
  · simp only [if_pos hs]
    simp only [Option.bind_some]
    rw [decide_eq_false (by simp), cond_false]
    rw [decide_eq_true (show (0 : Int) ≤ (l.length : Int) by omega), decide_eq_true (show (l.length : Int) ≤ (l.length : Int) by omega), decide_eq_true (show 8 * (l.length : Int) ≤ 140737488355328 by omega)]
    have hgd : ∀ {β : Type} {y : Option β}, gd (Nat.beq 1 (Sh.w (.int .i64)) && true && true && true && Nat.ble 1 8) y = y := fun {β y} => rfl
    rw [hgd, hgd]
    obtain ⟨c, hc, h⟩ := loop_inv (f := D_size_measure_L0 l) (a := ((0 : Int), List.replicate ((l.length : Int)).toNat (0 : Int), List.replicate ((l.length : Int)).toNat (0 : Int), [((0 : Int), (0 : Int))])) (ZInv l) (fun s => l.length - s.1.toNat) _
      ⟨0, _, _, [(0, 0)], Nat.zero_le _, rfl, by simp, by simp, by simp, by simp, (fun p hp => by simp at hp; subst hp; simp only; omega), hs, rfl⟩ (by simp; omega) (fun s h => measure_step hl hv s h)
    rw [hc]
    simp only [Option.bind_some]
    unfold Q9
    rcases h with ⟨h1, h2⟩ | ⟨h1, p, h3, h4, h5⟩
    · rw [h1, h2]
      rfl
    · rw [h1, h5, h3]
      show ((((cond (decide (65536 < p.2)) (some (9 : Int)) (some 0)).bind fun s36 => cond (decide (s36 ≠ 0)) (some ((0 : Int), s36, ([] : List Int), ([] : List Int))) (some (p.2, 0, c.2.1, c.2.2.1))).bind fun r1 => some (r1.1, r1.2.1))) = some (if 65536 < p.2 then (0, 9) else (p.2, 0))
      rw [cond_dec]
      by_cases c6 : 65536 < p.2
      · rw [if_pos c6, if_pos c6]
        rfl
      · rw [if_neg c6, if_neg c6]
        rfl
  · simp only [if_neg hs]
    rfl
end Go.V
