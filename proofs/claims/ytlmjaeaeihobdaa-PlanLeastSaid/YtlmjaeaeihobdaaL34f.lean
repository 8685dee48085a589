/- The statements about plans, in plain Lean. -/
import Derived.Test.YtlmjaeaeihobdaaL34e
namespace Go.V
set_option linter.unusedVariables false
set_option linter.unusedSimpArgs false
open Go.Ab
set_option linter.unusedVariables false
set_option linter.unusedSimpArgs false
theorem goes34 : D_law34_goes = some true := by kernel_rfl
theorem ints_same {a : List Int} (ha : a.length < 1000000) : D_ref07_Ints a a = some true := by
  have h : loopN (D_ref07_Ints_L0 a a) BIG 0 = some (.inr ()) := by
    refine loop_nat0 (n := a.length) (by omega) (fun i hi => ?_) ?_
    · unfold D_ref07_Ints_L0
      rw [cond_dec, if_pos (by omega), rd_get hi]
      simp only [Option.bind_some, cond_dec]
      rw [if_neg (fun h => h rfl), wrap64 (n := (i : Int) + 1) (by omega)]
      rfl
    · unfold D_ref07_Ints_L0
      rw [cond_dec, if_neg (by omega)]
  unfold D_ref07_Ints
  rw [cond_dec, if_neg (fun h => h rfl), h]
  rfl
section
variable {a0 : Int} {a1 a2 : List Int} {a3 : Int} {a4 : List Op5} {a5 : Int} {a6 : List Op5} {a7 a8 : Int}
theorem small_says : ∃ b, D_law33_Small a0 a1 a2 a3 a4 a5 a6 a7 a8 100 = some b ∧ (b = true → a4.length ≤ 100 ∧ a6.length ≤ 100) := by
  unfold D_law33_Small
  simp only [cond_dec]
  by_cases c1 : (a4.length : Int) ≤ 100
  · rw [if_pos c1]
    by_cases c2 : (a6.length : Int) ≤ 100
    · rw [if_pos c2]
      have : a4.length ≤ 100 ∧ a6.length ≤ 100 := by omega
      split
      · exact ⟨_, rfl, fun _ => this⟩
      · exact ⟨_, rfl, fun _ => this⟩
    · rw [if_neg c2]
      exact ⟨_, rfl, fun h => by cases h⟩
  · rw [if_neg c1]
    exact ⟨_, rfl, fun h => by cases h⟩
end
abbrev wordsS : Sh := .list (.int .u64)
section
variable (a0 : Int) (a1 a2 : List Int) (a3 : Int) (a4 : List Op5) (a5 : Int) (a6 : List Op5) (a7 a8 a9 : Int)
theorem law34_makes (f0 : Fine (.int .i64) a0) (f1 : Fine wordsS a1) (f2 : Fine wordsS a2) (f3 : Fine (.int .i64) a3) (f4 : Fine opsS a4) (f5 : Fine (.int .i64) a5) (f6 : Fine opsS a6) (f7 : Fine (.int .i64) a7) (f8 : Fine (.int .i64) a8) : D_law34_PlanMakes a0 a1 a2 a3 a4 a5 a6 a7 a8 = some true := by
  unfold D_law34_PlanMakes
  obtain ⟨b, hb, hs⟩ := small_says (a0 := a0) (a1 := a1) (a2 := a2) (a3 := a3) (a4 := a4) (a5 := a5) (a6 := a6) (a7 := a7) (a8 := a8)
  rw [hb, goes34]
  cases b with
  | false => rfl
  | true =>
    obtain ⟨h4, h6⟩ := hs rfl
    have h4 := ops_ok f4 h4
    have h6 := ops_ok f6 h6
    obtain ⟨r, r1, r2, r3⟩ := places_eq (a0 := a0) (a1 := a1) (a2 := a2) (a3 := a3) (a5 := a5) (a7 := a7) (a8 := a8) h4 h6
    simp only [Option.bind_some, Bool.not_true, cond_false]
    rw [plan_Make h4 h6, ref34_Make h4 h6, r1, r2, plan_Of h4 h6, ref34_Of h4 h6]
    simp only [Option.bind_some]
    rw [ints_same (by omega)]
    by_cases c : 20000 < a8
    · by_cases c' : a8 ≤ 1048576
      · simp [c, c']
      · simp [c, c']
    · simp [c]
theorem law34_needs (f0 : Fine (.int .i64) a0) (f1 : Fine wordsS a1) (f2 : Fine wordsS a2) (f3 : Fine (.int .i64) a3) (f4 : Fine opsS a4) (f5 : Fine (.int .i64) a5) (f6 : Fine opsS a6) (f7 : Fine (.int .i64) a7) (f8 : Fine (.int .i64) a8) (f9 : Fine (.int .i64) a9) : D_law34_PlanNeeds a0 a1 a2 a3 a4 a5 a6 a7 a8 a9 = some true := by
  unfold D_law34_PlanNeeds
  obtain ⟨b, hb, hs⟩ := small_says (a0 := a0) (a1 := a1) (a2 := a2) (a3 := a3) (a4 := a4) (a5 := a5) (a6 := a6) (a7 := a7) (a8 := a8)
  rw [hb, goes34]
  cases b with
  | false => rfl
  | true =>
    obtain ⟨h4, h6⟩ := hs rfl
    have h4 := ops_ok f4 h4
    have h6 := ops_ok f6 h6
    simp only [Option.bind_some, Bool.not_true, cond_false]
    rw [plan_Need_eq h4 h6, ref34_Need_eq h4 h6]
    simp
theorem hchk_bud {b b' : Int} (h : hchk a0 a1.length a2.length a3 a4 a5 a6 a7 b = 0) : hchk a0 a1.length a2.length a3 a4 a5 a6 a7 b' = hk4 b' := by
  unfold hchk at h ⊢
  split at h
  · rename_i c; exact (c h).elim
  rename_i c0
  rw [if_neg c0]
  split at h
  · rename_i c; exact (c h).elim
  rename_i c1
  rw [if_neg c1]
  split at h
  · rename_i c; exact (c h).elim
  rename_i c2
  rw [if_neg c2]
  split at h
  · rename_i c; exact (c h).elim
  rename_i c3
  rw [if_neg c3]
theorem law34_most (f0 : Fine (.int .i64) a0) (f1 : Fine wordsS a1) (f2 : Fine wordsS a2) (f3 : Fine (.int .i64) a3) (f4 : Fine opsS a4) (f5 : Fine (.int .i64) a5) (f6 : Fine opsS a6) (f7 : Fine (.int .i64) a7) (f8 : Fine (.int .i64) a8) : D_law34_PlanMost a0 a1 a2 a3 a4 a5 a6 a7 a8 = some true := by
  unfold D_law34_PlanMost
  obtain ⟨b, hb, hs⟩ := small_says (a0 := a0) (a1 := a1) (a2 := a2) (a3 := a3) (a4 := a4) (a5 := a5) (a6 := a6) (a7 := a7) (a8 := a8)
  rw [hb, goes34]
  cases b with
  | false => rfl
  | true =>
    obtain ⟨h4, h6⟩ := hs rfl
    have h4 := ops_ok f4 h4
    have h6 := ops_ok f6 h6
    simp only [Option.bind_some, Bool.not_true, cond_false]
    rw [plan_Make h4 h6]
    simp only [Option.bind_some]
    by_cases hc : hchk a0 a1.length a2.length a3 a4 a5 a6 a7 a8 = 0
    · have s := sfacts h4 h6 hc
      have f := hfacts h4 h6 hc
      have g1 := f.mode; have g2 := f.len; have g3 := f.bud; have g4 := s.xs; have g5 := s.ts; have g6 := s.r; have g7 := s.r'; have g8 := s.tp; have g9 := s.sl
      have hfx : 0 ≤ fixI a1.length a2.length a3 a5 ∧ fixI a1.length a2.length a3 a5 ≤ 1000 := by unfold fixI; omega
      have hP : ∀ b', planF a0 a1.length a2.length a3 a4 a5 a6 a7 b' = if hk4 b' ≠ 0 then (0, 0, 0, 0, hk4 b') else if b' < fixI a1.length a2.length a3 a5 + tapeI a0 a4 a6 + least a0 a7 * slotI a0 a1.length a3 a4 then (0, 0, 0, 0, 13) else (fixI a1.length a2.length a3 a5, tapeI a0 a4 a6, slotI a0 a1.length a3 a4, if a0 = 3 then a7 else (b' - fixI a1.length a2.length a3 a5 - tapeI a0 a4 a6) / slotI a0 a1.length a3 a4, 0) := by
        intro b'
        unfold planF
        rw [hchk_bud a0 a1 a2 a3 a4 a5 a6 a7 hc]
      have hk8 : hk4 a8 = 0 := by unfold hk4; rw [if_neg (by omega), if_neg (by omega)]
      rw [hP, hk8, if_neg (by simp)]
      by_cases c : a8 < fixI a1.length a2.length a3 a5 + tapeI a0 a4 a6 + least a0 a7 * slotI a0 a1.length a3 a4
      · rw [if_pos c]
        rfl
      · rw [if_neg c]
        simp only
        rw [decide_eq_false (by simp), cond_false, plan_Need_eq h4 h6, if_neg (fun k => k hc)]
        simp only [Option.bind_some]
        rw [plan_Make h4 h6, hP]
        generalize fixI a1.length a2.length a3 a5 = fx at *
        generalize tapeI a0 a4 a6 = tp at *
        generalize slotI a0 a1.length a3 a4 = sl at *
        by_cases c3 : a0 = 3
        · simp only [if_pos c3, decide_eq_true c3, cond_true]
          have hl : least a0 a7 = a7 := if_pos c3
          rw [hl] at c
          have hm := mul_in (s := sl) (n := a7) (by omega) (by omega)
          rw [Int.mul_comm] at hm
          rw [if_neg (by omega), if_neg (by omega), decide_eq_false (by simp), cond_false, decide_eq_false (by simpa using c), cond_false, wrap64 (n := fx + tp) (by omega), wrap64 (n := a7 * sl) (by omega), wrap64 (by omega), decide_eq_false (by simp), cond_false]
          simp
        · simp only [if_neg c3, decide_eq_false c3, cond_false]
          have hl : least a0 a7 = 1 := if_neg c3
          rw [hl] at c
          have hd0 := Int.mul_ediv_self_le (x := a8 - fx - tp) (k := sl) (by omega)
          have hd1 := Int.lt_mul_ediv_self_add (x := a8 - fx - tp) (k := sl) (by omega)
          have hd2 : 1 ≤ (a8 - fx - tp) / sl := (Int.le_ediv_iff_mul_le (by omega)).2 (by omega)
          have hd3 : (a8 - fx - tp) / sl ≤ a8 - fx - tp := Int.ediv_le_self _ (by omega)
          have hd4 : (a8 + sl - fx - tp) / sl = (a8 - fx - tp) / sl + 1 := by
            rw [show a8 + sl - fx - tp = (a8 - fx - tp) + 1 * sl by omega, Int.add_mul_ediv_right _ _ (by omega)]
          have hw : IntKind.i64.wrap (a8 + sl) = a8 + sl := wrap64 (by omega)
          rw [hw]
          rw [hd4]
          generalize (a8 - fx - tp) / sl = q at *
          rw [Int.mul_comm] at hd0 hd1
          have hq : 0 ≤ q * sl := Int.mul_nonneg (by omega) (by omega)
          rw [if_neg (by omega), if_neg (by omega), decide_eq_false (by simp), cond_false, decide_eq_false (by simp only; omega), cond_false, wrap64 (n := fx + tp) (by omega), wrap64 (n := q * sl) (by omega), wrap64 (n := fx + tp + q * sl) (by omega), decide_eq_false (by simp), cond_false, decide_eq_false (by omega), cond_false, wrap64 (n := fx + tp + q * sl + sl) (by omega), decide_eq_false (by omega), cond_false]
          by_cases cb : 1048576 < a8 + sl
          · have : hk4 (a8 + sl) = 12 := by unfold hk4; rw [if_neg (by omega), if_pos cb]
            rw [this, if_pos (by simp), decide_eq_true cb]
            rfl
          · have : hk4 (a8 + sl) = 0 := by unfold hk4; rw [if_neg (by omega), if_neg cb]
            rw [this, if_neg (by simp), decide_eq_false cb, if_neg (by rw [hl]; omega), wrap64 (n := q + 1) (by omega)]
            simp
    · have : planF a0 a1.length a2.length a3 a4 a5 a6 a7 a8 = (0, 0, 0, 0, hchk a0 a1.length a2.length a3 a4 a5 a6 a7 a8) := by
        unfold planF
        rw [if_pos hc]
      rw [this]
      simp only
      rw [decide_eq_true hc]
      rfl
theorem law34_least (f0 : Fine (.int .i64) a0) (f1 : Fine wordsS a1) (f2 : Fine wordsS a2) (f3 : Fine (.int .i64) a3) (f4 : Fine opsS a4) (f5 : Fine (.int .i64) a5) (f6 : Fine opsS a6) (f7 : Fine (.int .i64) a7) (f8 : Fine (.int .i64) a8) : D_law34_PlanLeast a0 a1 a2 a3 a4 a5 a6 a7 a8 = some true := by
  unfold D_law34_PlanLeast
  obtain ⟨b, hb, hs⟩ := small_says (a0 := a0) (a1 := a1) (a2 := a2) (a3 := a3) (a4 := a4) (a5 := a5) (a6 := a6) (a7 := a7) (a8 := a8)
  rw [hb, goes34]
  cases b with
  | false => rfl
  | true =>
    obtain ⟨h4, h6⟩ := hs rfl
    have h4 := ops_ok f4 h4
    have h6 := ops_ok f6 h6
    have hl : (cond (decide (a0 = 3)) (some a7) (some (1 : Int))) = some (least a0 a7) := by
      unfold least
      rw [cond_dec]
      split <;> rfl
    simp only [Option.bind_some, Bool.not_true, cond_false]
    rw [hl]
    simp only [Option.bind_some]
    rw [plan_Need_eq h4 h6]
    simp only [Option.bind_some]
    have bad : ∀ {e : Int} {y : Option Bool}, e ≠ 0 → (((cond (decide (e ≠ 0)) (some true) (cond (decide ((0 : Int) < 1)) (some true) (some (decide ((1048576 : Int) < 0))))) : Option Bool).bind fun s13 => cond s13 (some true) y) = some true := by
      intro e y he
      rw [decide_eq_true he]
      rfl
    by_cases hc : hchk a0 a1.length a2.length a3 a4 a5 a6 a7 a8 = 0
    · have s := sfacts h4 h6 hc
      have f := hfacts h4 h6 hc
      have g1 := f.mode; have g2 := f.len; have g3 := f.bud; have g4 := s.xs; have g5 := s.ts; have g6 := s.r; have g7 := s.r'; have g8 := s.tp; have g9 := s.sl
      have hfx : 0 ≤ fixI a1.length a2.length a3 a5 ∧ fixI a1.length a2.length a3 a5 ≤ 1000 := by unfold fixI; omega
      have hln : 0 ≤ least a0 a7 ∧ least a0 a7 ≤ 65535 := by unfold least; split <;> omega
      have hP : ∀ b', planF a0 a1.length a2.length a3 a4 a5 a6 a7 b' = if hk4 b' ≠ 0 then (0, 0, 0, 0, hk4 b') else if b' < fixI a1.length a2.length a3 a5 + tapeI a0 a4 a6 + least a0 a7 * slotI a0 a1.length a3 a4 then (0, 0, 0, 0, 13) else (fixI a1.length a2.length a3 a5, tapeI a0 a4 a6, slotI a0 a1.length a3 a4, if a0 = 3 then a7 else (b' - fixI a1.length a2.length a3 a5 - tapeI a0 a4 a6) / slotI a0 a1.length a3 a4, 0) := by
        intro b'
        unfold planF
        rw [hchk_bud a0 a1 a2 a3 a4 a5 a6 a7 hc]
      rw [if_neg (fun k => k hc), if_neg (by omega), if_neg (by omega), plan_Make h4 h6, plan_Make h4 h6, hP, hP]
      have hm := mul_in (s := slotI a0 a1.length a3 a4) (n := least a0 a7) (by omega) (by omega)
      rw [Int.mul_comm] at hm
      have hlast : 1 ≤ fixI a1.length a2.length a3 a5 := by unfold fixI; omega
      have hq : ∀ n : Int, (if a0 = 3 then a7 else (fixI a1.length a2.length a3 a5 + tapeI a0 a4 a6 + least a0 a7 * slotI a0 a1.length a3 a4 - fixI a1.length a2.length a3 a5 - tapeI a0 a4 a6) / slotI a0 a1.length a3 a4) = least a0 a7 := by
        intro n
        unfold least
        by_cases c3 : a0 = 3
        · rw [if_pos c3, if_pos c3]
        · rw [if_neg c3, if_neg c3, show fixI a1.length a2.length a3 a5 + tapeI a0 a4 a6 + 1 * slotI a0 a1.length a3 a4 - fixI a1.length a2.length a3 a5 - tapeI a0 a4 a6 = slotI a0 a1.length a3 a4 by omega, Int.ediv_self (by omega)]
      rw [hq 0]
      generalize fixI a1.length a2.length a3 a5 = fx at *
      generalize tapeI a0 a4 a6 = tp at *
      generalize slotI a0 a1.length a3 a4 = sl at *
      simp only
      rw [decide_eq_false (show ¬(0 : Int) ≠ 0 by simp), cond_false, decide_eq_false (show ¬(fx + tp + least a0 a7 * sl < 1) by omega), cond_false]
      simp only [Option.bind_some]
      by_cases cb : 1048576 < fx + tp + least a0 a7 * sl
      · rw [decide_eq_true cb]
        rfl
      · rw [decide_eq_false cb, cond_false, wrap64 (n := fx + tp + least a0 a7 * sl - 1) (by omega)]
        have k1 : hk4 (fx + tp + least a0 a7 * sl) = 0 := by unfold hk4; rw [if_neg (by omega), if_neg cb]
        have k2 : hk4 (fx + tp + least a0 a7 * sl - 1) = 0 := by unfold hk4; rw [if_neg (by omega), if_neg (by omega)]
        rw [k1, k2, if_neg (by simp), if_neg (by omega), if_neg (by simp), if_pos (by omega)]
        simp
    · rw [if_pos hc]
      exact bad hc
end
end Go.V
