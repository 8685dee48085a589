/- The statements about programs that may be, in plain Lean. -/
import Derived.Test.YtlmjaeaeihobdaaL34c
namespace Go.V
set_option linter.unusedVariables false
set_option linter.unusedSimpArgs false
open Go.Ab
set_option linter.unusedVariables false
set_option linter.unusedSimpArgs false
theorem goes10 : D_law10_goes = some true := by kernel_rfl
abbrev opsS : Sh := .list (.pair (.int .i64) (.pair (.int .i64) (.pair (.int .i64) (.pair (.int .i64) (.int .u64)))))
theorem ops_ok {l : List Op5} (f : Fine opsS l) (h : l.length ≤ 100) : OpsOk l := ⟨h, fun o ho => (f.2 o ho).2.2.2.2⟩
theorem dims_eq (a0 : Int) (a1 : List Op5) (a2 : Int) (a3 : List Op5) (a4 a5 : Int) : ∃ d, D_check_Dims a0 a1 a2 a3 a4 a5 = some d ∧ D_ref10_Dims a0 a1 a2 a3 a4 a5 = some d := by
  unfold D_check_Dims D_ref10_Dims
  simp only [check_fail, Option.bind_some, cond_dec]
  by_cases c1 : a4 < 1
  · rw [if_pos c1, if_pos c1]
    exact ⟨_, rfl, rfl⟩
  rw [if_neg c1, if_neg c1]
  by_cases c2 : 64 < a4
  · rw [if_pos c2, if_pos c2]
    exact ⟨_, rfl, rfl⟩
  rw [if_neg c2, if_neg c2]
  by_cases c3 : a5 < 0
  · rw [if_pos c3, if_pos c3]
    exact ⟨_, rfl, rfl⟩
  rw [if_neg c3, if_neg c3]
  by_cases c4 : 64 < a5
  · rw [if_pos c4]
    simp only [Option.bind_some]
    rw [cond_dec, if_pos c4]
    exact ⟨_, rfl, rfl⟩
  rw [if_neg c4]
  simp only [Option.bind_some]
  rw [cond_dec, if_neg c4]
  by_cases c5 : a0 < IntKind.i64.wrap (IntKind.i64.wrap (a4 + a5) + 1)
  · rw [if_pos c5, if_pos c5]
    exact ⟨_, rfl, rfl⟩
  rw [if_neg c5, if_neg c5]
  by_cases c6 : a2 < IntKind.i64.wrap (a4 + a5)
  · rw [if_pos c6, decide_eq_true c6]
    exact ⟨_, rfl, rfl⟩
  · rw [if_neg c6, decide_eq_false c6]
    exact ⟨_, rfl, rfl⟩
theorem deepest_eq {R : Int} {l : List Op5} (h : OpsOk l) : ∃ d, D_check_Deepest R l = some d ∧ D_ref10_Deepest R l = some d := by
  unfold D_check_Deepest D_ref10_Deepest
  have := h.len
  rw [check_Program h, ref10_Program h, nest_Deep (by omega), ref08_Deep (by omega)]
  simp only [Option.bind_some, cond_dec]
  split <;> exact ⟨_, rfl, rfl⟩
theorem law10_programs (a0 : Int) (a1 : List Op5) (a2 : Int) (a3 : List Op5) (a4 a5 : Int) (f0 : Fine (.int .i64) a0) (f1 : Fine opsS a1) (f2 : Fine (.int .i64) a2) (f3 : Fine opsS a3) (f4 : Fine (.int .i64) a4) (f5 : Fine (.int .i64) a5) : D_law10_CheckPrograms a0 a1 a2 a3 a4 a5 = some true := by
  unfold D_law10_CheckPrograms
  simp only [cond_dec, goes10, Option.bind_some]
  by_cases c1 : 100 < (a1.length : Int)
  · rw [if_pos c1]
    rfl
  rw [if_neg c1]
  simp only [Option.bind_some]
  rw [cond_dec]
  by_cases c2 : 100 < (a3.length : Int)
  · rw [if_pos c2]
  rw [if_neg c2]
  have h := ops_ok f1 (by omega)
  have h' := ops_ok f3 (by omega)
  obtain ⟨d, hd1, hd2⟩ := dims_eq a0 a1 a2 a3 a4 a5
  obtain ⟨e, he1, he2⟩ := deepest_eq (R := a0) h
  rw [check_Program h, ref10_Program h, check_Pair h h', ref10_Pair h h', hd1, hd2, he1, he2]
  simp only [Option.bind_some, if_pos]
def progI (x0 x1 x2 x3 : Int) : Int := if x0 ≠ 0 then x0 else if x1 ≠ 0 then x1 else if x2 ≠ 0 then x2 else x3
def pairI (x0 x1 x2 x3 y0 y1 y2 y3 : Int) : Int := if x0 ≠ 0 then x0 else if y0 ≠ 0 then y0 else if x1 ≠ 0 then x1 else if y1 ≠ 0 then y1 else if x2 ≠ 0 then x2 else if y2 ≠ 0 then y2 else if x3 ≠ 0 then x3 else y3
theorem pair_facts {x0 x1 x2 x3 y0 y1 y2 y3 : Int} (hx0 : x0 = 0 ∨ x0 = 6) (hx1 : x1 = 0 ∨ x1 = 7) (hx2 : x2 = 0 ∨ x2 = 8) (hx3 : x0 = 0 → x3 = 0 ∨ x3 = 9) (hy0 : y0 = 0 ∨ y0 = 6) (hy1 : y1 = 0 ∨ y1 = 7) (hy2 : y2 = 0 ∨ y2 = 8) (hy3 : y0 = 0 → y3 = 0 ∨ y3 = 9) :
    (pairI x0 x1 x2 x3 y0 y1 y2 y3 = 0 ↔ progI x0 x1 x2 x3 = 0 ∧ progI y0 y1 y2 y3 = 0) ∧ pairI x0 x1 x2 x3 y0 y1 y2 y3 = pairI y0 y1 y2 y3 x0 x1 x2 x3 ∧ (pairI x0 x1 x2 x3 y0 y1 y2 y3 = progI x0 x1 x2 x3 ∨ pairI x0 x1 x2 x3 y0 y1 y2 y3 = progI y0 y1 y2 y3) ∧ pairI x0 x1 x2 x3 x0 x1 x2 x3 = progI x0 x1 x2 x3 := by
  unfold pairI progI
  rcases hx0 with rfl | rfl
  · rcases hy0 with rfl | rfl
    · rcases hx3 rfl with rfl | rfl <;> rcases hy3 rfl with rfl | rfl <;> rcases hx1 with rfl | rfl <;> rcases hy1 with rfl | rfl <;> rcases hx2 with rfl | rfl <;> rcases hy2 with rfl | rfl <;> decide
    · rcases hx3 rfl with rfl | rfl <;> rcases hx1 with rfl | rfl <;> rcases hx2 with rfl | rfl <;> simp
  · rcases hy0 with rfl | rfl <;> simp
theorem lk0_in (l : List Op5) : lk0 l = 0 ∨ lk0 l = 6 := by unfold lk0; split <;> simp
theorem lk1_in (R : Int) (l : List Op5) : lk1 R l = 0 ∨ lk1 R l = 7 := by unfold lk1; split <;> simp
theorem lk2_in (l : List Op5) : lk2 l = 0 ∨ lk2 l = 8 := by unfold lk2; split <;> simp
theorem lk3_in (l : List Op5) (h : lk0 l = 0) : lk3 l = 0 ∨ lk3 l = 9 := by
  have hf : formB l = true := by
    unfold lk0 at h
    split at h
    · assumption
    · cases h
  unfold formB at hf
  rw [Bool.and_eq_true] at hf
  have hs : scan l 0 = some 0 := of_decide_eq_true hf.1
  unfold lk3 writes9
  rw [if_pos hs]
  split
  · split
    · right; rfl
    · left; rfl
  · right; rfl
theorem law10_pairs (a0 : Int) (a1 : List Op5) (a2 : Int) (a3 : List Op5) (f0 : Fine (.int .i64) a0) (f1 : Fine opsS a1) (f2 : Fine (.int .i64) a2) (f3 : Fine opsS a3) : D_law10_CheckPairs a0 a1 a2 a3 = some true := by
  unfold D_law10_CheckPairs
  simp only [cond_dec, goes10, Option.bind_some]
  by_cases c1 : 100 < (a1.length : Int)
  · rw [if_pos c1]
    rfl
  rw [if_neg c1]
  simp only [Option.bind_some]
  rw [cond_dec]
  by_cases c2 : 100 < (a3.length : Int)
  · rw [if_pos c2]
  rw [if_neg c2]
  have h := ops_ok f1 (by omega)
  have h' := ops_ok f3 (by omega)
  rw [check_Program h, check_Program h', check_Pair h h', check_Pair h' h, check_Pair h h]
  obtain ⟨p1, p2, p3, p4⟩ := pair_facts (lk0_in a1) (lk1_in a0 a1) (lk2_in a1) (lk3_in a1) (lk0_in a3) (lk1_in a2 a3) (lk2_in a3) (lk3_in a3)
  have p1 : pair10 a0 a1 a2 a3 = 0 ↔ prog10 a0 a1 = 0 ∧ prog10 a2 a3 = 0 := p1
  have p2 : pair10 a0 a1 a2 a3 = pair10 a2 a3 a0 a1 := p2
  have p3 : pair10 a0 a1 a2 a3 = prog10 a0 a1 ∨ pair10 a0 a1 a2 a3 = prog10 a2 a3 := p3
  have p4 : pair10 a0 a1 a0 a1 = prog10 a0 a1 := p4
  simp only [Option.bind_some]
  rw [← p2, p4]
  generalize pair10 a0 a1 a2 a3 = c at *
  generalize prog10 a0 a1 = a at *
  generalize prog10 a2 a3 = b at *
  by_cases ha : a = 0
  · rw [if_pos ha]
    have : decide (c = 0) = decide (b = 0) := by
      rw [decide_eq_decide, p1]
      exact ⟨fun x => x.2, fun x => ⟨ha, x⟩⟩
    rw [this]
    simp only [beq_self_eq_true, Bool.not_true, cond_false, ne_eq, not_true_eq_false, if_false, Option.bind_some, caseS, if_true]
    split
    · rfl
    split
    · rfl
    · rename_i k1 k2
      rw [if_pos (by rcases p3 with p3 | p3; exact (k2 p3).elim; exact p3)]
  · rw [if_neg ha]
    have hc : c ≠ 0 := fun e => ha (p1.1 e).1
    rw [decide_eq_false hc]
    simp only [beq_self_eq_true, Bool.not_true, cond_false, ne_eq, not_true_eq_false, if_false, Option.bind_some, caseS, if_true]
    rw [if_neg hc]
    split
    · rfl
    · rename_i k2
      rw [if_pos (by rcases p3 with p3 | p3; exact (k2 p3).elim; exact p3)]
end Go.V
