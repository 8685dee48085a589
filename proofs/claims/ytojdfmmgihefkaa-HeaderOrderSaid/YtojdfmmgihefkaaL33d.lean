/- Headers that may be, in plain Lean. -/
import Derived.Test.YtojdfmmgihefkaaL33c
namespace Go.V
set_option linter.unusedVariables false
set_option linter.unusedSimpArgs false
open Go.Ab
set_option linter.unusedVariables false
set_option linter.unusedSimpArgs false
abbrev opsS : Sh := .list (.pair (.int .i64) (.pair (.int .i64) (.pair (.int .i64) (.pair (.int .i64) (.int .u64)))))
theorem ops_ok {l : List Op5} (f : Fine opsS l) (h : l.length ≤ 4000) : OpsOk l := ⟨h, fun o ho => (f.2 o ho).2.2.2.2⟩
theorem dims_eq (a0 : Int) (a1 : List Op5) (a2 : Int) (a3 : List Op5) (a4 a5 : Int) : ∃ d, D_check_Dims a0 a1 a2 a3 a4 a5 = some d ∧ D_ref10_Dims a0 a1 a2 a3 a4 a5 = some d := by
  unfold D_check_Dims D_ref10_Dims
  simp only [check_fail, Option.bind_some, cond_dec]
  by_cases c1 : a4 < 1
  · rw [if_pos c1, if_pos c1]
    exact ⟨_, rfl, rfl⟩
  rw [if_neg c1, if_neg c1]
  by_cases c2 : 64 < a4
  · rw [if_pos c2, if_pos c2]
    exact ⟨_, rfl, rfl⟩
  rw [if_neg c2, if_neg c2]
  by_cases c3 : a5 < 0
  · rw [if_pos c3, if_pos c3]
    exact ⟨_, rfl, rfl⟩
  rw [if_neg c3, if_neg c3]
  by_cases c4 : 64 < a5
  · rw [if_pos c4]
    simp only [Option.bind_some]
    rw [cond_dec, if_pos c4]
    exact ⟨_, rfl, rfl⟩
  rw [if_neg c4]
  simp only [Option.bind_some]
  rw [cond_dec, if_neg c4]
  by_cases c5 : a0 < IntKind.i64.wrap (IntKind.i64.wrap (a4 + a5) + 1)
  · rw [if_pos c5, if_pos c5]
    exact ⟨_, rfl, rfl⟩
  rw [if_neg c5, if_neg c5]
  by_cases c6 : a2 < IntKind.i64.wrap (a4 + a5)
  · rw [if_pos c6, decide_eq_true c6]
    exact ⟨_, rfl, rfl⟩
  · rw [if_neg c6, decide_eq_false c6]
    exact ⟨_, rfl, rfl⟩
/-! ### Headers -/
def dimsF (s l x t : Int) : Int := if x < 1 then 10 else if 64 < x then 10 else if t < 0 then 10 else if 64 < t then 10 else if s < IntKind.i64.wrap (IntKind.i64.wrap (x + t) + 1) then 10 else if l < IntKind.i64.wrap (x + t) then 10 else 0
theorem ref10_Dims (a0 : Int) (a1 : List Op5) (a2 : Int) (a3 : List Op5) (a4 a5 : Int) : D_ref10_Dims a0 a1 a2 a3 a4 a5 = some (dimsF a0 a2 a4 a5) := by
  unfold D_ref10_Dims dimsF
  simp only [cond_dec]
  split
  · rfl
  split
  · rfl
  split
  · rfl
  split
  · rfl
  split
  · rfl
  split <;> rfl
theorem check_Dims (a0 : Int) (a1 : List Op5) (a2 : Int) (a3 : List Op5) (a4 a5 : Int) : D_check_Dims a0 a1 a2 a3 a4 a5 = some (dimsF a0 a2 a4 a5) := by
  obtain ⟨d, h1, h2⟩ := dims_eq a0 a1 a2 a3 a4 a5
  rw [h1, ← h2, ref10_Dims]
def hk0 (m : Int) : Int := if m < 1 then 5 else if 3 < m then 5 else 0
def hk3 (m n : Int) : Int := if n < 0 then 11 else if (if m = 2 then 0 else 65535) < n then 11 else 0
def hk4 (b : Int) : Int := if b < 0 then 12 else if 1048576 < b then 12 else 0
def hchk (m : Int) (x t : Nat) (R : Int) (l : List Op5) (Q : Int) (k : List Op5) (n b : Int) : Int := if hk0 m ≠ 0 then hk0 m else if pair10 R l Q k ≠ 0 then pair10 R l Q k else if dimsF R Q x t ≠ 0 then dimsF R Q x t else if hk3 m n ≠ 0 then hk3 m n else hk4 b
theorem header_fail (b : Bool) (e : Int) : D_header_fail b e = some (if b then e else 0) := by cases b <;> rfl
section
variable {a0 : Int} {a1 a2 : List Int} {a3 : Int} {a4 : List Op5} {a5 : Int} {a6 : List Op5} {a7 a8 : Int}
theorem h_mode : D_header_header_mode a0 a1 a2 a3 a4 a5 a6 a7 a8 = some (hk0 a0) := by
  unfold D_header_header_mode hk0
  simp only [header_fail, Option.bind_some, cond_dec]
  split
  · rfl
  · by_cases c : 3 < a0 <;> simp [c]
theorem h_programs (h4 : OpsOk a4) (h6 : OpsOk a6) : D_header_header_programs a0 a1 a2 a3 a4 a5 a6 a7 a8 = some (pair10 a3 a4 a5 a6) := by
  unfold D_header_header_programs
  rw [check_Pair h4 h6]
  rfl
theorem h_dims : D_header_header_dims a0 a1 a2 a3 a4 a5 a6 a7 a8 = some (dimsF a3 a5 (a1.length : Nat) (a2.length : Nat)) := by
  unfold D_header_header_dims
  rw [check_Dims]
  rfl
theorem h_length : D_header_header_length a0 a1 a2 a3 a4 a5 a6 a7 a8 = some (hk3 a0 a7) := by
  unfold D_header_header_length hk3
  simp only [header_fail, Option.bind_some, cond_dec]
  by_cases c0 : a0 = 2
  · rw [if_pos c0, if_pos c0]
    simp only [Option.bind_some]
    split
    · rfl
    · by_cases c : 0 < a7 <;> simp [c]
  · rw [if_neg c0, if_neg c0]
    simp only [Option.bind_some]
    split
    · rfl
    · by_cases c : 65535 < a7 <;> simp [c]
theorem h_budget : D_header_header_budget a0 a1 a2 a3 a4 a5 a6 a7 a8 = some (hk4 a8) := by
  unfold D_header_header_budget hk4
  simp only [header_fail, Option.bind_some, cond_dec]
  split
  · rfl
  · by_cases c : 1048576 < a8 <;> simp [c]
theorem header_Check (h4 : OpsOk a4) (h6 : OpsOk a6) : D_header_Check a0 a1 a2 a3 a4 a5 a6 a7 a8 = some (hchk a0 a1.length a2.length a3 a4 a5 a6 a7 a8) := by
  have h0 : D_header_Check_L0 a0 a1 a2 a3 a4 a5 a6 a7 a8 0 = some (if hk0 a0 ≠ 0 then .inr (.inl (hk0 a0)) else .inl 1) := by
    show ((D_header_header_mode a0 a1 a2 a3 a4 a5 a6 a7 a8).bind fun r => cond (decide (r ≠ 0)) _ _) = _
    rw [h_mode]
    simp only [Option.bind_some, cond_dec]
    split <;> rfl
  have h1 : D_header_Check_L0 a0 a1 a2 a3 a4 a5 a6 a7 a8 1 = some (if pair10 a3 a4 a5 a6 ≠ 0 then .inr (.inl (pair10 a3 a4 a5 a6)) else .inl 2) := by
    show ((D_header_header_programs a0 a1 a2 a3 a4 a5 a6 a7 a8).bind fun r => cond (decide (r ≠ 0)) _ _) = _
    rw [h_programs h4 h6]
    simp only [Option.bind_some, cond_dec]
    split <;> rfl
  have h2 : D_header_Check_L0 a0 a1 a2 a3 a4 a5 a6 a7 a8 2 = some (if dimsF a3 a5 (a1.length : Nat) (a2.length : Nat) ≠ 0 then .inr (.inl (dimsF a3 a5 (a1.length : Nat) (a2.length : Nat))) else .inl 3) := by
    show ((D_header_header_dims a0 a1 a2 a3 a4 a5 a6 a7 a8).bind fun r => cond (decide (r ≠ 0)) _ _) = _
    rw [h_dims]
    simp only [Option.bind_some, cond_dec]
    split <;> rfl
  have h3 : D_header_Check_L0 a0 a1 a2 a3 a4 a5 a6 a7 a8 3 = some (if hk3 a0 a7 ≠ 0 then .inr (.inl (hk3 a0 a7)) else .inl 4) := by
    show ((D_header_header_length a0 a1 a2 a3 a4 a5 a6 a7 a8).bind fun r => cond (decide (r ≠ 0)) _ _) = _
    rw [h_length]
    simp only [Option.bind_some, cond_dec]
    split <;> rfl
  have h5 : D_header_Check_L0 a0 a1 a2 a3 a4 a5 a6 a7 a8 4 = some (if hk4 a8 ≠ 0 then .inr (.inl (hk4 a8)) else .inl 5) := by
    show ((D_header_header_budget a0 a1 a2 a3 a4 a5 a6 a7 a8).bind fun r => cond (decide (r ≠ 0)) _ _) = _
    rw [h_budget]
    simp only [Option.bind_some, cond_dec]
    split <;> rfl
  have hend : D_header_Check_L0 a0 a1 a2 a3 a4 a5 a6 a7 a8 5 = some (.inr (.inr ())) := rfl
  unfold D_header_Check hchk
  have hB : BIG = 18446744073709551610 + 1 + 1 + 1 + 1 + 1 + 1 := rfl
  rw [hB, loopN_succ, h0]
  simp only [Option.bind_some]
  split
  · rfl
  simp only [caseS]
  rw [loopN_succ, h1]
  simp only [Option.bind_some]
  split
  · rfl
  simp only [caseS]
  rw [loopN_succ, h2]
  simp only [Option.bind_some]
  split
  · rfl
  simp only [caseS]
  rw [loopN_succ, h3]
  simp only [Option.bind_some]
  split
  · rfl
  simp only [caseS]
  rw [loopN_succ, h5]
  simp only [Option.bind_some]
  split
  · rfl
  · rename_i h
    simp only [caseS]
    rw [loopN_succ, hend]
    rw [show hk4 a8 = 0 by omega]
    rfl
theorem ref33_Check (h4 : OpsOk a4) (h6 : OpsOk a6) : D_ref33_Check a0 a1 a2 a3 a4 a5 a6 a7 a8 = some (hchk a0 a1.length a2.length a3 a4 a5 a6 a7 a8) := by
  unfold D_ref33_Check hchk
  rw [ref10_Pair h4 h6, ref10_Dims]
  simp only [Option.bind_some, cond_dec]
  unfold hk0
  by_cases c1 : a0 < 1
  · rw [if_pos c1, if_pos c1]
    rfl
  rw [if_neg c1, if_neg c1]
  by_cases c2 : 3 < a0
  · rw [if_pos c2, if_pos c2]
    rfl
  rw [if_neg c2, if_neg c2]
  rw [if_neg (show ¬(0 : Int) ≠ 0 by simp)]
  by_cases c3 : pair10 a3 a4 a5 a6 ≠ 0
  · rw [if_pos c3, if_pos c3]
  rw [if_neg c3, if_neg c3]
  by_cases c4 : dimsF a3 a5 (a1.length : Nat) (a2.length : Nat) ≠ 0
  · rw [if_pos c4, if_pos c4]
  rw [if_neg c4, if_neg c4]
  unfold hk3 hk4
  by_cases c5 : a7 < 0
  · rw [if_pos c5, if_pos c5]
    rfl
  rw [if_neg c5, if_neg c5]
  by_cases c6 : a0 = 2
  · rw [if_pos c6, if_pos c6]
    by_cases c7 : 0 < a7
    · rw [if_pos c7, if_pos (show (11 : Int) ≠ 0 by simp)]
      by_cases c8 : 65535 < a7
      · rw [if_pos c8]
      · rw [if_neg c8, if_pos (by omega)]
    · rw [if_neg c7, if_neg (show ¬(0 : Int) ≠ 0 by simp), if_neg (show ¬65535 < a7 by omega), if_neg (show ¬a7 ≠ 0 by omega)]
      split
      · rfl
      · split <;> rfl
  · rw [if_neg c6, if_neg c6]
    by_cases c8 : 65535 < a7
    · rw [if_pos c8, if_pos c8]
      rfl
    · rw [if_neg c8, if_neg c8, if_neg (show ¬(0 : Int) ≠ 0 by simp)]
      split
      · rfl
      · split <;> rfl
/-- What is so of a header that may be. -/
structure HFacts (a0 : Int) (x t : Nat) (a3 : Int) (a4 : List Op5) (a5 : Int) (a6 : List Op5) (a7 a8 : Int) : Prop where
  mode : 1 ≤ a0 ∧ a0 ≤ 3
  regs : 1 ≤ a3 ∧ a3 ≤ 64
  regs' : 1 ≤ a5 ∧ a5 ≤ 64
  xs : 1 ≤ x ∧ x ≤ 64
  ts : t ≤ 64
  w : 0 ≤ (writes9 a4).1 ∧ (writes9 a4).1 ≤ 65536
  w' : 0 ≤ (writes9 a6).1 ∧ (writes9 a6).1 ≤ 65536
  len : 0 ≤ a7 ∧ a7 ≤ 65535
  bud : 0 ≤ a8 ∧ a8 ≤ 1048576
theorem lk1_regs {R : Int} {l : List Op5} (h : lk1 R l = 0) : 1 ≤ R ∧ R ≤ 64 := by
  unfold lk1 at h
  split at h
  · rename_i hb
    unfold regsB at hb
    rw [Bool.and_eq_true] at hb
    exact of_decide_eq_true hb.1
  · cases h
theorem writes9_in {l : List Op5} (h : OpsOk l) : 0 ≤ (writes9 l).1 ∧ (writes9 l).1 ≤ 65536 := by
  unfold writes9
  split
  · rename_i hs
    split
    · rename_i w hq
      have := Q9_nn (fun o ho => (h.v o ho).1) hs hq
      split
      · simp
      · simp; omega
    · simp
  · simp
theorem pair_regs {R Q : Int} {l k : List Op5} (h : pair10 R l Q k = 0) : (1 ≤ R ∧ R ≤ 64) ∧ (1 ≤ Q ∧ Q ≤ 64) := by
  unfold pair10 at h
  split at h
  · rename_i c; exact (c h).elim
  split at h
  · rename_i c; exact (c h).elim
  split at h
  · rename_i c; exact (c h).elim
  split at h
  · rename_i c; exact (c h).elim
  rename_i c1 c2
  exact ⟨lk1_regs (l := l) (by omega), lk1_regs (l := k) (by omega)⟩
theorem hfacts (h4 : OpsOk a4) (h6 : OpsOk a6) {x t : Nat} (h : hchk a0 x t a3 a4 a5 a6 a7 a8 = 0) : HFacts a0 x t a3 a4 a5 a6 a7 a8 := by
  unfold hchk at h
  split at h
  · rename_i c; exact (c h).elim
  split at h
  · rename_i c; exact (c h).elim
  split at h
  · rename_i c; exact (c h).elim
  split at h
  · rename_i c; exact (c h).elim
  rename_i c0 c1 c2 c3
  obtain ⟨r1, r2⟩ := pair_regs (show pair10 a3 a4 a5 a6 = 0 by omega)
  have c0 : hk0 a0 = 0 := by omega
  have c2 : dimsF a3 a5 x t = 0 := by omega
  have c3 : hk3 a0 a7 = 0 := by omega
  unfold hk0 at c0
  unfold hk3 at c3
  unfold hk4 at h
  unfold dimsF at c2
  refine ⟨?_, r1, r2, ?_, ?_, writes9_in h4, writes9_in h6, ?_, ?_⟩
  · split at c0
    · omega
    split at c0 <;> omega
  · split at c2
    · omega
    split at c2 <;> omega
  · split at c2
    · omega
    split at c2
    · omega
    split at c2
    · omega
    split at c2 <;> omega
  · split at c3
    · omega
    by_cases k3 : a0 = 2
    · rw [if_pos k3] at c3
      split at c3 <;> omega
    · rw [if_neg k3] at c3
      split at c3 <;> omega
  · split at h
    · omega
    split at h <;> omega
end
end Go.V
