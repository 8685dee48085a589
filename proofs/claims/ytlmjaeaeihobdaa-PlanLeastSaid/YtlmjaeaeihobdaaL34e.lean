/- Headers, and the plans of headers, in plain Lean. -/
import Derived.Test.YtlmjaeaeihobdaaL34d
namespace Go.V
set_option linter.unusedVariables false
set_option linter.unusedSimpArgs false
open Go.Ab
set_option linter.unusedVariables false
set_option linter.unusedSimpArgs false
/-! ### Headers -/
def dimsF (s l x t : Int) : Int := if x < 1 then 10 else if 64 < x then 10 else if t < 0 then 10 else if 64 < t then 10 else if s < IntKind.i64.wrap (IntKind.i64.wrap (x + t) + 1) then 10 else if l < IntKind.i64.wrap (x + t) then 10 else 0
theorem ref10_Dims (a0 : Int) (a1 : List Op5) (a2 : Int) (a3 : List Op5) (a4 a5 : Int) : D_ref10_Dims a0 a1 a2 a3 a4 a5 = some (dimsF a0 a2 a4 a5) := by
  unfold D_ref10_Dims dimsF
  simp only [cond_dec]
  split
  · rfl
  split
  · rfl
  split
  · rfl
  split
  · rfl
  split
  · rfl
  split <;> rfl
theorem check_Dims (a0 : Int) (a1 : List Op5) (a2 : Int) (a3 : List Op5) (a4 a5 : Int) : D_check_Dims a0 a1 a2 a3 a4 a5 = some (dimsF a0 a2 a4 a5) := by
  obtain ⟨d, h1, h2⟩ := dims_eq a0 a1 a2 a3 a4 a5
  rw [h1, ← h2, ref10_Dims]
def hk0 (m : Int) : Int := if m < 1 then 5 else if 3 < m then 5 else 0
def hk3 (m n : Int) : Int := if n < 0 then 11 else if (if m = 2 then 0 else 65535) < n then 11 else 0
def hk4 (b : Int) : Int := if b < 0 then 12 else if 1048576 < b then 12 else 0
def hchk (m : Int) (x t : Nat) (R : Int) (l : List Op5) (Q : Int) (k : List Op5) (n b : Int) : Int := if hk0 m ≠ 0 then hk0 m else if pair10 R l Q k ≠ 0 then pair10 R l Q k else if dimsF R Q x t ≠ 0 then dimsF R Q x t else if hk3 m n ≠ 0 then hk3 m n else hk4 b
theorem header_fail (b : Bool) (e : Int) : D_header_fail b e = some (if b then e else 0) := by cases b <;> rfl
section
variable {a0 : Int} {a1 a2 : List Int} {a3 : Int} {a4 : List Op5} {a5 : Int} {a6 : List Op5} {a7 a8 : Int}
theorem h_mode : D_header_header_mode a0 a1 a2 a3 a4 a5 a6 a7 a8 = some (hk0 a0) := by
  unfold D_header_header_mode hk0
  simp only [header_fail, Option.bind_some, cond_dec]
  split
  · rfl
  · by_cases c : 3 < a0 <;> simp [c]
theorem h_programs (h4 : OpsOk a4) (h6 : OpsOk a6) : D_header_header_programs a0 a1 a2 a3 a4 a5 a6 a7 a8 = some (pair10 a3 a4 a5 a6) := by
  unfold D_header_header_programs
  rw [check_Pair h4 h6]
  rfl
theorem h_dims : D_header_header_dims a0 a1 a2 a3 a4 a5 a6 a7 a8 = some (dimsF a3 a5 (a1.length : Nat) (a2.length : Nat)) := by
  unfold D_header_header_dims
  rw [check_Dims]
  rfl
theorem h_length : D_header_header_length a0 a1 a2 a3 a4 a5 a6 a7 a8 = some (hk3 a0 a7) := by
  unfold D_header_header_length hk3
  simp only [header_fail, Option.bind_some, cond_dec]
  by_cases c0 : a0 = 2
  · rw [if_pos c0, if_pos c0]
    simp only [Option.bind_some]
    split
    · rfl
    · by_cases c : 0 < a7 <;> simp [c]
  · rw [if_neg c0, if_neg c0]
    simp only [Option.bind_some]
    split
    · rfl
    · by_cases c : 65535 < a7 <;> simp [c]
theorem h_budget : D_header_header_budget a0 a1 a2 a3 a4 a5 a6 a7 a8 = some (hk4 a8) := by
  unfold D_header_header_budget hk4
  simp only [header_fail, Option.bind_some, cond_dec]
  split
  · rfl
  · by_cases c : 1048576 < a8 <;> simp [c]
theorem header_Check (h4 : OpsOk a4) (h6 : OpsOk a6) : D_header_Check a0 a1 a2 a3 a4 a5 a6 a7 a8 = some (hchk a0 a1.length a2.length a3 a4 a5 a6 a7 a8) := by
  have h0 : D_header_Check_L0 a0 a1 a2 a3 a4 a5 a6 a7 a8 0 = some (if hk0 a0 ≠ 0 then .inr (.inl (hk0 a0)) else .inl 1) := by
    show ((D_header_header_mode a0 a1 a2 a3 a4 a5 a6 a7 a8).bind fun r => cond (decide (r ≠ 0)) _ _) = _
    rw [h_mode]
    simp only [Option.bind_some, cond_dec]
    split <;> rfl
  have h1 : D_header_Check_L0 a0 a1 a2 a3 a4 a5 a6 a7 a8 1 = some (if pair10 a3 a4 a5 a6 ≠ 0 then .inr (.inl (pair10 a3 a4 a5 a6)) else .inl 2) := by
    show ((D_header_header_programs a0 a1 a2 a3 a4 a5 a6 a7 a8).bind fun r => cond (decide (r ≠ 0)) _ _) = _
    rw [h_programs h4 h6]
    simp only [Option.bind_some, cond_dec]
    split <;> rfl
  have h2 : D_header_Check_L0 a0 a1 a2 a3 a4 a5 a6 a7 a8 2 = some (if dimsF a3 a5 (a1.length : Nat) (a2.length : Nat) ≠ 0 then .inr (.inl (dimsF a3 a5 (a1.length : Nat) (a2.length : Nat))) else .inl 3) := by
    show ((D_header_header_dims a0 a1 a2 a3 a4 a5 a6 a7 a8).bind fun r => cond (decide (r ≠ 0)) _ _) = _
    rw [h_dims]
    simp only [Option.bind_some, cond_dec]
    split <;> rfl
  have h3 : D_header_Check_L0 a0 a1 a2 a3 a4 a5 a6 a7 a8 3 = some (if hk3 a0 a7 ≠ 0 then .inr (.inl (hk3 a0 a7)) else .inl 4) := by
    show ((D_header_header_length a0 a1 a2 a3 a4 a5 a6 a7 a8).bind fun r => cond (decide (r ≠ 0)) _ _) = _
    rw [h_length]
    simp only [Option.bind_some, cond_dec]
    split <;> rfl
  have h5 : D_header_Check_L0 a0 a1 a2 a3 a4 a5 a6 a7 a8 4 = some (if hk4 a8 ≠ 0 then .inr (.inl (hk4 a8)) else .inl 5) := by
    show ((D_header_header_budget a0 a1 a2 a3 a4 a5 a6 a7 a8).bind fun r => cond (decide (r ≠ 0)) _ _) = _
    rw [h_budget]
    simp only [Option.bind_some, cond_dec]
    split <;> rfl
  have hend : D_header_Check_L0 a0 a1 a2 a3 a4 a5 a6 a7 a8 5 = some (.inr (.inr ())) := rfl
  unfold D_header_Check hchk
  have hB : BIG = 18446744073709551610 + 1 + 1 + 1 + 1 + 1 + 1 := rfl
  rw [hB, loopN_succ, h0]
  simp only [Option.bind_some]
  split
  · rfl
  simp only [caseS]
  rw [loopN_succ, h1]
  simp only [Option.bind_some]
  split
  · rfl
  simp only [caseS]
  rw [loopN_succ, h2]
  simp only [Option.bind_some]
  split
  · rfl
  simp only [caseS]
  rw [loopN_succ, h3]
  simp only [Option.bind_some]
  split
  · rfl
  simp only [caseS]
  rw [loopN_succ, h5]
  simp only [Option.bind_some]
  split
  · rfl
  · rename_i h
    simp only [caseS]
    rw [loopN_succ, hend]
    rw [show hk4 a8 = 0 by omega]
    rfl
theorem ref33_Check (h4 : OpsOk a4) (h6 : OpsOk a6) : D_ref33_Check a0 a1 a2 a3 a4 a5 a6 a7 a8 = some (hchk a0 a1.length a2.length a3 a4 a5 a6 a7 a8) := by
  unfold D_ref33_Check hchk
  rw [ref10_Pair h4 h6, ref10_Dims]
  simp only [Option.bind_some, cond_dec]
  unfold hk0
  by_cases c1 : a0 < 1
  · rw [if_pos c1, if_pos c1]
    rfl
  rw [if_neg c1, if_neg c1]
  by_cases c2 : 3 < a0
  · rw [if_pos c2, if_pos c2]
    rfl
  rw [if_neg c2, if_neg c2]
  rw [if_neg (show ¬(0 : Int) ≠ 0 by simp)]
  by_cases c3 : pair10 a3 a4 a5 a6 ≠ 0
  · rw [if_pos c3, if_pos c3]
  rw [if_neg c3, if_neg c3]
  by_cases c4 : dimsF a3 a5 (a1.length : Nat) (a2.length : Nat) ≠ 0
  · rw [if_pos c4, if_pos c4]
  rw [if_neg c4, if_neg c4]
  unfold hk3 hk4
  by_cases c5 : a7 < 0
  · rw [if_pos c5, if_pos c5]
    rfl
  rw [if_neg c5, if_neg c5]
  by_cases c6 : a0 = 2
  · rw [if_pos c6, if_pos c6]
    by_cases c7 : 0 < a7
    · rw [if_pos c7, if_pos (show (11 : Int) ≠ 0 by simp)]
      by_cases c8 : 65535 < a7
      · rw [if_pos c8]
      · rw [if_neg c8, if_pos (by omega)]
    · rw [if_neg c7, if_neg (show ¬(0 : Int) ≠ 0 by simp), if_neg (show ¬65535 < a7 by omega), if_neg (show ¬a7 ≠ 0 by omega)]
      split
      · rfl
      · split <;> rfl
  · rw [if_neg c6, if_neg c6]
    by_cases c8 : 65535 < a7
    · rw [if_pos c8, if_pos c8]
      rfl
    · rw [if_neg c8, if_neg c8, if_neg (show ¬(0 : Int) ≠ 0 by simp)]
      split
      · rfl
      · split <;> rfl
/-- What is so of a header that may be. -/
structure HFacts (a0 : Int) (x t : Nat) (a3 : Int) (a4 : List Op5) (a5 : Int) (a6 : List Op5) (a7 a8 : Int) : Prop where
  mode : 1 ≤ a0 ∧ a0 ≤ 3
  regs : 1 ≤ a3 ∧ a3 ≤ 64
  regs' : 1 ≤ a5 ∧ a5 ≤ 64
  xs : 1 ≤ x ∧ x ≤ 64
  ts : t ≤ 64
  w : 0 ≤ (writes9 a4).1 ∧ (writes9 a4).1 ≤ 65536
  w' : 0 ≤ (writes9 a6).1 ∧ (writes9 a6).1 ≤ 65536
  len : 0 ≤ a7 ∧ a7 ≤ 65535
  bud : 0 ≤ a8 ∧ a8 ≤ 1048576
theorem lk1_regs {R : Int} {l : List Op5} (h : lk1 R l = 0) : 1 ≤ R ∧ R ≤ 64 := by
  unfold lk1 at h
  split at h
  · rename_i hb
    unfold regsB at hb
    rw [Bool.and_eq_true] at hb
    exact of_decide_eq_true hb.1
  · cases h
theorem writes9_in {l : List Op5} (h : OpsOk l) : 0 ≤ (writes9 l).1 ∧ (writes9 l).1 ≤ 65536 := by
  unfold writes9
  split
  · rename_i hs
    split
    · rename_i w hq
      have := Q9_nn (fun o ho => (h.v o ho).1) hs hq
      split
      · simp
      · simp; omega
    · simp
  · simp
theorem pair_regs {R Q : Int} {l k : List Op5} (h : pair10 R l Q k = 0) : (1 ≤ R ∧ R ≤ 64) ∧ (1 ≤ Q ∧ Q ≤ 64) := by
  unfold pair10 at h
  split at h
  · rename_i c; exact (c h).elim
  split at h
  · rename_i c; exact (c h).elim
  split at h
  · rename_i c; exact (c h).elim
  split at h
  · rename_i c; exact (c h).elim
  rename_i c1 c2
  exact ⟨lk1_regs (l := l) (by omega), lk1_regs (l := k) (by omega)⟩
theorem hfacts (h4 : OpsOk a4) (h6 : OpsOk a6) {x t : Nat} (h : hchk a0 x t a3 a4 a5 a6 a7 a8 = 0) : HFacts a0 x t a3 a4 a5 a6 a7 a8 := by
  unfold hchk at h
  split at h
  · rename_i c; exact (c h).elim
  split at h
  · rename_i c; exact (c h).elim
  split at h
  · rename_i c; exact (c h).elim
  split at h
  · rename_i c; exact (c h).elim
  rename_i c0 c1 c2 c3
  obtain ⟨r1, r2⟩ := pair_regs (show pair10 a3 a4 a5 a6 = 0 by omega)
  have c0 : hk0 a0 = 0 := by omega
  have c2 : dimsF a3 a5 x t = 0 := by omega
  have c3 : hk3 a0 a7 = 0 := by omega
  unfold hk0 at c0
  unfold hk3 at c3
  unfold hk4 at h
  unfold dimsF at c2
  refine ⟨?_, r1, r2, ?_, ?_, writes9_in h4, writes9_in h6, ?_, ?_⟩
  · split at c0
    · omega
    split at c0 <;> omega
  · split at c2
    · omega
    split at c2 <;> omega
  · split at c2
    · omega
    split at c2
    · omega
    split at c2
    · omega
    split at c2 <;> omega
  · split at c3
    · omega
    by_cases k3 : a0 = 2
    · rw [if_pos k3] at c3
      split at c3 <;> omega
    · rw [if_neg k3] at c3
      split at c3 <;> omega
  · split at h
    · omega
    split at h <;> omega
/-! ### Sizes -/
def tapeI (a0 : Int) (a4 a6 : List Op5) : Int := if a0 = 3 then (writes9 a6).1 else (writes9 a4).1 + (writes9 a6).1
def slotI (a0 : Int) (x : Nat) (a3 : Int) (a4 : List Op5) : Int := if a0 = 3 then (writes9 a4).1 + a3 else x + 1
def fixI (x t : Nat) (a3 a5 : Int) : Int := 2 * t + 2 * x + a3 + a5 + max a3 a5
theorem plan_Of (h4 : OpsOk a4) (h6 : OpsOk a6) : D_plan_Of a0 a1 a2 a3 a4 a5 a6 a7 a8 = some (if hchk a0 a1.length a2.length a3 a4 a5 a6 a7 a8 ≠ 0 then (0, 0) else ((writes9 a4).1, (writes9 a6).1)) := by
  unfold D_plan_Of
  have := h4.len
  have := h6.len
  rw [header_Check h4 h6, size_Writes (by omega) h4.v, size_Writes (by omega) h6.v]
  simp only [Option.bind_some, cond_dec]
  split <;> rfl
theorem ref34_Of (h4 : OpsOk a4) (h6 : OpsOk a6) : D_ref34_Of a0 a1 a2 a3 a4 a5 a6 a7 a8 = some (if hchk a0 a1.length a2.length a3 a4 a5 a6 a7 a8 ≠ 0 then (0, 0) else ((writes9 a4).1, (writes9 a6).1)) := by
  unfold D_ref34_Of
  have := h4.len
  have := h6.len
  rw [ref33_Check h4 h6, ref09_Writes h4.len h4.v, ref09_Writes h6.len h6.v]
  simp only [Option.bind_some, cond_dec]
  split <;> rfl
theorem plan_sizes (h4 : OpsOk a4) (h6 : OpsOk a6) (h : hchk a0 a1.length a2.length a3 a4 a5 a6 a7 a8 = 0) : D_plan_sizes a0 a1 a2 a3 a4 a5 a6 a7 a8 = some (((a2.length : Nat) : Int), ((a1.length : Nat) : Int), a3, a5, max a3 a5, ((a1.length : Nat) : Int), ((a2.length : Nat) : Int), tapeI a0 a4 a6, slotI a0 a1.length a3 a4) := by
  have f := hfacts h4 h6 h
  have g1 := f.mode; have g2 := f.regs; have g3 := f.xs; have g4 := f.w; have g5 := f.w'
  unfold D_plan_sizes tapeI slotI
  rw [plan_Of h4 h6, if_neg (fun c => c h)]
  simp only [Option.bind_some, cond_dec]
  rw [wrap64 (n := (writes9 a4).1 + a3) (by omega), wrap64 (n := (writes9 a4).1 + (writes9 a6).1) (by omega), wrap64 (n := (a1.length : Int) + 1) (by omega)]
  split
  · rfl
  · rfl
/-! ### Where parts begin -/
def pre (L : List Int) : Nat → Int
  | 0 => 0
  | i + 1 => pre L i + L.getD i 0
theorem pre_in {L : List Int} (hb : ∀ j, 0 ≤ L.getD j 0 ∧ L.getD j 0 ≤ 1000000000000) : ∀ i, 0 ≤ pre L i ∧ pre L i ≤ 1000000000000 * i
  | 0 => ⟨Int.le_refl _, Int.le_refl _⟩
  | i + 1 => by
    have := pre_in hb i
    have := hb i
    simp only [pre]
    omega
theorem plan_lay {b0 b1 b2 b3 b4 b5 b6 b7 b8 n : Int} (hb : ∀ j, 0 ≤ ([b0, b1, b2, b3, b4, b5, b6, b7, b8 * n] : List Int).getD j 0 ∧ ([b0, b1, b2, b3, b4, b5, b6, b7, b8 * n] : List Int).getD j 0 ≤ 1000000000000) : D_plan_lay b0 b1 b2 b3 b4 b5 b6 b7 b8 n = some ((List.range 10).map (pre [b0, b1, b2, b3, b4, b5, b6, b7, b8 * n])) := by
  generalize hL : ([b0, b1, b2, b3, b4, b5, b6, b7, b8 * n] : List Int) = L at *
  have hp := pre_in hb
  have key : loopN (D_plan_lay_L0 b0 b1 b2 b3 b4 b5 b6 b7 b8) BIG (0, (pre L 0, (List.range 0).map (pre L))) = some (pre L 8, (List.range 8).map (pre L)) := by
    refine loop_nat (n := 8) (fun i => (pre L i, (List.range i).map (pre L))) (by omega) (fun i hi => ?_) ?_
    · unfold D_plan_lay_L0
      rw [cond_dec, if_pos (by omega), ix_in (show i < 9 by omega)]
      simp only [Option.bind_some]
      have e : List.getD [b0, b1, b2, b3, b4, b5, b6, b7, b8] i 0 = L.getD i 0 := by
        subst hL
        rcases (show i = 0 ∨ i = 1 ∨ i = 2 ∨ i = 3 ∨ i = 4 ∨ i = 5 ∨ i = 6 ∨ i = 7 by omega) with rfl | rfl | rfl | rfl | rfl | rfl | rfl | rfl <;> rfl
      have h1 := hp i
      have h2 := hb i
      rw [e]
      unfold D_plan_lay_1
      simp only [Option.bind_some]
      rw [gd_fits (by simp; omega) (by omega), wrap64 (n := pre L i + L.getD i 0) (by omega), wrap64 (n := (i : Int) + 1) (by omega), List.range_succ, List.map_append]
      rfl
    · unfold D_plan_lay_L0
      rw [cond_dec, if_neg (by omega)]
  unfold D_plan_lay
  have key : loopN (D_plan_lay_L0 b0 b1 b2 b3 b4 b5 b6 b7 b8) BIG ((0, 0, [])) = _ := key
  rw [key]
  have h1 := hp 8
  have h2 := hb 8
  have e : L.getD 8 0 = b8 * n := by subst hL; rfl
  rw [e] at h2
  unfold D_plan_lay_1
  simp only [Option.bind_some]
  rw [gd_fits (by simp) (by omega), gd_fits (by simp) (by omega), wrap64 (n := b8 * n) (by omega), wrap64 (n := pre L 8 + b8 * n) (by omega)]
  show _ = some ((List.range (8 + 1 + 1)).map (pre L))
  rw [List.range_succ (n := 8 + 1), List.range_succ (n := 8), List.map_append, List.map_append]
  show _ = some (((List.range 8).map (pre L) ++ [pre L 8]) ++ [pre L 8 + L.getD 8 0])
  rw [e]
theorem plan_need {b0 b1 b2 b3 b4 b5 b6 b7 b8 n : Int} (hb : ∀ j, 0 ≤ ([b0, b1, b2, b3, b4, b5, b6, b7, b8 * n] : List Int).getD j 0 ∧ ([b0, b1, b2, b3, b4, b5, b6, b7, b8 * n] : List Int).getD j 0 ≤ 1000000000000) : D_plan_need b0 b1 b2 b3 b4 b5 b6 b7 b8 n = some (b0 + b1 + b2 + b3 + b4 + b5 + b6 + b7 + b8 * n) := by
  unfold D_plan_need
  rw [plan_lay hb]
  show some (0 + b0 + b1 + b2 + b3 + b4 + b5 + b6 + b7 + b8 * n) = _
  rw [Int.zero_add]
theorem nine {b0 b1 b2 b3 b4 b5 b6 b7 b8 : Int} {p : Int → Prop} (h : p b0) (h1 : p b1) (h2 : p b2) (h3 : p b3) (h4 : p b4) (h5 : p b5) (h6 : p b6) (h7 : p b7) (h8 : p b8) (hz : p 0) : ∀ j, p (([b0, b1, b2, b3, b4, b5, b6, b7, b8] : List Int).getD j 0)
  | 0 => h
  | 1 => h1
  | 2 => h2
  | 3 => h3
  | 4 => h4
  | 5 => h5
  | 6 => h6
  | 7 => h7
  | 8 => h8
  | j + 9 => by
    show p ((([] : List Int)).getD j 0)
    rw [List.getD_nil]
    exact hz
theorem mul_in {s n : Int} (hs : 0 ≤ s ∧ s ≤ 100000) (hn : 0 ≤ n ∧ n ≤ 1048576) : 0 ≤ s * n ∧ s * n ≤ 1000000000000 := by
  have h1 := Int.mul_nonneg hs.1 hn.1
  have h2 := Int.mul_le_mul hs.2 hn.2 hn.1 (by omega)
  omega
/-- What the sizes of a header that may be are. -/
structure SFacts (x t : Nat) (a3 a5 tp sl : Int) : Prop where
  xs : 1 ≤ x ∧ x ≤ 64
  ts : t ≤ 64
  r : 1 ≤ a3 ∧ a3 ≤ 64
  r' : 1 ≤ a5 ∧ a5 ≤ 64
  tp : 0 ≤ tp ∧ tp ≤ 131072
  sl : 1 ≤ sl ∧ sl ≤ 100000
theorem sfacts (h4 : OpsOk a4) (h6 : OpsOk a6) {x t : Nat} (h : hchk a0 x t a3 a4 a5 a6 a7 a8 = 0) : SFacts x t a3 a5 (tapeI a0 a4 a6) (slotI a0 x a3 a4) := by
  have f := hfacts h4 h6 h
  have g1 := f.mode; have g2 := f.regs; have g3 := f.xs; have g4 := f.w; have g5 := f.w'
  refine ⟨f.xs, f.ts, f.regs, f.regs', ?_, ?_⟩
  · unfold tapeI; split <;> omega
  · unfold slotI; split <;> omega
theorem s_list {x t : Nat} {tp sl n : Int} (s : SFacts x t a3 a5 tp sl) (hn : 0 ≤ n ∧ n ≤ 1048576) : ∀ j, 0 ≤ ([(t : Int), x, a3, a5, max a3 a5, x, t, tp, sl * n] : List Int).getD j 0 ∧ ([(t : Int), x, a3, a5, max a3 a5, x, t, tp, sl * n] : List Int).getD j 0 ≤ 1000000000000 := by
  have g1 := s.xs; have g2 := s.ts; have g3 := s.r; have g4 := s.r'; have g5 := s.tp; have g6 := s.sl
  exact nine (p := fun y => 0 ≤ y ∧ y ≤ 1000000000000) (by omega) (by omega) (by omega) (by omega) (by omega) (by omega) (by omega) (by omega) (mul_in (by omega) hn) (by omega)
theorem s_need {x t : Nat} {tp sl n : Int} (s : SFacts x t a3 a5 tp sl) (hn : 0 ≤ n ∧ n ≤ 1048576) : D_plan_need t x a3 a5 (max a3 a5) x t tp sl n = some (fixI x t a3 a5 + tp + n * sl) := by
  rw [plan_need (s_list s hn)]
  unfold fixI
  rw [Int.mul_comm sl n]
  congr 1
  omega
theorem ref34_fixed {tp sl : Int} (h : SFacts a1.length a2.length a3 a5 tp sl) : D_ref34_fixed a0 a1 a2 a3 a4 a5 a6 a7 a8 = some (fixI a1.length a2.length a3 a5) := by
  have g1 := h.xs; have g2 := h.ts; have g3 := h.r; have g4 := h.r'
  unfold D_ref34_fixed fixI
  rw [wrap64 (n := 2 * (a2.length : Int)) (by omega), wrap64 (n := 2 * (a1.length : Int)) (by omega), wrap64 (n := 2 * (a2.length : Int) + 2 * (a1.length : Int)) (by omega), wrap64 (n := 2 * (a2.length : Int) + 2 * (a1.length : Int) + a3) (by omega), wrap64 (n := 2 * (a2.length : Int) + 2 * (a1.length : Int) + a3 + a5) (by omega), wrap64 (by omega)]
theorem ref34_tape (h4 : OpsOk a4) (h6 : OpsOk a6) (h : hchk a0 a1.length a2.length a3 a4 a5 a6 a7 a8 = 0) : D_ref34_tape a0 a1 a2 a3 a4 a5 a6 a7 a8 = some (tapeI a0 a4 a6) := by
  have f := hfacts h4 h6 h
  have g4 := f.w; have g5 := f.w'
  unfold D_ref34_tape tapeI
  rw [ref34_Of h4 h6, if_neg (fun c => c h)]
  simp only [Option.bind_some, cond_dec]
  rw [wrap64 (by omega)]
  split <;> rfl
theorem ref34_slot (h4 : OpsOk a4) (h6 : OpsOk a6) (h : hchk a0 a1.length a2.length a3 a4 a5 a6 a7 a8 = 0) : D_ref34_slot a0 a1 a2 a3 a4 a5 a6 a7 a8 = some (slotI a0 a1.length a3 a4) := by
  have f := hfacts h4 h6 h
  have g2 := f.regs; have g3 := f.xs; have g4 := f.w; have g5 := f.w'
  unfold D_ref34_slot slotI
  rw [ref34_Of h4 h6, if_neg (fun c => c h)]
  simp only [Option.bind_some, cond_dec]
  rw [wrap64 (n := (writes9 a4).1 + a3) (by omega), wrap64 (by omega)]
  split <;> rfl
/-! ### Plans -/
def least (a0 a7 : Int) : Int := if a0 = 3 then a7 else 1
def planF (a0 : Int) (x t : Nat) (a3 : Int) (a4 : List Op5) (a5 : Int) (a6 : List Op5) (a7 a8 : Int) : Int × Int × Int × Int × Int :=
  if hchk a0 x t a3 a4 a5 a6 a7 a8 ≠ 0 then (0, 0, 0, 0, hchk a0 x t a3 a4 a5 a6 a7 a8)
  else if a8 < fixI x t a3 a5 + tapeI a0 a4 a6 + least a0 a7 * slotI a0 x a3 a4 then (0, 0, 0, 0, 13)
  else (fixI x t a3 a5, tapeI a0 a4 a6, slotI a0 x a3 a4, if a0 = 3 then a7 else (a8 - fixI x t a3 a5 - tapeI a0 a4 a6) / slotI a0 x a3 a4, 0)
theorem plan_sum {x t : Nat} {tp sl n : Int} (s : SFacts x t a3 a5 tp sl) : loopN (D_plan_Make_L0 ((t : Int), (x : Int), a3, a5, max a3 a5, (x : Int), (t : Int), tp, sl)) BIG (0, 0, tp, sl, n) = some (fixI x t a3 a5, tp, sl, n) := by
  have hb := s_list (n := 1) s (by omega)
  have hp := pre_in hb
  have e7 : pre [(t : Int), x, a3, a5, max a3 a5, x, t, tp, sl * 1] 7 = fixI x t a3 a5 := by
    show 0 + (t : Int) + x + a3 + a5 + max a3 a5 + x + t = _
    unfold fixI
    omega
  rw [← e7]
  generalize hL : ([(t : Int), x, a3, a5, max a3 a5, x, t, tp, sl * 1] : List Int) = L at *
  refine loop_nat (n := 7) (fun i => (pre L i, tp, sl, n)) (c := (pre L 7, tp, sl, n)) (by omega) (fun i hi => ?_) ?_
  · unfold D_plan_Make_L0
    rw [cond_dec, if_pos (by omega), ix_in (show i < 9 by omega)]
    simp only [Option.bind_some]
    have e : List.getD [(t : Int), x, a3, a5, max a3 a5, x, t, tp, sl] i 0 = L.getD i 0 := by
      subst hL
      rcases (show i = 0 ∨ i = 1 ∨ i = 2 ∨ i = 3 ∨ i = 4 ∨ i = 5 ∨ i = 6 by omega) with rfl | rfl | rfl | rfl | rfl | rfl | rfl <;> rfl
    have h1 := hp i
    have h2 := hb i
    rw [e, wrap64 (n := pre L i + L.getD i 0) (by omega), wrap64 (n := (i : Int) + 1) (by omega)]
    rfl
  · unfold D_plan_Make_L0
    rw [cond_dec, if_neg (by omega)]
theorem plan_Make (h4 : OpsOk a4) (h6 : OpsOk a6) : D_plan_Make a0 a1 a2 a3 a4 a5 a6 a7 a8 = some (planF a0 a1.length a2.length a3 a4 a5 a6 a7 a8) := by
  unfold D_plan_Make planF
  rw [header_Check h4 h6]
  simp only [Option.bind_some]
  by_cases h : hchk a0 a1.length a2.length a3 a4 a5 a6 a7 a8 = 0
  · rw [decide_eq_false (fun c => c h), cond_false, if_neg (fun c => c h), plan_sizes h4 h6 h]
    have s := sfacts h4 h6 h
    have f := hfacts h4 h6 h
    have g1 := f.mode; have g2 := f.len; have g3 := f.bud; have g4 := s.xs; have g5 := s.ts; have g6 := s.r; have g7 := s.r'; have g8 := s.tp; have g9 := s.sl
    have hl : (cond (decide (a0 = 3)) (some a7) (some (1 : Int))) = some (least a0 a7) := by
      unfold least
      rw [cond_dec]
      split <;> rfl
    have hln : 0 ≤ least a0 a7 ∧ least a0 a7 ≤ 65535 := by unfold least; split <;> omega
    simp only [Option.bind_some]
    rw [hl]
    simp only [Option.bind_some]
    rw [s_need s (by omega)]
    simp only [Option.bind_some]
    rw [plan_sum s]
    simp only [Option.bind_some, cond_dec]
    by_cases c : a8 < fixI a1.length a2.length a3 a5 + tapeI a0 a4 a6 + least a0 a7 * slotI a0 a1.length a3 a4
    · rw [if_pos c, if_pos c]
    · rw [if_neg c, if_neg c]
      have hfx : 0 ≤ fixI a1.length a2.length a3 a5 ∧ fixI a1.length a2.length a3 a5 ≤ 1000 := by unfold fixI; omega
      by_cases c3 : a0 = 3
      · rw [if_neg (fun k => k c3), if_pos c3]
        unfold least
        rw [if_pos c3]
      · rw [if_pos c3, if_neg c3, gd_dec (by omega)]
        unfold least at c
        rw [if_neg c3] at c
        generalize fixI a1.length a2.length a3 a5 = fx at *
        generalize tapeI a0 a4 a6 = tp at *
        generalize slotI a0 a1.length a3 a4 = sl at *
        rw [wrap64 (n := a8 - fx) (by omega), wrap64 (n := a8 - fx - tp) (by omega), tdiv_nn (by omega)]
        have hd1 : 0 ≤ (a8 - fx - tp) / sl := Int.ediv_nonneg (by omega) (by omega)
        have hd2 : (a8 - fx - tp) / sl ≤ a8 - fx - tp := Int.ediv_le_self _ (by omega)
        rw [wrap64 (by omega)]
  · rw [decide_eq_true h, cond_true, if_pos h]
theorem ref34_Make (h4 : OpsOk a4) (h6 : OpsOk a6) : D_ref34_Make a0 a1 a2 a3 a4 a5 a6 a7 a8 = some (planF a0 a1.length a2.length a3 a4 a5 a6 a7 a8) := by
  unfold D_ref34_Make planF
  rw [ref33_Check h4 h6]
  simp only [Option.bind_some]
  by_cases h : hchk a0 a1.length a2.length a3 a4 a5 a6 a7 a8 = 0
  · have s := sfacts h4 h6 h
    have f := hfacts h4 h6 h
    rw [decide_eq_false (fun c => c h), cond_false, if_neg (fun c => c h), ref34_fixed s, ref34_tape h4 h6 h, ref34_slot h4 h6 h]
    have g1 := f.mode; have g2 := f.len; have g3 := f.bud; have g4 := s.xs; have g5 := s.ts; have g6 := s.r; have g7 := s.r'; have g8 := s.tp; have g9 := s.sl
    have hfx : 0 ≤ fixI a1.length a2.length a3 a5 ∧ fixI a1.length a2.length a3 a5 ≤ 1000 := by unfold fixI; omega
    have hln : 0 ≤ least a0 a7 ∧ least a0 a7 ≤ 65535 := by unfold least; split <;> omega
    simp only [Option.bind_some]
    generalize fixI a1.length a2.length a3 a5 = fx at *
    generalize tapeI a0 a4 a6 = tp at *
    generalize slotI a0 a1.length a3 a4 = sl at *
    have hl : (cond (decide (a0 = 3)) (some ((fx, tp, sl, a7) : Int × Int × Int × Int)) (some (fx, tp, sl, 1))) = some (fx, tp, sl, least a0 a7) := by
      unfold least
      rw [cond_dec]
      split <;> rfl
    rw [hl]
    simp only [Option.bind_some]
    have hm := mul_in (s := sl) (n := least a0 a7) (by omega) (by omega)
    rw [Int.mul_comm] at hm
    rw [wrap64 (n := fx + tp) (by omega), wrap64 (n := least a0 a7 * sl) (by omega), wrap64 (by omega), cond_dec]
    by_cases c : a8 < fx + tp + least a0 a7 * sl
    · rw [if_pos c, if_pos c]
    · rw [if_neg c, if_neg c]
      by_cases c3 : a0 = 3
      · have key : loopN (D_ref34_Make_L0 a0 a8) BIG (fx, tp, sl, least a0 a7) = some (fx, tp, sl, least a0 a7) := by
          rw [show BIG = 18446744073709551615 + 1 from rfl, loopN_succ]
          unfold D_ref34_Make_L0
          rw [cond_dec, if_neg (fun k => k c3)]
          rfl
        rw [key, if_pos c3]
        unfold least
        rw [if_pos c3]
        rfl
      · have key : loopN (D_ref34_Make_L0 a0 a8) BIG (fx, tp, sl, least a0 a7) = some (fx, tp, sl, (a8 - fx - tp) / sl) := by
          refine loop_eq (fun st => ∃ n : Int, st = (fx, tp, sl, n) ∧ 1 ≤ n ∧ n ≤ 1048577 ∧ fx + tp + n * sl ≤ a8) (fun st => (2000000 - st.2.2.2).toNat) ⟨least a0 a7, rfl, by unfold least; rw [if_neg c3]; omega, by omega, by omega⟩ (by simp; omega) ?_
          rintro _ ⟨n, rfl, n1, n2, n3⟩
          unfold D_ref34_Make_L0
          simp only
          have hm := mul_in (s := sl) (n := n + 1 - 2) (by omega) (by omega)
          have hx : (n + 1) * sl = sl * (n + 1 - 2) + 2 * sl := by rw [Int.mul_sub, Int.mul_comm]; omega
          have hx2 : (n + 1) * sl = n * sl + sl := by rw [Int.add_mul, Int.one_mul]
          rw [cond_dec, if_pos c3, wrap64 (n := n + 1) (by omega), wrap64 (n := fx + tp) (by omega), wrap64 (n := (n + 1) * sl) (by omega), wrap64 (by omega), cond_dec]
          have hnsl : n ≤ n * sl := by
            have := Int.mul_le_mul_of_nonneg_left (show 1 ≤ sl by omega) (show 0 ≤ n by omega)
            omega
          by_cases c5 : fx + tp + (n + 1) * sl ≤ a8
          · rw [if_pos c5]
            left
            exact ⟨_, rfl, ⟨n + 1, rfl, by omega, by omega, c5⟩, by simp only; omega⟩
          · rw [if_neg c5]
            right
            have hd : (a8 - fx - tp) / sl = n := by
              have e1 : a8 - fx - tp = (a8 - fx - tp - n * sl) + n * sl := by omega
              rw [e1, Int.add_mul_ediv_right _ _ (by omega), Int.ediv_eq_zero_of_lt (by omega) (by omega), Int.zero_add]
            rw [hd]
        rw [key, if_neg c3]
        rfl
  · rw [decide_eq_true h, cond_true, if_pos h]
theorem ref34_Need_eq {n : Int} (h4 : OpsOk a4) (h6 : OpsOk a6) : D_ref34_Need a0 a1 a2 a3 a4 a5 a6 a7 a8 n = some (if hchk a0 a1.length a2.length a3 a4 a5 a6 a7 a8 ≠ 0 then (0, hchk a0 a1.length a2.length a3 a4 a5 a6 a7 a8) else if n < 0 then (0, 2) else if 1048576 < n then (0, 2) else (fixI a1.length a2.length a3 a5 + tapeI a0 a4 a6 + n * slotI a0 a1.length a3 a4, 0)) := by
  unfold D_ref34_Need
  rw [ref33_Check h4 h6]
  simp only [Option.bind_some]
  by_cases h : hchk a0 a1.length a2.length a3 a4 a5 a6 a7 a8 = 0
  · have s := sfacts h4 h6 h
    rw [decide_eq_false (fun c => c h), cond_false, if_neg (fun c => c h), ref34_fixed s, ref34_tape h4 h6 h, ref34_slot h4 h6 h]
    have g4 := s.xs; have g5 := s.ts; have g6 := s.r; have g7 := s.r'; have g8 := s.tp; have g9 := s.sl
    have hfx : 0 ≤ fixI a1.length a2.length a3 a5 ∧ fixI a1.length a2.length a3 a5 ≤ 1000 := by unfold fixI; omega
    simp only [cond_dec, Option.bind_some]
    by_cases c1 : n < 0
    · rw [if_pos c1, if_pos c1]
    rw [if_neg c1, if_neg c1]
    by_cases c2 : 1048576 < n
    · rw [if_pos c2, if_pos c2]
    rw [if_neg c2, if_neg c2]
    have hm := mul_in (s := slotI a0 a1.length a3 a4) (n := n) (by omega) (by omega)
    rw [Int.mul_comm] at hm
    rw [wrap64 (n := fixI a1.length a2.length a3 a5 + tapeI a0 a4 a6) (by omega), wrap64 (n := n * slotI a0 a1.length a3 a4) (by omega), wrap64 (by omega)]
  · rw [decide_eq_true h, cond_true, if_pos h]
theorem plan_Need_eq {n : Int} (h4 : OpsOk a4) (h6 : OpsOk a6) : D_plan_Need a0 a1 a2 a3 a4 a5 a6 a7 a8 n = some (if hchk a0 a1.length a2.length a3 a4 a5 a6 a7 a8 ≠ 0 then (0, hchk a0 a1.length a2.length a3 a4 a5 a6 a7 a8) else if n < 0 then (0, 2) else if 1048576 < n then (0, 2) else (fixI a1.length a2.length a3 a5 + tapeI a0 a4 a6 + n * slotI a0 a1.length a3 a4, 0)) := by
  unfold D_plan_Need
  rw [header_Check h4 h6]
  simp only [Option.bind_some]
  by_cases h : hchk a0 a1.length a2.length a3 a4 a5 a6 a7 a8 = 0
  · have s := sfacts h4 h6 h
    rw [decide_eq_false (fun c => c h), cond_false, if_neg (fun c => c h), plan_sizes h4 h6 h]
    simp only [cond_dec, Option.bind_some]
    by_cases c1 : n < 0
    · rw [if_pos c1, if_pos c1]
    rw [if_neg c1, if_neg c1]
    by_cases c2 : 1048576 < n
    · rw [if_pos c2, if_pos c2]
    rw [if_neg c2, if_neg c2, s_need s (by omega)]
    rfl
  · rw [decide_eq_true h, cond_true, if_pos h]
theorem places_eq (h4 : OpsOk a4) (h6 : OpsOk a6) : ∃ r, D_plan_Places a0 a1 a2 a3 a4 a5 a6 a7 a8 = some r ∧ D_ref34_Places a0 a1 a2 a3 a4 a5 a6 a7 a8 = some r ∧ r.2.length ≤ 10 := by
  unfold D_plan_Places D_ref34_Places
  rw [plan_Make h4 h6, ref34_Make h4 h6]
  simp only [Option.bind_some, cond_dec]
  by_cases h : (planF a0 a1.length a2.length a3 a4 a5 a6 a7 a8).2.2.2.2 ≠ 0
  · rw [if_pos h, if_pos h]
    exact ⟨_, rfl, rfl, by simp⟩
  rw [if_neg h, if_neg h]
  have hc : hchk a0 a1.length a2.length a3 a4 a5 a6 a7 a8 = 0 := by
    by_cases hc : hchk a0 a1.length a2.length a3 a4 a5 a6 a7 a8 = 0
    · exact hc
    · exfalso
      apply h
      unfold planF
      rw [if_pos hc]
      exact hc
  have s := sfacts h4 h6 hc
  have f := hfacts h4 h6 hc
  rw [plan_sizes h4 h6 hc]
  simp only [Option.bind_some]
  have g1 := f.mode; have g2 := f.len; have g3 := f.bud; have g4 := s.xs; have g5 := s.ts; have g6 := s.r; have g7 := s.r'; have g8 := s.tp; have g9 := s.sl
  have hfx : 0 ≤ fixI a1.length a2.length a3 a5 ∧ fixI a1.length a2.length a3 a5 ≤ 1000 := by unfold fixI; omega
  have hpl : (planF a0 a1.length a2.length a3 a4 a5 a6 a7 a8).2.1 = tapeI a0 a4 a6 ∧ (planF a0 a1.length a2.length a3 a4 a5 a6 a7 a8).2.2.1 = slotI a0 a1.length a3 a4 ∧ 0 ≤ (planF a0 a1.length a2.length a3 a4 a5 a6 a7 a8).2.2.2.1 ∧ (planF a0 a1.length a2.length a3 a4 a5 a6 a7 a8).2.2.2.1 ≤ 1048576 := by
    unfold planF at h ⊢
    rw [if_neg (fun c => c hc)] at h ⊢
    split at h
    · exact (h (by simp)).elim
    · rename_i c
      rw [if_neg c]
      refine ⟨rfl, rfl, ?_, ?_⟩
      · simp only
        split
        · omega
        · rename_i c3
          unfold least at c
          rw [if_neg c3] at c
          exact Int.ediv_nonneg (by omega) (by omega)
      · simp only
        split
        · omega
        · rename_i c3
          unfold least at c
          rw [if_neg c3] at c
          have hd2 : (a8 - fixI a1.length a2.length a3 a5 - tapeI a0 a4 a6) / slotI a0 a1.length a3 a4 ≤ a8 - fixI a1.length a2.length a3 a5 - tapeI a0 a4 a6 := Int.ediv_le_self _ (by omega)
          omega
  obtain ⟨p1, p2, p3, p4⟩ := hpl
  generalize planF a0 a1.length a2.length a3 a4 a5 a6 a7 a8 = pl at *
  have hb := s_list (n := pl.2.2.2.1) s ⟨p3, p4⟩
  have hp := pre_in hb
  rw [plan_lay hb]
  refine ⟨(0, _), rfl, ?_, by simp⟩
  have hmul := mul_in (s := slotI a0 a1.length a3 a4) (n := pl.2.2.2.1) (by omega) ⟨p3, p4⟩
  generalize hL : ([(a2.length : Int), a1.length, a3, a5, max a3 a5, a1.length, a2.length, tapeI a0 a4 a6, slotI a0 a1.length a3 a4 * pl.2.2.2.1] : List Int) = L at *
  have key : loopN (D_ref34_Places_L0 a1 a2 a3 a5 pl) BIG (0, (List.range (0 + 1)).map (pre L)) = some ((List.range 10).map (pre L)) := by
    refine loop_nat (n := 9) (fun i => (List.range (i + 1)).map (pre L)) (by omega) (fun i hi => ?_) ?_
    · unfold D_ref34_Places_L0
      rw [cond_dec, if_pos (by omega), ix_in (show i < ((List.range (i + 1)).map (pre L)).length by simp), ix_in (show i < 9 by omega)]
      simp only [Option.bind_some]
      have e1 : ((List.range (i + 1)).map (pre L))[i]? = some (pre L i) := by
        rw [List.getElem?_map, List.getElem?_range (by omega)]
        rfl
      rw [e1]
      simp only [Option.bind_some]
      have e2 : List.getD [((a2.length : Nat) : Int), ((a1.length : Nat) : Int), a3, a5, max a3 a5, ((a1.length : Nat) : Int), ((a2.length : Nat) : Int), pl.2.1, IntKind.i64.wrap (pl.2.2.2.1 * pl.2.2.1)] i 0 = L.getD i 0 := by
        rw [p1, p2, Int.mul_comm, wrap64 (by omega)]
        rw [hL]
      have h1 := hp i
      have h2 := hb i
      rw [e2, gd_fits (by simp; omega) (by omega), wrap64 (n := pre L i + L.getD i 0) (by omega), wrap64 (n := (i : Int) + 1) (by omega), List.range_succ (n := i + 1), List.map_append]
      rfl
    · unfold D_ref34_Places_L0
      rw [cond_dec, if_neg (by omega)]
  have key : loopN (D_ref34_Places_L0 a1 a2 a3 a5 pl) BIG (0, [0]) = _ := key
  rw [key]
  rfl
end
end Go.V
