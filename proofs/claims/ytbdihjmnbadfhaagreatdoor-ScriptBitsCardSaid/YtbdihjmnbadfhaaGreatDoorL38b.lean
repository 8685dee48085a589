/- The bits of words, in plain Lean. -/
import Derived.Test.YtbdihjmnbadfhaaGreatDoorD38b
import Derived.Test.YtbdihjmnbadfhaaGreatDoorV25
import Derived.KernelRfl
namespace Go.V
set_option linter.unusedVariables false
set_option linter.unusedSimpArgs false
open Go.Ab
set_option linter.unusedVariables false
set_option linter.unusedSimpArgs false
theorem goes38 : D_law38_goes = some true := by kernel_rfl
theorem bitV_and {a b : Nat} (ha : a < 18446744073709551616) (hb : b < 18446744073709551616) : bitV .u64 (· &&& ·) (a : Int) (b : Int) = ((a &&& b : Nat) : Int) := by
  unfold bitV
  have h1 : (BitVec.ofInt (IntKind.bits .u64) (a : Int) &&& BitVec.ofInt (IntKind.bits .u64) (b : Int)).toNat = a &&& b := by
    rw [BitVec.ofInt_natCast, BitVec.ofInt_natCast, BitVec.toNat_and, BitVec.toNat_ofNat, BitVec.toNat_ofNat]
    rw [show 2 ^ IntKind.bits .u64 = 18446744073709551616 from rfl, Nat.mod_eq_of_lt ha, Nat.mod_eq_of_lt hb]
  show IntKind.u64.wrap _ = _
  rw [h1, wrapU_in]
  have : a &&& b ≤ a := Nat.and_le_left
  omega
/-- A bit of words. -/
def bitA (w : List Int) (i : Nat) : Bool := decide ((w.getD (i / 64) 0).toNat / 2 ^ (i % 64) % 2 = 1)
theorem rd_word {w : List Int} {i : Nat} (h : i < 64 * w.length) : rd w ((i / 64 : Nat) : Int) = some (w.getD (i / 64) 0) := rd_getD (by omega)
theorem word_in {w : List Int} (hw : ∀ x ∈ w, 0 ≤ x ∧ x ≤ 18446744073709551615) (j : Nat) : 0 ≤ w.getD j 0 ∧ w.getD j 0 ≤ 18446744073709551615 := by
  rcases Nat.lt_or_ge j w.length with h | h
  · rw [List.getD_eq_getElem?_getD, List.getElem?_eq_getElem h]
    exact hw _ (List.getElem_mem h)
  · rw [List.getD_eq_getElem?_getD, List.getElem?_eq_none h]
    exact ⟨Int.le_refl 0, by decide⟩
theorem feed_ok {w : List Int} (hw : ∀ x ∈ w, 0 ≤ x ∧ x ≤ 18446744073709551615) {i : Nat} (h : i < 64 * w.length) (hl : w.length ≤ 100) : D_script_feed_1 ((i : Int) - 1) w = some (bitA w i, (i : Int)) := by
  unfold D_script_feed_1
  have e1 : wI ((i : Int) - 1 + 1) = (i : Int) := by
    show IntKind.i64.wrap _ = _
    rw [show (i : Int) - 1 + 1 = (i : Int) by omega, wrap64 (by omega)]
  have e2 : wI (Int.tdiv (i : Int) 64) = ((i / 64 : Nat) : Int) := by
    show IntKind.i64.wrap _ = _
    rw [show Int.tdiv (i : Int) 64 = ((i / 64 : Nat) : Int) from rfl, wrap64 (by omega)]
  have e3 : Int.tmod (i : Int) 64 = ((i % 64 : Nat) : Int) := rfl
  rw [e1, e2, e3, rd_word h]
  simp only [Option.bind_some]
  obtain ⟨h1, h2⟩ := word_in hw (i / 64)
  unfold bitA
  generalize w.getD (i / 64) 0 = x at *
  obtain ⟨x, rfl⟩ := Int.eq_ofNat_of_zero_le h1
  rw [decide_eq_true (show (0 : Int) ≤ ((i % 64 : Nat) : Int) by omega)]
  have e4 : min (tN ((i % 64 : Nat) : Int)) (IntKind.bits .u64) = i % 64 := by
    show min (i % 64) 64 = i % 64
    omega
  rw [e4]
  have e5 : Int.fdiv (x : Int) (2 ^ (i % 64)) = ((x / 2 ^ (i % 64) : Nat) : Int) := by
    rw [Int.fdiv_eq_ediv_of_nonneg _ (Int.le_of_lt (Int.pow_pos (by decide))), Int.natCast_ediv]
    rfl
  have e6 : x / 2 ^ (i % 64) < 18446744073709551616 := Nat.lt_of_le_of_lt (Nat.div_le_self _ _) (by omega)
  rw [e5, show (1 : Int) = ((1 : Nat) : Int) from rfl, bitV_and e6 (by decide), Nat.and_one_is_mod, Int.toNat_natCast]
  show some (_, _) = _
  have : decide (((x / 2 ^ (i % 64) % 2 : Nat) : Int) = ((1 : Nat) : Int)) = decide (x / 2 ^ (i % 64) % 2 = 1) := decide_eq_decide.2 (by omega)
  rw [this]
def bitsA (w : List Int) (n : Nat) : List Bool := (List.range n).map (bitA w)
theorem bitsA_succ (w : List Int) (n : Nat) : bitsA w (n + 1) = bitsA w n ++ [bitA w n] := by
  unfold bitsA
  rw [List.range_succ, List.map_append]
  rfl
theorem bitsA_len (w : List Int) (n : Nat) : (bitsA w n).length = n := by simp [bitsA]
theorem bits_D {w : List Int} (hw : ∀ x ∈ w, 0 ≤ x ∧ x ≤ 18446744073709551615) {n : Nat} (h : n ≤ 64 * w.length) (hl : w.length ≤ 100) : loopN (D_script_Bits_L0 (n : Int) w) BIG ((0, (-1), [])) = some ((n : Int) - 1, bitsA w n) := by
  have := loop_nat (f := D_script_Bits_L0 (n : Int) w) (n := n) (F := fun i => ((i : Int) - 1, bitsA w i)) (c := ((n : Int) - 1, bitsA w n)) (by omega) (fun i hi => ?_) ?_
  · exact this
  · unfold D_script_Bits_L0
    simp only
    rw [decide_eq_true (show (i : Int) < (n : Int) by omega), cond_true, feed_ok hw (by omega) hl]
    simp only [Option.bind_some]
    have hb : ln (bitsA w i) = i := bitsA_len w i
    rw [hb, gd_fits (by omega) (by decide), bitsA_succ]
    have e1 : wI ((i : Int) + 1) = ((i + 1 : Nat) : Int) := by
      show IntKind.i64.wrap _ = _
      rw [wrap64 (by omega)]
      omega
    have e2 : ((i + 1 : Nat) : Int) - 1 = (i : Int) := by omega
    rw [e1, e2]
  · unfold D_script_Bits_L0
    simp only
    rw [decide_eq_false (show ¬(n : Int) < (n : Int) by omega), cond_false]
theorem half_ok {w : List Int} (hw : ∀ x ∈ w, 0 ≤ x ∧ x ≤ 18446744073709551615) (i : Nat) (l : List Bool) : loopN (D_ref38_Bits_L0 ((i : Int), l)) BIG ((0, w.getD (i / 64) 0)) = some (((w.getD (i / 64) 0).toNat / 2 ^ (i % 64) : Nat) : Int) := by
  obtain ⟨h1, h2⟩ := word_in hw (i / 64)
  generalize w.getD (i / 64) 0 = x at *
  obtain ⟨x, rfl⟩ := Int.eq_ofNat_of_zero_le h1
  rw [Int.toNat_natCast]
  have := loop_nat (f := D_ref38_Bits_L0 ((i : Int), l)) (n := i % 64) (F := fun k => ((x / 2 ^ k : Nat) : Int)) (c := ((x / 2 ^ (i % 64) : Nat) : Int)) (by omega) (fun k hk => ?_) ?_
  · rw [← this]
    simp
  · unfold D_ref38_Bits_L0
    simp only
    have e3 : Int.tmod (i : Int) 64 = ((i % 64 : Nat) : Int) := rfl
    rw [e3, decide_eq_true (show (k : Int) < ((i % 64 : Nat) : Int) by omega), cond_true]
    have e1 : wI ((k : Int) + 1) = ((k + 1 : Nat) : Int) := by
      show IntKind.i64.wrap _ = _
      rw [wrap64 (by omega)]
      omega
    have e2 : wU (Int.tdiv ((x / 2 ^ k : Nat) : Int) 2) = ((x / 2 ^ (k + 1) : Nat) : Int) := by
      show IntKind.u64.wrap _ = _
      rw [show Int.tdiv ((x / 2 ^ k : Nat) : Int) 2 = ((x / 2 ^ k / 2 : Nat) : Int) from rfl, Nat.div_div_eq_div_mul, show 2 ^ k * 2 = 2 ^ (k + 1) from rfl]
      have : x / 2 ^ (k + 1) ≤ x := Nat.div_le_self _ _
      generalize x / 2 ^ (k + 1) = z at this ⊢
      exact wrapU_in (by omega)
    rw [e1, e2]
  · unfold D_ref38_Bits_L0
    simp only
    have e3 : Int.tmod (i : Int) 64 = ((i % 64 : Nat) : Int) := rfl
    rw [e3, decide_eq_false (show ¬((i % 64 : Nat) : Int) < ((i % 64 : Nat) : Int) by omega), cond_false]
theorem bits_R {w : List Int} (hw : ∀ x ∈ w, 0 ≤ x ∧ x ≤ 18446744073709551615) {n : Nat} (h : n ≤ 64 * w.length) (hl : w.length ≤ 100) : loopN (D_ref38_Bits_L1 (n : Int) w) BIG ((0, [])) = some (bitsA w n) := by
  refine loop_nat (f := D_ref38_Bits_L1 (n : Int) w) (n := n) (F := fun i => bitsA w i) (by omega) (fun i hi => ?_) ?_
  · unfold D_ref38_Bits_L1
    simp only
    have e2 : wI (Int.tdiv (i : Int) 64) = ((i / 64 : Nat) : Int) := by
      show IntKind.i64.wrap _ = _
      rw [show Int.tdiv (i : Int) 64 = ((i / 64 : Nat) : Int) from rfl, wrap64 (by omega)]
    rw [decide_eq_true (show (i : Int) < (n : Int) by omega), cond_true, e2, rd_word (by omega)]
    simp only [Option.bind_some]
    rw [half_ok hw]
    simp only [Option.bind_some]
    have hb : ln (bitsA w i) = i := bitsA_len w i
    rw [hb, gd_fits (by omega) (by decide), bitsA_succ]
    have e1 : wI ((i : Int) + 1) = ((i + 1 : Nat) : Int) := by
      show IntKind.i64.wrap _ = _
      rw [wrap64 (by omega)]
      omega
    have e3 : decide (Int.tmod (((w.getD (i / 64) 0).toNat / 2 ^ (i % 64) : Nat) : Int) 2 = 1) = bitA w i := by
      unfold bitA
      refine decide_eq_decide.2 ?_
      rw [show Int.tmod (((w.getD (i / 64) 0).toNat / 2 ^ (i % 64) : Nat) : Int) 2 = (((w.getD (i / 64) 0).toNat / 2 ^ (i % 64) % 2 : Nat) : Int) from rfl]
      omega
    rw [e1, e3]
  · unfold D_ref38_Bits_L1
    simp only
    rw [decide_eq_false (show ¬(n : Int) < (n : Int) by omega), cond_false]
theorem bools_self (l : List Bool) (hl : l.length ≤ 1000000) : D_ref16_Bools l l = some true := by
  unfold D_ref16_Bools
  rw [decide_eq_false (fun h => h rfl), cond_false]
  have := loop_nat0 (f := D_ref16_Bools_L0 l l) (n := l.length) (c := .inr ()) (by omega) (fun i hi => ?_) ?_
  · rw [this]; rfl
  · unfold D_ref16_Bools_L0
    have e1 : wI ((i : Int) + 1) = ((i + 1 : Nat) : Int) := by
      show IntKind.i64.wrap _ = _
      rw [wrap64 (by omega)]
      omega
    rw [decide_eq_true (show (i : Int) < ((ln l : Nat) : Int) from by show (i : Int) < ((l.length : Nat) : Int); omega), cond_true, rd_get hi]
    simp only [Option.bind_some]
    rw [show (l[i] == l[i]) = true from beq_self_eq_true _, Bool.not_true, cond_false, e1]
  · unfold D_ref16_Bools_L0
    rw [decide_eq_false (show ¬((l.length : Nat) : Int) < ((ln l : Nat) : Int) by show ¬((l.length : Nat) : Int) < ((l.length : Nat) : Int); omega), cond_false]
theorem law38_bits (a0 : Int) (a1 : List Int) (hw : ∀ x ∈ a1, 0 ≤ x ∧ x ≤ 18446744073709551615) : D_law38_ScriptBits a0 a1 = some true := by
  unfold D_law38_ScriptBits
  by_cases h : 100 < a1.length
  · rw [decide_eq_true (show (100 : Int) < ((ln a1 : Nat) : Int) from by show (100 : Int) < ((a1.length : Nat) : Int); omega), cond_true, goes38]
    rfl
  rw [decide_eq_false (show ¬(100 : Int) < ((ln a1 : Nat) : Int) from by show ¬(100 : Int) < ((a1.length : Nat) : Int); omega), cond_false]
  unfold D_script_Bits D_ref38_Bits D_script_feed
  by_cases h0 : a0 < 0
  · rw [decide_eq_true h0, cond_true, cond_true]
    simp only [Option.bind_some]
    rw [bools_self [] (by decide), goes38]
    rfl
  rw [decide_eq_false h0, cond_false, cond_false]
  have e0 : wI (64 * ((ln a1 : Nat) : Int)) = ((64 * a1.length : Nat) : Int) := by
    show IntKind.i64.wrap (64 * ((a1.length : Nat) : Int)) = _
    rw [wrap64 (by omega)]
    omega
  rw [e0]
  by_cases h1 : ((64 * a1.length : Nat) : Int) < a0
  · rw [decide_eq_true h1, cond_true, cond_true]
    simp only [Option.bind_some]
    rw [bools_self [] (by decide), goes38]
    rfl
  rw [decide_eq_false h1, cond_false, cond_false]
  obtain ⟨n, rfl⟩ := Int.eq_ofNat_of_zero_le (show 0 ≤ a0 by omega)
  simp only [Option.bind_some]
  rw [bits_D hw (by omega) (by omega), bits_R hw (by omega) (by omega)]
  simp only [Option.bind_some]
  rw [bools_self _ (by rw [bitsA_len]; omega), goes38]
  simp only [Option.bind_some, cond_true, decide_true]
end Go.V
