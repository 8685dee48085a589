/- Actions, their words. -/
import Derived.Test.YtnadgednadlcdaaDoorD26
import Derived.Test.YtnadgednadlcdaaDoorV25
namespace Go.V
set_option linter.unusedVariables false
set_option linter.unusedSimpArgs false
open Go.Ab
set_option linter.unusedVariables false
set_option linter.unusedSimpArgs false
set_option maxRecDepth 100000
theorem condS {α : Type} (a : Bool) (x y : α) : cond a (some x) (some y) = some (cond a x y) := by cases a <;> rfl
theorem cnd (a x y : Bool) : (cond a x y = true) ↔ ((a = true ∧ x = true) ∨ (¬a = true ∧ y = true)) := by cases a <;> simp
theorem boolD {b : Bool} {p : Prop} [Decidable p] (h : b = true ↔ p) : b = decide p := by
  by_cases hp : p
  · rw [decide_eq_true hp, h.2 hp]
  · rw [decide_eq_false hp, Bool.eq_false_iff]; exact fun e => hp (h.1 e)
/-- Is an action right? -/
def actOk (k n : Int) : Prop := (k = 1 ∧ 1 ≤ n ∧ n ≤ 65535) ∨ (2 ≤ k ∧ k ≤ 4 ∧ 0 ≤ n ∧ n ≤ 1048575) ∨ (5 ≤ k ∧ k ≤ 9 ∧ n = 0)
instance (k n : Int) : Decidable (actOk k n) := by unfold actOk; infer_instance
theorem act_Right (k n : Int) : D_action_Right k n = some (decide (actOk k n)) := by
  unfold D_action_Right D_action_numbered
  simp only [condS, Option.bind_some]
  refine congrArg some (boolD ?_)
  simp only [cnd, decide_eq_true_eq, actOk, Bool.false_eq_true, and_false, false_and, or_false, false_or, and_true, true_and]
  omega
theorem ref_Right26 (k n : Int) : D_ref26_Right k n = some (decide (actOk k n)) := by
  unfold D_ref26_Right D_ref26_most
  have h : ∀ (a b : Bool) (x y z : Int × Int) (f : Int × Int → Option Bool), ((cond a (some x) (cond b (some y) (some z))).bind f) = cond a (f x) (cond b (f y) (f z)) := fun a b x y z f => by cases a <;> cases b <;> rfl
  simp only [condS, Option.bind_some]
  refine congrArg some (boolD ?_)
  by_cases h1 : k = 1
  · subst h1
    simp only [cnd, decide_eq_true_eq, actOk, Bool.false_eq_true, decide_true, cond_true, and_false, false_and, or_false, false_or, and_true, true_and]
    omega
  · rw [decide_eq_false h1, cond_false]
    by_cases h2 : 2 ≤ k ∧ k ≤ 4
    · rw [decide_eq_true h2.1, cond_true, decide_eq_true h2.2, cond_true]
      simp only [cnd, decide_eq_true_eq, actOk, Bool.false_eq_true, and_false, false_and, or_false, false_or, and_true, true_and]
      omega
    · have : cond (decide (2 ≤ k)) (cond (decide (k ≤ 4)) ((0 : Int), (1048575 : Int)) (0, 0)) (0, 0) = (0, 0) := by
        by_cases h3 : 2 ≤ k
        · rw [decide_eq_true h3, cond_true, decide_eq_false (by omega), cond_false]
        · rw [decide_eq_false h3, cond_false]
      rw [this]
      simp only [cnd, decide_eq_true_eq, actOk, Bool.false_eq_true, and_false, false_and, or_false, false_or, and_true, true_and]
      omega
theorem bitV_or {a b : Nat} (ha : a < 18446744073709551616) (hb : b < 18446744073709551616) : bitV .u64 (· ||| ·) (a : Int) (b : Int) = ((a ||| b : Nat) : Int) := by
  unfold bitV
  have h1 : (BitVec.ofInt (IntKind.bits .u64) (a : Int) ||| BitVec.ofInt (IntKind.bits .u64) (b : Int)).toNat = a ||| b := by
    rw [BitVec.ofInt_natCast, BitVec.ofInt_natCast, BitVec.toNat_or, BitVec.toNat_ofNat, BitVec.toNat_ofNat]
    rw [show 2 ^ IntKind.bits .u64 = 18446744073709551616 from rfl, Nat.mod_eq_of_lt ha, Nat.mod_eq_of_lt hb]
  show IntKind.u64.wrap _ = _
  rw [h1, wrapU_in]
  have : a ||| b < 2 ^ 64 := Nat.or_lt_two_pow ha hb
  omega
theorem bitV_and {a b : Nat} (ha : a < 18446744073709551616) (hb : b < 18446744073709551616) : bitV .u64 (· &&& ·) (a : Int) (b : Int) = ((a &&& b : Nat) : Int) := by
  unfold bitV
  have h1 : (BitVec.ofInt (IntKind.bits .u64) (a : Int) &&& BitVec.ofInt (IntKind.bits .u64) (b : Int)).toNat = a &&& b := by
    rw [BitVec.ofInt_natCast, BitVec.ofInt_natCast, BitVec.toNat_and, BitVec.toNat_ofNat, BitVec.toNat_ofNat]
    rw [show 2 ^ IntKind.bits .u64 = 18446744073709551616 from rfl, Nat.mod_eq_of_lt ha, Nat.mod_eq_of_lt hb]
  show IntKind.u64.wrap _ = _
  rw [h1, wrapU_in]
  have : a &&& b ≤ a := Nat.and_le_left
  omega
theorem pow32 : (2 : Int) ^ (min (Int.toNat 32) (IntKind.bits .u64)) = 4294967296 := rfl
theorem act_Word (k n : Int) : D_action_Word k n = some (if actOk k n then (k * 4294967296 + n, 0) else (0, 2)) := by
  unfold D_action_Word
  rw [act_Right]
  simp only [Option.bind_some, condS]
  refine congrArg some ?_
  by_cases h : actOk k n
  · rw [decide_eq_true h, if_pos h]
    have h' := h
    unfold actOk at h'
    obtain ⟨a, rfl⟩ := Int.eq_ofNat_of_zero_le (show 0 ≤ k by omega)
    obtain ⟨b, rfl⟩ := Int.eq_ofNat_of_zero_le (show 0 ≤ n by omega)
    rw [pow32, wrapU_in (n := (a : Int)) (by omega), wrapU_in (n := (a : Int) * 4294967296) (by omega), wrapU_in (n := (b : Int)) (by omega)]
    rw [show (a : Int) * 4294967296 = ((a * 4294967296 : Nat) : Int) by omega, bitV_or (by omega) (by omega)]
    have : a * 4294967296 ||| b = a * 4294967296 + b := by
      have := Nat.shiftLeft_add_eq_or_of_lt (show b < 2 ^ 32 by omega) a
      rw [Nat.shiftLeft_eq] at this
      exact this.symm
    rw [this]
    show ((((a * 4294967296 + b : Nat) : Int)), (0 : Int)) = _
    congr 1
  · rw [decide_eq_false h, if_neg h]
    rfl
theorem ref_Word26 (k n : Int) : D_ref26_Word k n = some (if actOk k n then (k * 4294967296 + n, 0) else (0, 2)) := by
  unfold D_ref26_Word
  rw [ref_Right26]
  simp only [Option.bind_some, condS]
  refine congrArg some ?_
  by_cases h : actOk k n
  · rw [decide_eq_true h, if_pos h]
    have h' := h
    unfold actOk at h'
    rw [wrapU_in (n := k) (by omega), wrapU_in (n := k * 4294967296) (by omega), wrapU_in (n := n) (by omega), wrapU_in (n := k * 4294967296 + n) (by omega)]
    rfl
  · rw [decide_eq_false h, if_neg h]
    rfl
theorem act_Read {w : Int} (h0 : 0 ≤ w) (h1 : w < 18446744073709551616) : D_action_Read w = some (if actOk (w / 4294967296) (w % 4294967296) then (w / 4294967296, w % 4294967296, 0) else (0, 0, 3)) := by
  obtain ⟨a, rfl⟩ := Int.eq_ofNat_of_zero_le h0
  have e1 : IntKind.i64.wrap (Int.fdiv (a : Int) (2 ^ (min (Int.toNat 32) (IntKind.bits .u64)))) = (a : Int) / 4294967296 := by
    rw [pow32, Int.fdiv_eq_ediv_of_nonneg _ (by omega), wrap64 (by omega)]
  have e2 : IntKind.i64.wrap (bitV .u64 (· &&& ·) (a : Int) 4294967295) = (a : Int) % 4294967296 := by
    rw [show (4294967295 : Int) = ((4294967295 : Nat) : Int) from rfl, bitV_and (by omega) (by omega)]
    have : a &&& 4294967295 = a % 4294967296 := Nat.and_two_pow_sub_one_eq_mod a 32
    rw [this, wrap64 (by omega)]
    omega
  unfold D_action_Read
  rw [e1, e2, act_Right]
  simp only [Option.bind_some, condS]
  refine congrArg some ?_
  by_cases h : actOk ((a : Int) / 4294967296) ((a : Int) % 4294967296)
  · rw [decide_eq_true h, if_pos h]; rfl
  · rw [decide_eq_false h, if_neg h]; rfl
theorem ref_Read26 {w : Int} (h0 : 0 ≤ w) (h1 : w < 18446744073709551616) : D_ref26_Read w = some (if actOk (w / 4294967296) (w % 4294967296) then (w / 4294967296, w % 4294967296, 0) else (0, 0, 3)) := by
  unfold D_ref26_Read
  rw [tdiv_nn h0, tmod_nn h0, wrapU_in (by omega), wrap64 (n := w / 4294967296) (by omega), wrap64 (n := w % 4294967296) (by omega), ref_Right26]
  simp only [Option.bind_some, condS]
  refine congrArg some ?_
  by_cases h9 : 9 < w / 4294967296
  · rw [decide_eq_true h9, if_neg (by unfold actOk; omega)]; rfl
  · rw [decide_eq_false h9, cond_false]
    by_cases h : actOk (w / 4294967296) (w % 4294967296)
    · rw [decide_eq_true h, if_pos h]; rfl
    · rw [decide_eq_false h, if_neg h]; rfl
theorem goes26 : D_law26_goes = some true := by kernel_rfl
theorem law26_words (a0 a1 a2 : Int) (f2 : Fine (.int .u64) a2) : D_law26_ActionWords a0 a1 a2 = some true := by
  obtain ⟨k0, k1⟩ : 0 ≤ a2 ∧ a2 ≤ 18446744073709551615 := f2
  unfold D_law26_ActionWords
  rw [act_Word, ref_Word26, act_Read k0 (by omega), ref_Read26 k0 (by omega), act_Right, ref_Right26]
  simp only [Option.bind_some, goes26, decide_true, cond_true, Bool.and_self, BEq.rfl]
end Go.V
