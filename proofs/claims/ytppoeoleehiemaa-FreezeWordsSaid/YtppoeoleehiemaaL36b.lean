/- What is frozen, and the document's words for it: plain Lean. -/
import Derived.Test.YtppoeoleehiemaaL36
namespace Go.V
set_option linter.unusedVariables false
set_option linter.unusedSimpArgs false
open Go.Ab
set_option linter.unusedVariables false
set_option linter.unusedSimpArgs false

/-- A loop whose states are known. -/
theorem loop_steps {α δ : Type} {f : α → Option (α ⊕ δ)} {n : Nat} (F : Nat → α) {c : δ} (hn : n < 9223372036854775808) (hs : ∀ i, i < n → f (F i) = some (.inl (F (i + 1)))) (he : f (F n) = some (.inr c)) : loopN f BIG (F 0) = some c := by
  have key : ∀ k i m, i + k = n → k < m → loopN f m (F i) = some c := by
    intro k
    induction k with
    | zero =>
      intro i m h1 h2
      obtain ⟨m, rfl⟩ : ∃ m', m = m' + 1 := ⟨m - 1, by omega⟩
      have : i = n := by omega
      subst this
      show (f (F i)).bind _ = _
      rw [he]; rfl
    | succ k ih =>
      intro i m h1 h2
      obtain ⟨m, rfl⟩ : ∃ m', m = m' + 1 := ⟨m - 1, by omega⟩
      show (f (F i)).bind _ = _
      rw [hs i (by omega)]
      exact ih (i + 1) m (by omega) (by omega)
  exact key n 0 BIG (by omega) (by unfold BIG; omega)

abbrev T8 (p : Nat → Int) : Int × Int × Int × Int × Int × Int × Int × Int := (p 0, p 1, p 2, p 3, p 4, p 5, p 6, p 7)
abbrev L8 (p : Nat → Int) : List Int := [p 0, p 1, p 2, p 3, p 4, p 5, p 6, p 7]
theorem L8_get (p : Nat → Int) {j : Nat} (h : j < 8) : (L8 p).getD j 0 = p j := by
  match j, h with
  | 0, _ => rfl
  | 1, _ => rfl
  | 2, _ => rfl
  | 3, _ => rfl
  | 4, _ => rfl
  | 5, _ => rfl
  | 6, _ => rfl
  | 7, _ => rfl
def upd1 (p : Nat → Int) (j : Nat) (v : Int) : Nat → Int := fun m => cond (Nat.beq j m) v (p m)

/-! ### Digits -/
def dg (a : Int) : Nat → Int := fun k => a / 256 ^ k % 256
def dgs (a : Int) : Nat → Nat → Int
  | 0 => fun _ => 0
  | i + 1 => upd1 (dgs a i) i (dg a i)
theorem tdiv_nn {a b : Int} (h : 0 ≤ a) : Int.tdiv a b = a / b := Int.tdiv_eq_ediv_of_nonneg h
theorem tmod_nn {a b : Int} (h : 0 ≤ a) : Int.tmod a b = a % b := Int.tmod_eq_emod_of_nonneg h
theorem pow_step (a : Int) (i : Nat) : a / 256 ^ (i + 1) = a / 256 ^ i / 256 := by
  rw [Int.pow_succ, Int.ediv_ediv_of_nonneg (Int.pow_nonneg (by omega))]
theorem pow_in {a : Int} (h : 0 ≤ a ∧ a ≤ 18446744073709551615) (i : Nat) : 0 ≤ a / 256 ^ i ∧ a / 256 ^ i ≤ 18446744073709551615 := by
  have hp : (0 : Int) ≤ 256 ^ i := Int.pow_nonneg (by omega)
  have := Int.ediv_le_self (256 ^ i) h.1
  exact ⟨Int.ediv_nonneg h.1 hp, by omega⟩
theorem ref01_digits {a : Int} (h : 0 ≤ a ∧ a ≤ 18446744073709551615) : D_ref01_digits a = some (T8 (dg a)) := by
  unfold D_ref01_digits
  have hl : loopN D_ref01_digits_L0 BIG (0, a, 0, 0, 0, 0, 0, 0, 0, 0) = some (T8 (dg a)) := by
    have := loop_steps (f := D_ref01_digits_L0) (n := 8) (c := T8 (dg a)) (fun i => ((i : Int), a / 256 ^ i, T8 (dgs a i))) (by omega) ?_ ?_
    · simpa [dgs] using this
    · intro i hi
      have h1 := pow_in h i
      simp only [D_ref01_digits_L0, cond_dec]
      rw [if_pos (by omega), ix_in hi]
      simp only [Option.bind_some]
      rw [tdiv_nn h1.1, tmod_nn h1.1, wrap64 (by omega), wrapU_in (by omega), wrap64 (by omega), pow_step]
      rfl
    · rfl
  rw [hl]
  rfl

/-! ### Numbers -/
def car (d : Nat → Int) : Nat → Int
  | 0 => 0
  | i + 1 => (car d i + d i) / 256
def num (d : Nat → Int) : Nat → Int
  | 0 => 0
  | i + 1 => num d i + (car d i + d i) % 256 * 256 ^ i
def val8 (d : Nat → Int) : Int := d 0 + 256 * d 1 + 65536 * d 2 + 16777216 * d 3 + 4294967296 * d 4 + 1099511627776 * d 5 + 281474976710656 * d 6 + 72057594037927936 * d 7
theorem car_in {d : Nat → Int} (h : ∀ i, 0 ≤ d i ∧ d i ≤ 10000000) : ∀ i, 0 ≤ car d i ∧ car d i ≤ 10000000
  | 0 => ⟨Int.le_refl _, by show (0 : Int) ≤ 10000000; omega⟩
  | i + 1 => by
    have := car_in h i
    have := h i
    show 0 ≤ (car d i + d i) / 256 ∧ (car d i + d i) / 256 ≤ 10000000
    omega
theorem num_in {d : Nat → Int} (h : ∀ i, 0 ≤ d i ∧ d i ≤ 10000000) : ∀ i, 0 ≤ num d i ∧ num d i < 256 ^ i
  | 0 => ⟨Int.le_refl _, by show (0 : Int) < 1; omega⟩
  | i + 1 => by
    have h1 := num_in h i
    have hp : (0 : Int) ≤ 256 ^ i := Int.pow_nonneg (by omega)
    have h2 : 0 ≤ (car d i + d i) % 256 ∧ (car d i + d i) % 256 ≤ 255 := by omega
    show 0 ≤ num d i + (car d i + d i) % 256 * 256 ^ i ∧ num d i + (car d i + d i) % 256 * 256 ^ i < 256 ^ (i + 1)
    have h3 := Int.mul_nonneg h2.1 hp
    have h4 := Int.mul_le_mul_of_nonneg_right h2.2 hp
    rw [Int.pow_succ]
    omega
theorem num_val {d : Nat → Int} (h : ∀ i, 0 ≤ d i ∧ d i ≤ 10000000) : num d 8 = val8 d % 18446744073709551616 := by
  have hs : ∀ i, num d (i + 1) + car d (i + 1) * 256 ^ (i + 1) = num d i + car d i * 256 ^ i + d i * 256 ^ i := by
    intro i
    show num d i + (car d i + d i) % 256 * 256 ^ i + (car d i + d i) / 256 * 256 ^ (i + 1) = _
    have e := Int.emod_add_mul_ediv (car d i + d i) 256
    rw [Int.pow_succ, Int.add_assoc, Int.add_assoc (num d i), ← Int.add_mul, ← e, Int.add_mul]
    rw [e, Int.mul_comm (256 ^ i) 256, ← Int.mul_assoc, Int.mul_comm ((car d i + d i) / 256) 256]
  have h0 := hs 0
  have h1 := hs 1
  have h2 := hs 2
  have h3 := hs 3
  have h4 := hs 4
  have h5 := hs 5
  have h6 := hs 6
  have h7 := hs 7
  have hn := num_in h 8
  simp only [Nat.reduceAdd, Int.reducePow, Int.mul_one] at h0 h1 h2 h3 h4 h5 h6 h7 hn
  rw [show num d 0 = 0 from rfl, show car d 0 = 0 from rfl] at h0
  have e : num d 8 + car d 8 * 18446744073709551616 = val8 d := by
    unfold val8
    rw [h7, h6, h5, h4, h3, h2, h1, h0]
    omega
  rw [← e, Int.add_mul_emod_self_right]
  omega
theorem p256 : ∀ i, i < 8 → (256 : Int) ^ i ≤ 72057594037927936
  | 0, _ | 1, _ | 2, _ | 3, _ | 4, _ | 5, _ | 6, _ | 7, _ => by simp
def pw : Nat → Int
  | 0 => 1
  | i + 1 => IntKind.u64.wrap (pw i * 256)
theorem pw_eq : ∀ i, i < 8 → pw i = 256 ^ i
  | 0, _ => rfl
  | i + 1, h => by
    have hq := p256 (i + 1) h
    have hp : (0 : Int) < 256 ^ (i + 1) := Int.pow_pos (by omega)
    show IntKind.u64.wrap (pw i * 256) = _
    rw [pw_eq i (by omega), ← Int.pow_succ, wrapU_in (by omega)]
theorem ref01_number {d : Nat → Int} (h : ∀ i, 0 ≤ d i ∧ d i ≤ 10000000) : D_ref01_number (d 0) (d 1) (d 2) (d 3) (d 4) (d 5) (d 6) (d 7) = some (val8 d % 18446744073709551616) := by
  unfold D_ref01_number
  have hl : loopN (D_ref01_number_L0 (d 0) (d 1) (d 2) (d 3) (d 4) (d 5) (d 6) (d 7)) BIG (0, 0, 0, 1) = some (val8 d % 18446744073709551616) := by
    rw [← num_val h]
    refine loop_steps (f := D_ref01_number_L0 (d 0) (d 1) (d 2) (d 3) (d 4) (d 5) (d 6) (d 7)) (n := 8) (c := num d 8) (fun i => ((i : Int), car d i, num d i, pw i)) (by omega) ?_ ?_
    · intro i hi
      have h1 := car_in h i
      have h2 := h i
      have h3 := num_in h (i + 1)
      have hp : (0 : Int) < 256 ^ i := Int.pow_pos (by omega)
      have hq := p256 i hi
      simp only [D_ref01_number_L0, cond_dec]
      have hg : List.getD [d 0, d 1, d 2, d 3, d 4, d 5, d 6, d 7] i 0 = d i := L8_get d hi
      rw [if_pos (by omega), ix_in hi]
      simp only [Option.bind_some]
      have h5 : 0 ≤ (car d i + d i) % 256 ∧ (car d i + d i) % 256 ≤ 255 := by omega
      have h6 := Int.mul_nonneg h5.1 (show (0 : Int) ≤ 256 ^ i by omega)
      have h7 := Int.mul_le_mul_of_nonneg_right h5.2 (show (0 : Int) ≤ 256 ^ i by omega)
      have h8 : num d (i + 1) = num d i + (car d i + d i) % 256 * 256 ^ i := rfl
      have h9 : (256 : Int) ^ (i + 1) ≤ 18446744073709551616 := by rw [Int.pow_succ]; omega
      rw [hg, wrap64 (n := car d i + d i) (by omega), tdiv_nn (by omega), tmod_nn (by omega), wrap64 (by omega), wrap64 (by omega), wrapU_in (n := (car d i + d i) % 256) (by omega), pw_eq i hi, wrapU_in (n := (car d i + d i) % 256 * 256 ^ i) (by omega), wrapU_in (n := num d i + _) (by omega), ← h8, ← pw_eq i hi]
      rfl
    · rfl
  rw [hl]
  rfl
theorem val_dg {a : Int} (h : 0 ≤ a ∧ a ≤ 18446744073709551615) : val8 (dg a) = a := by
  have hs : ∀ i, a / 256 ^ i = 256 * (a / 256 ^ (i + 1)) + dg a i := by
    intro i
    rw [pow_step]
    unfold dg
    omega
  have h0 := hs 0
  have h1 := hs 1
  have h2 := hs 2
  have h3 := hs 3
  have h4 := hs 4
  have h5 := hs 5
  have h6 := hs 6
  have h7 := hs 7
  have h8 : a / 256 ^ 8 = 0 := Int.ediv_eq_zero_of_lt h.1 (by simp; omega)
  simp only [Nat.reduceAdd] at h0 h1 h2 h3 h4 h5 h6 h7
  rw [h8] at h7
  rw [h7] at h6
  rw [h6] at h5
  rw [h5] at h4
  rw [h4] at h3
  rw [h3] at h2
  rw [h2] at h1
  rw [h1] at h0
  rw [Int.pow_zero, Int.ediv_one] at h0
  unfold val8
  clear h1 h2 h3 h4 h5 h6 h7 h8 hs
  omega
theorem dg_in (a : Int) (i : Nat) : 0 ≤ dg a i ∧ dg a i ≤ 255 := by
  unfold dg; omega

/-! ### The sum of two -/
def plus8 (x y : Nat → Int) : Nat → Nat → Int
  | 0 => x
  | i + 1 => upd1 (plus8 x y i) i (x i + y i)
theorem plus8_at (x y : Nat → Int) (i : Nat) : ∀ j, j ≤ i → plus8 x y j i = x i
  | 0, _ => rfl
  | j + 1, h => by
    show cond (Nat.beq j i) _ _ = _
    rw [show Nat.beq j i = false from Bool.eq_false_iff.2 fun h2 => by have := Nat.eq_of_beq_eq_true h2; omega]
    exact plus8_at x y i j (by omega)
theorem ref01_Plus {a b : Int} (ha : 0 ≤ a ∧ a ≤ 18446744073709551615) (hb : 0 ≤ b ∧ b ≤ 18446744073709551615) : D_ref01_Plus a b = some ((a + b) % 18446744073709551616) := by
  unfold D_ref01_Plus
  rw [ref01_digits ha, ref01_digits hb]
  simp only [Option.bind_some]
  have hl : loopN (D_ref01_Plus_L0 (T8 (dg b))) BIG (0, T8 (dg a)) = some (T8 (plus8 (dg a) (dg b) 8)) := by
    refine loop_steps (n := 8) (fun i => ((i : Int), T8 (plus8 (dg a) (dg b) i))) (by omega) ?_ ?_
    · intro i hi
      simp only [D_ref01_Plus_L0, cond_dec]
      have hg1 : List.getD [plus8 (dg a) (dg b) i 0, plus8 (dg a) (dg b) i 1, plus8 (dg a) (dg b) i 2, plus8 (dg a) (dg b) i 3, plus8 (dg a) (dg b) i 4, plus8 (dg a) (dg b) i 5, plus8 (dg a) (dg b) i 6, plus8 (dg a) (dg b) i 7] i 0 = dg a i := (L8_get (plus8 (dg a) (dg b) i) hi).trans (plus8_at _ _ _ _ (Nat.le_refl _))
      have hg2 : List.getD [dg b 0, dg b 1, dg b 2, dg b 3, dg b 4, dg b 5, dg b 6, dg b 7] i 0 = dg b i := L8_get (dg b) hi
      have h1 := dg_in a i
      have h2 := dg_in b i
      rw [if_pos (by omega), ix_in hi]
      simp only [Option.bind_some]
      rw [hg1, hg2, wrap64 (by omega), wrap64 (by omega)]
      rfl
    · rfl
  rw [hl]
  simp only [Option.bind_some]
  have hn := ref01_number (d := fun i => dg a i + dg b i) (fun i => by have := dg_in a i; have := dg_in b i; constructor <;> omega)
  have hv : val8 (fun i => dg a i + dg b i) = a + b := by
    have h1 := val_dg ha
    have h2 := val_dg hb
    unfold val8 at *
    simp only []
    omega
  rw [hv] at hn
  show (D_ref01_number (dg a 0 + dg b 0) (dg a 1 + dg b 1) (dg a 2 + dg b 2) (dg a 3 + dg b 3) (dg a 4 + dg b 4) (dg a 5 + dg b 5) (dg a 6 + dg b 6) (dg a 7 + dg b 7)).bind _ = _
  rw [hn]
  rfl

/-! ### The product of two -/
def inn (x y : Nat → Int) (i : Nat) (p : Nat → Int) : Nat → Nat → Int
  | 0 => p
  | k + 1 => upd1 (inn x y i p k) (i + k) (inn x y i p k (i + k) + x i * y k)
def outr (x y : Nat → Int) : Nat → Nat → Int
  | 0 => fun _ => 0
  | i + 1 => inn x y i (outr x y i) (8 - i)
theorem inn_in {x y : Nat → Int} (hx : ∀ i, 0 ≤ x i ∧ x i ≤ 255) (hy : ∀ i, 0 ≤ y i ∧ y i ≤ 255) (i : Nat) {p : Nat → Int} {B : Nat} (hp : ∀ m, 0 ≤ p m ∧ p m ≤ B) : ∀ k m, 0 ≤ inn x y i p k m ∧ inn x y i p k m ≤ (B + 65025 * k : Nat)
  | 0, m => by have := hp m; show 0 ≤ p m ∧ _; exact ⟨this.1, by show p m ≤ _; omega⟩
  | k + 1, m => by
    have h1 := inn_in hx hy i hp k m
    have h2 := inn_in hx hy i hp k (i + k)
    have h3 := Int.mul_nonneg (hx i).1 (hy k).1
    have h4 := Int.mul_le_mul (hx i).2 (hy k).2 (hy k).1 (by omega)
    show 0 ≤ cond (Nat.beq (i + k) m) _ _ ∧ cond (Nat.beq (i + k) m) _ _ ≤ _
    cases Nat.beq (i + k) m
    · simp only [cond_false]; omega
    · simp only [cond_true]; omega
theorem outr_in {x y : Nat → Int} (hx : ∀ i, 0 ≤ x i ∧ x i ≤ 255) (hy : ∀ i, 0 ≤ y i ∧ y i ≤ 255) : ∀ i m, 0 ≤ outr x y i m ∧ outr x y i m ≤ (520200 * i : Nat)
  | 0, m => ⟨Int.le_refl _, Int.le_refl _⟩
  | i + 1, m => by
    have h1 := inn_in hx hy i (outr_in hx hy i) (8 - i) m
    show 0 ≤ inn x y i (outr x y i) (8 - i) m ∧ inn x y i (outr x y i) (8 - i) m ≤ _
    omega
theorem times_L0 {x y p : Nat → Int} (hx : ∀ i, 0 ≤ x i ∧ x i ≤ 255) (hy : ∀ i, 0 ≤ y i ∧ y i ≤ 255) {i : Nat} (hi : i < 8) (hp : ∀ m, 0 ≤ p m ∧ p m ≤ 10000000) :
    loopN (D_ref01_Times_L0 (T8 x) (T8 y) ((i : Int), T8 p)) BIG (0, T8 p) = some (T8 (inn x y i p (8 - i))) := by
  refine loop_steps (n := 8 - i) (fun k => ((k : Int), T8 (inn x y i p k))) (by omega) ?_ ?_
  · intro k hk
    simp only [D_ref01_Times_L0, cond_dec]
    have hg1 : List.getD [inn x y i p k 0, inn x y i p k 1, inn x y i p k 2, inn x y i p k 3, inn x y i p k 4, inn x y i p k 5, inn x y i p k 6, inn x y i p k 7] (i + k) 0 = inn x y i p k (i + k) := L8_get _ (by omega)
    have hg2 : List.getD [x 0, x 1, x 2, x 3, x 4, x 5, x 6, x 7] i 0 = x i := L8_get x hi
    have hg3 : List.getD [y 0, y 1, y 2, y 3, y 4, y 5, y 6, y 7] k 0 = y k := L8_get y (by omega)
    have h1 := inn_in hx hy i (p := p) (B := 10000000) hp k (i + k)
    have h3 := Int.mul_nonneg (hx i).1 (hy k).1
    have h4 := Int.mul_le_mul (hx i).2 (hy k).2 (hy k).1 (by omega)
    have e : (i : Int) + (k : Int) = ((i + k : Nat) : Int) := by omega
    rw [wrap64 (n := (i : Int) + (k : Int)) (by omega), e, if_pos (by omega), ix_in (k := i + k) (by omega), ix_in hi, ix_in (k := k) (by omega)]
    simp only [Option.bind_some]
    rw [hg1, hg2, hg3, wrap64 (n := (k : Int) + 1) (by omega), wrap64 (n := x i * y k) (by omega), wrap64 (by omega)]
    rfl
  · simp only [D_ref01_Times_L0, cond_dec]
    rw [wrap64 (by omega), if_neg (by omega)]
theorem times_L1 {x y : Nat → Int} (hx : ∀ i, 0 ≤ x i ∧ x i ≤ 255) (hy : ∀ i, 0 ≤ y i ∧ y i ≤ 255) : loopN (D_ref01_Times_L1 (T8 x) (T8 y)) BIG (0, T8 (outr x y 0)) = some (T8 (outr x y 8)) := by
  refine loop_steps (n := 8) (fun i => ((i : Int), T8 (outr x y i))) (by omega) ?_ ?_
  · intro i hi
    have h0 : ∀ m, 0 ≤ outr x y i m ∧ outr x y i m ≤ 10000000 := fun m => by have := outr_in hx hy i m; omega
    have h1 := times_L0 hx hy hi h0
    simp only [D_ref01_Times_L1, cond_dec]
    rw [if_pos (by omega), h1]
    simp only [Option.bind_some]
    rw [wrap64 (by omega)]
    rfl
  · rfl
theorem val_mul (x y : Nat → Int) (b : Int) (hb : val8 y = b) : val8 (outr x y 8) % 18446744073709551616 = val8 x * b % 18446744073709551616 := by
  have e0 : outr x y 8 0 = 0 + x 0 * y 0 := rfl
  have e1 : outr x y 8 1 = 0 + x 0 * y 1 + x 1 * y 0 := rfl
  have e2 : outr x y 8 2 = 0 + x 0 * y 2 + x 1 * y 1 + x 2 * y 0 := rfl
  have e3 : outr x y 8 3 = 0 + x 0 * y 3 + x 1 * y 2 + x 2 * y 1 + x 3 * y 0 := rfl
  have e4 : outr x y 8 4 = 0 + x 0 * y 4 + x 1 * y 3 + x 2 * y 2 + x 3 * y 1 + x 4 * y 0 := rfl
  have e5 : outr x y 8 5 = 0 + x 0 * y 5 + x 1 * y 4 + x 2 * y 3 + x 3 * y 2 + x 4 * y 1 + x 5 * y 0 := rfl
  have e6 : outr x y 8 6 = 0 + x 0 * y 6 + x 1 * y 5 + x 2 * y 4 + x 3 * y 3 + x 4 * y 2 + x 5 * y 1 + x 6 * y 0 := rfl
  have e7 : outr x y 8 7 = 0 + x 0 * y 7 + x 1 * y 6 + x 2 * y 5 + x 3 * y 4 + x 4 * y 3 + x 5 * y 2 + x 6 * y 1 + x 7 * y 0 := rfl
  have hr : ∀ i, x i * b = x i * y 0 + 256 * (x i * y 1) + 65536 * (x i * y 2) + 16777216 * (x i * y 3) + 4294967296 * (x i * y 4) + 1099511627776 * (x i * y 5) + 281474976710656 * (x i * y 6) + 72057594037927936 * (x i * y 7) := by
    intro i
    rw [← hb]
    unfold val8
    simp only [Int.mul_add, Int.mul_left_comm (x i)]
  have hl : val8 x * b = x 0 * b + 256 * (x 1 * b) + 65536 * (x 2 * b) + 16777216 * (x 3 * b) + 4294967296 * (x 4 * b) + 1099511627776 * (x 5 * b) + 281474976710656 * (x 6 * b) + 72057594037927936 * (x 7 * b) := by
    unfold val8
    simp only [Int.add_mul, Int.mul_assoc]
  have h0 := hr 0
  have h1 := hr 1
  have h2 := hr 2
  have h3 := hr 3
  have h4 := hr 4
  have h5 := hr 5
  have h6 := hr 6
  have h7 := hr 7
  have key : val8 x * b = val8 (outr x y 8) + 18446744073709551616 * (
      (x 1 * y 7 + x 2 * y 6 + x 3 * y 5 + x 4 * y 4 + x 5 * y 3 + x 6 * y 2 + x 7 * y 1)
      + 256 * (x 2 * y 7 + x 3 * y 6 + x 4 * y 5 + x 5 * y 4 + x 6 * y 3 + x 7 * y 2)
      + 65536 * (x 3 * y 7 + x 4 * y 6 + x 5 * y 5 + x 6 * y 4 + x 7 * y 3)
      + 16777216 * (x 4 * y 7 + x 5 * y 6 + x 6 * y 5 + x 7 * y 4)
      + 4294967296 * (x 5 * y 7 + x 6 * y 6 + x 7 * y 5)
      + 1099511627776 * (x 6 * y 7 + x 7 * y 6)
      + 281474976710656 * (x 7 * y 7)) := by
    rw [hl, h0, h1, h2, h3, h4, h5, h6, h7]
    have hv : val8 (outr x y 8) = outr x y 8 0 + 256 * outr x y 8 1 + 65536 * outr x y 8 2 + 16777216 * outr x y 8 3 + 4294967296 * outr x y 8 4 + 1099511627776 * outr x y 8 5 + 281474976710656 * outr x y 8 6 + 72057594037927936 * outr x y 8 7 := rfl
    rw [hv, e0, e1, e2, e3, e4, e5, e6, e7]
    clear hv e0 e1 e2 e3 e4 e5 e6 e7 h0 h1 h2 h3 h4 h5 h6 h7 hl hr hb
    omega
  rw [key, Int.add_mul_emod_self_left]
theorem ref01_Times {a b : Int} (ha : 0 ≤ a ∧ a ≤ 18446744073709551615) (hb : 0 ≤ b ∧ b ≤ 18446744073709551615) : D_ref01_Times a b = some (a * b % 18446744073709551616) := by
  unfold D_ref01_Times
  rw [ref01_digits ha, ref01_digits hb]
  simp only [Option.bind_some]
  have hl := times_L1 (dg_in a) (dg_in b)
  have hl' : loopN (D_ref01_Times_L1 (T8 (dg a)) (T8 (dg b))) BIG (0, 0, 0, 0, 0, 0, 0, 0, 0) = some (T8 (outr (dg a) (dg b) 8)) := hl
  rw [hl']
  simp only [Option.bind_some]
  have hn := ref01_number (d := outr (dg a) (dg b) 8) (fun i => by have := outr_in (dg_in a) (dg_in b) 8 i; omega)
  rw [val_mul _ _ b (val_dg hb), val_dg ha] at hn
  rw [hn]
  rfl

/-! ### Sums -/
def P36 : List Int → Int
  | [] => 1
  | _ :: l => P36 l * 3 % 18446744073709551616
def Q36 : List Int → Int
  | [] => 0
  | x :: l => (Q36 l + x * P36 l % 18446744073709551616) % 18446744073709551616
theorem P36_in : ∀ l, 0 ≤ P36 l ∧ P36 l ≤ 18446744073709551615
  | [] => by show (0 : Int) ≤ 1 ∧ (1 : Int) ≤ 18446744073709551615; omega
  | x :: l => by unfold P36; omega
theorem Q36_in : ∀ l, 0 ≤ Q36 l ∧ Q36 l ≤ 18446744073709551615
  | [] => by show (0 : Int) ≤ 0 ∧ (0 : Int) ≤ 18446744073709551615; omega
  | x :: l => by unfold Q36; omega
theorem mulmod (a b m : Int) : a % m * b % m = a * b % m := by rw [Int.mul_emod, Int.emod_emod_of_dvd _ (Int.dvd_refl _), ← Int.mul_emod]
theorem mulmod' (a b m : Int) : a * (b % m) % m = a * b % m := by rw [Int.mul_emod, Int.emod_emod_of_dvd _ (Int.dvd_refl _), ← Int.mul_emod]
theorem addmod (a b m : Int) : (a % m + b) % m = (a + b) % m := by rw [Int.add_emod, Int.emod_emod_of_dvd _ (Int.dvd_refl _), ← Int.add_emod]
theorem addmod' (a b m : Int) : (a + b % m) % m = (a + b) % m := by rw [Int.add_emod, Int.emod_emod_of_dvd _ (Int.dvd_refl _), ← Int.add_emod]
theorem fold36 : ∀ (l : List Int) (t : Int), l.foldl sum3 t % 18446744073709551616 = (t * P36 l + Q36 l) % 18446744073709551616
  | [], t => by simp [P36, Q36]
  | x :: l, t => by
    rw [List.foldl_cons, fold36 l]
    show ((3 * t + x) % 18446744073709551616 * P36 l + Q36 l) % 18446744073709551616 = (t * (P36 l * 3 % 18446744073709551616) + (Q36 l + x * P36 l % 18446744073709551616) % 18446744073709551616) % 18446744073709551616
    generalize P36 l = P
    generalize Q36 l = Q
    have l1 : ((3 * t + x) % 18446744073709551616 * P + Q) % 18446744073709551616 = ((3 * t + x) * P + Q) % 18446744073709551616 := by
      rw [← addmod, mulmod, addmod]
    have l2 : (t * (P * 3 % 18446744073709551616) + (Q + x * P % 18446744073709551616) % 18446744073709551616) % 18446744073709551616 = (t * (P * 3) + (Q + x * P)) % 18446744073709551616 := by
      rw [addmod', ← Int.add_assoc, addmod', Int.add_assoc, ← addmod, mulmod', addmod]
    rw [l1, l2, Int.add_mul, Int.mul_assoc 3 t P, ← Int.mul_assoc t P 3]
    congr 1
    omega
theorem S36_eq (l : List Int) : (Q36 l + P36 l) % 18446744073709551616 = S36 l := by
  have h := fold36 l 1
  have h2 := fold_in l 1 (by omega)
  unfold S36
  rw [Int.one_mul] at h
  rw [Int.add_comm, ← h, Int.emod_eq_of_lt h2.1 (by omega)]
theorem ref36_Sum (l : List Int) (hi : In l) (hl : l.length < 9223372036854775807) : D_ref36_Sum l = some (S36 l) := by
  unfold D_ref36_Sum
  have h := loop_steps (f := D_ref36_Sum_L0 l) (n := l.length) (c := (Q36 l, P36 l)) (fun k => ((l.length : Int) - 1 - (k : Int), Q36 (l.drop (l.length - k)), P36 (l.drop (l.length - k)))) (by omega) ?_ ?_
  · simp only [Nat.sub_zero, List.drop_length] at h
    rw [wrap64 (by omega), show (l.length : Int) - 1 = (l.length : Int) - 1 - ((0 : Nat) : Int) by omega]
    show (loopN (D_ref36_Sum_L0 l) BIG (_, Q36 [], P36 [])).bind _ = _
    rw [h]
    simp only [Option.bind_some]
    have h1 := P36_in l
    have h2 := Q36_in l
    rw [ref01_Plus h2 h1, S36_eq]
    rfl
  · intro k hk
    have hj : l.length - (k + 1) < l.length := by omega
    have e1 : (l.length : Int) - 1 - (k : Int) = ((l.length - (k + 1) : Nat) : Int) := by omega
    have e2 : l.drop (l.length - (k + 1)) = l[l.length - (k + 1)] :: l.drop (l.length - k) := by
      rw [← List.getElem_cons_drop hj]
      congr 2
      omega
    have hx := hi _ (List.getElem_mem hj)
    have h1 := P36_in (l.drop (l.length - k))
    have h2 := Q36_in (l.drop (l.length - k))
    simp only [D_ref36_Sum_L0, cond_dec]
    rw [e1, if_pos (by omega), rd_get hj]
    simp only [Option.bind_some]
    rw [ref01_Times hx h1, ref01_Times h1 (by omega)]
    simp only [Option.bind_some]
    rw [ref01_Plus h2 (by omega), e2, wrap64 (by omega), show ((l.length - (k + 1) : Nat) : Int) - 1 = (l.length : Int) - 1 - ((k + 1 : Nat) : Int) by omega]
    rfl
  · simp only [D_ref36_Sum_L0, cond_dec]
    rw [if_neg (by omega), Nat.sub_self, List.drop_zero]

theorem S36_in (l : List Int) : 0 ≤ S36 l ∧ S36 l ≤ 18446744073709551615 := fold_in l 1 (by omega)

/-! ### Words -/
theorem ref36_Words (l : List Int) (a1 a2 a3 a4 a5 a6 a7 a8 a9 a10 a11 a12 a13 a14 a15 a16 : Int) (hl : l.length ≤ 1000) (hi : In ([a1, a2, a3, a4, a5, a6, a7, a8, a9, a10, a11, a12, a13, a14, a15, a16] ++ (l.length : Int) :: l)) :
    D_ref36_Words l a1 a2 a3 a4 a5 a6 a7 a8 a9 a10 a11 a12 a13 a14 a15 a16 = some (W36 [a1, a2, a3, a4, a5, a6, a7, a8, a9, a10, a11, a12, a13, a14, a15, a16] l) := by
  unfold D_ref36_Words
  have h0 : loopN (D_ref36_Words_L0 a1 a2 a3 a4 a5 a6 a7 a8 a9 a10 a11 a12 a13 a14 a15 a16) BIG (0, []) = some [a1, a2, a3, a4, a5, a6, a7, a8, a9, a10, a11, a12, a13, a14, a15, a16] := by
    have h := loop_steps (f := D_ref36_Words_L0 a1 a2 a3 a4 a5 a6 a7 a8 a9 a10 a11 a12 a13 a14 a15 a16) (n := 16) (c := [a1, a2, a3, a4, a5, a6, a7, a8, a9, a10, a11, a12, a13, a14, a15, a16]) (fun i => ((i : Int), [a1, a2, a3, a4, a5, a6, a7, a8, a9, a10, a11, a12, a13, a14, a15, a16].take i)) (by omega) ?_ ?_
    · exact h
    · intro i hi
      have hlt : i < [a1, a2, a3, a4, a5, a6, a7, a8, a9, a10, a11, a12, a13, a14, a15, a16].length := hi
      simp only [D_ref36_Words_L0, cond_dec]
      rw [if_pos (by omega), ix_in hi]
      simp only [Option.bind_some]
      rw [gd_fits (by rw [List.length_take]; omega) (by omega), wrap64 (by omega), List.take_succ_eq_append_getElem hlt, List.getD_eq_getElem?_getD, List.getElem?_eq_getElem hlt]
      rfl
    · rfl
  rw [h0]
  simp only [Option.bind_some]
  rw [gd_fits (by simp) (by omega), wrapU_nat (by omega)]
  have h1 : loopN (D_ref36_Words_L1 l) BIG (0, [a1, a2, a3, a4, a5, a6, a7, a8, a9, a10, a11, a12, a13, a14, a15, a16] ++ [(l.length : Int)]) = some ([a1, a2, a3, a4, a5, a6, a7, a8, a9, a10, a11, a12, a13, a14, a15, a16] ++ [(l.length : Int)] ++ l) := by
    have h := loop_steps (f := D_ref36_Words_L1 l) (n := l.length) (c := [a1, a2, a3, a4, a5, a6, a7, a8, a9, a10, a11, a12, a13, a14, a15, a16] ++ [(l.length : Int)] ++ l) (fun i => ((i : Int), [a1, a2, a3, a4, a5, a6, a7, a8, a9, a10, a11, a12, a13, a14, a15, a16] ++ [(l.length : Int)] ++ l.take i)) (by omega) ?_ ?_
    · exact h
    · intro i hi
      simp only [D_ref36_Words_L1, cond_dec]
      rw [if_pos (by omega), rd_get hi]
      simp only [Option.bind_some]
      rw [gd_fits (by simp; omega) (by omega), wrap64 (by omega), List.take_succ_eq_append_getElem hi, ← List.append_assoc]
      rfl
    · simp only [D_ref36_Words_L1, cond_dec]
      rw [if_neg (by omega), List.take_length]
  rw [h1]
  simp only [Option.bind_some]
  have e : [a1, a2, a3, a4, a5, a6, a7, a8, a9, a10, a11, a12, a13, a14, a15, a16] ++ [(l.length : Int)] ++ l = [a1, a2, a3, a4, a5, a6, a7, a8, a9, a10, a11, a12, a13, a14, a15, a16] ++ (l.length : Int) :: l := by rw [List.append_assoc]; rfl
  rw [e, ref36_Sum _ hi (by simp; omega)]
  simp only [Option.bind_some]
  rw [gd_fits (by simp; omega) (by omega)]
  rfl

/-! ### Reading -/
def swap36 (t : Int × Int × Int × Int × Int × Int × Int × Int × Int × Int × Int × Int × Int × Int × Int × Int × Int × List Int) : (List Int) × Int × Int × Int × Int × Int × Int × Int × Int × Int × Int × Int × Int × Int × Int × Int × Int × Int :=
  (t.2.2.2.2.2.2.2.2.2.2.2.2.2.2.2.2.2, t.1, t.2.1, t.2.2.1, t.2.2.2.1, t.2.2.2.2.1, t.2.2.2.2.2.1, t.2.2.2.2.2.2.1, t.2.2.2.2.2.2.2.1, t.2.2.2.2.2.2.2.2.1, t.2.2.2.2.2.2.2.2.2.1, t.2.2.2.2.2.2.2.2.2.2.1, t.2.2.2.2.2.2.2.2.2.2.2.1, t.2.2.2.2.2.2.2.2.2.2.2.2.1, t.2.2.2.2.2.2.2.2.2.2.2.2.2.1, t.2.2.2.2.2.2.2.2.2.2.2.2.2.2.1, t.2.2.2.2.2.2.2.2.2.2.2.2.2.2.2.1, t.2.2.2.2.2.2.2.2.2.2.2.2.2.2.2.2.1)
def upto (g : Nat → Int) : Nat → Nat → Int
  | 0 => fun _ => 0
  | i + 1 => upd1 (upto g i) i (g i)
theorem ref36_Read_loop (w : List Int) (hl : 16 ≤ w.length) : loopN (D_ref36_Read_L0 w) BIG (0, 0, 0, 0, 0, 0, 0, 0, 0, 0, 0, 0, 0, 0, 0, 0, 0) = some (w.getD 0 0, w.getD 1 0, w.getD 2 0, w.getD 3 0, w.getD 4 0, w.getD 5 0, w.getD 6 0, w.getD 7 0, w.getD 8 0, w.getD 9 0, w.getD 10 0, w.getD 11 0, w.getD 12 0, w.getD 13 0, w.getD 14 0, w.getD 15 0) := by
  have h := loop_steps (f := D_ref36_Read_L0 w) (n := 16) (c := (w.getD 0 0, w.getD 1 0, w.getD 2 0, w.getD 3 0, w.getD 4 0, w.getD 5 0, w.getD 6 0, w.getD 7 0, w.getD 8 0, w.getD 9 0, w.getD 10 0, w.getD 11 0, w.getD 12 0, w.getD 13 0, w.getD 14 0, w.getD 15 0)) (fun i => ((i : Int), upto (fun k => w.getD k 0) i 0, upto (fun k => w.getD k 0) i 1, upto (fun k => w.getD k 0) i 2, upto (fun k => w.getD k 0) i 3, upto (fun k => w.getD k 0) i 4, upto (fun k => w.getD k 0) i 5, upto (fun k => w.getD k 0) i 6, upto (fun k => w.getD k 0) i 7, upto (fun k => w.getD k 0) i 8, upto (fun k => w.getD k 0) i 9, upto (fun k => w.getD k 0) i 10, upto (fun k => w.getD k 0) i 11, upto (fun k => w.getD k 0) i 12, upto (fun k => w.getD k 0) i 13, upto (fun k => w.getD k 0) i 14, upto (fun k => w.getD k 0) i 15)) (by omega) ?_ ?_
  · exact h
  · intro i hi
    simp only [D_ref36_Read_L0, cond_dec]
    rw [if_pos (by omega), ix_in hi, rd_getD (show i < w.length by omega)]
    simp only [Option.bind_some]
    rw [wrap64 (by omega)]
    rfl
  · rfl
theorem ref36_Read (w : List Int) (hl : w.length ≤ 2000) (hi : In w) : D_ref36_Read w = some (swap36 (read36 w)) := by
  unfold D_ref36_Read read36
  simp only [cond_dec]
  by_cases c1 : w.length < 18
  · rw [if_pos (by omega), if_pos c1]
    rfl
  have h16 : 0 ≤ w.getD 16 0 ∧ w.getD 16 0 ≤ 18446744073709551615 := by
    rw [List.getD_eq_getElem?_getD, List.getElem?_eq_getElem (show 16 < w.length by omega)]
    exact hi _ (List.getElem_mem _)
  rw [if_neg (by omega), if_neg c1, wrap64 (show -9223372036854775808 ≤ (w.length : Int) - 18 ∧ (w.length : Int) - 18 ≤ 9223372036854775807 by omega), wrapU_in (by omega)]
  rw [show rd w 16 = some (w.getD 16 0) from rd_getD (i := 16) (by omega)]
  simp only [Option.bind_some, cond_dec]
  by_cases c2 : (w.length : Int) - 18 < w.getD 16 0
  · rw [if_pos c2, if_pos c2]; rfl
  rw [if_neg c2, if_neg c2]
  rw [wrap64 (n := w.getD 16 0) (by omega), wrap64 (n := w.getD 16 0 + 18) (by omega)]
  by_cases c3 : w.getD 16 0 < (w.length : Int) - 18
  · rw [if_pos (by omega), if_pos c3]; rfl
  rw [if_neg (by omega), if_neg c3]
  have e1 : w.getD 16 0 + 17 = ((w.length - 1 : Nat) : Int) := by omega
  have e2 : 17 + w.getD 16 0 = ((w.length - 1 : Nat) : Int) := by omega
  rw [e1, e2, wrap64 (by omega), rd_getD (show w.length - 1 < w.length by omega)]
  simp only [Option.bind_some]
  unfold cutG cutL
  rw [decide_eq_true (show (0 : Int) ≤ ((w.length - 1 : Nat) : Int) by omega), decide_eq_true (show (17 : Int) ≤ ((w.length - 1 : Nat) : Int) by omega), decide_eq_true (show ((w.length - 1 : Nat) : Int) ≤ (w.length : Int) by omega)]
  show gd true _ = _
  rw [gd_true]
  rw [show List.drop (Int.toNat 0) (List.take (((w.length - 1 : Nat) : Int).toNat) w) = w.take (w.length - 1) from rfl, ref36_Sum _ (fun x hx => hi x (List.mem_of_mem_take hx)) (by rw [List.length_take]; omega)]
  simp only [Option.bind_some, cond_dec]
  by_cases c4 : w.getD (w.length - 1) 0 ≠ S36 (w.take (w.length - 1))
  · rw [if_pos c4, if_pos c4]; rfl
  rw [if_neg c4, if_neg c4, ref36_Read_loop w (by omega)]
  rfl

theorem law36_words (a0 : List Int) (a1 a2 a3 a4 a5 a6 a7 a8 a9 a10 a11 a12 a13 a14 a15 a16 : Int) (a17 : List Int) (h1 : 0 ≤ a1 ∧ a1 ≤ 18446744073709551615) (h2 : 0 ≤ a2 ∧ a2 ≤ 18446744073709551615) (h3 : 0 ≤ a3 ∧ a3 ≤ 18446744073709551615) (h4 : 0 ≤ a4 ∧ a4 ≤ 18446744073709551615) (h5 : 0 ≤ a5 ∧ a5 ≤ 18446744073709551615) (h6 : 0 ≤ a6 ∧ a6 ≤ 18446744073709551615) (h7 : 0 ≤ a7 ∧ a7 ≤ 18446744073709551615) (h8 : 0 ≤ a8 ∧ a8 ≤ 18446744073709551615) (h9 : 0 ≤ a9 ∧ a9 ≤ 18446744073709551615) (h10 : 0 ≤ a10 ∧ a10 ≤ 18446744073709551615) (h11 : 0 ≤ a11 ∧ a11 ≤ 18446744073709551615) (h12 : 0 ≤ a12 ∧ a12 ≤ 18446744073709551615) (h13 : 0 ≤ a13 ∧ a13 ≤ 18446744073709551615) (h14 : 0 ≤ a14 ∧ a14 ≤ 18446744073709551615) (h15 : 0 ≤ a15 ∧ a15 ≤ 18446744073709551615) (h16 : 0 ≤ a16 ∧ a16 ≤ 18446744073709551615)
    (hl : ∀ n ∈ a0, 0 ≤ n ∧ n ≤ 18446744073709551615) (hlen : a0.length ≤ 9223372036854775807) (hl2 : ∀ n ∈ a17, 0 ≤ n ∧ n ≤ 18446744073709551615) (hlen2 : a17.length ≤ 9223372036854775807) :
    D_law36_FreezeWords a0 a1 a2 a3 a4 a5 a6 a7 a8 a9 a10 a11 a12 a13 a14 a15 a16 a17 = some true := by
  unfold D_law36_FreezeWords
  simp only [cond_dec]
  by_cases c0 : 500 < ((a0.length : Nat) : Int)
  · rw [if_pos c0, goes36]; rfl
  rw [if_neg c0]
  by_cases c1 : 500 < ((a17.length : Nat) : Int)
  · rw [decide_eq_true c1, goes36]; rfl
  rw [decide_eq_false c1]
  have hn : a0.length ≤ 500 := by omega
  have hn2 : a17.length ≤ 500 := by omega
  have hi : In ([a1, a2, a3, a4, a5, a6, a7, a8, a9, a10, a11, a12, a13, a14, a15, a16] ++ (a0.length : Int) :: a0) := by
    intro x hx
    simp only [List.mem_append, List.mem_cons, List.not_mem_nil, or_false] at hx
    rcases hx with (rfl | rfl | rfl | rfl | rfl | rfl | rfl | rfl | rfl | rfl | rfl | rfl | rfl | rfl | rfl | rfl) | rfl | hx
    all_goals first | assumption | exact hl _ hx | (constructor <;> omega)
  have hrl : (read36 a17).2.2.2.2.2.2.2.2.2.2.2.2.2.2.2.2.2.length ≤ 1000000 := by
    unfold read36
    split
    · exact Nat.zero_le _
    split
    · exact Nat.zero_le _
    split
    · exact Nat.zero_le _
    split
    · exact Nat.zero_le _
    · show ((a17.take (a17.length - 1)).drop 17).length ≤ 1000000
      rw [List.length_drop, List.length_take]; omega
  have hwl := W36_len (h := [a1, a2, a3, a4, a5, a6, a7, a8, a9, a10, a11, a12, a13, a14, a15, a16]) (l := a0) rfl
  rw [ref36_Words _ _ _ _ _ _ _ _ _ _ _ _ _ _ _ _ _ (by omega) hi, freeze_Words _ _ _ _ _ _ _ _ _ _ _ _ _ _ _ _ _ (by omega), freeze_Read _ (by omega), ref36_Read _ (by omega) hl2, freeze_Sum _ (by omega), ref36_Sum _ hl2 (by omega), goes36]
  have hW : [a1, a2, a3, a4, a5, a6, a7, a8, a9, a10, a11, a12, a13, a14, a15, a16] ++ (a0.length : Int) :: a0 ++ [S36 ([a1, a2, a3, a4, a5, a6, a7, a8, a9, a10, a11, a12, a13, a14, a15, a16] ++ (a0.length : Int) :: a0)] = W36 [a1, a2, a3, a4, a5, a6, a7, a8, a9, a10, a11, a12, a13, a14, a15, a16] a0 := rfl
  rw [hW]
  simp only [Option.bind_some, cond_false]
  rw [ref05_Same _ _ (by omega) (by omega)]
  generalize read36 a17 = r at *
  simp only [swap36, Option.bind_some, decide_true, cond_true]
  rw [ref05_Same _ _ hrl hrl]
  simp only [Option.bind_some, decide_true, cond_true, if_true, Bool.and_self]
end Go.V
