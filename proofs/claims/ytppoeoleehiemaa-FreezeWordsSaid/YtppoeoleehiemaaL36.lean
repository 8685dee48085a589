/- What is frozen: the laws as plain Lean. -/
import Derived.Test.YtppoeoleehiemaaD36
import Derived.Test.YtppoeoleehiemaaV21
import Derived.KernelRfl
namespace Go.V
set_option linter.unusedVariables false
set_option linter.unusedSimpArgs false
open Go.Ab
set_option linter.unusedVariables false
set_option linter.unusedSimpArgs false

/-- A loop that counts. -/
theorem loop_nat {γ δ : Type} {f : (Int × γ) → Option ((Int × γ) ⊕ δ)} {n : Nat} (F : Nat → γ) {c : δ} (hn : n < 9223372036854775808) (hs : ∀ i, i < n → f ((i : Int), F i) = some (.inl (((i + 1 : Nat) : Int), F (i + 1)))) (he : f ((n : Int), F n) = some (.inr c)) : loopN f BIG (0, F 0) = some c := by
  refine loop_eq (fun s => ∃ i : Nat, i ≤ n ∧ s = ((i : Int), F i)) (fun s => n - s.1.toNat) ⟨0, Nat.zero_le _, rfl⟩ (by simp; omega) ?_
  rintro _ ⟨i, hi, rfl⟩
  by_cases h : i < n
  · exact .inl ⟨_, hs i h, ⟨i + 1, h, rfl⟩, by simp; omega⟩
  · have : i = n := by omega
    subst this
    exact .inr he
theorem loop_nat0 {δ : Type} {f : Int → Option (Int ⊕ δ)} {n : Nat} {c : δ} (hn : n < 9223372036854775808) (hs : ∀ i : Nat, i < n → f (i : Int) = some (.inl ((i + 1 : Nat) : Int))) (he : f (n : Int) = some (.inr c)) : loopN f BIG 0 = some c := by
  refine loop_eq (fun s => ∃ i : Nat, i ≤ n ∧ s = (i : Int)) (fun s => n - s.toNat) ⟨0, Nat.zero_le _, rfl⟩ (by simp; omega) ?_
  rintro _ ⟨i, hi, rfl⟩
  by_cases h : i < n
  · exact .inl ⟨_, hs i h, ⟨i + 1, h, rfl⟩, by simp; omega⟩
  · have : i = n := by omega
    subst this
    exact .inr he
/-- A loop over a list, that folds it. -/
theorem loop_fold {α γ δ : Type} {f : (Int × γ) → Option ((Int × γ) ⊕ δ)} {l : List α} (g : γ → α → γ) (s : γ) {c : γ → δ} (hn : l.length < 9223372036854775807)
    (hs : ∀ (i : Nat) (h : i < l.length) s, f ((i : Int), s) = some (.inl (((i + 1 : Nat) : Int), g s l[i]))) (he : ∀ s, f ((l.length : Int), s) = some (.inr (c s))) : loopN f BIG (0, s) = some (c (l.foldl g s)) := by
  have h := loop_nat (f := f) (n := l.length) (fun i => (l.take i).foldl g s) (c := c (l.foldl g s)) (by omega) ?_ ?_
  · exact h
  · intro i hi
    rw [hs i hi, List.take_succ_eq_append_getElem hi, List.foldl_append]
    rfl
  · rw [he, List.take_length]

theorem wrapU (n : Int) : IntKind.u64.wrap n = n % 18446744073709551616 := by
  rfl

theorem goes36 : D_law36_goes = some true := by kernel_rfl

def sum3 (s x : Int) : Int := (3 * s + x) % 18446744073709551616
def S36 (l : List Int) : Int := l.foldl sum3 1

theorem ring_Mul (a b : Int) : D_ring_Mul [a, b] = some (a * b % 18446744073709551616) := by
  unfold D_ring_Mul
  rw [loop_fold (l := [a, b]) (fun s x => s * x % 18446744073709551616) 1 (c := id) (by simp) ?_ ?_]
  · simp only [Option.bind_some, List.foldl, id]
    rw [Int.one_mul, Int.mul_emod, Int.emod_emod_of_dvd _ (Int.dvd_refl _), ← Int.mul_emod]
  · intro i hi s
    simp only [D_ring_Mul_L0, cond_dec]
    rw [if_pos (by omega), rd_get hi]
    simp only [Option.bind_some]
    rw [wrap64 (by simp at hi; omega), wrapU]
    rfl
  · intro s
    simp only [D_ring_Mul_L0, cond_dec]
    rw [if_neg (by omega)]
    rfl
theorem ring_Add (a b : Int) : D_ring_Add [a, b] = some ((a + b) % 18446744073709551616) := by
  unfold D_ring_Add
  rw [loop_fold (l := [a, b]) (fun s x => (s + x) % 18446744073709551616) 0 (c := id) (by simp) ?_ ?_]
  · simp only [Option.bind_some, List.foldl, id]
    congr 1
    omega
  · intro i hi s
    simp only [D_ring_Add_L0, cond_dec]
    rw [if_pos (by omega), rd_get hi]
    simp only [Option.bind_some]
    rw [wrap64 (by simp at hi; omega), wrapU]
    rfl
  · intro s
    simp only [D_ring_Add_L0, cond_dec]
    rw [if_neg (by omega)]
    rfl
theorem sum3_eq (s x : Int) : (s * 3 % 18446744073709551616 + x) % 18446744073709551616 = sum3 s x := by
  unfold sum3
  omega
theorem freeze_Sum (l : List Int) (hl : l.length < 9223372036854775807) : D_freeze_Sum l = some (S36 l) := by
  unfold D_freeze_Sum
  rw [loop_fold (l := l) sum3 1 (c := id) hl ?_ ?_]
  · rfl
  · intro i hi s
    simp only [D_freeze_Sum_L0, cond_dec]
    rw [if_pos (by omega), rd_get hi]
    simp only [Option.bind_some, ring_Mul, ring_Add, sum3_eq]
    rw [wrap64 (by omega)]
    rfl
  · intro s
    simp only [D_freeze_Sum_L0, cond_dec]
    rw [if_neg (by omega)]
    rfl
theorem wrapU_nat {n : Nat} (h : n < 9223372036854775808) : IntKind.u64.wrap (n : Int) = n := by
  rw [wrapU]; omega
theorem wrapU_in {n : Int} (h : 0 ≤ n ∧ n < 18446744073709551616) : IntKind.u64.wrap n = n := by
  rw [wrapU]; omega

theorem freeze_Words (l : List Int) (a1 a2 a3 a4 a5 a6 a7 a8 a9 a10 a11 a12 a13 a14 a15 a16 : Int) (hl : l.length ≤ 1000) : D_freeze_Words l a1 a2 a3 a4 a5 a6 a7 a8 a9 a10 a11 a12 a13 a14 a15 a16 =
    some ([a1, a2, a3, a4, a5, a6, a7, a8, a9, a10, a11, a12, a13, a14, a15, a16] ++ (l.length : Int) :: l ++ [S36 ([a1, a2, a3, a4, a5, a6, a7, a8, a9, a10, a11, a12, a13, a14, a15, a16] ++ (l.length : Int) :: l)]) := by
  unfold D_freeze_Words
  rw [wrap64 (show -9223372036854775808 ≤ (16 + (((l.length : Nat)) : Int)) ∧ (16 + (((l.length : Nat)) : Int)) ≤ 9223372036854775807 by omega), wrap64 (by omega), wrapU_nat (by omega)]
  have hb : blit (List.replicate 16 (0 : Int)) 0 (List.length (List.replicate 16 (0 : Int))) [a1, a2, a3, a4, a5, a6, a7, a8, a9, a10, a11, a12, a13, a14, a15, a16] = [a1, a2, a3, a4, a5, a6, a7, a8, a9, a10, a11, a12, a13, a14, a15, a16] := rfl
  rw [hb]
  have e1 : decide (16 ≤ 16 + (l.length : Int) + 2) = true := decide_eq_true (by omega)
  have e2 : decide ((8 : Int) * (16 + (l.length : Int) + 2) ≤ 140737488355328) = true := decide_eq_true (by omega)
  rw [e1, e2]
  show gd true _ = _
  rw [gd_true, gd_fits (by simp) (by omega), gd_fits (by simp; omega) (by omega), freeze_Sum _ (by simp; omega)]
  simp only [Option.bind_some]
  rw [gd_fits (by simp; omega) (by omega)]
  simp only [List.append_assoc, List.singleton_append]

def bad36 (e : Int) : Int × Int × Int × Int × Int × Int × Int × Int × Int × Int × Int × Int × Int × Int × Int × Int × Int × List Int := (0, 0, 0, 0, 0, 0, 0, 0, 0, 0, 0, 0, 0, 0, 0, 0, e, [])
def read36 (w : List Int) : Int × Int × Int × Int × Int × Int × Int × Int × Int × Int × Int × Int × Int × Int × Int × Int × Int × List Int :=
  if w.length < 18 then bad36 4 else if (w.length : Int) - 18 < w.getD 16 0 then bad36 4 else if w.getD 16 0 < (w.length : Int) - 18 then bad36 21
  else if w.getD (w.length - 1) 0 ≠ S36 (w.take (w.length - 1)) then bad36 3 else (w.getD 0 0, w.getD 1 0, w.getD 2 0, w.getD 3 0, w.getD 4 0, w.getD 5 0, w.getD 6 0, w.getD 7 0, w.getD 8 0, w.getD 9 0, w.getD 10 0, w.getD 11 0, w.getD 12 0, w.getD 13 0, w.getD 14 0, w.getD 15 0, 0, (w.take (w.length - 1)).drop 17)
theorem rd_getD {l : List Int} {i : Nat} (h : i < l.length) : rd l (i : Int) = some (l.getD i 0) := by
  rw [rd_get h, List.getD_eq_getElem?_getD, List.getElem?_eq_getElem h]
  rfl
theorem freeze_Read (w : List Int) (hl : w.length ≤ 2000) : D_freeze_Read w = some (read36 w) := by
  unfold D_freeze_Read read36
  rw [wrapU_nat (show w.length < 9223372036854775808 by omega)]
  simp only [cond_dec]
  by_cases c1 : w.length < 18
  · rw [if_pos (by omega), if_pos c1]
    rfl
  rw [if_neg (by omega), if_neg c1, wrapU_in (by omega), wrap64 (show -9223372036854775808 ≤ (w.length : Int) - 1 ∧ (w.length : Int) - 1 ≤ 9223372036854775807 by omega)]
  rw [show rd w 16 = some (w.getD 16 0) from rd_getD (i := 16) (by omega)]
  simp only [Option.bind_some, cond_dec]
  by_cases c2 : (w.length : Int) - 18 < w.getD 16 0
  · rw [if_pos c2, if_pos c2]; rfl
  rw [if_neg c2, if_neg c2]
  by_cases c3 : w.getD 16 0 < (w.length : Int) - 18
  · rw [if_pos c3, if_pos c3]; rfl
  rw [if_neg c3, if_neg c3]
  have hloop : loopN (D_freeze_Read_L0 w) BIG (0, 1) = some (S36 (w.take (w.length - 1))) := by
    refine loop_nat (n := w.length - 1) (fun i => (w.take i).foldl sum3 1) (by omega) ?_ ?_
    · intro i hi
      have hlt : i < w.length := by omega
      simp only [D_freeze_Read_L0, cond_dec]
      rw [if_pos (by omega), rd_get hlt, wrap64 (show -9223372036854775808 ≤ (w.length : Int) - 1 ∧ (w.length : Int) - 1 ≤ 9223372036854775807 by omega)]
      simp only [Option.bind_some, ring_Mul, ring_Add, sum3_eq]
      rw [if_neg (by omega), wrap64 (by omega), List.take_succ_eq_append_getElem hlt, List.foldl_append]
      rfl
    · simp only [D_freeze_Read_L0, cond_dec]
      rw [if_pos (by omega), rd_get (by omega), wrap64 (show -9223372036854775808 ≤ (w.length : Int) - 1 ∧ (w.length : Int) - 1 ≤ 9223372036854775807 by omega)]
      simp only [Option.bind_some]
      rw [if_pos (by omega)]
      rfl
  rw [hloop, show rd w ((w.length : Int) - 1) = some (w.getD (w.length - 1) 0) from by rw [← rd_getD (by omega)]; congr 1; omega]
  simp only [Option.bind_some, cond_dec]
  by_cases c4 : w.getD (w.length - 1) 0 ≠ S36 (w.take (w.length - 1))
  · rw [if_pos c4, if_pos c4]; rfl
  rw [if_neg c4, if_neg c4]
  unfold cutG D_slices_Clone_uint64_uint64 cutL
  rw [decide_eq_true (show (0 : Int) ≤ 17 by omega), decide_eq_true (show (17 : Int) ≤ (w.length : Int) - 1 by omega), decide_eq_true (show (w.length : Int) - 1 ≤ (w.length : Int) by omega)]
  show gd true _ = _
  rw [gd_true, gd_fits (by simp; omega) (by omega)]
  simp only [Option.bind_some]
  rw [show ((w.length : Int) - 1).toNat = w.length - 1 by omega]
  rfl

theorem ref05_Same (a b : List Int) (ha : a.length ≤ 1000000) (hb : b.length ≤ 1000000) : D_ref05_Same a b = some (decide (a = b)) := by
  unfold D_ref05_Same
  simp only [cond_dec]
  by_cases c1 : ((a.length : Nat) : Int) ≠ ((b.length : Nat) : Int)
  · rw [if_pos c1, decide_eq_false]
    intro e
    subst e
    exact c1 rfl
  · rw [if_neg c1]
    have hn : a.length = b.length := by omega
    by_cases e : a = b
    · subst e
      rw [loop_nat0 (n := a.length) (c := .inr ()) (by omega) ?_ ?_]
      · simp [caseS]
      · intro i hi
        simp only [D_ref05_Same_L0, cond_dec]
        rw [if_pos (by omega), rd_get hi]
        simp only [Option.bind_some]
        rw [if_neg (by simp), wrap64 (by omega)]
        rfl
      · simp only [D_ref05_Same_L0, cond_dec]
        rw [if_neg (by omega)]
    · -- the first place where they part
      have hex : ∃ i, ∃ h : i < a.length, a[i] ≠ b[i] ∧ ∀ j (h : j < i), a[j] = b[j] := by
        obtain ⟨i, hi, hne⟩ : ∃ i, ∃ h : i < a.length, a[i] ≠ b[i] := by
          apply Classical.byContradiction
          intro hno
          exact e (List.ext_getElem hn fun i h1 h2 => Classical.byContradiction fun h => hno ⟨i, h1, h⟩)
        induction i using Nat.strongRecOn with
        | ind i ih =>
          by_cases hj : ∃ j, ∃ h : j < i, a[j] ≠ b[j]
          · obtain ⟨j, h1, h2⟩ := hj
            exact ih j h1 (by omega) h2
          · exact ⟨i, hi, hne, fun j h => Classical.byContradiction fun h2 => hj ⟨j, h, h2⟩⟩
      obtain ⟨i, hi, hne, hall⟩ := hex
      rw [loop_nat0 (n := i) (c := .inl false) (by omega) ?_ ?_]
      · simp [caseS, e]
      · intro j hj
        simp only [D_ref05_Same_L0, cond_dec]
        rw [if_pos (by omega), rd_get (show j < a.length by omega), rd_get (show j < b.length by omega)]
        simp only [Option.bind_some]
        rw [if_neg (by simpa using hall j hj), wrap64 (by omega)]
        rfl
      · simp only [D_ref05_Same_L0, cond_dec]
        rw [if_pos (by omega), rd_get hi, rd_get (show i < b.length by omega)]
        simp only [Option.bind_some]
        rw [if_pos hne]

/-! ### What is put together -/
def W36 (h : List Int) (l : List Int) : List Int := h ++ (l.length : Int) :: l ++ [S36 (h ++ (l.length : Int) :: l)]
def err36 (t : Int × Int × Int × Int × Int × Int × Int × Int × Int × Int × Int × Int × Int × Int × Int × Int × Int × List Int) : Int := t.2.2.2.2.2.2.2.2.2.2.2.2.2.2.2.2.1
theorem W36_len {h l : List Int} (hh : h.length = 16) : (W36 h l).length = l.length + 18 := by
  simp [W36, hh]; omega
theorem W36_take {h l : List Int} (hh : h.length = 16) : (W36 h l).take (l.length + 17) = h ++ (l.length : Int) :: l := by
  unfold W36
  rw [List.take_append_of_le_length (by simp [hh]; omega), List.take_of_length_le (by simp [hh]; omega)]
theorem W36_last {h l : List Int} (hh : h.length = 16) : (W36 h l).getD (l.length + 17) 0 = S36 (h ++ (l.length : Int) :: l) := by
  unfold W36
  rw [List.getD_eq_getElem?_getD, List.getElem?_append_right (by simp [hh]; omega)]
  simp [hh]
  rw [show l.length + 17 - (16 + (l.length + 1)) = 0 by omega]
  rfl
theorem W36_16 {h l : List Int} (hh : h.length = 16) : (W36 h l).getD 16 0 = l.length := by
  unfold W36
  rw [List.getD_eq_getElem?_getD, List.append_assoc, List.getElem?_append_right (by simp [hh])]
  simp [hh]
theorem read_W (l : List Int) (a1 a2 a3 a4 a5 a6 a7 a8 a9 a10 a11 a12 a13 a14 a15 a16 : Int) : read36 (W36 [a1, a2, a3, a4, a5, a6, a7, a8, a9, a10, a11, a12, a13, a14, a15, a16] l) = (a1, a2, a3, a4, a5, a6, a7, a8, a9, a10, a11, a12, a13, a14, a15, a16, 0, l) := by
  have hh : [a1, a2, a3, a4, a5, a6, a7, a8, a9, a10, a11, a12, a13, a14, a15, a16].length = 16 := rfl
  unfold read36
  rw [W36_len hh, W36_16 hh, if_neg (by omega), if_neg (by omega), if_neg (by omega), show l.length + 18 - 1 = l.length + 17 by omega, W36_last hh, W36_take hh, if_neg (by simp)]
  have hd : ([a1, a2, a3, a4, a5, a6, a7, a8, a9, a10, a11, a12, a13, a14, a15, a16] ++ (l.length : Int) :: l).drop 17 = l := rfl
  rw [hd]
  rfl

theorem err_bad (e : Int) : err36 (bad36 e) = e := rfl
theorem read_more {h l : List Int} (hh : h.length = 16) (v : Int) : read36 (W36 h l ++ [v]) = bad36 21 := by
  unfold read36
  have e1 : (W36 h l ++ [v]).length = l.length + 19 := by rw [List.length_append, W36_len hh]; rfl
  have e2 : (W36 h l ++ [v]).getD 16 0 = l.length := by
    rw [← W36_16 hh (l := l), List.getD_eq_getElem?_getD, List.getElem?_append_left (by rw [W36_len hh]; omega), ← List.getD_eq_getElem?_getD]
  rw [e1, e2, if_neg (by omega), if_neg (by omega), if_pos (by omega)]
theorem read_less {h l : List Int} (hh : h.length = 16) {k : Nat} (hk : k < l.length + 18) : read36 ((W36 h l).take k) = bad36 4 := by
  unfold read36
  have e1 : ((W36 h l).take k).length = k := by rw [List.length_take, W36_len hh]; omega
  rw [e1]
  by_cases c : k < 18
  · rw [if_pos c]
  · have e2 : ((W36 h l).take k).getD 16 0 = l.length := by
      rw [← W36_16 hh (l := l), List.getD_eq_getElem?_getD, List.getElem?_take_of_lt (by omega), ← List.getD_eq_getElem?_getD]
    rw [if_neg c, e2, if_pos (by omega)]

def In (l : List Int) : Prop := ∀ x ∈ l, 0 ≤ x ∧ x ≤ 18446744073709551615
theorem sum3_in (s x : Int) : 0 ≤ sum3 s x ∧ sum3 s x ≤ 18446744073709551615 := by unfold sum3; omega
theorem sum3_inj {s x y : Int} (hx : 0 ≤ x ∧ x ≤ 18446744073709551615) (hy : 0 ≤ y ∧ y ≤ 18446744073709551615) (e : sum3 s x = sum3 s y) : x = y := by unfold sum3 at e; omega
theorem third (d : Int) (h1 : (3 * d) % 18446744073709551616 = 0) : ∃ r : Int, d = 18446744073709551616 * r := by
  obtain ⟨q, hq⟩ := Int.dvd_of_emod_eq_zero h1
  clear h1
  refine ⟨d - 6148914691236517205 * q, ?_⟩
  rw [Int.mul_sub, Int.mul_left_comm, ← hq]
  clear hq
  omega
theorem sum3_inj' {s t x : Int} (hs : 0 ≤ s ∧ s ≤ 18446744073709551615) (ht : 0 ≤ t ∧ t ≤ 18446744073709551615) (e : sum3 s x = sum3 t x) : s = t := by
  unfold sum3 at e
  have h1 := Int.emod_eq_emod_iff_emod_sub_eq_zero.1 e
  have h2 : 3 * s + x - (3 * t + x) = 3 * (s - t) := by clear h1 e; omega
  rw [h2] at h1
  obtain ⟨r, hr⟩ := third _ h1
  clear h1 h2 e
  have : r = 0 := by omega
  subst this
  omega
theorem fold_in : ∀ (l : List Int) (s : Int), 0 ≤ s ∧ s ≤ 18446744073709551615 → 0 ≤ l.foldl sum3 s ∧ l.foldl sum3 s ≤ 18446744073709551615
  | [], s, h => h
  | x :: l, s, h => fold_in l _ (by unfold sum3; omega)
theorem fold_inj : ∀ (l : List Int) (s t : Int), 0 ≤ s ∧ s ≤ 18446744073709551615 → 0 ≤ t ∧ t ≤ 18446744073709551615 → l.foldl sum3 s = l.foldl sum3 t → s = t
  | [], s, t, _, _, e => e
  | x :: l, s, t, h, k, e => by
    have h1 := fold_inj l _ _ (sum3_in _ _) (sum3_in _ _) e
    exact sum3_inj' h k h1
theorem S36_set {l : List Int} (hl : In l) {k : Nat} (hk : k < l.length) {v : Int} (hv : 0 ≤ v ∧ v ≤ 18446744073709551615) (e : S36 (l.set k v) = S36 l) : v = l[k] := by
  have key : ∀ (a b : List Int) (x : Int), 0 ≤ x ∧ x ≤ 18446744073709551615 → S36 (a ++ v :: b) = S36 (a ++ x :: b) → v = x := by
    intro a b x hx h
    unfold S36 at h
    rw [List.foldl_append, List.foldl_append, List.foldl_cons, List.foldl_cons] at h
    exact sum3_inj hv hx (fold_inj b _ _ (sum3_in _ _) (sum3_in _ _) h)
  have e1 : l = l.take k ++ l[k] :: l.drop (k + 1) := by rw [List.getElem_cons_drop, List.take_append_drop]
  have e2 : l.set k v = l.take k ++ v :: l.drop (k + 1) := (List.set_eq_take_append_cons_drop (l := l) (i := k) (a := v)).trans (if_pos hk)
  exact key (l.take k) (l.drop (k + 1)) l[k] (hl _ (List.getElem_mem hk)) (by rw [← e2, ← e1]; exact e)
theorem err_W {h l : List Int} (hh : h.length = 16) : err36 (read36 (W36 h l)) = 0 := by
  unfold read36
  rw [W36_len hh, W36_16 hh, if_neg (by omega), if_neg (by omega), if_neg (by omega), show l.length + 18 - 1 = l.length + 17 by omega, W36_last hh, W36_take hh, if_neg (by simp)]
  rfl
theorem read_set {h l : List Int} (hh : h.length = 16) (hl : l.length ≤ 500) (hi : In (h ++ (l.length : Int) :: l)) {k : Nat} (hk : k < (W36 h l).length) {v : Int} (hv : 0 ≤ v ∧ v ≤ 18446744073709551615) :
    err36 (read36 ((W36 h l).set k v)) = 0 ↔ v = (W36 h l)[k] := by
  constructor
  · intro e
    have hk' : k < l.length + 18 := by rw [← W36_len hh]; exact hk
    have e1 : ((W36 h l).set k v).length = l.length + 18 := by rw [List.length_set, W36_len hh]
    have eg : ∀ i, i ≠ k → ((W36 h l).set k v).getD i 0 = (W36 h l).getD i 0 := by
      intro i hi
      rw [List.getD_eq_getElem?_getD, List.getElem?_set_ne (Ne.symm hi), ← List.getD_eq_getElem?_getD]
    have ek : ((W36 h l).set k v).getD k 0 = v := by
      rw [List.getD_eq_getElem?_getD, List.getElem?_set_self hk]; rfl
    have ew : ∀ i (h2 : i < (W36 h l).length), (W36 h l).getD i 0 = (W36 h l)[i] := by
      intro i h2
      rw [List.getD_eq_getElem?_getD, List.getElem?_eq_getElem h2]; rfl
    rw [← ew k hk]
    unfold read36 at e
    rw [e1, if_neg (by omega)] at e
    by_cases c : k = 16
    · subst c
      rw [W36_16 hh]
      rw [ek] at e
      split at e
      · cases e
      split at e
      · cases e
      omega
    · rw [eg 16 (fun h => c h.symm), W36_16 hh, if_neg (by omega), if_neg (by omega), show l.length + 18 - 1 = l.length + 17 by omega] at e
      split at e
      · cases e
      rename_i hs
      rw [ne_eq, Classical.not_not] at hs
      by_cases c2 : k = l.length + 17
      · subst c2
        rw [ek, List.take_set_of_le (Nat.le_refl _), W36_take hh] at hs
        rw [hs, W36_last hh]
      · rw [eg _ (fun h => c2 h.symm), W36_last hh, List.take_set, W36_take hh] at hs
        have hk2 : k < (h ++ (l.length : Int) :: l).length := by simp [hh]; omega
        rw [S36_set hi hk2 hv hs.symm]
        rw [List.getD_eq_getElem?_getD]
        unfold W36
        rw [List.getElem?_append_left hk2, List.getElem?_eq_getElem hk2]
        rfl
  · intro e
    subst e
    rw [List.set_getElem_self]
    exact err_W hh
theorem spot36 {L : Nat} (h0 : 0 < L) (hL : L ≤ 1000) {a : Int} (ha : -9223372036854775808 ≤ a ∧ a ≤ 9223372036854775807) : ∃ k : Nat, k < L ∧ Int.tmod (IntKind.i64.wrap (Int.tmod a (L : Int) + (L : Int))) (L : Int) = (k : Int) := by
  have hp : (0 : Int) < (L : Int) := by omega
  have h1 := Int.tmod_lt_of_pos a hp
  have h2 := Int.lt_tmod_of_pos a hp
  rw [wrap64 (by omega)]
  have h3 := Int.tmod_nonneg (L : Int) (show 0 ≤ Int.tmod a (L : Int) + (L : Int) by omega)
  have h4 := Int.tmod_lt_of_pos (Int.tmod a (L : Int) + (L : Int)) hp
  exact ⟨(Int.tmod (Int.tmod a (L : Int) + (L : Int)) (L : Int)).toNat, by omega, by omega⟩
theorem ix_in {k n : Nat} (h : k < n) : ix (k : Int) n = some k := by
  unfold ix
  rw [decide_eq_true (show (0 : Int) ≤ k by omega), decide_eq_true (show (k : Int) < n by omega)]
  rfl
theorem law36_back (a0 : List Int) (a1 a2 a3 a4 a5 a6 a7 a8 a9 a10 a11 a12 a13 a14 a15 a16 a17 a18 : Int) (h1 : 0 ≤ a1 ∧ a1 ≤ 18446744073709551615) (h2 : 0 ≤ a2 ∧ a2 ≤ 18446744073709551615) (h3 : 0 ≤ a3 ∧ a3 ≤ 18446744073709551615) (h4 : 0 ≤ a4 ∧ a4 ≤ 18446744073709551615) (h5 : 0 ≤ a5 ∧ a5 ≤ 18446744073709551615) (h6 : 0 ≤ a6 ∧ a6 ≤ 18446744073709551615) (h7 : 0 ≤ a7 ∧ a7 ≤ 18446744073709551615) (h8 : 0 ≤ a8 ∧ a8 ≤ 18446744073709551615) (h9 : 0 ≤ a9 ∧ a9 ≤ 18446744073709551615) (h10 : 0 ≤ a10 ∧ a10 ≤ 18446744073709551615) (h11 : 0 ≤ a11 ∧ a11 ≤ 18446744073709551615) (h12 : 0 ≤ a12 ∧ a12 ≤ 18446744073709551615) (h13 : 0 ≤ a13 ∧ a13 ≤ 18446744073709551615) (h14 : 0 ≤ a14 ∧ a14 ≤ 18446744073709551615) (h15 : 0 ≤ a15 ∧ a15 ≤ 18446744073709551615) (h16 : 0 ≤ a16 ∧ a16 ≤ 18446744073709551615)
    (h17 : -9223372036854775808 ≤ a17 ∧ a17 ≤ 9223372036854775807) (h18 : 0 ≤ a18 ∧ a18 ≤ 18446744073709551615) (hl : ∀ n ∈ a0, 0 ≤ n ∧ n ≤ 18446744073709551615) (hlen : a0.length ≤ 9223372036854775807) :
    D_law36_FreezeBack a0 a1 a2 a3 a4 a5 a6 a7 a8 a9 a10 a11 a12 a13 a14 a15 a16 a17 a18 = some true := by
  unfold D_law36_FreezeBack
  simp only [cond_dec]
  by_cases c0 : 500 < ((a0.length : Nat) : Int)
  · rw [if_pos c0, goes36]; rfl
  rw [if_neg c0]
  have hh : [a1, a2, a3, a4, a5, a6, a7, a8, a9, a10, a11, a12, a13, a14, a15, a16].length = 16 := rfl
  have hn : a0.length ≤ 500 := by omega
  rw [freeze_Words _ _ _ _ _ _ _ _ _ _ _ _ _ _ _ _ _ (by omega)]
  have hW : [a1, a2, a3, a4, a5, a6, a7, a8, a9, a10, a11, a12, a13, a14, a15, a16] ++ (a0.length : Int) :: a0 ++ [S36 ([a1, a2, a3, a4, a5, a6, a7, a8, a9, a10, a11, a12, a13, a14, a15, a16] ++ (a0.length : Int) :: a0)] = W36 [a1, a2, a3, a4, a5, a6, a7, a8, a9, a10, a11, a12, a13, a14, a15, a16] a0 := rfl
  rw [hW]
  have hwl := W36_len (l := a0) hh
  simp only [Option.bind_some]
  have hi : In ([a1, a2, a3, a4, a5, a6, a7, a8, a9, a10, a11, a12, a13, a14, a15, a16] ++ (a0.length : Int) :: a0) := by
    intro x hx
    simp only [List.mem_append, List.mem_cons, List.not_mem_nil, or_false] at hx
    rcases hx with (rfl | rfl | rfl | rfl | rfl | rfl | rfl | rfl | rfl | rfl | rfl | rfl | rfl | rfl | rfl | rfl) | rfl | hx
    all_goals first | assumption | exact hl _ hx | (constructor <;> omega)
  rw [freeze_Read _ (by omega), read_W]
  generalize hWg : W36 [a1, a2, a3, a4, a5, a6, a7, a8, a9, a10, a11, a12, a13, a14, a15, a16] a0 = W at *
  have hr1 : ∀ v, read36 (W ++ [v]) = bad36 21 := fun v => by rw [← hWg]; exact read_more hh v
  have hr2 : ∀ k, k < a0.length + 18 → read36 (W.take k) = bad36 4 := fun k hk => by rw [← hWg]; exact read_less hh hk
  have hr3 : ∀ k (hk : k < W.length) v, 0 ≤ v ∧ v ≤ 18446744073709551615 → (err36 (read36 (W.set k v)) = 0 ↔ v = W[k]) := by
    subst hWg
    exact fun k hk v hv => read_set hh hn hi hk hv
  simp only [Option.bind_some, ne_eq, not_true_eq_false, if_false]
  rw [ref05_Same _ _ (by omega) (by omega)]
  simp only [Option.bind_some, decide_true, Bool.not_true, cond_false, Bool.and_true, Bool.and_self]
  rw [hwl, if_neg (by rw [wrap64 (by omega)]; omega)]
  obtain ⟨k, hk, hke⟩ := spot36 (L := a0.length + 18) (by omega) (by omega) h17
  rw [hke]
  rw [decide_eq_true (show ¬((a0.length + 18 : Nat) : Int) = 0 by omega), gd_true, gd_true, gd_fits (by omega) (by omega), gd_fits (by simp; omega) (by omega), List.nil_append, freeze_Read _ (by simp; omega), hr1]
  simp only [Option.bind_some]
  have hc : cutG 0 (k : Int) (a0.length + 18) = true := by
    unfold cutG
    rw [decide_eq_true (show (0 : Int) ≤ k by omega), decide_eq_true (show (k : Int) ≤ ((a0.length + 18 : Nat) : Int) by omega)]
    rfl
  rw [hc, gd_true, Int.toNat_natCast, Nat.sub_zero, List.drop_zero, freeze_Read _ (by rw [List.length_take]; omega), hr2 _ hk]
  simp only [Option.bind_some]
  show (if ¬(21 : Int) = 21 then _ else if ¬(4 : Int) = 4 then _ else _) = _
  rw [if_neg (show ¬¬(21 : Int) = 21 by omega), if_neg (show ¬¬(4 : Int) = 4 by omega), ix_in hk]
  simp only [Option.bind_some]
  have hk2 : k < W.length := by omega
  rw [List.getElem?_eq_getElem hk2]
  simp only [Option.bind_some]
  rw [freeze_Read _ (by rw [List.length_set]; omega)]
  simp only [Option.bind_some]
  have hf := hr3 k hk2 a18 h18
  have hb : (decide (err36 (read36 (W.set k a18)) = 0) == decide (W[k] = a18)) = true := by
    rw [beq_iff_eq, decide_eq_decide, hf, eq_comm]
  show cond (decide (err36 (read36 (W.set k a18)) = 0) == decide (W[k] = a18)) _ _ = _
  rw [hb, goes36]
  rfl
end Go.V
