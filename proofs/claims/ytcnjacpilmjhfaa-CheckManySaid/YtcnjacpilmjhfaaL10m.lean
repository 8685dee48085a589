/- As many operations as may be, and one more. -/
import Derived.Test.YtcnjacpilmjhfaaL10c
namespace Go.V
set_option linter.unusedVariables false
set_option linter.unusedSimpArgs false
open Go.Ab
set_option linter.unusedVariables false
set_option linter.unusedSimpArgs false
theorem goes10 : D_law10_goes = some true := by kernel_rfl

theorem same_scan {o : Op5} (h1 : ¬(o.1 < 0 ∨ 7 < o.1)) (h0 : o.1 ≠ 0) (h7 : o.1 ≠ 7) : ∀ (n d : Nat), scan (List.replicate n o) d = some d
  | 0, _ => rfl
  | n + 1, d => by
    rw [List.replicate_succ, scan, if_neg h1, if_neg h0, if_neg h7]
    exact same_scan h1 h0 h7 n d
theorem same_hmax {o : Op5} (h0 : o.1 ≠ 0) (h7 : o.1 ≠ 7) : ∀ (n d m : Nat), hmax (List.replicate n o) d m = m
  | 0, _, _ => rfl
  | n + 1, d, m => by
    rw [List.replicate_succ, hmax, if_neg h7, if_neg h0]
    exact same_hmax h0 h7 n d m
theorem same_runS {o : Op5} (h0 : o.1 ≠ 0) (h7 : o.1 ≠ 7) (v : Int) : ∀ (n : Nat) (w : Int), runS (List.replicate n o) [(v, w)] = some [(v, w + n)]
  | 0, w => by simp [runS]
  | n + 1, w => by
    rw [List.replicate_succ, runS, if_neg h7, if_neg h0, same_runS h0 h7 v n]
    · congr 3
      push_cast
      omega
    · intro _ _ _ _ _ h
      cases h
theorem same_any {o : Op5} {p : Op5 → Bool} (h : p o = false) (n : Nat) : (List.replicate n o).any p = false := by
  rw [List.any_eq_false]
  intro x hx
  rw [(List.mem_replicate.1 hx).2, h]
  simp
def opOf (k : Int) : Op5 := (k, 0, 0, 0, 0)
theorem many_ok {k : Int} (hk : k = 4 ∨ k = 5 ∨ k = 6) : D_check_Program 1 (List.replicate 4096 (opOf k)) = some 0 := by
  have h1 : ¬((opOf k).1 < 0 ∨ 7 < (opOf k).1) := by simp only [opOf]; omega
  have h0 : (opOf k).1 ≠ 0 := by simp only [opOf]; omega
  have h7 : (opOf k).1 ≠ 7 := by simp only [opOf]; omega
  have hs : scan (List.replicate 4096 (opOf k)) 0 = some 0 := same_scan h1 h0 h7 4096 0
  have hok : OpsOk (List.replicate 4096 (opOf k)) := ⟨by rw [List.length_replicate]; omega, fun o ho => by rw [(List.mem_replicate.1 ho).2]; simp [opOf]⟩
  have hf : formB (List.replicate 4096 (opOf k)) = true := by
    unfold formB
    rw [hs, same_any (by rcases hk with rfl | rfl | rfl <;> rfl) 4096]
    rfl
  have hr : regsB 1 (List.replicate 4096 (opOf k)) = true := by
    unfold regsB
    rw [same_any (by rcases hk with rfl | rfl | rfl <;> rfl) 4096]
    rfl
  rw [check_Program hok]
  unfold prog10
  have l0 : lk0 (List.replicate 4096 (opOf k)) = 0 := by unfold lk0; rw [if_pos hf]
  have l1 : lk1 1 (List.replicate 4096 (opOf k)) = 0 := by unfold lk1; rw [if_pos hr]
  have l2 : lk2 (List.replicate 4096 (opOf k)) = 0 := by
    unfold lk2 deepI
    rw [if_pos hs, same_hmax h0 h7]
    rfl
  have l3 : lk3 (List.replicate 4096 (opOf k)) = 0 := by
    unfold lk3 writes9 Q9
    rw [if_pos hs, same_runS h0 h7]
    rfl
  rw [l0, l1, l2, l3]
  rfl
theorem more_bad {k : Int} (hk : k = 4 ∨ k = 5 ∨ k = 6) : D_check_Program 1 (List.replicate 4097 (opOf k)) = some 6 := by
  have hf : D_check_program_form 1 (List.replicate 4097 (opOf k)) = some 6 := by
    unfold D_check_program_form
    obtain ⟨m, hm⟩ := nest_Match (l := List.replicate 4097 (opOf k)) (by rw [List.length_replicate]; omega)
    rw [hm]
    simp only [Option.bind_some, check_fail, List.length_replicate]
    rw [decide_eq_true (by omega)]
    rfl
  unfold D_check_Program
  rw [hf]
  rfl
theorem kind_of {a : Int} (ha : 0 ≤ a ∧ a ≤ 255) : ∃ j, ix (Int.tmod a 3) 3 = some j ∧ (List.getD [(4 : Int), 6, 5] j 0 = 4 ∨ List.getD [(4 : Int), 6, 5] j 0 = 5 ∨ List.getD [(4 : Int), 6, 5] j 0 = 6) := by
  have h : Int.tmod a 3 = a % 3 := Int.tmod_eq_emod_of_nonneg ha.1
  rw [h]
  have : a % 3 = 0 ∨ a % 3 = 1 ∨ a % 3 = 2 := by omega
  rcases this with e | e | e
  · rw [e]; exact ⟨0, rfl, .inl rfl⟩
  · rw [e]; exact ⟨1, rfl, .inr (.inr rfl)⟩
  · rw [e]; exact ⟨2, rfl, .inr (.inl rfl)⟩
theorem fill_loop {a : Int} {j : Nat} (hj : ix (Int.tmod a 3) 3 = some j) (n : Nat) (hn : n ≤ 100000) (m : Int) :
    loopN (D_law10_CheckMany_L0 a ((n : Int), m)) BIG (0, List.replicate n (0, 0, 0, 0, 0)) = some (List.replicate n (opOf (List.getD [(4 : Int), 6, 5] j 0))) := by
  have h := loop_nat (f := D_law10_CheckMany_L0 a ((n : Int), m)) (n := n) (fun i => List.replicate i (opOf (List.getD [(4 : Int), 6, 5] j 0)) ++ List.replicate (n - i) ((0, 0, 0, 0, 0) : Op5)) (c := List.replicate n (opOf (List.getD [(4 : Int), 6, 5] j 0))) (by omega) ?_ ?_
  · simpa using h
  · intro i hi
    unfold D_law10_CheckMany_L0
    simp only [cond_dec, hj, Option.bind_some]
    rw [if_pos (by omega)]
    have hl : (List.replicate i (opOf (List.getD [(4 : Int), 6, 5] j 0)) ++ List.replicate (n - i) ((0, 0, 0, 0, 0) : Op5)).length = n := by simp; omega
    rw [hl, ix_in hi]
    simp only [Option.bind_some]
    rw [List.getElem?_eq_getElem (by omega)]
    simp only [Option.bind_some]
    rw [wrap64 (by omega)]
    have e : n - i = (n - (i + 1)) + 1 := by omega
    rw [e, List.replicate_succ, List.set_append_right _ _ (by simp)]
    simp only [List.length_replicate, Nat.sub_self, List.set_cons_zero]
    congr 3
    rw [List.replicate_succ', List.append_assoc]
    rfl
  · unfold D_law10_CheckMany_L0
    simp only [cond_dec]
    rw [if_neg (by omega)]
    simp
theorem fill_at {a : Int} {j : Nat} (hj : ix (Int.tmod a 3) 3 = some j) (N : Int) (n : Nat) (hN : N = (n : Int)) (hn : n ≤ 100000) (m : Int) :
    loopN (D_law10_CheckMany_L0 a (N, m)) BIG (0, List.replicate (Int.toNat N) (0, 0, 0, 0, 0)) = some (List.replicate n (opOf (List.getD [(4 : Int), 6, 5] j 0))) := by
  subst hN
  rw [Int.toNat_natCast]
  exact fill_loop hj n hn m
def deepL (n : Nat) : List Op5 := List.replicate n (7, 0, 0, 0, 2)
theorem deep_loop (N : Int) (n : Nat) (hN : N = (n : Int)) (hn : n ≤ 100000) (m : Int) :
    loopN (D_law10_CheckMany_L1 (m, N)) BIG (0, []) = some (deepL n) := by
  subst hN
  have h := loop_nat (f := D_law10_CheckMany_L1 (m, (n : Int))) (n := n) (fun i => deepL i) (c := deepL n) (by omega) ?_ ?_
  · exact h
  · intro i hi
    unfold D_law10_CheckMany_L1
    simp only [cond_dec]
    rw [if_pos (by omega), gd_fits (by unfold deepL; rw [List.length_replicate]; omega) (by omega), wrap64 (by omega)]
    unfold deepL
    rw [List.replicate_succ']
    rfl
  · unfold D_law10_CheckMany_L1
    simp only [cond_dec]
    rw [if_neg (by omega)]
def zs (n : Nat) : List Op5 := List.replicate n (0, 0, 0, 0, 0)
theorem deep_ok : D_check_Program 1 (deepL 8 ++ zs 8) = some 0 := by
  rw [check_Program ⟨by decide, by decide⟩]
  kernel_rfl
theorem deep_bad : D_check_Program 1 (deepL 9 ++ zs 9) = some 8 := by
  rw [check_Program ⟨by decide, by decide⟩]
  kernel_rfl
theorem deepest_ok : D_check_Deepest 1 (deepL 8 ++ zs 8) = some 8 := by
  unfold D_check_Deepest
  rw [deep_ok, nest_Deep (by decide)]
  kernel_rfl
theorem law10_many (a0 : Bool) (a1 : Int) (f0 : Fine .bool a0) (f1 : Fine (.int .u8) a1) : D_law10_CheckMany a0 a1 = some true := by
  have ha : 0 ≤ a1 ∧ a1 ≤ 255 := f1
  obtain ⟨j, hj, hk⟩ := kind_of ha
  unfold D_law10_CheckMany
  rw [goes10]
  have e8 : List.replicate (Int.toNat 8) ((0, 0, 0, 0, 0) : Op5) = zs 8 := rfl
  have e9 : List.replicate (Int.toNat 9) ((0, 0, 0, 0, 0) : Op5) = zs 9 := rfl
  cases a0
  · simp only [cond_false, Option.bind_some]
    rw [fill_at hj 4096 4096 rfl (by omega) 8, deep_loop 8 8 rfl (by omega)]
    simp only [Option.bind_some]
    rw [many_ok hk, e8, deep_ok, deepest_ok]
    show _ = some true
    kernel_rfl
  · simp only [cond_true, Option.bind_some]
    rw [fill_at hj 4097 4097 rfl (by omega) 9, deep_loop 9 9 rfl (by omega)]
    simp only [Option.bind_some]
    rw [more_bad hk, e9, deep_bad]
    show _ = some true
    kernel_rfl
end Go.V
