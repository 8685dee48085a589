/- A part of the proofs of this seat: what functions of the program answer on the abstract machine. -/
import Derived.Test.YtppoeoleehiemaaM2
import Derived.Test.YtppoeoleehiemaaRows
import Derived.KernelRfl
namespace Go.Ab
open Go.Proofs
set_option linter.unusedSimpArgs false
set_option linter.unusedVariables false
set_option maxRecDepth 4000
variable {T : Specs} {Q : AExit → Env → Hp → Prop} {e : Env} {σ : Hp} {args : List Value} {K : Value → Hp → Prop}
/- backstitch/backstitchlaw19.MeterSides -/
def l4_0 : List AOper := [⟨(some 4), .move (.const (.bool false)), none⟩]
def c4_0 : AC := .region l4_0
theorem w4_0 : wpA T c4_0 Q e σ = wpOps T (Q .normal) l4_0 e σ := rfl
def l4_1 : List AOper := [⟨(some 9), .move (.tmp 0), none⟩,
  ⟨(some 10), .call 27 [(.tmp 9)], none⟩,
  ⟨(some 8), .move (.tmp 10), none⟩,
  ⟨(some 11), .extract (.tmp 8) 0, none⟩,
  ⟨(some 12), .extract (.tmp 8) 1, none⟩,
  ⟨(some 5), .move (.tmp 11), none⟩,
  ⟨(some 6), .move (.tmp 12), none⟩]
def c4_1 : AC := .region l4_1
theorem w4_1 : wpA T c4_1 Q e σ = wpOps T (Q .normal) l4_1 e σ := rfl
def l4_2 : List AOper := [⟨(some 7), .move (.const (.pointer none)), none⟩]
def c4_2 : AC := .region l4_2
theorem w4_2 : wpA T c4_2 Q e σ = wpOps T (Q .normal) l4_2 e σ := rfl
def l4_3 : List AOper := [⟨(some 13), .move (.tmp 7), none⟩,
  ⟨(some 14), .move (.tmp 1), none⟩,
  ⟨(some 15), .call 22 [(.tmp 13), (.tmp 14)], none⟩,
  ⟨(some 16), .bin .neq (.tmp 15) (.const (.int .i64 1)), none⟩,
  ⟨(some 17), .move (.tmp 16), none⟩,
  ⟨(some 18), .move (.tmp 7), (some (17, false))⟩,
  ⟨(some 19), .move (.tmp 1), (some (17, false))⟩,
  ⟨(some 20), .call 24 [(.tmp 18), (.tmp 19)], (some (17, false))⟩,
  ⟨(some 21), .bin .neq (.tmp 20) (.const (.int .i64 1)), (some (17, false))⟩,
  ⟨(some 22), .pick (.tmp 17) (.const (.bool true)) (.tmp 21), none⟩,
  ⟨(some 23), .move (.tmp 22), none⟩,
  ⟨(some 24), .move (.tmp 7), (some (23, false))⟩,
  ⟨(some 25), .call 18 [(.tmp 24)], (some (23, false))⟩,
  ⟨(some 26), .bin .neq (.tmp 25) (.const (.int .i64 0)), (some (23, false))⟩,
  ⟨(some 27), .pick (.tmp 23) (.const (.bool true)) (.tmp 26), none⟩,
  ⟨(some 28), .move (.tmp 27), none⟩,
  ⟨(some 29), .move (.tmp 7), (some (28, false))⟩,
  ⟨(some 30), .call 19 [(.tmp 29)], (some (28, false))⟩,
  ⟨(some 31), .bin .neq (.tmp 30) (.const (.int .i64 0)), (some (28, false))⟩,
  ⟨(some 32), .pick (.tmp 28) (.const (.bool true)) (.tmp 31), none⟩,
  ⟨(some 33), .move (.tmp 32), none⟩,
  ⟨(some 34), .move (.tmp 7), (some (33, false))⟩,
  ⟨(some 35), .call 20 [(.tmp 34)], (some (33, false))⟩,
  ⟨(some 36), .bin .neq (.tmp 35) (.const (.int .i64 0)), (some (33, false))⟩,
  ⟨(some 37), .pick (.tmp 33) (.const (.bool true)) (.tmp 36), none⟩]
def c4_3 : AC := .region l4_3
theorem w4_3 : wpA T c4_3 Q e σ = wpOps T (Q .normal) l4_3 e σ := rfl
def l4_4 : List AOper := [⟨(some 4), .move (.const (.bool false)), none⟩]
def c4_4 : AC := .region l4_4
theorem w4_4 : wpA T c4_4 Q e σ = wpOps T (Q .normal) l4_4 e σ := rfl
def c4_5 : AC := .seq c4_4 .ret
theorem w4_5 : wpA T c4_5 Q e σ = wpA T c4_4 (SeqK T .ret Q) e σ := rfl
def c4_6 : AC := .cond (.tmp 37) c4_5 .skip
theorem w4_6 : wpA T c4_6 Q e σ = CondW T (e.ev (.tmp 37)) c4_5 .skip Q e σ := rfl
def c4_7 : AC := .seq c4_3 c4_6
theorem w4_7 : wpA T c4_7 Q e σ = wpA T c4_3 (SeqK T c4_6 Q) e σ := rfl
def l4_8 : List AOper := [⟨(some 38), .move (.tmp 0), none⟩,
  ⟨(some 39), .bin .lss (.tmp 38) (.const (.int .i64 0)), none⟩]
def c4_8 : AC := .region l4_8
theorem w4_8 : wpA T c4_8 Q e σ = wpOps T (Q .normal) l4_8 e σ := rfl
def l4_9 : List AOper := [⟨(some 40), .move (.tmp 6), none⟩,
  ⟨(some 41), .bin .eql (.tmp 40) (.const (.int .i64 2)), none⟩,
  ⟨(some 42), .move (.tmp 41), none⟩,
  ⟨(some 43), .move (.tmp 5), (some (42, true))⟩,
  ⟨(some 44), .eqv 1 false (.tmp 43) (.const (.pointer none)), (some (42, true))⟩,
  ⟨(some 45), .pick (.tmp 42) (.tmp 44) (.const (.bool false)), none⟩,
  ⟨(some 46), .move (.tmp 45), none⟩,
  ⟨(some 47), .call 17 [], (some (46, true))⟩,
  ⟨(some 48), .pick (.tmp 46) (.tmp 47) (.const (.bool false)), none⟩,
  ⟨(some 4), .move (.tmp 48), none⟩]
def c4_9 : AC := .region l4_9
theorem w4_9 : wpA T c4_9 Q e σ = wpOps T (Q .normal) l4_9 e σ := rfl
def c4_10 : AC := .seq c4_9 .ret
theorem w4_10 : wpA T c4_10 Q e σ = wpA T c4_9 (SeqK T .ret Q) e σ := rfl
def c4_11 : AC := .cond (.tmp 39) c4_10 .skip
theorem w4_11 : wpA T c4_11 Q e σ = CondW T (e.ev (.tmp 39)) c4_10 .skip Q e σ := rfl
def c4_12 : AC := .seq c4_8 c4_11
theorem w4_12 : wpA T c4_12 Q e σ = wpA T c4_8 (SeqK T c4_11 Q) e σ := rfl
def l4_13 : List AOper := [⟨(some 49), .move (.tmp 6), none⟩,
  ⟨(some 50), .bin .neq (.tmp 49) (.const (.int .i64 0)), none⟩,
  ⟨(some 51), .move (.tmp 50), none⟩,
  ⟨(some 52), .move (.tmp 5), (some (51, false))⟩,
  ⟨(some 53), .eqv 1 false (.tmp 52) (.const (.pointer none)), (some (51, false))⟩,
  ⟨(some 54), .pick (.tmp 51) (.const (.bool true)) (.tmp 53), none⟩,
  ⟨(some 55), .move (.tmp 54), none⟩,
  ⟨(some 56), .move (.tmp 5), (some (55, false))⟩,
  ⟨(some 57), .call 18 [(.tmp 56)], (some (55, false))⟩,
  ⟨(some 58), .bin .neq (.tmp 57) (.const (.int .i64 0)), (some (55, false))⟩,
  ⟨(some 59), .pick (.tmp 55) (.const (.bool true)) (.tmp 58), none⟩]
def c4_13 : AC := .region l4_13
theorem w4_13 : wpA T c4_13 Q e σ = wpOps T (Q .normal) l4_13 e σ := rfl
def l4_14 : List AOper := [⟨(some 4), .move (.const (.bool false)), none⟩]
def c4_14 : AC := .region l4_14
theorem w4_14 : wpA T c4_14 Q e σ = wpOps T (Q .normal) l4_14 e σ := rfl
def c4_15 : AC := .seq c4_14 .ret
theorem w4_15 : wpA T c4_15 Q e σ = wpA T c4_14 (SeqK T .ret Q) e σ := rfl
def c4_16 : AC := .cond (.tmp 59) c4_15 .skip
theorem w4_16 : wpA T c4_16 Q e σ = CondW T (e.ev (.tmp 59)) c4_15 .skip Q e σ := rfl
def c4_17 : AC := .seq c4_13 c4_16
theorem w4_17 : wpA T c4_17 Q e σ = wpA T c4_13 (SeqK T c4_16 Q) e σ := rfl
def l4_18 : List AOper := [⟨(some 60), .move (.tmp 1), none⟩,
  ⟨(some 61), .bin .lss (.tmp 60) (.const (.int .i64 0)), none⟩]
def c4_18 : AC := .region l4_18
theorem w4_18 : wpA T c4_18 Q e σ = wpOps T (Q .normal) l4_18 e σ := rfl
def l4_19 : List AOper := [⟨(some 62), .move (.tmp 5), none⟩,
  ⟨(some 63), .move (.tmp 1), none⟩,
  ⟨(some 64), .call 22 [(.tmp 62), (.tmp 63)], none⟩,
  ⟨(some 65), .bin .eql (.tmp 64) (.const (.int .i64 2)), none⟩,
  ⟨(some 66), .move (.tmp 65), none⟩,
  ⟨(some 67), .move (.tmp 5), (some (66, true))⟩,
  ⟨(some 68), .move (.tmp 1), (some (66, true))⟩,
  ⟨(some 69), .call 24 [(.tmp 67), (.tmp 68)], (some (66, true))⟩,
  ⟨(some 70), .bin .eql (.tmp 69) (.const (.int .i64 2)), (some (66, true))⟩,
  ⟨(some 71), .pick (.tmp 66) (.tmp 70) (.const (.bool false)), none⟩,
  ⟨(some 72), .move (.tmp 71), none⟩,
  ⟨(some 73), .move (.tmp 5), (some (72, true))⟩,
  ⟨(some 74), .call 18 [(.tmp 73)], (some (72, true))⟩,
  ⟨(some 75), .bin .eql (.tmp 74) (.const (.int .i64 0)), (some (72, true))⟩,
  ⟨(some 76), .pick (.tmp 72) (.tmp 75) (.const (.bool false)), none⟩,
  ⟨(some 77), .move (.tmp 76), none⟩,
  ⟨(some 78), .call 17 [], (some (77, true))⟩,
  ⟨(some 79), .pick (.tmp 77) (.tmp 78) (.const (.bool false)), none⟩,
  ⟨(some 4), .move (.tmp 79), none⟩]
def c4_19 : AC := .region l4_19
theorem w4_19 : wpA T c4_19 Q e σ = wpOps T (Q .normal) l4_19 e σ := rfl
def c4_20 : AC := .seq c4_19 .ret
theorem w4_20 : wpA T c4_20 Q e σ = wpA T c4_19 (SeqK T .ret Q) e σ := rfl
def c4_21 : AC := .cond (.tmp 61) c4_20 .skip
theorem w4_21 : wpA T c4_21 Q e σ = CondW T (e.ev (.tmp 61)) c4_20 .skip Q e σ := rfl
def c4_22 : AC := .seq c4_18 c4_21
theorem w4_22 : wpA T c4_22 Q e σ = wpA T c4_18 (SeqK T c4_21 Q) e σ := rfl
def l4_23 : List AOper := [⟨(some 80), .move (.tmp 5), none⟩,
  ⟨(some 81), .move (.tmp 1), none⟩,
  ⟨(some 82), .call 22 [(.tmp 80), (.tmp 81)], none⟩,
  ⟨(some 83), .bin .eql (.tmp 82) (.const (.int .i64 0)), none⟩,
  ⟨(some 84), .move (.tmp 1), none⟩,
  ⟨(some 85), .move (.tmp 0), none⟩,
  ⟨(some 86), .bin .leq (.tmp 84) (.tmp 85), none⟩,
  ⟨(some 87), .eqv 0 false (.tmp 83) (.tmp 86), none⟩,
  ⟨(some 88), .move (.tmp 87), none⟩,
  ⟨(some 89), .move (.tmp 5), (some (88, true))⟩,
  ⟨(some 90), .call 19 [(.tmp 89)], (some (88, true))⟩,
  ⟨(some 91), .move (.tmp 0), (some (88, true))⟩,
  ⟨(some 92), .bin .leq (.tmp 90) (.tmp 91), (some (88, true))⟩,
  ⟨(some 93), .pick (.tmp 88) (.tmp 92) (.const (.bool false)), none⟩,
  ⟨(some 94), .move (.tmp 93), none⟩,
  ⟨(some 95), .call 17 [], (some (94, true))⟩,
  ⟨(some 96), .pick (.tmp 94) (.tmp 95) (.const (.bool false)), none⟩,
  ⟨(some 4), .move (.tmp 96), none⟩]
def c4_23 : AC := .region l4_23
theorem w4_23 : wpA T c4_23 Q e σ = wpOps T (Q .normal) l4_23 e σ := rfl
def c4_24 : AC := .seq c4_23 .ret
theorem w4_24 : wpA T c4_24 Q e σ = wpA T c4_23 (SeqK T .ret Q) e σ := rfl
def c4_25 : AC := .seq c4_22 c4_24
theorem w4_25 : wpA T c4_25 Q e σ = wpA T c4_22 (SeqK T c4_24 Q) e σ := rfl
def c4_26 : AC := .seq c4_17 c4_25
theorem w4_26 : wpA T c4_26 Q e σ = wpA T c4_17 (SeqK T c4_25 Q) e σ := rfl
def c4_27 : AC := .seq c4_12 c4_26
theorem w4_27 : wpA T c4_27 Q e σ = wpA T c4_12 (SeqK T c4_26 Q) e σ := rfl
def c4_28 : AC := .seq c4_7 c4_27
theorem w4_28 : wpA T c4_28 Q e σ = wpA T c4_7 (SeqK T c4_27 Q) e σ := rfl
def c4_29 : AC := .seq c4_2 c4_28
theorem w4_29 : wpA T c4_29 Q e σ = wpA T c4_2 (SeqK T c4_28 Q) e σ := rfl
def c4_30 : AC := .seq c4_1 c4_29
theorem w4_30 : wpA T c4_30 Q e σ = wpA T c4_1 (SeqK T c4_29 Q) e σ := rfl
def c4_31 : AC := .seq c4_0 c4_30
theorem w4_31 : wpA T c4_31 Q e σ = wpA T c4_0 (SeqK T c4_30 Q) e σ := rfl
def r4 : List ARes := [.tmp 4]
def a4 : AFn := ⟨97, r4, c4_31⟩
theorem wF4 : wpF T a4 args σ K = (args.length ≤ 97 ∧ wpA T c4_31 (EndK r4 K) (Env.of args) σ) := rfl
theorem tr4 : trFn Try.prog 4 = some a4 := by kernel_rfl
def T4 : Specs := (((((((noSpecs.put 17 s17).put 18 s18).put 19 s19).put 20 s20).put 22 s22).put 24 s24).put 27 s27)
theorem known4 : Known Try.prog T4 := ((((((((Known.none Try.prog).put mono17 sim17).put mono18 sim18).put mono19 sim19).put mono20 sim20).put mono22 sim22).put mono24 sim24).put mono27 sim27)
theorem T4_17 : T4 17 = s17 := rfl
theorem T4_18 : T4 18 = s18 := rfl
theorem T4_19 : T4 19 = s19 := rfl
theorem T4_20 : T4 20 = s20 := rfl
theorem T4_22 : T4 22 = s22 := rfl
theorem T4_24 : T4 24 = s24 := rfl
theorem T4_27 : T4 27 = s27 := rfl
def s4 : Spec := wpF T4 a4
theorem mono4 : MonoS s4 := MonoS.wpF known4.mono a4
theorem sim4 : Sim Try.prog 4 s4 := known4.fn tr4
set_option maxHeartbeats 4000000 in
theorem law4 (σ : Hp) (hσ : σ.Ok) (budget n : Int) (hb : -9223372036854775808 ≤ budget ∧ budget ≤ 9223372036854775807) (hn : -9223372036854775808 ≤ n ∧ n ≤ 9223372036854775807) :
    s4 [.int .i64 budget, .int .i64 n] σ (fun r _ => r = .bool true) := by
  by_cases h1 : budget < 0
  · simp (config := { maxSteps := 5000000 }) -implicitDefEqProofs (disch := first | omega | (simp -implicitDefEqProofs only [add_n, set_n] <;> omega) | fail) only [w4_0, w4_1, w4_2, w4_3, w4_4, w4_5, w4_6, w4_7, w4_8, w4_9, w4_10, w4_11, w4_12, w4_13, w4_14, w4_15, w4_16, w4_17, w4_18, w4_19, w4_20, w4_21, w4_22, w4_23, w4_24, w4_25, w4_26, w4_27, w4_28, w4_29, w4_30, w4_31, l4_0, l4_1, l4_2, l4_3, l4_4, l4_8, l4_9, l4_13, l4_14, l4_18, l4_19, l4_23, wF4, r4, T4_17, T4_18, T4_19, T4_20, T4_22, T4_24, T4_27, s4, w27_0, w27_1, w27_2, w27_3, l27_0, l27_1, wF27, r27, T27_15, s27, w15_0, w15_1, w15_2, w15_3, w15_4, w15_5, w15_6, w15_7, w15_8, w15_9, l15_0, l15_1, l15_2, l15_6, wF15, r15, s15, w24_0, w24_1, w24_2, w24_3, w24_4, w24_5, w24_6, w24_7, w24_8, w24_9, w24_10, w24_11, w24_12, w24_13, w24_14, w24_15, w24_16, w24_17, l24_0, l24_1, l24_2, l24_4, l24_5, l24_12, l24_13, wF24, r24, T24_60, s24, w60_0, w60_1, w60_2, l60_0, l60_1, wF60, r60, s60, w22_0, w22_1, w22_2, w22_3, w22_4, w22_5, w22_6, w22_7, w22_8, w22_9, w22_10, w22_11, w22_12, w22_13, w22_14, w22_15, w22_16, w22_17, w22_18, w22_19, w22_20, w22_21, w22_22, l22_0, l22_1, l22_2, l22_4, l22_5, l22_7, l22_8, l22_17, l22_18, wF22, r22, T22_59, T22_60, s22, w59_0, w59_1, w59_2, w59_3, l59_0, l59_1, wF59, r59, s59, w20_0, w20_1, w20_2, w20_3, w20_4, w20_5, w20_6, w20_7, w20_8, w20_9, l20_0, l20_1, l20_2, l20_6, wF20, r20, s20, w19_0, w19_1, w19_2, w19_3, w19_4, w19_5, w19_6, w19_7, w19_8, w19_9, l19_0, l19_1, l19_2, l19_6, wF19, r19, s19, w18_0, w18_1, w18_2, w18_3, w18_4, w18_5, w18_6, w18_7, w18_8, w18_9, l18_0, l18_1, l18_2, l18_6, wF18, r18, s18, wO_nil, wO_cons, wO_guard, GuardO_tt, GuardO_ff, GuardO_tf, GuardO_ft, OpsK_eq, wI_nil, wI_move, wI_guard, GuardI_tt, GuardI_ff, GuardI_tf, GuardI_ft, ItemK_eq, SeqK_n, SeqK_r, SeqK_x, BlkK_n, BlkK_r, BlkK_x, EndK_n, EndK_r, RetK_some, CondW_t, CondW_f, LoopK_n, LoopK_x, LoopK_r, wA_skip, wA_ret, wA_exit, ev_tmp, ev_const, ev_func, putO_some, putO_none, put_eq, valK_some, bothK_some, r_move, pickV_t, pickV_f, pickV_b, r_pick, r_alloc, r_box, r_build, evParts, r_buildSlice, r_load, r_loadN, r_store, r_bin, r_eqv, r_un, r_conv, r_extract, extractV, r_call, r_len, lenS, r_lenC, r_most, r_least, r_off', r_nilCheck', r_idx', r_idxA', r_fieldV, r_indexV, wS_move, wS_pick, wS_build, wS_load, wS_loadN, wS_nilCheck, wS_bin, wS_eqv, wS_eqCells, wS_un, wS_conv, wS_mkFunc, wS_slice, wS_sliceStr, wS_sliceArr, wS_off, wS_idx, wS_idxA, wS_fieldV, wS_indexV, wS_indexS, wS_extract, wS_len, wS_lenS, wS_lenC, wS_most, wS_least, StillK_t, StillK_f, recheck, allL, run_load, run_loadN, most_int, least_int, ival_int, r_append, r_copy, r_make, b_add, b_sub, b_mul, b_eql, b_neq, b_lss, b_leq, b_gtr, b_geq, u_neg, u_not, q_nn, q_pn, q_np, q_b, q_sn, q_ss, om_s, b_tf, b_ff, b_tt, b_ft, b_xf, b_xt, n_dec, of_0, of_1, of_2, of_3, tup0, tup1, tup2, tup3, tup4, add_n, set_n, set_set, set_top, set_add', ma_at, ma_old, ms_at, ms_ne, load_pt, loadN_pt, store_pt, cellAt_s, cellsAt_s, putAt_s, writeN_w, offV_pt, someV_pt, idxK_at, idxAK_at, fieldV_t, fieldV_f, indexK_at, readN, fillL, newSlice, optK, setL_nil, setL_cons, c_int, c_bool, c_str, c_ptr, c_slice, c_agg, one_int, one_bool, one_str, one_ptr, one_slice, two_s, res_nil, res_cons, res_tmp, res_cell, res_cellN, resC_pt, resN_pt, if_true, if_false, ite_true, ite_false, reduceIte, Nat.reduceEqDiff, Nat.reduceAdd, Nat.reduceMul, Nat.add_zero, Nat.zero_add, Nat.succ_ne_self, and_true, true_and, and_false, false_and, decide_true, decide_false, List.map_cons, List.map_nil, List.length_cons, List.length_nil, List.all_cons, List.all_nil, List.take, List.drop, List.cons_append, List.nil_append, List.append_nil, Bool.and_true, Bool.true_and, Bool.not_true, Bool.not_false, List.getElem?_cons_zero, List.getElem?_cons_succ, List.set_cons_zero, List.set_cons_succ, List.toList_toArray, Option.bind_some, Option.map_some, Bool.false_eq_true, Bool.true_eq_false, Nat.le_refl, Nat.reduceLeDiff, times_0, times_1, times_2, times_3, times_4, times_5, times_6, List.size_toArray, List.getElem?_toArray, List.contains_cons, List.contains_nil, Nat.reduceBEq, beq_self_eq_true, Bool.or_false, Bool.true_or, Bool.false_or, Bool.or_true, Int.reduceLT, Int.reduceLE, Int.reduceEq, Int.reduceAdd, Int.reduceSub, Int.reduceNeg, Int.reduceToNat, Int.max_eq_left, Int.max_eq_right, Int.min_eq_left, Int.min_eq_right, dec_t, dec_f, Int.sub_zero, Int.add_zero, Int.zero_add, Int.lt_irrefl, Int.le_refl, IntWalk.i64_in, eq_self, ne_eq, not_true_eq_false, not_false_eq_true, reduceCtorEq, h1, g17]
  · by_cases h2 : n < 0
    · simp (config := { maxSteps := 5000000 }) -implicitDefEqProofs (disch := first | omega | (simp -implicitDefEqProofs only [add_n, set_n] <;> omega) | fail) only [w4_0, w4_1, w4_2, w4_3, w4_4, w4_5, w4_6, w4_7, w4_8, w4_9, w4_10, w4_11, w4_12, w4_13, w4_14, w4_15, w4_16, w4_17, w4_18, w4_19, w4_20, w4_21, w4_22, w4_23, w4_24, w4_25, w4_26, w4_27, w4_28, w4_29, w4_30, w4_31, l4_0, l4_1, l4_2, l4_3, l4_4, l4_8, l4_9, l4_13, l4_14, l4_18, l4_19, l4_23, wF4, r4, T4_17, T4_18, T4_19, T4_20, T4_22, T4_24, T4_27, s4, w27_0, w27_1, w27_2, w27_3, l27_0, l27_1, wF27, r27, T27_15, s27, w15_0, w15_1, w15_2, w15_3, w15_4, w15_5, w15_6, w15_7, w15_8, w15_9, l15_0, l15_1, l15_2, l15_6, wF15, r15, s15, w24_0, w24_1, w24_2, w24_3, w24_4, w24_5, w24_6, w24_7, w24_8, w24_9, w24_10, w24_11, w24_12, w24_13, w24_14, w24_15, w24_16, w24_17, l24_0, l24_1, l24_2, l24_4, l24_5, l24_12, l24_13, wF24, r24, T24_60, s24, w60_0, w60_1, w60_2, l60_0, l60_1, wF60, r60, s60, w22_0, w22_1, w22_2, w22_3, w22_4, w22_5, w22_6, w22_7, w22_8, w22_9, w22_10, w22_11, w22_12, w22_13, w22_14, w22_15, w22_16, w22_17, w22_18, w22_19, w22_20, w22_21, w22_22, l22_0, l22_1, l22_2, l22_4, l22_5, l22_7, l22_8, l22_17, l22_18, wF22, r22, T22_59, T22_60, s22, w59_0, w59_1, w59_2, w59_3, l59_0, l59_1, wF59, r59, s59, w20_0, w20_1, w20_2, w20_3, w20_4, w20_5, w20_6, w20_7, w20_8, w20_9, l20_0, l20_1, l20_2, l20_6, wF20, r20, s20, w19_0, w19_1, w19_2, w19_3, w19_4, w19_5, w19_6, w19_7, w19_8, w19_9, l19_0, l19_1, l19_2, l19_6, wF19, r19, s19, w18_0, w18_1, w18_2, w18_3, w18_4, w18_5, w18_6, w18_7, w18_8, w18_9, l18_0, l18_1, l18_2, l18_6, wF18, r18, s18, wO_nil, wO_cons, wO_guard, GuardO_tt, GuardO_ff, GuardO_tf, GuardO_ft, OpsK_eq, wI_nil, wI_move, wI_guard, GuardI_tt, GuardI_ff, GuardI_tf, GuardI_ft, ItemK_eq, SeqK_n, SeqK_r, SeqK_x, BlkK_n, BlkK_r, BlkK_x, EndK_n, EndK_r, RetK_some, CondW_t, CondW_f, LoopK_n, LoopK_x, LoopK_r, wA_skip, wA_ret, wA_exit, ev_tmp, ev_const, ev_func, putO_some, putO_none, put_eq, valK_some, bothK_some, r_move, pickV_t, pickV_f, pickV_b, r_pick, r_alloc, r_box, r_build, evParts, r_buildSlice, r_load, r_loadN, r_store, r_bin, r_eqv, r_un, r_conv, r_extract, extractV, r_call, r_len, lenS, r_lenC, r_most, r_least, r_off', r_nilCheck', r_idx', r_idxA', r_fieldV, r_indexV, wS_move, wS_pick, wS_build, wS_load, wS_loadN, wS_nilCheck, wS_bin, wS_eqv, wS_eqCells, wS_un, wS_conv, wS_mkFunc, wS_slice, wS_sliceStr, wS_sliceArr, wS_off, wS_idx, wS_idxA, wS_fieldV, wS_indexV, wS_indexS, wS_extract, wS_len, wS_lenS, wS_lenC, wS_most, wS_least, StillK_t, StillK_f, recheck, allL, run_load, run_loadN, most_int, least_int, ival_int, r_append, r_copy, r_make, b_add, b_sub, b_mul, b_eql, b_neq, b_lss, b_leq, b_gtr, b_geq, u_neg, u_not, q_nn, q_pn, q_np, q_b, q_sn, q_ss, om_s, b_tf, b_ff, b_tt, b_ft, b_xf, b_xt, n_dec, of_0, of_1, of_2, of_3, tup0, tup1, tup2, tup3, tup4, add_n, set_n, set_set, set_top, set_add', ma_at, ma_old, ms_at, ms_ne, load_pt, loadN_pt, store_pt, cellAt_s, cellsAt_s, putAt_s, writeN_w, offV_pt, someV_pt, idxK_at, idxAK_at, fieldV_t, fieldV_f, indexK_at, readN, fillL, newSlice, optK, setL_nil, setL_cons, c_int, c_bool, c_str, c_ptr, c_slice, c_agg, one_int, one_bool, one_str, one_ptr, one_slice, two_s, res_nil, res_cons, res_tmp, res_cell, res_cellN, resC_pt, resN_pt, if_true, if_false, ite_true, ite_false, reduceIte, Nat.reduceEqDiff, Nat.reduceAdd, Nat.reduceMul, Nat.add_zero, Nat.zero_add, Nat.succ_ne_self, and_true, true_and, and_false, false_and, decide_true, decide_false, List.map_cons, List.map_nil, List.length_cons, List.length_nil, List.all_cons, List.all_nil, List.take, List.drop, List.cons_append, List.nil_append, List.append_nil, Bool.and_true, Bool.true_and, Bool.not_true, Bool.not_false, List.getElem?_cons_zero, List.getElem?_cons_succ, List.set_cons_zero, List.set_cons_succ, List.toList_toArray, Option.bind_some, Option.map_some, Bool.false_eq_true, Bool.true_eq_false, Nat.le_refl, Nat.reduceLeDiff, times_0, times_1, times_2, times_3, times_4, times_5, times_6, List.size_toArray, List.getElem?_toArray, List.contains_cons, List.contains_nil, Nat.reduceBEq, beq_self_eq_true, Bool.or_false, Bool.true_or, Bool.false_or, Bool.or_true, Int.reduceLT, Int.reduceLE, Int.reduceEq, Int.reduceAdd, Int.reduceSub, Int.reduceNeg, Int.reduceToNat, Int.max_eq_left, Int.max_eq_right, Int.min_eq_left, Int.min_eq_right, dec_t, dec_f, Int.sub_zero, Int.add_zero, Int.zero_add, Int.lt_irrefl, Int.le_refl, IntWalk.i64_in, eq_self, ne_eq, not_true_eq_false, not_false_eq_true, reduceCtorEq, h1, h2, g17]
    · by_cases h3 : n ≤ budget
      · simp (config := { maxSteps := 5000000 }) -implicitDefEqProofs (disch := first | omega | (simp -implicitDefEqProofs only [add_n, set_n] <;> omega) | fail) only [w4_0, w4_1, w4_2, w4_3, w4_4, w4_5, w4_6, w4_7, w4_8, w4_9, w4_10, w4_11, w4_12, w4_13, w4_14, w4_15, w4_16, w4_17, w4_18, w4_19, w4_20, w4_21, w4_22, w4_23, w4_24, w4_25, w4_26, w4_27, w4_28, w4_29, w4_30, w4_31, l4_0, l4_1, l4_2, l4_3, l4_4, l4_8, l4_9, l4_13, l4_14, l4_18, l4_19, l4_23, wF4, r4, T4_17, T4_18, T4_19, T4_20, T4_22, T4_24, T4_27, s4, w27_0, w27_1, w27_2, w27_3, l27_0, l27_1, wF27, r27, T27_15, s27, w15_0, w15_1, w15_2, w15_3, w15_4, w15_5, w15_6, w15_7, w15_8, w15_9, l15_0, l15_1, l15_2, l15_6, wF15, r15, s15, w24_0, w24_1, w24_2, w24_3, w24_4, w24_5, w24_6, w24_7, w24_8, w24_9, w24_10, w24_11, w24_12, w24_13, w24_14, w24_15, w24_16, w24_17, l24_0, l24_1, l24_2, l24_4, l24_5, l24_12, l24_13, wF24, r24, T24_60, s24, w60_0, w60_1, w60_2, l60_0, l60_1, wF60, r60, s60, w22_0, w22_1, w22_2, w22_3, w22_4, w22_5, w22_6, w22_7, w22_8, w22_9, w22_10, w22_11, w22_12, w22_13, w22_14, w22_15, w22_16, w22_17, w22_18, w22_19, w22_20, w22_21, w22_22, l22_0, l22_1, l22_2, l22_4, l22_5, l22_7, l22_8, l22_17, l22_18, wF22, r22, T22_59, T22_60, s22, w59_0, w59_1, w59_2, w59_3, l59_0, l59_1, wF59, r59, s59, w20_0, w20_1, w20_2, w20_3, w20_4, w20_5, w20_6, w20_7, w20_8, w20_9, l20_0, l20_1, l20_2, l20_6, wF20, r20, s20, w19_0, w19_1, w19_2, w19_3, w19_4, w19_5, w19_6, w19_7, w19_8, w19_9, l19_0, l19_1, l19_2, l19_6, wF19, r19, s19, w18_0, w18_1, w18_2, w18_3, w18_4, w18_5, w18_6, w18_7, w18_8, w18_9, l18_0, l18_1, l18_2, l18_6, wF18, r18, s18, wO_nil, wO_cons, wO_guard, GuardO_tt, GuardO_ff, GuardO_tf, GuardO_ft, OpsK_eq, wI_nil, wI_move, wI_guard, GuardI_tt, GuardI_ff, GuardI_tf, GuardI_ft, ItemK_eq, SeqK_n, SeqK_r, SeqK_x, BlkK_n, BlkK_r, BlkK_x, EndK_n, EndK_r, RetK_some, CondW_t, CondW_f, LoopK_n, LoopK_x, LoopK_r, wA_skip, wA_ret, wA_exit, ev_tmp, ev_const, ev_func, putO_some, putO_none, put_eq, valK_some, bothK_some, r_move, pickV_t, pickV_f, pickV_b, r_pick, r_alloc, r_box, r_build, evParts, r_buildSlice, r_load, r_loadN, r_store, r_bin, r_eqv, r_un, r_conv, r_extract, extractV, r_call, r_len, lenS, r_lenC, r_most, r_least, r_off', r_nilCheck', r_idx', r_idxA', r_fieldV, r_indexV, wS_move, wS_pick, wS_build, wS_load, wS_loadN, wS_nilCheck, wS_bin, wS_eqv, wS_eqCells, wS_un, wS_conv, wS_mkFunc, wS_slice, wS_sliceStr, wS_sliceArr, wS_off, wS_idx, wS_idxA, wS_fieldV, wS_indexV, wS_indexS, wS_extract, wS_len, wS_lenS, wS_lenC, wS_most, wS_least, StillK_t, StillK_f, recheck, allL, run_load, run_loadN, most_int, least_int, ival_int, r_append, r_copy, r_make, b_add, b_sub, b_mul, b_eql, b_neq, b_lss, b_leq, b_gtr, b_geq, u_neg, u_not, q_nn, q_pn, q_np, q_b, q_sn, q_ss, om_s, b_tf, b_ff, b_tt, b_ft, b_xf, b_xt, n_dec, of_0, of_1, of_2, of_3, tup0, tup1, tup2, tup3, tup4, add_n, set_n, set_set, set_top, set_add', ma_at, ma_old, ms_at, ms_ne, load_pt, loadN_pt, store_pt, cellAt_s, cellsAt_s, putAt_s, writeN_w, offV_pt, someV_pt, idxK_at, idxAK_at, fieldV_t, fieldV_f, indexK_at, readN, fillL, newSlice, optK, setL_nil, setL_cons, c_int, c_bool, c_str, c_ptr, c_slice, c_agg, one_int, one_bool, one_str, one_ptr, one_slice, two_s, res_nil, res_cons, res_tmp, res_cell, res_cellN, resC_pt, resN_pt, if_true, if_false, ite_true, ite_false, reduceIte, Nat.reduceEqDiff, Nat.reduceAdd, Nat.reduceMul, Nat.add_zero, Nat.zero_add, Nat.succ_ne_self, and_true, true_and, and_false, false_and, decide_true, decide_false, List.map_cons, List.map_nil, List.length_cons, List.length_nil, List.all_cons, List.all_nil, List.take, List.drop, List.cons_append, List.nil_append, List.append_nil, Bool.and_true, Bool.true_and, Bool.not_true, Bool.not_false, List.getElem?_cons_zero, List.getElem?_cons_succ, List.set_cons_zero, List.set_cons_succ, List.toList_toArray, Option.bind_some, Option.map_some, Bool.false_eq_true, Bool.true_eq_false, Nat.le_refl, Nat.reduceLeDiff, times_0, times_1, times_2, times_3, times_4, times_5, times_6, List.size_toArray, List.getElem?_toArray, List.contains_cons, List.contains_nil, Nat.reduceBEq, beq_self_eq_true, Bool.or_false, Bool.true_or, Bool.false_or, Bool.or_true, Int.reduceLT, Int.reduceLE, Int.reduceEq, Int.reduceAdd, Int.reduceSub, Int.reduceNeg, Int.reduceToNat, Int.max_eq_left, Int.max_eq_right, Int.min_eq_left, Int.min_eq_right, dec_t, dec_f, Int.sub_zero, Int.add_zero, Int.zero_add, Int.lt_irrefl, Int.le_refl, IntWalk.i64_in, eq_self, ne_eq, not_true_eq_false, not_false_eq_true, reduceCtorEq, h1, h2, h3, g17]
      · simp (config := { maxSteps := 5000000 }) -implicitDefEqProofs (disch := first | omega | (simp -implicitDefEqProofs only [add_n, set_n] <;> omega) | fail) only [w4_0, w4_1, w4_2, w4_3, w4_4, w4_5, w4_6, w4_7, w4_8, w4_9, w4_10, w4_11, w4_12, w4_13, w4_14, w4_15, w4_16, w4_17, w4_18, w4_19, w4_20, w4_21, w4_22, w4_23, w4_24, w4_25, w4_26, w4_27, w4_28, w4_29, w4_30, w4_31, l4_0, l4_1, l4_2, l4_3, l4_4, l4_8, l4_9, l4_13, l4_14, l4_18, l4_19, l4_23, wF4, r4, T4_17, T4_18, T4_19, T4_20, T4_22, T4_24, T4_27, s4, w27_0, w27_1, w27_2, w27_3, l27_0, l27_1, wF27, r27, T27_15, s27, w15_0, w15_1, w15_2, w15_3, w15_4, w15_5, w15_6, w15_7, w15_8, w15_9, l15_0, l15_1, l15_2, l15_6, wF15, r15, s15, w24_0, w24_1, w24_2, w24_3, w24_4, w24_5, w24_6, w24_7, w24_8, w24_9, w24_10, w24_11, w24_12, w24_13, w24_14, w24_15, w24_16, w24_17, l24_0, l24_1, l24_2, l24_4, l24_5, l24_12, l24_13, wF24, r24, T24_60, s24, w60_0, w60_1, w60_2, l60_0, l60_1, wF60, r60, s60, w22_0, w22_1, w22_2, w22_3, w22_4, w22_5, w22_6, w22_7, w22_8, w22_9, w22_10, w22_11, w22_12, w22_13, w22_14, w22_15, w22_16, w22_17, w22_18, w22_19, w22_20, w22_21, w22_22, l22_0, l22_1, l22_2, l22_4, l22_5, l22_7, l22_8, l22_17, l22_18, wF22, r22, T22_59, T22_60, s22, w59_0, w59_1, w59_2, w59_3, l59_0, l59_1, wF59, r59, s59, w20_0, w20_1, w20_2, w20_3, w20_4, w20_5, w20_6, w20_7, w20_8, w20_9, l20_0, l20_1, l20_2, l20_6, wF20, r20, s20, w19_0, w19_1, w19_2, w19_3, w19_4, w19_5, w19_6, w19_7, w19_8, w19_9, l19_0, l19_1, l19_2, l19_6, wF19, r19, s19, w18_0, w18_1, w18_2, w18_3, w18_4, w18_5, w18_6, w18_7, w18_8, w18_9, l18_0, l18_1, l18_2, l18_6, wF18, r18, s18, wO_nil, wO_cons, wO_guard, GuardO_tt, GuardO_ff, GuardO_tf, GuardO_ft, OpsK_eq, wI_nil, wI_move, wI_guard, GuardI_tt, GuardI_ff, GuardI_tf, GuardI_ft, ItemK_eq, SeqK_n, SeqK_r, SeqK_x, BlkK_n, BlkK_r, BlkK_x, EndK_n, EndK_r, RetK_some, CondW_t, CondW_f, LoopK_n, LoopK_x, LoopK_r, wA_skip, wA_ret, wA_exit, ev_tmp, ev_const, ev_func, putO_some, putO_none, put_eq, valK_some, bothK_some, r_move, pickV_t, pickV_f, pickV_b, r_pick, r_alloc, r_box, r_build, evParts, r_buildSlice, r_load, r_loadN, r_store, r_bin, r_eqv, r_un, r_conv, r_extract, extractV, r_call, r_len, lenS, r_lenC, r_most, r_least, r_off', r_nilCheck', r_idx', r_idxA', r_fieldV, r_indexV, wS_move, wS_pick, wS_build, wS_load, wS_loadN, wS_nilCheck, wS_bin, wS_eqv, wS_eqCells, wS_un, wS_conv, wS_mkFunc, wS_slice, wS_sliceStr, wS_sliceArr, wS_off, wS_idx, wS_idxA, wS_fieldV, wS_indexV, wS_indexS, wS_extract, wS_len, wS_lenS, wS_lenC, wS_most, wS_least, StillK_t, StillK_f, recheck, allL, run_load, run_loadN, most_int, least_int, ival_int, r_append, r_copy, r_make, b_add, b_sub, b_mul, b_eql, b_neq, b_lss, b_leq, b_gtr, b_geq, u_neg, u_not, q_nn, q_pn, q_np, q_b, q_sn, q_ss, om_s, b_tf, b_ff, b_tt, b_ft, b_xf, b_xt, n_dec, of_0, of_1, of_2, of_3, tup0, tup1, tup2, tup3, tup4, add_n, set_n, set_set, set_top, set_add', ma_at, ma_old, ms_at, ms_ne, load_pt, loadN_pt, store_pt, cellAt_s, cellsAt_s, putAt_s, writeN_w, offV_pt, someV_pt, idxK_at, idxAK_at, fieldV_t, fieldV_f, indexK_at, readN, fillL, newSlice, optK, setL_nil, setL_cons, c_int, c_bool, c_str, c_ptr, c_slice, c_agg, one_int, one_bool, one_str, one_ptr, one_slice, two_s, res_nil, res_cons, res_tmp, res_cell, res_cellN, resC_pt, resN_pt, if_true, if_false, ite_true, ite_false, reduceIte, Nat.reduceEqDiff, Nat.reduceAdd, Nat.reduceMul, Nat.add_zero, Nat.zero_add, Nat.succ_ne_self, and_true, true_and, and_false, false_and, decide_true, decide_false, List.map_cons, List.map_nil, List.length_cons, List.length_nil, List.all_cons, List.all_nil, List.take, List.drop, List.cons_append, List.nil_append, List.append_nil, Bool.and_true, Bool.true_and, Bool.not_true, Bool.not_false, List.getElem?_cons_zero, List.getElem?_cons_succ, List.set_cons_zero, List.set_cons_succ, List.toList_toArray, Option.bind_some, Option.map_some, Bool.false_eq_true, Bool.true_eq_false, Nat.le_refl, Nat.reduceLeDiff, times_0, times_1, times_2, times_3, times_4, times_5, times_6, List.size_toArray, List.getElem?_toArray, List.contains_cons, List.contains_nil, Nat.reduceBEq, beq_self_eq_true, Bool.or_false, Bool.true_or, Bool.false_or, Bool.or_true, Int.reduceLT, Int.reduceLE, Int.reduceEq, Int.reduceAdd, Int.reduceSub, Int.reduceNeg, Int.reduceToNat, Int.max_eq_left, Int.max_eq_right, Int.min_eq_left, Int.min_eq_right, dec_t, dec_f, Int.sub_zero, Int.add_zero, Int.zero_add, Int.lt_irrefl, Int.le_refl, IntWalk.i64_in, eq_self, ne_eq, not_true_eq_false, not_false_eq_true, reduceCtorEq, h1, h2, h3, g17]
end Go.Ab
