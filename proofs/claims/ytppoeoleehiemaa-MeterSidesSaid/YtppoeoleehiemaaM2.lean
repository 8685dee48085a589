/- A part of the proofs of this seat: what functions of the program answer on the abstract machine. -/
import Derived.Test.YtppoeoleehiemaaM1
import Derived.Test.YtppoeoleehiemaaRows
import Derived.KernelRfl
namespace Go.Ab
open Go.Proofs
set_option linter.unusedSimpArgs false
set_option linter.unusedVariables false
set_option maxRecDepth 4000
variable {T : Specs} {Q : AExit → Env → Hp → Prop} {e : Env} {σ : Hp} {args : List Value} {K : Value → Hp → Prop}
/- backstitch/backstitchlaw19.goes -/
def l17_0 : List AOper := [⟨(some 0), .move (.const (.bool false)), none⟩]
def c17_0 : AC := .region l17_0
theorem w17_0 : wpA T c17_0 Q e σ = wpOps T (Q .normal) l17_0 e σ := rfl
def l17_1 : List AOper := [⟨(some 4), .call 27 [(.const (.int .i64 10))], none⟩,
  ⟨(some 3), .move (.tmp 4), none⟩,
  ⟨(some 5), .extract (.tmp 3) 0, none⟩,
  ⟨(some 6), .extract (.tmp 3) 1, none⟩,
  ⟨(some 1), .move (.tmp 5), none⟩,
  ⟨(some 2), .move (.tmp 6), none⟩]
def c17_1 : AC := .region l17_1
theorem w17_1 : wpA T c17_1 Q e σ = wpOps T (Q .normal) l17_1 e σ := rfl
def l17_2 : List AOper := [⟨(some 7), .move (.tmp 2), none⟩,
  ⟨(some 8), .bin .neq (.tmp 7) (.const (.int .i64 0)), none⟩,
  ⟨(some 9), .move (.tmp 8), none⟩,
  ⟨(some 10), .move (.tmp 1), (some (9, false))⟩,
  ⟨(some 11), .eqv 1 false (.tmp 10) (.const (.pointer none)), (some (9, false))⟩,
  ⟨(some 12), .pick (.tmp 9) (.const (.bool true)) (.tmp 11), none⟩]
def c17_2 : AC := .region l17_2
theorem w17_2 : wpA T c17_2 Q e σ = wpOps T (Q .normal) l17_2 e σ := rfl
def l17_3 : List AOper := [⟨(some 0), .move (.const (.bool false)), none⟩]
def c17_3 : AC := .region l17_3
theorem w17_3 : wpA T c17_3 Q e σ = wpOps T (Q .normal) l17_3 e σ := rfl
def c17_4 : AC := .seq c17_3 .ret
theorem w17_4 : wpA T c17_4 Q e σ = wpA T c17_3 (SeqK T .ret Q) e σ := rfl
def c17_5 : AC := .cond (.tmp 12) c17_4 .skip
theorem w17_5 : wpA T c17_5 Q e σ = CondW T (e.ev (.tmp 12)) c17_4 .skip Q e σ := rfl
def c17_6 : AC := .seq c17_2 c17_5
theorem w17_6 : wpA T c17_6 Q e σ = wpA T c17_2 (SeqK T c17_5 Q) e σ := rfl
def l17_7 : List AOper := [⟨(some 13), .move (.tmp 1), none⟩,
  ⟨(some 14), .call 22 [(.tmp 13), (.const (.int .i64 7))], none⟩,
  ⟨(some 15), .bin .eql (.tmp 14) (.const (.int .i64 0)), none⟩,
  ⟨(some 16), .move (.tmp 15), none⟩,
  ⟨(some 17), .move (.tmp 1), (some (16, true))⟩,
  ⟨(some 18), .call 24 [(.tmp 17), (.const (.int .i64 3))], (some (16, true))⟩,
  ⟨(some 19), .bin .eql (.tmp 18) (.const (.int .i64 0)), (some (16, true))⟩,
  ⟨(some 20), .pick (.tmp 16) (.tmp 19) (.const (.bool false)), none⟩,
  ⟨(some 21), .move (.tmp 20), none⟩,
  ⟨(some 22), .move (.tmp 1), (some (21, true))⟩,
  ⟨(some 23), .call 22 [(.tmp 22), (.const (.int .i64 5))], (some (21, true))⟩,
  ⟨(some 24), .bin .eql (.tmp 23) (.const (.int .i64 0)), (some (21, true))⟩,
  ⟨(some 25), .pick (.tmp 21) (.tmp 24) (.const (.bool false)), none⟩,
  ⟨(some 26), .move (.tmp 25), none⟩,
  ⟨(some 27), .move (.tmp 1), (some (26, true))⟩,
  ⟨(some 28), .call 18 [(.tmp 27)], (some (26, true))⟩,
  ⟨(some 29), .bin .eql (.tmp 28) (.const (.int .i64 9)), (some (26, true))⟩,
  ⟨(some 30), .pick (.tmp 26) (.tmp 29) (.const (.bool false)), none⟩,
  ⟨(some 31), .move (.tmp 30), none⟩,
  ⟨(some 32), .move (.tmp 1), (some (31, true))⟩,
  ⟨(some 33), .call 19 [(.tmp 32)], (some (31, true))⟩,
  ⟨(some 34), .bin .eql (.tmp 33) (.const (.int .i64 9)), (some (31, true))⟩,
  ⟨(some 35), .pick (.tmp 31) (.tmp 34) (.const (.bool false)), none⟩,
  ⟨(some 36), .move (.tmp 35), none⟩,
  ⟨(some 37), .move (.tmp 1), (some (36, true))⟩,
  ⟨(some 38), .call 22 [(.tmp 37), (.const (.int .i64 2))], (some (36, true))⟩,
  ⟨(some 39), .bin .eql (.tmp 38) (.const (.int .i64 15)), (some (36, true))⟩,
  ⟨(some 40), .pick (.tmp 36) (.tmp 39) (.const (.bool false)), none⟩,
  ⟨(some 41), .move (.tmp 40), none⟩,
  ⟨(some 42), .move (.tmp 1), (some (41, true))⟩,
  ⟨(some 43), .call 20 [(.tmp 42)], (some (41, true))⟩,
  ⟨(some 44), .bin .eql (.tmp 43) (.const (.int .i64 10)), (some (41, true))⟩,
  ⟨(some 45), .pick (.tmp 41) (.tmp 44) (.const (.bool false)), none⟩,
  ⟨(some 0), .move (.tmp 45), none⟩]
def c17_7 : AC := .region l17_7
theorem w17_7 : wpA T c17_7 Q e σ = wpOps T (Q .normal) l17_7 e σ := rfl
def c17_8 : AC := .seq c17_7 .ret
theorem w17_8 : wpA T c17_8 Q e σ = wpA T c17_7 (SeqK T .ret Q) e σ := rfl
def c17_9 : AC := .seq c17_6 c17_8
theorem w17_9 : wpA T c17_9 Q e σ = wpA T c17_6 (SeqK T c17_8 Q) e σ := rfl
def c17_10 : AC := .seq c17_1 c17_9
theorem w17_10 : wpA T c17_10 Q e σ = wpA T c17_1 (SeqK T c17_9 Q) e σ := rfl
def c17_11 : AC := .seq c17_0 c17_10
theorem w17_11 : wpA T c17_11 Q e σ = wpA T c17_0 (SeqK T c17_10 Q) e σ := rfl
def r17 : List ARes := [.tmp 0]
def a17 : AFn := ⟨46, r17, c17_11⟩
theorem wF17 : wpF T a17 args σ K = (args.length ≤ 46 ∧ wpA T c17_11 (EndK r17 K) (Env.of args) σ) := rfl
theorem tr17 : trFn Try.prog 17 = some a17 := by kernel_rfl
def T17 : Specs := ((((((noSpecs.put 18 s18).put 19 s19).put 20 s20).put 22 s22).put 24 s24).put 27 s27)
theorem known17 : Known Try.prog T17 := (((((((Known.none Try.prog).put mono18 sim18).put mono19 sim19).put mono20 sim20).put mono22 sim22).put mono24 sim24).put mono27 sim27)
theorem T17_18 : T17 18 = s18 := rfl
theorem T17_19 : T17 19 = s19 := rfl
theorem T17_20 : T17 20 = s20 := rfl
theorem T17_22 : T17 22 = s22 := rfl
theorem T17_24 : T17 24 = s24 := rfl
theorem T17_27 : T17 27 = s27 := rfl
def S17 : Rel := fun args σ r σ' => args = [] ∧ r = .bool true ∧ σ' = σ
theorem run17 (args : List Value) (σ : Hp) (r : Value) (σ' : Hp) (hσ : σ.Ok) (h : S17 args σ r σ') : wpF T17 a17 args σ (Fin σ fun r1 σ1 => r1 = r ∧ σ1 = σ') := by
  obtain ⟨rfl, rfl, rfl⟩ := h
  simp (config := { maxSteps := 5000000 }) -implicitDefEqProofs (disch := first | omega | (simp -implicitDefEqProofs only [add_n, set_n] <;> omega) | fail) only [w17_0, w17_1, w17_2, w17_3, w17_4, w17_5, w17_6, w17_7, w17_8, w17_9, w17_10, w17_11, l17_0, l17_1, l17_2, l17_3, l17_7, wF17, r17, T17_18, T17_19, T17_20, T17_22, T17_24, T17_27, w27_0, w27_1, w27_2, w27_3, l27_0, l27_1, wF27, r27, T27_15, s27, w15_0, w15_1, w15_2, w15_3, w15_4, w15_5, w15_6, w15_7, w15_8, w15_9, l15_0, l15_1, l15_2, l15_6, wF15, r15, s15, w24_0, w24_1, w24_2, w24_3, w24_4, w24_5, w24_6, w24_7, w24_8, w24_9, w24_10, w24_11, w24_12, w24_13, w24_14, w24_15, w24_16, w24_17, l24_0, l24_1, l24_2, l24_4, l24_5, l24_12, l24_13, wF24, r24, T24_60, s24, w60_0, w60_1, w60_2, l60_0, l60_1, wF60, r60, s60, w22_0, w22_1, w22_2, w22_3, w22_4, w22_5, w22_6, w22_7, w22_8, w22_9, w22_10, w22_11, w22_12, w22_13, w22_14, w22_15, w22_16, w22_17, w22_18, w22_19, w22_20, w22_21, w22_22, l22_0, l22_1, l22_2, l22_4, l22_5, l22_7, l22_8, l22_17, l22_18, wF22, r22, T22_59, T22_60, s22, w59_0, w59_1, w59_2, w59_3, l59_0, l59_1, wF59, r59, s59, w20_0, w20_1, w20_2, w20_3, w20_4, w20_5, w20_6, w20_7, w20_8, w20_9, l20_0, l20_1, l20_2, l20_6, wF20, r20, s20, w19_0, w19_1, w19_2, w19_3, w19_4, w19_5, w19_6, w19_7, w19_8, w19_9, l19_0, l19_1, l19_2, l19_6, wF19, r19, s19, w18_0, w18_1, w18_2, w18_3, w18_4, w18_5, w18_6, w18_7, w18_8, w18_9, l18_0, l18_1, l18_2, l18_6, wF18, r18, s18, wO_nil, wO_cons, wO_guard, GuardO_tt, GuardO_ff, GuardO_tf, GuardO_ft, OpsK_eq, wI_nil, wI_move, wI_guard, GuardI_tt, GuardI_ff, GuardI_tf, GuardI_ft, ItemK_eq, SeqK_n, SeqK_r, SeqK_x, BlkK_n, BlkK_r, BlkK_x, EndK_n, EndK_r, RetK_some, CondW_t, CondW_f, LoopK_n, LoopK_x, LoopK_r, wA_skip, wA_ret, wA_exit, ev_tmp, ev_const, ev_func, putO_some, putO_none, put_eq, valK_some, bothK_some, r_move, pickV_t, pickV_f, pickV_b, r_pick, r_alloc, r_box, r_build, evParts, r_buildSlice, r_load, r_loadN, r_store, r_bin, r_eqv, r_un, r_conv, r_extract, extractV, r_call, r_len, lenS, r_lenC, r_most, r_least, r_off', r_nilCheck', r_idx', r_idxA', r_fieldV, r_indexV, wS_move, wS_pick, wS_build, wS_load, wS_loadN, wS_nilCheck, wS_bin, wS_eqv, wS_eqCells, wS_un, wS_conv, wS_mkFunc, wS_slice, wS_sliceStr, wS_sliceArr, wS_off, wS_idx, wS_idxA, wS_fieldV, wS_indexV, wS_indexS, wS_extract, wS_len, wS_lenS, wS_lenC, wS_most, wS_least, StillK_t, StillK_f, recheck, allL, run_load, run_loadN, most_int, least_int, ival_int, r_append, r_copy, r_make, b_add, b_sub, b_mul, b_eql, b_neq, b_lss, b_leq, b_gtr, b_geq, u_neg, u_not, q_nn, q_pn, q_np, q_b, q_sn, q_ss, om_s, b_tf, b_ff, b_tt, b_ft, b_xf, b_xt, n_dec, of_0, of_1, of_2, of_3, tup0, tup1, tup2, tup3, tup4, add_n, set_n, set_set, set_top, set_add', ma_at, ma_old, ms_at, ms_ne, load_pt, loadN_pt, store_pt, cellAt_s, cellsAt_s, putAt_s, writeN_w, offV_pt, someV_pt, idxK_at, idxAK_at, fieldV_t, fieldV_f, indexK_at, readN, fillL, newSlice, optK, setL_nil, setL_cons, c_int, c_bool, c_str, c_ptr, c_slice, c_agg, one_int, one_bool, one_str, one_ptr, one_slice, two_s, res_nil, res_cons, res_tmp, res_cell, res_cellN, resC_pt, resN_pt, if_true, if_false, ite_true, ite_false, reduceIte, Nat.reduceEqDiff, Nat.reduceAdd, Nat.reduceMul, Nat.add_zero, Nat.zero_add, Nat.succ_ne_self, and_true, true_and, and_false, false_and, decide_true, decide_false, List.map_cons, List.map_nil, List.length_cons, List.length_nil, List.all_cons, List.all_nil, List.take, List.drop, List.cons_append, List.nil_append, List.append_nil, Bool.and_true, Bool.true_and, Bool.not_true, Bool.not_false, List.getElem?_cons_zero, List.getElem?_cons_succ, List.set_cons_zero, List.set_cons_succ, List.toList_toArray, Option.bind_some, Option.map_some, Bool.false_eq_true, Bool.true_eq_false, Nat.le_refl, Nat.reduceLeDiff, times_0, times_1, times_2, times_3, times_4, times_5, times_6, List.size_toArray, List.getElem?_toArray, List.contains_cons, List.contains_nil, Nat.reduceBEq, beq_self_eq_true, Bool.or_false, Bool.true_or, Bool.false_or, Bool.or_true, Int.reduceLT, Int.reduceLE, Int.reduceEq, Int.reduceAdd, Int.reduceSub, Int.reduceNeg, Int.reduceToNat, Int.max_eq_left, Int.max_eq_right, Int.min_eq_left, Int.min_eq_right, dec_t, dec_f, Int.sub_zero, Int.add_zero, Int.zero_add, Int.lt_irrefl, Int.le_refl, IntWalk.i64_in, eq_self, ne_eq, not_true_eq_false, not_false_eq_true, reduceCtorEq]
  exact Fin.plain ((Ext.refl _).add _) hσ (.bool _) ⟨rfl, rfl⟩
def s17 : Spec := sp S17
theorem mono17 : MonoS s17 := MonoS.sp S17
theorem sim17 : Sim Try.prog 17 s17 := known17.rel tr17 run17
theorem g17 : s17 [] σ K = K (.bool true) σ := propext ⟨fun ⟨_, _, ⟨_, h1, h2⟩, h⟩ => by subst h1; subst h2; exact h, fun h => ⟨_, _, ⟨rfl, rfl, rfl⟩, h⟩⟩
end Go.Ab
