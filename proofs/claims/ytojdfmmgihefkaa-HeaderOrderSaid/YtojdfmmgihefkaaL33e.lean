/- Words of operations, operations of words, in plain Lean. -/
import Derived.Test.YtojdfmmgihefkaaL33d
namespace Go.V
set_option linter.unusedVariables false
set_option linter.unusedSimpArgs false
open Go.Ab
set_option linter.unusedVariables false
set_option linter.unusedSimpArgs false
theorem goes33 : D_law33_goes = some true := by kernel_rfl
theorem ints_same {a : List Int} (ha : a.length < 1000000) : D_ref05_Same a a = some true := by
  have h : loopN (D_ref05_Same_L0 a a) BIG 0 = some (.inr ()) := by
    refine loop_nat0 (n := a.length) (by omega) (fun i hi => ?_) ?_
    · unfold D_ref05_Same_L0
      rw [cond_dec, if_pos (by omega), rd_get hi]
      simp only [Option.bind_some, cond_dec]
      rw [if_neg (fun h => h rfl), wrap64 (n := (i : Int) + 1) (by omega)]
      rfl
    · unfold D_ref05_Same_L0
      rw [cond_dec, if_neg (by omega)]
  unfold D_ref05_Same
  rw [cond_dec, if_neg (fun h => h rfl), h]
  rfl
theorem ops_same {a : List Op5} (ha : a.length < 1000000) : D_ref08_Ops a a = some true := by
  have h : loopN (D_ref08_Ops_L0 a a) BIG 0 = some (.inr ()) := by
    refine loop_nat0 (n := a.length) (by omega) (fun i hi => ?_) ?_
    · unfold D_ref08_Ops_L0
      rw [cond_dec, if_pos (by omega), rd_get hi]
      simp only [Option.bind_some, decide_true, Bool.and_self, Bool.not_true, cond_false]
      rw [wrap64 (n := (i : Int) + 1) (by omega)]
      rfl
    · unfold D_ref08_Ops_L0
      rw [cond_dec, if_neg (by omega)]
  unfold D_ref08_Ops
  rw [cond_dec, if_neg (fun h => h rfl), h]
  rfl
/-- A loop that copies. -/
theorem copy_loop {f : (Int × List Int) → Option ((Int × List Int) ⊕ List Int)} {l : List Int} (s : List Int) (hl : l.length < 1000000) (hf : ∀ i, (hi : i < l.length) → f ((i : Int), s ++ l.take i) = some (.inl (((i + 1 : Nat) : Int), s ++ l.take i ++ [l[i]]))) (he : f ((l.length : Int), s ++ l) = some (.inr (s ++ l))) : loopN f BIG (0, s) = some (s ++ l) := by
  have key : loopN f BIG (0, s ++ l.take 0) = some (s ++ l) := by
    refine loop_nat (n := l.length) (fun i => s ++ l.take i) (by omega) (fun i hi => ?_) ?_
    · rw [hf i hi, List.take_succ_eq_append_getElem hi, List.append_assoc]
    · rw [List.take_length, he]
  rwa [List.take_zero, List.append_nil] at key
/-! ### Words -/
def wordsF (o : Op5) : List Int := IntKind.u64.wrap o.1 :: ((if (opAsks o.1).1 then [IntKind.u64.wrap o.2.1] else []) ++ ((if (opAsks o.1).2.1 then [IntKind.u64.wrap o.2.2.1] else []) ++ ((if (opAsks o.1).2.2.1 then [IntKind.u64.wrap o.2.2.2.1] else []) ++ (if (opAsks o.1).2.2.2 then [o.2.2.2.2] else []))))
theorem wordsF_len (o : Op5) : (wordsF o).length ≤ 5 := by
  unfold wordsF
  generalize (opAsks o.1).1 = b1
  generalize (opAsks o.1).2.1 = b2
  generalize (opAsks o.1).2.2.1 = b3
  generalize (opAsks o.1).2.2.2 = b4
  cases b1 <;> cases b2 <;> cases b3 <;> cases b4 <;> simp
theorem opcode_Words (o : Op5) : D_opcode_Words o.1 o.2.1 o.2.2.1 o.2.2.2.1 o.2.2.2.2 = some (if rightB o then (0, wordsF o) else (6, [])) := by
  unfold D_opcode_Words
  rw [opcode_Right, opcode_of]
  simp only [Option.bind_some]
  cases hr : rightB o with
  | false => rfl
  | true =>
    simp only [Bool.not_true, cond_false, if_true]
    obtain ⟨k, d, a, b, v⟩ := o
    simp only at hr ⊢
    unfold wordsF
    simp only
    generalize opAsks k = q
    obtain ⟨b1, b2, b3, b4⟩ := q
    simp only
    have key : loopN (D_opcode_Words_L0 d a b (b1, b2, b3, b4)) BIG (0, [IntKind.u64.wrap k]) = some (IntKind.u64.wrap k :: ((if b1 then [IntKind.u64.wrap d] else []) ++ ((if b2 then [IntKind.u64.wrap a] else []) ++ (if b3 then [IntKind.u64.wrap b] else [])))) := by
      have hB : BIG = 18446744073709551612 + 1 + 1 + 1 + 1 := rfl
      rw [hB]
      cases b1 <;> cases b2 <;> cases b3 <;> rfl
    rw [key]
    simp only [Option.bind_some]
    cases b4 with
    | false =>
      simp only [cond_false]
      simp
    | true =>
      simp only [cond_true]
      rw [gd_fits (by cases b1 <;> cases b2 <;> cases b3 <;> simp) (by omega)]
      simp
theorem ref07_Words (o : Op5) : D_ref07_Words o.1 o.2.1 o.2.2.1 o.2.2.2.1 o.2.2.2.2 = some (if rightB o then (0, wordsF o) else (6, [])) := by
  unfold D_ref07_Words
  rw [ref07_Right, ref07_Asks_eq]
  simp only [Option.bind_some]
  cases hr : rightB o with
  | false => rfl
  | true =>
    simp only [Bool.not_true, cond_false, if_true]
    obtain ⟨k, d, a, b, v⟩ := o
    simp only at hr ⊢
    unfold wordsF
    simp only
    generalize opAsks k = q
    obtain ⟨b1, b2, b3, b4⟩ := q
    simp only
    have key : loopN (D_ref07_Words_L0 d a b v (b1, b2, b3, b4)) BIG (0, [IntKind.u64.wrap k]) = some (IntKind.u64.wrap k :: ((if b1 then [IntKind.u64.wrap d] else []) ++ ((if b2 then [IntKind.u64.wrap a] else []) ++ ((if b3 then [IntKind.u64.wrap b] else []) ++ (if b4 then [v] else []))))) := by
      have hB : BIG = 18446744073709551611 + 1 + 1 + 1 + 1 + 1 := rfl
      rw [hB]
      cases b1 <;> cases b2 <;> cases b3 <;> cases b4 <;> rfl
    rw [key]
    rfl
/-! ### Packs -/
def packF (l : List Op5) : Int × List Int := if l.any (fun o => !rightB o) then (6, []) else (0, l.flatMap wordsF)
theorem flat_len (l : List Op5) : (l.flatMap wordsF).length ≤ 5 * l.length := by
  induction l with
  | nil => simp
  | cons o l ih =>
    have := wordsF_len o
    simp only [List.flatMap_cons, List.length_append, List.length_cons]
    omega
theorem find_fold {α β δ : Type} {f : (Int × β) → Option ((Int × β) ⊕ δ)} {l : List α} (p : α → Bool) (F : Nat → β) (c : Nat → δ) (e : δ) (hl : l.length < 1000000)
    (hf : ∀ i, (hi : i < l.length) → f ((i : Int), F i) = some (if p l[i] then .inr (c i) else .inl (((i + 1 : Nat) : Int), F (i + 1)))) (he : f ((l.length : Int), F l.length) = some (.inr e)) :
    (l.any p = true ∧ ∃ i : Nat, loopN f BIG (0, F 0) = some (c i)) ∨ (l.any p = false ∧ loopN f BIG (0, F 0) = some e) := by
  by_cases h : ∃ i, ∃ hi : i < l.length, p l[i] = true
  · left
    have hex : ∃ i, (∃ hi : i < l.length, p l[i] = true) ∧ ∀ j, j < i → ¬∃ hj : j < l.length, p l[j] = true := by
      obtain ⟨i, hi⟩ := h
      induction i using Nat.strongRecOn with
      | ind i ih =>
        by_cases hj : ∃ j, j < i ∧ ∃ hj : j < l.length, p l[j] = true
        · obtain ⟨j, h3, h4⟩ := hj
          exact ih j h3 h4
        · exact ⟨i, hi, fun j h h3 => hj ⟨j, h, h3⟩⟩
    obtain ⟨i, ⟨hi, h1⟩, h2⟩ := hex
    refine ⟨List.any_eq_true.2 ⟨l[i], List.getElem_mem hi, h1⟩, i, loop_nat (n := i) F (by omega) (fun j hj => ?_) ?_⟩
    · rw [hf j (by omega), if_neg (fun hp => h2 j hj ⟨by omega, hp⟩)]
    · rw [hf i hi, if_pos h1]
  · right
    refine ⟨?_, loop_nat (n := l.length) F (by omega) (fun j hj => ?_) he⟩
    · rw [Bool.eq_false_iff]
      intro ht
      obtain ⟨x, hx, hp⟩ := List.any_eq_true.1 ht
      obtain ⟨i, hi, rfl⟩ := List.getElem_of_mem hx
      exact h ⟨i, hi, hp⟩
    · rw [hf j hj, if_neg (fun hp => h ⟨j, hj, hp⟩)]
theorem flat_take {l : List Op5} {i : Nat} (hi : i < l.length) : (l.take (i + 1)).flatMap wordsF = (l.take i).flatMap wordsF ++ wordsF l[i] := by
  rw [List.take_succ_eq_append_getElem hi, List.flatMap_append]
  simp
theorem header_Pack {l : List Op5} (hl : l.length ≤ 4000) : D_header_Pack l = some (packF l) := by
  unfold D_header_Pack packF
  rcases find_fold (f := D_header_Pack_L0 l) (l := l) (fun o => !rightB o) (fun i => (l.take i).flatMap wordsF) (fun _ => .inl 6) (.inr (l.flatMap wordsF)) (by omega) (fun i hi => by
    unfold D_header_Pack_L0
    rw [cond_dec, if_pos (by omega), rd_get hi]
    simp only [Option.bind_some]
    rw [opcode_Words]
    simp only [Option.bind_some]
    cases rightB l[i] with
    | false => rfl
    | true =>
      have h1 := flat_len (l.take i)
      have h2 := wordsF_len l[i]
      rw [List.length_take] at h1
      simp only [if_true, Bool.not_true]
      rw [decide_eq_false (by simp), cond_false, gd_fits (by omega) (by omega), wrap64 (n := (i : Int) + 1) (by omega), flat_take hi]
      rfl) (by
    unfold D_header_Pack_L0
    rw [cond_dec, if_neg (by omega), List.take_length]) with ⟨h, i, hk⟩ | ⟨h, hk⟩
  · rw [h]
    have hk : loopN (D_header_Pack_L0 l) BIG (0, []) = _ := hk
    rw [hk]
    rfl
  · rw [h]
    have hk : loopN (D_header_Pack_L0 l) BIG (0, []) = _ := hk
    rw [hk]
    rfl
theorem ref33_Pack {l : List Op5} (hl : l.length ≤ 4000) : D_ref33_Pack l = some (packF l) := by
  unfold D_ref33_Pack packF
  rcases find_fold (f := D_ref33_Pack_L1 l) (l := l) (fun o => !rightB o) (fun i => (l.take i).flatMap wordsF) (fun _ => .inl ()) (.inr (l.flatMap wordsF)) (by omega) (fun i hi => by
    unfold D_ref33_Pack_L1
    rw [cond_dec, if_pos (by omega), rd_get hi]
    simp only [Option.bind_some]
    rw [ref07_Words]
    simp only [Option.bind_some]
    cases rightB l[i] with
    | false => rfl
    | true =>
      have h1 := flat_len (l.take i)
      have h2 := wordsF_len l[i]
      rw [List.length_take] at h1
      simp only [if_true, Bool.not_true]
      rw [decide_eq_false (by simp), cond_false, copy_loop (l := wordsF l[i]) ((l.take i).flatMap wordsF) (by omega) (fun j hj => ?_) ?_]
      · simp only [Option.bind_some]
        rw [wrap64 (n := (i : Int) + 1) (by omega), flat_take hi]
        rfl
      · unfold D_ref33_Pack_L0
        simp only
        rw [cond_dec, if_neg (by omega)]
      · unfold D_ref33_Pack_L0
        simp only
        rw [cond_dec, if_pos (by omega), ix_in hj]
        simp only [Option.bind_some]
        rw [List.getElem?_eq_getElem hj]
        simp only [Option.bind_some]
        rw [gd_fits (by rw [List.length_append, List.length_take]; omega) (by omega), wrap64 (n := (j : Int) + 1) (by omega)]
        rfl) (by
    unfold D_ref33_Pack_L1
    rw [cond_dec, if_neg (by omega), List.take_length]) with ⟨h, i, hk⟩ | ⟨h, hk⟩
  · rw [h]
    have hk : loopN (D_ref33_Pack_L1 l) BIG (0, []) = _ := hk
    rw [hk]
    rfl
  · rw [h]
    have hk : loopN (D_ref33_Pack_L1 l) BIG (0, []) = _ := hk
    rw [hk]
    rfl
/-! ### Frames -/
def frameF (l : List (List Int)) : List Int := l.flatMap fun x => (x.length : Int) :: x
theorem frame_take {l : List (List Int)} {i : Nat} (hi : i < l.length) : frameF (l.take (i + 1)) = frameF (l.take i) ++ [(l[i].length : Int)] ++ l[i] := by
  unfold frameF
  rw [List.take_succ_eq_append_getElem hi, List.flatMap_append]
  simp
theorem frame_len {l : List (List Int)} {M : Nat} (h : ∀ x ∈ l, x.length ≤ M) : (frameF l).length ≤ (M + 1) * l.length := by
  unfold frameF
  induction l with
  | nil => simp
  | cons x l ih =>
    have h1 := ih (fun y hy => h y (by simp [hy]))
    have h2 := h x (by simp)
    simp only [List.flatMap_cons, List.length_append, List.length_cons]
    rw [Nat.mul_add]
    omega
theorem words_Frame {l : List (List Int)} (hl : l.length ≤ 10) (h : ∀ x ∈ l, x.length ≤ 100000) : D_words_Frame l = some (frameF l) := by
  unfold D_words_Frame
  have key : loopN (D_words_Frame_L0 l) BIG (0, frameF (l.take 0)) = some (frameF l) := by
    refine loop_nat (n := l.length) (fun i => frameF (l.take i)) (by omega) (fun i hi => ?_) ?_
    · have h1 := frame_len (l := l.take i) (M := 100000) (fun x hx => h x (List.mem_of_mem_take hx))
      have h2 := h _ (List.getElem_mem hi)
      rw [List.length_take] at h1
      unfold D_words_Frame_L0
      rw [cond_dec, if_pos (by omega), rd_get hi]
      simp only [Option.bind_some]
      rw [gd_fits (by omega) (by omega), gd_fits (by rw [List.length_append]; simp; omega) (by omega), wrapU_nat (by omega), wrap64 (n := (i : Int) + 1) (by omega), frame_take hi]
      rfl
    · unfold D_words_Frame_L0
      rw [cond_dec, if_neg (by omega), List.take_length]
  have key : loopN (D_words_Frame_L0 l) BIG (0, []) = _ := key
  rw [key]
  rfl
theorem ref05_Frame {l : List (List Int)} (hl : l.length ≤ 10) (h : ∀ x ∈ l, x.length ≤ 100000) : D_ref05_Frame l = some (frameF l) := by
  unfold D_ref05_Frame
  have key : loopN (D_ref05_Frame_L1 l) BIG (0, frameF (l.take 0)) = some (frameF l) := by
    refine loop_nat (n := l.length) (fun i => frameF (l.take i)) (by omega) (fun i hi => ?_) ?_
    · have h1 := frame_len (l := l.take i) (M := 100000) (fun x hx => h x (List.mem_of_mem_take hx))
      have h2 := h _ (List.getElem_mem hi)
      rw [List.length_take] at h1
      unfold D_ref05_Frame_L1
      rw [cond_dec, if_pos (by omega), rd_get hi]
      simp only [Option.bind_some]
      rw [gd_fits (by omega) (by omega), wrapU_nat (by omega), copy_loop (l := l[i]) (frameF (l.take i) ++ [(l[i].length : Int)]) (by omega) (fun j hj => ?_) ?_]
      · simp only [Option.bind_some]
        rw [wrap64 (n := (i : Int) + 1) (by omega), frame_take hi]
        rfl
      · unfold D_ref05_Frame_L0
        simp only
        rw [rd_get hi]
        simp only [Option.bind_some]
        rw [cond_dec, if_neg (by omega)]
      · unfold D_ref05_Frame_L0
        simp only
        rw [rd_get hi]
        simp only [Option.bind_some]
        rw [cond_dec, if_pos (by omega), rd_get hj]
        simp only [Option.bind_some]
        rw [gd_fits (by rw [List.length_append, List.length_append, List.length_take]; simp; omega) (by omega), wrap64 (n := (j : Int) + 1) (by omega)]
        rfl
    · unfold D_ref05_Frame_L1
      rw [cond_dec, if_neg (by omega), List.take_length]
  have key : loopN (D_ref05_Frame_L1 l) BIG (0, []) = _ := key
  rw [key]
  rfl
/-! ### Headers as words -/
section
variable {a0 : Int} {a1 a2 : List Int} {a3 : Int} {a4 : List Op5} {a5 : Int} {a6 : List Op5} {a7 a8 : Int}
def encF (a0 : Int) (a1 a2 : List Int) (a3 : Int) (a4 : List Op5) (a5 : Int) (a6 : List Op5) (a7 a8 : Int) : List Int := [IntKind.u64.wrap a0, IntKind.u64.wrap a3, IntKind.u64.wrap a5, IntKind.u64.wrap a7, IntKind.u64.wrap a8] ++ frameF [(packF a4).2, (packF a6).2, a1, a2]
theorem pack_len (l : List Op5) : (packF l).2.length ≤ 5 * l.length := by
  unfold packF
  split
  · simp
  · exact flat_len l
theorem enc_lists (h4 : OpsOk a4) (h6 : OpsOk a6) (l1 : a1.length ≤ 100000) (l2 : a2.length ≤ 100000) : ∀ x ∈ [(packF a4).2, (packF a6).2, a1, a2], x.length ≤ 100000 := by
  intro x hx
  have h1 := pack_len a4
  have h2 := pack_len a6
  have h3 := h4.len
  have h5 := h6.len
  simp only [List.mem_cons, List.not_mem_nil, or_false] at hx
  rcases hx with rfl | rfl | rfl | rfl <;> omega
theorem header_Encode (h4 : OpsOk a4) (h6 : OpsOk a6) (l1 : a1.length ≤ 100000) (l2 : a2.length ≤ 100000) : D_header_Encode a0 a1 a2 a3 a4 a5 a6 a7 a8 = some (if hchk a0 a1.length a2.length a3 a4 a5 a6 a7 a8 ≠ 0 then (hchk a0 a1.length a2.length a3 a4 a5 a6 a7 a8, []) else (0, encF a0 a1 a2 a3 a4 a5 a6 a7 a8)) := by
  unfold D_header_Encode
  have hL := enc_lists h4 h6 l1 l2
  have hlen := frame_len hL
  rw [header_Check h4 h6, header_Pack h4.len, header_Pack h6.len]
  simp only [Option.bind_some, cond_dec]
  rw [words_Frame (by simp) hL]
  simp only [Option.bind_some]
  simp only [List.length_cons, List.length_nil] at hlen
  rw [gd_fits (by omega) (by omega)]
  split <;> rfl
theorem ref33_Encode (h4 : OpsOk a4) (h6 : OpsOk a6) (l1 : a1.length ≤ 100000) (l2 : a2.length ≤ 100000) : D_ref33_Encode a0 a1 a2 a3 a4 a5 a6 a7 a8 = some (if hchk a0 a1.length a2.length a3 a4 a5 a6 a7 a8 ≠ 0 then (hchk a0 a1.length a2.length a3 a4 a5 a6 a7 a8, []) else (0, encF a0 a1 a2 a3 a4 a5 a6 a7 a8)) := by
  unfold D_ref33_Encode
  have hL := enc_lists h4 h6 l1 l2
  have hlen := frame_len hL
  rw [ref33_Check h4 h6, ref33_Pack h4.len, ref33_Pack h6.len]
  simp only [Option.bind_some, cond_dec]
  rw [ref05_Frame (by simp) hL]
  simp only [Option.bind_some]
  simp only [List.length_cons, List.length_nil] at hlen
  rw [copy_loop (l := frameF [(packF a4).2, (packF a6).2, a1, a2]) [IntKind.u64.wrap a0, IntKind.u64.wrap a3, IntKind.u64.wrap a5, IntKind.u64.wrap a7, IntKind.u64.wrap a8] (by omega) (fun j hj => ?_) ?_]
  · simp only [Option.bind_some]
    split <;> rfl
  · unfold D_ref33_Encode_L0
    simp only
    rw [cond_dec, if_neg (by omega)]
  · unfold D_ref33_Encode_L0
    simp only
    rw [cond_dec, if_pos (by omega), ix_in hj]
    simp only [Option.bind_some]
    rw [List.getElem?_eq_getElem hj]
    simp only [Option.bind_some]
    rw [gd_fits (by rw [List.length_append, List.length_take]; simp; omega) (by omega), wrap64 (n := (j : Int) + 1) (by omega)]
    rfl
theorem small_says : ∃ b, D_law33_Small a0 a1 a2 a3 a4 a5 a6 a7 a8 100 = some b ∧ (b = true → a4.length ≤ 100 ∧ a6.length ≤ 100 ∧ a1.length ≤ 200 ∧ a2.length ≤ 200) := by
  unfold D_law33_Small
  simp only [cond_dec]
  by_cases c1 : (a4.length : Int) ≤ 100
  · rw [if_pos c1]
    by_cases c2 : (a6.length : Int) ≤ 100
    · rw [if_pos c2]
      by_cases c3 : (a1.length : Int) ≤ 200
      · rw [if_pos c3]
        exact ⟨_, rfl, fun h => by have := of_decide_eq_true h; omega⟩
      · rw [if_neg c3]
        exact ⟨_, rfl, fun h => by cases h⟩
    · rw [if_neg c2]
      exact ⟨_, rfl, fun h => by cases h⟩
  · rw [if_neg c1]
    exact ⟨_, rfl, fun h => by cases h⟩
end
abbrev wordsS : Sh := .list (.int .u64)
section
variable (a0 : Int) (a1 a2 : List Int) (a3 : Int) (a4 : List Op5) (a5 : Int) (a6 : List Op5) (a7 a8 : Int)
theorem law33_checks (f0 : Fine (.int .i64) a0) (f1 : Fine wordsS a1) (f2 : Fine wordsS a2) (f3 : Fine (.int .i64) a3) (f4 : Fine opsS a4) (f5 : Fine (.int .i64) a5) (f6 : Fine opsS a6) (f7 : Fine (.int .i64) a7) (f8 : Fine (.int .i64) a8) : D_law33_HeaderChecks a0 a1 a2 a3 a4 a5 a6 a7 a8 = some true := by
  unfold D_law33_HeaderChecks
  obtain ⟨b, hb, hs⟩ := small_says (a0 := a0) (a1 := a1) (a2 := a2) (a3 := a3) (a4 := a4) (a5 := a5) (a6 := a6) (a7 := a7) (a8 := a8)
  rw [hb, goes33]
  cases b with
  | false => rfl
  | true =>
    obtain ⟨h4, h6, l1, l2⟩ := hs rfl
    have h4 := ops_ok f4 (by omega)
    have h6 := ops_ok f6 (by omega)
    simp only [Option.bind_some, Bool.not_true, cond_false]
    rw [header_Encode h4 h6 (by omega) (by omega), ref33_Encode h4 h6 (by omega) (by omega), header_Check h4 h6, ref33_Check h4 h6]
    simp only [Option.bind_some]
    have hL := enc_lists h4 h6 (show a1.length ≤ 100000 by omega) (show a2.length ≤ 100000 by omega)
    have hlen := frame_len hL
    simp only [List.length_cons, List.length_nil] at hlen
    rw [ints_same (by
      split
      · simp
      · unfold encF
        simp only [List.length_append, List.length_cons, List.length_nil]
        omega)]
    simp
end
end Go.V
