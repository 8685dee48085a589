/- A part of the proofs of this seat: what functions of the program answer on the abstract machine. -/
import Derived.Test.YtcnjacpilmjhfaaL10a
namespace Go.V
set_option linter.unusedVariables false
set_option linter.unusedSimpArgs false
open Go.Ab
set_option linter.unusedVariables false
set_option linter.unusedSimpArgs false
theorem find_loop {α δ : Type} {f : Int → Option (Int ⊕ δ)} {l : List α} (p : α → Bool) (c : Nat → δ) (e : δ) (hl : l.length < 1000000)
    (hf : ∀ i, (hi : i < l.length) → f (i : Int) = some (if p l[i] then .inr (c i) else .inl ((i + 1 : Nat) : Int))) (he : f (l.length : Int) = some (.inr e)) :
    (l.any p = true ∧ ∃ i : Nat, loopN f BIG 0 = some (c i)) ∨ (l.any p = false ∧ loopN f BIG 0 = some e) := by
  by_cases h : ∃ i, ∃ hi : i < l.length, p l[i] = true
  · left
    have hex : ∃ i, (∃ hi : i < l.length, p l[i] = true) ∧ ∀ j, j < i → ¬∃ hj : j < l.length, p l[j] = true := by
      obtain ⟨i, hi⟩ := h
      induction i using Nat.strongRecOn with
      | ind i ih =>
        by_cases hj : ∃ j, j < i ∧ ∃ hj : j < l.length, p l[j] = true
        · obtain ⟨j, h3, h4⟩ := hj
          exact ih j h3 h4
        · exact ⟨i, hi, fun j h h3 => hj ⟨j, h, h3⟩⟩
    obtain ⟨i, ⟨hi, h1⟩, h2⟩ := hex
    refine ⟨List.any_eq_true.2 ⟨l[i], List.getElem_mem hi, h1⟩, i, loop_nat0 (n := i) (by omega) (fun j hj => ?_) ?_⟩
    · rw [hf j (by omega), if_neg (fun hp => h2 j hj ⟨by omega, hp⟩)]
    · rw [hf i hi, if_pos h1]
  · right
    refine ⟨?_, loop_nat0 (n := l.length) (by omega) (fun j hj => ?_) he⟩
    · rw [Bool.eq_false_iff]
      intro ht
      obtain ⟨x, hx, hp⟩ := List.any_eq_true.1 ht
      obtain ⟨i, hi, rfl⟩ := List.getElem_of_mem hx
      exact h ⟨i, hi, hp⟩
    · rw [hf j hj, if_neg (fun hp => h ⟨j, hj, hp⟩)]
def opAsks (k : Int) : Bool × Bool × Bool × Bool := if k = 1 ∨ k = 2 ∨ k = 3 then (true, true, true, false) else if k = 4 ∨ k = 6 then (true, true, false, false) else if k = 5 then (true, false, false, true) else if k = 7 then (false, false, false, true) else (false, false, false, false)
theorem opAsks_cases (k : Int) : k = 1 ∨ k = 2 ∨ k = 3 ∨ k = 4 ∨ k = 5 ∨ k = 6 ∨ k = 7 ∨ (¬k = 1 ∧ ¬k = 2 ∧ ¬k = 3 ∧ ¬k = 4 ∧ ¬k = 5 ∧ ¬k = 6 ∧ ¬k = 7) := by omega
theorem opcode_of (k : Int) : D_opcode_of k = some (opAsks k) := by
  rcases opAsks_cases k with rfl | rfl | rfl | rfl | rfl | rfl | rfl | ⟨h1, h2, h3, h4, h5, h6, h7⟩
  any_goals rfl
  simp [D_opcode_of, opAsks, h1, h2, h3, h4, h5, h6, h7]
def regB (n : Int) (q : Bool) : Bool := if q then decide (0 ≤ n ∧ n ≤ 2147483647) else decide (n = 0)
theorem opcode_register (n : Int) (q : Bool) : D_opcode_register n q = some (regB n q) := by
  unfold D_opcode_register regB
  cases q
  · rfl
  · by_cases h : 0 ≤ n <;> simp [h]
def rightB (o : Op5) : Bool := decide (0 ≤ o.1 ∧ o.1 < 8) && (regB o.2.1 (opAsks o.1).1 && (regB o.2.2.1 (opAsks o.1).2.1 && (regB o.2.2.2.1 (opAsks o.1).2.2.1 && ((opAsks o.1).2.2.2 || decide (o.2.2.2.2 = 0)))))
theorem opcode_Right (o : Op5) : D_opcode_Right o.1 o.2.1 o.2.2.1 o.2.2.2.1 o.2.2.2.2 = some (rightB o) := by
  unfold D_opcode_Right D_opcode_known rightB
  have hk : (cond (decide (0 ≤ o.1)) (some (decide (o.1 < 8))) (some false)) = some (decide (0 ≤ o.1 ∧ o.1 < 8)) := by
    by_cases h : 0 ≤ o.1 <;> simp [h]
  rw [opcode_of, hk]
  simp only [Option.bind_some, opcode_register]
  generalize decide (0 ≤ o.1 ∧ o.1 < 8) = b1
  generalize regB o.2.1 (opAsks o.1).1 = b2
  generalize regB o.2.2.1 (opAsks o.1).2.1 = b3
  generalize regB o.2.2.2.1 (opAsks o.1).2.2.1 = b4
  generalize (opAsks o.1).2.2.2 = b5
  cases b1 <;> cases b2 <;> cases b3 <;> cases b4 <;> cases b5 <;> rfl
theorem check_fail (b : Bool) (e : Int) : D_check_fail b e = some (if b then e else 0) := by cases b <;> rfl
def formB (l : List Op5) : Bool := decide (scan l 0 = some 0) && !(l.any fun o => !rightB o)
theorem check_form {R : Int} {l : List Op5} (hl : l.length ≤ 4096) : D_check_program_form R l = some (if formB l then 0 else 6) := by
  unfold D_check_program_form
  obtain ⟨m, hm⟩ := nest_Match (l := l) (by omega)
  rw [hm]
  simp only [Option.bind_some, check_fail]
  rw [decide_eq_false (by omega), cond_false, cond_dec]
  unfold formB
  by_cases hs : scan l 0 = some 0
  · rw [if_pos hs, if_neg (by simp), decide_eq_true hs]
    unfold D_slices_ContainsFunc_api_Op_api_Op D_slices_IndexFunc_api_Op_api_Op
    rcases find_loop (f := D_slices_IndexFunc_api_Op_api_Op_L0 l) (l := l) (fun o => !rightB o) (fun i => .inl (i : Int)) (.inr ()) (by omega) (fun i hi => by
      unfold D_slices_IndexFunc_api_Op_api_Op_L0
      rw [cond_dec, if_pos (by omega), rd_get hi]
      simp only [Option.bind_some]
      unfold D_check_program_form_1
      rw [opcode_Right, wrap64 (n := (i : Int) + 1) (by omega)]
      simp only [Option.bind_some]
      cases rightB l[i] <;> rfl) (by
      unfold D_slices_IndexFunc_api_Op_api_Op_L0
      rw [cond_dec, if_neg (by omega)]) with ⟨h, i, hk⟩ | ⟨h, hk⟩
    · rw [hk, h]
      simp only [Option.bind_some, caseS]
      rw [decide_eq_true (by omega)]
      rfl
    · rw [hk, h]
      rfl
  · rw [if_neg hs, if_pos (by simp), decide_eq_false hs]
    rfl
def offB (R : Int) (o : Op5) : Bool := ((opAsks o.1).1 && decide (R ≤ o.2.1)) || ((opAsks o.1).2.1 && decide (R ≤ o.2.2.1)) || ((opAsks o.1).2.2.1 && decide (R ≤ o.2.2.2.1))
def regsB (R : Int) (l : List Op5) : Bool := decide (1 ≤ R ∧ R ≤ 64) && !(l.any (offB R))
theorem reverse2 (x y : Int) : D_slices_Reverse_int_int [x, y] = some [y, x] := by kernel_rfl
theorem reverse1 (x : Int) : D_slices_Reverse_int_int [x] = some [x] := by kernel_rfl
theorem reverse0 : D_slices_Reverse_int_int [] = some [] := by kernel_rfl
theorem opcode_Reads (o : Op5) : D_opcode_Reads o.1 o.2.1 o.2.2.1 o.2.2.2.1 o.2.2.2.2 = some (if (opAsks o.1).2.1 then (if (opAsks o.1).2.2.1 then [o.2.2.1, o.2.2.2.1] else [o.2.2.1]) else []) := by
  obtain ⟨k, d, a, b, v⟩ := o
  simp only
  rcases opAsks_cases k with rfl | rfl | rfl | rfl | rfl | rfl | rfl | ⟨h1, h2, h3, h4, h5, h6, h7⟩
  · exact (show _ = (D_slices_Reverse_int_int [b, a]).bind _ from rfl).trans (by rw [reverse2]; rfl)
  · exact (show _ = (D_slices_Reverse_int_int [b, a]).bind _ from rfl).trans (by rw [reverse2]; rfl)
  · exact (show _ = (D_slices_Reverse_int_int [b, a]).bind _ from rfl).trans (by rw [reverse2]; rfl)
  · exact (show _ = (D_slices_Reverse_int_int [a]).bind _ from rfl).trans (by rw [reverse1]; rfl)
  · exact (show _ = (D_slices_Reverse_int_int []).bind _ from rfl).trans (by rw [reverse0]; rfl)
  · exact (show _ = (D_slices_Reverse_int_int [a]).bind _ from rfl).trans (by rw [reverse1]; rfl)
  · exact (show _ = (D_slices_Reverse_int_int []).bind _ from rfl).trans (by rw [reverse0]; rfl)
  · unfold D_opcode_Reads
    simp only [decide_eq_false h1, decide_eq_false h2, decide_eq_false h3, decide_eq_false h4, decide_eq_false h6, cond_false, Option.bind_some, caseS, reverse0]
    simp [opAsks, h1, h2, h3, h4, h5, h6, h7]
theorem contains_int (l : List Int) (R : Int) (p : List Op5) (hl : l.length < 1000) : D_slices_ContainsFunc_int_int l R p = some (l.any fun n => decide (R ≤ n)) := by
  unfold D_slices_ContainsFunc_int_int D_slices_IndexFunc_int_int
  rcases find_loop (f := D_slices_IndexFunc_int_int_L0 l R p) (l := l) (fun n => decide (R ≤ n)) (fun i => .inl (i : Int)) (.inr ()) (by omega) (fun i hi => by
    unfold D_slices_IndexFunc_int_int_L0
    rw [cond_dec, if_pos (by omega), rd_get hi]
    simp only [Option.bind_some]
    unfold D_check_program_registers_1_1
    rw [wrap64 (n := (i : Int) + 1) (by omega)]
    simp only [Option.bind_some]
    cases decide (R ≤ l[i]) <;> rfl) (by
    unfold D_slices_IndexFunc_int_int_L0
    rw [cond_dec, if_neg (by omega)]) with ⟨h, i, hk⟩ | ⟨h, hk⟩
  · rw [hk, h]
    simp only [Option.bind_some, caseS]
    rw [decide_eq_true (by omega)]
  · rw [hk, h]
    rfl
theorem registers_1 (o : Op5) (R : Int) (p : List Op5) : D_check_program_registers_1 o.1 o.2.1 o.2.2.1 o.2.2.2.1 o.2.2.2.2 R p = some (offB R o) := by
  unfold D_check_program_registers_1 D_opcode_Writes
  rw [opcode_Reads, opcode_of]
  unfold offB
  simp only [Option.bind_some]
  obtain ⟨k, d, a, b, v⟩ := o
  simp only
  have h1 : (opAsks k).2.2.1 = true → (opAsks k).2.1 = true := by
    unfold opAsks
    split
    · intro _; rfl
    split
    · intro _; rfl
    split
    · intro h; cases h
    split <;> intro h <;> cases h
  have h2 : (opAsks k).2.1 = true → (opAsks k).1 = true := by
    unfold opAsks
    split
    · intro _; rfl
    split
    · intro _; rfl
    split
    · intro h; cases h
    split <;> intro h <;> cases h
  generalize (opAsks k).1 = b1 at *
  generalize (opAsks k).2.1 = b2 at *
  generalize (opAsks k).2.2.1 = b3 at *
  have hs : ∀ l : List Int, l.length < 1000 → ∀ r, (l.any fun n => decide (R ≤ n)) = r → ((D_slices_ContainsFunc_int_int l R p).bind fun r10 => some r10) = some r := by
    intro l hl r hr
    rw [contains_int l R p hl, hr]
    rfl
  cases b1 <;> cases b2 <;> cases b3 <;> first
    | (cases h2 rfl)
    | (cases h1 rfl)
    | skip
  · refine hs [] (by simp) _ ?_
    generalize decide (R ≤ d) = x
    generalize decide (R ≤ a) = y
    generalize decide (R ≤ b) = z
    cases x <;> cases y <;> cases z <;> rfl
  · refine hs [d] (by simp) _ ?_
    simp only [List.any_cons, List.any_nil]
    generalize decide (R ≤ d) = x
    generalize decide (R ≤ a) = y
    generalize decide (R ≤ b) = z
    cases x <;> cases y <;> cases z <;> rfl
  · refine hs [a, d] (by simp) _ ?_
    simp only [List.any_cons, List.any_nil]
    generalize decide (R ≤ d) = x
    generalize decide (R ≤ a) = y
    generalize decide (R ≤ b) = z
    cases x <;> cases y <;> cases z <;> rfl
  · refine hs [a, b, d] (by simp) _ ?_
    simp only [List.any_cons, List.any_nil]
    generalize decide (R ≤ d) = x
    generalize decide (R ≤ a) = y
    generalize decide (R ≤ b) = z
    cases x <;> cases y <;> cases z <;> rfl
theorem check_registers {R : Int} {l : List Op5} (hl : l.length ≤ 4096) : D_check_program_registers R l = some (if regsB R l then 0 else 7) := by
  unfold D_check_program_registers regsB
  simp only [check_fail, Option.bind_some, cond_dec]
  by_cases c1 : R < 1
  · rw [if_pos c1, decide_eq_false (show ¬(1 ≤ R ∧ R ≤ 64) by omega)]
    rfl
  rw [if_neg c1]
  by_cases c2 : 64 < R
  · rw [if_pos c2, decide_eq_false (show ¬(1 ≤ R ∧ R ≤ 64) by omega)]
    rfl
  rw [if_neg c2, decide_eq_true (show 1 ≤ R ∧ R ≤ 64 by omega)]
  unfold D_slices_ContainsFunc_api_Op_api_Op_2 D_slices_IndexFunc_api_Op_api_Op_2
  rcases find_loop (f := D_slices_IndexFunc_api_Op_api_Op_2_L0 l R l) (l := l) (offB R) (fun i => .inl (i : Int)) (.inr ()) (by omega) (fun i hi => by
    unfold D_slices_IndexFunc_api_Op_api_Op_2_L0
    rw [cond_dec, if_pos (by omega), rd_get hi]
    simp only [Option.bind_some]
    rw [registers_1, wrap64 (n := (i : Int) + 1) (by omega)]
    simp only [Option.bind_some]
    cases offB R l[i] <;> rfl) (by
    unfold D_slices_IndexFunc_api_Op_api_Op_2_L0
    rw [cond_dec, if_neg (by omega)]) with ⟨h, i, hk⟩ | ⟨h, hk⟩
  · rw [hk, h]
    simp only [Option.bind_some, caseS]
    rw [decide_eq_true (by omega)]
    rfl
  · rw [hk, h]
    rfl
def hmax : List Op5 → Nat → Nat → Nat
  | [], _, m => m
  | o :: r, d, m => if o.1 = 7 then hmax r (d + 1) (max m (d + 1)) else if o.1 = 0 then hmax r (d - 1) m else hmax r d m
def DInv (l : List Op5) (s : Int × Bool × Int × List Int) : Prop :=
  ∃ (i m : Nat) (st : List Int), i ≤ l.length ∧ s = ((i : Int), true, (m : Int), st) ∧ st.length ≤ i ∧ m ≤ i ∧ scan (l.drop i) st.length = scan l 0 ∧ hmax (l.drop i) st.length m = hmax l 0 0
theorem deep_step {l : List Op5} (hl : l.length ≤ 100000) (s : Int × Bool × Int × List Int) (h : DInv l s) :
    (∃ b, D_nest_Deep_L0 l s = some (.inl b) ∧ DInv l b ∧ l.length - b.1.toNat < l.length - s.1.toNat) ∨ ∃ c, D_nest_Deep_L0 l s = some (.inr c) ∧ ((c.1 = false ∧ scan l 0 = none) ∨ (c.1 = true ∧ scan l 0 = some c.2.2.length ∧ c.2.1 = (hmax l 0 0 : Int))) := by
  obtain ⟨i, m, st, hi, rfl, hsl, hml, hsc, hhm⟩ := h
  by_cases c : i < l.length
  · have hdrop : l.drop i = l[i] :: l.drop (i + 1) := (List.getElem_cons_drop c).symm
    rw [hdrop] at hsc hhm
    simp only [D_nest_Deep_L0]
    rw [decide_eq_true (show (i : Int) < (l.length : Int) by omega), cond_true, rd_get c]
    simp only [Option.bind_some]
    generalize hx : l[i] = x at *
    simp only [scan] at hsc
    simp only [hmax] at hhm
    by_cases k0 : x.1 < 0
    · rw [if_pos (.inl k0)] at hsc
      rw [decide_eq_true k0]
      simp only [cond_true, Option.bind_some, caseS_l]
      exact .inr ⟨_, rfl, .inl ⟨rfl, hsc.symm⟩⟩
    rw [decide_eq_false k0, cond_false]
    by_cases k7 : 7 < x.1
    · rw [if_pos (.inr k7)] at hsc
      rw [decide_eq_true k7]
      simp only [cond_true, Option.bind_some, caseS_r, caseS_l]
      exact .inr ⟨_, rfl, .inl ⟨rfl, hsc.symm⟩⟩
    rw [decide_eq_false k7, cond_false]
    rw [if_neg (by omega)] at hsc
    by_cases kz : x.1 = 0
    · rw [if_pos kz] at hsc
      rw [if_neg (by omega), if_pos kz] at hhm
      rw [decide_eq_true kz]
      simp only [cond_true, Option.bind_some, caseS_r]
      by_cases hs0 : st.length = 0
      · rw [if_pos hs0] at hsc
        rw [decide_eq_true (show (st.length : Int) = 0 by omega)]
        simp only [cond_true, Option.bind_some, caseS_l]
        exact .inr ⟨_, rfl, .inl ⟨rfl, hsc.symm⟩⟩
      · rw [if_neg hs0] at hsc
        rw [decide_eq_false (show ¬(st.length : Int) = 0 by omega), cond_false]
        rw [wrap64 (n := (st.length : Int) - 1) (by omega), cutG_in (by omega), gd_true]
        simp only [Option.bind_some, caseS_r]
        rw [decide_eq_false (show ¬x.1 = 7 by omega)]
        simp only [cond_false]
        rw [wrap64 (n := (i : Int) + 1) (by omega)]
        have hlt : (st.take (((st.length : Int) - 1).toNat - 0)).length = st.length - 1 := by
          rw [List.length_take]; omega
        refine .inl ⟨_, rfl, ⟨i + 1, m, _, c, rfl, by rw [hlt]; omega, by omega, by rw [hlt]; exact hsc, by rw [hlt]; exact hhm⟩, by simp; omega⟩
    · rw [if_neg kz] at hsc
      have ez : decide (x.1 = 0) = false := decide_eq_false kz
      rw [ez]
      simp only [cond_false, Option.bind_some, caseS_r]
      by_cases k7 : x.1 = 7
      · rw [if_pos k7] at hsc hhm
        rw [decide_eq_true k7]
        simp only [cond_true]
        rw [gd_fits (by omega) (by omega), wrap64 (n := (i : Int) + 1) (by omega), wrap64 (n := (st.length : Int) + 1) (by omega)]
        refine .inl ⟨_, rfl, ⟨i + 1, max m (st.length + 1), st ++ [(i : Int)], c, ?_, by simp; omega, by omega, by rw [List.length_append]; exact hsc, by rw [List.length_append]; exact hhm⟩, by simp; omega⟩
        rw [show ((max m (st.length + 1) : Nat) : Int) = max (m : Int) ((st.length : Int) + 1) by omega]
        rfl
      · rw [if_neg k7] at hsc hhm
        rw [if_neg kz] at hhm
        rw [decide_eq_false k7]
        simp only [cond_false]
        rw [wrap64 (n := (i : Int) + 1) (by omega)]
        exact .inl ⟨_, rfl, ⟨i + 1, m, st, c, rfl, by omega, by omega, hsc, hhm⟩, by simp; omega⟩
  · have hi' : i = l.length := by omega
    subst hi'
    rw [List.drop_length] at hsc hhm
    simp only [D_nest_Deep_L0]
    rw [decide_eq_false (show ¬(l.length : Int) < (l.length : Int) by omega), cond_false]
    have hhm : m = hmax l 0 0 := hhm
    exact .inr ⟨_, rfl, .inr ⟨rfl, hsc.symm, by rw [← hhm]⟩⟩
def deepI (l : List Op5) : Int × Int := if scan l 0 = some 0 then ((hmax l 0 0 : Int), 0) else (0, 6)
theorem nest_Deep {l : List Op5} (hl : l.length ≤ 100000) : D_nest_Deep l = some (deepI l) := by
  unfold D_nest_Deep deepI
  obtain ⟨c, hc, h⟩ := loop_inv (f := D_nest_Deep_L0 l) (a := ((0 : Int), true, (0 : Int), ([] : List Int))) (DInv l) (fun s => l.length - s.1.toNat) (fun c => (c.1 = false ∧ scan l 0 = none) ∨ (c.1 = true ∧ scan l 0 = some c.2.2.length ∧ c.2.1 = (hmax l 0 0 : Int)))
    ⟨0, 0, [], Nat.zero_le _, rfl, Nat.le_refl _, Nat.le_refl _, rfl, rfl⟩ (by simp; omega) (fun s hs => deep_step hl s hs)
  rw [hc]
  simp only [Option.bind_some]
  rcases h with ⟨h1, h2⟩ | ⟨h1, h2, h3⟩
  · rw [h1, h2]
    rfl
  · rw [h1, h2, cond_true]
    by_cases c0 : c.2.2.length = 0
    · rw [decide_eq_true (show (c.2.2.length : Int) = 0 by omega), if_pos (by rw [c0]), h3]
      rfl
    · rw [decide_eq_false (show ¬(c.2.2.length : Int) = 0 by omega), if_neg (by intro e; injection e with e; exact c0 e)]
      rfl
structure OpsOk (l : List Op5) : Prop where
  len : l.length ≤ 4096
  v : ∀ o ∈ l, 0 ≤ o.2.2.2.2 ∧ o.2.2.2.2 ≤ 18446744073709551615
def lk0 (l : List Op5) : Int := if formB l then 0 else 6
def lk1 (R : Int) (l : List Op5) : Int := if regsB R l then 0 else 7
def lk2 (l : List Op5) : Int := if 8 < (deepI l).1 then 8 else 0
def lk3 (l : List Op5) : Int := (writes9 l).2
def prog10 (R : Int) (l : List Op5) : Int := if lk0 l ≠ 0 then lk0 l else if lk1 R l ≠ 0 then lk1 R l else if lk2 l ≠ 0 then lk2 l else lk3 l
theorem check_depth {R : Int} {l : List Op5} (h : OpsOk l) : D_check_program_depth R l = some (lk2 l) := by
  unfold D_check_program_depth lk2
  have := h.len
  rw [nest_Deep (by omega)]
  simp only [Option.bind_some, check_fail]
  by_cases c : 8 < (deepI l).1 <;> simp [c]
theorem check_writes {R : Int} {l : List Op5} (h : OpsOk l) : D_check_program_writes R l = some (lk3 l) := by
  unfold D_check_program_writes lk3
  have := h.len
  rw [size_Writes (by omega) h.v]
  rfl
theorem check_Program {R : Int} {l : List Op5} (h : OpsOk l) : D_check_Program R l = some (prog10 R l) := by
  unfold D_check_Program prog10
  rw [check_form h.len, check_registers h.len, check_depth h, check_writes h]
  simp only [Option.bind_some, cond_dec]
  show (if lk0 l ≠ 0 then some (lk0 l) else if lk1 R l ≠ 0 then some (lk1 R l) else if lk2 l ≠ 0 then some (lk2 l) else if lk3 l ≠ 0 then some (lk3 l) else some 0) = _
  split
  · rfl
  split
  · rfl
  split
  · rfl
  split
  · rfl
  · rename_i h; rw [show lk3 l = 0 by omega]
end Go.V
