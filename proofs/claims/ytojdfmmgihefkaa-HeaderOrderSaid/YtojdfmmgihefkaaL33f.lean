/- Operations of words, lists of words, in plain Lean. -/
import Derived.Test.YtojdfmmgihefkaaL33e
namespace Go.V
set_option linter.unusedVariables false
set_option linter.unusedSimpArgs false
open Go.Ab
set_option linter.unusedVariables false
set_option linter.unusedSimpArgs false
/-! ### One operation -/
def takeF : Bool → List Int → Option (Int × List Int)
  | false, t => some (0, t)
  | true, [] => none
  | true, x :: t => some (x, t)
def cntF (b : Bool) : Nat := if b then 1 else 0
def mm (x : Int) : Int := min x 2147483647
def R7 : List Int → Int × Int × Int × Int × Int × Int × Int
  | [] => (0, 0, 0, 0, 0, 0, 4)
  | k :: t => if 7 < k then (0, 0, 0, 0, 0, 0, 6) else
    match takeF (opAsks k).1 t with
    | none => (0, 0, 0, 0, 0, 0, 4)
    | some (d, t1) => match takeF (opAsks k).2.1 t1 with
      | none => (0, 0, 0, 0, 0, 0, 4)
      | some (a, t2) => match takeF (opAsks k).2.2.1 t2 with
        | none => (0, 0, 0, 0, 0, 0, 4)
        | some (b, t3) => match takeF (opAsks k).2.2.2 t3 with
          | none => (0, 0, 0, 0, 0, 0, 4)
          | some (v, t4) => (k, mm d, mm a, mm b, v, ((1 + cntF (opAsks k).1 + cntF (opAsks k).2.1 + cntF (opAsks k).2.2.1 + cntF (opAsks k).2.2.2 : Nat) : Int), 0)
abbrev U64s (w : List Int) : Prop := ∀ x ∈ w, 0 ≤ x ∧ x ≤ 18446744073709551615
theorem drop_cons {w : List Int} {n : Nat} {x : Int} {t : List Int} (h : w.drop n = x :: t) : n < w.length ∧ rd w (n : Int) = some x ∧ w.drop (n + 1) = t ∧ x ∈ w := by
  have hn : n < w.length := by
    rcases Nat.lt_or_ge n w.length with h1 | h1
    · exact h1
    · rw [List.drop_of_length_le h1] at h; cases h
  rw [← List.getElem_cons_drop hn] at h
  injection h with h1 h2
  exact ⟨hn, by rw [rd_get hn, h1], h2, by rw [← h1]; exact List.getElem_mem hn⟩
theorem drop_nil {w : List Int} {n : Nat} (h : w.drop n = []) : w.length ≤ n := by
  rcases Nat.lt_or_ge n w.length with h1 | h1
  · rw [← List.getElem_cons_drop h1] at h; cases h
  · exact h1
theorem takeF_drop {w : List Int} {n : Nat} {q : Bool} {t t' : List Int} {x : Int} (h : w.drop n = t) (hq : takeF q t = some (x, t')) : w.drop (n + cntF q) = t' ∧ (x = 0 ∨ x ∈ w) ∧ (n ≤ w.length → n + cntF q ≤ w.length) := by
  cases q with
  | false =>
    injection hq with hq
    injection hq with h1 h2
    exact ⟨by rw [← h2, ← h]; rfl, .inl h1.symm, fun h => h⟩
  | true =>
    cases t with
    | nil => cases hq
    | cons y t =>
      injection hq with hq
      injection hq with h1 h2
      obtain ⟨g1, g2, g3, g4⟩ := drop_cons h
      exact ⟨by rw [← h2, ← g3]; rfl, .inr (h1 ▸ g4), fun _ => g1⟩
theorem next_ok {w : List Int} (hl : w.length ≤ 1000000) {n : Nat} {q : Bool} {t : List Int} (h : w.drop n = t) (hn : n ≤ 100) :
    D_opcode_Read_1 q (n : Int) w false = some (match takeF q t with
      | some (x, _) => (x, ((n + cntF q : Nat) : Int), false)
      | none => (0, ((n + 1 : Nat) : Int), true)) := by
  unfold D_opcode_Read_1
  cases q with
  | false => rfl
  | true =>
    simp only [Bool.not_true, cond_false]
    rw [wrap64 (n := (n : Int) + 1) (by omega), wrap64 (n := (n : Int) + 1 - 1) (by omega), cond_dec]
    cases t with
    | nil =>
      have := drop_nil h
      rw [if_pos (by omega)]
      rfl
    | cons x t =>
      obtain ⟨g1, g2, g3, _⟩ := drop_cons h
      rw [if_neg (by omega), show (n : Int) + 1 - 1 = (n : Int) by omega, g2]
      rfl
theorem next_short {w : List Int} (hl : w.length ≤ 1000000) {n : Nat} {q : Bool} (hn : n ≤ 100) : ∃ x m, D_opcode_Read_1 q (n : Int) w true = some (x, ((m : Nat) : Int), true) ∧ m ≤ n + 1 := by
  unfold D_opcode_Read_1
  cases q with
  | false => exact ⟨_, n, rfl, by omega⟩
  | true =>
    simp only [Bool.not_true, cond_false]
    rw [wrap64 (n := (n : Int) + 1) (by omega), wrap64 (n := (n : Int) + 1 - 1) (by omega), cond_dec]
    by_cases c : (w.length : Int) < (n : Int) + 1
    · rw [if_pos c]
      exact ⟨_, n + 1, rfl, by omega⟩
    · rw [if_neg c, show (n : Int) + 1 - 1 = (n : Int) by omega, rd_get (show n < w.length by omega)]
      exact ⟨_, n + 1, rfl, by omega⟩
theorem at_ok {w : List Int} (hu : U64s w) (hl : w.length ≤ 1000000) {n : Nat} {q : Bool} {t : List Int} (h : w.drop n = t) (hn : n ≤ 100) :
    D_opcode_Read_2 q (n : Int) w false = some (match takeF q t with
      | some (x, _) => (mm x, ((n + cntF q : Nat) : Int), false)
      | none => (0, ((n + 1 : Nat) : Int), true)) := by
  unfold D_opcode_Read_2
  rw [next_ok hl h hn]
  cases hq : takeF q t with
  | none => rfl
  | some p =>
    obtain ⟨x, t'⟩ := p
    obtain ⟨_, hx, _⟩ := takeF_drop h hq
    have hx : 0 ≤ x := by
      rcases hx with rfl | hx
      · omega
      · exact (hu x hx).1
    simp only [Option.bind_some]
    rw [wrap64 (by omega)]
    rfl
theorem at_short {w : List Int} (hl : w.length ≤ 1000000) {n : Nat} {q : Bool} (hn : n ≤ 100) : ∃ x m, D_opcode_Read_2 q (n : Int) w true = some (x, ((m : Nat) : Int), true) ∧ m ≤ n + 1 := by
  obtain ⟨x, m, h1, h2⟩ := next_short (q := q) hl hn
  unfold D_opcode_Read_2
  rw [h1]
  exact ⟨_, m, rfl, h2⟩
theorem opcode_Read {w : List Int} (hu : U64s w) (hl : w.length ≤ 1000000) : D_opcode_Read w = some (R7 w) := by
  unfold D_opcode_Read
  cases w with
  | nil => rfl
  | cons k t =>
    have hk := hu k (by simp)
    simp only [cond_dec]
    rw [if_neg (by simp; omega)]
    have hrd : rd (k :: t) 0 = some k := rd_get (l := k :: t) (i := 0) (by simp)
    rw [hrd]
    simp only [Option.bind_some]
    simp only [R7]
    by_cases c : 7 < k
    · rw [if_pos (by omega), if_pos c]
    rw [if_neg (by omega), if_neg c, wrap64 (n := k) (by omega), opcode_of]
    simp only [Option.bind_some]
    generalize opAsks k = q
    obtain ⟨b1, b2, b3, b4⟩ := q
    simp only
    have d1 : (k :: t).drop 1 = t := rfl
    have e1 := at_ok hu hl (q := b1) d1 (by omega)
    have e1 : D_opcode_Read_2 b1 1 (k :: t) false = _ := e1
    have f1 : cntF b1 ≤ 1 := by cases b1 <;> decide
    have f2 : cntF b2 ≤ 1 := by cases b2 <;> decide
    have f3 : cntF b3 ≤ 1 := by cases b3 <;> decide
    rw [e1]
    cases h1 : takeF b1 t with
    | none =>
      simp only [Option.bind_some]
      obtain ⟨x2, m2, g2, l2⟩ := at_short (q := b2) hl (n := 1 + 1) (by omega)
      rw [g2]
      simp only [Option.bind_some]
      obtain ⟨x3, m3, g3, l3⟩ := at_short (q := b3) hl (n := m2) (by omega)
      rw [g3]
      simp only [Option.bind_some]
      obtain ⟨x4, m4, g4, l4⟩ := next_short (q := b4) hl (n := m3) (by omega)
      rw [g4]
      rfl
    | some p1 =>
      obtain ⟨x1, t1⟩ := p1
      obtain ⟨d2, _, _⟩ := takeF_drop d1 h1
      simp only [Option.bind_some]
      rw [at_ok hu hl (q := b2) d2 (by omega)]
      cases h2 : takeF b2 t1 with
      | none =>
        simp only [Option.bind_some]
        obtain ⟨x3, m3, g3, l3⟩ := at_short (q := b3) hl (n := 1 + cntF b1 + 1) (by omega)
        rw [g3]
        simp only [Option.bind_some]
        obtain ⟨x4, m4, g4, l4⟩ := next_short (q := b4) hl (n := m3) (by omega)
        rw [g4]
        rfl
      | some p2 =>
        obtain ⟨x2, t2⟩ := p2
        obtain ⟨d3, _, _⟩ := takeF_drop d2 h2
        simp only [Option.bind_some]
        rw [at_ok hu hl (q := b3) d3 (by omega)]
        cases h3 : takeF b3 t2 with
        | none =>
          simp only [Option.bind_some]
          obtain ⟨x4, m4, g4, l4⟩ := next_short (q := b4) hl (n := 1 + cntF b1 + cntF b2 + 1) (by omega)
          rw [g4]
          rfl
        | some p3 =>
          obtain ⟨x3, t3⟩ := p3
          obtain ⟨d4, _, _⟩ := takeF_drop d3 h3
          simp only [Option.bind_some]
          rw [next_ok hl (q := b4) d4 (by omega)]
          cases h4 : takeF b4 t3 with
          | none => rfl
          | some p4 => rfl
/-- A round of the document's reading. -/
theorem ref_round {w : List Int} (hl : w.length ≤ 1000000) {q : Bool} {n : Nat} {t : List Int} (h : w.drop n = t) (hn : n ≤ 100) {γ : Type} {ok : Int → Int → Option γ} {bad : Option γ} {skip : Option γ} (hs : skip = ok 0 (n : Int) ∨ q = true) :
    (cond (!q) skip (cond (decide ((w.length : Int) ≤ (n : Int))) bad ((rd w (n : Int)).bind fun x => ok x (IntKind.i64.wrap ((n : Int) + 1))))) = (match takeF q t with
      | none => bad
      | some (x, _) => if q then ok x ((n + cntF q : Nat) : Int) else skip) := by
  cases q with
  | false => rfl
  | true =>
    simp only [Bool.not_true, cond_false, if_true]
    rw [wrap64 (n := (n : Int) + 1) (by omega), cond_dec]
    cases t with
    | nil =>
      have := drop_nil h
      rw [if_pos (by omega)]
      rfl
    | cons x t =>
      obtain ⟨g1, g2, g3, _⟩ := drop_cons h
      rw [if_neg (by omega), g2]
      rfl
theorem mm_cond (x : Int) {γ : Type} (f : Int → γ) : cond (decide (2147483647 < x)) (f 2147483647) (f x) = f (mm x) := by
  rw [cond_dec]
  unfold mm
  split
  · rw [show min x 2147483647 = 2147483647 by omega]
  · rw [show min x 2147483647 = x by omega]
theorem ref07_Read {w : List Int} (hu : U64s w) (hl : w.length ≤ 1000000) : D_ref07_Read w = some (R7 w) := by
  unfold D_ref07_Read
  cases w with
  | nil => rfl
  | cons k t =>
    have hk := hu k (by simp)
    simp only [cond_dec]
    rw [if_neg (by simp; omega)]
    have hrd : rd (k :: t) 0 = some k := rd_get (l := k :: t) (i := 0) (by simp)
    rw [hrd]
    simp only [Option.bind_some]
    simp only [R7]
    by_cases c : 7 < k
    · rw [if_pos c, if_pos c]
    rw [if_neg c, if_neg c, wrap64 (n := k) (by omega), ref07_Asks_eq]
    simp only [Option.bind_some]
    generalize opAsks k = q
    obtain ⟨b1, b2, b3, b4⟩ := q
    simp only
    have d1 : (k :: t).drop 1 = t := rfl
    have f1 : cntF b1 ≤ 1 := by cases b1 <;> decide
    have f2 : cntF b2 ≤ 1 := by cases b2 <;> decide
    have f3 : cntF b3 ≤ 1 := by cases b3 <;> decide
    have mmb : ∀ (y : Int), (y = 0 ∨ y ∈ k :: t) → 0 ≤ mm y ∧ mm y ≤ 2147483647 := by
      intro y hy
      have : 0 ≤ y := by
        rcases hy with rfl | hy
        · omega
        · exact (hu y hy).1
      unfold mm
      omega
    -- the rounds
    have s0 : ∀ (n : Nat) (tt : List Int), (k :: t).drop n = tt → n ≤ 100 → D_ref07_Read_L0 (k :: t) (b1, b2, b3, b4) (0, (n : Int), 0, 0, 0, 0) = (match takeF b1 tt with
        | none => some (.inr (.inl (0, 0, 0, 0)))
        | some (x, _) => some (.inl (1, ((n + cntF b1 : Nat) : Int), mm x, 0, 0, 0))) := by
      intro n tt hd hn
      have e : D_ref07_Read_L0 (k :: t) (b1, b2, b3, b4) (0, (n : Int), 0, 0, 0, 0) = cond (!b1) (some (.inl (1, (n : Int), 0, 0, 0, 0))) (cond (decide (((k :: t).length : Int) ≤ (n : Int))) (some (.inr (.inl (0, 0, 0, 0)))) ((rd (k :: t) (n : Int)).bind fun x => cond (decide (2147483647 < x)) (some (.inl (1, IntKind.i64.wrap ((n : Int) + 1), 2147483647, 0, 0, 0))) (some (.inl (1, IntKind.i64.wrap ((n : Int) + 1), x, 0, 0, 0))))) := rfl
      rw [e]
      refine Eq.trans (ref_round (γ := (Int × Int × Int × Int × Int × Int) ⊕ ((Int × Int × Int × Int) ⊕ (Int × Int × Int × Int × Int))) hl hd hn (q := b1) (ok := fun x m => cond (decide (2147483647 < x)) (some (.inl (1, m, 2147483647, 0, 0, 0))) (some (.inl (1, m, x, 0, 0, 0)))) (bad := some (.inr (.inl (0, 0, 0, 0)))) (skip := some (.inl (1, (n : Int), 0, 0, 0, 0))) (by cases b1; exact .inl rfl; exact .inr rfl)) ?_
      cases hq : takeF b1 tt with
      | none => rfl
      | some p =>
        obtain ⟨x, t'⟩ := p
        simp only
        rw [mm_cond x (fun y => some (Sum.inl (1, ((n + cntF b1 : Nat) : Int), y, 0, 0, 0)))]
        cases b1 with
        | true => rfl
        | false =>
          injection hq with hq
          injection hq with hq _
          rw [← hq]
          rfl
    have s1 : ∀ (n : Nat) (tt : List Int) (v0 : Int), (k :: t).drop n = tt → n ≤ 100 → D_ref07_Read_L0 (k :: t) (b1, b2, b3, b4) (1, (n : Int), v0, 0, 0, 0) = (match takeF b2 tt with
        | none => some (.inr (.inl (v0, 0, 0, 0)))
        | some (x, _) => some (.inl (2, ((n + cntF b2 : Nat) : Int), v0, mm x, 0, 0))) := by
      intro n tt v0 hd hn
      have e : D_ref07_Read_L0 (k :: t) (b1, b2, b3, b4) (1, (n : Int), v0, 0, 0, 0) = cond (!b2) (some (.inl (2, (n : Int), v0, 0, 0, 0))) (cond (decide (((k :: t).length : Int) ≤ (n : Int))) (some (.inr (.inl (v0, 0, 0, 0)))) ((rd (k :: t) (n : Int)).bind fun x => cond (decide (2147483647 < x)) (some (.inl (2, IntKind.i64.wrap ((n : Int) + 1), v0, 2147483647, 0, 0))) (some (.inl (2, IntKind.i64.wrap ((n : Int) + 1), v0, x, 0, 0))))) := rfl
      rw [e]
      refine Eq.trans (ref_round (γ := (Int × Int × Int × Int × Int × Int) ⊕ ((Int × Int × Int × Int) ⊕ (Int × Int × Int × Int × Int))) hl hd hn (q := b2) (ok := fun x m => cond (decide (2147483647 < x)) (some (.inl (2, m, v0, 2147483647, 0, 0))) (some (.inl (2, m, v0, x, 0, 0)))) (bad := some (.inr (.inl (v0, 0, 0, 0)))) (skip := some (.inl (2, (n : Int), v0, 0, 0, 0))) (by cases b2; exact .inl rfl; exact .inr rfl)) ?_
      cases hq : takeF b2 tt with
      | none => rfl
      | some p =>
        obtain ⟨x, t'⟩ := p
        simp only
        rw [mm_cond x (fun y => some (Sum.inl (2, ((n + cntF b2 : Nat) : Int), v0, y, 0, 0)))]
        cases b2 with
        | true => rfl
        | false =>
          injection hq with hq
          injection hq with hq _
          rw [← hq]
          rfl
    have s2 : ∀ (n : Nat) (tt : List Int) (v0 v1 : Int), (k :: t).drop n = tt → n ≤ 100 → D_ref07_Read_L0 (k :: t) (b1, b2, b3, b4) (2, (n : Int), v0, v1, 0, 0) = (match takeF b3 tt with
        | none => some (.inr (.inl (v0, v1, 0, 0)))
        | some (x, _) => some (.inl (3, ((n + cntF b3 : Nat) : Int), v0, v1, mm x, 0))) := by
      intro n tt v0 v1 hd hn
      have e : D_ref07_Read_L0 (k :: t) (b1, b2, b3, b4) (2, (n : Int), v0, v1, 0, 0) = cond (!b3) (some (.inl (3, (n : Int), v0, v1, 0, 0))) (cond (decide (((k :: t).length : Int) ≤ (n : Int))) (some (.inr (.inl (v0, v1, 0, 0)))) ((rd (k :: t) (n : Int)).bind fun x => cond (decide (2147483647 < x)) (some (.inl (3, IntKind.i64.wrap ((n : Int) + 1), v0, v1, 2147483647, 0))) (some (.inl (3, IntKind.i64.wrap ((n : Int) + 1), v0, v1, x, 0))))) := rfl
      rw [e]
      refine Eq.trans (ref_round (γ := (Int × Int × Int × Int × Int × Int) ⊕ ((Int × Int × Int × Int) ⊕ (Int × Int × Int × Int × Int))) hl hd hn (q := b3) (ok := fun x m => cond (decide (2147483647 < x)) (some (.inl (3, m, v0, v1, 2147483647, 0))) (some (.inl (3, m, v0, v1, x, 0)))) (bad := some (.inr (.inl (v0, v1, 0, 0)))) (skip := some (.inl (3, (n : Int), v0, v1, 0, 0))) (by cases b3; exact .inl rfl; exact .inr rfl)) ?_
      cases hq : takeF b3 tt with
      | none => rfl
      | some p =>
        obtain ⟨x, t'⟩ := p
        simp only
        rw [mm_cond x (fun y => some (Sum.inl (3, ((n + cntF b3 : Nat) : Int), v0, v1, y, 0)))]
        cases b3 with
        | true => rfl
        | false =>
          injection hq with hq
          injection hq with hq _
          rw [← hq]
          rfl
    have s3 : ∀ (n : Nat) (tt : List Int) (v0 v1 v2 : Int), (k :: t).drop n = tt → n ≤ 100 → D_ref07_Read_L0 (k :: t) (b1, b2, b3, b4) (3, (n : Int), v0, v1, v2, 0) = (match takeF b4 tt with
        | none => some (.inr (.inl (v0, v1, v2, 0)))
        | some (x, _) => some (.inl (4, ((n + cntF b4 : Nat) : Int), v0, v1, v2, x))) := by
      intro n tt v0 v1 v2 hd hn
      have e : D_ref07_Read_L0 (k :: t) (b1, b2, b3, b4) (3, (n : Int), v0, v1, v2, 0) = cond (!b4) (some (.inl (4, (n : Int), v0, v1, v2, 0))) (cond (decide (((k :: t).length : Int) ≤ (n : Int))) (some (.inr (.inl (v0, v1, v2, 0)))) ((rd (k :: t) (n : Int)).bind fun x => some (.inl (4, IntKind.i64.wrap ((n : Int) + 1), v0, v1, v2, x)))) := rfl
      rw [e]
      refine Eq.trans (ref_round (γ := (Int × Int × Int × Int × Int × Int) ⊕ ((Int × Int × Int × Int) ⊕ (Int × Int × Int × Int × Int))) hl hd hn (q := b4) (ok := fun x m => some (.inl (4, m, v0, v1, v2, x))) (bad := some (.inr (.inl (v0, v1, v2, 0)))) (skip := some (.inl (4, (n : Int), v0, v1, v2, 0))) (by cases b4; exact .inl rfl; exact .inr rfl)) ?_
      cases hq : takeF b4 tt with
      | none => rfl
      | some p =>
        obtain ⟨x, t'⟩ := p
        simp only
        cases b4 with
        | true => rfl
        | false =>
          injection hq with hq
          injection hq with hq _
          rw [← hq]
          rfl
    have s4 : ∀ (n v0 v1 v2 v3 : Int), D_ref07_Read_L0 (k :: t) (b1, b2, b3, b4) (4, n, v0, v1, v2, v3) = some (.inr (.inr (n, v0, v1, v2, v3))) := fun _ _ _ _ _ => rfl
    obtain ⟨N, hB⟩ : ∃ N, BIG = N + 1 + 1 + 1 + 1 + 1 := ⟨18446744073709551611, rfl⟩
    rw [hB, loopN_succ]
    have g0 := s0 1 t d1 (by omega)
    have g0 : D_ref07_Read_L0 (k :: t) (b1, b2, b3, b4) (0, 1, 0, 0, 0, 0) = _ := g0
    rw [g0]
    cases h1 : takeF b1 t with
    | none => simp only [Option.bind_some, caseS]
    | some p1 =>
      obtain ⟨x1, t1⟩ := p1
      obtain ⟨d2, m1, _⟩ := takeF_drop d1 h1
      have q1 := mmb x1 m1
      simp only [Option.bind_some, caseS]
      rw [loopN_succ, s1 (1 + cntF b1) t1 (mm x1) d2 (by omega)]
      cases h2 : takeF b2 t1 with
      | none => simp only [Option.bind_some, caseS]
      | some p2 =>
        obtain ⟨x2, t2⟩ := p2
        obtain ⟨d3, m2, _⟩ := takeF_drop d2 h2
        have q2 := mmb x2 m2
        simp only [Option.bind_some, caseS]
        rw [loopN_succ, s2 (1 + cntF b1 + cntF b2) t2 (mm x1) (mm x2) d3 (by omega)]
        cases h3 : takeF b3 t2 with
        | none => simp only [Option.bind_some, caseS]
        | some p3 =>
          obtain ⟨x3, t3⟩ := p3
          obtain ⟨d4, m3, _⟩ := takeF_drop d3 h3
          have q3 := mmb x3 m3
          simp only [Option.bind_some, caseS]
          rw [loopN_succ, s3 (1 + cntF b1 + cntF b2 + cntF b3) t3 (mm x1) (mm x2) (mm x3) d4 (by omega)]
          cases h4 : takeF b4 t3 with
          | none => simp only [Option.bind_some, caseS]
          | some p4 =>
            obtain ⟨x4, t4⟩ := p4
            simp only [Option.bind_some, caseS]
            rw [loopN_succ, s4]
            simp only [Option.bind_some, caseS]
            rw [wrap64 (n := mm x1) (by omega), wrap64 (n := mm x2) (by omega), wrap64 (n := mm x3) (by omega)]
end Go.V
