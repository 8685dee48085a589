/- Headers of words, in plain Lean. -/
import Derived.Test.YtojdfmmgihefkaaL33g
namespace Go.V
set_option linter.unusedVariables false
set_option linter.unusedSimpArgs false
open Go.Ab
set_option linter.unusedVariables false
set_option linter.unusedSimpArgs false
theorem same_true {a b : List Int} (ha : a.length < 1000000) (h : a = b) : D_ref05_Same a b = some true := by
  subst h; exact ints_same ha
theorem header_number {x : Int} (h : 0 ≤ x ∧ x ≤ 18446744073709551615) : D_header_number x = some (mm x) := by
  unfold D_header_number mm
  rw [wrap64 (by omega)]
theorem ref33_number {x : Int} (h : 0 ≤ x ∧ x ≤ 18446744073709551615) : D_ref33_number x = some (mm x) := by
  unfold D_ref33_number mm
  rw [cond_dec]
  split
  · congr 1; omega
  · rw [wrap64 (by omega)]; congr 1; omega
theorem unpI_err (w : List Int) : (unpI w).1 = 0 ∨ (unpI w).1 = 6 := by
  unfold unpI
  split
  · exact .inl rfl
  · exact .inr rfl
def progF (R : Int) (x0 : List Int) (Q : Int) (x1 : List Int) : Int × List (Int × List Op5) :=
  if (unpI x0).1 ≠ 0 ∨ scan (unpI x0).2 0 ≠ some 0 ∨ (unpI x1).1 ≠ 0 ∨ scan (unpI x1).2 0 ≠ some 0 then (6, []) else (0, [(mm R, (unpI x0).2), (mm Q, (unpI x1).2)])
theorem header_programs {x0 x1 : List Int} {R Q : Int} (u0 : U64s x0) (u1 : U64s x1) (l0 : x0.length ≤ 4000) (l1 : x1.length ≤ 4000) (hR : 0 ≤ R ∧ R ≤ 18446744073709551615) (hQ : 0 ≤ Q ∧ Q ≤ 18446744073709551615) :
    D_header_programs [R, Q] [x0, x1] = some (progF R x0 Q x1) := by
  have o0 := (unp_ok u0 l0).len
  have o1 := (unp_ok u1 l1).len
  obtain ⟨m0, e0⟩ := nest_Match (l := (unpI x0).2) (by omega)
  obtain ⟨m1, e1⟩ := nest_Match (l := (unpI x1).2) (by omega)
  unfold D_header_programs
  obtain ⟨N, hB⟩ : ∃ N, BIG = N + 1 + 1 + 1 := ⟨18446744073709551613, rfl⟩
  have s0 : D_header_programs_L0 [R, Q] [x0, x1] (0, []) = some (if (unpI x0).1 ≠ 0 then .inr (.inl ()) else if scan (unpI x0).2 0 ≠ some 0 then .inr (.inl ()) else .inl (1, [(mm R, (unpI x0).2)])) := by
    have r0 : rd [x0, x1] 0 = some x0 := rfl
    have r1 : rd [R, Q] 0 = some R := rfl
    unfold D_header_programs_L0
    simp only [cond_dec]
    rw [if_pos (by simp), r0]
    simp only [Option.bind_some]
    rw [header_Unpack u0 (by omega)]
    simp only [Option.bind_some]
    rw [e0]
    simp only [Option.bind_some]
    rw [r1]
    simp only [Option.bind_some]
    rw [header_number hR]
    by_cases c1 : (unpI x0).1 ≠ 0
    · rw [if_pos c1, if_pos c1]
    rw [if_neg c1, if_neg c1]
    by_cases c2 : scan (unpI x0).2 0 = some 0
    · rw [if_pos c2, if_neg (by simp), if_neg (by simp [c2])]
      rfl
    · rw [if_neg c2, if_pos (by simp), if_pos (by simp [c2])]
  have s1 : ∀ p, D_header_programs_L0 [R, Q] [x0, x1] (1, [p]) = some (if (unpI x1).1 ≠ 0 then .inr (.inl ()) else if scan (unpI x1).2 0 ≠ some 0 then .inr (.inl ()) else .inl (2, [p, (mm Q, (unpI x1).2)])) := by
    intro p
    have r0 : rd [x0, x1] 1 = some x1 := rfl
    have r1 : rd [R, Q] 1 = some Q := rfl
    unfold D_header_programs_L0
    simp only [cond_dec]
    rw [if_pos (by simp), r0]
    simp only [Option.bind_some]
    rw [header_Unpack u1 (by omega)]
    simp only [Option.bind_some]
    rw [e1]
    simp only [Option.bind_some]
    rw [r1]
    simp only [Option.bind_some]
    rw [header_number hQ]
    by_cases c1 : (unpI x1).1 ≠ 0
    · rw [if_pos c1, if_pos c1]
    rw [if_neg c1, if_neg c1]
    by_cases c2 : scan (unpI x1).2 0 = some 0
    · rw [if_pos c2, if_neg (by simp), if_neg (by simp [c2])]
      rfl
    · rw [if_neg c2, if_pos (by simp), if_pos (by simp [c2])]
  have s2 : ∀ p q, D_header_programs_L0 [R, Q] [x0, x1] (2, [p, q]) = some (.inr (.inr [p, q])) := fun p q => rfl
  unfold progF
  rw [hB, loopN_succ, s0]
  by_cases c1 : (unpI x0).1 ≠ 0
  · rw [if_pos c1, if_pos (.inl c1)]; rfl
  rw [if_neg c1]
  by_cases c2 : scan (unpI x0).2 0 ≠ some 0
  · rw [if_pos c2, if_pos (.inr (.inl c2))]; rfl
  rw [if_neg c2]
  simp only [Option.bind_some, caseS]
  rw [loopN_succ, s1]
  by_cases c3 : (unpI x1).1 ≠ 0
  · rw [if_pos c3, if_pos (.inr (.inr (.inl c3)))]; rfl
  rw [if_neg c3]
  by_cases c4 : scan (unpI x1).2 0 ≠ some 0
  · rw [if_pos c4, if_pos (.inr (.inr (.inr c4)))]; rfl
  rw [if_neg c4, if_neg (by rintro (h | h | h | h) <;> contradiction)]
  simp only [Option.bind_some, caseS]
  rw [loopN_succ, s2]
  rfl
structure Hd where
  m : Int
  x : List Int
  t : List Int
  R : Int
  l : List Op5
  Q : Int
  k : List Op5
  n : Int
  b : Int
def Hd.chk (h : Hd) : Int := hchk h.m h.x.length h.t.length h.R h.l h.Q h.k h.n h.b
def hdOf (w x0 x1 x2 x3 : List Int) : Hd := ⟨w.getD 0 0, x2, x3, mm (w.getD 1 0), (unpI x0).2, mm (w.getD 2 0), (unpI x1).2, if w.getD 0 0 = 2 then 0 else mm (w.getD 3 0), mm (w.getD 4 0)⟩
def decF (w : List Int) : Int ⊕ (Hd × List Int) := if w.length < 5 then .inl 4 else match splF (w.drop 5) with
  | some ([x0, x1, x2, x3], rest) => if w.getD 0 0 < 1 ∨ 3 < w.getD 0 0 then .inl 5 else if (unpI x0).1 ≠ 0 ∨ (unpI x1).1 ≠ 0 then .inl 6 else
    if (hdOf w x0 x1 x2 x3).chk ≠ 0 then .inl (hdOf w x0 x1 x2 x3).chk else .inr (hdOf w x0 x1 x2 x3, rest)
  | _ => .inl 4
def decH : Int ⊕ (Hd × List Int) → Int × Int × (List Op5) × Int × (List Op5) × Int × Int × Int × (List Int) × (List Int) × List Int
  | .inl e => (0, 0, [], 0, [], 0, 0, e, [], [], [])
  | .inr (h, rest) => (h.m, h.R, h.l, h.Q, h.k, h.n, h.b, 0, h.x, h.t, rest)
def decR : Int ⊕ (Hd × List Int) → Int × (List Int) × (List Int) × Int × Int × Int × Int × (List Int) × Int × (List Op5) × List Op5
  | .inl e => (0, [], [], 0, 0, 0, 0, [], e, [], [])
  | .inr (h, rest) => (h.m, h.x, h.t, h.R, h.Q, h.n, h.b, rest, 0, h.l, h.k)
theorem U64s.getD {w : List Int} (h : U64s w) (i : Nat) : 0 ≤ w.getD i 0 ∧ w.getD i 0 ≤ 18446744073709551615 := by
  rw [List.getD_eq_getElem?_getD]
  by_cases hi : i < w.length
  · rw [List.getElem?_eq_getElem hi]; exact h _ (List.getElem_mem hi)
  · rw [List.getElem?_eq_none (by omega)]; exact ⟨by decide, by decide⟩
theorem chk_ill {m : Int} (hm : 1 ≤ m ∧ m ≤ 3) (x t : Nat) (R : Int) (l : List Op5) (Q : Int) (k : List Op5) (n b : Int) (h : scan l 0 ≠ some 0 ∨ scan k 0 ≠ some 0) : hchk m x t R l Q k n b = 6 := by
  have h0 : hk0 m = 0 := by
    unfold hk0
    rw [if_neg (by omega), if_neg (by omega)]
  unfold hchk
  rw [h0, if_neg (by simp)]
  have : pair10 R l Q k = 6 := by
    unfold pair10 lk0 formB
    rcases h with h | h
    · simp [h]
    · by_cases c : (decide (scan l 0 = some 0) && !(l.any fun o => !rightB o)) = true
      · rw [if_pos c]
        simp [h]
      · rw [if_neg c]
        simp
  rw [this, if_pos (by omega)]
theorem cutL13 {w : List Int} (h : 5 ≤ w.length) : cutL w 1 3 = [w.getD 1 0, w.getD 2 0] := by
  match w, h with
  | a :: b :: c :: d :: e :: r, _ => rfl
theorem header_Decode {w : List Int} (hu : U64s w) (hl : w.length ≤ 4000) : D_header_Decode w = some (decH (decF w)) := by
  unfold D_header_Decode decF
  simp only [cond_dec]
  by_cases c0 : w.length < 5
  · rw [if_pos (by omega), if_pos c0]; rfl
  rw [if_neg (by omega), if_neg c0, cutG_in (by omega), gd_true, show (5 : Int) = ((5 : Nat) : Int) from rfl, cutL_end, words_Split (hu.drop 5) (by rw [List.length_drop]; omega)]
  cases h : splF (w.drop 5) with
  | none => rfl
  | some p =>
    obtain ⟨l, rest⟩ := p
    obtain ⟨x0, x1, x2, x3, rfl, ⟨u0, l0⟩, ⟨u1, l1⟩, ⟨u2, l2⟩, ⟨u3, l3⟩, lr⟩ := splF_some (hu.drop 5) h
    rw [List.length_drop] at l0 l1 l2 l3 lr
    simp only [Option.bind_some]
    rw [if_neg (by simp)]
    have r0 : rd w 0 = some (w.getD 0 0) := rd_getD (l := w) (i := 0) (by omega)
    have r3 : rd w 3 = some (w.getD 3 0) := rd_getD (l := w) (i := 3) (by omega)
    have r4 : rd w 4 = some (w.getD 4 0) := rd_getD (l := w) (i := 4) (by omega)
    have g0 := hu.getD 0
    have g1 := hu.getD 1
    have g2 := hu.getD 2
    rw [r0]
    simp only [Option.bind_some]
    by_cases c1 : w.getD 0 0 < 1
    · rw [if_pos c1, if_pos (.inl c1)]; rfl
    rw [if_neg c1]
    by_cases c2 : 3 < w.getD 0 0
    · rw [if_pos c2, if_pos (.inr c2)]; rfl
    rw [if_neg c2, if_neg (by omega), cutG_in (by omega), gd_true, cutL13 (by omega)]
    have i0 : ix 0 [x0, x1, x2, x3].length = some 0 := rfl
    have i1 : ix 1 [x0, x1, x2, x3].length = some 1 := rfl
    have i2 : ix 2 [x0, x1, x2, x3].length = some 2 := rfl
    have i3 : ix 3 [x0, x1, x2, x3].length = some 3 := rfl
    rw [i0, i1, i2, i3]
    simp only [Option.bind_some, List.getElem?_cons_zero, List.getElem?_cons_succ]
    rw [header_programs u0 u1 (by omega) (by omega) g1 g2]
    simp only [Option.bind_some]
    unfold progF
    have hm : 1 ≤ w.getD 0 0 ∧ w.getD 0 0 ≤ 3 := by omega
    by_cases c3 : (unpI x0).1 ≠ 0 ∨ scan (unpI x0).2 0 ≠ some 0 ∨ (unpI x1).1 ≠ 0 ∨ scan (unpI x1).2 0 ≠ some 0
    · rw [if_pos c3]
      by_cases c4 : (unpI x0).1 ≠ 0 ∨ (unpI x1).1 ≠ 0
      · rw [if_pos c4]; rfl
      · rw [if_neg c4]
        have : (hdOf w x0 x1 x2 x3).chk = 6 := chk_ill hm _ _ _ _ _ _ _ _ (by
          rcases c3 with c | c | c | c
          · exact (c4 (.inl c)).elim
          · exact .inl c
          · exact (c4 (.inr c)).elim
          · exact .inr c)
        rw [this]; rfl
    · rw [if_neg c3, if_neg (show ¬((unpI x0).1 ≠ 0 ∨ (unpI x1).1 ≠ 0) from fun h => h.elim (fun h => c3 (.inl h)) (fun h => c3 (.inr (.inr (.inl h)))))]
      simp only [Option.bind_some]
      rw [if_neg (by simp)]
      have j0 : ix 0 [(mm (w.getD 1 0), (unpI x0).2), (mm (w.getD 2 0), (unpI x1).2)].length = some 0 := rfl
      have j1 : ix 1 [(mm (w.getD 1 0), (unpI x0).2), (mm (w.getD 2 0), (unpI x1).2)].length = some 1 := rfl
      rw [j0, j1]
      simp only [Option.bind_some, List.getElem?_cons_zero, List.getElem?_cons_succ]
      rw [r3, r4]
      unfold D_slices_Clone_uint64_uint64
      simp only [Option.bind_some]
      rw [gd_fits (by omega) (by omega), gd_fits (by omega) (by omega)]
      simp only [Option.bind_some]
      rw [header_number (hu.getD 3), header_number (hu.getD 4), wrap64 (n := w.getD 0 0) (by omega)]
      simp only [Option.bind_some]
      have key : ∀ n, D_header_Check (w.getD 0 0) x2 x3 (mm (w.getD 1 0)) (unpI x0).2 (mm (w.getD 2 0)) (unpI x1).2 n (mm (w.getD 4 0)) = some (hchk (w.getD 0 0) x2.length x3.length (mm (w.getD 1 0)) (unpI x0).2 (mm (w.getD 2 0)) (unpI x1).2 n (mm (w.getD 4 0))) := fun n => header_Check (unp_ok u0 (by omega)) (unp_ok u1 (by omega))
      unfold Hd.chk hdOf
      simp only
      by_cases c5 : w.getD 0 0 = 2
      · simp only [if_pos c5, Option.bind_some, key]
        split <;> rfl
      · simp only [if_neg c5, Option.bind_some, key]
        split <;> rfl
theorem ref33_Decode {w : List Int} (hu : U64s w) (hl : w.length ≤ 4000) : D_ref33_Decode w = some (decR (decF w)) := by
  unfold D_ref33_Decode decF
  simp only [cond_dec]
  by_cases c0 : w.length < 5
  · rw [if_pos (by omega), if_pos c0]; rfl
  rw [if_neg (by omega), if_neg c0, cutG_in (by omega), gd_true, show (5 : Int) = ((5 : Nat) : Int) from rfl, cutL_end, ref05_Split (hu.drop 5) (by rw [List.length_drop]; omega)]
  cases h : splF (w.drop 5) with
  | none => rfl
  | some p =>
    obtain ⟨l, rest⟩ := p
    obtain ⟨x0, x1, x2, x3, rfl, ⟨u0, l0⟩, ⟨u1, l1⟩, ⟨u2, l2⟩, ⟨u3, l3⟩, lr⟩ := splF_some (hu.drop 5) h
    rw [List.length_drop] at l0 l1 l2 l3 lr
    simp only [Option.bind_some]
    rw [if_neg (by simp)]
    have r0 : rd w 0 = some (w.getD 0 0) := rd_getD (l := w) (i := 0) (by omega)
    have r1 : rd w 1 = some (w.getD 1 0) := rd_getD (l := w) (i := 1) (by omega)
    have r2 : rd w 2 = some (w.getD 2 0) := rd_getD (l := w) (i := 2) (by omega)
    have r3 : rd w 3 = some (w.getD 3 0) := rd_getD (l := w) (i := 3) (by omega)
    have r4 : rd w 4 = some (w.getD 4 0) := rd_getD (l := w) (i := 4) (by omega)
    have g0 := hu.getD 0
    rw [r0]
    simp only [Option.bind_some]
    by_cases c1 : w.getD 0 0 < 1
    · rw [if_pos c1, if_pos (.inl c1)]; rfl
    rw [if_neg c1]
    by_cases c2 : 3 < w.getD 0 0
    · rw [if_pos c2, if_pos (.inr c2)]; rfl
    rw [if_neg c2, if_neg (by omega)]
    have i0 : ix 0 [x0, x1, x2, x3].length = some 0 := rfl
    have i1 : ix 1 [x0, x1, x2, x3].length = some 1 := rfl
    have i2 : ix 2 [x0, x1, x2, x3].length = some 2 := rfl
    have i3 : ix 3 [x0, x1, x2, x3].length = some 3 := rfl
    rw [i0, i1, i2, i3]
    simp only [Option.bind_some, List.getElem?_cons_zero, List.getElem?_cons_succ]
    rw [ref33_Unpack u0 (by omega), ref33_Unpack u1 (by omega)]
    simp only [Option.bind_some]
    by_cases c3 : (unpI x0).1 ≠ 0
    · rw [if_pos c3, if_pos (.inl c3)]; rfl
    rw [if_neg c3]
    by_cases c4 : (unpI x1).1 ≠ 0
    · rw [if_pos c4, if_pos (.inr c4)]; rfl
    rw [if_neg c4, if_neg (by rintro (h | h) <;> contradiction), r1, r2, r3, r4]
    simp only [Option.bind_some]
    rw [ref33_number (hu.getD 1), ref33_number (hu.getD 2), ref33_number (hu.getD 3), ref33_number (hu.getD 4), wrap64 (n := w.getD 0 0) (by omega)]
    simp only [Option.bind_some]
    have key : ∀ n, D_ref33_Check (w.getD 0 0) x2 x3 (mm (w.getD 1 0)) (unpI x0).2 (mm (w.getD 2 0)) (unpI x1).2 n (mm (w.getD 4 0)) = some (hchk (w.getD 0 0) x2.length x3.length (mm (w.getD 1 0)) (unpI x0).2 (mm (w.getD 2 0)) (unpI x1).2 n (mm (w.getD 4 0))) := fun n => ref33_Check (unp_ok u0 (by omega)) (unp_ok u1 (by omega))
    unfold Hd.chk hdOf
    simp only
    by_cases c5 : w.getD 0 0 = 2
    · simp only [if_pos c5, if_neg (show ¬w.getD 0 0 ≠ 2 by omega), Option.bind_some, key]
      split <;> rfl
    · simp only [if_neg c5, if_pos (show w.getD 0 0 ≠ 2 by omega), Option.bind_some, key]
      split <;> rfl
theorem ref33_Same (m : Int) {x t : List Int} (R : Int) {l : List Op5} (Q : Int) {k : List Op5} (n b : Int) (hx : x.length < 1000000) (ht : t.length < 1000000) (hl : l.length < 1000000) (hk : k.length < 1000000) : D_ref33_Same m x t R l Q k n b m x t R l Q k n b = some true := by
  unfold D_ref33_Same
  simp only [cond_dec]
  rw [if_neg (by simp), if_neg (by simp), if_neg (by simp), if_neg (by simp), if_neg (by simp), ints_same hx, ints_same ht, ops_same hl, ops_same hk]
  rfl
theorem decF_in {w : List Int} (hu : U64s w) (hl : w.length ≤ 4000) {h : Hd} {rest : List Int} (he : decF w = .inr (h, rest)) : h.x.length ≤ 4000 ∧ h.t.length ≤ 4000 ∧ h.l.length ≤ 4000 ∧ h.k.length ≤ 4000 ∧ rest.length ≤ 4000 := by
  unfold decF at he
  split at he
  · cases he
  · split at he
    · rename_i x0 x1 x2 x3 r hs
      obtain ⟨y0, y1, y2, y3, hy, ⟨u0, l0⟩, ⟨u1, l1⟩, ⟨u2, l2⟩, ⟨u3, l3⟩, lr⟩ := splF_some (hu.drop 5) hs
      injection hy with a1 hy; injection hy with a2 hy; injection hy with a3 hy; injection hy with a4 _
      subst a1; subst a2; subst a3; subst a4
      rw [List.length_drop] at l0 l1 l2 l3 lr
      split at he
      · cases he
      split at he
      · cases he
      split at he
      · cases he
      · injection he with he
        injection he with h1 h2
        subst h1; subst h2
        exact ⟨by show x2.length ≤ _; omega, by show x3.length ≤ _; omega, (unp_ok u0 (by omega)).len, (unp_ok u1 (by omega)).len, by omega⟩
    · cases he
theorem law33_decodes (a0 : List Int) (f0 : Fine wordsS a0) : D_law33_HeaderDecodes a0 = some true := by
  unfold D_law33_HeaderDecodes
  simp only [cond_dec, goes33, Option.bind_some]
  by_cases c : 2000 < (a0.length : Int)
  · rw [if_pos c]
  rw [if_neg c]
  have hu := u64s_of f0
  rw [header_Decode hu (by omega), ref33_Decode hu (by omega)]
  simp only [Option.bind_some]
  cases h : decF a0 with
  | inl e =>
    simp only [decH, decR]
    rw [ref33_Same 0 0 0 0 0 (by simp) (by simp) (by simp) (by simp)]
    simp only [Option.bind_some, cond_true]
    rw [ints_same (by simp)]
    simp
  | inr p =>
    obtain ⟨hd, rest⟩ := p
    obtain ⟨q1, q2, q3, q4, q5⟩ := decF_in hu (by omega) h
    simp only [decH, decR]
    rw [ref33_Same _ _ _ _ _ (by omega) (by omega) (by omega) (by omega)]
    simp only [Option.bind_some, cond_true]
    rw [ints_same (by omega)]
    simp
end Go.V
