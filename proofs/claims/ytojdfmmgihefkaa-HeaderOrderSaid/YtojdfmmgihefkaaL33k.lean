/- Headers of words, in plain Lean. -/
import Derived.Test.YtojdfmmgihefkaaL33g
namespace Go.V
set_option linter.unusedVariables false
set_option linter.unusedSimpArgs false
open Go.Ab
set_option linter.unusedVariables false
set_option linter.unusedSimpArgs false
theorem same_true {a b : List Int} (ha : a.length < 1000000) (h : a = b) : D_ref05_Same a b = some true := by
  subst h; exact ints_same ha
theorem header_number {x : Int} (h : 0 ≤ x ∧ x ≤ 18446744073709551615) : D_header_number x = some (mm x) := by
  unfold D_header_number mm
  rw [wrap64 (by omega)]
theorem ref33_number {x : Int} (h : 0 ≤ x ∧ x ≤ 18446744073709551615) : D_ref33_number x = some (mm x) := by
  unfold D_ref33_number mm
  rw [cond_dec]
  split
  · congr 1; omega
  · rw [wrap64 (by omega)]; congr 1; omega
theorem unpI_err (w : List Int) : (unpI w).1 = 0 ∨ (unpI w).1 = 6 := by
  unfold unpI
  split
  · exact .inl rfl
  · exact .inr rfl
def progF (R : Int) (x0 : List Int) (Q : Int) (x1 : List Int) : Int × List (Int × List Op5) :=
  if (unpI x0).1 ≠ 0 ∨ scan (unpI x0).2 0 ≠ some 0 ∨ (unpI x1).1 ≠ 0 ∨ scan (unpI x1).2 0 ≠ some 0 then (6, []) else (0, [(mm R, (unpI x0).2), (mm Q, (unpI x1).2)])
theorem header_programs {x0 x1 : List Int} {R Q : Int} (u0 : U64s x0) (u1 : U64s x1) (l0 : x0.length ≤ 4000) (l1 : x1.length ≤ 4000) (hR : 0 ≤ R ∧ R ≤ 18446744073709551615) (hQ : 0 ≤ Q ∧ Q ≤ 18446744073709551615) :
    D_header_programs [R, Q] [x0, x1] = some (progF R x0 Q x1) := by
  have o0 := (unp_ok u0 l0).len
  have o1 := (unp_ok u1 l1).len
  obtain ⟨m0, e0⟩ := nest_Match (l := (unpI x0).2) (by omega)
  obtain ⟨m1, e1⟩ := nest_Match (l := (unpI x1).2) (by omega)
  unfold D_header_programs
  obtain ⟨N, hB⟩ : ∃ N, BIG = N + 1 + 1 + 1 := ⟨18446744073709551613, rfl⟩
  have s0 : D_header_programs_L0 [R, Q] [x0, x1] (0, []) = some (if (unpI x0).1 ≠ 0 then .inr (.inl ()) else if scan (unpI x0).2 0 ≠ some 0 then .inr (.inl ()) else .inl (1, [(mm R, (unpI x0).2)])) := by
    have r0 : rd [x0, x1] 0 = some x0 := rfl
    have r1 : rd [R, Q] 0 = some R := rfl
    unfold D_header_programs_L0
    simp only [cond_dec]
    rw [if_pos (by simp), r0]
    simp only [Option.bind_some]
    rw [header_Unpack u0 (by omega)]
    simp only [Option.bind_some]
    rw [e0]
    simp only [Option.bind_some]
    rw [r1]
    simp only [Option.bind_some]
    rw [header_number hR]
    by_cases c1 : (unpI x0).1 ≠ 0
    · rw [if_pos c1, if_pos c1]
    rw [if_neg c1, if_neg c1]
    by_cases c2 : scan (unpI x0).2 0 = some 0
    · rw [if_pos c2, if_neg (by simp), if_neg (by simp [c2])]
      rfl
    · rw [if_neg c2, if_pos (by simp), if_pos (by simp [c2])]
  have s1 : ∀ p, D_header_programs_L0 [R, Q] [x0, x1] (1, [p]) = some (if (unpI x1).1 ≠ 0 then .inr (.inl ()) else if scan (unpI x1).2 0 ≠ some 0 then .inr (.inl ()) else .inl (2, [p, (mm Q, (unpI x1).2)])) := by
    intro p
    have r0 : rd [x0, x1] 1 = some x1 := rfl
    have r1 : rd [R, Q] 1 = some Q := rfl
    unfold D_header_programs_L0
    simp only [cond_dec]
    rw [if_pos (by simp), r0]
    simp only [Option.bind_some]
    rw [header_Unpack u1 (by omega)]
    simp only [Option.bind_some]
    rw [e1]
    simp only [Option.bind_some]
    rw [r1]
    simp only [Option.bind_some]
    rw [header_number hQ]
    by_cases c1 : (unpI x1).1 ≠ 0
    · rw [if_pos c1, if_pos c1]
    rw [if_neg c1, if_neg c1]
    by_cases c2 : scan (unpI x1).2 0 = some 0
    · rw [if_pos c2, if_neg (by simp), if_neg (by simp [c2])]
      rfl
    · rw [if_neg c2, if_pos (by simp), if_pos (by simp [c2])]
  have s2 : ∀ p q, D_header_programs_L0 [R, Q] [x0, x1] (2, [p, q]) = some (.inr (.inr [p, q])) := fun p q => rfl
  unfold progF
  rw [hB, loopN_succ, s0]
  by_cases c1 : (unpI x0).1 ≠ 0
  · rw [if_pos c1, if_pos (.inl c1)]; rfl
  rw [if_neg c1]
  by_cases c2 : scan (unpI x0).2 0 ≠ some 0
  · rw [if_pos c2, if_pos (.inr (.inl c2))]; rfl
  rw [if_neg c2]
  simp only [Option.bind_some, caseS]
  rw [loopN_succ, s1]
  by_cases c3 : (unpI x1).1 ≠ 0
  · rw [if_pos c3, if_pos (.inr (.inr (.inl c3)))]; rfl
  rw [if_neg c3]
  by_cases c4 : scan (unpI x1).2 0 ≠ some 0
  · rw [if_pos c4, if_pos (.inr (.inr (.inr c4)))]; rfl
  rw [if_neg c4, if_neg (by rintro (h | h | h | h) <;> contradiction)]
  simp only [Option.bind_some, caseS]
  rw [loopN_succ, s2]
  rfl
structure Hd where
  m : Int
  x : List Int
  t : List Int
  R : Int
  l : List Op5
  Q : Int
  k : List Op5
  n : Int
  b : Int
def Hd.chk (h : Hd) : Int := hchk h.m h.x.length h.t.length h.R h.l h.Q h.k h.n h.b
def hdOf (w x0 x1 x2 x3 : List Int) : Hd := ⟨w.getD 0 0, x2, x3, mm (w.getD 1 0), (unpI x0).2, mm (w.getD 2 0), (unpI x1).2, if w.getD 0 0 = 2 then 0 else mm (w.getD 3 0), mm (w.getD 4 0)⟩
def decF (w : List Int) : Int ⊕ (Hd × List Int) := if w.length < 5 then .inl 4 else match splF (w.drop 5) with
  | some ([x0, x1, x2, x3], rest) => if w.getD 0 0 < 1 ∨ 3 < w.getD 0 0 then .inl 5 else if (unpI x0).1 ≠ 0 ∨ (unpI x1).1 ≠ 0 then .inl 6 else
    if (hdOf w x0 x1 x2 x3).chk ≠ 0 then .inl (hdOf w x0 x1 x2 x3).chk else .inr (hdOf w x0 x1 x2 x3, rest)
  | _ => .inl 4
def decH : Int ⊕ (Hd × List Int) → Int × Int × (List Op5) × Int × (List Op5) × Int × Int × Int × (List Int) × (List Int) × List Int
  | .inl e => (0, 0, [], 0, [], 0, 0, e, [], [], [])
  | .inr (h, rest) => (h.m, h.R, h.l, h.Q, h.k, h.n, h.b, 0, h.x, h.t, rest)
def decR : Int ⊕ (Hd × List Int) → Int × (List Int) × (List Int) × Int × Int × Int × Int × (List Int) × Int × (List Op5) × List Op5
  | .inl e => (0, [], [], 0, 0, 0, 0, [], e, [], [])
  | .inr (h, rest) => (h.m, h.x, h.t, h.R, h.Q, h.n, h.b, rest, 0, h.l, h.k)
theorem U64s.getD {w : List Int} (h : U64s w) (i : Nat) : 0 ≤ w.getD i 0 ∧ w.getD i 0 ≤ 18446744073709551615 := by
  rw [List.getD_eq_getElem?_getD]
  by_cases hi : i < w.length
  · rw [List.getElem?_eq_getElem hi]; exact h _ (List.getElem_mem hi)
  · rw [List.getElem?_eq_none (by omega)]; exact ⟨by decide, by decide⟩
theorem chk_ill {m : Int} (hm : 1 ≤ m ∧ m ≤ 3) (x t : Nat) (R : Int) (l : List Op5) (Q : Int) (k : List Op5) (n b : Int) (h : scan l 0 ≠ some 0 ∨ scan k 0 ≠ some 0) : hchk m x t R l Q k n b = 6 := by
  have h0 : hk0 m = 0 := by
    unfold hk0
    rw [if_neg (by omega), if_neg (by omega)]
  unfold hchk
  rw [h0, if_neg (by simp)]
  have : pair10 R l Q k = 6 := by
    unfold pair10 lk0 formB
    rcases h with h | h
    · simp [h]
    · by_cases c : (decide (scan l 0 = some 0) && !(l.any fun o => !rightB o)) = true
      · rw [if_pos c]
        simp [h]
      · rw [if_neg c]
        simp
  rw [this, if_pos (by omega)]
theorem cutL13 {w : List Int} (h : 5 ≤ w.length) : cutL w 1 3 = [w.getD 1 0, w.getD 2 0] := by
  match w, h with
  | a :: b :: c :: d :: e :: r, _ => rfl
theorem header_Decode {w : List Int} (hu : U64s w) (hl : w.length ≤ 4000) : D_header_Decode w = some (decH (decF w)) := by
  unfold D_header_Decode decF
  simp only [cond_dec]
  by_cases c0 : w.length < 5
  · rw [if_pos (by omega), if_pos c0]; rfl
  rw [if_neg (by omega), if_neg c0, cutG_in (by omega), gd_true, show (5 : Int) = ((5 : Nat) : Int) from rfl, cutL_end, words_Split (hu.drop 5) (by rw [List.length_drop]; omega)]
  cases h : splF (w.drop 5) with
  | none => rfl
  | some p =>
    obtain ⟨l, rest⟩ := p
    obtain ⟨x0, x1, x2, x3, rfl, ⟨u0, l0⟩, ⟨u1, l1⟩, ⟨u2, l2⟩, ⟨u3, l3⟩, lr⟩ := splF_some (hu.drop 5) h
    rw [List.length_drop] at l0 l1 l2 l3 lr
    simp only [Option.bind_some]
    rw [if_neg (by simp)]
    have r0 : rd w 0 = some (w.getD 0 0) := rd_getD (l := w) (i := 0) (by omega)
    have r3 : rd w 3 = some (w.getD 3 0) := rd_getD (l := w) (i := 3) (by omega)
    have r4 : rd w 4 = some (w.getD 4 0) := rd_getD (l := w) (i := 4) (by omega)
    have g0 := hu.getD 0
    have g1 := hu.getD 1
    have g2 := hu.getD 2
    rw [r0]
    simp only [Option.bind_some]
    by_cases c1 : w.getD 0 0 < 1
    · rw [if_pos c1, if_pos (.inl c1)]; rfl
    rw [if_neg c1]
    by_cases c2 : 3 < w.getD 0 0
    · rw [if_pos c2, if_pos (.inr c2)]; rfl
    rw [if_neg c2, if_neg (by omega), cutG_in (by omega), gd_true, cutL13 (by omega)]
    have i0 : ix 0 [x0, x1, x2, x3].length = some 0 := rfl
    have i1 : ix 1 [x0, x1, x2, x3].length = some 1 := rfl
    have i2 : ix 2 [x0, x1, x2, x3].length = some 2 := rfl
    have i3 : ix 3 [x0, x1, x2, x3].length = some 3 := rfl
    rw [i0, i1, i2, i3]
    simp only [Option.bind_some, List.getElem?_cons_zero, List.getElem?_cons_succ]
    rw [header_programs u0 u1 (by omega) (by omega) g1 g2]
    simp only [Option.bind_some]
    unfold progF
    have hm : 1 ≤ w.getD 0 0 ∧ w.getD 0 0 ≤ 3 := by omega
    by_cases c3 : (unpI x0).1 ≠ 0 ∨ scan (unpI x0).2 0 ≠ some 0 ∨ (unpI x1).1 ≠ 0 ∨ scan (unpI x1).2 0 ≠ some 0
    · rw [if_pos c3]
      by_cases c4 : (unpI x0).1 ≠ 0 ∨ (unpI x1).1 ≠ 0
      · rw [if_pos c4]; rfl
      · rw [if_neg c4]
        have : (hdOf w x0 x1 x2 x3).chk = 6 := chk_ill hm _ _ _ _ _ _ _ _ (by
          rcases c3 with c | c | c | c
          · exact (c4 (.inl c)).elim
          · exact .inl c
          · exact (c4 (.inr c)).elim
          · exact .inr c)
        rw [this]; rfl
    · rw [if_neg c3, if_neg (show ¬((unpI x0).1 ≠ 0 ∨ (unpI x1).1 ≠ 0) from fun h => h.elim (fun h => c3 (.inl h)) (fun h => c3 (.inr (.inr (.inl h)))))]
      simp only [Option.bind_some]
      rw [if_neg (by simp)]
      have j0 : ix 0 [(mm (w.getD 1 0), (unpI x0).2), (mm (w.getD 2 0), (unpI x1).2)].length = some 0 := rfl
      have j1 : ix 1 [(mm (w.getD 1 0), (unpI x0).2), (mm (w.getD 2 0), (unpI x1).2)].length = some 1 := rfl
      rw [j0, j1]
      simp only [Option.bind_some, List.getElem?_cons_zero, List.getElem?_cons_succ]
      rw [r3, r4]
      unfold D_slices_Clone_uint64_uint64
      simp only [Option.bind_some]
      rw [gd_fits (by omega) (by omega), gd_fits (by omega) (by omega)]
      simp only [Option.bind_some]
      rw [header_number (hu.getD 3), header_number (hu.getD 4), wrap64 (n := w.getD 0 0) (by omega)]
      simp only [Option.bind_some]
      have key : ∀ n, D_header_Check (w.getD 0 0) x2 x3 (mm (w.getD 1 0)) (unpI x0).2 (mm (w.getD 2 0)) (unpI x1).2 n (mm (w.getD 4 0)) = some (hchk (w.getD 0 0) x2.length x3.length (mm (w.getD 1 0)) (unpI x0).2 (mm (w.getD 2 0)) (unpI x1).2 n (mm (w.getD 4 0))) := fun n => header_Check (unp_ok u0 (by omega)) (unp_ok u1 (by omega))
      unfold Hd.chk hdOf
      simp only
      by_cases c5 : w.getD 0 0 = 2
      · simp only [if_pos c5, Option.bind_some, key]
        split <;> rfl
      · simp only [if_neg c5, Option.bind_some, key]
        split <;> rfl
theorem ref33_Decode {w : List Int} (hu : U64s w) (hl : w.length ≤ 4000) : D_ref33_Decode w = some (decR (decF w)) := by
  unfold D_ref33_Decode decF
  simp only [cond_dec]
  by_cases c0 : w.length < 5
  · rw [if_pos (by omega), if_pos c0]; rfl
  rw [if_neg (by omega), if_neg c0, cutG_in (by omega), gd_true, show (5 : Int) = ((5 : Nat) : Int) from rfl, cutL_end, ref05_Split (hu.drop 5) (by rw [List.length_drop]; omega)]
  cases h : splF (w.drop 5) with
  | none => rfl
  | some p =>
    obtain ⟨l, rest⟩ := p
    obtain ⟨x0, x1, x2, x3, rfl, ⟨u0, l0⟩, ⟨u1, l1⟩, ⟨u2, l2⟩, ⟨u3, l3⟩, lr⟩ := splF_some (hu.drop 5) h
    rw [List.length_drop] at l0 l1 l2 l3 lr
    simp only [Option.bind_some]
    rw [if_neg (by simp)]
    have r0 : rd w 0 = some (w.getD 0 0) := rd_getD (l := w) (i := 0) (by omega)
    have r1 : rd w 1 = some (w.getD 1 0) := rd_getD (l := w) (i := 1) (by omega)
    have r2 : rd w 2 = some (w.getD 2 0) := rd_getD (l := w) (i := 2) (by omega)
    have r3 : rd w 3 = some (w.getD 3 0) := rd_getD (l := w) (i := 3) (by omega)
    have r4 : rd w 4 = some (w.getD 4 0) := rd_getD (l := w) (i := 4) (by omega)
    have g0 := hu.getD 0
    rw [r0]
    simp only [Option.bind_some]
    by_cases c1 : w.getD 0 0 < 1
    · rw [if_pos c1, if_pos (.inl c1)]; rfl
    rw [if_neg c1]
    by_cases c2 : 3 < w.getD 0 0
    · rw [if_pos c2, if_pos (.inr c2)]; rfl
    rw [if_neg c2, if_neg (by omega)]
    have i0 : ix 0 [x0, x1, x2, x3].length = some 0 := rfl
    have i1 : ix 1 [x0, x1, x2, x3].length = some 1 := rfl
    have i2 : ix 2 [x0, x1, x2, x3].length = some 2 := rfl
    have i3 : ix 3 [x0, x1, x2, x3].length = some 3 := rfl
    rw [i0, i1, i2, i3]
    simp only [Option.bind_some, List.getElem?_cons_zero, List.getElem?_cons_succ]
    rw [ref33_Unpack u0 (by omega), ref33_Unpack u1 (by omega)]
    simp only [Option.bind_some]
    by_cases c3 : (unpI x0).1 ≠ 0
    · rw [if_pos c3, if_pos (.inl c3)]; rfl
    rw [if_neg c3]
    by_cases c4 : (unpI x1).1 ≠ 0
    · rw [if_pos c4, if_pos (.inr c4)]; rfl
    rw [if_neg c4, if_neg (by rintro (h | h) <;> contradiction), r1, r2, r3, r4]
    simp only [Option.bind_some]
    rw [ref33_number (hu.getD 1), ref33_number (hu.getD 2), ref33_number (hu.getD 3), ref33_number (hu.getD 4), wrap64 (n := w.getD 0 0) (by omega)]
    simp only [Option.bind_some]
    have key : ∀ n, D_ref33_Check (w.getD 0 0) x2 x3 (mm (w.getD 1 0)) (unpI x0).2 (mm (w.getD 2 0)) (unpI x1).2 n (mm (w.getD 4 0)) = some (hchk (w.getD 0 0) x2.length x3.length (mm (w.getD 1 0)) (unpI x0).2 (mm (w.getD 2 0)) (unpI x1).2 n (mm (w.getD 4 0))) := fun n => ref33_Check (unp_ok u0 (by omega)) (unp_ok u1 (by omega))
    unfold Hd.chk hdOf
    simp only
    by_cases c5 : w.getD 0 0 = 2
    · simp only [if_pos c5, if_neg (show ¬w.getD 0 0 ≠ 2 by omega), Option.bind_some, key]
      split <;> rfl
    · simp only [if_neg c5, if_pos (show w.getD 0 0 ≠ 2 by omega), Option.bind_some, key]
      split <;> rfl
theorem ref33_Same (m : Int) {x t : List Int} (R : Int) {l : List Op5} (Q : Int) {k : List Op5} (n b : Int) (hx : x.length < 1000000) (ht : t.length < 1000000) (hl : l.length < 1000000) (hk : k.length < 1000000) : D_ref33_Same m x t R l Q k n b m x t R l Q k n b = some true := by
  unfold D_ref33_Same
  simp only [cond_dec]
  rw [if_neg (by simp), if_neg (by simp), if_neg (by simp), if_neg (by simp), if_neg (by simp), ints_same hx, ints_same ht, ops_same hl, ops_same hk]
  rfl
theorem decF_in {w : List Int} (hu : U64s w) (hl : w.length ≤ 4000) {h : Hd} {rest : List Int} (he : decF w = .inr (h, rest)) : h.x.length ≤ 4000 ∧ h.t.length ≤ 4000 ∧ h.l.length ≤ 4000 ∧ h.k.length ≤ 4000 ∧ rest.length ≤ 4000 := by
  unfold decF at he
  split at he
  · cases he
  · split at he
    · rename_i x0 x1 x2 x3 r hs
      obtain ⟨y0, y1, y2, y3, hy, ⟨u0, l0⟩, ⟨u1, l1⟩, ⟨u2, l2⟩, ⟨u3, l3⟩, lr⟩ := splF_some (hu.drop 5) hs
      injection hy with a1 hy; injection hy with a2 hy; injection hy with a3 hy; injection hy with a4 _
      subst a1; subst a2; subst a3; subst a4
      rw [List.length_drop] at l0 l1 l2 l3 lr
      split at he
      · cases he
      split at he
      · cases he
      split at he
      · cases he
      · injection he with he
        injection he with h1 h2
        subst h1; subst h2
        exact ⟨by show x2.length ≤ _; omega, by show x3.length ≤ _; omega, (unp_ok u0 (by omega)).len, (unp_ok u1 (by omega)).len, by omega⟩
    · cases he
theorem law33_decodes (a0 : List Int) (f0 : Fine wordsS a0) : D_law33_HeaderDecodes a0 = some true := by
  unfold D_law33_HeaderDecodes
  simp only [cond_dec, goes33, Option.bind_some]
  by_cases c : 2000 < (a0.length : Int)
  · rw [if_pos c]
  rw [if_neg c]
  have hu := u64s_of f0
  rw [header_Decode hu (by omega), ref33_Decode hu (by omega)]
  simp only [Option.bind_some]
  cases h : decF a0 with
  | inl e =>
    simp only [decH, decR]
    rw [ref33_Same 0 0 0 0 0 (by simp) (by simp) (by simp) (by simp)]
    simp only [Option.bind_some, cond_true]
    rw [ints_same (by simp)]
    simp
  | inr p =>
    obtain ⟨hd, rest⟩ := p
    obtain ⟨q1, q2, q3, q4, q5⟩ := decF_in hu (by omega) h
    simp only [decH, decR]
    rw [ref33_Same _ _ _ _ _ (by omega) (by omega) (by omega) (by omega)]
    simp only [Option.bind_some, cond_true]
    rw [ints_same (by omega)]
    simp
end Go.V
namespace Go.V
open Go.Ab
set_option linter.unusedVariables false
set_option linter.unusedSimpArgs false
/-! ### Lists put together, taken apart -/
theorem S_frame : ∀ (l : List (List Int)) (acc : List (List Int)) (more : List Int), S l.length (frameF l ++ more) acc = some (acc ++ l, more)
  | [], acc, more => by simp [S, frameF]
  | x :: l, acc, more => by
    have e : frameF (x :: l) ++ more = (x.length : Int) :: (x ++ (frameF l ++ more)) := by simp [frameF]
    rw [e]
    show S (l.length + 1) _ _ = _
    simp only [S]
    rw [if_neg (by simp; omega), show ((x.length : Int)).toNat = x.length by omega, List.drop_left, List.take_left, S_frame l]
    simp
theorem S_cut : ∀ (l : List (List Int)) (acc : List (List Int)) (n : Nat), n < (frameF l).length → S l.length ((frameF l).take n) acc = none
  | [], acc, n, h => by simp [frameF] at h
  | x :: l, acc, 0, h => rfl
  | x :: l, acc, n + 1, h => by
    have e : frameF (x :: l) = (x.length : Int) :: (x ++ frameF l) := by simp [frameF]
    rw [e] at h ⊢
    show S (l.length + 1) _ _ = _
    rw [List.take_succ_cons]
    simp only [S]
    split
    · rfl
    · rename_i c
      rw [List.length_take, List.length_append] at c
      simp only [List.length_cons, List.length_append] at h
      have hn : x.length ≤ n := by omega
      rw [show ((x.length : Int)).toNat = x.length by omega]
      have : (List.take n (x ++ frameF l)).drop x.length = (frameF l).take (n - x.length) := by
        rw [List.drop_take, List.drop_left]
      rw [this]
      exact S_cut l _ _ (by omega)
/-! ### An operation's words -/
theorem takeF_if (q : Bool) (x : Int) (r : List Int) : takeF q ((if q then [x] else []) ++ r) = some (if q then x else 0, r) := by cases q <;> rfl
theorem mm_reg {n : Int} {q : Bool} (h : regB n q = true) : mm (if q then IntKind.u64.wrap n else 0) = n := by
  unfold regB at h
  unfold mm
  cases q with
  | false => simp at h; rw [h]; rfl
  | true =>
    simp at h
    simp only [if_true]
    rw [wrapU_in (by omega)]
    omega
theorem R7_words {o : Op5} (h : rightB o = true) (hv : 0 ≤ o.2.2.2.2 ∧ o.2.2.2.2 ≤ 18446744073709551615) (r : List Int) : R7 (wordsF o ++ r) = (o.1, o.2.1, o.2.2.1, o.2.2.2.1, o.2.2.2.2, ((wordsF o).length : Int), 0) := by
  obtain ⟨k, d, a, b, v⟩ := o
  unfold rightB at h
  simp only [Bool.and_eq_true, decide_eq_true_eq] at h
  obtain ⟨hk, hd, ha, hb, hv'⟩ := h
  have e : wordsF (k, d, a, b, v) ++ r = IntKind.u64.wrap k :: ((if (opAsks k).1 then [IntKind.u64.wrap d] else []) ++ ((if (opAsks k).2.1 then [IntKind.u64.wrap a] else []) ++ ((if (opAsks k).2.2.1 then [IntKind.u64.wrap b] else []) ++ ((if (opAsks k).2.2.2 then [v] else []) ++ r)))) := by
    simp [wordsF]
  have hlen : (wordsF (k, d, a, b, v)).length = 1 + cntF (opAsks k).1 + cntF (opAsks k).2.1 + cntF (opAsks k).2.2.1 + cntF (opAsks k).2.2.2 := by
    unfold wordsF cntF
    simp only
    generalize (opAsks k).1 = b1
    generalize (opAsks k).2.1 = b2
    generalize (opAsks k).2.2.1 = b3
    generalize (opAsks k).2.2.2 = b4
    cases b1 <;> cases b2 <;> cases b3 <;> cases b4 <;> rfl
  rw [e, wrapU_in (by omega), hlen]
  simp only [R7]
  rw [if_neg (by omega), takeF_if]
  simp only
  rw [takeF_if]
  simp only
  rw [takeF_if]
  simp only
  rw [takeF_if]
  simp only
  rw [mm_reg hd, mm_reg ha, mm_reg hb]
  have : (if (opAsks k).2.2.2 = true then v else 0) = v := by
    cases hq : (opAsks k).2.2.2 with
    | true => rfl
    | false => rw [hq] at hv'; simp at hv'; simp [hv']
  rw [this]
theorem wordsF_pos (o : Op5) : 1 ≤ (wordsF o).length := by unfold wordsF; simp
theorem U_words : ∀ (l : List Op5) (acc : List Op5) (f : Nat), (∀ o ∈ l, rightB o = true) → (∀ o ∈ l, 0 ≤ o.2.2.2.2 ∧ o.2.2.2.2 ≤ 18446744073709551615) → (l.flatMap wordsF).length < f → U f (l.flatMap wordsF) acc = some (acc ++ l)
  | [], acc, 0, _, _, h => by simp at h
  | [], acc, f + 1, _, _, _ => by simp [U]
  | o :: l, acc, 0, _, _, h => by simp at h
  | o :: l, acc, f + 1, hr, hv, h => by
    have h1 := hr o (by simp)
    have h2 := hv o (by simp)
    have h3 := wordsF_pos o
    have e : (o :: l).flatMap wordsF = wordsF o ++ l.flatMap wordsF := by simp
    rw [e] at h ⊢
    rw [List.length_append] at h
    simp only [U]
    rw [if_neg (by rw [List.length_append]; omega), R7_words h1 h2]
    simp only
    rw [if_neg (by simp), show (((wordsF o).length : Int)).toNat = (wordsF o).length by omega, List.drop_left, U_words l _ f (fun o ho => hr o (by simp [ho])) (fun o ho => hv o (by simp [ho])) (by omega)]
    simp
theorem unp_pack {l : List Op5} (ho : OpsOk l) (h : formB l = true) : unpI (packF l).2 = (0, l) := by
  unfold formB at h
  rw [Bool.and_eq_true] at h
  have hb : (l.any fun o => !rightB o) = false := by simpa using h.2
  have hr : ∀ o ∈ l, rightB o = true := by
    intro o ho
    have := List.any_eq_false.1 hb o ho
    simpa using this
  unfold packF
  rw [if_neg (by simp [hb])]
  unfold unpI unpF
  simp only
  rw [U_words l [] _ hr ho.v (by omega)]
  rfl
theorem pair_form {R Q : Int} {l k : List Op5} (h : pair10 R l Q k = 0) : formB l = true ∧ formB k = true := by
  unfold pair10 at h
  split at h
  · rename_i c; exact (c h).elim
  split at h
  · rename_i c; exact (c h).elim
  rename_i c1 c2
  unfold lk0 at c1 c2
  constructor
  · cases hb : formB l with
    | true => rfl
    | false => rw [hb] at c1; simp at c1
  · cases hb : formB k with
    | true => rfl
    | false => rw [hb] at c2; simp at c2
theorem hchk_parts {m : Int} {x t : Nat} {R : Int} {l : List Op5} {Q : Int} {k : List Op5} {n b : Int} (h : hchk m x t R l Q k n b = 0) : hk0 m = 0 ∧ pair10 R l Q k = 0 ∧ dimsF R Q x t = 0 ∧ hk3 m n = 0 ∧ hk4 b = 0 := by
  unfold hchk at h
  split at h
  · rename_i c; exact (c h).elim
  split at h
  · rename_i c; exact (c h).elim
  split at h
  · rename_i c; exact (c h).elim
  split at h
  · rename_i c; exact (c h).elim
  rename_i c0 c1 c2 c3
  refine ⟨by omega, by omega, by omega, by omega, h⟩
section
variable {a0 : Int} {a1 a2 : List Int} {a3 : Int} {a4 : List Op5} {a5 : Int} {a6 : List Op5} {a7 a8 : Int}
theorem dec_enc (h4 : OpsOk a4) (h6 : OpsOk a6) (hc : hchk a0 a1.length a2.length a3 a4 a5 a6 a7 a8 = 0) (more : List Int) :
    decF (encF a0 a1 a2 a3 a4 a5 a6 a7 a8 ++ more) = .inr (⟨a0, a1, a2, a3, a4, a5, a6, a7, a8⟩, more) := by
  have hf := hfacts h4 h6 hc
  obtain ⟨_, hp, _, h3, _⟩ := hchk_parts hc
  obtain ⟨f4, f6⟩ := pair_form hp
  have e : encF a0 a1 a2 a3 a4 a5 a6 a7 a8 ++ more = [a0, a3, a5, a7, a8] ++ (frameF [(packF a4).2, (packF a6).2, a1, a2] ++ more) := by
    unfold encF
    have := hf.mode; have := hf.regs; have := hf.regs'; have := hf.len; have := hf.bud
    rw [wrapU_in (n := a0) (by omega), wrapU_in (n := a3) (by omega), wrapU_in (n := a5) (by omega), wrapU_in (n := a7) (by omega), wrapU_in (n := a8) (by omega), List.append_assoc]
  rw [e]
  unfold decF
  rw [if_neg (by simp)]
  have e1 : ([a0, a3, a5, a7, a8] ++ (frameF [(packF a4).2, (packF a6).2, a1, a2] ++ more)).drop 5 = frameF [(packF a4).2, (packF a6).2, a1, a2] ++ more := rfl
  rw [e1]
  have e2 : splF (frameF [(packF a4).2, (packF a6).2, a1, a2] ++ more) = some ([(packF a4).2, (packF a6).2, a1, a2], more) := S_frame [(packF a4).2, (packF a6).2, a1, a2] [] more
  rw [e2]
  simp only
  have g0 : ([a0, a3, a5, a7, a8] ++ (frameF [(packF a4).2, (packF a6).2, a1, a2] ++ more)).getD 0 0 = a0 := rfl
  have hm := hf.mode
  have hh : hdOf ([a0, a3, a5, a7, a8] ++ (frameF [(packF a4).2, (packF a6).2, a1, a2] ++ more)) (packF a4).2 (packF a6).2 a1 a2 = ⟨a0, a1, a2, a3, a4, a5, a6, a7, a8⟩ := by
    have m3 : mm a3 = a3 := by unfold mm; have := hf.regs; omega
    have m5 : mm a5 = a5 := by unfold mm; have := hf.regs'; omega
    have m8 : mm a8 = a8 := by unfold mm; have := hf.bud; omega
    have m7 : (if a0 = 2 then 0 else mm a7) = a7 := by
      have := hf.len
      unfold hk3 at h3
      split
      · rename_i c
        rw [if_pos c] at h3
        split at h3
        · omega
        split at h3 <;> omega
      · unfold mm; omega
    show (⟨a0, a1, a2, mm a3, (unpI (packF a4).2).2, mm a5, (unpI (packF a6).2).2, if a0 = 2 then 0 else mm a7, mm a8⟩ : Hd) = _
    rw [m3, m5, m7, m8, unp_pack h4 f4, unp_pack h6 f6]
  rw [g0, if_neg (by omega), unp_pack h4 f4, unp_pack h6 f6, if_neg (by simp), hh]
  have : (⟨a0, a1, a2, a3, a4, a5, a6, a7, a8⟩ : Hd).chk = 0 := hc
  rw [this, if_neg (by simp)]
theorem dec_cut (n : Nat) (h : n < (encF a0 a1 a2 a3 a4 a5 a6 a7 a8).length) : decF ((encF a0 a1 a2 a3 a4 a5 a6 a7 a8).take n) = .inl 4 := by
  unfold decF
  by_cases c : ((encF a0 a1 a2 a3 a4 a5 a6 a7 a8).take n).length < 5
  · rw [if_pos c]
  rw [if_neg c]
  rw [List.length_take] at c
  have hd : ((encF a0 a1 a2 a3 a4 a5 a6 a7 a8).take n).drop 5 = (frameF [(packF a4).2, (packF a6).2, a1, a2]).take (n - 5) := by
    rw [List.drop_take]
    rfl
  have hl : (encF a0 a1 a2 a3 a4 a5 a6 a7 a8).length = 5 + (frameF [(packF a4).2, (packF a6).2, a1, a2]).length := by unfold encF; simp; omega
  have : splF ((frameF [(packF a4).2, (packF a6).2, a1, a2]).take (n - 5)) = none := S_cut [(packF a4).2, (packF a6).2, a1, a2] [] _ (by omega)
  rw [hd, this]
theorem frame_len4 (l : List (List Int)) : l.length ≤ (frameF l).length := by
  unfold frameF
  induction l with
  | nil => simp
  | cons x l ih => simp only [List.flatMap_cons, List.length_append, List.length_cons]; omega
theorem words_u64 {o : Op5} (hv : 0 ≤ o.2.2.2.2 ∧ o.2.2.2.2 ≤ 18446744073709551615) : U64s (wordsF o) := by
  have w : ∀ n : Int, 0 ≤ IntKind.u64.wrap n ∧ IntKind.u64.wrap n ≤ 18446744073709551615 := fun n => by rw [wrapU]; omega
  intro x hx
  unfold wordsF at hx
  simp only [List.mem_cons, List.mem_append] at hx
  rcases hx with rfl | hx | hx | hx | hx
  · exact w _
  · split at hx
    · simp at hx; subst hx; exact w _
    · simp at hx
  · split at hx
    · simp at hx; subst hx; exact w _
    · simp at hx
  · split at hx
    · simp at hx; subst hx; exact w _
    · simp at hx
  · split at hx
    · simp at hx; subst hx; exact hv
    · simp at hx
theorem pack_u64 {l : List Op5} (h : OpsOk l) : U64s (packF l).2 := by
  unfold packF
  split
  · intro x hx; simp at hx
  · intro x hx
    obtain ⟨o, ho, hx⟩ := List.mem_flatMap.1 hx
    exact words_u64 (h.v o ho) x hx
theorem enc_u64 (h4 : OpsOk a4) (h6 : OpsOk a6) (u1 : U64s a1) (u2 : U64s a2) (l1 : a1.length ≤ 100000) (l2 : a2.length ≤ 100000) : U64s (encF a0 a1 a2 a3 a4 a5 a6 a7 a8) := by
  have w : ∀ n : Int, 0 ≤ IntKind.u64.wrap n ∧ IntKind.u64.wrap n ≤ 18446744073709551615 := fun n => by rw [wrapU]; omega
  have hL := enc_lists h4 h6 l1 l2
  intro x hx
  unfold encF at hx
  rcases List.mem_append.1 hx with hx | hx
  · simp only [List.mem_cons, List.not_mem_nil, or_false] at hx
    rcases hx with rfl | rfl | rfl | rfl | rfl <;> exact w _
  · obtain ⟨y, hy, hx⟩ := List.mem_flatMap.1 hx
    have hly := hL y hy
    simp only [List.mem_cons, List.not_mem_nil, or_false] at hy
    rcases List.mem_cons.1 hx with e | hz
    · omega
    · rcases hy with hy | hy | hy | hy
      · rw [hy] at hz; exact pack_u64 h4 x hz
      · rw [hy] at hz; exact pack_u64 h6 x hz
      · rw [hy] at hz; exact u1 x hz
      · rw [hy] at hz; exact u2 x hz
end
theorem law33_back (a0 : Int) (a1 a2 : List Int) (a3 : Int) (a4 : List Op5) (a5 : Int) (a6 : List Op5) (a7 a8 : Int) (a9 : List Int) (a10 : Int) (f0 : Fine (.int .i64) a0) (f1 : Fine wordsS a1) (f2 : Fine wordsS a2) (f3 : Fine (.int .i64) a3) (f4 : Fine opsS a4) (f5 : Fine (.int .i64) a5) (f6 : Fine opsS a6) (f7 : Fine (.int .i64) a7) (f8 : Fine (.int .i64) a8) (f9 : Fine wordsS a9) (f10 : Fine (.int .i64) a10) : D_law33_HeaderBack a0 a1 a2 a3 a4 a5 a6 a7 a8 a9 a10 = some true := by
  unfold D_law33_HeaderBack
  obtain ⟨b, hb, hs⟩ := small_says (a0 := a0) (a1 := a1) (a2 := a2) (a3 := a3) (a4 := a4) (a5 := a5) (a6 := a6) (a7 := a7) (a8 := a8)
  rw [hb, goes33]
  simp only [Option.bind_some]
  cases b with
  | false => rfl
  | true =>
    obtain ⟨h4, h6, l1, l2⟩ := hs rfl
    simp only [Bool.not_true, cond_false, Option.bind_some]
    simp only [cond_dec]
    by_cases c9 : 100 < (a9.length : Int)
    · rw [if_pos c9]
    rw [if_neg c9]
    have o4 := ops_ok f4 (by omega)
    have o6 := ops_ok f6 (by omega)
    rw [header_Encode o4 o6 (by omega) (by omega)]
    simp only [Option.bind_some]
    have hP4 := pack_len a4
    have hP6 := pack_len a6
    by_cases hc : hchk a0 a1.length a2.length a3 a4 a5 a6 a7 a8 = 0
    · rw [if_neg (show ¬hchk a0 a1.length a2.length a3 a4 a5 a6 a7 a8 ≠ 0 by simp [hc])]
      dsimp only
      have hw : (encF a0 a1 a2 a3 a4 a5 a6 a7 a8).length = 5 + (frameF [(packF a4).2, (packF a6).2, a1, a2]).length := by unfold encF; simp; omega
      have hfl : (frameF [(packF a4).2, (packF a6).2, a1, a2]).length = 4 + (packF a4).2.length + (packF a6).2.length + a1.length + a2.length := by
        unfold frameF
        simp only [List.flatMap_cons, List.flatMap_nil, List.length_append, List.length_cons, List.length_nil]
        omega
      rw [if_neg (by simp), if_neg (by omega)]
      rw [gd_fits (by omega) (by omega), gd_fits (by simp; omega) (by omega)]
      have uw := enc_u64 (a0 := a0) (a3 := a3) (a5 := a5) (a7 := a7) (a8 := a8) o4 o6 (u64s_of f1) (u64s_of f2) (by omega) (by omega)
      have um : U64s (([] ++ encF a0 a1 a2 a3 a4 a5 a6 a7 a8) ++ a9) := by
        intro x hx
        rcases List.mem_append.1 hx with hx | hx
        · exact uw x (by simpa using hx)
        · exact u64s_of f9 x hx
      rw [header_Decode um (by simp; omega), List.nil_append, dec_enc o4 o6 hc]
      simp only [Option.bind_some, decH]
      rw [gd_dec (by omega), gd_dec (by omega)]
      obtain ⟨n, hn, hk⟩ := spot (L := (encF a0 a1 a2 a3 a4 a5 a6 a7 a8).length) (by omega) (by omega) (a := a10) f10
      rw [hk, cutG_in (by omega), gd_true, Int.toNat_natCast, Nat.sub_zero, List.drop_zero]
      rw [header_Decode (uw.take n) (by rw [List.length_take]; omega), dec_cut n hn]
      simp only [Option.bind_some, decH]
      rw [if_pos trivial, ref33_Same _ _ _ _ _ (by omega) (by omega) (by omega) (by omega)]
      simp only [Option.bind_some, cond_true]
      rw [ints_same (by omega)]
      simp only [Option.bind_some, cond_true]
      rw [if_pos trivial, ref33_Same 0 0 0 0 0 (by simp) (by simp) (by simp) (by simp)]
      rfl
    · rw [if_pos hc]
      simp only
      rw [if_pos hc, header_Check o4 o6]
      simp
end Go.V
namespace Go.V
open Go.Ab
set_option linter.unusedVariables false
set_option linter.unusedSimpArgs false
def pre18 : List Op5 := List.replicate 9 (7, 0, 0, 0, 1) ++ List.replicate 9 (0, 0, 0, 0, 0)
def spoil (g : Hd) (a : Nat) : Hd := match a with
  | 0 => { g with m := 4 }
  | 1 => { g with k := g.k ++ [(0, 0, 0, 0, 0)] }
  | 2 => { g with R := 65 }
  | 3 => { g with l := pre18 ++ g.l }
  | 4 => { g with x := [] }
  | 5 => { g with n := 65536 }
  | _ => { g with b := 1048577 }
def Hd.tup (g : Hd) : Int × (List Int) × (List Int) × Int × (List Op5) × Int × (List Op5) × Int × Int := (g.m, g.x, g.t, g.R, g.l, g.Q, g.k, g.n, g.b)
theorem spoilt_loop : loopN D_law33_spoilt_L0 BIG (0, []) = some (List.replicate 9 (7, 0, 0, 0, 1)) := by kernel_rfl
theorem law33_spoilt (g : Hd) (a : Nat) (ha : a < 7) (hl : g.l.length ≤ 4000) (hk : g.k.length ≤ 4000) : D_law33_spoilt g.m g.x g.t g.R g.l g.Q g.k g.n g.b (a : Int) = some (spoil g a).tup := by
  unfold D_law33_spoilt
  simp only [cond_dec, spoilt_loop, Option.bind_some]
  have : a = 0 ∨ a = 1 ∨ a = 2 ∨ a = 3 ∨ a = 4 ∨ a = 5 ∨ a = 6 := by omega
  rcases this with rfl | rfl | rfl | rfl | rfl | rfl | rfl
  · rfl
  · rw [if_neg (by simp), if_pos (by simp), gd_fits (by omega) (by omega), gd_fits (by simp; omega) (by omega)]; rfl
  · rfl
  · rw [if_neg (by simp), if_neg (by simp), if_neg (by simp), if_pos (by simp), gd_fits (by simp) (by omega), gd_fits (by simp; omega) (by omega)]; rfl
  · rfl
  · rfl
  · rfl
structure Sp (g : Hd) (f : Nat → Prop) : Prop where
  e0 : f 0 → g.m = 4
  n0 : ¬f 0 → hk0 g.m = 0
  l0 : formB g.l = true
  e1 : f 1 → scan g.k 0 = none
  n1 : ¬f 1 → formB g.k = true ∧ lk2 g.k = 0 ∧ lk3 g.k = 0
  r1 : regsB g.Q g.k = true
  e2 : f 2 → g.R = 65
  n2 : ¬f 2 → regsB g.R g.l = true
  e3 : f 3 → 9 ≤ hmax g.l 0 0
  n3 : ¬f 3 → lk2 g.l = 0 ∧ lk3 g.l = 0
  e4 : f 4 → g.x.length = 0
  n4 : ¬f 4 → ¬f 2 → dimsF g.R g.Q g.x.length g.t.length = 0
  e5 : f 5 → g.n = 65536
  n5 : ¬f 5 → ¬f 0 → hk3 g.m g.n = 0
  e6 : f 6 → g.b = 1048577
  n6 : ¬f 6 → hk4 g.b = 0
theorem formB_scan {l : List Op5} (h : formB l = true) : scan l 0 = some 0 := by
  unfold formB at h
  rw [Bool.and_eq_true] at h
  exact of_decide_eq_true h.1
theorem regsB_app (R : Int) (a b : List Op5) (h : regsB R b = true) (ha : a.any (offB R) = false) : regsB R (a ++ b) = true := by
  unfold regsB at h ⊢
  rw [List.any_append, ha, Bool.false_or]
  exact h
theorem regsB_app' (R : Int) (a b : List Op5) (h : regsB R a = true) (hb : b.any (offB R) = false) : regsB R (a ++ b) = true := by
  unfold regsB at h ⊢
  rw [List.any_append, hb, Bool.or_false]
  exact h
theorem form_pre {l : List Op5} (h : formB l = true) : formB (pre18 ++ l) = true := by
  unfold formB at h ⊢
  have e : scan (pre18 ++ l) 0 = scan l 0 := by
    rw [scan_app]
    have : scan pre18 0 = some 0 := by kernel_rfl
    rw [this]; rfl
  have e2 : pre18.any (fun o => !rightB o) = false := by kernel_rfl
  rw [e, List.any_append, e2, Bool.false_or]
  exact h
theorem deep_pre (l : List Op5) : 9 ≤ hmax (pre18 ++ l) 0 0 := by
  obtain ⟨D, h⟩ := hmax_app pre18 l 0 0
  rw [h]
  have : hmax pre18 0 0 = 9 := by kernel_rfl
  rw [this]
  exact le_hmax _ _ _
theorem off0 (R v : Int) : offB R (0, 0, 0, 0, v) = false := by
  unfold offB; rfl
theorem off7 (R v : Int) : offB R (7, 0, 0, 0, v) = false := by
  unfold offB; rfl
theorem any_pre (R : Int) : pre18.any (offB R) = false := by
  rw [List.any_eq_false]
  intro o ho
  unfold pre18 at ho
  rcases List.mem_append.1 ho with h | h
  · rw [List.eq_of_mem_replicate h, off7]; simp
  · rw [List.eq_of_mem_replicate h, off0]; simp
theorem sp_step {g : Hd} {f : Nat → Prop} (h : Sp g f) (a : Nat) (ha : a < 7) : Sp (spoil g a) (fun i => f i ∨ i = a) := by
  have hn : ∀ {i : Nat}, ¬(f i ∨ i = a) → ¬f i := fun h c => h (.inl c)
  have he : ∀ {i : Nat}, i ≠ a → f i ∨ i = a → f i := fun h c => c.elim id fun e => (h e).elim
  have : a = 0 ∨ a = 1 ∨ a = 2 ∨ a = 3 ∨ a = 4 ∨ a = 5 ∨ a = 6 := by omega
  rcases this with rfl | rfl | rfl | rfl | rfl | rfl | rfl
  · exact ⟨fun _ => rfl, fun c => (c (.inr rfl)).elim, h.l0, fun c => h.e1 (he (by omega) c), fun c => h.n1 (hn c), h.r1, fun c => h.e2 (he (by omega) c), fun c => h.n2 (hn c), fun c => h.e3 (he (by omega) c), fun c => h.n3 (hn c), fun c => h.e4 (he (by omega) c), fun c d => h.n4 (hn c) (hn d), fun c => h.e5 (he (by omega) c), fun _ d => (d (.inr rfl)).elim, fun c => h.e6 (he (by omega) c), fun c => h.n6 (hn c)⟩
  · refine ⟨fun c => h.e0 (he (by omega) c), fun c => h.n0 (hn c), h.l0, fun _ => ?_, fun c => (c (.inr rfl)).elim, regsB_app' _ _ _ h.r1 (by simp [off0]), fun c => h.e2 (he (by omega) c), fun c => h.n2 (hn c), fun c => h.e3 (he (by omega) c), fun c => h.n3 (hn c), fun c => h.e4 (he (by omega) c), fun c d => h.n4 (hn c) (hn d), fun c => h.e5 (he (by omega) c), fun c d => h.n5 (hn c) (hn d), fun c => h.e6 (he (by omega) c), fun c => h.n6 (hn c)⟩
    show scan (g.k ++ [(0, 0, 0, 0, 0)]) 0 = none
    rw [scan_app]
    by_cases c : f 1
    · rw [h.e1 c]; rfl
    · rw [formB_scan (h.n1 c).1]; rfl
  · exact ⟨fun c => h.e0 (he (by omega) c), fun c => h.n0 (hn c), h.l0, fun c => h.e1 (he (by omega) c), fun c => h.n1 (hn c), h.r1, fun _ => rfl, fun c => (c (.inr rfl)).elim, fun c => h.e3 (he (by omega) c), fun c => h.n3 (hn c), fun c => h.e4 (he (by omega) c), fun c d => (d (.inr rfl)).elim, fun c => h.e5 (he (by omega) c), fun c d => h.n5 (hn c) (hn d), fun c => h.e6 (he (by omega) c), fun c => h.n6 (hn c)⟩
  · exact ⟨fun c => h.e0 (he (by omega) c), fun c => h.n0 (hn c), form_pre h.l0, fun c => h.e1 (he (by omega) c), fun c => h.n1 (hn c), h.r1, fun c => h.e2 (he (by omega) c), fun c => regsB_app _ _ _ (h.n2 (hn c)) (any_pre _), fun _ => deep_pre _, fun c => (c (.inr rfl)).elim, fun c => h.e4 (he (by omega) c), fun c d => h.n4 (hn c) (hn d), fun c => h.e5 (he (by omega) c), fun c d => h.n5 (hn c) (hn d), fun c => h.e6 (he (by omega) c), fun c => h.n6 (hn c)⟩
  · exact ⟨fun c => h.e0 (he (by omega) c), fun c => h.n0 (hn c), h.l0, fun c => h.e1 (he (by omega) c), fun c => h.n1 (hn c), h.r1, fun c => h.e2 (he (by omega) c), fun c => h.n2 (hn c), fun c => h.e3 (he (by omega) c), fun c => h.n3 (hn c), fun _ => rfl, fun c => (c (.inr rfl)).elim, fun c => h.e5 (he (by omega) c), fun c d => h.n5 (hn c) (hn d), fun c => h.e6 (he (by omega) c), fun c => h.n6 (hn c)⟩
  · exact ⟨fun c => h.e0 (he (by omega) c), fun c => h.n0 (hn c), h.l0, fun c => h.e1 (he (by omega) c), fun c => h.n1 (hn c), h.r1, fun c => h.e2 (he (by omega) c), fun c => h.n2 (hn c), fun c => h.e3 (he (by omega) c), fun c => h.n3 (hn c), fun c => h.e4 (he (by omega) c), fun c d => h.n4 (hn c) (hn d), fun _ => rfl, fun c => (c (.inr rfl)).elim, fun c => h.e6 (he (by omega) c), fun c => h.n6 (hn c)⟩
  · exact ⟨fun c => h.e0 (he (by omega) c), fun c => h.n0 (hn c), h.l0, fun c => h.e1 (he (by omega) c), fun c => h.n1 (hn c), h.r1, fun c => h.e2 (he (by omega) c), fun c => h.n2 (hn c), fun c => h.e3 (he (by omega) c), fun c => h.n3 (hn c), fun c => h.e4 (he (by omega) c), fun c d => h.n4 (hn c) (hn d), fun c => h.e5 (he (by omega) c), fun c d => h.n5 (hn c) (hn d), fun _ => rfl, fun c => (c (.inr rfl)).elim⟩
def want7 (j : Nat) : Int := List.getD [5, 6, 7, 8, 10, 11, 12] j 0
theorem sp_says {g : Hd} {f : Nat → Prop} (h : Sp g f) (j : Nat) (hj : j < 7) (hb : ∀ i, i < j → ¬f i) (hf : f j) : g.chk = want7 j := by
  unfold Hd.chk hchk
  have hl0 : lk0 g.l = 0 := by unfold lk0; rw [h.l0]; rfl
  have : j = 0 ∨ 0 < j := by omega
  rcases this with rfl | j0
  · rw [h.e0 hf]; rfl
  rw [h.n0 (hb 0 j0), if_neg (by simp)]
  have hk1 : lk1 g.Q g.k = 0 := by unfold lk1; rw [h.r1]; rfl
  have : j = 1 ∨ 1 < j := by omega
  rcases this with rfl | j1
  · have e : pair10 g.R g.l g.Q g.k = 6 := by
      unfold pair10
      have : lk0 g.k = 6 := by unfold lk0 formB; rw [h.e1 hf]; rfl
      rw [hl0, this]; rfl
    rw [e]; rfl
  obtain ⟨n1a, n1b, n1c⟩ := h.n1 (hb 1 j1)
  have hk0' : lk0 g.k = 0 := by unfold lk0; rw [n1a]; rfl
  have : j = 2 ∨ 2 < j := by omega
  rcases this with rfl | j2
  · have e : pair10 g.R g.l g.Q g.k = 7 := by
      unfold pair10
      have : lk1 g.R g.l = 7 := by unfold lk1 regsB; rw [h.e2 hf]; rfl
      rw [hl0, hk0', this]; rfl
    rw [e]; rfl
  have hl1 : lk1 g.R g.l = 0 := by unfold lk1; rw [h.n2 (hb 2 j2)]; rfl
  have : j = 3 ∨ 3 < j := by omega
  rcases this with rfl | j3
  · have e : pair10 g.R g.l g.Q g.k = 8 := by
      unfold pair10
      have : lk2 g.l = 8 := by
        have := h.e3 hf
        unfold lk2 deepI
        rw [if_pos (formB_scan h.l0)]
        simp only
        rw [if_pos (by omega)]
      rw [hl0, hk0', hl1, hk1, this]; rfl
    rw [e]; rfl
  obtain ⟨n3a, n3b⟩ := h.n3 (hb 3 j3)
  have e : pair10 g.R g.l g.Q g.k = 0 := by
    unfold pair10
    rw [hl0, hk0', hl1, hk1, n3a, n1b, n3b, n1c]; rfl
  rw [e, if_neg (by simp)]
  have : j = 4 ∨ 4 < j := by omega
  rcases this with rfl | j4
  · have : dimsF g.R g.Q g.x.length g.t.length = 10 := by
      unfold dimsF
      rw [h.e4 hf, if_pos (by simp)]
    rw [this]; rfl
  rw [h.n4 (hb 4 j4) (hb 2 j2), if_neg (by simp)]
  have : j = 5 ∨ 5 < j := by omega
  rcases this with rfl | j5
  · have : hk3 g.m g.n = 11 := by
      unfold hk3
      rw [h.e5 hf, if_neg (by omega), if_pos (by split <;> omega)]
    rw [this]; rfl
  rw [h.n5 (hb 5 j5) (hb 0 j0), if_neg (by simp)]
  have : j = 6 := by omega
  subst this
  rw [h.e6 hf]; rfl
theorem sp_first {g : Hd} (hc : g.chk = 0) : Sp g (fun _ => False) := by
  obtain ⟨p0, p1, p2, p3, p4⟩ := hchk_parts hc
  obtain ⟨f4, f6⟩ := pair_form p1
  unfold pair10 at p1
  split at p1
  · rename_i c; exact (c p1).elim
  split at p1
  · rename_i c; exact (c p1).elim
  split at p1
  · rename_i c; exact (c p1).elim
  split at p1
  · rename_i c; exact (c p1).elim
  split at p1
  · rename_i c; exact (c p1).elim
  split at p1
  · rename_i c; exact (c p1).elim
  split at p1
  · rename_i c; exact (c p1).elim
  rename_i c1 c2 c3 c4 c5 c6 c7
  have rg : ∀ (R : Int) (l : List Op5), ¬lk1 R l ≠ 0 → regsB R l = true := by
    intro R l h
    cases hb : regsB R l with
    | true => rfl
    | false => unfold lk1 at h; rw [hb] at h; simp at h
  exact ⟨fun c => c.elim, fun _ => p0, f4, fun c => c.elim, fun _ => ⟨f6, by omega, p1⟩, rg _ _ c4, fun c => c.elim, fun _ => rg _ _ c3, fun c => c.elim, fun _ => ⟨by omega, by omega⟩, fun c => c.elim, fun _ _ => p2, fun c => c.elim, fun _ _ => p3, fun c => c.elim, fun _ => p4⟩
theorem spoil_ok {g : Hd} (h4 : OpsOk g.l) (h6 : OpsOk g.k) (n : Nat) (l4 : g.l.length ≤ n) (l6 : g.k.length ≤ n) (hn : n + 18 ≤ 4000) (a : Nat) : OpsOk (spoil g a).l ∧ OpsOk (spoil g a).k ∧ (spoil g a).l.length ≤ n + 18 ∧ (spoil g a).k.length ≤ n + 18 ∧ (spoil g a).x.length ≤ g.x.length ∧ (spoil g a).t.length = g.t.length := by
  have p18 : pre18.length = 18 := by kernel_rfl
  have pv : ∀ o ∈ pre18, 0 ≤ o.2.2.2.2 ∧ o.2.2.2.2 ≤ 18446744073709551615 := by
    intro o ho
    unfold pre18 at ho
    rcases List.mem_append.1 ho with h | h
    · rw [List.eq_of_mem_replicate h]; simp
    · rw [List.eq_of_mem_replicate h]; simp
  unfold spoil
  split
  · exact ⟨h4, h6, by simp only; omega, by simp only; omega, Nat.le_refl _, rfl⟩
  · refine ⟨h4, ⟨by simp; omega, ?_⟩, by simp only; omega, by simp; omega, Nat.le_refl _, rfl⟩
    intro o ho
    rcases List.mem_append.1 ho with h | h
    · exact h6.v o h
    · simp at h; subst h; simp
  · exact ⟨h4, h6, by simp only; omega, by simp only; omega, Nat.le_refl _, rfl⟩
  · refine ⟨⟨by simp [p18]; omega, ?_⟩, h6, by simp [p18]; omega, by simp only; omega, Nat.le_refl _, rfl⟩
    intro o ho
    rcases List.mem_append.1 ho with h | h
    · exact pv o h
    · exact h4.v o h
  · exact ⟨h4, h6, by simp only; omega, by simp only; omega, Nat.zero_le _, rfl⟩
  · exact ⟨h4, h6, by simp only; omega, by simp only; omega, Nat.le_refl _, rfl⟩
  · exact ⟨h4, h6, by simp only; omega, by simp only; omega, Nat.le_refl _, rfl⟩
theorem law33_order (a0 : Int) (a1 a2 : List Int) (a3 : Int) (a4 : List Op5) (a5 : Int) (a6 : List Op5) (a7 a8 : Int) (a9 a10 : Int) (f0 : Fine (.int .i64) a0) (f1 : Fine wordsS a1) (f2 : Fine wordsS a2) (f3 : Fine (.int .i64) a3) (f4 : Fine opsS a4) (f5 : Fine (.int .i64) a5) (f6 : Fine opsS a6) (f7 : Fine (.int .i64) a7) (f8 : Fine (.int .i64) a8) (f9 : Fine (.int .u8) a9) (f10 : Fine (.int .u8) a10) : D_law33_HeaderOrder a0 a1 a2 a3 a4 a5 a6 a7 a8 a9 a10 = some true := by
  unfold D_law33_HeaderOrder
  obtain ⟨b, hb, hs⟩ := small_says (a0 := a0) (a1 := a1) (a2 := a2) (a3 := a3) (a4 := a4) (a5 := a5) (a6 := a6) (a7 := a7) (a8 := a8)
  rw [hb, goes33]
  simp only [Option.bind_some]
  cases b with
  | false => rfl
  | true =>
    obtain ⟨h4, h6, l1, l2⟩ := hs rfl
    simp only [Bool.not_true, cond_false]
    have o4 := ops_ok f4 (by omega)
    have o6 := ops_ok f6 (by omega)
    rw [header_Check o4 o6]
    simp only [Option.bind_some, cond_dec]
    by_cases hc : hchk a0 a1.length a2.length a3 a4 a5 a6 a7 a8 = 0
    · rw [if_neg (by simp [hc])]
      simp only [Option.bind_some, cond_dec]
      by_cases hm : a0 = 2
      · rw [if_pos hm]
      rw [if_neg hm]
      have u8 : ∀ z : Int, Fine (.int .u8) z → ∃ k : Nat, k < 7 ∧ IntKind.i64.wrap (Int.tmod z 7) = (k : Int) := by
        intro z hz
        have hz : 0 ≤ z ∧ z ≤ 255 := hz
        rw [tmod_nn hz.1, wrap64 (by omega)]
        exact ⟨(z % 7).toNat, by omega, by omega⟩
      obtain ⟨x, hx, ex⟩ := u8 a9 f9
      obtain ⟨y, hy, ey⟩ := u8 a10 f10
      rw [ex, ey]
      have s1 : D_law33_spoilt a0 a1 a2 a3 a4 a5 a6 a7 a8 (x : Int) = some (spoil ⟨a0, a1, a2, a3, a4, a5, a6, a7, a8⟩ x).tup := law33_spoilt ⟨a0, a1, a2, a3, a4, a5, a6, a7, a8⟩ x hx (by simp only; omega) (by simp only; omega)
      rw [s1]
      have sp0 : Sp ⟨a0, a1, a2, a3, a4, a5, a6, a7, a8⟩ (fun _ => False) := sp_first hc
      have sp1 := sp_step sp0 x hx
      obtain ⟨q1, q2, q3, q4, q5, q6⟩ := spoil_ok (g := ⟨a0, a1, a2, a3, a4, a5, a6, a7, a8⟩) o4 o6 100 (by simp only; omega) (by simp only; omega) (by omega) x
      generalize spoil ⟨a0, a1, a2, a3, a4, a5, a6, a7, a8⟩ x = g at sp1 q1 q2 q3 q4 q5 q6 ⊢
      simp only [Option.bind_some, Hd.tup]
      rw [law33_spoilt g y hy (by omega) (by omega)]
      have sp2 := sp_step sp1 y hy
      obtain ⟨r1, r2, r3, r4, r5, r6⟩ := spoil_ok q1 q2 118 (by omega) (by omega) (by omega) y
      generalize spoil g y = g2 at sp2 r1 r2 r3 r4 r5 r6 ⊢
      simp only [Option.bind_some, Hd.tup]
      simp only at q5 q6
      rw [header_Encode r1 r2 (by omega) (by omega)]
      have hw : hchk g2.m g2.x.length g2.t.length g2.R g2.l g2.Q g2.k g2.n g2.b = want7 (min x y) := sp_says sp2 (min x y) (by omega) (by
        intro i hi h
        rcases h with (h | h) | h
        · exact h
        · omega
        · omega) (by
        by_cases c : x ≤ y
        · rw [Nat.min_eq_left c]; exact .inl (.inr rfl)
        · rw [Nat.min_eq_right (by omega)]; exact .inr rfl)
      rw [hw]
      have hne : want7 (min x y) ≠ 0 := by
        have : ∀ j, j < 7 → want7 j ≠ 0 := by decide
        exact this _ (by omega)
      rw [if_pos hne]
      simp only [Option.bind_some]
      rw [if_neg hne, if_neg (by simp)]
      rw [show min (x : Int) (y : Int) = ((min x y : Nat) : Int) by omega, ix_in (by omega)]
      simp only [Option.bind_some]
      rw [if_pos (show want7 (min x y) = List.getD [5, 6, 7, 8, 10, 11, 12] (min x y) 0 from rfl)]
    · rw [if_pos hc]
      rfl
end Go.V
