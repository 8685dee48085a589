/- Headers of words, in plain Lean. -/
import Derived.Test.YtojdfmmgihefkaaL33f
namespace Go.V
set_option linter.unusedVariables false
set_option linter.unusedSimpArgs false
open Go.Ab
set_option linter.unusedVariables false
set_option linter.unusedSimpArgs false
/-! ### Operations of words -/
theorem R7_ok {w : List Int} (hu : U64s w) (hw : w ≠ []) (he : (R7 w).2.2.2.2.2.2 = 0) : ∃ n : Nat, (R7 w).2.2.2.2.2.1 = (n : Int) ∧ 1 ≤ n ∧ n ≤ w.length ∧ 0 ≤ (R7 w).2.2.2.2.1 ∧ (R7 w).2.2.2.2.1 ≤ 18446744073709551615 := by
  cases w with
  | nil => exact (hw rfl).elim
  | cons k t =>
    simp only [R7] at he ⊢
    have d1 : (k :: t).drop 1 = t := rfl
    by_cases c : 7 < k
    · rw [if_pos c] at he; cases he
    rw [if_neg c] at he ⊢
    cases h1 : takeF (opAsks k).1 t with
    | none => rw [h1] at he; cases he
    | some p1 =>
      obtain ⟨x1, t1⟩ := p1
      obtain ⟨d2, _, n2⟩ := takeF_drop d1 h1
      simp only [h1] at he ⊢
      cases h2 : takeF (opAsks k).2.1 t1 with
      | none => rw [h2] at he; cases he
      | some p2 =>
        obtain ⟨x2, t2⟩ := p2
        obtain ⟨d3, _, n3⟩ := takeF_drop d2 h2
        simp only [h2] at he ⊢
        cases h3 : takeF (opAsks k).2.2.1 t2 with
        | none => rw [h3] at he; cases he
        | some p3 =>
          obtain ⟨x3, t3⟩ := p3
          obtain ⟨d4, _, n4⟩ := takeF_drop d3 h3
          simp only [h3] at he ⊢
          cases h4 : takeF (opAsks k).2.2.2 t3 with
          | none => rw [h4] at he; cases he
          | some p4 =>
            obtain ⟨x4, t4⟩ := p4
            obtain ⟨d5, m4, n5⟩ := takeF_drop d4 h4
            simp only [h4]
            refine ⟨_, rfl, by omega, n5 (n4 (n3 (n2 (by simp)))), ?_⟩
            rcases m4 with rfl | m4
            · omega
            · exact hu x4 m4
def U : Nat → List Int → List Op5 → Option (List Op5)
  | 0, _, _ => none
  | f + 1, w, acc => if w.length = 0 then some acc else if (R7 w).2.2.2.2.2.2 ≠ 0 then none else U f (w.drop (R7 w).2.2.2.2.2.1.toNat) (acc ++ [((R7 w).1, (R7 w).2.1, (R7 w).2.2.1, (R7 w).2.2.2.1, (R7 w).2.2.2.2.1)])
def unpF (w : List Int) : Option (List Op5) := U (w.length + 1) w []
def unpI (w : List Int) : Int × List Op5 := match unpF w with
  | some l => (0, l)
  | none => (6, [])
theorem U64s.drop {w : List Int} (h : U64s w) (n : Nat) : U64s (w.drop n) := fun x hx => h x (List.mem_of_mem_drop hx)
theorem U64s.take {w : List Int} (h : U64s w) (n : Nat) : U64s (w.take n) := fun x hx => h x (List.mem_of_mem_take hx)
theorem U_ok : ∀ (f : Nat) (w : List Int) (acc l : List Op5), U64s w → U f w acc = some l → (∀ o ∈ acc, 0 ≤ o.2.2.2.2 ∧ o.2.2.2.2 ≤ 18446744073709551615) → l.length ≤ acc.length + w.length ∧ ∀ o ∈ l, 0 ≤ o.2.2.2.2 ∧ o.2.2.2.2 ≤ 18446744073709551615
  | 0, w, acc, l, _, h, _ => by cases h
  | f + 1, w, acc, l, hu, h, ha => by
    simp only [U] at h
    split at h
    · injection h with h
      subst h
      exact ⟨by omega, ha⟩
    · rename_i hw
      split at h
      · cases h
      · rename_i he
        obtain ⟨n, h1, h2, h3, h4⟩ := R7_ok hu (fun e => hw (by rw [e]; rfl)) (by omega)
        rw [h1] at h
        obtain ⟨g1, g2⟩ := U_ok f _ _ l (hu.drop _) h (fun o ho => by
          rcases List.mem_append.1 ho with ho | ho
          · exact ha o ho
          · simp at ho
            subst ho
            exact h4)
        refine ⟨?_, g2⟩
        rw [List.length_append, List.length_drop] at g1
        simp at g1
        omega
theorem unp_ok {w : List Int} (hu : U64s w) (hl : w.length ≤ 4000) : OpsOk (unpI w).2 := by
  unfold unpI unpF
  cases h : U (w.length + 1) w [] with
  | none => exact ⟨by simp, fun o ho => by simp at ho⟩
  | some l =>
    obtain ⟨h1, h2⟩ := U_ok _ _ _ _ hu h (fun o ho => by simp at ho)
    exact ⟨by simp at h1 ⊢; omega, h2⟩
theorem cutL_end {w : List Int} {n : Nat} : cutL w (n : Int) (w.length : Int) = w.drop n := by
  unfold cutL
  rw [show ((w.length : Int)).toNat = w.length by omega, show ((n : Int)).toNat = n by omega, List.take_length]
theorem header_Unpack {a0 : List Int} (hu : U64s a0) (hl : a0.length ≤ 100000) : D_header_Unpack a0 = some (unpI a0) := by
  unfold D_header_Unpack unpI
  obtain ⟨c, hc, h⟩ := loop_inv (f := D_header_Unpack_L0) (a := (a0, true, ([] : List Op5))) (fun s => ∃ w acc f, s = (w, true, acc) ∧ w.length < f ∧ U f w acc = unpF a0 ∧ U64s w ∧ acc.length + w.length ≤ a0.length) (fun s => s.1.length)
    (fun c => (c.1 = false ∧ unpF a0 = none) ∨ (c.1 = true ∧ unpF a0 = some c.2)) ⟨a0, [], a0.length + 1, rfl, by omega, rfl, hu, by simp⟩ (by simp; omega) (by
    rintro _ ⟨w, acc, f, rfl, hf, hU, hw, hlen⟩
    cases f with
    | zero => omega
    | succ f =>
    simp only [U] at hU
    simp only [D_header_Unpack_L0, cond_dec]
    by_cases c0 : w.length = 0
    · rw [if_pos c0] at hU
      rw [if_neg (by omega)]
      exact .inr ⟨_, rfl, .inr ⟨rfl, hU.symm⟩⟩
    · rw [if_neg c0] at hU
      rw [if_pos (by omega), opcode_Read hw (by omega)]
      simp only [Option.bind_some]
      by_cases c1 : (R7 w).2.2.2.2.2.2 ≠ 0
      · rw [if_pos c1] at hU
        rw [if_pos c1]
        exact .inr ⟨_, rfl, .inl ⟨rfl, hU.symm⟩⟩
      · rw [if_neg c1] at hU
        rw [if_neg c1]
        obtain ⟨n, h1, h2, h3, h4⟩ := R7_ok hw (fun e => c0 (by rw [e]; rfl)) (by omega)
        rw [h1] at hU ⊢
        have hU : U f (w.drop n) _ = _ := hU
        rw [gd_fits (by omega) (by omega), cutG_in (by omega), gd_true, cutL_end]
        refine .inl ⟨_, rfl, ⟨_, _, f, rfl, by rw [List.length_drop]; omega, hU, hw.drop n, by rw [List.length_append, List.length_drop]; simp; omega⟩, by simp; omega⟩)
  rw [hc]
  simp only [Option.bind_some]
  rcases h with ⟨h1, h2⟩ | ⟨h1, h2⟩
  · rw [h1, h2]
    rfl
  · rw [h1, h2]
    rfl
theorem ref33_Unpack {a0 : List Int} (hu : U64s a0) (hl : a0.length ≤ 100000) : D_ref33_Unpack a0 = some (unpI a0) := by
  unfold D_ref33_Unpack unpI
  obtain ⟨c, hc, h⟩ := loop_inv (f := D_ref33_Unpack_L0 a0) (a := ((0 : Int), ([] : List Op5))) (fun s => ∃ (i : Nat) (acc : List Op5) (f : Nat), s = ((i : Int), acc) ∧ i ≤ a0.length ∧ (a0.drop i).length < f ∧ U f (a0.drop i) acc = unpF a0 ∧ acc.length ≤ i) (fun s => a0.length - s.1.toNat)
    (fun c => (c = .inl () ∧ unpF a0 = none) ∨ ∃ l, c = .inr l ∧ unpF a0 = some l) ⟨0, [], a0.length + 1, rfl, by omega, by simp, rfl, by simp⟩ (by simp; omega) (by
    rintro _ ⟨i, acc, f, rfl, hi, hf, hU, hlen⟩
    cases f with
    | zero => omega
    | succ f =>
    simp only [U] at hU
    simp only [D_ref33_Unpack_L0, cond_dec]
    have hw := hu.drop i
    by_cases c0 : (a0.drop i).length = 0
    · rw [if_pos c0] at hU
      rw [List.length_drop] at c0
      rw [if_neg (by omega)]
      exact .inr ⟨_, rfl, .inr ⟨_, rfl, hU.symm⟩⟩
    · rw [if_neg c0] at hU
      have c0' := c0
      rw [List.length_drop] at c0' hf
      rw [if_pos (by omega), cutG_in (by omega), gd_true, cutL_end, ref07_Read hw (by rw [List.length_drop]; omega)]
      simp only [Option.bind_some]
      by_cases c1 : (R7 (a0.drop i)).2.2.2.2.2.2 ≠ 0
      · rw [if_pos c1] at hU
        rw [if_pos c1]
        exact .inr ⟨_, rfl, .inl ⟨rfl, hU.symm⟩⟩
      · rw [if_neg c1] at hU
        rw [if_neg c1]
        obtain ⟨n, h1, h2, h3, h4⟩ := R7_ok hw (fun e => c0 (by rw [e]; rfl)) (by omega)
        rw [List.length_drop] at h3
        rw [h1] at hU ⊢
        have hU : U f ((a0.drop i).drop n) _ = _ := hU
        rw [List.drop_drop] at hU
        rw [gd_fits (by omega) (by omega), wrap64 (n := (i : Int) + (n : Int)) (by omega)]
        refine .inl ⟨_, rfl, ⟨i + n, _, f, by rw [show ((i + n : Nat) : Int) = (i : Int) + (n : Int) by omega], by omega, by rw [List.length_drop]; omega, hU, by rw [List.length_append]; simp; omega⟩, by simp; omega⟩)
  rw [hc]
  simp only [Option.bind_some]
  rcases h with ⟨rfl, h2⟩ | ⟨l, rfl, h2⟩
  · rw [h2]
    rfl
  · rw [h2]
    rfl
theorem u64s_of {w : List Int} (f : Fine wordsS w) : U64s w := fun x hx => f.2 x hx
theorem law33_packs (a0 : List Op5) (a1 : List Int) (f0 : Fine opsS a0) (f1 : Fine wordsS a1) : D_law33_HeaderPacks a0 a1 = some true := by
  unfold D_law33_HeaderPacks
  simp only [cond_dec, goes33, Option.bind_some]
  by_cases c1 : 200 < (a0.length : Int)
  · rw [if_pos c1]
    rfl
  rw [if_neg c1]
  simp only [Option.bind_some]
  rw [cond_dec]
  by_cases c2 : 1000 < (a1.length : Int)
  · rw [if_pos c2]
  rw [if_neg c2]
  have hu := u64s_of f1
  have hk := pack_len a0
  have ho := (unp_ok hu (by omega)).len
  rw [header_Pack (by omega), ref33_Pack (by omega), header_Unpack hu (by omega), ref33_Unpack hu (by omega)]
  simp only [Option.bind_some]
  rw [ints_same (by omega), ops_same (by omega)]
  simp
/-! ### Lists of words -/
def S : Nat → List Int → List (List Int) → Option (List (List Int) × List Int)
  | 0, w, acc => some (acc, w)
  | r + 1, [], acc => none
  | r + 1, x :: t, acc => if (t.length : Int) < x then none else S r (t.drop x.toNat) (acc ++ [t.take x.toNat])
def splF (w : List Int) : Option (List (List Int) × List Int) := S 4 w []
theorem words_loop : ∀ (r N : Nat) (w : List Int) (out : List (List Int)), out.length + r = 4 → U64s w → w.length ≤ 100000 →
    (∃ p, S r w out = some p ∧ loopN (D_words_Split_L0 4) (N + r + 1) (w, out) = some (0, p.2, p.1)) ∨ (S r w out = none ∧ ∃ w' o', loopN (D_words_Split_L0 4) (N + r + 1) (w, out) = some (4, w', o'))
  | 0, N, w, out, ho, hu, hl => by
    left
    refine ⟨_, rfl, ?_⟩
    rw [loopN_succ]
    unfold D_words_Split_L0
    simp only
    rw [cond_dec, if_neg (by omega)]
    rfl
  | r + 1, N, [], out, ho, hu, hl => by
    right
    refine ⟨rfl, [], out, ?_⟩
    rw [loopN_succ]
    unfold D_words_Split_L0
    simp only
    rw [cond_dec, if_pos (by omega), cond_dec, if_pos (by simp)]
    rfl
  | r + 1, N, x :: t, out, ho, hu, hl => by
    have hx := hu x (by simp)
    have hrd : rd (x :: t) 0 = some x := rd_get (l := x :: t) (i := 0) (by simp)
    simp only [S]
    simp only [List.length_cons] at hl
    have hc : IntKind.u64.wrap (IntKind.i64.wrap (((t.length + 1 : Nat) : Int) - 1)) = (t.length : Int) := by
      rw [show (((t.length + 1 : Nat) : Int)) - 1 = (t.length : Int) by omega, wrap64 (n := (t.length : Int)) (by omega), wrapU_nat (by omega)]
    have e : D_words_Split_L0 4 (x :: t, out) = cond (decide ((out.length : Int) < 4)) (cond (decide (((t.length + 1 : Nat) : Int) = 0)) (some (.inr (4, x :: t, out))) ((rd (x :: t) 0).bind fun x6 => cond (decide (IntKind.u64.wrap (IntKind.i64.wrap (((t.length + 1 : Nat) : Int) - 1)) < x6)) (some (.inr (4, x :: t, out))) ((rd (x :: t) 0).bind fun x7 =>
        gd (cutG 1 (IntKind.i64.wrap (IntKind.i64.wrap x7 + 1)) (t.length + 1)) ((D_slices_Clone_uint64_uint64 (cutL (x :: t) 1 (IntKind.i64.wrap (IntKind.i64.wrap x7 + 1)))).bind fun r8 =>
        gd (fits (out.length + 1) 24) (gd (cutG (IntKind.i64.wrap (IntKind.i64.wrap x7 + 1)) ((t.length + 1 : Nat) : Int) (t.length + 1)) (some (.inl (cutL (x :: t) (IntKind.i64.wrap (IntKind.i64.wrap x7 + 1)) ((t.length + 1 : Nat) : Int), out ++ [r8])))))))) (some (.inr (0, x :: t, out))) := rfl
    rw [hrd, decide_eq_true (show (out.length : Int) < 4 by omega), cond_true, decide_eq_false (show ¬((t.length + 1 : Nat) : Int) = 0 by omega), cond_false] at e
    simp only [Option.bind_some] at e
    by_cases c : (t.length : Int) < x
    · right
      rw [if_pos c]
      refine ⟨rfl, x :: t, out, ?_⟩
      rw [decide_eq_true (show IntKind.u64.wrap (IntKind.i64.wrap (((t.length + 1 : Nat) : Int) - 1)) < x by rw [hc]; exact c), cond_true] at e
      rw [loopN_succ, e]
      rfl
    · rw [if_neg c]
      have ih := words_loop r N (t.drop x.toNat) (out ++ [t.take x.toNat]) (by simp; omega) (fun y hy => hu y (by simp [List.mem_of_mem_drop hy])) (by rw [List.length_drop]; omega)
      have e1 : cutL (x :: t) 1 (x + 1) = t.take x.toNat := by
        unfold cutL
        rw [show (x + 1).toNat = x.toNat + 1 by omega, show (1 : Int).toNat = 1 from rfl]
        rfl
      have e2 : cutL (x :: t) (x + 1) ((t.length + 1 : Nat) : Int) = t.drop x.toNat := by
        unfold cutL
        rw [show (((t.length + 1 : Nat) : Int)).toNat = (x :: t).length by simp, List.take_length, show (x + 1).toNat = x.toNat + 1 by omega]
        rfl
      rw [decide_eq_false (show ¬IntKind.u64.wrap (IntKind.i64.wrap (((t.length + 1 : Nat) : Int) - 1)) < x by rw [hc]; exact c), cond_false, wrap64 (n := x) (by omega), wrap64 (n := x + 1) (by omega), cutG_in (by omega), gd_true, e1] at e
      unfold D_slices_Clone_uint64_uint64 at e
      rw [gd_fits (by rw [List.length_take]; omega) (by omega)] at e
      simp only [Option.bind_some] at e
      rw [gd_fits (by omega) (by omega), cutG_in (by omega), gd_true, e2] at e
      rw [show N + (r + 1) + 1 = (N + r + 1) + 1 by omega, loopN_succ, e]
      simp only [Option.bind_some, caseS]
      exact ih
theorem words_Split {w : List Int} (hu : U64s w) (hl : w.length ≤ 100000) : D_words_Split w 4 = some (match splF w with
    | some (l, rest) => (0, l, rest)
    | none => (4, [], [])) := by
  unfold D_words_Split splF
  rw [cond_dec, if_neg (by omega)]
  obtain ⟨N, hN⟩ : ∃ N, BIG = N + 4 + 1 := ⟨18446744073709551611, rfl⟩
  rcases words_loop 4 N w [] rfl hu hl with ⟨p, h1, h2⟩ | ⟨h1, w', o', h2⟩
  · rw [hN, h2, h1]
    simp only [Option.bind_some]
    rw [decide_eq_false (by simp), cond_false]
    unfold D_slices_Clone_uint64_uint64
    have hp : p.2.length ≤ w.length := by
      have : ∀ (r : Nat) (w : List Int) (acc : List (List Int)) (q : List (List Int) × List Int), S r w acc = some q → q.2.length ≤ w.length := by
        intro r
        induction r with
        | zero => intro w acc q h; injection h with h; subst h; exact Nat.le_refl _
        | succ r ih =>
          intro w acc q h
          cases w with
          | nil => cases h
          | cons x t =>
            simp only [S] at h
            split at h
            · cases h
            · have := ih _ _ _ h
              rw [List.length_drop] at this
              simp
              omega
      exact this _ _ _ _ h1
    rw [gd_fits (by omega) (by omega)]
    rfl
  · rw [hN, h2, h1]
    rfl
theorem ref05_List {a0 : List Int} (hu : U64s a0) (hl : a0.length ≤ 100000) {n : Nat} {x : Int} {t : List Int} (h : a0.drop n = x :: t) (hx : x ≤ (t.length : Int)) : D_ref05_List a0 (n : Int) 0 (a0.length : Int) = some (a0, ((n + 1 + x.toNat : Nat) : Int), 0, t.take x.toNat) := by
  obtain ⟨g1, g2, g3, g4⟩ := drop_cons h
  have hx0 := (hu x g4).1
  have htl : t.length = a0.length - (n + 1) := by rw [← g3, List.length_drop]
  unfold D_ref05_List D_ref05_Int D_ref05_Word
  rw [decide_eq_false (show ¬(0 : Int) ≠ 0 by simp), cond_false, decide_eq_false (show ¬(a0.length : Int) ≤ (n : Int) by omega), cond_false, wrap64 (n := (n : Int) + 1) (by omega), wrap64 (n := (n : Int) + 1 - 1) (by omega), show (n : Int) + 1 - 1 = (n : Int) by omega, g2]
  simp only [Option.bind_some]
  rw [decide_eq_false (show ¬(0 : Int) ≠ 0 by simp), cond_false, decide_eq_false (show ¬(a0.length : Int) < 0 by omega), cond_false, wrapU_nat (by omega), decide_eq_false (show ¬(a0.length : Int) < x by omega), cond_false]
  simp only [Option.bind_some]
  rw [decide_eq_false (show ¬(0 : Int) ≠ 0 by simp), cond_false, wrap64 (n := (a0.length : Int) - ((n : Int) + 1)) (by omega), wrap64 (n := x) (by omega), decide_eq_false (show ¬(a0.length : Int) - ((n : Int) + 1) < x by omega), cond_false]
  have hlx : (t.take x.toNat).length = x.toNat := by rw [List.length_take]; omega
  have key : loopN (D_ref05_List_L0 a0 (x, a0, (n : Int) + 1, 0)) BIG (0, []) = some ([] ++ t.take x.toNat) := by
    refine copy_loop (l := t.take x.toNat) [] (by omega) (fun j hj => ?_) ?_
    · unfold D_ref05_List_L0
      simp only
      have hjt : j < t.length := by omega
      have hget : rd a0 ((n : Int) + 1 + (j : Int)) = some t[j] := by
        rw [show (n : Int) + 1 + (j : Int) = ((n + 1 + j : Nat) : Int) by omega, rd_get (show n + 1 + j < a0.length by omega)]
        congr 1
        have : (a0.drop (n + 1))[j]? = t[j]? := by rw [g3]
        rw [List.getElem?_drop, List.getElem?_eq_getElem (show n + 1 + j < a0.length by omega), List.getElem?_eq_getElem hjt] at this
        injection this
      rw [cond_dec, if_pos (by omega), wrap64 (n := (n : Int) + 1 + (j : Int)) (by omega), hget]
      simp only [Option.bind_some]
      rw [gd_fits (by simp; omega) (by omega), wrap64 (n := (j : Int) + 1) (by omega), List.getElem_take]
      rfl
    · unfold D_ref05_List_L0
      simp only
      rw [cond_dec, if_neg (by omega)]
  rw [key]
  simp only [Option.bind_some, List.nil_append]
  rw [wrap64 (n := (n : Int) + 1 + x) (by omega), show ((n + 1 + x.toNat : Nat) : Int) = (n : Int) + 1 + x by omega]
theorem ref_loop {a0 : List Int} (hu : U64s a0) (hl : a0.length ≤ 100000) : ∀ (r N n : Nat) (w : List Int) (out : List (List Int)), out.length + r = 4 → a0.drop n = w → n ≤ a0.length →
    (∃ p, ∃ m : Nat, S r w out = some p ∧ loopN (D_ref05_Split_L0 a0 4) (N + r + 1) (a0, (n : Int), 0, out) = some (.inr (a0, (m : Int), 0, p.1)) ∧ p.2 = a0.drop m ∧ m ≤ a0.length) ∨ (S r w out = none ∧ ∃ c, loopN (D_ref05_Split_L0 a0 4) (N + r + 1) (a0, (n : Int), 0, out) = some (.inl c))
  | 0, N, n, w, out, ho, hw, hn => by
    left
    refine ⟨_, n, rfl, ?_, hw.symm, hn⟩
    rw [loopN_succ]
    unfold D_ref05_Split_L0
    simp only
    rw [cond_dec, if_neg (by omega)]
    rfl
  | r + 1, N, n, [], out, ho, hw, hn => by
    right
    have := drop_nil hw
    refine ⟨rfl, (a0, (n : Int), 0), ?_⟩
    rw [loopN_succ]
    unfold D_ref05_Split_L0
    simp only
    rw [cond_dec, if_pos (by omega), cond_dec, if_pos (by omega)]
    rfl
  | r + 1, N, n, x :: t, out, ho, hw, hn => by
    obtain ⟨g1, g2, g3, g4⟩ := drop_cons hw
    have hx := hu x g4
    have htl : t.length = a0.length - (n + 1) := by rw [← g3, List.length_drop]
    have hc : IntKind.u64.wrap (IntKind.i64.wrap (IntKind.i64.wrap ((a0.length : Int) - (n : Int)) - 1)) = (t.length : Int) := by
      have e1 : (a0.length : Int) - (n : Int) - 1 = (t.length : Int) := by omega
      rw [wrap64 (n := (a0.length : Int) - (n : Int)) (by omega), wrap64 (n := (a0.length : Int) - (n : Int) - 1) (by omega), e1, wrapU_nat (by omega)]
    have e : D_ref05_Split_L0 a0 4 (a0, (n : Int), 0, out) = cond (decide ((out.length : Int) < 4)) (cond (decide ((a0.length : Int) ≤ (n : Int))) (some (.inr (.inl (a0, (n : Int), 0)))) ((rd a0 (n : Int)).bind fun x7 => cond (decide (IntKind.u64.wrap (IntKind.i64.wrap (IntKind.i64.wrap ((a0.length : Int) - (n : Int)) - 1)) < x7)) (some (.inr (.inl (a0, (n : Int), 0))))
        ((D_ref05_List a0 (n : Int) 0 (a0.length : Int)).bind fun r8 => gd (fits (out.length + 1) 24) (some (.inl (r8.1, r8.2.1, r8.2.2.1, out ++ [r8.2.2.2])))))) (some (.inr (.inr (a0, (n : Int), 0, out)))) := rfl
    rw [decide_eq_true (show (out.length : Int) < 4 by omega), cond_true, decide_eq_false (show ¬(a0.length : Int) ≤ (n : Int) by omega), cond_false, g2] at e
    simp only [Option.bind_some] at e
    simp only [S]
    by_cases c : (t.length : Int) < x
    · right
      rw [if_pos c]
      rw [decide_eq_true (show IntKind.u64.wrap (IntKind.i64.wrap (IntKind.i64.wrap ((a0.length : Int) - (n : Int)) - 1)) < x by rw [hc]; exact c), cond_true] at e
      refine ⟨rfl, (a0, (n : Int), 0), ?_⟩
      rw [loopN_succ, e]
      rfl
    · rw [if_neg c]
      have hd : a0.drop (n + 1 + x.toNat) = t.drop x.toNat := by rw [← g3, List.drop_drop]
      have ih := ref_loop hu hl r N (n + 1 + x.toNat) (t.drop x.toNat) (out ++ [t.take x.toNat]) (by simp; omega) hd (by omega)
      rw [decide_eq_false (show ¬IntKind.u64.wrap (IntKind.i64.wrap (IntKind.i64.wrap ((a0.length : Int) - (n : Int)) - 1)) < x by rw [hc]; exact c), cond_false, ref05_List hu hl hw (by omega)] at e
      simp only [Option.bind_some] at e
      rw [gd_fits (by omega) (by omega)] at e
      rw [show N + (r + 1) + 1 = (N + r + 1) + 1 by omega, loopN_succ, e]
      simp only [Option.bind_some, caseS]
      exact ih
theorem ref05_Split {w : List Int} (hu : U64s w) (hl : w.length ≤ 100000) : D_ref05_Split w 4 = some (match splF w with
    | some (l, rest) => (rest, 0, l)
    | none => ([], 4, [])) := by
  unfold D_ref05_Split splF
  rw [cond_dec, if_neg (by omega)]
  obtain ⟨N, hN⟩ : ∃ N, BIG = N + 4 + 1 := ⟨18446744073709551611, rfl⟩
  rcases ref_loop hu hl 4 N 0 w [] rfl rfl (Nat.zero_le _) with ⟨p, m, h1, h2, h3, h4⟩ | ⟨h1, c, h2⟩
  · have h2 : loopN (D_ref05_Split_L0 w 4) (N + 4 + 1) (w, 0, 0, []) = _ := h2
    rw [hN, h2, h1]
    simp only [Option.bind_some, caseS]
    rw [cutG_in (by omega), gd_true, cutL_end, h3]
  · have h2 : loopN (D_ref05_Split_L0 w 4) (N + 4 + 1) (w, 0, 0, []) = _ := h2
    rw [hN, h2, h1]
    rfl
theorem splF_some {w : List Int} (hu : U64s w) {l : List (List Int)} {rest : List Int} (h : splF w = some (l, rest)) : ∃ x0 x1 x2 x3, l = [x0, x1, x2, x3] ∧ (U64s x0 ∧ x0.length ≤ w.length) ∧ (U64s x1 ∧ x1.length ≤ w.length) ∧ (U64s x2 ∧ x2.length ≤ w.length) ∧ (U64s x3 ∧ x3.length ≤ w.length) ∧ rest.length ≤ w.length := by
  have step : ∀ (r : Nat) (w : List Int) (acc : List (List Int)) (q : List (List Int) × List Int), U64s w → S (r + 1) w acc = some q → ∃ y w', S r w' (acc ++ [y]) = some q ∧ (U64s y ∧ y.length ≤ w.length) ∧ U64s w' ∧ w'.length ≤ w.length := by
    intro r w acc q hu h
    cases w with
    | nil => cases h
    | cons x t =>
      simp only [S] at h
      split at h
      · cases h
      · refine ⟨_, _, h, ⟨fun y hy => hu y (by simp [List.mem_of_mem_take hy]), ?_⟩, fun y hy => hu y (by simp [List.mem_of_mem_drop hy]), ?_⟩
        · rw [List.length_take]; simp; omega
        · rw [List.length_drop]; simp; omega
  obtain ⟨x0, w1, h1, p0, u1, l1⟩ := step 3 w [] _ hu h
  obtain ⟨x1, w2, h2, p1, u2, l2⟩ := step 2 w1 _ _ u1 h1
  obtain ⟨x2, w3, h3, p2, u3, l3⟩ := step 1 w2 _ _ u2 h2
  obtain ⟨x3, w4, h4, p3, u4, l4⟩ := step 0 w3 _ _ u3 h3
  injection h4 with h4
  injection h4 with h5 h6
  exact ⟨x0, x1, x2, x3, h5.symm, p0, ⟨p1.1, by omega⟩, ⟨p2.1, by omega⟩, ⟨p3.1, by omega⟩, by rw [← h6]; omega⟩
end Go.V
