/- The arena: the laws as plain Lean. -/
import Derived.Test.YtppoeoleehiemaaD18
import Derived.Test.YtppoeoleehiemaaV24
import Derived.KernelRfl
namespace Go.V
set_option linter.unusedVariables false
set_option linter.unusedSimpArgs false
open Go.Ab
set_option linter.unusedVariables false
set_option linter.unusedSimpArgs false

theorem goes18 : D_law18_goes = some true := by kernel_rfl
theorem law18_nil (a0 a1 : Int) (h0 : -9223372036854775808 ≤ a0 ∧ a0 ≤ 9223372036854775807) (h1 : -9223372036854775808 ≤ a1 ∧ a1 ≤ 9223372036854775807) : D_law18_ArenaNil a0 a1 = some true := by
  show D_law18_goes.bind _ = _
  rw [goes18]
  rfl

theorem ref05_Same (a b : List Int) (ha : a.length ≤ 1000000) (hb : b.length ≤ 1000000) : D_ref05_Same a b = some (decide (a = b)) := by
  unfold D_ref05_Same
  simp only [cond_dec]
  by_cases c1 : ((a.length : Nat) : Int) ≠ ((b.length : Nat) : Int)
  · rw [if_pos c1, decide_eq_false]
    intro e
    subst e
    exact c1 rfl
  · rw [if_neg c1]
    have hn : a.length = b.length := by omega
    by_cases e : a = b
    · subst e
      rw [loop_nat0 (n := a.length) (c := .inr ()) (by omega) ?_ ?_]
      · simp [caseS]
      · intro i hi
        simp only [D_ref05_Same_L0, cond_dec]
        rw [if_pos (by omega), rd_get hi]
        simp only [Option.bind_some]
        rw [if_neg (by simp), wrap64 (by omega)]
        rfl
      · simp only [D_ref05_Same_L0, cond_dec]
        rw [if_neg (by omega)]
    · -- the first place where they part
      have hex : ∃ i, ∃ h : i < a.length, a[i] ≠ b[i] ∧ ∀ j (h : j < i), a[j] = b[j] := by
        obtain ⟨i, hi, hne⟩ : ∃ i, ∃ h : i < a.length, a[i] ≠ b[i] := by
          apply Classical.byContradiction
          intro hno
          exact e (List.ext_getElem hn fun i h1 h2 => Classical.byContradiction fun h => hno ⟨i, h1, h⟩)
        induction i using Nat.strongRecOn with
        | ind i ih =>
          by_cases hj : ∃ j, ∃ h : j < i, a[j] ≠ b[j]
          · obtain ⟨j, h1, h2⟩ := hj
            exact ih j h1 (by omega) h2
          · exact ⟨i, hi, hne, fun j h => Classical.byContradiction fun h2 => hj ⟨j, h, h2⟩⟩
      obtain ⟨i, hi, hne, hall⟩ := hex
      rw [loop_nat0 (n := i) (c := .inl false) (by omega) ?_ ?_]
      · simp [caseS, e]
      · intro j hj
        simp only [D_ref05_Same_L0, cond_dec]
        rw [if_pos (by omega), rd_get (show j < a.length by omega), rd_get (show j < b.length by omega)]
        simp only [Option.bind_some]
        rw [if_neg (by simpa using hall j hj), wrap64 (by omega)]
        rfl
      · simp only [D_ref05_Same_L0, cond_dec]
        rw [if_pos (by omega), rd_get hi, rd_get (show i < b.length by omega)]
        simp only [Option.bind_some]
        rw [if_pos hne]

theorem arena_right (a : Int) : D_arena_right a = some (if a < 1 then 2 else if 1048576 < a then 12 else 0) := by
  unfold D_arena_right
  simp only [cond_dec]
  split
  · rfl
  split <;> rfl
theorem ref18_right (a : Int) : D_ref18_Right a = some (if a < 1 then 2 else if 1048576 < a then 12 else 0) := by
  unfold D_ref18_Right
  simp only [cond_dec]
  split
  · rfl
  split <;> rfl
theorem arena_New_in {a : Int} (h : 1 ≤ a ∧ a ≤ 1048576) : D_arena_New a = some (.inr (List.replicate a.toNat 0)) := by
  unfold D_arena_New
  rw [arena_right, if_neg (by omega), if_neg (by omega)]
  simp only [Option.bind_some, cond_dec]
  rw [if_neg (by omega), decide_eq_true (show 0 ≤ a by omega), decide_eq_true (show a ≤ a by omega), decide_eq_true (show 8 * a ≤ 140737488355328 by omega)]
  rfl
theorem arena_From_in {w : List Int} (h : 1 ≤ w.length ∧ w.length ≤ 1048576) : D_arena_From w = some (.inr w) := by
  unfold D_arena_From
  rw [arena_right, if_neg (by omega), if_neg (by omega)]
  simp only [Option.bind_some, cond_dec]
  unfold D_slices_Clone_uint64_uint64
  rw [if_neg (by omega), gd_fits (by omega) (by omega)]
  rfl
theorem arena_Image (g : Int) {w : List Int} (h : w.length ≤ 1048576) : D_arena_Arena_Image g w = some w := by
  unfold D_arena_Arena_Image D_slices_Clone_uint64_uint64
  rw [gd_fits (by omega) (by omega)]
  rfl

theorem tail18 {L : Int × List Int → Option ((Int × List Int) ⊕ (List Int))} (hL : ∀ s, L s = D_law18_ArenaMakes_L1 s) (a1 : List Int) :
      ((((cond (decide (((((List.length a1) : Nat) : Int)) < 1))
        (some true)
        (some (decide (200 < ((((List.length a1) : Nat) : Int)))))) : Option (Bool))).bind fun s14 =>
      cond (s14)
        ((D_law18_goes).bind fun r15 =>
        some r15)
        (gd (fits (0 + List.length a1) 8) ((D_arena_From ((([] : List Int) ++ a1))).bind fun r16 =>
        caseS r16 (fun u17 =>
          cond (decide (u17 ≠ 0))
            (some false)
            (some false))
          (fun w18 =>
          (loopN L BIG ((0, (([] : List Int) ++ a1)))).bind fun r26 =>
          (D_arena_Arena_Image 0 w18).bind fun r27 =>
          (D_ref05_Same r27 a1).bind fun r28 =>
          cond (!r28)
            (some false)
            ((ix 0 ((List.length r27))).bind fun j29 =>
            (r27[j29]?).bind fun x30 =>
            (ix 0 ((List.length r27))).bind fun j31 =>
            (r27[j31]?).bind fun x32 =>
            (D_arena_Arena_Image 0 w18).bind fun r33 =>
            (D_ref05_Same r33 a1).bind fun r34 =>
            cond (r34)
              ((D_law18_goes).bind fun r35 =>
              some r35)
              (some false)))))) = some true := by
  simp only [cond_dec]
  by_cases c1 : ((a1.length : Nat) : Int) < 1
  · rw [if_pos c1, goes18]; rfl
  rw [if_neg c1]
  by_cases c2 : 200 < ((a1.length : Nat) : Int)
  · rw [decide_eq_true c2, goes18]; rfl
  rw [decide_eq_false c2]
  simp only [Option.bind_some, cond_false]
  rw [gd_fits (by omega) (by omega), List.nil_append, arena_From_in (by omega)]
  simp only [Option.bind_some, caseS_r]
  obtain ⟨c, hc, _⟩ := loop_inv (f := L) (a := ((0 : Int), a1)) (fun s => ∃ i : Nat, i ≤ a1.length ∧ s.1 = i ∧ s.2.length = a1.length) (fun s => a1.length - s.1.toNat) (fun _ => True) ⟨0, Nat.zero_le _, rfl, rfl⟩ (by simp; omega) (by
    rintro ⟨_, l⟩ ⟨i, hi, rfl, hl⟩
    simp only at hl
    rw [hL]
    simp only [D_law18_ArenaMakes_L1, cond_dec, hl]
    by_cases h : i < a1.length
    · refine .inl ⟨(((i + 1 : Nat) : Int), l.set i (IntKind.u64.wrap (l[i] + 1))), ?_, ⟨i + 1, h, rfl, ?_⟩, ?_⟩
      · rw [if_pos (by omega), ix_in h]
        simp only [Option.bind_some]
        rw [List.getElem?_eq_getElem (by omega)]
        simp only [Option.bind_some]
        rw [wrap64 (by omega)]
        rfl
      · simp [hl]
      · simp; omega
    · exact .inr ⟨l, by rw [if_neg (by omega)], trivial⟩)
  rw [hc]
  simp only [Option.bind_some]
  rw [arena_Image 0 (by omega)]
  simp only [Option.bind_some]
  rw [ref05_Same _ _ (by omega) (by omega)]
  simp only [Option.bind_some, decide_true, Bool.not_true, cond_false, cond_true]
  rw [show ix 0 a1.length = some 0 from ix_in (k := 0) (by omega)]
  simp only [Option.bind_some]
  rw [List.getElem?_eq_getElem (by omega), goes18]
  rfl

theorem law18_makes (a0 : Int) (a1 : List Int) (h0 : -9223372036854775808 ≤ a0 ∧ a0 ≤ 9223372036854775807) (hl : ∀ n ∈ a1, 0 ≤ n ∧ n ≤ 18446744073709551615) (hlen : a1.length ≤ 9223372036854775807) : D_law18_ArenaMakes a0 a1 = some true := by
  unfold D_law18_ArenaMakes
  have hr := ref18_right a0
  by_cases c : 1 ≤ a0 ∧ a0 ≤ 1048576
  · rw [arena_New_in c]
    simp only [Option.bind_some, caseS_r]
    have key : ∀ {x : Option (Bool ⊕ Unit)} {g : Bool → Option Bool} {h : Unit → Option Bool}, x = some (.inr ()) → h () = some true → (x.bind fun s => caseS s g h) = some true := by
      intro x g h e1 e2
      rw [e1]; exact e2
    refine key ?_ (tail18 (fun _ => rfl) a1)
    rw [hr, if_neg (by omega), if_neg (by omega)]
    simp only [Option.bind_some, cond_dec]
    rw [if_neg (by omega)]
    have hsz : D_arena_Arena_Size 0 (List.replicate a0.toNat 0) = some a0 := by
      unfold D_arena_Arena_Size
      rw [List.length_replicate]
      congr 1
      omega
    have hlf : D_arena_Arena_Left 0 (List.replicate a0.toNat 0) = some a0 := by
      unfold D_arena_Arena_Left
      rw [List.length_replicate, wrap64 (by omega)]
      congr 1
      omega
    rw [hsz, hlf]
    simp only [Option.bind_some, ne_eq, not_true_eq_false, if_false, decide_false, cond_false]
    by_cases c2 : a0 ≤ 2000
    · rw [if_pos c2, arena_Image 0 (by rw [List.length_replicate]; omega)]
      simp only [Option.bind_some]
      rw [loop_nat0 (n := a0.toNat) (c := .inr ()) (by omega) ?_ ?_]
      · rfl
      · intro i hi
        simp only [D_law18_ArenaMakes_L2, cond_dec]
        rw [if_pos (by omega), List.length_replicate, if_neg (by omega), ix_in hi]
        simp only [Option.bind_some]
        rw [List.getElem?_replicate, if_pos hi]
        simp only [Option.bind_some]
        rw [if_neg (by omega), wrap64 (by omega)]
        rfl
      · simp only [D_law18_ArenaMakes_L2, cond_dec]
        rw [if_neg (by omega)]
    · rw [if_neg c2]
  · have hN : ∃ r : Int, D_arena_New a0 = some (.inl r) ∧ D_ref18_Right a0 = some r ∧ r ≠ 0 := by
      refine ⟨if a0 < 1 then 2 else 12, ?_, ?_, by split <;> omega⟩
      · unfold D_arena_New
        rw [arena_right]
        simp only [Option.bind_some, cond_dec]
        by_cases c1 : a0 < 1
        · rw [if_pos c1, if_pos c1, if_pos (by omega)]
        · rw [if_neg c1, if_pos (show 1048576 < a0 by omega), if_neg c1, if_pos (by omega)]
      · rw [hr]
        by_cases c1 : a0 < 1
        · rw [if_pos c1, if_pos c1]
        · rw [if_neg c1, if_pos (show 1048576 < a0 by omega), if_neg c1]
    obtain ⟨r, e1, e2, e3⟩ := hN
    rw [e1, e2]
    simp only [Option.bind_some, caseS_l, cond_dec]
    rw [if_pos e3, if_neg (by simp)]
    simp only [Option.bind_some, caseS_r]
    have := tail18 (L := D_law18_ArenaMakes_L1) (fun _ => rfl) a1
    simp only [cond_dec] at this
    exact this

/-! ### Parts -/
def sz18 (a : List Int) (i : Nat) : Int := a.getD i 0 % 51
def S18 (a : List Int) : Nat → Int
  | 0 => 0
  | i + 1 => S18 a i + sz18 a i
theorem sz18_in (a : List Int) (i : Nat) : 0 ≤ sz18 a i ∧ sz18 a i ≤ 50 := by unfold sz18; omega
theorem S18_in (a : List Int) : ∀ i, 0 ≤ S18 a i ∧ S18 a i ≤ 50 * i
  | 0 => by constructor <;> exact Int.le_refl _
  | i + 1 => by
    have h1 := S18_in a i
    have h2 := sz18_in a i
    show 0 ≤ S18 a i + sz18 a i ∧ S18 a i + sz18 a i ≤ _
    omega
theorem S18_le (a : List Int) {i j : Nat} (h : i ≤ j) : S18 a i ≤ S18 a j := by
  induction j with
  | zero => have : i = 0 := by omega
            subst this; exact Int.le_refl _
  | succ j ih =>
    by_cases e : i = j + 1
    · subst e; exact Int.le_refl _
    · have := ih (by omega)
      have := sz18_in a j
      show S18 a i ≤ S18 a j + sz18 a j
      omega
theorem arena_Take_in {n g : Int} {w : List Int} (h : 0 ≤ n ∧ 0 ≤ g ∧ g + n ≤ w.length) (hw : w.length ≤ 1048576) : D_arena_Arena_Take n g w = some (g, 0, g + n) := by
  unfold D_arena_Arena_Take D_arena_Arena_Left
  simp only [Option.bind_some, cond_dec]
  rw [if_neg (by omega), wrap64 (by omega), if_neg (by omega), wrap64 (by omega)]
theorem arena_Write_in {b g : Int} {p w : List Int} (h : 0 ≤ b ∧ b + p.length ≤ g ∧ g ≤ w.length) (hw : w.length ≤ 1048576) : D_arena_Arena_Write b p g w = some (0, blit w b.toNat p.length p) := by
  unfold D_arena_Arena_Write
  simp only [cond_dec]
  rw [if_neg (by omega), if_neg (by omega), if_neg (by omega), wrap64 (by omega), if_neg (by omega), wrap64 (by omega), cutG_in (by omega), gd_true, show (b + (p.length : Int)).toNat - b.toNat = p.length by omega]
theorem apart_w (V : Int) (m : Nat) (hm : m < 1000) {L : Int × List Int → Option ((Int × List Int) ⊕ (List Int))} (hL : ∀ (i : Nat) (l : List Int) (h : i < l.length), l.length = m → L ((i : Int), l) = some (.inl (((i + 1 : Nat) : Int), l.set i V))) (he : ∀ l : List Int, l.length = m → L ((m : Int), l) = some (.inr l)) :
    loopN L BIG (0, List.replicate m 0) = some (List.replicate m V) := by
  have h := loop_nat (f := L) (n := m) (fun i => List.replicate i V ++ List.replicate (m - i) 0) (c := List.replicate m V) (by omega) ?_ ?_
  · simpa using h
  · intro i hi
    rw [hL i _ (by simp; omega) (by simp; omega)]
    obtain ⟨q, hq⟩ : ∃ q, m - i = q + 1 := ⟨m - i - 1, by omega⟩
    rw [hq, show m - (i + 1) = q by omega, List.set_append_right _ _ (by simp), List.length_replicate, Nat.sub_self, List.replicate_succ (n := q), List.set_cons_zero, List.replicate_succ' (n := i), List.append_assoc]
    rfl
  · simp only [Nat.sub_self, List.replicate_zero, List.append_nil]
    rw [he _ (by simp)]

theorem law18_apart (a0 : List Int) (a1 a2 : Int) (h1 : -9223372036854775808 ≤ a1 ∧ a1 ≤ 9223372036854775807) (h2 : 0 ≤ a2 ∧ a2 ≤ 18446744073709551615) (hl : ∀ n ∈ a0, 0 ≤ n ∧ n ≤ 255) (hlen : a0.length ≤ 9223372036854775807) : D_law18_ArenaApart a0 a1 a2 = some true := by
  unfold D_law18_ArenaApart
  simp only [cond_dec]
  by_cases c1 : ((a0.length : Nat) : Int) < 1
  · rw [if_pos c1, goes18]; rfl
  rw [if_neg c1]
  by_cases c2 : 20 < ((a0.length : Nat) : Int)
  · rw [decide_eq_true c2, goes18]; rfl
  rw [decide_eq_false c2]
  simp only [Option.bind_some, cond_false]
  rw [arena_New_in (by omega)]
  simp only [Option.bind_some, caseS_r]
  have hZ : (List.replicate (2000 : Int).toNat (0 : Int)).length = 2000 := by rw [List.length_replicate]; rfl
  have hZg : ∀ i : Nat, i < 2000 → (List.replicate (2000 : Int).toNat (0 : Int))[i]? = some 0 := by
    intro i hi
    rw [List.getElem?_replicate, if_pos (by omega)]
  generalize List.replicate (2000 : Int).toNat (0 : Int) = Z at *
  have hx : ∀ i (h : i < a0.length), Int.tmod (IntKind.i64.wrap a0[i]) 51 = sz18 a0 i := by
    intro i h
    have := hl _ (List.getElem_mem h)
    rw [wrap64 (by omega), tmod_nn this.1]
    unfold sz18
    rw [List.getD_eq_getElem?_getD, List.getElem?_eq_getElem h]
    rfl
  have hS := S18_in a0
  have hloop : loopN (D_law18_ArenaApart_L0 a0 Z) BIG (0, 0, 0, []) = some (.inr (S18 a0 a0.length, (List.range a0.length).map (S18 a0))) := by
    refine loop_nat (n := a0.length) (fun i => (S18 a0 i, S18 a0 i, (List.range i).map (S18 a0))) (by omega) ?_ ?_
    · intro i hi
      simp only [D_law18_ArenaApart_L0, cond_dec]
      have h3 := hS i
      have h4 := hS (i + 1)
      have h5 := sz18_in a0 i
      have h6 : S18 a0 (i + 1) = S18 a0 i + sz18 a0 i := rfl
      rw [if_pos (by omega), rd_get hi]
      simp only [Option.bind_some]
      rw [hx i hi, arena_Take_in (by omega) (by omega)]
      simp only [Option.bind_some]
      rw [if_neg (by omega), if_neg (by omega), gd_fits (by simp; omega) (by omega), wrap64 (by omega), wrap64 (by omega), ← h6, List.range_succ, List.map_append]
      rfl
    · simp only [D_law18_ArenaApart_L0, cond_dec]
      rw [if_neg (by omega)]
  rw [hloop]
  simp only [Option.bind_some, caseS_r]
  obtain ⟨k, hk, hke⟩ := spot (L := a0.length) (by omega) (by omega) h1
  rw [hke, decide_eq_true (show (a0.length : Int) ≠ 0 by omega), gd_true, gd_true, rd_get hk]
  simp only [Option.bind_some]
  rw [hx k hk]
  have h5 := sz18_in a0 k
  have hSk := hS k
  have hSn := hS a0.length
  have hSk1 : S18 a0 (k + 1) = S18 a0 k + sz18 a0 k := rfl
  have hle := S18_le a0 (show k + 1 ≤ a0.length by omega)
  rw [decide_eq_true h5.1, decide_eq_true (show sz18 a0 k ≤ sz18 a0 k by omega), decide_eq_true (show 8 * sz18 a0 k ≤ 140737488355328 by omega)]
  show gd true _ = _
  rw [gd_true]
  generalize hV : bitV .u64 (· ||| ·) a2 1 = V
  have hw : loopN (D_law18_ArenaApart_L1 a2) BIG (0, List.replicate (sz18 a0 k).toNat 0) = some (List.replicate (sz18 a0 k).toNat V) := by
    refine apart_w V _ (by omega) ?_ ?_
    · intro i l h hm
      simp only [D_law18_ArenaApart_L1, cond_dec]
      rw [if_pos (by omega), ix_in h]
      simp only [Option.bind_some]
      rw [List.getElem?_eq_getElem h]
      simp only [Option.bind_some]
      rw [hV, wrap64 (by omega)]
      rfl
    · intro l hm
      simp only [D_law18_ArenaApart_L1, cond_dec]
      rw [if_neg (by omega)]
  rw [hw]
  simp only [Option.bind_some, List.length_map, List.length_range]
  have hat : ((List.range a0.length).map (S18 a0))[k]? = some (S18 a0 k) := by
    rw [List.getElem?_map, List.getElem?_range hk]; rfl
  rw [ix_in hk]
  simp only [Option.bind_some]
  rw [hat]
  simp only [Option.bind_some]
  rw [arena_Write_in (by rw [List.length_replicate]; omega) (by omega), List.length_replicate]
  simp only [Option.bind_some]
  have hB : (blit Z (S18 a0 k).toNat (sz18 a0 k).toNat (List.replicate (sz18 a0 k).toNat V)).length = 2000 := by rw [blit_len (by omega), hZ]
  rw [if_neg (by omega), arena_Image _ (by omega)]
  simp only [Option.bind_some]
  have hg : ∀ i : Nat, i < 2000 → (blit Z (S18 a0 k).toNat (sz18 a0 k).toNat (List.replicate (sz18 a0 k).toNat V))[i]? = some (if S18 a0 k ≤ i ∧ (i : Int) < S18 a0 k + sz18 a0 k then V else 0) := by
    intro i hi
    rw [blit_get (by omega) (by simp)]
    by_cases h : S18 a0 k ≤ i ∧ (i : Int) < S18 a0 k + sz18 a0 k
    · rw [if_pos (by omega), if_pos h, List.getElem?_replicate, if_pos (by omega)]
    · rw [if_neg (by omega), if_neg h, hZg i hi]
  generalize blit Z (S18 a0 k).toNat (sz18 a0 k).toNat (List.replicate (sz18 a0 k).toNat V) = B at *
  have hend : loopN (D_law18_ArenaApart_L2 a0 a1 a2 (S18 a0 a0.length, List.map (S18 a0) (List.range a0.length)) (List.replicate (sz18 a0 k).toNat V) B) BIG 0 = some (.inr ()) := by
    refine loop_nat0 (n := 2000) (by omega) ?_ ?_
    · intro i hi
      simp only [D_law18_ArenaApart_L2, cond_dec, List.length_map, List.length_range, List.length_replicate]
      rw [hke, if_pos (by omega), ix_in hk]
      simp only [Option.bind_some]
      rw [hat]
      simp only [Option.bind_some, cond_dec]
      rw [ix_in (show i < B.length by omega), hV, wrap64 (n := (i : Int) + 1) (by omega), wrap64 (by omega)]
      by_cases h3 : S18 a0 k ≤ i
      · rw [if_pos h3]
        simp only [Option.bind_some, caseS_l]
        rw [hg i hi]
        by_cases h4 : (i : Int) < S18 a0 k + sz18 a0 k
        · rw [if_pos ⟨h3, h4⟩, decide_eq_true (show (i : Int) < S18 a0 k + ((sz18 a0 k).toNat : Int) by omega)]
          simp
        · rw [if_neg (fun h => h4 h.2), decide_eq_false (show ¬(i : Int) < S18 a0 k + ((sz18 a0 k).toNat : Int) by omega)]
          simp
      · rw [if_neg h3]
        simp only [Option.bind_some, caseS_r]
        rw [hg i hi, if_neg (fun h => h3 h.1)]
        simp
    · simp only [D_law18_ArenaApart_L2, cond_dec]
      rw [if_neg (by omega)]
  rw [hend]
  simp only [Option.bind_some, caseS_r]
  rw [if_pos (by omega), goes18]
  rfl
end Go.V
