/- The arena, played: the law as plain Lean. -/
import Derived.Test.YtppoeoleehiemaaD18b
import Derived.Test.YtppoeoleehiemaaV25
import Derived.KernelRfl
namespace Go.V
set_option linter.unusedVariables false
set_option linter.unusedSimpArgs false
open Go.Ab
set_option linter.unusedVariables false
set_option linter.unusedSimpArgs false

theorem goes18 : D_law18_goes = some true := by kernel_rfl
theorem ref05_Same (a b : List Int) (ha : a.length ≤ 1000000) (hb : b.length ≤ 1000000) : D_ref05_Same a b = some (decide (a = b)) := by
  unfold D_ref05_Same
  simp only [cond_dec]
  by_cases c1 : ((a.length : Nat) : Int) ≠ ((b.length : Nat) : Int)
  · rw [if_pos c1, decide_eq_false]
    intro e
    subst e
    exact c1 rfl
  · rw [if_neg c1]
    have hn : a.length = b.length := by omega
    by_cases e : a = b
    · subst e
      rw [loop_nat0 (n := a.length) (c := .inr ()) (by omega) ?_ ?_]
      · simp [caseS]
      · intro i hi
        simp only [D_ref05_Same_L0, cond_dec]
        rw [if_pos (by omega), rd_get hi]
        simp only [Option.bind_some]
        rw [if_neg (by simp), wrap64 (by omega)]
        rfl
      · simp only [D_ref05_Same_L0, cond_dec]
        rw [if_neg (by omega)]
    · -- the first place where they part
      have hex : ∃ i, ∃ h : i < a.length, a[i] ≠ b[i] ∧ ∀ j (h : j < i), a[j] = b[j] := by
        obtain ⟨i, hi, hne⟩ : ∃ i, ∃ h : i < a.length, a[i] ≠ b[i] := by
          apply Classical.byContradiction
          intro hno
          exact e (List.ext_getElem hn fun i h1 h2 => Classical.byContradiction fun h => hno ⟨i, h1, h⟩)
        induction i using Nat.strongRecOn with
        | ind i ih =>
          by_cases hj : ∃ j, ∃ h : j < i, a[j] ≠ b[j]
          · obtain ⟨j, h1, h2⟩ := hj
            exact ih j h1 (by omega) h2
          · exact ⟨i, hi, hne, fun j h => Classical.byContradiction fun h2 => hj ⟨j, h, h2⟩⟩
      obtain ⟨i, hi, hne, hall⟩ := hex
      rw [loop_nat0 (n := i) (c := .inl false) (by omega) ?_ ?_]
      · simp [caseS, e]
      · intro j hj
        simp only [D_ref05_Same_L0, cond_dec]
        rw [if_pos (by omega), rd_get (show j < a.length by omega), rd_get (show j < b.length by omega)]
        simp only [Option.bind_some]
        rw [if_neg (by simpa using hall j hj), wrap64 (by omega)]
        rfl
      · simp only [D_ref05_Same_L0, cond_dec]
        rw [if_pos (by omega), rd_get hi, rd_get (show i < b.length by omega)]
        simp only [Option.bind_some]
        rw [if_pos hne]

theorem arena_right (a : Int) : D_arena_right a = some (if a < 1 then 2 else if 1048576 < a then 12 else 0) := by
  unfold D_arena_right
  simp only [cond_dec]
  split
  · rfl
  split <;> rfl
theorem arena_From_in {w : List Int} (h : 1 ≤ w.length ∧ w.length ≤ 1048576) : D_arena_From w = some (.inr w) := by
  unfold D_arena_From
  rw [arena_right, if_neg (by omega), if_neg (by omega)]
  simp only [Option.bind_some, cond_dec]
  unfold D_slices_Clone_uint64_uint64
  rw [if_neg (by omega), gd_fits (by omega) (by omega)]
  rfl
theorem arena_Image (g : Int) {w : List Int} (h : w.length ≤ 1048576) : D_arena_Arena_Image g w = some w := by
  unfold D_arena_Arena_Image D_slices_Clone_uint64_uint64
  rw [gd_fits (by omega) (by omega)]
  rfl

theorem arena_Write_in {b g : Int} {p w : List Int} (h : 0 ≤ b ∧ b + p.length ≤ g ∧ g ≤ w.length) (hw : w.length ≤ 1048576) : D_arena_Arena_Write b p g w = some (0, blit w b.toNat p.length p) := by
  unfold D_arena_Arena_Write
  simp only [cond_dec]
  rw [if_neg (by omega), if_neg (by omega), if_neg (by omega), wrap64 (by omega), if_neg (by omega), wrap64 (by omega), cutG_in (by omega), gd_true, show (b + (p.length : Int)).toNat - b.toNat = p.length by omega]
theorem arena_Get_in {a g : Nat} {w : List Int} (h : a < g ∧ g ≤ w.length) (hw : w.length ≤ 1048576) : D_arena_Arena_Get a g w = some (w.getD a 0, 0) := by
  unfold D_arena_Arena_Get D_slices_Clone_uint64_uint64
  simp only [cond_dec]
  rw [if_neg (by omega), if_neg (by omega), wrap64 (by omega), if_neg (by omega), wrap64 (by omega), cutG_in (by omega), gd_true]
  rw [show ((a : Int) + 1).toNat - (a : Int).toNat = 1 by omega, Int.toNat_natCast, gd_fits (by rw [List.length_take]; omega) (by omega)]
  simp only [Option.bind_some]
  have hl : ((w.drop a).take 1).length = 1 := by rw [List.length_take, List.length_drop]; omega
  rw [hl, show ix 0 1 = some 0 from rfl]
  simp only [Option.bind_some]
  rw [List.getElem?_take_of_lt (by omega), List.getElem?_drop, Nat.add_zero, List.getD_eq_getElem?_getD, List.getElem?_eq_getElem (show a < w.length by omega)]
  rfl
theorem arena_Read_in {a n g : Nat} {w : List Int} (h : a + n ≤ g ∧ g ≤ w.length) (hw : w.length ≤ 1048576) : D_arena_Arena_Read a n g w = some (0, (w.drop a).take n) := by
  unfold D_arena_Arena_Read D_slices_Clone_uint64_uint64
  simp only [cond_dec]
  rw [if_neg (by omega), if_neg (by omega), if_neg (by omega), wrap64 (by omega), if_neg (by omega), wrap64 (by omega), cutG_in (by omega), gd_true]
  rw [show ((a : Int) + (n : Int)).toNat - (a : Int).toNat = n by omega, Int.toNat_natCast, gd_fits (by rw [List.length_take, List.length_drop]; omega) (by omega)]
  rfl


theorem ref18_From (w : List Int) (h : w.length ≤ 1048576) : D_ref18_From w = some w := by
  unfold D_ref18_From
  have hl : loopN (D_ref18_From_L0 w) BIG (0, []) = some w := by
    have h2 := loop_nat (f := D_ref18_From_L0 w) (n := w.length) (fun i => w.take i) (c := w) (by omega) ?_ ?_
    · exact h2
    · intro i hi
      simp only [D_ref18_From_L0, cond_dec]
      rw [if_pos (by omega), rd_get hi]
      simp only [Option.bind_some]
      rw [gd_fits (by rw [List.length_take]; omega) (by omega), wrap64 (by omega), List.take_succ_eq_append_getElem hi]
      rfl
    · simp only [D_ref18_From_L0, cond_dec]
      rw [if_neg (by omega), List.take_length]
  rw [hl]
  rfl
theorem ref18_Within (w : List Int) (g : Nat) (hg : g ≤ 1048576) (a n : Int) (ha : -9223372036854775808 ≤ a ∧ a ≤ 9223372036854775807) : D_ref18_Within w g a n = some (decide (0 ≤ a ∧ 0 ≤ n ∧ a ≤ g ∧ n ≤ g - a)) := by
  unfold D_ref18_Within
  simp only [cond_dec]
  by_cases h1 : 0 ≤ a
  · by_cases h2 : 0 ≤ n
    · by_cases h3 : a ≤ g
      · rw [if_pos h1, if_pos h2, if_pos h3, wrap64 (by omega)]
        simp [h1, h2, h3]
      · rw [if_pos h1, if_pos h2, if_neg h3]
        simp [h3]
    · rw [if_pos h1, if_neg h2]
      simp [h2]
  · rw [if_neg h1]
    simp [h1]
theorem ref18_Read_in {a n g : Nat} {w : List Int} (h : a + n ≤ g ∧ g ≤ w.length) (hw : w.length ≤ 1048576) : D_ref18_Read w g a n = some (0, (w.drop a).take n) := by
  unfold D_ref18_Read
  rw [ref18_Within w g (by omega) a n (by omega), decide_eq_true (by omega)]
  simp only [Option.bind_some, Bool.not_true, cond_false]
  have hl : loopN (D_ref18_Read_L0 w a n) BIG (0, []) = some ((w.drop a).take n) := by
    have h2 := loop_nat (f := D_ref18_Read_L0 w a n) (n := n) (fun i => (w.drop a).take i) (c := (w.drop a).take n) (by omega) ?_ ?_
    · exact h2
    · intro i hi
      have hlt : i < (w.drop a).length := by rw [List.length_drop]; omega
      simp only [D_ref18_Read_L0, cond_dec]
      rw [if_pos (by omega), wrap64 (n := (a : Int) + (i : Int)) (by omega), show (a : Int) + (i : Int) = ((a + i : Nat) : Int) by omega, rd_get (show a + i < w.length by omega)]
      simp only [Option.bind_some]
      rw [gd_fits (by rw [List.length_take]; omega) (by omega), wrap64 (by omega), List.take_succ_eq_append_getElem hlt, List.getElem_drop]
      rfl
    · simp only [D_ref18_Read_L0, cond_dec]
      rw [if_neg (by omega)]
  rw [hl]
  rfl
theorem ref18_Write_in {a g : Nat} {w p : List Int} (h : a + p.length ≤ g ∧ g ≤ w.length) (hw : w.length ≤ 1048576) : D_ref18_Write w g a p = some (blit w a p.length p, (g : Int), 0) := by
  unfold D_ref18_Write
  rw [ref18_Within w g (by omega) a p.length (by omega), decide_eq_true (by omega), ref18_From w hw]
  simp only [Option.bind_some, Bool.not_true, cond_false]
  have hl : loopN (D_ref18_Write_L0 a p) BIG (0, w) = some (blit w a p.length p) := by
    have h2 := loop_nat (f := D_ref18_Write_L0 a p) (n := p.length) (fun i => blit w a i p) (c := blit w a p.length p) (by omega) ?_ ?_
    · have e : blit w a 0 p = w := by
        apply List.ext_getElem?
        intro j
        rw [blit_get (by omega) (by omega), if_neg (by omega)]
      rw [e] at h2
      exact h2
    · intro i hi
      have hbl : (blit w a i p).length = w.length := blit_len (by omega)
      simp only [D_ref18_Write_L0, cond_dec]
      rw [if_pos (by omega), rd_get hi]
      simp only [Option.bind_some]
      rw [wrap64 (n := (a : Int) + (i : Int)) (by omega), show (a : Int) + (i : Int) = ((a + i : Nat) : Int) by omega, ix_in (by omega)]
      simp only [Option.bind_some]
      rw [List.getElem?_eq_getElem (show a + i < (blit w a i p).length by omega)]
      simp only [Option.bind_some]
      have e : (blit w a i p).set (a + i) p[i] = blit w a (i + 1) p := by
        apply List.ext_getElem?
        intro j
        rw [List.getElem?_set, blit_get (by omega) (by omega), blit_get (by omega) (by omega), hbl]
        by_cases c : a + i = j
        · subst c
          rw [if_pos rfl, if_pos (by omega), if_pos (by omega), show a + i - a = i by omega, List.getElem?_eq_getElem hi]
        · rw [if_neg c]
          by_cases c2 : a ≤ j ∧ j < a + i
          · rw [if_pos c2, if_pos (by omega)]
          · rw [if_neg c2, if_neg (by omega)]
      rw [e, wrap64 (by omega)]
      rfl
    · simp only [D_ref18_Write_L0, cond_dec]
      rw [if_neg (by omega)]
  rw [hl]
  rfl
/-- A call does in both the same. -/
theorem do18 {w : List Int} {g : Nat} (hg : g ≤ w.length) (hw : w.length ≤ 200) (kind at' n v : Int) (p : List Int) (ha : -9223372036854775808 ≤ at' ∧ at' ≤ 9223372036854775807) (hn : -9223372036854775808 ≤ n ∧ n ≤ 9223372036854775807) (hp : p.length ≤ 9223372036854775807) :
    ∃ (w' : List Int) (g' : Nat), g' ≤ w'.length ∧ w'.length = w.length ∧ D_law18_Do w g kind at' n v p g w = some (true, w', (g' : Int), (g' : Int), w') := by
  unfold D_law18_Do
  simp only [cond_dec]
  by_cases k0 : kind = 0
  · rw [if_pos k0]
    unfold D_arena_Arena_Take D_ref18_Take D_arena_Arena_Left
    simp only [Option.bind_some, cond_dec]
    rw [wrap64 (n := (w.length : Int) - (g : Int)) (by omega)]
    by_cases c1 : n < 0
    · rw [if_pos c1, if_pos c1]
      refine ⟨w, g, hg, rfl, ?_⟩
      simp only [Option.bind_some, if_true, decide_true]
    rw [if_neg c1, if_neg c1]
    by_cases c2 : (w.length : Int) - (g : Int) < n
    · rw [if_pos c2, if_pos c2]
      refine ⟨w, g, hg, rfl, ?_⟩
      simp only [Option.bind_some, if_true, decide_true]
    · rw [if_neg c2, if_neg c2, wrap64 (by omega)]
      refine ⟨w, g + n.toNat, by omega, rfl, ?_⟩
      simp only [Option.bind_some, if_true, decide_true]
      rw [show (g : Int) + n = ((g + n.toNat : Nat) : Int) by omega]
  rw [if_neg k0]
  by_cases k1 : kind = 1
  · rw [if_pos k1]
    refine ⟨w, g, hg, rfl, ?_⟩
    by_cases c : 0 ≤ at' ∧ at' + 1 ≤ g
    · obtain ⟨a, rfl⟩ := Int.eq_ofNat_of_zero_le c.1
      rw [arena_Get_in (by omega) (by omega)]
      have := ref18_Read_in (a := a) (n := 1) (g := g) (w := w) (by omega) (by omega)
      rw [show (1 : Int) = ((1 : Nat) : Int) from rfl, this]
      simp only [Option.bind_some]
      rw [if_neg (by simp), if_pos trivial]
      have hl : ((w.drop a).take 1).length = 1 := by rw [List.length_take, List.length_drop]; omega
      rw [hl, show ix 0 1 = some 0 from rfl]
      simp only [Option.bind_some]
      rw [List.getElem?_take_of_lt (by omega), List.getElem?_drop, Nat.add_zero, List.getElem?_eq_getElem (show a < w.length by omega)]
      simp only [Option.bind_some]
      rw [List.getD_eq_getElem?_getD, List.getElem?_eq_getElem (show a < w.length by omega)]
      simp
    · have h1 : D_arena_Arena_Get at' g w = some (0, 2) := by
        unfold D_arena_Arena_Get
        simp only [cond_dec]
        by_cases q1 : at' < 0
        · rw [if_pos q1]
        rw [if_neg q1]
        by_cases q2 : (g : Int) < at'
        · rw [if_pos q2]
        rw [if_neg q2, wrap64 (by omega), if_pos (by omega)]
      have h2 : D_ref18_Read w g at' 1 = some (2, []) := by
        unfold D_ref18_Read
        rw [ref18_Within w g (by omega) at' 1 ha, decide_eq_false (by omega)]
        rfl
      rw [h1, h2]
      simp
  rw [if_neg k1]
  by_cases k2 : kind = 2
  · rw [if_pos k2]
    by_cases c : 0 ≤ at' ∧ at' + 1 ≤ g
    · obtain ⟨a, rfl⟩ := Int.eq_ofNat_of_zero_le c.1
      have h1 := ref18_Write_in (a := a) (g := g) (w := w) (p := [v]) (by simp; omega) (by omega)
      have h2 : D_arena_Arena_Set a v g w = some (0, blit w a 1 [v]) := by
        unfold D_arena_Arena_Set
        simp only [cond_dec]
        rw [if_neg (by omega), if_neg (by omega), wrap64 (by omega), if_neg (by omega), wrap64 (by omega), cutG_in (by omega), gd_true, show ((a : Int) + 1).toNat - (a : Int).toNat = 1 by omega, Int.toNat_natCast]
      rw [h1, h2]
      simp only [Option.bind_some, decide_true]
      refine ⟨blit w a [v].length [v], g, ?_, ?_, rfl⟩
      · rw [blit_len (by simp; omega)]; exact hg
      · rw [blit_len (by simp; omega)]
    · have h1 : D_ref18_Write w g at' [v] = some (w, (g : Int), 2) := by
        unfold D_ref18_Write
        rw [ref18_Within w g (by omega) at' _ ha, decide_eq_false (by simp; omega)]
        rfl
      have h2 : D_arena_Arena_Set at' v g w = some (2, w) := by
        unfold D_arena_Arena_Set
        simp only [cond_dec]
        by_cases q1 : at' < 0
        · rw [if_pos q1]
        rw [if_neg q1]
        by_cases q2 : (g : Int) < at'
        · rw [if_pos q2]
        rw [if_neg q2, wrap64 (by omega), if_pos (by omega)]
      rw [h1, h2]
      exact ⟨w, g, hg, rfl, by simp⟩
  rw [if_neg k2]
  by_cases k3 : kind = 3
  · rw [if_pos k3]
    refine ⟨w, g, hg, rfl, ?_⟩
    by_cases c : 0 ≤ at' ∧ 0 ≤ n ∧ at' + n ≤ g
    · obtain ⟨a, rfl⟩ := Int.eq_ofNat_of_zero_le c.1
      obtain ⟨m, rfl⟩ := Int.eq_ofNat_of_zero_le c.2.1
      rw [arena_Read_in (by omega) (by omega), ref18_Read_in (by omega) (by omega)]
      simp only [Option.bind_some]
      rw [ref05_Same _ _ (by rw [List.length_take, List.length_drop]; omega) (by rw [List.length_take, List.length_drop]; omega)]
      simp
    · have h1 : D_arena_Arena_Read at' n g w = some (2, []) := by
        unfold D_arena_Arena_Read
        simp only [cond_dec]
        by_cases q1 : at' < 0
        · rw [if_pos q1]
        rw [if_neg q1]
        by_cases q3 : n < 0
        · rw [if_pos q3]
        rw [if_neg q3]
        by_cases q2 : (g : Int) < at'
        · rw [if_pos q2]
        rw [if_neg q2, wrap64 (by omega), if_pos (by omega)]
      have h2 : D_ref18_Read w g at' n = some (2, []) := by
        unfold D_ref18_Read
        rw [ref18_Within w g (by omega) at' n ha, decide_eq_false (by omega)]
        rfl
      rw [h1, h2]
      simp only [Option.bind_some]
      rw [ref05_Same _ _ (by simp) (by simp)]
      simp
  rw [if_neg k3]
  by_cases c : 0 ≤ at' ∧ at' + p.length ≤ g
  · obtain ⟨a, rfl⟩ := Int.eq_ofNat_of_zero_le c.1
    have h1 := ref18_Write_in (a := a) (g := g) (w := w) (p := p) (by omega) (by omega)
    have h2 := arena_Write_in (b := a) (g := g) (w := w) (p := p) (by omega) (by omega)
    rw [h1, h2]
    simp only [Option.bind_some, decide_true, Int.toNat_natCast]
    refine ⟨blit w a p.length p, g, ?_, ?_, rfl⟩
    · rw [blit_len (by omega)]; exact hg
    · rw [blit_len (by omega)]
  · have h1 : D_ref18_Write w g at' p = some (w, (g : Int), 2) := by
      unfold D_ref18_Write
      rw [ref18_Within w g (by omega) at' _ ha, decide_eq_false (by omega)]
      rfl
    have h2 : D_arena_Arena_Write at' p g w = some (2, w) := by
      unfold D_arena_Arena_Write
      simp only [cond_dec]
      by_cases q1 : at' < 0
      · rw [if_pos q1]
      rw [if_neg q1, if_neg (by omega)]
      by_cases q2 : (g : Int) < at'
      · rw [if_pos q2]
      rw [if_neg q2, wrap64 (by omega), if_pos (by omega)]
    rw [h1, h2]
    exact ⟨w, g, hg, rfl, by simp⟩

theorem law18_plays (a0 : List Int) (a1 : List (Int × Int × Int × Int × List Int)) (f0 : Fine (.list (.int .u64)) a0) (f1 : Fine (.list (.pair (.int .i64) (.pair (.int .i64) (.pair (.int .i64) (.pair (.int .u64) (.list (.int .u64))))))) a1) : D_law18_ArenaPlays a0 a1 = some true := by
  unfold D_law18_ArenaPlays
  by_cases c : 1 ≤ a0.length ∧ a0.length ≤ 200 ∧ a1.length ≤ 60
  · rw [decide_eq_false (show ¬(a0.length : Int) < 1 by omega), decide_eq_false (show ¬200 < (a0.length : Int) by omega), decide_eq_false (show ¬60 < (a1.length : Int) by omega)]
    simp only [cond_false, Option.bind_some]
    rw [arena_From_in (by omega), ref18_From a0 (by omega)]
    simp only [Option.bind_some, caseS_r]
    obtain ⟨q, hq, W2, g2, rfl⟩ := loop_inv (f := D_law18_ArenaPlays_L0 a1) (a := ((0 : Int), (0 : Int), a0, a0, (0 : Int)))
      (fun s => ∃ (i : Nat) (W : List Int) (g : Nat), i ≤ a1.length ∧ g ≤ W.length ∧ W.length = a0.length ∧ s = ((i : Int), (g : Int), W, W, (g : Int))) (fun s => a1.length - s.1.toNat)
      (fun c => ∃ (W : List Int) (g : Int), c = .inr (g, W, W, g)) ⟨0, a0, 0, Nat.zero_le _, Nat.zero_le _, rfl, rfl⟩ (by simp; omega) (by
      rintro _ ⟨i, W, g, hi, hg, hl, rfl⟩
      simp only [D_law18_ArenaPlays_L0, cond_dec]
      by_cases hlt : i < a1.length
      · left
        have hf := f1.2 _ (List.getElem_mem hlt)
        rw [if_pos (by omega), rd_get hlt]
        simp only [Option.bind_some]
        obtain ⟨w', g', h1, h2, h3⟩ := do18 hg (by omega) a1[i].1 a1[i].2.1 a1[i].2.2.1 a1[i].2.2.2.1 a1[i].2.2.2.2 hf.2.1 hf.2.2.1 hf.2.2.2.2.1
        rw [h3]
        simp only [Option.bind_some, Bool.not_true, cond_false]
        unfold D_arena_Arena_Left D_arena_Arena_Size
        simp only [Option.bind_some]
        rw [if_neg (by simp), if_neg (by simp), arena_Image _ (by omega)]
        simp only [Option.bind_some]
        rw [ref05_Same _ _ (by omega) (by omega), decide_eq_true rfl]
        simp only [Option.bind_some, Bool.not_true, cond_false]
        rw [wrap64 (n := (i : Int) + 1) (by omega)]
        exact ⟨_, rfl, ⟨i + 1, w', g', hlt, h1, by omega, rfl⟩, by simp; omega⟩
      · right
        rw [if_neg (by omega)]
        exact ⟨_, rfl, W, g, rfl⟩)
    rw [hq]
    simp only [Option.bind_some, caseS_r]
    rw [goes18]
    rfl
  · have hs : ∀ {g : Bool → Option Bool}, (((cond (decide (((((List.length a0) : Nat) : Int)) < 1))
    (some true)
    (cond (decide (200 < ((((List.length a0) : Nat) : Int))))
      (some true)
      (some (decide (60 < ((((List.length a1) : Nat) : Int))))))) : Option (Bool))).bind g = g true := by
      intro g
      simp only [cond_dec]
      split
      · rfl
      split
      · rfl
      · rw [decide_eq_true (by omega)]
        rfl
    rw [hs, cond_true, goes18]
    rfl
end Go.V
