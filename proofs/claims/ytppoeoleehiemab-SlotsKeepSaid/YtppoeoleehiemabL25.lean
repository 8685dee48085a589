/- The slots: the laws as plain Lean. -/
import Derived.Test.YtppoeoleehiemabD25
import Derived.Test.YtppoeoleehiemabV24
import Derived.KernelRfl
namespace Go.V
set_option linter.unusedVariables false
set_option linter.unusedSimpArgs false
open Go.Ab
set_option linter.unusedVariables false
set_option linter.unusedSimpArgs false

theorem goes25 : D_law25_goes = some true := by kernel_rfl
theorem ref05_Same (a b : List Int) (ha : a.length ≤ 1000000) (hb : b.length ≤ 1000000) : D_ref05_Same a b = some (decide (a = b)) := by
  unfold D_ref05_Same
  simp only [cond_dec]
  by_cases c1 : ((a.length : Nat) : Int) ≠ ((b.length : Nat) : Int)
  · rw [if_pos c1, decide_eq_false]
    intro e
    subst e
    exact c1 rfl
  · rw [if_neg c1]
    have hn : a.length = b.length := by omega
    by_cases e : a = b
    · subst e
      rw [loop_nat0 (n := a.length) (c := .inr ()) (by omega) ?_ ?_]
      · simp [caseS]
      · intro i hi
        simp only [D_ref05_Same_L0, cond_dec]
        rw [if_pos (by omega), rd_get hi]
        simp only [Option.bind_some]
        rw [if_neg (by simp), wrap64 (by omega)]
        rfl
      · simp only [D_ref05_Same_L0, cond_dec]
        rw [if_neg (by omega)]
    · -- the first place where they part
      have hex : ∃ i, ∃ h : i < a.length, a[i] ≠ b[i] ∧ ∀ j (h : j < i), a[j] = b[j] := by
        obtain ⟨i, hi, hne⟩ : ∃ i, ∃ h : i < a.length, a[i] ≠ b[i] := by
          apply Classical.byContradiction
          intro hno
          exact e (List.ext_getElem hn fun i h1 h2 => Classical.byContradiction fun h => hno ⟨i, h1, h⟩)
        induction i using Nat.strongRecOn with
        | ind i ih =>
          by_cases hj : ∃ j, ∃ h : j < i, a[j] ≠ b[j]
          · obtain ⟨j, h1, h2⟩ := hj
            exact ih j h1 (by omega) h2
          · exact ⟨i, hi, hne, fun j h => Classical.byContradiction fun h2 => hj ⟨j, h, h2⟩⟩
      obtain ⟨i, hi, hne, hall⟩ := hex
      rw [loop_nat0 (n := i) (c := .inl false) (by omega) ?_ ?_]
      · simp [caseS, e]
      · intro j hj
        simp only [D_ref05_Same_L0, cond_dec]
        rw [if_pos (by omega), rd_get (show j < a.length by omega), rd_get (show j < b.length by omega)]
        simp only [Option.bind_some]
        rw [if_neg (by simpa using hall j hj), wrap64 (by omega)]
        rfl
      · simp only [D_ref05_Same_L0, cond_dec]
        rw [if_pos (by omega), rd_get hi, rd_get (show i < b.length by omega)]
        simp only [Option.bind_some]
        rw [if_pos hne]

theorem ref07_Ints (a b : List Int) (ha : a.length ≤ 1000000) (hb : b.length ≤ 1000000) : D_ref07_Ints a b = some (decide (a = b)) := by
  unfold D_ref07_Ints
  simp only [cond_dec]
  by_cases c1 : ((a.length : Nat) : Int) ≠ ((b.length : Nat) : Int)
  · rw [if_pos c1, decide_eq_false]
    intro e
    subst e
    exact c1 rfl
  · rw [if_neg c1]
    have hn : a.length = b.length := by omega
    by_cases e : a = b
    · subst e
      rw [loop_nat0 (n := a.length) (c := .inr ()) (by omega) ?_ ?_]
      · simp [caseS]
      · intro i hi
        simp only [D_ref07_Ints_L0, cond_dec]
        rw [if_pos (by omega), rd_get hi]
        simp only [Option.bind_some]
        rw [if_neg (by simp), wrap64 (by omega)]
        rfl
      · simp only [D_ref07_Ints_L0, cond_dec]
        rw [if_neg (by omega)]
    · -- the first place where they part
      have hex : ∃ i, ∃ h : i < a.length, a[i] ≠ b[i] ∧ ∀ j (h : j < i), a[j] = b[j] := by
        obtain ⟨i, hi, hne⟩ : ∃ i, ∃ h : i < a.length, a[i] ≠ b[i] := by
          apply Classical.byContradiction
          intro hno
          exact e (List.ext_getElem hn fun i h1 h2 => Classical.byContradiction fun h => hno ⟨i, h1, h⟩)
        induction i using Nat.strongRecOn with
        | ind i ih =>
          by_cases hj : ∃ j, ∃ h : j < i, a[j] ≠ b[j]
          · obtain ⟨j, h1, h2⟩ := hj
            exact ih j h1 (by omega) h2
          · exact ⟨i, hi, hne, fun j h => Classical.byContradiction fun h2 => hj ⟨j, h, h2⟩⟩
      obtain ⟨i, hi, hne, hall⟩ := hex
      rw [loop_nat0 (n := i) (c := .inl false) (by omega) ?_ ?_]
      · simp [caseS, e]
      · intro j hj
        simp only [D_ref07_Ints_L0, cond_dec]
        rw [if_pos (by omega), rd_get (show j < a.length by omega), rd_get (show j < b.length by omega)]
        simp only [Option.bind_some]
        rw [if_neg (by simpa using hall j hj), wrap64 (by omega)]
        rfl
      · simp only [D_ref07_Ints_L0, cond_dec]
        rw [if_pos (by omega), rd_get hi, rd_get (show i < b.length by omega)]
        simp only [Option.bind_some]
        rw [if_pos hne]

theorem arena_right (a : Int) : D_arena_right a = some (if a < 1 then 2 else if 1048576 < a then 12 else 0) := by
  unfold D_arena_right
  simp only [cond_dec]
  split
  · rfl
  split <;> rfl
theorem arena_New_in {a : Int} (h : 1 ≤ a ∧ a ≤ 1048576) : D_arena_New a = some (.inr (List.replicate a.toNat 0)) := by
  unfold D_arena_New
  rw [arena_right, if_neg (by omega), if_neg (by omega)]
  simp only [Option.bind_some, cond_dec]
  rw [if_neg (by omega), decide_eq_true (show 0 ≤ a by omega), decide_eq_true (show a ≤ a by omega), decide_eq_true (show 8 * a ≤ 140737488355328 by omega)]
  rfl
theorem arena_From_in {w : List Int} (h : 1 ≤ w.length ∧ w.length ≤ 1048576) : D_arena_From w = some (.inr w) := by
  unfold D_arena_From
  rw [arena_right, if_neg (by omega), if_neg (by omega)]
  simp only [Option.bind_some, cond_dec]
  unfold D_slices_Clone_uint64_uint64
  rw [if_neg (by omega), gd_fits (by omega) (by omega)]
  rfl
theorem arena_Image (g : Int) {w : List Int} (h : w.length ≤ 1048576) : D_arena_Arena_Image g w = some w := by
  unfold D_arena_Arena_Image D_slices_Clone_uint64_uint64
  rw [gd_fits (by omega) (by omega)]
  rfl

theorem arena_Take_in {n g : Int} {w : List Int} (h : 0 ≤ n ∧ 0 ≤ g ∧ g + n ≤ w.length) (hw : w.length ≤ 1048576) : D_arena_Arena_Take n g w = some (g, 0, g + n) := by
  unfold D_arena_Arena_Take D_arena_Arena_Left
  simp only [Option.bind_some, cond_dec]
  rw [if_neg (by omega), wrap64 (by omega), if_neg (by omega), wrap64 (by omega)]
theorem arena_Write_in {b g : Int} {p w : List Int} (h : 0 ≤ b ∧ b + p.length ≤ g ∧ g ≤ w.length) (hw : w.length ≤ 1048576) : D_arena_Arena_Write b p g w = some (0, blit w b.toNat p.length p) := by
  unfold D_arena_Arena_Write
  simp only [cond_dec]
  rw [if_neg (by omega), if_neg (by omega), if_neg (by omega), wrap64 (by omega), if_neg (by omega), wrap64 (by omega), cutG_in (by omega), gd_true, show (b + (p.length : Int)).toNat - b.toNat = p.length by omega]

theorem loop_first0 {δ : Type} {f : Int → Option (Int ⊕ δ)} (n : Nat) (hn : n < 9223372036854775808) (stop : Nat → Prop) (c e : δ)
    (hs : ∀ i : Nat, i < n → ¬stop i → f (i : Int) = some (.inl ((i + 1 : Nat) : Int))) (hx : ∀ i : Nat, i < n → stop i → f (i : Int) = some (.inr c)) (he : f (n : Int) = some (.inr e)) :
    (∃ i, i < n ∧ stop i ∧ (∀ j, j < i → ¬stop j) ∧ loopN f BIG 0 = some c) ∨ ((∀ j, j < n → ¬stop j) ∧ loopN f BIG 0 = some e) := by
  by_cases h : ∃ i, i < n ∧ stop i
  · obtain ⟨i, h1, h2⟩ := h
    have hex : ∃ i, i < n ∧ stop i ∧ ∀ j, j < i → ¬stop j := by
      induction i using Nat.strongRecOn with
      | ind i ih =>
        by_cases hj : ∃ j, j < i ∧ stop j
        · obtain ⟨j, h3, h4⟩ := hj
          exact ih j h3 (by omega) h4
        · exact ⟨i, h1, h2, fun j h h3 => hj ⟨j, h, h3⟩⟩
    obtain ⟨i, h1, h2, h3⟩ := hex
    exact .inl ⟨i, h1, h2, h3, loop_nat0 (n := i) (by omega) (fun j hj => hs j (by omega) (h3 j hj)) (hx i h1 h2)⟩
  · have h' : ∀ j, j < n → ¬stop j := fun j hj hs => h ⟨j, hj, hs⟩
    exact .inr ⟨h', loop_nat0 hn (fun j hj => hs j hj (h' j hj)) he⟩

/-! ### Words of an arena -/
theorem arena_Get_in {a g : Nat} {w : List Int} (h : a < g ∧ g ≤ w.length) (hw : w.length ≤ 1048576) : D_arena_Arena_Get a g w = some (w.getD a 0, 0) := by
  unfold D_arena_Arena_Get D_slices_Clone_uint64_uint64
  simp only [cond_dec]
  rw [if_neg (by omega), if_neg (by omega), wrap64 (by omega), if_neg (by omega), wrap64 (by omega), cutG_in (by omega), gd_true]
  rw [show ((a : Int) + 1).toNat - (a : Int).toNat = 1 by omega, Int.toNat_natCast, gd_fits (by rw [List.length_take]; omega) (by omega)]
  simp only [Option.bind_some]
  have hl : ((w.drop a).take 1).length = 1 := by rw [List.length_take, List.length_drop]; omega
  rw [hl, show ix 0 1 = some 0 from rfl]
  simp only [Option.bind_some]
  rw [List.getElem?_take_of_lt (by omega), List.getElem?_drop, Nat.add_zero, List.getD_eq_getElem?_getD, List.getElem?_eq_getElem (show a < w.length by omega)]
  rfl
theorem arena_Read_in {a n g : Nat} {w : List Int} (h : a + n ≤ g ∧ g ≤ w.length) (hw : w.length ≤ 1048576) : D_arena_Arena_Read a n g w = some (0, (w.drop a).take n) := by
  unfold D_arena_Arena_Read D_slices_Clone_uint64_uint64
  simp only [cond_dec]
  rw [if_neg (by omega), if_neg (by omega), if_neg (by omega), wrap64 (by omega), if_neg (by omega), wrap64 (by omega), cutG_in (by omega), gd_true]
  rw [show ((a : Int) + (n : Int)).toNat - (a : Int).toNat = n by omega, Int.toNat_natCast, gd_fits (by rw [List.length_take, List.length_drop]; omega) (by omega)]
  rfl

/-! ### Slots -/
/-- Slots that stand within what is given out. -/
structure Sl (F n x g : Nat) (W : List Int) : Prop where
  a : F + n * (x + 1) ≤ g
  b : g ≤ W.length
  c : W.length ≤ 1048576
  d : x ≤ 1000
  e : n ≤ 1048576
theorem Sl.at {F n x g : Nat} {W : List Int} (h : Sl F n x g W) {k : Nat} (hk : k < n) : k * (x + 1) + (x + 1) ≤ n * (x + 1) := by
  have := Nat.mul_le_mul_right (x + 1) (show k + 1 ≤ n from hk)
  rwa [Nat.succ_mul] at this
theorem place_word {F n x g : Nat} {W : List Int} (h : Sl F n x g W) {k : Nat} (hk : k < n) : D_slots_place_word F n x k = some ((F + k * (x + 1) : Nat) : Int) := by
  have h1 := h.at hk
  obtain ⟨ha, hb, hc, hd, he⟩ := h
  unfold D_slots_place_word D_slots_place_size
  simp only [Option.bind_some]
  have e : (k : Int) * ((x : Int) + 1) = ((k * (x + 1) : Nat) : Int) := by push_cast; rfl
  rw [wrap64 (n := (x : Int) + 1) (by omega), e, wrap64 (n := ((k * (x + 1) : Nat) : Int)) (by omega), wrap64 (by omega)]
  congr 1
theorem place_has {F n x : Nat} {k : Nat} (hk : k < n) : D_slots_place_has F n x k = some true := by
  unfold D_slots_place_has
  simp only [cond_dec]
  rw [if_pos (by omega), decide_eq_true (by omega)]
/-- The first word of a slot. -/
def fst25 (F x : Nat) (W : List Int) (k : Nat) : Int := W.getD (F + k * (x + 1)) 0
theorem slots_Store {F n x g : Nat} {W : List Int} (h : Sl F n x g W) {k : Nat} (hk : k < n) {tag : Int} (ht : 0 ≤ tag ∧ tag < 65536) {l : List Int} (hl : l.length = x) :
    D_slots_Slots_Store_2 k tag l F n x g W = some (if fst25 F x W k ≠ 0 then (15, W) else (0, blit W (F + k * (x + 1)) (x + 1) ((tag + 1) :: l))) := by
  have h1 := h.at hk
  have h2 := place_word h hk
  obtain ⟨ha, hb, hc, hd, he⟩ := h
  unfold fst25 at *
  generalize k * (x + 1) = q at *
  generalize n * (x + 1) = N at *
  unfold D_slots_Slots_Store_2
  rw [place_has hk, h2]
  simp only [Option.bind_some, cond_dec, Bool.not_true, cond_false]
  rw [arena_Get_in (by omega) hc]
  simp only [Option.bind_some, cond_dec, Bool.not_true, cond_false]
  rw [if_neg (by omega), decide_eq_false (show ¬65536 ≤ tag by omega)]
  simp only [Option.bind_some, cond_false]
  rw [if_neg (by omega)]
  show (if W.getD (F + q) 0 ≠ 0 then _ else _) = _
  by_cases c : W.getD (F + q) 0 ≠ 0
  · rw [if_pos c, if_pos c]
  · rw [if_neg c, if_neg c, gd_fits (by omega) (by omega), wrap64 (by omega), wrapU_in (by omega), arena_Write_in (by simp; omega) hc]
    simp only [Option.bind_some, Int.toNat_natCast, List.length_append, List.length_cons, List.length_nil, List.singleton_append]
    rw [show l.length + 1 = x + 1 by omega]
theorem slots_Restore {F n x g : Nat} {W : List Int} (h : Sl F n x g W) {k : Nat} (hk : k < n) (hf : 0 ≤ fst25 F x W k ∧ fst25 F x W k ≤ 65536) :
    D_slots_Slots_Restore_2 k F n x g W = some (if fst25 F x W k = 0 then (0, 16, []) else (fst25 F x W k - 1, 0, (W.drop (F + k * (x + 1) + 1)).take x)) := by
  have h1 := h.at hk
  have h2 := place_word h hk
  obtain ⟨ha, hb, hc, hd, he⟩ := h
  unfold fst25 at *
  generalize k * (x + 1) = q at *
  generalize n * (x + 1) = N at *
  unfold D_slots_Slots_Restore_2
  rw [place_has hk, h2]
  simp only [Option.bind_some, cond_dec, Bool.not_true, cond_false]
  rw [arena_Get_in (by omega) hc]
  simp only [Option.bind_some, cond_dec, Bool.not_true, cond_false]
  show (if W.getD (F + q) 0 = 0 then _ else _) = _
  by_cases c : W.getD (F + q) 0 = 0
  · rw [if_pos c, if_pos c]
  · have e : ((F + q : Nat) : Int) + 1 = ((F + q + 1 : Nat) : Int) := by omega
    rw [if_neg c, if_neg c, wrap64 (n := ((F + q : Nat) : Int) + 1) (by omega), e, arena_Read_in (by omega) hc]
    simp only [Option.bind_some]
    show some (IntKind.i64.wrap (IntKind.i64.wrap (W.getD (F + q) 0) - 1), _, _) = _
    rw [wrap64 (n := W.getD (F + q) 0) (by omega), wrap64 (by omega)]
theorem slots_Free {F n x g : Nat} {W : List Int} (h : Sl F n x g W) {k : Nat} (hk : k < n) :
    D_slots_Slots_Free_2 k F n x g W = some (if fst25 F x W k = 0 then (16, W) else (0, blit W (F + k * (x + 1)) (x + 1) (List.replicate (x + 1) 0))) := by
  have h1 := h.at hk
  have h2 := place_word h hk
  obtain ⟨ha, hb, hc, hd, he⟩ := h
  unfold D_slots_Slots_Free_2
  rw [place_has hk, h2]
  simp only [Option.bind_some, cond_dec, Bool.not_true, cond_false]
  rw [arena_Get_in (by omega) hc]
  simp only [Option.bind_some, cond_dec, Bool.not_true, cond_false]
  show (if fst25 F x W k = 0 then _ else _) = _
  by_cases c : fst25 F x W k = 0
  · rw [if_pos c, if_pos c]
  · rw [if_neg c, if_neg c]
    unfold D_slots_place_size
    simp only [Option.bind_some]
    rw [wrap64 (by omega), decide_eq_true (show (0 : Int) ≤ (x : Int) + 1 by omega), decide_eq_true (show (x : Int) + 1 ≤ (x : Int) + 1 by omega), decide_eq_true (show 8 * ((x : Int) + 1) ≤ 140737488355328 by omega)]
    show gd true _ = _
    rw [gd_true, show ((x : Int) + 1).toNat = x + 1 by omega, arena_Write_in (by rw [List.length_replicate]; omega) hc]
    simp only [Option.bind_some, Int.toNat_natCast, List.length_replicate]
theorem slots_Tags {F n x g : Nat} {W : List Int} (h : Sl F n x g W) (hf : ∀ k, k < n → 0 ≤ fst25 F x W k ∧ fst25 F x W k ≤ 65536) :
    D_slots_Slots_Tags_2 F n x g W = some ((List.range n).map fun k => fst25 F x W k - 1) := by
  unfold D_slots_Slots_Tags_2
  have hl : loopN (D_slots_Slots_Tags_2_L0 F n x g W) BIG (0, []) = some ((List.range n).map fun k => fst25 F x W k - 1) := by
    refine loop_nat (n := n) (fun i => (List.range i).map fun k => fst25 F x W k - 1) (by have := h.e; omega) ?_ ?_
    · intro k hk
      have h1 := h.at hk
      have h2 := place_word h hk
      have hf := hf k hk
      obtain ⟨ha, hb, hc, hd, he⟩ := h
      simp only [D_slots_Slots_Tags_2_L0, cond_dec]
      rw [if_pos (by omega), h2]
      simp only [Option.bind_some]
      rw [arena_Get_in (by omega) hc]
      simp only [Option.bind_some]
      rw [gd_fits (by simp; omega) (by omega)]
      show some (Sum.inl (_, _ ++ [IntKind.i64.wrap (IntKind.i64.wrap (fst25 F x W k) - 1)])) = _
      rw [wrap64 (n := fst25 F x W k) (by omega), wrap64 (n := fst25 F x W k - 1) (by omega), wrap64 (by omega), List.range_succ, List.map_append]
      rfl
    · simp only [D_slots_Slots_Tags_2_L0, cond_dec]
      rw [if_neg (by omega)]
  rw [hl]
  rfl
theorem slots_Used {F n x g : Nat} {W : List Int} (h : Sl F n x g W) (hf : ∀ k, k < n → fst25 F x W k = 0) : D_slots_Slots_Used_2 F n x g W = some 0 := by
  unfold D_slots_Slots_Used_2
  rw [slots_Tags h fun k hk => by rw [hf k hk]; omega]
  simp only [Option.bind_some]
  have he := h.e
  have hl : loopN (D_slots_Slots_Used_2_L0 ((List.range n).map fun k => fst25 F x W k - 1)) BIG (0, 0) = some 0 := by
    refine loop_nat (n := n) (fun _ => (0 : Int)) (by omega) ?_ ?_
    · intro k hk
      simp only [D_slots_Slots_Used_2_L0, cond_dec, List.length_map, List.length_range]
      rw [if_pos (by omega), ix_in hk]
      simp only [Option.bind_some]
      rw [List.getElem?_map, List.getElem?_range hk]
      simp only [Option.map_some, Option.bind_some]
      rw [hf k hk, if_neg (by omega), wrap64 (by omega)]
      rfl
    · simp only [D_slots_Slots_Used_2_L0, cond_dec, List.length_map, List.length_range]
      rw [if_neg (by omega)]
  rw [hl]
  rfl
theorem place_may (f n x : Int) : D_slots_place_may f n x = some (decide (0 ≤ n ∧ n ≤ 1048576 ∧ 1 ≤ x ∧ x ≤ 64)) := by
  unfold D_slots_place_may
  simp only [cond_dec]
  by_cases h1 : 0 ≤ n
  · by_cases h2 : n ≤ 1048576
    · by_cases h3 : 1 ≤ x
      · simp [h1, h2, h3]
      · simp [h1, h2, h3]
    · simp [h1, h2]
  · simp [h1]
theorem ref25_May (n x : Int) : D_ref25_May n x = some (decide (0 ≤ n ∧ n ≤ 1048576 ∧ 1 ≤ x ∧ x ≤ 64)) := by
  unfold D_ref25_May
  simp only [cond_dec]
  by_cases h1 : 0 ≤ n
  · by_cases h2 : n ≤ 1048576
    · by_cases h3 : 1 ≤ x
      · simp [h1, h2, h3]
      · simp [h1, h2, h3]
    · simp [h1, h2]
  · simp [h1]
theorem mul_in {n x : Nat} (hn : n ≤ 1048576) (hx : x ≤ 64) : n * (x + 1) ≤ 68157440 := by
  have := Nat.mul_le_mul hn (show x + 1 ≤ 65 by omega)
  omega
/-- New slots. -/
theorem slots_New {n x : Nat} {W : List Int} (hn : n ≤ 1048576) (hx : 1 ≤ x ∧ x ≤ 64) (hW : W.length ≤ 1048576) :
    D_slots_New_2 n x 0 W = some (if W.length < n * (x + 1) then .inl (15, 0, W) else .inr ((n * (x + 1) : Nat), blit W 0 (n * (x + 1)) (List.replicate (n * (x + 1)) 0), 0, n, x)) := by
  have hm := mul_in hn hx.2
  unfold D_slots_New_2
  rw [place_may, decide_eq_true (show (0 : Int) ≤ n ∧ (n : Int) ≤ 1048576 ∧ (1 : Int) ≤ x ∧ (x : Int) ≤ 64 by omega)]
  unfold D_slots_place_size
  simp only [Option.bind_some, Bool.not_true, cond_false, cond_dec]
  have e : (n : Int) * ((x : Int) + 1) = ((n * (x + 1) : Nat) : Int) := by push_cast; rfl
  rw [wrap64 (n := (x : Int) + 1) (by omega), e, wrap64 (n := ((n * (x + 1) : Nat) : Int)) (by omega)]
  generalize n * (x + 1) = m at *
  by_cases c : W.length < m
  · rw [if_pos c]
    have ht : D_arena_Arena_Take m 0 W = some (0, 15, 0) := by
      unfold D_arena_Arena_Take D_arena_Arena_Left
      simp only [Option.bind_some, cond_dec]
      rw [if_neg (by omega), wrap64 (by omega), if_pos (by omega)]
    rw [ht]
    simp only [Option.bind_some]
    rw [if_pos (by omega)]
  · rw [if_neg c, arena_Take_in (by omega) hW]
    simp only [Option.bind_some]
    rw [if_neg (by omega), decide_eq_true (show (0 : Int) ≤ m by omega), decide_eq_true (show (m : Int) ≤ m by omega), decide_eq_true (show 8 * (m : Int) ≤ 140737488355328 by omega)]
    show gd true _ = _
    rw [gd_true, Int.toNat_natCast, arena_Write_in (by rw [List.length_replicate]; omega) hW, List.length_replicate]
    simp only [Option.bind_some, Int.zero_add]
    rfl

theorem law25_makes (a0 a1 a2 a3 : Int) (h0 : -9223372036854775808 ≤ a0 ∧ a0 ≤ 9223372036854775807) (h1 : -9223372036854775808 ≤ a1 ∧ a1 ≤ 9223372036854775807) (h2 : -9223372036854775808 ≤ a2 ∧ a2 ≤ 9223372036854775807) (h3 : -9223372036854775808 ≤ a3 ∧ a3 ≤ 9223372036854775807) :
    D_law25_SlotsMakes a0 a1 a2 a3 = some true := by
  unfold D_law25_SlotsMakes
  have e1 : D_slots_Slots_Restore a3 = some () := rfl
  have e2 : D_slots_Slots_Least = some false := by kernel_rfl
  have e3 : D_slots_Slots_Store a3 a3 [] = some () := rfl
  have e4 : D_slots_Slots_Free a3 = some () := rfl
  have e5 : D_slots_Slots_Tags = some () := rfl
  have e6 : D_slots_Slots_Used = some () := by kernel_rfl
  have e7 : D_slots_New a1 a2 = some () := rfl
  rw [e1, e2, e3, e4, e5, e6, e7]
  simp only [Option.bind_some, cond_false, cond_dec]
  by_cases c1 : a0 < 1
  · rw [if_pos c1, goes25]; rfl
  rw [if_neg c1]
  by_cases c2 : 5000 < a0
  · rw [decide_eq_true c2, goes25]; rfl
  rw [decide_eq_false c2]
  simp only [Option.bind_some, cond_false]
  rw [arena_New_in (by omega), ref25_May]
  simp only [Option.bind_some, caseS_r]
  have hZ : (List.replicate a0.toNat (0 : Int)).length = a0.toNat := List.length_replicate
  have hL : ∀ g : Int, 0 ≤ g ∧ g ≤ a0 → D_arena_Arena_Left g (List.replicate a0.toNat 0) = some (a0 - g) := by
    intro g hg
    unfold D_arena_Arena_Left
    rw [hZ, wrap64 (by omega)]
    congr 1
    omega
  by_cases c3 : 0 ≤ a1 ∧ a1 ≤ 1048576 ∧ 1 ≤ a2 ∧ a2 ≤ 64
  · obtain ⟨n, rfl⟩ := Int.eq_ofNat_of_zero_le c3.1
    obtain ⟨x, rfl⟩ := Int.eq_ofNat_of_zero_le (show 0 ≤ a2 by omega)
    rw [slots_New (by omega) (by omega) (by omega), decide_eq_true c3]
    have hm := mul_in (n := n) (x := x) (by omega) (by omega)
    have e : (n : Int) * ((x : Int) + 1) = ((n * (x + 1) : Nat) : Int) := by push_cast; rfl
    rw [wrap64 (n := (x : Int) + 1) (by omega), e, wrap64 (n := ((n * (x + 1) : Nat) : Int)) (by omega), hZ]
    by_cases c4 : a0.toNat < n * (x + 1)
    · rw [if_pos c4]
      simp only [Option.bind_some, caseS_l, Bool.not_true, cond_false]
      rw [if_pos (by omega), if_pos trivial, hL 0 (by omega)]
      simp only [Option.bind_some]
      rw [if_pos (by omega), goes25]
      rfl
    · rw [if_neg c4]
      simp only [Option.bind_some, caseS_r, Bool.not_true, cond_false]
      rw [if_neg (by omega), wrap64 (by omega)]
      have hlen : (blit (List.replicate a0.toNat (0 : Int)) 0 (n * (x + 1)) (List.replicate (n * (x + 1)) 0)).length = a0.toNat := by rw [blit_len (by omega), hZ]
      have hzero : ∀ i : Nat, i < a0.toNat → (blit (List.replicate a0.toNat (0 : Int)) 0 (n * (x + 1)) (List.replicate (n * (x + 1)) 0))[i]? = some 0 := by
        intro i hi
        rw [blit_get (by omega) (by simp)]
        split
        · rw [List.getElem?_replicate, if_pos (by omega)]
        · rw [List.getElem?_replicate, if_pos (by omega)]
      generalize blit (List.replicate a0.toNat (0 : Int)) 0 (n * (x + 1)) (List.replicate (n * (x + 1)) 0) = W at *
      have hS : Sl 0 n x (n * (x + 1)) W := ⟨by omega, by omega, by omega, by omega, by omega⟩
      have hf : ∀ k, k < n → fst25 0 x W k = 0 := by
        intro k hk
        have := hS.at hk
        unfold fst25
        rw [List.getD_eq_getElem?_getD, hzero _ (by omega)]
        rfl
      have hl1 : D_arena_Arena_Left ((n * (x + 1) : Nat) : Int) W = some (a0 - ((n * (x + 1) : Nat) : Int)) := by
        unfold D_arena_Arena_Left
        rw [hlen, wrap64 (by omega)]
        congr 1
        omega
      rw [hl1]
      simp only [Option.bind_some]
      have hU : D_slots_Slots_Used_2 0 n x ((n * (x + 1) : Nat) : Int) W = some 0 := slots_Used hS hf
      have hT : D_slots_Slots_Tags_2 0 n x ((n * (x + 1) : Nat) : Int) W = _ := slots_Tags hS fun k hk => by rw [hf k hk]; omega
      rw [if_pos trivial, hU, hT]
      simp only [Option.bind_some, List.length_map, List.length_range, if_true]
      rw [goes25]
      rfl
  · have hN : D_slots_New_2 a1 a2 0 (List.replicate a0.toNat 0) = some (.inl (2, 0, List.replicate a0.toNat 0)) := by
      unfold D_slots_New_2
      rw [place_may, decide_eq_false c3]
      rfl
    rw [hN, decide_eq_false c3]
    simp only [Option.bind_some, caseS_l, Bool.not_false, cond_true]
    rw [if_pos trivial, hL 0 (by omega)]
    simp only [Option.bind_some]
    rw [if_pos (by omega), goes25]
    rfl

/-! ### What is stored stays -/
structure Keep25 (n x : Nat) (tag : Int) (l W : List Int) : Prop where
  len : W.length = n * (x + 1)
  at' : ∀ i, i < x + 1 → W[3 * (x + 1) + i]? = some (((tag + 1) :: l).getD i 0)
theorem Keep25.blit {n x : Nat} {tag : Int} {l W : List Int} (h : Keep25 n x tag l W) {k : Nat} (hk : k < n) (h3 : k ≠ 3) {m : List Int} (hm : m.length = x + 1) : Keep25 n x tag l (blit W (0 + k * (x + 1)) (x + 1) m) := by
  have h1 := Nat.mul_le_mul_right (x + 1) (show k + 1 ≤ n from hk)
  rw [Nat.succ_mul] at h1
  have h2 : k * (x + 1) + (x + 1) ≤ 3 * (x + 1) ∨ 3 * (x + 1) + (x + 1) ≤ k * (x + 1) := by
    by_cases c : k < 3
    · have := Nat.mul_le_mul_right (x + 1) (show k + 1 ≤ 3 from c)
      rw [Nat.succ_mul] at this
      exact .inl this
    · have := Nat.mul_le_mul_right (x + 1) (show 3 + 1 ≤ k by omega)
      rw [Nat.succ_mul] at this
      exact .inr this
  obtain ⟨h4, h5⟩ := h
  generalize k * (x + 1) = q at *
  refine ⟨by rw [blit_len (by omega), h4], fun i hi => ?_⟩
  rw [blit_get (by omega) (by omega), if_neg (by omega)]
  exact h5 i hi
theorem Keep25.fst {n x : Nat} {tag : Int} {l W : List Int} (h : Keep25 n x tag l W) : fst25 0 x W 3 = tag + 1 := by
  unfold fst25
  rw [List.getD_eq_getElem?_getD, Nat.zero_add]
  have := h.at' 0 (by omega)
  rw [Nat.add_zero] at this
  rw [this]
  rfl
theorem Keep25.rest {n x : Nat} {tag : Int} {l W : List Int} (h : Keep25 n x tag l W) (hl : l.length = x) : (W.drop (0 + 3 * (x + 1) + 1)).take x = l := by
  apply List.ext_getElem?
  intro i
  by_cases c : i < x
  · rw [List.getElem?_take_of_lt c, List.getElem?_drop, Nat.zero_add, Nat.add_assoc, Nat.add_comm 1 i, h.at' (i + 1) (by omega)]
    rw [List.getD_eq_getElem?_getD, List.getElem?_cons_succ, List.getElem?_eq_getElem (by omega)]
    rfl
  · rw [List.getElem?_take_eq_none (by omega), List.getElem?_eq_none (by omega)]

theorem law25_keep (a0 a1 : Int) (a2 a3 : List Int) (h0 : -9223372036854775808 ≤ a0 ∧ a0 ≤ 9223372036854775807) (h1 : -9223372036854775808 ≤ a1 ∧ a1 ≤ 9223372036854775807) (hl2 : ∀ n ∈ a2, 0 ≤ n ∧ n ≤ 18446744073709551615) (hlen2 : a2.length ≤ 9223372036854775807) (hl3 : ∀ n ∈ a3, -9223372036854775808 ≤ n ∧ n ≤ 9223372036854775807) (hlen3 : a3.length ≤ 9223372036854775807) :
    D_law25_SlotsKeep a0 a1 a2 a3 = some true := by
  unfold D_law25_SlotsKeep
  by_cases c : 4 ≤ a0 ∧ a0 ≤ 20 ∧ 0 ≤ a1 ∧ a1 < 65536 ∧ 1 ≤ a2.length ∧ a2.length ≤ 8 ∧ a3.length ≤ 30
  · obtain ⟨c1, c2, c3, c4, c5, c6, c7⟩ := c
    rw [decide_eq_false (show ¬a0 < 4 by omega), decide_eq_false (show ¬20 < a0 by omega), decide_eq_false (show ¬a1 < 0 by omega), decide_eq_false (show ¬65536 ≤ a1 by omega), decide_eq_false (show ¬(a2.length : Int) < 1 by omega), decide_eq_false (show ¬8 < (a2.length : Int) by omega), decide_eq_false (show ¬30 < (a3.length : Int) by omega)]
    simp only [cond_false, Option.bind_some]
    obtain ⟨n, rfl⟩ := Int.eq_ofNat_of_zero_le (show 0 ≤ a0 by omega)
    generalize hx : a2.length = x at *
    have hm : n * (x + 1) ≤ 180 := by
      have := Nat.mul_le_mul (show n ≤ 20 by omega) (show x + 1 ≤ 9 by omega)
      omega
    have hm2 : 4 * (x + 1) ≤ n * (x + 1) := Nat.mul_le_mul_right (x + 1) (show 4 ≤ n by omega)
    have e : (n : Int) * ((x : Int) + 1) = ((n * (x + 1) : Nat) : Int) := by push_cast; rfl
    rw [wrap64 (n := (x : Int) + 1) (by omega), e, wrap64 (n := ((n * (x + 1) : Nat) : Int)) (by omega), arena_New_in (by omega)]
    simp only [Option.bind_some, caseS_r]
    rw [Int.toNat_natCast, slots_New (by omega) (by omega) (by rw [List.length_replicate]; omega), List.length_replicate, if_neg (by omega)]
    simp only [Option.bind_some, caseS_r]
    have hlen : (blit (List.replicate (n * (x + 1)) (0 : Int)) 0 (n * (x + 1)) (List.replicate (n * (x + 1)) 0)).length = n * (x + 1) := by rw [blit_len (by simp), List.length_replicate]
    have hzero : ∀ i : Nat, i < n * (x + 1) → (blit (List.replicate (n * (x + 1)) (0 : Int)) 0 (n * (x + 1)) (List.replicate (n * (x + 1)) 0))[i]? = some 0 := by
      intro i hi
      rw [blit_get (by simp) (by simp), if_pos (by omega), List.getElem?_replicate, if_pos (by omega)]
    generalize blit (List.replicate (n * (x + 1)) (0 : Int)) 0 (n * (x + 1)) (List.replicate (n * (x + 1)) 0) = W0 at *
    have hSl : ∀ W : List Int, W.length = n * (x + 1) → Sl 0 n x (n * (x + 1)) W := fun W hW => ⟨by omega, by omega, by omega, by omega, by omega⟩
    have hSt : ∀ {W : List Int}, W.length = n * (x + 1) → ∀ {k : Nat}, k < n → ∀ {m : List Int}, m.length = x → D_slots_Slots_Store_2 k a1 m 0 n x ((n * (x + 1) : Nat) : Int) W = some (if fst25 0 x W k ≠ 0 then (15, W) else (0, Go.V.blit W (0 + k * (x + 1)) (x + 1) ((a1 + 1) :: m))) := by
      intro W hW k hk m hm
      exact slots_Store (hSl W hW) hk (by omega) hm
    have hFr : ∀ {W : List Int}, W.length = n * (x + 1) → ∀ {k : Nat}, k < n → D_slots_Slots_Free_2 k 0 n x ((n * (x + 1) : Nat) : Int) W = some (if fst25 0 x W k = 0 then (16, W) else (0, Go.V.blit W (0 + k * (x + 1)) (x + 1) (List.replicate (x + 1) 0))) := by
      intro W hW k hk
      exact slots_Free (hSl W hW) hk
    have hF0 : fst25 0 x W0 3 = 0 := by
      unfold fst25
      rw [List.getD_eq_getElem?_getD, hzero _ (by omega)]
      rfl
    have hK1 : Keep25 n x a1 a2 (blit W0 (0 + 3 * (x + 1)) (x + 1) ((a1 + 1) :: a2)) := by
      refine ⟨by rw [blit_len (by omega), hlen], fun i hi => ?_⟩
      rw [blit_get (by omega) (by simp; omega), if_pos (by omega), show 3 * (x + 1) + i - (0 + 3 * (x + 1)) = i by omega, List.getD_eq_getElem?_getD, List.getElem?_eq_getElem (by simp; omega)]
      rfl
    have hst : D_slots_Slots_Store_2 3 a1 a2 0 n x ((n * (x + 1) : Nat) : Int) W0 = some (0, blit W0 (0 + 3 * (x + 1)) (x + 1) ((a1 + 1) :: a2)) := by
      rw [show (3 : Int) = ((3 : Nat) : Int) from rfl, hSt hlen (by omega) hx, if_neg (by rw [hF0]; simp)]
    rw [hst]
    simp only [Option.bind_some, cond_dec]
    rw [if_neg (by omega)]
    generalize blit W0 (0 + 3 * (x + 1)) (x + 1) ((a1 + 1) :: a2) = W1 at *
    have hR : ∀ {W : List Int}, Keep25 n x a1 a2 W → D_slots_Slots_Restore_2 3 0 n x ((n * (x + 1) : Nat) : Int) W = some (a1, 0, a2) := by
      intro W hK
      have := slots_Restore (hSl W hK.len) (k := 3) (by omega) (by rw [hK.fst]; omega)
      rw [hK.fst, hK.rest hx, if_neg (by omega), Int.add_sub_cancel] at this
      exact this
    have hS3 : ∀ {W : List Int}, Keep25 n x a1 a2 W → D_slots_Slots_Store_2 3 a1 a2 0 n x ((n * (x + 1) : Nat) : Int) W = some (15, W) := by
      intro W hK
      rw [show (3 : Int) = ((3 : Nat) : Int) from rfl, hSt hK.len (by omega) hx, if_pos (by rw [hK.fst]; omega)]
    have hsame : D_ref05_Same a2 a2 = some true := by rw [ref05_Same _ _ (by omega) (by omega), decide_eq_true rfl]
    obtain ⟨c, hc, W2, rfl, hK2⟩ := loop_inv (f := D_law25_SlotsKeep_L0 n a1 a2 a3 (((n * (x + 1) : Nat) : Int), W0, 0, n, x)) (a := ((0 : Int), W1)) (fun s => ∃ i : Nat, i ≤ a3.length ∧ s.1 = i ∧ Keep25 n x a1 a2 s.2) (fun s => a3.length - s.1.toNat) (fun c => ∃ W, c = .inr W ∧ Keep25 n x a1 a2 W) ⟨0, Nat.zero_le _, rfl, hK1⟩ (by simp; omega) (by
      rintro ⟨_, W⟩ ⟨i, hi, rfl, hK⟩
      simp only at hK
      by_cases h : i < a3.length
      · left
        have step : ∃ W', Keep25 n x a1 a2 W' ∧ D_law25_SlotsKeep_L0 n a1 a2 a3 (((n * (x + 1) : Nat) : Int), W0, 0, n, x) ((i : Int), W) = some (.inl (((i + 1 : Nat) : Int), W')) := by
          have hb := hl3 _ (List.getElem_mem h)
          obtain ⟨k, hk, hke⟩ := spot (L := n) (by omega) (by omega) hb
          simp only [D_law25_SlotsKeep_L0, cond_dec]
          rw [if_pos (by omega), rd_get h]
          simp only [Option.bind_some]
          rw [hke, decide_eq_true (show (n : Int) ≠ 0 by omega), gd_true, gd_true, wrap64 (n := (i : Int) + 1) (by omega), hx]
          by_cases h3 : k = 3
          · subst h3
            rw [if_neg (by simp)]
            simp only [Option.bind_some, caseS_r]
            rw [hR hK]
            simp only [Option.bind_some]
            rw [if_neg (by simp), if_neg (by simp), hsame]
            simp only [Option.bind_some, Bool.not_true, cond_false]
            rw [hS3 hK]
            simp only [Option.bind_some]
            exact ⟨W, hK, by rw [if_neg (by simp)]; rfl⟩
          · rw [if_pos (by omega), decide_eq_true (show (0 : Int) ≤ (x : Int) by omega), decide_eq_true (show (x : Int) ≤ (x : Int) by omega), decide_eq_true (show 8 * (x : Int) ≤ 140737488355328 by omega)]
            have hgd : ∀ {y : Option (Bool × List Int ⊕ List Int × Int × Int × Int × Int × Bool × Int × Int × Bool × List Int × List Int ⊕ List Int × Int × Int × Int × Int × Bool × List Int × List Int ⊕ List Int)}, gd (Nat.beq 1 (Sh.w (.int .u64)) && true && true && true && Nat.ble 1 8) y = y := rfl
            rw [hgd, hSt hK.len hk (by simp)]
            have hrep : (x : Int).toNat = x := Int.toNat_natCast x
            rw [hrep]
            by_cases hf : fst25 0 x W k ≠ 0
            · rw [if_pos hf]
              simp only [Option.bind_some]
              rw [if_pos trivial, hFr hK.len hk, if_neg hf]
              simp only [Option.bind_some]
              have hK' := hK.blit hk h3 (m := List.replicate (x + 1) 0) (by simp)
              rw [if_neg (by simp)]
              simp only [Option.bind_some, caseS_r, caseS_l]
              rw [hR hK']
              simp only [Option.bind_some]
              rw [if_neg (by simp), if_neg (by simp), hsame]
              simp only [Option.bind_some, Bool.not_true, cond_false]
              rw [hS3 hK']
              simp only [Option.bind_some]
              exact ⟨_, hK', by rw [if_neg (by simp)]; rfl⟩
            · rw [if_neg hf]
              simp only [Option.bind_some]
              have hK' := hK.blit hk h3 (m := (a1 + 1) :: List.replicate x 0) (by simp)
              rw [if_neg (by omega)]
              simp only [Option.bind_some, caseS_r, caseS_l]
              rw [hR hK']
              simp only [Option.bind_some]
              rw [if_neg (by simp), if_neg (by simp), hsame]
              simp only [Option.bind_some, Bool.not_true, cond_false]
              rw [hS3 hK']
              simp only [Option.bind_some]
              exact ⟨_, hK', by rw [if_neg (by simp)]; rfl⟩
        obtain ⟨W', h4, h5⟩ := step
        exact ⟨_, h5, ⟨i + 1, h, rfl, h4⟩, by simp; omega⟩
      · right
        refine ⟨.inr W, ?_, W, rfl, hK⟩
        simp only [D_law25_SlotsKeep_L0, cond_dec]
        rw [if_neg (by omega)])
    rw [hc]
    simp only [Option.bind_some, caseS_r]
    have hfr : D_slots_Slots_Free_2 3 0 n x ((n * (x + 1) : Nat) : Int) W2 = some (0, blit W2 (0 + 3 * (x + 1)) (x + 1) (List.replicate (x + 1) 0)) := by
      rw [show (3 : Int) = ((3 : Nat) : Int) from rfl, hFr hK2.len (by omega), if_neg (by rw [hK2.fst]; omega)]
    rw [hfr]
    simp only [Option.bind_some]
    have hl3' : (blit W2 (0 + 3 * (x + 1)) (x + 1) (List.replicate (x + 1) 0)).length = n * (x + 1) := by rw [blit_len (by rw [hK2.len]; omega), hK2.len]
    have hfr2 : D_slots_Slots_Free_2 3 0 n x ((n * (x + 1) : Nat) : Int) (blit W2 (0 + 3 * (x + 1)) (x + 1) (List.replicate (x + 1) 0)) = some (16, blit W2 (0 + 3 * (x + 1)) (x + 1) (List.replicate (x + 1) 0)) := by
      rw [show (3 : Int) = ((3 : Nat) : Int) from rfl, hFr hl3' (by omega), if_pos ?_]
      unfold fst25
      rw [List.getD_eq_getElem?_getD, blit_get (by rw [hK2.len]; omega) (by simp), if_pos (by omega), List.getElem?_replicate, if_pos (by omega)]
      rfl
    rw [if_pos trivial, hfr2]
    simp only [Option.bind_some]
    rw [if_pos trivial, goes25]
    rfl
  · have hs : ∀ {g : Bool → Option Bool}, (((cond (decide (a0 < 4))
    (some true)
    (cond (decide (20 < a0))
      (some true)
      (cond (decide (a1 < 0))
        (some true)
        (cond (decide (65536 ≤ a1))
          (some true)
          (cond (decide (((((List.length a2) : Nat) : Int)) < 1))
            (some true)
            (cond (decide (8 < ((((List.length a2) : Nat) : Int))))
              (some true)
              (some (decide (30 < ((((List.length a3) : Nat) : Int))))))))))) : Option (Bool))).bind g = g true := by
      intro g
      simp only [cond_dec]
      split
      · rfl
      split
      · rfl
      split
      · rfl
      split
      · rfl
      split
      · rfl
      split
      · rfl
      · rw [decide_eq_true (by omega)]
        rfl
    rw [hs, cond_true, goes25]
    rfl

/-! ### Slots that are there again -/
theorem fst_nn {F x : Nat} {W : List Int} (hW : ∀ n ∈ W, 0 ≤ n ∧ n ≤ 18446744073709551615) (k : Nat) : 0 ≤ fst25 F x W k := by
  unfold fst25
  rw [List.getD_eq_getElem?_getD]
  by_cases h : F + k * (x + 1) < W.length
  · rw [List.getElem?_eq_getElem h]
    exact (hW _ (List.getElem_mem h)).1
  · rw [List.getElem?_eq_none (by omega)]
    exact Int.le_refl _
theorem slots_Again_in {F n x g : Nat} {W : List Int} (h : Sl F n x g W) (hx : 1 ≤ x ∧ x ≤ 64) :
    (∃ k, k < n ∧ 65536 < fst25 F x W k ∧ (∀ j, j < k → ¬65536 < fst25 F x W j) ∧ D_slots_Again F n x g W = some (.inl 2)) ∨ ((∀ k, k < n → ¬65536 < fst25 F x W k) ∧ D_slots_Again F n x g W = some (.inr (F, n, x))) := by
  have he := h.e
  have hm := mul_in h.e hx.2
  have e : (n : Int) * ((x : Int) + 1) = ((n * (x + 1) : Nat) : Int) := by push_cast; rfl
  have hread : D_arena_Arena_Read F ((n * (x + 1) : Nat) : Int) g W = some (0, (W.drop F).take (n * (x + 1))) := by
    have := h.a
    have := h.b
    exact arena_Read_in (by omega) h.c
  have hopen : D_slots_Again F n x g W = (loopN (D_slots_Again_L0 F n x g W) BIG 0).bind fun r12 => caseS r12 (fun _ => some (.inl 2)) (fun _ => some (.inr ((F : Int), (n : Int), (x : Int)))) := by
    unfold D_slots_Again D_slots_place_size
    rw [place_may, decide_eq_true (show (0 : Int) ≤ n ∧ (n : Int) ≤ 1048576 ∧ (1 : Int) ≤ x ∧ (x : Int) ≤ 64 by omega)]
    simp only [Option.bind_some, Bool.not_true, cond_false, cond_dec]
    rw [wrap64 (n := (x : Int) + 1) (by omega), e, wrap64 (n := ((n * (x + 1) : Nat) : Int)) (by omega), hread]
    simp only [Option.bind_some]
    rw [if_neg (by simp)]
  have step : ∀ i : Nat, i < n → D_slots_Again_L0 F n x g W i = if 65536 < fst25 F x W i then some (.inr (.inl ())) else some (.inl ((i + 1 : Nat) : Int)) := by
    intro k hk
    have h1 := h.at hk
    have h2 := place_word h hk
    simp only [D_slots_Again_L0, cond_dec]
    rw [if_pos (by omega), h2]
    simp only [Option.bind_some]
    rw [arena_Get_in (by have := h.a; have := h.b; omega) h.c]
    simp only [Option.bind_some]
    rw [wrap64 (n := (k : Int) + 1) (by omega)]
    rfl
  rcases loop_first0 (f := D_slots_Again_L0 F n x g W) n (by omega) (fun i => 65536 < fst25 F x W i) (.inl ()) (.inr ()) (fun i hi hs => by rw [step i hi, if_neg hs]) (fun i hi hs => by rw [step i hi, if_pos hs]) (by
      simp only [D_slots_Again_L0, cond_dec]
      rw [if_neg (by omega)]) with ⟨k, h1, h2, h3, h4⟩ | ⟨h1, h2⟩
  · exact .inl ⟨k, h1, h2, h3, by rw [hopen, h4]; rfl⟩
  · exact .inr ⟨h1, by rw [hopen, h2]; rfl⟩

theorem law25_again (a0 : List Int) (a1 a2 a3 a4 : Int) (h1 : -9223372036854775808 ≤ a1 ∧ a1 ≤ 9223372036854775807) (h2 : -9223372036854775808 ≤ a2 ∧ a2 ≤ 9223372036854775807) (h3 : -9223372036854775808 ≤ a3 ∧ a3 ≤ 9223372036854775807) (h4 : 0 ≤ a4 ∧ a4 ≤ 255) (hl : ∀ n ∈ a0, 0 ≤ n ∧ n ≤ 18446744073709551615) (hlen : a0.length ≤ 9223372036854775807) :
    D_law25_SlotsAgain a0 a1 a2 a3 a4 = some true := by
  unfold D_law25_SlotsAgain
  by_cases c : 1 ≤ a0.length ∧ a0.length ≤ 300 ∧ (a2 ≤ 30 ∨ 1048576 < a2) ∧ (a3 ≤ 8 ∨ 64 < a3)
  · obtain ⟨c1, c2, c3, c4⟩ := c
    have hs : ∀ {g : Bool → Option Bool}, (((cond (decide (((((List.length a0) : Nat) : Int)) < 1))
    (some true)
    (cond (decide (300 < ((((List.length a0) : Nat) : Int))))
      (some true)
      (cond (decide (30 < a2))
        (cond (decide (a2 ≤ 1048576))
          (some true)
          (cond (decide (8 < a3))
            (some (decide (a3 ≤ 64)))
            (some false)))
        (cond (decide (8 < a3))
          (some (decide (a3 ≤ 64)))
          (some false))))) : Option (Bool))).bind g = g false := by
      intro g
      simp only [cond_dec]
      rw [if_neg (by omega), if_neg (by omega)]
      have h5 : (if 8 < a3 then some (decide (a3 ≤ 64)) else some false) = some false := by
        split
        · rw [decide_eq_false (by omega)]
        · rfl
      rw [h5]
      split
      · rw [if_neg (by omega)]; rfl
      · rfl
    rw [hs, cond_false, arena_From_in (by omega)]
    simp only [Option.bind_some, caseS_r]
    obtain ⟨G, hG, hG2⟩ : ∃ G : Nat, max (IntKind.i64.wrap ((a0.length : Int) - IntKind.i64.wrap (Int.tmod a4 8))) 0 = (G : Int) ∧ G ≤ a0.length := by
      rw [tmod_nn h4.1, wrap64 (n := a4 % 8) (by omega), wrap64 (by omega)]
      exact ⟨(max ((a0.length : Int) - a4 % 8) 0).toNat, by omega, by omega⟩
    rw [hG, arena_Take_in (by omega) (by omega)]
    simp only [Option.bind_some, cond_dec, Int.zero_add]
    rw [if_neg (by simp), ref25_May]
    by_cases hmay : 0 ≤ a2 ∧ a2 ≤ 1048576 ∧ 1 ≤ a3 ∧ a3 ≤ 64
    · obtain ⟨n, rfl⟩ := Int.eq_ofNat_of_zero_le hmay.1
      obtain ⟨x, rfl⟩ := Int.eq_ofNat_of_zero_le (show 0 ≤ a3 by omega)
      have hm : n * (x + 1) ≤ 270 := by
        have := Nat.mul_le_mul (show n ≤ 30 by omega) (show x + 1 ≤ 9 by omega)
        omega
      have e : (n : Int) * ((x : Int) + 1) = ((n * (x + 1) : Nat) : Int) := by push_cast; rfl
      rw [decide_eq_true hmay, wrap64 (n := (x : Int) + 1) (by omega), e, wrap64 (n := ((n * (x + 1) : Nat) : Int)) (by omega)]
      simp only [Option.bind_some, Bool.not_true, cond_false]
      by_cases hin : 0 ≤ a1 ∧ a1 ≤ G ∧ ((n * (x + 1) : Nat) : Int) ≤ G - a1
      · obtain ⟨F, rfl⟩ := Int.eq_ofNat_of_zero_le hin.1
        have hS : Sl F n x G a0 := ⟨by omega, by omega, by omega, by omega, by omega⟩
        have hrd : ∀ k, k < n → rd a0 (IntKind.i64.wrap ((F : Int) + IntKind.i64.wrap ((k : Int) * ((x : Int) + 1)))) = some (fst25 F x a0 k) := by
          intro k hk
          have h5 := hS.at hk
          have e : (k : Int) * ((x : Int) + 1) = ((k * (x + 1) : Nat) : Int) := by push_cast; rfl
          rw [e, wrap64 (n := ((k * (x + 1) : Nat) : Int)) (by omega), wrap64 (by omega)]
          exact rd_getD (i := F + k * (x + 1)) (by omega)
        have hnn := fun k => fst_nn (F := F) (x := x) hl k
        rcases slots_Again_in hS (by omega) with ⟨k, g1, g2, g3, g4⟩ | ⟨g1, g2⟩
        · rw [g4]
          simp only [Option.bind_some, caseS_l]
          rw [if_neg (by omega), if_neg (by omega), wrap64 (by omega), decide_eq_false (by omega)]
          simp only [Option.bind_some, cond_false]
          have hloop : loopN (D_law25_SlotsAgain_L0 a0 F n x 2) BIG (0, []) = some (.inl true) := by
            refine loop_nat (n := k) (fun i => (List.range i).map fun k => fst25 F x a0 k - 1) (by omega) ?_ ?_
            · intro i hi
              have h6 := g3 i hi
              have h7 := hnn i
              simp only [D_law25_SlotsAgain_L0, cond_dec]
              rw [if_pos (by omega), wrap64 (n := (x : Int) + 1) (by omega), hrd i (by omega)]
              simp only [Option.bind_some]
              rw [if_neg h6, gd_fits (by simp; omega) (by omega), wrap64 (n := fst25 F x a0 i) (by omega), wrap64 (n := fst25 F x a0 i - 1) (by omega), wrap64 (by omega), List.range_succ, List.map_append]
              rfl
            · simp only [D_law25_SlotsAgain_L0, cond_dec]
              rw [if_pos (by omega), wrap64 (n := (x : Int) + 1) (by omega), hrd k g1]
              simp only [Option.bind_some]
              rw [if_pos g2, if_pos trivial, goes25]
              rfl
          rw [hloop]
          rfl
        · rw [g2]
          simp only [Option.bind_some, caseS_r]
          rw [if_neg (by omega), if_neg (by omega), wrap64 (by omega), decide_eq_false (by omega)]
          simp only [Option.bind_some, cond_false]
          have hloop : loopN (D_law25_SlotsAgain_L1 a0 F n x) BIG (0, []) = some (.inr ((List.range n).map fun k => fst25 F x a0 k - 1)) := by
            refine loop_nat (n := n) (fun i => (List.range i).map fun k => fst25 F x a0 k - 1) (by omega) ?_ ?_
            · intro i hi
              have h6 := g1 i hi
              have h7 := hnn i
              simp only [D_law25_SlotsAgain_L1, cond_dec]
              rw [if_pos (by omega), wrap64 (n := (x : Int) + 1) (by omega), hrd i (by omega)]
              simp only [Option.bind_some]
              rw [if_neg h6, gd_fits (by simp; omega) (by omega), wrap64 (n := fst25 F x a0 i) (by omega), wrap64 (n := fst25 F x a0 i - 1) (by omega), wrap64 (by omega), List.range_succ, List.map_append]
              rfl
            · simp only [D_law25_SlotsAgain_L1, cond_dec]
              rw [if_neg (by omega)]
          rw [hloop]
          have hfb : ∀ k, k < n → 0 ≤ fst25 F x a0 k ∧ fst25 F x a0 k ≤ 65536 := fun k hk => ⟨hnn k, by have := g1 k hk; omega⟩
          simp only [Option.bind_some, caseS_r]
          rw [slots_Tags hS hfb]
          simp only [Option.bind_some]
          rw [ref07_Ints _ _ (by simp; omega) (by simp; omega), decide_eq_true rfl]
          simp only [Option.bind_some, Bool.not_true, cond_false]
          have hend : loopN (D_law25_SlotsAgain_L2 a0 F n x a0 (0, 0, G) (F, n, x) ((List.range n).map fun k => fst25 F x a0 k - 1)) BIG 0 = some (.inr ()) := by
            refine loop_nat0 (n := n) (by omega) ?_ ?_
            · intro k hk
              have h5 := hS.at hk
              have h6 := hfb k hk
              have e1 : (k : Int) * ((x : Int) + 1) = ((k * (x + 1) : Nat) : Int) := by push_cast; rfl
              have e2 : ((k : Int) + 1) * ((x : Int) + 1) = ((k * (x + 1) + (x + 1) : Nat) : Int) := by rw [Int.add_mul, e1]; omega
              have hget : ((List.range n).map fun k => fst25 F x a0 k - 1)[k]? = some (fst25 F x a0 k - 1) := by
                rw [List.getElem?_map, List.getElem?_range hk]; rfl
              simp only [D_law25_SlotsAgain_L2, cond_dec, List.length_map, List.length_range]
              rw [if_pos (by omega), slots_Restore hS hk h6]
              simp only [Option.bind_some]
              rw [ix_in hk]
              simp only [Option.bind_some]
              rw [hget]
              simp only [Option.bind_some]
              by_cases hz : fst25 F x a0 k = 0
              · rw [if_pos (by omega), if_pos hz, if_neg (by simp), if_neg (by omega), wrap64 (by omega)]
                rfl
              · rw [if_neg (by omega), if_neg hz, if_pos (by omega), if_neg (by simp), if_neg (by simp)]
                rw [wrap64 (n := (x : Int) + 1) (by omega), e1, wrap64 (n := (k : Int) + 1) (by omega), e2, wrap64 (n := ((k * (x + 1) : Nat) : Int)) (by omega), wrap64 (n := ((k * (x + 1) + (x + 1) : Nat) : Int)) (by omega), wrap64 (n := (F : Int) + ((k * (x + 1) : Nat) : Int)) (by omega), wrap64 (n := (F : Int) + ((k * (x + 1) : Nat) : Int) + 1) (by omega), wrap64 (n := (F : Int) + ((k * (x + 1) + (x + 1) : Nat) : Int)) (by omega), cutG_in (by omega), gd_true]
                have hcut : cutL a0 ((F : Int) + ((k * (x + 1) : Nat) : Int) + 1) ((F : Int) + ((k * (x + 1) + (x + 1) : Nat) : Int)) = (a0.drop (F + k * (x + 1) + 1)).take x := by
                  unfold cutL
                  rw [List.drop_take]
                  congr 1
                  omega
                rw [hcut, ref05_Same _ _ (by rw [List.length_take, List.length_drop]; omega) (by rw [List.length_take, List.length_drop]; omega), decide_eq_true rfl]
                rfl
            · simp only [D_law25_SlotsAgain_L2, cond_dec]
              rw [if_neg (by omega)]
          rw [hend]
          simp only [Option.bind_some, caseS_r]
          rw [goes25]
          rfl
      · have hA : D_slots_Again a1 n x G a0 = some (.inl 2) := by
          unfold D_slots_Again D_slots_place_size
          rw [place_may, decide_eq_true hmay]
          simp only [Option.bind_some, Bool.not_true, cond_false, cond_dec]
          rw [wrap64 (n := (x : Int) + 1) (by omega), e, wrap64 (n := ((n * (x + 1) : Nat) : Int)) (by omega)]
          have hR : D_arena_Arena_Read a1 ((n * (x + 1) : Nat) : Int) G a0 = some (2, []) := by
            unfold D_arena_Arena_Read
            simp only [cond_dec]
            by_cases q1 : a1 < 0
            · rw [if_pos q1]
            rw [if_neg q1, if_neg (by omega)]
            by_cases q2 : (G : Int) < a1
            · rw [if_pos q2]
            rw [if_neg q2, wrap64 (by omega), if_pos (by omega)]
          rw [hR]
          rfl
        rw [hA]
        simp only [Option.bind_some, caseS_l]
        have hs2 : ∀ {g : Bool → Option Bool}, ((if a1 < 0 then some true else if (G : Int) < a1 then some true else some (decide (IntKind.i64.wrap ((G : Int) - a1) < ((n * (x + 1) : Nat) : Int)))) : Option Bool).bind g = g true := by
          intro g
          by_cases q1 : a1 < 0
          · rw [if_pos q1]; rfl
          rw [if_neg q1]
          by_cases q2 : (G : Int) < a1
          · rw [if_pos q2]; rfl
          rw [if_neg q2, wrap64 (by omega), decide_eq_true (by omega)]
          rfl
        rw [hs2, cond_true, if_pos trivial, goes25]
        rfl
    · have hA : D_slots_Again a1 a2 a3 G a0 = some (.inl 2) := by
        unfold D_slots_Again
        rw [place_may, decide_eq_false hmay]
        rfl
      rw [hA, decide_eq_false hmay]
      simp only [Option.bind_some, caseS_l, Bool.not_false, cond_true]
      rw [if_pos trivial, goes25]
      rfl
  · have hs : ∀ {g : Bool → Option Bool}, (((cond (decide (((((List.length a0) : Nat) : Int)) < 1))
    (some true)
    (cond (decide (300 < ((((List.length a0) : Nat) : Int))))
      (some true)
      (cond (decide (30 < a2))
        (cond (decide (a2 ≤ 1048576))
          (some true)
          (cond (decide (8 < a3))
            (some (decide (a3 ≤ 64)))
            (some false)))
        (cond (decide (8 < a3))
          (some (decide (a3 ≤ 64)))
          (some false))))) : Option (Bool))).bind g = g true := by
      intro g
      simp only [cond_dec]
      by_cases q1 : (a0.length : Int) < 1
      · rw [if_pos q1]; rfl
      rw [if_neg q1]
      by_cases q2 : 300 < (a0.length : Int)
      · rw [if_pos q2]; rfl
      rw [if_neg q2]
      by_cases q3 : 30 < a2 ∧ a2 ≤ 1048576
      · rw [if_pos q3.1, if_pos q3.2]; rfl
      · have h5 : (if 8 < a3 then some (decide (a3 ≤ 64)) else some false) = some true := by
          rw [if_pos (by omega), decide_eq_true (by omega)]
        rw [h5]
        split
        · rw [if_neg (by omega)]; rfl
        · rfl
    rw [hs, cond_true, goes25]
    rfl
end Go.V
