/- The slots, played: the law as plain Lean. -/
import Derived.Test.YtppoeoleehiemabD25b
import Derived.Test.YtppoeoleehiemabV25
import Derived.KernelRfl
namespace Go.V
set_option linter.unusedVariables false
set_option linter.unusedSimpArgs false
open Go.Ab
set_option linter.unusedVariables false
set_option linter.unusedSimpArgs false

theorem goes25 : D_law25_goes = some true := by kernel_rfl
theorem ref05_Same (a b : List Int) (ha : a.length ≤ 1000000) (hb : b.length ≤ 1000000) : D_ref05_Same a b = some (decide (a = b)) := by
  unfold D_ref05_Same
  simp only [cond_dec]
  by_cases c1 : ((a.length : Nat) : Int) ≠ ((b.length : Nat) : Int)
  · rw [if_pos c1, decide_eq_false]
    intro e
    subst e
    exact c1 rfl
  · rw [if_neg c1]
    have hn : a.length = b.length := by omega
    by_cases e : a = b
    · subst e
      rw [loop_nat0 (n := a.length) (c := .inr ()) (by omega) ?_ ?_]
      · simp [caseS]
      · intro i hi
        simp only [D_ref05_Same_L0, cond_dec]
        rw [if_pos (by omega), rd_get hi]
        simp only [Option.bind_some]
        rw [if_neg (by simp), wrap64 (by omega)]
        rfl
      · simp only [D_ref05_Same_L0, cond_dec]
        rw [if_neg (by omega)]
    · -- the first place where they part
      have hex : ∃ i, ∃ h : i < a.length, a[i] ≠ b[i] ∧ ∀ j (h : j < i), a[j] = b[j] := by
        obtain ⟨i, hi, hne⟩ : ∃ i, ∃ h : i < a.length, a[i] ≠ b[i] := by
          apply Classical.byContradiction
          intro hno
          exact e (List.ext_getElem hn fun i h1 h2 => Classical.byContradiction fun h => hno ⟨i, h1, h⟩)
        induction i using Nat.strongRecOn with
        | ind i ih =>
          by_cases hj : ∃ j, ∃ h : j < i, a[j] ≠ b[j]
          · obtain ⟨j, h1, h2⟩ := hj
            exact ih j h1 (by omega) h2
          · exact ⟨i, hi, hne, fun j h => Classical.byContradiction fun h2 => hj ⟨j, h, h2⟩⟩
      obtain ⟨i, hi, hne, hall⟩ := hex
      rw [loop_nat0 (n := i) (c := .inl false) (by omega) ?_ ?_]
      · simp [caseS, e]
      · intro j hj
        simp only [D_ref05_Same_L0, cond_dec]
        rw [if_pos (by omega), rd_get (show j < a.length by omega), rd_get (show j < b.length by omega)]
        simp only [Option.bind_some]
        rw [if_neg (by simpa using hall j hj), wrap64 (by omega)]
        rfl
      · simp only [D_ref05_Same_L0, cond_dec]
        rw [if_pos (by omega), rd_get hi, rd_get (show i < b.length by omega)]
        simp only [Option.bind_some]
        rw [if_pos hne]

theorem ref07_Ints (a b : List Int) (ha : a.length ≤ 1000000) (hb : b.length ≤ 1000000) : D_ref07_Ints a b = some (decide (a = b)) := by
  unfold D_ref07_Ints
  simp only [cond_dec]
  by_cases c1 : ((a.length : Nat) : Int) ≠ ((b.length : Nat) : Int)
  · rw [if_pos c1, decide_eq_false]
    intro e
    subst e
    exact c1 rfl
  · rw [if_neg c1]
    have hn : a.length = b.length := by omega
    by_cases e : a = b
    · subst e
      rw [loop_nat0 (n := a.length) (c := .inr ()) (by omega) ?_ ?_]
      · simp [caseS]
      · intro i hi
        simp only [D_ref07_Ints_L0, cond_dec]
        rw [if_pos (by omega), rd_get hi]
        simp only [Option.bind_some]
        rw [if_neg (by simp), wrap64 (by omega)]
        rfl
      · simp only [D_ref07_Ints_L0, cond_dec]
        rw [if_neg (by omega)]
    · -- the first place where they part
      have hex : ∃ i, ∃ h : i < a.length, a[i] ≠ b[i] ∧ ∀ j (h : j < i), a[j] = b[j] := by
        obtain ⟨i, hi, hne⟩ : ∃ i, ∃ h : i < a.length, a[i] ≠ b[i] := by
          apply Classical.byContradiction
          intro hno
          exact e (List.ext_getElem hn fun i h1 h2 => Classical.byContradiction fun h => hno ⟨i, h1, h⟩)
        induction i using Nat.strongRecOn with
        | ind i ih =>
          by_cases hj : ∃ j, ∃ h : j < i, a[j] ≠ b[j]
          · obtain ⟨j, h1, h2⟩ := hj
            exact ih j h1 (by omega) h2
          · exact ⟨i, hi, hne, fun j h => Classical.byContradiction fun h2 => hj ⟨j, h, h2⟩⟩
      obtain ⟨i, hi, hne, hall⟩ := hex
      rw [loop_nat0 (n := i) (c := .inl false) (by omega) ?_ ?_]
      · simp [caseS, e]
      · intro j hj
        simp only [D_ref07_Ints_L0, cond_dec]
        rw [if_pos (by omega), rd_get (show j < a.length by omega), rd_get (show j < b.length by omega)]
        simp only [Option.bind_some]
        rw [if_neg (by simpa using hall j hj), wrap64 (by omega)]
        rfl
      · simp only [D_ref07_Ints_L0, cond_dec]
        rw [if_pos (by omega), rd_get hi, rd_get (show i < b.length by omega)]
        simp only [Option.bind_some]
        rw [if_pos hne]

theorem arena_right (a : Int) : D_arena_right a = some (if a < 1 then 2 else if 1048576 < a then 12 else 0) := by
  unfold D_arena_right
  simp only [cond_dec]
  split
  · rfl
  split <;> rfl
theorem arena_New_in {a : Int} (h : 1 ≤ a ∧ a ≤ 1048576) : D_arena_New a = some (.inr (List.replicate a.toNat 0)) := by
  unfold D_arena_New
  rw [arena_right, if_neg (by omega), if_neg (by omega)]
  simp only [Option.bind_some, cond_dec]
  rw [if_neg (by omega), decide_eq_true (show 0 ≤ a by omega), decide_eq_true (show a ≤ a by omega), decide_eq_true (show 8 * a ≤ 140737488355328 by omega)]
  rfl
theorem arena_Image (g : Int) {w : List Int} (h : w.length ≤ 1048576) : D_arena_Arena_Image g w = some w := by
  unfold D_arena_Arena_Image D_slices_Clone_uint64_uint64
  rw [gd_fits (by omega) (by omega)]
  rfl

theorem arena_Take_in {n g : Int} {w : List Int} (h : 0 ≤ n ∧ 0 ≤ g ∧ g + n ≤ w.length) (hw : w.length ≤ 1048576) : D_arena_Arena_Take n g w = some (g, 0, g + n) := by
  unfold D_arena_Arena_Take D_arena_Arena_Left
  simp only [Option.bind_some, cond_dec]
  rw [if_neg (by omega), wrap64 (by omega), if_neg (by omega), wrap64 (by omega)]
theorem arena_Write_in {b g : Int} {p w : List Int} (h : 0 ≤ b ∧ b + p.length ≤ g ∧ g ≤ w.length) (hw : w.length ≤ 1048576) : D_arena_Arena_Write b p g w = some (0, blit w b.toNat p.length p) := by
  unfold D_arena_Arena_Write
  simp only [cond_dec]
  rw [if_neg (by omega), if_neg (by omega), if_neg (by omega), wrap64 (by omega), if_neg (by omega), wrap64 (by omega), cutG_in (by omega), gd_true, show (b + (p.length : Int)).toNat - b.toNat = p.length by omega]

/-! ### Words of an arena -/
theorem arena_Get_in {a g : Nat} {w : List Int} (h : a < g ∧ g ≤ w.length) (hw : w.length ≤ 1048576) : D_arena_Arena_Get a g w = some (w.getD a 0, 0) := by
  unfold D_arena_Arena_Get D_slices_Clone_uint64_uint64
  simp only [cond_dec]
  rw [if_neg (by omega), if_neg (by omega), wrap64 (by omega), if_neg (by omega), wrap64 (by omega), cutG_in (by omega), gd_true]
  rw [show ((a : Int) + 1).toNat - (a : Int).toNat = 1 by omega, Int.toNat_natCast, gd_fits (by rw [List.length_take]; omega) (by omega)]
  simp only [Option.bind_some]
  have hl : ((w.drop a).take 1).length = 1 := by rw [List.length_take, List.length_drop]; omega
  rw [hl, show ix 0 1 = some 0 from rfl]
  simp only [Option.bind_some]
  rw [List.getElem?_take_of_lt (by omega), List.getElem?_drop, Nat.add_zero, List.getD_eq_getElem?_getD, List.getElem?_eq_getElem (show a < w.length by omega)]
  rfl
theorem arena_Read_in {a n g : Nat} {w : List Int} (h : a + n ≤ g ∧ g ≤ w.length) (hw : w.length ≤ 1048576) : D_arena_Arena_Read a n g w = some (0, (w.drop a).take n) := by
  unfold D_arena_Arena_Read D_slices_Clone_uint64_uint64
  simp only [cond_dec]
  rw [if_neg (by omega), if_neg (by omega), if_neg (by omega), wrap64 (by omega), if_neg (by omega), wrap64 (by omega), cutG_in (by omega), gd_true]
  rw [show ((a : Int) + (n : Int)).toNat - (a : Int).toNat = n by omega, Int.toNat_natCast, gd_fits (by rw [List.length_take, List.length_drop]; omega) (by omega)]
  rfl

/-! ### Slots -/
/-- Slots that stand within what is given out. -/
structure Sl (F n x g : Nat) (W : List Int) : Prop where
  a : F + n * (x + 1) ≤ g
  b : g ≤ W.length
  c : W.length ≤ 1048576
  d : x ≤ 1000
  e : n ≤ 1048576
theorem Sl.at {F n x g : Nat} {W : List Int} (h : Sl F n x g W) {k : Nat} (hk : k < n) : k * (x + 1) + (x + 1) ≤ n * (x + 1) := by
  have := Nat.mul_le_mul_right (x + 1) (show k + 1 ≤ n from hk)
  rwa [Nat.succ_mul] at this
theorem place_word {F n x g : Nat} {W : List Int} (h : Sl F n x g W) {k : Nat} (hk : k < n) : D_slots_place_word F n x k = some ((F + k * (x + 1) : Nat) : Int) := by
  have h1 := h.at hk
  obtain ⟨ha, hb, hc, hd, he⟩ := h
  unfold D_slots_place_word D_slots_place_size
  simp only [Option.bind_some]
  have e : (k : Int) * ((x : Int) + 1) = ((k * (x + 1) : Nat) : Int) := by push_cast; rfl
  rw [wrap64 (n := (x : Int) + 1) (by omega), e, wrap64 (n := ((k * (x + 1) : Nat) : Int)) (by omega), wrap64 (by omega)]
  congr 1
theorem place_has {F n x : Nat} {k : Nat} (hk : k < n) : D_slots_place_has F n x k = some true := by
  unfold D_slots_place_has
  simp only [cond_dec]
  rw [if_pos (by omega), decide_eq_true (by omega)]
/-- The first word of a slot. -/
def fst25 (F x : Nat) (W : List Int) (k : Nat) : Int := W.getD (F + k * (x + 1)) 0
theorem slots_Store {F n x g : Nat} {W : List Int} (h : Sl F n x g W) {k : Nat} (hk : k < n) {tag : Int} (ht : 0 ≤ tag ∧ tag < 65536) {l : List Int} (hl : l.length = x) :
    D_slots_Slots_Store k tag l F n x g W = some (if fst25 F x W k ≠ 0 then (15, W) else (0, blit W (F + k * (x + 1)) (x + 1) ((tag + 1) :: l))) := by
  have h1 := h.at hk
  have h2 := place_word h hk
  obtain ⟨ha, hb, hc, hd, he⟩ := h
  unfold fst25 at *
  generalize k * (x + 1) = q at *
  generalize n * (x + 1) = N at *
  unfold D_slots_Slots_Store
  rw [place_has hk, h2]
  simp only [Option.bind_some, cond_dec, Bool.not_true, cond_false]
  rw [arena_Get_in (by omega) hc]
  simp only [Option.bind_some, cond_dec, Bool.not_true, cond_false]
  rw [if_neg (by omega), decide_eq_false (show ¬65536 ≤ tag by omega)]
  simp only [Option.bind_some, cond_false]
  rw [if_neg (by omega)]
  show (if W.getD (F + q) 0 ≠ 0 then _ else _) = _
  by_cases c : W.getD (F + q) 0 ≠ 0
  · rw [if_pos c, if_pos c]
  · rw [if_neg c, if_neg c, gd_fits (by omega) (by omega), wrap64 (by omega), wrapU_in (by omega), arena_Write_in (by simp; omega) hc]
    simp only [Option.bind_some, Int.toNat_natCast, List.length_append, List.length_cons, List.length_nil, List.singleton_append]
    rw [show l.length + 1 = x + 1 by omega]
theorem slots_Restore {F n x g : Nat} {W : List Int} (h : Sl F n x g W) {k : Nat} (hk : k < n) (hf : 0 ≤ fst25 F x W k ∧ fst25 F x W k ≤ 65536) :
    D_slots_Slots_Restore k F n x g W = some (if fst25 F x W k = 0 then (0, 16, []) else (fst25 F x W k - 1, 0, (W.drop (F + k * (x + 1) + 1)).take x)) := by
  have h1 := h.at hk
  have h2 := place_word h hk
  obtain ⟨ha, hb, hc, hd, he⟩ := h
  unfold fst25 at *
  generalize k * (x + 1) = q at *
  generalize n * (x + 1) = N at *
  unfold D_slots_Slots_Restore
  rw [place_has hk, h2]
  simp only [Option.bind_some, cond_dec, Bool.not_true, cond_false]
  rw [arena_Get_in (by omega) hc]
  simp only [Option.bind_some, cond_dec, Bool.not_true, cond_false]
  show (if W.getD (F + q) 0 = 0 then _ else _) = _
  by_cases c : W.getD (F + q) 0 = 0
  · rw [if_pos c, if_pos c]
  · have e : ((F + q : Nat) : Int) + 1 = ((F + q + 1 : Nat) : Int) := by omega
    rw [if_neg c, if_neg c, wrap64 (n := ((F + q : Nat) : Int) + 1) (by omega), e, arena_Read_in (by omega) hc]
    simp only [Option.bind_some]
    show some (IntKind.i64.wrap (IntKind.i64.wrap (W.getD (F + q) 0) - 1), _, _) = _
    rw [wrap64 (n := W.getD (F + q) 0) (by omega), wrap64 (by omega)]
theorem slots_Free {F n x g : Nat} {W : List Int} (h : Sl F n x g W) {k : Nat} (hk : k < n) :
    D_slots_Slots_Free k F n x g W = some (if fst25 F x W k = 0 then (16, W) else (0, blit W (F + k * (x + 1)) (x + 1) (List.replicate (x + 1) 0))) := by
  have h1 := h.at hk
  have h2 := place_word h hk
  obtain ⟨ha, hb, hc, hd, he⟩ := h
  unfold D_slots_Slots_Free
  rw [place_has hk, h2]
  simp only [Option.bind_some, cond_dec, Bool.not_true, cond_false]
  rw [arena_Get_in (by omega) hc]
  simp only [Option.bind_some, cond_dec, Bool.not_true, cond_false]
  show (if fst25 F x W k = 0 then _ else _) = _
  by_cases c : fst25 F x W k = 0
  · rw [if_pos c, if_pos c]
  · rw [if_neg c, if_neg c]
    unfold D_slots_place_size
    simp only [Option.bind_some]
    rw [wrap64 (by omega), decide_eq_true (show (0 : Int) ≤ (x : Int) + 1 by omega), decide_eq_true (show (x : Int) + 1 ≤ (x : Int) + 1 by omega), decide_eq_true (show 8 * ((x : Int) + 1) ≤ 140737488355328 by omega)]
    show gd true _ = _
    rw [gd_true, show ((x : Int) + 1).toNat = x + 1 by omega, arena_Write_in (by rw [List.length_replicate]; omega) hc]
    simp only [Option.bind_some, Int.toNat_natCast, List.length_replicate]
theorem slots_Tags {F n x g : Nat} {W : List Int} (h : Sl F n x g W) (hf : ∀ k, k < n → 0 ≤ fst25 F x W k ∧ fst25 F x W k ≤ 65536) :
    D_slots_Slots_Tags F n x g W = some ((List.range n).map fun k => fst25 F x W k - 1) := by
  unfold D_slots_Slots_Tags
  have hl : loopN (D_slots_Slots_Tags_L0 F n x g W) BIG (0, []) = some ((List.range n).map fun k => fst25 F x W k - 1) := by
    refine loop_nat (n := n) (fun i => (List.range i).map fun k => fst25 F x W k - 1) (by have := h.e; omega) ?_ ?_
    · intro k hk
      have h1 := h.at hk
      have h2 := place_word h hk
      have hf := hf k hk
      obtain ⟨ha, hb, hc, hd, he⟩ := h
      simp only [D_slots_Slots_Tags_L0, cond_dec]
      rw [if_pos (by omega), h2]
      simp only [Option.bind_some]
      rw [arena_Get_in (by omega) hc]
      simp only [Option.bind_some]
      rw [gd_fits (by simp; omega) (by omega)]
      show some (Sum.inl (_, _ ++ [IntKind.i64.wrap (IntKind.i64.wrap (fst25 F x W k) - 1)])) = _
      rw [wrap64 (n := fst25 F x W k) (by omega), wrap64 (n := fst25 F x W k - 1) (by omega), wrap64 (by omega), List.range_succ, List.map_append]
      rfl
    · simp only [D_slots_Slots_Tags_L0, cond_dec]
      rw [if_neg (by omega)]
  rw [hl]
  rfl
theorem place_may (f n x : Int) : D_slots_place_may f n x = some (decide (0 ≤ n ∧ n ≤ 1048576 ∧ 1 ≤ x ∧ x ≤ 64)) := by
  unfold D_slots_place_may
  simp only [cond_dec]
  by_cases h1 : 0 ≤ n
  · by_cases h2 : n ≤ 1048576
    · by_cases h3 : 1 ≤ x
      · simp [h1, h2, h3]
      · simp [h1, h2, h3]
    · simp [h1, h2]
  · simp [h1]
theorem mul_in {n x : Nat} (hn : n ≤ 1048576) (hx : x ≤ 64) : n * (x + 1) ≤ 68157440 := by
  have := Nat.mul_le_mul hn (show x + 1 ≤ 65 by omega)
  omega

/-- New slots. -/
theorem slots_New {n x g : Nat} {W : List Int} (hn : n ≤ 1048576) (hx : 1 ≤ x ∧ x ≤ 64) (hW : g + n * (x + 1) ≤ W.length) (hW2 : W.length ≤ 1048576) :
    D_slots_New_2 n x g W = some (.inr ((g + n * (x + 1) : Nat), blit W g (n * (x + 1)) (List.replicate (n * (x + 1)) 0), g, n, x)) := by
  have hm := mul_in hn hx.2
  unfold D_slots_New_2
  rw [place_may, decide_eq_true (show (0 : Int) ≤ n ∧ (n : Int) ≤ 1048576 ∧ (1 : Int) ≤ x ∧ (x : Int) ≤ 64 by omega)]
  unfold D_slots_place_size
  simp only [Option.bind_some, Bool.not_true, cond_false, cond_dec]
  have e : (n : Int) * ((x : Int) + 1) = ((n * (x + 1) : Nat) : Int) := by push_cast; rfl
  rw [wrap64 (n := (x : Int) + 1) (by omega), e, wrap64 (n := ((n * (x + 1) : Nat) : Int)) (by omega)]
  generalize n * (x + 1) = m at *
  rw [arena_Take_in (by omega) hW2]
  simp only [Option.bind_some]
  rw [if_neg (by omega), decide_eq_true (show (0 : Int) ≤ m by omega), decide_eq_true (show (m : Int) ≤ m by omega), decide_eq_true (show 8 * (m : Int) ≤ 140737488355328 by omega)]
  show gd true _ = _
  rw [gd_true, Int.toNat_natCast, arena_Write_in (by rw [List.length_replicate]; omega) hW2, List.length_replicate]
  simp only [Option.bind_some, Int.toNat_natCast]
  rw [show (g : Int) + (m : Int) = ((g + m : Nat) : Int) by omega]
theorem place_has' {F n x : Nat} (k : Int) : D_slots_place_has F n x k = some (decide (0 ≤ k ∧ k < n)) := by
  unfold D_slots_place_has
  simp only [cond_dec]
  by_cases h : 0 ≤ k
  · rw [if_pos h]
    simp [h]
  · rw [if_neg h]
    simp [h]

/-! ### The document's slots -/
abbrev SL := Int × List Int
def OkS (x : Nat) (s : SL) : Prop := s.1 = -1 ∨ (0 ≤ s.1 ∧ s.1 < 65536 ∧ s.2.length = x)
def tl25 (x : Nat) (s : SL) : List Int := if 0 ≤ s.1 then s.2 else List.replicate x 0
def enc25 (x : Nat) (s : SL) : List Int := (s.1 + 1) :: tl25 x s
theorem tl25_len {x : Nat} {s : SL} (h : OkS x s) : (tl25 x s).length = x := by
  unfold tl25
  rcases h with h | h
  · rw [if_neg (by omega), List.length_replicate]
  · rw [if_pos h.1, h.2.2]
theorem enc25_len {x : Nat} {s : SL} (h : OkS x s) : (enc25 x s).length = x + 1 := by
  unfold enc25
  rw [List.length_cons, tl25_len h]
def WD25 (x : Nat) (R : List SL) : List Int := R.flatMap (enc25 x)
theorem WD25_len {x : Nat} : ∀ {R : List SL}, (∀ s ∈ R, OkS x s) → (WD25 x R).length = R.length * (x + 1)
  | [], _ => by simp [WD25]
  | s :: R, h => by
    have := WD25_len (R := R) fun t ht => h t (List.mem_cons_of_mem _ ht)
    unfold WD25 at *
    rw [List.flatMap_cons, List.length_append, this, enc25_len (h s List.mem_cons_self), List.length_cons, Nat.succ_mul]
    omega
theorem WD25_get {x : Nat} : ∀ {R : List SL}, (∀ s ∈ R, OkS x s) → ∀ (k : Nat) (hk : k < R.length) (i : Nat), i < x + 1 → (WD25 x R)[k * (x + 1) + i]? = some ((enc25 x R[k]).getD i 0)
  | s :: R, h, 0, hk, i, hi => by
    unfold WD25
    have hl := enc25_len (h s List.mem_cons_self)
    rw [List.flatMap_cons, Nat.zero_mul, Nat.zero_add, List.getElem?_append_left (by omega), List.getElem_cons_zero, List.getD_eq_getElem?_getD, List.getElem?_eq_getElem (by omega)]
    rfl
  | s :: R, h, k + 1, hk, i, hi => by
    have hl := enc25_len (h s List.mem_cons_self)
    have ih := WD25_get (R := R) (fun t ht => h t (List.mem_cons_of_mem _ ht)) k (by simpa using hk) i hi
    unfold WD25 at *
    rw [List.flatMap_cons, List.getElem?_append_right (by rw [hl, Nat.succ_mul]; omega), hl, show (k + 1) * (x + 1) + i - (x + 1) = k * (x + 1) + i by rw [Nat.succ_mul]; omega, ih]
    rfl
theorem ref25_New (n x : Nat) (hn : n ≤ 1000) : D_ref25_New n x = some ((x : Int), List.replicate n (-1, [])) := by
  unfold D_ref25_New
  have hl : loopN (D_ref25_New_L0 n) BIG (0, (x : Int), []) = some ((x : Int), List.replicate n (-1, [])) := by
    refine loop_nat (n := n) (fun i => ((x : Int), List.replicate i ((-1 : Int), ([] : List Int)))) (by omega) ?_ ?_
    · intro i hi
      simp only [D_ref25_New_L0, cond_dec]
      rw [if_pos (by omega), gd_fits (by simp; omega) (by omega), wrap64 (by omega), List.replicate_succ']
      rfl
    · simp only [D_ref25_New_L0, cond_dec]
      rw [if_neg (by omega)]
  rw [hl]
  rfl
theorem ref25_with (R : List SL) (x k : Nat) (tag : Int) (l : List Int) (hR : R.length ≤ 1000) : D_ref25_with R x k tag l = some ((x : Int), R.set k (tag, l)) := by
  unfold D_ref25_with
  have hl : loopN (D_ref25_with_L0 k) BIG (0, (x : Int), R, (x : Int), tag, l, []) = some ((x : Int), R, (x : Int), tag, l, R.set k (tag, l)) := by
    have h := loop_nat (f := D_ref25_with_L0 k) (n := R.length) (fun i => ((x : Int), R, (x : Int), tag, l, (R.set k (tag, l)).take i)) (c := ((x : Int), R, (x : Int), tag, l, R.set k (tag, l))) (by omega) ?_ ?_
    · exact h
    · intro i hi
      have hi' : i < (R.set k (tag, l)).length := by rw [List.length_set]; exact hi
      simp only [D_ref25_with_L0, cond_dec]
      rw [if_pos (by omega), gd_fits (by rw [List.length_take, List.length_set]; omega) (by omega), wrap64 (by omega), List.take_succ_eq_append_getElem hi', List.getElem_set]
      by_cases c : (i : Int) = k
      · have : k = i := by omega
        rw [if_pos c, if_pos this]
        rfl
      · have : ¬k = i := by omega
        rw [if_neg c, if_neg this, rd_get hi]
        simp only [Option.bind_some]
        rw [gd_fits (by rw [List.length_take, List.length_set]; omega) (by omega)]
        rfl
    · simp only [D_ref25_with_L0, cond_dec]
      rw [if_neg (by omega), List.take_of_length_le (by rw [List.length_set]; omega)]
  rw [hl]
  rfl
theorem ref25_Tags (R : List SL) (x : Int) (hR : R.length ≤ 1000) : D_ref25_Tags R x = some (R.map (·.1)) := by
  unfold D_ref25_Tags
  have hl : loopN (D_ref25_Tags_L0 R) BIG (0, []) = some (R.map (·.1)) := by
    have h := loop_nat (f := D_ref25_Tags_L0 R) (n := R.length) (fun i => (R.take i).map (·.1)) (c := R.map (·.1)) (by omega) ?_ ?_
    · exact h
    · intro i hi
      simp only [D_ref25_Tags_L0, cond_dec]
      rw [if_pos (by omega), rd_get hi]
      simp only [Option.bind_some]
      rw [gd_fits (by rw [List.length_map, List.length_take]; omega) (by omega), wrap64 (by omega), List.take_succ_eq_append_getElem hi, List.map_append]
      rfl
    · simp only [D_ref25_Tags_L0, cond_dec]
      rw [if_neg (by omega), List.take_of_length_le (by omega)]
  rw [hl]
  rfl
theorem least_eq (R : List SL) (x : Int) {F n y g : Int} {W : List Int} (h : D_slots_Slots_Tags F n y g W = some (R.map (·.1))) : D_slots_Slots_Least F n y g W = D_ref25_Least R x := by
  unfold D_slots_Slots_Least D_ref25_Least
  rw [h]
  simp only [Option.bind_some]
  have hf : D_slots_Slots_Least_L0 (R.map (·.1)) = D_ref25_Least_L0 R := by
    funext s
    simp only [D_slots_Slots_Least_L0, D_ref25_Least_L0, List.length_map]
    by_cases c : s < (R.length : Int)
    · rw [decide_eq_true c, cond_true, cond_true]
      by_cases c0 : 0 ≤ s
      · obtain ⟨i, rfl⟩ := Int.eq_ofNat_of_zero_le c0
        have hi : i < R.length := by omega
        rw [show ((i : Nat) : Int) = (i : Int) from rfl, ix_in hi, rd_get hi]
        simp only [Option.bind_some]
        rw [List.getElem?_map, List.getElem?_eq_getElem hi]
        rfl
      · have e1 : ix s R.length = none := by unfold ix; rw [decide_eq_false c0]; rfl
        have e2 : rd R s = none := by unfold rd; rw [decide_eq_false c0]; rfl
        rw [e1, e2]
        rfl
    · rw [decide_eq_false c]
      rfl
  rw [hf]
theorem used_eq (R : List SL) (x : Int) {F n y g : Int} {W : List Int} (h : D_slots_Slots_Tags F n y g W = some (R.map (·.1))) : D_slots_Slots_Used F n y g W = D_ref25_Used R x := by
  unfold D_slots_Slots_Used D_ref25_Used
  rw [h]
  simp only [Option.bind_some]
  have hf : D_slots_Slots_Used_L0 (R.map (·.1)) = D_ref25_Used_L0 R := by
    funext s
    simp only [D_slots_Slots_Used_L0, D_ref25_Used_L0, List.length_map]
    by_cases c : s.1 < (R.length : Int)
    · rw [decide_eq_true c, cond_true, cond_true]
      by_cases c0 : 0 ≤ s.1
      · obtain ⟨i, hi0⟩ := Int.eq_ofNat_of_zero_le c0
        have hi : i < R.length := by omega
        rw [hi0, ix_in hi, rd_get hi]
        simp only [Option.bind_some]
        rw [List.getElem?_map, List.getElem?_eq_getElem hi]
        rfl
      · have e1 : ix s.1 R.length = none := by unfold ix; rw [decide_eq_false c0]; rfl
        have e2 : rd R s.1 = none := by unfold rd; rw [decide_eq_false c0]; rfl
        rw [e1, e2]
        rfl
    · rw [decide_eq_false c]
      rfl
  rw [hf]
theorem ref25_Least_some (R : List SL) (x : Int) (hR : R.length ≤ 1000) : ∃ p, D_ref25_Least R x = some p := by
  unfold D_ref25_Least
  obtain ⟨c, hc, _⟩ := loop_inv (f := D_ref25_Least_L0 R) (a := (0 : Int)) (fun s => ∃ i : Nat, i ≤ R.length ∧ s = i) (fun s => R.length - s.toNat) (fun _ => True) ⟨0, Nat.zero_le _, rfl⟩ (by simp; omega) (by
    rintro _ ⟨i, hi, rfl⟩
    simp only [D_ref25_Least_L0, cond_dec]
    by_cases h : i < R.length
    · rw [if_pos (by omega), rd_get h]
      simp only [Option.bind_some]
      by_cases c : R[i].1 < 0
      · rw [if_pos c]
        exact .inr ⟨_, rfl, trivial⟩
      · rw [if_neg c, wrap64 (by omega)]
        exact .inl ⟨_, rfl, ⟨i + 1, h, rfl⟩, by omega⟩
    · rw [if_neg (by omega)]
      exact .inr ⟨_, rfl, trivial⟩)
  rw [hc]
  cases c with
  | inl u => exact ⟨_, rfl⟩
  | inr u => exact ⟨_, rfl⟩
theorem ref25_Used_some (R : List SL) (x : Int) (hR : R.length ≤ 1000) : ∃ p, D_ref25_Used R x = some p := by
  unfold D_ref25_Used
  obtain ⟨c, hc, _⟩ := loop_inv (f := D_ref25_Used_L0 R) (a := ((0 : Int), (0 : Int))) (fun s => ∃ i : Nat, i ≤ R.length ∧ s.1 = i) (fun s => R.length - s.1.toNat) (fun _ => True) ⟨0, Nat.zero_le _, rfl⟩ (by simp; omega) (by
    rintro ⟨_, m⟩ ⟨i, hi, rfl⟩
    simp only [D_ref25_Used_L0, cond_dec]
    by_cases h : i < R.length
    · rw [if_pos (by omega), rd_get h]
      simp only [Option.bind_some]
      rw [wrap64 (n := (i : Int) + 1) (by omega)]
      split
      · exact .inl ⟨_, rfl, ⟨i + 1, h, rfl⟩, by simp; omega⟩
      · exact .inl ⟨_, rfl, ⟨i + 1, h, rfl⟩, by simp; omega⟩
    · rw [if_neg (by omega)]
      exact .inr ⟨_, rfl, trivial⟩)
  rw [hc]
  exact ⟨_, rfl⟩
theorem ref25_Words (R : List SL) (x : Nat) (hR : R.length ≤ 1000) (hx : x ≤ 64) (hok : ∀ s ∈ R, OkS x s) : D_ref25_Words R x = some (WD25 x R) := by
  unfold D_ref25_Words
  have hlen : ∀ i, (WD25 x (R.take i)).length ≤ 65000 := by
    intro i
    rw [WD25_len fun s hs => hok s (List.mem_of_mem_take hs), List.length_take]
    have := Nat.mul_le_mul (show min i R.length ≤ 1000 by omega) (show x + 1 ≤ 65 by omega)
    omega
  have hl : loopN (D_ref25_Words_L1 R x) BIG (0, []) = some (WD25 x R) := by
    have h := loop_nat (f := D_ref25_Words_L1 R x) (n := R.length) (fun i => WD25 x (R.take i)) (c := WD25 x R) (by omega) ?_ ?_
    · exact h
    · intro i hi
      have hs := hok _ (List.getElem_mem hi)
      have ht : -1 ≤ R[i].1 ∧ R[i].1 < 65536 := by rcases hs with h | h <;> omega
      have hli := hlen i
      have htl := tl25_len hs
      simp only [D_ref25_Words_L1, cond_dec]
      rw [if_pos (by omega), rd_get hi]
      simp only [Option.bind_some]
      rw [gd_fits (by omega) (by omega), wrap64 (n := R[i].1 + 1) (by omega), wrapU_in (by omega)]
      have hin : loopN (D_ref25_Words_L0 R x ((i : Int), WD25 x (R.take i))) BIG (0, WD25 x (R.take i) ++ [R[i].1 + 1]) = some (WD25 x (R.take i) ++ [R[i].1 + 1] ++ tl25 x R[i]) := by
        have h2 := loop_nat (f := D_ref25_Words_L0 R x ((i : Int), WD25 x (R.take i))) (n := x) (fun j => WD25 x (R.take i) ++ [R[i].1 + 1] ++ (tl25 x R[i]).take j) (c := WD25 x (R.take i) ++ [R[i].1 + 1] ++ tl25 x R[i]) (by omega) ?_ ?_
        · rw [List.take_zero, List.append_nil] at h2
          exact h2
        · intro j hj
          have hj' : j < (tl25 x R[i]).length := by omega
          have hv : (tl25 x R[i])[j] = if 0 ≤ R[i].1 then R[i].2.getD j 0 else 0 := by
            have e : (tl25 x R[i])[j] = (tl25 x R[i]).getD j 0 := by
              rw [List.getD_eq_getElem?_getD, List.getElem?_eq_getElem hj']
              rfl
            rw [e]
            unfold tl25
            split
            · rfl
            · rw [List.getD_eq_getElem?_getD, List.getElem?_replicate, if_pos hj]
              rfl
          simp only [D_ref25_Words_L0, cond_dec]
          rw [if_pos (by omega), rd_get hi]
          simp only [Option.bind_some]
          have hval : (if 0 ≤ R[i].1 then (rd R[i].2 (j : Int)).bind fun x11 => some x11 else some 0) = some (tl25 x R[i])[j] := by
            rw [hv]
            split
            · rename_i c
              have hsl : R[i].2.length = x := by
                rcases hs with h | h
                · omega
                · exact h.2.2
              rw [rd_getD (by omega)]
              rfl
            · rfl
          rw [hval]
          simp only [Option.bind_some]
          rw [gd_fits (by simp; omega) (by omega), wrap64 (by omega), List.take_succ_eq_append_getElem hj', ← List.append_assoc]
          rfl
        · simp only [D_ref25_Words_L0, cond_dec]
          rw [if_neg (by omega), List.take_of_length_le (l := tl25 x R[i]) (by omega)]
      rw [hin]
      simp only [Option.bind_some]
      rw [wrap64 (by omega)]
      have hw : WD25 x (R.take (i + 1)) = WD25 x (R.take i) ++ [R[i].1 + 1] ++ tl25 x R[i] := by
        unfold WD25
        rw [List.take_succ_eq_append_getElem hi, List.flatMap_append, List.append_assoc]
        simp [enc25]
      rw [hw]
      rfl
    · simp only [D_ref25_Words_L1, cond_dec]
      rw [if_neg (by omega), List.take_of_length_le (by omega)]
  rw [hl]
  rfl

/-! ### Both, side by side -/
structure Inv25 (F n x : Nat) (W : List Int) (R : List SL) : Prop where
  len : W.length = F + n * (x + 1) + 3
  rl : R.length = n
  ok : ∀ s ∈ R, OkS x s
  at' : ∀ (k : Nat) (hk : k < R.length) (i : Nat), i < x + 1 → W[F + k * (x + 1) + i]? = some ((enc25 x R[k]).getD i 0)
theorem Inv25.fst {F n x : Nat} {W : List Int} {R : List SL} (h : Inv25 F n x W R) {k : Nat} (hk : k < R.length) : fst25 F x W k = R[k].1 + 1 := by
  unfold fst25
  have := h.at' k hk 0 (by omega)
  rw [Nat.add_zero] at this
  rw [List.getD_eq_getElem?_getD, this]
  rfl
theorem Inv25.tag {F n x : Nat} {W : List Int} {R : List SL} (h : Inv25 F n x W R) {k : Nat} (hk : k < R.length) : -1 ≤ R[k].1 ∧ R[k].1 < 65536 := by
  rcases h.ok _ (List.getElem_mem hk) with h | h <;> omega
theorem Inv25.read {F n x : Nat} {W : List Int} {R : List SL} (h : Inv25 F n x W R) : (W.drop F).take (n * (x + 1)) = WD25 x R := by
  have hl := WD25_len h.ok
  rw [h.rl] at hl
  apply List.ext_getElem?
  intro j
  by_cases c : j < n * (x + 1)
  · have hp : 0 < x + 1 := Nat.succ_pos x
    have hk : j / (x + 1) < R.length := by rw [h.rl]; exact Nat.div_lt_of_lt_mul (by rw [Nat.mul_comm]; exact c)
    have hi : j % (x + 1) < x + 1 := Nat.mod_lt _ hp
    have hj : j = j / (x + 1) * (x + 1) + j % (x + 1) := by rw [Nat.mul_comm]; exact (Nat.div_add_mod j (x + 1)).symm
    rw [List.getElem?_take_of_lt c, List.getElem?_drop, hj, ← Nat.add_assoc, h.at' _ hk _ hi, WD25_get h.ok _ hk _ hi]
  · rw [List.getElem?_take_eq_none (by omega), List.getElem?_eq_none (by omega)]
theorem Inv25.put {F n x : Nat} {W : List Int} {R : List SL} (h : Inv25 F n x W R) {k : Nat} (hk : k < R.length) {s : SL} (hs : OkS x s) : Inv25 F n x (blit W (F + k * (x + 1)) (x + 1) (enc25 x s)) (R.set k s) := by
  have hkn : k * (x + 1) + (x + 1) ≤ n * (x + 1) := by
    have := Nat.mul_le_mul_right (x + 1) (show k + 1 ≤ n by rw [← h.rl]; exact hk)
    rwa [Nat.succ_mul] at this
  have hel := enc25_len hs
  refine ⟨?_, by rw [List.length_set, h.rl], ?_, ?_⟩
  · rw [blit_len (by rw [h.len]; omega), h.len]
  · intro t ht
    rcases List.mem_or_eq_of_mem_set ht with ht | ht
    · exact h.ok t ht
    · subst ht; exact hs
  · intro j hj i hi
    rw [List.length_set] at hj
    rw [blit_get (by rw [h.len]; omega) (by omega), List.getElem_set]
    by_cases c : k = j
    · subst c
      rw [if_pos (by omega), if_pos rfl, show F + k * (x + 1) + i - (F + k * (x + 1)) = i by omega, List.getD_eq_getElem?_getD, List.getElem?_eq_getElem (by omega)]
      rfl
    · have h2 : k * (x + 1) + (x + 1) ≤ j * (x + 1) ∨ j * (x + 1) + (x + 1) ≤ k * (x + 1) := by
        by_cases c : k < j
        · have := Nat.mul_le_mul_right (x + 1) (show k + 1 ≤ j from c)
          rw [Nat.succ_mul] at this
          exact .inl this
        · have := Nat.mul_le_mul_right (x + 1) (show j + 1 ≤ k by omega)
          rw [Nat.succ_mul] at this
          exact .inr this
      rw [if_neg (by omega), if_neg c]
      exact h.at' j hj i hi
theorem Inv25.sl {F n x : Nat} {W : List Int} {R : List SL} (h : Inv25 F n x W R) (hb : F ≤ 20 ∧ n ≤ 30 ∧ x ≤ 8) : Sl F n x (F + n * (x + 1)) W ∧ n * (x + 1) ≤ 270 := by
  have hm : n * (x + 1) ≤ 270 := by
    have := Nat.mul_le_mul hb.2.1 (show x + 1 ≤ 9 by omega)
    omega
  have := h.len
  exact ⟨⟨Nat.le_refl _, by omega, by omega, by omega, by omega⟩, hm⟩
/-- A store, in both. -/
theorem store25 {F n x : Nat} {W : List Int} {R : List SL} (h : Inv25 F n x W R) (hb : F ≤ 20 ∧ n ≤ 30 ∧ x ≤ 8) (k tag : Int) (l : List Int) (hl : l.length ≤ 9223372036854775807) :
    ∃ e W' R', D_ref25_Store R x k tag l = some (R', (x : Int), e) ∧ D_slots_Slots_Store k tag l F n x ((F + n * (x + 1) : Nat) : Int) W = some (e, W') ∧ Inv25 F n x W' R' := by
  obtain ⟨hS, hm⟩ := h.sl hb
  have hrl := h.rl
  unfold D_ref25_Store
  simp only [cond_dec]
  by_cases c1 : 0 ≤ k ∧ k < n
  · obtain ⟨j, rfl⟩ := Int.eq_ofNat_of_zero_le c1.1
    have hj : j < n := by omega
    have hj2 : j < R.length := by omega
    rw [if_neg (by omega), if_neg (by omega)]
    by_cases c2 : 0 ≤ tag ∧ tag < 65536
    · rw [if_neg (by omega), if_neg (by omega)]
      by_cases c3 : l.length = x
      · rw [if_neg (by omega), rd_get hj2]
        simp only [Option.bind_some]
        have hst : D_slots_Slots_Store j tag l F n x ((F + n * (x + 1) : Nat) : Int) W = _ := slots_Store hS hj c2 c3
        rw [hst, h.fst hj2]
        by_cases c4 : 0 ≤ R[j].1
        · rw [if_pos c4, if_pos (by omega)]
          exact ⟨_, _, _, rfl, rfl, h⟩
        · rw [if_neg c4, if_neg (by have := h.tag hj2; omega), ref25_with R x j tag l (by omega)]
          have := h.put hj2 (s := (tag, l)) (.inr ⟨c2.1, c2.2, c3⟩)
          have he : enc25 x (tag, l) = (tag + 1) :: l := by
            unfold enc25 tl25
            rw [if_pos c2.1]
          rw [he] at this
          exact ⟨_, _, _, rfl, rfl, this⟩
      · rw [if_pos (by omega)]
        have hst : D_slots_Slots_Store j tag l F n x ((F + n * (x + 1) : Nat) : Int) W = some (10, W) := by
          have h2 := place_word hS hj
          have h1 := hS.at hj
          unfold D_slots_Slots_Store
          rw [place_has hj, h2]
          simp only [Option.bind_some, cond_dec, Bool.not_true, cond_false]
          rw [arena_Get_in (by have := h.len; omega) (by have := h.len; omega)]
          simp only [Option.bind_some, cond_dec]
          rw [if_neg (by omega), decide_eq_false (show ¬65536 ≤ tag by omega)]
          simp only [Option.bind_some, cond_false]
          rw [if_pos (by omega)]
        rw [hst]
        exact ⟨_, _, _, rfl, rfl, h⟩
    · have h5 : ∀ y : Option (List SL × Int × Int), (if tag < 0 then some (R, (x : Int), (2 : Int)) else if 65536 ≤ tag then some (R, (x : Int), 2) else y) = some (R, (x : Int), 2) := by
        intro y
        by_cases q : tag < 0
        · exact if_pos q
        · rw [if_neg q]; exact if_pos (by omega)
      rw [h5]
      have hst : D_slots_Slots_Store j tag l F n x ((F + n * (x + 1) : Nat) : Int) W = some (2, W) := by
        have h2 := place_word hS hj
        have h1 := hS.at hj
        unfold D_slots_Slots_Store
        rw [place_has hj, h2]
        simp only [Option.bind_some, cond_dec, Bool.not_true, cond_false]
        rw [arena_Get_in (by have := h.len; omega) (by have := h.len; omega)]
        simp only [Option.bind_some, cond_dec]
        by_cases q : tag < 0
        · rw [if_pos q]; rfl
        · rw [if_neg q, decide_eq_true (show 65536 ≤ tag by omega)]; rfl
      rw [hst]
      exact ⟨_, _, _, rfl, rfl, h⟩
  · have h5 : ∀ y : Option (List SL × Int × Int), (if k < 0 then some (R, (x : Int), (2 : Int)) else if (R.length : Int) ≤ k then some (R, (x : Int), 2) else y) = some (R, (x : Int), 2) := by
      intro y
      by_cases q : k < 0
      · exact if_pos q
      · rw [if_neg q]; exact if_pos (by omega)
    rw [h5]
    have hst : D_slots_Slots_Store k tag l F n x ((F + n * (x + 1) : Nat) : Int) W = some (2, W) := by
      unfold D_slots_Slots_Store
      rw [place_has', decide_eq_false c1]
      rfl
    rw [hst]
    exact ⟨_, _, _, rfl, rfl, h⟩
theorem restore25 {F n x : Nat} {W : List Int} {R : List SL} (h : Inv25 F n x W R) (hb : F ≤ 20 ∧ n ≤ 30 ∧ x ≤ 8) (k : Int) :
    ∃ tag l e, D_ref25_Restore R x k = some (tag, l, e) ∧ D_slots_Slots_Restore k F n x ((F + n * (x + 1) : Nat) : Int) W = some (tag, e, l) ∧ l.length ≤ 1000 := by
  obtain ⟨hS, hm⟩ := h.sl hb
  have hrl := h.rl
  unfold D_ref25_Restore
  simp only [cond_dec]
  by_cases c1 : 0 ≤ k ∧ k < n
  · obtain ⟨j, rfl⟩ := Int.eq_ofNat_of_zero_le c1.1
    have hj : j < n := by omega
    have hj2 : j < R.length := by omega
    have ht := h.tag hj2
    rw [if_neg (by omega), if_neg (by omega), rd_get hj2]
    simp only [Option.bind_some]
    have hr : D_slots_Slots_Restore j F n x ((F + n * (x + 1) : Nat) : Int) W = _ := slots_Restore hS hj (by rw [h.fst hj2]; omega)
    rw [hr, h.fst hj2]
    by_cases c2 : R[j].1 < 0
    · rw [if_pos c2, if_pos (by omega)]
      exact ⟨_, _, _, rfl, rfl, Nat.zero_le _⟩
    · have hok : R[j].2.length = x := by
        rcases h.ok _ (List.getElem_mem hj2) with q | q
        · omega
        · exact q.2.2
      have hd : (W.drop (F + j * (x + 1) + 1)).take x = R[j].2 := by
        apply List.ext_getElem?
        intro i
        by_cases c : i < x
        · rw [List.getElem?_take_of_lt c, List.getElem?_drop, Nat.add_assoc, Nat.add_comm 1 i, h.at' j hj2 (i + 1) (by omega)]
          unfold enc25 tl25
          rw [if_pos (by omega), List.getD_eq_getElem?_getD, List.getElem?_cons_succ, List.getElem?_eq_getElem (by omega)]
          rfl
        · rw [List.getElem?_take_eq_none (by omega), List.getElem?_eq_none (by omega)]
      rw [if_neg c2, if_neg (by omega), hd]
      exact ⟨_, _, _, rfl, by rw [Int.add_sub_cancel], by omega⟩
  · have h5 : ∀ y : Option (Int × List Int × Int), (if k < 0 then some ((0 : Int), ([] : List Int), (2 : Int)) else if (R.length : Int) ≤ k then some (0, [], 2) else y) = some (0, [], 2) := by
      intro y
      by_cases q : k < 0
      · exact if_pos q
      · rw [if_neg q]; exact if_pos (by omega)
    rw [h5]
    have hst : D_slots_Slots_Restore k F n x ((F + n * (x + 1) : Nat) : Int) W = some (0, 2, []) := by
      unfold D_slots_Slots_Restore
      rw [place_has', decide_eq_false c1]
      rfl
    rw [hst]
    exact ⟨_, _, _, rfl, rfl, Nat.zero_le _⟩
theorem free25 {F n x : Nat} {W : List Int} {R : List SL} (h : Inv25 F n x W R) (hb : F ≤ 20 ∧ n ≤ 30 ∧ x ≤ 8) (k : Int) :
    ∃ e W' R', D_ref25_Free R x k = some (R', (x : Int), e) ∧ D_slots_Slots_Free k F n x ((F + n * (x + 1) : Nat) : Int) W = some (e, W') ∧ Inv25 F n x W' R' := by
  obtain ⟨hS, hm⟩ := h.sl hb
  have hrl := h.rl
  unfold D_ref25_Free
  simp only [cond_dec]
  by_cases c1 : 0 ≤ k ∧ k < n
  · obtain ⟨j, rfl⟩ := Int.eq_ofNat_of_zero_le c1.1
    have hj : j < n := by omega
    have hj2 : j < R.length := by omega
    have ht := h.tag hj2
    rw [if_neg (by omega), if_neg (by omega), rd_get hj2]
    simp only [Option.bind_some]
    have hr : D_slots_Slots_Free j F n x ((F + n * (x + 1) : Nat) : Int) W = _ := slots_Free hS hj
    rw [hr, h.fst hj2]
    by_cases c2 : R[j].1 < 0
    · rw [if_pos c2, if_pos (by omega)]
      exact ⟨_, _, _, rfl, rfl, h⟩
    · rw [if_neg c2, if_neg (by omega), ref25_with R x j (-1) [] (by omega)]
      have := h.put hj2 (s := (-1, [])) (.inl rfl)
      have he : enc25 x (-1, []) = List.replicate (x + 1) 0 := by
        unfold enc25 tl25
        rw [if_neg (by simp)]
        rfl
      rw [he] at this
      exact ⟨_, _, _, rfl, rfl, this⟩
  · have h5 : ∀ y : Option (List SL × Int × Int), (if k < 0 then some (R, (x : Int), (2 : Int)) else if (R.length : Int) ≤ k then some (R, (x : Int), 2) else y) = some (R, (x : Int), 2) := by
      intro y
      by_cases q : k < 0
      · exact if_pos q
      · rw [if_neg q]; exact if_pos (by omega)
    rw [h5]
    have hst : D_slots_Slots_Free k F n x ((F + n * (x + 1) : Nat) : Int) W = some (2, W) := by
      unfold D_slots_Slots_Free
      rw [place_has', decide_eq_false c1]
      rfl
    rw [hst]
    exact ⟨_, _, _, rfl, rfl, h⟩

/-- What is looked at behind each call. -/
theorem looks25 {F n x : Nat} {W : List Int} {R : List SL} (h : Inv25 F n x W R) (hb : F ≤ 20 ∧ n ≤ 30 ∧ x ≤ 8) : ∃ p u, D_slots_Slots_Tags F n x ((F + n * (x + 1) : Nat) : Int) W = some (R.map (·.1)) ∧ D_slots_Slots_Least F n x ((F + n * (x + 1) : Nat) : Int) W = some p ∧ D_ref25_Least R x = some p ∧
    D_slots_Slots_Used F n x ((F + n * (x + 1) : Nat) : Int) W = some u ∧ D_ref25_Used R x = some u ∧ D_arena_Arena_Read F ((n * (x + 1) : Nat) : Int) ((F + n * (x + 1) : Nat) : Int) W = some (0, WD25 x R) := by
  obtain ⟨hS, hm⟩ := h.sl hb
  have hrl := h.rl
  have ht : D_slots_Slots_Tags F n x ((F + n * (x + 1) : Nat) : Int) W = some (R.map (·.1)) := by
    rw [slots_Tags hS fun k hk => by rw [h.fst (by omega)]; have := h.tag (k := k) (by omega); omega]
    congr 1
    apply List.ext_getElem?
    intro i
    by_cases c : i < n
    · rw [List.getElem?_map, List.getElem?_range c, List.getElem?_map, List.getElem?_eq_getElem (show i < R.length by omega)]
      show some (fst25 F x W i - 1) = some R[i].1
      rw [h.fst (by omega), Int.add_sub_cancel]
    · rw [List.getElem?_eq_none (by simp; omega), List.getElem?_eq_none (by simp; omega)]
  obtain ⟨p, hp⟩ := ref25_Least_some R x (by omega)
  obtain ⟨u, hu⟩ := ref25_Used_some R x (by omega)
  refine ⟨p, u, ht, by rw [least_eq R x ht, hp], hp, by rw [used_eq R x ht, hu], hu, ?_⟩
  rw [arena_Read_in (by have := h.len; omega) (by have := h.len; omega), h.read]

theorem law25_plays (a0 a1 a2 : Int) (a3 : List (Int × Int × Int × List Int)) (f0 : Fine (.int .i64) a0) (f1 : Fine (.int .i64) a1) (f2 : Fine (.int .i64) a2) (f3 : Fine (.list (.pair (.int .i64) (.pair (.int .i64) (.pair (.int .i64) (.list (.int .u64)))))) a3) :
    D_law25_SlotsPlays a0 a1 a2 a3 = some true := by
  unfold D_law25_SlotsPlays
  by_cases c : 0 ≤ a0 ∧ a0 ≤ 30 ∧ 1 ≤ a1 ∧ a1 ≤ 8 ∧ 0 ≤ a2 ∧ a2 ≤ 20 ∧ a3.length ≤ 60
  · obtain ⟨c1, c2, c3, c4, c5, c6, c7⟩ := c
    rw [decide_eq_false (show ¬a0 < 0 by omega), decide_eq_false (show ¬30 < a0 by omega), decide_eq_false (show ¬a1 < 1 by omega), decide_eq_false (show ¬8 < a1 by omega), decide_eq_false (show ¬a2 < 0 by omega), decide_eq_false (show ¬20 < a2 by omega), decide_eq_false (show ¬60 < (a3.length : Int) by omega)]
    simp only [cond_false, Option.bind_some]
    obtain ⟨n, rfl⟩ := Int.eq_ofNat_of_zero_le c1
    obtain ⟨x, rfl⟩ := Int.eq_ofNat_of_zero_le (show 0 ≤ a1 by omega)
    obtain ⟨F, rfl⟩ := Int.eq_ofNat_of_zero_le c5
    have hb : F ≤ 20 ∧ n ≤ 30 ∧ x ≤ 8 := by omega
    have hm : n * (x + 1) ≤ 270 := by
      have := Nat.mul_le_mul hb.2.1 (show x + 1 ≤ 9 by omega)
      omega
    have e : (n : Int) * ((x : Int) + 1) = ((n * (x + 1) : Nat) : Int) := by push_cast; rfl
    rw [wrap64 (n := (x : Int) + 1) (by omega), e, wrap64 (n := ((n * (x + 1) : Nat) : Int)) (by omega), wrap64 (n := (F : Int) + ((n * (x + 1) : Nat) : Int)) (by omega), wrap64 (by omega), arena_New_in (by omega)]
    simp only [Option.bind_some, caseS_r]
    have hZ : (List.replicate ((F : Int) + ((n * (x + 1) : Nat) : Int) + 3).toNat (0 : Int)).length = F + n * (x + 1) + 3 := by rw [List.length_replicate]; omega
    have hZg : ∀ i : Nat, i < F + n * (x + 1) + 3 → (List.replicate ((F : Int) + ((n * (x + 1) : Nat) : Int) + 3).toNat (0 : Int))[i]? = some 0 := by
      intro i hi
      rw [List.getElem?_replicate, if_pos (by omega)]
    generalize List.replicate ((F : Int) + ((n * (x + 1) : Nat) : Int) + 3).toNat (0 : Int) = Z at *
    rw [arena_Take_in (by omega) (by omega)]
    simp only [Option.bind_some, Int.zero_add]
    rw [slots_New (by omega) (by omega) (by omega) (by omega)]
    simp only [Option.bind_some, caseS_r, cond_dec]
    rw [if_neg (by simp)]
    have hBl : (blit Z F (n * (x + 1)) (List.replicate (n * (x + 1)) 0)).length = F + n * (x + 1) + 3 := by rw [blit_len (by omega), hZ]
    have hBg : ∀ i : Nat, i < F + n * (x + 1) + 3 → (blit Z F (n * (x + 1)) (List.replicate (n * (x + 1)) 0))[i]? = some 0 := by
      intro i hi
      rw [blit_get (by omega) (by simp)]
      split
      · rw [List.getElem?_replicate, if_pos (by omega)]
      · exact hZg i hi
    generalize blit Z F (n * (x + 1)) (List.replicate (n * (x + 1)) 0) = W0 at *
    have hlf : D_arena_Arena_Left ((F + n * (x + 1) : Nat) : Int) W0 = some 3 := by
      unfold D_arena_Arena_Left
      rw [hBl, wrap64 (by omega)]
      congr 1
      omega
    rw [hlf]
    simp only [Option.bind_some]
    rw [if_neg (by simp), ref25_New n x (by omega)]
    simp only [Option.bind_some]
    have hI : Inv25 F n x W0 (List.replicate n ((-1 : Int), ([] : List Int))) := by
      refine ⟨hBl, by simp, fun s hs => ?_, fun k hk i hi => ?_⟩
      · rw [(List.mem_replicate.1 hs).2]
        exact .inl rfl
      · have hkn : k < n := by simpa using hk
        have := Nat.mul_le_mul_right (x + 1) (show k + 1 ≤ n from hkn)
        rw [Nat.succ_mul] at this
        rw [hBg _ (by omega), List.getElem_replicate]
        have he : enc25 x ((-1 : Int), ([] : List Int)) = List.replicate (x + 1) 0 := by
          unfold enc25 tl25
          rw [if_neg (by simp)]
          rfl
        rw [he, List.getD_eq_getElem?_getD, List.getElem?_replicate, if_pos hi]
        rfl
    obtain ⟨q, hq, W2, R2, rfl⟩ := loop_inv (f := D_law25_SlotsPlays_L0 n x F a3) (a := ((0 : Int), ((F + n * (x + 1) : Nat) : Int), W0, (F : Int), (n : Int), (x : Int), List.replicate n ((-1 : Int), ([] : List Int)), (x : Int)))
      (fun s => ∃ (i : Nat) (W : List Int) (R : List SL), i ≤ a3.length ∧ s = ((i : Int), ((F + n * (x + 1) : Nat) : Int), W, (F : Int), (n : Int), (x : Int), R, (x : Int)) ∧ Inv25 F n x W R) (fun s => a3.length - s.1.toNat)
      (fun c => ∃ (W : List Int) (R : List SL), c = .inr (((F + n * (x + 1) : Nat) : Int), W, (F : Int), (n : Int), (x : Int), R, (x : Int))) ⟨0, W0, _, Nat.zero_le _, rfl, hI⟩ (by simp; omega) (by
      rintro _ ⟨i, W, R, hi, rfl, hJ⟩
      by_cases hlt : i < a3.length
      · left
        have hfx := f3.2 _ (List.getElem_mem hlt)
        have step : ∃ W' R', Inv25 F n x W' R' ∧ D_law25_SlotsPlays_L0 n x F a3 ((i : Int), ((F + n * (x + 1) : Nat) : Int), W, (F : Int), (n : Int), (x : Int), R, (x : Int)) = some (.inl (((i + 1 : Nat) : Int), ((F + n * (x + 1) : Nat) : Int), W', (F : Int), (n : Int), (x : Int), R', (x : Int))) := by
          simp only [D_law25_SlotsPlays_L0]
          rw [decide_eq_true (show (i : Int) < (a3.length : Int) by omega), cond_true, rd_get hlt]
          simp only [Option.bind_some]
          rw [wrap64 (n := (x : Int) + 1) (by omega), e, wrap64 (n := ((n * (x + 1) : Nat) : Int)) (by omega), wrap64 (n := (i : Int) + 1) (by omega)]
          generalize a3[i] = act at *
          obtain ⟨kind, k, tag, l⟩ := act
          simp only
          have hl : l.length ≤ 9223372036854775807 := hfx.2.2.2.1
          -- behind the call
          have tail : ∀ {W' : List Int} {R' : List SL}, Inv25 F n x W' R' → ∀ {g : List Int → List SL → Option (_ ⊕ _)}, (∀ p u, D_slots_Slots_Tags F n x ((F + n * (x + 1) : Nat) : Int) W' = some (R'.map (·.1)) → D_slots_Slots_Least F n x ((F + n * (x + 1) : Nat) : Int) W' = some p → D_ref25_Least R' x = some p →
              D_slots_Slots_Used F n x ((F + n * (x + 1) : Nat) : Int) W' = some u → D_ref25_Used R' x = some u → D_arena_Arena_Read F ((n * (x + 1) : Nat) : Int) ((F + n * (x + 1) : Nat) : Int) W' = some (0, WD25 x R') → D_ref25_Tags R' x = some (R'.map (·.1)) → D_ref07_Ints (R'.map (·.1)) (R'.map (·.1)) = some true → D_ref25_Words R' x = some (WD25 x R') → D_ref05_Same (WD25 x R') (WD25 x R') = some true →
              g W' R' = some (.inl (((i + 1 : Nat) : Int), ((F + n * (x + 1) : Nat) : Int), W', (F : Int), (n : Int), (x : Int), R', (x : Int)))) → ∃ W'' R'', Inv25 F n x W'' R'' ∧ g W' R' = (some (.inl (((i + 1 : Nat) : Int), ((F + n * (x + 1) : Nat) : Int), W'', (F : Int), (n : Int), (x : Int), R'', (x : Int))) : Option ((Int × Int × (List Int) × Int × Int × Int × (List (Int × List Int)) × Int) ⊕ ((Bool × Int × (List Int) × Int × Int × Int × (List (Int × List Int)) × Int) ⊕ (Int × (List Int) × Int × Int × Int × (List (Int × List Int)) × Int)))) := by
            intro W' R' hJ' g hg
            have hrl := hJ'.rl
            obtain ⟨p, u, t1, t2, t3, t4, t5, t6⟩ := looks25 hJ' hb
            have t7 := ref25_Tags R' x (by omega)
            have t8 : D_ref07_Ints (R'.map (·.1)) (R'.map (·.1)) = some true := by rw [ref07_Ints _ _ (by simp; omega) (by simp; omega), decide_eq_true rfl]
            have t9 := ref25_Words R' x (by omega) (by omega) hJ'.ok
            have hwl : (WD25 x R').length ≤ 1000 := by rw [WD25_len hJ'.ok, hrl]; omega
            have t10 : D_ref05_Same (WD25 x R') (WD25 x R') = some true := by rw [ref05_Same _ _ (by omega) (by omega), decide_eq_true rfl]
            exact ⟨W', R', hJ', hg p u t1 t2 t3 t4 t5 t6 t7 t8 t9 t10⟩
          by_cases k0 : kind = 0
          · rw [decide_eq_true k0, cond_true]
            obtain ⟨er, W', R', s1, s2, hJ'⟩ := store25 hJ hb k tag l hl
            rw [s1]
            simp only [Option.bind_some]
            rw [s2]
            simp only [Option.bind_some]
            rw [decide_eq_false (show ¬er ≠ er by simp), cond_false]
            simp only [Option.bind_some, caseS_r]
            refine tail hJ' (g := fun W' R' => _) ?_
            intro p u t1 t2 t3 t4 t5 t6 t7 t8 t9 t10
            simp only [t1, t2, t3, t4, t5, t6, t7, t8, t9, t10, Option.bind_some, Bool.not_true, cond_false, ne_eq, not_true_eq_false, decide_false, beq_self_eq_true]
            rfl
          · rw [decide_eq_false k0, cond_false]
            by_cases k1 : kind = 1
            · rw [decide_eq_true k1, cond_true]
              obtain ⟨tg, l', er, s1, s2, s3⟩ := restore25 hJ hb k
              rw [s1, s2]
              simp only [Option.bind_some]
              rw [decide_eq_false (show ¬tg ≠ tg by simp), cond_false, ref05_Same _ _ (by omega) (by omega), decide_eq_true rfl]
              simp only [Option.bind_some, Bool.not_true, cond_false]
              rw [decide_eq_false (show ¬er ≠ er by simp), cond_false]
              simp only [Option.bind_some, caseS_r]
              refine tail hJ (g := fun W' R' => _) ?_
              intro p u t1 t2 t3 t4 t5 t6 t7 t8 t9 t10
              simp only [t1, t2, t3, t4, t5, t6, t7, t8, t9, t10, Option.bind_some, Bool.not_true, cond_false, ne_eq, not_true_eq_false, decide_false, beq_self_eq_true]
              rfl
            · rw [decide_eq_false k1, cond_false]
              obtain ⟨er, W', R', s1, s2, hJ'⟩ := free25 hJ hb k
              rw [s1]
              simp only [Option.bind_some]
              rw [s2]
              simp only [Option.bind_some]
              rw [decide_eq_false (show ¬er ≠ er by simp), cond_false]
              simp only [Option.bind_some, caseS_r]
              refine tail hJ' (g := fun W' R' => _) ?_
              intro p u t1 t2 t3 t4 t5 t6 t7 t8 t9 t10
              simp only [t1, t2, t3, t4, t5, t6, t7, t8, t9, t10, Option.bind_some, Bool.not_true, cond_false, ne_eq, not_true_eq_false, decide_false, beq_self_eq_true]
              rfl
        obtain ⟨W', R', h1, h2⟩ := step
        exact ⟨_, h2, ⟨i + 1, W', R', hlt, rfl, h1⟩, by simp; omega⟩
      · right
        refine ⟨_, ?_, W, R, rfl⟩
        simp only [D_law25_SlotsPlays_L0]
        rw [decide_eq_false (by omega)]
        rfl)
    rw [hq]
    simp only [Option.bind_some, caseS_r]
    rw [goes25]
    rfl
  · have hs : ∀ {g : Bool → Option Bool}, (((cond (decide (a0 < 0))
    (some true)
    (cond (decide (30 < a0))
      (some true)
      (cond (decide (a1 < 1))
        (some true)
        (cond (decide (8 < a1))
          (some true)
          (cond (decide (a2 < 0))
            (some true)
            (cond (decide (20 < a2))
              (some true)
              (some (decide (60 < ((((List.length a3) : Nat) : Int))))))))))) : Option (Bool))).bind g = g true := by
      intro g
      simp only [cond_dec]
      split
      · rfl
      split
      · rfl
      split
      · rfl
      split
      · rfl
      split
      · rfl
      split
      · rfl
      · rw [decide_eq_true (by omega)]
        rfl
    rw [hs, cond_true, goes25]
    rfl
end Go.V
