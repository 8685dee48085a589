/- Rules for loops and for lists. -/
import Derived.Test.YtbdihjmnbadfhaaGreatDoorV23
namespace Go.V
set_option linter.unusedVariables false
set_option linter.unusedSimpArgs false
open Go.Ab
set_option linter.unusedVariables false

/-- A loop whose states are known. -/
theorem loop_steps {α δ : Type} {f : α → Option (α ⊕ δ)} {n : Nat} (F : Nat → α) {c : δ} (hn : n < 9223372036854775808) (hs : ∀ i, i < n → f (F i) = some (.inl (F (i + 1)))) (he : f (F n) = some (.inr c)) : loopN f BIG (F 0) = some c := by
  have key : ∀ k i m, i + k = n → k < m → loopN f m (F i) = some c := by
    intro k
    induction k with
    | zero =>
      intro i m h1 h2
      obtain ⟨m, rfl⟩ : ∃ m', m = m' + 1 := ⟨m - 1, by omega⟩
      have : i = n := by omega
      subst this
      show (f (F i)).bind _ = _
      rw [he]; rfl
    | succ k ih =>
      intro i m h1 h2
      obtain ⟨m, rfl⟩ : ∃ m', m = m' + 1 := ⟨m - 1, by omega⟩
      show (f (F i)).bind _ = _
      rw [hs i (by omega)]
      exact ih (i + 1) m (by omega) (by omega)
  exact key n 0 BIG (by omega) (by unfold BIG; omega)
/-- A loop that counts. -/
theorem loop_nat {γ δ : Type} {f : (Int × γ) → Option ((Int × γ) ⊕ δ)} {n : Nat} (F : Nat → γ) {c : δ} (hn : n < 9223372036854775808) (hs : ∀ i, i < n → f ((i : Int), F i) = some (.inl (((i + 1 : Nat) : Int), F (i + 1)))) (he : f ((n : Int), F n) = some (.inr c)) : loopN f BIG (0, F 0) = some c :=
  loop_steps (fun i => ((i : Int), F i)) hn hs he
theorem loop_nat0 {δ : Type} {f : Int → Option (Int ⊕ δ)} {n : Nat} {c : δ} (hn : n < 9223372036854775808) (hs : ∀ i : Nat, i < n → f (i : Int) = some (.inl ((i + 1 : Nat) : Int))) (he : f (n : Int) = some (.inr c)) : loopN f BIG 0 = some c :=
  loop_steps (fun i => (i : Int)) hn hs he
/-- A loop over a list, that folds it. -/
theorem loop_fold {α γ δ : Type} {f : (Int × γ) → Option ((Int × γ) ⊕ δ)} {l : List α} (g : γ → α → γ) (s : γ) {c : γ → δ} (hn : l.length < 9223372036854775807)
    (hs : ∀ (i : Nat) (h : i < l.length) s, f ((i : Int), s) = some (.inl (((i + 1 : Nat) : Int), g s l[i]))) (he : ∀ s, f ((l.length : Int), s) = some (.inr (c s))) : loopN f BIG (0, s) = some (c (l.foldl g s)) := by
  have h := loop_nat (f := f) (n := l.length) (fun i => (l.take i).foldl g s) (c := c (l.foldl g s)) (by omega) ?_ ?_
  · exact h
  · intro i hi
    rw [hs i hi, List.take_succ_eq_append_getElem hi, List.foldl_append]
    rfl
  · rw [he, List.take_length]
/-- A loop that counts, up to where it leaves or to its end. -/
theorem loop_first {γ δ : Type} {f : (Int × γ) → Option ((Int × γ) ⊕ δ)} (F : Nat → γ) (n : Nat) (hn : n < 9223372036854775808) (stop : Nat → Prop) [DecidablePred stop] (c : Nat → δ)
    (hs : ∀ i, i < n → ¬stop i → (∀ j, j < i → ¬stop j) → f ((i : Int), F i) = some (.inl (((i + 1 : Nat) : Int), F (i + 1)))) (hx : ∀ i, i < n → stop i → (∀ j, j < i → ¬stop j) → f ((i : Int), F i) = some (.inr (c i))) (e : δ) (he : (∀ j, j < n → ¬stop j) → f ((n : Int), F n) = some (.inr e)) :
    (∃ i, i < n ∧ stop i ∧ (∀ j, j < i → ¬stop j) ∧ loopN f BIG (0, F 0) = some (c i)) ∨ ((∀ j, j < n → ¬stop j) ∧ loopN f BIG (0, F 0) = some e) := by
  by_cases h : ∃ i, i < n ∧ stop i
  · obtain ⟨i, h1, h2⟩ := h
    have hex : ∃ i, i < n ∧ stop i ∧ ∀ j, j < i → ¬stop j := by
      induction i using Nat.strongRecOn with
      | ind i ih =>
        by_cases hj : ∃ j, j < i ∧ stop j
        · obtain ⟨j, h3, h4⟩ := hj
          exact ih j h3 (by omega) h4
        · exact ⟨i, h1, h2, fun j h h3 => hj ⟨j, h, h3⟩⟩
    obtain ⟨i, h1, h2, h3⟩ := hex
    exact .inl ⟨i, h1, h2, h3, loop_nat F (n := i) (by omega) (fun j hj => hs j (by omega) (h3 j hj) fun k hk => h3 k (by omega)) (hx i h1 h2 h3)⟩
  · have h' : ∀ j, j < n → ¬stop j := fun j hj hs => h ⟨j, hj, hs⟩
    exact .inr ⟨h', loop_nat F hn (fun j hj => hs j hj (h' j hj) fun k hk => h' k (by omega)) (he h')⟩

theorem wrapU (n : Int) : IntKind.u64.wrap n = n % 18446744073709551616 := by rfl
theorem wrapU_nat {n : Nat} (h : n < 9223372036854775808) : IntKind.u64.wrap (n : Int) = n := by
  rw [wrapU]; omega
theorem wrapU_in {n : Int} (h : 0 ≤ n ∧ n < 18446744073709551616) : IntKind.u64.wrap n = n := by
  rw [wrapU]; omega
theorem rd_getD {l : List Int} {i : Nat} (h : i < l.length) : rd l (i : Int) = some (l.getD i 0) := by
  rw [rd_get h, List.getD_eq_getElem?_getD, List.getElem?_eq_getElem h]
  rfl
theorem ix_in {k n : Nat} (h : k < n) : ix (k : Int) n = some k := by
  unfold ix
  rw [decide_eq_true (show (0 : Int) ≤ k by omega), decide_eq_true (show (k : Int) < n by omega)]
  rfl
theorem cutG_in {a b : Int} {n : Nat} (h : 0 ≤ a ∧ a ≤ b ∧ b ≤ n) : cutG a b n = true := by
  unfold cutG
  rw [decide_eq_true h.1, decide_eq_true h.2.1, decide_eq_true h.2.2]
  rfl
theorem tdiv_nn {a b : Int} (h : 0 ≤ a) : Int.tdiv a b = a / b := Int.tdiv_eq_ediv_of_nonneg h
theorem tmod_nn {a b : Int} (h : 0 ≤ a) : Int.tmod a b = a % b := Int.tmod_eq_emod_of_nonneg h
/-- A place in a list, by any number. -/
theorem spot {L : Nat} (h0 : 0 < L) (hL : L ≤ 1000000) {a : Int} (ha : -9223372036854775808 ≤ a ∧ a ≤ 9223372036854775807) : ∃ k : Nat, k < L ∧ Int.tmod (IntKind.i64.wrap (Int.tmod a (L : Int) + (L : Int))) (L : Int) = (k : Int) := by
  have hp : (0 : Int) < (L : Int) := by omega
  have h1 := Int.tmod_lt_of_pos a hp
  have h2 := Int.lt_tmod_of_pos a hp
  rw [wrap64 (by omega)]
  have h3 := Int.tmod_nonneg (L : Int) (show 0 ≤ Int.tmod a (L : Int) + (L : Int) by omega)
  have h4 := Int.tmod_lt_of_pos (Int.tmod a (L : Int) + (L : Int)) hp
  exact ⟨(Int.tmod (Int.tmod a (L : Int) + (L : Int)) (L : Int)).toNat, by omega, by omega⟩
theorem blit_get {α : Type} {l m : List α} {o n : Nat} (h : o + n ≤ l.length) (hm : n ≤ m.length) (i : Nat) : (blit l o n m)[i]? = if o ≤ i ∧ i < o + n then m[i - o]? else l[i]? := by
  unfold blit
  by_cases h1 : i < o
  · rw [List.getElem?_append_left (by rw [List.length_take]; omega), List.getElem?_take_of_lt h1, if_neg (by omega)]
  · rw [List.getElem?_append_right (by rw [List.length_take]; omega), List.length_take, Nat.min_eq_left (by omega)]
    by_cases h2 : i < o + n
    · rw [List.getElem?_append_left (by rw [List.length_take]; omega), List.getElem?_take_of_lt (by omega), if_pos (by omega), Nat.min_eq_left (by omega)]
    · rw [List.getElem?_append_right (by rw [List.length_take]; omega), List.length_take, List.getElem?_drop, if_neg (by omega), Nat.min_eq_left hm]
      congr 1
      omega
end Go.V
