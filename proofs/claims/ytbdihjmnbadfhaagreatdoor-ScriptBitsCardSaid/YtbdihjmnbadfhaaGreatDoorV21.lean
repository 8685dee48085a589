/- What the printed functions are made of: rules. Arguments of laws. -/
import Derived.Test.YtbdihjmnbadfhaaGreatDoorV20
import Derived.IntWalk
namespace Go.V
set_option linter.unusedVariables false
set_option linter.unusedSimpArgs false
open Go.Ab

/-! ### Rules -/
theorem loopN_inv {α γ : Type} {f : α → Option (α ⊕ γ)} (I : α → Prop) (m : α → Nat) (Q : γ → Prop) (h : ∀ a, I a → (∃ b, f a = some (.inl b) ∧ I b ∧ m b < m a) ∨ ∃ c, f a = some (.inr c) ∧ Q c) : ∀ (n : Nat) (a : α), I a → m a < n → ∃ c, loopN f n a = some c ∧ Q c := by
  intro n
  induction n with
  | zero => intro a _ h1; omega
  | succ n ih =>
    intro a hI hm
    rcases h a hI with ⟨b, h1, h2, h3⟩ | ⟨c, h1, h2⟩
    · obtain ⟨c, h4, h5⟩ := ih b h2 (by omega)
      exact ⟨c, by rw [loopN_succ, h1]; exact h4, h5⟩
    · exact ⟨c, by rw [loopN_succ, h1]; rfl, h2⟩
theorem loop_inv {α γ : Type} {f : α → Option (α ⊕ γ)} {a : α} (I : α → Prop) (m : α → Nat) (Q : γ → Prop) (h0 : I a) (hm : m a < 18446744073709551616) (h : ∀ a, I a → (∃ b, f a = some (.inl b) ∧ I b ∧ m b < m a) ∨ ∃ c, f a = some (.inr c) ∧ Q c) : ∃ c, loopN f BIG a = some c ∧ Q c :=
  loopN_inv I m Q h BIG a h0 hm
/-- A loop that comes to one thing. -/
theorem loop_eq {α γ : Type} {f : α → Option (α ⊕ γ)} {a : α} {c : γ} (I : α → Prop) (m : α → Nat) (h0 : I a) (hm : m a < 18446744073709551616) (h : ∀ a, I a → (∃ b, f a = some (.inl b) ∧ I b ∧ m b < m a) ∨ f a = some (.inr c)) : loopN f BIG a = some c := by
  obtain ⟨c', h1, h2⟩ := loop_inv I m (· = c) h0 hm fun a ha => by
    rcases h a ha with h | h
    · exact .inl h
    · exact .inr ⟨c, h, rfl⟩
  rw [h1, h2]
theorem cond_dec {α : Type} {p : Prop} [Decidable p] {x y : α} : cond (decide p) x y = if p then x else y := by by_cases h : p <;> simp [h]
theorem gd_true {β : Type} {x : Option β} : gd true x = x := rfl
theorem gd_dec {β : Type} {p : Prop} [Decidable p] {x : Option β} (h : p) : gd (decide p) x = x := by rw [decide_eq_true h]; rfl
theorem gd_fits {β : Type} {n b : Nat} {x : Option β} (h : n * b ≤ 140737488355328) (hb : 1 ≤ b) : gd (fits n b) x = x := by
  have : fits n b = true := by
    unfold fits
    rw [decide_eq_true h, Bool.true_and]
    exact Nat.ble_eq_true_of_le hb
  rw [this]
  rfl
theorem rd_get {α : Type} {l : List α} {i : Nat} (h : i < l.length) : rd l (i : Int) = some l[i] := by
  unfold rd
  rw [decide_eq_true (by omega), cond_true, Int.toNat_natCast, List.getElem?_eq_getElem h]
theorem rd_get' {α : Type} {l : List α} {i : Int} (h0 : 0 ≤ i) (h : i < l.length) : rd l i = some (l[i.toNat]'(by omega)) := by
  unfold rd
  rw [decide_eq_true h0, cond_true, List.getElem?_eq_getElem (by omega)]
theorem wrap64 {n : Int} (h : -9223372036854775808 ≤ n ∧ n ≤ 9223372036854775807) : IntKind.i64.wrap n = n := IntWalk.i64_in _ h
theorem caseS_l {α γ β : Type} {a : α} {f : α → Option β} {g : γ → Option β} : caseS (.inl a) f g = f a := rfl
theorem caseS_r {α γ β : Type} {a : γ} {f : α → Option β} {g : γ → Option β} : caseS (.inr a) f g = g a := rfl

/-! ### Arguments -/
theorem IsRow.lst {k : IntKind} {w : World} {a : Option Addr} {len cap : Nat} {zs : List Int} {rows : List Row} {j : Nat} (h : IsRow k w a len cap zs) (hr : rows[j]? = some (rowOf k a cap zs)) :
    VRel (lawCtx (rowsHp w.heap.size rows)) (.lst (.int k) (zs.take len)) (rowArg j a len cap) := by
  rcases h with ⟨rfl, rfl, rfl, rfl⟩ | ⟨x, rfl, hl, hm, hz, hc, hw⟩
  · exact .lstn fun z hz => by cases hz
  · by_cases h0 : cap = 0
    · have : len = 0 := by omega
      subst h0; subst this
      have : zs.take 0 = ([] : List Int) := rfl
      rw [this]
      exact .lstn fun z hz => by injection hz with hz; rw [← hz]
    · have hz0 : 0 < zs.length := by omega
      have hlt : x.block < w.heap.size := cell_lt (x := ⟨x.block, x.off + 0, none⟩) (cell_plain (spot_none (hc 0 hz0)) (hc 0 hz0))
      have hm : (rowsHp w.heap.size rows).m j = some ⟨zs.map (Value.int k), false, 1⟩ := by
        simp only [rowsHp, hr, Option.bind_some, rowOf, if_pos hlt]
      refine .lst (lawCtx_mut j) hm rfl (by rw [List.length_take]; omega) hl ?_ ?_
      · simp only [List.length_map, Nat.zero_add]
        show len * 1 ≤ zs.length
        omega
      · rw [List.drop_zero]
        show F2 _ _ ((zs.map (Value.int k)).take (len * 1))
        rw [Nat.mul_one, ← List.map_take]
        generalize zs.take len = l
        induction l with
        | nil => exact .nil
        | cons n l ih => exact .cons (.int _ _) ih
theorem IsRow.len_le {k : IntKind} {w : World} {a : Option Addr} {len cap : Nat} {zs : List Int} (h : IsRow k w a len cap zs) : (zs.take len).length ≤ maxLen := by
  rcases h with ⟨rfl, rfl, rfl, rfl⟩ | ⟨x, rfl, hl, hm, hz, hc, hw⟩
  · exact Nat.zero_le _
  · rw [List.length_take]; omega
end Go.V
