/- Operations whose order is open: whatever order is taken, the abstract machine's word holds. -/
import Derived.Test.YtbdihjmnbadfhaaGreatDoorAb12
namespace Go.Ab
open Go.RowKit

theorem getD_both {listed : Array Bool} {i : Nat} (h : listed.getD i true = false) : listed.getD i false = false := by
  rcases Nat.lt_or_ge i listed.size with h' | h'
  · simp [h'] at h ⊢; exact h
  · simp [Array.getElem?_eq_none h'] at h
theorem getD_in {listed : Array Bool} {i : Nat} (hi : i < listed.size) (h : listed.getD i false = false) : listed.getD i true = false := by
  simp [hi] at h ⊢; exact h

abbrev DL := List (AOper × List Nat)
def dstAt (al : DL) (i : Nat) : Option Nat := (al[i]?).bind (·.1.dst)
def looksAt (al : DL) (i : Nat) : List Nat := match al[i]? with
  | some (o, _) => o.looks
  | none => []

/-- What is asked of the order: each thing waits for earlier ones alone; no two write one slot; who writes a slot and who reads it stand in an order. -/
def drawOk (al : DL) : Bool :=
  (List.range al.length).all fun i =>
    (predsOf al i).all (fun q => decide (q < i)) &&
    (match dstAt al i with
     | none => true
     | some t => (List.range al.length).all fun j => i == j || ((dstAt al j != some t) && (!(looksAt al j).contains t || befB al i j || befB al j i)))

section
variable {al : DL}

theorem drawOk_pred (h : drawOk al = true) {i q : Nat} (hi : i < al.length) (hq : q ∈ predsOf al i) : q < i := by
  have := List.all_eq_true.1 h i (List.mem_range.2 hi)
  simp only [Bool.and_eq_true, List.all_eq_true, decide_eq_true_eq] at this
  exact this.1 q hq
theorem dstAt_lt {i t : Nat} (h : dstAt al i = some t) : i < al.length := by
  unfold dstAt at h
  rcases Nat.lt_or_ge i al.length with h1 | h1
  · exact h1
  · simp [List.getElem?_eq_none h1] at h
theorem drawOk_one (h : drawOk al = true) {i j t : Nat} (hi : dstAt al i = some t) (hj : dstAt al j = some t) : i = j := by
  have := List.all_eq_true.1 h i (List.mem_range.2 (dstAt_lt hi))
  simp only [Bool.and_eq_true, hi] at this
  have := List.all_eq_true.1 this.2 j (List.mem_range.2 (dstAt_lt hj))
  by_cases e : i = j
  · exact e
  · simp [hj, e] at this
theorem drawOk_bef (h : drawOk al = true) {i j t : Nat} (hi : dstAt al i = some t) (hjl : j < al.length) (hj : t ∈ looksAt al j) (hne : i ≠ j) : befB al i j = true ∨ befB al j i = true := by
  have := List.all_eq_true.1 h i (List.mem_range.2 (dstAt_lt hi))
  simp only [Bool.and_eq_true, hi] at this
  have := List.all_eq_true.1 this.2 j (List.mem_range.2 hjl)
  simp [hne, hj] at this
  exact this.2

/-- A set of operations that holds what they wait for. -/
def Closed (al : DL) (D : List Nat) : Prop := ∀ i ∈ D, ∀ q ∈ predsOf al i, q ∈ D
theorem maskOf_bit {acc ps : List Nat} {p : Nat} (h : (maskOf acc ps).testBit p = true) : ∃ q ∈ ps, q = p ∨ (acc.getD q 0).testBit p = true := by
  have key : ∀ (ps : List Nat) (m : Nat), (ps.foldl (fun m q => m ||| 2 ^ q ||| acc.getD q 0) m).testBit p = true → m.testBit p = true ∨ ∃ q ∈ ps, q = p ∨ (acc.getD q 0).testBit p = true := by
    intro ps
    induction ps with
    | nil => intro m h; exact .inl h
    | cons q ps ih =>
      intro m h
      rcases ih _ h with h1 | ⟨q', h1, h2⟩
      · simp only [Nat.testBit_or, Nat.testBit_two_pow, Bool.or_eq_true, decide_eq_true_eq] at h1
        rcases h1 with (h1 | h1) | h1
        · exact .inl h1
        · exact .inr ⟨q, List.mem_cons_self .., .inl h1⟩
        · exact .inr ⟨q, List.mem_cons_self .., .inr h1⟩
      · exact .inr ⟨q', List.mem_cons_of_mem _ h1, h2⟩
  rcases key ps 0 h with h1 | h1
  · simp at h1
  · exact h1

theorem masks_spec {al0 : DL} : ∀ (r pre : DL) (acc : List Nat), pre ++ r = al0 → acc.length = pre.length →
    (∀ j p, (acc.getD j 0).testBit p = true → ∃ q ∈ predsOf al0 j, q = p ∨ (q < j ∧ (acc.getD q 0).testBit p = true)) →
    ∀ j p, ((masks acc r).getD j 0).testBit p = true → ∃ q ∈ predsOf al0 j, q = p ∨ (q < j ∧ ((masks acc r).getD q 0).testBit p = true)
  | [], pre, acc, _, _, h => h
  | (o, ps) :: r, pre, acc, he, hl, h => by
    simp only [masks]
    refine masks_spec r (pre ++ [(o, ps)]) (acc ++ [maskOf acc ps]) (by rw [List.append_assoc]; exact he) (by simp [hl]) fun j p hj => ?_
    have hps : predsOf al0 acc.length = ps := by
      unfold predsOf
      rw [← he, hl, List.getElem?_append_right (Nat.le_refl _)]
      simp
    have hget : ∀ q, q < acc.length → (acc ++ [maskOf acc ps]).getD q 0 = acc.getD q 0 := by
      intro q hq
      simp only [List.getD_eq_getElem?_getD]
      rw [List.getElem?_append_left hq]
    by_cases h1 : j < acc.length
    · rw [hget j h1] at hj
      obtain ⟨q, h2, h3⟩ := h j p hj
      refine ⟨q, h2, h3.imp id fun ⟨h4, h5⟩ => ⟨h4, ?_⟩⟩
      rw [hget q (by omega)]
      exact h5
    · by_cases h2 : j = acc.length
      · subst h2
        have : (acc ++ [maskOf acc ps]).getD acc.length 0 = maskOf acc ps := by simp
        rw [this] at hj
        obtain ⟨q, h3, h4⟩ := maskOf_bit hj
        refine ⟨q, by rw [hps]; exact h3, h4.imp id fun h5 => ?_⟩
        have hq : q < acc.length := by
          rcases Nat.lt_or_ge q acc.length with h6 | h6
          · exact h6
          · simp [List.getD_eq_getElem?_getD, List.getElem?_eq_none h6] at h5
        exact ⟨hq, by rw [hget q hq]; exact h5⟩
      · have : (acc ++ [maskOf acc ps]).getD j 0 = 0 := by
          simp only [List.getD_eq_getElem?_getD]
          rw [List.getElem?_eq_none (by simp; omega)]
          rfl
        rw [this] at hj
        simp at hj

theorem befB_spec {p j : Nat} (h : befB al p j = true) : ∃ q ∈ predsOf al j, q = p ∨ (q < j ∧ befB al p q = true) :=
  masks_spec al [] [] rfl rfl (fun j p h => by simp at h) j p h

theorem Closed.bef {D : List Nat} (h : Closed al D) : ∀ (p j : Nat), befB al p j = true → (∀ q ∈ predsOf al j, q ∈ D) → p ∈ D := by
  intro p j
  induction j using Nat.strongRecOn with
  | _ j ih =>
    intro hb hj
    obtain ⟨q, hq, rfl | ⟨hlt, hb⟩⟩ := befB_spec hb
    · exact hj q hq
    · exact ih q hlt hb (h q (hj q hq))

/-- The slots once the operations of a set have been carried out. -/
def envOf (al : DL) (e0 : Env) (val : Nat → Value) (D : List Nat) : Env := fun t => match D.find? (fun i => dstAt al i == some t) with
  | some i => val i
  | none => e0 t

theorem envOf_in {e0 : Env} {val : Nat → Value} {D : List Nat} (h : drawOk al = true) {i t : Nat} (hi : i ∈ D) (hd : dstAt al i = some t) : envOf al e0 val D t = val i := by
  unfold envOf
  cases hf : D.find? (fun i => dstAt al i == some t) with
  | none =>
    have := List.find?_eq_none.1 hf i hi
    simp [hd] at this
  | some j =>
    have := List.find?_some hf
    simp only [beq_iff_eq] at this
    rw [drawOk_one h this hd]
theorem envOf_out {e0 : Env} {val : Nat → Value} {D : List Nat} {t : Nat} (h : ∀ i ∈ D, dstAt al i ≠ some t) : envOf al e0 val D t = e0 t := by
  unfold envOf
  have : D.find? (fun i => dstAt al i == some t) = none := List.find?_eq_none.2 fun i hi => by simpa using h i hi
  rw [this]
theorem envOf_cons {e0 : Env} {val : Nat → Value} {D : List Nat} (h : drawOk al = true) (i : Nat) (hi : i ∉ D) : envOf al e0 val (i :: D) = (envOf al e0 val D).putO (dstAt al i) (val i) := by
  funext t
  cases hd : dstAt al i with
  | none =>
    simp only [Env.putO]
    by_cases hx : ∃ j ∈ D, dstAt al j = some t
    · obtain ⟨j, hj, hjt⟩ := hx
      rw [envOf_in h (List.mem_cons_of_mem _ hj) hjt, envOf_in h hj hjt]
    · rw [envOf_out (fun j hj hjt => hx ⟨j, hj, hjt⟩)]
      refine envOf_out fun j hj hjt => ?_
      rcases List.mem_cons.1 hj with rfl | hj
      · rw [hd] at hjt; cases hjt
      · exact hx ⟨j, hj, hjt⟩
  | some d =>
    simp only [Env.putO, Env.put]
    split
    · rename_i ht
      subst ht
      exact envOf_in h (List.mem_cons_self ..) hd
    · rename_i ht
      by_cases hx : ∃ j ∈ D, dstAt al j = some t
      · obtain ⟨j, hj, hjt⟩ := hx
        rw [envOf_in h (List.mem_cons_of_mem _ hj) hjt, envOf_in h hj hjt]
      · rw [envOf_out (fun j hj hjt => hx ⟨j, hj, hjt⟩)]
        refine envOf_out fun j hj hjt => ?_
        rcases List.mem_cons.1 hj with rfl | hj
        · rw [hd] at hjt; exact ht (Option.some.inj hjt).symm
        · exact hx ⟨j, hj, hjt⟩

/-- What an operation sees of its slots, whatever the order. -/
def seen (al : DL) (e0 : Env) (val : Nat → Value) (j : Nat) : Env := fun t => match (List.range al.length).find? (fun i => dstAt al i == some t && befB al i j) with
  | some i => val i
  | none => e0 t

theorem seen_eq {e0 : Env} {val : Nat → Value} {D : List Nat} (h : drawOk al = true) (hD : Closed al D) {j : Nat} (hjl : j < al.length) (hj : j ∉ D) (hp : ∀ q ∈ predsOf al j, q ∈ D) {t : Nat} (ht : t ∈ looksAt al j) :
    envOf al e0 val D t = seen al e0 val j t := by
  unfold seen
  cases hf : (List.range al.length).find? (fun i => dstAt al i == some t && befB al i j) with
  | some i =>
    have := List.find?_some hf
    simp only [Bool.and_eq_true, beq_iff_eq] at this
    exact envOf_in h (hD.bef _ _ this.2 hp) this.1
  | none =>
    refine envOf_out fun i hi hit => ?_
    have h1 := List.find?_eq_none.1 hf i (List.mem_range.2 (dstAt_lt hit))
    simp only [hit, beq_self_eq_true, Bool.true_and] at h1
    have hne : i ≠ j := fun e => hj (e ▸ hi)
    rcases drawOk_bef h hit hjl ht hne with hb | hb
    · exact h1 hb
    · exact hj (hD.bef _ _ hb (hD i hi))

theorem seen_val {e0 : Env} {val val' : Nat → Value} {D : List Nat} (hD : Closed al D) {j : Nat} (hj : j ∈ D) (hv : ∀ i ∈ D, val' i = val i) : seen al e0 val' j = seen al e0 val j := by
  funext t
  unfold seen
  cases hf : (List.range al.length).find? (fun i => dstAt al i == some t && befB al i j) with
  | none => rfl
  | some i =>
    have := List.find?_some hf
    simp only [Bool.and_eq_true, beq_iff_eq] at this
    exact hv i (hD.bef _ _ this.2 (hD j hj))

theorem envOf_val {e0 : Env} {val val' : Nat → Value} {D : List Nat} (hv : ∀ i ∈ D, val' i = val i) : envOf al e0 val' D = envOf al e0 val D := by
  funext t
  unfold envOf
  cases hf : D.find? (fun i => dstAt al i == some t) with
  | none => rfl
  | some i => exact hv i (List.mem_of_find?_eq_some hf)

/-- How many are still to come. -/
def left (n : Nat) (D : List Nat) : Nat := ((List.range n).filter fun i => !D.contains i).length
theorem left_cons {n i : Nat} {D : List Nat} (hi : i < n) (hD : i ∉ D) : left n (i :: D) < left n D := by
  unfold left
  have : (List.range n).filter (fun j => !(i :: D).contains j) = ((List.range n).filter fun j => !D.contains j).filter fun j => j != i := by
    rw [List.filter_filter]
    apply List.filter_congr
    intro j _
    simp only [List.contains_cons, Bool.not_or]
    rfl
  rw [this]
  refine List.length_filter_lt_length_iff_exists.2 ⟨i, ?_, by simp⟩
  simp [hi, hD]
theorem left_zero {n : Nat} {D : List Nat} (h : left n D = 0) {i : Nat} (hi : i < n) : i ∈ D := by
  unfold left at h
  have := List.eq_nil_of_length_eq_zero h
  rw [List.filter_eq_nil_iff] at this
  have := this i (List.mem_range.2 hi)
  simpa using this
theorem left_pos {n i : Nat} {D : List Nat} (hi : i < n) (hD : i ∉ D) : 0 < left n D := by
  rcases Nat.eq_zero_or_pos (left n D) with h | h
  · exact absurd (left_zero h hi) hD
  · exact h
end

section
variable {P : Program} {T : Specs} {al : DL} {ops : Array Oper} {B : Base P} {N : Nat}

/-- The two lists of operations fit. -/
structure Fits (P : Program) (N : Nat) (ops : Array Oper) (al : DL) : Prop where
  len : ops.size = al.length
  op : ∀ (i : Nat) o, ops[i]? = some o → ∃ x, al[i]? = some (x, predsOf al i) ∧ trOper P N ops o = some x
  pred : ∀ (i : Nat) o, ops[i]? = some o → ∀ q, q ∈ predsOf al i ↔ ∃ e ∈ o.after, Region.binds .any e = true ∧ e.on = q

/-- An operation that is done ahead in the abstract, and not yet in truth, still tells what it told. -/
def Tells (al : DL) (e0 : Env) (val : Nat → Value) (σ : Hp) (chk : List (Nat × (Hp → Prop))) (j : Nat) : Prop :=
  ∃ x p, al[j]? = some (x, p) ∧ x.op.still = true ∧
    ((wanted x (seen al e0 val j) = true ∧ x.op.run (seen al e0 val j) σ = some (val j, σ) ∧
      (x.op.isLoad = true → ∃ c, (j, c) ∈ chk ∧ ∀ σ', c σ' → x.op.run (seen al e0 val j) σ' = some (val j, σ'))) ∨
     (wanted x (seen al e0 val j) = false ∧ val j = undef))

structure Inv (al : DL) (e0 : Env) (val : Nat → Value) (σ : Hp) (chk : List (Nat × (Hp → Prop))) (D L : List Nat) : Prop where
  dc : Closed al D
  lc : Closed al L
  sub : ∀ i ∈ L, i ∈ D
  lt : ∀ i ∈ D, i < al.length
  tells : ∀ j ∈ D, j ∉ L → Tells al e0 val σ chk j

theorem readyB_iff {D : List Nat} {i : Nat} : readyB al D i = true ↔ i ∉ D ∧ ∀ q ∈ predsOf al i, q ∈ D := by
  unfold readyB
  simp only [Bool.and_eq_true, Bool.not_eq_true', List.all_eq_true, List.contains_iff_mem]
  constructor
  · rintro ⟨h1, h2⟩
    exact ⟨fun h => by simp [h] at h1, h2⟩
  · rintro ⟨h1, h2⟩
    exact ⟨by simpa using h1, h2⟩

theorem nextStill_some {D : List Nat} {i : Nat} (h : nextStill al D = some i) : i < al.length ∧ i ∉ D ∧ (∀ q ∈ predsOf al i, q ∈ D) ∧ stillB al i = true := by
  unfold nextStill at h
  have h1 := List.find?_some h
  have h2 := List.mem_of_find?_eq_some h
  simp only [Bool.and_eq_true] at h1
  obtain ⟨h3, h4⟩ := readyB_iff.1 h1.1
  exact ⟨List.mem_range.1 h2, h3, h4, h1.2⟩
theorem nextStill_none {D : List Nat} (h : nextStill al D = none) {i : Nat} (hi : i < al.length) (h1 : i ∉ D) (h2 : ∀ q ∈ predsOf al i, q ∈ D) : stillB al i = false := by
  unfold nextStill at h
  have := List.find?_eq_none.1 h i (List.mem_range.2 hi)
  simp only [readyB_iff.2 ⟨h1, h2⟩, Bool.true_and] at this
  simpa using this

theorem mem_movers {D : List Nat} {i : Nat} : i ∈ readyMovers al D ↔ i < al.length ∧ i ∉ D ∧ (∀ q ∈ predsOf al i, q ∈ D) ∧ stillB al i = false := by
  unfold readyMovers
  simp only [List.mem_filter, List.mem_range, Bool.and_eq_true, Bool.not_eq_true', readyB_iff, and_assoc]

theorem allL_mem {f : Nat → Prop} : ∀ {l : List Nat}, allL f l → ∀ m ∈ l, f m
  | [], _, m, hm => by cases hm
  | [x], h, m, hm => by simp at hm; subst hm; exact h
  | x :: y :: r, h, m, hm => by
    rcases List.mem_cons.1 hm with rfl | hm
    · exact h.1
    · exact allL_mem h.2 m hm

/-- Update of what the operations told. -/
def upd (val : Nat → Value) (i : Nat) (v : Value) : Nat → Value := fun k => if k = i then v else val k

theorem Tells.upd {e0 : Env} {val : Nat → Value} {σ : Hp} {chk : List (Nat × (Hp → Prop))} {D : List Nat} {i j : Nat} {v : Value} (hD : Closed al D) (hj : j ∈ D) (hi : i ∉ D) (h : Tells al e0 val σ chk j) : Tells al e0 (upd val i v) σ chk j := by
  obtain ⟨x, p, h1, h2, h3⟩ := h
  have hv : ∀ k ∈ D, Ab.upd val i v k = val k := fun k hk => if_neg fun (e : k = i) => hi (e ▸ hk)
  have hs := seen_val (e0 := e0) hD hj hv
  refine ⟨x, p, h1, h2, ?_⟩
  rw [hs, hv j hj]
  exact h3
theorem Tells.more {e0 : Env} {val : Nat → Value} {σ : Hp} {chk chk' : List (Nat × (Hp → Prop))} {j : Nat} (h : Tells al e0 val σ chk j) (hc : ∀ c ∈ chk, c ∈ chk') : Tells al e0 val σ chk' j := by
  obtain ⟨x, p, h1, h2, h3⟩ := h
  refine ⟨x, p, h1, h2, h3.imp (fun ⟨k1, k2, k3⟩ => ⟨k1, k2, fun hl => ?_⟩) id⟩
  obtain ⟨c, k4, k5⟩ := k3 hl
  exact ⟨c, hc _ k4, k5⟩

/-- The abstract machine goes on with whatever only looks. -/
theorem advance {Q : Env → Hp → Prop} (hok : drawOk al = true) {e0 : Env} {σ : Hp} {L : List Nat} : ∀ (f : Nat) (val : Nat → Value) (D : List Nat) (chk : List (Nat × (Hp → Prop))) (e : Env), wpD T Q al f D chk e σ → left al.length D ≤ f → e = envOf al e0 val D →
    Inv al e0 val σ chk D L → ∃ f' val' D' chk' , wpD T Q al f' D' chk' (envOf al e0 val' D') σ ∧ left al.length D' ≤ f' ∧ Inv al e0 val' σ chk' D' L ∧ nextStill al D' = none ∧ (∀ i ∈ D, val' i = val i) ∧ ∀ i ∈ D, i ∈ D'
  | 0, val, D, chk, e, h, hf, he, hI => by
    have hall : ∀ i, i < al.length → i ∈ D := fun i hi => left_zero (by omega) hi
    refine ⟨0, val, D, chk, by rw [← he]; exact h, hf, hI, ?_, fun _ _ => rfl, fun _ hi => hi⟩
    cases hn : nextStill al D with
    | none => rfl
    | some i => exact absurd (hall i (nextStill_some hn).1) (nextStill_some hn).2.1
  | f + 1, val, D, chk, e, h, hf, he, hI => by
    cases hn : nextStill al D with
    | none => exact ⟨f + 1, val, D, chk, by rw [← he]; exact h, hf, hI, hn, fun _ _ => rfl, fun _ hi => hi⟩
    | some i =>
      obtain ⟨h1, h2, h3, h4⟩ := nextStill_some hn
      simp only [wpD, hn] at h
      split at h
      · rename_i x p hx
        have hst : x.op.still = true := by simpa [stillB, hx] using h4
        have hlooks : ∀ t ∈ x.looks, e t = seen al e0 val i t := by
          intro t ht
          rw [he]
          exact seen_eq hok hI.dc h1 h2 h3 (by simpa [looksAt, hx] using ht)
        have hdst : dstAt al i = x.dst := by simp [dstAt, hx]
        have hleft : left al.length (i :: D) ≤ f := by have := left_cons h1 h2; omega
        have hDc : Closed al (i :: D) := by
          intro k hk q hq
          rcases List.mem_cons.1 hk with rfl | hk
          · exact List.mem_cons_of_mem _ (h3 q hq)
          · exact List.mem_cons_of_mem _ (hI.dc k hk q hq)
        have step : ∀ (v : Value) (chk' : List (Nat × (Hp → Prop))), wpD T Q al f (i :: D) chk' (e.putO x.dst v) σ → (∀ c ∈ chk, c ∈ chk') → Tells al e0 (upd val i v) σ chk' i →
            ∃ f' val' D' chk' , wpD T Q al f' D' chk' (envOf al e0 val' D') σ ∧ left al.length D' ≤ f' ∧ Inv al e0 val' σ chk' D' L ∧ nextStill al D' = none ∧ (∀ i ∈ D, val' i = val i) ∧ ∀ i ∈ D, i ∈ D' := by
          intro v chk' hw hc ht
          have hval : ∀ k ∈ D, upd val i v k = val k := fun k hk => if_neg fun (e : k = i) => h2 (e ▸ hk)
          have henv : e.putO x.dst v = envOf al e0 (upd val i v) (i :: D) := by
            rw [envOf_cons hok i h2, envOf_val hval, hdst, ← he]
            congr 1
            exact (if_pos rfl).symm
          obtain ⟨f', val', D', chk'', g1, g2, g3, g4, g5, g6⟩ := advance hok f (upd val i v) (i :: D) chk' _ hw hleft henv ⟨hDc, hI.lc, fun k hk => List.mem_cons_of_mem _ (hI.sub k hk), fun k hk => (List.mem_cons.1 hk).elim (fun e => e ▸ h1) (hI.lt k), fun j hj hjL => by
            rcases List.mem_cons.1 hj with rfl | hj
            · exact ht
            · exact ((hI.tells j hj hjL).upd hI.dc hj h2).more hc⟩
          exact ⟨f', val', D', chk'', g1, g2, g3, g4, fun k hk => (g5 k (List.mem_cons_of_mem _ hk)).trans (hval k hk), fun k hk => g6 k (List.mem_cons_of_mem _ hk)⟩
        have hseen : ∀ v, seen al e0 (upd val i v) i = seen al e0 val i := by
          intro v
          funext t
          unfold seen
          cases hf' : (List.range al.length).find? (fun k => dstAt al k == some t && befB al k i) with
          | none => rfl
          | some k =>
            have := List.find?_some hf'
            simp only [Bool.and_eq_true, beq_iff_eq] at this
            exact if_neg fun (e : k = i) => h2 (e ▸ hI.dc.bef _ _ this.2 h3)
        have hw0 := wanted_congr hlooks
        have hr0 : ∀ σ', x.op.run e σ' = x.op.run (seen al e0 val i) σ' := fun σ' => run_congr fun t ht => hlooks t (by simp [AOper.looks, ht])
        split at h
        · rename_i hwant
          split at h
          · rename_i v σ1 hrun
            obtain rfl := still_same hst hrun
            refine step v _ h (fun c hc => by split <;> simp [hc]) ⟨x, p, hx, hst, .inl ⟨by rw [hseen, ← hw0]; exact hwant, by rw [hseen, ← hr0]; rw [hrun]; congr 2; exact (if_pos rfl).symm, fun hl => ?_⟩⟩
            refine ⟨_, by rw [if_pos hl]; exact List.mem_cons_self .., fun σ' hσ' => ?_⟩
            rw [hseen, ← hr0, hσ']
            congr 2
            exact (if_pos rfl).symm
          · exact h.elim
        · rename_i hwant
          exact step undef chk h (fun c hc => hc) ⟨x, p, hx, hst, .inr ⟨by rw [hseen, ← hw0]; simpa using hwant, if_pos rfl⟩⟩
      · exact h.elim

theorem keeps_mem {m : Nat} {σ : Hp} : ∀ {chk : List (Nat × (Hp → Prop))}, keeps al m σ chk → ∀ j c, (j, c) ∈ chk → befB al j m = false → c σ
  | [], _, j, c, h, _ => by cases h
  | (i, d) :: r, hk, j, c, h, hb => by
    simp only [keeps] at hk
    rcases List.mem_cons.1 h with h | h
    · injection h with h1 h2
      subst h1 h2
      rw [if_neg (by simp [hb])] at hk
      exact hk.1
    · split at hk
      · exact keeps_mem hk j c h hb
      · exact keeps_mem hk.2 j c h hb

theorem Fits.ready (hF : Fits P N ops al) {listed : Array Bool} {L : List Nat} (hs : listed.size = ops.size) (hL : ∀ i, i < ops.size → (listed.getD i false = true ↔ i ∈ L)) (hlt : ∀ i ∈ L, i < ops.size) {i : Nat} :
    i ∈ Region.ready .any ops listed ↔ i < al.length ∧ i ∉ L ∧ ∀ q ∈ predsOf al i, q ∈ L := by
  have hg : ∀ k, listed.getD k false = true ↔ k ∈ L := by
    intro k
    by_cases hk : k < ops.size
    · exact hL k hk
    · constructor
      · intro h
        have : listed.getD k false = false := by simp [Array.getElem?_eq_none (show listed.size ≤ k by omega)]
        rw [this] at h
        cases h
      · intro h
        exact absurd (hlt k h) hk
  rw [mem_ready]
  constructor
  · rintro ⟨h1, o, h2, h3⟩
    have hi : i < ops.size := (Array.getElem?_eq_some_iff.1 h2).1
    refine ⟨hF.len ▸ hi, fun h => ?_, fun q hq => ?_⟩
    · have h4 := (hg i).2 h
      rw [getD_both h1] at h4
      cases h4
    · obtain ⟨e, h4, h5, rfl⟩ := (hF.pred i o h2 q).1 hq
      exact (hg _).1 (h3 e h4 h5)
  · rintro ⟨h1, h2, h3⟩
    have hi : i < ops.size := hF.len ▸ h1
    refine ⟨getD_in (by omega) ?_, ops[i], Array.getElem?_eq_getElem hi, fun e he hb => (hg _).2 (h3 _ ((hF.pred i _ (Array.getElem?_eq_getElem hi) _).2 ⟨e, he, hb, rfl⟩))⟩
    cases hh : listed.getD i false with
    | true => exact absurd ((hg i).1 hh) h2
    | false => rfl

theorem draw_ok (hT : ∀ f, Sim P f (T f)) (hF : Fits P N ops al) (hok : drawOk al = true) {Q : AExit → Env → Hp → Prop} {e0 : Env} {μ0 : Mu} {w0 : World} : ∀ (fuel : Nat) (f : Nat) (val : Nat → Value) (D L : List Nat) (chk : List (Nat × (Hp → Prop))) (listed : Array Bool) (σ : Hp) (μ : Mu) (a : Act) (w : World),
    wpD T (Q .normal) al f D chk (envOf al e0 val D) σ → left al.length D ≤ f → left al.length L ≤ fuel → Inv al e0 val σ chk D L → listed.size = ops.size → (∀ i, i < ops.size → (listed.getD i false = true ↔ i ∈ L)) →
    R B μ σ w → EnvR μ N (envOf al e0 val L) a.tmps → a.defers = [] → μ0.le μ → Below B w0 w → wpAny P .any ops (Post B N μ0 w0 Q) fuel listed a w := by
  intro fuel
  induction fuel with
  | zero =>
    intro f val D L chk listed σ μ a w h hf hfu hI hs hL hR he hd hμ hb
    have hall : ∀ i, i < al.length → i ∈ L := fun i hi => left_zero (by omega) hi
    have hlt : ∀ i ∈ L, i < ops.size := fun i hi => by rw [hF.len]; exact hI.lt i (hI.sub i hi)
    have hnil : Region.ready .any ops listed = [] := by
      cases hr : Region.ready .any ops listed with
      | nil => rfl
      | cons i r =>
        have := (hF.ready hs hL hlt (i := i)).1 (by rw [hr]; exact List.mem_cons_self ..)
        exact absurd (hall i this.1) this.2.1
    refine ⟨hnil, ?_⟩
    obtain ⟨f', val', D', chk', g1, g2, g3, g4, g5, g6⟩ := advance (Q := Q .normal) hok f val D chk _ h hf rfl hI
    have hq : Q .normal (envOf al e0 val' D') σ := by
      have hmv : readyMovers al D' = [] := by
        cases hm : readyMovers al D' with
        | nil => rfl
        | cons i r =>
          have := mem_movers.1 (show i ∈ readyMovers al D' by rw [hm]; exact List.mem_cons_self ..)
          exact absurd (g6 i (hI.sub i (hall i this.1))) this.2.1
      cases f' with
      | zero => exact g1
      | succ f' => simp only [wpD, g4, hmv] at g1; exact g1
    have henv : envOf al e0 val' D' = envOf al e0 val L := by
      funext t
      by_cases hx : ∃ j, j < al.length ∧ dstAt al j = some t
      · obtain ⟨j, hj, hjt⟩ := hx
        rw [envOf_in hok (g6 j (hI.sub j (hall j hj))) hjt, envOf_in hok (hall j hj) hjt, g5 j (hI.sub j (hall j hj))]
      · rw [envOf_out (fun j _ hjt => hx ⟨j, dstAt_lt hjt, hjt⟩), envOf_out (fun j _ hjt => hx ⟨j, dstAt_lt hjt, hjt⟩)]
    rw [henv] at hq
    exact ⟨.normal, _, σ, μ, trivial, hq, hμ, hR, he, hd, hb⟩
  | succ fuel ih =>
    intro f val D L chk listed σ μ a w h hf hfu hI hs hL hR he hd hμ hb
    have hlt : ∀ i ∈ L, i < ops.size := fun i hi => by rw [hF.len]; exact hI.lt i (hI.sub i hi)
    obtain ⟨f', val', D', chk', g1, g2, g3, g4, g5, g6⟩ := advance (Q := Q .normal) hok f val D chk _ h hf rfl hI
    have hvL : ∀ i ∈ L, val' i = val i := fun i hi => g5 i (hI.sub i hi)
    have he' : EnvR μ N (envOf al e0 val' L) a.tmps := by rw [envOf_val hvL]; exact he
    have hL' : ∀ i, i < ops.size → ∀ (hi : i ∉ L), (∀ k, k < ops.size → ((listed.setIfInBounds i true).getD k false = true ↔ k ∈ i :: L)) := by
      intro i hi hiL k hk
      by_cases e : k = i
      · subst e
        simp [hs, hk]
      · rw [getD_set_ne false (fun e' => e e'.symm)]
        rw [hL k hk]
        simp [e]
    have hLc : ∀ i, (∀ q ∈ predsOf al i, q ∈ L) → Closed al (i :: L) := by
      intro i hp k hk q hq
      rcases List.mem_cons.1 hk with rfl | hk
      · exact List.mem_cons_of_mem _ (hp q hq)
      · exact List.mem_cons_of_mem _ (hI.lc k hk q hq)
    refine ⟨fun hnil => ?_, fun i hi => ?_⟩
    · -- nothing is left
      have hDL : ∀ j ∈ D', j ∈ L := by
        intro j
        induction j using Nat.strongRecOn with
        | _ j ihj =>
          intro hj
          by_cases hjL : j ∈ L
          · exact hjL
          · exfalso
            have hr := (hF.ready hs hL hlt (i := j)).2 ⟨g3.lt j hj, hjL, fun q hq => ihj q (drawOk_pred hok (g3.lt j hj) hq) (g3.dc j hj q hq)⟩
            rw [hnil] at hr
            cases hr
      have hq : Q .normal (envOf al e0 val' D') σ := by
        have hmv : readyMovers al D' = [] := by
          cases hm : readyMovers al D' with
          | nil => rfl
          | cons i r =>
            exfalso
            have := mem_movers.1 (show i ∈ readyMovers al D' by rw [hm]; exact List.mem_cons_self ..)
            have hr := (hF.ready hs hL hlt (i := i)).2 ⟨this.1, fun h => this.2.1 (g3.sub i h), fun q hq => hDL q (this.2.2.1 q hq)⟩
            rw [hnil] at hr
            cases hr
        cases f' with
        | zero => exact g1
        | succ f' => simp only [wpD, g4, hmv] at g1; exact g1
      have henv : envOf al e0 val' D' = envOf al e0 val' L := by
        funext t
        by_cases hx : ∃ j ∈ L, dstAt al j = some t
        · obtain ⟨j, hj, hjt⟩ := hx
          rw [envOf_in hok (g3.sub j hj) hjt, envOf_in hok hj hjt]
        · rw [envOf_out (fun j hj hjt => hx ⟨j, hDL j hj, hjt⟩), envOf_out (fun j hj hjt => hx ⟨j, hj, hjt⟩)]
      rw [henv] at hq
      exact ⟨.normal, _, σ, μ, trivial, hq, hμ, hR, he', hd, hb⟩
    · -- one more
      obtain ⟨k1, k2, k3⟩ := (hF.ready hs hL hlt).1 hi
      have hio : i < ops.size := hF.len ▸ k1
      have hoi : ops[i]? = some ops[i] := Array.getElem?_eq_getElem hio
      obtain ⟨x, hx, htr⟩ := hF.op i _ hoi
      have hfu' : left al.length (i :: L) ≤ fuel := by have := left_cons k1 k2; omega
      have hs' : (listed.setIfInBounds i true).size = ops.size := by simpa using hs
      have hdst : dstAt al i = x.dst := by simp [dstAt, hx]
      unfold trOper at htr
      split at htr
      case h_2 => cases htr
      rename_i op g t1 t2
      split at htr
      case isFalse => cases htr
      rename_i t3
      injection htr with htr
      subst htr
      have hlooks : ∀ t ∈ (⟨ops[i].dst, op, g⟩ : AOper).looks, envOf al e0 val' L t = seen al e0 val' i t := by
        intro t ht
        exact seen_eq hok g3.lc k1 k2 k3 (by simpa [looksAt, hx] using ht)
      have hwant := wanted_ok (op := op) t2 he'
      rw [wanted_congr hlooks] at hwant
      unfold wpOp
      rw [hoi]
      simp only
      rw [hwant]
      by_cases hiD : i ∈ D'
      · -- it was done ahead
        obtain ⟨x', p, y1, y2, y3⟩ := g3.tells i hiD k2
        rw [hx] at y1
        injection y1 with y1
        injection y1 with y1 _
        subst y1
        have hInv' : ∀ (μ' : Mu) (w' : World), Inv al e0 val' σ chk' D' (i :: L) := fun μ' w' =>
          ⟨g3.dc, hLc i k3, fun k hk => (List.mem_cons.1 hk).elim (fun e => e ▸ hiD) (g3.sub k), g3.lt, fun j hj hjL => g3.tells j hj fun h => hjL (List.mem_cons_of_mem _ h)⟩
        rcases y3 with ⟨y4, y5, _⟩ | ⟨y4, y5⟩
        · rw [y4]
          rw [if_pos rfl]
          left
          have hrun : runOp T op (envOf al e0 val' L) σ fun v σ' => v = val' i ∧ σ' = σ := by
            have : op.run (envOf al e0 val' L) σ = some (val' i, σ) := by
              rw [run_congr (e' := seen al e0 val' i) fun t ht => hlooks t (by simp [AOper.looks, ht])]
              exact y5
            unfold runOp
            cases op <;> simp [AOp.still] at y2 <;> simp only [this] <;> exact ⟨trivial, trivial⟩
          refine runOp_ok hT t1 hrun he' hR fun v σ' v' μ' w' hk hμ' hR' hv hbel => ?_
          obtain ⟨rfl, rfl⟩ := hk
          refine ih f' val' D' (i :: L) chk' _ σ' μ' _ w' g1 g2 hfu' (hInv' μ' w') hs' (hL' i hio k2) hR' ?_ (by rw [put_defers]; exact hd) (Mu.le_trans hμ hμ') (hb.trans hbel)
          rw [envOf_cons hok i k2, hdst]
          exact (he'.mono hμ').putO t3 hv
        · rw [y4]
          simp only [Bool.false_eq_true, if_false]
          refine ih f' val' D' (i :: L) chk' _ σ μ _ w g1 g2 hfu' (hInv' μ w) hs' (hL' i hio k2) hR ?_ (by rw [put_defers]; exact hd) hμ hb
          rw [envOf_cons hok i k2, hdst, y5]
          exact he'.putO t3 (VR.undef μ)
      · -- it is one that moves things
        have hpD : ∀ q ∈ predsOf al i, q ∈ D' := fun q hq => g3.sub q (k3 q hq)
        have hst := nextStill_none g4 k1 hiD hpD
        have hmem : i ∈ readyMovers al D' := mem_movers.2 ⟨k1, hiD, hpD, hst⟩
        have hlooksD : ∀ t ∈ (⟨ops[i].dst, op, g⟩ : AOper).looks, envOf al e0 val' D' t = seen al e0 val' i t := by
          intro t ht
          exact seen_eq hok g3.dc k1 hiD hpD (by simpa [looksAt, hx] using ht)
        have hsame : ∀ t ∈ (⟨ops[i].dst, op, g⟩ : AOper).looks, envOf al e0 val' D' t = envOf al e0 val' L t := fun t ht => (hlooksD t ht).trans (hlooks t ht).symm
        obtain ⟨f'', rfl⟩ : ∃ f'', f' = f'' + 1 := ⟨f' - 1, by have := left_pos k1 hiD; omega⟩
        have hleft : left al.length (i :: D') ≤ f'' := by have := left_cons k1 hiD; omega
        simp only [wpD, g4] at g1
        have hcomp : (if wanted ⟨ops[i].dst, op, g⟩ (envOf al e0 val' D') then runOp T op (envOf al e0 val' D') σ fun v σ' => keeps al i σ' chk' ∧ wpD T (Q .normal) al f'' (i :: D') chk' ((envOf al e0 val' D').putO ops[i].dst v) σ'
            else wpD T (Q .normal) al f'' (i :: D') chk' ((envOf al e0 val' D').putO ops[i].dst undef) σ) := by
          cases hm : readyMovers al D' with
          | nil => rw [hm] at hmem; cases hmem
          | cons m r =>
            rw [hm] at g1 hmem
            simp only at g1
            have := allL_mem g1 i hmem
            simp only [hx] at this
            exact this
        rw [wanted_congr hlooksD] at hcomp
        have hDc : Closed al (i :: D') := by
          intro k hk q hq
          rcases List.mem_cons.1 hk with rfl | hk
          · exact List.mem_cons_of_mem _ (hpD q hq)
          · exact List.mem_cons_of_mem _ (g3.dc k hk q hq)
        have hlag : ∀ j ∈ i :: D', j ∉ i :: L → j ∈ D' ∧ j ∉ L := fun j hj hjL =>
          ⟨(List.mem_cons.1 hj).elim (fun e => absurd (e ▸ List.mem_cons_self ..) hjL) id, fun h => hjL (List.mem_cons_of_mem _ h)⟩
        have hval : ∀ v, ∀ k ∈ D', upd val' i v k = val' k := fun v k hk => if_neg fun (e : k = i) => hiD (e ▸ hk)
        have henvD : ∀ v, (envOf al e0 val' D').putO ops[i].dst v = envOf al e0 (upd val' i v) (i :: D') := by
          intro v
          rw [envOf_cons hok i hiD, envOf_val (hval v), hdst]
          congr 1
          exact (if_pos rfl).symm
        have henvL : ∀ v, (envOf al e0 val' L).putO ops[i].dst v = envOf al e0 (upd val' i v) (i :: L) := by
          intro v
          rw [envOf_cons hok i k2, envOf_val (fun k hk => hval v k (g3.sub k hk)), hdst]
          congr 1
          exact (if_pos rfl).symm
        split at hcomp
        · rename_i hw1
          rw [hw1, if_pos rfl]
          left
          refine runOp_ok hT t1 (runOp_congr (fun t ht => hsame t (by simp [AOper.looks, ht])) hcomp) he' hR fun v σ' v' μ' w' hk hμ' hR' hv hbel => ?_
          obtain ⟨hk1, hk2⟩ := hk
          rw [henvD v] at hk2
          refine ih f'' (upd val' i v) (i :: D') (i :: L) chk' _ σ' μ' _ w' hk2 hleft hfu' ⟨hDc, hLc i k3, fun k hk => (List.mem_cons.1 hk).elim (fun e => e ▸ List.mem_cons_self ..) fun h => List.mem_cons_of_mem _ (g3.sub k h), fun k hk => (List.mem_cons.1 hk).elim (fun e => e ▸ k1) (g3.lt k), fun j hj hjL => ?_⟩ hs' (hL' i hio k2) hR' ?_ (by rw [put_defers]; exact hd) (Mu.le_trans hμ hμ') (hb.trans hbel)
          · obtain ⟨hjD, hjL'⟩ := hlag j hj hjL
            have ht := (g3.tells j hjD hjL').upd (i := i) (v := v) g3.dc hjD hiD
            obtain ⟨x', p, z1, z2, z3⟩ := ht
            refine ⟨x', p, z1, z2, z3.imp (fun ⟨z4, z5, z6⟩ => ⟨z4, ?_, z6⟩) id⟩
            cases hl : x'.op.isLoad with
            | false => exact still_any z2 hl z5 σ'
            | true =>
              obtain ⟨c, z7, z8⟩ := z6 hl
              refine z8 σ' (keeps_mem hk1 j c z7 ?_)
              cases hbf : befB al j i with
              | false => rfl
              | true => exact absurd (g3.lc.bef _ _ hbf k3) hjL'
          · rw [← henvL v]
            exact (he'.mono hμ').putO t3 hv
        · rename_i hw1
          rw [if_neg hw1]
          rw [henvD undef] at hcomp
          refine ih f'' (upd val' i undef) (i :: D') (i :: L) chk' _ σ μ _ w hcomp hleft hfu' ⟨hDc, hLc i k3, fun k hk => (List.mem_cons.1 hk).elim (fun e => e ▸ List.mem_cons_self ..) fun h => List.mem_cons_of_mem _ (g3.sub k h), fun k hk => (List.mem_cons.1 hk).elim (fun e => e ▸ k1) (g3.lt k), fun j hj hjL => ?_⟩ hs' (hL' i hio k2) hR ?_ (by rw [put_defers]; exact hd) hμ hb
          · obtain ⟨hjD, hjL'⟩ := hlag j hj hjL
            exact (g3.tells j hjD hjL').upd g3.dc hjD hiD
          · rw [← henvL undef]
            exact he'.putO t3 (VR.undef μ)
end
end Go.Ab
