/- The meter's laws, as plain Lean. -/
import Derived.Test.YtppoeoleehiemaaD19
import Derived.Test.YtppoeoleehiemaaV21
import Derived.KernelRfl
namespace Go.V
set_option linter.unusedVariables false
set_option linter.unusedSimpArgs false
open Go.Ab
set_option linter.unusedVariables false
set_option linter.unusedSimpArgs false

theorem goes19 : D_law19_goes = some true := by kernel_rfl

theorem ref19_then (a : Int) (l : List Int) (v : Int) (hl : l.length ≤ 1000000) : D_ref19_then a l v = some (a, l ++ [v]) := by
  unfold D_ref19_then
  have h : loopN (D_ref19_then_L0 l) BIG (0, []) = some l := by
    refine loop_eq (fun s => ∃ i : Nat, i ≤ l.length ∧ s = ((i : Int), l.take i)) (fun s => l.length - s.1.toNat) ⟨0, Nat.zero_le _, rfl⟩ (by simp; omega) ?_
    rintro _ ⟨i, hi, rfl⟩
    simp only [D_ref19_then_L0, cond_dec]
    by_cases hlt : i < l.length
    · refine .inl ⟨(((i + 1 : Nat) : Int), l.take (i + 1)), ?_, ⟨i + 1, hlt, rfl⟩, by simp; omega⟩
      rw [if_pos (by omega), rd_get hlt]
      simp only [Option.bind_some]
      rw [gd_fits (by rw [List.length_take]; omega) (by omega), wrap64 (by omega), List.take_succ_eq_append_getElem hlt]
      rfl
    · refine .inr ?_
      have : i = l.length := by omega
      rw [if_neg (by omega), this, List.take_length]
  rw [h]
  simp only [Option.bind_some]
  rw [gd_fits (by omega) (by omega)]
theorem ref19_Peak (a : Int) (l : List Int) (hl : l.length ≤ 1000000) : D_ref19_Peak a l = some (l.foldl max 0) := by
  unfold D_ref19_Peak
  have h : loopN (D_ref19_Peak_L0 l) BIG (0, 0) = some (l.foldl max 0) := by
    refine loop_eq (fun s => ∃ i : Nat, i ≤ l.length ∧ s = ((i : Int), (l.take i).foldl max 0)) (fun s => l.length - s.1.toNat) ⟨0, Nat.zero_le _, rfl⟩ (by simp; omega) ?_
    rintro _ ⟨i, hi, rfl⟩
    simp only [D_ref19_Peak_L0, cond_dec]
    by_cases hlt : i < l.length
    · refine .inl ⟨(((i + 1 : Nat) : Int), (l.take (i + 1)).foldl max 0), ?_, ⟨i + 1, hlt, rfl⟩, by simp; omega⟩
      rw [if_pos (by omega), rd_get hlt]
      simp only [Option.bind_some]
      rw [wrap64 (by omega), List.take_succ_eq_append_getElem hlt, List.foldl_append]
      rfl
    · refine .inr ?_
      have : i = l.length := by omega
      rw [if_neg (by omega), this, List.take_length]
  rw [h]
  rfl
theorem ref19_Live (a : Int) (l : List Int) (v : Int) (hl : l.length ≤ 1000000) : D_ref19_Live a (l ++ [v]) = some v := by
  unfold D_ref19_Live
  rw [List.length_append, List.length_singleton, wrap64 (by omega), rd_get' (by omega) (by rw [List.length_append, List.length_singleton]; omega)]
  simp only [Option.bind_some]
  congr 1
  rw [List.getElem_append_right (by omega)]
  simp

/-- The document's meter and the program's stand for the same. -/
structure M19 (budget live peak : Int) (was : List Int) : Prop where
  w : ∃ l, was = l ++ [live]
  p : was.foldl max 0 = peak
  b : 0 ≤ live ∧ live ≤ peak ∧ peak ≤ budget ∧ budget ≤ 9223372036854775807

theorem law19_plays (a0 a1 a2 : Int) (l : List Int) (h0 : -9223372036854775808 ≤ a0 ∧ a0 ≤ 9223372036854775807) (h1 : -9223372036854775808 ≤ a1 ∧ a1 ≤ 9223372036854775807) (h2 : -9223372036854775808 ≤ a2 ∧ a2 ≤ 9223372036854775807)
    (hl : ∀ n ∈ l, -9223372036854775808 ≤ n ∧ n ≤ 9223372036854775807) (hlen : l.length ≤ 9223372036854775807) : D_law19_MeterPlays a0 a1 a2 l = some true := by
  unfold D_law19_MeterPlays D_meter_At D_ref19_At
  simp only [cond_dec]
  by_cases c1 : a1 < 0
  · simp [c1, caseS, goes19]
  by_cases c2 : a2 < a1
  · simp [c1, c2, caseS, goes19]
  by_cases c3 : a0 < a2
  · simp [c1, c2, c3, caseS, goes19]
  simp only [if_neg c1, if_neg c2, if_neg c3, Option.bind_some, caseS, D_meter_Meter_Live, D_meter_Meter_Peak, D_meter_Meter_Budget]
  have hh : ∃ c, loopN (D_law19_MeterPlays_L0 l) BIG (0, a1, a2, a0, a0, [a2, a1]) = some c ∧ ∃ u, c = .inr u := by
   refine loop_inv (f := D_law19_MeterPlays_L0 l) (a := (0, a1, a2, a0, a0, [a2, a1]))
    (fun s => ∃ (i : Nat) (live peak : Int) (was : List Int), i ≤ l.length ∧ i ≤ 200 ∧ s = ((i : Int), live, peak, a0, a0, was) ∧ was.length ≤ i + 2 ∧ M19 a0 live peak was) (fun s => l.length - s.1.toNat) (fun r => ∃ u, r = .inr u)
    ⟨0, a1, a2, [a2, a1], Nat.zero_le _, Nat.zero_le _, rfl, by simp, ⟨[a2], rfl⟩, by simp [List.foldl]; omega, by omega⟩ (by simp; omega) ?_
   rintro _ ⟨i, live, peak, was, hi, hi2, rfl, hw, ⟨ws, rfl⟩, hp, hb⟩
   have hwl : ws.length ≤ 1000 := by rw [List.length_append, List.length_singleton] at hw; omega
   simp only [D_law19_MeterPlays_L0, cond_dec]
   by_cases d1 : (i : Int) < ((l.length : Nat) : Int)
   · by_cases d2 : (i : Int) < 200
     · have hlt : i < l.length := by omega
       have hx := hl _ (List.getElem_mem hlt)
       rw [if_pos d1, if_pos d2, rd_get hlt]
       simp only [Option.bind_some]
       generalize l[i] = x at hx
       have fin : ∀ (live' peak' : Int) (was' : List Int), M19 a0 live' peak' was' → was'.length ≤ i + 3 →
           ((D_meter_Meter_Live live' peak' a0).bind fun r28 => (D_ref19_Live a0 was').bind fun r29 => if r28 ≠ r29 then some (.inr (.inl (false, live', peak', a0, a0, was')))
             else (D_meter_Meter_Peak live' peak' a0).bind fun r30 => (D_ref19_Peak a0 was').bind fun r31 => if r30 ≠ r31 then some (.inr (.inl (false, live', peak', a0, a0, was')))
             else some (.inl (IntKind.i64.wrap ((i : Int) + 1), live', peak', a0, a0, was'))) = (some (.inl (((i + 1 : Nat) : Int), live', peak', a0, a0, was')) : Option ((Int × Int × Int × Int × Int × List Int) ⊕ ((Bool × Int × Int × Int × Int × List Int) ⊕ (Int × Int × Int × Int × List Int)))) := by
         rintro live' peak' _ ⟨⟨ws', rfl⟩, hp', hb'⟩ hw'
         have hwl' : ws'.length ≤ 1000 := by rw [List.length_append, List.length_singleton] at hw'; omega
         rw [D_meter_Meter_Live, ref19_Live _ _ _ (show ws'.length ≤ 1000000 by omega), D_meter_Meter_Peak, ref19_Peak _ _ (by rw [List.length_append, List.length_singleton]; omega), hp']
         simp only [Option.bind_some, ne_eq, not_true_eq_false, if_false]
         rw [wrap64 (by omega)]
         rfl
       have good : M19 a0 live peak (ws ++ [live]) := ⟨⟨ws, rfl⟩, hp, hb⟩
       have grow : ∀ v, 0 ≤ v → v ≤ a0 → M19 a0 v (max peak v) ((ws ++ [live]) ++ [v]) := by
         intro v hv0 hv1
         refine ⟨⟨ws ++ [live], rfl⟩, by rw [List.foldl_append, hp]; rfl, by omega⟩
       have next : ∀ (live' peak' : Int) (was' : List Int), M19 a0 live' peak' was' → was'.length ≤ i + 3 → (∃ b, (some (.inl (((i + 1 : Nat) : Int), live', peak', a0, a0, was')) : Option ((Int × Int × Int × Int × Int × List Int) ⊕ ((Bool × Int × Int × Int × Int × List Int) ⊕ (Int × Int × Int × Int × List Int)))) = some (.inl b) ∧
           (∃ (i : Nat) (live peak : Int) (was : List Int), i ≤ l.length ∧ i ≤ 200 ∧ b = ((i : Int), live, peak, a0, a0, was) ∧ was.length ≤ i + 2 ∧ M19 a0 live peak was) ∧ l.length - b.1.toNat < l.length - ((i : Int)).toNat) := by
         intro live' peak' was' hm hw'
         exact ⟨_, rfl, ⟨i + 1, live', peak', was', by omega, by omega, rfl, by omega, hm⟩, by simp only [Int.toNat_natCast]; omega⟩
       by_cases e1 : 0 ≤ x
       · rw [if_pos e1]
         unfold D_ref19_Hold D_meter_Meter_Hold D_meter_counter_within D_meter_counter_add
         simp only [cond_dec, if_neg (show ¬x < 0 by omega), ref19_Live _ _ _ (show ws.length ≤ 1000000 by omega), Option.bind_some]
         rw [wrap64 (show -9223372036854775808 ≤ a0 - live ∧ a0 - live ≤ 9223372036854775807 by omega)]
         by_cases e2 : a0 - live < x
         · rw [if_pos e2]
           simp only [show decide (x ≤ a0 - live) = false from decide_eq_false (by omega), Bool.not_false, cond_true, Option.bind_some, ne_eq, not_true_eq_false, if_false, caseS]
           rw [fin _ _ _ good (by omega)]
           exact .inl (next _ _ _ good (by omega))
         · rw [if_neg e2]
           simp only [show decide (x ≤ a0 - live) = true from decide_eq_true (by omega), Bool.not_true, cond_false, Option.bind_some]
           rw [wrap64 (show -9223372036854775808 ≤ live + x ∧ live + x ≤ 9223372036854775807 by omega), ref19_then _ _ _ (by rw [List.length_append, List.length_singleton]; omega)]
           simp only [Option.bind_some, ne_eq, not_true_eq_false, if_false, caseS]
           have hm := grow (live + x) (by omega) (by omega)
           rw [fin _ _ _ hm (by rw [List.length_append, List.length_singleton]; omega)]
           exact .inl (next _ _ _ hm (by rw [List.length_append, List.length_singleton]; omega))
       · rw [if_neg e1]
         unfold D_ref19_Drop D_meter_Meter_Drop D_meter_counter_add
         rw [wrap64 (show -9223372036854775808 ≤ x + 1 ∧ x + 1 ≤ 9223372036854775807 by omega), wrap64 (show -9223372036854775808 ≤ 0 - (x + 1) ∧ 0 - (x + 1) ≤ 9223372036854775807 by omega)]
         simp only [cond_dec, if_neg (show ¬(0 - (x + 1)) < 0 by omega), ref19_Live _ _ _ (show ws.length ≤ 1000000 by omega), Option.bind_some]
         by_cases e2 : live < 0 - (x + 1)
         · simp only [if_pos e2, Option.bind_some, ne_eq, not_true_eq_false, if_false, caseS]
           rw [fin _ _ _ good (by omega)]
           exact .inl (next _ _ _ good (by omega))
         · simp only [if_neg e2, Option.bind_some]
           rw [wrap64 (show -9223372036854775808 ≤ 0 - (0 - (x + 1)) ∧ 0 - (0 - (x + 1)) ≤ 9223372036854775807 by omega), wrap64 (show -9223372036854775808 ≤ live - (0 - (x + 1)) ∧ live - (0 - (x + 1)) ≤ 9223372036854775807 by omega),
             wrap64 (show -9223372036854775808 ≤ live + (0 - (0 - (x + 1))) ∧ live + (0 - (0 - (x + 1))) ≤ 9223372036854775807 by omega), ref19_then _ _ _ (by rw [List.length_append, List.length_singleton]; omega)]
           have hv : live + (0 - (0 - (x + 1))) = live - (0 - (x + 1)) := by omega
           rw [hv]
           simp only [Option.bind_some, ne_eq, not_true_eq_false, if_false, caseS]
           have hm := grow (live - (0 - (x + 1))) (by omega) (by omega)
           rw [fin _ _ _ hm (by rw [List.length_append, List.length_singleton]; omega)]
           exact .inl (next _ _ _ hm (by rw [List.length_append, List.length_singleton]; omega))
     · rw [if_pos d1, if_neg d2]
       exact .inr ⟨_, rfl, _, rfl⟩
   · rw [if_neg d1]
     exact .inr ⟨_, rfl, _, rfl⟩
  obtain ⟨c, hc1, u, rfl⟩ := hh
  rw [hc1]
  simp [caseS, goes19]

theorem law19_back (a0 : Int) (l : List Int) (h0 : -9223372036854775808 ≤ a0 ∧ a0 ≤ 9223372036854775807)
    (hl : ∀ n ∈ l, -9223372036854775808 ≤ n ∧ n ≤ 9223372036854775807) (hlen : l.length ≤ 9223372036854775807) : D_law19_MeterBack a0 l = some true := by
  unfold D_law19_MeterBack D_meter_New D_meter_At
  simp only [cond_dec, show ¬(0 : Int) < 0 by omega, if_false]
  by_cases c1 : a0 < 0
  · simp [c1, caseS, goes19]
  by_cases c2 : (100 : Int) < ((l.length : Nat) : Int)
  · simp only [if_neg c1, Option.bind_some, caseS]
    rw [decide_eq_true c2]
    simp [goes19]
  simp only [if_neg c1, Option.bind_some, caseS]
  rw [decide_eq_false c2]
  simp only [cond_false]
  have hh : ∃ c, loopN (D_law19_MeterBack_L0 a0 l) BIG (0, 0, 0, a0) = some c ∧ ∃ u, c = .inr u := by
    refine loop_inv (f := D_law19_MeterBack_L0 a0 l)
      (fun s => ∃ (i : Nat) (live peak : Int), i ≤ l.length ∧ s = ((i : Int), live, peak, a0) ∧ 0 ≤ live ∧ live ≤ peak ∧ peak ≤ a0) (fun s => l.length - s.1.toNat) (fun r => ∃ u, r = .inr u)
      ⟨0, 0, 0, Nat.zero_le _, rfl, by omega, by omega, by omega⟩ (by simp; omega) ?_
    rintro _ ⟨i, live, peak, hi, rfl, b1, b2, b3⟩
    simp only [D_law19_MeterBack_L0, cond_dec]
    by_cases d1 : (i : Int) < ((l.length : Nat) : Int)
    · have hlt : i < l.length := by omega
      have hx := hl _ (List.getElem_mem hlt)
      rw [if_pos d1, rd_get hlt]
      generalize l[i] = x at hx
      have next : ∀ (live' peak' : Int), 0 ≤ live' → live' ≤ peak' → peak' ≤ a0 → (∃ b, (some (.inl (IntKind.i64.wrap ((i : Int) + 1), live', peak', a0)) : Option ((Int × Int × Int × Int) ⊕ ((Bool × Int × Int × Int) ⊕ (Int × Int × Int)))) = some (.inl b) ∧
          (∃ (i : Nat) (live peak : Int), i ≤ l.length ∧ b = ((i : Int), live, peak, a0) ∧ 0 ≤ live ∧ live ≤ peak ∧ peak ≤ a0) ∧ l.length - b.1.toNat < l.length - ((i : Int)).toNat) := by
        intro live' peak' q1 q2 q3
        rw [wrap64 (by omega)]
        exact ⟨_, rfl, ⟨i + 1, live', peak', by omega, rfl, q1, q2, q3⟩, by simp only; omega⟩
      simp only [D_meter_Meter_Live, D_meter_Meter_Peak, D_meter_Meter_Hold, D_meter_counter_within, D_meter_counter_add, Option.bind_some, cond_dec]
      by_cases e1 : x < 0
      · simp only [if_pos e1, Option.bind_some, ne_eq, not_true_eq_false, if_false, show (2 : Int) ≠ 0 by omega, not_false_eq_true, if_true]
        exact .inl (next _ _ b1 b2 b3)
      · rw [wrap64 (show -9223372036854775808 ≤ a0 - live ∧ a0 - live ≤ 9223372036854775807 by omega)]
        by_cases e2 : x ≤ a0 - live
        · simp only [if_neg e1, decide_eq_true e2, Bool.not_true, cond_false, Option.bind_some, ne_eq, not_true_eq_false, if_false]
          rw [wrap64 (show -9223372036854775808 ≤ live + x ∧ live + x ≤ 9223372036854775807 by omega)]
          simp only [if_neg (show ¬a0 < live + x by omega), if_neg (show ¬max peak (live + x) < peak by omega), if_neg (show ¬max peak (live + x) < live + x by omega)]
          by_cases e3 : Int.tmod (i : Int) 2 = 0
          · simp only [if_pos e3, D_meter_Meter_Drop, D_meter_counter_add, cond_dec, if_neg e1, if_neg (show ¬live + x < x by omega), Option.bind_some]
            rw [wrap64 (show -9223372036854775808 ≤ 0 - x ∧ 0 - x ≤ 9223372036854775807 by omega), wrap64 (show -9223372036854775808 ≤ live + x + (0 - x) ∧ live + x + (0 - x) ≤ 9223372036854775807 by omega)]
            have hv : live + x + (0 - x) = live := by omega
            simp only [hv, ne_eq, not_true_eq_false, if_false]
            exact .inl (next _ _ b1 (by omega) (by omega))
          · simp only [if_neg e3]
            exact .inl (next _ _ (by omega) (by omega) (by omega))
        · simp only [if_neg e1, decide_eq_false e2, Bool.not_false, cond_true, Option.bind_some, ne_eq, not_true_eq_false, if_false, show (15 : Int) ≠ 0 by omega, not_false_eq_true, if_true]
          exact .inl (next _ _ b1 b2 b3)
    · rw [if_neg d1]
      exact .inr ⟨_, rfl, _, rfl⟩
  obtain ⟨c, hc1, u, rfl⟩ := hh
  rw [hc1]
  simp [caseS, goes19]
end Go.V
