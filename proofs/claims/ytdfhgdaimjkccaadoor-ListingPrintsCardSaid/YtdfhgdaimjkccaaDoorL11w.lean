/- Signs, texts, lines: told by what they are. -/
import Derived.Test.YtdfhgdaimjkccaaDoorD11q
import Derived.Test.YtdfhgdaimjkccaaDoorV25
namespace Go.V
set_option linter.unusedVariables false
set_option linter.unusedSimpArgs false
open Go.Ab
set_option linter.unusedVariables false
set_option linter.unusedSimpArgs false
set_option maxRecDepth 100000
/- Signs, texts, lines: told by what they are. -/
/- Numbers' texts. -/

/-- A number's digits. -/
def digs (n : Nat) : List Int := if h : n < 10 then [48 + (n : Int)] else digs (n / 10) ++ [48 + ((n % 10 : Nat) : Int)]
termination_by n
decreasing_by omega
theorem digs_small {n : Nat} (h : n < 10) : digs n = [48 + (n : Int)] := by rw [digs, dif_pos h]
theorem digs_big {n : Nat} (h : ¬n < 10) : digs n = digs (n / 10) ++ [48 + ((n % 10 : Nat) : Int)] := by rw [digs, dif_neg h]
theorem digs_len (n : Nat) : (digs n).length = Lib.nDigits n := by
  induction n using Nat.strongRecOn with
  | ind n ih =>
    by_cases h : n < 10
    · rw [digs_small h, Lib.nDigits_small h]; rfl
    · rw [digs_big h, Lib.nDigits_big h, List.length_append, ih _ (by omega)]; rfl
/-- So many digits. -/
def pad : Nat → Nat → List Int
  | 0, _ => []
  | k + 1, v => pad k (v / 10) ++ [48 + ((v % 10 : Nat) : Int)]
theorem pad_len : ∀ k v, (pad k v).length = k
  | 0, _ => rfl
  | k + 1, v => by rw [pad, List.length_append, pad_len]; rfl
theorem digs_pad (n : Nat) : digs n = pad (Lib.nDigits n) n := by
  induction n using Nat.strongRecOn with
  | ind n ih =>
    by_cases h : n < 10
    · rw [digs_small h, Lib.nDigits_small h, pad, pad, Nat.mod_eq_of_lt h]; rfl
    · rw [digs_big h, Lib.nDigits_big h, pad, ih _ (by omega)]
theorem pad_add (a : Nat) : ∀ b v, pad (a + b) v = pad a (v / 10 ^ b) ++ pad b v
  | 0, v => by simp [pad]
  | b + 1, v => by
    rw [← Nat.add_assoc, pad, pad_add a b (v / 10), pad, List.append_assoc, Nat.div_div_eq_div_mul, Nat.pow_succ, Nat.mul_comm 10]
theorem pad_mod : ∀ b v, pad b (v % 10 ^ b) = pad b v
  | 0, v => rfl
  | b + 1, v => by
    have h1 : v % 10 ^ (b + 1) / 10 = v / 10 % 10 ^ b := by rw [Nat.pow_succ, Nat.mul_comm, Nat.mod_mul_right_div_self]
    have h2 : v % 10 ^ (b + 1) % 10 = v % 10 := Nat.mod_mod_of_dvd _ (by rw [Nat.pow_succ]; exact Nat.dvd_mul_left _ _)
    rw [pad, pad, h1, h2, pad_mod b]
theorem pad2 (v : Nat) : pad 2 v = [48 + ((v / 10 % 10 : Nat) : Int), 48 + ((v % 10 : Nat) : Int)] := rfl

theorem nd_le : ∀ k n, 1 ≤ k → n < 10 ^ k → Lib.nDigits n ≤ k
  | 0, _, h, _ => by omega
  | k + 1, n, _, h => by
    by_cases h1 : n < 10
    · rw [Lib.nDigits_small h1]; omega
    · rw [Lib.nDigits_big h1]
      have : 1 ≤ k := by
        rcases Nat.eq_zero_or_pos k with h2 | h2
        · subst h2; simp at h; omega
        · exact h2
      have := nd_le k (n / 10) this (by rw [Nat.pow_succ] at h; omega)
      omega
theorem nd20 (n : Nat) (h : n < 18446744073709551616) : Lib.nDigits n ≤ 20 := nd_le 20 n (by omega) (Nat.lt_of_lt_of_le h (by decide))

/-! ### The document's -/
theorem dig10 {d : Nat} (h : d < 10) : cutL ([48, 49, 50, 51, 52, 53, 54, 55, 56, 57] : List Int) (d : Int) (IntKind.u64.wrap ((d : Int) + 1)) = [48 + (d : Int)] := by
  have : ∀ d : Fin 10, cutL ([48, 49, 50, 51, 52, 53, 54, 55, 56, 57] : List Int) ((d : Nat) : Int) (IntKind.u64.wrap (((d : Nat) : Int) + 1)) = [48 + ((d : Nat) : Int)] := by decide
  exact this ⟨d, h⟩
theorem cut10 {d : Nat} (h : d < 10) : cutG (d : Int) (IntKind.u64.wrap ((d : Int) + 1)) 10 = true := by
  refine cutG_in ?_
  rw [wrapU_in (by omega)]
  omega
theorem sfits_in {a b : Nat} (h : a + b ≤ 9223372036854775807) : sfits a b = true := Nat.ble_eq_true_of_le h
theorem gd_sfits {β : Type} {a b : Nat} {x : Option β} (h : a + b ≤ 9223372036854775807) : gd (sfits a b) x = x := by rw [sfits_in h]; rfl
theorem nDigits_pos (n : Nat) : 1 ≤ Lib.nDigits n := Lib.nDigits_pos n
theorem refText (n : Nat) (hn : n < 18446744073709551616) : D_ref04_Text (n : Int) = some (digs n) := by
  unfold D_ref04_Text
  obtain ⟨c, h1, h2⟩ := loop_inv (f := D_ref04_Text_L0) (a := ((n : Int), ([] : List Int)))
    (fun s => ∃ m : Nat, s.1 = (m : Int) ∧ m ≤ n ∧ digs n = digs m ++ s.2 ∧ s.2.length + Lib.nDigits m ≤ 20) (fun s => s.1.toNat)
    (fun r => ∃ m : Nat, r.1 = (m : Int) ∧ m < 10 ∧ digs n = digs m ++ r.2 ∧ r.2.length ≤ 20)
    ⟨n, rfl, Nat.le_refl _, by simp, by simpa using nd20 n hn⟩ (by simp; omega) (fun s ⟨m, e, hle, hd, hl⟩ => by
      obtain ⟨s1, s2⟩ := s
      simp only at e hd hl
      subst e
      unfold D_ref04_Text_L0
      simp only [cond_dec]
      by_cases h : m < 10
      · right
        rw [if_neg (by omega)]
        exact ⟨_, rfl, m, rfl, h, hd, by omega⟩
      · left
        rw [if_pos (by omega), tmod_nn (by omega), tdiv_nn (by omega)]
        have e1 : ((m : Int) % 10) = ((m % 10 : Nat) : Int) := by omega
        have e2 : ((m : Int) / 10) = ((m / 10 : Nat) : Int) := by omega
        rw [e1, e2, cut10 (by omega), gd_true, dig10 (by omega), gd_sfits (by simp; have := hl; omega), wrapU_in (by omega)]
        refine ⟨_, rfl, ⟨m / 10, rfl, by omega, ?_, ?_⟩, by simp; omega⟩
        · rw [hd, digs_big h, List.append_assoc]
        · rw [Lib.nDigits_big h] at hl
          simp
          omega)
  obtain ⟨c1, c2⟩ := c
  obtain ⟨m, e, hm, hd, hl⟩ := h2
  simp only at e hd hl
  subst e
  rw [h1]
  simp only [Option.bind_some]
  rw [cut10 hm, gd_true, dig10 hm, gd_sfits (by simp; omega), hd, digs_small hm]

/-! ### The library's -/
theorem small_num {n : Nat} (h : n < 100) : D_internal_strconv_small (n : Int) = some (digs n) := by
  have h1 : ∀ k : Fin 10, D_internal_strconv_small ((k : Nat) : Int) = some ([48 + ((k : Nat) : Int)] : List Int) := by decide +kernel
  have h2 : ∀ k : Fin 90, D_internal_strconv_small (((k : Nat) + 10 : Nat) : Int) = some ([48 + ((((k : Nat) + 10) / 10 : Nat) : Int), 48 + ((((k : Nat) + 10) % 10 : Nat) : Int)] : List Int) := by decide +kernel
  by_cases h10 : n < 10
  · rw [digs_small h10]
    exact h1 ⟨n, h10⟩
  · have := h2 ⟨n - 10, by omega⟩
    simp only at this
    rw [show n - 10 + 10 = n by omega] at this
    rw [this, digs_big h10, digs_small (by omega)]
    rfl
theorem wrap32 {n : Int} (h : 0 ≤ n ∧ n < 4294967296) : IntKind.u32.wrap n = n := by
  show n % 4294967296 = n
  omega
theorem tab_odd {v : Nat} (h : v < 100) : rd tabL1 (IntKind.u32.wrap ((IntKind.u32.wrap ((v : Int) * 2)) + 1)) = some (48 + ((v % 10 : Nat) : Int)) := by
  have h1 : ∀ k : Fin 100, rd tabL1 (IntKind.u32.wrap ((IntKind.u32.wrap (((k : Nat) : Int) * 2)) + 1)) = some (48 + (((k : Nat) % 10 : Nat) : Int)) := by decide +kernel
  exact h1 ⟨v, h⟩
theorem tab_even {v : Nat} (h : v < 100) : rd tabL1 (IntKind.u32.wrap ((v : Int) * 2)) = some (48 + ((v / 10 % 10 : Nat) : Int)) := by
  have h1 : ∀ k : Fin 100, rd tabL1 (IntKind.u32.wrap (((k : Nat) : Int) * 2)) = some (48 + (((k : Nat) / 10 % 10 : Nat) : Int)) := by decide +kernel
  exact h1 ⟨v, h⟩
/-- What stands from a place on, up to r. -/
def seg (l : List Int) (i r : Nat) : List Int := (l.take r).drop i
theorem seg_set {l : List Int} {j r : Nat} {x : Int} (h : j < r) (hr : r ≤ l.length) : seg (l.set j x) j r = x :: seg l (j + 1) r := by
  unfold seg
  rw [List.drop_eq_getElem_cons (by simp; omega)]
  congr 1
  · simp
  · rw [List.drop_take, List.drop_take]
    congr 1
    rw [List.drop_set_of_lt (by omega)]
theorem ix_back {i k : Nat} {r : Nat} (h : k < i) (hi : i ≤ r) (hr : r ≤ 20) : ix (IntKind.i64.wrap ((i : Int) - ((k + 1 : Nat) : Int))) ((Int.toNat (r : Int)) - 0) = some (i - (k + 1)) := by
  rw [wrap64 (by omega)]
  have : ((i : Int) - ((k + 1 : Nat) : Int)) = ((i - (k + 1) : Nat) : Int) := by omega
  rw [this, Int.toNat_natCast, Nat.sub_zero]
  exact ix_in (by omega)
theorem get_in {l : List Int} {j : Nat} (h : j < l.length) : l[(0 + j)]? = some (l[j]'h) := by rw [Nat.zero_add]; exact List.getElem?_eq_getElem h
theorem tm8 (a : Nat) : Int.tmod (a : Int) 100000000 = ((a % 100000000 : Nat) : Int) := rfl
theorem tm4 (a : Nat) : Int.tmod (a : Int) 10000 = ((a % 10000 : Nat) : Int) := rfl
theorem tm2 (a : Nat) : Int.tmod (a : Int) 100 = ((a % 100 : Nat) : Int) := rfl
theorem td8 (a : Nat) : Int.tdiv (a : Int) 100000000 = ((a / 100000000 : Nat) : Int) := rfl
theorem td4 (a : Nat) : Int.tdiv (a : Int) 10000 = ((a / 10000 : Nat) : Int) := rfl
theorem td2 (a : Nat) : Int.tdiv (a : Int) 100 = ((a / 100 : Nat) : Int) := rfl
theorem w32 {a : Nat} (h : a < 4294967296) : IntKind.u32.wrap (a : Int) = (a : Int) := wrap32 (by omega)
theorem seg_len {l : List Int} {i r : Nat} (h : r ≤ l.length) : (seg l i r).length = r - i := by
  unfold seg
  rw [List.length_drop, List.length_take]
  omega
theorem ix8 {i k : Nat} {r : Nat} (h : k < i) (hi : i ≤ r) (hr : r ≤ 20) {q : Int} (hq : q = ((k + 1 : Nat) : Int)) : ix (IntKind.i64.wrap ((i : Int) - q)) ((Int.toNat (r : Int)) - 0) = some (i - (k + 1)) := by
  rw [hq]; exact ix_back h hi hr
theorem cons2 {α : Type} {a b : α} {l m : List α} (h : a = b) (k : l = m) : a :: l = b :: m := by rw [h, k]
theorem put1 {β : Type} {i k r : Nat} {l : List Int} (hl : l.length = 24) {q : Int} (hq : q = ((k + 1 : Nat) : Int)) (h : k < i) (hi : i ≤ r) (hr : r ≤ 20) (K : Nat → Option β) :
    ((ix (IntKind.i64.wrap ((i : Int) - q)) ((Int.toNat (r : Int)) - 0)).bind fun j => (l[(0 + j)]?).bind fun _ => K j) = K (i - (k + 1)) := by
  rw [ix8 h hi hr hq]
  simp only [Option.bind_some]
  rw [get_in (by omega)]
  rfl
theorem len_set {l : List Int} {j : Nat} {x : Int} (h : l.length = 24) : (List.set l j x).length = 24 := by rw [List.length_set]; exact h
theorem seg_put {l : List Int} {i k r : Nat} {x : Int} {t : List Int} (hl : l.length = 24) (h : k < i) (hi : i ≤ r) (hr : r ≤ 20) (ht : seg l (i - k) r = t) : seg (List.set l (0 + (i - (k + 1))) x) (i - (k + 1)) r = x :: t := by
  rw [Nat.zero_add, seg_set (by omega) (by omega)]
  rw [show i - (k + 1) + 1 = i - k by omega, ht]
theorem text_step {r i v : Nat} {buf : List Int} (h8 : 8 ≤ i) (hi : i ≤ r) (hr : r ≤ 20) (hb : buf.length = 24) (hv : v < 18446744073709551616) :
    ∃ buf', D_signs_Text_L0 (r : Int) ((i : Int), (v : Int), buf) = some (.inl (((i - 8 : Nat) : Int), ((v / 100000000 : Nat) : Int), buf')) ∧ buf'.length = 24 ∧ seg buf' (i - 8) r = pad 8 v ++ seg buf i r := by
  unfold D_signs_Text_L0
  simp only [cond_dec]
  rw [if_pos (by omega)]
  simp only [tm8, td8]
  rw [w32 (show v % 100000000 < 4294967296 by omega)]
  simp only [tm4, td4, tm2, td2]
  generalize hw : v % 100000000 = w
  rw [w32 (show w / 10000 < 4294967296 by omega), w32 (show w % 10000 / 100 < 4294967296 by omega)]
  simp only [tm2, td2]
  rw [w32 (show w / 10000 / 100 < 4294967296 by omega)]
  rw [tab_odd (show w % 10000 % 100 < 100 by omega), tab_even (show w % 10000 % 100 < 100 by omega), tab_odd (show w % 10000 / 100 < 100 by omega), tab_even (show w % 10000 / 100 < 100 by omega),
    tab_odd (show w / 10000 % 100 < 100 by omega), tab_even (show w / 10000 % 100 < 100 by omega), tab_odd (show w / 10000 / 100 < 100 by omega), tab_even (show w / 10000 / 100 < 100 by omega)]
  simp only [Option.bind_some]
  rw [put1 (q := 1) (k := 0) hb rfl (by omega) hi hr]
  rw [put1 (q := 2) (k := 1) (len_set hb) rfl (by omega) hi hr]
  rw [put1 (q := 3) (k := 2) (len_set (len_set hb)) rfl (by omega) hi hr]
  rw [put1 (q := 4) (k := 3) (len_set (len_set (len_set hb))) rfl (by omega) hi hr]
  rw [put1 (q := 5) (k := 4) (len_set (len_set (len_set (len_set hb)))) rfl (by omega) hi hr]
  rw [put1 (q := 6) (k := 5) (len_set (len_set (len_set (len_set (len_set hb))))) rfl (by omega) hi hr]
  rw [put1 (q := 7) (k := 6) (len_set (len_set (len_set (len_set (len_set (len_set hb)))))) rfl (by omega) hi hr]
  rw [put1 (q := 8) (k := 7) (len_set (len_set (len_set (len_set (len_set (len_set (len_set hb))))))) rfl (by omega) hi hr]
  rw [wrap64 (show -9223372036854775808 ≤ (i : Int) - 8 ∧ (i : Int) - 8 ≤ 9223372036854775807 by omega), wrapU_nat (show v / 100000000 < 9223372036854775808 by omega), show ((i : Int) - 8) = ((i - 8 : Nat) : Int) by omega]
  refine ⟨_, rfl, ?_, ?_⟩
  · exact len_set (len_set (len_set (len_set (len_set (len_set (len_set (len_set hb)))))))
  · refine (seg_put (k := 7) (len_set (len_set (len_set (len_set (len_set (len_set (len_set hb))))))) (by omega) hi hr
      (seg_put (k := 6) (len_set (len_set (len_set (len_set (len_set (len_set hb)))))) (by omega) hi hr
      (seg_put (k := 5) (len_set (len_set (len_set (len_set (len_set hb))))) (by omega) hi hr
      (seg_put (k := 4) (len_set (len_set (len_set (len_set hb)))) (by omega) hi hr
      (seg_put (k := 3) (len_set (len_set (len_set hb))) (by omega) hi hr
      (seg_put (k := 2) (len_set (len_set hb)) (by omega) hi hr
      (seg_put (k := 1) (len_set hb) (by omega) hi hr
      (seg_put (k := 0) hb (by omega) hi hr rfl)))))))).trans ?_
    subst hw
    rw [← pad_mod 8 v]
    simp only [pad, List.nil_append, List.cons_append, List.append_assoc, Nat.sub_zero, Nat.reducePow]
    refine cons2 ?_ (cons2 ?_ (cons2 ?_ (cons2 ?_ (cons2 ?_ (cons2 ?_ (cons2 ?_ (cons2 ?_ rfl)))))))
    all_goals omega
theorem w32' {a : Nat} : IntKind.u32.wrap (a : Int) = ((a % 4294967296 : Nat) : Int) := rfl
theorem byteI_map : ∀ l : List Int, (∀ n ∈ l, 0 ≤ n ∧ n ≤ 255) → l.map byteI = l
  | [], _ => rfl
  | n :: l, h => by
    have h1 := h n List.mem_cons_self
    rw [List.map_cons, byteI_map l fun x hx => h x (List.mem_cons_of_mem _ hx)]
    congr 1
    show (((UInt8.ofNat n.toNat).toNat : Nat) : Int) = n
    rw [UInt8.toNat_ofNat']
    have : n.toNat < 2 ^ 8 := by omega
    rw [Nat.mod_eq_of_lt this]
    omega
theorem pad_byte : ∀ k v, ∀ n ∈ pad k v, 48 ≤ n ∧ n ≤ 57
  | 0, _, n, h => by cases h
  | k + 1, v, n, h => by
    rw [pad, List.mem_append] at h
    rcases h with h | h
    · exact pad_byte k _ n h
    · rw [List.mem_singleton] at h
      omega
theorem digs_byte (n : Nat) : ∀ x ∈ digs n, 48 ≤ x ∧ x ≤ 57 := by rw [digs_pad]; exact pad_byte _ _
/-- The loop. -/
theorem text_loop {n r : Nat} (hr : r = Lib.nDigits n) (hn : n < 18446744073709551616) : ∃ (i v : Nat) (buf : List Int), loopN (D_signs_Text_L0 (r : Int)) BIG ((r : Int), (n : Int), List.replicate 24 (0 : Int)) = some ((v : Int), (i : Int), buf) ∧ i < 8 ∧ i ≤ r ∧ buf.length = 24 ∧ pad r n = pad i v ++ seg buf i r ∧ v ≤ n ∧ v < 10 ^ i := by
  have hr20 : r ≤ 20 := by rw [hr]; exact nd20 n hn
  obtain ⟨c, h1, i, v, buf, h2⟩ := loop_inv (f := D_signs_Text_L0 (r : Int)) (a := ((r : Int), (n : Int), List.replicate 24 (0 : Int)))
    (fun s => ∃ (i v : Nat), s.1 = (i : Int) ∧ s.2.1 = (v : Int) ∧ i ≤ r ∧ s.2.2.length = 24 ∧ pad r n = pad i v ++ seg s.2.2 i r ∧ v ≤ n ∧ v < 10 ^ i) (fun s => s.1.toNat)
    (fun c => ∃ (i v : Nat) (buf : List Int), c = ((v : Int), (i : Int), buf) ∧ i < 8 ∧ i ≤ r ∧ buf.length = 24 ∧ pad r n = pad i v ++ seg buf i r ∧ v ≤ n ∧ v < 10 ^ i)
    ⟨r, n, rfl, rfl, Nat.le_refl _, rfl, by unfold seg; simp, Nat.le_refl _, by rw [hr]; exact Lib.lt_pow_nDigits n⟩ (by simp; omega) (fun s ⟨i, v, e1, e2, hi, hb, hp, hv, hlt⟩ => by
      obtain ⟨s1, s2, buf⟩ := s
      simp only at e1 e2 hb hp
      subst e1; subst e2
      by_cases h8 : 8 ≤ i
      · left
        obtain ⟨buf', g1, g2, g3⟩ := text_step h8 hi hr20 hb (by omega : v < 18446744073709551616)
        refine ⟨_, g1, ⟨i - 8, v / 100000000, rfl, rfl, by omega, g2, ?_, by omega, ?_⟩, by simp; omega⟩
        · rw [g3, ← List.append_assoc, hp]
          congr 1
          have := pad_add (i - 8) 8 v
          rw [show i - 8 + 8 = i by omega] at this
          exact this
        · have : i = i - 8 + 8 := by omega
          rw [this, Nat.pow_add] at hlt
          exact Nat.div_lt_of_lt_mul (by rw [Nat.mul_comm]; exact hlt)
      · right
        refine ⟨_, ?_, i, v, buf, rfl, by omega, hi, hb, hp, hv, hlt⟩
        unfold D_signs_Text_L0
        simp only [cond_dec]
        rw [if_neg (by omega)])
  exact ⟨i, v, buf, by rw [h1, h2.1], h2.2⟩
/-- The rest of it. -/
theorem text_four {β : Type} {r i v : Nat} {buf : List Int} (h4 : 4 ≤ i) (hi : i ≤ r) (hr : r ≤ 20) (hb : buf.length = 24) (hv : v < 100000000) (K : Int × Int × List Int → Option β) :
    ∃ buf', buf'.length = 24 ∧ seg buf' (i - 4) r = pad 4 v ++ seg buf i r ∧
    (((cond (decide (4 ≤ (i : Int)))
      ((rd (tabL1) (IntKind.u32.wrap ((IntKind.u32.wrap ((Int.tmod (Int.tmod (IntKind.u32.wrap (v : Int)) 10000) 100) * 2)) + 1))).bind fun x34 =>
      (rd (tabL1) (IntKind.u32.wrap ((Int.tmod (Int.tmod (IntKind.u32.wrap (v : Int)) 10000) 100) * 2))).bind fun x35 =>
      (ix (IntKind.i64.wrap ((i : Int) - 1)) (((Int.toNat (r : Int)) - 0))).bind fun j36 =>
      (buf[(0 + j36)]?).bind fun x37 =>
      (ix (IntKind.i64.wrap ((i : Int) - 2)) (((Int.toNat (r : Int)) - 0))).bind fun j38 =>
      (((List.set buf (0 + j36) x34))[(0 + j38)]?).bind fun x39 =>
      (rd (tabL1) (IntKind.u32.wrap ((IntKind.u32.wrap ((IntKind.u32.wrap (Int.tdiv (Int.tmod (IntKind.u32.wrap (v : Int)) 10000) 100)) * 2)) + 1))).bind fun x40 =>
      (rd (tabL1) (IntKind.u32.wrap ((IntKind.u32.wrap (Int.tdiv (Int.tmod (IntKind.u32.wrap (v : Int)) 10000) 100)) * 2))).bind fun x41 =>
      (ix (IntKind.i64.wrap ((i : Int) - 3)) (((Int.toNat (r : Int)) - 0))).bind fun j42 =>
      (((List.set ((List.set buf (0 + j36) x34)) (0 + j38) x35))[(0 + j42)]?).bind fun x43 =>
      (ix (IntKind.i64.wrap ((i : Int) - 4)) (((Int.toNat (r : Int)) - 0))).bind fun j44 =>
      (((List.set ((List.set ((List.set buf (0 + j36) x34)) (0 + j38) x35)) (0 + j42) x40))[(0 + j44)]?).bind fun x45 =>
      some ((IntKind.i64.wrap ((i : Int) - 4), IntKind.u32.wrap (Int.tdiv (IntKind.u32.wrap (v : Int)) 10000), (List.set ((List.set ((List.set ((List.set buf (0 + j36) x34)) (0 + j38) x35)) (0 + j42) x40)) (0 + j44) x41))))
      (some (((i : Int), IntKind.u32.wrap (v : Int), buf)))) : Option (Int × Int × List Int))).bind K = K (((i - 4 : Nat) : Int), ((v / 10000 : Nat) : Int), buf') := by
  refine ⟨_, len_set (j := 0 + (i - (3 + 1))) (x := 48 + ((v % 10000 / 100 / 10 % 10 : Nat) : Int)) (len_set (j := 0 + (i - (2 + 1))) (x := 48 + ((v % 10000 / 100 % 10 : Nat) : Int)) (len_set (j := 0 + (i - (1 + 1))) (x := 48 + ((v % 10000 % 100 / 10 % 10 : Nat) : Int)) (len_set (j := 0 + (i - (0 + 1))) (x := 48 + ((v % 10000 % 100 % 10 : Nat) : Int)) hb))), ?_, ?_⟩
  · refine (seg_put (k := 3) (len_set (len_set (len_set hb))) (by omega) hi hr
      (seg_put (k := 2) (len_set (len_set hb)) (by omega) hi hr
      (seg_put (k := 1) (len_set hb) (by omega) hi hr
      (seg_put (k := 0) hb (by omega) hi hr rfl)))).trans ?_
    rw [← pad_mod 4 v]
    simp only [pad, List.nil_append, List.cons_append, List.append_assoc, Nat.sub_zero, Nat.reducePow]
    refine cons2 ?_ (cons2 ?_ (cons2 ?_ (cons2 ?_ rfl)))
    all_goals omega
  · simp only [cond_dec]
    rw [if_pos (by omega), w32 (show v < 4294967296 by omega)]
    simp only [tm4, td4, tm2, td2]
    rw [w32 (show v % 10000 / 100 < 4294967296 by omega), w32 (show v / 10000 < 4294967296 by omega)]
    rw [tab_odd (show v % 10000 % 100 < 100 by omega), tab_even (show v % 10000 % 100 < 100 by omega), tab_odd (show v % 10000 / 100 < 100 by omega), tab_even (show v % 10000 / 100 < 100 by omega)]
    simp only [Option.bind_some]
    rw [put1 (q := 1) (k := 0) hb rfl (by omega) hi hr]
    rw [put1 (q := 2) (k := 1) (len_set hb) rfl (by omega) hi hr]
    rw [put1 (q := 3) (k := 2) (len_set (len_set hb)) rfl (by omega) hi hr]
    rw [put1 (q := 4) (k := 3) (len_set (len_set (len_set hb))) rfl (by omega) hi hr]
    simp only [Option.bind_some]
    rw [wrap64 (show -9223372036854775808 ≤ (i : Int) - 4 ∧ (i : Int) - 4 ≤ 9223372036854775807 by omega), show ((i : Int) - 4) = ((i - 4 : Nat) : Int) by omega]
theorem text_all {r : Nat} (hr : r ≤ 20) {buf : List Int} (hb : buf.length = 24) (hx : ∀ n ∈ seg buf 0 r, 0 ≤ n ∧ n ≤ 255) : gd (Nat.beq 1 1 && Nat.beq 0 0 && Nat.ble 24 (List.length buf) && cutG 0 (r : Int) 24 && decide (0 < 24)) (some (List.map byteI (List.take ((Int.toNat (r : Int)) - 0) (List.drop 0 buf)))) = some (seg buf 0 r) := by
  rw [hb, cutG_in (by omega)]
  show some _ = _
  rw [Int.toNat_natCast, Nat.sub_zero, List.drop_zero]
  congr 1
  exact byteI_map _ hx
theorem signs_Text (n : Nat) (hn : n < 18446744073709551616) : D_signs_Text (n : Int) = some (digs n) := by
  unfold D_signs_Text
  by_cases h : n < 100
  · rw [show decide ((n : Int) < 100) = true from decide_eq_true (by omega), cond_true, wrap64 (by omega), small_num h]
    rfl
  rw [show decide ((n : Int) < 100) = false from decide_eq_false (by omega), cond_false]
  unfold D_internal_strconv_numDigits nDigP
  rw [if_pos (by omega), Int.toNat_natCast]
  simp only [Option.bind_some]
  generalize hr : Lib.nDigits n = r
  have hr20 : r ≤ 20 := by rw [← hr]; exact nd20 n hn
  rw [show gd (Nat.beq 1 1 && Nat.beq 0 0 && Nat.ble 24 (List.length (List.replicate 24 (0 : Int))) && cutG 0 (r : Int) 24 && decide (0 < 24)) = gd (β := List Int) true by
    rw [cutG_in (by omega)]; rfl, gd_true]
  rw [Int.toNat_natCast, Nat.sub_zero]
  obtain ⟨i, v, buf, h1, h8, hi, hb, hp, hv, hlt⟩ := text_loop hr.symm hn
  rw [h1]
  simp only [Option.bind_some]
  rw [digs_pad, hr, hp]
  have hby : ∀ x ∈ pad r n, 0 ≤ x ∧ x ≤ 255 := fun x hx => by have := pad_byte r n x hx; omega
  rw [hp] at hby
  have key : ∀ (i v : Nat) (buf : List Int), i < 4 → i ≤ r → buf.length = 24 → v < 10 ^ i → (∀ x ∈ pad i v ++ seg buf i r, 0 ≤ x ∧ x ≤ 255) →
      (cond (decide (2 ≤ (i : Int)))
      ((rd (tabL1) (IntKind.u32.wrap ((IntKind.u32.wrap ((Int.tmod (v : Int) 100) * 2)) + 1))).bind fun x47 =>
      (rd (tabL1) (IntKind.u32.wrap ((Int.tmod (v : Int) 100) * 2))).bind fun x48 =>
      (ix (IntKind.i64.wrap ((i : Int) - 1)) (((Int.toNat (r : Int)) - 0))).bind fun j49 =>
      (buf[(0 + j49)]?).bind fun x50 =>
      (ix (IntKind.i64.wrap ((i : Int) - 2)) (((Int.toNat (r : Int)) - 0))).bind fun j51 =>
      (((List.set buf (0 + j49) x47))[(0 + j51)]?).bind fun x52 =>
      cond (decide (0 < (IntKind.i64.wrap ((i : Int) - 2))))
        ((ix 0 (((Int.toNat (r : Int)) - 0))).bind fun j53 =>
        (((List.set ((List.set buf (0 + j49) x47)) (0 + j51) x48))[(0 + j53)]?).bind fun x54 =>
        gd (Nat.beq 1 1 && Nat.beq 0 0 && Nat.ble 24 (List.length ((List.set ((List.set ((List.set buf (0 + j49) x47)) (0 + j51) x48)) (0 + j53) (IntKind.u8.wrap (IntKind.u32.wrap (48 + (IntKind.u32.wrap (Int.tdiv (v : Int) 100)))))))) && cutG 0 (r : Int) 24 && decide (0 < 24)) (some ((List.map byteI ((List.take (((Int.toNat (r : Int)) - 0)) (List.drop 0 ((List.set ((List.set ((List.set buf (0 + j49) x47)) (0 + j51) x48)) (0 + j53) (IntKind.u8.wrap (IntKind.u32.wrap (48 + (IntKind.u32.wrap (Int.tdiv (v : Int) 100))))))))))))))
        (gd (Nat.beq 1 1 && Nat.beq 0 0 && Nat.ble 24 (List.length ((List.set ((List.set buf (0 + j49) x47)) (0 + j51) x48))) && cutG 0 (r : Int) 24 && decide (0 < 24)) (some ((List.map byteI ((List.take (((Int.toNat (r : Int)) - 0)) (List.drop 0 ((List.set ((List.set buf (0 + j49) x47)) (0 + j51) x48))))))))))
      (cond (decide (0 < (i : Int)))
        ((ix 0 (((Int.toNat (r : Int)) - 0))).bind fun j55 =>
        (buf[(0 + j55)]?).bind fun x56 =>
        gd (Nat.beq 1 1 && Nat.beq 0 0 && Nat.ble 24 (List.length ((List.set buf (0 + j55) (IntKind.u8.wrap (IntKind.u32.wrap (48 + (v : Int))))))) && cutG 0 (r : Int) 24 && decide (0 < 24)) (some ((List.map byteI ((List.take (((Int.toNat (r : Int)) - 0)) (List.drop 0 ((List.set buf (0 + j55) (IntKind.u8.wrap (IntKind.u32.wrap (48 + (v : Int)))))))))))))
        (gd (Nat.beq 1 1 && Nat.beq 0 0 && Nat.ble 24 (List.length buf) && cutG 0 (r : Int) 24 && decide (0 < 24)) (some ((List.map byteI ((List.take (((Int.toNat (r : Int)) - 0)) (List.drop 0 buf)))))))))
       = some (pad i v ++ seg buf i r) := by
    intro i v buf h4 hi hb hlt hx
    simp only [cond_dec]
    have cases : i = 0 ∨ i = 1 ∨ i = 2 ∨ i = 3 := by omega
    rcases cases with rfl | rfl | rfl | rfl
    · rw [if_neg (by decide), if_neg (by decide), text_all hr20 hb hx]
      rfl
    · rw [if_neg (by decide), if_pos (by decide), Int.toNat_natCast, Nat.sub_zero, show (0 : Int) = ((0 : Nat) : Int) from rfl, ix_in (by omega)]
      simp only [Option.bind_some]
      rw [get_in (by omega)]
      simp only [Option.bind_some]
      have hv10 : v < 10 := by simpa using hlt
      have e : IntKind.u8.wrap (IntKind.u32.wrap (48 + (v : Int))) = 48 + ((v % 10 : Nat) : Int) := by
        rw [wrap32 (by omega)]
        show (48 + (v : Int)) % 256 = _
        omega
      rw [e]
      have hs : seg (List.set buf (0 + 0) (48 + ((v % 10 : Nat) : Int))) 0 r = (48 + ((v % 10 : Nat) : Int)) :: seg buf 1 r := seg_put (i := 1) (k := 0) hb (by omega) hi hr20 rfl
      have := text_all hr20 (len_set (j := 0 + 0) (x := 48 + ((v % 10 : Nat) : Int)) hb) (by rw [hs]; exact hx)
      rw [Int.toNat_natCast, Nat.sub_zero] at this
      refine this.trans ?_
      rw [hs]
      rfl
    · rw [if_pos (by decide)]
      simp only [tm2]
      have hv100 : v < 100 := by simpa using hlt
      rw [tab_odd (show v % 100 < 100 by omega), tab_even (show v % 100 < 100 by omega)]
      simp only [Option.bind_some]
      rw [put1 (q := 1) (k := 0) hb rfl (by omega) hi hr20]
      rw [put1 (q := 2) (k := 1) (len_set hb) rfl (by omega) hi hr20]
      rw [if_neg (by decide)]
      have hs := seg_put (x := 48 + ((v % 100 / 10 % 10 : Nat) : Int)) (k := 1) (len_set (j := 0 + (2 - (0 + 1))) (x := 48 + ((v % 100 % 10 : Nat) : Int)) hb) (by omega) hi hr20 (seg_put (k := 0) hb (by omega) hi hr20 rfl)
      have he : pad 2 v ++ seg buf 2 r = (48 + ((v % 100 / 10 % 10 : Nat) : Int)) :: (48 + ((v % 100 % 10 : Nat) : Int)) :: seg buf (2 - 0) r := by
        rw [pad2]
        refine cons2 ?_ (cons2 ?_ rfl)
        all_goals omega
      rw [he] at hx ⊢
      refine (text_all hr20 (len_set (len_set hb)) (by rw [show (0 : Nat) = 2 - (1 + 1) from rfl, hs]; exact hx)).trans ?_
      exact congrArg some hs
    · rw [if_pos (by decide)]
      simp only [tm2, td2]
      have hv1000 : v < 1000 := by simpa using hlt
      rw [tab_odd (show v % 100 < 100 by omega), tab_even (show v % 100 < 100 by omega)]
      simp only [Option.bind_some]
      rw [put1 (q := 1) (k := 0) hb rfl (by omega) hi hr20]
      rw [put1 (q := 2) (k := 1) (len_set hb) rfl (by omega) hi hr20]
      rw [if_pos (by decide), Int.toNat_natCast, Nat.sub_zero, show (0 : Int) = ((0 : Nat) : Int) from rfl, ix_in (by omega)]
      simp only [Option.bind_some]
      rw [get_in (by rw [List.length_set, List.length_set]; omega)]
      simp only [Option.bind_some]
      have e : IntKind.u8.wrap (IntKind.u32.wrap (48 + (IntKind.u32.wrap ((v / 100 : Nat) : Int)))) = 48 + ((v / 100 % 10 : Nat) : Int) := by
        rw [w32 (by omega), wrap32 (by omega)]
        show (48 + ((v / 100 : Nat) : Int)) % 256 = _
        omega
      rw [e]
      have hs := seg_put (x := 48 + ((v / 100 % 10 : Nat) : Int)) (k := 2) (len_set (j := 0 + (3 - (1 + 1))) (x := 48 + ((v % 100 / 10 % 10 : Nat) : Int)) (len_set (j := 0 + (3 - (0 + 1))) (x := 48 + ((v % 100 % 10 : Nat) : Int)) hb)) (by omega) hi hr20
        (seg_put (k := 1) (len_set hb) (by omega) hi hr20 (seg_put (k := 0) hb (by omega) hi hr20 rfl))
      have he : pad 3 v ++ seg buf 3 r = (48 + ((v / 100 % 10 : Nat) : Int)) :: (48 + ((v % 100 / 10 % 10 : Nat) : Int)) :: (48 + ((v % 100 % 10 : Nat) : Int)) :: seg buf (3 - 0) r := by
        simp only [pad, List.nil_append, List.cons_append, List.append_assoc, Nat.sub_zero]
        refine cons2 ?_ (cons2 ?_ (cons2 ?_ rfl))
        all_goals omega
      rw [he] at hx ⊢
      have := text_all hr20 (len_set (j := 0 + (3 - (2 + 1))) (x := 48 + ((v / 100 % 10 : Nat) : Int)) (len_set (j := 0 + (3 - (1 + 1))) (x := 48 + ((v % 100 / 10 % 10 : Nat) : Int)) (len_set (j := 0 + (3 - (0 + 1))) (x := 48 + ((v % 100 % 10 : Nat) : Int)) hb))) (by
        rw [show seg _ 0 r = _ from hs]; exact hx)
      rw [Int.toNat_natCast, Nat.sub_zero] at this
      exact this.trans (congrArg some hs)
  by_cases h4 : 4 ≤ i
  · obtain ⟨buf', g1, g2, g3⟩ := text_four h4 hi hr20 hb (Nat.lt_of_lt_of_le hlt (Nat.pow_le_pow_right (by omega) (by omega : i ≤ 8))) (fun s46 => _)
    refine g3.trans ?_
    have hpd : pad i v ++ seg buf i r = pad (i - 4) (v / 10000) ++ seg buf' (i - 4) r := by
      rw [g2, ← List.append_assoc]
      congr 1
      have := pad_add (i - 4) 4 v
      rw [show i - 4 + 4 = i by omega] at this
      exact this
    rw [hpd] at hby ⊢
    refine key _ _ _ (by omega) (by omega) g1 ?_ hby
    have : i = i - 4 + 4 := by omega
    rw [this, Nat.pow_add] at hlt
    exact Nat.div_lt_of_lt_mul (by rw [Nat.mul_comm]; exact hlt)
  · simp only [cond_dec]
    rw [if_neg (by omega), w32 (Nat.lt_of_lt_of_le hlt (Nat.le_trans (Nat.pow_le_pow_right (by omega) (by omega : i ≤ 4)) (by decide)))]
    simp only [Option.bind_some]
    have := key i v buf (by omega) hi hb hlt hby
    simp only [cond_dec] at this
    exact this

/- The sign at a place, and the rune there. -/
theorem ifN {α : Type} {p : Prop} [Decidable p] {x y z : α} (h : ¬p) (k : y = z) : (if p then x else y) = z := by rw [if_neg h, k]
theorem ifP {α : Type} {p : Prop} [Decidable p] {x y z : α} (h : p) (k : x = z) : (if p then x else y) = z := by rw [if_pos h, k]

/-- The rune at the head of four bytes, of n in all. -/
def runeG (n b0 b1 b2 b3 : Nat) : Nat × Nat :=
  if b0 < 128 then (b0, 1)
  else if b0 / 32 = 6 ∧ 1 < n ∧ b1 / 64 = 2 then
    if 128 ≤ (b0 % 32) * 64 + b1 % 64 then ((b0 % 32) * 64 + b1 % 64, 2) else (65533, 1)
  else if b0 / 16 = 14 ∧ (1 < n ∧ b1 / 64 = 2) ∧ (2 < n ∧ b2 / 64 = 2) then
    if 2048 ≤ (b0 % 16) * 4096 + (b1 % 64) * 64 + b2 % 64 ∧ ((b0 % 16) * 4096 + (b1 % 64) * 64 + b2 % 64 < 55296 ∨ 57344 ≤ (b0 % 16) * 4096 + (b1 % 64) * 64 + b2 % 64) then ((b0 % 16) * 4096 + (b1 % 64) * 64 + b2 % 64, 3) else (65533, 1)
  else if b0 / 8 = 30 ∧ (1 < n ∧ b1 / 64 = 2) ∧ (2 < n ∧ b2 / 64 = 2) ∧ (3 < n ∧ b3 / 64 = 2) then
    if 65536 ≤ (b0 % 8) * 262144 + (b1 % 64) * 4096 + (b2 % 64) * 64 + b3 % 64 ∧ (b0 % 8) * 262144 + (b1 % 64) * 4096 + (b2 % 64) * 64 + b3 % 64 ≤ 1114111 then ((b0 % 8) * 262144 + (b1 % 64) * 4096 + (b2 % 64) * 64 + b3 % 64, 4) else (65533, 1)
  else (65533, 1)
theorem valid3 {c : Nat} (h : c < 65536) : Utf8.valid (c : Int) = decide (c < 55296 ∨ 57344 ≤ c) := by
  unfold Utf8.valid
  rw [Bool.eq_iff_iff]
  simp only [Bool.or_eq_true, Bool.and_eq_true, decide_eq_true_eq]
  omega
theorem valid4 {c : Nat} (h : 65536 ≤ c) : Utf8.valid (c : Int) = decide (c ≤ 1114111) := by
  unfold Utf8.valid
  rw [Bool.eq_iff_iff]
  simp only [Bool.or_eq_true, Bool.and_eq_true, decide_eq_true_eq]
  omega
theorem ite_b {α : Type} {b : Bool} {p : Prop} [Decidable p] (h : b = true ↔ p) {x y x' y' : α} (hx : p → x = x') (hy : ¬p → y = y') : (if b = true then x else y) = if p then x' else y' := by
  by_cases hp : p
  · rw [if_pos (h.2 hp), if_pos hp, hx hp]
  · rw [if_neg (fun e => hp (h.1 e)), if_neg hp, hy hp]
theorem runeN_eq (l : List Int) (i : Nat) : runeN l i = runeG (l.length - i) (l.getD i 0).toNat (l.getD (i + 1) 0).toNat (l.getD (i + 2) 0).toNat (l.getD (i + 3) 0).toNat := by
  unfold runeN runeG
  simp only [Nat.add_zero]
  by_cases h0 : (l.getD i 0).toNat < 128
  · exact (ifP h0 rfl : _ = _).trans (ifP h0 rfl : _ = _).symm
  refine (ifN h0 ?_ : _ = _)
  refine Eq.symm (ifN h0 (Eq.symm ?_))
  refine ite_b (by simp only [Bool.and_eq_true, beq_iff_eq, decide_eq_true_eq]; omega) (fun _ => rfl) fun _ => ?_
  refine ite_b (by simp only [Bool.and_eq_true, beq_iff_eq, decide_eq_true_eq]; omega) (fun hp => ?_) fun _ => ?_
  · refine ite_b ?_ (fun _ => rfl) fun _ => rfl
    rw [Bool.and_eq_true, valid3 (by omega), decide_eq_true_eq, decide_eq_true_eq]
  refine ite_b (by simp only [Bool.and_eq_true, beq_iff_eq, decide_eq_true_eq]; omega) (fun hp => ?_) fun _ => rfl
  · refine ite_b ?_ (fun _ => rfl) fun _ => rfl
    rw [Bool.and_eq_true, decide_eq_true_eq]
    constructor
    · rintro ⟨h1, h2⟩
      rw [valid4 h1, decide_eq_true_eq] at h2
      exact ⟨h1, h2⟩
    · rintro ⟨h1, h2⟩
      exact ⟨h1, by rw [valid4 h1, decide_eq_true_eq]; exact h2⟩

/-- A byte that counts as it is. -/
def Pl (x : Int) : Prop := (97 ≤ x ∧ x ≤ 122) ∨ (48 ≤ x ∧ x ≤ 57) ∨ x = 61 ∨ x = 43 ∨ x = 45 ∨ x = 42 ∨ x = 123 ∨ x = 125 ∨ x = 35
instance (x : Int) : Decidable (Pl x) := by unfold Pl; infer_instance
/-- The document's sign, of n bytes that begin so. -/
def sgnG (n : Nat) (a b c : Int) : Nat × Int :=
  if a = 9 ∨ a = 13 ∨ a = 32 then (1, 32) else if Pl a then (1, a) else
  if 1 < n ∧ a = 194 ∧ b = 160 then (2, 32) else if 1 < n ∧ a = 195 ∧ b = 151 then (2, 42) else if 1 < n ∧ a = 194 ∧ b = 183 then (2, 42) else
  if 2 < n ∧ a = 226 ∧ b = 128 ∧ c = 131 then (3, 32) else if 2 < n ∧ a = 227 ∧ b = 128 ∧ c = 128 then (3, 32) else
  if 2 < n ∧ a = 226 ∧ b = 134 ∧ c = 144 then (3, 61) else if 2 < n ∧ a = 226 ∧ b = 136 ∧ c = 146 then (3, 45) else
  if 2 < n ∧ a = 239 ∧ b = 188 ∧ 144 ≤ c ∧ c ≤ 153 then (3, c - 96) else (1, 63)
def sgn (l : List Int) : Nat × Int := sgnG l.length (l.getD 0 0) (l.getD 1 0) (l.getD 2 0)
/-- What a rune counts as. -/
def rcode (r : Int) : Int :=
  if r = 9 ∨ r = 13 ∨ r = 32 ∨ r = 160 ∨ r = 8195 ∨ r = 12288 then 32 else if Pl r then r else
  if 65296 ≤ r ∧ r ≤ 65305 then r - 65248 else if r = 8592 then 61 else if r = 8722 then 45 else if r = 215 ∨ r = 183 then 42 else 63
theorem cls {n a b c d : Nat} (ha : a ≤ 255) (hb : b ≤ 255) (hc : c ≤ 255) (hd : d ≤ 255) :
    (sgnG n (a : Int) (b : Int) (c : Int)).2 = rcode ((runeG n a b c d).1 : Nat) ∧ ((sgnG n (a : Int) (b : Int) (c : Int)).2 ≠ 63 → (sgnG n (a : Int) (b : Int) (c : Int)).1 = (runeG n a b c d).2) := by
  have bad : ∀ p : Nat × Nat, sgnG n (a : Int) (b : Int) (c : Int) = (1, 63) → rcode (p.1 : Nat) = 63 → (sgnG n (a : Int) (b : Int) (c : Int)).2 = rcode (p.1 : Nat) ∧ ((sgnG n (a : Int) (b : Int) (c : Int)).2 ≠ 63 → (sgnG n (a : Int) (b : Int) (c : Int)).1 = p.2) := fun p h1 h2 => by
    rw [h1, h2]
    exact ⟨rfl, fun h => absurd rfl h⟩
  have hi : ∀ r : Nat, 128 ≤ r → rcode (r : Int) = if r = 160 ∨ r = 8195 ∨ r = 12288 then 32 else if 65296 ≤ r ∧ r ≤ 65305 then (r : Int) - 65248 else if r = 8592 then 61 else if r = 8722 then 45 else if r = 215 ∨ r = 183 then 42 else 63 := by
    intro r hr
    unfold rcode
    by_cases h1 : r = 160 ∨ r = 8195 ∨ r = 12288
    · rw [if_pos h1]
      exact ifP (by omega) rfl
    rw [if_neg h1]
    by_cases h2 : 65296 ≤ r ∧ r ≤ 65305
    · rw [if_pos h2]
      exact ifN (by omega) (ifN (by unfold Pl; omega) (ifP (by omega) rfl))
    rw [if_neg h2]
    by_cases h3 : r = 8592
    · rw [if_pos h3]
      exact ifN (by omega) (ifN (by unfold Pl; omega) (ifN (by omega) (ifP (by omega) rfl)))
    rw [if_neg h3]
    by_cases h4 : r = 8722
    · rw [if_pos h4]
      exact ifN (by omega) (ifN (by unfold Pl; omega) (ifN (by omega) (ifN (by omega) (ifP (by omega) rfl))))
    rw [if_neg h4]
    by_cases h5 : r = 215 ∨ r = 183
    · rw [if_pos h5]
      exact ifN (by omega) (ifN (by unfold Pl; omega) (ifN (by omega) (ifN (by omega) (ifN (by omega) (ifP (by omega) rfl)))))
    rw [if_neg h5]
    exact ifN (by omega) (ifN (by unfold Pl; omega) (ifN (by omega) (ifN (by omega) (ifN (by omega) (ifN (by omega) rfl)))))
  have e53 : rcode ((65533 : Nat) : Int) = 63 := by decide
  by_cases h0 : a < 128
  · have hr : runeG n a b c d = (a, 1) := by unfold runeG; rw [if_pos h0]
    rw [hr]
    simp only
    by_cases h1 : (a : Int) = 9 ∨ (a : Int) = 13 ∨ (a : Int) = 32
    · have e : sgnG n (a : Int) (b : Int) (c : Int) = (1, 32) := ifP h1 rfl
      rw [e]
      exact ⟨(ifP (by omega) rfl : rcode (a : Int) = 32).symm, fun _ => rfl⟩
    by_cases h2 : Pl (a : Int)
    · have e : sgnG n (a : Int) (b : Int) (c : Int) = (1, (a : Int)) := ifN h1 (ifP h2 rfl)
      rw [e]
      exact ⟨(ifN (by omega) (ifP h2 rfl) : rcode (a : Int) = a).symm, fun _ => rfl⟩
    have e : sgnG n (a : Int) (b : Int) (c : Int) = (1, 63) := ifN h1 (ifN h2 (ifN (by omega) (ifN (by omega) (ifN (by omega) (ifN (by omega) (ifN (by omega) (ifN (by omega) (ifN (by omega) (ifN (by omega) rfl)))))))))
    rw [e]
    exact ⟨(ifN (by omega) (ifN h2 (ifN (by omega) (ifN (by omega) (ifN (by omega) (ifN (by omega) rfl))))) : rcode (a : Int) = 63).symm, fun h => absurd rfl h⟩
  have hs : sgnG n (a : Int) (b : Int) (c : Int) = if 1 < n ∧ a = 194 ∧ b = 160 then (2, 32) else if 1 < n ∧ a = 195 ∧ b = 151 then (2, 42) else if 1 < n ∧ a = 194 ∧ b = 183 then (2, 42) else
      if 2 < n ∧ a = 226 ∧ b = 128 ∧ c = 131 then (3, 32) else if 2 < n ∧ a = 227 ∧ b = 128 ∧ c = 128 then (3, 32) else
      if 2 < n ∧ a = 226 ∧ b = 134 ∧ c = 144 then (3, 61) else if 2 < n ∧ a = 226 ∧ b = 136 ∧ c = 146 then (3, 45) else
      if 2 < n ∧ a = 239 ∧ b = 188 ∧ 144 ≤ c ∧ c ≤ 153 then (3, (c : Int) - 96) else (1, 63) := by
    refine ifN (by omega) (ifN (by unfold Pl; omega) ?_)
    have cong : ∀ {p q : Prop} [Decidable p] [Decidable q] {x y y' : Nat × Int}, (p ↔ q) → y = y' → (if p then x else y) = if q then x else y' := by
      intro p q _ _ x y y' h e
      by_cases hp : p
      · rw [if_pos hp, if_pos (h.1 hp)]
      · rw [if_neg hp, if_neg (fun hq => hp (h.2 hq)), e]
    refine cong (by omega) (cong (by omega) (cong (by omega) (cong (by omega) (cong (by omega) (cong (by omega) (cong (by omega) (cong (by omega) rfl)))))))
  unfold runeG
  rw [if_neg h0]
  by_cases h2 : a / 32 = 6 ∧ 1 < n ∧ b / 64 = 2
  · rw [if_pos h2]
    have h3 : ¬(2 < n ∧ a = 226 ∧ b = 128 ∧ c = 131) ∧ ¬(2 < n ∧ a = 227 ∧ b = 128 ∧ c = 128) ∧ ¬(2 < n ∧ a = 226 ∧ b = 134 ∧ c = 144) ∧ ¬(2 < n ∧ a = 226 ∧ b = 136 ∧ c = 146) ∧ ¬(2 < n ∧ a = 239 ∧ b = 188 ∧ 144 ≤ c ∧ c ≤ 153) := by omega
    rw [if_neg h3.1, if_neg h3.2.1, if_neg h3.2.2.1, if_neg h3.2.2.2.1, if_neg h3.2.2.2.2] at hs
    by_cases h4 : 128 ≤ (a % 32) * 64 + b % 64
    · rw [if_pos h4]
      simp only
      rw [hi _ h4]
      generalize hr : (a % 32) * 64 + b % 64 = r at h4
      by_cases k1 : r = 160
      · have hs := hs.trans (ifP (by omega) rfl)
        rw [hs]
        refine ⟨Eq.symm (ifP (by omega) rfl), ?_⟩
        exact fun _ => rfl
      by_cases k2 : r = 215
      · have hs := hs.trans (ifN (by omega) (ifP (by omega) rfl))
        rw [hs]
        refine ⟨Eq.symm (ifN (by omega) (ifN (by omega) (ifN (by omega) (ifN (by omega) (ifP (by omega) rfl))))), ?_⟩
        exact fun _ => rfl
      by_cases k3 : r = 183
      · have hs := hs.trans (ifN (by omega) (ifN (by omega) (ifP (by omega) rfl)))
        rw [hs]
        refine ⟨Eq.symm (ifN (by omega) (ifN (by omega) (ifN (by omega) (ifN (by omega) (ifP (by omega) rfl))))), ?_⟩
        exact fun _ => rfl
      have hs := hs.trans (ifN (by omega) (ifN (by omega) (ifN (by omega) rfl)))
      rw [hs]
      refine ⟨Eq.symm (ifN (by omega) (ifN (by omega) (ifN (by omega) (ifN (by omega) (ifN (by omega) rfl))))), ?_⟩
      exact fun h => absurd rfl h
    · rw [if_neg h4]
      refine bad (65533, 1) ?_ e53
      have hs := hs.trans (ifN (by omega) (ifN (by omega) (ifN (by omega) rfl)))
      exact hs
  rw [if_neg h2]
  have g2 : ¬(1 < n ∧ a = 194 ∧ b = 160) ∧ ¬(1 < n ∧ a = 195 ∧ b = 151) ∧ ¬(1 < n ∧ a = 194 ∧ b = 183) := by omega
  rw [if_neg g2.1, if_neg g2.2.1, if_neg g2.2.2] at hs
  by_cases h3 : a / 16 = 14 ∧ (1 < n ∧ b / 64 = 2) ∧ (2 < n ∧ c / 64 = 2)
  · rw [if_pos h3]
    by_cases h4 : 2048 ≤ (a % 16) * 4096 + (b % 64) * 64 + c % 64 ∧ ((a % 16) * 4096 + (b % 64) * 64 + c % 64 < 55296 ∨ 57344 ≤ (a % 16) * 4096 + (b % 64) * 64 + c % 64)
    · rw [if_pos h4]
      simp only
      rw [hi _ (by omega)]
      generalize hr : (a % 16) * 4096 + (b % 64) * 64 + c % 64 = r at h4
      by_cases k1 : r = 8195
      · have hs := hs.trans (ifP (by omega) rfl)
        rw [hs]
        refine ⟨Eq.symm (ifP (by omega) rfl), ?_⟩
        exact fun _ => rfl
      by_cases k2 : r = 12288
      · have hs := hs.trans (ifN (by omega) (ifP (by omega) rfl))
        rw [hs]
        refine ⟨Eq.symm (ifP (by omega) rfl), ?_⟩
        exact fun _ => rfl
      by_cases k3 : r = 8592
      · have hs := hs.trans (ifN (by omega) (ifN (by omega) (ifP (by omega) rfl)))
        rw [hs]
        refine ⟨Eq.symm (ifN (by omega) (ifN (by omega) (ifP (by omega) rfl))), ?_⟩
        exact fun _ => rfl
      by_cases k4 : r = 8722
      · have hs := hs.trans (ifN (by omega) (ifN (by omega) (ifN (by omega) (ifP (by omega) rfl))))
        rw [hs]
        refine ⟨Eq.symm (ifN (by omega) (ifN (by omega) (ifN (by omega) (ifP (by omega) rfl)))), ?_⟩
        exact fun _ => rfl
      by_cases k5 : 65296 ≤ r ∧ r ≤ 65305
      · have hs := hs.trans (ifN (by omega) (ifN (by omega) (ifN (by omega) (ifN (by omega) (ifP (by omega) rfl)))))
        rw [hs]
        refine ⟨Eq.symm (ifN (by omega) (ifP k5 (by simp only; omega))), ?_⟩
        exact fun _ => rfl
      have hs := hs.trans (ifN (by omega) (ifN (by omega) (ifN (by omega) (ifN (by omega) (ifN (by omega) rfl)))))
      rw [hs]
      refine ⟨Eq.symm (ifN (by omega) (ifN k5 (ifN (by omega) (ifN (by omega) (ifN (by omega) rfl))))), ?_⟩
      exact fun h => absurd rfl h
    · rw [if_neg h4]
      refine bad (65533, 1) ?_ e53
      have hs := hs.trans (ifN (by omega) (ifN (by omega) (ifN (by omega) (ifN (by omega) (ifN (by omega) rfl)))))
      exact hs
  rw [if_neg h3]
  have hs := hs.trans (ifN (by omega) (ifN (by omega) (ifN (by omega) (ifN (by omega) (ifN (by omega) rfl)))))
  by_cases h4 : a / 8 = 30 ∧ (1 < n ∧ b / 64 = 2) ∧ (2 < n ∧ c / 64 = 2) ∧ (3 < n ∧ d / 64 = 2)
  · rw [if_pos h4]
    by_cases h5 : 65536 ≤ (a % 8) * 262144 + (b % 64) * 4096 + (c % 64) * 64 + d % 64 ∧ (a % 8) * 262144 + (b % 64) * 4096 + (c % 64) * 64 + d % 64 ≤ 1114111
    · rw [if_pos h5]
      refine bad _ hs ?_
      simp only
      rw [hi _ (by omega)]
      exact ifN (by omega) (ifN (by omega) (ifN (by omega) (ifN (by omega) (ifN (by omega) rfl))))
    · rw [if_neg h5]
      exact bad (65533, 1) hs e53
  · rw [if_neg h4]
    exact bad (65533, 1) hs e53

/- A line's signs: what the program's function tells. -/

abbrev Sg := Int × Int × List Int × Int
def Bytes (l : List Int) : Prop := ∀ n ∈ l, 0 ≤ n ∧ n ≤ 255
theorem Bytes.getD {l : List Int} (h : Bytes l) (i : Nat) : 0 ≤ l.getD i 0 ∧ l.getD i 0 ≤ 255 := by
  rw [List.getD_eq_getElem?_getD]
  cases e : l[i]? with
  | none => simp
  | some x => exact h x (List.mem_of_getElem? e)
theorem Bytes.drop {l : List Int} (h : Bytes l) (i : Nat) : Bytes (l.drop i) := fun n hn => h n (List.mem_of_mem_drop hn)
theorem sgnG_pos (n : Nat) (a b c : Int) : 1 ≤ (sgnG n a b c).1 ∧ (sgnG n a b c).1 ≤ max n 1 := by
  unfold sgnG
  repeat' (first | split)
  all_goals (first | (simp only; omega))
theorem sgn_pos (l : List Int) : 1 ≤ (sgn l).1 := (sgnG_pos _ _ _ _).1
theorem sgn_le {l : List Int} (h : l ≠ []) : (sgn l).1 ≤ l.length := by
  have := (sgnG_pos l.length (l.getD 0 0) (l.getD 1 0) (l.getD 2 0)).2
  have h1 : 0 < l.length := List.length_pos_iff.2 h
  unfold sgn
  omega
/-- The signs' marks, place by place. -/
def toks : Nat → List Int → Nat → List (Nat × Int)
  | 0, _, _ => []
  | _ + 1, [], _ => []
  | f + 1, x :: l, p => (p, (sgn (x :: l)).2) :: toks f ((x :: l).drop (sgn (x :: l)).1) (p + (sgn (x :: l)).1)
theorem toks_nil (f p : Nat) : toks f [] p = [] := by cases f <;> rfl
theorem toks_fuel : ∀ (f g : Nat) (l : List Int) (p : Nat), l.length ≤ f → l.length ≤ g → toks f l p = toks g l p
  | 0, g, l, p, h, _ => by
    have : l = [] := List.length_eq_zero_iff.1 (by omega)
    subst this
    rw [toks_nil, toks_nil]
  | f + 1, 0, l, p, _, h => by
    have : l = [] := List.length_eq_zero_iff.1 (by omega)
    subst this
    rw [toks_nil, toks_nil]
  | f + 1, g + 1, [], p, _, _ => rfl
  | f + 1, g + 1, x :: l, p, h1, h2 => by
    rw [toks, toks]
    have h3 := sgn_pos (x :: l)
    rw [toks_fuel f g _ _ (by rw [List.length_drop]; simp at h1 ⊢; omega) (by rw [List.length_drop]; simp at h2 ⊢; omega)]
def tk (l : List Int) (p : Nat) : List (Nat × Int) := toks l.length l p
theorem tk_nil (p : Nat) : tk [] p = [] := rfl
theorem tk_cons {l : List Int} (h : l ≠ []) (p : Nat) : tk l p = (p, (sgn l).2) :: tk (l.drop (sgn l).1) (p + (sgn l).1) := by
  cases l with
  | nil => exact absurd rfl h
  | cons x l =>
    unfold tk
    rw [List.length_cons, toks]
    have h3 := sgn_pos (x :: l)
    rw [toks_fuel l.length _ ((x :: l).drop (sgn (x :: l)).1) _ (by rw [List.length_drop]; simp; omega) (Nat.le_refl _)]
theorem tk_len : ∀ (n : Nat) (l : List Int) (p : Nat), l.length ≤ n → (tk l p).length ≤ l.length
  | 0, l, p, h => by
    have : l = [] := List.length_eq_zero_iff.1 (by omega)
    subst this
    simp [tk_nil]
  | n + 1, l, p, h => by
    by_cases hl : l = []
    · subst hl; simp [tk_nil]
    · rw [tk_cons hl, List.length_cons]
      have h3 := sgn_pos l
      have h4 := sgn_le hl
      have := tk_len n (l.drop (sgn l).1) (p + (sgn l).1) (by rw [List.length_drop]; omega)
      rw [List.length_drop] at this
      omega

/-- The sign that goes on, or a new one. -/
def cur (k : Int) (p : Nat) (d : List Sg) : Option Sg → List Sg × Sg
  | none => (d, (k, (p : Int), [], 0))
  | some y => if y.1 = k then (d, y) else (d ++ [y], (k, (p : Int), [], 0))
def kindT (x : Int) : Nat := if x = 35 then 0 else if x = 32 then 1 else if 97 ≤ x ∧ x ≤ 122 then 2 else if 48 ≤ x ∧ x ≤ 57 then 3 else if x = 63 then 4 else 5
/-- The place of an error, the error, the signs. -/
def spec : List (Nat × Int) → List Sg → Option Sg → Int × Int × List Sg
  | [], d, c => (0, 0, d ++ c.toList)
  | (p, x) :: r, d, c => match kindT x with
    | 0 => (0, 0, d ++ c.toList)
    | 1 => spec r (d ++ c.toList) none
    | 2 => spec r (cur 1 p d c).1 (some (1, (cur 1 p d c).2.2.1, (cur 1 p d c).2.2.2.1 ++ [x], (cur 1 p d c).2.2.2.2))
    | 3 => if (18446744073709551615 - (x - 48)) / 10 < (cur 2 p d c).2.2.2.2 then ((cur 2 p d c).2.2.1, 2, [])
      else spec r (cur 2 p d c).1 (some (2, (cur 2 p d c).2.2.1, digs (10 * (cur 2 p d c).2.2.2.2 + (x - 48)).toNat, 10 * (cur 2 p d c).2.2.2.2 + (x - 48)))
    | 4 => ((p : Int), 3, [])
    | _ => spec r (d ++ c.toList ++ [(3, (p : Int), [x], 0)]) none

/-! ### Runes -/
theorem white_D (r : Int) : D_signs_white r = some (decide (r = 9 ∨ r = 13 ∨ r = 32 ∨ r = 160 ∨ r = 8195 ∨ r = 12288)) := by
  unfold D_signs_white
  simp only [cond_dec]
  by_cases h1 : r = 9
  · rw [if_pos h1, decide_eq_true (by omega)]
  rw [if_neg h1]
  by_cases h2 : r = 13
  · rw [if_pos h2, decide_eq_true (by omega)]
  rw [if_neg h2]
  by_cases h3 : r = 32
  · rw [if_pos h3, decide_eq_true (by omega)]
  rw [if_neg h3]
  by_cases h4 : r = 160
  · rw [if_pos h4, decide_eq_true (by omega)]
  rw [if_neg h4]
  by_cases h5 : r = 8195
  · rw [if_pos h5, decide_eq_true (by omega)]
  rw [if_neg h5]
  by_cases h6 : r = 12288
  · rw [if_pos h6, decide_eq_true (by omega)]
  rw [if_neg h6, decide_eq_false (by omega)]
theorem letter_D (r : Int) : D_signs_letter r = some (decide (97 ≤ r ∧ r ≤ 122)) := by
  unfold D_signs_letter
  simp only [cond_dec]
  by_cases h1 : 97 ≤ r
  · rw [if_pos h1]
    congr 1
    rw [Bool.eq_iff_iff, decide_eq_true_eq, decide_eq_true_eq]
    omega
  · rw [if_neg h1, decide_eq_false (by omega)]
theorem digit_D {r : Int} (h0 : 0 ≤ r) : D_signs_digit r = some (if 48 ≤ r ∧ r ≤ 57 then r - 48 else if 65296 ≤ r ∧ r ≤ 65305 then r - 65296 else -1) := by
  unfold D_signs_digit
  simp only [cond_dec]
  have w : ∀ n : Int, 0 ≤ n → n ≤ 9 → IntKind.i64.wrap (IntKind.i32.wrap n) = n := by
    intro n h1 h2
    have : n = 0 ∨ n = 1 ∨ n = 2 ∨ n = 3 ∨ n = 4 ∨ n = 5 ∨ n = 6 ∨ n = 7 ∨ n = 8 ∨ n = 9 := by omega
    rcases this with e | e | e | e | e | e | e | e | e | e <;> (rw [e]; rfl)
  by_cases h1 : 48 ≤ r
  · rw [if_pos h1]
    simp only [Option.bind_some, cond_dec]
    by_cases h2 : r ≤ 57
    · rw [if_pos h2, if_pos ⟨h1, h2⟩, w _ (by omega) (by omega)]
    · rw [if_neg h2, if_neg (show ¬(48 ≤ r ∧ r ≤ 57) by omega)]
      by_cases h3 : 65296 ≤ r
      · rw [if_pos h3]
        by_cases h4 : r ≤ 65305
        · rw [if_pos h4, if_pos ⟨h3, h4⟩, w _ (by omega) (by omega)]
        · rw [if_neg h4, if_neg (show ¬(65296 ≤ r ∧ r ≤ 65305) by omega)]
      · rw [if_neg h3, if_neg (show ¬(65296 ≤ r ∧ r ≤ 65305) by omega)]
  · rw [if_neg h1, if_neg (show ¬(48 ≤ r ∧ r ≤ 57) by omega)]
    simp only [Option.bind_some, cond_false]
    rw [if_neg (show ¬65296 ≤ r by omega), if_neg (show ¬(65296 ≤ r ∧ r ≤ 65305) by omega)]
theorem mark_D (r : Int) : D_signs_mark r = some (if r = 61 ∨ r = 43 ∨ r = 45 ∨ r = 42 ∨ r = 123 ∨ r = 125 then r else if r = 8592 then 61 else if r = 8722 then 45 else if r = 215 ∨ r = 183 then 42 else 0) := by
  unfold D_signs_mark
  simp only [cond_dec]
  have e : (if r = 61 then some true else if r = 43 then some true else if r = 45 then some true else if r = 42 then some true else if r = 123 then some true else some (decide (r = 125))) = some (decide (r = 61 ∨ r = 43 ∨ r = 45 ∨ r = 42 ∨ r = 123 ∨ r = 125)) := by
    by_cases h1 : r = 61
    · rw [if_pos h1, decide_eq_true (by omega)]
    rw [if_neg h1]
    by_cases h2 : r = 43
    · rw [if_pos h2, decide_eq_true (by omega)]
    rw [if_neg h2]
    by_cases h3 : r = 45
    · rw [if_pos h3, decide_eq_true (by omega)]
    rw [if_neg h3]
    by_cases h4 : r = 42
    · rw [if_pos h4, decide_eq_true (by omega)]
    rw [if_neg h4]
    by_cases h5 : r = 123
    · rw [if_pos h5, decide_eq_true (by omega)]
    rw [if_neg h5]
    congr 1
    rw [Bool.eq_iff_iff, decide_eq_true_eq, decide_eq_true_eq]
    omega
  rw [e]
  simp only [Option.bind_some, cond_dec]
  by_cases h1 : r = 61 ∨ r = 43 ∨ r = 45 ∨ r = 42 ∨ r = 123 ∨ r = 125
  · rw [if_pos h1, if_pos h1]
  rw [if_neg h1, if_neg h1]
  by_cases h2 : r = 8592
  · rw [if_pos h2, if_pos h2]
  rw [if_neg h2, if_neg h2]
  by_cases h3 : r = 8722
  · rw [if_pos h3, if_pos h3]
  rw [if_neg h3, if_neg h3]
  by_cases h4 : r = 215
  · rw [if_pos h4, if_pos (Or.inl h4)]
  rw [if_neg h4]
  by_cases h5 : r = 183
  · rw [if_pos h5, if_pos (Or.inr h5)]
  rw [if_neg h5, if_neg (by omega)]
theorem utf8_small {x : Int} (h : 0 ≤ x ∧ x < 128) : utf8I x = [x] := by
  have : ∀ k : Fin 128, utf8I ((k : Nat) : Int) = [((k : Nat) : Int)] := by decide +kernel
  have h1 := this ⟨x.toNat, by omega⟩
  simp only at h1
  rw [show ((x.toNat : Nat) : Int) = x by omega] at h1
  exact h1
/-- What a rune is, by what it counts as. -/
theorem rcode_cases {r : Int} (h0 : 0 ≤ r) :
    (kindT (rcode r) = 0 ∧ r = 35 ∧ rcode r ≠ 63) ∨
    (kindT (rcode r) = 1 ∧ r ≠ 35 ∧ D_signs_white r = some true ∧ rcode r ≠ 63) ∨
    (kindT (rcode r) = 2 ∧ r ≠ 35 ∧ D_signs_white r = some false ∧ D_signs_letter r = some true ∧ utf8I r = [rcode r] ∧ rcode r ≠ 63) ∨
    (kindT (rcode r) = 3 ∧ r ≠ 35 ∧ D_signs_white r = some false ∧ D_signs_letter r = some false ∧ D_signs_digit r = some (rcode r - 48) ∧ 48 ≤ rcode r ∧ rcode r ≤ 57 ∧ rcode r ≠ 63) ∨
    (kindT (rcode r) = 4 ∧ r ≠ 35 ∧ D_signs_white r = some false ∧ D_signs_letter r = some false ∧ D_signs_digit r = some (-1) ∧ D_signs_mark r = some 0) ∨
    (kindT (rcode r) = 5 ∧ r ≠ 35 ∧ D_signs_white r = some false ∧ D_signs_letter r = some false ∧ D_signs_digit r = some (-1) ∧ D_signs_mark r = some (rcode r) ∧ rcode r ≠ 0 ∧ utf8I (rcode r) = [rcode r] ∧ rcode r ≠ 63) := by
  rw [white_D, letter_D, digit_D h0, mark_D]
  by_cases h1 : r = 9 ∨ r = 13 ∨ r = 32 ∨ r = 160 ∨ r = 8195 ∨ r = 12288
  · have e : rcode r = 32 := ifP h1 rfl
    rw [e]
    right; left
    exact ⟨rfl, by omega, by rw [decide_eq_true h1], by decide⟩
  have w0 : decide (r = 9 ∨ r = 13 ∨ r = 32 ∨ r = 160 ∨ r = 8195 ∨ r = 12288) = false := decide_eq_false h1
  rw [w0]
  by_cases h2 : r = 35
  · have e : rcode r = 35 := ifN h1 (ifP (by unfold Pl; omega) h2)
    rw [e]
    exact .inl ⟨rfl, h2, by decide⟩
  by_cases h3 : 97 ≤ r ∧ r ≤ 122
  · have e : rcode r = r := ifN h1 (ifP (by unfold Pl; omega) rfl)
    rw [e]
    refine .inr (.inr (.inl ⟨?_, h2, rfl, by rw [decide_eq_true h3], utf8_small (by omega), by omega⟩))
    exact ifN (by omega) (ifN (by omega) (ifP h3 rfl))
  have l0 : decide (97 ≤ r ∧ r ≤ 122) = false := decide_eq_false h3
  rw [l0]
  by_cases h4 : 48 ≤ r ∧ r ≤ 57
  · have e : rcode r = r := ifN h1 (ifP (by unfold Pl; omega) rfl)
    rw [e]
    refine .inr (.inr (.inr (.inl ⟨ifN (by omega) (ifN (by omega) (ifN h3 (ifP h4 rfl))), h2, rfl, rfl, by rw [if_pos h4], by omega, by omega, by omega⟩)))
  rw [if_neg h4]
  by_cases h5 : 65296 ≤ r ∧ r ≤ 65305
  · have e : rcode r = r - 65248 := ifN h1 (ifN (by unfold Pl; omega) (ifP h5 rfl))
    rw [e]
    refine .inr (.inr (.inr (.inl ⟨ifN (by omega) (ifN (by omega) (ifN (by omega) (ifP (by omega) rfl))), h2, rfl, rfl, by rw [if_pos h5]; congr 1; omega, by omega, by omega, by omega⟩)))
  rw [if_neg h5]
  have mk : ∀ x : Int, rcode r = x → (x = 61 ∨ x = 43 ∨ x = 45 ∨ x = 42 ∨ x = 123 ∨ x = 125) → kindT x = 5 := fun x _ h => ifN (by omega) (ifN (by omega) (ifN (by omega) (ifN (by omega) (ifN (by omega) rfl))))
  by_cases h6 : r = 61 ∨ r = 43 ∨ r = 45 ∨ r = 42 ∨ r = 123 ∨ r = 125
  · have e : rcode r = r := ifN h1 (ifP (by unfold Pl; omega) rfl)
    rw [e, if_pos h6]
    exact .inr (.inr (.inr (.inr (.inr ⟨mk r e h6, h2, rfl, rfl, rfl, rfl, by omega, utf8_small (by omega), by omega⟩))))
  rw [if_neg h6]
  have npl : ¬Pl r := by unfold Pl; omega
  by_cases h7 : r = 8592
  · have e : rcode r = 61 := ifN h1 (ifN npl (ifN h5 (ifP h7 rfl)))
    rw [e, if_pos h7]
    exact .inr (.inr (.inr (.inr (.inr ⟨rfl, h2, rfl, rfl, rfl, rfl, by omega, utf8_small (by omega), by omega⟩))))
  rw [if_neg h7]
  by_cases h8 : r = 8722
  · have e : rcode r = 45 := ifN h1 (ifN npl (ifN h5 (ifN h7 (ifP h8 rfl))))
    rw [e, if_pos h8]
    exact .inr (.inr (.inr (.inr (.inr ⟨rfl, h2, rfl, rfl, rfl, rfl, by omega, utf8_small (by omega), by omega⟩))))
  rw [if_neg h8]
  by_cases h9 : r = 215 ∨ r = 183
  · have e : rcode r = 42 := ifN h1 (ifN npl (ifN h5 (ifN h7 (ifN h8 (ifP h9 rfl)))))
    rw [e, if_pos h9]
    exact .inr (.inr (.inr (.inr (.inr ⟨rfl, h2, rfl, rfl, rfl, rfl, by omega, utf8_small (by omega), by omega⟩))))
  rw [if_neg h9]
  have e : rcode r = 63 := ifN h1 (ifN npl (ifN h5 (ifN h7 (ifN h8 (ifN h9 rfl)))))
  rw [e]
  exact .inr (.inr (.inr (.inr (.inl ⟨rfl, h2, rfl, rfl, rfl, rfl⟩))))
/-- The rune at a place, and how far it reaches. -/
theorem rune_at {l : List Int} (hb : Bytes l) {p : Nat} : rcode (runeC l (p : Int)) = (sgn (l.drop p)).2 ∧ 0 ≤ runeC l (p : Int) ∧ ((sgn (l.drop p)).2 ≠ 63 → runeW l (p : Int) = ((p + (sgn (l.drop p)).1 : Nat) : Int)) := by
  have g : ∀ k, (l.drop p).getD k 0 = l.getD (p + k) 0 := fun k => by
    rw [List.getD_eq_getElem?_getD, List.getD_eq_getElem?_getD, List.getElem?_drop]
  have n := fun k => hb.getD (p + k)
  have c : ∀ k, (((l.getD (p + k) 0).toNat : Nat) : Int) = l.getD (p + k) 0 := fun k => by have := n k; omega
  have h := cls (n := l.length - p) (a := (l.getD (p + 0) 0).toNat) (b := (l.getD (p + 1) 0).toNat) (c := (l.getD (p + 2) 0).toNat) (d := (l.getD (p + 3) 0).toNat) (by have := n 0; omega) (by have := n 1; omega) (by have := n 2; omega) (by have := n 3; omega)
  rw [c 0, c 1, c 2] at h
  unfold sgn
  rw [g, g, g, List.length_drop]
  unfold runeC runeW
  rw [Int.toNat_natCast, runeN_eq]
  refine ⟨h.1.symm, by omega, fun h1 => ?_⟩
  rw [h.2 h1]
  rfl

/- A line's signs: the program's function tells the spec. -/
abbrev StS := Int × Int × List Sg
abbrev ExS := (Int × Int × Int × Int × List Sg) ⊕ ((Int × Int × List Sg) ⊕ (Int × Int × List Sg))
/-- What the program's loop ends with, as an answer. -/
def postS (r : ExS) : Option (Int × Int × List Sg) := caseS r (fun u => some (u.1, u.2.1, [])) fun w => caseS w (fun u => some (0, 0, u.2.2)) fun w => some (0, 0, w.2.2)
theorem signs_post (l : List Int) : D_signs_Signs l = (loopN (D_signs_Signs_L0 l) BIG (0, 0, [])).bind postS := rfl
def openOf : Option Sg → Int
  | none => 0
  | some y => y.1
/-- What holds of the sign that is open. -/
def CurOk (p : Nat) (c : Option Sg) : Prop := ∀ y, c = some y → (y.1 = 1 ∨ y.1 = 2) ∧ 0 ≤ y.2.2.2 ∧ y.2.2.2 ≤ 18446744073709551615 ∧ y.2.2.1.length ≤ p + 20 ∧ 0 ≤ y.2.1 ∧ y.2.1 < p
theorem last_ix {s : List Sg} {x : Sg} (h : s.length ≤ 1000000) : ix (IntKind.i64.wrap ((((s ++ [x]).length : Nat) : Int) - 1)) (s ++ [x]).length = some s.length := by
  rw [List.length_append, List.length_singleton, wrap64 (by omega)]
  have : ((s.length + 1 : Nat) : Int) - 1 = (s.length : Int) := by omega
  rw [this]
  exact ix_in (by omega)
theorem last_get (s : List Sg) (x : Sg) : (s ++ [x])[s.length]? = some x := by simp
theorem last_set (s : List Sg) (x y : Sg) : List.set (s ++ [x]) s.length y = s ++ [y] := by
  rw [List.set_append_right _ _ (Nat.le_refl _), Nat.sub_self]; rfl
theorem wrapU10 {d : Int} (h : 0 ≤ d ∧ d ≤ 9) : IntKind.u64.wrap (Int.tdiv (IntKind.u64.wrap (18446744073709551615 - (IntKind.u64.wrap d))) 10) = (18446744073709551615 - d) / 10 := by
  rw [wrapU_in (n := d) (by omega), wrapU_in (n := 18446744073709551615 - d) (by omega), tdiv_nn (show 0 ≤ 18446744073709551615 - d by omega), wrapU_in (n := (18446744073709551615 - d) / 10) (by omega)]
theorem next_num {n d : Int} (h : 0 ≤ d ∧ d ≤ 9) (hn : 0 ≤ n) (hm : ¬(18446744073709551615 - d) / 10 < n) : IntKind.u64.wrap ((IntKind.u64.wrap (10 * n)) + (IntKind.u64.wrap d)) = 10 * n + d := by
  rw [wrapU_in (n := 10 * n) (by omega), wrapU_in (n := d) (by omega), wrapU_in (n := 10 * n + d) (by omega)]
theorem text_num {n : Int} (h : 0 ≤ n ∧ n ≤ 18446744073709551615) : D_signs_Text n = some (digs n.toNat) := by
  have := signs_Text n.toNat (by omega)
  rwa [show ((n.toNat : Nat) : Int) = n by omega] at this
theorem digs_len20 {n : Int} (h : n ≤ 18446744073709551615) : (digs n.toNat).length ≤ 20 := by rw [digs_len]; exact nd20 _ (by omega)
theorem spec_nil (d : List Sg) (c : Option Sg) : spec [] d c = (0, 0, d ++ c.toList) := rfl
theorem spec_cons (p : Nat) (x : Int) (r : List (Nat × Int)) (d : List Sg) (c : Option Sg) : spec ((p, x) :: r) d c = match kindT x with
    | 0 => (0, 0, d ++ c.toList)
    | 1 => spec r (d ++ c.toList) none
    | 2 => spec r (cur 1 p d c).1 (some (1, (cur 1 p d c).2.2.1, (cur 1 p d c).2.2.2.1 ++ [x], (cur 1 p d c).2.2.2.2))
    | 3 => if (18446744073709551615 - (x - 48)) / 10 < (cur 2 p d c).2.2.2.2 then ((cur 2 p d c).2.2.1, 2, [])
      else spec r (cur 2 p d c).1 (some (2, (cur 2 p d c).2.2.1, digs (10 * (cur 2 p d c).2.2.2.2 + (x - 48)).toNat, 10 * (cur 2 p d c).2.2.2.2 + (x - 48)))
    | 4 => ((p : Int), 3, [])
    | _ => spec r (d ++ c.toList ++ [(3, (p : Int), [x], 0)]) none := by rw [spec] <;> split <;> simp_all
/-- A sign that goes on, or does not. -/
theorem cur_cases (k : Int) (p : Nat) (d : List Sg) (c : Option Sg) : (∃ y, c = some y ∧ y.1 = k ∧ cur k p d c = (d, y)) ∨ (openOf c ≠ k ∨ c = none) ∧ cur k p d c = (d ++ c.toList, (k, (p : Int), [], 0)) := by
  cases c with
  | none => exact .inr ⟨.inr rfl, by simp [cur]⟩
  | some y =>
    by_cases h : y.1 = k
    · exact .inl ⟨y, rfl, h, by simp [cur, h]⟩
    · exact .inr ⟨.inl h, by simp [cur, h]⟩

theorem signs_step {l : List Int} (hb : Bytes l) (hl : l.length ≤ 100000) {p : Nat} {d : List Sg} {c : Option Sg} (hp : p < l.length) (hc : CurOk p c) (hd : (d ++ c.toList).length ≤ p) :
    (∃ e, D_signs_Signs_L0 l (openOf c, (p : Int), d ++ c.toList) = some (.inr e) ∧ postS e = some (spec (tk (l.drop p) p) d c)) ∨
    (∃ (p' : Nat) (d' : List Sg) (c' : Option Sg), D_signs_Signs_L0 l (openOf c, (p : Int), d ++ c.toList) = some (.inl (openOf c', (p' : Int), d' ++ c'.toList)) ∧ p < p' ∧ p' ≤ l.length ∧ CurOk p' c' ∧ (d' ++ c'.toList).length ≤ p' ∧ spec (tk (l.drop p') p') d' c' = spec (tk (l.drop p) p) d c) := by
  have hne : l.drop p ≠ [] := fun e => by
    have := congrArg List.length e
    rw [List.length_drop] at this
    simp at this
    omega
  obtain ⟨r1, r2, r3⟩ := rune_at hb (p := p)
  have hn1 := sgn_pos (l.drop p)
  have hn2 := sgn_le hne
  rw [List.length_drop] at hn2
  rw [tk_cons hne, spec_cons, ← r1]
  rw [← r1] at r3
  generalize hr : runeC l (p : Int) = r at r1 r2 r3
  have hgd : gd (decide ((0 : Int) ≤ (p : Int)) && Nat.ble 1 1) = gd (β := StS ⊕ ExS) true := by
    rw [decide_eq_true (by omega)]; rfl
  have adv : ∀ q, q = p + (sgn (l.drop p)).1 → (l.drop p).drop (sgn (l.drop p)).1 = l.drop q := fun q h => by rw [List.drop_drop, h]
  generalize hq : p + (sgn (l.drop p)).1 = q at r3
  rw [adv q hq.symm]
  have hpq : p < q := by omega
  have hql : q ≤ l.length := by omega
  unfold D_signs_Signs_L0
  simp only
  rw [hgd, gd_true, decide_eq_true (by omega), cond_true, hr]
  have len3 : ∀ (s : List Sg) (x : Sg), s.length ≤ p → (s ++ [x]).length ≤ q := fun s x h => by rw [List.length_append]; simp; omega
  have cnone : CurOk q none := fun y h => by cases h
  rcases rcode_cases r2 with ⟨k, h35, n63⟩ | ⟨k, h35, hw, n63⟩ | ⟨k, h35, hw, hlt, hu, n63⟩ | ⟨k, h35, hw, hlt, hdg, g1, g2, n63⟩ | ⟨k, h35, hw, hlt, hdg, hm⟩ | ⟨k, h35, hw, hlt, hdg, hm, hm0, hu, n63⟩
  · left
    rw [decide_eq_true h35, cond_true, k]
    exact ⟨_, rfl, rfl⟩
  · right
    rw [decide_eq_false h35, cond_false, hw]
    simp only [Option.bind_some, cond_true, k]
    rw [r3 n63]
    exact ⟨q, d ++ c.toList, none, by simp [openOf], hpq, hql, cnone, by simp; simp at hd; omega, rfl⟩
  · right
    rw [decide_eq_false h35, cond_false, hw]
    simp only [Option.bind_some, cond_false, hlt, cond_true, k, r3 n63]
    rcases cur_cases 1 p d c with ⟨y, rfl, hy1, hcur⟩ | ⟨hno, hcur⟩
    · rw [hcur]
      simp only
      obtain ⟨c1, c2, c3, c4, c5, c6⟩ := hc y rfl
      rw [show decide (openOf (some y) ≠ 1) = false from decide_eq_false (fun h => h hy1), cond_false]
      simp only [Option.toList]
      have hd' : d.length ≤ 1000000 := by rw [List.length_append] at hd; omega
      rw [last_ix hd']
      simp only [Option.bind_some]
      rw [last_get]
      simp only [Option.bind_some]
      rw [hu, gd_sfits (by simp; omega), last_set]
      refine ⟨q, d, some (1, y.2.1, y.2.2.1 ++ [rcode r], y.2.2.2), ?_, hpq, hql, ?_, ?_, rfl⟩
      · rw [← hy1]; rfl
      · intro z hz
        injection hz with hz
        subst hz
        exact ⟨.inl rfl, c2, c3, by simp; omega, c5, by simp only; omega⟩
      · simp only [Option.toList] at hd ⊢
        rw [List.length_append] at hd ⊢
        simp at hd ⊢
        omega
    · rw [hcur]
      simp only
      have hopen : decide (openOf c ≠ 1) = true := decide_eq_true (by
        rcases hno with h | h
        · exact h
        · rw [h]; decide)
      rw [hopen, cond_true, gd_fits (by omega) (by omega), last_ix (by omega)]
      simp only [Option.bind_some]
      rw [last_get]
      simp only [Option.bind_some]
      rw [hu, gd_sfits (by simp), last_set]
      refine ⟨q, d ++ c.toList, some (1, (p : Int), [] ++ [rcode r], 0), rfl, hpq, hql, ?_, ?_, rfl⟩
      · intro z hz
        injection hz with hz
        subst hz
        exact ⟨.inl rfl, by simp only; omega, by simp only; omega, by simp, by simp only; omega, by simp only; omega⟩
      · exact len3 _ _ hd
  · rw [decide_eq_false h35, cond_false, hw]
    simp only [Option.bind_some, cond_false, hlt, hdg, k]
    rw [show decide (0 ≤ rcode r - 48) = true from decide_eq_true (by omega), cond_true]
    have d9 : 0 ≤ rcode r - 48 ∧ rcode r - 48 ≤ 9 := by omega
    rcases cur_cases 2 p d c with ⟨y, rfl, hy1, hcur⟩ | ⟨hno, hcur⟩
    · rw [hcur]
      simp only
      obtain ⟨c1, c2, c3, c4, c5, c6⟩ := hc y rfl
      rw [show decide (openOf (some y) ≠ 2) = false from decide_eq_false (fun h => h hy1), cond_false]
      simp only [Option.toList]
      have hd' : d.length ≤ 1000000 := by rw [List.length_append] at hd; omega
      rw [last_ix hd']
      simp only [Option.bind_some]
      rw [last_get]
      simp only [Option.bind_some]
      rw [wrapU10 d9]
      by_cases hbig : (18446744073709551615 - (rcode r - 48)) / 10 < y.2.2.2
      · left
        rw [decide_eq_true hbig, cond_true, if_pos hbig]
        exact ⟨_, rfl, rfl⟩
      · right
        rw [decide_eq_false hbig, cond_false, if_neg hbig, next_num d9 c2 hbig]
        simp only [last_set, last_get, Option.bind_some]
        rw [text_num (by omega)]
        simp only [Option.bind_some]
        refine ⟨q, d, some (2, y.2.1, digs (10 * y.2.2.2 + (rcode r - 48)).toNat, 10 * y.2.2.2 + (rcode r - 48)), ?_, hpq, hql, ?_, ?_, rfl⟩
        · rw [r3 n63, ← hy1]; rfl
        · intro z hz
          injection hz with hz
          subst hz
          have := digs_len20 (n := 10 * y.2.2.2 + (rcode r - 48)) (by omega)
          exact ⟨.inr rfl, by simp only; omega, by simp only; omega, by simp only; omega, c5, by simp only; omega⟩
        · simp only [Option.toList] at hd ⊢
          rw [List.length_append] at hd ⊢
          simp at hd ⊢
          omega
    · rw [hcur]
      simp only
      have hopen : decide (openOf c ≠ 2) = true := decide_eq_true (by
        rcases hno with h | h
        · exact h
        · rw [h]; decide)
      rw [hopen, cond_true, gd_fits (by omega) (by omega), last_ix (by omega)]
      simp only [Option.bind_some]
      rw [last_get]
      simp only [Option.bind_some]
      rw [wrapU10 d9]
      have hbig : ¬(18446744073709551615 - (rcode r - 48)) / 10 < 0 := by omega
      right
      rw [decide_eq_false hbig, cond_false, if_neg hbig, next_num d9 (by omega) hbig]
      simp only [last_set, last_get, Option.bind_some]
      rw [text_num (by omega)]
      simp only [Option.bind_some]
      refine ⟨q, d ++ c.toList, some (2, (p : Int), digs (10 * 0 + (rcode r - 48)).toNat, 10 * 0 + (rcode r - 48)), ?_, hpq, hql, ?_, ?_, rfl⟩
      · rw [r3 n63]; rfl
      · intro z hz
        injection hz with hz
        subst hz
        have := digs_len20 (n := 10 * 0 + (rcode r - 48)) (by omega)
        exact ⟨.inr rfl, by simp only; omega, by simp only; omega, by simp only; omega, by simp only; omega, by simp only; omega⟩
      · exact len3 _ _ hd
  · left
    rw [decide_eq_false h35, cond_false, hw]
    simp only [Option.bind_some, cond_false, hlt, hdg, hm, k]
    rw [show decide ((0 : Int) ≤ -1) = false from rfl, cond_false, show decide ((0 : Int) ≠ 0) = false from rfl, cond_false]
    exact ⟨_, rfl, rfl⟩
  · right
    rw [decide_eq_false h35, cond_false, hw]
    simp only [Option.bind_some, cond_false, hlt, hdg, hm, k]
    rw [show decide ((0 : Int) ≤ -1) = false from rfl, cond_false, decide_eq_true hm0, cond_true, gd_fits (by omega) (by omega), last_ix (by omega)]
    simp only [Option.bind_some]
    rw [last_get]
    simp only [Option.bind_some]
    rw [hu, last_set, r3 n63]
    refine ⟨q, d ++ c.toList ++ [(3, (p : Int), [rcode r], 0)], none, by simp [openOf], hpq, hql, cnone, ?_, rfl⟩
    have := len3 _ (3, (p : Int), [rcode r], 0) hd
    simpa using this
theorem signs_loop {l : List Int} (hb : Bytes l) (hl : l.length ≤ 100000) : ∀ (n : Nat) (m p : Nat) (d : List Sg) (c : Option Sg), l.length - p < n → n ≤ m → p ≤ l.length → CurOk p c → (d ++ c.toList).length ≤ p →
    (loopN (D_signs_Signs_L0 l) m (openOf c, (p : Int), d ++ c.toList)).bind postS = some (spec (tk (l.drop p) p) d c)
  | 0, _, _, _, _, h, _, _, _, _ => by omega
  | n + 1, m, p, d, c, h, hm, hp, hc, hd => by
    obtain ⟨m, rfl⟩ : ∃ m', m = m' + 1 := ⟨m - 1, by omega⟩
    rw [loopN_succ]
    by_cases hlt : p < l.length
    · rcases signs_step hb hl hlt hc hd with ⟨e, h1, h2⟩ | ⟨p', d', c', h1, h2, h3, h4, h5, h6⟩
      · rw [h1]
        exact h2
      · rw [h1, ← h6]
        exact signs_loop hb hl n m p' d' c' (by omega) (by omega) h3 h4 h5
    · have hp : p = l.length := by omega
      subst hp
      have : D_signs_Signs_L0 l (openOf c, ((l.length : Nat) : Int), d ++ c.toList) = some (.inr (.inr (.inr (openOf c, ((l.length : Nat) : Int), d ++ c.toList)))) := by
        unfold D_signs_Signs_L0
        simp only
        rw [show decide ((0 : Int) ≤ ((l.length : Nat) : Int)) = true from decide_eq_true (by omega), show decide (((l.length : Nat) : Int) < ((l.length : Nat) : Int)) = false from decide_eq_false (by omega)]
        rfl
      rw [this, List.drop_length, tk_nil]
      rfl
/-- A line's signs. -/
def signsOf (l : List Int) : Int × Int × List Sg := spec (tk l 0) [] none
theorem signs_Signs {l : List Int} (hb : Bytes l) (hl : l.length ≤ 100000) : D_signs_Signs l = some (signsOf l) := by
  rw [signs_post]
  exact signs_loop hb hl (l.length + 1) BIG 0 [] none (by omega) (by unfold BIG; omega) (by omega) (fun y h => by cases h) (by simp)

/- A line's signs: the document's function tells the same. -/
theorem plain_tree (x : Int) : ((cond (decide (97 ≤ x))
     (cond (decide (x ≤ 122))
      (some ((.inl x)))
      (cond (decide (48 ≤ x))
       (cond (decide (x ≤ 57))
        (some ((.inl x)))
        (cond (decide (x = 61))
         (some ((.inl x)))
         (cond (decide (x = 43))
          (some ((.inl x)))
          (cond (decide (x = 45))
           (some ((.inl x)))
           (cond (decide (x = 42))
            (some ((.inl x)))
            (cond (decide (x = 123))
             (some ((.inl x)))
             (cond (decide (x = 125))
              (some ((.inl x)))
              (cond (decide (x = 35))
               (some ((.inl x)))
               (some ((.inr ())))))))))))
       (cond (decide (x = 61))
        (some ((.inl x)))
        (cond (decide (x = 43))
         (some ((.inl x)))
         (cond (decide (x = 45))
          (some ((.inl x)))
          (cond (decide (x = 42))
           (some ((.inl x)))
           (cond (decide (x = 123))
            (some ((.inl x)))
            (cond (decide (x = 125))
             (some ((.inl x)))
             (cond (decide (x = 35))
              (some ((.inl x)))
              (some ((.inr ()))))))))))))
     (cond (decide (48 ≤ x))
      (cond (decide (x ≤ 57))
       (some ((.inl x)))
       (cond (decide (x = 61))
        (some ((.inl x)))
        (cond (decide (x = 43))
         (some ((.inl x)))
         (cond (decide (x = 45))
          (some ((.inl x)))
          (cond (decide (x = 42))
           (some ((.inl x)))
           (cond (decide (x = 123))
            (some ((.inl x)))
            (cond (decide (x = 125))
             (some ((.inl x)))
             (cond (decide (x = 35))
              (some ((.inl x)))
              (some ((.inr ())))))))))))
      (cond (decide (x = 61))
       (some ((.inl x)))
       (cond (decide (x = 43))
        (some ((.inl x)))
        (cond (decide (x = 45))
         (some ((.inl x)))
         (cond (decide (x = 42))
          (some ((.inl x)))
          (cond (decide (x = 123))
           (some ((.inl x)))
           (cond (decide (x = 125))
            (some ((.inl x)))
            (cond (decide (x = 35))
             (some ((.inl x)))
             (some ((.inr ())))))))))))) : Option (Int ⊕ Unit)) = some (if Pl x then .inl x else .inr ()) := by
  by_cases hP : Pl x
  · rw [if_pos hP]
    rcases hP with h | h | rfl | rfl | rfl | rfl | rfl | rfl | rfl
    · rw [decide_eq_true h.1, decide_eq_true h.2]; rfl
    · rw [show decide (97 ≤ x) = false from decide_eq_false (by omega), decide_eq_true h.1, decide_eq_true h.2]; rfl
    all_goals rfl
  · rw [if_neg hP]
    unfold Pl at hP
    rw [show decide (x = 61) = false from decide_eq_false (by omega), show decide (x = 43) = false from decide_eq_false (by omega), show decide (x = 45) = false from decide_eq_false (by omega), show decide (x = 42) = false from decide_eq_false (by omega),
      show decide (x = 123) = false from decide_eq_false (by omega), show decide (x = 125) = false from decide_eq_false (by omega), show decide (x = 35) = false from decide_eq_false (by omega)]
    simp only [cond_false]
    by_cases h1 : 97 ≤ x
    · rw [decide_eq_true h1, show decide (x ≤ 122) = false from decide_eq_false (by omega), show decide (48 ≤ x) = true from decide_eq_true (by omega), show decide (x ≤ 57) = false from decide_eq_false (by omega)]; rfl
    rw [decide_eq_false h1]
    by_cases h2 : 48 ≤ x
    · rw [decide_eq_true h2, show decide (x ≤ 57) = false from decide_eq_false (by omega)]; rfl
    rw [decide_eq_false h2]; rfl
/-- A pair of numbers. -/
def pI2 (s : Nat × Int) : Int × Int := ((s.1 : Int), s.2)
theorem cdc {b : Bool} {p : Prop} [Decidable p] (h : b = true ↔ p) {x y : Option (Int × Int)} {x' y' : Nat × Int} (hx : p → x = some (pI2 x')) (hy : ¬p → y = some (pI2 y')) : cond b x y = some (pI2 (if p then x' else y')) := by
  by_cases hp : p
  · rw [if_pos hp, h.2 hp, cond_true, hx hp]
  · have : b = false := by
      cases b with
      | false => rfl
      | true => exact absurd (h.1 rfl) hp
    rw [if_neg hp, this, cond_false, hy hp]
theorem cutL_drop (l : List Int) (i k : Nat) (h : i + k ≤ 9223372036854775807) : cutL l (i : Int) (IntKind.i64.wrap ((i : Int) + (k : Int))) = (l.drop i).take k := by
  unfold cutL
  rw [wrap64 (by omega), Int.toNat_natCast, show ((i : Int) + (k : Int)).toNat = i + k by omega, List.drop_take]
  congr 1
  omega
/- A line's signs: the document's function tells the same. -/
/-- No mark of that kind stands first. -/
def NotHead (k : Nat) (T : List (Nat × Int)) : Prop := ∀ p x r, T = (p, x) :: r → kindT x ≠ k
theorem getD_drop0 (l : List Int) (i : Nat) : (l.drop i).getD 0 0 = l.getD i 0 := by
  rw [List.getD_eq_getElem?_getD, List.getD_eq_getElem?_getD, List.getElem?_drop, Nat.add_zero]
theorem sgn_letter {l : List Int} {x : Int} (h : l.getD 0 0 = x) (hx : 97 ≤ x ∧ x ≤ 122) : sgn l = (1, x) := by
  unfold sgn sgnG
  rw [h]
  exact ifN (by omega) (ifP (by unfold Pl; omega) rfl)
theorem sgn_not_letter {l : List Int} (h : ¬(97 ≤ l.getD 0 0 ∧ l.getD 0 0 ≤ 122)) : kindT (sgn l).2 ≠ 2 := by
  have key : ¬(97 ≤ (sgn l).2 ∧ (sgn l).2 ≤ 122) := by
    unfold sgn sgnG
    generalize l.getD 0 0 = a at h
    generalize l.getD 1 0 = b
    generalize l.getD 2 0 = c
    repeat' split
    all_goals first | (simp only; omega)
  intro h2
  apply key
  unfold kindT at h2
  by_cases h3 : 97 ≤ (sgn l).2 ∧ (sgn l).2 ≤ 122
  · exact h3
  · exfalso
    revert h2
    repeat' split
    all_goals first | omega | (intro h; exact absurd h (by decide))
theorem kind3 {x : Int} : kindT x = 3 ↔ 48 ≤ x ∧ x ≤ 57 := by
  unfold kindT
  constructor
  · intro h
    revert h
    repeat' split
    all_goals first | (intro _; assumption) | (intro h; exact absurd h (by decide))
  · intro h
    exact ifN (by omega) (ifN (by omega) (ifN (by omega) (ifP h rfl)))
theorem spec_letter {p : Nat} {x : Int} {r : List (Nat × Int)} {d : List Sg} {at' N : Int} {t : List Int} (hx : 97 ≤ x ∧ x ≤ 122) : spec ((p, x) :: r) d (some (1, at', t, N)) = spec r d (some (1, at', t ++ [x], N)) := by
  rw [spec_cons, show kindT x = 2 from ifN (by omega) (ifN (by omega) (ifP hx rfl))]
  rfl
theorem spec_digit {p : Nat} {x : Int} {r : List (Nat × Int)} {d : List Sg} {at' N : Int} {t : List Int} (hx : 48 ≤ x ∧ x ≤ 57) : spec ((p, x) :: r) d (some (2, at', t, N)) = if (18446744073709551615 - (x - 48)) / 10 < N then (at', 2, []) else spec r d (some (2, at', digs (10 * N + (x - 48)).toNat, 10 * N + (x - 48))) := by
  rw [spec_cons, kind3.2 hx]
  rfl
/-- A sign that does not go on. -/
theorem spec_close {T : List (Nat × Int)} {d : List Sg} {y : Sg} (h : (y.1 = 1 ∧ NotHead 2 T) ∨ (y.1 = 2 ∧ NotHead 3 T)) : spec T d (some y) = spec T (d ++ [y]) none := by
  cases T with
  | nil => rw [spec_nil, spec_nil]; simp
  | cons q r =>
    obtain ⟨p, x⟩ := q
    rw [spec_cons, spec_cons]
    have hk : ∀ k : Int, y.1 ≠ k → cur k p d (some y) = cur k p (d ++ [y]) none := fun k hk => by simp [cur, hk]
    have e : d ++ (some y).toList = d ++ [y] ++ (none : Option Sg).toList := by simp
    rw [e]
    split
    · rfl
    · rfl
    · rename_i h2
      rcases h with ⟨h1, h3⟩ | ⟨h1, h3⟩
      · exact absurd h2 (h3 p x r rfl)
      · rw [hk 1 (by omega)]
    · rename_i h2
      rcases h with ⟨h1, h3⟩ | ⟨h1, h3⟩
      · rw [hk 2 (by omega)]
      · exact absurd h2 (h3 p x r rfl)
    · rfl
    · rfl
abbrev ExL := (Int × (List Int) × Int × Int × Bool × (List Int) × Int × Int × Bool × Int × List Int) ⊕ ((Int × (List Int) × Int × Int × Bool × Int × List Int) ⊕ (Int × Int × List Int))
def pL : ExL → Int × Int × List Int
  | .inl u => (u.1, u.2.2.2.2.2.2.2.2.2.1, u.2.2.2.2.2.2.2.2.2.2)
  | .inr (.inl u) => (u.1, u.2.2.2.2.2.1, u.2.2.2.2.2.2)
  | .inr (.inr u) => u
theorem tk_head {l : List Int} {i : Nat} (hi : i < l.length) : tk (l.drop i) i = (i, (sgn (l.drop i)).2) :: tk (l.drop (i + (sgn (l.drop i)).1)) (i + (sgn (l.drop i)).1) := by
  have hne : l.drop i ≠ [] := fun e => by
    have := congrArg List.length e
    rw [List.length_drop] at this
    simp at this
    omega
  rw [tk_cons hne, List.drop_drop]
theorem sgn_in {l : List Int} {i : Nat} (hi : i < l.length) : 1 ≤ (sgn (l.drop i)).1 ∧ i + (sgn (l.drop i)).1 ≤ l.length := by
  have hne : l.drop i ≠ [] := fun e => by
    have := congrArg List.length e
    rw [List.length_drop] at this
    simp at this
    omega
  have := sgn_le hne
  rw [List.length_drop] at this
  exact ⟨sgn_pos _, by omega⟩
theorem notHead_end {l : List Int} {k : Nat} : NotHead k (tk (l.drop l.length) l.length) := fun p x r h => by
  rw [List.drop_length, tk_nil] at h
  cases h
theorem notHead_at {l : List Int} {k i : Nat} (hi : i < l.length) (h : kindT (sgn (l.drop i)).2 ≠ k) : NotHead k (tk (l.drop i) i) := fun p x r e => by
  rw [tk_head hi] at e
  injection e with e _
  injection e with _ e
  rw [← e]
  exact h
abbrev ExD := (Int × Int × (List Int) × Int) ⊕ ((Int × Int × Bool × Int × (List Int) × Int) ⊕ (Int × Int × (List Int) × Int))
def pD : ((Int × Int × Bool × Int × (List Int) × Int) ⊕ (Int × Int × (List Int) × Int)) → Int × Int × Int
  | .inl u => (u.1, u.2.2.2.1, u.2.2.2.2.2)
  | .inr u => (u.1, u.2.1, u.2.2.2)
theorem u8d {c : Int} (h : 48 ≤ c ∧ c ≤ 57) : IntKind.u64.wrap (IntKind.u8.wrap (c - 48)) = c - 48 := by
  show ((c - 48) % 256) % 18446744073709551616 = c - 48
  omega
/- A line's signs: both tell the same. -/
abbrev ExR := (Int × Int × List Sg) ⊕ (List Sg)
def postR (r : ExR) : Option (Int × Int × List Sg) := caseS r (fun u => some (u.1, u.2.1, u.2.2)) fun w => some (0, 0, w)
theorem kind0 {x : Int} (h : kindT x = 0) : x = 35 := by
  unfold kindT at h
  revert h
  repeat' split
  all_goals first | (intro _; assumption) | (intro h; exact absurd h (by decide))
theorem kind1 {x : Int} (h : kindT x = 1) : x = 32 := by
  unfold kindT at h
  revert h
  repeat' split
  all_goals first | (intro _; assumption) | (intro h; exact absurd h (by decide))
theorem kind2 {x : Int} (h : kindT x = 2) : 97 ≤ x ∧ x ≤ 122 := by
  unfold kindT at h
  revert h
  repeat' split
  all_goals first | (intro _; assumption) | (intro h; exact absurd h (by decide))
theorem kind4 {x : Int} (h : kindT x = 4) : x = 63 := by
  unfold kindT at h
  revert h
  repeat' split
  all_goals first | (intro _; assumption) | (intro h; exact absurd h (by decide))
theorem kindLt (x : Int) : kindT x < 6 := by
  unfold kindT
  repeat' split
  all_goals decide
theorem kind5 {x : Int} (h : kindT x = 5) : x ≠ 35 ∧ x ≠ 32 ∧ ¬(97 ≤ x ∧ x ≤ 122) ∧ ¬(48 ≤ x ∧ x ≤ 57) ∧ x ≠ 63 := by
  unfold kindT at h
  revert h
  repeat' split
  all_goals first | (intro h; exact absurd h (by decide)) | (intro _; refine ⟨?_, ?_, ?_, ?_, ?_⟩ <;> assumption)
/-- A sign's number fits a byte. -/
theorem sgn_byte {l : List Int} (hb : Bytes l) : 0 ≤ (sgn l).2 ∧ (sgn l).2 ≤ 255 := by
  have h0 := hb.getD 0
  have h2 := hb.getD 2
  unfold sgn sgnG
  generalize l.getD 0 0 = a at h0
  generalize l.getD 1 0 = b
  generalize l.getD 2 0 = c at h2
  repeat' split
  all_goals first | (simp only; omega)
theorem byteI_one {x : Int} (h : 0 ≤ x ∧ x ≤ 255) : List.map byteI [x] = [x] := byteI_map [x] fun n hn => by rw [List.mem_singleton] at hn; rw [hn]; exact h

/-! ### Alike -/
def alike (b : Bool) (x y : Sg) : Prop := x.1 = y.1 ∧ x.2.2.1 = y.2.2.1 ∧ x.2.2.2 = y.2.2.2 ∧ (b = true → x.2.1 = y.2.1)
theorem spec_lenG : ∀ (T : List (Nat × Int)) (d : List Sg) (c : Option Sg), (spec T d c).2.2.length ≤ d.length + c.toList.length + T.length
  | [], d, c => by rw [spec_nil]; simp
  | (p, x) :: r, d, c => by
    rw [spec_cons]
    have hcur : ∀ k, (cur k p d c).1.length ≤ d.length + c.toList.length ∧ ((cur k p d c).1.length + 1 ≤ d.length + c.toList.length + 1) := by
      intro k
      rcases cur_cases k p d c with ⟨y, rfl, _, h⟩ | ⟨_, h⟩ <;> rw [h] <;> simp
    have h1 := hcur 1
    have h2 := hcur 2
    split
    · simp
    · have := spec_lenG r (d ++ c.toList) none
      simp at this ⊢
      omega
    · have := spec_lenG r (cur 1 p d c).1 (some (1, (cur 1 p d c).2.2.1, (cur 1 p d c).2.2.2.1 ++ [x], (cur 1 p d c).2.2.2.2))
      simp at this ⊢
      omega
    · split
      · simp
      · have := spec_lenG r (cur 2 p d c).1 (some (2, (cur 2 p d c).2.2.1, digs (10 * (cur 2 p d c).2.2.2.2 + (x - 48)).toNat, 10 * (cur 2 p d c).2.2.2.2 + (x - 48)))
        simp at this ⊢
        omega
    · simp
    · have := spec_lenG r (d ++ c.toList ++ [(3, (p : Int), [x], 0)]) none
      simp at this ⊢
      omega
theorem signsOf_len (l : List Int) : (signsOf l).2.2.length ≤ l.length := by
  have := spec_lenG (tk l 0) [] none
  have h2 := tk_len l.length l 0 (Nat.le_refl _)
  simp at this
  exact Nat.le_trans this h2
theorem Bytes.of {l : List Int} (h : Fine .str l) : Bytes l := h.2
/- Signs, written and read again. -/
/-- A mark. -/
def Mk (x : Int) : Prop := x = 61 ∨ x = 43 ∨ x = 45 ∨ x = 42 ∨ x = 123 ∨ x = 125
theorem sgn_mark (l : List Int) (h : kindT (sgn l).2 = 5) : Mk (sgn l).2 := by
  obtain ⟨h1, h2, h3, h4, h5⟩ := kind5 h
  revert h1 h2 h3 h4 h5
  unfold sgn sgnG
  generalize l.getD 0 0 = a
  generalize l.getD 1 0 = b
  generalize l.getD 2 0 = c
  unfold Mk
  by_cases k1 : a = 9 ∨ a = 13 ∨ a = 32
  · rw [if_pos k1]; intro h1 h2; exact absurd rfl h2
  rw [if_neg k1]
  by_cases k2 : Pl a
  · rw [if_pos k2]
    unfold Pl at k2
    intro h1 h2 h3 h4 h5
    simp only at *
    omega
  rw [if_neg k2]
  repeat' split
  all_goals first | (intro _ _ _ _ _; decide) | (intro h1 h2 h3 h4 h5; dsimp only at *; omega)
/-- A sign that may be told. -/
def SOk (x : Sg) : Prop :=
  (x.1 = 1 ∧ x.2.2.1 ≠ [] ∧ (∀ b ∈ x.2.2.1, 97 ≤ b ∧ b ≤ 122) ∧ x.2.2.2 = 0) ∨
  (x.1 = 2 ∧ (0 ≤ x.2.2.2 ∧ x.2.2.2 ≤ 18446744073709551615) ∧ x.2.2.1 = digs x.2.2.2.toNat) ∨
  (x.1 = 3 ∧ (∃ c, x.2.2.1 = [c] ∧ Mk c) ∧ x.2.2.2 = 0)
def MkOk (T : List (Nat × Int)) : Prop := ∀ p x, (p, x) ∈ T → kindT x = 5 → Mk x
theorem tk_mk : ∀ (n : Nat) (l : List Int) (p : Nat), l.length ≤ n → MkOk (tk l p)
  | 0, l, p, h => by
    have : l = [] := List.length_eq_zero_iff.1 (by omega)
    subst this
    intro q x hx
    cases hx
  | n + 1, l, p, h => by
    by_cases hl : l = []
    · subst hl; intro q x hx; cases hx
    · rw [tk_cons hl]
      have h3 := sgn_pos l
      intro q x hx hk
      rcases List.mem_cons.1 hx with e | hx
      · injection e with e1 e2
        subst e2
        exact sgn_mark l hk
      · exact tk_mk n _ _ (by rw [List.length_drop]; omega) q x hx hk
theorem spec_good : ∀ (T : List (Nat × Int)) (d : List Sg) (c : Option Sg), MkOk T → (∀ x ∈ d, SOk x) → (∀ y, c = some y → SOk y ∧ y.1 ≠ 3) → ∀ x ∈ (spec T d c).2.2, SOk x
  | [], d, c, hT, hd, hc => by
    rw [spec_nil]
    intro x hx
    rcases List.mem_append.1 hx with h | h
    · exact hd x h
    · cases c with
      | none => cases h
      | some y => rw [Option.toList, List.mem_singleton] at h; rw [h]; exact (hc y rfl).1
  | (p, x) :: r, d, c, hT, hd, hc => by
    have hr : MkOk r := fun q z h => hT q z (List.mem_cons_of_mem _ h)
    have hdc : ∀ x ∈ d ++ c.toList, SOk x := by
      intro x hx
      rcases List.mem_append.1 hx with h | h
      · exact hd x h
      · cases c with
        | none => cases h
        | some y => rw [Option.toList, List.mem_singleton] at h; rw [h]; exact (hc y rfl).1
    have hcur : ∀ k, (∀ x ∈ (cur k p d c).1, SOk x) ∧ ((∃ y, c = some y ∧ y.1 = k ∧ (cur k p d c).2 = y) ∨ (cur k p d c).2 = (k, (p : Int), [], 0)) := by
      intro k
      rcases cur_cases k p d c with ⟨y, e, h1, h⟩ | ⟨_, h⟩
      · rw [h]; exact ⟨hd, .inl ⟨y, e, h1, rfl⟩⟩
      · rw [h]; exact ⟨hdc, .inr rfl⟩
    rw [spec_cons]
    split
    · exact hdc
    · exact spec_good r _ none hr hdc (fun y h => by cases h)
    · rename_i k2
      have hx := kind2 k2
      obtain ⟨g1, g2⟩ := hcur 1
      refine spec_good r _ _ hr g1 (fun y h => ?_)
      injection h with h
      subst h
      refine ⟨.inl ⟨rfl, by simp, ?_, ?_⟩, by simp⟩
      · intro b hb
        rcases List.mem_append.1 hb with hb | hb
        · rcases g2 with ⟨y, e, e1, e2⟩ | e
          · rw [e2] at hb
            rcases (hc y e).1 with q | q | q
            · exact q.2.2.1 b hb
            · omega
            · omega
          · rw [e] at hb; cases hb
        · rw [List.mem_singleton] at hb; rw [hb]; exact hx
      · rcases g2 with ⟨y, e, e1, e2⟩ | e
        · simp only [e2]
          rcases (hc y e).1 with q | q | q
          · exact q.2.2.2
          · omega
          · omega
        · simp only [e]
    · rename_i k3
      have hx := kind3.1 k3
      obtain ⟨g1, g2⟩ := hcur 2
      split
      · intro x hx; cases hx
      · rename_i hbig
        refine spec_good r _ _ hr g1 (fun y h => ?_)
        injection h with h
        subst h
        have hN : 0 ≤ (cur 2 p d c).2.2.2.2 ∧ (cur 2 p d c).2.2.2.2 ≤ 18446744073709551615 := by
          rcases g2 with ⟨y, e, e1, e2⟩ | e
          · rw [e2]
            rcases (hc y e).1 with q | q | q
            · omega
            · exact q.2.1
            · omega
          · rw [e]; simp
        exact ⟨.inr (.inl ⟨rfl, by simp only; omega, rfl⟩), by simp⟩
    · intro x hx; cases hx
    · rename_i k0 k1 k2 k3 k4
      refine spec_good r _ none hr ?_ (fun y h => by cases h)
      intro z hz
      rcases List.mem_append.1 hz with h | h
      · exact hdc z h
      · rw [List.mem_singleton] at h
        subst h
        have hk : kindT x = 5 := by
          have := kindLt x
          have a0 : kindT x ≠ 0 := fun e => k0 e
          have a1 : kindT x ≠ 1 := fun e => k1 e
          have a2 : kindT x ≠ 2 := fun e => k2 e
          have a3 : kindT x ≠ 3 := fun e => k3 e
          have a4 : kindT x ≠ 4 := fun e => k4 e
          omega
        exact .inr (.inr ⟨rfl, ⟨x, rfl, hT p x List.mem_cons_self hk⟩, rfl⟩)
theorem signsOf_good (l : List Int) : ∀ x ∈ (signsOf l).2.2, SOk x := spec_good _ [] none (tk_mk _ l 0 (Nat.le_refl _)) (fun x h => by cases h) (fun y h => by cases h)

/-! ### Texts that are read -/
theorem tk_pl {b : Int} (h : Pl b) (R : List Int) (p : Nat) : tk (b :: R) p = (p, b) :: tk R (p + 1) := by
  have : sgn (b :: R) = (1, b) := by
    unfold sgn sgnG
    simp only [List.getD_cons_zero]
    exact ifN (by unfold Pl at h; omega) (ifP h rfl)
  rw [tk_cons (List.cons_ne_nil _ _), this]
  rfl
theorem read_letters (at' N : Int) (d : List Sg) (R : List Int) : ∀ (t s : List Int) (p : Nat), (∀ b ∈ t, 97 ≤ b ∧ b ≤ 122) → spec (tk (t ++ R) p) d (some (1, at', s, N)) = spec (tk R (p + t.length)) d (some (1, at', s ++ t, N))
  | [], s, p, _ => by simp
  | b :: t, s, p, h => by
    have hb := h b List.mem_cons_self
    rw [List.cons_append, tk_pl (by unfold Pl; omega), spec_letter hb, read_letters at' N d R t _ _ (fun x hx => h x (List.mem_cons_of_mem _ hx)), List.append_assoc, List.length_cons]
    rw [show p + 1 + t.length = p + (t.length + 1) by omega]
    rfl
theorem read_digs (d : List Sg) : ∀ (n N : Nat), N ≤ n → N ≤ 18446744073709551615 → ∀ (R : List Int) (p : Nat), spec (tk (digs N ++ R) p) d none = spec (tk R (p + (digs N).length)) d (some (2, (p : Int), digs N, (N : Int)))
  | n, N, hn, hN, R, p => by
    by_cases h : N < 10
    · rw [digs_small h]
      show spec (tk ((48 + (N : Int)) :: R) p) d none = _
      rw [tk_pl (by unfold Pl; omega), spec_cons, kind3.2 (by omega)]
      show (if _ < (0 : Int) then _ else spec _ _ (some (2, (p : Int), digs (10 * 0 + (48 + (N : Int) - 48)).toNat, 10 * 0 + (48 + (N : Int) - 48)))) = _
      rw [if_neg (by omega), show 10 * 0 + (48 + (N : Int) - 48) = (N : Int) by omega, Int.toNat_natCast, digs_small h]
      rfl
    · match n, hn with
      | 0, hn => omega
      | n + 1, hn =>
      rw [digs_big h, List.append_assoc, read_digs d n (N / 10) (by omega) (by omega)]
      show spec (tk ((48 + ((N % 10 : Nat) : Int)) :: R) _) d _ = _
      rw [tk_pl (by unfold Pl; omega), spec_digit (by omega), if_neg (by omega), List.length_append, List.length_singleton]
      have e : (10 * ((N / 10 : Nat) : Int) + (48 + ((N % 10 : Nat) : Int) - 48)) = (N : Int) := by omega
      rw [e, Int.toNat_natCast, ← digs_big h, Nat.add_assoc]
/-- A sign's text, read. -/
theorem read_sign {x : Sg} (hx : SOk x) (d : List Sg) (p : Nat) : ∃ (x' : Sg) (d' : List Sg) (c' : Option Sg), alike false x x' ∧ d' ++ c'.toList = d ++ [x'] ∧ ∀ R, spec (tk (x.2.2.1 ++ R) p) d none = spec (tk R (p + x.2.2.1.length)) d' c' := by
  obtain ⟨k, at', t, N⟩ := x
  rcases hx with ⟨h1, h2, h3, h4⟩ | ⟨h1, h2, h3⟩ | ⟨h1, ⟨c, h2, h3⟩, h4⟩
  · simp only at h1 h2 h3 h4
    subst h1; subst h4
    refine ⟨(1, (p : Int), t, 0), d, some (1, (p : Int), t, 0), ⟨rfl, rfl, rfl, fun h => by cases h⟩, rfl, fun R => ?_⟩
    have := read_letters (p : Int) 0 d R t [] p h3
    rw [List.nil_append] at this
    rw [← this]
    match t, h2, h3 with
    | b :: t, _, h3 =>
      have hb := h3 b List.mem_cons_self
      show spec (tk (b :: (t ++ R)) p) d none = spec (tk (b :: (t ++ R)) p) d _
      rw [tk_pl (by unfold Pl; omega), spec_letter hb, spec_cons, show kindT b = 2 from ifN (by omega) (ifN (by omega) (ifP hb rfl))]
      rfl
  · simp only at h1 h2 h3
    subst h1; subst h3
    refine ⟨(2, (p : Int), digs N.toNat, N), d, some (2, (p : Int), digs N.toNat, N), ⟨rfl, rfl, rfl, fun h => by cases h⟩, rfl, fun R => ?_⟩
    have := read_digs d N.toNat N.toNat (Nat.le_refl _) (by omega) R p
    rw [show ((N.toNat : Nat) : Int) = N by omega] at this
    exact this
  · simp only at h1 h2 h4
    subst h1; subst h2; subst h4
    have hk : kindT c = 5 := by unfold Mk at h3; exact ifN (by omega) (ifN (by omega) (ifN (by omega) (ifN (by omega) (ifN (by omega) rfl))))
    refine ⟨(3, (p : Int), [c], 0), d ++ [(3, (p : Int), [c], 0)], none, ⟨rfl, rfl, rfl, fun h => by cases h⟩, by simp, fun R => ?_⟩
    show spec (tk (c :: R) p) d none = _
    rw [tk_pl (by unfold Pl; unfold Mk at h3; omega), spec_cons, hk]
    show spec (tk R (p + 1)) (d ++ [] ++ [(3, (p : Int), [c], 0)]) none = _
    rw [List.append_nil]
    rfl
/-- White. -/
def White (g : List Int) : Prop := ∀ (R : List Int) (p : Nat) (d : List Sg) (c : Option Sg), spec (tk (g ++ R) p) d c = spec (tk R (p + g.length)) (d ++ c.toList) none
theorem white_of {g : List Int} (hg : g ≠ []) (h : ∀ R, sgn (g ++ R) = (g.length, 32)) : White g := fun R p d c => by
  rw [tk_cons (by simp [hg]), h, spec_cons]
  show spec (tk ((g ++ R).drop g.length) (p + g.length)) (d ++ c.toList) none = _
  rw [List.drop_left]
theorem White.app {g g' : List Int} (h : White g) (h' : White g') : White (g ++ g') := fun R p d c => by
  rw [List.append_assoc, h, h', List.length_append, Nat.add_assoc]
  simp
theorem white1 {b : Int} (h : b = 9 ∨ b = 13 ∨ b = 32) : White [b] := white_of (by simp) fun R => by
  unfold sgn sgnG
  simp only [List.cons_append, List.getD_cons_zero]
  exact ifP h rfl
theorem white_a0 : White [194, 160] := white_of (by simp) fun R => by
  unfold sgn sgnG
  simp only [List.cons_append, List.getD_cons_zero, List.getD_cons_succ, List.length_cons, List.nil_append]
  exact ifN (by omega) (ifN (by decide) (ifP (by simp only [and_true]; omega) rfl))
theorem white_em : White [226, 128, 131] := white_of (by simp) fun R => by
  unfold sgn sgnG
  simp only [List.cons_append, List.getD_cons_zero, List.getD_cons_succ, List.length_cons, List.nil_append]
  exact ifN (by omega) (ifN (by decide) (ifN (by omega) (ifN (by omega) (ifN (by omega) (ifP (by simp only [and_true]; omega) rfl)))))
theorem white_id : White [227, 128, 128] := white_of (by simp) fun R => by
  unfold sgn sgnG
  simp only [List.cons_append, List.getD_cons_zero, List.getD_cons_succ, List.length_cons, List.nil_append]
  exact ifN (by omega) (ifN (by decide) (ifN (by omega) (ifN (by omega) (ifN (by omega) (ifN (by omega) (ifP (by simp only [and_true]; omega) rfl))))))

/-! ### Signs with gaps between them -/
/-- Lists of signs, alike but for their places. -/
def Alike : List Sg → List Sg → Prop
  | [], [] => True
  | x :: a, y :: b => alike false x y ∧ Alike a b
  | _, _ => False
theorem Alike.length : ∀ {a b : List Sg}, Alike a b → a.length = b.length
  | [], [], _ => rfl
  | _ :: _, _ :: _, h => by rw [List.length_cons, List.length_cons, h.2.length]
  | [], _ :: _, h => h.elim
  | _ :: _, [], h => h.elim
theorem Alike.get : ∀ {a b : List Sg}, Alike a b → ∀ (i : Nat) (x y : Sg), a[i]? = some x → b[i]? = some y → alike false x y
  | [], [], _, i, x, y, h, _ => by simp at h
  | u :: a, v :: b, h, 0, x, y, hx, hy => by
    simp at hx hy
    rw [← hx, ← hy]
    exact h.1
  | u :: a, v :: b, h, i + 1, x, y, hx, hy => h.2.get i x y (by simpa using hx) (by simpa using hy)
  | [], _ :: _, h, _, _, _, _, _ => h.elim
  | _ :: _, [], h, _, _, _, _, _ => h.elim
def rendG : List (Sg × List Int) → List Int
  | [] => []
  | (x, g) :: r => x.2.2.1 ++ (g ++ rendG r)
theorem read_gaps : ∀ (l : List (Sg × List Int)) (d : List Sg) (p : Nat) (R : List Int), (∀ q ∈ l, SOk q.1 ∧ White q.2) → ∃ (a' : List Sg) (p' : Nat), Alike (l.map (·.1)) a' ∧ spec (tk (rendG l ++ R) p) d none = spec (tk R p') (d ++ a') none
  | [], d, p, R, _ => ⟨[], p, trivial, by simp [rendG]⟩
  | (x, g) :: l, d, p, R, h => by
    obtain ⟨hx, hg⟩ := h (x, g) List.mem_cons_self
    obtain ⟨x', d', c', h1, h2, h3⟩ := read_sign hx d p
    obtain ⟨a', p', h4, h5⟩ := read_gaps l (d ++ [x']) (p + x.2.2.1.length + g.length) R fun q hq => h q (List.mem_cons_of_mem _ hq)
    refine ⟨x' :: a', p', ⟨h1, h4⟩, ?_⟩
    show spec (tk ((x.2.2.1 ++ (g ++ rendG l)) ++ R) p) d none = _
    rw [List.append_assoc, List.append_assoc, h3, hg, h2, h5]
    simp
/-- Signs' texts, with a blank between them. -/
theorem read_join : ∀ (l : List Sg) (d : List Sg) (p : Nat), (∀ x ∈ l, SOk x) → ∃ a', Alike l a' ∧ spec (tk (joinI (l.map (·.2.2.1)) [32]) p) d none = (0, 0, d ++ a')
  | [], d, p, _ => ⟨[], trivial, by simp [joinI, tk_nil, spec_nil]⟩
  | [x], d, p, h => by
    obtain ⟨x', d', c', h1, h2, h3⟩ := read_sign (h x List.mem_cons_self) d p
    refine ⟨[x'], ⟨h1, trivial⟩, ?_⟩
    have := h3 []
    rw [List.append_nil] at this
    show spec (tk x.2.2.1 p) d none = _
    rw [this, tk_nil, spec_nil, h2]
  | x :: y :: l, d, p, h => by
    obtain ⟨x', d', c', h1, h2, h3⟩ := read_sign (h x List.mem_cons_self) d p
    obtain ⟨a', h4, h5⟩ := read_join (y :: l) (d ++ [x']) (p + x.2.2.1.length + 1) fun q hq => h q (List.mem_cons_of_mem _ hq)
    refine ⟨x' :: a', ⟨h1, h4⟩, ?_⟩
    show spec (tk (x.2.2.1 ++ ([32] ++ joinI ((y :: l).map (·.2.2.1)) [32])) p) d none = _
    rw [h3, white1 (.inr (.inr rfl)), h2]
    show spec (tk _ (p + x.2.2.1.length + 1)) _ none = _
    rw [h5]
    simp
/-! ### How long texts are -/
def totT (l : List Sg) : Nat := (l.map (·.2.2.1.length)).sum
theorem totT_app (a b : List Sg) : totT (a ++ b) = totT a + totT b := by unfold totT; rw [List.map_append, List.sum_append]
theorem totT_one (x : Sg) : totT [x] = x.2.2.1.length := by unfold totT; simp
theorem spec_tot : ∀ (T : List (Nat × Int)) (d : List Sg) (c : Option Sg), (∀ y, c = some y → 0 ≤ y.2.2.2 ∧ y.2.2.2 ≤ 18446744073709551615) → totT (spec T d c).2.2 ≤ totT d + totT c.toList + 20 * T.length
  | [], d, c, _ => by rw [spec_nil]; simp only [totT_app]; omega
  | (p, x) :: r, d, c, hc => by
    rw [spec_cons]
    have hcur : ∀ k, totT (cur k p d c).1 + (cur k p d c).2.2.2.1.length ≤ totT d + totT c.toList ∧ totT (cur k p d c).1 ≤ totT d + totT c.toList ∧ 0 ≤ (cur k p d c).2.2.2.2 ∧ (cur k p d c).2.2.2.2 ≤ 18446744073709551615 := by
      intro k
      rcases cur_cases k p d c with ⟨y, rfl, _, h⟩ | ⟨_, h⟩
      · rw [h]
        have := hc y rfl
        simp only [Option.toList, totT_one]
        omega
      · rw [h]
        simp only [totT_app, List.length_nil]
        omega
    have h1 := hcur 1
    have h2 := hcur 2
    split
    · simp only [totT_app, List.length_cons]; omega
    · have := spec_tot r (d ++ c.toList) none (fun y h => by cases h)
      rw [totT_app] at this
      simp only [List.length_cons]
      have e : totT (none : Option Sg).toList = 0 := rfl
      omega
    · have := spec_tot r (cur 1 p d c).1 (some (1, (cur 1 p d c).2.2.1, (cur 1 p d c).2.2.2.1 ++ [x], (cur 1 p d c).2.2.2.2)) (fun y h => by injection h with h; subst h; exact h1.2.2)
      simp only [Option.toList, totT_one, List.length_append, List.length_singleton] at this
      simp only [List.length_cons]
      omega
    · rename_i k3
      have hx := kind3.1 k3
      split
      · show totT [] ≤ _
        have : totT [] = 0 := rfl
        omega
      · have := spec_tot r (cur 2 p d c).1 (some (2, (cur 2 p d c).2.2.1, digs (10 * (cur 2 p d c).2.2.2.2 + (x - 48)).toNat, 10 * (cur 2 p d c).2.2.2.2 + (x - 48))) (fun y h => by injection h with h; subst h; simp only; omega)
        have hd := digs_len20 (n := 10 * (cur 2 p d c).2.2.2.2 + (x - 48)) (by omega)
        simp only [Option.toList, totT_one] at this
        simp only [List.length_cons]
        omega
    · show totT [] ≤ _
      have : totT [] = 0 := rfl
      omega
    · have := spec_tot r (d ++ c.toList ++ [(3, (p : Int), [x], 0)]) none (fun y h => by cases h)
      rw [totT_app, totT_app, totT_one] at this
      simp only [List.length_singleton] at this
      simp only [List.length_cons]
      have e : totT (none : Option Sg).toList = 0 := rfl
      omega
theorem signsOf_tot (l : List Int) : totT (signsOf l).2.2 ≤ 20 * l.length := by
  have := spec_tot (tk l 0) [] none (fun y h => by cases h)
  have h2 := tk_len l.length l 0 (Nat.le_refl _)
  have e : totT ([] : List Sg) = 0 := rfl
  have e2 : totT (none : Option Sg).toList = 0 := rfl
  unfold signsOf
  omega
theorem join_len (s : List Int) : ∀ l : List Sg, (joinI (l.map (·.2.2.1)) s).length ≤ totT l + s.length * l.length
  | [] => by simp [joinI]
  | [x] => by
    show x.2.2.1.length ≤ _
    rw [totT_one]
    omega
  | x :: y :: l => by
    show (x.2.2.1 ++ (s ++ joinI ((y :: l).map (·.2.2.1)) s)).length ≤ _
    have := join_len s (y :: l)
    have e : totT (x :: y :: l) = x.2.2.1.length + totT (y :: l) := by unfold totT; simp
    rw [List.length_append, List.length_append, e, List.length_cons, Nat.mul_succ]
    omega
theorem SOk.bytes {x : Sg} (h : SOk x) : Bytes x.2.2.1 := by
  intro n hn
  rcases h with h | h | h
  · have := h.2.2.1 n hn; omega
  · rw [h.2.2] at hn
    have := digs_byte _ n hn; omega
  · obtain ⟨c, h1, h2⟩ := h.2.1
    rw [h1, List.mem_singleton] at hn
    unfold Mk at h2
    omega
theorem Bytes.app {a b : List Int} (h : Bytes a) (k : Bytes b) : Bytes (a ++ b) := fun n hn => (List.mem_append.1 hn).elim (h n) (k n)
theorem join_bytesI {s : List Int} (hs : Bytes s) : ∀ l : List Sg, (∀ x ∈ l, SOk x) → Bytes (joinI (l.map (·.2.2.1)) s)
  | [], _ => fun n h => by cases h
  | [x], h => (h x List.mem_cons_self).bytes
  | x :: y :: l, h => ((h x List.mem_cons_self).bytes).app (hs.app (join_bytesI hs (y :: l) fun q hq => h q (List.mem_cons_of_mem _ hq)))
theorem spec_err : ∀ (T : List (Nat × Int)) (d : List Sg) (c : Option Sg), (spec T d c).2.1 ≠ 0 → (spec T d c).2.2 = []
  | [], d, c, h => absurd rfl h
  | (p, x) :: r, d, c, h => by
    have kc : kindT x = 0 ∨ kindT x = 1 ∨ kindT x = 2 ∨ kindT x = 3 ∨ kindT x = 4 ∨ kindT x = 5 := by have := kindLt x; omega
    rw [spec_cons] at h ⊢
    rcases kc with k | k | k | k | k | k <;> rw [k] at h ⊢
    · exact absurd rfl h
    · exact spec_err _ _ _ h
    · exact spec_err _ _ _ h
    · simp only at h ⊢
      split at h
      · rename_i hb; rw [if_pos hb]
      · rename_i hb; rw [if_neg hb]; exact spec_err _ _ _ h
    · rfl
    · exact spec_err _ _ _ h

/- How texts are written, put together, cut, and counted. -/
/-! ### Join -/
theorem joinI_snoc (s x : List Int) : ∀ l : List (List Int), l ≠ [] → joinI (l ++ [x]) s = joinI l s ++ (s ++ x)
  | [], h => absurd rfl h
  | [y], _ => rfl
  | y :: z :: r, _ => by
    have ih := joinI_snoc s x (z :: r) (by simp)
    show y ++ (s ++ joinI ((z :: r) ++ [x]) s) = (y ++ (s ++ joinI (z :: r) s)) ++ (s ++ x)
    rw [ih]
    simp only [List.append_assoc]
theorem totT_take (a : List Sg) (i : Nat) : totT (a.take i) ≤ totT a := by
  have := totT_app (a.take i) (a.drop i)
  rw [List.take_append_drop] at this
  omega
theorem wrapS {i : Nat} (h : i < 9223372036854775807) : IntKind.i64.wrap ((i : Int) + 1) = ((i + 1 : Nat) : Int) := by rw [wrap64 (by omega)]; omega
/-! ### Runes -/
theorem runeG_w {n a b c d : Nat} (ha : a ≤ 255) (hb : b ≤ 255) (hc : c ≤ 255) (hd : d ≤ 255) : (runeG n a b c d).2 =
    if (194 ≤ a ∧ a ≤ 223) ∧ 1 < n ∧ 128 ≤ b ∧ b ≤ 191 then 2 else
    if ((a = 224 ∧ 160 ≤ b ∧ b ≤ 191) ∨ (225 ≤ a ∧ a ≤ 236 ∧ 128 ≤ b ∧ b ≤ 191) ∨ (a = 237 ∧ 128 ≤ b ∧ b ≤ 159) ∨ (238 ≤ a ∧ a ≤ 239 ∧ 128 ≤ b ∧ b ≤ 191)) ∧ 2 < n ∧ 128 ≤ c ∧ c ≤ 191 then 3 else
    if ((a = 240 ∧ 144 ≤ b ∧ b ≤ 191) ∨ (241 ≤ a ∧ a ≤ 243 ∧ 128 ≤ b ∧ b ≤ 191) ∨ (a = 244 ∧ 128 ≤ b ∧ b ≤ 143)) ∧ 3 < n ∧ (128 ≤ c ∧ c ≤ 191) ∧ 128 ≤ d ∧ d ≤ 191 then 4 else 1 := by
  unfold runeG
  repeat' split
  all_goals first | rfl | (exfalso; omega)
theorem runeG_ten {n a b c d : Nat} (hn : 1 ≤ n) (ha : a ≤ 255) : 1 ≤ (runeG n a b c d).2 ∧ (runeG n a b c d).2 ≤ n ∧ (runeG n a b c d).2 ≤ 4 ∧ ((runeG n a b c d).1 = 10 → a = 10 ∧ (runeG n a b c d).2 = 1) ∧ ((runeG n a b c d).1 ≠ 10 → a ≠ 10 ∧ (1 < (runeG n a b c d).2 → b ≠ 10) ∧ (2 < (runeG n a b c d).2 → c ≠ 10) ∧ (3 < (runeG n a b c d).2 → d ≠ 10)) := by
  suffices h : ∀ r, runeG n a b c d = r → (1 ≤ r.2 ∧ r.2 ≤ n ∧ r.2 ≤ 4 ∧ (r.1 = 10 → a = 10 ∧ r.2 = 1) ∧ (r.1 ≠ 10 → a ≠ 10 ∧ (1 < r.2 → b ≠ 10) ∧ (2 < r.2 → c ≠ 10) ∧ (3 < r.2 → d ≠ 10))) from h _ rfl
  intro r hr
  unfold runeG at hr
  repeat' split at hr
  all_goals (subst hr; refine ⟨?_, ?_, ?_, fun h => ⟨?_, ?_⟩, fun h => ⟨?_, fun _ => ?_, fun _ => ?_, fun _ => ?_⟩⟩ <;> simp only at * <;> omega)
theorem runeN_b {l : List Int} (hb : Bytes l) (p : Nat) : ∃ b : Nat → Nat, (∀ k, b k ≤ 255 ∧ ((b k : Nat) : Int) = l.getD (p + k) 0) ∧ runeN l p = runeG (l.length - p) (b 0) (b 1) (b 2) (b 3) :=
  ⟨fun k => (l.getD (p + k) 0).toNat, fun k => by have := hb.getD (p + k); simp only; omega, runeN_eq l p⟩
/-- The rune at a place: is it the end of a line? -/
theorem rune_lf {l : List Int} (hb : Bytes l) {p : Nat} (hp : p < l.length) : ∃ w : Nat, 1 ≤ w ∧ p + w ≤ l.length ∧ runeW l (p : Int) = ((p + w : Nat) : Int) ∧ (runeN l p).2 = w ∧
    (runeC l (p : Int) = 10 → l.getD p 0 = 10 ∧ w = 1) ∧ (runeC l (p : Int) ≠ 10 → ∀ x ∈ (l.drop p).take w, x ≠ 10) := by
  obtain ⟨b, h1, h2⟩ := runeN_b hb p
  have h3 := runeG_ten (n := l.length - p) (a := b 0) (b := b 1) (c := b 2) (d := b 3) (by omega) (h1 0).1
  rw [← h2] at h3
  obtain ⟨k1, k2, k3, k4, k5⟩ := h3
  have c0 := (h1 0).2
  rw [Nat.add_zero] at c0
  refine ⟨(runeN l p).2, k1, by omega, ?_, rfl, fun h => ?_, fun h x hx => ?_⟩
  · unfold runeW
    rw [Int.toNat_natCast]
  · unfold runeC at h
    rw [Int.toNat_natCast] at h
    have := k4 (by omega)
    exact ⟨by omega, this.2⟩
  · unfold runeC at h
    rw [Int.toNat_natCast] at h
    obtain ⟨m1, m2, m3, m4⟩ := k5 (by omega)
    obtain ⟨i, hi, e⟩ := List.mem_iff_getElem.1 hx
    rw [List.length_take, List.length_drop] at hi
    rw [List.getElem_take, List.getElem_drop] at e
    have hg : l.getD (p + i) 0 = x := by rw [List.getD_eq_getElem?_getD, List.getElem?_eq_getElem (by omega)]; exact e
    have hi4 : i = 0 ∨ i = 1 ∨ i = 2 ∨ i = 3 := by omega
    rcases hi4 with rfl | rfl | rfl | rfl
    · have := (h1 0).2; omega
    · have := (h1 1).2; have := m2 (by omega); omega
    · have := (h1 2).2; have := m3 (by omega); omega
    · have := (h1 3).2; have := m4 (by omega); omega

/-! ### Lines -/
def lns : List Int → List Int → List (List Int)
  | [], cur => if cur = [] then [] else [cur]
  | x :: l, cur => if x = 10 then cur :: lns l [] else lns l (cur ++ [x])
theorem lns_skip : ∀ (u l cur : List Int), (∀ x ∈ u, x ≠ 10) → lns (u ++ l) cur = lns l (cur ++ u)
  | [], l, cur, _ => by rw [List.append_nil]; rfl
  | x :: u, l, cur, h => by
    show (if x = 10 then cur :: lns (u ++ l) [] else lns (u ++ l) (cur ++ [x])) = _
    rw [if_neg (h x List.mem_cons_self), lns_skip u l _ fun y hy => h y (List.mem_cons_of_mem _ hy), List.append_assoc]
    rfl
theorem lns_ten (l cur : List Int) : lns (10 :: l) cur = cur :: lns l [] := by
  show (if (10 : Int) = 10 then _ else _) = _
  rw [if_pos rfl]
theorem dropC {l : List Int} {i : Nat} (h : i < l.length) : l.drop i = l.getD i 0 :: l.drop (i + 1) := by
  rw [List.drop_eq_getElem_cons h, List.getD_eq_getElem?_getD, List.getElem?_eq_getElem h]
  rfl
theorem takeS {l : List Int} {i : Nat} (h : i < l.length) : l.take (i + 1) = l.take i ++ [l.getD i 0] := by
  rw [List.take_succ_eq_append_getElem h, List.getD_eq_getElem?_getD, List.getElem?_eq_getElem h]
  rfl
theorem Bytes.take {l : List Int} (h : Bytes l) (i : Nat) : Bytes (l.take i) := fun n hn => h n (List.mem_of_mem_take hn)
theorem cutL_nat (l : List Int) (a b : Nat) : cutL l (a : Int) (b : Int) = (l.take b).drop a := by
  unfold cutL
  rw [Int.toNat_natCast, Int.toNat_natCast]
theorem signs_Lines {l : List Int} (hb : Bytes l) (hl : l.length ≤ 100000) : D_signs_Lines l = some (lns l []) := by
  unfold D_signs_Lines
  obtain ⟨r, h1, f, h2, h3, h4, h5⟩ := loop_inv (f := D_signs_Lines_L0 l) (a := (0, 0, []))
    (fun s => ∃ f p : Nat, s.1 = (f : Int) ∧ s.2.1 = (p : Int) ∧ f ≤ p ∧ p ≤ l.length ∧ s.2.2 ++ lns (l.drop p) ((l.take p).drop f) = lns l [] ∧ s.2.2.length ≤ p) (fun s => l.length - s.2.1.toNat)
    (fun r => ∃ f : Nat, r.1 = (f : Int) ∧ f ≤ l.length ∧ r.2.2 ++ lns [] (l.drop f) = lns l [] ∧ r.2.2.length ≤ l.length)
    ⟨0, 0, rfl, rfl, Nat.le_refl _, Nat.zero_le _, rfl, Nat.le_refl _⟩ (by simp; omega) (fun s ⟨f, p, e1, e2, hf, hp, hs, ho⟩ => by
      obtain ⟨s1, s2, out⟩ := s
      simp only at e1 e2 hs ho
      subst e1
      subst e2
      unfold D_signs_Lines_L0
      simp only
      have hgd : ∀ {β : Type} (x : Option β), gd (decide ((0 : Int) ≤ (p : Int)) && Nat.ble 1 1) x = x := fun x => by
        rw [decide_eq_true (by omega)]; rfl
      rw [hgd]
      by_cases hlt : p < l.length
      · left
        rw [decide_eq_true (show (p : Int) < ((l.length : Nat) : Int) by omega), cond_true]
        obtain ⟨w, w1, w2, w3, _, w4, w5⟩ := rune_lf hb hlt
        rw [w3]
        by_cases h10 : runeC l (p : Int) = 10
        · obtain ⟨g1, rfl⟩ := w4 h10
          rw [decide_eq_true h10, cond_true, cutG_in (by omega), gd_true, gd_fits (by omega) (by omega), wrapS (by omega), cutL_nat]
          rw [dropC hlt, g1, lns_ten] at hs
          refine ⟨_, rfl, ⟨p + 1, p + 1, rfl, rfl, Nat.le_refl _, hlt, ?_, by simp; omega⟩, by simp; omega⟩
          simp only
          rw [List.append_assoc, show List.drop (p + 1) (List.take (p + 1) l) = [] from List.drop_eq_nil_of_le (by rw [List.length_take]; omega), List.drop_take]
          rw [List.drop_take] at hs
          exact hs
        · rw [decide_eq_false h10, cond_false]
          refine ⟨_, rfl, ⟨f, p + w, rfl, rfl, by omega, w2, ?_, by simp only; omega⟩, by simp; omega⟩
          simp only
          rw [← hs]
          have := lns_skip ((l.drop p).take w) (l.drop (p + w)) ((l.take p).drop f) (w5 h10)
          have e : l.drop p = (l.drop p).take w ++ l.drop (p + w) := by
            rw [← List.drop_drop, List.take_append_drop]
          rw [← e] at this
          rw [this]
          congr 2
          have e2 : l.take (p + w) = l.take p ++ (l.drop p).take w := List.take_add
          rw [e2, List.drop_append_of_le_length (by rw [List.length_take]; omega)]
      · right
        have : p = l.length := by omega
        subst this
        rw [decide_eq_false (show ¬((l.length : Nat) : Int) < ((l.length : Nat) : Int) by omega), cond_false]
        rw [List.drop_length, List.take_length] at hs
        exact ⟨_, rfl, f, rfl, hf, hs, ho⟩)
  rw [h1]
  obtain ⟨r1, r2, r3⟩ := r
  simp only at h2 h4 h5
  subst h2
  simp only [Option.bind_some]
  rw [← h4]
  by_cases h0 : f < l.length
  · rw [decide_eq_true (show (f : Int) < ((l.length : Nat) : Int) by omega), cond_true, cutG_in (by omega), gd_true, gd_fits (by omega) (by omega), cutL_nat, List.take_length]
    have : l.drop f ≠ [] := fun e => by
      have := congrArg List.length e
      rw [List.length_drop] at this
      simp at this
      omega
    simp [lns, this]
  · rw [decide_eq_false (show ¬(f : Int) < ((l.length : Nat) : Int) by omega), cond_false]
    have : l.drop f = [] := List.drop_eq_nil_of_le (by omega)
    simp [lns, this]

theorem big3 : ∃ m, BIG = m + 3 := ⟨BIG - 3, by unfold BIG; omega⟩
theorem dec_iff {p q : Prop} [Decidable p] [Decidable q] (h : p ↔ q) : decide p = decide q := by
  by_cases hp : p
  · rw [decide_eq_true hp, decide_eq_true (h.1 hp)]
  · rw [decide_eq_false hp, decide_eq_false (fun hq => hp (h.2 hq))]
theorem cSF (a b : Bool) : (cond a (some b) (some false)) = some (a && b) := by cases a <;> rfl
theorem cTS (a b : Bool) : (cond a (some true) (some b)) = some (a || b) := by cases a <;> rfl
theorem c41 (a b : Bool) : cond a (cond b (some (4 : Int)) (some 1)) (some 1) = cond (a && b) (some 4) (some 1) := by cases a <;> rfl
theorem c44 (a b : Bool) : cond a (some (4 : Int)) (cond b (some 4) (some 1)) = cond (a || b) (some 4) (some 1) := by cases a <;> rfl
theorem size_fin {A B C : Bool} {p q r : Prop} [Decidable p] [Decidable q] [Decidable r] (hA : A = true ↔ p) (hB : ¬p → (B = true ↔ q)) (hC : ¬p → ¬q → (C = true ↔ r)) :
    cond A (some (2 : Int)) (cond B (some 3) (cond C (some 4) (some 1))) = some (((if p then 2 else if q then 3 else if r then 4 else 1 : Nat)) : Int) := by
  by_cases hp : p
  · rw [hA.2 hp, if_pos hp]; rfl
  · rw [show A = false from Bool.eq_false_iff.2 (fun h => hp (hA.1 h)), if_neg hp, cond_false]
    by_cases hq : q
    · rw [(hB hp).2 hq, if_pos hq]; rfl
    · rw [show B = false from Bool.eq_false_iff.2 (fun h => hq ((hB hp).1 h)), if_neg hq, cond_false]
      by_cases hr : r
      · rw [(hC hp hq).2 hr, if_pos hr]; rfl
      · rw [show C = false from Bool.eq_false_iff.2 (fun h => hr ((hC hp hq).1 h)), if_neg hr]; rfl
/- SignsTexts' plain law. -/
theorem lns_len : ∀ (l cur : List Int), (lns l cur).length ≤ l.length + 1
  | [], cur => by unfold lns; split <;> simp
  | x :: r, cur => by
    by_cases h : x = 10
    · subst h
      rw [lns_ten]
      have := lns_len r []
      simp
      omega
    · have := lns_skip [x] r cur (by simpa using h)
      rw [show x :: r = [x] ++ r from rfl, this]
      have := lns_len r (cur ++ [x])
      simp
      omega
theorem totT_all : ∀ (a : List Sg), (∀ x ∈ a, x.2.2.1.length ≤ 100) → totT a ≤ 100 * a.length
  | [], _ => by simp [totT]
  | x :: r, h => by
    have h1 := h x (by simp)
    have h2 := totT_all r fun y hy => h y (by simp [hy])
    have := totT_app [x] r
    rw [totT_one] at this
    show totT ([x] ++ r) ≤ 100 * (r.length + 1)
    omega

/- Lines of programs: their shapes, their operations. -/
def isR (x : Sg) : Prop := x.1 = 1 ∧ x.2.2.1 = [114]
instance (x : Sg) : Decidable (isR x) := by unfold isR; infer_instance
def symI (x : Sg) : Int := if x.1 = 2 then 110 else if x.1 = 1 then 119 else x.2.2.1.headD 0
def shapeI : List Sg → List Int
  | [] => []
  | [x] => [symI x]
  | x :: y :: t => if isR x ∧ y.1 = 2 then 114 :: shapeI t else symI x :: shapeI (y :: t)
def numsI (l : List Sg) : List Int := (l.filter fun x => decide (x.1 = 2)).map (·.2.2.2)
theorem shapeI_two (x y : Sg) (t : List Sg) : shapeI (x :: y :: t) = if isR x ∧ y.1 = 2 then 114 :: shapeI t else symI x :: shapeI (y :: t) := by
  rw [shapeI]
theorem runes_mk {c : Int} (h : Mk c) : runesI [c] = [c] := by
  unfold Mk at h
  rcases h with h | h | h | h | h | h <;> subst h <;> rfl
theorem mk_text {x : Sg} (h : SOk x) (h1 : x.1 ≠ 1) (h2 : x.1 ≠ 2) : ∃ c, x.2.2.1 = [c] ∧ Mk c ∧ x.1 = 3 := by
  rcases h with h | h | ⟨h3, ⟨c, h4, h5⟩, _⟩
  · exact (h1 h.1).elim
  · exact (h2 h.1).elim
  · exact ⟨c, h4, h5, h3⟩
theorem symI_mk {x : Sg} {c : Int} (h : x.1 = 3) (hc : x.2.2.1 = [c]) : symI x = c := by
  unfold symI
  rw [if_neg (by omega), if_neg (by omega), hc]
  rfl
/-- One sign's part of the shape. -/
theorem shape_step {l : List Sg} (hl : l.length ≤ 100000) (hg : ∀ x ∈ l, SOk x) {i : Nat} (hi : i < l.length) {s : List Int} (hs : s.length ≤ i) :
    ∃ (j : Nat) (c : Int), i < j ∧ j ≤ l.length ∧ D_listing_shape_L0 l ((i : Int), s) = some (.inl ((j : Int), s ++ [c])) ∧ shapeI (l.drop i) = c :: shapeI (l.drop j) := by
  have hd : l.drop i = l[i] :: l.drop (i + 1) := List.drop_eq_getElem_cons hi
  have hx := hg _ (List.getElem_mem hi)
  have w1 : IntKind.i64.wrap ((i : Int) + 1) = ((i + 1 : Nat) : Int) := wrapS (by omega)
  have f1 : ∀ {β : Type} (z : Option β), gd (fits (s.length + 1) 4) z = z := fun z => gd_fits (by omega) (by omega)
  unfold D_listing_shape_L0
  simp only
  rw [decide_eq_true (show (i : Int) < ((l.length : Nat) : Int) by omega), cond_true, rd_get hi]
  simp only [Option.bind_some]
  rw [w1]
  -- what comes behind
  have sym1 : (¬(isR l[i] ∧ ∃ h : i + 1 < l.length, l[i + 1].1 = 2)) → shapeI (l.drop i) = symI l[i] :: shapeI (l.drop (i + 1)) := by
    intro hn
    rw [hd]
    by_cases h : i + 1 < l.length
    · rw [List.drop_eq_getElem_cons h, shapeI_two, if_neg (fun e => hn ⟨e.1, h, e.2⟩)]
    · rw [List.drop_eq_nil_of_le (by omega)]
      rfl
  by_cases h1 : l[i].1 = 1
  · rw [decide_eq_true h1, cond_true]
    have d2 : decide (l[i].1 = 2) = false := decide_eq_false (by omega)
    have sy : symI l[i] = 119 := by unfold symI; rw [if_neg (by omega), if_pos h1]
    by_cases h2 : l[i].2.2.1 = [114]
    · rw [decide_eq_true h2, cond_true]
      by_cases h3 : i + 1 < l.length
      · rw [decide_eq_true (show ((i + 1 : Nat) : Int) < ((l.length : Nat) : Int) by omega), cond_true, rd_get h3]
        simp only [Option.bind_some, caseS_l]
        by_cases h4 : l[i + 1].1 = 2
        · rw [decide_eq_true h4, cond_true, f1, wrapS (by omega)]
          refine ⟨i + 2, 114, by omega, by omega, rfl, ?_⟩
          rw [hd, List.drop_eq_getElem_cons h3, shapeI_two, if_pos ⟨⟨h1, h2⟩, h4⟩]
        · rw [decide_eq_false h4, cond_false, d2, cond_false, cond_true, f1]
          refine ⟨i + 1, 119, by omega, by omega, rfl, ?_⟩
          rw [sym1 (fun e => h4 e.2.2), sy]
      · rw [decide_eq_false (show ¬((i + 1 : Nat) : Int) < ((l.length : Nat) : Int) by omega), cond_false]
        simp only [Option.bind_some, caseS_l, caseS_r, cond_false, d2]
        rw [cond_true, f1]
        refine ⟨i + 1, 119, by omega, by omega, rfl, ?_⟩
        rw [sym1 (fun e => h3 e.2.1), sy]
    · rw [decide_eq_false h2, cond_false]
      simp only [Option.bind_some, caseS_l, caseS_r, cond_false, d2]
      rw [cond_true, f1]
      refine ⟨i + 1, 119, by omega, by omega, rfl, ?_⟩
      rw [sym1 (fun e => h2 e.1.2), sy]
  · rw [decide_eq_false h1, cond_false]
    simp only [Option.bind_some, caseS_r, cond_false]
    by_cases h2 : l[i].1 = 2
    · rw [decide_eq_true h2, cond_true, f1]
      refine ⟨i + 1, 110, by omega, by omega, rfl, ?_⟩
      rw [sym1 (fun e => h1 e.1.1)]
      unfold symI
      rw [if_pos h2]
    · obtain ⟨c, hc, hm, h3⟩ := mk_text hx h1 h2
      rw [decide_eq_false h2, cond_false, hc, runes_mk hm]
      refine ⟨i + 1, c, by omega, by omega, ?_, ?_⟩
      · show gd true (gd (fits (s.length + 1) 4) _) = _
        rw [f1]
        rfl
      · rw [sym1 (fun e => h1 e.1.1), symI_mk h3 hc]
theorem symI_asc {x : Sg} (h : SOk x) : 0 ≤ symI x ∧ symI x < 128 := by
  unfold symI
  by_cases h2 : x.1 = 2
  · rw [if_pos h2]; omega
  · rw [if_neg h2]
    by_cases h1 : x.1 = 1
    · rw [if_pos h1]; omega
    · rw [if_neg h1]
      obtain ⟨c, hc, hm, _⟩ := mk_text h h1 h2
      rw [hc]
      unfold Mk at hm
      show 0 ≤ c ∧ c < 128
      omega
theorem shape_asc : ∀ (n : Nat) (l : List Sg), l.length ≤ n → (∀ x ∈ l, SOk x) → ∀ c ∈ shapeI l, 0 ≤ c ∧ c < 128
  | _, [], _, _, c, hc => by cases hc
  | _, [x], _, h, c, hc => by
    have hc : c ∈ [symI x] := hc
    rw [List.mem_singleton] at hc
    subst hc
    exact symI_asc (h x (by simp))
  | 0, _ :: _ :: _, hl, _, _, _ => by simp at hl
  | n + 1, x :: y :: t, hl, h, c, hc => by
    rw [shapeI_two] at hc
    simp only [List.length_cons] at hl
    split at hc
    · rcases List.mem_cons.1 hc with rfl | hc
      · omega
      · exact shape_asc n t (by omega) (fun z hz => h z (by simp [hz])) c hc
    · rcases List.mem_cons.1 hc with rfl | hc
      · exact symI_asc (h x (by simp))
      · exact shape_asc n (y :: t) (by simp; omega) (fun z hz => h z (List.mem_cons_of_mem _ hz)) c hc
theorem flat_asc : ∀ l : List Int, (∀ c ∈ l, 0 ≤ c ∧ c < 128) → l.flatMap utf8I = l
  | [], _ => rfl
  | c :: l, h => by
    rw [List.flatMap_cons, utf8_small (h c (by simp)), flat_asc l fun x hx => h x (by simp [hx])]
    rfl
theorem shape_D {l : List Sg} (hl : l.length ≤ 100000) (hg : ∀ x ∈ l, SOk x) : D_listing_shape l = some (shapeI l) := by
  unfold D_listing_shape
  obtain ⟨r, h1, h2⟩ := loop_inv (f := D_listing_shape_L0 l) (a := (0, [])) (fun s => ∃ i : Nat, s.1 = (i : Int) ∧ i ≤ l.length ∧ s.2.length ≤ i ∧ s.2 ++ shapeI (l.drop i) = shapeI l) (fun s => l.length - s.1.toNat)
    (fun r => r = shapeI l) ⟨0, rfl, Nat.zero_le _, Nat.le_refl _, rfl⟩ (by simp; omega) (fun s ⟨i, e, hi, hs, he⟩ => by
      obtain ⟨s1, s2⟩ := s
      simp only at e hs he
      subst e
      by_cases hlt : i < l.length
      · obtain ⟨j, c, k1, k2, k3, k4⟩ := shape_step hl hg hlt hs
        left
        refine ⟨_, k3, ⟨j, rfl, k2, by simp; omega, ?_⟩, by simp; omega⟩
        rw [k4] at he
        rw [← he, List.append_assoc]
        rfl
      · right
        have : i = l.length := by omega
        subst this
        unfold D_listing_shape_L0
        simp only
        rw [decide_eq_false (show ¬((l.length : Nat) : Int) < ((l.length : Nat) : Int) by omega), cond_false]
        rw [List.drop_length] at he
        exact ⟨_, rfl, by rw [← he]; simp [shapeI]⟩)
  rw [h1, h2]
  simp only [Option.bind_some]
  rw [flat_asc _ (shape_asc _ l (Nat.le_refl _) hg)]

/- Lines of programs: the operation of a line, by its shape. -/
theorem numsI_app (a b : List Sg) : numsI (a ++ b) = numsI a ++ numsI b := by unfold numsI; rw [List.filter_append, List.map_append]
theorem numbers_D {l : List Sg} (hl : l.length ≤ 100000) : D_listing_numbers l = some (numsI l) := by
  unfold D_listing_numbers
  have h := loop_nat (f := D_listing_numbers_L0 l) (n := l.length) (fun i => numsI (l.take i)) (c := numsI l) (by omega) (fun i hi => by
    unfold D_listing_numbers_L0
    have e : numsI (l.take (i + 1)) = numsI (l.take i) ++ numsI [l[i]] := by rw [List.take_succ_eq_append_getElem hi, numsI_app]
    have hlen : (numsI (l.take i)).length ≤ i := by
      unfold numsI
      rw [List.length_map]
      refine Nat.le_trans (List.length_filter_le _ _) ?_
      rw [List.length_take]
      omega
    simp only
    rw [decide_eq_true (show (i : Int) < ((l.length : Nat) : Int) by omega), cond_true, rd_get hi, e]
    simp only [Option.bind_some]
    by_cases h2 : l[i].1 = 2
    · rw [decide_eq_true h2, cond_true, gd_fits (by omega) (by omega), wrapS (by omega)]
      have : numsI [l[i]] = [l[i].2.2.2] := by unfold numsI; simp [h2]
      rw [this]
    · rw [decide_eq_false h2, cond_false, wrapS (by omega)]
      have : numsI [l[i]] = [] := by unfold numsI; simp [h2]
      rw [this, List.append_nil]) (by
    unfold D_listing_numbers_L0
    simp only
    rw [decide_eq_false (show ¬((l.length : Nat) : Int) < ((l.length : Nat) : Int) by omega), cond_false, List.take_length])
  rw [show loopN (D_listing_numbers_L0 l) BIG (0, []) = _ from h]
  rfl
def smallB (l : List Int) : Bool := l.all fun n => decide (n ≤ 2147483647)
theorem small_D {l : List Int} (hl : l.length ≤ 100000) : D_listing_small l = some (smallB l) := by
  unfold D_listing_small
  obtain ⟨r, h1, h2⟩ := loop_inv (f := D_listing_small_L0 l) (a := 0) (fun p => ∃ i : Nat, p = (i : Int) ∧ i ≤ l.length ∧ smallB (l.take i) = true) (fun p => l.length - p.toNat)
    (fun r => (r = .inl false ∧ smallB l = false) ∨ (r = .inr () ∧ smallB l = true)) ⟨0, rfl, Nat.zero_le _, rfl⟩ (by simp; omega) (fun p ⟨i, e, hi, he⟩ => by
      subst e
      unfold D_listing_small_L0
      by_cases hlt : i < l.length
      · rw [decide_eq_true (show (i : Int) < ((l.length : Nat) : Int) by omega), cond_true, rd_get hlt]
        simp only [Option.bind_some]
        by_cases hn : 2147483647 < l[i]
        · rw [decide_eq_true hn, cond_true]
          refine .inr ⟨_, rfl, .inl ⟨rfl, ?_⟩⟩
          rw [Bool.eq_false_iff]
          intro h
          have := List.all_eq_true.1 h _ (List.getElem_mem hlt)
          simp only [decide_eq_true_eq] at this
          omega
        · rw [decide_eq_false hn, cond_false, wrapS (by omega)]
          refine .inl ⟨_, rfl, ⟨i + 1, rfl, hlt, ?_⟩, by simp; omega⟩
          unfold smallB at he ⊢
          rw [List.take_succ_eq_append_getElem hlt, List.all_append, he]
          simp only [List.all_cons, List.all_nil, Bool.and_true, Bool.true_and, decide_eq_true_eq]
          omega
      · have : i = l.length := by omega
        subst this
        rw [decide_eq_false (show ¬((l.length : Nat) : Int) < ((l.length : Nat) : Int) by omega), cond_false]
        rw [List.take_length] at he
        exact .inr ⟨_, rfl, .inr ⟨rfl, he⟩⟩)
  rcases h2 with ⟨rfl, h⟩ | ⟨rfl, h⟩
  · rw [h1, h]; rfl
  · rw [h1, h]; rfl
/-! ### What a line says -/
def isM (x : Sg) (c : Int) : Prop := x.1 = 3 ∧ x.2.2.1 = [c]
instance (x : Sg) (c : Int) : Decidable (isM x c) := by unfold isM; infer_instance
def err6 (e : Int) : Int × Int × Int × Int × Int × Int := (0, 0, 0, 0, 0, e)
def kindM (x : Sg) : Int := if x.2.2.1 = [42] then 3 else if x.2.2.1 = [45] then 2 else 1
def headR (a b c : Sg) : Prop := isR a ∧ b.1 = 2 ∧ isM c 61
instance (a b c : Sg) : Decidable (headR a b c) := by unfold headR; infer_instance
def readI : List Sg → Int × Int × Int × Int × Int × Int
  | [a] => if isM a 125 then err6 0 else err6 3
  | [a, b, c] => if (a.1 = 1 ∧ a.2.2.1 = [114, 101, 112, 101, 97, 116]) ∧ b.1 = 2 ∧ isM c 123 then (7, 0, 0, 0, b.2.2.2, 0) else err6 3
  | [a, b, c, d] => if headR a b c ∧ d.1 = 2 then (if b.2.2.2 ≤ 2147483647 then (5, b.2.2.2, 0, 0, d.2.2.2, 0) else err6 7) else err6 3
  | [a, b, c, d, e] => if headR a b c ∧ isR d ∧ e.1 = 2 then (if b.2.2.2 ≤ 2147483647 ∧ e.2.2.2 ≤ 2147483647 then (6, b.2.2.2, e.2.2.2, 0, 0, 0) else err6 7) else err6 3
  | [a, b, c, d, e, f] => if headR a b c ∧ isM d 45 ∧ isR e ∧ f.1 = 2 then (if b.2.2.2 ≤ 2147483647 ∧ f.2.2.2 ≤ 2147483647 then (4, b.2.2.2, f.2.2.2, 0, 0, 0) else err6 7) else err6 3
  | [a, b, c, d, e, f, g, h] => if headR a b c ∧ (isR d ∧ e.1 = 2) ∧ (isM f 43 ∨ isM f 45 ∨ isM f 42) ∧ isR g ∧ h.1 = 2 then
      (if b.2.2.2 ≤ 2147483647 ∧ e.2.2.2 ≤ 2147483647 ∧ h.2.2.2 ≤ 2147483647 then (kindM f, b.2.2.2, e.2.2.2, h.2.2.2, 0, 0) else err6 7) else err6 3
  | _ => err6 3
theorem shape_inv {l : List Sg} {c : Int} {s : List Int} (hg : ∀ x ∈ l, SOk x) (h : shapeI l = c :: s) :
    (c = 114 ∧ ∃ x y t, l = x :: y :: t ∧ isR x ∧ y.1 = 2 ∧ shapeI t = s) ∨ (c ≠ 114 ∧ ∃ x t, l = x :: t ∧ symI x = c ∧ shapeI t = s) := by
  have hs : ∀ x, SOk x → symI x ≠ 114 := fun x hx => by
    unfold symI
    by_cases h2 : x.1 = 2
    · rw [if_pos h2]; omega
    · rw [if_neg h2]
      by_cases h1 : x.1 = 1
      · rw [if_pos h1]; omega
      · rw [if_neg h1]
        obtain ⟨k, hk, hm, _⟩ := mk_text hx h1 h2
        rw [hk]
        unfold Mk at hm
        show k ≠ 114
        omega
  match l, hg, h with
  | [x], hg, h =>
    have h : [symI x] = c :: s := h
    injection h with h1 h2
    subst h1
    exact .inr ⟨hs x (hg x (by simp)), x, [], rfl, rfl, h2⟩
  | x :: y :: t, hg, h =>
    rw [shapeI_two] at h
    split at h
    · rename_i hr
      injection h with h1 h2
      exact .inl ⟨h1.symm, x, y, t, rfl, hr.1, hr.2, h2⟩
    · injection h with h1 h2
      subst h1
      exact .inr ⟨hs x (hg x (by simp)), x, y :: t, rfl, rfl, h2⟩
theorem shape_nil {l : List Sg} (h : shapeI l = []) : l = [] := by
  match l, h with
  | [], _ => rfl
  | [x], h => cases h
  | x :: y :: t, h => rw [shapeI_two] at h; split at h <;> cases h
theorem sym_num {x : Sg} (hx : SOk x) (h : symI x = 110) : x.1 = 2 := by
  unfold symI at h
  by_cases h2 : x.1 = 2
  · exact h2
  · rw [if_neg h2] at h
    by_cases h1 : x.1 = 1
    · rw [if_pos h1] at h; omega
    · rw [if_neg h1] at h
      obtain ⟨k, hk, hm, _⟩ := mk_text hx h1 h2
      rw [hk] at h
      unfold Mk at hm
      have h : k = 110 := h
      omega
theorem sym_name {x : Sg} (hx : SOk x) (h : symI x = 119) : x.1 = 1 := by
  unfold symI at h
  by_cases h2 : x.1 = 2
  · rw [if_pos h2] at h; omega
  · rw [if_neg h2] at h
    by_cases h1 : x.1 = 1
    · exact h1
    · rw [if_neg h1] at h
      obtain ⟨k, hk, hm, _⟩ := mk_text hx h1 h2
      rw [hk] at h
      unfold Mk at hm
      have h : k = 119 := h
      omega
theorem sym_mark {x : Sg} {c : Int} (hx : SOk x) (hc : c ≠ 110 ∧ c ≠ 119) (h : symI x = c) : isM x c := by
  unfold symI at h
  by_cases h2 : x.1 = 2
  · rw [if_pos h2] at h; omega
  · rw [if_neg h2] at h
    by_cases h1 : x.1 = 1
    · rw [if_pos h1] at h; omega
    · rw [if_neg h1] at h
      obtain ⟨k, hk, hm, h3⟩ := mk_text hx h1 h2
      rw [hk] at h
      have h : k = c := h
      exact ⟨h3, by rw [hk, h]⟩
theorem mark_sym {x : Sg} {c : Int} (h : isM x c) : symI x = c := symI_mk h.1 h.2
theorem shape_reg {x y : Sg} {t : List Sg} (h : isR x) (hy : y.1 = 2) : shapeI (x :: y :: t) = 114 :: shapeI t := by rw [shapeI_two, if_pos ⟨h, hy⟩]
theorem shape_mark {x : Sg} {c : Int} (h : isM x c) : ∀ t, shapeI (x :: t) = c :: shapeI t
  | [] => by show [symI x] = _; rw [mark_sym h]; rfl
  | y :: t => by rw [shapeI_two, if_neg (fun e => by have := e.1.1; have := h.1; omega), mark_sym h]
theorem shape_num {x : Sg} (h : x.1 = 2) : ∀ t, shapeI (x :: t) = 110 :: shapeI t
  | [] => by show [symI x] = _; unfold symI; rw [if_pos h]; rfl
  | y :: t => by rw [shapeI_two, if_neg (fun e => by have := e.1.1; omega)]; unfold symI; rw [if_pos h]
theorem shape_word {x : Sg} (h : x.1 = 1) (hr : x.2.2.1 ≠ [114]) : ∀ t, shapeI (x :: t) = 119 :: shapeI t
  | [] => by show [symI x] = _; unfold symI; rw [if_neg (by omega), if_pos h]; rfl
  | y :: t => by rw [shapeI_two, if_neg (fun e => hr e.1.2)]; unfold symI; rw [if_neg (by omega), if_pos h]
theorem numsI_cons (x : Sg) (t : List Sg) : numsI (x :: t) = if x.1 = 2 then x.2.2.2 :: numsI t else numsI t := by
  unfold numsI
  by_cases h : x.1 = 2
  · rw [if_pos h, List.filter_cons_of_pos (by simpa using h), List.map_cons]
  · rw [if_neg h, List.filter_cons_of_neg (by simpa using h)]
theorem nums_y {x : Sg} (h : x.1 = 2) (t : List Sg) : numsI (x :: t) = x.2.2.2 :: numsI t := by rw [numsI_cons, if_pos h]
theorem nums_r {x : Sg} (h : isR x) (t : List Sg) : numsI (x :: t) = numsI t := by rw [numsI_cons, if_neg (by have := h.1; omega)]
theorem nums_m {x : Sg} {c : Int} (h : isM x c) (t : List Sg) : numsI (x :: t) = numsI t := by rw [numsI_cons, if_neg (by have := h.1; omega)]
theorem nums_w {x : Sg} (h : x.1 = 1) (t : List Sg) : numsI (x :: t) = numsI t := by rw [numsI_cons, if_neg (by omega)]
theorem sok_n {x : Sg} (hx : SOk x) : 0 ≤ x.2.2.2 ∧ x.2.2.2 ≤ 18446744073709551615 := by unfold SOk at hx; omega
theorem wrapN {n : Int} (h : 0 ≤ n) (h2 : n ≤ 2147483647) : IntKind.i64.wrap n = n := wrap64 (by omega)

/- Lines of programs: the program's way. -/
theorem cut_front (n : Nat) (l : List Int) : List.take n (List.drop 0 l) = l.take n := by rw [List.drop_zero]
theorem inv_r {l : List Sg} {s : List Int} (hg : ∀ x ∈ l, SOk x) (h : shapeI l = 114 :: s) : ∃ x y t, l = x :: y :: t ∧ isR x ∧ y.1 = 2 ∧ shapeI t = s := by
  rcases shape_inv hg h with ⟨_, h⟩ | ⟨h1, _⟩
  · exact h
  · exact (h1 rfl).elim
theorem inv_o {l : List Sg} {c : Int} {s : List Int} (hg : ∀ x ∈ l, SOk x) (hc : c ≠ 114) (h : shapeI l = c :: s) : ∃ x t, l = x :: t ∧ symI x = c ∧ shapeI t = s := by
  rcases shape_inv hg h with ⟨h1, _⟩ | ⟨_, h⟩
  · exact (hc h1).elim
  · exact h
/-- Three registers. -/
theorem inv3 {l : List Sg} {o : Int} (hg : ∀ x ∈ l, SOk x) (ho : o ≠ 110 ∧ o ≠ 119 ∧ o ≠ 114) (h : shapeI l = [114, 61, 114, o, 114]) :
    ∃ a b c d e f g k, l = [a, b, c, d, e, f, g, k] ∧ headR a b c ∧ (isR d ∧ e.1 = 2) ∧ isM f o ∧ isR g ∧ k.1 = 2 := by
  obtain ⟨a, b, t, rfl, h1, h2, h3⟩ := inv_r hg h
  obtain ⟨c, t, rfl, h5, h6⟩ := inv_o (fun x hx => hg x (by simp [hx])) (by omega) h3
  obtain ⟨d, e, t, rfl, h7, h8, h9⟩ := inv_r (fun x hx => hg x (by simp [hx])) h6
  obtain ⟨f, t, rfl, h11, h12⟩ := inv_o (fun x hx => hg x (by simp [hx])) (by omega) h9
  obtain ⟨g, k, t, rfl, h13, h14, h15⟩ := inv_r (fun x hx => hg x (by simp [hx])) h12
  obtain rfl := shape_nil h15
  exact ⟨a, b, c, d, e, f, g, k, rfl, ⟨h1, h2, sym_mark (hg c (by simp)) (by omega) h5⟩, ⟨h7, h8⟩, sym_mark (hg f (by simp)) ⟨ho.1, ho.2.1⟩ h11, h13, h14⟩
theorem inv_neg {l : List Sg} (hg : ∀ x ∈ l, SOk x) (h : shapeI l = [114, 61, 45, 114]) :
    ∃ a b c d e f, l = [a, b, c, d, e, f] ∧ headR a b c ∧ isM d 45 ∧ isR e ∧ f.1 = 2 := by
  obtain ⟨a, b, t, rfl, h1, h2, h3⟩ := inv_r hg h
  obtain ⟨c, t, rfl, h5, h6⟩ := inv_o (fun x hx => hg x (by simp [hx])) (by omega) h3
  obtain ⟨d, t, rfl, h8, h9⟩ := inv_o (fun x hx => hg x (by simp [hx])) (by omega) h6
  obtain ⟨e, f, t, rfl, h10, h11, h12⟩ := inv_r (fun x hx => hg x (by simp [hx])) h9
  obtain rfl := shape_nil h12
  exact ⟨a, b, c, d, e, f, rfl, ⟨h1, h2, sym_mark (hg c (by simp)) (by omega) h5⟩, sym_mark (hg d (by simp)) (by omega) h8, h10, h11⟩
theorem inv_copy {l : List Sg} (hg : ∀ x ∈ l, SOk x) (h : shapeI l = [114, 61, 114]) : ∃ a b c d e, l = [a, b, c, d, e] ∧ headR a b c ∧ isR d ∧ e.1 = 2 := by
  obtain ⟨a, b, t, rfl, h1, h2, h3⟩ := inv_r hg h
  obtain ⟨c, t, rfl, h5, h6⟩ := inv_o (fun x hx => hg x (by simp [hx])) (by omega) h3
  obtain ⟨d, e, t, rfl, h7, h8, h9⟩ := inv_r (fun x hx => hg x (by simp [hx])) h6
  obtain rfl := shape_nil h9
  exact ⟨a, b, c, d, e, rfl, ⟨h1, h2, sym_mark (hg c (by simp)) (by omega) h5⟩, h7, h8⟩
theorem inv_const {l : List Sg} (hg : ∀ x ∈ l, SOk x) (h : shapeI l = [114, 61, 110]) : ∃ a b c d, l = [a, b, c, d] ∧ headR a b c ∧ d.1 = 2 := by
  obtain ⟨a, b, t, rfl, h1, h2, h3⟩ := inv_r hg h
  obtain ⟨c, t, rfl, h5, h6⟩ := inv_o (fun x hx => hg x (by simp [hx])) (by omega) h3
  obtain ⟨d, t, rfl, h8, h9⟩ := inv_o (fun x hx => hg x (by simp [hx])) (by omega) h6
  obtain rfl := shape_nil h9
  exact ⟨a, b, c, d, rfl, ⟨h1, h2, sym_mark (hg c (by simp)) (by omega) h5⟩, sym_num (hg d (by simp)) h8⟩
theorem inv_rep {l : List Sg} (hg : ∀ x ∈ l, SOk x) (h : shapeI l = [119, 110, 123]) : ∃ a b c, l = [a, b, c] ∧ a.1 = 1 ∧ b.1 = 2 ∧ isM c 123 := by
  obtain ⟨a, t, rfl, h2, h3⟩ := inv_o hg (by omega) h
  obtain ⟨b, t, rfl, h5, h6⟩ := inv_o (fun x hx => hg x (by simp [hx])) (by omega) h3
  obtain ⟨c, t, rfl, h8, h9⟩ := inv_o (fun x hx => hg x (by simp [hx])) (by omega) h6
  obtain rfl := shape_nil h9
  exact ⟨a, b, c, rfl, sym_name (hg a (by simp)) h2, sym_num (hg b (by simp)) h5, sym_mark (hg c (by simp)) (by omega) h8⟩
theorem inv_end {l : List Sg} (hg : ∀ x ∈ l, SOk x) (h : shapeI l = [125]) : ∃ a, l = [a] ∧ isM a 125 := by
  obtain ⟨a, t, rfl, h2, h3⟩ := inv_o hg (by omega) h
  obtain rfl := shape_nil h3
  exact ⟨a, rfl, sym_mark (hg a (by simp)) (by omega) h2⟩
theorem neD {a b : List Int} (h : b = a) : decide (a ≠ b) = false := decide_eq_false (fun e => e h.symm)
theorem neT {a b : List Int} (h : ¬b = a) : decide (a ≠ b) = true := decide_eq_true (fun e => h e.symm)
theorem three_go {n : List Int} {k x y z : Int} (h : n = [x, y, z]) (hx : 0 ≤ x) (hy : 0 ≤ y) (hz : 0 ≤ z) : gd (cutG 0 3 (List.length n)) ((D_listing_small (List.take 3 (List.drop 0 n))).bind fun r => cond (!r) (some (0, 0, 0, 0, 0, 7)) ((D_listing_three_1 n k).bind fun r => some (r.1, r.2.1, r.2.2.1, r.2.2.2, 0, 0))) =
    some (if x ≤ 2147483647 ∧ y ≤ 2147483647 ∧ z ≤ 2147483647 then (k, x, y, z, 0, 0) else err6 7) := by
  subst h
  rw [cut_front, show cutG 0 3 (List.length [x, y, z]) = true from rfl, gd_true, show List.take 3 [x, y, z] = [x, y, z] from rfl, small_D (by simp)]
  simp only [Option.bind_some]
  by_cases h : x ≤ 2147483647 ∧ y ≤ 2147483647 ∧ z ≤ 2147483647
  · have hs : smallB [x, y, z] = true := by unfold smallB; simp; omega
    rw [hs, if_pos h]
    unfold D_listing_three_1
    rw [show rd [x, y, z] 0 = some x from rfl, show rd [x, y, z] 1 = some y from rfl, show rd [x, y, z] 2 = some z from rfl]
    simp only [Option.bind_some, Bool.not_true, cond_false]
    rw [wrapN hx h.1, wrapN hy h.2.1, wrapN hz h.2.2]
  · have hs : smallB [x, y, z] = false := by unfold smallB; rw [Bool.eq_false_iff]; simp; omega
    rw [hs, if_neg h]
    rfl
theorem two_go {n : List Int} {k x y : Int} (h : n = [x, y]) (hx : 0 ≤ x) (hy : 0 ≤ y) : gd (cutG 0 2 (List.length n)) ((D_listing_small (List.take 2 (List.drop 0 n))).bind fun r => cond (!r) (some (0, 0, 0, 0, 0, 7)) ((D_listing_two_1 n k).bind fun r => some (r.1, r.2.1, r.2.2, 0, 0, 0))) =
    some (if x ≤ 2147483647 ∧ y ≤ 2147483647 then (k, x, y, 0, 0, 0) else err6 7) := by
  subst h
  rw [cut_front, show cutG 0 2 (List.length [x, y]) = true from rfl, gd_true, show List.take 2 [x, y] = [x, y] from rfl, small_D (by simp)]
  simp only [Option.bind_some]
  by_cases h : x ≤ 2147483647 ∧ y ≤ 2147483647
  · have hs : smallB [x, y] = true := by unfold smallB; simp; omega
    rw [hs, if_pos h]
    unfold D_listing_two_1
    rw [show rd [x, y] 0 = some x from rfl, show rd [x, y] 1 = some y from rfl]
    simp only [Option.bind_some, Bool.not_true, cond_false]
    rw [wrapN hx h.1, wrapN hy h.2]
  · have hs : smallB [x, y] = false := by unfold smallB; rw [Bool.eq_false_iff]; simp; omega
    rw [hs, if_neg h]
    rfl
theorem one_go {n : List Int} {x y : Int} (h : n = [x, y]) (hx : 0 ≤ x) : gd (cutG 0 1 (List.length n)) ((D_listing_small (List.take 1 (List.drop 0 n))).bind fun r => cond (!r) (some (0, 0, 0, 0, 0, 7)) ((D_listing_forms_1 n).bind fun r => some (5, r.1, 0, 0, r.2, 0))) =
    some (if x ≤ 2147483647 then (5, x, 0, 0, y, 0) else err6 7) := by
  subst h
  rw [cut_front, show cutG 0 1 (List.length [x, y]) = true from rfl, gd_true, show List.take 1 [x, y] = [x] from rfl, small_D (by simp)]
  simp only [Option.bind_some]
  by_cases h : x ≤ 2147483647
  · have hs : smallB [x] = true := by unfold smallB; simp; omega
    rw [hs, if_pos h]
    unfold D_listing_forms_1
    rw [show rd [x, y] 0 = some x from rfl, show rd [x, y] 1 = some y from rfl]
    simp only [Option.bind_some, Bool.not_true, cond_false]
    rw [wrapN hx h]
  · have hs : smallB [x] = false := by unfold smallB; rw [Bool.eq_false_iff]; simp; omega
    rw [hs, if_neg h]
    rfl
theorem zero_go {α : Type} {n : List Int} {X Y : Option α} : gd (cutG 0 0 (List.length n)) ((D_listing_small (List.take 0 (List.drop 0 n))).bind fun r => cond (!r) X Y) = Y := by
  have hc : cutG 0 0 (List.length n) = true := cutG_in (by omega)
  rw [hc, gd_true, List.take_zero, small_D (by simp)]
  rfl
theorem name7 : D_opcode_Name 7 = some [114, 101, 112, 101, 97, 116] := rfl
theorem oper_D {l : List Sg} (hl : l.length ≤ 100000) (hg : ∀ x ∈ l, SOk x) : D_listing_operation l = some (readI l) := by
  unfold D_listing_operation
  rw [shape_D hl hg, numbers_D hl]
  simp only [Option.bind_some]
  have three : ∀ o : Int, (o ≠ 110 ∧ o ≠ 119 ∧ o ≠ 114) → (o = 43 ∨ o = 45 ∨ o = 42) → ∀ k : Int, (o = 43 → k = 1) → (o = 45 → k = 2) → (o = 42 → k = 3) → shapeI l = [114, 61, 114, o, 114] →
      gd (cutG 0 3 (List.length (numsI l))) ((D_listing_small (List.take 3 (List.drop 0 (numsI l)))).bind fun r => cond (!r) (some (0, 0, 0, 0, 0, 7)) ((D_listing_three_1 (numsI l) k).bind fun r => some (r.1, r.2.1, r.2.2.1, r.2.2.2, 0, 0))) = some (readI l) := by
    intro o ho ho2 k k1 k2 k3 h
    obtain ⟨a, b, c, d, e, f, g, q, rfl, hh, hd, hf, hgr, hq⟩ := inv3 hg ho h
    have en : numsI [a, b, c, d, e, f, g, q] = [b.2.2.2, e.2.2.2, q.2.2.2] := by
      rw [nums_r hh.1, nums_y hh.2.1, nums_m hh.2.2, nums_r hd.1, nums_y hd.2, nums_m hf, nums_r hgr, nums_y hq]
      rfl
    rw [three_go en (sok_n (hg b (by simp))).1 (sok_n (hg e (by simp))).1 (sok_n (hg q (by simp))).1]
    have hk : kindM f = k := by
      unfold kindM
      rw [hf.2]
      rcases ho2 with h | h | h
      · subst h; rw [k1 rfl]; rfl
      · subst h; rw [k2 rfl]; rfl
      · subst h; rw [k3 rfl]; rfl
    have hm : isM f 43 ∨ isM f 45 ∨ isM f 42 := by
      rcases ho2 with h | h | h
      · subst h; exact .inl hf
      · subst h; exact .inr (.inl hf)
      · subst h; exact .inr (.inr hf)
    have er : readI [a, b, c, d, e, f, g, q] = _ := if_pos ⟨hh, hd, hm, hgr, hq⟩
    rw [er, hk]
  by_cases h1 : shapeI l = [114, 61, 114, 43, 114]
  · rw [neD h1, cond_false]
    exact three 43 (by omega) (by omega) 1 (by omega) (by omega) (by omega) h1
  rw [neT h1, cond_true]
  by_cases h2 : shapeI l = [114, 61, 114, 45, 114]
  · rw [neD h2, cond_false]
    exact three 45 (by omega) (by omega) 2 (by omega) (by omega) (by omega) h2
  rw [neT h2, cond_true]
  by_cases h3 : shapeI l = [114, 61, 114, 42, 114]
  · rw [neD h3, cond_false]
    exact three 42 (by omega) (by omega) 3 (by omega) (by omega) (by omega) h3
  rw [neT h3, cond_true]
  by_cases h4 : shapeI l = [114, 61, 45, 114]
  · rw [neD h4, cond_false]
    obtain ⟨a, b, c, d, e, f, rfl, hh, hd, he, hf⟩ := inv_neg hg h4
    have en : numsI [a, b, c, d, e, f] = [b.2.2.2, f.2.2.2] := by
      rw [nums_r hh.1, nums_y hh.2.1, nums_m hh.2.2, nums_m hd, nums_r he, nums_y hf]
      rfl
    rw [two_go en (sok_n (hg b (by simp))).1 (sok_n (hg f (by simp))).1]
    have er : readI [a, b, c, d, e, f] = _ := if_pos ⟨hh, hd, he, hf⟩
    rw [er]
  rw [neT h4, cond_true]
  by_cases h5 : shapeI l = [114, 61, 114]
  · rw [neD h5, cond_false]
    obtain ⟨a, b, c, d, e, rfl, hh, hd, he⟩ := inv_copy hg h5
    have en : numsI [a, b, c, d, e] = [b.2.2.2, e.2.2.2] := by
      rw [nums_r hh.1, nums_y hh.2.1, nums_m hh.2.2, nums_r hd, nums_y he]
      rfl
    rw [two_go en (sok_n (hg b (by simp))).1 (sok_n (hg e (by simp))).1]
    have er : readI [a, b, c, d, e] = _ := if_pos ⟨hh, hd, he⟩
    rw [er]
  rw [neT h5, cond_true]
  by_cases h6 : shapeI l = [114, 61, 110]
  · rw [neD h6, cond_false]
    obtain ⟨a, b, c, d, rfl, hh, hd⟩ := inv_const hg h6
    have en : numsI [a, b, c, d] = [b.2.2.2, d.2.2.2] := by
      rw [nums_r hh.1, nums_y hh.2.1, nums_m hh.2.2, nums_y hd]
      rfl
    rw [one_go en (sok_n (hg b (by simp))).1]
    have er : readI [a, b, c, d] = _ := if_pos ⟨hh, hd⟩
    rw [er]
  rw [neT h6, cond_true]
  by_cases h7 : shapeI l = [119, 110, 123]
  · rw [neD h7, cond_false]
    obtain ⟨a, b, c, rfl, ha, hb, hc⟩ := inv_rep hg h7
    rw [show rd [a, b, c] 0 = some a from rfl, name7]
    simp only [Option.bind_some]
    by_cases hr : a.2.2.1 = [114, 101, 112, 101, 97, 116]
    · have er : readI [a, b, c] = _ := if_pos ⟨⟨ha, hr⟩, hb, hc⟩
      rw [decide_eq_false (fun e => e hr), cond_false, zero_go, er]
      have en : numsI [a, b, c] = [b.2.2.2] := by
        rw [nums_w ha, nums_y hb, nums_m hc]
        rfl
      rw [en]
      rfl
    · have er : readI [a, b, c] = _ := if_neg (fun e => hr e.1.2)
      rw [decide_eq_true hr, cond_true, er, h7, neT (by decide), cond_true]
      rfl
  rw [neT h7, cond_true]
  by_cases h8 : shapeI l = [125]
  · rw [neD h8, cond_false, zero_go]
    obtain ⟨a, rfl, ha⟩ := inv_end hg h8
    have er : readI [a] = _ := if_pos ha
    rw [er]
    rfl
  rw [neT h8, cond_true]
  -- none of them
  have key : readI l = err6 3 := by
    match l, h1, h2, h3, h4, h5, h6, h7, h8 with
    | [], _, _, _, _, _, _, _, _ => rfl
    | [a], _, _, _, _, _, _, _, h8 => exact if_neg (fun h => h8 (by rw [shape_mark h]; rfl))
    | [a, b], _, _, _, _, _, _, _, _ => rfl
    | [a, b, c], _, _, _, _, _, _, h7, _ => exact if_neg (fun h => h7 (by rw [shape_word h.1.1 (by rw [h.1.2]; decide), shape_num h.2.1, shape_mark h.2.2]; rfl))
    | [a, b, c, d], _, _, _, _, _, h6, _, _ => exact if_neg (fun h => h6 (by rw [shape_reg h.1.1 h.1.2.1, shape_mark h.1.2.2, shape_num h.2]; rfl))
    | [a, b, c, d, e], _, _, _, _, h5, _, _, _ => exact if_neg (fun h => h5 (by rw [shape_reg h.1.1 h.1.2.1, shape_mark h.1.2.2, shape_reg h.2.1 h.2.2]; rfl))
    | [a, b, c, d, e, f], _, _, _, h4, _, _, _, _ => exact if_neg (fun h => h4 (by rw [shape_reg h.1.1 h.1.2.1, shape_mark h.1.2.2, shape_mark h.2.1, shape_reg h.2.2.1 h.2.2.2]; rfl))
    | [a, b, c, d, e, f, g], _, _, _, _, _, _, _, _ => rfl
    | [a, b, c, d, e, f, g, k], h1, h2, h3, _, _, _, _, _ =>
      refine if_neg (fun h => ?_)
      obtain ⟨hh, hd, hm, hgr, hk⟩ := h
      rcases hm with hm | hm | hm
      · exact h1 (by rw [shape_reg hh.1 hh.2.1, shape_mark hh.2.2, shape_reg hd.1 hd.2, shape_mark hm, shape_reg hgr hk]; rfl)
      · exact h2 (by rw [shape_reg hh.1 hh.2.1, shape_mark hh.2.2, shape_reg hd.1 hd.2, shape_mark hm, shape_reg hgr hk]; rfl)
      · exact h3 (by rw [shape_reg hh.1 hh.2.1, shape_mark hh.2.2, shape_reg hd.1 hd.2, shape_mark hm, shape_reg hgr hk]; rfl)
    | _ :: _ :: _ :: _ :: _ :: _ :: _ :: _ :: _ :: _, _, _, _, _, _, _, _, _ => rfl
  rw [key]
  rfl

/- Lines of programs: the document's way. -/
theorem dM (x : Sg) (c : Int) : decide (x.1 = 3 ∧ (([c] : List Int) = [] ∨ x.2.2.1 = [c])) = decide (isM x c) := decide_eq_decide.2 ⟨fun h => ⟨h.1, h.2.resolve_left (by simp)⟩, fun h => ⟨h.1, .inr h.2⟩⟩
theorem dN (x : Sg) : decide (x.1 = 2 ∧ (([] : List Int) = [] ∨ x.2.2.1 = [])) = decide (x.1 = 2) := decide_eq_decide.2 ⟨fun h => h.1, fun h => ⟨h, .inl rfl⟩⟩
theorem dW (x : Sg) (s : List Int) (hs : s ≠ []) : decide (x.1 = 1 ∧ (s = [] ∨ x.2.2.1 = s)) = decide (x.1 = 1 ∧ x.2.2.1 = s) := decide_eq_decide.2 ⟨fun h => ⟨h.1, h.2.resolve_left hs⟩, fun h => ⟨h.1, .inr h.2⟩⟩
theorem lenD (l : List Sg) (n : Nat) : decide ((((List.length l) : Nat) : Int) = ((n : Nat) : Int)) = decide (l.length = n) := decide_eq_decide.2 (by omega)
theorem read_bad3 {a b c : Sg} {t : List Sg} (h : ¬headR a b c) : readI (a :: b :: c :: t) = (match t with
    | [] => readI [a, b, c]
    | _ => err6 3) := by
  match t with
  | [] => rfl
  | [d] => exact if_neg (fun e => h e.1)
  | [d, e] => exact if_neg (fun e => h e.1)
  | [d, e, f] => exact if_neg (fun e => h e.1)
  | [d, e, f, g] => rfl
  | [d, e, f, g, k] => exact if_neg (fun e => h e.1)
  | _ :: _ :: _ :: _ :: _ :: _ :: _ => rfl
/- Programs, read out of texts. -/
def regsT : List Int := [114, 101, 103, 115]
def headI : List Sg → Int × Int
  | [a, b] => if (a.1 = 1 ∧ a.2.2.1 = regsT) ∧ b.1 = 2 then (if b.2.2.2 ≤ 2147483647 then (b.2.2.2, 0) else (0, 7)) else (0, 3)
  | _ => (0, 3)
theorem inv_head {l : List Sg} (hg : ∀ x ∈ l, SOk x) (h : shapeI l = [119, 110]) : ∃ a b, l = [a, b] ∧ a.1 = 1 ∧ b.1 = 2 := by
  obtain ⟨a, t, rfl, h2, h3⟩ := inv_o hg (by omega) h
  obtain ⟨b, t, rfl, h5, h6⟩ := inv_o (fun x hx => hg x (by simp [hx])) (by omega) h3
  obtain rfl := shape_nil h6
  exact ⟨a, b, rfl, sym_name (hg a (by simp)) h2, sym_num (hg b (by simp)) h5⟩
theorem head_D {l : List Sg} (hl : l.length ≤ 100000) (hg : ∀ x ∈ l, SOk x) : D_listing_head l = some (headI l) := by
  unfold D_listing_head
  rw [shape_D hl hg, numbers_D hl]
  simp only [Option.bind_some]
  by_cases h : shapeI l = [119, 110]
  · obtain ⟨a, b, rfl, ha, hb⟩ := inv_head hg h
    rw [decide_eq_false (fun e => e h), cond_false, show rd [a, b] 0 = some a from rfl]
    simp only [Option.bind_some]
    by_cases hr : a.2.2.1 = regsT
    · have er : headI [a, b] = _ := if_pos ⟨⟨ha, hr⟩, hb⟩
      have en : numsI [a, b] = [b.2.2.2] := by rw [nums_w ha, nums_y hb]; rfl
      rw [decide_eq_false (fun e => e hr), cond_false, er, en, small_D (by simp)]
      simp only [Option.bind_some]
      have hn := (sok_n (hg b (by simp))).1
      by_cases hs : b.2.2.2 ≤ 2147483647
      · have : smallB [b.2.2.2] = true := by unfold smallB; simp; omega
        rw [this, if_pos hs, show ix 0 [b.2.2.2].length = some 0 from rfl]
        simp only [Bool.not_true, cond_false, Option.bind_some]
        show some (IntKind.i64.wrap b.2.2.2, (0 : Int)) = _
        rw [wrapN hn hs]
      · have : smallB [b.2.2.2] = false := by unfold smallB; rw [Bool.eq_false_iff]; simp; omega
        rw [this, if_neg hs]
        rfl
    · have er : headI [a, b] = _ := if_neg (fun e => hr e.1.2)
      rw [decide_eq_true (show a.2.2.1 ≠ [114, 101, 103, 115] from hr), cond_true, er]
  · rw [decide_eq_true h, cond_true]
    simp only [Option.bind_some, cond_true]
    have er : headI l = (0, 3) := by
      match l, h with
      | [], _ => rfl
      | [a], _ => rfl
      | [a, b], h => exact if_neg (fun e => h (by rw [shape_word e.1.1 (by rw [e.1.2]; decide), shape_num e.2]; rfl))
      | _ :: _ :: _ :: _, _ => rfl
    rw [er]
abbrev Op5 := Int × Int × Int × Int × Int
abbrev St11 := Bool × Int × List Op5
def op5 (t : Int × Int × Int × Int × Int × Int) : Op5 := (t.1, t.2.1, t.2.2.1, t.2.2.2.1, t.2.2.2.2.1)
def stepI (x : List Int) (s : St11) : Int ⊕ St11 :=
  if (signsOf x).2.1 ≠ 0 then .inl (signsOf x).2.1 else
  if (signsOf x).2.2 = [] then .inr s else
  if s.1 = false then (if (headI (signsOf x).2.2).2 ≠ 0 then .inl (headI (signsOf x).2.2).2 else .inr (true, (headI (signsOf x).2.2).1, s.2.2)) else
  if (readI (signsOf x).2.2).2.2.2.2.2 ≠ 0 then .inl (readI (signsOf x).2.2).2.2.2.2.2 else .inr (s.1, s.2.1, s.2.2 ++ [op5 (readI (signsOf x).2.2)])
def finI (n : Nat) (s : St11) : Int × Int × Int × List Op5 := if s.1 = true then (s.2.1, 0, 0, s.2.2) else (0, (n : Int), 3, [])
def runP (n : Nat) : List (List Int) → Nat → St11 → Int × Int × Int × List Op5
  | [], _, s => finI n s
  | x :: R, i, s => match stepI x s with
    | .inl e => (0, (i : Int), e, [])
    | .inr s' => runP n R (i + 1) s'
theorem headI_nn {l : List Sg} (hg : ∀ x ∈ l, SOk x) : 0 ≤ (headI l).1 := by
  match l, hg with
  | [], _ => exact Int.le_refl _
  | [a], _ => exact Int.le_refl _
  | [a, b], hg =>
    have := (sok_n (hg b (by simp))).1
    show 0 ≤ (if _ then (if _ then _ else _) else _ : Int × Int).1
    split
    · split
      · exact this
      · exact Int.le_refl _
    · exact Int.le_refl _
  | _ :: _ :: _ :: _, _ => exact Int.le_refl _
theorem step_ok {x : List Int} {s s' : St11} {i : Nat} (h : stepI x s = .inr s') (h1 : s.2.2.length ≤ i) (h2 : 0 ≤ s.2.1) : s'.2.2.length ≤ i + 1 ∧ 0 ≤ s'.2.1 := by
  unfold stepI at h
  split at h
  · cases h
  · split at h
    · injection h with h; subst h; exact ⟨by omega, h2⟩
    · split at h
      · split at h
        · cases h
        · injection h with h
          subst h
          exact ⟨by simp only; omega, headI_nn (signsOf_good x)⟩
      · split at h
        · cases h
        · injection h with h
          subst h
          exact ⟨by simp; omega, h2⟩
theorem run_loop {α δ : Type} {f : α → Option (α ⊕ δ)} {R0 : List (List Int)} (E : Nat → St11 → α) (ex : Nat → Int → St11 → δ) (fi : St11 → δ) (g : δ → Option (Int × Int × Int × List Op5))
    (hst : ∀ (i : Nat) (s : St11) (hi : i < R0.length), s.2.2.length ≤ i → 0 ≤ s.2.1 → f (E i s) = some (match stepI R0[i] s with
      | .inl e => .inr (ex i e s)
      | .inr s' => .inl (E (i + 1) s'))) (hend : ∀ s : St11, 0 ≤ s.2.1 → f (E R0.length s) = some (.inr (fi s)))
    (hex : ∀ i e s, g (ex i e s) = some (0, (i : Int), e, [])) (hfi : ∀ s : St11, 0 ≤ s.2.1 → g (fi s) = some (finI R0.length s)) :
    ∀ (d i m : Nat) (s : St11), i + d = R0.length → s.2.2.length ≤ i → 0 ≤ s.2.1 → d < m → (loopN f m (E i s)).bind g = some (runP R0.length (R0.drop i) i s)
  | 0, i, m + 1, s, h, h1, h2, hm => by
    have : i = R0.length := by omega
    subst this
    rw [loopN_succ, hend s h2, List.drop_length]
    exact hfi s h2
  | d + 1, i, m + 1, s, h, h1, h2, hm => by
    have hi : i < R0.length := by omega
    rw [loopN_succ, hst i s hi h1 h2, List.drop_eq_getElem_cons hi]
    unfold runP
    cases hz : stepI R0[i] s with
    | inl e => exact hex i e s
    | inr s' =>
      simp only [Option.bind_some, caseS_l]
      obtain ⟨k1, k2⟩ := step_ok hz h1 h2
      exact run_loop E ex fi g hst hend hex hfi d (i + 1) m s' (by omega) k1 k2 (by omega)
theorem lns_mem : ∀ (l cur : List Int) (L : List Int), L ∈ lns l cur → L.length ≤ l.length + cur.length ∧ (Bytes l → Bytes cur → Bytes L)
  | [], cur, L, h => by
    unfold lns at h
    split at h
    · cases h
    · rw [List.mem_singleton] at h
      subst h
      exact ⟨by omega, fun _ h => h⟩
  | x :: r, cur, L, h => by
    by_cases hx : x = 10
    · subst hx
      rw [lns_ten, List.mem_cons] at h
      rcases h with rfl | h
      · exact ⟨by simp, fun _ h => h⟩
      · obtain ⟨h1, h2⟩ := lns_mem r [] L h
        exact ⟨by simp at h1 ⊢; omega, fun hb _ => h2 (fun n hn => hb n (by simp [hn])) (fun n hn => by cases hn)⟩
    · have := lns_skip [x] r cur (by simpa using hx)
      rw [show x :: r = [x] ++ r from rfl, this] at h
      obtain ⟨h1, h2⟩ := lns_mem r (cur ++ [x]) L h
      refine ⟨by simp at h1 ⊢; omega, fun hb hc => h2 (fun n hn => hb n (by simp [hn])) (hc.app fun n hn => ?_)⟩
      rw [List.mem_singleton] at hn
      subst hn
      exact hb _ (by simp)
section
variable {l : List Int}
theorem parse_D (hb : Bytes l) (hl : l.length ≤ 65536) : D_listing_Parse l = some (runP (lns l []).length (lns l []) 0 (false, 0, [])) := by
  have hlen := lns_len l []
  have hm : ∀ (i : Nat) (hi : i < (lns l []).length), Bytes (lns l [])[i] ∧ (lns l [])[i].length ≤ 100000 := fun i hi => by
    obtain ⟨h1, h2⟩ := lns_mem l [] _ (List.getElem_mem hi)
    exact ⟨h2 hb (fun n hn => by cases hn), by simp at h1; omega⟩
  obtain ⟨m, hB, hBm⟩ : ∃ m, BIG = m ∧ 200000 < m := ⟨BIG, rfl, by unfold BIG; omega⟩
  unfold D_listing_Parse
  rw [decide_eq_false (show ¬(65536 : Int) < ((l.length : Nat) : Int) by omega), cond_false, signs_Lines hb (by omega)]
  simp only [Option.bind_some]
  have := run_loop (f := D_listing_Parse_L0 (lns l [])) (R0 := lns l []) (fun i s => ((i : Int), s)) (fun i e s => .inl ((i : Int), e)) (fun s => .inr s)
    (fun r13 => caseS r13 (fun u'14 => some ((0, u'14.1, u'14.2, []))) (fun w15 => cond (!w15.1) (some ((0, (((List.length (lns l [])) : Nat) : Int), 3, []))) (some ((w15.2.1, 0, 0, w15.2.2)))))
    (fun i s hi hs hn => ?_) (fun s hn => ?_) (fun i e s => rfl) (fun s hn => ?_) (lns l []).length 0 m (false, 0, []) (by omega) (by simp) (Int.le_refl _) (by omega)
  · rw [hB]
    exact this
  · obtain ⟨k1, k2⟩ := hm i hi
    have hgood := signsOf_good (lns l [])[i]
    have hgl := signsOf_len (lns l [])[i]
    unfold D_listing_Parse_L0 stepI
    simp only
    rw [decide_eq_true (show (i : Int) < (((lns l []).length : Nat) : Int) by omega), cond_true, ix_in hi]
    simp only [Option.bind_some]
    rw [List.getElem?_eq_getElem hi]
    simp only [Option.bind_some]
    rw [signs_Signs k1 k2]
    simp only [Option.bind_some]
    generalize signsOf (lns l [])[i] = S at *
    by_cases h1 : S.2.1 ≠ 0
    · rw [decide_eq_true h1, cond_true, if_pos h1]
    · rw [decide_eq_false h1, cond_false, if_neg h1]
      by_cases h2 : S.2.2 = []
      · rw [decide_eq_true (show (((S.2.2.length : Nat)) : Int) = 0 by rw [h2]; rfl), cond_true, if_pos h2, wrapS (by omega)]
      · rw [decide_eq_false (show ¬((((S.2.2.length : Nat)) : Int) = 0) from fun e => h2 (List.length_eq_zero_iff.1 (by omega))), cond_false, if_neg h2]
        obtain ⟨sb, sr, so⟩ := s
        cases sb with
        | false =>
          simp only [Bool.not_false, cond_true, if_true]
          rw [head_D (by omega) hgood]
          simp only [Option.bind_some]
          by_cases h3 : (headI S.2.2).2 ≠ 0
          · rw [decide_eq_true h3, cond_true, if_pos h3]
          · rw [decide_eq_false h3, cond_false, if_neg h3, wrapS (by omega)]
        | true =>
          simp only [Bool.not_true, cond_false]
          rw [if_neg (by decide), oper_D (by omega) hgood]
          simp only [Option.bind_some]
          simp only at hs
          rw [gd_fits (by omega) (by omega)]
          by_cases h3 : (readI S.2.2).2.2.2.2.2 ≠ 0
          · rw [decide_eq_true h3, cond_true, if_pos h3]
          · rw [decide_eq_false h3, cond_false, if_neg h3, wrapS (by omega)]
            rfl
  · unfold D_listing_Parse_L0
    simp only
    rw [decide_eq_false (show ¬(((lns l []).length : Nat) : Int) < (((lns l []).length : Nat) : Int) by omega), cond_false]
  · obtain ⟨sb, sr, so⟩ := s
    cases sb <;> rfl
end
theorem ops_self (l : List Op5) (hl : l.length ≤ 1000000) : D_ref08_Ops l l = some true := by
  unfold D_ref08_Ops
  have h := loop_nat0 (f := D_ref08_Ops_L0 l l) (n := l.length) (c := .inr ()) (by omega) (fun i hi => by
    unfold D_ref08_Ops_L0
    rw [decide_eq_true (show (i : Int) < ((l.length : Nat) : Int) by omega), cond_true, rd_get hi]
    simp only [Option.bind_some, decide_true, Bool.and_self, Bool.not_true, cond_false]
    rw [wrapS (by omega)]) (by
    unfold D_ref08_Ops_L0
    rw [decide_eq_false (show ¬((l.length : Nat) : Int) < ((l.length : Nat) : Int) by omega), cond_false])
  rw [decide_eq_false (fun h => h rfl), cond_false, h]
  rfl
theorem runP_len (n : Nat) : ∀ (R : List (List Int)) (i : Nat) (s : St11), (runP n R i s).2.2.2.length ≤ R.length + s.2.2.length
  | [], _, s => by
    unfold runP finI
    split <;> simp
  | x :: R, i, s => by
    unfold runP
    cases hz : stepI x s with
    | inl e => simp
    | inr s' =>
      have h1 := runP_len n R (i + 1) s'
      have h2 : s'.2.2.length ≤ s.2.2.length + 1 := by
        unfold stepI at hz
        split at hz
        · cases hz
        · split at hz
          · injection hz with hz; subst hz; omega
          · split at hz
            · split at hz
              · cases hz
              · injection hz with hz; subst hz; simp
            · split at hz
              · cases hz
              · injection hz with hz; subst hz; simp
      simp only [List.length_cons]
      omega
theorem goes11 : D_law11_goes = some true := by kernel_rfl
/- Programs, printed. -/
theorem itoa_dec : ∀ n : Nat, u8I (Lib.decDigits n) = digs n := by
  intro n
  induction n using Nat.strongRecOn with
  | ind n ih =>
    by_cases h : n < 10
    · rw [digs_small h, Lib.decDigits, dif_pos h]
      show [((UInt8.ofNat (48 + n)).toNat : Int)] = _
      rw [UInt8.toNat_ofNat']
      congr 1
      omega
    · rw [digs_big h, Lib.decDigits, dif_neg h, u8I_app, ih _ (by omega)]
      congr 1
      show [((UInt8.ofNat (48 + n % 10)).toNat : Int)] = _
      rw [UInt8.toNat_ofNat']
      congr 1
      omega
theorem itoa_nat {n : Nat} (h : n ≤ 9223372036854775807) : itoaP (n : Int) = some (digs n) := by
  unfold itoaP itoaI Lib.itoa
  rw [if_neg (by omega), decide_eq_true (by omega), decide_eq_true (by omega), Int.toNat_natCast, itoa_dec]
  rfl
theorem gd_bfits {β : Type} {a b : Nat} (h : a + b ≤ 140737488355328) {x : Option β} : gd (bfits a b) x = x := by
  unfold bfits
  rw [Nat.ble_eq_true_of_le h]
  rfl
theorem condS {α : Type} (a : Bool) (x y : α) : cond a (some x) (some y) = some (cond a x y) := by cases a <;> rfl
theorem cnd (a x y : Bool) : (cond a x y = true) ↔ ((a = true ∧ x = true) ∨ (¬a = true ∧ y = true)) := by cases a <;> simp
theorem boolD {b : Bool} {p : Prop} [Decidable p] (h : b = true ↔ p) : b = decide p := by
  by_cases hp : p
  · rw [decide_eq_true hp, h.2 hp]
  · rw [decide_eq_false hp, Bool.eq_false_iff]; exact fun e => hp (h.1 e)
def reg31 (n : Int) : Prop := 0 ≤ n ∧ n ≤ 2147483647
instance (n : Int) : Decidable (reg31 n) := by unfold reg31; infer_instance
/-- May an operation be? -/
def opOk (x : Op5) : Prop :=
  ((x.1 = 1 ∨ x.1 = 2 ∨ x.1 = 3) ∧ reg31 x.2.1 ∧ reg31 x.2.2.1 ∧ reg31 x.2.2.2.1 ∧ x.2.2.2.2 = 0) ∨
  ((x.1 = 4 ∨ x.1 = 6) ∧ reg31 x.2.1 ∧ reg31 x.2.2.1 ∧ x.2.2.2.1 = 0 ∧ x.2.2.2.2 = 0) ∨
  (x.1 = 5 ∧ reg31 x.2.1 ∧ x.2.2.1 = 0 ∧ x.2.2.2.1 = 0) ∨
  (x.1 = 7 ∧ x.2.1 = 0 ∧ x.2.2.1 = 0 ∧ x.2.2.2.1 = 0) ∨
  (x.1 = 0 ∧ x.2.1 = 0 ∧ x.2.2.1 = 0 ∧ x.2.2.2.1 = 0 ∧ x.2.2.2.2 = 0)
instance (x : Op5) : Decidable (opOk x) := by unfold opOk; infer_instance
theorem register_D (n : Int) (h : Bool) : D_opcode_register n h = some (cond h (decide (reg31 n)) (decide (n = 0))) := by
  unfold D_opcode_register
  cases h
  · rfl
  · simp only [Bool.not_true, cond_false, cond_true, condS]
    refine congrArg some (boolD ?_)
    simp only [cnd, decide_eq_true_eq, reg31, Bool.false_eq_true, and_false, or_false]
theorem op_Right (k d a b v : Int) : D_opcode_Right k d a b v = some (decide (opOk (k, d, a, b, v))) := by
  unfold D_opcode_Right
  have hof : ∀ k : Int, D_opcode_of k = some (if k = 1 ∨ k = 2 ∨ k = 3 then (true, true, true, false) else if k = 4 ∨ k = 6 then (true, true, false, false) else if k = 5 then (true, false, false, true) else if k = 7 then (false, false, false, true) else (false, false, false, false)) := by
    intro k
    unfold D_opcode_of
    by_cases h1 : k = 1
    · subst h1; rfl
    by_cases h2 : k = 2
    · subst h2; rfl
    by_cases h3 : k = 3
    · subst h3; rfl
    by_cases h4 : k = 4
    · subst h4; rfl
    by_cases h6 : k = 6
    · subst h6; rfl
    by_cases h5 : k = 5
    · subst h5; rfl
    by_cases h7 : k = 7
    · subst h7; rfl
    rw [decide_eq_false h1, decide_eq_false h2, decide_eq_false h3, decide_eq_false h4, decide_eq_false h5, decide_eq_false h6, decide_eq_false h7, if_neg (by omega), if_neg (by omega), if_neg h5, if_neg h7]
    rfl
  have hkn : D_opcode_known k = some (decide (0 ≤ k ∧ k < 8)) := by
    unfold D_opcode_known
    rw [condS]
    refine congrArg some (boolD ?_)
    simp only [cnd, decide_eq_true_eq, Bool.false_eq_true, and_false, or_false]
  rw [hof, hkn]
  simp only [Option.bind_some, register_D, condS]
  refine congrArg some (boolD ?_)
  unfold opOk
  by_cases h1 : k = 1 ∨ k = 2 ∨ k = 3
  · rw [if_pos h1]
    simp only [cnd, decide_eq_true_eq, Bool.false_eq_true, and_false, or_false, false_and, false_or, true_and, and_true, not_true, not_false_eq_true, cond_true, cond_false]
    unfold reg31
    omega
  rw [if_neg h1]
  by_cases h2 : k = 4 ∨ k = 6
  · rw [if_pos h2]
    simp only [cnd, decide_eq_true_eq, Bool.false_eq_true, and_false, or_false, false_and, false_or, true_and, and_true, not_true, not_false_eq_true, cond_true, cond_false]
    unfold reg31
    omega
  rw [if_neg h2]
  by_cases h3 : k = 5
  · rw [if_pos h3]
    simp only [cnd, decide_eq_true_eq, Bool.false_eq_true, and_false, or_false, false_and, false_or, true_and, and_true, not_true, not_false_eq_true, cond_true, cond_false]
    unfold reg31
    omega
  rw [if_neg h3]
  by_cases h4 : k = 7
  · rw [if_pos h4]
    simp only [cnd, decide_eq_true_eq, Bool.false_eq_true, and_false, or_false, false_and, false_or, true_and, and_true, not_true, not_false_eq_true, cond_true, cond_false]
    omega
  rw [if_neg h4]
  simp only [cnd, decide_eq_true_eq, Bool.false_eq_true, and_false, or_false, false_and, false_or, true_and, and_true, not_true, not_false_eq_true, cond_true, cond_false]
  omega
def regT (n : Int) : List Int := 114 :: digs n.toNat
def opT (x : Op5) : List Int :=
  if x.1 = 1 then regT x.2.1 ++ ([32, 61, 32] ++ (regT x.2.2.1 ++ ([32, 43, 32] ++ regT x.2.2.2.1))) else
  if x.1 = 2 then regT x.2.1 ++ ([32, 61, 32] ++ (regT x.2.2.1 ++ ([32, 45, 32] ++ regT x.2.2.2.1))) else
  if x.1 = 3 then regT x.2.1 ++ ([32, 61, 32] ++ (regT x.2.2.1 ++ ([32, 42, 32] ++ regT x.2.2.2.1))) else
  if x.1 = 4 then regT x.2.1 ++ ([32, 61, 32] ++ ([45, 32] ++ regT x.2.2.1)) else
  if x.1 = 5 then regT x.2.1 ++ ([32, 61, 32] ++ digs x.2.2.2.2.toNat) else
  if x.1 = 6 then regT x.2.1 ++ ([32, 61, 32] ++ regT x.2.2.1) else
  if x.1 = 7 then [114, 101, 112, 101, 97, 116, 32] ++ (digs x.2.2.2.2.toNat ++ [32, 123]) else [125]
theorem regT_len {n : Int} (h : reg31 n) : (regT n).length ≤ 21 := by
  unfold regT
  have := digs_len20 (n := n) (by unfold reg31 at h; omega)
  rw [List.length_cons]
  omega
theorem reg_D {n : Int} (h : reg31 n) : D_listing_reg n = some (regT n) := by
  unfold D_listing_reg D_strconv_Itoa regT
  have h' := h
  unfold reg31 at h'
  obtain ⟨m, rfl⟩ := Int.eq_ofNat_of_zero_le h'.1
  rw [itoa_nat (by omega)]
  simp only [Option.bind_some]
  have := digs_len20 (n := (m : Int)) (by omega)
  rw [Int.toNat_natCast] at this ⊢
  rw [gd_sfits (by simp only [List.length_singleton]; omega)]
  rfl
theorem reg_0 : D_listing_reg 0 = some [114, 48] := by
  have := reg_D (n := 0) (by unfold reg31; omega)
  rw [this]
  unfold regT
  rw [show (0 : Int).toNat = 0 from rfl, digs_small (by omega)]
  rfl
theorem line_D (x : Op5) (hv : 0 ≤ x.2.2.2.2 ∧ x.2.2.2.2 ≤ 18446744073709551615) : D_listing_Line x.1 x.2.1 x.2.2.1 x.2.2.2.1 x.2.2.2.2 = some (if opOk x then (opT x, 0) else ([], 6)) := by
  obtain ⟨k, d, a, b, v⟩ := x
  unfold D_listing_Line
  simp only at hv ⊢
  rw [op_Right]
  simp only [Option.bind_some]
  by_cases hok : opOk (k, d, a, b, v)
  · rw [decide_eq_true hok, if_pos hok]
    simp only [Bool.not_true, cond_false]
    have hok' := hok
    unfold opOk at hok'
    simp only at hok'
    have hz : reg31 0 := by unfold reg31; omega
    have hd : reg31 d := by
      rcases hok' with h | h | h | h | h
      · exact h.2.1
      · exact h.2.1
      · exact h.2.1
      · rw [h.2.1]; exact hz
      · rw [h.2.1]; exact hz
    have ha : reg31 a := by
      rcases hok' with h | h | h | h | h
      · exact h.2.2.1
      · exact h.2.2.1
      · rw [h.2.2.1]; exact hz
      · rw [h.2.2.1]; exact hz
      · rw [h.2.2.1]; exact hz
    have hb : reg31 b := by
      rcases hok' with h | h | h | h | h
      · exact h.2.2.2.1
      · rw [h.2.2.2.1]; exact hz
      · rw [h.2.2.2]; exact hz
      · rw [h.2.2.2]; exact hz
      · rw [h.2.2.2.1]; exact hz
    have ld := regT_len hd
    have la := regT_len ha
    have lb := regT_len hb
    have lv := digs_len20 (n := v) (by omega)
    rw [reg_D hd, reg_D ha, reg_D hb]
    simp only [Option.bind_some]
    rw [gd_sfits (by simp; omega), text_num hv]
    unfold opT
    simp only [Option.bind_some]
    by_cases h1 : k = 1
    · rw [decide_eq_true h1, cond_true, if_pos h1, gd_sfits (by simp; omega), gd_sfits (by simp; omega), gd_sfits (by simp; omega)]
      simp only [List.append_assoc]
    rw [decide_eq_false h1, cond_false, if_neg h1]
    by_cases h2 : k = 2
    · rw [decide_eq_true h2, cond_true, if_pos h2, gd_sfits (by simp; omega), gd_sfits (by simp; omega), gd_sfits (by simp; omega)]
      simp only [List.append_assoc]
    rw [decide_eq_false h2, cond_false, if_neg h2]
    by_cases h3 : k = 3
    · rw [decide_eq_true h3, cond_true, if_pos h3, gd_sfits (by simp; omega), gd_sfits (by simp; omega), gd_sfits (by simp; omega)]
      simp only [List.append_assoc]
    rw [decide_eq_false h3, cond_false, if_neg h3]
    by_cases h4 : k = 4
    · rw [decide_eq_true h4, cond_true, if_pos h4, gd_sfits (by simp; omega), gd_sfits (by simp; omega)]
      simp only [List.append_assoc]
    rw [decide_eq_false h4, cond_false, if_neg h4]
    by_cases h5 : k = 5
    · rw [decide_eq_true h5, cond_true, if_pos h5, gd_sfits (by simp; omega)]
      simp only [List.append_assoc]
    rw [decide_eq_false h5, cond_false, if_neg h5]
    by_cases h6 : k = 6
    · rw [decide_eq_true h6, cond_true, if_pos h6, gd_sfits (by simp; omega)]
      simp only [List.append_assoc]
    rw [decide_eq_false h6, cond_false, if_neg h6]
    by_cases h7 : k = 7
    · rw [decide_eq_true h7, cond_true, if_pos h7, gd_sfits (by simp; omega), gd_sfits (by simp; omega)]
      simp only [List.append_assoc]
    rw [decide_eq_false h7, cond_false, if_neg h7]
  · rw [decide_eq_false hok, if_neg hok]
    rfl
theorem opT_len {x : Op5} (hv : x.2.2.2.2 ≤ 18446744073709551615) (hok : opOk x) : (opT x).length ≤ 100 := by
  unfold opOk at hok
  have lv := digs_len20 hv
  unfold opT
  have rl : ∀ n, reg31 n → (regT n).length ≤ 21 := fun n h => regT_len h
  repeat' split
  all_goals simp only [List.length_append, List.length_cons, List.length_nil]
  · have := rl x.2.1 (by unfold reg31 at hok ⊢; omega); have := rl x.2.2.1 (by unfold reg31 at hok ⊢; omega); have := rl x.2.2.2.1 (by unfold reg31 at hok ⊢; omega); omega
  · have := rl x.2.1 (by unfold reg31 at hok ⊢; omega); have := rl x.2.2.1 (by unfold reg31 at hok ⊢; omega); have := rl x.2.2.2.1 (by unfold reg31 at hok ⊢; omega); omega
  · have := rl x.2.1 (by unfold reg31 at hok ⊢; omega); have := rl x.2.2.1 (by unfold reg31 at hok ⊢; omega); have := rl x.2.2.2.1 (by unfold reg31 at hok ⊢; omega); omega
  · have := rl x.2.1 (by unfold reg31 at hok ⊢; omega); have := rl x.2.2.1 (by unfold reg31 at hok ⊢; omega); omega
  · have := rl x.2.1 (by unfold reg31 at hok ⊢; omega); omega
  · have := rl x.2.1 (by unfold reg31 at hok ⊢; omega); have := rl x.2.2.1 (by unfold reg31 at hok ⊢; omega); omega
  · omega
  · omega
/-! ### A program's text -/
def dIn (x : Op5) (n : Nat) : Nat := if x.1 = 0 then n - 1 else n
def dOut (x : Op5) (n : Nat) : Nat := if x.1 = 7 then dIn x n + 1 else dIn x n
def bodyP (x : Op5) (n : Nat) : List Int := repI [32, 32] (dIn x n) ++ opT x
def bodies : List Op5 → Nat → List (List Int)
  | [], _ => []
  | x :: r, n => bodyP x n :: bodies r (dOut x n)
def deepP : List Op5 → Nat → Nat
  | [], n => n
  | x :: r, n => deepP r (dOut x n)
def joinL (l : List (List Int)) : List Int := (l.map (· ++ [10])).flatten
theorem bodies_app : ∀ (a b : List Op5) (n : Nat), bodies (a ++ b) n = bodies a n ++ bodies b (deepP a n)
  | [], _, _ => rfl
  | x :: a, b, n => by
    show bodyP x n :: bodies (a ++ b) _ = bodyP x n :: (bodies a _ ++ _)
    rw [bodies_app a b]
    rfl
theorem deepP_app : ∀ (a b : List Op5) (n : Nat), deepP (a ++ b) n = deepP b (deepP a n)
  | [], _, _ => rfl
  | x :: a, b, n => deepP_app a b (dOut x n)
theorem joinL_app (a b : List (List Int)) : joinL (a ++ b) = joinL a ++ joinL b := by unfold joinL; rw [List.map_append, List.flatten_append]
theorem deepP_le : ∀ (a : List Op5) (n : Nat), deepP a n ≤ n + a.length
  | [], _ => Nat.le_refl _
  | x :: a, n => by
    have h := deepP_le a (dOut x n)
    have : dOut x n ≤ n + 1 := by unfold dOut dIn; split <;> split <;> omega
    show deepP a (dOut x n) ≤ _
    rw [List.length_cons]
    omega
theorem repI_len (s : List Int) : ∀ n, (repI s n).length = s.length * n
  | 0 => rfl
  | n + 1 => by
    show (s ++ repI s n).length = _
    rw [List.length_append, repI_len s n, Nat.mul_succ, Nat.add_comm]
theorem bodies_len : ∀ (a : List Op5) (n : Nat), n + a.length ≤ 150 → (∀ x ∈ a, x.2.2.2.2 ≤ 18446744073709551615 ∧ opOk x) → (joinL (bodies a n)).length ≤ 402 * a.length
  | [], _, _, _ => Nat.le_refl _
  | x :: a, n, hn, h => by
    have hx := h x (by simp)
    have h1 : dOut x n ≤ n + 1 := by unfold dOut dIn; split <;> split <;> omega
    have h2 : dIn x n ≤ n := by unfold dIn; split <;> omega
    have ih := bodies_len a (dOut x n) (by simp at hn; omega) fun y hy => h y (by simp [hy])
    have h3 := opT_len hx.1 hx.2
    have h4 := repI_len [32, 32] (dIn x n)
    show (joinL ([bodyP x n] ++ bodies a (dOut x n))).length ≤ _
    rw [joinL_app, List.length_append]
    have h5 : (joinL [bodyP x n]).length = (bodyP x n).length + 1 := by unfold joinL; simp
    have h6 : (bodyP x n).length = 2 * dIn x n + (opT x).length := by unfold bodyP; rw [List.length_append, h4]; simp
    rw [h5, h6, List.length_cons]
    simp at hn
    omega
def headT (n : Int) : List Int := [114, 101, 103, 115, 32] ++ (digs n.toNat ++ [10])

/- Programs that are printed are read as they were. -/
theorem rep_D {n : Nat} (h : n ≤ 1000) : D_strings_Repeat [32, 32] (n : Int) = some (repI [32, 32] n) := by
  unfold D_strings_Repeat repP
  rw [decide_eq_true (by omega), decide_eq_true (by omega), decide_eq_true (by simp only [List.length_cons, List.length_nil]; omega), Int.toNat_natCast]
  rfl
section
variable {n : Int} {l : List Op5}
theorem printP_ok (hl : l.length ≤ 100) (hv : ∀ x ∈ l, 0 ≤ x.2.2.2.2 ∧ x.2.2.2.2 ≤ 18446744073709551615) {i : Nat} {k : Nat} {s : List Int} (hi : i < l.length) (hs : s.length ≤ 1000000) (hk : k ≤ 200) (hok : opOk l[i]) :
    D_listing_Print_L0 l ((i : Int), (k : Int), s) = some (.inl (((i + 1 : Nat) : Int), ((dOut l[i] k : Nat) : Int), s ++ (bodyP l[i] k ++ [10]))) := by
  have hx := hv _ (List.getElem_mem hi)
  have hlen := opT_len hx.2 hok
  unfold D_listing_Print_L0
  simp only
  rw [decide_eq_true (show (i : Int) < ((l.length : Nat) : Int) by omega), cond_true, rd_get hi]
  simp only [Option.bind_some]
  rw [line_D _ hx, if_pos hok]
  simp only [Option.bind_some]
  rw [decide_eq_false (fun h => h rfl), cond_false]
  generalize l[i] = x at *
  have hd : (cond (decide (x.1 = 0)) (some (max (IntKind.i64.wrap ((k : Int) - 1)) 0)) (some (k : Int)) : Option Int) = some ((dIn x k : Nat) : Int) := by
    unfold dIn
    by_cases h0 : x.1 = 0
    · rw [decide_eq_true h0, cond_true, if_pos h0, wrap64 (by omega)]
      congr 1
      omega
    · rw [decide_eq_false h0, cond_false, if_neg h0]
  rw [hd]
  simp only [Option.bind_some]
  have hdk : dIn x k ≤ k := by unfold dIn; split <;> omega
  have hr := repI_len [32, 32] (dIn x k)
  simp only [List.length_cons, List.length_nil] at hr
  rw [rep_D (by omega)]
  simp only [Option.bind_some]
  rw [gd_sfits (by omega), gd_sfits (by simp only [List.length_append, List.length_singleton]; omega), gd_bfits (by simp only [List.length_append, List.length_singleton]; omega), wrapS (by omega), wrapS (by omega)]
  unfold dOut bodyP
  by_cases h7 : x.1 = 7
  · rw [decide_eq_true h7, cond_true, if_pos h7]
  · rw [decide_eq_false h7, cond_false, if_neg h7]
theorem printP_bad (hv : ∀ x ∈ l, 0 ≤ x.2.2.2.2 ∧ x.2.2.2.2 ≤ 18446744073709551615) {i : Nat} {k : Int} {s : List Int} (hi : i < l.length) (hok : ¬opOk l[i]) : D_listing_Print_L0 l ((i : Int), k, s) = some (.inr (.inl ([], 6, s))) := by
  unfold D_listing_Print_L0
  simp only
  rw [decide_eq_true (show (i : Int) < ((l.length : Nat) : Int) by omega), cond_true, rd_get hi]
  simp only [Option.bind_some]
  rw [line_D _ (hv _ (List.getElem_mem hi)), if_neg hok]
  rfl
theorem printP_end {k : Int} {s : List Int} : D_listing_Print_L0 l (((l.length : Nat) : Int), k, s) = some (.inr (.inr s)) := by
  unfold D_listing_Print_L0
  simp only
  rw [decide_eq_false (show ¬((l.length : Nat) : Int) < ((l.length : Nat) : Int) by omega), cond_false]
theorem take_okP {i : Nat} (h : ∀ j (hj : j < l.length), j < i → opOk l[j]) : ∀ x ∈ l.take i, opOk x := fun x hx => by
  obtain ⟨j, hj, e⟩ := List.mem_iff_getElem.1 hx
  rw [List.length_take] at hj
  rw [List.getElem_take] at e
  have := h j (by omega) (by omega)
  rw [e] at this
  exact this
theorem print_D (hl : l.length ≤ 100) (hv : ∀ x ∈ l, 0 ≤ x.2.2.2.2 ∧ x.2.2.2.2 ≤ 18446744073709551615) :
    (¬reg31 n ∧ D_listing_Print n l = some ([], 2)) ∨ (D_listing_Print n l = some ([], 6)) ∨ (reg31 n ∧ (∀ x ∈ l, opOk x) ∧ D_listing_Print n l = some (headT n ++ joinL (bodies l 0), 0)) := by
  unfold D_listing_Print
  by_cases h0 : n < 0
  · rw [decide_eq_true h0, cond_true]
    exact .inl ⟨by unfold reg31; omega, rfl⟩
  rw [decide_eq_false h0, cond_false]
  by_cases h1 : 2147483647 < n
  · rw [decide_eq_true h1, cond_true]
    exact .inl ⟨by unfold reg31; omega, rfl⟩
  rw [decide_eq_false h1, cond_false]
  right
  obtain ⟨m, rfl⟩ := Int.eq_ofNat_of_zero_le (show 0 ≤ n by omega)
  unfold D_strconv_Itoa
  rw [itoa_nat (by omega)]
  simp only [Option.bind_some]
  have hd := digs_len20 (n := (m : Int)) (by omega)
  rw [Int.toNat_natCast] at hd
  rw [gd_sfits (by simp; omega), gd_sfits (by simp; omega), gd_bfits (by simp; omega)]
  have hhead : ([] : List Int) ++ (([114, 101, 103, 115, 32] ++ digs m) ++ [10]) = headT (m : Int) := by
    unfold headT
    rw [Int.toNat_natCast, List.nil_append, List.append_assoc]
  have hhl : (headT (m : Int)).length ≤ 30 := by
    unfold headT
    rw [Int.toNat_natCast]
    simp
    omega
  have := loop_first (f := D_listing_Print_L0 l) (fun i => (((deepP (l.take i) 0 : Nat) : Int), headT (m : Int) ++ joinL (bodies (l.take i) 0))) l.length (by omega) (fun i => ∃ hi : i < l.length, ¬opOk l[i])
    (fun i => .inl ([], 6, headT (m : Int) ++ joinL (bodies (l.take i) 0))) (fun i hi hst hall => ?_) (fun i hi hst _ => ?_) (.inr (headT (m : Int) ++ joinL (bodies l 0))) (fun hall => ?_)
  · have e0 : ((0 : Int), (0 : Int), ([] : List Int) ++ (([114, 101, 103, 115, 32] ++ digs m) ++ [10])) = (0, (((deepP (l.take 0) 0 : Nat) : Int), headT (m : Int) ++ joinL (bodies (l.take 0) 0))) := by
      rw [hhead, List.take_zero]
      show _ = ((0 : Int), (0 : Int), headT (m : Int) ++ [])
      rw [List.append_nil]
    rcases this with ⟨i, hi, hst, _, h⟩ | ⟨hall, h⟩
    · left
      rw [e0, h]
      rfl
    · right
      refine ⟨by unfold reg31; omega, fun x hx => ?_, ?_⟩
      · obtain ⟨j, hj, e'⟩ := List.mem_iff_getElem.1 hx
        rcases Classical.em (opOk l[j]) with h' | h'
        · rw [e'] at h'; exact h'
        · exact (hall j hj ⟨hj, h'⟩).elim
      · rw [e0, h]
        rfl
  · have hok : opOk l[i] := Classical.byContradiction fun h => hst ⟨hi, h⟩
    have hpre : ∀ x ∈ l.take i, opOk x := take_okP fun j hj hji => Classical.byContradiction fun h => hall j hji ⟨hj, h⟩
    have hl1 := bodies_len (l.take i) 0 (by rw [List.length_take]; omega) (fun x hx => ⟨(hv x (List.mem_of_mem_take hx)).2, hpre x hx⟩)
    rw [List.length_take] at hl1
    have hl2 := deepP_le (l.take i) 0
    rw [List.length_take] at hl2
    rw [printP_ok hl hv hi (by rw [List.length_append]; omega) (by omega) hok, List.take_succ_eq_append_getElem hi, bodies_app, deepP_app, joinL_app]
    show _ = some (Sum.inl (_, ((dOut l[i] (deepP (l.take i) 0) : Nat) : Int), headT (m : Int) ++ (joinL (bodies (l.take i) 0) ++ joinL [bodyP l[i] (deepP (l.take i) 0)])))
    have : joinL [bodyP l[i] (deepP (l.take i) 0)] = bodyP l[i] (deepP (l.take i) 0) ++ [10] := by unfold joinL; simp
    rw [this, List.append_assoc]
  · obtain ⟨hi, hb⟩ := hst
    exact printP_bad hv hi hb
  · show D_listing_Print_L0 l (((l.length : Nat) : Int), ((deepP (l.take l.length) 0 : Nat) : Int), headT (m : Int) ++ joinL (bodies (l.take l.length) 0)) = _
    rw [List.take_length]
    exact printP_end
end

end Go.V
namespace Go.V
open Go.Ab
set_option linter.unusedVariables false
set_option linter.unusedSimpArgs false
set_option maxRecDepth 100000
theorem find_loop {α δ : Type} {f : Int → Option (Int ⊕ δ)} {l : List α} (p : α → Bool) (c : Nat → δ) (e : δ) (hl : l.length < 1000000)
    (hf : ∀ i, (hi : i < l.length) → f (i : Int) = some (if p l[i] then .inr (c i) else .inl ((i + 1 : Nat) : Int))) (he : f (l.length : Int) = some (.inr e)) :
    (l.any p = true ∧ ∃ i : Nat, loopN f BIG 0 = some (c i)) ∨ (l.any p = false ∧ loopN f BIG 0 = some e) := by
  by_cases h : ∃ i, ∃ hi : i < l.length, p l[i] = true
  · left
    have hex : ∃ i, (∃ hi : i < l.length, p l[i] = true) ∧ ∀ j, j < i → ¬∃ hj : j < l.length, p l[j] = true := by
      obtain ⟨i, hi⟩ := h
      induction i using Nat.strongRecOn with
      | ind i ih =>
        by_cases hj : ∃ j, j < i ∧ ∃ hj : j < l.length, p l[j] = true
        · obtain ⟨j, h3, h4⟩ := hj
          exact ih j h3 h4
        · exact ⟨i, hi, fun j h h3 => hj ⟨j, h, h3⟩⟩
    obtain ⟨i, ⟨hi, h1⟩, h2⟩ := hex
    refine ⟨List.any_eq_true.2 ⟨l[i], List.getElem_mem hi, h1⟩, i, loop_nat0 (n := i) (by omega) (fun j hj => ?_) ?_⟩
    · rw [hf j (by omega), if_neg (fun hp => h2 j hj ⟨by omega, hp⟩)]
    · rw [hf i hi, if_pos h1]
  · right
    refine ⟨?_, loop_nat0 (n := l.length) (by omega) (fun j hj => ?_) he⟩
    · rw [Bool.eq_false_iff]
      intro ht
      obtain ⟨x, hx, hp⟩ := List.any_eq_true.1 ht
      obtain ⟨i, hi, rfl⟩ := List.getElem_of_mem hx
      exact h ⟨i, hi, hp⟩
    · rw [hf j hj, if_neg (fun hp => h ⟨j, hj, hp⟩)]
def opAsks (k : Int) : Bool × Bool × Bool × Bool := if k = 1 ∨ k = 2 ∨ k = 3 then (true, true, true, false) else if k = 4 ∨ k = 6 then (true, true, false, false) else if k = 5 then (true, false, false, true) else if k = 7 then (false, false, false, true) else (false, false, false, false)
theorem opAsks_cases (k : Int) : k = 1 ∨ k = 2 ∨ k = 3 ∨ k = 4 ∨ k = 5 ∨ k = 6 ∨ k = 7 ∨ (¬k = 1 ∧ ¬k = 2 ∧ ¬k = 3 ∧ ¬k = 4 ∧ ¬k = 5 ∧ ¬k = 6 ∧ ¬k = 7) := by omega
theorem ref07_Asks_eq (k : Int) : D_ref07_Asks k = some (opAsks k) := by
  rcases opAsks_cases k with rfl | rfl | rfl | rfl | rfl | rfl | rfl | ⟨h1, h2, h3, h4, h5, h6, h7⟩
  any_goals rfl
  by_cases h : 1 ≤ k
  · simp [D_ref07_Asks, opAsks, h1, h2, h3, h4, h5, h6, h7, h, show ¬k ≤ 3 by omega, caseS]
  · simp [D_ref07_Asks, opAsks, h1, h2, h3, h4, h5, h6, h7, h, caseS]
def regB (n : Int) (q : Bool) : Bool := if q then decide (0 ≤ n ∧ n ≤ 2147483647) else decide (n = 0)
def rightB (o : Op5) : Bool := decide (0 ≤ o.1 ∧ o.1 < 8) && (regB o.2.1 (opAsks o.1).1 && (regB o.2.2.1 (opAsks o.1).2.1 && (regB o.2.2.2.1 (opAsks o.1).2.2.1 && ((opAsks o.1).2.2.2 || decide (o.2.2.2.2 = 0)))))
theorem ref07_Right (o : Op5) : D_ref07_Right o.1 o.2.1 o.2.2.1 o.2.2.2.1 o.2.2.2.2 = some (rightB o) := by
  unfold D_ref07_Right
  simp only [cond_dec]
  by_cases h1 : o.1 < 0
  · rw [if_pos h1]
    unfold rightB
    rw [decide_eq_false (show ¬(0 ≤ o.1 ∧ o.1 < 8) by omega)]
    rfl
  rw [if_neg h1]
  by_cases h2 : 7 < o.1
  · rw [if_pos h2]
    unfold rightB
    rw [decide_eq_false (show ¬(0 ≤ o.1 ∧ o.1 < 8) by omega)]
    rfl
  rw [if_neg h2, ref07_Asks_eq]
  simp only [Option.bind_some]
  have key := find_loop (f := D_ref07_Right_L0 o.2.1 o.2.2.1 o.2.2.2.1 (opAsks o.1)) (l := [(o.2.1, (opAsks o.1).1), (o.2.2.1, (opAsks o.1).2.1), (o.2.2.2.1, (opAsks o.1).2.2.1)]) (fun p => !regB p.1 p.2) (fun _ => .inl false) (.inr ()) (by simp)
    (fun i hi => by
      unfold D_ref07_Right_L0
      have hi : i < 3 := hi
      rw [cond_dec, if_pos (by omega), ix_in (show i < 3 from hi), ix_in (show i < 4 by omega)]
      simp only [Option.bind_some, cond_dec]
      have e1 : List.getD [o.2.1, o.2.2.1, o.2.2.2.1] i 0 = ([(o.2.1, (opAsks o.1).1), (o.2.2.1, (opAsks o.1).2.1), (o.2.2.2.1, (opAsks o.1).2.2.1)][i]).1 := by
        rcases (show i = 0 ∨ i = 1 ∨ i = 2 by omega) with rfl | rfl | rfl <;> rfl
      have e2 : List.getD [(opAsks o.1).1, (opAsks o.1).2.1, (opAsks o.1).2.2.1, (opAsks o.1).2.2.2] i false = ([(o.2.1, (opAsks o.1).1), (o.2.2.1, (opAsks o.1).2.1), (o.2.2.2.1, (opAsks o.1).2.2.1)][i]).2 := by
        rcases (show i = 0 ∨ i = 1 ∨ i = 2 by omega) with rfl | rfl | rfl <;> rfl
      rw [e1, e2, wrap64 (n := (i : Int) + 1) (by omega), show (i : Int) + 1 = ((i + 1 : Nat) : Int) by omega]
      generalize [(o.2.1, (opAsks o.1).1), (o.2.2.1, (opAsks o.1).2.1), (o.2.2.2.1, (opAsks o.1).2.2.1)][i] = x
      obtain ⟨n, q⟩ := x
      simp only [regB]
      by_cases c1 : n < 0
      · rw [if_pos c1, if_pos]
        cases q
        · simp; omega
        · simp; omega
      rw [if_neg c1]
      by_cases c2 : 2147483647 < n
      · rw [if_pos c2, if_pos]
        cases q
        · simp; omega
        · simp; omega
      rw [if_neg c2]
      cases q with
      | true =>
        rw [decide_eq_true (show 0 ≤ n ∧ n ≤ 2147483647 by omega)]
        rfl
      | false =>
        by_cases c3 : n = 0
        · subst c3; rfl
        · simp [c3])
    (by
      unfold D_ref07_Right_L0
      rw [cond_dec, if_neg (by simp)])
  unfold rightB
  rw [decide_eq_true (show 0 ≤ o.1 ∧ o.1 < 8 by omega)]
  have hany : ([(o.2.1, (opAsks o.1).1), (o.2.2.1, (opAsks o.1).2.1), (o.2.2.2.1, (opAsks o.1).2.2.1)].any fun p => !regB p.1 p.2) = !(regB o.2.1 (opAsks o.1).1 && (regB o.2.2.1 (opAsks o.1).2.1 && regB o.2.2.2.1 (opAsks o.1).2.2.1)) := by
    simp [List.any, Bool.not_and]
  rw [hany] at key
  generalize regB o.2.1 (opAsks o.1).1 = b2 at *
  generalize regB o.2.2.1 (opAsks o.1).2.1 = b3 at *
  generalize regB o.2.2.2.1 (opAsks o.1).2.2.1 = b4 at *
  rcases key with ⟨h, _, hk⟩ | ⟨h, hk⟩
  · rw [hk]
    cases b2 <;> cases b3 <;> cases b4 <;> first | rfl | cases h
  · rw [hk]
    have : b2 = true ∧ b3 = true ∧ b4 = true := by
      cases b2 <;> cases b3 <;> cases b4 <;> first | exact ⟨rfl, rfl, rfl⟩ | cases h
    obtain ⟨rfl, rfl, rfl⟩ := this
    simp only [Option.bind_some, caseS]
    cases (opAsks o.1).2.2.2 <;> rfl

theorem right_opOk (x : Op5) : rightB x = decide (opOk x) := by
  obtain ⟨k, d, a, b, v⟩ := x
  refine boolD ?_
  unfold rightB opOk reg31 regB
  simp only
  rcases opAsks_cases k with rfl | rfl | rfl | rfl | rfl | rfl | rfl | ⟨h1, h2, h3, h4, h5, h6, h7⟩
  all_goals simp [opAsks]
  by_cases h0 : k = 0
  · subst h0; simp
  · simp [h1, h2, h3, h4, h5, h6, h7, h0]; omega
theorem right_D (k d a b v : Int) : D_ref07_Right k d a b v = some (decide (opOk (k, d, a, b, v))) := by
  rw [← right_opOk]; exact ref07_Right (k, d, a, b, v)
theorem refT {n : Int} (h : 0 ≤ n ∧ n ≤ 18446744073709551615) : D_ref04_Text n = some (digs n.toNat) := by
  have := refText n.toNat (by omega)
  rwa [show ((n.toNat : Nat) : Int) = n by omega] at this
theorem refReg {n : Int} (h : reg31 n) : D_ref11_reg n = some (regT n) := by
  have h' := h
  unfold reg31 at h'
  unfold D_ref11_reg
  rw [wrapU_in (by omega), refT (by omega)]
  simp only [Option.bind_some]
  have := digs_len20 (n := n) (by omega)
  rw [gd_sfits (by simp; omega)]
  rfl
theorem ref_Line (x : Op5) (hv : 0 ≤ x.2.2.2.2 ∧ x.2.2.2.2 ≤ 18446744073709551615) : D_ref11_Line x.1 x.2.1 x.2.2.1 x.2.2.2.1 x.2.2.2.2 = some (if opOk x then (opT x, 0) else ([], 6)) := by
  obtain ⟨k, d, a, b, v⟩ := x
  unfold D_ref11_Line
  simp only at hv ⊢
  rw [right_D]
  simp only [Option.bind_some]
  by_cases hok : opOk (k, d, a, b, v)
  · rw [decide_eq_true hok, if_pos hok]
    simp only [Bool.not_true, cond_false]
    have hok' := hok
    unfold opOk at hok'
    simp only at hok'
    have hz : reg31 0 := by unfold reg31; omega
    have hd : reg31 d := by
      rcases hok' with h | h | h | h | h
      · exact h.2.1
      · exact h.2.1
      · exact h.2.1
      · rw [h.2.1]; exact hz
      · rw [h.2.1]; exact hz
    have ha : reg31 a := by
      rcases hok' with h | h | h | h | h
      · exact h.2.2.1
      · exact h.2.2.1
      · rw [h.2.2.1]; exact hz
      · rw [h.2.2.1]; exact hz
      · rw [h.2.2.1]; exact hz
    have hb : reg31 b := by
      rcases hok' with h | h | h | h | h
      · exact h.2.2.2.1
      · rw [h.2.2.2.1]; exact hz
      · rw [h.2.2.2]; exact hz
      · rw [h.2.2.2]; exact hz
      · rw [h.2.2.2.1]; exact hz
    have ld := regT_len hd
    have la := regT_len ha
    have lb := regT_len hb
    have lv := digs_len20 (n := v) (by omega)
    unfold opT
    simp only
    by_cases h0 : k = 0
    · subst h0; rfl
    rw [decide_eq_false h0, cond_false]
    by_cases h7 : k = 7
    · subst h7
      rw [decide_eq_true rfl, cond_true, refT hv]
      simp only [Option.bind_some]
      rw [gd_sfits (by simp; omega), gd_sfits (by simp; omega), List.append_assoc]
      rfl
    rw [decide_eq_false h7, cond_false, refReg hd]
    simp only [Option.bind_some]
    rw [gd_sfits (by simp; omega)]
    by_cases h5 : k = 5
    · subst h5
      rw [decide_eq_true rfl, cond_true, refT hv]
      simp only [Option.bind_some]
      rw [gd_sfits (by simp; omega), List.append_assoc]
      rfl
    rw [decide_eq_false h5, cond_false]
    by_cases h4 : k = 4
    · subst h4
      rw [decide_eq_true rfl, cond_true, refReg ha]
      rw [gd_sfits (by simp; omega)]
      simp only [Option.bind_some]
      rw [gd_sfits (by simp; omega), List.append_assoc, List.append_assoc]
      rfl
    rw [decide_eq_false h4, cond_false, refReg ha]
    simp only [Option.bind_some]
    rw [gd_sfits (by simp; omega)]
    by_cases h6 : k = 6
    · subst h6
      rw [decide_eq_true rfl, cond_true, List.append_assoc]
      rfl
    rw [decide_eq_false h6, cond_false]
    have h123 : k = 1 ∨ k = 2 ∨ k = 3 := by omega
    rcases h123 with rfl | rfl | rfl
    · rw [show (1 : Int) = ((1 : Nat) : Int) from rfl, ix_in (show 1 < 4 by omega)]
      simp only [Option.bind_some]
      show gd (sfits _ ([32, 43, 32] : List Int).length) _ = _
      rw [gd_sfits (by simp; omega), refReg hb]
      simp only [Option.bind_some]
      show gd (sfits _ ([32, 43, 32] : List Int).length) (gd (sfits (List.length ((regT d ++ [32, 61, 32]) ++ regT a ++ [32, 43, 32])) _) (some (((regT d ++ [32, 61, 32]) ++ regT a ++ [32, 43, 32]) ++ regT b, 0))) = _
      rw [gd_sfits (by simp; omega), gd_sfits (by simp; omega), List.append_assoc, List.append_assoc, List.append_assoc]
      rfl
    · rw [show (2 : Int) = ((2 : Nat) : Int) from rfl, ix_in (show 2 < 4 by omega)]
      simp only [Option.bind_some]
      show gd (sfits _ ([32, 45, 32] : List Int).length) _ = _
      rw [gd_sfits (by simp; omega), refReg hb]
      simp only [Option.bind_some]
      show gd (sfits _ ([32, 45, 32] : List Int).length) (gd (sfits (List.length ((regT d ++ [32, 61, 32]) ++ regT a ++ [32, 45, 32])) _) (some (((regT d ++ [32, 61, 32]) ++ regT a ++ [32, 45, 32]) ++ regT b, 0))) = _
      rw [gd_sfits (by simp; omega), gd_sfits (by simp; omega), List.append_assoc, List.append_assoc, List.append_assoc]
      rfl
    · rw [show (3 : Int) = ((3 : Nat) : Int) from rfl, ix_in (show 3 < 4 by omega)]
      simp only [Option.bind_some]
      show gd (sfits _ ([32, 42, 32] : List Int).length) _ = _
      rw [gd_sfits (by simp; omega), refReg hb]
      simp only [Option.bind_some]
      show gd (sfits _ ([32, 42, 32] : List Int).length) (gd (sfits (List.length ((regT d ++ [32, 61, 32]) ++ regT a ++ [32, 42, 32])) _) (some (((regT d ++ [32, 61, 32]) ++ regT a ++ [32, 42, 32]) ++ regT b, 0))) = _
      rw [gd_sfits (by simp; omega), gd_sfits (by simp; omega), List.append_assoc, List.append_assoc, List.append_assoc]
      rfl
  · rw [decide_eq_false hok, if_neg hok]
    rfl
theorem repI_snoc (s : List Int) : ∀ n, repI s n ++ s = repI s (n + 1)
  | 0 => by simp [repI]
  | n + 1 => by
    show (s ++ repI s n) ++ s = s ++ repI s (n + 1)
    rw [List.append_assoc, repI_snoc s n]
section
variable {n : Int} {l : List Op5}
theorem printR_ok (hl : l.length ≤ 100) (hv : ∀ x ∈ l, 0 ≤ x.2.2.2.2 ∧ x.2.2.2.2 ≤ 18446744073709551615) {i : Nat} {k : Nat} {s : List Int} (hi : i < l.length) (hs : s.length ≤ 1000000) (hk : k ≤ 200) (hok : opOk l[i]) :
    D_ref11_Print_L0 l ((i : Int), repI [32, 32] k, s) = some (.inl (((i + 1 : Nat) : Int), repI [32, 32] (dOut l[i] k), s ++ (bodyP l[i] k ++ [10]))) := by
  have hx := hv _ (List.getElem_mem hi)
  have hlen := opT_len hx.2 hok
  unfold D_ref11_Print_L0
  simp only
  rw [decide_eq_true (show (i : Int) < ((l.length : Nat) : Int) by omega), cond_true, rd_get hi]
  simp only [Option.bind_some]
  rw [ref_Line _ hx, if_pos hok]
  simp only [Option.bind_some]
  rw [decide_eq_false (fun h => h rfl), cond_false]
  generalize l[i] = x at *
  have hd : (cond (decide (x.1 = 0)) (cond (decide (repI [32, 32] k ≠ [])) (gd (cutG 2 (((repI [32, 32] k).length : Nat) : Int) (repI [32, 32] k).length) (some (cutL (repI [32, 32] k) 2 (((repI [32, 32] k).length : Nat) : Int)))) (some (repI [32, 32] k))) (some (repI [32, 32] k)) : Option (List Int)) = some (repI [32, 32] (dIn x k)) := by
    unfold dIn
    by_cases h0 : x.1 = 0
    · rw [decide_eq_true h0, cond_true, if_pos h0]
      cases k with
      | zero => rfl
      | succ k =>
        have e : repI [32, 32] (k + 1) = 32 :: 32 :: repI [32, 32] k := rfl
        rw [decide_eq_true (by rw [e]; simp), cond_true, cutG_in (by rw [e]; simp; omega)]
        show some (cutL _ _ _) = _
        unfold cutL
        rw [Int.toNat_natCast, List.take_length, e]
        rfl
    · rw [decide_eq_false h0, cond_false, if_neg h0]
  rw [hd]
  simp only [Option.bind_some]
  have hdk : dIn x k ≤ k := by unfold dIn; split <;> omega
  have hr := repI_len [32, 32] (dIn x k)
  simp only [List.length_cons, List.length_nil] at hr
  rw [gd_sfits (by omega), gd_sfits (by simp only [List.length_append]; omega), gd_sfits (by simp only [List.length_append, List.length_singleton]; omega), wrapS (by omega)]
  unfold dOut bodyP
  by_cases h7 : x.1 = 7
  · rw [decide_eq_true h7, cond_true, if_pos h7, gd_sfits (by simp only [List.length_cons, List.length_nil]; omega), repI_snoc]
    simp only [List.append_assoc]
  · rw [decide_eq_false h7, cond_false, if_neg h7]
    simp only [List.append_assoc]
theorem printR_bad (hv : ∀ x ∈ l, 0 ≤ x.2.2.2.2 ∧ x.2.2.2.2 ≤ 18446744073709551615) {i : Nat} {k s : List Int} (hi : i < l.length) (hok : ¬opOk l[i]) : D_ref11_Print_L0 l ((i : Int), k, s) = some (.inr (.inl ([], 6))) := by
  unfold D_ref11_Print_L0
  simp only
  rw [decide_eq_true (show (i : Int) < ((l.length : Nat) : Int) by omega), cond_true, rd_get hi]
  simp only [Option.bind_some]
  rw [ref_Line _ (hv _ (List.getElem_mem hi)), if_neg hok]
  rfl
theorem printR_end {k s : List Int} : D_ref11_Print_L0 l (((l.length : Nat) : Int), k, s) = some (.inr (.inr s)) := by
  unfold D_ref11_Print_L0
  simp only
  rw [decide_eq_false (show ¬((l.length : Nat) : Int) < ((l.length : Nat) : Int) by omega), cond_false]
theorem print_D2 (hl : l.length ≤ 100) (hv : ∀ x ∈ l, 0 ≤ x.2.2.2.2 ∧ x.2.2.2.2 ≤ 18446744073709551615) :
    (¬reg31 n ∧ D_listing_Print n l = some ([], 2)) ∨ (reg31 n ∧ (¬∀ x ∈ l, opOk x) ∧ D_listing_Print n l = some ([], 6)) ∨ (reg31 n ∧ (∀ x ∈ l, opOk x) ∧ D_listing_Print n l = some (headT n ++ joinL (bodies l 0), 0)) := by
  unfold D_listing_Print
  by_cases h0 : n < 0
  · rw [decide_eq_true h0, cond_true]
    exact .inl ⟨by unfold reg31; omega, rfl⟩
  rw [decide_eq_false h0, cond_false]
  by_cases h1 : 2147483647 < n
  · rw [decide_eq_true h1, cond_true]
    exact .inl ⟨by unfold reg31; omega, rfl⟩
  rw [decide_eq_false h1, cond_false]
  right
  obtain ⟨m, rfl⟩ := Int.eq_ofNat_of_zero_le (show 0 ≤ n by omega)
  unfold D_strconv_Itoa
  rw [itoa_nat (by omega)]
  simp only [Option.bind_some]
  have hd := digs_len20 (n := (m : Int)) (by omega)
  rw [Int.toNat_natCast] at hd
  rw [gd_sfits (by simp; omega), gd_sfits (by simp; omega), gd_bfits (by simp; omega)]
  have hhead : ([] : List Int) ++ (([114, 101, 103, 115, 32] ++ digs m) ++ [10]) = headT (m : Int) := by
    unfold headT
    rw [Int.toNat_natCast, List.nil_append, List.append_assoc]
  have hhl : (headT (m : Int)).length ≤ 30 := by
    unfold headT
    rw [Int.toNat_natCast]
    simp
    omega
  have := loop_first (f := D_listing_Print_L0 l) (fun i => (((deepP (l.take i) 0 : Nat) : Int), headT (m : Int) ++ joinL (bodies (l.take i) 0))) l.length (by omega) (fun i => ∃ hi : i < l.length, ¬opOk l[i])
    (fun i => .inl ([], 6, headT (m : Int) ++ joinL (bodies (l.take i) 0))) (fun i hi hst hall => ?_) (fun i hi hst _ => ?_) (.inr (headT (m : Int) ++ joinL (bodies l 0))) (fun hall => ?_)
  · have e0 : ((0 : Int), (0 : Int), ([] : List Int) ++ (([114, 101, 103, 115, 32] ++ digs m) ++ [10])) = (0, (((deepP (l.take 0) 0 : Nat) : Int), headT (m : Int) ++ joinL (bodies (l.take 0) 0))) := by
      rw [hhead, List.take_zero]
      show _ = ((0 : Int), (0 : Int), headT (m : Int) ++ [])
      rw [List.append_nil]
    rcases this with ⟨i, hi, hst, _, h⟩ | ⟨hall, h⟩
    · left
      refine ⟨by unfold reg31; omega, fun hall => hst.2 (hall _ (List.getElem_mem hi)), ?_⟩
      rw [e0, h]
      rfl
    · right
      refine ⟨by unfold reg31; omega, fun x hx => ?_, ?_⟩
      · obtain ⟨j, hj, e'⟩ := List.mem_iff_getElem.1 hx
        rcases Classical.em (opOk l[j]) with h' | h'
        · rw [e'] at h'; exact h'
        · exact (hall j hj ⟨hj, h'⟩).elim
      · rw [e0, h]
        rfl
  · have hok : opOk l[i] := Classical.byContradiction fun h => hst ⟨hi, h⟩
    have hpre : ∀ x ∈ l.take i, opOk x := take_okP fun j hj hji => Classical.byContradiction fun h => hall j hji ⟨hj, h⟩
    have hl1 := bodies_len (l.take i) 0 (by rw [List.length_take]; omega) (fun x hx => ⟨(hv x (List.mem_of_mem_take hx)).2, hpre x hx⟩)
    rw [List.length_take] at hl1
    have hl2 := deepP_le (l.take i) 0
    rw [List.length_take] at hl2
    rw [printP_ok hl hv hi (by rw [List.length_append]; omega) (by omega) hok, List.take_succ_eq_append_getElem hi, bodies_app, deepP_app, joinL_app]
    show _ = some (Sum.inl (_, ((dOut l[i] (deepP (l.take i) 0) : Nat) : Int), headT (m : Int) ++ (joinL (bodies (l.take i) 0) ++ joinL [bodyP l[i] (deepP (l.take i) 0)])))
    have : joinL [bodyP l[i] (deepP (l.take i) 0)] = bodyP l[i] (deepP (l.take i) 0) ++ [10] := by unfold joinL; simp
    rw [this, List.append_assoc]
  · obtain ⟨hi, hb⟩ := hst
    exact printP_bad hv hi hb
  · show D_listing_Print_L0 l (((l.length : Nat) : Int), ((deepP (l.take l.length) 0 : Nat) : Int), headT (m : Int) ++ joinL (bodies (l.take l.length) 0)) = _
    rw [List.take_length]
    exact printP_end
theorem printR (hl : l.length ≤ 100) (hv : ∀ x ∈ l, 0 ≤ x.2.2.2.2 ∧ x.2.2.2.2 ≤ 18446744073709551615) :
    (¬reg31 n ∧ D_ref11_Print n l = some ([], 2)) ∨ (reg31 n ∧ (¬∀ x ∈ l, opOk x) ∧ D_ref11_Print n l = some ([], 6)) ∨ (reg31 n ∧ (∀ x ∈ l, opOk x) ∧ D_ref11_Print n l = some (headT n ++ joinL (bodies l 0), 0)) := by
  unfold D_ref11_Print
  by_cases h0 : n < 0
  · rw [decide_eq_true h0, cond_true]
    exact .inl ⟨by unfold reg31; omega, rfl⟩
  rw [decide_eq_false h0, cond_false]
  by_cases h1 : 2147483647 < n
  · rw [decide_eq_true h1, cond_true]
    exact .inl ⟨by unfold reg31; omega, rfl⟩
  rw [decide_eq_false h1, cond_false]
  right
  obtain ⟨m, rfl⟩ := Int.eq_ofNat_of_zero_le (show 0 ≤ n by omega)
  rw [wrapU_in (by omega), refT (by omega)]
  simp only [Option.bind_some]
  have hd := digs_len20 (n := (m : Int)) (by omega)
  rw [Int.toNat_natCast] at hd ⊢
  rw [gd_sfits (by simp; omega), gd_sfits (by simp; omega)]
  have hhead : (([114, 101, 103, 115, 32] ++ digs m) ++ [10]) = headT (m : Int) := by
    unfold headT
    rw [Int.toNat_natCast, List.append_assoc]
  have hhl : (headT (m : Int)).length ≤ 30 := by
    unfold headT
    rw [Int.toNat_natCast]
    simp
    omega
  have := loop_first (f := D_ref11_Print_L0 l) (fun i => (repI [32, 32] (deepP (l.take i) 0), headT (m : Int) ++ joinL (bodies (l.take i) 0))) l.length (by omega) (fun i => ∃ hi : i < l.length, ¬opOk l[i])
    (fun i => .inl ([], 6)) (fun i hi hst hall => ?_) (fun i hi hst _ => ?_) (.inr (headT (m : Int) ++ joinL (bodies l 0))) (fun hall => ?_)
  · have e0 : ((0 : Int), ([] : List Int), (([114, 101, 103, 115, 32] ++ digs m) ++ [10])) = (0, (repI [32, 32] (deepP (l.take 0) 0), headT (m : Int) ++ joinL (bodies (l.take 0) 0))) := by
      rw [hhead, List.take_zero]
      show _ = ((0 : Int), ([] : List Int), headT (m : Int) ++ [])
      rw [List.append_nil]
    rcases this with ⟨i, hi, hst, _, h⟩ | ⟨hall, h⟩
    · left
      refine ⟨by unfold reg31; omega, fun hall => hst.2 (hall _ (List.getElem_mem hi)), ?_⟩
      rw [e0, h]
      rfl
    · right
      refine ⟨by unfold reg31; omega, fun x hx => ?_, ?_⟩
      · obtain ⟨j, hj, e'⟩ := List.mem_iff_getElem.1 hx
        rcases Classical.em (opOk l[j]) with h' | h'
        · rw [e'] at h'; exact h'
        · exact (hall j hj ⟨hj, h'⟩).elim
      · rw [e0, h]
        rfl
  · have hok : opOk l[i] := Classical.byContradiction fun h => hst ⟨hi, h⟩
    have hpre : ∀ x ∈ l.take i, opOk x := take_okP fun j hj hji => Classical.byContradiction fun h => hall j hji ⟨hj, h⟩
    have hl1 := bodies_len (l.take i) 0 (by rw [List.length_take]; omega) (fun x hx => ⟨(hv x (List.mem_of_mem_take hx)).2, hpre x hx⟩)
    rw [List.length_take] at hl1
    have hl2 := deepP_le (l.take i) 0
    rw [List.length_take] at hl2
    rw [printR_ok hl hv hi (by rw [List.length_append]; omega) (by omega) hok, List.take_succ_eq_append_getElem hi, bodies_app, deepP_app, joinL_app]
    show _ = some (Sum.inl (_, repI [32, 32] (dOut l[i] (deepP (l.take i) 0)), headT (m : Int) ++ (joinL (bodies (l.take i) 0) ++ joinL [bodyP l[i] (deepP (l.take i) 0)])))
    have : joinL [bodyP l[i] (deepP (l.take i) 0)] = bodyP l[i] (deepP (l.take i) 0) ++ [10] := by unfold joinL; simp
    rw [this, List.append_assoc]
  · obtain ⟨hi, hb⟩ := hst
    exact printR_bad hv hi hb
  · show D_ref11_Print_L0 l (((l.length : Nat) : Int), repI [32, 32] (deepP (l.take l.length) 0), headT (m : Int) ++ joinL (bodies (l.take l.length) 0)) = _
    rw [List.take_length]
    exact printR_end
end
theorem law11_prints (a0 : Int) (a1 : List Op5) (a2 a3 a4 a5 a6 : Int) (hv : ∀ x ∈ a1, 0 ≤ x.2.2.2.2 ∧ x.2.2.2.2 ≤ 18446744073709551615) (h6 : 0 ≤ a6 ∧ a6 ≤ 18446744073709551615) : D_law11_ListingPrints a0 a1 a2 a3 a4 a5 a6 = some true := by
  unfold D_law11_ListingPrints
  by_cases h : 100 < a1.length
  · rw [decide_eq_true (show (100 : Int) < ((a1.length : Nat) : Int) by omega), cond_true, goes11]
    rfl
  rw [decide_eq_false (show ¬(100 : Int) < ((a1.length : Nat) : Int) by omega), cond_false]
  have e : D_ref11_Print a0 a1 = D_listing_Print a0 a1 := by
    rcases print_D2 (n := a0) (l := a1) (by omega) hv with ⟨p1, hp⟩ | ⟨p1, p2, hp⟩ | ⟨p1, p2, hp⟩ <;> rcases printR (n := a0) (l := a1) (by omega) hv with ⟨q1, hq⟩ | ⟨q1, q2, hq⟩ | ⟨q1, q2, hq⟩
    all_goals first | (rw [hp, hq]; done) | exact (p1 q1).elim | exact (q1 p1).elim | exact (p2 q2).elim | exact (q2 p2).elim
  have hs : ∃ r, D_listing_Print a0 a1 = some r := by
    rcases print_D2 (n := a0) (l := a1) (by omega) hv with ⟨p1, hp⟩ | ⟨p1, p2, hp⟩ | ⟨p1, p2, hp⟩ <;> exact ⟨_, hp⟩
  obtain ⟨r, hr⟩ := hs
  rw [e, hr]
  have l1 := line_D (a2, a3, a4, a5, a6) h6
  have l2 := ref_Line (a2, a3, a4, a5, a6) h6
  simp only at l1 l2
  rw [l1, l2, goes11]
  simp only [Option.bind_some, decide_true, cond_true]
end Go.V
