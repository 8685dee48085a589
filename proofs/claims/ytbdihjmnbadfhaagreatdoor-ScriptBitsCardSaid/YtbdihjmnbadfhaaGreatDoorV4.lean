/- The value machine: lists off cells. -/
import Derived.Test.YtbdihjmnbadfhaaGreatDoorV3
namespace Go.V
set_option linter.unusedVariables false
set_option linter.unusedSimpArgs false
open Go.Ab

theorem w_pos : ∀ s : Sh, 1 ≤ s.w
  | .int _ => Nat.le_refl _
  | .bool => Nat.le_refl _
  | .str => Nat.le_refl _
  | .list _ => Nat.le_refl _
  | .pair a _ => Nat.le_trans (w_pos a) (Nat.le_add_right _ _)
theorem toCells_len : ∀ (s : Sh) (x : El s), (toCells s x).length = s.w
  | .int _, _ => rfl
  | .bool, _ => rfl
  | .str, _ => rfl
  | .list _, _ => rfl
  | .pair a b, x => by
    simp only [toCells, List.length_append, Sh.w]
    rw [toCells_len a, toCells_len b]
theorem flatL_nil {s : Sh} : flatL s [] = [] := rfl
theorem flatL_cons {s : Sh} {x : El s} {l : List (El s)} : flatL s (x :: l) = toCells s x ++ flatL s l := rfl
theorem flatL_len {s : Sh} {l : List (El s)} : (flatL s l).length = l.length * s.w := by
  induction l with
  | nil => simp [flatL_nil]
  | cons x l ih => rw [flatL_cons, List.length_append, toCells_len, ih, List.length_cons, Nat.succ_mul, Nat.add_comm]
theorem flatL_app {s : Sh} {l m : List (El s)} : flatL s (l ++ m) = flatL s l ++ flatL s m := List.flatMap_append
theorem flatL_take {s : Sh} {l : List (El s)} {n : Nat} : flatL s (l.take n) = (flatL s l).take (n * s.w) := by
  induction l generalizing n with
  | nil => simp [flatL_nil]
  | cons x l ih =>
    cases n with
    | zero => simp [flatL_nil]
    | succ n =>
      rw [List.take_succ_cons, flatL_cons, flatL_cons, ih, List.take_append, toCells_len]
      have h1 : (n + 1) * s.w - s.w = n * s.w := by rw [Nat.succ_mul]; omega
      rw [h1, List.take_of_length_le (l := toCells s x) (by rw [toCells_len, Nat.succ_mul]; omega)]
theorem flatL_drop {s : Sh} {l : List (El s)} {n : Nat} : flatL s (l.drop n) = (flatL s l).drop (n * s.w) := by
  induction l generalizing n with
  | nil => simp [flatL_nil]
  | cons x l ih =>
    cases n with
    | zero => simp
    | succ n =>
      rw [List.drop_succ_cons, flatL_cons, ih, List.drop_append, toCells_len]
      have h1 : (n + 1) * s.w - s.w = n * s.w := by rw [Nat.succ_mul]; omega
      rw [h1, List.drop_of_length_le (l := toCells s x) (by rw [toCells_len, Nat.succ_mul]; omega), List.nil_append]
theorem flatL_get {s : Sh} {l : List (El s)} {i : Nat} {x : El s} (h : l[i]? = some x) : ((flatL s l).drop (i * s.w)).take s.w = toCells s x := by
  rw [← flatL_drop]
  have hi : i < l.length := by
    rcases Nat.lt_or_ge i l.length with h1 | h1
    · exact h1
    · rw [List.getElem?_eq_none h1] at h; cases h
  have h2 : l.drop i = x :: l.drop (i + 1) := by
    rw [List.drop_eq_getElem_cons hi]
    rw [List.getElem?_eq_getElem hi] at h
    injection h with h
    rw [h]
  rw [h2, flatL_cons, List.take_append, toCells_len, Nat.sub_self, List.take_zero, List.append_nil, List.take_of_length_le (by rw [toCells_len]; exact Nat.le_refl _)]

theorem castEl_some {s' s : Sh} {x : El s'} {y : El s} (h : castEl s' s x = some y) : ∃ e : s' = s, y = e ▸ x := by
  unfold castEl at h
  split at h
  · rename_i e
    injection h with h
    exact ⟨e, h.symm⟩
  · cases h
theorem castEl_self {s : Sh} {x : El s} : castEl s s x = some x := by
  unfold castEl
  rw [dif_pos rfl]

theorem F2.app_left {α β : Type} {r : α → β → Prop} {l l' : List α} {m : List β} (h : F2 r (l ++ l') m) : ∃ m1 m2, m = m1 ++ m2 ∧ F2 r l m1 ∧ F2 r l' m2 := by
  induction l generalizing m with
  | nil => exact ⟨[], m, rfl, .nil, h⟩
  | cons a l ih =>
    cases h with
    | cons h1 h2 =>
      obtain ⟨m1, m2, rfl, h3, h4⟩ := ih h2
      exact ⟨_ :: m1, m2, rfl, .cons h1 h3, h4⟩

/-- A list that stands at a slice. -/
def ListAt (c : Ctx) (s : Sh) (l : List (El s)) (a : Value) : Prop :=
  (∃ q : Option Addr, a = .slice q 0 0 ∧ l = [] ∧ ∀ z, q = some z → z.spot = none) ∨ ∃ b p cp y, a = .slice (some ⟨b, p, none⟩) l.length cp ∧ c.σ.m b = some y ∧ y.es = s.w ∧ l.length ≤ cp ∧ p + l.length * s.w ≤ y.cells.length ∧ F2 (VRel c) (flatL s l) ((y.cells.drop p).take (l.length * s.w))
theorem ListAt.rel {c : Ctx} {s : Sh} {l : List (El s)} {a : Value} (h : ListAt c s l a) (hn : ∀ b p n cp, a = .slice (some ⟨b, p, none⟩) n cp → cp ≠ 0 → ¬c.mut b) : VRel c (.lst s l) a := by
  rcases h with ⟨q, rfl, rfl, hq⟩ | ⟨b, p, cp, y, rfl, h1, h2, h3, h4, h5⟩
  · exact .lstn hq
  · by_cases hc : cp = 0
    · subst hc
      have : l = [] := List.length_eq_zero_iff.1 (by omega)
      subst this
      exact .lstn fun z hz => by injection hz with hz; rw [← hz]
    · exact .lst (hn _ _ _ _ rfl hc) h1 h2 rfl h3 h4 h5
theorem VRel.listAt {c : Ctx} {s : Sh} {l : List (El s)} {a : Value} (h : VRel c (.lst s l) a) : ListAt c s l a := by
  cases h with
  | lstn hq => exact .inl ⟨_, rfl, rfl, hq⟩
  | lst hn hy he h1 h2 h3 h4 => subst h1; exact .inr ⟨_, _, _, _, rfl, hy, he, h2, h3, h4⟩
theorem VRel.lst_mut {c : Ctx} {s : Sh} {l : List (El s)} {b p n cp : Nat} (h : VRel c (.lst s l) (.slice (some ⟨b, p, none⟩) n cp)) (hc : cp ≠ 0) : ¬c.mut b := by
  cases h with
  | lstn => exact (hc rfl).elim
  | lst hn => exact hn

theorem Rel.fz_mut {c : Ctx} (hR : Rel c) {k b : Nat} (hk : (sget c.S k).frozen = true) (hd : (sget c.S k).dim ≠ none) (hm : c.μ k = some b) : ¬c.mut b := by
  rintro (⟨k', h1, h2⟩ | h)
  · have := hR.inj k' k b h1 hd h2 hm
    subst this
    rw [h1] at hk
    cases hk
  · exact hR.fbk k b hd hm h

/-- What f takes off cells stands there. -/
def Takes (c : Ctx) (s : Sh) (f : List VV → Option (El s × List VV)) : Prop := ∀ cells x rest, f cells = some (x, rest) →
  ∃ pre, cells = pre ++ rest ∧ pre.length = s.w ∧ ∀ as, F2 (VRel c) pre as → F2 (VRel c) (toCells s x) as
theorem chunk_rel {c : Ctx} {s : Sh} {f : List VV → Option (El s × List VV)} (hf : Takes c s f) : ∀ (n : Nat) (cells : List VV) (l : List (El s)), chunk f n cells = some l →
    cells.length = l.length * s.w ∧ ∀ as, F2 (VRel c) cells as → F2 (VRel c) (flatL s l) as
  | n, [], l, h => by
    have : l = [] := by cases n <;> simpa [chunk] using h.symm
    subst this
    exact ⟨by simp, fun as ha => ha⟩
  | 0, _ :: _, _, h => by simp [chunk] at h
  | n + 1, v :: r, l, h => by
    simp only [chunk] at h
    cases h1 : f (v :: r) with
    | none => rw [h1] at h; cases h
    | some p =>
      obtain ⟨x, rest⟩ := p
      rw [h1] at h
      simp only [Option.bind_some] at h
      cases h2 : chunk f n rest with
      | none => rw [h2] at h; cases h
      | some l' =>
        rw [h2] at h
        injection h with h
        subst h
        obtain ⟨pre, h3, h4, h5⟩ := hf _ _ _ h1
        obtain ⟨h6, h7⟩ := chunk_rel hf n rest l' h2
        refine ⟨by rw [h3, List.length_append, h4, h6, List.length_cons, Nat.succ_mul, Nat.add_comm], fun as ha => ?_⟩
        rw [h3] at ha
        obtain ⟨m1, m2, rfl, h8, h9⟩ := F2.app_left ha
        exact (h5 _ h8).append (h7 _ h9)

/-- A block's list. -/
theorem blkList_rel {c : Ctx} {s : Sh} {f : List VV → Option (El s × List VV)} (hf : Takes c s f) {k : Nat} {l : List (El s)} (h : blkList s f (sget c.S k) = some l) :
    ∃ d, (sget c.S k).dim = some d ∧ d.1 = s.w ∧ d.2 = l.length * s.w ∧ ∀ as, F2 (VRel c) (sget c.S k).vals as → F2 (VRel c) (flatL s l) as := by
  generalize sget c.S k = b at h
  cases b with
  | dead => cases h
  | arr s' z m =>
    obtain ⟨e, h1⟩ := castEl_some h
    cases e
    subst h1
    exact ⟨_, rfl, rfl, rfl, fun _ h => h⟩
  | cells es z m =>
    simp only [blkList] at h
    cases he : Nat.beq es s.w with
    | false => rw [he] at h; cases h
    | true =>
      rw [he, cond_true] at h
      obtain ⟨h1, h2⟩ := chunk_rel hf _ _ _ h
      exact ⟨_, rfl, Nat.eq_of_beq_eq_true he, h1, h2⟩

theorem blk_listAt {c : Ctx} (hR : Rel c) {s : Sh} {f : List VV → Option (El s × List VV)} (hf : Takes c s f) {k lo n : Nat} {l : List (El s)} {d : Nat × Nat} {a : Value} (h : blkList s f (sget c.S k) = some l)
    (hd : (sget c.S k).dim = some d) (hs : SlR c k lo n d a) : ListAt c s ((l.drop lo).take n) a ∧ ((l.drop lo).take n).length = n := by
  obtain ⟨d', h1, h2, h3, h4⟩ := blkList_rel hf h
  rw [hd] at h1
  injection h1 with h1
  subst h1
  obtain ⟨h0, hb⟩ := hR.blk k d hd
  have hw := w_pos s
  rcases hs with ⟨rfl, rfl, rfl, hm, hz⟩ | ⟨b, cp, y, rfl, hm, h5, h6, hy, h7⟩
  · have : l.length = 0 := by
      rw [hz] at h3
      rcases Nat.eq_zero_or_pos l.length with h | h
      · exact h
      · have := Nat.mul_pos h hw; omega
    rw [List.length_eq_zero_iff] at this
    subst this
    exact ⟨.inl ⟨none, rfl, by simp, fun z hz => by cases hz⟩, by simp⟩
  · have hln : lo + n ≤ l.length := by
      rw [h2, h3] at h5
      exact Nat.le_of_mul_le_mul_right h5 hw
    have hlen : ((l.drop lo).take n).length = n := by rw [List.length_take, List.length_drop]; omega
    refine ⟨.inr ⟨b, lo * d.1, cp, y, by rw [hlen], hy, ?_, by rw [hlen]; exact h6, ?_, ?_⟩, hlen⟩
    · rcases hb with ⟨h8, h9⟩ | ⟨b', y', cs, rest, h8, h9, h10, _⟩
      · rw [h9] at hm; cases hm
      · rw [hm] at h8
        injection h8 with h8
        subst h8
        rw [hy] at h9
        injection h9 with h9
        subst h9
        rw [h10, h2]
    · rw [hlen]
      have := Nat.mul_le_mul_right d.1 h6
      rw [Nat.add_mul] at h7
      rw [← h2]
      omega
    · rcases hb with ⟨h8, h9⟩ | ⟨b', y', cs, rest, h8, h9, h10, _, h12, h13⟩
      · rw [h9] at hm; cases hm
      · rw [hm] at h8
        injection h8 with h8
        subst h8
        rw [hy] at h9
        injection h9 with h9
        subst h9
        have h14 := h4 _ h13
        have h15 : cs.length = l.length * s.w := by rw [← h14.length, flatL_len]
        rw [hlen, flatL_take, flatL_drop, h2, h12, List.drop_append_of_le_length (by rw [h15]; exact Nat.mul_le_mul_right _ (by omega)), List.take_append_of_le_length]
        · exact (h14.drop _).take _
        · rw [List.length_drop, h15, ← Nat.sub_mul]
          exact Nat.mul_le_mul_right _ (by omega)

theorem full_listAt {c : Ctx} (hR : Rel c) {s : Sh} {f : List VV → Option (El s × List VV)} (hf : Takes c s f) {k : Nat} {l : List (El s)} {a : Value} (h : blkList s f (sget c.S k) = some l) (hv : VRel c (.full k) a) : ListAt c s l a := by
  obtain ⟨d, h1, h2, h3, h4⟩ := blkList_rel hf h
  cases hv with
  | full hk _ hd =>
    obtain ⟨n, h5, h6⟩ := hd d h1
    have hn : n = l.length := by
      rw [h2, h3] at h5
      exact Nat.eq_of_mul_eq_mul_right (w_pos s) h5
    have := (blk_listAt hR hf h h1 h6).1
    rwa [List.drop_zero, List.take_of_length_le (by omega)] at this

theorem part_listAt {c : Ctx} (hR : Rel c) {s : Sh} {f : List VV → Option (El s × List VV)} (hf : Takes c s f) {k lo n : Nat} {l : List (El s)} {a : Value} (h : blkList s f (sget c.S k) = some l) (hv : VRel c (.part k lo n) a) :
    ListAt c s ((l.drop lo).take n) a ∧ ((l.drop lo).take n).length = n := by
  obtain ⟨d, h1, h2, h3, h4⟩ := blkList_rel hf h
  cases hv with
  | part hk _ hd => exact blk_listAt hR hf h h1 (hd d h1)

/-- What a value refers to, as a slice that may be written. -/
def handle : VV → Option Nat
  | .full k => some k
  | .part k _ _ => some k
  | _ => none

theorem SlR.addr {c : Ctx} {k lo n : Nat} {d : Nat × Nat} {b p m cp : Nat} (h : SlR c k lo n d (.slice (some ⟨b, p, none⟩) m cp)) : c.μ k = some b := by
  rcases h with ⟨h, _⟩ | ⟨b', cp', y, h, hm, _⟩
  · cases h
  · injection h with h1 h2 h3
    injection h1 with h1
    injection h1 with h1
    subst h1
    exact hm

theorem listOf_at {c : Ctx} (hR : Rel c) {s : Sh} {f : List VV → Option (El s × List VV)} (hf : Takes c s f) {v : VV} {l : List (El s)} {a : Value} (h : listOf c.S s f v = some l) (hv : VRel c v a) :
    ListAt c s l a ∧ ∀ b p n cp, a = .slice (some ⟨b, p, none⟩) n cp → cp ≠ 0 → ¬c.mut b ∨ ∃ k, handle v = some k ∧ (sget c.S k).dim ≠ none ∧ c.μ k = some b := by
  cases v <;> simp only [listOf] at h <;> try (cases h; done)
  case nils =>
    injection h with h
    subst h
    cases hv
    exact ⟨.inl ⟨none, rfl, rfl, fun z hz => by cases hz⟩, fun b p n cp e => by cases e⟩
  case lst s' l' =>
    obtain ⟨e, h1⟩ := castEl_some h
    cases e
    subst h1
    refine ⟨hv.listAt, fun b p n cp e hc => .inl ?_⟩
    subst e
    exact hv.lst_mut hc
  case full k =>
    refine ⟨full_listAt hR hf h hv, fun b p n cp e _ => .inr ⟨k, rfl, ?_⟩⟩
    obtain ⟨d, h1, _⟩ := blkList_rel hf h
    subst e
    cases hv with
    | full hk _ hd =>
      obtain ⟨_, _, h6⟩ := hd d h1
      exact ⟨by rw [h1]; simp, h6.addr⟩
  case part k lo m =>
    cases h0 : blkList s f (sget c.S k) with
    | none => rw [h0] at h; cases h
    | some l0 =>
      rw [h0] at h
      injection h with h
      subst h
      refine ⟨(part_listAt hR hf h0 hv).1, fun b p n cp e _ => .inr ⟨k, rfl, ?_⟩⟩
      obtain ⟨d, h1, _⟩ := blkList_rel hf h0
      subst e
      cases hv with
      | part hk _ hd => exact ⟨by rw [h1]; simp, (hd d h1).addr⟩

theorem listFz_rel {c : Ctx} (hR : Rel c) {s : Sh} {f : List VV → Option (El s × List VV)} (hf : Takes c s f) {v : VV} {l : List (El s)} {a : Value} (h : listFz c.S s f v = some l) (hv : VRel c v a) : VRel c (.lst s l) a := by
  have key : listOf c.S s f v = some l ∧ ∀ k, handle v = some k → (sget c.S k).frozen = true := by
    unfold listFz at h
    split at h
    · rename_i k
      cases hz : (sget c.S k).frozen with
      | false => rw [hz] at h; cases h
      | true =>
        rw [hz] at h
        exact ⟨h, fun k' e => by cases e; exact hz⟩
    · rename_i k lo n
      cases hz : (sget c.S k).frozen with
      | false => rw [hz] at h; cases h
      | true =>
        rw [hz] at h
        exact ⟨h, fun k' e => by cases e; exact hz⟩
    · rename_i h1 h2
      refine ⟨h, fun k e => ?_⟩
      cases v <;> simp only [handle] at e <;> try (cases e; done)
      · exact (h1 _ rfl).elim
      · exact (h2 _ _ _ rfl).elim
  obtain ⟨h1, h2⟩ := listOf_at hR hf key.1 hv
  refine h1.rel fun b p n cp e hc => ?_
  rcases h2 b p n cp e hc with h3 | ⟨k, h3, h4, h5⟩
  · exact h3
  · exact hR.fz_mut (key.2 k h3) h4 h5

theorem ofCells_takes {c : Ctx} (hR : Rel c) : ∀ s : Sh, Takes c s (ofCells c.S s)
  | .int k, cells, x, rest, h => by
    cases cells with
    | nil => simp [ofCells] at h
    | cons v r =>
      cases v <;> simp only [ofCells] at h <;> try (cases h; done)
      rename_i k' n
      cases hk : decide (k' = k) with
      | false => rw [hk] at h; cases h
      | true =>
        rw [hk] at h
        injection h with h
        injection h with h1 h2
        subst h1; subst h2
        have := of_decide_eq_true hk
        subst this
        exact ⟨[_], rfl, rfl, fun _ h => h⟩
  | .bool, cells, x, rest, h => by
    cases cells with
    | nil => simp [ofCells] at h
    | cons v r =>
      cases v <;> simp only [ofCells] at h <;> try (cases h; done)
      injection h with h
      injection h with h1 h2
      subst h1; subst h2
      exact ⟨[_], rfl, rfl, fun _ h => h⟩
  | .str, cells, x, rest, h => by
    cases cells with
    | nil => simp [ofCells] at h
    | cons v r =>
      cases v <;> simp only [ofCells] at h <;> try (cases h; done)
      injection h with h
      injection h with h1 h2
      subst h1; subst h2
      exact ⟨[_], rfl, rfl, fun _ h => h⟩
  | .list s, cells, x, rest, h => by
    cases cells with
    | nil => simp [ofCells] at h
    | cons v r =>
      simp only [ofCells] at h
      cases h1 : listFz c.S s (ofCells c.S s) v with
      | none => rw [h1] at h; cases h
      | some l =>
        rw [h1] at h
        injection h with h
        injection h with h2 h3
        subst h2; subst h3
        refine ⟨[v], rfl, rfl, fun as ha => ?_⟩
        cases ha with
        | cons ha hn =>
          cases hn
          exact .cons (listFz_rel hR (ofCells_takes hR s) h1 ha) .nil
  | .pair a b, cells, x, rest, h => by
    simp only [ofCells] at h
    cases h1 : ofCells c.S a cells with
    | none => rw [h1] at h; cases h
    | some p =>
      obtain ⟨y, r1⟩ := p
      rw [h1] at h
      simp only [Option.bind_some] at h
      cases h2 : ofCells c.S b r1 with
      | none => rw [h2] at h; cases h
      | some q =>
        obtain ⟨z, r2⟩ := q
        rw [h2] at h
        injection h with h
        injection h with h3 h4
        subst h3; subst h4
        obtain ⟨p1, rfl, hl1, hf1⟩ := ofCells_takes hR a _ _ _ h1
        obtain ⟨p2, rfl, hl2, hf2⟩ := ofCells_takes hR b _ _ _ h2
        refine ⟨p1 ++ p2, by rw [List.append_assoc], by rw [List.length_append, hl1, hl2]; rfl, fun as ha => ?_⟩
        obtain ⟨m1, m2, rfl, h5, h6⟩ := F2.app_left ha
        exact (hf1 _ h5).append (hf2 _ h6)

theorem listV_at {c : Ctx} (hR : Rel c) {s : Sh} {v : VV} {l : List (El s)} {a : Value} (h : listV c.S s v = some l) (hv : VRel c v a) :
    ListAt c s l a ∧ ∀ b p n cp, a = .slice (some ⟨b, p, none⟩) n cp → cp ≠ 0 → ¬c.mut b ∨ ∃ k, handle v = some k ∧ (sget c.S k).dim ≠ none ∧ c.μ k = some b :=
  listOf_at hR (ofCells_takes hR s) h hv
end Go.V
