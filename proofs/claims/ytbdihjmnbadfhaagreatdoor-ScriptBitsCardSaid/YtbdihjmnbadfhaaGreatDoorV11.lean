/- The value machine: states told by leaves: values and blocks. -/
import Derived.Test.YtbdihjmnbadfhaaGreatDoorV10s
namespace Go.V
set_option linter.unusedVariables false
set_option linter.unusedSimpArgs false
open Go.Ab

/-- Things that refer to no block stay what they are, where what nobody wrote is written by nobody. -/
structure Still (c ct : Ctx) : Prop where
  σ : ct.σ = c.σ
  nm : ∀ b y, c.σ.m b = some y → ¬c.mut b → ¬ct.mut b
section
variable {c ct : Ctx}
theorem toCells_still (h : Still c ct) : ∀ (s : Sh) (x : El s) (as : List Value), F2 (VRel c) (toCells s x) as → F2 (VRel ct) (toCells s x) as
  | .int k, n, as, hf => by
    cases hf with
    | cons h1 h2 => cases h2; cases h1; exact .cons (.int _ _) .nil
  | .bool, b, as, hf => by
    cases hf with
    | cons h1 h2 => cases h2; cases h1; exact .cons (.bool _) .nil
  | .str, l, as, hf => by
    cases hf with
    | cons h1 h2 => cases h2; cases h1; exact .cons (.str (by assumption)) .nil
  | .list s, l, as, hf => by
    cases hf with
    | cons h1 h2 =>
      cases h2
      refine .cons ?_ .nil
      cases h1 with
      | lstn hq => exact .lstn hq
      | lst hn hy he h3 h4 h5 h6 =>
        refine .lst (h.nm _ _ hy hn) (by rw [h.σ]; exact hy) he h3 h4 h5 ?_
        clear hy he h4 h5 hn
        subst h3
        revert h6
        rename_i b p cp y
        generalize (y.cells.drop _).take _ = as
        clear y cp p b
        intro h6
        induction l generalizing as with
        | nil => cases h6; exact .nil
        | cons x l ih =>
          rw [flatL_cons] at h6 ⊢
          obtain ⟨m1, m2, rfl, h7, h8⟩ := F2.app_left h6
          exact (toCells_still h s x m1 h7).append (ih _ h8)
  | .pair a b, x, as, hf => by
    simp only [toCells] at hf ⊢
    obtain ⟨m1, m2, rfl, h7, h8⟩ := F2.app_left hf
    exact (toCells_still h a x.1 m1 h7).append (toCells_still h b x.2 m2 h8)
theorem flatL_still (h : Still c ct) {s : Sh} {l : List (El s)} : ∀ {as : List Value}, F2 (VRel c) (flatL s l) as → F2 (VRel ct) (flatL s l) as := by
  induction l with
  | nil => intro as h6; cases h6; exact .nil
  | cons x l ih =>
    intro as h6
    rw [flatL_cons] at h6 ⊢
    obtain ⟨m1, m2, rfl, h7, h8⟩ := F2.app_left h6
    exact (toCells_still h s x m1 h7).append (ih h8)
theorem ListAt.still (h : Still c ct) {s : Sh} {l : List (El s)} {a : Value} (hl : ListAt c s l a) : ListAt ct s l a := by
  rcases hl with h1 | ⟨b, p, cp, y, h1, h2, h3, h4, h5, h6⟩
  · exact .inl h1
  · exact .inr ⟨b, p, cp, y, h1, by rw [h.σ]; exact h2, h3, h4, h5, flatL_still h h6⟩

/-! ### How far a state has been told -/
structure Sub (st st' : DSt) : Prop where
  m : ∃ t, st'.m = st.m ++ t
  lent : ∀ k ∈ st.lent, k ∈ st'.lent
theorem Sub.refl (st : DSt) : Sub st st := ⟨⟨[], by simp⟩, fun _ h => h⟩
theorem Sub.trans {a b d : DSt} (h : Sub a b) (k : Sub b d) : Sub a d := by
  obtain ⟨t, h1⟩ := h.m
  obtain ⟨u, h2⟩ := k.m
  exact ⟨⟨t ++ u, by rw [h2, h1, List.append_assoc]⟩, fun i hi => k.lent i (h.lent i hi)⟩
def Linked (N : Nat) (m : List (Option Src)) (j : Nat) (x : Option Src) : Prop := (j < N ∧ x = some ⟨j, none⟩) ∨ (N ≤ j ∧ nth m (j - N) = some x)
theorem nth_app {α : Type} {l t : List α} {i : Nat} {x : α} (h : nth l i = some x) : nth (l ++ t) i = some x := by
  rw [nth_eq] at h ⊢
  have hi : i < l.length := by
    rcases Nat.lt_or_ge i l.length with h1 | h1
    · exact h1
    · rw [List.getElem?_eq_none h1] at h; cases h
  rw [List.getElem?_append_left hi]
  exact h
theorem Linked.sub {N : Nat} {st st' : DSt} (hs : Sub st st') {j : Nat} {x : Option Src} (h : Linked N st.m j x) : Linked N st'.m j x := by
  rcases h with h | ⟨h1, h2⟩
  · exact .inl h
  · obtain ⟨t, h3⟩ := hs.m
    exact .inr ⟨h1, by rw [h3]; exact nth_app h2⟩
theorem link_ok {N : Nat} {st st' : DSt} {j : Nat} {x : Option Src} (h : st.link N j x = some st') : Linked N st'.m j x ∧ st'.ls = st.ls ∧ st'.lent = st.lent ∧ Sub st st' := by
  unfold DSt.link at h
  cases hb : Nat.blt j N with
  | true =>
    rw [hb, cond_true] at h
    split at h
    · rename_i k
      cases hk : Nat.beq k j with
      | false => rw [hk] at h; cases h
      | true =>
        rw [hk] at h
        injection h with h
        subst h
        have := Nat.eq_of_beq_eq_true hk
        subst this
        exact ⟨.inl ⟨Nat.le_of_ble_eq_true hb, rfl⟩, rfl, rfl, Sub.refl _⟩
    · cases h
  | false =>
    rw [hb, cond_false] at h
    have hN : N ≤ j := by
      rcases Nat.lt_or_ge j N with h1 | h1
      · rw [show Nat.blt j N = true from Nat.ble_eq_true_of_le h1] at hb; cases hb
      · exact h1
    split at h
    · rename_i k hn
      split at h
      · rename_i k'
        cases hk : Nat.beq k k' with
        | false => rw [hk] at h; cases h
        | true =>
          rw [hk] at h
          injection h with h
          subst h
          have := Nat.eq_of_beq_eq_true hk
          subst this
          exact ⟨.inr ⟨hN, hn⟩, rfl, rfl, Sub.refl _⟩
      · cases h
    · cases h
    · rename_i hn
      cases hk : Nat.beq (j - N) st.m.length with
      | false => rw [hk] at h; cases h
      | true =>
        rw [hk] at h
        injection h with h
        subst h
        have := Nat.eq_of_beq_eq_true hk
        refine ⟨.inr ⟨hN, ?_⟩, rfl, rfl, ⟨⟨[x], rfl⟩, fun _ h => h⟩⟩
        rw [nth_eq, this]
        simp

/-- A block of the one state is what a block of the other one was. -/
def Lk (c ct : Ctx) (x : Option Src) (k' : Nat) : Prop := k' < ct.S.length ∧ ∀ d', (sget ct.S k').dim = some d' → match x with
  | none => d'.2 = 0 ∧ ct.μ k' = none
  | some ⟨k, cut⟩ => ∃ d, (sget c.S k).dim = some d ∧ d'.1 = d.1 ∧ ct.μ k' = c.μ k ∧ (match cut with
    | none => d'.2 = d.2
    | some n => d'.2 = min (n * d.1) d.2)
structure Tell (c ct : Ctx) (N : Nat) (f : Nat → Nat) (stf : DSt) : Prop extends Still c ct where
  lk : ∀ j x, Linked N stf.m j x → Lk c ct x (f j)
  lent : ∀ k, k ∈ stf.lent → (sget c.S k).dim ≠ none → ∀ b, c.μ k = some b → ¬ct.mut b

theorem SlR.tell {k k' n : Nat} {d : Nat × Nat} {d2' : Nat} {a : Value} (hσ : ct.σ = c.σ) (hμ : ct.μ k' = c.μ k) (h2 : d2' = n * d.1) (h : SlR c k 0 n d a) : SlR ct k' 0 n (d.1, d2') a := by
  rcases h with ⟨h1, _, h3, h4, h5⟩ | ⟨b, cp, y, h1, h3, h4, h5, h6, h7⟩
  · exact .inl ⟨h1, rfl, h3, hμ.trans h4, by rw [h2, h3]; simp⟩
  · exact .inr ⟨b, cp, y, h1, hμ.trans h3, by rw [h2, Nat.zero_add]; exact Nat.le_refl _, h5, by rw [hσ]; exact h6, h7⟩

theorem decl_leaf {N : Nat} {f : Nat → Nat} {stf : DSt} (hR : Rel c) (hT : Tell c ct N f stf) {s : Sh} {v : VV} {l : List (El s)} {a : Value} (h : listV c.S s v = some l) (hv : VRel c v a) (hl : ∀ k, handle v = some k → k ∈ stf.lent) : VRel ct (.lst s l) a := by
  obtain ⟨h1, h2⟩ := listV_at hR h hv
  refine (h1.still hT.toStill).rel fun b p n cp e hc => ?_
  rcases h2 b p n cp e hc with h3 | ⟨k, h3, h4, h5⟩
  · rcases h1 with ⟨q, e1, _⟩ | ⟨b', p', cp', y, e1, e2, _⟩
    · rw [e1] at e
      injection e with _ _ e
      exact (hc e.symm).elim
    · rw [e1] at e
      injection e with e _ _
      injection e with e
      injection e with e
      subst e
      exact hT.nm _ _ e2 h3
  · exact hT.lent k (hl k h3) h4 b h5
theorem lend_lent {st : DSt} {v : VV} : (∀ k, handle v = some k → k ∈ (st.lend v).lent) ∧ (st.lend v).m = st.m ∧ (st.lend v).ls = st.ls ∧ (∀ k ∈ st.lent, k ∈ (st.lend v).lent) := by
  cases v <;> refine ⟨fun k h => ?_, rfl, rfl, fun k h => ?_⟩ <;> first | (cases h; done) | (injection h with h; subst h; exact List.mem_cons_self) | exact List.mem_cons_of_mem _ h | exact h

mutual
theorem dec_sub {S : Store} {N : Nat} : ∀ (sk : Sk) (v : VV) (st st1 : DSt), dec S N sk v st = some st1 → Sub st st1
  | .undef, v, st, st1, h => by
    simp only [dec] at h
    injection h with h; subst h; exact Sub.refl _
  | .leaf s, v, st, st1, h => by
    simp only [dec] at h
    split at h
    · rename_i k k' n
      cases hk : decide (k' = k) with
      | false => rw [hk] at h; cases h
      | true => rw [hk] at h; injection h with h; subst h; exact ⟨⟨[], by simp [DSt.push]⟩, fun _ h => h⟩
    · injection h with h; subst h; exact ⟨⟨[], by simp [DSt.push]⟩, fun _ h => h⟩
    · injection h with h; subst h; exact ⟨⟨[], by simp [DSt.push]⟩, fun _ h => h⟩
    · rename_i s
      obtain ⟨l, h1, h2⟩ := bind_some' h
      injection h2 with h2; subst h2
      obtain ⟨_, h4, _, h6⟩ := @lend_lent st v
      exact ⟨⟨[], by simp [DSt.push, h4]⟩, h6⟩
    · cases h
  | .cint k n, v, st, st1, h => by
    cases v <;> simp only [dec] at h <;> try (cases h; done)
    rename_i k' n'
    cases hk : (decide (k' = k) && decide (n' = n)) with
    | false => rw [hk] at h; cases h
    | true => rw [hk] at h; injection h with h; subst h; exact Sub.refl _
  | .nilp, v, st, st1, h => by
    cases v <;> simp only [dec] at h <;> try (cases h; done)
    injection h with h; subst h; exact Sub.refl _
  | .nils, v, st, st1, h => by
    cases v <;> simp only [dec] at h <;> try (cases h; done)
    injection h with h; subst h; exact Sub.refl _
  | .nilf, v, st, st1, h => by
    cases v <;> simp only [dec] at h <;> try (cases h; done)
    injection h with h; subst h; exact Sub.refl _
  | .ptr j o, v, st, st1, h => by
    cases v <;> simp only [dec] at h <;> try (cases h; done)
    rename_i k o'
    cases hk : Nat.beq o o' with
    | false => rw [hk] at h; cases h
    | true => rw [hk, cond_true] at h; exact (link_ok h).2.2.2
  | .full j, v, st, st1, h => by
    simp only [dec] at h
    split at h
    · exact (link_ok h).2.2.2
    · exact (link_ok h).2.2.2
    · exact (link_ok h).2.2.2
    · cases h
  | .pin s o, v, st, st1, h => by
    cases v <;> simp only [dec] at h <;> try (cases h; done)
    rename_i s' x o'
    cases hk : Nat.beq o o' with
    | false => rw [hk] at h; cases h
    | true =>
      rw [hk] at h
      obtain ⟨y, h1, h2⟩ := bind_some' h
      injection h2 with h2; subst h2; exact ⟨⟨[], by simp [DSt.push]⟩, fun _ h => h⟩
  | .fn g a b, v, st, st1, h => by
    cases v <;> simp only [dec] at h <;> try (cases h; done)
    rename_i g' a' b'
    cases hk : Nat.beq g g' with
    | false => rw [hk] at h; cases h
    | true =>
      rw [hk] at h
      obtain ⟨st2, h1, h2⟩ := bind_some' h
      exact (decL_sub a a' st st2 h1).trans (decL_sub b b' st2 st1 h2)
  | .agg l, v, st, st1, h => by
    cases v <;> simp only [dec] at h <;> try (cases h; done)
    exact decL_sub l _ st st1 h
  | .tup l, v, st, st1, h => by
    cases v <;> simp only [dec] at h <;> try (cases h; done)
    exact decL_sub l _ st st1 h
theorem decL_sub {S : Store} {N : Nat} : ∀ (l : List Sk) (vs : List VV) (st st1 : DSt), decL S N l vs st = some st1 → Sub st st1
  | [], vs, st, st1, h => by
    cases vs <;> simp only [decL] at h <;> try (cases h; done)
    injection h with h; subst h; exact Sub.refl _
  | k :: r, vs, st, st1, h => by
    cases vs with
    | nil => simp only [decL] at h; cases h
    | cons v vs =>
      simp only [decL] at h
      obtain ⟨st2, h1, h2⟩ := bind_some' h
      exact (dec_sub k v st st2 h1).trans (decL_sub r vs st2 st1 h2)
end

theorem full_tell {N : Nat} {f : Nat → Nat} {stf : DSt} (hT : Tell c ct N f stf) {j k : Nat} {a : Value} (hl : Linked N stf.m j (some ⟨k, none⟩)) (hv : VRel c (.full k) a) : VRel ct (.full (f j)) a := by
  obtain ⟨h1, h2⟩ := hT.lk _ _ hl
  cases hv with
  | full hk ho hd =>
    refine .full h1 ho fun d' hd' => ?_
    obtain ⟨d, h3, h4, h5, h6⟩ := h2 d' hd'
    obtain ⟨n, h7, h8⟩ := hd d h3
    simp only at h6
    refine ⟨n, by rw [h4, h6]; exact h7, ?_⟩
    have := h8.tell hT.σ h5 (d2' := d'.2) (by rw [h6, h7])
    rw [← h4] at this
    exact this
theorem cut_tell {N : Nat} {f : Nat → Nat} {stf : DSt} (hT : Tell c ct N f stf) {j k n : Nat} {a : Value} (hl : Linked N stf.m j (some ⟨k, some n⟩)) (hv : VRel c (.part k 0 n) a) : VRel ct (.full (f j)) a := by
  obtain ⟨h1, h2⟩ := hT.lk _ _ hl
  cases hv with
  | part hk ho hd =>
    refine .full h1 ho fun d' hd' => ?_
    obtain ⟨d, h3, h4, h5, h6⟩ := h2 d' hd'
    simp only at h6
    have h7 : n * d.1 ≤ d.2 := by
      rcases hd d h3 with ⟨_, _, e, _, _⟩ | ⟨_, _, _, _, _, e, _⟩
      · rw [e]; simp
      · rwa [Nat.zero_add] at e
    rw [Nat.min_eq_left h7] at h6
    refine ⟨n, by rw [h4, h6], ?_⟩
    have := (hd d h3).tell hT.σ h5 (d2' := d'.2) h6
    rw [← h4] at this
    exact this
theorem nil_tell {N : Nat} {f : Nat → Nat} {stf : DSt} (hT : Tell c ct N f stf) {j : Nat} (hl : Linked N stf.m j none) : VRel ct (.full (f j)) (.slice none 0 0) := by
  obtain ⟨h1, h2⟩ := hT.lk _ _ hl
  refine .full h1 rfl fun d' hd' => ?_
  obtain ⟨h3, h4⟩ := h2 d' hd'
  exact ⟨0, by rw [h3]; simp, .inl ⟨rfl, rfl, rfl, h4, h3⟩⟩

mutual
theorem dec_val {N : Nat} {f : Nat → Nat} {stf : DSt} (hR : Rel c) (hT : Tell c ct N f stf) : ∀ (sk : Sk) (v : VV) (st st1 : DSt) (a : Value), dec c.S N sk v st = some st1 → Sub st1 stf → VRel c v a →
    ∃ new, st1.ls = st.ls ++ new ∧ ∀ rest, ∃ v', enc f sk (new ++ rest) = some (v', rest) ∧ VRel ct v' a
  | .undef, v, st, st1, a, h, hs, hv => by
    simp only [dec] at h
    injection h with h; subst h
    exact ⟨[], by simp, fun rest => ⟨.undef, by simp [enc], .undef _⟩⟩
  | .leaf s, v, st, st1, a, h, hs, hv => by
    simp only [dec] at h
    split at h
    · rename_i k k' n
      cases hk : decide (k' = k) with
      | false => rw [hk] at h; cases h
      | true =>
        rw [hk] at h
        injection h with h; subst h
        have := of_decide_eq_true hk
        subst this
        refine ⟨[⟨.int k', n⟩], rfl, fun rest => ⟨.int k' n, ?_, ?_⟩⟩
        · simp only [List.singleton_append, enc, castEl_self, Option.bind_some]
        · rw [hv.int_inv]; exact .int _ _
    · rename_i b
      injection h with h; subst h
      refine ⟨[⟨.bool, b⟩], rfl, fun rest => ⟨.bool b, ?_, ?_⟩⟩
      · simp only [List.singleton_append, enc, castEl_self, Option.bind_some]
      · rw [hv.bool_inv]; exact .bool _
    · rename_i l
      injection h with h; subst h
      refine ⟨[⟨.str, l⟩], rfl, fun rest => ⟨.str l, ?_, ?_⟩⟩
      · simp only [List.singleton_append, enc, castEl_self, Option.bind_some]
      · obtain ⟨s, h1, h2⟩ := hv.str_inv
        rw [h1]; exact .str h2
    · rename_i s
      obtain ⟨l, h1, h2⟩ := bind_some' h
      injection h2 with h2; subst h2
      obtain ⟨h3, h4, h5, h6⟩ := @lend_lent st v
      refine ⟨[⟨.list s, l⟩], by simp [DSt.push, h5], fun rest => ⟨.lst s l, ?_, ?_⟩⟩
      · simp only [List.singleton_append, enc, castEl_self, Option.bind_some]
      · exact decl_leaf hR hT h1 hv fun k hk => hs.lent k (h3 k hk)
    · cases h
  | .cint k n, v, st, st1, a, h, hs, hv => by
    cases v <;> simp only [dec] at h <;> try (cases h; done)
    rename_i k' n'
    cases hk : (decide (k' = k) && decide (n' = n)) with
    | false => rw [hk] at h; cases h
    | true =>
      rw [hk] at h
      injection h with h; subst h
      rw [Bool.and_eq_true] at hk
      have e1 := of_decide_eq_true hk.1
      have e2 := of_decide_eq_true hk.2
      subst e1; subst e2
      refine ⟨[], by simp, fun rest => ⟨.int k' n', by simp [enc], ?_⟩⟩
      rw [hv.int_inv]; exact .int _ _
  | .nilp, v, st, st1, a, h, hs, hv => by
    cases v <;> simp only [dec] at h <;> try (cases h; done)
    injection h with h; subst h
    cases hv
    exact ⟨[], by simp, fun rest => ⟨.nilp, by simp [enc], .nilp⟩⟩
  | .nils, v, st, st1, a, h, hs, hv => by
    cases v <;> simp only [dec] at h <;> try (cases h; done)
    injection h with h; subst h
    cases hv
    exact ⟨[], by simp, fun rest => ⟨.nils, by simp [enc], .nils⟩⟩
  | .nilf, v, st, st1, a, h, hs, hv => by
    cases v <;> simp only [dec] at h <;> try (cases h; done)
    injection h with h; subst h
    cases hv
    exact ⟨[], by simp, fun rest => ⟨.nilf, by simp [enc], .nilf⟩⟩
  | .ptr j o, v, st, st1, a, h, hs, hv => by
    cases v <;> simp only [dec] at h <;> try (cases h; done)
    rename_i k o'
    cases hk : Nat.beq o o' with
    | false => rw [hk] at h; cases h
    | true =>
      rw [hk, cond_true] at h
      have := Nat.eq_of_beq_eq_true hk
      subst this
      obtain ⟨h1, h2, h3, h4⟩ := link_ok h
      obtain ⟨h5, h6⟩ := hT.lk _ _ (h1.sub hs)
      refine ⟨[], by simp [h2], fun rest => ⟨.ptr (f j) o, by simp [enc], ?_⟩⟩
      cases hv with
      | ptr hk ho hd =>
        refine .ptr h5 ho fun d' hd' => ?_
        obtain ⟨d, h7, _, h8, _⟩ := h6 d' hd'
        obtain ⟨b, h9, h10⟩ := hd d h7
        exact ⟨b, h8.trans h9, h10⟩
  | .full j, v, st, st1, a, h, hs, hv => by
    simp only [dec] at h
    split at h
    · obtain ⟨h1, h2, h3, h4⟩ := link_ok h
      exact ⟨[], by simp [h2], fun rest => ⟨.full (f j), by simp [enc], full_tell hT (h1.sub hs) hv⟩⟩
    · obtain ⟨h1, h2, h3, h4⟩ := link_ok h
      exact ⟨[], by simp [h2], fun rest => ⟨.full (f j), by simp [enc], cut_tell hT (h1.sub hs) hv⟩⟩
    · obtain ⟨h1, h2, h3, h4⟩ := link_ok h
      cases hv
      exact ⟨[], by simp [h2], fun rest => ⟨.full (f j), by simp [enc], nil_tell hT (h1.sub hs)⟩⟩
    · cases h
  | .pin s o, v, st, st1, a, h, hs, hv => by
    cases v <;> simp only [dec] at h <;> try (cases h; done)
    rename_i s' x o'
    cases hk : Nat.beq o o' with
    | false => rw [hk] at h; cases h
    | true =>
      rw [hk, cond_true] at h
      have := Nat.eq_of_beq_eq_true hk
      subst this
      obtain ⟨y, h1, h2⟩ := bind_some' h
      obtain ⟨ee, h3⟩ := castEl_some h1
      cases ee
      subst h3
      injection h2 with h2; subst h2
      refine ⟨[⟨s, y⟩], rfl, fun rest => ⟨.pin s y o, ?_, ?_⟩⟩
      · simp only [List.singleton_append, enc, castEl_self, Option.bind_some]
      · cases hv with
        | pin hn hy hl hf => exact .pin (hT.nm _ _ hy hn) (by rw [hT.σ]; exact hy) hl (toCells_still hT.toStill _ _ _ hf)
  | .fn g p q, v, st, st1, a, h, hs, hv => by
    cases v <;> simp only [dec] at h <;> try (cases h; done)
    rename_i g' p' q'
    cases hk : Nat.beq g g' with
    | false => rw [hk] at h; cases h
    | true =>
      rw [hk, cond_true] at h
      have := Nat.eq_of_beq_eq_true hk
      subst this
      obtain ⟨st2, h1, h2⟩ := bind_some' h
      cases hv with
      | fn f1 f2 =>
        obtain ⟨new1, e1, e2⟩ := decL_val hR hT p p' st st2 _ h1 ((decL_sub q q' st2 st1 h2).trans hs) f1
        obtain ⟨new2, e3, e4⟩ := decL_val hR hT q q' st2 st1 _ h2 hs f2
        refine ⟨new1 ++ new2, by rw [e3, e1, List.append_assoc], fun rest => ?_⟩
        obtain ⟨v1, e5, e6⟩ := e2 (new2 ++ rest)
        obtain ⟨v2, e7, e8⟩ := e4 rest
        exact ⟨.fn g v1 v2, by simp only [enc, List.append_assoc, e5, Option.bind_some, e7], .fn e6 e8⟩
  | .agg l, v, st, st1, a, h, hs, hv => by
    cases v <;> simp only [dec] at h <;> try (cases h; done)
    cases hv with
    | agg f1 =>
      obtain ⟨new1, e1, e2⟩ := decL_val hR hT l _ st st1 _ h hs f1
      refine ⟨new1, e1, fun rest => ?_⟩
      obtain ⟨v1, e5, e6⟩ := e2 rest
      exact ⟨.agg v1, by simp only [enc, e5, Option.bind_some], .agg e6⟩
  | .tup l, v, st, st1, a, h, hs, hv => by
    cases v <;> simp only [dec] at h <;> try (cases h; done)
    cases hv with
    | tup f1 =>
      obtain ⟨new1, e1, e2⟩ := decL_val hR hT l _ st st1 _ h hs f1
      refine ⟨new1, e1, fun rest => ?_⟩
      obtain ⟨v1, e5, e6⟩ := e2 rest
      exact ⟨.tup v1, by simp only [enc, e5, Option.bind_some], .tup e6⟩
theorem decL_val {N : Nat} {f : Nat → Nat} {stf : DSt} (hR : Rel c) (hT : Tell c ct N f stf) : ∀ (l : List Sk) (vs : List VV) (st st1 : DSt) (as : List Value), decL c.S N l vs st = some st1 → Sub st1 stf → F2 (VRel c) vs as →
    ∃ new, st1.ls = st.ls ++ new ∧ ∀ rest, ∃ vs', encL f l (new ++ rest) = some (vs', rest) ∧ F2 (VRel ct) vs' as
  | [], vs, st, st1, as, h, hs, hf => by
    cases vs <;> simp only [decL] at h <;> try (cases h; done)
    injection h with h; subst h
    cases hf
    exact ⟨[], by simp, fun rest => ⟨[], by simp [encL], .nil⟩⟩
  | k :: r, vs, st, st1, as, h, hs, hf => by
    cases hf with
    | nil => simp only [decL] at h; cases h
    | cons f1 f2 =>
      simp only [decL] at h
      obtain ⟨st2, h1, h2⟩ := bind_some' h
      obtain ⟨new1, e1, e2⟩ := dec_val hR hT k _ st st2 _ h1 ((decL_sub r _ st2 st1 h2).trans hs) f1
      obtain ⟨new2, e3, e4⟩ := decL_val hR hT r _ st2 st1 _ h2 hs f2
      refine ⟨new1 ++ new2, by rw [e3, e1, List.append_assoc], fun rest => ?_⟩
      obtain ⟨v1, e5, e6⟩ := e2 (new2 ++ rest)
      obtain ⟨v2, e7, e8⟩ := e4 rest
      exact ⟨v1 :: v2, by simp only [encL, List.append_assoc, e5, Option.bind_some, e7], .cons e6 e8⟩
end

/-! ### Blocks -/
/-- What a block of the form stands for. -/
def BlkTell (c ct : Ctx) (o : OSk) (x : Option Src) (blk : Blk) : Prop :=
  (o = .dead ∧ blk = .dead) ∨ (blk.frozen = o.ro ∧ match x with
    | none => o.ro = false ∧ ∃ s, blk = .arr s false []
    | some ⟨k, cut⟩ => (o.ro = false → (sget c.S k).frozen = false) ∧ ∃ d, (sget c.S k).dim = some d ∧ (match cut with
      | none => blk.dim = some d
      | some n => blk.dim = some (d.1, min (n * d.1) d.2)) ∧ ∀ cs, F2 (VRel c) (sget c.S k).vals cs → F2 (VRel ct) blk.vals (cs.take blk.vals.length))
theorem decO_sub {S : Store} {N : Nat} {o : OSk} {x : Option Src} {st st1 : DSt} (h : decO S N o x st = some st1) : Sub st st1 := by
  unfold decO at h
  split at h
  · injection h with h; subst h; exact Sub.refl _
  · split at h
    · rename_i es ro l k _ es' fz cs hb
      cases hk : (Nat.beq es es' && (ro || !fz)) with
      | false => rw [hk] at h; cases h
      | true =>
        rw [hk, cond_true] at h
        have h1 := decL_sub _ _ _ _ h
        cases ro with
        | false => exact h1
        | true => exact Sub.trans ⟨⟨[], by simp⟩, fun _ h => List.mem_cons_of_mem _ h⟩ h1
    · cases h
  · rename_i ro s
    cases ro with
    | true => cases h
    | false => injection h with h; subst h; exact ⟨⟨[], by simp [DSt.push]⟩, fun _ h => h⟩
  · rename_i ro s k cut
    cases hk : (ro || !(sget S k).frozen) with
    | false => rw [hk] at h; cases h
    | true =>
      rw [hk, cond_true] at h
      obtain ⟨l, h1, h2⟩ := bind_some' h
      injection h2 with h2; subst h2
      cases ro with
      | false => exact ⟨⟨[], by simp [DSt.push]⟩, fun _ h => h⟩
      | true => exact ⟨⟨[], by simp [DSt.push]⟩, fun _ h => List.mem_cons_of_mem _ h⟩
  · cases h

theorem decO_val {N : Nat} {f : Nat → Nat} {stf : DSt} (hR : Rel c) (hT : Tell c ct N f stf) {o : OSk} {x : Option Src} {st st1 : DSt} (h : decO c.S N o x st = some st1) (hs : Sub st1 stf) :
    ∃ new, st1.ls = st.ls ++ new ∧ ∀ rest, ∃ blk, encO f o (new ++ rest) = some (blk, rest) ∧ BlkTell c ct o x blk := by
  unfold decO at h
  split at h
  · injection h with h; subst h
    exact ⟨[], by simp, fun rest => ⟨.dead, by simp [encO], .inl ⟨rfl, rfl⟩⟩⟩
  · split at h
    · rename_i es ro l k _ es' fz cs hb
      cases hk : (Nat.beq es es' && (ro || !fz)) with
      | false => rw [hk] at h; cases h
      | true =>
        rw [hk, cond_true] at h
        rw [Bool.and_eq_true] at hk
        have he := Nat.eq_of_beq_eq_true hk.1
        subst he
        have hdim : (sget c.S k).dim = some (es, cs.length) := by rw [hb]; rfl
        obtain ⟨h0, hblk⟩ := hR.blk k _ hdim
        have hf : ∃ as, F2 (VRel c) cs as := by
          rcases hblk with ⟨e1, e2⟩ | ⟨b, y, as, rest, _, _, _, _, _, e3⟩
          · have : cs = [] := List.length_eq_zero_iff.1 e1
            subst this
            exact ⟨[], .nil⟩
          · rw [hb] at e3; exact ⟨as, e3⟩
        obtain ⟨as, hf⟩ := hf
        obtain ⟨new, e1, e2⟩ := decL_val hR hT l cs _ st1 as h hs hf
        refine ⟨new, ?_, fun rest => ?_⟩
        · rw [e1]; cases ro <;> rfl
        · obtain ⟨vs, e3, e4⟩ := e2 rest
          refine ⟨.cells es ro vs, by simp only [encO, e3, Option.bind_some], .inr ⟨rfl, fun hro => ?_, (es, cs.length), hdim, ?_, fun cs' hcs' => ?_⟩⟩
          · simp only [OSk.ro] at hro
            subst hro
            rw [hb]
            have := hk.2
            simp only [Bool.false_or, Bool.not_eq_true'] at this
            exact this
          · simp only [Blk.dim]
            rw [e4.length, hf.length]
          · rw [hb] at hcs'
            obtain ⟨new', e1', e2'⟩ := decL_val hR hT l cs _ st1 cs' h hs hcs'
            have : new' = new := by
              rw [e1] at e1'
              exact (List.append_cancel_left e1').symm
            subst this
            obtain ⟨vs', e3', e4'⟩ := e2' rest
            rw [e3] at e3'
            injection e3' with e3'
            injection e3' with e3' _
            subst e3'
            rw [List.take_of_length_le (by rw [← e4'.length]; exact Nat.le_refl _)]
            exact e4'
    · cases h
  · rename_i ro s
    cases ro with
    | true => cases h
    | false =>
      injection h with h; subst h
      refine ⟨[⟨.list s, []⟩], rfl, fun rest => ⟨.arr s false [], ?_, .inr ⟨rfl, rfl, s, rfl⟩⟩⟩
      simp only [List.singleton_append, encO, castEl_self, Option.bind_some]
  · rename_i ro s k cut
    cases hk : (ro || !(sget c.S k).frozen) with
    | false => rw [hk] at h; cases h
    | true =>
      rw [hk, cond_true] at h
      obtain ⟨l, h1, h2⟩ := bind_some' h
      injection h2 with h2; subst h2
      obtain ⟨d, h3, h4, h5, h6⟩ := blkList_rel (ofCells_takes hR s) h1
      refine ⟨[⟨.list s, cutBy cut l⟩], by cases ro <;> rfl, fun rest => ⟨.arr s ro (cutBy cut l), ?_, .inr ⟨rfl, fun hro => ?_, d, h3, ?_, fun cs hcs => ?_⟩⟩⟩
      · simp only [List.singleton_append, encO, castEl_self, Option.bind_some]
      · simp only [OSk.ro] at hro
        subst hro
        simpa using hk
      · cases cut with
        | none =>
          simp only [Blk.dim, cutBy]
          rw [← h5, ← h4]
        | some n =>
          simp only [Blk.dim, cutBy, List.length_take]
          rw [h5, h4, ← Nat.mul_min_mul_right]
      · have h7 := flatL_still hT.toStill (h6 cs hcs)
        have h8 : cs.length = l.length * s.w := by rw [← h7.length, flatL_len]
        cases cut with
        | none =>
          simp only [Blk.vals, cutBy]
          rw [List.take_of_length_le (by rw [flatL_len]; omega)]
          exact h7
        | some n =>
          simp only [Blk.vals, cutBy]
          have h9 : ((flatL s (l.take n)).length) = min (n * s.w) cs.length := by rw [flatL_take, List.length_take, flatL_len, h8]
          rw [h9, flatL_take, ← List.take_take, List.take_length]
          exact h7.take (n * s.w)
  · cases h

/-! ### All blocks -/
theorem decFix_sub {S : Store} {N : Nat} : ∀ {os : List OSk} {js : List Nat} {st st1 : DSt}, decFix S N os js st = some st1 → Sub st st1
  | [], [], st, st1, h => by injection h with h; subst h; exact Sub.refl _
  | [], _ :: _, st, st1, h => by cases h
  | _ :: _, [], st, st1, h => by cases h
  | o :: os, j :: js, st, st1, h => by
    simp only [decFix] at h
    obtain ⟨st2, h1, h2⟩ := bind_some' h
    exact (decO_sub h1).trans (decFix_sub h2)
theorem decFree_sub {S : Store} {N : Nat} : ∀ {os : List OSk} {i : Nat} {st st1 : DSt}, decFree S N os i st = some st1 → Sub st st1
  | [], i, st, st1, h => by
    simp only [decFree] at h
    cases hb : Nat.beq i st.m.length with
    | false => rw [hb] at h; cases h
    | true => rw [hb] at h; injection h with h; subst h; exact Sub.refl _
  | o :: os, i, st, st1, h => by
    simp only [decFree] at h
    split at h
    · obtain ⟨st2, h1, h2⟩ := bind_some' h
      exact (decO_sub h1).trans (decFree_sub h2)
    · cases h
/-- Blocks that stay. -/
inductive FixTell (c ct : Ctx) : List OSk → List Nat → List Blk → Prop where
  | nil : FixTell c ct [] [] []
  | cons {o : OSk} {j : Nat} {b : Blk} {os : List OSk} {js : List Nat} {bs : List Blk} : BlkTell c ct o (some ⟨j, none⟩) b → FixTell c ct os js bs → FixTell c ct (o :: os) (j :: js) (b :: bs)
/-- Blocks that are found. -/
inductive FreeTell (c ct : Ctx) : List OSk → List (Option Src) → List Blk → Prop where
  | nil : FreeTell c ct [] [] []
  | cons {o : OSk} {x : Option Src} {b : Blk} {os : List OSk} {xs : List (Option Src)} {bs : List Blk} : BlkTell c ct o x b → FreeTell c ct os xs bs → FreeTell c ct (o :: os) (x :: xs) (b :: bs)
theorem decFix_val {N : Nat} {f : Nat → Nat} {stf : DSt} (hR : Rel c) (hT : Tell c ct N f stf) : ∀ {os : List OSk} {js : List Nat} {st st1 : DSt}, decFix c.S N os js st = some st1 → Sub st1 stf →
    ∃ new, st1.ls = st.ls ++ new ∧ ∀ rest, ∃ bs, encOs f os (new ++ rest) = some (bs, rest) ∧ FixTell c ct os js bs
  | [], [], st, st1, h, hs => by injection h with h; subst h; exact ⟨[], by simp, fun rest => ⟨[], by simp [encOs], .nil⟩⟩
  | [], _ :: _, st, st1, h, hs => by cases h
  | _ :: _, [], st, st1, h, hs => by cases h
  | o :: os, j :: js, st, st1, h, hs => by
    simp only [decFix] at h
    obtain ⟨st2, h1, h2⟩ := bind_some' h
    obtain ⟨new1, e1, e2⟩ := decO_val hR hT h1 ((decFix_sub h2).trans hs)
    obtain ⟨new2, e3, e4⟩ := decFix_val hR hT h2 hs
    refine ⟨new1 ++ new2, by rw [e3, e1, List.append_assoc], fun rest => ?_⟩
    obtain ⟨v1, e5, e6⟩ := e2 (new2 ++ rest)
    obtain ⟨v2, e7, e8⟩ := e4 rest
    exact ⟨v1 :: v2, by simp only [encOs, List.append_assoc, e5, Option.bind_some, e7], .cons e6 e8⟩
theorem decFree_val {N : Nat} {f : Nat → Nat} {stf : DSt} (hR : Rel c) (hT : Tell c ct N f stf) : ∀ {os : List OSk} {i : Nat} {st st1 : DSt}, decFree c.S N os i st = some st1 → Sub st1 stf →
    ∃ new, st1.ls = st.ls ++ new ∧ i + os.length = st1.m.length ∧ ∀ rest, ∃ bs, encOs f os (new ++ rest) = some (bs, rest) ∧ FreeTell c ct os (st1.m.drop i) bs
  | [], i, st, st1, h, hs => by
    simp only [decFree] at h
    cases hb : Nat.beq i st.m.length with
    | false => rw [hb] at h; cases h
    | true =>
      rw [hb] at h
      injection h with h; subst h
      have := Nat.eq_of_beq_eq_true hb
      subst this
      exact ⟨[], by simp, by simp, fun rest => ⟨[], by simp [encOs], by rw [List.drop_length]; exact .nil⟩⟩
  | o :: os, i, st, st1, h, hs => by
    simp only [decFree] at h
    split at h
    · rename_i x hx
      obtain ⟨st2, h1, h2⟩ := bind_some' h
      obtain ⟨new1, e1, e2⟩ := decO_val hR hT h1 ((decFree_sub h2).trans hs)
      obtain ⟨new2, e3, e3', e4⟩ := decFree_val hR hT h2 hs
      refine ⟨new1 ++ new2, by rw [e3, e1, List.append_assoc], by rw [← e3']; simp; omega, fun rest => ?_⟩
      obtain ⟨v1, e5, e6⟩ := e2 (new2 ++ rest)
      obtain ⟨v2, e7, e8⟩ := e4 rest
      refine ⟨v1 :: v2, by simp only [encOs, List.append_assoc, e5, Option.bind_some, e7], ?_⟩
      obtain ⟨t1, t2⟩ := (decO_sub h1).m
      obtain ⟨t3, t4⟩ := (decFree_sub h2).m
      have hx' : st1.m[i]? = some x := by
        rw [← nth_eq, t4, t2]
        exact nth_app (nth_app hx)
      have hi : i < st1.m.length := by
        rcases Nat.lt_or_ge i st1.m.length with h | h
        · exact h
        · rw [List.getElem?_eq_none h] at hx'; cases hx'
      rw [List.drop_eq_getElem_cons hi]
      rw [List.getElem?_eq_getElem hi] at hx'
      injection hx' with hx'
      rw [hx']
      exact .cons e6 e8
    · cases h

/-- A state that is told: its values and blocks, put together again, stand for the same. -/
theorem decSt_val {N : Nat} {f : Nat → Nat} {fx : List Nat} {sk : SSk} {vals : List VV} {as : List Value} {st : DSt} (hR : Rel c) (hT : Tell c ct N f st) (h : decSt c.S N fx sk vals = some st) (hf : F2 (VRel c) vals as) :
    ∃ vs fs bs, encSt f sk st.ls = some (vs, fs, bs) ∧ F2 (VRel ct) vs as ∧ FixTell c ct sk.fix fx fs ∧ FreeTell c ct sk.free st.m bs := by
  unfold decSt at h
  obtain ⟨st1, h1, h⟩ := bind_some' h
  obtain ⟨st2, h2, h⟩ := bind_some' h
  obtain ⟨st3, h3, h⟩ := bind_some' h
  have : st3 = st := by
    cases hb : (apart (fx ++ ksOf st3.m) && freeOf (fx ++ wrOf sk.free st3.m) st3.lent) with
    | false => rw [hb] at h; cases h
    | true => rw [hb] at h; injection h
  subst this
  obtain ⟨n1, e1, f1⟩ := decL_val hR hT _ _ _ _ _ h1 ((decFix_sub h2).trans (decFree_sub h3)) hf
  obtain ⟨n2, e2, f2⟩ := decFix_val hR hT h2 (decFree_sub h3)
  obtain ⟨n3, e3, e4, f3⟩ := decFree_val hR hT h3 (Sub.refl _)
  obtain ⟨vs, g1, g2⟩ := f1 (n2 ++ n3)
  obtain ⟨fs, g3, g4⟩ := f2 n3
  obtain ⟨bs, g5, g6⟩ := f3 []
  refine ⟨vs, fs, bs, ?_, g2, g4, by rw [List.drop_zero] at g6; exact g6⟩
  have hls : st3.ls = n1 ++ (n2 ++ n3) := by rw [e3, e2, e1]; simp
  rw [List.append_nil] at g5
  simp only [encSt, hls, g1, Option.bind_some, g3, g5]
theorem decSt_apart {S : Store} {N : Nat} {fx : List Nat} {sk : SSk} {vals : List VV} {st : DSt} (h : decSt S N fx sk vals = some st) : apart (fx ++ ksOf st.m) = true ∧ freeOf (fx ++ wrOf sk.free st.m) st.lent = true := by
  unfold decSt at h
  obtain ⟨st1, h1, h⟩ := bind_some' h
  obtain ⟨st2, h2, h⟩ := bind_some' h
  obtain ⟨st3, h3, h⟩ := bind_some' h
  cases hb : (apart (fx ++ ksOf st3.m) && freeOf (fx ++ wrOf sk.free st3.m) st3.lent) with
  | false => rw [hb] at h; cases h
  | true =>
    rw [hb] at h
    injection h with h
    subst h
    rwa [Bool.and_eq_true] at hb

/-! ### Leaves, typed -/
theorem ofL_toL : ∀ {ss : List Sh} {ls : List Leaf} {t : Tup ss}, ofL ss ls = some t → toL ss t = ls
  | [], ls, t, h => by
    cases ls with
    | nil => rfl
    | cons => simp [ofL] at h
  | [s], ls, t, h => by
    cases ls with
    | nil => simp [ofL] at h
    | cons x ls =>
      cases ls with
      | nil =>
        simp only [ofL] at h
        obtain ⟨ee, h1⟩ := castEl_some h
        obtain ⟨s', v⟩ := x
        simp only at ee
        subst ee
        subst h1
        rfl
      | cons => simp [ofL] at h
  | s :: s' :: r, ls, t, h => by
    cases ls with
    | nil => simp [ofL] at h
    | cons x ls =>
      simp only [ofL] at h
      obtain ⟨a, h1, h⟩ := bind_some' h
      obtain ⟨b, h2, h⟩ := bind_some' h
      injection h with h
      subst h
      obtain ⟨ee, h3⟩ := castEl_some h1
      obtain ⟨s0, v⟩ := x
      simp only at ee
      subst ee
      subst h3
      simp only [toL]
      rw [ofL_toL h2]
end
end Go.V
