/- The value machine: its operations are the abstract machine's, third part: slices that are cut and looked into. -/
import Derived.Test.YtbdihjmnbadfhaaGreatDoorV8
namespace Go.V
set_option linter.unusedVariables false
set_option linter.unusedSimpArgs false
open Go.Ab

section
variable {β : Type} {T : Specs} {c : Ctx} {e : VEnv} {ea : Env} {k : VV → Store → Option β} {y : β} {d : List Nat}

theorem SlR.len {q lo n : Nat} {dm : Nat × Nat} {a : Value} (h : SlR c q lo n dm a) : ∃ p cp, a = .slice p n cp ∧ n ≤ cp := by
  rcases h with ⟨rfl, _, rfl, _, _⟩ | ⟨b, cp, x, rfl, _, _, h, _⟩
  · exact ⟨none, 0, rfl, Nat.le_refl _⟩
  · exact ⟨_, cp, rfl, h⟩
/-- A slice that holds so much. -/
theorem lenOf_ok (hR : Rel c) {v : VV} {a : Value} {n : Nat} (h : lenOf c.S v = some n) (hv : VRel c v a) (hs : ∀ l, v ≠ .str l) : ∃ p cp, a = .slice p n cp ∧ n ≤ cp := by
  cases v <;> simp only [lenOf] at h <;> try (cases h; done)
  case nils => injection h with h; subst h; cases hv; exact ⟨none, 0, rfl, Nat.le_refl _⟩
  case str l => exact (hs l rfl).elim
  case lst s l =>
    injection h with h; subst h
    cases hv with
    | lstn => exact ⟨_, 0, rfl, Nat.le_refl _⟩
    | lst _ _ _ h1 h2 _ _ => subst h1; exact ⟨_, _, rfl, h2⟩
  case part q lo m =>
    cases hl : (sget c.S q).live with
    | false => rw [hl] at h; cases h
    | true =>
      rw [hl] at h
      injection h with h; subst h
      obtain ⟨dd, hh⟩ := live_dim hl
      cases hv with
      | part hk _ hd => exact (hd dd hh).len
  case full q =>
    cases hv with
    | full hk _ hd =>
      cases hb : sget c.S q with
      | dead => rw [hb] at h; cases h
      | arr s z l =>
        rw [hb] at h
        injection h with h; subst h
        obtain ⟨n, h1, h2⟩ := hd (s.w, l.length * s.w) (by rw [hb]; rfl)
        have : n = l.length := Nat.eq_of_mul_eq_mul_right (w_pos s) h1
        subst this
        exact h2.len
      | cells es z l =>
        rw [hb] at h
        injection h with h; subst h
        obtain ⟨n, h1, h2⟩ := hd (es, l.length) (by rw [hb]; rfl)
        have h3 := (hR.blk q (es, l.length) (by rw [hb]; rfl)).1
        have : n = l.length / es := by
          simp only at h1 h3
          rw [← h1, Nat.mul_div_cancel _ h3]
        subst this
        exact h2.len

theorem len_ok (hR : Rel c) (he : EnvRel c e ea) {x : Operand} {n : Nat} (hs : ∀ l, ev e x ≠ .str l) (hn : lenOf c.S (ev e x) = some n) (h : k (.int .i64 n) c.S = some y) : runOp T (.len x) ea c.σ (Out c d k y) := by
  obtain ⟨p, cp, h1, _⟩ := lenOf_ok hR hn (ev_rel he x) hs
  exact run_of (by simp only [AOp.run, h1]) (Out.same hR (.int _ _) h)
theorem lenS_ok (hR : Rel c) (he : EnvRel c e ea) {x : Operand} {l : List Int} (hx : ev e x = .str l) (h : k (.int .i64 l.length) c.S = some y) : runOp T (.lenS x) ea c.σ (Out c d k y) := by
  have hv := ev_rel he x
  rw [hx] at hv
  obtain ⟨s, h1, h2⟩ := hv.str_inv
  refine run_of (v := .int .i64 s.size) (by simp only [AOp.run, h1]) (Out.same hR ?_ h)
  rw [← h2, bytesI_size]
  exact .int _ _

theorem bound_lo (he : EnvRel c e ea) {lo : Option Operand} {a : Int} {m : Nat} (h : lowOf (lo.map (ev e)) = some a) (h0 : 0 ≤ a) (hm : a ≤ m) : bound m 0 (lo.map ea.ev) = some a.toNat := by
  cases lo with
  | none =>
    simp only [Option.map_none, lowOf] at h
    injection h with h; subst h
    rfl
  | some x =>
    simp only [Option.map_some, lowOf] at h ⊢
    obtain ⟨kd, h1⟩ := intV_inv h (ev_rel he x)
    rw [h1]
    exact if_pos ⟨h0, hm⟩
theorem bound_hi (he : EnvRel c e ea) {hi : Option Operand} {b : Int} {n cp : Nat} (h : highOf n (hi.map (ev e)) = some b) (h0 : 0 ≤ b) (hm : b ≤ n) (hc : n ≤ cp) : bound cp n (hi.map ea.ev) = some b.toNat := by
  cases hi with
  | none =>
    simp only [Option.map_none, highOf] at h
    injection h with h; subst h
    simp [bound]
  | some x =>
    simp only [Option.map_some, highOf] at h ⊢
    obtain ⟨kd, h1⟩ := intV_inv h (ev_rel he x)
    rw [h1]
    exact if_pos ⟨h0, by omega⟩
theorem cutG_some {a b : Int} {n : Nat} (h : cutG a b n = true) : 0 ≤ a ∧ a ≤ b ∧ b ≤ n := by
  unfold cutG at h
  rw [Bool.and_eq_true, Bool.and_eq_true] at h
  exact ⟨of_decide_eq_true h.1.1, of_decide_eq_true h.1.2, of_decide_eq_true h.2⟩

/-- A cut, where the size of the elements is known. -/
theorem slice_run (he : EnvRel c e ea) {es : Nat} {x : Operand} {lo hi : Option Operand} {p : Option Addr} {n cp : Nat} {a b : Int} (hx : ea.ev x = .slice p n cp) (hn : n ≤ cp) (hp : cp ≠ 0 → ∀ q, p = some q → ∃ z, c.σ.m q.block = some z ∧ z.es = es)
    (hlo : lowOf (lo.map (ev e)) = some a) (hhi : highOf n (hi.map (ev e)) = some b) (hg : cutG a b n = true) : (AOp.slice es x lo hi).run ea c.σ = some (.slice (p.map (addAt · (a.toNat * es))) (b.toNat - a.toNat) (cp - a.toNat), c.σ) := by
  obtain ⟨h1, h2, h3⟩ := cutG_some hg
  have hm : (cp == 0 || mayCut c.σ es p lo) = true := by
    by_cases hc : cp = 0
    · simp [hc]
    · unfold mayCut
      split
      · simp
      · simp
      · rename_i q
        obtain ⟨z, h4, h5⟩ := hp hc q rfl
        rw [h4]
        simp [h5]
  simp only [AOp.run, hx, hm, if_true, bound_hi he hhi (by omega) h3 hn, bound_lo he hlo h1 (m := b.toNat) (by omega)]

theorem SlR.cut {q lo n : Nat} {dm : Nat × Nat} {p : Option Addr} {cp A B : Nat} (h : SlR c q lo n dm (.slice p n cp)) (hA : A ≤ B) (hB : B ≤ n) : SlR c q (lo + A) (B - A) dm (.slice (p.map (addAt · (A * dm.1))) (B - A) (cp - A)) := by
  rcases h with ⟨h1, h2, h3, h4, h5⟩ | ⟨b, cp', z, h1, h2, h3, h4, h5, h6⟩
  · injection h1 with e1 e2 e3
    subst e1; subst e3
    have : A = 0 := by omega
    have : B = 0 := by omega
    subst A; subst B
    exact .inl ⟨rfl, by omega, rfl, h4, h5⟩
  · injection h1 with e1 e2 e3
    subst e1; subst e3
    refine .inr ⟨b, cp - A, z, ?_, h2, Nat.le_trans (Nat.mul_le_mul_right _ (by omega)) h3, by omega, h5, Nat.le_trans (Nat.mul_le_mul_right _ (by omega)) h6⟩
    simp only [Option.map_some, addAt, Nat.add_mul]

theorem SlR.es (hR : Rel c) {q lo n cp : Nat} {dm : Nat × Nat} {p : Option Addr} (hd : (sget c.S q).dim = some dm) (h : SlR c q lo n dm (.slice p n cp)) : ∀ z, p = some z → ∃ blk, c.σ.m z.block = some blk ∧ blk.es = dm.1 := by
  intro z hz
  subst hz
  rcases h with ⟨h1, _⟩ | ⟨b, cp', x, h1, h2, _, _, h5, _⟩
  · cases h1
  · injection h1 with e1 e2 e3
    injection e1 with e1
    subst e1
    obtain ⟨blk, _, _, h6, h7, _⟩ := hR.block hd h2
    exact ⟨blk, h6, h7⟩

theorem part_cut (hR : Rel c) (he : EnvRel c e ea) {es q o n : Nat} {dm : Nat × Nat} {x : Operand} {lo hi : Option Operand} {a b : Int} (hd : (sget c.S q).dim = some dm) (hes : es = dm.1) (hs : SlR c q o n dm (ea.ev x))
    (hlo : lowOf (lo.map (ev e)) = some a) (hhi : highOf n (hi.map (ev e)) = some b) (hg : cutG a b n = true) (h : k (.part q (o + a.toNat) (b.toNat - a.toNat)) c.S = some y) : runOp T (.slice es x lo hi) ea c.σ (Out c d k y) := by
  obtain ⟨p, cp, hx, hn⟩ := hs.len
  rw [hx] at hs
  obtain ⟨h1, h2, h3⟩ := cutG_some hg
  subst hes
  refine run_of (slice_run he hx hn (fun _ => hs.es hR hd) hlo hhi hg) (Out.same hR ?_ h)
  refine .part (sget_lt (by rw [hd]; simp)) rfl fun d' hd' => ?_
  rw [hd] at hd'
  injection hd' with hd'
  subst hd'
  exact hs.cut (by omega) (by omega)

theorem tdt {α : Type} (L : List α) {A B N p : Nat} (h : B ≤ N) : ((((L.drop p).take N).take B).drop A) = (L.drop (p + A)).take (B - A) := by
  rw [List.take_take, Nat.min_eq_left h, List.drop_take, List.drop_drop]
theorem slice_ok (hR : Rel c) (he : EnvRel c e ea) {es : Nat} {x : Operand} {lo hi : Option Operand} (h : sliceK c.S es (ev e x) (lo.map (ev e)) (hi.map (ev e)) k = some y) : runOp T (.slice es x lo hi) ea c.σ (Out c d k y) := by
  have hx := ev_rel he x
  unfold sliceK at h
  cases hln : lenOf c.S (ev e x) with
  | none => rw [hln] at h; cases h
  | some n =>
    rw [hln] at h
    simp only at h
    cases hlo : lowOf (lo.map (ev e)) with
    | none => rw [hlo] at h; cases h
    | some a =>
      cases hhi : highOf n (hi.map (ev e)) with
      | none => rw [hlo, hhi] at h; cases h
      | some b =>
        rw [hlo, hhi] at h
        simp only at h
        split at h
        · rename_i hv
          rw [hv] at hx hln
          obtain ⟨h1, h2⟩ := gd_some h
          have hn0 : n = 0 := by
            simp only [lenOf] at hln
            injection hln with hln
            exact hln.symm
          subst hn0
          obtain ⟨h3, h4, h5⟩ := cutG_some h1
          have ha0 : a = 0 := by omega
          have hb0 : b = 0 := by omega
          subst a; subst b
          have hxe : ea.ev x = .slice none 0 0 := by generalize ea.ev x = xa at hx; cases hx; rfl
          exact run_of (slice_run he hxe (Nat.le_refl _) (fun _ q h => by cases h) hlo hhi h1) (Out.same hR .nils h2)
        · rename_i s l hv
          rw [hv] at hx hln
          simp only [lenOf] at hln
          injection hln with hln
          subst hln
          obtain ⟨h1, h2⟩ := gd_some h
          have hes := Nat.eq_of_beq_eq_true h1
          have key : cutG a b l.length = true → k (.lst s (cutL l a b)) c.S = some y → runOp T (.slice es x lo hi) ea c.σ (Out c d k y) := by
            intro hg hk
            obtain ⟨h3, h4, h5⟩ := cutG_some hg
            generalize hxa : ea.ev x = xa at hx
            cases hx with
            | lstn hq =>
              have hb0 : b = 0 := by simp at h5; omega
              have ha0 : a = 0 := by omega
              subst a; subst b
              refine run_of (slice_run he hxa (Nat.le_refl _) (fun h => (h rfl).elim) hlo hhi hg) (Out.same hR ?_ hk)
              refine .lstn fun z hz => ?_
              obtain ⟨z', _, h'⟩ := Option.map_eq_some_iff.1 hz
              rw [← h']
              rfl
            | lst hn hy he' h6 h7 h8 h9 =>
              rename_i bb p cp z
              refine run_of (slice_run he hxa h7 (fun _ q h => by injection h with h; subst h; exact ⟨z, hy, he'.trans hes.symm⟩) hlo (by rw [h6]; exact hhi) (by rw [h6]; exact hg)) (Out.same hR ?_ hk)
              subst hes
              have hlen : (cutL l a b).length = b.toNat - a.toNat := by simp only [cutL, List.length_drop, List.length_take]; omega
              refine .lst hn hy he' hlen.symm (by omega) ?_ ?_
              · have : a.toNat * s.w + (b.toNat - a.toNat) * s.w ≤ l.length * s.w := by rw [← Nat.add_mul]; exact Nat.mul_le_mul_right _ (by omega)
                simp only
                rw [h6] at h8
                omega
              · simp only [cutL]
                rw [flatL_drop, flatL_take]
                have h10 := (h9.take (b.toNat * s.w)).drop (a.toNat * s.w)
                rw [tdt _ (by rw [h6]; exact Nat.mul_le_mul_right _ (by omega)), ← Nat.sub_mul] at h10
                exact h10
          split at h2
          · rename_i e1 e2
            have hg : cutG a b l.length = true := by
              rw [e1] at hlo
              rw [e2] at hhi
              simp only [lowOf] at hlo
              simp only [highOf] at hhi
              injection hlo with hlo
              injection hhi with hhi
              subst hlo; subst hhi
              simp [cutG]
            refine key hg ?_
            rw [e1] at hlo
            rw [e2] at hhi
            simp only [lowOf] at hlo
            simp only [highOf] at hhi
            injection hlo with hlo
            injection hhi with hhi
            subst hlo; subst hhi
            simp only [cutL, Int.toNat_natCast, Int.toNat_zero, List.drop_zero, List.take_length]
            exact h2
          · obtain ⟨h3, h4⟩ := gd_some h2
            exact key h3 h4
        · rename_i q hv
          rw [hv] at hx hln
          cases hx with
          | full hk _ hd =>
            cases hb : sget c.S q with
            | dead => rw [hb] at h; cases h
            | arr s z l =>
              rw [hb] at h
              obtain ⟨h1, h2⟩ := gd_some h
              obtain ⟨h3, h4⟩ := gd_some h2
              simp only [lenOf, hb] at hln
              injection hln with hln
              obtain ⟨n', h5, h6⟩ := hd (s.w, l.length * s.w) (by rw [hb]; rfl)
              have : n' = n := by rw [← hln]; exact Nat.eq_of_mul_eq_mul_right (w_pos s) h5
              subst this
              exact part_cut hR he (by rw [hb]; rfl) (Nat.eq_of_beq_eq_true h1) h6 hlo hhi h3 (by rw [Nat.zero_add]; exact h4)
            | cells es' z l =>
              rw [hb] at h
              obtain ⟨h1, h2⟩ := gd_some h
              obtain ⟨h3, h4⟩ := gd_some h2
              rw [Bool.and_eq_true] at h1
              simp only [lenOf, hb] at hln
              injection hln with hln
              obtain ⟨n', h5, h6⟩ := hd (es', l.length) (by rw [hb]; rfl)
              have he1 := Nat.eq_of_beq_eq_true h1.1
              have he2 := Nat.le_of_ble_eq_true h1.2
              have : n' = n := by
                simp only at h5
                rw [← hln, ← h5, Nat.mul_div_cancel _ (by omega)]
              subst this
              exact part_cut hR he (by rw [hb]; rfl) he1 h6 hlo hhi h3 (by rw [Nat.zero_add]; exact h4)
        · rename_i q o m hv
          rw [hv] at hx hln
          cases hx with
          | part hk _ hd =>
            simp only [lenOf] at hln
            cases hb : sget c.S q with
            | dead => rw [hb] at h; cases h
            | arr s z l =>
              rw [hb] at h hln
              injection hln with hln
              subst hln
              obtain ⟨h1, h2⟩ := gd_some h
              obtain ⟨h3, h4⟩ := gd_some h2
              exact part_cut hR he (dm := (s.w, l.length * s.w)) (by rw [hb]; rfl) (Nat.eq_of_beq_eq_true h1) (hd _ (by rw [hb]; rfl)) hlo hhi h3 h4
            | cells es' z l =>
              rw [hb] at h hln
              injection hln with hln
              subst hln
              obtain ⟨h1, h2⟩ := gd_some h
              obtain ⟨h3, h4⟩ := gd_some h2
              rw [Bool.and_eq_true] at h1
              exact part_cut hR he (dm := (es', l.length)) (by rw [hb]; rfl) (Nat.eq_of_beq_eq_true h1.1) (hd _ (by rw [hb]; rfl)) hlo hhi h3 h4
        · cases h

theorem bytesI_extract (s : ByteArray) (a b : Nat) : bytesI (s.extract a b) = ((bytesI s).take b).drop a := by
  simp [bytesI, ByteArray.data_extract, Array.toList_extract, List.extract_eq_take_drop, List.map_drop, List.map_take, List.drop_take]
theorem sliceStr_ok (hR : Rel c) (he : EnvRel c e ea) {x : Operand} {lo hi : Option Operand} (h : sliceStrK c.S (ev e x) (lo.map (ev e)) (hi.map (ev e)) k = some y) : runOp T (.sliceStr x lo hi) ea c.σ (Out c d k y) := by
  have hx := ev_rel he x
  unfold sliceStrK at h
  split at h
  · rename_i l hv
    rw [hv] at hx
    obtain ⟨s, h1, rfl⟩ := hx.str_inv
    split at h
    · rename_i a b hlo hhi
      obtain ⟨h2, h3⟩ := gd_some h
      obtain ⟨h4, h5, h6⟩ := cutG_some h2
      rw [bytesI_size] at h6 hhi
      refine run_of (v := .string (s.extract a.toNat b.toNat)) ?_ (Out.same hR (.str (bytesI_extract s _ _)) h3)
      simp only [AOp.run, h1, bound_hi he hhi (by omega) h6 (Nat.le_refl _), bound_lo he hlo h4 (m := b.toNat) (by omega)]
    · cases h
  · cases h

theorem blk_vals_len' {blk : Blk} {dm : Nat × Nat} (h : blk.dim = some dm) : blk.vals.length = dm.2 := by
  cases blk with
  | dead => cases h
  | cells es z l => injection h with h; subst h; rfl
  | arr s z l => injection h with h; subst h; exact flatL_len
theorem sliceArr_ok (hR : Rel c) (he : EnvRel c e ea) {es n : Nat} {x : Operand} {lo hi : Option Operand} (h : sliceArrK c.S es n (ev e x) (lo.map (ev e)) (hi.map (ev e)) k = some y) : runOp T (.sliceArr es n x lo hi) ea c.σ (Out c d k y) := by
  have hx := ev_rel he x
  unfold sliceArrK at h
  split at h
  · rename_i q o hv
    rw [hv] at hx
    split at h
    · rename_i es' l hb
      split at h
      · rename_i a b hlo hhi
        obtain ⟨h1, h2⟩ := gd_some h
        simp only [Bool.and_eq_true] at h1
        obtain ⟨⟨⟨⟨⟨h3, h4⟩, h5⟩, h6⟩, h7⟩, h8⟩ := h1
        have h3 := Nat.eq_of_beq_eq_true h3
        have h4 := Nat.le_of_ble_eq_true h4
        have h5 := Nat.eq_of_beq_eq_true h5
        have h6 := Nat.le_of_ble_eq_true h6
        have h8 := of_decide_eq_true h8
        obtain ⟨h9, h10, h11⟩ := cutG_some h7
        subst h3
        cases hx with
        | ptr hk _ hd =>
          have hdim : (sget c.S q).dim = some (es, l.length) := by rw [hb]; rfl
          obtain ⟨bb, hm, hp⟩ := hd _ hdim
          obtain ⟨z, cs, rest, h12, h13, h14, h15, h16⟩ := hR.block hdim hm
          rw [hb] at h14 h16
          have hl := h16.length
          simp only [Blk.vals] at hl
          have hzl : l.length ≤ z.cells.length := by rw [h15, List.length_append, hl]; omega
          have hdiv : o / es * es = o := Nat.div_mul_cancel (Nat.dvd_of_mod_eq_zero h5)
          have hae : (o / es + a.toNat) * es = o + a.toNat * es := by rw [Nat.add_mul, hdiv]
          refine run_of (v := .slice (some ⟨bb, o + a.toNat * es, none⟩) (b.toNat - a.toNat) (n - a.toNat)) (σ' := c.σ) ?_ (Out.same hR ?_ h2)
          · simp only [AOp.run, hp, h12]
            rw [if_pos ⟨h14 rfl, h13, by omega⟩, bound_hi he hhi (by omega) h11 (Nat.le_refl _)]
            simp only
            rw [bound_lo he hlo h9 (m := b.toNat) (by omega)]
            simp only
            rw [if_pos (by omega)]
          · refine .part hk rfl fun d' hd' => ?_
            rw [hdim] at hd'
            injection hd' with hd'
            subst hd'
            refine .inr ⟨bb, n - a.toNat, z, by simp only [hae], hm, ?_, by omega, h12, ?_⟩
            · have h17 : o / es + a.toNat + (b.toNat - a.toNat) = o / es + b.toNat := by omega
              simp only
              rw [h17, Nat.add_mul, hdiv]
              have : b.toNat * es ≤ n * es := Nat.mul_le_mul_right _ (by omega)
              omega
            · have h17 : o / es + a.toNat + (n - a.toNat) = o / es + n := by omega
              simp only
              rw [h17, Nat.add_mul, hdiv]
              omega
      · cases h
    · rename_i s l hb
      split at h
      · rename_i a b hlo hhi
        obtain ⟨h1, h2⟩ := gd_some h
        simp only [Bool.and_eq_true] at h1
        obtain ⟨⟨⟨⟨h3, h5⟩, h6⟩, h7⟩, h8⟩ := h1
        have h3 := Nat.eq_of_beq_eq_true h3
        have h5 := Nat.eq_of_beq_eq_true h5
        have h6 := Nat.le_of_ble_eq_true h6
        have h8 := of_decide_eq_true h8
        obtain ⟨h9, h10, h11⟩ := cutG_some h7
        subst h3
        subst h5
        cases hx with
        | ptr hk _ hd =>
          have hdim : (sget c.S q).dim = some (s.w, l.length * s.w) := by rw [hb]; rfl
          obtain ⟨bb, hm, hp⟩ := hd _ hdim
          obtain ⟨z, cs, rest, h12, h13, h14, h15, h16⟩ := hR.block hdim hm
          have hl := h16.length
          rw [blk_vals_len' hdim] at hl
          rw [hb] at h14
          have hle : n * s.w ≤ l.length * s.w := Nat.mul_le_mul_right _ h6
          have hzl : l.length * s.w ≤ z.cells.length := by rw [h15, List.length_append]; simp only at hl; omega
          have h17 : (a.toNat + (b.toNat - a.toNat)) * s.w ≤ l.length * s.w := Nat.mul_le_mul_right _ (by omega)
          have h18 : (a.toNat + (n - a.toNat)) * s.w ≤ l.length * s.w := Nat.mul_le_mul_right _ (by omega)
          refine run_of (v := .slice (some ⟨bb, 0 + a.toNat * s.w, none⟩) (b.toNat - a.toNat) (n - a.toNat)) (σ' := c.σ) ?_ (Out.same hR ?_ h2)
          · simp only [AOp.run, hp, h12]
            rw [if_pos ⟨h14 rfl, h13, by omega⟩, bound_hi he hhi (by omega) h11 (Nat.le_refl _)]
            simp only
            rw [bound_lo he hlo h9 (m := b.toNat) (by omega)]
            simp only
            rw [if_pos (by omega)]
          · refine .part hk rfl fun d' hd' => ?_
            rw [hdim] at hd'
            injection hd' with hd'
            subst hd'
            exact .inr ⟨bb, n - a.toNat, z, by simp only [Nat.zero_add], hm, h17, by omega, h12, by simp only; omega⟩
      · cases h
    · cases h
  · cases h

theorem off_ok (hR : Rel c) (he : EnvRel c e ea) {n : Nat} {x : Operand} (h : optV c.S (offV c.S n (ev e x)) k = some y) : runOp T (.off n x) ea c.σ (Out c d k y) := by
  have hx := ev_rel he x
  have key : ∀ w b o, ea.ev x = .pointer (some ⟨b, o, none⟩) → VRel c w (.pointer (some ⟨b, o + n, none⟩)) → k w c.S = some y → runOp T (.off n x) ea c.σ (Out c d k y) := by
    intro w b o h1 hw hk
    exact run_of (by simp only [AOp.run, h1]) (Out.same hR hw hk)
  generalize ev e x = xv at *
  cases xv <;> simp only [offV] at h <;> try (cases h; done)
  case ptr q o =>
    cases hl : (sget c.S q).live with
    | false => rw [hl] at h; cases h
    | true =>
      rw [hl] at h
      obtain ⟨dd, hdd⟩ := live_dim hl
      cases hx with
      | ptr hk _ hd =>
        obtain ⟨b, hm, hp⟩ := hd dd hdd
        exact key _ b o hp (.ptr hk rfl fun d' _ => ⟨b, hm, rfl⟩) h
  case pix q o m i =>
    cases hl : (sget c.S q).live with
    | false => rw [hl] at h; cases h
    | true =>
      rw [hl] at h
      obtain ⟨dd, hdd⟩ := live_dim hl
      cases hx with
      | pix hk h1 hi hd =>
        obtain ⟨b, hm, hp⟩ := hd dd hdd
        cases hn : Nat.beq n 0 with
        | false => rw [hn] at h; cases h
        | true =>
          rw [hn] at h
          have := Nat.eq_of_beq_eq_true hn
          subst this
          exact key _ b (o + i) hp (.pix hk rfl hi fun d' _ => ⟨b, hm, rfl⟩) h
  case pel q i o =>
    cases hl : (sget c.S q).live with
    | false => rw [hl] at h; cases h
    | true =>
      rw [hl] at h
      obtain ⟨dd, hdd⟩ := live_dim hl
      cases hx with
      | pel hk _ hd =>
        obtain ⟨b, hm, hp⟩ := hd dd hdd
        refine key _ b _ hp (.pel hk rfl fun d' hd' => ⟨b, hm, ?_⟩) h
        rw [hdd] at hd'
        injection hd' with hd'
        subst hd'
        rw [Nat.add_assoc]
  case pin s z o =>
    generalize hxa : ea.ev x = xa at hx
    cases hx with
    | pin hn hy hl hf =>
      refine key _ _ _ hxa ?_ h
      rw [Nat.add_assoc]
      exact .pin hn hy hl hf

/-- An element of a slice. -/
theorem idx_run {es : Nat} {x i : Operand} {b o n cp : Nat} {kd : IntKind} {z : Int} (hx : ea.ev x = .slice (some ⟨b, o, none⟩) n cp) (hi : ea.ev i = .int kd z) (h0 : 0 ≤ z) (hn : z < n) :
    (AOp.idx es x i).run ea c.σ = some (.pointer (some ⟨b, o + z.toNat * es, none⟩), c.σ) := by
  simp only [AOp.run, hx, hi]
  rw [if_pos ⟨h0, hn⟩]

/-- An element of what may be written. -/
theorem part_idx (hR : Rel c) (he : EnvRel c e ea) {es q o n : Nat} {dm : Nat × Nat} {x i : Operand} {z : Int} {w : VV} {kd : IntKind} (hs : SlR c q o n dm (ea.ev x)) (hi : ea.ev i = .int kd z) (h0 : 0 ≤ z) (hn : z < n)
    (hw : ∀ b, c.μ q = some b → VRel c w (.pointer (some ⟨b, o * dm.1 + z.toNat * es, none⟩))) (hk : k w c.S = some y) : runOp T (.idx es x i) ea c.σ (Out c d k y) := by
  rcases hs with ⟨_, _, h3, _, _⟩ | ⟨b, cp, x', h1, h2, _⟩
  · omega
  · exact run_of (idx_run h1 hi h0 hn) (Out.same hR (hw b h2) hk)

theorem idx_ok (hR : Rel c) (he : EnvRel c e ea) {es : Nat} {x i : Operand} (h : idxK c.S es (ev e x) (ev e i) k = some y) : runOp T (.idx es x i) ea c.σ (Out c d k y) := by
  have hx := ev_rel he x
  have hi := ev_rel he i
  unfold idxK at h
  split at h
  · rename_i kd z hz
    rw [hz] at hi
    have hi := hi.int_inv
    split at h
    · rename_i s l hv
      rw [hv] at hx
      obtain ⟨h1, h2⟩ := gd_some h
      have h1 := Nat.eq_of_beq_eq_true h1
      obtain ⟨el, h3, h4⟩ := bind_some' h2
      obtain ⟨h5, h6, h7⟩ := rd_some h3
      generalize hxa : ea.ev x = xa at hx
      cases hx with
      | lstn => simp at h6; omega
      | lst hn hy he' h8 h9 h10 h11 =>
        rename_i b p cp blk
        subst h1
        refine run_of (idx_run hxa hi h5 (by rw [h8]; exact h6)) (Out.same hR ?_ h4)
        have h12 : z.toNat * s.w + s.w ≤ l.length * s.w := by rw [← Nat.succ_mul]; exact Nat.mul_le_mul_right _ (by omega)
        have h13 := (h11.drop (z.toNat * s.w)).take s.w
        rw [flatL_get h7, List.drop_take, List.drop_drop, List.take_take, Nat.min_eq_left (by rw [h8]; omega)] at h13
        exact VRel.pin (o := 0) hn hy (by rw [h8] at h10; exact Nat.le_trans (Nat.le_of_eq (Nat.add_assoc _ _ _)) (Nat.le_trans (Nat.add_le_add_left h12 _) h10)) h13
    · rename_i q hv
      rw [hv] at hx
      cases hx with
      | full hk _ hd =>
        cases hb : sget c.S q with
        | dead => rw [hb] at h; cases h
        | arr s z' l =>
          rw [hb] at h
          obtain ⟨h1, h2⟩ := gd_some h
          obtain ⟨j, h3, h4⟩ := bind_some' h2
          obtain ⟨h5, h6, rfl, h7⟩ := ix_some h3
          have hdim : (sget c.S q).dim = some (s.w, l.length * s.w) := by rw [hb]; rfl
          obtain ⟨n, h8, h9⟩ := hd _ hdim
          have : n = l.length := Nat.eq_of_mul_eq_mul_right (w_pos s) h8
          subst this
          refine part_idx hR he h9 hi h5 h6 (fun b hm => .pel hk rfl fun d' hd' => ⟨b, hm, ?_⟩) h4
          rw [hdim] at hd'
          injection hd' with hd'
          subst hd'
          rw [Nat.eq_of_beq_eq_true h1]
          simp
        | cells es' z' l =>
          rw [hb] at h
          obtain ⟨h1, h2⟩ := gd_some h
          rw [Bool.and_eq_true] at h1
          have h11 := Nat.eq_of_beq_eq_true h1.1
          have h12 := Nat.le_of_ble_eq_true h1.2
          subst h11
          obtain ⟨j, h3, h4⟩ := bind_some' h2
          obtain ⟨h5, h6, rfl, h7⟩ := ix_some h3
          have hdim : (sget c.S q).dim = some (es, l.length) := by rw [hb]; rfl
          obtain ⟨n, h8, h9⟩ := hd _ hdim
          have hn : n = l.length / es := by
            simp only at h8
            rw [← h8, Nat.mul_div_cancel _ (by omega)]
          cases he1 : Nat.beq es 1 with
          | true =>
            rw [he1] at h4
            have he1 := Nat.eq_of_beq_eq_true he1
            subst he1
            refine part_idx hR he h9 hi h5 (by rw [hn]; exact h6) (fun b hm => .pix hk rfl (by rw [Nat.div_one] at h7; exact h7) fun d' hd' => ⟨b, hm, by simp⟩) h4
          | false =>
            rw [he1] at h4
            refine part_idx hR he h9 hi h5 (by rw [hn]; exact h6) (fun b hm => .ptr hk rfl fun d' hd' => ⟨b, hm, by simp⟩) h4
    · rename_i q o n hv
      rw [hv] at hx
      cases hx with
      | part hk _ hd =>
        cases hb : sget c.S q with
        | dead => rw [hb] at h; cases h
        | arr s z' l =>
          rw [hb] at h
          obtain ⟨h1, h2⟩ := gd_some h
          obtain ⟨j, h3, h4⟩ := bind_some' h2
          obtain ⟨h5, h6, rfl, h7⟩ := ix_some h3
          have hdim : (sget c.S q).dim = some (s.w, l.length * s.w) := by rw [hb]; rfl
          refine part_idx hR he (hd _ hdim) hi h5 h6 (fun b hm => .pel hk rfl fun d' hd' => ⟨b, hm, ?_⟩) h4
          rw [hdim] at hd'
          injection hd' with hd'
          subst hd'
          rw [Nat.eq_of_beq_eq_true h1, Nat.add_mul]
          simp
        | cells es' z' l =>
          rw [hb] at h
          obtain ⟨h1, h2⟩ := gd_some h
          rw [Bool.and_eq_true] at h1
          have h11 := Nat.eq_of_beq_eq_true h1.1
          subst h11
          obtain ⟨j, h3, h4⟩ := bind_some' h2
          obtain ⟨h5, h6, rfl, h7⟩ := ix_some h3
          have hdim : (sget c.S q).dim = some (es, l.length) := by rw [hb]; rfl
          cases he1 : Nat.beq es 1 with
          | true =>
            rw [he1] at h4
            have he1 := Nat.eq_of_beq_eq_true he1
            subst he1
            refine part_idx hR he (hd _ hdim) hi h5 h6 (fun b hm => .pix hk rfl h7 fun d' hd' => ⟨b, hm, by simp⟩) h4
          | false =>
            rw [he1] at h4
            refine part_idx hR he (hd _ hdim) hi h5 h6 (fun b hm => .ptr hk rfl fun d' hd' => ⟨b, hm, by simp [Nat.add_mul]⟩) h4
    · cases h
  · cases h

theorem idxA_ok (hR : Rel c) (he : EnvRel c e ea) {ln es : Nat} {x i : Operand} (h : idxAK c.S ln es (ev e x) (ev e i) k = some y) : runOp T (.idxA ln es x i) ea c.σ (Out c d k y) := by
  have hx := ev_rel he x
  have hi := ev_rel he i
  unfold idxAK at h
  split at h
  · rename_i q o kd z hv hz
    rw [hv] at hx
    rw [hz] at hi
    have hi := hi.int_inv
    obtain ⟨hl, h⟩ := gd_some h
    obtain ⟨j, h3, h4⟩ := bind_some' h
    obtain ⟨h5, h6, rfl, h7⟩ := ix_some h3
    cases hx with
    | ptr hk _ hd =>
        obtain ⟨dd, hdd⟩ := live_dim hl
        obtain ⟨b, hm, hp⟩ := hd dd hdd
        have hrun : (AOp.idxA ln es x i).run ea c.σ = some (.pointer (some ⟨b, o + z.toNat * es, none⟩), c.σ) := by
          simp only [AOp.run, hp, hi]
          rw [if_pos ⟨h5, h6⟩]
        refine run_of hrun ?_
        cases he1 : Nat.beq es 1 with
        | true =>
          rw [he1] at h4
          have he1 := Nat.eq_of_beq_eq_true he1
          subst he1
          exact Out.same hR (.pix hk rfl h7 fun d' hd' => ⟨b, hm, by simp⟩) h4
        | false =>
          rw [he1] at h4
          exact Out.same hR (.ptr hk rfl fun d' hd' => ⟨b, hm, rfl⟩) h4
  · cases h
end
end Go.V
