/- The value machine: what it reads, and how it turns memory. -/
import Derived.Test.YtbdihjmnbadfhaaGreatDoorV4
namespace Go.V
set_option linter.unusedVariables false
set_option linter.unusedSimpArgs false
open Go.Ab

def EnvRel (c : Ctx) (e : VEnv) (ea : Env) : Prop := ∀ t, VRel c (getV e t) (ea t)
theorem EnvRel.frame {c c' : Ctx} {e : VEnv} {ea : Env} (h : EnvRel c e ea) (hl : Le c c') : EnvRel c' e ea := fun t => (h t).frame hl
theorem getV_put {e : VEnv} {d t : Nat} {v : VV} : getV (putV e d v) t = if t = d then v else getV e t := by
  induction d generalizing e t with
  | zero => cases e <;> cases t <;> simp [putV, getV]
  | succ d ih =>
    cases e with
    | nil =>
      cases t with
      | zero => simp [putV, getV]
      | succ t => simp [putV, getV, ih]
    | cons a r =>
      cases t with
      | zero => simp [putV, getV]
      | succ t => simp [putV, getV, ih]
theorem EnvRel.put {c : Ctx} {e : VEnv} {ea : Env} (h : EnvRel c e ea) {d : Nat} {v : VV} {a : Value} (hv : VRel c v a) : EnvRel c (putV e d v) (ea.put d a) := by
  intro t
  rw [getV_put]
  unfold Env.put
  by_cases ht : t = d
  · rw [if_pos ht, if_pos ht]; exact hv
  · rw [if_neg ht, if_neg ht]; exact h t
theorem EnvRel.putO {c : Ctx} {e : VEnv} {ea : Env} (h : EnvRel c e ea) {d : Option Nat} {v : VV} {a : Value} (hv : VRel c v a) : EnvRel c (putO e d v) (ea.putO d a) := by
  cases d with
  | none => exact h
  | some d => exact h.put hv

theorem ofC1_rel (c : Ctx) (v : Value) : VRel c (ofC1 v) v := by
  unfold ofC1
  split
  · exact .bool _
  · exact .int _ _
  · exact .str rfl
  · exact .nilp
  · exact .nils
  · exact .nilf
  · exact .undef _
theorem F2.map_left {α β γ : Type} {r : γ → β → Prop} {f : α → γ} : ∀ (l : List α) (m : List β), F2 (fun a b => r (f a) b) l m → F2 r (l.map f) m
  | [], _, h => by cases h; exact .nil
  | a :: l, _, h => by cases h with | cons h1 h2 => exact .cons h1 (F2.map_left l _ h2)
theorem ofC1_rels (c : Ctx) (l : List Value) : F2 (VRel c) (l.map ofC1) l := by
  induction l with
  | nil => exact .nil
  | cons v l ih => exact .cons (ofC1_rel c v) ih
theorem ofC_rel (c : Ctx) (v : Value) : VRel c (ofC v) v := by
  unfold ofC
  split
  · rename_i cs
    exact .agg (by simpa using ofC1_rels c cs.toList)
  · exact ofC1_rel c _
theorem ev_rel {c : Ctx} {e : VEnv} {ea : Env} (h : EnvRel c e ea) (x : Operand) : VRel c (ev e x) (ea.ev x) := by
  cases x with
  | tmp t => exact h t
  | const v => exact ofC_rel c v
  | global _ => exact .undef _
  | func f => exact .fn .nil .nil
theorem ev_rels {c : Ctx} {e : VEnv} {ea : Env} (h : EnvRel c e ea) (xs : List Operand) : F2 (VRel c) (xs.map (ev e)) (xs.map ea.ev) := by
  induction xs with
  | nil => exact .nil
  | cons x xs ih => exact .cons (ev_rel h x) ih

theorem gd_some {β : Type} {b : Bool} {x : Option β} {y : β} (h : gd b x = some y) : b = true ∧ x = some y := by
  cases b with
  | false => cases h
  | true => exact ⟨rfl, h⟩

theorem oneV_one {c : Ctx} {v : VV} {a : Value} (h : VRel c v a) (h1 : oneV v = true) : one a = true := by
  cases h <;> first | rfl | assumption | (cases h1; done) | (rename_i h; rcases h with rfl | ⟨_, _, rfl⟩ <;> rfl)
theorem allOne_all {c : Ctx} : ∀ {l : List VV} {m : List Value}, F2 (VRel c) l m → allOne l = true → m.all one = true
  | _, _, .nil, _ => rfl
  | _, _, .cons h1 h2, h => by
    simp only [allOne, List.all_cons, Bool.and_eq_true] at h ⊢
    exact ⟨oneV_one h1 h.1, allOne_all h2 h.2⟩
theorem toCells_one : ∀ (s : Sh) (x : El s), allOne (toCells s x) = true
  | .int _, _ => rfl
  | .bool, _ => rfl
  | .str, _ => rfl
  | .list _, _ => rfl
  | .pair a b, x => by
    have h1 := toCells_one a x.1
    have h2 := toCells_one b x.2
    simp only [allOne, toCells, List.all_append, Bool.and_eq_true] at *
    exact ⟨h1, h2⟩
theorem flatL_one (s : Sh) (l : List (El s)) : allOne (flatL s l) = true := by
  induction l with
  | nil => rfl
  | cons x l ih =>
    have h1 := toCells_one s x
    rw [flatL_cons]
    simp only [allOne, List.all_append, Bool.and_eq_true] at *
    exact ⟨h1, ih⟩
theorem cells_rel {c : Ctx} {v : VV} {a : Value} (h : VRel c v a) (hv : allOne (cellsV v) = true) : F2 (VRel c) (cellsV v) (cellsOf a) := by
  have hone : one a = true → cellsOf a = [a] := fun h => by cases a <;> first | rfl | (cases h; done)
  cases v with
  | agg l =>
    cases h with
    | agg h => exact h
  | undef => cases hv
  | tup l => cases hv
  | _ =>
    rw [hone (oneV_one h rfl)]
    exact .cons h .nil

theorem run_of {T : Specs} {op : AOp} {e : Env} {σ σ' : Hp} {v : Value} {K : Value → Hp → Prop} (h : op.run e σ = some (v, σ')) (hk : K v σ') : runOp T op e σ K := by
  unfold runOp
  split
  · cases h
  · cases h
  · rw [h]; exact hk

theorem nth_eq {α : Type} : ∀ (l : List α) (i : Nat), nth l i = l[i]?
  | [], _ => rfl
  | _ :: _, 0 => rfl
  | _ :: l, i + 1 => by
    rw [show nth (_ :: l) (i + 1) = nth l i from rfl, nth_eq l i]
    rfl
theorem F2.nth {c : Ctx} {l : List VV} {m : List Value} (h : F2 (VRel c) l m) {i : Nat} {v : VV} (hv : nth l i = some v) : ∃ a, m[i]? = some a ∧ VRel c v a := by
  rw [nth_eq] at hv
  exact h.get i v hv

/-! ### One of several -/
theorem ints_some {k : IntKind} : ∀ {cs : List VV} {l : List Int}, ints? k cs = some l → cs = l.map (.int k)
  | [], l, h => by cases h; rfl
  | v :: r, l, h => by
    cases v <;> simp only [ints?] at h <;> try (cases h; done)
    rename_i k' n
    cases hk : decide (k' = k) with
    | false => rw [hk] at h; cases h
    | true =>
      rw [hk, cond_true] at h
      cases h1 : ints? k r with
      | none => rw [h1] at h; cases h
      | some m =>
        rw [h1] at h
        injection h with h
        subst h
        rw [ints_some h1, of_decide_eq_true hk]
        rfl
theorem bools_some : ∀ {cs : List VV} {l : List Bool}, bools? cs = some l → cs = l.map .bool
  | [], l, h => by cases h; rfl
  | v :: r, l, h => by
    cases v <;> simp only [bools?] at h <;> try (cases h; done)
    cases h1 : bools? r with
    | none => rw [h1] at h; cases h
    | some m =>
      rw [h1] at h
      injection h with h
      subst h
      rw [bools_some h1]
      rfl
theorem strs_some : ∀ {cs : List VV} {l : List (List Int)}, strs? cs = some l → cs = l.map .str
  | [], l, h => by cases h; rfl
  | v :: r, l, h => by
    cases v <;> simp only [strs?] at h <;> try (cases h; done)
    cases h1 : strs? r with
    | none => rw [h1] at h; cases h
    | some m =>
      rw [h1] at h
      injection h with h
      subst h
      rw [strs_some h1]
      rfl
theorem pickL_ok {β : Type} {S : Store} {k : VV → Store → Option β} {y : β} : ∀ {cs : List VV} {i : Nat}, pickL S k cs i = some y → ∃ v, cs[i]? = some v ∧ k v S = some y
  | [], _, h => by cases h
  | v :: r, i, h => by
    simp only [pickL] at h
    cases hi : Nat.beq i 0 with
    | true =>
      rw [hi] at h
      have := Nat.eq_of_beq_eq_true hi
      subst this
      exact ⟨v, rfl, h⟩
    | false =>
      rw [hi] at h
      obtain ⟨w, h1, h2⟩ := pickL_ok h
      have : i ≠ 0 := fun e => by subst e; cases hi
      obtain ⟨j, rfl⟩ := Nat.exists_eq_succ_of_ne_zero this
      exact ⟨w, h1, h2⟩
theorem anyOf_ok {β : Type} {S : Store} {k : VV → Store → Option β} {y : β} {cs : List VV} {i : Nat} (hi : i < cs.length) (h : anyOf cs i S k = some y) : ∃ v, cs[i]? = some v ∧ k v S = some y := by
  unfold anyOf at h
  split at h
  · rename_i kd n r
    split at h
    · rename_i l hl
      have := ints_some hl
      subst this
      refine ⟨_, ?_, h⟩
      rw [show (VV.int kd n :: l.map (VV.int kd)) = (n :: l).map (VV.int kd) from rfl, List.getElem?_map]
      have hi' : i < (n :: l).length := by simpa using hi
      rw [List.getElem?_eq_getElem hi', List.getD_eq_getElem?_getD, List.getElem?_eq_getElem hi']
      rfl
    · cases h
  · rename_i b r
    split at h
    · rename_i l hl
      have := bools_some hl
      subst this
      refine ⟨_, ?_, h⟩
      rw [show (VV.bool b :: l.map VV.bool) = (b :: l).map VV.bool from rfl, List.getElem?_map]
      have hi' : i < (b :: l).length := by simpa using hi
      rw [List.getElem?_eq_getElem hi', List.getD_eq_getElem?_getD, List.getElem?_eq_getElem hi']
      rfl
    · cases h
  · rename_i b r
    split at h
    · rename_i l hl
      have := strs_some hl
      subst this
      refine ⟨_, ?_, h⟩
      rw [show (VV.str b :: l.map VV.str) = (b :: l).map VV.str from rfl, List.getElem?_map]
      have hi' : i < (b :: l).length := by simpa using hi
      rw [List.getElem?_eq_getElem hi', List.getD_eq_getElem?_getD, List.getElem?_eq_getElem hi']
      rfl
    · cases h
  · exact pickL_ok h

/-! ### What stands in memory -/
theorem Rel.block {c : Ctx} (hR : Rel c) {k b : Nat} {d : Nat × Nat} (hd : (sget c.S k).dim = some d) (hm : c.μ k = some b) :
    ∃ y cs rest, c.σ.m b = some y ∧ y.es = d.1 ∧ ((sget c.S k).frozen = false → y.own = true) ∧ y.cells = cs ++ rest ∧ F2 (VRel c) (sget c.S k).vals cs := by
  obtain ⟨_, h⟩ := hR.blk k d hd
  rcases h with ⟨_, h⟩ | ⟨b', y, cs, rest, h, h'⟩
  · rw [h] at hm; cases hm
  · rw [hm] at h
    injection h with h
    subst h
    exact ⟨y, cs, rest, h'⟩

/-- Cells that stand in a block from a place on. -/
def Stands (c : Ctx) (cs : List VV) (b p : Nat) : Prop := ∃ y, c.σ.m b = some y ∧ p + cs.length ≤ y.cells.length ∧ F2 (VRel c) cs ((y.cells.drop p).take cs.length)
theorem Stands.get {c : Ctx} {cs : List VV} {b p : Nat} (h : Stands c cs b p) {o : Nat} {v : VV} (hv : nth cs o = some v) : ∃ y a, c.σ.m b = some y ∧ y.cells[p + o]? = some a ∧ VRel c v a := by
  obtain ⟨y, h1, h2, h3⟩ := h
  obtain ⟨a, h4, h5⟩ := F2.nth h3 hv
  refine ⟨y, a, h1, ?_, h5⟩
  rw [nth_eq] at hv
  have ho : o < cs.length := by
    rcases Nat.lt_or_ge o cs.length with h | h
    · exact h
    · rw [List.getElem?_eq_none h] at hv; cases hv
  rwa [List.getElem?_take, if_pos ho, List.getElem?_drop] at h4
theorem Stands.read {c : Ctx} {cs : List VV} {b p : Nat} (h : Stands c cs b p) {o n : Nat} (hn : o + n ≤ cs.length) : ∃ y as, c.σ.m b = some y ∧ readN y (p + o) n = some as ∧ F2 (VRel c) ((cs.drop o).take n) as := by
  obtain ⟨y, h1, h2, h3⟩ := h
  refine ⟨y, (y.cells.drop (p + o)).take n, h1, if_pos (by omega), ?_⟩
  have h4 := (h3.drop o).take n
  rw [List.drop_take, List.drop_drop, List.take_take, Nat.min_eq_left (by omega)] at h4
  exact h4
theorem Rel.stands {c : Ctx} (hR : Rel c) {k b : Nat} {d : Nat × Nat} (hd : (sget c.S k).dim = some d) (hm : c.μ k = some b) : Stands c (sget c.S k).vals b 0 := by
  obtain ⟨y, cs, rest, h1, _, _, h2, h3⟩ := hR.block hd hm
  have hl := h3.length
  refine ⟨y, h1, by rw [h2, List.length_append]; omega, ?_⟩
  rw [List.drop_zero, h2, List.take_append_of_le_length (by omega), List.take_of_length_le (by omega)]
  exact h3
theorem Stands.part {c : Ctx} {cs : List VV} {b p : Nat} (h : Stands c cs b p) {o n : Nat} (hn : o + n ≤ cs.length) : Stands c ((cs.drop o).take n) b (p + o) := by
  obtain ⟨y, h1, h2, h3⟩ := h
  have hl : ((cs.drop o).take n).length = n := by rw [List.length_take, List.length_drop]; omega
  refine ⟨y, h1, by rw [hl]; omega, ?_⟩
  have h4 := (h3.drop o).take n
  rw [List.drop_take, List.drop_drop, List.take_take, Nat.min_eq_left (by omega)] at h4
  rwa [hl]

/-- Where a pointer points to, and what stands there. -/
theorem readK_ok {β : Type} {c : Ctx} (hR : Rel c) {n : Nat} {agg : Bool} {v : VV} {a : Value} {k : VV → Store → Option β} {y : β} (h : readK c.S n agg v k = some y) (hv : VRel c v a) :
    ∃ b o x, a = .pointer (some ⟨b, o, none⟩) ∧ c.σ.m b = some x ∧
      (agg = false → ∃ u w, x.cells[o]? = some u ∧ VRel c w u ∧ k w c.S = some y) ∧
      (agg = true → ∃ us ws, readN x o n = some us ∧ F2 (VRel c) ws us ∧ k (.agg ws) c.S = some y) := by
  have out : ∀ (cs : List VV) (b p o : Nat), Stands c cs b p → a = .pointer (some ⟨b, p + o, none⟩) →
      cond agg (gd (Nat.ble (o + n) cs.length) (k (.agg ((cs.drop o).take n)) c.S)) (match nth cs o with
        | some v => k v c.S
        | none => none) = some y →
      ∃ b o x, a = .pointer (some ⟨b, o, none⟩) ∧ c.σ.m b = some x ∧
      (agg = false → ∃ u w, x.cells[o]? = some u ∧ VRel c w u ∧ k w c.S = some y) ∧
      (agg = true → ∃ us ws, readN x o n = some us ∧ F2 (VRel c) ws us ∧ k (.agg ws) c.S = some y) := by
    intro cs b p o hs ha h
    cases agg with
    | true =>
      obtain ⟨h1, h2⟩ := gd_some h
      obtain ⟨x, as, h3, h4, h5⟩ := hs.read (Nat.le_of_ble_eq_true h1)
      exact ⟨b, p + o, x, ha, h3, (by intro h; cases h), fun _ => ⟨as, _, h4, h5, h2⟩⟩
    | false =>
      rw [cond_false] at h
      split at h
      · rename_i w hw
        obtain ⟨x, u, h3, h4, h5⟩ := hs.get hw
        exact ⟨b, p + o, x, ha, h3, (fun _ => ⟨u, w, h4, h5, h⟩), (by intro h; cases h)⟩
      · cases h
  unfold readK at h
  cases v with
  | ptr q o =>
    simp only at h
    cases hb : sget c.S q with
    | dead => rw [hb] at h; cases h
    | arr s z l => rw [hb] at h; cases h
    | cells es z l =>
      rw [hb] at h
      cases hv with
      | ptr hk _ hd =>
        obtain ⟨b, hm, ha⟩ := hd (es, l.length) (by rw [hb]; rfl)
        have hs := hR.stands (k := q) (d := (es, l.length)) (by rw [hb]; rfl) hm
        rw [hb] at hs
        exact out l b 0 o hs (by rw [ha, Nat.zero_add]) h
  | pix q o m i =>
    simp only at h
    cases hb : sget c.S q with
    | dead => rw [hb] at h; cases h
    | arr s z l => rw [hb] at h; cases h
    | cells es z l =>
      rw [hb] at h
      obtain ⟨h1, h2⟩ := gd_some h
      rw [Bool.and_eq_true] at h1
      have h3 := Nat.le_of_ble_eq_true h1.2
      have hagg : agg = false := by simpa using h1.1
      subst hagg
      cases hv with
      | pix hk _ hi hd =>
        obtain ⟨b, hm, ha⟩ := hd (es, l.length) (by rw [hb]; rfl)
        have hs := hR.stands (k := q) (d := (es, l.length)) (by rw [hb]; rfl) hm
        rw [hb] at hs
        have hlen : ((l.drop o).take m).length = m := by rw [List.length_take, List.length_drop]; omega
        obtain ⟨w, h4, h5⟩ := anyOf_ok (by omega) h2
        have hs' : Stands c ((l.drop o).take m) b (0 + o) := Stands.part (cs := l) hs h3
        rw [← nth_eq] at h4
        obtain ⟨x, u, h6, h7, h8⟩ := hs'.get h4
        exact ⟨b, o + i, x, ha, h6, (fun _ => ⟨u, w, by rwa [Nat.zero_add] at h7, h8, h5⟩), (by intro h; cases h)⟩
  | pel q i o =>
    simp only at h
    cases hb : sget c.S q with
    | dead => rw [hb] at h; cases h
    | cells es z l => rw [hb] at h; cases h
    | arr s z l =>
      rw [hb] at h
      simp only at h
      cases hx : l[i]? with
      | none => rw [hx] at h; cases h
      | some x =>
        rw [hx] at h
        cases hv with
        | pel hk _ hd =>
          obtain ⟨b, hm, ha⟩ := hd (s.w, l.length * s.w) (by rw [hb]; rfl)
          have hs := hR.stands (k := q) (d := (s.w, l.length * s.w)) (by rw [hb]; rfl) hm
          rw [hb] at hs
          have hi : i < l.length := by
            rcases Nat.lt_or_ge i l.length with h | h
            · exact h
            · rw [List.getElem?_eq_none h] at hx; cases hx
          have hle : i * s.w + s.w ≤ (flatL s l).length := by
            rw [flatL_len, ← Nat.succ_mul]
            exact Nat.mul_le_mul_right _ hi
          have hs' : Stands c (((flatL s l).drop (i * s.w)).take s.w) b (0 + i * s.w) := Stands.part (cs := flatL s l) hs hle
          rw [flatL_get hx, Nat.zero_add] at hs'
          exact out (toCells s x) b (i * s.w) o hs' ha h
  | pin s x o =>
    simp only at h
    cases hv with
    | pin hn hy hl hf =>
      exact out (toCells s x) _ _ o ⟨_, hy, by rw [toCells_len]; exact hl, by rw [toCells_len]; exact hf⟩ rfl h
  | _ => cases h
end Go.V
