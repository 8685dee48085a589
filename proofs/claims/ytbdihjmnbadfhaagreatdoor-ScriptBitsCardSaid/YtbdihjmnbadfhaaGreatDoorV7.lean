/- The value machine: its operations are the abstract machine's, first part. -/
import Derived.Test.YtbdihjmnbadfhaaGreatDoorV6
namespace Go.V
set_option linter.unusedVariables false
set_option linter.unusedSimpArgs false
open Go.Ab

section
variable {β : Type} {T : Specs} {c : Ctx} {e : VEnv} {ea : Env} {k : VV → Store → Option β} {y : β} {d : List Nat}

theorem VRel.bool_inv {b : Bool} {a : Value} (h : VRel c (.bool b) a) : a = .bool b := by cases h; rfl
theorem VRel.int_inv {kd : IntKind} {n : Int} {a : Value} (h : VRel c (.int kd n) a) : a = .int kd n := by cases h; rfl
theorem VRel.str_inv {l : List Int} {a : Value} (h : VRel c (.str l) a) : ∃ s, a = .string s ∧ bytesI s = l := by cases h; exact ⟨_, rfl, by assumption⟩
theorem VRel.agg_inv {l : List VV} {a : Value} (h : VRel c (.agg l) a) : ∃ as : Array Value, a = .agg as ∧ F2 (VRel c) l as.toList := by cases h; exact ⟨_, rfl, by assumption⟩
theorem VRel.tup_inv {l : List VV} {a : Value} (h : VRel c (.tup l) a) : ∃ as : Array Value, a = .tuple as ∧ F2 (VRel c) l as.toList := by cases h; exact ⟨_, rfl, by assumption⟩

theorem selV_rel {p : Bool} {x z v : VV} {xa za : Value} (h : selV p x z = some v) (hx : VRel c x xa) (hz : VRel c z za) : VRel c v (cond p xa za) := by
  unfold selV at h
  split at h
  · rename_i k1 n1 k2 n2
    cases hk : decide (k1 = k2) with
    | false => rw [hk] at h; cases h
    | true =>
      rw [hk] at h
      injection h with h
      subst h
      have := of_decide_eq_true hk
      subst this
      rw [hx.int_inv, hz.int_inv]
      cases p <;> exact .int _ _
  · injection h with h
    subst h
    rw [hx.bool_inv, hz.bool_inv]
    cases p <;> exact .bool _
  · injection h with h
    subst h
    cases p <;> assumption
  · cases h

theorem move_ok (hR : Rel c) (he : EnvRel c e ea) {x : Operand} (h : k (ev e x) c.S = some y) : runOp T (.move x) ea c.σ (Out c d k y) :=
  run_of rfl (Out.same hR (ev_rel he x) h)

theorem pick_ok (hR : Rel c) (he : EnvRel c e ea) {t a b : Operand} {p : Bool} (hp : ev e t = .bool p) (h : pickK p (ev e a) (ev e b) c.S k = some y) : runOp T (.pick t a b) ea c.σ (Out c d k y) := by
  have ht := ev_rel he t
  rw [hp] at ht
  have ht := ht.bool_inv
  have key : ∀ v, VRel c v (cond p (ea.ev a) (ea.ev b)) → k v c.S = some y → runOp T (.pick t a b) ea c.σ (Out c d k y) := by
    intro v hv hk
    refine run_of (v := cond p (ea.ev a) (ea.ev b)) (σ' := c.σ) ?_ (Out.same hR hv hk)
    simp only [AOp.run, ht]
    cases p <;> rfl
  unfold pickK at h
  split at h
  · rename_i v hs
    exact key v (selV_rel hs (ev_rel he a) (ev_rel he b)) h
  · cases p with
    | true => exact key _ (ev_rel he a) h
    | false => exact key _ (ev_rel he b) h

theorem Out.new {v : Value} {vv : VV} {b1 : Option Nat} {blk : Blk} {σ' : Hp} {kill : Option Nat} (hR : Rel c) (h : Moves c kill b1 blk σ') (hd : ∀ q, kill = some q → q ∈ d) (hv : VRel ⟨newMu c b1, killO c.S kill ++ [blk], σ', c.fb⟩ vv v) (hk : k vv (killO c.S kill ++ [blk]) = some y) : Out c d k y v σ' :=
  ⟨vv, _, rfl, h.le hR, h.rel hR, h.calm hR hd, hv, hk⟩

theorem new_ptr {blk : Blk} {x : Ab.Blk} {dm : Nat × Nat} (_ : blk.dim = some dm) : VRel ⟨newMu c (some c.σ.n), killO c.S none ++ [blk], c.σ.add x, c.fb⟩ (.ptr c.S.length 0) (.pointer (some ⟨c.σ.n, 0, none⟩)) := by
  refine .ptr (by simp [killO]) rfl fun d' _ => ⟨c.σ.n, ?_, rfl⟩
  simp [newMu]

theorem z8_all : ∀ {z : List Value}, z.all isZ8 = true → z = List.replicate z.length (.int .u8 0)
  | [], _ => rfl
  | v :: z, h => by
    rw [List.all_cons, Bool.and_eq_true] at h
    have h1 : v = .int .u8 0 := by
      have h0 := h.1
      unfold isZ8 at h0
      split at h0
      · rw [of_decide_eq_true h0]
      · cases h0
    rw [List.length_cons, List.replicate_succ, ← z8_all h.2, h1]
theorem allocB_facts (es : Nat) (z : List Value) : (allocB es z).dim = some (es, z.length) ∧ (allocB es z).frozen = false ∧ ∀ c : Ctx, F2 (VRel c) (allocB es z).vals z := by
  unfold allocB
  cases hb : bytesZ es z with
  | false =>
    rw [cond_false]
    exact ⟨by simp [Blk.dim], rfl, fun c => ofC1_rels c z⟩
  | true =>
    rw [cond_true]
    unfold bytesZ at hb
    rw [Bool.and_eq_true, Bool.and_eq_true] at hb
    have he := Nat.eq_of_beq_eq_true hb.1.1
    subst he
    refine ⟨by simp [Blk.dim, Sh.w], rfl, fun c => ?_⟩
    have hz := z8_all hb.2
    have key : ∀ n, F2 (VRel c) (flatL (.int .u8) (List.replicate n (0 : Int))) (List.replicate n (.int .u8 0)) := by
      intro n
      induction n with
      | zero => exact .nil
      | succ n ih => exact .cons (.int _ _) ih
    have h1 := key z.length
    rw [← hz] at h1
    exact h1
theorem alloc_ok (hR : Rel c) {es : Nat} {z : List Value} (h : gd (Nat.ble 1 es) (k (.ptr c.S.length 0) (c.S ++ [allocB es z])) = some y) : runOp T (.alloc es z) ea c.σ (Out c d k y) := by
  obtain ⟨h1, h2⟩ := gd_some h
  obtain ⟨h3, h4, h5⟩ := allocB_facts es z
  exact run_of rfl (Out.new (kill := none) hR (adds hR (blk := allocB es z) (x := ⟨z, true, es⟩) (d := (es, z.length)) h3 (Nat.le_of_ble_eq_true h1) rfl rfl (h5 c)) (fun _ h => by cases h) (new_ptr (dm := (es, z.length)) h3) h2)

theorem box_ok (hR : Rel c) (he : EnvRel c e ea) {es : Nat} {x : Operand} (h : gd (Nat.ble 1 es && allOne (cellsV (ev e x))) (k (.ptr c.S.length 0) (c.S ++ [.cells es false (cellsV (ev e x))])) = some y) : runOp T (.box es x) ea c.σ (Out c d k y) := by
  obtain ⟨h1, h2⟩ := gd_some h
  rw [Bool.and_eq_true] at h1
  have hf := cells_rel (ev_rel he x) h1.2
  refine run_of (by simp only [AOp.run]; rw [if_pos (allOne_all hf h1.2)]) (Out.new (kill := none) hR (adds hR (blk := .cells es false (cellsV (ev e x))) (x := ⟨cellsOf (ea.ev x), true, es⟩) (d := (es, (cellsV (ev e x)).length)) rfl (Nat.le_of_ble_eq_true h1.1) rfl rfl hf) (fun _ h => by cases h) (new_ptr (dm := (es, _)) rfl) h2)

theorem fill_ok (he : EnvRel c e ea) : ∀ (ps : List (Nat × Nat × Operand)) {cs r : List VV} {as : List Value}, fillV cs (partsV e ps) = some r → F2 (VRel c) cs as → ∃ ra, fillL as (ps.map fun (o, s, x) => (o, s, ea.ev x)) = some ra ∧ F2 (VRel c) r ra
  | [], cs, r, as, h, hf => by
    injection h with h
    subst h
    exact ⟨as, rfl, hf⟩
  | (o, s, x) :: ps, cs, r, as, h, hf => by
    simp only [partsV, List.map_cons, fillV] at h
    cases hb : (Nat.beq (cellsV (ev e x)).length s && Nat.ble (o + s) cs.length && (cellsV (ev e x)).all oneV) with
    | false => rw [hb] at h; cases h
    | true =>
      rw [hb, cond_true] at h
      rw [Bool.and_eq_true, Bool.and_eq_true] at hb
      have h1 := Nat.eq_of_beq_eq_true hb.1.1
      have h2 := Nat.le_of_ble_eq_true hb.1.2
      have hx := cells_rel (ev_rel he x) hb.2
      have h3 : (cellsOf (ea.ev x)).length = s := by rw [← hx.length]; exact h1
      have h4 : as.length = cs.length := hf.length.symm
      obtain ⟨ra, h5, h6⟩ := fill_ok he ps h (((hf.take o).append hx).append (hf.drop (o + s)))
      refine ⟨ra, ?_, h6⟩
      simp only [List.map_cons, fillL]
      rw [if_pos ⟨h3, by omega⟩]
      exact h5

theorem build_ok (hR : Rel c) (he : EnvRel c e ea) {z : List Value} {ps : List (Nat × Nat × Operand)} {cs : List VV} (hf : fillV (z.map ofC1) (partsV e ps) = some cs) (h : k (.agg cs) c.S = some y) : runOp T (.build z ps) ea c.σ (Out c d k y) := by
  obtain ⟨ra, h1, h2⟩ := fill_ok he ps hf (ofC1_rels c z)
  exact run_of (by simp only [AOp.run, h1]; rfl) (Out.same hR (.agg (by simpa using h2)) h)

theorem new_full {blk : Blk} {dm : Nat × Nat} {n m : Nat} {b : Nat} {yb : Ab.Blk} {σ' : Hp} {kill : Option Nat} (hd : blk.dim = some dm) (hn : n * dm.1 = dm.2) (hm : n ≤ m) (hy : σ'.m b = some yb) (hl : m * dm.1 ≤ yb.cells.length) :
    VRel ⟨newMu c (some b), killO c.S kill ++ [blk], σ', c.fb⟩ (.full c.S.length) (.slice (some ⟨b, 0, none⟩) n m) := by
  refine .full (by simp [killO_len]) rfl fun d' hd' => ?_
  simp only [moved_get, if_true] at hd'
  rw [hd] at hd'
  injection hd' with hd'
  subst hd'
  exact ⟨n, hn, .inr ⟨b, m, yb, by simp, by simp [newMu], by rw [Nat.zero_add, hn]; exact Nat.le_refl _, hm, hy, by rw [Nat.zero_add]; exact hl⟩⟩

theorem times_rel : ∀ (n : Nat) (z : List Value), F2 (VRel c) ((List.replicate n (z.map ofC1)).flatten) (times z n)
  | 0, _ => .nil
  | n + 1, z => by
    simp only [times, List.replicate_succ, List.flatten_cons]
    exact (ofC1_rels c z).append (times_rel n z)

theorem fillL_len : ∀ (ps : List (Nat × Nat × Value)) {as r : List Value}, fillL as ps = some r → r.length = as.length
  | [], as, r, h => by injection h with h; rw [h]
  | (o, s, v) :: ps, as, r, h => by
    simp only [fillL] at h
    split at h
    · rename_i hc
      rw [fillL_len ps h]
      simp only [List.length_append, List.length_take, List.length_drop]
      omega
    · cases h

theorem buildSlice_ok (hR : Rel c) (he : EnvRel c e ea) {es ln : Nat} {z : List Value} {ps : List (Nat × Nat × Operand)} {cs : List VV} (hf : fillV ((List.replicate ln (z.map ofC1)).flatten) (partsV e ps) = some cs)
    (h : gd (allOne cs && Nat.beq (ln * es) cs.length && Nat.ble 1 es) (k (.full c.S.length) (c.S ++ [.cells es false cs])) = some y) : runOp T (.buildSlice es ln z ps) ea c.σ (Out c d k y) := by
  obtain ⟨h1, h2⟩ := gd_some h
  rw [Bool.and_eq_true, Bool.and_eq_true] at h1
  obtain ⟨ra, h3, h4⟩ := fill_ok he ps hf (times_rel ln z)
  have h5 := Nat.eq_of_beq_eq_true h1.1.2
  refine run_of (by simp only [AOp.run, h3]; rw [if_pos (allOne_all h4 h1.1.1)]) (Out.new (kill := none) hR (adds hR (blk := .cells es false cs) (x := ⟨ra, true, es⟩) (d := (es, cs.length)) rfl (Nat.le_of_ble_eq_true h1.2) rfl rfl h4) (fun _ h => by cases h) ?_ h2)
  exact new_full (dm := (es, cs.length)) (yb := ⟨ra, true, es⟩) rfl h5 (Nat.le_refl _) (if_pos rfl) (by rw [← h4.length]; exact Nat.le_of_eq h5)

theorem load_ok (hR : Rel c) (he : EnvRel c e ea) {x : Operand} (h : readK c.S 1 false (ev e x) k = some y) : runOp T (.load x) ea c.σ (Out c d k y) := by
  obtain ⟨b, o, blk, h1, h2, h3, _⟩ := readK_ok hR h (ev_rel he x)
  obtain ⟨u, w, h4, h5, h6⟩ := h3 rfl
  exact run_of (by simp only [AOp.run, h1, h2, h4]; rfl) (Out.same hR h5 h6)
theorem loadN_ok (hR : Rel c) (he : EnvRel c e ea) {n : Nat} {x : Operand} (h : readK c.S n true (ev e x) k = some y) : runOp T (.loadN n x) ea c.σ (Out c d k y) := by
  obtain ⟨b, o, blk, h1, h2, _, h3⟩ := readK_ok hR h (ev_rel he x)
  obtain ⟨us, ws, h4, h5, h6⟩ := h3 rfl
  exact run_of (by simp only [AOp.run, h1, h2, h4]; rfl) (Out.same hR (.agg (by simpa using h5)) h6)

/-! ### Cells that are set -/
theorem setL_len : ∀ (vs cells : List Value) (o : Nat), (setL cells o vs).length = cells.length
  | [], _, _ => rfl
  | v :: vs, cells, o => by simp only [setL]; rw [setL_len vs]; simp
theorem setC_len : ∀ (vs cells : List VV) (o : Nat), (setC cells o vs).length = cells.length
  | [], _, _ => rfl
  | v :: vs, cells, o => by simp only [setC]; rw [setC_len vs]; simp
theorem F2.set {l : List VV} {m : List Value} (h : F2 (VRel c) l m) {v : VV} {a : Value} (hv : VRel c v a) : ∀ i, F2 (VRel c) (l.set i v) (m.set i a) := by
  induction h with
  | nil => intro i; simp; exact .nil
  | cons h1 h2 ih =>
    intro i
    cases i with
    | zero => exact .cons hv h2
    | succ i => exact .cons h1 (ih i)
theorem setC_rel : ∀ {vs : List VV} {as : List Value}, F2 (VRel c) vs as → ∀ {l : List VV} {m : List Value} (o : Nat), F2 (VRel c) l m → F2 (VRel c) (setC l o vs) (setL m o as)
  | _, _, .nil, _, _, _, h => h
  | _, _, .cons h1 h2, _, _, o, h => setC_rel h2 (o + 1) (F2.set h h1 o)
theorem setL_app : ∀ (vs : List Value) (cs rest : List Value) (o : Nat), o + vs.length ≤ cs.length → setL (cs ++ rest) o vs = setL cs o vs ++ rest
  | [], _, _, _, _ => rfl
  | v :: vs, cs, rest, o, h => by
    simp only [List.length_cons] at h
    simp only [setL]
    rw [List.set_append_left _ _ (by omega), setL_app vs _ _ _ (by simp; omega)]
theorem setL_app_right : ∀ (vs : List Value) (pre cs : List Value) (o : Nat), setL (pre ++ cs) (pre.length + o) vs = pre ++ setL cs o vs
  | [], _, _, _ => rfl
  | v :: vs, pre, cs, o => by
    simp only [setL]
    rw [List.set_append_right _ _ (by omega), Nat.add_sub_cancel_left, Nat.add_assoc, setL_app_right vs]

theorem writeN_ok {blk : Ab.Blk} {o : Nat} {vs : List Value} (h1 : blk.own = true) (h2 : o + vs.length ≤ blk.cells.length) (h3 : vs.all one = true) : writeN blk o vs = some ⟨setL blk.cells o vs, true, blk.es⟩ := by
  unfold writeN
  rw [if_pos ⟨h1, h2, h3⟩, h1]

/-- A write into a block of cells. -/
theorem writes_cells (hR : Rel c) {q es o b : Nat} {l l' vs : List VV} {as : List Value} (hb : sget c.S q = .cells es false l) (hm : c.μ q = some b) (hf : F2 (VRel c) vs as) (h1 : allOne vs = true) (ho : o + vs.length ≤ l.length)
    (hl' : ∀ cs, F2 (VRel c) l cs → F2 (VRel c) l' (setL cs o as)) : ∃ blk, c.σ.m b = some blk ∧ ∃ blk', writeN blk o as = some blk' ∧ Writes c q b (.cells es false l') blk' := by
  obtain ⟨y0, cs, rest, h2, h3, h4, h5, h6⟩ := hR.block (k := q) (d := (es, l.length)) (by rw [hb]; rfl) hm
  rw [hb] at h4 h6
  have hl := F2.length h6
  simp only [Blk.vals] at hl
  have ha := F2.length hf
  refine ⟨y0, h2, _, writeN_ok (h4 rfl) (by rw [h5, List.length_append]; omega) (allOne_all hf h1), ⟨by rw [hb]; rfl, hm, ?_, rfl, y0, setL cs o as, rest, (es, l.length), h2, by rw [hb]; rfl, h3, rfl, setL_len _ _ _, ?_, hl' cs h6⟩⟩
  · have := F2.length (hl' cs h6)
    rw [setL_len] at this
    simp only [hb, Blk.dim]
    rw [this, ← hl]
  · show setL y0.cells o as = _
    rw [h5, setL_app _ _ _ _ (by omega)]

theorem setAny_rel {v : VV} {va : Value} (hv : VRel c v va) : ∀ {cs : List VV} {as : List Value} {i j : Nat} {r : List VV}, setAny v cs i j = some r → F2 (VRel c) cs as → F2 (VRel c) r (if j ≤ i then as.set (i - j) va else as)
  | [], _, i, j, r, h, hf => by
    cases hf
    injection h with h
    subst h
    simp
    exact .nil
  | w :: cs, _, i, j, r, h, hf => by
    cases hf with
    | cons h1 h2 =>
      rename_i a as
      simp only [setAny] at h
      cases hs : selV (Nat.beq i j) v w with
      | none => rw [hs] at h; cases h
      | some x =>
        rw [hs] at h
        simp only [Option.bind_some] at h
        cases hr : setAny v cs i (j + 1) with
        | none => rw [hr] at h; cases h
        | some r' =>
          rw [hr] at h
          injection h with h
          subst h
          have h3 := setAny_rel hv hr h2
          have h4 := selV_rel hs hv h1
          by_cases hij : i = j
          · subst hij
            rw [if_neg (by omega)] at h3
            rw [if_pos (Nat.le_refl _), Nat.sub_self]
            have : Nat.beq i i = true := Nat.beq_refl i
            rw [this] at h4
            exact .cons h4 h3
          · have hb : Nat.beq i j = false := by
              cases hh : Nat.beq i j with
              | false => rfl
              | true => exact (hij (Nat.eq_of_beq_eq_true hh)).elim
            rw [hb] at h4
            by_cases hlt : j + 1 ≤ i
            · rw [if_pos hlt] at h3
              rw [if_pos (by omega), show i - j = (i - (j + 1)) + 1 by omega]
              exact .cons h4 h3
            · rw [if_neg hlt] at h3
              rw [if_neg (by omega)]
              exact .cons h4 h3

theorem flatL_set {s : Sh} {x : El s} : ∀ {l : List (El s)} {i : Nat}, i < l.length → flatL s (l.set i x) = (flatL s l).take (i * s.w) ++ (toCells s x ++ (flatL s l).drop (i * s.w + s.w))
  | [], _, h => by simp at h
  | a :: l, 0, _ => by
    rw [List.set_cons_zero, flatL_cons, flatL_cons, Nat.zero_mul, List.take_zero, List.nil_append, Nat.zero_add, List.drop_append, toCells_len, Nat.sub_self, List.drop_zero, List.drop_of_length_le (by rw [toCells_len]; exact Nat.le_refl _), List.nil_append]
  | a :: l, i + 1, h => by
    have h1 : (i + 1) * s.w = s.w + i * s.w := by rw [Nat.succ_mul]; omega
    rw [List.set_cons_succ, flatL_cons, flatL_cons, flatL_set (by simpa using h), h1, List.take_append, List.drop_append, toCells_len, List.take_of_length_le (l := toCells s a) (by rw [toCells_len]; omega), List.drop_of_length_le (l := toCells s a) (by rw [toCells_len]; omega), List.nil_append, List.append_assoc]
    rw [show s.w + i * s.w - s.w = i * s.w by omega, show s.w + i * s.w + s.w - s.w = i * s.w + s.w by omega]

theorem dirtyO (v : VV) {q : Nat} (h : blkOf v = some q) : q ∈ oneO (blkOf v) := by rw [h]; exact List.mem_singleton.2 rfl

theorem setL_mid {vs cs : List Value} {p o w : Nat} (h1 : o + vs.length ≤ w) (h2 : p + w ≤ cs.length) : setL cs (p + o) vs = cs.take p ++ (setL ((cs.drop p).take w) o vs ++ cs.drop (p + w)) := by
  have e1 : cs = cs.take p ++ ((cs.drop p).take w ++ cs.drop (p + w)) := by
    rw [← List.drop_drop, List.take_append_drop, List.take_append_drop]
  have hp : (cs.take p).length = p := by rw [List.length_take]; omega
  have hw : ((cs.drop p).take w).length = w := by rw [List.length_take, List.length_drop]; omega
  conv => lhs; rw [e1]
  have := setL_app_right vs (cs.take p) ((cs.drop p).take w ++ cs.drop (p + w)) o
  rw [hp] at this
  rw [this, setL_app _ _ _ _ (by rw [hw]; exact h1)]
theorem setL_one (cs : List Value) (o : Nat) (v : Value) : setL cs o [v] = cs.set o v := rfl

theorem store_ok (hR : Rel c) (he : EnvRel c e ea) {n : Nat} {a x : Operand} (hd : ∀ q, blkOf (ev e a) = some q → q ∈ d)
    (h : gd (Nat.beq (cellsV (ev e x)).length n && allOne (cellsV (ev e x))) (storeK c.S (ev e a) (cellsV (ev e x)) fun S' => k .undef S') = some y) : runOp T (.store n a x) ea c.σ (Out c d k y) := by
  obtain ⟨h1, h2⟩ := gd_some h
  rw [Bool.and_eq_true] at h1
  have hn := Nat.eq_of_beq_eq_true h1.1
  have hx := cells_rel (ev_rel he x) h1.2
  have hlen : (cellsOf (ea.ev x)).length = n := by rw [← hx.length]; exact hn
  have ha := ev_rel he a
  have key : ∀ (c1 : Ctx) (q b o : Nat) (blk0 : Ab.Blk) (blk : Blk) (blk' : Ab.Blk), c1.σ = c.σ → Le c c1 → Calm d c c1 → Rel c1 → q ∈ d → ea.ev a = .pointer (some ⟨b, o, none⟩) → c.σ.m b = some blk0 → writeN blk0 o (cellsOf (ea.ev x)) = some blk' → Writes c1 q b blk blk' →
      k .undef (sput c1.S q blk) = some y → runOp T (.store n a x) ea c.σ (Out c d k y) := by
    intro c1 q b o blk0 blk blk' hσ hle hcalm hR1 hq h3 h4 h5 h6 h7
    refine run_of (v := undef) (σ' := c.σ.set b (some blk')) ?_ ?_
    · simp only [AOp.run, h3, hlen, if_true, h4, h5]
    · rw [← hσ]
      exact ⟨.undef, _, rfl, hle.trans (h6.le hR1), h6.rel hR1, hcalm.trans (h6.calm hR1 hq) hle, .undef _, h7⟩
  generalize cellsOf (ea.ev x) = as at *
  generalize ev e a = av at *
  generalize cellsV (ev e x) = vs at *
  unfold storeK at h2
  cases av with
  | ptr q o =>
    simp only at h2
    cases hb : sget c.S q with
    | dead => rw [hb] at h2; cases h2
    | arr s z l => rw [hb] at h2; cases h2
    | cells es z l =>
      rw [hb] at h2
      cases z with
      | true => cases h2
      | false =>
        obtain ⟨h3, h4⟩ := gd_some h2
        cases ha with
        | ptr hk _ hd' =>
          obtain ⟨b, hm, hav⟩ := hd' (es, l.length) (by rw [hb]; rfl)
          obtain ⟨blk0, h5, blk', h6, h7⟩ := writes_cells hR hb hm hx h1.2 (Nat.le_of_ble_eq_true h3) fun cs hcs => setC_rel hx o hcs
          exact key c q b o blk0 _ blk' rfl (Le.refl c) (Calm.refl d c) hR (hd q rfl) hav h5 h6 h7 h4
  | pix q o m i =>
    simp only at h2
    split at h2
    · rename_i es l v hb
      obtain ⟨h3, h4⟩ := gd_some h2
      have h3 := Nat.le_of_ble_eq_true h3
      split at h4
      · rename_i l' hs
        cases hx with
        | cons hv hnil =>
          rename_i va as'
          cases hnil
          cases ha with
          | pix hk _ hi hd' =>
            obtain ⟨b, hm, hav⟩ := hd' (es, l.length) (by rw [hb]; rfl)
            obtain ⟨blk0, h5, blk', h6, h7⟩ := writes_cells (l' := l.take o ++ l' ++ l.drop (o + m)) (o := o + i) hR hb hm (.cons hv .nil) h1.2 (by simp; omega) fun cs hcs => by
              have hl := hcs.length
              rw [setL_mid (w := m) (by simp; omega) (by omega), List.append_assoc]
              have h8 := setAny_rel hv hs ((hcs.drop o).take m)
              rw [if_pos (Nat.zero_le _), Nat.sub_zero] at h8
              exact (hcs.take o).append (h8.append (hcs.drop _))
            exact key c q b (o + i) blk0 _ blk' rfl (Le.refl c) (Calm.refl d c) hR (hd q rfl) hav h5 h6 h7 h4
      · cases h4
    · cases h2
  | pel q i o =>
    simp only at h2
    cases hb : sget (fzL c.S vs) q with
    | dead => rw [hb] at h2; cases h2
    | cells es z l => rw [hb] at h2; cases h2
    | arr s z l =>
      rw [hb] at h2
      cases z with
      | true => cases h2
      | false =>
        simp only at h2
        cases hx' : l[i]? with
        | none => rw [hx'] at h2; cases h2
        | some x' =>
          rw [hx'] at h2
          simp only [Option.bind_some] at h2
          split at h2
          · rename_i z hof
            obtain ⟨h3, h4⟩ := gd_some h2
            have h3 := Nat.le_of_ble_eq_true h3
            have hfz := fzL_frz c.S vs
            have hR1 : Rel ⟨c.μ, fzL c.S vs, c.σ, c.fb⟩ := hfz.rel hR
            have hi : i < l.length := by
              rcases Nat.lt_or_ge i l.length with h | h
              · exact h
              · rw [List.getElem?_eq_none h] at hx'; cases hx'
            have hx1 : F2 (VRel ⟨c.μ, fzL c.S vs, c.σ, c.fb⟩) vs as := VRel.frames hfz.le hx
            cases ha with
            | pel hk _ hd' =>
              have hdim : (sget (fzL c.S vs) q).dim = some (s.w, l.length * s.w) := by rw [hb]; rfl
              obtain ⟨b, hm, hav⟩ := hd' (s.w, l.length * s.w) (by rw [← hfz.dim]; exact hdim)
              obtain ⟨y0, cs, rest, h5, h6, h7, h8, h9⟩ := hR1.block (k := q) hdim hm
              rw [hb] at h7 h9
              have hl := h9.length
              simp only [Blk.vals, flatL_len] at hl
              have hle : i * s.w + s.w ≤ l.length * s.w := by rw [← Nat.succ_mul]; exact Nat.mul_le_mul_right _ hi
              have hlen' : vs.length = as.length := hx.length
              refine key ⟨c.μ, fzL c.S vs, c.σ, c.fb⟩ q b (i * s.w + o) y0 (.arr s false (l.set i z)) _ rfl hfz.le (hfz.calm d) hR1 (hd q rfl) hav h5 (writeN_ok (h7 rfl) (by rw [h8, List.length_append]; omega) (allOne_all hx h1.2)) ⟨by rw [hb]; rfl, hm, by rw [hdim]; simp [Blk.dim], rfl, y0, setL cs (i * s.w + o) as, rest, _, h5, hdim, h6, rfl, setL_len _ _ _, by rw [h8, setL_app _ _ _ _ (by omega)], ?_⟩ h4
              obtain ⟨pre, h10, h11, h12⟩ := ofCells_takes hR1 s _ _ _ hof
              rw [List.append_nil] at h10
              subst h10
              simp only [Blk.vals]
              rw [flatL_set hi, setL_mid (w := s.w) (by omega) (by omega)]
              refine (h9.take _).append (F2.append (h12 _ (setC_rel hx1 o ?_)) (h9.drop _))
              have h13 := (h9.drop (i * s.w)).take s.w
              simp only [Blk.vals] at h13
              rwa [flatL_get hx'] at h13
          · cases h2
  | _ => cases h2
end
end Go.V
