/- A part of the proofs of this seat: what functions of the program answer on the abstract machine. -/
import Derived.Test.YtbdihjmnbadfhaaGreatDoorAb4
namespace Go.Ab
open Go.RowKit

section
variable {P : Program} {o : Oper} {a : Act} {w : World} {B : Base P} {N : Nat} {μ : Mu} {e : Env} {σ σ' : Hp} {v : Value}

/-! ### Numbers, texts, equality -/
theorem bin2_ok (op : BinOp) (t : TypeId) (x y z : Value) (h : bin2 op x y = some z) (w : World) (ox oy : Operand) :
    (eqGuard op t ox oy x y).run P w = .ok () w ∧ (binOp op t x y).run P w = .ok z w := by
  cases x with
  | int k m => cases y with
    | int k' n =>
      simp only [bin2] at h
      by_cases hs : isShift op = true
      · rw [if_pos hs] at h
        unfold shift2 at h
        split at h
        · cases h
        · rename_i hn
          cases op <;> simp [isShift] at hs <;> simp at h <;> subst h <;> simp [eqGuard, binOp, Op.shift, hn]
      · rw [if_neg hs] at h
        split at h
        · rename_i hk
          subst hk
          cases op <;> simp [isShift] at hs <;> simp [ints2] at h
          all_goals first
            | (obtain ⟨h1, h2⟩ := h; subst h2; simp [eqGuard, binOp, Op.intDiv, h1])
            | (subst h; simp [eqGuard, binOp, Op.intArith, Op.intBits, Op.intCmp])
        · cases h
    | _ => simp [bin2] at h
  | string s => cases y with
    | string s' =>
      simp only [bin2] at h
      split at h
      · cases h
      · rename_i hs
        cases op <;> simp [isShift] at hs <;> simp [strs2] at h
        all_goals first
          | (obtain ⟨h1, h2⟩ := h; subst h2; simp [eqGuard, binOp, Op.stringOp]; omega)
          | (subst h; simp [eqGuard, binOp, Op.stringOp])
    | _ => simp [bin2] at h
  | _ => simp [bin2] at h

theorem bin2_vr {op : BinOp} {x y x' y' z : Value} (h : bin2 op x y = some z) (hx : VR μ x x') (hy : VR μ y y') : x' = x ∧ y' = y := by
  cases x with
  | int k m => cases y with
    | int k' n => exact ⟨hx.int_inv, hy.int_inv⟩
    | _ => simp [bin2] at h
  | string s => cases y with
    | string s' => exact ⟨hx.string_inv, hy.string_inv⟩
    | _ => simp [bin2] at h
  | _ => simp [bin2] at h

theorem bin2_plain {op : BinOp} {x y z : Value} (h : bin2 op x y = some z) : VR μ z z := by
  cases x with
  | int k m => cases y with
    | int k' n =>
      simp only [bin2] at h
      split at h
      · unfold shift2 at h
        split at h
        · cases h
        · cases op <;> simp at h <;> subst h <;> exact .int _ _
      · split at h
        · cases op <;> simp [ints2] at h
          all_goals first
            | (obtain ⟨_, h2⟩ := h; subst h2; exact .int _ _)
            | (subst h; first | exact .int _ _ | exact .bool _)
        · cases h
    | _ => simp [bin2] at h
  | string s => cases y with
    | string s' =>
      simp only [bin2] at h
      split at h
      · cases h
      · cases op <;> simp [strs2] at h
        all_goals first
          | (obtain ⟨_, h2⟩ := h; subst h2; exact .string _)
          | (subst h; first | exact .string _ | exact .bool _)
    | _ => simp [bin2] at h
  | _ => simp [bin2] at h

theorem ok_bin {op : BinOp} {t t' : TypeId} {x y : Operand} (ho : o.op = .binOp op t x y t') (hx : okOpd x = true) (hy : okOpd y = true) (hr : (AOp.bin op x y).run e σ = some (v, σ')) (he : EnvR μ N e a.tmps) (hR : R B μ σ w) : Done P o a w B μ v σ' := by
  simp only [AOp.run] at hr
  obtain ⟨z, hz, hr⟩ := Option.map_eq_some_iff.1 hr
  simp only [Prod.mk.injEq] at hr
  obtain ⟨rfl, rfl⟩ := hr
  obtain ⟨h1, h2⟩ := bin2_vr hz (he.ev hx) (he.ev hy)
  refine .same hR ?_ (bin2_plain hz)
  obtain ⟨k1, k2⟩ := bin2_ok (P := P) op t _ _ _ hz w x y
  simp [execOp, ho, h1, h2, k1, k2]

theorem eqGuard_ok (op : BinOp) (t : TypeId) (ox oy : Operand) (x y : Value) (h1 : ¬ (x = .nilIface ∧ y = .nilIface)) (h2 : ∀ a b, ¬ (x = .agg a ∧ y = .agg b)) (w : World) : (eqGuard op t ox oy x y).run P w = .ok () w := by
  unfold eqGuard
  cases op <;> first
    | rfl
    | (cases x <;> cases y <;> first
        | rfl
        | exact absurd ⟨rfl, rfl⟩ h1
        | exact absurd ⟨rfl, rfl⟩ (h2 _ _))

set_option maxHeartbeats 1000000 in
theorem eqv2_ok {t : TypeId} {d : TypeDesc} {kd : Nat} (hd : P.underlying t = some d) (hk : kdOf d = some kd) {x y x' y' : Value} {b : Bool} (h : eqv2 kd x y = some b) (hx : VR μ x x') (hy : VR μ y y') (w : World) :
    (Op.equal t x' y').run P w = .ok b w := by
  unfold Op.equal Op.maxDepth
  rw [show (10000 : Nat) = 9999 + 1 from rfl, Op.equalIn]
  simp only [Sem.run_bind, run_und hd, Result.andThen_ok]
  cases d <;> simp [kdOf] at hk <;> subst hk
  all_goals (cases hx <;> cases hy <;> simp [eqv2] at h <;> simp [← h])

theorem eqv_bin {kd : Nat} {x y x' y' : Value} {b : Bool} (h : eqv2 kd x y = some b) (hx : VR μ x x') (hy : VR μ y y') (t : TypeId) (neg : Bool) (w : World) (hq : (Op.equal t x' y').run P w = .ok b w) :
    (binOp (if neg then .neq else .eql) t x' y').run P w = .ok (.bool (b != neg)) w ∧ (∀ ox oy op, (eqGuard op t ox oy x' y').run P w = .ok () w) := by
  refine ⟨?_, fun ox oy op => eqGuard_ok op t ox oy x' y' ?_ ?_ w⟩
  · have : binOp (if neg then .neq else .eql) t x' y' = (Op.equal t x' y' >>= fun q => pure (.bool (if neg then !q else q))) := by
      cases hx <;> cases hy <;> first
        | (cases neg <;> rfl)
        | (unfold eqv2 at h; split at h <;> simp_all)
    rw [this]
    cases neg <;> simp [hq]
  · rintro ⟨rfl, rfl⟩
    cases hx
    unfold eqv2 at h
    split at h <;> simp_all
  · rintro p q ⟨rfl, rfl⟩
    cases hx
    unfold eqv2 at h
    split at h <;> simp_all

theorem ok_eqv {t t' : TypeId} {d : TypeDesc} {kd : Nat} {neg : Bool} {op : BinOp} {x y : Operand} (ho : o.op = .binOp op t x y t') (hop : op = if neg then .neq else .eql) (hd : P.underlying t = some d) (hk : kdOf d = some kd) (hx : okOpd x = true) (hy : okOpd y = true) (hr : (AOp.eqv kd neg x y).run e σ = some (v, σ')) (he : EnvR μ N e a.tmps) (hR : R B μ σ w) : Done P o a w B μ v σ' := by
  simp only [AOp.run] at hr
  obtain ⟨b, hz, hr⟩ := Option.map_eq_some_iff.1 hr
  simp only [Prod.mk.injEq] at hr
  obtain ⟨rfl, rfl⟩ := hr
  have hq := eqv2_ok hd hk hz (he.ev hx) (he.ev hy) w
  obtain ⟨k1, k2⟩ := eqv_bin hz (he.ev hx) (he.ev hy) t neg w hq
  refine .same hR ?_ (.bool _)
  simp [execOp, ho, hop, k1, k2]

/-! ### Structs and arrays of plain cells, held against each other -/
theorem eqCells1_ok {t : TypeId} {kd : Nat} (hf : flatCell P t = some kd) {x y x' y' : Value} {b : Bool} (h : eqCells1 kd x y = some b) (hx : VR μ x x') (hy : VR μ y y') (d : Nat) (w : World) :
    (Op.equalIn (d + 1) t x' y').run P w = .ok b w := by
  unfold flatCell at hf
  cases hu : P.underlying t with
  | none => simp [hu] at hf
  | some dd =>
    cases dd <;> simp [hu] at hf <;> subst hf
    all_goals
      cases hx <;> cases hy <;> simp [eqCells1] at h
    · simp [run_equalIn_bool _ _ _ _ _ hu, ← h]
    · obtain ⟨rfl, rfl⟩ := h
      simp [run_equalIn_int _ _ _ _ _ _ _ hu]
    · simp [run_equalIn_string _ _ _ _ _ hu, ← h]

theorem flat_agg {t : TypeId} {kd : Nat} (hf : flatCell P t = some kd) : aggOf P t = some false := by
  unfold flatCell at hf
  unfold aggOf
  split at hf <;> simp_all

theorem run_part1 {t : TypeId} (h : aggOf P t = some false) {cs : Array Value} {i : Nat} {v : Value} (hv : cs[i]? = some v) (w : World) : (part t cs i).run P w = .ok v w := by
  simp [part, run_agg h, hv]

theorem eqFields_ok (w : World) (d : Nat) (xs ys : Array Value) : ∀ (fs : List Field) (i : Nat) (ks : List Nat) (l m : List Value) (b : Bool), flatFields P i fs = some ks → eqCellsL ks l m = some b →
    F2 (VR μ) l (xs.toList.drop i) → F2 (VR μ) m (ys.toList.drop i) → (Op.eqFields (d + 1) xs ys fs).run P w = .ok b w
  | [], i, ks, l, m, b, hf, h, _, _ => by
    simp [flatFields] at hf
    subst hf
    cases l <;> cases m <;> simp [eqCellsL] at h
    subst h
    simp [Op.eqFields]
  | f :: fs, i, ks, l, m, b, hf, h, hl, hm => by
    simp only [flatFields] at hf
    split at hf
    · rename_i hc
      split at hf
      · rename_i k ks' h1 h2
        injection hf with hf
        subst hf
        cases l with
        | nil => simp [eqCellsL] at h
        | cons x l => cases m with
          | nil => simp [eqCellsL] at h
          | cons y m =>
            simp only [eqCellsL] at h
            obtain ⟨x', hx, rx⟩ := hl.get 0 x rfl
            obtain ⟨y', hy, ry⟩ := hm.get 0 y rfl
            rw [List.getElem?_drop] at hx hy
            have hx' : xs[i]? = some x' := by simpa using hx
            have hy' : ys[i]? = some y' := by simpa using hy
            have tl : F2 (VR μ) l (xs.toList.drop (i + 1)) := by
              have := hl.drop 1
              simpa [List.drop_drop, Nat.add_comm] using this
            have tm : F2 (VR μ) m (ys.toList.drop (i + 1)) := by
              have := hm.drop 1
              simpa [List.drop_drop, Nat.add_comm] using this
            have ih := eqFields_ok w d xs ys fs (i + 1) ks' l m
            cases he : eqCells1 k x y with
            | none => simp [he] at h
            | some q =>
              have := eqCells1_ok (P := P) h1 he rx ry d w
              cases q with
              | true =>
                simp only [he] at h
                simp [Op.eqFields, hc.2, run_part1 (flat_agg h1), hc.1, hx', hy', this, ih b h2 h tl tm]
              | false =>
                simp [he] at h
                simp [Op.eqFields, hc.2, run_part1 (flat_agg h1), hc.1, hx', hy', this, ← h]
      · cases hf
    · cases hf

theorem eqArr_ok (w : World) (d : Nat) (e : TypeId) (k : Nat) (hk : flatCell P e = some k) (xs ys : Array Value) : ∀ (n i : Nat) (l m : List Value) (b : Bool), eqCellsL (List.replicate n k) l m = some b →
    F2 (VR μ) l (xs.toList.drop i) → F2 (VR μ) m (ys.toList.drop i) →
    (forIn (List.range' i n) ((none, ()) : Option Bool × Unit) fun j (_ : Option Bool × Unit) => (do
        let a ← part e xs (j * 1)
        let c ← part e ys (j * 1)
        let q ← Op.equalIn (d + 1) e a c
        if (!q) = true then pure (ForInStep.done (some false, ())) else pure (ForInStep.yield (none, ())) : Sem (ForInStep (Option Bool × Unit)))).run P w = .ok (if b then none else some false, ()) w
  | 0, i, l, m, b, h, _, _ => by
    cases l <;> cases m <;> simp [eqCellsL] at h
    subst h
    simp
  | n + 1, i, l, m, b, h, hl, hm => by
    rw [List.replicate_succ] at h
    cases l with
    | nil => simp [eqCellsL] at h
    | cons x l => cases m with
      | nil => simp [eqCellsL] at h
      | cons y m =>
        simp only [eqCellsL] at h
        obtain ⟨x', hx, rx⟩ := hl.get 0 x rfl
        obtain ⟨y', hy, ry⟩ := hm.get 0 y rfl
        rw [List.getElem?_drop] at hx hy
        have hx' : xs[i]? = some x' := by simpa using hx
        have hy' : ys[i]? = some y' := by simpa using hy
        have tl : F2 (VR μ) l (xs.toList.drop (i + 1)) := by
          have := hl.drop 1
          simpa [List.drop_drop, Nat.add_comm] using this
        have tm : F2 (VR μ) m (ys.toList.drop (i + 1)) := by
          have := hm.drop 1
          simpa [List.drop_drop, Nat.add_comm] using this
        have ih := eqArr_ok w d e k hk xs ys n (i + 1) l m
        cases he : eqCells1 k x y with
        | none => simp [he] at h
        | some q =>
          have h2 := eqCells1_ok (P := P) hk he rx ry d w
          rw [List.range'_succ, List.forIn_cons]
          cases q with
          | true =>
            simp only [he] at h
            have h3 := ih b h tl tm
            simp only [Nat.mul_one] at h3 ⊢
            simp [run_part1 (flat_agg hk) hx', run_part1 (flat_agg hk) hy', h2, Result.andThen]
            simpa using h3
          | false =>
            simp [he] at h
            simp [run_part1 (flat_agg hk) hx', run_part1 (flat_agg hk) hy', h2, ← h]
end
end Go.Ab
