/- A part of the proofs of this seat: what functions of the program answer on the abstract machine. -/
import Derived.Test.YtbdihjmnbadfhaaGreatDoorAb5
namespace Go.Ab
open Go.RowKit

section
variable {P : Program} {o : Oper} {a : Act} {w : World} {B : Base P} {N : Nat} {μ : Mu} {e : Env} {σ σ' : Hp} {v : Value}

theorem VR.agg_inv {p : Array Value} {v' : Value} (h : VR μ (.agg p) v') : ∃ q, v' = .agg q ∧ F2 (VR μ) p.toList q.toList := by
  cases h with
  | agg h => exact ⟨_, rfl, h⟩

theorem run_equal_flat {t : TypeId} {ks : List Nat} (hf : flatOf P t = some ks) {p q p' q' : Array Value} {b : Bool} (h : eqCellsL ks p.toList q.toList = some b) (hp : F2 (VR μ) p.toList p'.toList) (hq : F2 (VR μ) q.toList q'.toList) (w : World) :
    (Op.equal t (.agg p') (.agg q')).run P w = .ok b w ∧ P.eqGuardType P.depth t = false := by
  unfold flatOf at hf
  unfold Op.equal Op.maxDepth
  rw [show (10000 : Nat) = 9998 + 1 + 1 from rfl]
  cases hu : P.underlying t with
  | none => simp [hu] at hf
  | some dd =>
    cases dd <;> simp [hu] at hf
    case struct fs =>
      obtain ⟨⟨h1, h2⟩, h3⟩ := hf
      have hfs : P.fieldsOf t = fs := by simp [Program.fieldsOf, hu]
      rw [run_equalIn_struct w _ t p' q' (by rw [hfs, hu]) h2, hfs]
      exact ⟨eqFields_ok w 9998 p' q' fs.toList 0 ks _ _ b h3 h (by simpa using hp) (by simpa using hq), h1⟩
    case array n e =>
      obtain ⟨⟨h1, h2⟩, k, h3, h4⟩ := hf
      subst h4
      refine ⟨?_, h2⟩
      have := eqArr_ok (P := P) w 9998 e k h3 p' q' n 0 _ _ b h (by simpa using hp) (by simpa using hq)
      rw [Op.equalIn]
      simp only [Sem.run_bind, run_und hu, Result.andThen_ok, run_sz h1]
      cases b <;> simp at this ⊢ <;> rw [this] <;> rfl

theorem ok_eqCells {t t' : TypeId} {ks : List Nat} {neg : Bool} {op : BinOp} {x y : Operand} (ho : o.op = .binOp op t x y t') (hop : op = if neg then .neq else .eql) (hf : flatOf P t = some ks) (hx : okOpd x = true) (hy : okOpd y = true) (hr : (AOp.eqCells neg ks x y).run e σ = some (v, σ')) (he : EnvR μ N e a.tmps) (hR : R B μ σ w) : Done P o a w B μ v σ' := by
  simp only [AOp.run] at hr
  split at hr
  · rename_i p q hp hq
    obtain ⟨b, hz, hr⟩ := Option.map_eq_some_iff.1 hr
    simp only [Prod.mk.injEq] at hr
    obtain ⟨rfl, rfl⟩ := hr
    have h1 := he.ev hx
    have h2 := he.ev hy
    rw [hp] at h1
    rw [hq] at h2
    obtain ⟨p', e1, r1⟩ := h1.agg_inv
    obtain ⟨q', e2, r2⟩ := h2.agg_inv
    obtain ⟨k1, k2⟩ := run_equal_flat hf hz r1 r2 w
    refine .same hR ?_ (.bool _)
    have k3 := fun ox oy => run_eqGuard_agg (P := P) w op t ox oy p' q' k2
    simp only [execOp, ho, e1, e2, Sem.run_bind, k3, Result.andThen_ok]
    cases neg <;> simp [hop, binOp, k1]
  · cases hr

theorem ok_un {t : TypeId} {op : UnOp} {x : Operand} (ho : o.op = .unOp op t x) (hx : okOpd x = true) (hr : (AOp.un op x).run e σ = some (v, σ')) (he : EnvR μ N e a.tmps) (hR : R B μ σ w) : Done P o a w B μ v σ' := by
  simp only [AOp.run] at hr
  obtain ⟨z, hz, hr⟩ := Option.map_eq_some_iff.1 hr
  simp only [Prod.mk.injEq] at hr
  obtain ⟨rfl, rfl⟩ := hr
  have h := he.ev hx
  generalize e.ev x = u at *
  cases u <;> cases op <;> simp [un1] at hz
  · subst hz; have := h.bool_inv; exact .same hR (by simp [execOp, ho, this, Op.unary]) (.bool _)
  · subst hz; have := h.int_inv; exact .same hR (by simp [execOp, ho, this, Op.unary, Op.intArith]) (.int _ _)
  · subst hz; have := h.int_inv; exact .same hR (by simp [execOp, ho, this, Op.unary, Op.intBits]) (.int _ _)

theorem ok_conv {s d : TypeId} {k k' : IntKind} {x : Operand} (ho : o.op = .convert s d x) (hs : P.underlying s = some (.int k')) (hd : P.underlying d = some (.int k)) (hx : okOpd x = true) (hr : (AOp.conv k x).run e σ = some (v, σ')) (he : EnvR μ N e a.tmps) (hR : R B μ σ w) : Done P o a w B μ v σ' := by
  simp only [AOp.run] at hr
  obtain ⟨n, hn, hr⟩ := Option.map_eq_some_iff.1 hr
  simp only [Prod.mk.injEq] at hr
  obtain ⟨rfl, rfl⟩ := hr
  have h := he.ev hx
  generalize e.ev x = u at *
  cases u <;> simp [intV] at hn
  subst hn
  have := h.int_inv
  exact .same hR (by simp [execOp, ho, this, convert, run_und hs, run_und hd, Conv.intToInt]) (.int _ _)

theorem ev_list (he : EnvR μ N e a.tmps) : ∀ {xs ys : List Operand}, opds xs = some ys → F2 (VR μ) (ys.map e.ev) (xs.map a.eval)
  | [], ys, h => by simp [opds] at h; subst h; exact .nil
  | x :: xs, ys, h => by
    simp only [opds] at h
    split at h
    · rename_i x' r h1 h2
      injection h with h
      subst h
      obtain ⟨rfl, h3⟩ := opd_some h1
      exact .cons (he.ev h3) (ev_list he h2)
    · cases h

theorem ok_mkFunc {f : FuncId} {first captured : Array Operand} {xs cs : List Operand} (ho : o.op = .makeFunc (.func f) first captured) (h0 : opds first.toList = some xs) (hc : opds captured.toList = some cs) (hr : (AOp.mkFunc f xs cs).run e σ = some (v, σ')) (he : EnvR μ N e a.tmps) (hR : R B μ σ w) : Done P o a w B μ v σ' := by
  simp only [AOp.run, Option.some.injEq, Prod.mk.injEq] at hr
  obtain ⟨rfl, rfl⟩ := hr
  refine .same hR (v' := .func (.func f) (first.map a.eval) (captured.map a.eval)) (by simp [execOp, ho, Instr.makeFunc]) (.func ?_ ?_)
  · simpa using ev_list he h0
  · simpa using ev_list he hc

theorem ok_off {t : TypeId} {i n : Nat} {x : Operand} {fs : Array Field} {f : Field} (ho : o.op = .fieldAddr t x i) (hu : P.underlying t = some (.struct fs)) (hi : fs[i]? = some f) (hn : szOf P f.type = some n) (h0 : n ≠ 0) (hx : okOpd x = true) (hr : (AOp.off f.offset x).run e σ = some (v, σ')) (he : EnvR μ N e a.tmps) (hR : R B μ σ w) : Done P o a w B μ v σ' := by
  have h := he.ev hx
  simp only [AOp.run] at hr
  split at hr
  · rename_i b off hb
    simp only [Option.some.injEq, Prod.mk.injEq] at hr
    obtain ⟨rfl, rfl⟩ := hr
    rw [hb] at h
    obtain ⟨g, hg, hv⟩ := h.ptr_inv
    refine .same hR (v' := .pointer (some ⟨g.c, g.o + (off + f.offset), none⟩)) ?_ (.ptr hg)
    simp [execOp, ho, Instr.fieldAt, run_und hu, hi, hv, Instr.sureAddr, fieldPlace, run_sz hn, h0, add_none, Nat.add_assoc]
  · cases hr

theorem VR.slice_inv {b n l c : Nat} {v' : Value} (h : VR μ (.slice (some ⟨b, n, none⟩) l c) v') :
    (∃ g c', μ.at b g ∧ l ≤ c ∧ c ≤ c' ∧ n + c' * g.es ≤ g.ext ∧ v' = .slice (some ⟨g.c, g.o + n, none⟩) l c') ∨ (l = 0 ∧ c = 0 ∧ ∃ A', v' = .slice (some A') 0 0 ∧ ∃ g, μ.at b g) := by
  cases h with
  | slice h1 h2 h3 h4 => exact .inl ⟨_, _, h1, h2, h3, h4, rfl⟩
  | slice0 A' h => exact .inr ⟨rfl, rfl, A', rfl, _, h⟩

theorem ok_idx {t d : TypeId} {n : Nat} {x i : Operand} (ho : o.op = .indexAddr t x i) (hu : P.underlying t = some (.slice d)) (hn : szOf P d = some n) (hx : okOpd x = true) (hi : okOpd i = true) (hr : (AOp.idx n x i).run e σ = some (v, σ')) (he : EnvR μ N e a.tmps) (hR : R B μ σ w) : Done P o a w B μ v σ' := by
  have h := he.ev hx
  have h' := he.ev hi
  simp only [AOp.run] at hr
  split at hr
  · rename_i b off l c k j hb hj
    split at hr
    · rename_i hlt
      simp only [Option.some.injEq, Prod.mk.injEq] at hr
      obtain ⟨rfl, rfl⟩ := hr
      rw [hb] at h
      rw [hj] at h'
      have hj' := h'.int_inv
      rcases h.slice_inv with ⟨g, c', hg, _, _, _, hv⟩ | ⟨rfl, _⟩
      · refine .same hR (v' := .pointer (some ⟨g.c, g.o + (off + j.toNat * n), none⟩)) ?_ (.ptr hg)
        simp [execOp, ho, Instr.indexAt, run_und hu, hv, hj', asIntOf, hlt, run_sz hn, add_none, Nat.add_assoc]
      · omega
    · cases hr
  · cases hr

theorem ok_idxA {t d : TypeId} {m n : Nat} {x i : Operand} (ho : o.op = .indexAddr t x i) (hu : P.underlying t = some (.array m d)) (hn : szOf P d = some n) (hx : okOpd x = true) (hi : okOpd i = true) (hr : (AOp.idxA m n x i).run e σ = some (v, σ')) (he : EnvR μ N e a.tmps) (hR : R B μ σ w) : Done P o a w B μ v σ' := by
  have h := he.ev hx
  have h' := he.ev hi
  simp only [AOp.run] at hr
  split at hr
  · rename_i b off k j hb hj
    split at hr
    · rename_i hlt
      simp only [Option.some.injEq, Prod.mk.injEq] at hr
      obtain ⟨rfl, rfl⟩ := hr
      rw [hb] at h
      rw [hj] at h'
      have hj' := h'.int_inv
      obtain ⟨g, hg, hv⟩ := h.ptr_inv
      refine .same hR (v' := .pointer (some ⟨g.c, g.o + (off + j.toNat * n), none⟩)) ?_ (.ptr hg)
      simp [execOp, ho, Instr.indexAt, Instr.sureAddr, run_und hu, hv, hj', asIntOf, hlt, run_sz hn, add_none, Nat.add_assoc]
    · cases hr
  · cases hr

theorem run_part {t : TypeId} {b : Bool} {n i : Nat} (hb : aggOf P t = some b) (hn : szOf P t = some n) {p q : Array Value} (hpq : F2 (VR μ) p.toList q.toList) {u : Value}
    (hu : (if b then some (.agg (p.extract i (i + n))) else p[i]?) = some u) (w : World) : ∃ u', (part t q i).run P w = .ok u' w ∧ VR μ u u' := by
  cases b with
  | true =>
    simp at hu
    subst hu
    refine ⟨.agg (q.extract i (i + n)), by simp [part, run_agg hb, run_sz hn], .agg ?_⟩
    simpa [Array.toList_extract, List.extract_eq_take_drop] using (hpq.drop i).take n
  | false =>
    simp at hu
    obtain ⟨u', h1, h2⟩ := hpq.get i u (by simpa using hu)
    exact ⟨u', run_part1 hb (by simpa using h1) w, h2⟩

theorem ok_fieldV {t : TypeId} {i n : Nat} {b : Bool} {x : Operand} {fs : Array Field} {f : Field} (ho : o.op = .field t x i) (hu : P.underlying t = some (.struct fs)) (hi : fs[i]? = some f) (hn : szOf P f.type = some n) (hb : aggOf P f.type = some b) (hx : okOpd x = true) (hr : (AOp.fieldV f.offset n b x).run e σ = some (v, σ')) (he : EnvR μ N e a.tmps) (hR : R B μ σ w) : Done P o a w B μ v σ' := by
  have h := he.ev hx
  simp only [AOp.run] at hr
  split at hr
  · rename_i p hp
    rw [hp] at h
    obtain ⟨q, hq, r⟩ := h.agg_inv
    have : σ' = σ ∧ (if b then some (.agg (p.extract f.offset (f.offset + n))) else p[f.offset]?) = some v := by
      cases b
      · simp at hr; obtain ⟨_, h1, rfl, rfl⟩ := hr; exact ⟨rfl, by simpa using h1⟩
      · simp at hr; exact ⟨hr.2.symm, by simp [hr.1]⟩
    obtain ⟨rfl, h1⟩ := this
    obtain ⟨u', k1, k2⟩ := run_part hb hn r h1 w
    exact .same hR (by simp [execOp, ho, Instr.field, run_und hu, hi, hq, asAgg, k1]) k2
  · cases hr

theorem ok_indexV {t d : TypeId} {m n : Nat} {b : Bool} {x i : Operand} (ho : o.op = .index t x i) (hu : P.underlying t = some (.array m d)) (hn : szOf P d = some n) (hb : aggOf P d = some b) (hx : okOpd x = true) (hi : okOpd i = true) (hr : (AOp.indexV m n b x i).run e σ = some (v, σ')) (he : EnvR μ N e a.tmps) (hR : R B μ σ w) : Done P o a w B μ v σ' := by
  have h := he.ev hx
  have h' := he.ev hi
  simp only [AOp.run] at hr
  split at hr
  · rename_i p k j hp hj
    rw [hp] at h
    rw [hj] at h'
    have hj' := h'.int_inv
    obtain ⟨q, hq, r⟩ := h.agg_inv
    split at hr
    · rename_i hlt
      have : σ' = σ ∧ (if b then some (.agg (p.extract (j.toNat * n) (j.toNat * n + n))) else p[j.toNat * n]?) = some v := by
        cases b
        · simp at hr; obtain ⟨_, h1, rfl, rfl⟩ := hr; exact ⟨rfl, by simpa using h1⟩
        · simp at hr; exact ⟨hr.2.symm, by simp [hr.1]⟩
      obtain ⟨rfl, h1⟩ := this
      obtain ⟨u', k1, k2⟩ := run_part hb hn r h1 w
      exact .same hR (by simp [execOp, ho, Instr.index, run_und hu, hq, hj', asIntOf, hlt, run_sz hn, k1]) k2
    · cases hr
  · cases hr

theorem ok_indexS {t : TypeId} {x i : Operand} (ho : o.op = .index t x i) (hu : P.underlying t = some .string) (hx : okOpd x = true) (hi : okOpd i = true) (hr : (AOp.indexS x i).run e σ = some (v, σ')) (he : EnvR μ N e a.tmps) (hR : R B μ σ w) : Done P o a w B μ v σ' := by
  have h := he.ev hx
  have h' := he.ev hi
  simp only [AOp.run] at hr
  split at hr
  · rename_i s k j hs hj
    rw [hs] at h
    rw [hj] at h'
    have hj' := h'.int_inv
    have hs' := h.string_inv
    split at hr
    · rename_i h0
      obtain ⟨c, hc, hr⟩ := Option.map_eq_some_iff.1 hr
      simp only [Prod.mk.injEq] at hr
      obtain ⟨rfl, rfl⟩ := hr
      exact .same hR (by simp [execOp, ho, Instr.index, run_und hu, hs', hj', asIntOf, h0, hc]) (.int _ _)
    · cases hr
  · cases hr

theorem ok_extract {x : Operand} {i : Nat} (ho : o.op = .extract x i) (hx : okOpd x = true) (hr : (AOp.extract x i).run e σ = some (v, σ')) (he : EnvR μ N e a.tmps) (hR : R B μ σ w) : Done P o a w B μ v σ' := by
  have h := he.ev hx
  simp only [AOp.run] at hr
  split at hr
  · rename_i p hp
    rw [hp] at h
    generalize hq : a.eval x = u at h
    cases h with
    | tuple r =>
      obtain ⟨c, hc, hr⟩ := Option.map_eq_some_iff.1 hr
      simp only [Prod.mk.injEq] at hr
      obtain ⟨rfl, rfl⟩ := hr
      obtain ⟨c', h1, h2⟩ := r.get i c (by simpa using hc)
      have h1' : _ := h1
      rw [Array.getElem?_toList] at h1'
      exact .same hR (by simp [execOp, ho, Instr.extract, hq, h1']) h2
  · cases hr
end
end Go.Ab
