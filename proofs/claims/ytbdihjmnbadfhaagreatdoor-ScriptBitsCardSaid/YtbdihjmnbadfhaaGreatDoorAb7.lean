/- A part of the proofs of this seat: what functions of the program answer on the abstract machine. -/
import Derived.Test.YtbdihjmnbadfhaaGreatDoorAb6
namespace Go.Ab
open Go.RowKit

section
variable {P : Program} {o : Oper} {a : Act} {w : World} {B : Base P} {N : Nat} {μ : Mu} {e : Env} {σ σ' : Hp} {v : Value}

/-! ### Parts laid into cells -/
theorem splice_foldl (off : Nat) : ∀ (vs : List Value) (k : Nat) (cells : Array Value), off + k + vs.length ≤ cells.size →
    ((vs.zipIdx k).foldl (fun cs (p : Value × Nat) => cs.setIfInBounds (off + p.2) p.1) cells).toList = cells.toList.take (off + k) ++ vs ++ cells.toList.drop (off + k + vs.length)
  | [], k, cells, _ => by simp
  | v :: vs, k, cells, h => by
    simp only [List.length_cons] at h
    rw [List.zipIdx_cons, List.foldl_cons, splice_foldl off vs (k + 1) _ (by simp; omega)]
    have hlt : off + k < cells.toList.length := by simp; omega
    simp only [Array.toList_setIfInBounds, List.length_cons]
    rw [List.take_set, List.drop_set_of_lt (by omega)]
    rw [show off + (k + 1) = off + k + 1 from by omega, List.take_add_one, show off + k + 1 + vs.length = off + k + (vs.length + 1) from by omega]
    have h2 : (cells.toList.take (off + k) ++ (cells.toList[off + k]?).toList).set (off + k) v = cells.toList.take (off + k) ++ [v] := by
      rw [List.getElem?_eq_getElem hlt]
      rw [List.set_append_right _ _ (by simp; omega)]
      have : off + k - (List.take (off + k) cells.toList).length = 0 := by rw [List.length_take]; omega
      rw [this]
      simp
    rw [h2]
    simp

theorem splice_arr (off : Nat) (vs : Array Value) (cells : Array Value) (h : off + vs.size ≤ cells.size) :
    (vs.zipIdx.foldl (fun cs (c, j) => cs.setIfInBounds (off + j) c) cells).toList = cells.toList.take off ++ vs.toList ++ cells.toList.drop (off + vs.size) := by
  have := splice_foldl off vs.toList 0 cells (by simpa using h)
  rw [← Array.foldl_toList, Array.toList_zipIdx]
  simpa using this

theorem fill_ok {place : Nat → Option (Nat × Nat)} (he : EnvR μ N e a.tmps) : ∀ (parts : List (Nat × Operand)) (parts' : List (Nat × Nat × Operand)) (z : List Value) (z' : Array Value) (cs : List Value), partsOf place parts = some parts' →
    fillL z (parts'.map fun (o, s, x) => (o, s, e.ev x)) = some cs → F2 (VR μ) z z'.toList → ∃ cs', Instr.fill place z' (parts.map fun (i, x) => (i, a.eval x)) = some cs' ∧ F2 (VR μ) cs cs'.toList
  | [], parts', z, z', cs, hp, hf, hz => by
    simp [partsOf] at hp
    subst hp
    simp [fillL] at hf
    subst hf
    exact ⟨z', rfl, hz⟩
  | (i, x) :: r, parts', z, z', cs, hp, hf, hz => by
    simp only [partsOf] at hp
    split at hp
    · rename_i off n x' r' h1 h2 h3
      injection hp with hp
      subst hp
      obtain ⟨rfl, hx⟩ := opd_some h2
      simp only [List.map_cons, fillL] at hf
      split at hf
      · rename_i hc
        have hv := (he.ev hx).cells
        have hlen : (a.eval x).cells.size = n := by rw [← hc.1, hv.length]; simp
        have hzl : z.length = z'.size := by simpa using hz.length
        obtain ⟨cs', h4, h5⟩ := fill_ok he r r' _ ((a.eval x).cells.zipIdx.foldl (fun cs (c, j) => cs.setIfInBounds (off + j) c) z') cs h3 hf (by
          rw [splice_arr _ _ _ (by omega), hlen]
          exact ((hz.take _).append hv).append (hz.drop _))
        refine ⟨cs', ?_, h5⟩
        simp only [List.map_cons, Instr.fill, h1, hlen]
        rw [if_neg (by simp; omega)]
        exact h4
      · cases hf
    · cases hp

theorem run_mapM {α β : Type} (P : Program) (w : World) (f : α → Sem β) (g : α → β) : ∀ (l : List α), (∀ x ∈ l, (f x).run P w = .ok (g x) w) → (l.mapM f).run P w = .ok (l.map g) w
  | [], _ => by simp
  | x :: l, h => by
    have := run_mapM P w f g l (fun y hy => h y (by simp [hy]))
    simp [List.mapM_cons, h x (by simp), this]

theorem ok_build_struct {t : TypeId} {parts : Array (Nat × Operand)} {fs : Array Field} {z : List Value} {ps : List (Nat × Nat × Operand)} (ho : o.op = .build t parts) (hu : P.underlying t = some (.struct fs)) (hz : zeroOf P t = some z)
    (hall : (fs.toList.all fun f => (szOf P f.type).isSome) = true) (hp : partsOf (placesOf P fs) parts.toList = some ps) (hr : (AOp.build z ps).run e σ = some (v, σ')) (he : EnvR μ N e a.tmps) (hR : R B μ σ w) : Done P o a w B μ v σ' := by
  obtain ⟨z', h1, h2, h3⟩ := zeroOf_some hz
  simp only [AOp.run] at hr
  obtain ⟨cs, hf, hr⟩ := Option.map_eq_some_iff.1 hr
  simp only [Prod.mk.injEq] at hr
  obtain ⟨rfl, rfl⟩ := hr
  obtain ⟨cs', h4, h5⟩ := fill_ok he parts.toList ps z z'.cells cs hp hf (h2 ▸ VR.plainCells (h2 ▸ h3))
  have hm : (fs.mapM fun f => (do pure (f.offset, ← sizeOf f.type) : Sem (Nat × Nat))).run P w = .ok (fs.map fun f => (f.offset, (szOf P f.type).getD 0)) w := by
    rw [Array.mapM_eq_mapM_toList]
    have := run_mapM P w (fun f : Field => (do pure (f.offset, ← sizeOf f.type) : Sem (Nat × Nat))) (fun f => (f.offset, (szOf P f.type).getD 0)) fs.toList (fun f hf' => by
      have := List.all_eq_true.1 hall f hf'
      obtain ⟨n, hn⟩ := Option.isSome_iff_exists.1 this
      simp [run_sz hn, hn])
    simp only [Sem.run_map, this, Result.andThen_ok]
    rw [← Array.toList_map]
  have hpl : (fun i => (fs.map fun f => (f.offset, (szOf P f.type).getD 0))[i]?) = placesOf P fs := by
    funext i
    unfold placesOf
    rw [Array.getElem?_map]
    cases hi : fs[i]? with
    | none => rfl
    | some f =>
      have hmem : f ∈ fs.toList := by
        have := Array.mem_of_getElem? hi
        simpa using this
      obtain ⟨n, hn⟩ := Option.isSome_iff_exists.1 (List.all_eq_true.1 hall f hmem)
      simp [hn]
  refine .same hR (v' := .agg cs') ?_ (.agg (by simpa using h5))
  simp only [execOp, ho, Instr.build, Sem.run_bind, h1, Result.andThen_ok, run_und hu, hm, hpl]
  rw [Array.toList_map]
  simp only [h4]
  rfl

theorem ok_build_array {t d : TypeId} {m n : Nat} {parts : Array (Nat × Operand)} {z : List Value} {ps : List (Nat × Nat × Operand)} (ho : o.op = .build t parts) (hu : P.underlying t = some (.array m d)) (hn : szOf P d = some n) (hz : zeroOf P t = some z)
    (hp : partsOf (fun i => some (i * n, n)) parts.toList = some ps) (hr : (AOp.build z ps).run e σ = some (v, σ')) (he : EnvR μ N e a.tmps) (hR : R B μ σ w) : Done P o a w B μ v σ' := by
  obtain ⟨z', h1, h2, h3⟩ := zeroOf_some hz
  simp only [AOp.run] at hr
  obtain ⟨cs, hf, hr⟩ := Option.map_eq_some_iff.1 hr
  simp only [Prod.mk.injEq] at hr
  obtain ⟨rfl, rfl⟩ := hr
  obtain ⟨cs', h4, h5⟩ := fill_ok he parts.toList ps z z'.cells cs hp hf (h2 ▸ VR.plainCells (h2 ▸ h3))
  refine .same hR (v' := .agg cs') ?_ (.agg (by simpa using h5))
  simp only [execOp, ho, Instr.build, Sem.run_bind, h1, Result.andThen_ok, run_und hu, run_sz hn]
  rw [Array.toList_map]
  simp only [h4]
  rfl

/-! ### Rows of zeros -/
theorem times_eq (z : Array Value) (n : Nat) (hz : 0 < z.size) : ((Array.range (n * z.size)).map (fun i => z[i % z.size]!)).toList = times z.toList n := by
  unfold times
  apply List.ext_getElem?
  intro i
  have hlen : (List.replicate n z.toList).flatten.length = n * z.size := by simp
  by_cases hi : i < n * z.size
  · have h1 : ((Array.range (n * z.size)).map (fun i => z[i % z.size]!)).toList[i]? = some (z[i % z.size]'(Nat.mod_lt _ hz)) := by
      simp [hi, Nat.mod_lt _ hz]
    rw [h1]
    clear h1
    induction n generalizing i with
    | zero => simp at hi
    | succ n ih =>
      rw [List.replicate_succ, List.flatten_cons]
      by_cases h2 : i < z.size
      · rw [List.getElem?_append_left (by simpa using h2)]
        simp [Nat.mod_eq_of_lt h2, h2]
      · rw [List.getElem?_append_right (by simpa using h2)]
        have h3 := ih (i - z.size) (by simp) (by rw [Nat.succ_mul] at hi; omega)
        rw [Array.length_toList, ← h3]
        have h4 : i % z.size = (i - z.size) % z.size := by rw [Nat.mod_eq_sub_mod (by omega)]
        simp only [h4]
  · rw [List.getElem?_eq_none (by simp; omega), List.getElem?_eq_none (by rw [hlen]; omega)]

theorem times_length (z : List Value) (n : Nat) : (times z n).length = n * z.length := by simp [times]
theorem times_plain {z : List Value} (h : z.all plainCell = true) (n : Nat) : (times z n).all plainCell = true := by
  unfold times
  rw [List.all_eq_true] at *
  intro x hx
  simp only [List.mem_flatten, List.mem_replicate] at hx
  obtain ⟨l, ⟨_, rfl⟩, hx⟩ := hx
  exact h x hx

theorem ok_buildSlice {t d : TypeId} {len n : Nat} {parts : Array (Nat × Operand)} {z : List Value} {ps : List (Nat × Nat × Operand)} (ho : o.op = .buildSlice t len parts) (hu : P.underlying t = some (.slice d)) (hn : szOf P d = some n) (hz : zeroOf P d = some z)
    (hmax : len * n ≤ 16777216) (hzn : z.length = n) (h0 : 0 < n)
    (hp : partsOf (fun i => some (i * n, n)) parts.toList = some ps) (hr : (AOp.buildSlice n len z ps).run e σ = some (v, σ')) (he : EnvR μ N e a.tmps) (hR : R B μ σ w) : Done P o a w B μ v σ' := by
  obtain ⟨z', h1, h2, h3⟩ := zeroOf_some hz
  simp only [AOp.run] at hr
  split at hr
  · rename_i cs hf
    split at hr
    · simp only [Option.some.injEq, Prod.mk.injEq] at hr
      obtain ⟨rfl, rfl⟩ := hr
      have hzs : z'.cells.size = n := by rw [← hzn, ← h2]; simp [cellsOf]
      have hzl : z'.cells.toList = z := h2
      have hcells : ∀ zz : Array Value, (len * n = 0 → zz = #[]) → (len * n ≠ 0 → zz = z'.cells) → ((Array.range (len * n)).map (fun i => zz[i % zz.size]!)).toList = times z len := by
        intro zz e1 e2
        by_cases hl : len * n = 0
        · have : len = 0 := by
            rcases Nat.mul_eq_zero.1 hl with h | h
            · exact h
            · omega
          subst this
          simp [times]
        · rw [e2 hl, ← hzs, times_eq _ _ (by omega), hzl]
      have hzt : F2 (VR μ) (times z len) (times z len) := VR.plainCells (times_plain h3 len)
      obtain ⟨cs', h4, h5⟩ := fill_ok he parts.toList ps (times z len) (times z len).toArray cs hp hf (by simpa using hzt)
      have hlen : cs'.size = len * n := by
        have e1 : cs.length = len * n := by
          have : ∀ (ps : List (Nat × Nat × Value)) (x y : List Value), fillL x ps = some y → y.length = x.length := by
            intro ps
            induction ps with
            | nil => intro x y h; simp [fillL] at h; rw [h]
            | cons p ps ih =>
              obtain ⟨p1, p2, p3⟩ := p
              intro x y h
              simp only [fillL] at h
              split at h
              · rename_i hc
                rw [ih _ _ h]
                simp
                omega
              · cases h
          rw [this _ _ _ hf, times_length, hzn]
        have := h5.length
        simp at this
        omega
      refine .new hR cs' d cs n (.slice (some ⟨w.heap.size, 0, none⟩) len len) h5 ?_ (fun h => VR.slice (o := 0) h (Nat.le_refl _) (Nat.le_refl _) (by simp [hlen]))
      simp only [execOp, ho, Instr.buildSlice, Sem.run_bind, run_und hu, Result.andThen_ok, run_sz hn]
      rw [if_neg (by omega)]
      by_cases hl : len * n = 0
      · have hc := hcells #[] (fun _ => rfl) (fun h => absurd hl h)
        have hc' : (Array.range (len * n)).map (fun i => (#[] : Array Value)[i % (#[] : Array Value).size]!) = (times z len).toArray := by rw [← hc]
        rw [if_pos hl]
        simp only [Sem.run_bind, Sem.run_pure, Result.andThen_ok, hc']
        rw [Array.toList_map]
        simp [h4, newRow]
      · have hc := hcells z'.cells (fun h => absurd h hl) (fun _ => rfl)
        have hc' : (Array.range (len * n)).map (fun i => z'.cells[i % z'.cells.size]!) = (times z len).toArray := by rw [← hc]
        rw [if_neg hl]
        simp only [h1, Sem.run_bind, Sem.run_pure, Result.andThen_ok, hc']
        rw [Array.toList_map]
        simp [h4, newRow]
    · cases hr
  · cases hr
end
end Go.Ab
