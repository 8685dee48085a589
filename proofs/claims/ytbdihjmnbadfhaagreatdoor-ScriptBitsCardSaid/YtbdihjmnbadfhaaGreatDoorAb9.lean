/- A part of the proofs of this seat: what functions of the program answer on the abstract machine. -/
import Derived.Test.YtbdihjmnbadfhaaGreatDoorAb8
namespace Go.Ab
open Go.RowKit

section
variable {P : Program} {o : Oper} {a : Act} {w w' : World} {B : Base P} {N : Nat} {μ : Mu} {e : Env} {σ σ' : Hp} {v : Value}

theorem readN_zero {x : Blk} {o : Nat} {cs : List Value} (h : readN x o 0 = some cs) : cs = [] := by
  unfold readN at h
  split at h
  · simpa using h.symm
  · cases h

/-- The first cells of a slice or a text. -/
theorem firstCells_ok {es n ln : Nat} {x x' : Value} {cs : List Value} (hl : lenV x = some ln) (hle : n ≤ ln) (h : σ.slice es x n = some cs) (hR : R B μ σ w) (hx : VR μ x x') :
    ∃ arr : Array Value, (∀ w' : World, w'.heap = w.heap → (Builtin.firstCells es n x').run P w' = .ok arr w') ∧ F2 (VR μ) cs arr.toList := by
  unfold Hp.slice at h
  split at h
  · rename_i b off l c
    simp [lenV] at hl
    subst hl
    split at h
    · rename_i hn0
      injection h with h
      subst h
      subst hn0
      rcases hx.slice_inv with ⟨g, c', hg, _, _, _, rfl⟩ | ⟨rfl, rfl, A', rfl, _⟩
      · exact ⟨#[], fun _ _ => by simp [Builtin.firstCells, loadCells, loadCellsFrom], .nil⟩
      · exact ⟨#[], fun _ _ => by simp [Builtin.firstCells, loadCells, loadCellsFrom], .nil⟩
    split at h
    · rename_i blk hblk
      rcases hx.slice_inv with ⟨g, c', hg, _, _, _, rfl⟩ | ⟨rfl, rfl, A', rfl, _⟩
      · obtain ⟨cs', h1, h2⟩ := hR.reads hblk hg h
        exact ⟨cs'.toArray, fun w' hw' => by simp [Builtin.firstCells, h1 P w' hw'], h2⟩
      · have : n = 0 := by omega
        subst this
        rw [Nat.zero_mul] at h
        rw [readN_zero h]
        exact ⟨#[], fun _ _ => by simp [Builtin.firstCells, loadCells, loadCellsFrom], .nil⟩
    · cases h
  · obtain ⟨rfl, _, _⟩ := hx.nils_inv
    split at h
    · injection h with h
      subst h
      exact ⟨#[], fun _ _ => by simp [Builtin.firstCells], .nil⟩
    · cases h
  · rename_i s
    split at h
    case isFalse => cases h
    injection h with h
    subst h
    obtain rfl := hx.string_inv
    refine ⟨_, fun _ _ => by simp only [Builtin.firstCells]; rfl, ?_⟩
    simp only [Array.toList_map]
    exact F2.same _ fun u hu => by
      simp only [List.mem_map] at hu
      obtain ⟨c, _, rfl⟩ := hu
      exact .int _ _
  · cases h

/-- Cells stored, at the place of a slice. -/
theorem writeN_some {x y : Blk} {off : Nat} {vs : List Value} (h : writeN x off vs = some y) : x.own = true ∧ off + vs.length ≤ x.cells.length ∧ (∀ v ∈ vs, one v = true) ∧ y = ⟨setL x.cells off vs, x.own, x.es⟩ := by
  unfold writeN at h
  split at h
  · rename_i hc
    injection h with h
    exact ⟨hc.1, hc.2.1, fun v hv => List.all_eq_true.1 hc.2.2 v hv, h.symm⟩
  · cases h

theorem ok_copy {c : Call} {x y : Operand} {t d : TypeId} {ts : List TypeId} {n : Nat} (ho : o.op = .call c) (hc : c.callee = .builtin .copy) (ha : c.args.toList = [x, y]) (ht : c.argTypes.toList = t :: ts) (hu : P.underlying t = some (.slice d)) (hn : szOf P d = some n)
    (hx : okOpd x = true) (hy : okOpd y = true) (hr : (AOp.copy n x y).run e σ = some (v, σ')) (he : EnvR μ N e a.tmps) (hR : R B μ σ w) : Done P o a w B μ v σ' := by
  have hvx := he.ev hx
  have hvy := he.ev hy
  obtain ⟨cst, hrun⟩ := run_call_builtin (P := P) (a := a) ho hc w
  simp only [AOp.run] at hr
  split at hr
  · rename_i p dl dc hp
    rw [hp] at hvx
    have hsh : ∃ p' dc', a.eval x = .slice p' dl dc' := by
      generalize a.eval x = q at hvx
      cases hvx <;> exact ⟨_, _, rfl⟩
    obtain ⟨p', dc', hq⟩ := hsh
    split at hr
    · rename_i ln hln
      have hln' := lenV_ok hln hvy
      have hlr : (Builtin.lenOf (a.eval y)).run P w = .ok ln w := by
        generalize a.eval y = q at *
        cases q <;> simp [lenV] at hln' <;> simp [Builtin.lenOf, hln']
      split at hr
      · rename_i new hnew
        obtain ⟨arr, f1, f2⟩ := firstCells_ok (P := P) hln (Nat.min_le_left _ _) hnew hR hvy
        have head : (execOp a.eval o).run P w = ((do
            if let some a := p' then storeCells a arr.toList
            pure (goInt (Nat.min ln dl)) : Sem Value).run P w).andThen fun v w => .ok (.value v) w := by
          simp only [hrun, builtin, Builtin.copy_, arr2 ha, List.map_toArray, List.map_cons, List.map_nil, arr_head ht, hq, Sem.run_bind]
          have e1 : (#[Value.slice p' dl dc', a.eval y] : Array Value)[0]? = some (.slice p' dl dc') := rfl
          have e2 : (#[Value.slice p' dl dc', a.eval y] : Array Value)[1]? = some (a.eval y) := rfl
          simp only [e1, e2, Sem.run_bind, run_und hu, Result.andThen_ok, hlr, run_sz hn]
          have f1' : (Builtin.firstCells n (ln.min dl) (a.eval y)).run P w = .ok arr w := f1 w rfl
          simp only [f1', Result.andThen_ok]
          rfl
        have hstill : new = [] → Done P o a w B μ (.int .i64 (min ln dl : Nat)) σ := by
          intro hn0
          subst hn0
          have : arr = #[] := by
            cases f2' : arr.toList with
            | nil => simpa using f2'
            | cons _ _ => rw [f2'] at f2; cases f2
          subst this
          refine .same hR ?_ (.int _ _)
          rw [head]
          cases p' <;> simp [storeCells, goInt] <;> rfl
        split at hr
        · rename_i b off
          split at hr
          · rename_i hn0
            simp only [Option.some.injEq, Prod.mk.injEq] at hr
            obtain ⟨rfl, rfl⟩ := hr
            exact hstill hn0
          · rename_i hn0
            split at hr
            · rename_i blk hblk
              split at hr
              · rename_i blk' hw
                simp only [Option.some.injEq, Prod.mk.injEq] at hr
                obtain ⟨rfl, rfl⟩ := hr
                obtain ⟨k1, k2, k3, rfl⟩ := writeN_some hw
                rw [hq] at hvx
                rcases hvx.slice_inv with ⟨g, c', hg, _, _, _, hv⟩ | ⟨rfl, _⟩
                · injection hv with hv1 hv2 hv3
                  subst hv1
                  obtain ⟨w', g1, g2, g3⟩ := R.writes _ _ f2 k3 σ w b off 0 blk g hR hblk k1 hg (by omega)
                  refine ⟨_, w', μ, .int .i64 (min ln dl : Nat), ?_, .inl rfl, μ.le_refl, g2, .int _ _, g3⟩
                  rw [head]
                  simp [g1, goInt]
                · exfalso
                  rw [Nat.min_zero] at hnew
                  unfold Hp.slice at hnew
                  split at hnew
                  · simp at hnew; exact hn0 hnew
                  · simp at hnew; exact hn0 hnew
                  · simp at hnew; exact hn0 hnew.2
                  · cases hnew
              · cases hr
            · cases hr
        · split at hr
          · rename_i hn0
            simp only [Option.some.injEq, Prod.mk.injEq] at hr
            obtain ⟨rfl, rfl⟩ := hr
            exact hstill hn0
          · cases hr
        · cases hr
      · cases hr
    · cases hr
  · cases hr

theorem appended_nil {arr : Array Value} (h : F2 (VR μ) [] arr.toList) : arr = #[] := by
  cases f2' : arr.toList with
  | nil => simpa using f2'
  | cons _ _ => rw [f2'] at h; cases h

/-- What 'append' comes to, once the lengths are known. -/
theorem append_head {c : Call} {x y : Operand} {st xt d : TypeId} {n by_ : Nat} {z : List Value} (ho : o.op = .call c) (hc : c.callee = .builtin .append) (ha : c.args.toList = [x, y]) (ht : c.argTypes.toList = [st, xt]) (hu : P.underlying st = some (.slice d))
    (hxt : (∃ q, P.underlying xt = some (.slice q)) ∨ P.underlying xt = some .string) (hn : szOf P d = some n) (hb : byOf P d = some by_) (hz : zeroOf P d = some z)
    {p' : Option Addr} {sl sc ln : Nat} (hq : a.eval x = .slice p' sl sc) (hln : lenV (a.eval y) = some ln) {arr : Array Value} (harr : (Builtin.firstCells n ln (a.eval y)).run P w = .ok arr w) :
    (sl + ln ≤ sc → (execOp a.eval o).run P w = ((do
        if let some a := p' then storeCells (a.add (sl * n)) arr.toList
        pure (.slice p' (sl + ln) sc) : Sem Value).run P w).andThen fun v w => .ok (.value v) w) ∧
    (sc < sl + ln → (sl + ln) * by_ ≤ 140737488355328 → sl + ln ≤ 9223372036854775807 → ∀ old : Array Value, (Builtin.firstCells n sl (.slice p' sl sc)).run P w.drew = .ok old w.drew → (Builtin.firstCells n ln (a.eval y)).run P w.drew = .ok arr w.drew →
      ∃ cap, sl + ln ≤ cap ∧ ∃ zz : Value, cellsOf zz = z ∧ (execOp a.eval o).run P w = .ok (.value (.slice (some ⟨w.heap.size, 0, none⟩) (sl + ln) cap)) (w.drew.alloc (.cells (old ++ arr ++ Builtin.zeroCells zz.cells (cap - (sl + ln))) d))) := by
  obtain ⟨cst, hrun⟩ := run_call_builtin (P := P) (a := a) ho hc w
  have hlr : (Builtin.lenOf (a.eval y)).run P w = .ok ln w := by
    generalize a.eval y = q at *
    cases q <;> simp [lenV] at hln <;> simp [Builtin.lenOf, hln]
  obtain ⟨i, hi, hib⟩ := Option.map_eq_some_iff.1 hb
  have hinfo : ∀ w : World, (typeInfo d).run P w = .ok i w := fun w => by simp [typeInfo, hi]
  have e1 : (#[Value.slice p' sl sc, a.eval y] : Array Value)[0]? = some (.slice p' sl sc) := rfl
  have e2 : (#[Value.slice p' sl sc, a.eval y] : Array Value)[1]? = some (a.eval y) := rfl
  have e3 : (#[st, xt] : Array TypeId)[0]? = some st := rfl
  have e4 : (#[st, xt] : Array TypeId)[1]? = some xt := rfl
  refine ⟨fun hfit => ?_, fun hgrow hbytes hmax old hold hnew => ?_⟩
  · rw [hrun]
    rcases hxt with ⟨q, hdd⟩ | hdd
    all_goals
      simp only [builtin, Builtin.append_, arr2 ha, arr2 ht, List.map_toArray, List.map_cons, List.map_nil, hq, e1, e2, e3, e4, Sem.run_bind, run_und hu, run_und hdd, Result.andThen_ok, run_sz hn, Sem.run_pure, Bool.false_eq_true, if_false, hlr, Bool.not_false, if_true]
      rw [if_pos hfit]
      simp only [Sem.run_bind, harr, Result.andThen_ok]
      rfl
  · obtain ⟨zz, z1, z2, z3⟩ := zeroOf_some hz
    refine ⟨grownCap w (sl + ln) sc d, grownCap_ge _ _ _ _, zz, z2, ?_⟩
    have hfits := growslice_fits hgrow hbytes
    rw [hrun]
    rcases hxt with ⟨q, hdd⟩ | hdd
    all_goals
      simp only [builtin, Builtin.append_, arr2 ha, arr2 ht, List.map_toArray, List.map_cons, List.map_nil, hq, e1, e2, e3, e4, Sem.run_bind, run_und hu, run_und hdd, Result.andThen_ok, run_sz hn, Sem.run_pure, Bool.false_eq_true, if_false, hlr, Bool.not_false, if_true]
      rw [if_neg (by omega)]
      simp only [Sem.run_bind, hinfo, Result.andThen_ok, hib, false_or]
      have h63 : ¬ (((sl + ln : Nat) : Int) > IntKind.i64.max ∧ by_ = 0) := by
        have : IntKind.i64.max = 9223372036854775807 := by decide
        omega
      rw [if_neg h63]
      simp only [Sem.run_bind, hinfo, Result.andThen_ok, hib]
      rw [if_neg (by omega)]
      simp only [Sem.run_bind, run_choose, Question.forced, Bool.false_eq_true, if_false, World.drew_eq, Result.andThen_ok, hinfo, run_askRoom, hold, hnew, z1, newRow, run_newObj, Sem.run_pure, World.alloc_eq]
      rfl

theorem zeroCells_size (z : Array Value) (n : Nat) : (Builtin.zeroCells z n).size = n * z.size := by simp [Builtin.zeroCells]

theorem slice_drew (σ : Hp) (hR : R B μ σ w) : R B μ σ w.drew := hR.same rfl

theorem take_mid {α : Type} (A M T : List α) : (A ++ (M ++ T)).take (A.length + M.length) = A ++ M := by
  rw [← List.append_assoc, ← List.length_append, List.take_left]

theorem readN_len {x : Blk} {o n : Nat} {cs : List Value} (h : readN x o n = some cs) : cs.length = n := by
  unfold readN at h
  split at h
  · injection h with h
    subst h
    simp
    omega
  · cases h
theorem slice_len {es n : Nat} {x : Value} {cs : List Value} (h : σ.slice es x n = some cs) (hs : ∀ s, x = .string s → n ≤ s.size) : cs.length = n * es := by
  unfold Hp.slice at h
  split at h
  · split at h
    · rename_i hn; injection h with h; subst h hn; simp
    split at h
    · exact readN_len h
    · cases h
  · split at h
    · rename_i hn; injection h with h; subst h hn; simp
    · cases h
  · rename_i s
    split at h
    case isFalse => cases h
    rename_i h2
    injection h with h
    subst h
    have h1 := hs s rfl
    subst h2
    simp
    omega
  · cases h

/-- Cells written into a row whose frozen cells lie behind its end. -/
theorem storeCells_out (g o : Nat) (t : TypeId) (fr : Nat × Nat) : ∀ (vs : List Value) (i : Nat) (cur : Array Value) (w : World), w.heap[g]? = some (.cells cur t fr) → (cur.size ≤ fr.1 ∨ fr.1 = fr.2) → o + i + vs.length ≤ cur.size → (∀ v ∈ vs, v.oneCell' = true) →
    (storeCells ⟨g, o, none⟩ vs i).run P w = .ok () (w.setRow g (cur.toList.take (o + i) ++ vs ++ cur.toList.drop (o + i + vs.length)).toArray)
  | [], i, cur, w, hg, _, _, _ => by
    simp only [storeCells, List.append_nil, List.length_nil, Nat.add_zero, List.take_append_drop, Array.toArray_toList]
    rw [setRow_self w g cur t fr hg]
    rfl
  | v :: rest, i, cur, w, hg, hf, hl, h1 => by
    have hi : o + i < cur.size := by simp at hl; omega
    have hcell : w.cell? ⟨g, o + i, none⟩ = some cur[o + i] := by simp [World.cell?, hg, hi]
    have hst : (store ((⟨g, o, none⟩ : Addr).add i) v).run P w = .ok () (w.setRow g (cur.setIfInBounds (o + i) v)) := by
      rw [add_none, run_store P w _ v _ (h1 v (by simp)), hcell]
      simp [frozen_out w g (o + i) cur t fr hg hi hf, setCell_eq_setRow w g (o + i) cur t fr v hg]
    have ih := storeCells_out g o t fr rest (i + 1) (cur.setIfInBounds (o + i) v) (w.setRow g (cur.setIfInBounds (o + i) v)) (setRow_heap w g cur _ t _ hg) (by simpa using hf) (by simp at hl ⊢; omega) (fun x hx => h1 x (by simp [hx]))
    simp only [storeCells, Sem.run_bind, hst, Result.andThen_ok, ih, setRow_setRow]
    congr 3
    have e := list_seg_step cur.toList (o + i) v rest (by simp at hl ⊢; omega)
    simpa [Array.toList_setIfInBounds, Nat.add_assoc] using e
/-- The first block goes, a new one stands for what it held and more, in the same place. -/
theorem R.moved (hR : R B μ σ w) {b : Nat} {blk : Blk} {g : G} (hblk : σ.m b = some blk) (hown : blk.own = true) (hg : μ.at b g) {off n : Nat} {cells : List Value} {cur : Array Value} {t : TypeId} {fr : Nat × Nat} (hfr : cur.size ≤ fr.1 ∨ fr.1 = fr.2)
    (hlt : w.heap.size = w'.heap.size) (hnew : w'.heap[g.c]? = some (.cells cur t fr)) (hoth : ∀ k, k ≠ g.c → w'.heap[k]? = w.heap[k]?) (hsz : g.o + g.ext ≤ cur.size) (hfit : off + cells.length ≤ g.ext)
    (hc : F2 (VR μ) cells ((cur.toList.drop (g.o + off)).take cells.length)) :
    R B (μ.add σ.n ⟨g.c, g.o + off, g.ext - off, n, t, none⟩) ((σ.set b none).add ⟨cells, true, n⟩) w' ∧ μ.le (μ.add σ.n ⟨g.c, g.o + off, g.ext - off, n, t, none⟩) := by
  have hf : μ σ.n = none := hR.fresh _ (Nat.le_refl _)
  have hle' : μ.le (μ.add σ.n ⟨g.c, g.o + off, g.ext - off, n, t, none⟩) := Mu.le_add hf
  have hl := hR.get hblk hg.1
  obtain ⟨o1, o2, _⟩ := hl.own hg.2 hown
  have hbn : b ≠ σ.n := fun e => by have := hg.1; rw [e, hf] at this; cases this
  have old : ∀ b' x, b' ≠ σ.n → ((σ.set b none).add ⟨cells, true, n⟩).m b' = some x → σ.m b' = some x ∧ b' ≠ b := by
    intro b' x hb hx
    have hb2 : b' ≠ (σ.set b none).n := hb
    simp only [Hp.add, if_neg hb2] at hx
    simp only [Hp.set] at hx
    split at hx
    · cases hx
    · rename_i h; exact ⟨hx, h⟩
  have new : ∀ x, ((σ.set b none).add ⟨cells, true, n⟩).m σ.n = some x → x = ⟨cells, true, n⟩ := by
    intro x hx
    have hb2 : σ.n = (σ.set b none).n := rfl
    simp only [Hp.add, if_pos hb2] at hx
    exact (Option.some.inj hx).symm
  refine ⟨⟨by rw [← hlt]; exact hR.base, fun k hk => (hoth k (by omega)).trans (hR.old k hk), fun b' hb => ?_, fun b' x hx => ?_, fun b1 b2 x x' g1 g2 hx hx' hne ho hg1 hg2 => ?_, ?_⟩, hle'⟩
  · have : σ.n + 1 ≤ b' := hb
    unfold Mu.add
    rw [if_neg (by omega)]
    exact hR.fresh b' (by omega)
  · by_cases hb : b' = σ.n
    · subst hb
      obtain rfl := new x hx
      refine ⟨⟨g.c, g.o + off, g.ext - off, n, t, none⟩, by simp [Mu.add], ⟨by rw [← hlt]; exact hl.lt, rfl, fun _ i v hv => ?_, fun _ _ => ⟨o1, by simp; omega, cur, t, fr, hnew, by simp; omega, hfr⟩, fun _ hs => (by cases hs), fun hs => by cases hs⟩⟩
      obtain ⟨v', h1, h2⟩ := hc.get i v hv
      have hi : i < cells.length := by
        rcases Nat.lt_or_ge i cells.length with h3 | h3
        · exact h3
        · simp [List.getElem?_eq_none h3] at hv
      refine ⟨v', ?_, h2.mono hle'⟩
      rw [cell_of_row _ _ _ cur t fr hnew]
      rw [List.getElem?_take, if_pos hi, List.getElem?_drop] at h1
      simpa using h1
    · obtain ⟨hx', hbb⟩ := old b' x hb hx
      obtain ⟨g', h1, h2⟩ := hR.live b' x hx'
      have hne : g'.c ≠ g.c := fun e => hR.inj b b' blk x g g' hblk hx' (fun e => hbb e.symm) hown hg.1 h1 e.symm
      exact ⟨g', hle' _ _ h1, (hR.stays hx' h1 (by rw [hlt]; exact Nat.le_refl _) g.c (fun k hk _ => hoth k hk) hne (fun hi hk => (hR.sep b' x g' hx' h1 hi _ hk b blk g hblk hg.1).1 rfl)).mono hle'⟩
  · by_cases hb : b1 = σ.n
    · subst hb
      have hb' : b2 ≠ σ.n := fun e => hne e.symm
      have e1 : g1.c = g.c := by simp [Mu.add] at hg1; rw [← hg1]
      have h2 : μ b2 = some g2 := by simpa [Mu.add, hb'] using hg2
      obtain ⟨hx2, hb2⟩ := old b2 x' hb' hx'
      rw [e1]
      exact hR.inj b b2 blk x' g g2 hblk hx2 (fun e => hb2 e.symm) hown hg.1 h2
    · have h1 : μ b1 = some g1 := by simpa [Mu.add, hb] using hg1
      obtain ⟨hx1, hb1⟩ := old b1 x hb hx
      by_cases hb' : b2 = σ.n
      · subst hb'
        have e1 : g2.c = g.c := by simp [Mu.add] at hg2; rw [← hg2]
        rw [e1]
        exact fun e => hR.inj b b1 blk x g g1 hblk hx1 (fun e => hb1 e.symm) hown hg.1 h1 e.symm
      · have h2 : μ b2 = some g2 := by simpa [Mu.add, hb'] using hg2
        exact hR.inj b1 b2 x x' g1 g2 hx1 (old _ _ hb' hx').1 hne ho h1 h2
  · refine hR.sep.of (fun b' x g' hx hg' => ?_) (fun b' x g' hx hg' hi hl' => ?_)
    · by_cases hb : b' = σ.n
      · subst hb
        have e1 : g' = ⟨g.c, g.o + off, g.ext - off, n, t, none⟩ := by simp [Mu.add] at hg'; exact hg'.symm
        subst e1
        exact .inr ⟨fun h0 => (by cases h0), fun b1 x1 g1 k h1 h2 h3 h4 => (hR.sep b1 x1 g1 h1 h2 h3 k h4 b blk g hblk hg.1).1⟩
      · exact .inl ⟨x, (old b' x hb hx).1, by simpa [Mu.add, hb] using hg'⟩
    · have hbb : b' ≠ b := fun e => by subst e; rw [hg.1] at hg'; injection hg' with hg'; subst hg'; rw [hg.2] at hi; cases hi
      unfold bufAt
      rw [hoth _ (fun e => hR.inj b b' blk x g g' hblk hx (fun e => hbb e.symm) hown hg.1 hg' e.symm)]

/-- 'append', of new cells. -/
theorem ok_app_core {x : Operand} {d : TypeId} {n by_ : Nat} {z : List Value} {p : Option Addr} {sl sc ln : Nat} {new : List Value} {arr : Array Value} (hzn : z.length = n) (f2 : F2 (VR μ) new arr.toList) (hlen : new.length = ln * n)
    (hp : e.ev x = .slice p sl sc) (hx : okOpd x = true) (hr : appRun n by_ σ p sl sc ln new = some (v, σ')) (he : EnvR μ N e a.tmps) (hR : R B μ σ w)
    (hhead : ∀ {p' : Option Addr} {sc' : Nat}, a.eval x = .slice p' sl sc' → (sl + ln ≤ sc' → (execOp a.eval o).run P w = ((do
        if let some a := p' then storeCells (a.add (sl * n)) arr.toList
        pure (.slice p' (sl + ln) sc') : Sem Value).run P w).andThen fun v w => .ok (.value v) w) ∧
      (sc' < sl + ln → (sl + ln) * by_ ≤ 140737488355328 → sl + ln ≤ 9223372036854775807 → ∀ old : Array Value, (Builtin.firstCells n sl (.slice p' sl sc')).run P w.drew = .ok old w.drew →
        ∃ cap, sl + ln ≤ cap ∧ ∃ zz : Value, cellsOf zz = z ∧ (execOp a.eval o).run P w = .ok (.value (.slice (some ⟨w.heap.size, 0, none⟩) (sl + ln) cap)) (w.drew.alloc (.cells (old ++ arr ++ Builtin.zeroCells zz.cells (cap - (sl + ln))) d)))) : Done P o a w B μ v σ' := by
  have hvx := he.ev hx
  rw [hp] at hvx
  unfold appRun at hr
  split at hr
  · rename_i hfit
    -- within what is surely there
    split at hr
    · rename_i b off
      have hcase : ∃ p' sc', a.eval x = .slice p' sl sc' ∧ sc ≤ sc' ∧ VR μ (.slice (some ⟨b, off, none⟩) (sl + ln) sc) (.slice p' (sl + ln) sc') ∧ (new ≠ [] → ∃ g, μ.at b g ∧ p' = some ⟨g.c, g.o + off, none⟩) := by
        rcases hvx.slice_inv with ⟨g, c', hg, h1, h2, h3, hv⟩ | ⟨h1, h2, A', hv, g0, hg0⟩
        · exact ⟨_, c', hv, h2, .slice hg hfit h2 h3, fun _ => ⟨g, hg, rfl⟩⟩
        · subst h1 h2
          have : ln = 0 := by omega
          subst this
          exact ⟨_, 0, hv, Nat.le_refl _, .slice0 _ hg0, fun hne => absurd (List.eq_nil_of_length_eq_zero (by simpa using hlen)) hne⟩
      obtain ⟨p', sc', hq, hle, hvr, hwhere⟩ := hcase
      obtain ⟨head, _⟩ := hhead hq
      have head := head (by omega)
      split at hr
      · rename_i hn0
        simp only [Option.some.injEq, Prod.mk.injEq] at hr
        obtain ⟨rfl, rfl⟩ := hr
        subst hn0
        have := appended_nil f2
        subst this
        refine .same hR ?_ hvr
        rw [head]
        cases p' <;> simp [storeCells]
      · rename_i hn0
        split at hr
        · rename_i blk hblk
          split at hr
          · rename_i blk' hw
            simp only [Option.some.injEq, Prod.mk.injEq] at hr
            obtain ⟨rfl, rfl⟩ := hr
            obtain ⟨k1, k2, k3, rfl⟩ := writeN_some hw
            obtain ⟨g, hg, rfl⟩ := hwhere hn0
            obtain ⟨w', g1, g2, g3⟩ := R.writes _ _ f2 k3 σ w b (off + sl * n) 0 blk g hR hblk k1 hg (by omega)
            refine ⟨_, w', μ, _, ?_, .inl rfl, μ.le_refl, g2, hvr, g3⟩
            rw [head]
            simp [add_none, Nat.add_assoc]
            simp [g1]
          · cases hr
        · cases hr
    · split at hr
      · rename_i hn0
        obtain ⟨hn0, h1, h2, h3⟩ := hn0
        simp only [Option.some.injEq, Prod.mk.injEq] at hr
        obtain ⟨rfl, rfl⟩ := hr
        subst h1 h2 h3 hn0
        obtain ⟨hq, _, _⟩ := hvx.nils_inv
        have := appended_nil f2
        subst this
        obtain ⟨head, _⟩ := hhead hq
        refine .same hR ?_ .nils
        rw [head (by omega)]
        simp
      · cases hr
    · cases hr
  · rename_i hfit
    split at hr
    · rename_i hbig
      obtain ⟨hb1, hb2, hall⟩ := hbig
      have hone : ∀ u ∈ new, one u = true := fun u hu => List.all_eq_true.1 hall u hu
      split at hr
      · rename_i b off
        split at hr
        · rename_i blk hblk
          split at hr
          · rename_i hown
            split at hr
            · rename_i old hold
              simp only [Option.some.injEq, Prod.mk.injEq] at hr
              obtain ⟨rfl, rfl⟩ := hr
              have holdlen := readN_len hold
              -- where it lies
              have hcase : ∃ p' sc', a.eval x = .slice p' sl sc' ∧ sc ≤ sc' ∧ (∃ oa : Array Value, (Builtin.firstCells n sl (.slice p' sl sc')).run P w.drew = .ok oa w.drew ∧ F2 (VR μ) old oa.toList) ∧
                  (sl + ln ≤ sc' → ∃ g, μ.at b g ∧ p' = some ⟨g.c, g.o + off, none⟩ ∧ off + sc' * g.es ≤ g.ext) := by
                rcases hvx.slice_inv with ⟨g, c', hg, h1, h2, h3, hv⟩ | ⟨h1, h2, A', hv, g0, hg0⟩
                · obtain ⟨cs', r1, r2⟩ := (slice_drew σ hR).reads hblk hg hold
                  exact ⟨_, c', hv, h2, ⟨cs'.toArray, by simp [Builtin.firstCells, r1 P w.drew rfl], r2⟩, fun _ => ⟨g, hg, rfl, h3⟩⟩
                · subst h1 h2
                  rw [Nat.zero_mul] at hold
                  have := readN_zero hold
                  subst this
                  exact ⟨_, 0, hv, Nat.le_refl _, ⟨#[], by simp [Builtin.firstCells, loadCells, loadCellsFrom], .nil⟩, fun h => absurd h (by omega)⟩
              obtain ⟨p', sc', hq, hle, ⟨oa, q1, q2⟩, hin⟩ := hcase
              by_cases hin' : sl + ln ≤ sc'
              · -- there was room
                obtain ⟨head, _⟩ := hhead hq
                have head := head hin'
                obtain ⟨g, hg, rfl, hext⟩ := hin hin'
                have hlv := hR.get hblk hg.1
                obtain ⟨o1, o2, cur, t, fr, o3, o4, o5⟩ := hlv.own hg.2 hown.1
                have hes : g.es = n := hlv.es.trans hown.2
                rw [hes] at hext
                have hsum : (sl + ln) * n ≤ sc' * n := Nat.mul_le_mul_right _ hin'
                rw [Nat.add_mul] at hsum
                have harl : arr.toList.length = ln * n := by rw [← f2.length, hlen]
                have hone' : ∀ u ∈ arr.toList, u.oneCell' = true := by
                  intro u hu
                  obtain ⟨i, hi, he'⟩ := List.getElem_of_mem hu
                  obtain ⟨u', h1, h2⟩ := f2.get i (new[i]'(by rw [hlen, ← harl]; exact hi)) (List.getElem?_eq_getElem _)
                  rw [List.getElem?_eq_getElem hi] at h1
                  injection h1 with h1
                  rw [← he', h1, ← h2.one_iff]
                  exact hone _ (List.getElem_mem _)
                have hst := storeCells_out (P := P) g.c (g.o + off + sl * n) t fr arr.toList 0 cur w o3 o5 (by omega) hone'
                rw [Nat.add_zero] at hst
                have hrow := setRow_heap w g.c cur (cur.toList.take (g.o + off + sl * n) ++ arr.toList ++ cur.toList.drop (g.o + off + sl * n + arr.toList.length)).toArray t fr o3
                -- what lay there reads as it did
                have hold' : F2 (VR μ) old ((cur.toList.drop (g.o + off)).take (sl * n)) := by
                  obtain ⟨cs', r1, r2⟩ := hR.reads hblk hg hold
                  refine F2.of_get _ _ (by rw [holdlen]; simp; omega) fun i u u' hu hu' => ?_
                  have hi : i < sl * n := by
                    rcases Nat.lt_or_ge i (sl * n) with h3 | h3
                    · exact h3
                    · rw [List.getElem?_eq_none (by omega)] at hu; cases hu
                  unfold readN at hold
                  split at hold
                  · injection hold with hold
                    rw [← hold, List.getElem?_take, if_pos hi, List.getElem?_drop] at hu
                    obtain ⟨u'', h1, h2⟩ := hlv.cell hg.2 (off + i) u hu
                    rw [cell_of_row _ _ _ cur t fr o3] at h1
                    rw [List.getElem?_take, if_pos hi, List.getElem?_drop] at hu'
                    have : u' = u'' := by
                      have e1 : cur[g.o + (off + i)]? = some u' := by rw [← Array.getElem?_toList, ← Nat.add_assoc]; exact hu'
                      rw [e1] at h1
                      exact Option.some.inj h1
                    rw [this]
                    exact h2
                  · cases hold
                have hcells : F2 (VR μ) (old ++ new) (((cur.toList.take (g.o + off + sl * n) ++ arr.toList ++ cur.toList.drop (g.o + off + sl * n + arr.toList.length)).toArray.toList.drop (g.o + off)).take (old ++ new).length) := by
                  have : ((cur.toList.take (g.o + off + sl * n) ++ arr.toList ++ cur.toList.drop (g.o + off + sl * n + arr.toList.length)).toArray.toList.drop (g.o + off)).take (old ++ new).length = ((cur.toList.drop (g.o + off)).take (sl * n)) ++ arr.toList := by
                    rw [List.length_append, holdlen, hlen, List.append_assoc]
                    rw [List.drop_append_of_le_length (by simp; omega)]
                    rw [List.drop_take, show g.o + off + sl * n - (g.o + off) = sl * n from by omega]
                    have e1 : ((cur.toList.drop (g.o + off)).take (sl * n)).length = sl * n := by simp; omega
                    have e2 := take_mid ((cur.toList.drop (g.o + off)).take (sl * n)) arr.toList (cur.toList.drop (g.o + off + sl * n + arr.toList.length))
                    rw [e1, harl] at e2
                    rw [harl]
                    exact e2
                  rw [this]
                  exact hold'.append f2
                obtain ⟨m1, m2⟩ := R.moved (w' := w.setRow g.c (cur.toList.take (g.o + off + sl * n) ++ arr.toList ++ cur.toList.drop (g.o + off + sl * n + arr.toList.length)).toArray) (n := n) hR hblk hown.1 hg (o5.imp (fun o5 => by have h9 : g.o + off + sl * n + arr.toList.length ≤ cur.size := (by omega); rw [Array.length_toList] at h9; simp; omega) id) (by simp) hrow (fun k hk => setRow_other _ _ _ _ hk) (by simp; omega) (by rw [List.length_append, holdlen, hlen]; omega) hcells
                refine ⟨_, _, _, _, ?_, .inl rfl, m2, m1, .slice (o := 0) (g := ⟨g.c, g.o + off, g.ext - off, n, t, none⟩) ⟨by simp [Mu.add], rfl⟩ (Nat.le_refl _) hin' (by simp; omega), ?_⟩
                · rw [head]
                  simp only [add_none]
                  simp only [Sem.run_bind, hst, Result.andThen_ok, Sem.run_pure]
                  rfl
                · refine ⟨rfl, rfl, rfl, by simp, fun k hk => setRow_other _ _ _ _ (by omega)⟩
              · -- a new array
                obtain ⟨_, head⟩ := hhead hq
                obtain ⟨cap, hcap, zz, hzz, hrun⟩ := head (by omega) hb1 hb2 oa q1
                have hdrew := slice_drew σ hR
                have hzs : zz.cells.size = n := by rw [← hzn, ← hzz]; simp [cellsOf]
                have hoal : oa.toList.length = sl * n := by rw [← q2.length, holdlen]
                have harl : arr.toList.length = ln * n := by rw [← f2.length, hlen]
                have hcs : (oa ++ arr ++ Builtin.zeroCells zz.cells (cap - (sl + ln))).size = cap * n := by
                  have hoas : oa.size = sl * n := by simpa using hoal
                  have hars : arr.size = ln * n := by simpa using harl
                  rw [Array.size_append, Array.size_append, zeroCells_size, hzs, hoas, hars, ← Nat.add_mul, ← Nat.add_mul]
                  congr 1
                  omega
                have hk := hdrew.kill b
                obtain ⟨m1, m2⟩ := hk.add (oa ++ arr ++ Builtin.zeroCells zz.cells (cap - (sl + ln))) d (old ++ new) n (by rw [List.length_append, holdlen, hlen, hcs, ← Nat.add_mul]; exact Nat.mul_le_mul_right _ hcap) (by
                  have : ((oa ++ arr ++ Builtin.zeroCells zz.cells (cap - (sl + ln))).toList).take (old ++ new).length = oa.toList ++ arr.toList := by
                    rw [List.length_append, holdlen, hlen, ← hoal, ← harl, ← List.length_append]
                    simp only [Array.toList_append]
                    exact List.take_left
                  rw [this]
                  exact q2.append f2)
                refine ⟨_, _, _, _, hrun, .inl rfl, m2, m1, .slice (o := 0) (g := ⟨w.drew.heap.size, 0, _, n, _, none⟩) ⟨by unfold Mu.add; exact if_pos rfl, rfl⟩ (Nat.le_refl _) hcap (by simp only [Nat.zero_add]; rw [hcs]; exact Nat.le_refl _), ?_⟩
                exact ((Below.refl _ _).drew).alloc hR.base _
            · cases hr
          · cases hr
        · cases hr
      · split at hr
        · rename_i hsl
          subst hsl
          simp only [Option.some.injEq, Prod.mk.injEq] at hr
          obtain ⟨rfl, rfl⟩ := hr
          obtain ⟨hq, _, hsc⟩ := hvx.nils_inv
          subst hsc
          obtain ⟨_, head⟩ := hhead hq
          obtain ⟨cap, hcap, zz, hzz, hrun⟩ := head (by omega) hb1 hb2 #[] (by simp [Builtin.firstCells])
          rw [Nat.zero_add] at hcap hrun
          have hdrew := slice_drew σ hR
          have hzs : zz.cells.size = n := by rw [← hzn, ← hzz]; simp [cellsOf]
          have harl : arr.toList.length = ln * n := by rw [← f2.length, hlen]
          have hcs : ((#[] : Array Value) ++ arr ++ Builtin.zeroCells zz.cells (cap - ln)).size = cap * n := by
            have hars : arr.size = ln * n := by simpa using harl
            rw [Array.size_append, Array.size_append, zeroCells_size, hzs, hars, Array.size_empty, Nat.zero_add, ← Nat.add_mul]
            congr 1
            omega
          obtain ⟨m1, m2⟩ := hdrew.add ((#[] : Array Value) ++ arr ++ Builtin.zeroCells zz.cells (cap - ln)) d new n (by rw [hlen, hcs]; exact Nat.mul_le_mul_right _ hcap) (by
            have : (((#[] : Array Value) ++ arr ++ Builtin.zeroCells zz.cells (cap - ln)).toList).take new.length = arr.toList := by
              rw [hlen, ← harl]
              simp only [Array.toList_append, List.nil_append]
              exact List.take_left
            rw [this]
            exact f2)
          refine ⟨_, _, _, _, hrun, .inl rfl, m2, m1, ?_, ((Below.refl _ _).drew).alloc hR.base _⟩
          exact .slice (o := 0) (g := ⟨w.drew.heap.size, 0, _, n, _, none⟩) ⟨by unfold Mu.add; exact if_pos rfl, rfl⟩ (Nat.le_refl _) hcap (by rw [hcs]; show 0 + cap * n ≤ cap * n; omega)
        · cases hr
      · -- a slice that has no room
        rename_i b off q
        have hcase : ∃ p', a.eval x = .slice p' sl sc ∧ sl = sc ∧ (sl ≠ 0 → ∃ g, μ.at b g ∧ p' = some ⟨g.c, g.o + off, none⟩) := by
          generalize hq : a.eval x = q' at hvx
          cases hvx with
          | sliceX h1 h2 => exact ⟨_, rfl, rfl, fun _ => ⟨_, h1, rfl⟩⟩
          | sliceX0 A' h1 => exact ⟨_, rfl, rfl, fun h => (h rfl).elim⟩
        obtain ⟨p', hq, hsc, hgo⟩ := hcase
        have hdrew := slice_drew σ hR
        have hfin : ∀ (old : List Value) (oa : Array Value), old.length = sl * n → (Builtin.firstCells n sl (.slice p' sl sc)).run P w.drew = .ok oa w.drew → F2 (VR μ) old oa.toList →
            Done P o a w B μ (.slice (some ⟨σ.n, 0, none⟩) (sl + ln) (sl + ln)) (σ.add ⟨old ++ new, true, n⟩) := by
          intro old oa holdlen q1 q2
          obtain ⟨_, head⟩ := hhead hq
          obtain ⟨cap, hcap, zz, hzz, hrun⟩ := head (by omega) hb1 hb2 oa q1
          have hzs : zz.cells.size = n := by rw [← hzn, ← hzz]; simp [cellsOf]
          have hoal : oa.toList.length = sl * n := by rw [← q2.length, holdlen]
          have harl : arr.toList.length = ln * n := by rw [← f2.length, hlen]
          have hcs : (oa ++ arr ++ Builtin.zeroCells zz.cells (cap - (sl + ln))).size = cap * n := by
            have hoas : oa.size = sl * n := by simpa using hoal
            have hars : arr.size = ln * n := by simpa using harl
            rw [Array.size_append, Array.size_append, zeroCells_size, hzs, hoas, hars, ← Nat.add_mul, ← Nat.add_mul]
            congr 1
            omega
          obtain ⟨m1, m2⟩ := hdrew.add (oa ++ arr ++ Builtin.zeroCells zz.cells (cap - (sl + ln))) d (old ++ new) n (by rw [List.length_append, holdlen, hlen, hcs, ← Nat.add_mul]; exact Nat.mul_le_mul_right _ hcap) (by
            have : ((oa ++ arr ++ Builtin.zeroCells zz.cells (cap - (sl + ln))).toList).take (old ++ new).length = oa.toList ++ arr.toList := by
              rw [List.length_append, holdlen, hlen, ← hoal, ← harl, ← List.length_append]
              simp only [Array.toList_append]
              exact List.take_left
            rw [this]
            exact q2.append f2)
          refine ⟨_, _, _, _, hrun, .inl rfl, m2, m1, .slice (o := 0) (g := ⟨w.drew.heap.size, 0, _, n, _, none⟩) ⟨by unfold Mu.add; exact if_pos rfl, rfl⟩ (Nat.le_refl _) hcap (by simp only [Nat.zero_add]; rw [hcs]; exact Nat.le_refl _), ?_⟩
          exact ((Below.refl _ _).drew).alloc hR.base _
        split at hr
        · rename_i hsl
          simp only [Option.some.injEq, Prod.mk.injEq] at hr
          obtain ⟨rfl, rfl⟩ := hr
          have := hfin [] #[] (by rw [hsl]; simp) (by rw [hsl]; cases p' <;> simp [Builtin.firstCells, loadCells, loadCellsFrom]) .nil
          rw [hsl, Nat.zero_add] at this
          exact this
        · rename_i hsl
          split at hr
          · rename_i blk hblk
            split at hr
            · split at hr
              · rename_i old hold
                simp only [Option.some.injEq, Prod.mk.injEq] at hr
                obtain ⟨rfl, rfl⟩ := hr
                obtain ⟨g, hg, rfl⟩ := hgo hsl
                obtain ⟨cs', r1, r2⟩ := hdrew.reads hblk hg hold
                exact hfin old cs'.toArray (readN_len hold) (by simp [Builtin.firstCells, r1 P w.drew rfl]) r2
              · cases hr
            · cases hr
          · cases hr
    · cases hr

theorem ok_append {c : Call} {x y : Operand} {st xt d : TypeId} {n by_ : Nat} {z : List Value} (ho : o.op = .call c) (hc : c.callee = .builtin .append) (ha : c.args.toList = [x, y]) (ht : c.argTypes.toList = [st, xt]) (hu : P.underlying st = some (.slice d))
    (hxt : (∃ q, P.underlying xt = some (.slice q)) ∨ P.underlying xt = some .string) (hn : szOf P d = some n) (hb : byOf P d = some by_) (hz : zeroOf P d = some z) (hzn : z.length = n)
    (hx : okOpd x = true) (hy : okOpd y = true) (hr : (AOp.append n by_ x y).run e σ = some (v, σ')) (he : EnvR μ N e a.tmps) (hR : R B μ σ w) : Done P o a w B μ v σ' := by
  have hvy := he.ev hy
  simp only [AOp.run] at hr
  split at hr
  · rename_i p sl sc hp
    split at hr
    · rename_i ln hln
      have hln' := lenV_ok hln hvy
      split at hr
      · rename_i new hnew
        obtain ⟨arr, f0, f2⟩ := firstCells_ok (P := P) hln (Nat.le_refl _) hnew hR hvy
        have f1 := f0 w rfl
        have f1d := f0 w.drew rfl
        have hxt' := hxt
        have hlen : new.length = ln * n := slice_len hnew fun s hs => by
          rw [hs] at hln
          simp [lenV] at hln
          omega
        exact ok_app_core hzn f2 hlen hp hx hr he hR fun hq => by
          obtain ⟨h1, h2⟩ := append_head ho hc ha ht hu hxt' hn hb hz hq hln' f1
          exact ⟨h1, fun q1 q2 q3 old q4 => h2 q1 q2 q3 old q4 f1d⟩
      · cases hr
    · cases hr
  · cases hr
theorem appendZ_head {c : Call} {x y : Operand} {st xt d : TypeId} {n by_ : Nat} {z : List Value} (ho : o.op = .call c) (hc : c.callee = .builtin .append) (ha : c.args.toList = [x, y]) (ht : c.argTypes.toList = [st, xt]) (hu : P.underlying st = some (.slice d))
    (hxt : ∃ q, P.underlying xt = some (.int q)) (hn : szOf P d = some n) (hb : byOf P d = some by_) (hz : zeroOf P d = some z) (hzn : z.length = n) (h0 : 0 < n)
    {p' : Option Addr} {sl sc : Nat} {k : IntKind} {l : Int} (hq : a.eval x = .slice p' sl sc) (hl : a.eval y = .int k l) (l0 : 0 ≤ l) (l1 : l ≤ 9223372036854775807) (l2 : l * by_ ≤ 281474976710656) :
    (sl + l.toNat ≤ sc → (execOp a.eval o).run P w = ((do
        if let some a := p' then storeCells (a.add (sl * n)) (times z l.toNat).toArray.toList
        pure (.slice p' (sl + l.toNat) sc) : Sem Value).run P w).andThen fun v w => .ok (.value v) w) ∧
    (sc < sl + l.toNat → (sl + l.toNat) * by_ ≤ 140737488355328 → sl + l.toNat ≤ 9223372036854775807 → ∀ old : Array Value, (Builtin.firstCells n sl (.slice p' sl sc)).run P w.drew = .ok old w.drew →
      ∃ cap, sl + l.toNat ≤ cap ∧ ∃ zz : Value, cellsOf zz = z ∧ (execOp a.eval o).run P w = .ok (.value (.slice (some ⟨w.heap.size, 0, none⟩) (sl + l.toNat) cap)) (w.drew.alloc (.cells (old ++ (times z l.toNat).toArray ++ Builtin.zeroCells zz.cells (cap - (sl + l.toNat))) d))) := by
  obtain ⟨cst, hrun⟩ := run_call_builtin (P := P) (a := a) ho hc w
  obtain ⟨i, hi, hib⟩ := Option.map_eq_some_iff.1 hb
  have hinfo : ∀ w : World, (typeInfo d).run P w = .ok i w := fun w => by simp [typeInfo, hi]
  have e1 : (#[Value.slice p' sl sc, Value.int k l] : Array Value)[0]? = some (.slice p' sl sc) := rfl
  have e2 : (#[Value.slice p' sl sc, Value.int k l] : Array Value)[1]? = some (.int k l) := rfl
  have e3 : (#[st, xt] : Array TypeId)[0]? = some st := rfl
  have e4 : (#[st, xt] : Array TypeId)[1]? = some xt := rfl
  obtain ⟨zz, z1, z2, z3⟩ := zeroOf_some hz
  obtain ⟨q, hdd⟩ := hxt
  have w1 : IntKind.i64.wrap l = l := IntWalk.i64_in _ (by omega)
  have hzs : zz.cells.size = n := by rw [← hzn, ← z2]; simp [cellsOf]
  have hzl : zz.cells.toList = z := z2
  have happ : ∀ w : World, ((if l.toNat * n = 0 then pure #[] else do pure (Builtin.zeroCells (← zeroValue d).cells l.toNat)) : Sem (Array Value)).run P w = .ok (times z l.toNat).toArray w := by
    intro w
    by_cases hcn : l.toNat * n = 0
    · have hc0 : l.toNat = 0 := by
        rcases Nat.mul_eq_zero.1 hcn with h | h
        · exact h
        · omega
      have : (times z l.toNat) = [] := by rw [hc0]; rfl
      rw [if_pos hcn, this]
      simp
    · rw [if_neg hcn]
      have hcc : Builtin.zeroCells zz.cells l.toNat = (times z l.toNat).toArray := by
        unfold Builtin.zeroCells
        rw [← hzl, ← times_eq _ _ (by omega)]
      simp only [Sem.run_bind, z1, Sem.run_pure, Result.andThen_ok, hcc]
  refine ⟨fun hfit => ?_, fun hgrow hbytes hmax old hold => ?_⟩
  · rw [hrun]
    simp only [builtin, Builtin.append_, arr2 ha, arr2 ht, List.map_toArray, List.map_cons, List.map_nil, hq, hl, e1, e2, e3, e4, Sem.run_bind, run_und hu, run_und hdd, Result.andThen_ok, run_sz hn, Sem.run_pure, Bool.false_eq_true, if_false, asInt, asIntOf, w1, Bool.not_true, if_true]
    rw [if_neg (by omega)]
    simp only [Sem.run_bind, hinfo, Result.andThen_ok, hib]
    rw [if_neg (by omega)]
    simp only [Sem.run_bind, Sem.run_pure, Result.andThen_ok]
    rw [if_pos hfit]
    simp only [Sem.run_bind, happ, Result.andThen_ok]
    rfl
  · refine ⟨grownCap w (sl + l.toNat) sc d, grownCap_ge _ _ _ _, zz, z2, ?_⟩
    have hfits := growslice_fits hgrow hbytes
    rw [hrun]
    simp only [builtin, Builtin.append_, arr2 ha, arr2 ht, List.map_toArray, List.map_cons, List.map_nil, hq, hl, e1, e2, e3, e4, Sem.run_bind, run_und hu, run_und hdd, Result.andThen_ok, run_sz hn, Sem.run_pure, Bool.false_eq_true, if_false, asInt, asIntOf, w1, Bool.not_true, if_true]
    rw [if_neg (by omega)]
    simp only [Sem.run_bind, hinfo, Result.andThen_ok, hib]
    rw [if_neg (by omega)]
    simp only [Sem.run_bind, Sem.run_pure, Result.andThen_ok]
    rw [if_neg (by omega)]
    simp only [Sem.run_bind, hinfo, Result.andThen_ok, true_or, and_true]
    have h63 : ¬ ((sl + l.toNat : Nat) : Int) > IntKind.i64.max := by
      have : IntKind.i64.max = 9223372036854775807 := by decide
      omega
    rw [if_neg h63]
    simp only [Sem.run_bind, hinfo, Result.andThen_ok, hib]
    rw [if_neg (by omega)]
    simp only [Sem.run_bind, run_choose, Question.forced, Bool.false_eq_true, if_false, World.drew_eq, Result.andThen_ok, hinfo, run_askRoom, hold, happ, z1, newRow, run_newObj, Sem.run_pure, World.alloc_eq]
    rfl
theorem ok_appendZ {c : Call} {x y : Operand} {st xt d : TypeId} {n by_ : Nat} {z : List Value} (ho : o.op = .call c) (hc : c.callee = .builtin .append) (ha : c.args.toList = [x, y]) (ht : c.argTypes.toList = [st, xt]) (hu : P.underlying st = some (.slice d))
    (hxt : ∃ q, P.underlying xt = some (.int q)) (hn : szOf P d = some n) (hb : byOf P d = some by_) (hz : zeroOf P d = some z) (hzn : z.length = n) (h0 : 0 < n)
    (hx : okOpd x = true) (hy : okOpd y = true) (hr : (AOp.appendZ n by_ z x y).run e σ = some (v, σ')) (he : EnvR μ N e a.tmps) (hR : R B μ σ w) : Done P o a w B μ v σ' := by
  have hvy := he.ev hy
  obtain ⟨zz, z1, z2, z3⟩ := zeroOf_some hz
  simp only [AOp.run] at hr
  split at hr
  · rename_i p sl sc k l hp hq
    split at hr
    · rename_i hcond
      rw [hq] at hvy
      have v1 := hvy.int_inv
      refine ok_app_core (d := d) (arr := (times z l.toNat).toArray) hzn (by simpa using VR.plainCells (times_plain z3 _)) (by simp [times_length, hzn]) hp hx hr he hR fun hq' => ?_
      exact appendZ_head ho hc ha ht hu hxt hn hb hz hzn h0 hq' v1 hcond.1 hcond.2.1 hcond.2.2
    · cases hr
  · cases hr
end
end Go.Ab
