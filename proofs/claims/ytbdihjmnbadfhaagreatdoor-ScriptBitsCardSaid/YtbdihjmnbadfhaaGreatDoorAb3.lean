/- From the program's operations to those of the abstract machine; each does what the abstract one says. -/
import Derived.Test.YtbdihjmnbadfhaaGreatDoorAb2
namespace Go.Ab
open Go.RowKit

def okOpd : Operand → Bool
  | .const v => plainV v
  | .global _ => false
  | _ => true
def opd (x : Operand) : Option Operand := if okOpd x then some x else none
def opdO : Option Operand → Option (Option Operand)
  | some x => (opd x).map some
  | none => some none

def szOf (P : Program) (t : TypeId) : Option Nat := (P.info? t).map (·.size)
def byOf (P : Program) (t : TypeId) : Option Nat := (P.info? t).map (·.bytes)
def plainCell : Value → Bool
  | .bool _ | .int _ _ | .string _ | .pointer none | .slice none 0 0 | .nilFunc | .nilIface => true
  | _ => false
def zeroOf (P : Program) (t : TypeId) : Option (List Value) := match (P.info? t).bind (·.zero) with
  | some z => if (cellsOf z).all plainCell then some (cellsOf z) else none
  | none => none
def aggOf (P : Program) (t : TypeId) : Option Bool := match P.underlying t with
  | some (.struct _) | some (.array _ _) => some true
  | some _ => some false
  | none => none
def esOf (P : Program) (t : TypeId) : Option Nat := match P.underlying t with
  | some (.array _ e) => szOf P e
  | _ => some 1

def EnvR (μ : Mu) (N : Nat) (e : Env) (tmps : Array Value) : Prop := tmps.size = N ∧ ∀ t, VR μ (e t) (tmps.getD t undef)

theorem EnvR.mono {μ μ' : Mu} {N : Nat} {e : Env} {tmps : Array Value} (h : EnvR μ N e tmps) (hμ : μ.le μ') : EnvR μ' N e tmps := ⟨h.1, fun t => (h.2 t).mono hμ⟩
theorem EnvR.put {μ : Mu} {N : Nat} {e : Env} {tmps : Array Value} (h : EnvR μ N e tmps) (d : Nat) (hd : d < N) {v v' : Value} (hv : VR μ v v') : EnvR μ N (e.put d v) (tmps.setIfInBounds d v') := by
  refine ⟨by simpa using h.1, fun t => ?_⟩
  unfold Env.put
  by_cases ht : t = d
  · subst ht
    simp [h.1, hd]
    exact hv
  · rw [if_neg ht]
    have := h.2 t
    simpa [Array.getElem?_setIfInBounds_ne (fun e => ht e.symm)] using this
theorem EnvR.ev {μ : Mu} {N : Nat} {e : Env} {a : Act} (h : EnvR μ N e a.tmps) {x : Operand} (hx : okOpd x = true) : VR μ (e.ev x) (a.eval x) := by
  cases x with
  | tmp t => exact h.2 t
  | const v => exact VR.plain hx
  | global g => simp [okOpd] at hx
  | func f => exact .func .nil .nil

/-- The operation is carried out, and leaves what the abstract one leaves. -/
def Done (P : Program) (o : Oper) (a : Act) (w : World) (B : Base P) (μ : Mu) (v : Value) (σ' : Hp) : Prop :=
  ∃ nx w' μ' v', (execOp a.eval o).run P w = .ok nx w' ∧ (nx = .value v' ∨ (nx = .skip ∧ v' = undef)) ∧ μ.le μ' ∧ R B μ' σ' w' ∧ VR μ' v v' ∧ Below B w w'

section
variable {P : Program} {o : Oper} {a : Act} {w : World} {B : Base P} {N : Nat} {μ : Mu} {e : Env} {σ σ' : Hp} {v : Value}

theorem Done.same {v' : Value} (hR : R B μ σ w) (hrun : (execOp a.eval o).run P w = .ok (.value v') w) (hv : VR μ v v') : Done P o a w B μ v σ :=
  ⟨_, w, μ, v', hrun, .inl rfl, μ.le_refl, hR, hv, Below.refl _ _⟩

theorem opd_some {x y : Operand} (h : opd x = some y) : x = y ∧ okOpd x = true := by
  unfold opd at h
  split at h
  · rename_i hx; exact ⟨by simpa using h, hx⟩
  · cases h

theorem run_und {t : TypeId} {d : TypeDesc} (h : P.underlying t = some d) (w : World) : (underlying t).run P w = .ok d w := by simp [underlying, h]
theorem run_sz {t : TypeId} {n : Nat} (h : szOf P t = some n) (w : World) : (sizeOf t).run P w = .ok n w := by
  obtain ⟨i, hi, hn⟩ := Option.map_eq_some_iff.1 h
  simp [sizeOf, typeInfo, hi, hn]
theorem run_agg {t : TypeId} {b : Bool} (h : aggOf P t = some b) (w : World) : (isAgg t).run P w = .ok b w := by
  unfold aggOf at h
  unfold isAgg
  cases hu : P.underlying t with
  | none => simp [hu] at h
  | some d =>
    simp only [Sem.run_bind, run_und hu, Result.andThen_ok]
    cases d <;> simp [hu] at h <;> subst h <;> rfl
theorem zeroOf_some {t : TypeId} {z : List Value} (h : zeroOf P t = some z) : ∃ v, (∀ w : World, (zeroValue t).run P w = .ok v w) ∧ cellsOf v = z ∧ z.all plainCell = true := by
  unfold zeroOf at h
  cases hi : P.info? t with
  | none => simp [hi] at h
  | some i =>
    cases hz : i.zero with
    | none => simp [hi, hz] at h
    | some v =>
      simp only [hi, hz, Option.bind_some] at h
      split at h
      · rename_i hp
        injection h with h
        exact ⟨v, fun w => by simp [zeroValue, typeInfo, hi, hz], h, h ▸ hp⟩
      · cases h
theorem VR.plainCells {μ : Mu} {z : List Value} (h : z.all plainCell = true) : F2 (VR μ) z z := F2.same _ fun v hv => VR.plain1 μ v (by
  have := List.all_eq_true.1 h v hv
  unfold plainCell at this
  exact this)
theorem plainCell_one : ∀ {v : Value}, plainCell v = true → one v = true := by
  intro v h
  cases v <;> first | rfl | simp [plainCell] at h

/-! ### Reading and writing cells -/
theorem add_none (b o n : Nat) : (⟨b, o, none⟩ : Addr).add n = ⟨b, o + n, none⟩ := by unfold Addr.add; split <;> simp_all

theorem R.reads {b o : Nat} {x : Blk} {g : G} (hR : R B μ σ w) (hx : σ.m b = some x) (hg : μ.at b g) {n : Nat} {cs : List Value} (h : readN x o n = some cs) :
    ∃ cs', (∀ (P : Program) (w' : World), w'.heap = w.heap → (loadCells ⟨g.c, g.o + o, none⟩ n).run P w' = .ok cs'.toArray w') ∧ F2 (VR μ) cs cs' := by
  unfold readN at h
  split at h
  · rename_i hle
    injection h with h
    subst h
    have hl := hR.get hx hg.1
    have hall : ∀ j, j < n → ∃ v', w.cell? ⟨g.c, g.o + o + j, none⟩ = some v' ∧ VR μ (x.cells.getD (o + j) undef) v' := by
      intro j hj
      obtain ⟨v', h1, h2⟩ := hl.cell hg.2 (o + j) (x.cells[o + j]'(by omega)) (List.getElem?_eq_getElem (by omega))
      refine ⟨v', by rw [Nat.add_assoc]; exact h1, ?_⟩
      simp [List.getD, List.getElem?_eq_getElem (show o + j < x.cells.length by omega)]
      exact h2
    refine ⟨(List.range n).map fun j => (w.cell? ⟨g.c, g.o + o + j, none⟩).getD undef, fun P w' hw' => ?_, ?_⟩
    · have := run_loadCells (P := P) w' ⟨g.c, g.o + o, none⟩ n (fun j => (w.cell? ⟨g.c, g.o + o + j, none⟩).getD undef) (fun j hj => by
        rw [add_none]
        obtain ⟨v', h1, _⟩ := hall j hj
        have : w'.cell? ⟨g.c, g.o + o + j, none⟩ = w.cell? ⟨g.c, g.o + o + j, none⟩ := by simp [World.cell?, hw']
        rw [this]
        simp [h1])
      rw [this]
    · refine F2.of_get _ _ (by simp; omega) fun i u u' hu hu' => ?_
      have hi : i < n := by
        rcases Nat.lt_or_ge i n with h3 | h3
        · exact h3
        · rw [List.getElem?_eq_none (by simp; omega)] at hu; cases hu
      obtain ⟨v', h1, h2⟩ := hall i hi
      have e1 : u' = v' := by
        simp [hi, h1] at hu'
        exact hu'.symm
      have e2 : u = x.cells.getD (o + i) undef := by
        rw [List.getElem?_take, if_pos hi, List.getElem?_drop] at hu
        simp [List.getD, hu]
      rw [e1, e2]
      exact h2
  · cases h

theorem length_setL : ∀ (vs cells : List Value) (o : Nat), (setL cells o vs).length = cells.length
  | [], _, _ => rfl
  | v :: vs, cells, o => by rw [setL, length_setL vs, List.length_set]

/-- Many cells written, one behind the other. -/
theorem R.writes : ∀ (vs vs' : List Value), F2 (VR μ) vs vs' → (∀ v ∈ vs, one v = true) → ∀ (σ : Hp) (w : World) (b o i : Nat) (x : Blk) (g : G), R B μ σ w → σ.m b = some x → x.own = true → μ.at b g → o + i + vs.length ≤ x.cells.length →
    ∃ w', (∀ P : Program, (storeCells ⟨g.c, g.o + o, none⟩ vs' i).run P w = .ok () w') ∧ R B μ (σ.set b (some ⟨setL x.cells (o + i) vs, x.own, x.es⟩)) w' ∧ Below B w w'
  | [], _, h, _, σ, w, b, o, i, x, g, hR, hx, ho, hg, hle => by
    cases h
    refine ⟨w, fun P => by simp [storeCells], ?_, Below.refl _ _⟩
    have : σ.set b (some ⟨setL x.cells (o + i) [], x.own, x.es⟩) = σ := by
      unfold Hp.set
      have : (fun j => if j = b then some (⟨setL x.cells (o + i) [], x.own, x.es⟩ : Blk) else σ.m j) = σ.m := by
        funext j
        split
        · rename_i e; subst e; rw [hx]; rfl
        · rfl
      rw [this]
    rw [this]
    exact hR
  | v :: vs, _, h, h1, σ, w, b, o, i, x, g, hR, hx, ho, hg, hle => by
    cases h with
    | cons hv ht =>
      rename_i v' vs'
      simp only [List.length_cons] at hle
      have hl := hR.get hx hg.1
      obtain ⟨o1, o2, cur, e, fr, o4, o5, o6⟩ := hl.own hg.2 ho
      have hR1 := hR.write1 hx ho hg.1 hg.2 (o + i) (by omega) hv
      have hone : v'.oneCell' = true := by rw [← hv.one_iff]; exact h1 v (by simp)
      obtain ⟨u, hu, _⟩ := hl.cell hg.2 (o + i) (x.cells[o + i]'(by omega)) (List.getElem?_eq_getElem (by omega))
      have hfr : w.frozen? ⟨g.c, g.o + (o + i), none⟩ = false := frozen_out w _ _ _ _ fr o4 (by omega) o6
      have hm : (σ.set b (some ⟨x.cells.set (o + i) v, x.own, x.es⟩)).m b = some ⟨x.cells.set (o + i) v, x.own, x.es⟩ := by simp [Hp.set]
      obtain ⟨w', h2, h3, h4⟩ := R.writes vs vs' ht (fun y hy => h1 y (by simp [hy])) _ _ b o (i + 1) _ g hR1 hm ho hg (by simp; omega)
      refine ⟨w', fun P => ?_, ?_, ?_⟩
      · have ha : (⟨g.c, g.o + o, none⟩ : Addr).add i = ⟨g.c, g.o + (o + i), none⟩ := by rw [add_none, Nat.add_assoc]
        simp only [storeCells, Sem.run_bind, ha, run_store P w _ v' .plain hone, hu, hfr, Bool.false_eq_true, if_false, Result.andThen_ok]
        exact h2 P
      · have hs : (σ.set b (some ⟨x.cells.set (o + i) v, x.own, x.es⟩)).set b (some ⟨setL (x.cells.set (o + i) v) (o + (i + 1)) vs, x.own, x.es⟩) = σ.set b (some ⟨setL x.cells (o + i) (v :: vs), x.own, x.es⟩) := by
          unfold Hp.set
          have : (fun j => if j = b then some (⟨setL (x.cells.set (o + i) v) (o + (i + 1)) vs, x.own, x.es⟩ : Blk) else if j = b then some ⟨x.cells.set (o + i) v, x.own, x.es⟩ else σ.m j) =
              (fun j => if j = b then some (⟨setL x.cells (o + i) (v :: vs), x.own, x.es⟩ : Blk) else σ.m j) := by
            funext j
            split <;> simp [setL, Nat.add_assoc]
          simp only [this]
        rw [hs] at h3
        exact h3
      · exact ((Below.refl B w).setCell o1 v').trans h4
end
end Go.Ab
