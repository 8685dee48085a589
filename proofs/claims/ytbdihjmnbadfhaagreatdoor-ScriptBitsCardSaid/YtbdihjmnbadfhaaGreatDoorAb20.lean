/- The abstract machine: from a call with what came in to an abstract run. -/
import Derived.Test.YtbdihjmnbadfhaaGreatDoorAb19
import Derived.Below
namespace Go.Ab
open Go.RowKit (Below)

/-- What lies behind an argument: where, how far it reaches, how wide its elements are, what it holds. -/
structure Row where
  c : Nat
  o : Nat
  ext : Nat
  es : Nat
  cells : List Value

/-- The tables that the library's code asks are laid. -/
def Tabs (P : Program) (w : World) : Prop := P.globalNamed "internal/strconv.uint64pow10" ≠ none → Lib.TabIs P w "internal/strconv.uint64pow10" .u64 Lib.pow10Tab
def Base.of {P : Program} (w : World) (hT : Tabs P w) : Base P := ⟨w.heap.size, fun b => w.heap[b]?, fun w' _ hh hne => by
  have h := hT hne
  unfold Lib.TabIs World.var? at h ⊢
  cases hg : P.globalNamed "internal/strconv.uint64pow10" with
  | none => exact (hne hg).elim
  | some g =>
    simp only [hg, Option.bind_some] at h ⊢
    have hlt : g < w.heap.size := by
      rcases Nat.lt_or_ge g w.heap.size with h' | h'
      · exact h'
      · rw [Array.getElem?_eq_none h'] at h
        cases h
    rw [hh g hlt]
    exact h⟩
def rowsMu (rows : List Row) : Mu := fun i => (rows[i]?).map fun r => ⟨r.c, r.o, r.ext, r.es, 0, none⟩
def rowsHp (size : Nat) (rows : List Row) : Hp := { m := fun i => (rows[i]?).bind fun r => if r.c < size then some ⟨r.cells, false, r.es⟩ else none, n := rows.length }
theorem rows_R {P : Program} {w : World} (hT : Tabs P w) {rows : List Row} (h : ∀ r ∈ rows, ∀ (i : Nat) (v : Value), r.cells[i]? = some v → ∃ v', w.cell? ⟨r.c, r.o + i, none⟩ = some v' ∧ VR (rowsMu rows) v v') :
    R (Base.of w hT) (rowsMu rows) (rowsHp w.heap.size rows) w := by
  refine ⟨Nat.le_refl _, fun _ _ => rfl, fun b hb => ?_, fun b x hx => ?_, fun b b' x x' g g' hx _ _ ho => ?_, fun b x g _ hg hi _ _ => (by
    simp only [rowsMu] at hg
    cases hr : rows[b]? with
    | none => rw [hr] at hg; cases hg
    | some r => rw [hr] at hg; injection hg with hg; subst hg; cases hi)⟩
  · simp only [rowsMu, List.getElem?_eq_none hb, Option.map_none]
  · simp only [rowsHp] at hx
    cases hr : rows[b]? with
    | none => rw [hr] at hx; cases hx
    | some r =>
      rw [hr, Option.bind_some] at hx
      split at hx
      · rename_i hlt
        injection hx with hx
        subst hx
        refine ⟨⟨r.c, r.o, r.ext, r.es, 0, none⟩, by simp only [rowsMu, hr, Option.map_some], hlt, rfl, fun _ i v hv => h r (List.mem_of_getElem? hr) i v hv, fun _ ho => (by cases ho), fun _ hs => (by cases hs), fun hs => by cases hs⟩
      · cases hx
  · simp only [rowsHp] at hx
    cases hr : rows[b]? with
    | none => rw [hr] at hx; cases hx
    | some r =>
      rw [hr, Option.bind_some] at hx
      split at hx
      · injection hx with hx
        subst hx
        cases ho
      · cases hx
theorem rows_Ok {size : Nat} {rows : List Row} : (rowsHp size rows).Ok := by
  intro b x hx
  rcases Nat.lt_or_ge b rows.length with h | h
  · exact h
  · simp only [rowsHp, List.getElem?_eq_none h, Option.bind_none] at hx
    cases hx

/-- The call of a law. -/
theorem law_of {P : Program} {f : FuncId} {S : Spec} (hs : Sim P f S) {w : World} (hT : Tabs P w) {rows : List Row} {args : List Value} {cargs : Array Value}
    (hrows : ∀ r ∈ rows, ∀ (i : Nat) (v : Value), r.cells[i]? = some v → ∃ v', w.cell? ⟨r.c, r.o + i, none⟩ = some v' ∧ VR (rowsMu rows) v v')
    (hargs : F2 (VR (rowsMu rows)) args cargs.toList) (h : S args (rowsHp w.heap.size rows) fun r _ => r = .bool true) :
    Calls P f cargs w fun e w' => e = .returned (.bool true) ∧ Below w.heap.size w w' := by
  refine (hs _ _ _ w args cargs _ h (rows_R hT hrows) hargs).2.mono fun x w' hx => ?_
  obtain ⟨r, σ', r', μ', rfl, rfl, _, _, hr, hb, _⟩ := hx
  cases hr
  exact ⟨rfl, hb⟩

/-- A slice of numbers that came in. -/
def Sl (k : IntKind) (σ : Hp) (v : Value) (l : List Int) : Prop :=
  (v = .slice none 0 0 ∧ l = []) ∨ ∃ b c rest, v = .slice (some ⟨b, 0, none⟩) l.length c ∧ l.length ≤ c ∧ c ≤ maxLen ∧ b < σ.n ∧ (l ≠ [] → σ.m b = some ⟨(l ++ rest).map (.int k), false, 1⟩)

/-- A slice of numbers that came in, as the world has it. -/
def IsRow (k : IntKind) (w : World) (a : Option Addr) (len cap : Nat) (zs : List Int) : Prop :=
  (a = none ∧ len = 0 ∧ cap = 0 ∧ zs = []) ∨
  ∃ x, a = some x ∧ len ≤ cap ∧ cap ≤ maxLen ∧ zs.length = cap ∧ (∀ i, i < zs.length → w.cell? (x.add i) = some (.int k (zs.getD i 0))) ∧ ∀ n ∈ zs, (Lit.int k n).wf = true
def rowOf (k : IntKind) (a : Option Addr) (cap : Nat) (zs : List Int) : Row := match a with
  | some x => ⟨x.block, x.off, cap, 1, zs.map (.int k)⟩
  | none => ⟨0, 0, 0, 1, []⟩
def rowArg (k : Nat) (a : Option Addr) (len cap : Nat) : Value := match a with
  | some _ => .slice (some ⟨k, 0, none⟩) len cap
  | none => .slice none 0 0
section
variable {k : IntKind} {w : World} {a : Option Addr} {len cap : Nat} {zs : List Int} {rows : List Row} {j : Nat}
theorem cell_lt {x : Addr} {v : Value} (h : w.cell? x = some v) : x.block < w.heap.size := by
  unfold World.cell? at h
  split at h
  · rename_i hb; exact (Array.getElem?_eq_some_iff.1 hb).1
  · cases h
theorem spot_none {x : Addr} {v : Value} (h : w.cell? (x.add 0) = some v) : x.spot = none := by
  have := World.cell?_spot h
  simpa [Addr.add] using this
theorem cell_plain {x : Addr} {i : Nat} {v : Value} (hs : x.spot = none) (h : w.cell? (x.add i) = some v) : w.cell? ⟨x.block, x.off + i, none⟩ = some v := by
  obtain ⟨b, o, s⟩ := x
  simp only at hs
  subst hs
  have : (⟨b, o, none⟩ : Addr).add i = ⟨b, o + i, none⟩ := by
    simp only [Addr.add]
    split
    · rename_i h0; subst h0; rfl
    · rfl
  rwa [this] at h
theorem IsRow.cells (h : IsRow k w a len cap zs) {i : Nat} {v : Value} (hv : (rowOf k a cap zs).cells[i]? = some v) :
    ∃ v', w.cell? ⟨(rowOf k a cap zs).c, (rowOf k a cap zs).o + i, none⟩ = some v' ∧ VR (rowsMu rows) v v' := by
  rcases h with ⟨rfl, rfl, rfl, rfl⟩ | ⟨x, rfl, hl, hm, hz, hc, hw⟩
  · simp [rowOf] at hv
  · simp only [rowOf] at hv ⊢
    simp only [List.getElem?_map] at hv
    have hi : i < zs.length := by
      rcases Nat.lt_or_ge i zs.length with h | h
      · exact h
      · rw [List.getElem?_eq_none h] at hv; cases hv
    rw [List.getElem?_eq_getElem hi, Option.map_some] at hv
    injection hv with hv
    subst hv
    refine ⟨_, cell_plain (spot_none (hc 0 (by omega))) (hc i hi), ?_⟩
    have : zs.getD i 0 = zs[i] := by simp [List.getD, List.getElem?_eq_getElem hi]
    rw [this]
    exact .int _ _
theorem IsRow.arg (h : IsRow k w a len cap zs) (hr : rows[j]? = some (rowOf k a cap zs)) : VR (rowsMu rows) (rowArg j a len cap) (.slice a len cap) := by
  rcases h with ⟨rfl, rfl, rfl, rfl⟩ | ⟨x, rfl, hl, hm, hz, hc, hw⟩
  · exact .nils
  · have hmu : (rowsMu rows).at j ⟨x.block, x.off, cap, 1, 0, none⟩ := ⟨by simp only [rowsMu, hr, Option.map_some, rowOf], rfl⟩
    by_cases h0 : cap = 0
    · have : len = 0 := by omega
      subst h0; subst this
      exact .slice0 _ hmu
    · have hs := spot_none (hc 0 (by omega))
      obtain ⟨b, o, s⟩ := x
      simp only at hs
      subst hs
      exact .slice (o := 0) hmu hl (Nat.le_refl _) (by simp)
theorem IsRow.sl (h : IsRow k w a len cap zs) (hr : rows[j]? = some (rowOf k a cap zs)) : Sl k (rowsHp w.heap.size rows) (rowArg j a len cap) (zs.take len) := by
  rcases h with ⟨rfl, rfl, rfl, rfl⟩ | ⟨x, rfl, hl, hm, hz, hc, hw⟩
  · exact .inl ⟨rfl, by simp⟩
  · have hlen : (zs.take len).length = len := by rw [List.length_take]; omega
    refine .inr ⟨j, cap, zs.drop len, by rw [hlen]; rfl, by omega, hm, ?_, fun hne => ?_⟩
    · rcases Nat.lt_or_ge j rows.length with h | h
      · exact h
      · rw [List.getElem?_eq_none h] at hr; cases hr
    · have hz0 : 0 < zs.length := by
        rcases Nat.eq_zero_or_pos zs.length with h | h
        · rw [List.length_eq_zero_iff] at h
          subst h
          simp at hne
        · exact h
      have hlt : x.block < w.heap.size := cell_lt (x := ⟨x.block, x.off + 0, none⟩) (cell_plain (spot_none (hc 0 hz0)) (hc 0 hz0))
      simp only [rowsHp, hr, Option.bind_some, rowOf, if_pos hlt, List.take_append_drop]
theorem IsRow.wf (h : IsRow k w a len cap zs) : ∀ n ∈ zs.take len, (Lit.int k n).wf = true := by
  rcases h with ⟨rfl, rfl, rfl, rfl⟩ | ⟨x, rfl, hl, hm, hz, hc, hw⟩
  · simp
  · exact fun n hn => hw n (List.mem_of_mem_take hn)
end
theorem wf_i64 {n : Int} (h : (Lit.int .i64 n).wf = true) : -9223372036854775808 ≤ n ∧ n ≤ 9223372036854775807 := by
  simpa [Lit.wf, IntKind.min, IntKind.max, IntKind.signed, IntKind.bits] using h
theorem wf_u64 {n : Int} (h : (Lit.int .u64 n).wf = true) : 0 ≤ n ∧ n ≤ 18446744073709551615 := by
  simpa [Lit.wf, IntKind.min, IntKind.max, IntKind.signed, IntKind.bits] using h
theorem wf_u8 {n : Int} (h : (Lit.int .u8 n).wf = true) : 0 ≤ n ∧ n ≤ 255 := by
  simpa [Lit.wf, IntKind.min, IntKind.max, IntKind.signed, IntKind.bits] using h
end Go.Ab
