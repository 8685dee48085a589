/- The abstract machine: slices that grow, are copied, are cut, are made: what each comes to. -/
import Derived.Test.YtbdihjmnbadfhaaGreatDoorAb18
namespace Go.Ab
def e0 : Env := fun _ => undef
def appendV (σ : Hp) (es bytes : Nat) (s x : Value) : Option (Value × Hp) := (AOp.append es bytes (.const s) (.const x)).run e0 σ
def copyV (σ : Hp) (es : Nat) (d s : Value) : Option (Value × Hp) := (AOp.copy es (.const d) (.const s)).run e0 σ
def makeV (σ : Hp) (es bytes : Nat) (z : List Value) (l c : Value) : Option (Value × Hp) := (AOp.makeSlice es bytes z (.const l) (.const c)).run e0 σ
section
variable {T : Specs} {e : Env} {σ : Hp} {k : Value → Hp → Prop}
theorem r_append {es bytes : Nat} {s x : Operand} : runOp T (.append es bytes s x) e σ k = bothK (appendV σ es bytes (e.ev s) (e.ev x)) k := rfl
theorem r_copy {es : Nat} {d s : Operand} : runOp T (.copy es d s) e σ k = bothK (copyV σ es (e.ev d) (e.ev s)) k := rfl
theorem r_make {es bytes : Nat} {z : List Value} {l c : Operand} : runOp T (.makeSlice es bytes z l c) e σ k = bothK (makeV σ es bytes z (e.ev l) (e.ev c)) k := rfl

/-- A full slice that grows: another block holds it from then on. -/
theorem append_grow {es bytes b n m : Nat} {cells new : List Value} {x : Value} (hb : σ.m b = some ⟨cells, true, es⟩) (hc : cells.length = n * es) (hm : lenV x = some m) (hx : σ.slice es x m = some new)
    (h0 : 0 < m) (hn : (n + m) * bytes ≤ 140737488355328) (hn' : n + m ≤ 9223372036854775807) (h1 : new.all one = true) :
    appendV σ es bytes (.slice (some ⟨b, 0, none⟩) n n) x = some (.slice (some ⟨σ.n, 0, none⟩) (n + m) (n + m), (σ.set b none).add ⟨cells ++ new, true, es⟩) := by
  have h2 : ¬n + m ≤ n := by omega
  have h3 : readN ⟨cells, true, es⟩ 0 (n * es) = some cells := by
    simp only [readN, Nat.zero_add, hc, Nat.le_refl, if_true, List.drop_zero]
    rw [List.take_of_length_le (by omega)]
  simp only [appendV, AOp.run, ev_const, hm, hx]
  unfold appRun
  simp only [if_neg h2, hn, hn', h1, and_self, if_true, hb, h3]
/-- One element more. -/
theorem append_one {bytes b b' n : Nat} {cells : List Value} {v : Value} {z : Bool} (hb : σ.m b = some ⟨cells, true, 1⟩) (hc : cells.length = n) (hb' : σ.m b' = some ⟨[v], z, 1⟩)
    (hn : (n + 1) * bytes ≤ 140737488355328) (hn' : n + 1 ≤ 9223372036854775807) (h1 : one v = true) :
    appendV σ 1 bytes (.slice (some ⟨b, 0, none⟩) n n) (.slice (some ⟨b', 0, none⟩) 1 1) = some (.slice (some ⟨σ.n, 0, none⟩) (n + 1) (n + 1), (σ.set b none).add ⟨cells ++ [v], true, 1⟩) := by
  refine append_grow hb (by omega) rfl ?_ (by omega) hn hn' (by simp only [List.all_cons, List.all_nil, h1, Bool.and_true])
  simp only [Hp.slice, hb']
  rfl
end
theorem most_int {k k' : IntKind} {x y : Int} : toMost (.int k x) (.int k' y) = some (.int k (max x y)) := by
  simp only [toMost, Option.some.injEq, Value.int.injEq, true_and]
  split <;> omega
theorem least_int {k k' : IntKind} {x y : Int} : toLeast (.int k x) (.int k' y) = some (.int k (min x y)) := by
  simp only [toLeast, Option.some.injEq, Value.int.injEq, true_and]
  split <;> omega
/-- The number that a value is. -/
def ival : Value → Int
  | .int _ n => n
  | _ => 0
theorem ival_int {k : IntKind} {n : Int} : ival (.int k n) = n := rfl
theorem times_0 {z : List Value} : times z 0 = [] := rfl
theorem times_1 {z : Value} : times [z] 1 = [z] := rfl
theorem times_2 {z : Value} : times [z] 2 = [z, z] := rfl
theorem times_3 {z : Value} : times [z] 3 = [z, z, z] := rfl
theorem times_4 {z : Value} : times [z] 4 = [z, z, z, z] := rfl
theorem times_5 {z : Value} : times [z] 5 = [z, z, z, z, z] := rfl
theorem times_6 {z : Value} : times [z] 6 = [z, z, z, z, z, z] := rfl
/-- The usual thing: a list that grows by a value boxed just now. -/
theorem append_box {σ : Hp} {es bytes b n : Nat} {cells vs : List Value} (hb : σ.m b = some ⟨cells, true, es⟩) (hlt : b < σ.n) (hc : cells.length = n * es) (hv : vs.length = es)
    (hn : (n + 1) * bytes ≤ 140737488355328) (hn' : n + 1 ≤ 9223372036854775807) (h1 : vs.all one = true) :
    appendV (σ.add ⟨vs, true, es⟩) es bytes (.slice (some ⟨b, 0, none⟩) n n) (.slice (some ⟨σ.n, 0, none⟩) 1 1) = some (.slice (some ⟨σ.n + 1, 0, none⟩) (n + 1) (n + 1), ((σ.add ⟨vs, true, es⟩).set b none).add ⟨cells ++ vs, true, es⟩) := by
  refine append_grow ((add_old hlt).trans hb) hc rfl ?_ (by omega) hn hn' h1
  rw [slice_at add_at (by decide), Nat.one_mul, readN_eq (by simp only [Nat.zero_add, hv, Nat.le_refl])]
  simp only [List.drop_zero, ← hv, List.take_length]
section
variable {σ : Hp} {x : Blk} {i b : Nat} {z : Option Blk}
theorem set_top {z : Blk} (h : b = σ.n) : (σ.add x).set b (some z) = σ.add z := by subst h; exact set_add_top
theorem set_add' (h : b < σ.n) : (σ.add x).set b z = (σ.set b z).add x := set_add h
theorem ma_at (h : i = σ.n) : (σ.add x).m i = some x := if_pos h
theorem ma_old (h : i < σ.n) : (σ.add x).m i = σ.m i := if_neg (by omega)
theorem ms_at (h : i = b) : (σ.set b z).m i = z := if_pos h
theorem ms_ne (h : i ≠ b) : (σ.set b z).m i = σ.m i := if_neg h
end
def ints (l : List Int) : List Value := l.map (.int .i64)
theorem ints_len {l : List Int} : (ints l).length = l.length := List.length_map _
theorem ints_get {l : List Int} {i : Nat} (h : i < l.length) : (ints l)[i]? = some (.int .i64 l[i]) := by simp only [ints, List.getElem?_map, List.getElem?_eq_getElem h, Option.map_some]
theorem ints_app {l m : List Int} : ints (l ++ m) = ints l ++ ints m := List.map_append
theorem ints_take {l : List Int} {i : Nat} (h : i < l.length) : ints (l.take (i + 1)) = ints (l.take i) ++ [.int .i64 l[i]] := by
  rw [List.take_succ_eq_append_getElem h, ints_app]; rfl
theorem ints_len_take {l : List Int} {i : Nat} (h : i ≤ l.length) : (ints (l.take i)).length = i := by rw [ints_len, List.length_take]; omega
theorem F2.ints {ν : Nat → Nat} {n : Nat} (l : List Int) : F2 (Rn ν n) (ints l) (ints l) := F2.same _ fun u hu => by
  obtain ⟨z, _, rfl⟩ := List.mem_map.1 hu
  exact .int _ _
theorem Rn.slice' {ν : Nat → Nat} {n b b' o l c : Nat} (hb : b < n) (h : ν b = b') : Rn ν n (.slice (some ⟨b, o, none⟩) l c) (.slice (some ⟨b', o, none⟩) l c) := by subst h; exact .slice hb
theorem Rn.ptr' {ν : Nat → Nat} {n b b' o : Nat} (hb : b < n) (h : ν b = b') : Rn ν n (.pointer (some ⟨b, o, none⟩)) (.pointer (some ⟨b', o, none⟩)) := by subst h; exact .ptr hb
theorem wrap_succ {i : Nat} (h : i < 9223372036854775807) : IntKind.i64.wrap ((i : Int) + 1) = ((i + 1 : Nat) : Int) := by rw [IntWalk.i64_in _ (by omega)]; rfl
end Go.Ab
