/- Functions of Go's library that are known by their contracts. -/
import Derived.Test.YtnadgednadlcdaaDoorV25
import Derived.Lib.Join
import Derived.Lib.Repeat
import Derived.Lib.ItoaNum
namespace Go.V
set_option linter.unusedVariables false
set_option linter.unusedSimpArgs false
open Go.Ab
/-- A function of a number that answers a number, and leaves the memory as it was. -/
theorem prim_int {P : Program} {f : FuncId} {ka kr : IntKind} {g : Int → Option Int} (hc : CallOk P f)
    (e1 : ∀ t : Tup (SSk.shs ⟨[.leaf (.int ka)], [], []⟩), encSt id ⟨[.leaf (.int ka)], [], []⟩ (toL _ t) = some ([.int ka t], [], []))
    (e2 : ∀ (f : Nat → Nat) (o : Tup (SSk.shs ⟨[.leaf (.int kr)], [], []⟩)), encSt f ⟨[.leaf (.int kr)], [], []⟩ (toL _ o) = some ([.int kr o], [], []))
    (h : ∀ (B : Ab.Base P) (w : World) (x y : Int), g x = some y → B.n ≤ w.heap.size → (∀ b, b < B.n → w.heap[b]? = B.h b) → Calls P f #[.int ka x] w fun e w' => e = .returned (.int kr y) ∧ w' = w) :
    Right P ⟨f, [.leaf (.int ka)], [], [⟨.ret, [], ⟨[.leaf (.int kr)], [], []⟩⟩], g⟩ := by
  intro B μ σ w args cargs K hs hR0 ha
  obtain ⟨c, vals', st, t, o, p, v, fs, bs, S', h1, hR, hf, hd, hl, hcut, hok, hrun, hp, henc, hS, hK⟩ := hs
  subst h1
  have htl : toL (SSk.shs ⟨[.leaf (.int ka)], [], []⟩) t = st.ls := ofL_toL hl
  have hen : encSt id ⟨[.leaf (.int ka)], [], []⟩ (toL (SSk.shs ⟨[.leaf (.int ka)], [], []⟩) t) = some ([.int ka t], [], []) := e1 t
  rw [htl] at hen
  obtain ⟨_, hfv⟩ := enter hR rfl hd hen hf
  cases hfv with
  | cons a1 a2 =>
    cases a2
    cases a1
    have hcar : cargs = #[.int ka t] := by
      generalize hl' : cargs.toList = l at ha
      cases ha with
      | cons b1 b2 =>
        cases b2
        cases b1
        exact Array.toList_inj.1 hl'
    subst hcar
    refine ⟨hc, (h B w t o hrun hR0.base hR0.old).mono ?_⟩
    rintro x w' ⟨rfl, rfl⟩
    injection hp with hp
    subst hp
    rw [e2] at henc
    injection henc with henc
    injection henc with e3 e4
    injection e4 with e4 e5
    subst e4
    subst e5
    injection e3 with e3
    subst e3
    injection hS with hS
    subst hS
    exact ⟨.int kr o, c.σ, .int kr o, μ, rfl, hK _ _ ⟨c, rfl, by simp [alAll, alL, alV], Le.refl c, hR, .int _ _, Calm.refl _ c⟩, μ.le_refl, hR0, .int _ _, Go.RowKit.Below.refl _ _, rfl⟩
/-- What lay there lies there still. -/
theorem R_below {P : Program} {B : Ab.Base P} {μ : Mu} {σ : Hp} {w w' : World} (h : R B μ σ w) (hb : Go.RowKit.Below w.heap.size w w') : R B μ σ w' :=
  ⟨Nat.le_trans h.base hb.size, fun b hlt => (hb.block b (Nat.lt_of_lt_of_le hlt h.base)).trans (h.old b hlt), h.fresh, fun b x hx => let ⟨g, h1, h2⟩ := h.live b x hx; ⟨g, h1, h2.kept hb.size (hb.block _ h2.lt)⟩, h.inj⟩
/-- A function that answers one thing, and leaves what lay there as it was. -/
theorem prim_below {P : Program} {f : FuncId} {vals : List Sk} {s : Sh} {g : Tup (SSk.shs ⟨vals, [], []⟩) → Option (Tup (SSk.shs ⟨[.leaf s], [], []⟩))} (vsOf : Tup (SSk.shs ⟨vals, [], []⟩) → List VV) (toV : Tup (SSk.shs ⟨[.leaf s], [], []⟩) → VV) (hc : CallOk P f)
    (e1 : ∀ t : Tup (SSk.shs ⟨vals, [], []⟩), encSt id ⟨vals, [], []⟩ (toL _ t) = some (vsOf t, [], []))
    (e2 : ∀ (f : Nat → Nat) (o : Tup (SSk.shs ⟨[.leaf s], [], []⟩)), encSt f ⟨[.leaf s], [], []⟩ (toL _ o) = some ([toV o], [], []))
    (hal : ∀ o, alAll [toV o] [] [] = false)
    (h : ∀ (B : Ab.Base P) (μ : Mu) (w : World) (c : Ctx) (t : Tup (SSk.shs ⟨vals, [], []⟩)) (y : Tup (SSk.shs ⟨[.leaf s], [], []⟩)) (args : List Value) (cargs : Array Value), g t = some y → R B μ c.σ w → F2 (VRel c) (vsOf t) args → F2 (VR μ) args cargs.toList →
      Calls P f cargs w fun e w' => ∃ r, e = .returned r ∧ (∀ c, VRel c (toV y) r) ∧ (∀ μ, VR μ r r) ∧ Go.RowKit.Below w.heap.size w w') :
    Right P ⟨f, vals, [], [⟨.ret, [], ⟨[.leaf s], [], []⟩⟩], g⟩ := by
  intro B μ σ w args cargs K hs hR0 ha
  obtain ⟨c, vals', st, t, o, p, v, fs, bs, S', h1, hR, hf, hd, hl, hcut, hok, hrun, hp, henc, hS, hK⟩ := hs
  subst h1
  have htl : toL (SSk.shs ⟨vals, [], []⟩) t = st.ls := ofL_toL hl
  have hen := e1 t
  rw [htl] at hen
  obtain ⟨_, hfv⟩ := enter hR rfl hd hen hf
  refine ⟨hc, (h B μ w (enterCtx c st []) t o args cargs hrun hR0 hfv ha).mono ?_⟩
  rintro x w' ⟨r, rfl, hv, hvr, hb⟩
  injection hp with hp
  subst hp
  rw [e2] at henc
  injection henc with henc
  injection henc with e3 e4
  injection e4 with e4 e5
  subst e4
  subst e5
  injection e3 with e3
  subst e3
  have hcal := hal o
  rw [hcal] at hS
  injection hS with hS
  subst hS
  exact ⟨r, c.σ, r, μ, rfl, hK _ _ ⟨c, rfl, by simp, Le.refl c, hR, hv _, Calm.refl _ c⟩, μ.le_refl, R_below hR0 hb, hvr _, hb.mono hR0.base, rfl⟩
/-- How many decimal digits a number has. -/
def nDigP (u : Int) : Option Int := if 1 ≤ u ∧ u ≤ 18446744073709551615 then some ((Lib.nDigits u.toNat : Nat) : Int) else none
/-- Texts, put together. -/
def joinI : List (List Int) → List Int → List Int
  | [], _ => []
  | [x], _ => x
  | x :: y :: r, s => x ++ (s ++ joinI (y :: r) s)
def joinP (l : List (List Int)) (s : List Int) : Option (List Int) := gd (decide (((joinI l s).length : Int) ≤ 140737488355328) && decide ((l.length : Int) ≤ 140737488355328)) (some (joinI l s))
theorem joinI_cons2 (x y : List Int) (r : List (List Int)) (s : List Int) : joinI (x :: y :: r) s = x ++ (s ++ joinI (y :: r) s) := rfl
def u8I (l : List UInt8) : List Int := l.map fun b => (b.toNat : Int)
theorem u8I_app (a b : List UInt8) : u8I (a ++ b) = u8I a ++ u8I b := List.map_append
theorem bytesI_mk (l : List UInt8) : bytesI ⟨l.toArray⟩ = u8I l := by unfold bytesI u8I; simp
theorem join_bytes (sep : ByteArray) : ∀ xs : List ByteArray, bytesI ⟨(Lib.join (xs.map (·.data.toList)) sep.data.toList).toArray⟩ = joinI (xs.map bytesI) (bytesI sep)
  | [] => rfl
  | [x] => by rw [bytesI_mk, List.map_cons, List.map_nil, Lib.join_one]; rfl
  | x :: y :: r => by
    have ih := join_bytes sep (y :: r)
    rw [bytesI_mk] at ih ⊢
    have e : joinI ((x :: y :: r).map bytesI) (bytesI sep) = bytesI x ++ (bytesI sep ++ joinI ((y :: r).map bytesI) (bytesI sep)) := rfl
    rw [e, ← ih]
    simp only [List.map_cons]
    rw [Lib.join_cons, Lib.join_cons]
    unfold Lib.joinTail
    rw [List.map_cons, List.flatten_cons, u8I_app, u8I_app, u8I_app, u8I_app, List.append_assoc]
    rfl
/-- A list of texts that is handed in. -/
theorem arg_strs {P : Program} {B : Ab.Base P} {μ : Mu} {c : Ctx} {w : World} {l : List (List Int)} {a a' : Value} (hR : R B μ c.σ w) (h : VRel c (.lst .str l) a) (k : VR μ a a') :
    ∃ (q : Option Addr) (cp : Nat) (xs : List ByteArray), a' = .slice q xs.length cp ∧ xs.length ≤ cp ∧ xs.map bytesI = l ∧ (l ≠ [] → ∃ bk o, q = some ⟨bk, o, none⟩ ∧ bk < w.heap.size ∧ ∀ (j : Nat) (x : ByteArray), xs[j]? = some x → w.cell? ⟨bk, o + j, none⟩ = some (.string x)) := by
  cases h with
  | lstn hq =>
    cases k with
    | nils => exact ⟨none, 0, [], rfl, Nat.le_refl _, rfl, fun h => absurd rfl h⟩
    | slice h1 h2 h3 h4 => exact ⟨_, _, [], rfl, Nat.zero_le _, rfl, fun h => absurd rfl h⟩
    | slice0 A' h1 => exact ⟨_, _, [], rfl, Nat.le_refl _, rfl, fun h => absurd rfl h⟩
    | sliceX h1 h2 => exact ⟨_, _, [], rfl, Nat.zero_le _, rfl, fun h => absurd rfl h⟩
    | sliceX0 A' h1 => exact ⟨_, _, [], rfl, Nat.le_refl _, rfl, fun h => absurd rfl h⟩
  | @lst s l b p n cp y hm hy hes hn hcp hlen hv =>
    have hw : Sh.w .str = 1 := rfl
    rw [hw, Nat.mul_one] at hlen hv
    -- the texts
    have key : ∀ (l : List (List Int)) (vs : List Value), F2 (VRel c) (flatL .str l) vs → ∃ xs : List ByteArray, vs = xs.map Value.string ∧ xs.map bytesI = l := by
      intro l
      induction l with
      | nil => intro vs h; cases h; exact ⟨[], rfl, rfl⟩
      | cons x l ih =>
        intro vs h
        have h : F2 (VRel c) (.str x :: flatL .str l) vs := h
        cases h with
        | cons h1 h2 =>
          cases h1 with
          | str e =>
            obtain ⟨xs, e1, e2⟩ := ih _ h2
            exact ⟨_ :: xs, by rw [e1]; rfl, by rw [List.map_cons, e2, e]⟩
    obtain ⟨xs, e1, e2⟩ := key l _ hv
    have hxl : xs.length = n := by
      have := congrArg List.length e2
      rw [List.length_map] at this
      omega
    cases k with
    | @slice b o l' cc c' g hg h2 h3 h4 =>
      refine ⟨_, c', xs, by rw [hxl], by omega, e2, fun _ => ⟨g.c, g.o + p, rfl, (hR.get hy hg.1).lt, fun j x hx => ?_⟩⟩
      have hj : j < xs.length := by
        rcases Nat.lt_or_ge j xs.length with h | h
        · exact h
        · rw [List.getElem?_eq_none h] at hx; cases hx
      have hcell : y.cells[p + j]? = some (.string x) := by
        have this : ((y.cells.drop p).take n)[j]? = (xs.map Value.string)[j]? := by rw [e1]
        rw [List.getElem?_take, if_pos (by omega), List.getElem?_drop, List.getElem?_map, hx] at this
        exact this
      obtain ⟨v', h5, h6⟩ := (hR.get hy hg.1).cell hg.2 (p + j) _ hcell
      cases h6
      rw [Nat.add_assoc]
      exact h5
    | slice0 A' h1 =>
      have : xs = [] := List.length_eq_zero_iff.1 hxl
      subst this
      exact ⟨_, _, [], rfl, Nat.le_refl _, e2, fun h => absurd e2.symm h⟩
theorem prim_test {P : Program} {f : FuncId} {g : Int → Option Int} (hc : CallOk P f)
    (h : ∀ (B : Ab.Base P) (w : World) (x y : Int), g x = some y → B.n ≤ w.heap.size → (∀ b, b < B.n → w.heap[b]? = B.h b) → Calls P f #[.int .u64 x] w fun e w' => e = .returned (.int .i64 y) ∧ w' = w) :
    Right P ⟨f, [.leaf (.int .u64)], [], [⟨.ret, [], ⟨[.leaf (.int .i64)], [], []⟩⟩], g⟩ := prim_int hc (fun _ => rfl) (fun _ _ => rfl) h
end Go.V
