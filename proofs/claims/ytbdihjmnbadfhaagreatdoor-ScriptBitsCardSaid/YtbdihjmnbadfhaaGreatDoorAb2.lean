/- The abstract memory and the true one: how they stand to each other. -/
import Derived.Test.YtbdihjmnbadfhaaGreatDoorAb1
import Derived.WalkKit
import Derived.Lib.ItoaMem
import Derived.Lib.FrozenHead
namespace Go.Ab
open Go.RowKit

/-- Where a block lies; it: what an iterator goes through (a text), or that it is a builder of texts (nilFunc). -/
structure G where
  c : Nat
  o : Nat
  ext : Nat
  es : Nat
  ty : Nat
  it : Option Value

abbrev Mu := Nat → Option G
def Mu.le (μ μ' : Mu) : Prop := ∀ b g, μ b = some g → μ' b = some g
theorem Mu.le_refl (μ : Mu) : μ.le μ := fun _ _ h => h
theorem Mu.le_trans {a b c : Mu} (h : a.le b) (k : b.le c) : a.le c := fun x g hx => k x g (h x g hx)
def Mu.add (μ : Mu) (n : Nat) (g : G) : Mu := fun b => if b = n then some g else μ b
theorem Mu.le_add {μ : Mu} {n : Nat} {g : G} (h : μ n = none) : μ.le (μ.add n g) := fun b g' hb => by
  unfold Mu.add
  by_cases e : b = n
  · subst e; rw [h] at hb; cases hb
  · rw [if_neg e]; exact hb

def Mu.at (μ : Mu) (b : Nat) (g : G) : Prop := μ b = some g ∧ g.it = none
theorem Mu.at_le {μ μ' : Mu} (h : μ.le μ') {b : Nat} {g : G} (k : μ.at b g) : μ'.at b g := ⟨h _ _ k.1, k.2⟩

inductive F2 {α β : Type} (r : α → β → Prop) : List α → List β → Prop where
  | nil : F2 r [] []
  | cons {a : α} {b : β} {l : List α} {m : List β} : r a b → F2 r l m → F2 r (a :: l) (b :: m)

inductive VR (μ : Mu) : Value → Value → Prop where
  | bool (b : Bool) : VR μ (.bool b) (.bool b)
  | int (k : IntKind) (n : Int) : VR μ (.int k n) (.int k n)
  | string (s : ByteArray) : VR μ (.string s) (.string s)
  | nilp : VR μ (.pointer none) (.pointer none)
  | ptr {b o : Nat} {g : G} : μ.at b g → VR μ (.pointer (some ⟨b, o, none⟩)) (.pointer (some ⟨g.c, g.o + o, none⟩))
  | nils : VR μ (.slice none 0 0) (.slice none 0 0)
  | slice {b o l c c' : Nat} {g : G} : μ.at b g → l ≤ c → c ≤ c' → o + c' * g.es ≤ g.ext → VR μ (.slice (some ⟨b, o, none⟩) l c) (.slice (some ⟨g.c, g.o + o, none⟩) l c')
  | slice0 {b o : Nat} {g : G} (A' : Addr) : μ.at b g → VR μ (.slice (some ⟨b, o, none⟩) 0 0) (.slice (some A') 0 0)
  | sliceX {b o c : Nat} {g : G} : μ.at b g → o + c * g.es ≤ g.ext → VR μ (.slice (some ⟨b, o, some 0⟩) c c) (.slice (some ⟨g.c, g.o + o, none⟩) c c)
  | sliceX0 {b o : Nat} {g : G} (A' : Addr) : μ.at b g → VR μ (.slice (some ⟨b, o, some 0⟩) 0 0) (.slice (some A') 0 0)
  | nilf : VR μ .nilFunc .nilFunc
  | func {f : Fn} {a a' c c' : Array Value} : F2 (VR μ) a.toList a'.toList → F2 (VR μ) c.toList c'.toList → VR μ (.func f a c) (.func f a' c')
  | nili : VR μ .nilIface .nilIface
  | iter {b : Nat} {g : G} {v : Value} : μ b = some g → g.it = some v → VR μ (.iface b v) (.pointer (some ⟨g.c, 0, none⟩))
  | agg {a a' : Array Value} : F2 (VR μ) a.toList a'.toList → VR μ (.agg a) (.agg a')
  | tuple {a a' : Array Value} : F2 (VR μ) a.toList a'.toList → VR μ (.tuple a) (.tuple a')

theorem F2.length {α β : Type} {r : α → β → Prop} {l : List α} {m : List β} (h : F2 r l m) : l.length = m.length := by
  induction h with
  | nil => rfl
  | cons _ _ ih => simp [ih]
theorem F2.get {α β : Type} {r : α → β → Prop} {l : List α} {m : List β} (h : F2 r l m) : ∀ (i : Nat) (a : α), l[i]? = some a → ∃ b, m[i]? = some b ∧ r a b := by
  induction h with
  | nil => intro i a h; simp at h
  | cons h1 _ ih =>
    intro i a h
    cases i with
    | zero => simp at h; subst h; exact ⟨_, by simp, h1⟩
    | succ i => simp at h; simpa using ih i a h
theorem F2.of_get {α β : Type} {r : α → β → Prop} : ∀ (l : List α) (m : List β), l.length = m.length → (∀ (i : Nat) (a : α) (b : β), l[i]? = some a → m[i]? = some b → r a b) → F2 r l m
  | [], [], _, _ => .nil
  | [], _ :: _, h, _ => by simp at h
  | _ :: _, [], h, _ => by simp at h
  | a :: l, b :: m, h, hr => .cons (hr 0 a b rfl rfl) (F2.of_get l m (by simpa using h) fun i x y hx hy => hr (i + 1) x y (by simpa using hx) (by simpa using hy))
theorem F2.append {α β : Type} {r : α → β → Prop} {l l' : List α} {m m' : List β} (h : F2 r l m) (h' : F2 r l' m') : F2 r (l ++ l') (m ++ m') := by
  induction h with
  | nil => exact h'
  | cons h1 _ ih => exact .cons h1 ih
theorem F2.take {α β : Type} {r : α → β → Prop} {l : List α} {m : List β} (h : F2 r l m) : ∀ n, F2 r (l.take n) (m.take n) := by
  induction h with
  | nil => intro n; simp; exact .nil
  | cons h1 _ ih =>
    intro n
    cases n with
    | zero => exact .nil
    | succ n => exact .cons h1 (ih n)
theorem F2.drop {α β : Type} {r : α → β → Prop} {l : List α} {m : List β} (h : F2 r l m) : ∀ n, F2 r (l.drop n) (m.drop n) := by
  induction h with
  | nil => intro n; simp; exact .nil
  | cons h1 h2 ih =>
    intro n
    cases n with
    | zero => exact .cons h1 h2
    | succ n => exact ih n
theorem F2.map {α β γ δ : Type} {r : α → β → Prop} {s : γ → δ → Prop} {f : α → γ} {g : β → δ} (hfg : ∀ a b, r a b → s (f a) (g b)) {l : List α} {m : List β} (h : F2 r l m) : F2 s (l.map f) (m.map g) := by
  induction h with
  | nil => exact .nil
  | cons h1 _ ih => exact .cons (hfg _ _ h1) ih
theorem F2.same {α : Type} {r : α → α → Prop} : ∀ (l : List α), (∀ a ∈ l, r a a) → F2 r l l
  | [], _ => .nil
  | a :: l, h => .cons (h a (by simp)) (F2.same l fun b hb => h b (by simp [hb]))
theorem F2.imp {α β : Type} {r s : α → β → Prop} (hrs : ∀ a b, r a b → s a b) {l : List α} {m : List β} (h : F2 r l m) : F2 s l m := by
  induction h with
  | nil => exact .nil
  | cons h1 _ ih => exact .cons (hrs _ _ h1) ih

theorem VR.mono {μ μ' : Mu} (hμ : μ.le μ') : ∀ {v v' : Value}, VR μ v v' → VR μ' v v'
  | _, _, .bool b => .bool b
  | _, _, .int k n => .int k n
  | _, _, .string s => .string s
  | _, _, .nilp => .nilp
  | _, _, .ptr h => .ptr (Mu.at_le hμ h)
  | _, _, .nils => .nils
  | _, _, .slice h h1 h2 h3 => .slice (Mu.at_le hμ h) h1 h2 h3
  | _, _, .slice0 A' h => .slice0 A' (Mu.at_le hμ h)
  | _, _, .sliceX h h1 => .sliceX (Mu.at_le hμ h) h1
  | _, _, .sliceX0 A' h => .sliceX0 A' (Mu.at_le hμ h)
  | _, _, .nilf => .nilf
  | _, _, .func h1 h2 => .func (go h1) (go h2)
  | _, _, .nili => .nili
  | _, _, .iter h h1 => .iter (hμ _ _ h) h1
  | _, _, .agg h => .agg (go h)
  | _, _, .tuple h => .tuple (go h)
where
  go {l m : List Value} : F2 (VR μ) l m → F2 (VR μ') l m
  | .nil => .nil
  | .cons h t => .cons (VR.mono hμ h) (go t)

theorem VR.undef (μ : Mu) : VR μ undef undef := .tuple .nil
theorem VR.one_iff {μ : Mu} {v v' : Value} (h : VR μ v v') : one v = v'.oneCell' := by cases h <;> rfl
theorem VR.cells {μ : Mu} {v v' : Value} (h : VR μ v v') : F2 (VR μ) (cellsOf v) v'.cells.toList := by
  cases h with
  | agg h => exact h
  | bool b => exact .cons (.bool b) .nil
  | int k n => exact .cons (.int k n) .nil
  | string s => exact .cons (.string s) .nil
  | nilp => exact .cons .nilp .nil
  | ptr h => exact .cons (.ptr h) .nil
  | nils => exact .cons .nils .nil
  | slice h h1 h2 h3 => exact .cons (.slice h h1 h2 h3) .nil
  | slice0 A' h => exact .cons (.slice0 A' h) .nil
  | sliceX h h1 => exact .cons (.sliceX h h1) .nil
  | sliceX0 A' h => exact .cons (.sliceX0 A' h) .nil
  | nilf => exact .cons .nilf .nil
  | func h1 h2 => exact .cons (.func h1 h2) .nil
  | nili => exact .cons .nili .nil
  | iter h h1 => exact .cons (.iter h h1) .nil
  | tuple h => exact .cons (.tuple h) .nil

/-- A value that bears no address. -/
def plainV : Value → Bool
  | .bool _ | .int _ _ | .string _ | .pointer none | .slice none 0 0 | .nilFunc | .nilIface => true
  | .agg cs => cs.toList.all fun
    | .bool _ | .int _ _ | .string _ | .pointer none | .slice none 0 0 | .nilFunc | .nilIface => true
    | _ => false
  | .tuple cs => cs.size == 0
  | _ => false
theorem VR.plain1 (μ : Mu) : ∀ v : Value, (match v with
    | .bool _ | .int _ _ | .string _ | .pointer none | .slice none 0 0 | .nilFunc | .nilIface => true
    | _ => false) = true → VR μ v v := by
  intro v h
  cases v with
  | bool b => exact .bool b
  | int k n => exact .int k n
  | string s => exact .string s
  | pointer a => cases a with
    | none => exact .nilp
    | some a => simp at h
  | slice a n c =>
    split at h <;> first | (rename_i he; cases he; exact .nils) | simp_all
  | nilFunc => exact .nilf
  | nilIface => exact .nili
  | _ => simp at h
theorem VR.plain {μ : Mu} {v : Value} (h : plainV v = true) : VR μ v v := by
  cases v with
  | agg cs =>
    refine .agg (F2.same _ fun a ha => VR.plain1 μ a ?_)
    simp only [plainV, List.all_eq_true] at h
    exact h a ha
  | tuple cs =>
    have : cs = #[] := by simpa [plainV] using h
    subst this
    exact .tuple .nil
  | bool b => exact .bool b
  | int k n => exact .int k n
  | string s => exact .string s
  | pointer a => cases a with
    | none => exact .nilp
    | some a => simp [plainV] at h
  | slice a n c =>
    unfold plainV at h
    split at h <;> first | (rename_i he; cases he; exact .nils) | simp_all
  | nilFunc => exact .nilf
  | nilIface => exact .nili
  | _ => simp [plainV] at h

/-- What lay there when the law was called: so much of memory; tables that the library's code asks are laid. -/
structure Base (P : Program) where
  n : Nat
  h : Nat → Option Obj
  tab : ∀ w : World, n ≤ w.heap.size → (∀ b, b < n → w.heap[b]? = h b) → P.globalNamed "internal/strconv.uint64pow10" ≠ none → Lib.TabIs P w "internal/strconv.uint64pow10" .u64 Lib.pow10Tab
instance (P : Program) : CoeHead (Base P) Nat := ⟨Base.n⟩

/-- strings.Builder. -/
def isBld (P : Program) (t : TypeId) : Bool := match P.types[t]? with
  | some i => (match i.desc with
    | .named n _ => n == "strings.Builder"
    | _ => false)
  | none => false
/-- Where a builder's bytes lie. -/
def bufAt (w : World) (c : Nat) : Option Nat := match w.heap[c]? with
  | some (.cells cs _ _) => (cs[1]?).bind Value.ownBlock
  | _ => none

/-- A row whose frozen cells lie behind its end. -/
theorem setCell_rowF (w : World) (g i : Nat) (cs : Array Value) (t : TypeId) (fr : Nat × Nat) (v : Value) (hg : w.heap[g]? = some (.cells cs t fr)) : (w.setCell ⟨g, i, none⟩ v).heap[g]? = some (.cells (cs.setIfInBounds i v) t fr) := by
  simp [World.setCell, Array.getElem?_modify, hg]
theorem frozen_out (w : World) (g j : Nat) (cs : Array Value) (t : TypeId) (fr : Nat × Nat) (hg : w.heap[g]? = some (.cells cs t fr)) (hj : j < cs.size) (hf : cs.size ≤ fr.1 ∨ fr.1 = fr.2) : w.frozen? ⟨g, j, none⟩ = false := by
  obtain ⟨lo, hi⟩ := fr
  simp only at hf
  simp only [World.frozen?, hg, Bool.and_eq_false_iff, decide_eq_false_iff_not]
  omega
/-- A block and where it lies. -/
structure Lives {P : Program} (B : Base P) (μ : Mu) (w : World) (x : Blk) (g : G) : Prop where
  lt : g.c < w.heap.size
  es : g.es = x.es
  cell : g.it = none → ∀ (i : Nat) (v : Value), x.cells[i]? = some v → ∃ v', w.cell? ⟨g.c, g.o + i, none⟩ = some v' ∧ VR μ v v'
  own : g.it = none → x.own = true → B.n ≤ g.c ∧ x.cells.length ≤ g.ext ∧ ∃ cur e fr, w.heap[g.c]? = some (.cells cur e fr) ∧ g.o + g.ext ≤ cur.size ∧ (cur.size ≤ fr.1 ∨ fr.1 = fr.2)
  iter : ∀ s, g.it = some (.string s) → B.n ≤ g.c ∧ ∃ p : Nat, x.cells = [Value.int .i64 p].take x.cells.length ∧ w.heap[g.c]? = some (.stringIter s p)
  bld : g.it = some .nilFunc → isBld P g.ty = true ∧ ∃ p s, (p = .pointer none ∨ p = .pointer (some ⟨g.c, 0, none⟩)) ∧ x.cells = [Value.string s].take x.cells.length ∧ Lib.BuilderAtF g.ty P.rt.byte B.n g.c p (Lib.strCells s) w

/-- Builders' bytes lie where nothing else does. -/
def Sep (μ : Mu) (σ : Hp) (w : World) : Prop := ∀ b x g, σ.m b = some x → μ b = some g → g.it = some .nilFunc → ∀ k, bufAt w g.c = some k → ∀ b' x' g', σ.m b' = some x' → μ b' = some g' → g'.c ≠ k ∧ (b' ≠ b → g'.it = some .nilFunc → bufAt w g'.c ≠ some k)
theorem Sep.of {μ μ' : Mu} {σ σ' : Hp} {w w' : World} (h : Sep μ σ w) (hold : ∀ b x g, σ'.m b = some x → μ' b = some g → (∃ y, σ.m b = some y ∧ μ b = some g) ∨ (g.it ≠ some .nilFunc ∧ ∀ b1 x1 g1 k, σ.m b1 = some x1 → μ b1 = some g1 → g1.it = some .nilFunc → bufAt w g1.c = some k → g.c ≠ k))
    (hb : ∀ b x g, σ.m b = some x → μ b = some g → g.it = some .nilFunc → (∃ y, σ'.m b = some y) → bufAt w' g.c = bufAt w g.c) : Sep μ' σ' w' := by
  intro b x g hx hg hit k hk b' x' g' hx' hg'
  rcases hold b x g hx hg with ⟨y, h1, h2⟩ | ⟨h1, _⟩
  · rw [hb b y g h1 h2 hit ⟨x, hx⟩] at hk
    rcases hold b' x' g' hx' hg' with ⟨y', k1, k2⟩ | ⟨k1, k2⟩
    · obtain ⟨m1, m2⟩ := h b y g h1 h2 hit k hk b' y' g' k1 k2
      exact ⟨m1, fun hne hit' => by rw [hb b' y' g' k1 k2 hit' ⟨x', hx'⟩]; exact m2 hne hit'⟩
    · exact ⟨k2 b y g k h1 h2 hit hk, fun _ hit' => (k1 hit').elim⟩
  · exact (h1 hit).elim
theorem bldAt_kept {T e : TypeId} {n b : Nat} {p : Value} {bs : List Value} {w w' : World} (h : Lib.BuilderAtF T e n b p bs w) (hb : w'.heap[b]? = w.heap[b]?) (hk : ∀ k, bufAt w b = some k → w'.heap[k]? = w.heap[k]?) : Lib.BuilderAtF T e n b p bs w' := by
  obtain ⟨hB, v, hbk, hown, hne⟩ := h
  refine ⟨hB, v, hb.trans hbk, ⟨hown.1, ?_⟩, hne⟩
  rcases hown.2 with hn | ⟨g, cap, cur, fz, hv, hg, hgg, rest⟩
  · exact .inl hn
  · exact .inr ⟨g, cap, cur, fz, hv, hg, (hk g (by subst hv; simp [bufAt, hbk, Value.ownBlock])).trans hgg, rest⟩
theorem bldAt_buf {T e : TypeId} {n b : Nat} {p : Value} {bs : List Value} {w : World} (h : Lib.BuilderAtF T e n b p bs w) {k : Nat} (hk : bufAt w b = some k) : n ≤ k ∧ k < w.heap.size ∧ k ≠ b := by
  obtain ⟨hB, v, hbk, hown, hne⟩ := h
  have hv : v.ownBlock = some k := by simpa [bufAt, hbk] using hk
  obtain ⟨h1, h2⟩ := hown.lt k hv
  exact ⟨h1, h2, fun e => hne (e ▸ hv)⟩

structure R {P : Program} (B : Base P) (μ : Mu) (σ : Hp) (w : World) : Prop where
  base : B.n ≤ w.heap.size
  old : ∀ b, b < B.n → w.heap[b]? = B.h b
  fresh : ∀ b, σ.n ≤ b → μ b = none
  live : ∀ b x, σ.m b = some x → ∃ g, μ b = some g ∧ Lives B μ w x g
  inj : ∀ b b' x x' g g', σ.m b = some x → σ.m b' = some x' → b ≠ b' → x.own = true → μ b = some g → μ b' = some g' → g.c ≠ g'.c
  sep : Sep μ σ w

section
variable {P : Program} {B : Base P} {μ μ' : Mu} {σ : Hp} {w w' : World}

theorem Lives.mono {x : Blk} {g : G} (h : Lives B μ w x g) (hμ : μ.le μ') : Lives B μ' w x g :=
  ⟨h.lt, h.es, fun h0 i v hv => let ⟨v', h1, h2⟩ := h.cell h0 i v hv; ⟨v', h1, h2.mono hμ⟩, h.own, h.iter, h.bld⟩
/-- What lies in an untouched block. -/
theorem Lives.kept {x : Blk} {g : G} (h : Lives B μ w x g) (hs : w.heap.size ≤ w'.heap.size) (hb : w'.heap[g.c]? = w.heap[g.c]?) (hk : g.it = some .nilFunc → ∀ k, bufAt w g.c = some k → w'.heap[k]? = w.heap[k]?) : Lives B μ w' x g :=
  ⟨Nat.lt_of_lt_of_le h.lt hs, h.es, fun h0 i v hv => let ⟨v', h1, h2⟩ := h.cell h0 i v hv; ⟨v', (World.cell?_of_block (w := w) (w' := w') hb).trans h1, h2⟩, fun h0 ho => by
    obtain ⟨h1, h2, cur, e, fr, h4, h5⟩ := h.own h0 ho
    exact ⟨h1, h2, cur, e, fr, hb.trans h4, h5⟩, fun s hs => let ⟨h1, p, h3, h4⟩ := h.iter s hs; ⟨h1, p, h3, hb.trans h4⟩, fun hi => let ⟨h1, p, s, h3, h4, h5⟩ := h.bld hi; ⟨h1, p, s, h3, h4, bldAt_kept h5 hb (hk hi)⟩⟩

theorem R.same (h : R B μ σ w) (hh : w'.heap = w.heap) : R B μ σ w' :=
  ⟨by rw [hh]; exact h.base, fun b hb => by rw [hh]; exact h.old b hb, h.fresh, fun b x hx => let ⟨g, h1, h2⟩ := h.live b x hx; ⟨g, h1, h2.kept (by rw [hh]; exact Nat.le_refl _) (by rw [hh]) (fun _ k _ => by rw [hh])⟩, h.inj, h.sep.of (fun b x g hx hg => .inl ⟨x, hx, hg⟩) (fun b x g _ _ _ _ => by unfold bufAt; rw [hh])⟩

theorem R.get (h : R B μ σ w) {b : Nat} {x : Blk} {g : G} (hx : σ.m b = some x) (hg : μ b = some g) : Lives B μ w x g := by
  obtain ⟨g', h1, h2⟩ := h.live b x hx
  rw [hg] at h1
  injection h1 with h1
  exact h1 ▸ h2

theorem R.buf (h : R B μ σ w) {b : Nat} {x : Blk} {g : G} (hx : σ.m b = some x) (hg : μ b = some g) (hi : g.it = some .nilFunc) {k : Nat} (hk : bufAt w g.c = some k) : B.n ≤ k ∧ k < w.heap.size ∧ k ≠ g.c := by
  obtain ⟨_, p, s, _, _, h5⟩ := (h.get hx hg).bld hi
  exact bldAt_buf h5 hk
/-- A block is left alone, and so is a builder's store. -/
theorem R.stays (h : R B μ σ w) {b : Nat} {x : Blk} {g : G} (hx : σ.m b = some x) (hg : μ b = some g) (hs : w.heap.size ≤ w'.heap.size) (c : Nat) (hoth : ∀ k, k ≠ c → k < w.heap.size → w'.heap[k]? = w.heap[k]?) (hc : g.c ≠ c) (hkc : g.it = some .nilFunc → bufAt w g.c ≠ some c) : Lives B μ w' x g :=
  (h.get hx hg).kept hs (hoth _ hc (h.get hx hg).lt) fun hi k hk => hoth k (fun e => hkc hi (e ▸ hk)) (h.buf hx hg hi hk).2.1

theorem R.kill (h : R B μ σ w) (b : Nat) : R B μ (σ.set b none) w := by
  have hm : ∀ b' x, (σ.set b none).m b' = some x → σ.m b' = some x := by
    intro b' x hx
    simp only [Hp.set] at hx
    split at hx
    · cases hx
    · exact hx
  exact ⟨h.base, h.old, h.fresh, fun b' x hx => h.live b' x (hm _ _ hx), fun b1 b2 x x' g g' h1 h2 => h.inj b1 b2 x x' g g' (hm _ _ h1) (hm _ _ h2), h.sep.of (fun b' x g hx hg => .inl ⟨x, hm _ _ hx, hg⟩) (fun _ _ _ _ _ _ _ => rfl)⟩

/-- A new block. -/
theorem R.add (h : R B μ σ w) (cur : Array Value) (e : TypeId) (cells : List Value) (es : Nat) (hle : cells.length ≤ cur.size) (hc : F2 (VR μ) cells (cur.toList.take cells.length)) :
    R B (μ.add σ.n ⟨w.heap.size, 0, cur.size, es, e, none⟩) (σ.add ⟨cells, true, es⟩) (w.alloc (.cells cur e)) ∧ μ.le (μ.add σ.n ⟨w.heap.size, 0, cur.size, es, e, none⟩) := by
  have hf : μ σ.n = none := h.fresh _ (Nat.le_refl _)
  have hle' : μ.le (μ.add σ.n ⟨w.heap.size, 0, cur.size, es, e, none⟩) := Mu.le_add hf
  have old : ∀ b x, b ≠ σ.n → (σ.add ⟨cells, true, es⟩).m b = some x → σ.m b = some x := by
    intro b x hb hx
    simpa [Hp.add, hb] using hx
  have new : ∀ x, (σ.add ⟨cells, true, es⟩).m σ.n = some x → x = ⟨cells, true, es⟩ := by
    intro x hx
    simp [Hp.add] at hx
    exact hx.symm
  have oldlt : ∀ b x g, σ.m b = some x → μ b = some g → g.c < w.heap.size := fun b x g hx hg => (h.get hx hg).lt
  refine ⟨⟨Nat.le_trans h.base (by simp), fun b hb => (Below.heap_alloc w _ _ (Nat.lt_of_lt_of_le hb h.base)).trans (h.old b hb), fun b hb => ?_, fun b x hx => ?_, fun b b' x x' g g' hx hx' hne ho hg hg' => ?_, ?_⟩, hle'⟩
  · have : σ.n + 1 ≤ b := hb
    unfold Mu.add
    rw [if_neg (by omega)]
    exact h.fresh b (by omega)
  · by_cases hb : b = σ.n
    · subst hb
      obtain rfl := new x hx
      refine ⟨⟨w.heap.size, 0, cur.size, es, e, none⟩, by simp [Mu.add], ⟨by simp, rfl, fun _ i v hv => ?_, fun _ _ => ⟨h.base, hle, cur, e, (0, 0), heap_alloc_new w _, by simp, .inr rfl⟩, fun _ hs => (by cases hs), fun hs => by cases hs⟩⟩
      obtain ⟨v', h1, h2⟩ := hc.get i v hv
      have hi : i < cells.length := by
        rcases Nat.lt_or_ge i cells.length with h3 | h3
        · exact h3
        · simp [List.getElem?_eq_none h3] at hv
      refine ⟨v', ?_, h2.mono hle'⟩
      rw [Nat.zero_add, cell_of_row _ _ _ cur e (0, 0) (heap_alloc_new w _)]
      rw [List.getElem?_take, if_pos hi] at h1
      simpa using h1
    · have hx' := old b x hb hx
      obtain ⟨g, h1, h2⟩ := h.live b x hx'
      exact ⟨g, hle' _ _ h1, (h2.mono hle').kept (by simp) (Below.heap_alloc w _ _ h2.lt) (fun hi k hk => Below.heap_alloc w _ _ (h.buf hx' h1 hi hk).2.1)⟩
  · by_cases hb : b = σ.n
    · subst hb
      have hb' : b' ≠ σ.n := fun e => hne e.symm
      have : g.c = w.heap.size := by simp [Mu.add] at hg; rw [← hg]
      have h2 : μ b' = some g' := by simpa [Mu.add, hb'] using hg'
      have := oldlt b' x' g' (old _ _ hb' hx') h2
      omega
    · have h1 : μ b = some g := by simpa [Mu.add, hb] using hg
      have hx1 := old b x hb hx
      by_cases hb' : b' = σ.n
      · subst hb'
        have : g'.c = w.heap.size := by simp [Mu.add] at hg'; rw [← hg']
        have := oldlt b x g hx1 h1
        omega
      · have h2 : μ b' = some g' := by simpa [Mu.add, hb'] using hg'
        exact h.inj b b' x x' g g' hx1 (old _ _ hb' hx') hne ho h1 h2
  · refine h.sep.of (fun b x g hx hg => ?_) (fun b x g hx hg hi _ => ?_)
    · by_cases hb : b = σ.n
      · subst hb
        have e1 : g = ⟨w.heap.size, 0, cur.size, es, e, none⟩ := by simp [Mu.add] at hg; exact hg.symm
        subst e1
        exact .inr ⟨fun h0 => (by cases h0), fun b1 x1 g1 k h1 h2 h3 h4 e => by have := (h.buf h1 h2 h3 h4).2.1; simp only at e; omega⟩
      · exact .inl ⟨x, old b x hb hx, by simpa [Mu.add, hb] using hg⟩
    · unfold bufAt
      rw [Below.heap_alloc w _ _ (oldlt b x g hx hg)]

/-- A cell of a block that may be written. -/
theorem R.write1 (h : R B μ σ w) {b : Nat} {x : Blk} {g : G} (hx : σ.m b = some x) (ho : x.own = true) (hg : μ b = some g) (hit : g.it = none) (i : Nat) (hi : i < x.cells.length) {v v' : Value} (hv : VR μ v v') :
    R B μ (σ.set b (some ⟨x.cells.set i v, x.own, x.es⟩)) (w.setCell ⟨g.c, g.o + i, none⟩ v') := by
  have hl := h.get hx hg
  obtain ⟨o1, o2, cur, e, fr, o4, o5, o6⟩ := hl.own hit ho
  have hother : ∀ k, k ≠ g.c → (w.setCell ⟨g.c, g.o + i, none⟩ v').heap[k]? = w.heap[k]? := fun k hk => heap_setCell_other w _ k v' (by simpa using hk)
  have hsame : (w.setCell ⟨g.c, g.o + i, none⟩ v').heap[g.c]? = some (.cells (cur.setIfInBounds (g.o + i) v') e fr) := setCell_rowF w g.c (g.o + i) cur e fr v' o4
  have old : ∀ b' x', b' ≠ b → (σ.set b (some ⟨x.cells.set i v, x.own, x.es⟩)).m b' = some x' → σ.m b' = some x' := by
    intro b' x' hb hx'
    simpa [Hp.set, hb] using hx'
  have new : ∀ x', (σ.set b (some ⟨x.cells.set i v, x.own, x.es⟩)).m b = some x' → x' = ⟨x.cells.set i v, x.own, x.es⟩ := by
    intro x' hx'
    simp [Hp.set] at hx'
    exact hx'.symm
  refine ⟨by simpa using h.base, fun k hk => (hother k (by omega)).trans (h.old k hk), h.fresh, fun b' x' hx' => ?_, fun b1 b2 x1 x2 g1 g2 h1 h2 hne hown hg1 hg2 => ?_, ?_⟩
  · by_cases hb : b' = b
    · subst hb
      obtain rfl := new x' hx'
      refine ⟨g, hg, ⟨by simpa using hl.lt, hl.es, fun _ j u hu => ?_, fun _ _ => ⟨o1, by simpa using o2, _, e, fr, hsame, by simpa using o5, by simpa using o6⟩, fun s hs => (by rw [hit] at hs; cases hs), fun hs => by rw [hit] at hs; cases hs⟩⟩
      rw [cell_of_row _ _ _ _ e fr hsame]
      by_cases hj : j = i
      · subst hj
        simp [hi] at hu
        subst hu
        refine ⟨v', ?_, hv⟩
        rw [Array.getElem?_setIfInBounds_self_of_lt (by omega)]
      · rw [List.getElem?_set_ne (fun e => hj e.symm)] at hu
        obtain ⟨u', h1, h2⟩ := hl.cell hit j u hu
        refine ⟨u', ?_, h2⟩
        rw [cell_of_row _ _ _ _ e fr o4] at h1
        rw [Array.getElem?_setIfInBounds_ne (by omega)]
        exact h1
    · have hx1 := old b' x' hb hx'
      obtain ⟨g', h1, h2⟩ := h.live b' x' hx1
      refine ⟨g', h1, h.stays hx1 h1 (by simp) g.c (fun k hk _ => hother k hk) (fun e => h.inj b b' x x' g g' hx hx1 (fun e => hb e.symm) ho hg h1 e.symm) (fun hi hk => ((h.sep b' x' g' hx1 h1 hi _ hk b x g hx hg).1 rfl))⟩
  · have keyown : ∀ b' x', (σ.set b (some ⟨x.cells.set i v, x.own, x.es⟩)).m b' = some x' → ∃ y, σ.m b' = some y ∧ y.own = x'.own := by
      intro b' x' hx'
      by_cases hb : b' = b
      · subst hb
        obtain rfl := new x' hx'
        exact ⟨x, hx, rfl⟩
      · exact ⟨x', old b' x' hb hx', rfl⟩
    obtain ⟨y1, hy1, e1⟩ := keyown _ _ h1
    obtain ⟨y2, hy2, _⟩ := keyown _ _ h2
    exact h.inj b1 b2 y1 y2 g1 g2 hy1 hy2 hne (e1.trans hown) hg1 hg2
  · have oldl : ∀ b' x', (σ.set b (some ⟨x.cells.set i v, x.own, x.es⟩)).m b' = some x' → ∃ y, σ.m b' = some y := by
      intro b' x' hx'
      by_cases hb : b' = b
      · subst hb; exact ⟨x, hx⟩
      · exact ⟨x', old b' x' hb hx'⟩
    refine h.sep.of (fun b' x' g' hx' hg' => .inl (let ⟨y, hy⟩ := oldl b' x' hx'; ⟨y, hy, hg'⟩)) (fun b' x' g' hx' hg' hi _ => ?_)
    have hne : b' ≠ b := fun e => by subst e; rw [hg] at hg'; injection hg' with hg'; subst hg'; rw [hit] at hi; cases hi
    unfold bufAt
    rw [hother _ (fun e => h.inj b b' x x' g g' hx hx' (fun e => hne e.symm) ho hg hg' e.symm)]

end
end Go.Ab
