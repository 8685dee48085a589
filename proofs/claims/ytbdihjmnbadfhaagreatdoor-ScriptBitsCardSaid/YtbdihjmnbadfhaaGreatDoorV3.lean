/- The value machine and the abstract one: how they stand to each other. -/
import Derived.Test.YtbdihjmnbadfhaaGreatDoorV2
namespace Go.V
set_option linter.unusedVariables false
set_option linter.unusedSimpArgs false
open Go.Ab

/-- A state of the value machine beside one of the abstract machine; fb: blocks of others, that are written elsewhere. -/
structure Ctx where
  μ : Nat → Option Nat
  S : Store
  σ : Hp
  fb : Nat → Prop

def Blk.dim : Blk → Option (Nat × Nat)
  | .dead => none
  | .cells es _ l => some (es, l.length)
  | .arr s _ l => some (s.w, l.length * s.w)
def Blk.vals : Blk → List VV
  | .dead => []
  | .cells _ _ l => l
  | .arr s _ l => flatL s l

/-- A block that may be written here. -/
def Ctx.own (c : Ctx) (b : Nat) : Prop := ∃ k, (sget c.S k).frozen = false ∧ c.μ k = some b
/-- A block that may be written. -/
def Ctx.mut (c : Ctx) (b : Nat) : Prop := c.own b ∨ c.fb b

/-- A stretch of a block as a slice. -/
def SlR (c : Ctx) (k lo n : Nat) (d : Nat × Nat) (a : Value) : Prop :=
  (a = .slice none 0 0 ∧ lo = 0 ∧ n = 0 ∧ c.μ k = none ∧ d.2 = 0) ∨
  ∃ b cp y, a = .slice (some ⟨b, lo * d.1, none⟩) n cp ∧ c.μ k = some b ∧ (lo + n) * d.1 ≤ d.2 ∧ n ≤ cp ∧ c.σ.m b = some y ∧ (lo + cp) * d.1 ≤ y.cells.length

inductive VRel (c : Ctx) : VV → Value → Prop where
  | undef (a : Value) : VRel c .undef a
  | bool (b : Bool) : VRel c (.bool b) (.bool b)
  | int (k : IntKind) (n : Int) : VRel c (.int k n) (.int k n)
  | str {l : List Int} {s : ByteArray} : bytesI s = l → VRel c (.str l) (.string s)
  | nilp : VRel c .nilp (.pointer none)
  | nils : VRel c .nils (.slice none 0 0)
  | nilf : VRel c .nilf .nilFunc
  | ptr {k o : Nat} {a : Value} : k < c.S.length → one a = true → (∀ d, (sget c.S k).dim = some d → ∃ b, c.μ k = some b ∧ a = .pointer (some ⟨b, o, none⟩)) → VRel c (.ptr k o) a
  | it {k : Nat} {l : List Int} {s : ByteArray} {a : Value} : k < c.S.length → one a = true → bytesI s = l → (∀ d, (sget c.S k).dim = some d → ∃ b, c.μ k = some b ∧ a = .iface b (.string s)) → VRel c (.it k l) a
  | bld {k : Nat} {a : Value} : k < c.S.length → one a = true → (∀ d, (sget c.S k).dim = some d → ∃ b, c.μ k = some b ∧ a = .iface b .nilFunc) → VRel c (.bld k) a
  | pix {k o n i : Nat} {a : Value} : k < c.S.length → one a = true → i < n → (∀ d, (sget c.S k).dim = some d → ∃ b, c.μ k = some b ∧ a = .pointer (some ⟨b, o + i, none⟩)) → VRel c (.pix k o n i) a
  | pel {k i o : Nat} {a : Value} : k < c.S.length → one a = true → (∀ d, (sget c.S k).dim = some d → ∃ b, c.μ k = some b ∧ a = .pointer (some ⟨b, i * d.1 + o, none⟩)) → VRel c (.pel k i o) a
  | pin {s : Sh} {x : El s} {o b p : Nat} {y : Ab.Blk} : ¬c.mut b → c.σ.m b = some y → p + s.w ≤ y.cells.length → F2 (VRel c) (toCells s x) ((y.cells.drop p).take s.w) → VRel c (.pin s x o) (.pointer (some ⟨b, p + o, none⟩))
  | lstn {s : Sh} {q : Option Addr} : (∀ z, q = some z → z.spot = none) → VRel c (.lst s []) (.slice q 0 0)
  | lst {s : Sh} {l : List (El s)} {b p n cp : Nat} {y : Ab.Blk} : ¬c.mut b → c.σ.m b = some y → y.es = s.w → n = l.length → n ≤ cp → p + n * s.w ≤ y.cells.length →
      F2 (VRel c) (flatL s l) ((y.cells.drop p).take (n * s.w)) → VRel c (.lst s l) (.slice (some ⟨b, p, none⟩) n cp)
  | tgtn {s : Sh} {a : Value} : (a = .slice none 0 0 ∨ ∃ b o, a = .slice (some ⟨b, o, some 0⟩) 0 0) → VRel c (.tgt s []) a
  | tgt {s : Sh} {l : List (El s)} {b p : Nat} {y : Ab.Blk} : ¬c.mut b → c.σ.m b = some y → y.es = s.w → p + l.length * s.w ≤ y.cells.length →
      F2 (VRel c) (flatL s l) ((y.cells.drop p).take (l.length * s.w)) → VRel c (.tgt s l) (.slice (some ⟨b, p, some 0⟩) l.length l.length)
  | full {k : Nat} {a : Value} : k < c.S.length → one a = true → (∀ d, (sget c.S k).dim = some d → ∃ n, n * d.1 = d.2 ∧ SlR c k 0 n d a) → VRel c (.full k) a
  | part {k lo n : Nat} {a : Value} : k < c.S.length → one a = true → (∀ d, (sget c.S k).dim = some d → SlR c k lo n d a) → VRel c (.part k lo n) a
  | fn {f : Nat} {a b : List VV} {a' b' : Array Value} : F2 (VRel c) a a'.toList → F2 (VRel c) b b'.toList → VRel c (.fn f a b) (.func (.func f) a' b')
  | agg {l : List VV} {l' : Array Value} : F2 (VRel c) l l'.toList → VRel c (.agg l) (.agg l')
  | tup {l : List VV} {l' : Array Value} : F2 (VRel c) l l'.toList → VRel c (.tup l) (.tuple l')

/-- A block and what it stands for. -/
def BlkRel (c : Ctx) (k : Nat) : Prop := ∀ d, (sget c.S k).dim = some d → 1 ≤ d.1 ∧
  ((d.2 = 0 ∧ c.μ k = none) ∨ ∃ b y cs rest, c.μ k = some b ∧ c.σ.m b = some y ∧ y.es = d.1 ∧ ((sget c.S k).frozen = false → y.own = true) ∧ y.cells = cs ++ rest ∧ F2 (VRel c) (sget c.S k).vals cs)

structure Rel (c : Ctx) : Prop where
  ok : c.σ.Ok
  inj : ∀ k k' b, (sget c.S k).frozen = false → (sget c.S k').dim ≠ none → c.μ k = some b → c.μ k' = some b → k = k'
  blk : ∀ k, BlkRel c k
  fbk : ∀ k b, (sget c.S k).dim ≠ none → c.μ k = some b → ¬c.fb b
  fbl : ∀ b, c.fb b → b < c.σ.n

/-- What was there is there. -/
structure Le (c c' : Ctx) : Prop where
  len : c.S.length ≤ c'.S.length
  al : ∀ k d, k < c.S.length → (sget c'.S k).dim = some d → (sget c.S k).dim = some d ∧ c'.μ k = c.μ k
  fz : ∀ k, (sget c.S k).frozen = true → (sget c.S k).dim ≠ none → sget c'.S k = sget c.S k
  ln : ∀ k d b y, k < c.S.length → (sget c'.S k).dim = some d → c.μ k = some b → c.σ.m b = some y → ∃ y', c'.σ.m b = some y' ∧ y'.cells.length = y.cells.length
  un : ∀ b y, c.σ.m b = some y → ¬c.own b → c'.σ.m b = some y
  ow : ∀ b y, c.σ.m b = some y → ¬c.own b → ¬c'.own b
  n : c.σ.n ≤ c'.σ.n
  fb : c'.fb = c.fb
theorem Le.rd {c c' : Ctx} (h : Le c c') (b : Nat) (y : Ab.Blk) (hy : c.σ.m b = some y) (hn : ¬c.mut b) : c'.σ.m b = some y ∧ ¬c'.mut b := by
  have h1 : ¬c.own b := fun e => hn (.inl e)
  refine ⟨h.un b y hy h1, fun e => ?_⟩
  rcases e with e | e
  · exact h.ow b y hy h1 e
  · rw [h.fb] at e; exact hn (.inr e)

/-- What an operation does not turn. -/
def Calm (d : List Nat) (c c' : Ctx) : Prop := ∀ k, k < c.S.length → k ∉ d → (sget c.S k).dim ≠ none → (sget c'.S k).dim ≠ none ∧ ∀ b, c.μ k = some b → c'.σ.m b = c.σ.m b

/-! ### The memory of the value machine -/
theorem sget_lt {S : Store} {k : Nat} (h : (sget S k).dim ≠ none) : k < S.length := by
  induction S generalizing k with
  | nil => exact (h rfl).elim
  | cons b r ih =>
    cases k with
    | zero => exact Nat.zero_lt_succ _
    | succ k => exact Nat.succ_lt_succ (ih h)
theorem sget_out {S : Store} {k : Nat} (h : S.length ≤ k) : sget S k = .dead := by
  induction S generalizing k with
  | nil => rfl
  | cons b r ih =>
    cases k with
    | zero => simp at h
    | succ k => exact ih (by simpa using h)
theorem sput_len {S : Store} {k : Nat} {b : Blk} : (sput S k b).length = S.length := by
  induction S generalizing k with
  | nil => rfl
  | cons a r ih => cases k <;> simp [sput, ih]
theorem sget_sput {S : Store} {k i : Nat} {b : Blk} : sget (sput S k b) i = if i = k ∧ k < S.length then b else sget S i := by
  induction S generalizing k i with
  | nil => simp [sput]
  | cons a r ih =>
    cases k with
    | zero => cases i <;> simp [sput, sget]
    | succ k =>
      cases i with
      | zero => simp [sput, sget]
      | succ i => simp [sput, sget, ih]
theorem sget_at {S : Store} {k : Nat} {b : Blk} (h : k < S.length) : sget (sput S k b) k = b := by rw [sget_sput, if_pos ⟨rfl, h⟩]
theorem sget_ne {S : Store} {k i : Nat} {b : Blk} (h : i ≠ k) : sget (sput S k b) i = sget S i := by rw [sget_sput, if_neg (fun e => h e.1)]
theorem sget_app {S : Store} {l : List Blk} {k : Nat} (h : k < S.length) : sget (S ++ l) k = sget S k := by
  induction S generalizing k with
  | nil => simp at h
  | cons a r ih =>
    cases k with
    | zero => rfl
    | succ k => exact ih (by simpa using h)
theorem sget_app' {S : Store} {l : List Blk} {k : Nat} : sget (S ++ l) (S.length + k) = sget l k := by
  induction S with
  | nil => simp
  | cons a r ih =>
    have : (a :: r).length + k = (r.length + k) + 1 := by simp; omega
    rw [this]
    exact ih
theorem sget_new {S : Store} {b : Blk} : sget (S ++ [b]) S.length = b := by
  exact @sget_app' S [b] 0
theorem dim_fz {b : Blk} (h : b.frozen = false) : b.dim ≠ none := by cases b <;> simp [Blk.frozen, Blk.dim] at *
theorem dim_freeze {b : Blk} : b.freeze.dim = b.dim := by cases b <;> rfl
theorem vals_freeze {b : Blk} : b.freeze.vals = b.vals := by cases b <;> rfl
theorem fz_freeze {b : Blk} : b.freeze.frozen = true := by cases b <;> rfl
theorem freeze_id {b : Blk} (h : b.frozen = true) : b.freeze = b := by cases b <;> simp [Blk.frozen, Blk.freeze] at * <;> simp [h]

/-! ### What was there is there -/
theorem Le.refl (c : Ctx) : Le c c := ⟨Nat.le_refl _, fun _ _ _ h => ⟨h, rfl⟩, fun _ _ _ => rfl, fun _ _ _ y _ _ _ hy => ⟨y, hy, rfl⟩, fun _ _ h _ => h, fun _ _ _ h => h, Nat.le_refl _, rfl⟩
theorem Le.trans {a b c : Ctx} (h : Le a b) (k : Le b c) : Le a c := by
  refine ⟨Nat.le_trans h.len k.len, fun i d hi hd => ?_, fun i hf hd => ?_, fun i d x y hi hd hm hy => ?_, fun x y hy hn => k.un x y (h.un x y hy hn) (h.ow x y hy hn), fun x y hy hn => k.ow x y (h.un x y hy hn) (h.ow x y hy hn), Nat.le_trans h.n k.n, k.fb.trans h.fb⟩
  · obtain ⟨h1, h2⟩ := k.al i d (Nat.lt_of_lt_of_le hi h.len) hd
    obtain ⟨h3, h4⟩ := h.al i d hi h1
    exact ⟨h3, h2.trans h4⟩
  · have h1 := h.fz i hf hd
    rw [k.fz i (by rw [h1]; exact hf) (by rw [h1]; exact hd), h1]
  · obtain ⟨h1, h2⟩ := k.al i d (Nat.lt_of_lt_of_le hi h.len) hd
    obtain ⟨y1, h3, h4⟩ := h.ln i d x y hi h1 hm hy
    obtain ⟨_, h6⟩ := h.al i d hi h1
    obtain ⟨y2, h5, h7⟩ := k.ln i d x y1 (Nat.lt_of_lt_of_le hi h.len) hd (h6.trans hm) h3
    exact ⟨y2, h5, h7.trans h4⟩
theorem Calm.refl (d : List Nat) (c : Ctx) : Calm d c c := fun _ _ _ h => ⟨h, fun _ _ => rfl⟩

theorem SlR.frame {c c' : Ctx} (h : Le c c') {k lo n : Nat} {d : Nat × Nat} {a : Value} (hk : k < c.S.length) (hd : (sget c'.S k).dim = some d) (hs : SlR c k lo n d a) : SlR c' k lo n d a := by
  obtain ⟨h1, h2⟩ := h.al k d hk hd
  rcases hs with ⟨rfl, rfl, rfl, hm, hz⟩ | ⟨b, cp, y, rfl, hm, h3, h4, hy, h5⟩
  · exact .inl ⟨rfl, rfl, rfl, h2.trans hm, hz⟩
  · obtain ⟨y', hy', hl⟩ := h.ln k d b y hk hd hm hy
    exact .inr ⟨b, cp, y', rfl, h2.trans hm, h3, h4, hy', by rw [hl]; exact h5⟩

theorem VRel.frame {c c' : Ctx} (h : Le c c') : ∀ {v : VV} {a : Value}, VRel c v a → VRel c' v a
  | _, _, .undef a => .undef a
  | _, _, .bool b => .bool b
  | _, _, .int k n => .int k n
  | _, _, .str hs => .str hs
  | _, _, .nilp => .nilp
  | _, _, .nils => .nils
  | _, _, .nilf => .nilf
  | _, _, .ptr hk h1 hd => .ptr (Nat.lt_of_lt_of_le hk h.len) h1 fun d hd' => by
    obtain ⟨h1, h2⟩ := h.al _ d hk hd'
    obtain ⟨b, h3, h4⟩ := hd d h1
    exact ⟨b, h2.trans h3, h4⟩
  | _, _, .it hk h1 hs hd => .it (Nat.lt_of_lt_of_le hk h.len) h1 hs fun d hd' => by
    obtain ⟨h1, h2⟩ := h.al _ d hk hd'
    obtain ⟨b, h3, h4⟩ := hd d h1
    exact ⟨b, h2.trans h3, h4⟩
  | _, _, .bld hk h1 hd => .bld (Nat.lt_of_lt_of_le hk h.len) h1 fun d hd' => by
    obtain ⟨h1, h2⟩ := h.al _ d hk hd'
    obtain ⟨b, h3, h4⟩ := hd d h1
    exact ⟨b, h2.trans h3, h4⟩
  | _, _, .pix hk h1 hi hd => .pix (Nat.lt_of_lt_of_le hk h.len) h1 hi fun d hd' => by
    obtain ⟨h1, h2⟩ := h.al _ d hk hd'
    obtain ⟨b, h3, h4⟩ := hd d h1
    exact ⟨b, h2.trans h3, h4⟩
  | _, _, .pel hk h1 hd => .pel (Nat.lt_of_lt_of_le hk h.len) h1 fun d hd' => by
    obtain ⟨h1, h2⟩ := h.al _ d hk hd'
    obtain ⟨b, h3, h4⟩ := hd d h1
    exact ⟨b, h2.trans h3, h4⟩
  | _, _, .pin hn hy hl hf => .pin (h.rd _ _ hy hn).2 (h.rd _ _ hy hn).1 hl (go hf)
  | _, _, .lstn hq => .lstn hq
  | _, _, .lst hn hy he h1 h2 h3 hf => .lst (h.rd _ _ hy hn).2 (h.rd _ _ hy hn).1 he h1 h2 h3 (go hf)
  | _, _, .tgtn hq => .tgtn hq
  | _, _, .tgt hn hy he h3 hf => .tgt (h.rd _ _ hy hn).2 (h.rd _ _ hy hn).1 he h3 (go hf)
  | _, _, .full hk h1 hd => .full (Nat.lt_of_lt_of_le hk h.len) h1 fun d hd' => by
    obtain ⟨h1, h2⟩ := h.al _ d hk hd'
    obtain ⟨n, h3, h4⟩ := hd d h1
    exact ⟨n, h3, h4.frame h hk hd'⟩
  | _, _, .part hk h1 hd => .part (Nat.lt_of_lt_of_le hk h.len) h1 fun d hd' => by
    obtain ⟨h1, h2⟩ := h.al _ d hk hd'
    exact (hd d h1).frame h hk hd'
  | _, _, .fn h1 h2 => .fn (go h1) (go h2)
  | _, _, .agg h1 => .agg (go h1)
  | _, _, .tup h1 => .tup (go h1)
where
  go : ∀ {l : List VV} {m : List Value}, F2 (VRel c) l m → F2 (VRel c') l m
    | _, _, .nil => .nil
    | _, _, .cons h1 h2 => .cons (VRel.frame h h1) (go h2)
theorem VRel.frames {c c' : Ctx} (h : Le c c') {l : List VV} {m : List Value} (hf : F2 (VRel c) l m) : F2 (VRel c') l m := hf.imp fun _ _ hv => hv.frame h

/-- What an operation leaves. -/
def Out {β : Type} (c : Ctx) (d : List Nat) (k : VV → Store → Option β) (y : β) (v : Value) (σ' : Hp) : Prop :=
  ∃ vv c', c'.σ = σ' ∧ Le c c' ∧ Rel c' ∧ Calm d c c' ∧ VRel c' vv v ∧ k vv c'.S = some y
theorem Out.same {β : Type} {c : Ctx} {d : List Nat} {k : VV → Store → Option β} {y : β} {v : Value} {vv : VV} (hR : Rel c) (hv : VRel c vv v) (hk : k vv c.S = some y) : Out c d k y v c.σ :=
  ⟨vv, c, rfl, Le.refl c, hR, Calm.refl d c, hv, hk⟩
end Go.V
