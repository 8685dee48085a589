/- An abstract machine: the same operations over memory whose blocks have numbers of their own. Definitions alone. -/
import Derived.Calls
import Derived.RowKit
namespace Go.Ab

/-- A block of the abstract memory: its cells; may it be written; how many cells an element of it has. -/
structure Blk where
  cells : List Value
  own : Bool
  es : Nat

/-- The abstract memory. -/
structure Hp where
  m : Nat → Option Blk
  n : Nat

def Hp.set (σ : Hp) (b : Nat) (x : Option Blk) : Hp := { m := fun i => if i = b then x else σ.m i, n := σ.n }
def Hp.add (σ : Hp) (x : Blk) : Hp := { m := fun i => if i = σ.n then some x else σ.m i, n := σ.n + 1 }

abbrev Env := Nat → Value
def Env.put (e : Env) (d : Nat) (v : Value) : Env := fun i => if i = d then v else e i
def Env.putO (e : Env) (d : Option Nat) (v : Value) : Env := match d with
  | some d => e.put d v
  | none => e
def Env.of (args : List Value) : Env := fun i => (args[i]?).getD undef
def Env.ev (e : Env) : Operand → Value
  | .tmp t => e t
  | .const v => v
  | .global _ => undef
  | .func f => .func (.func f) #[] #[]

inductive AExit where
  | normal
  | exit (id : Nat)
  | ret

inductive AOp where
  | move (x : Operand)
  | pick (c a b : Operand)
  | alloc (es : Nat) (zero : List Value)
  | box (es : Nat) (x : Operand)
  | build (zero : List Value) (parts : List (Nat × Nat × Operand))
  | buildSlice (es len : Nat) (zero : List Value) (parts : List (Nat × Nat × Operand))
  | load (x : Operand)
  | loadN (n : Nat) (x : Operand)
  | store (n : Nat) (a x : Operand)
  | nilCheck (x : Operand)
  | bin (op : BinOp) (x y : Operand)
  | eqv (kd : Nat) (neg : Bool) (x y : Operand)
  | eqCells (neg : Bool) (ks : List Nat) (x y : Operand)
  | un (op : UnOp) (x : Operand)
  | conv (k : IntKind) (x : Operand)
  | mkFunc (f : FuncId) (first captured : List Operand)
  | makeSlice (es bytes : Nat) (zero : List Value) (l c : Operand)
  | slice (es : Nat) (x : Operand) (lo hi : Option Operand)
  | sliceStr (x : Operand) (lo hi : Option Operand)
  | sliceArr (es n : Nat) (x : Operand) (lo hi : Option Operand)
  | off (n : Nat) (x : Operand)
  | idx (es : Nat) (x i : Operand)
  | idxA (len es : Nat) (x i : Operand)
  | fieldV (off n : Nat) (agg : Bool) (x : Operand)
  | indexV (len es : Nat) (agg : Bool) (x i : Operand)
  | indexS (x i : Operand)
  | extract (x : Operand) (i : Nat)
  | call (f : FuncId) (args : List Operand)
  | callv (f : Operand) (args : List Operand)
  | append (es bytes : Nat) (s x : Operand)
  | appendZ (es bytes : Nat) (zero : List Value) (s x : Operand)
  | copy (es : Nat) (d s : Operand)
  | len (x : Operand)
  | lenS (x : Operand)
  | lenC (n : Nat)
  | most (x y : Operand)
  | least (x y : Operand)
  | stuck
  | capN (x : Operand)
  | sliceX (x hi mx : Operand)
  | range (x : Operand)
  | next (x : Operand)
  | encR (x : Operand)
  | strOf (x : Operand)
  | newB
  | strOfR (x : Operand)
  | runesOf (x : Operand)
  | mark (x : Operand)

structure AOper where
  dst : Option Nat
  op : AOp
  guard : Option (Nat × Bool)

/-- An operation of a stretch whose order is open, in the place where the abstract machine takes it: its number; does it move things; is what it loads asked again; which loads are asked again behind it. -/
structure SItem where
  idx : Nat
  o : AOper
  mover : Bool
  keep : Bool
  chks : List Nat

inductive AC where
  | skip
  | region (ops : List AOper)
  | draw (ops : List (AOper × List Nat))
  | sched (its : List SItem)
  | seq (a b : AC)
  | cond (c : Operand) (thn els : AC)
  | block (id : Nat) (body : AC)
  | loop (body : AC)
  | exit (id : Nat)
  | ret

inductive ARes where
  | tmp (t : Nat)
  | cell (t : Nat)
  | cellN (t n : Nat)

structure AFn where
  ntmps : Nat
  results : List ARes
  body : AC

abbrev Spec := List Value → Hp → (Value → Hp → Prop) → Prop
abbrev Specs := FuncId → Spec

def okInt : Value → Bool
  | .int _ _ => true
  | _ => false

/-- One cell. -/
def one : Value → Bool
  | .agg _ | .tuple _ => false
  | _ => true

/-- The cells of a value. -/
def cellsOf (v : Value) : List Value := v.cells.toList

/-- Numbers from lo on in a block. -/
def readN (x : Blk) (o n : Nat) : Option (List Value) := if o + n ≤ x.cells.length then some ((x.cells.drop o).take n) else none
def setL (cells : List Value) (o : Nat) : List Value → List Value
  | [] => cells
  | v :: vs => setL (cells.set o v) (o + 1) vs
def writeN (x : Blk) (o : Nat) (vs : List Value) : Option Blk :=
  if x.own = true ∧ o + vs.length ≤ x.cells.length ∧ vs.all one = true then some { cells := setL x.cells o vs, own := x.own, es := x.es } else none

/-- The cells of a slice, of which it reads the first n elements. -/
def Hp.slice (σ : Hp) (es : Nat) : Value → Nat → Option (List Value)
  | .slice (some ⟨b, o, none⟩) _ _, n => if n = 0 then some [] else match σ.m b with
    | some x => readN x o (n * es)
    | none => none
  | .slice none _ _, n => if n = 0 then some [] else none
  | .string s, n => if es = 1 then some (((s.extract 0 n).data.toList).map fun b => .int .u8 b.toNat) else none
  | _, _ => none

def lenV : Value → Option Nat
  | .slice _ n _ => some n
  | .string s => some s.size
  | _ => none

/-- Parts laid into cells. -/
def fillL (cells : List Value) : List (Nat × Nat × Value) → Option (List Value)
  | [] => some cells
  | (off, size, v) :: rest =>
    if (cellsOf v).length = size ∧ off + size ≤ cells.length then fillL (cells.take off ++ cellsOf v ++ cells.drop (off + size)) rest else none

def ints2 (op : BinOp) (k : IntKind) (x y : Int) : Option Value :=
  match op with
  | .add => some (.int k (k.wrap (x + y)))
  | .sub => some (.int k (k.wrap (x - y)))
  | .mul => some (.int k (k.wrap (x * y)))
  | .quo => if y = 0 then none else some (.int k (k.wrap (x.tdiv y)))
  | .rem => if y = 0 then none else some (.int k (x.tmod y))
  | .and => some (.int k (k.wrap (BitVec.ofInt k.bits x &&& BitVec.ofInt k.bits y).toNat))
  | .or => some (.int k (k.wrap (BitVec.ofInt k.bits x ||| BitVec.ofInt k.bits y).toNat))
  | .xor => some (.int k (k.wrap (BitVec.ofInt k.bits x ^^^ BitVec.ofInt k.bits y).toNat))
  | .andNot => some (.int k (k.wrap (BitVec.ofInt k.bits x &&& ~~~BitVec.ofInt k.bits y).toNat))
  | .eql => some (.bool (x == y))
  | .neq => some (.bool (x != y))
  | .lss => some (.bool (x < y))
  | .leq => some (.bool (x ≤ y))
  | .gtr => some (.bool (x > y))
  | .geq => some (.bool (x ≥ y))
  | _ => none

def strs2 (op : BinOp) (x y : ByteArray) : Option Value :=
  match op with
  | .add => if ((x.size + y.size : Nat) : Int) > IntKind.i64.max then none else some (.string (x ++ y))
  | .eql => some (.bool (x.toList == y.toList))
  | .neq => some (.bool !(x.toList == y.toList))
  | .lss => some (.bool (Op.bytesLess x.toList y.toList))
  | .leq => some (.bool (Op.bytesLess x.toList y.toList || x.toList == y.toList))
  | .gtr => some (.bool !(Op.bytesLess x.toList y.toList || x.toList == y.toList))
  | .geq => some (.bool !(Op.bytesLess x.toList y.toList))
  | _ => none

def shift2 (op : BinOp) (k : IntKind) (x y : Int) : Option Value :=
  if y < 0 then none else match op with
  | .shl => some (.int k (k.wrap (x * 2 ^ (min y.toNat k.bits))))
  | .shr => some (.int k (x.fdiv (2 ^ (min y.toNat k.bits))))
  | _ => none

def isShift : BinOp → Bool
  | .shl | .shr => true
  | _ => false

def bin2 (op : BinOp) : Value → Value → Option Value
  | .int k a, .int k' b => if isShift op = true then shift2 op k a b else if k = k' then ints2 op k a b else none
  | .string a, .string b => if isShift op = true then none else strs2 op a b
  | _, _ => none

/-- Equal: bools; a pointer, a slice, a function held against nil. -/
def eqv2 : Nat → Value → Value → Option Bool
  | 0, .bool a, .bool b => some (a == b)
  | 1, .pointer none, .pointer b => some b.isNone
  | 1, .pointer (some _), .pointer none => some false
  | 2, .slice none _ _, .slice b _ _ => some b.isNone
  | 2, .slice (some _) _ _, .slice none _ _ => some false
  | 3, .nilFunc, .nilFunc => some true
  | 3, .nilFunc, .func _ _ _ => some false
  | 3, .func _ _ _, .nilFunc => some false
  | _, _, _ => none

def eqCells1 : Nat → Value → Value → Option Bool
  | 0, .bool a, .bool b => some (a == b)
  | 1, .int k a, .int k' b => if k = k' then some (a == b) else none
  | 2, .string a, .string b => some (a.toList == b.toList)
  | _, _, _ => none
def eqCellsL : List Nat → List Value → List Value → Option Bool
  | [], [], [] => some true
  | k :: ks, a :: r, b :: s => match eqCells1 k a b with
    | some true => eqCellsL ks r s
    | some false => some false
    | none => none
  | _, _, _ => none

def un1 : UnOp → Value → Option Value
  | .neg, .int k n => some (.int k (k.wrap (0 - n)))
  | .xor, .int k n => some (.int k (k.wrap (BitVec.ofInt k.bits (if k.signed then -1 else k.max) ^^^ BitVec.ofInt k.bits n).toNat))
  | .not, .bool b => some (.bool !b)
  | _, _ => none

def intV : Value → Option Int
  | .int _ n => some n
  | _ => none

/-- A bound of a cut: at most y. -/
def bound (y : Nat) (d : Nat) : Option Value → Option Nat
  | some (.int _ i) => if 0 ≤ i ∧ i ≤ y then some i.toNat else none
  | some _ => none
  | none => some d

def toLeast : Value → Value → Option Value
  | .int k x, .int _ y => some (.int k (if y < x then y else x))
  | _, _ => none
def toMost : Value → Value → Option Value
  | .int k x, .int _ y => some (.int k (if y > x then y else x))
  | _, _ => none

def addAt (a : Addr) (n : Nat) : Addr := ⟨a.block, a.off + n, none⟩

/-- A cut that begins further on asks what size the elements have. -/
def mayCut (σ : Hp) (es : Nat) (a : Option Addr) (lo : Option Operand) : Bool := match lo, a with
  | none, _ => true
  | _, none => true
  | some _, some a => match σ.m a.block with
    | some blk => blk.es == es
    | none => false

def times (zero : List Value) (n : Nat) : List Value := (List.replicate n zero).flatten


/-- What 'append' comes to, of a slice and of new cells. -/
def appRun (es bytes : Nat) (σ : Hp) (a : Option Addr) (sl sc n : Nat) (new : List Value) : Option (Value × Hp) := if sl + n ≤ sc then (match a with
            | some ⟨b, o, none⟩ => if new = [] then some (.slice (some ⟨b, o, none⟩) (sl + n) sc, σ) else match σ.m b with
              | some blk => match writeN blk (o + sl * es) new with
                | some blk' => some (.slice (some ⟨b, o, none⟩) (sl + n) sc, σ.set b (some blk'))
                | none => none
              | none => none
            | none => if new = [] ∧ sl = 0 ∧ sc = 0 ∧ n = 0 then some (.slice none 0 0, σ) else none
            | _ => none)
          else if (sl + n) * bytes ≤ 140737488355328 ∧ sl + n ≤ 9223372036854775807 ∧ new.all one = true then (match a with
            | some ⟨b, o, none⟩ => match σ.m b with
              | some blk => if blk.own = true ∧ blk.es = es then match readN blk o (sl * es) with
                | some old => some (.slice (some ⟨σ.n, 0, none⟩) (sl + n) (sl + n), (σ.set b none).add ⟨old ++ new, true, es⟩)
                | none => none
                else none
              | none => none
            | none => if sl = 0 then some (.slice (some ⟨σ.n, 0, none⟩) n n, σ.add ⟨new, true, es⟩) else none
            | some ⟨b, o, some _⟩ => if sl = 0 then some (.slice (some ⟨σ.n, 0, none⟩) n n, σ.add ⟨new, true, es⟩) else match σ.m b with
              | some blk => if blk.es = es then match readN blk o (sl * es) with
                | some old => some (.slice (some ⟨σ.n, 0, none⟩) (sl + n) (sl + n), σ.add ⟨old ++ new, true, es⟩)
                | none => none
                else none
              | none => none)
          else none

/-- Cells that are bytes, as bytes. -/
def bytesV : List Value → Option (List Int)
  | [] => some []
  | .int .u8 n :: r => (bytesV r).map (n :: ·)
  | _ => none
def strB (l : List Int) : ByteArray := l.foldl (fun r n => r.push (UInt8.ofNat n.toNat)) ByteArray.empty

/-- Cells that are runes, as numbers; their bytes; a text's runes. -/
def runesV : List Value → Option (List Int)
  | [] => some []
  | .int .i32 n :: r => (runesV r).map (n :: ·)
  | _ => none
def strR (l : List Int) : ByteArray := l.foldl (fun r n => r ++ Utf8.encode n) ByteArray.empty
def runesA (s : ByteArray) : List Value := (Conv.runesFrom s s.size 0 #[]).toList

/-- What an operation, but for calls, answers. -/
def AOp.run (e : Env) (σ : Hp) : AOp → Option (Value × Hp)
  | .move x => some (e.ev x, σ)
  | .pick c a b => match e.ev c with
    | .bool true => some (e.ev a, σ)
    | .bool false => some (e.ev b, σ)
    | _ => none
  | .alloc es zero => some (.pointer (some ⟨σ.n, 0, none⟩), σ.add ⟨zero, true, es⟩)
  | .box es x => if (cellsOf (e.ev x)).all one then some (.pointer (some ⟨σ.n, 0, none⟩), σ.add ⟨cellsOf (e.ev x), true, es⟩) else none
  | .build zero parts => (fillL zero (parts.map fun (o, s, x) => (o, s, e.ev x))).map fun cs => (.agg cs.toArray, σ)
  | .buildSlice es ln zero parts => match fillL (times zero ln) (parts.map fun (o, s, x) => (o, s, e.ev x)) with
    | some cs => if cs.all one then some (.slice (some ⟨σ.n, 0, none⟩) ln ln, σ.add ⟨cs, true, es⟩) else none
    | none => none
  | .load x => match e.ev x with
    | .pointer (some ⟨b, o, none⟩) => match σ.m b with
      | some blk => (blk.cells[o]?).map fun v => (v, σ)
      | none => none
    | _ => none
  | .loadN n x => match e.ev x with
    | .pointer (some ⟨b, o, none⟩) => match σ.m b with
      | some blk => (readN blk o n).map fun cs => (.agg cs.toArray, σ)
      | none => none
    | _ => none
  | .store n a x => match e.ev a with
    | .pointer (some ⟨b, o, none⟩) => if (cellsOf (e.ev x)).length = n then match σ.m b with
      | some blk => match writeN blk o (cellsOf (e.ev x)) with
        | some blk' => some (undef, σ.set b (some blk'))
        | none => none
      | none => none
      else none
    | _ => none
  | .nilCheck x => match e.ev x with
    | .pointer (some a) => some (.pointer (some a), σ)
    | .func (.func f) first captured => some (.func (.func f) first captured, σ)
    | _ => none
  | .bin op x y => (bin2 op (e.ev x) (e.ev y)).map fun v => (v, σ)
  | .eqv kd neg x y => (eqv2 kd (e.ev x) (e.ev y)).map fun b => (.bool (b != neg), σ)
  | .eqCells neg ks x y => match e.ev x, e.ev y with
    | .agg a, .agg b => (eqCellsL ks a.toList b.toList).map fun b => (.bool (b != neg), σ)
    | _, _ => none
  | .un op x => (un1 op (e.ev x)).map fun v => (v, σ)
  | .conv k x => (intV (e.ev x)).map fun n => (.int k (k.wrap n), σ)
  | .mkFunc f first captured => some (.func (.func f) (first.map e.ev).toArray (captured.map e.ev).toArray, σ)
  | .makeSlice es bytes zero l c => match e.ev l, e.ev c with
    | .int _ l, .int _ c => if 0 ≤ l ∧ l ≤ c ∧ bytes * c ≤ 281474976710656 ∧ c ≤ 9223372036854775807 then
        some (.slice (some ⟨σ.n, 0, none⟩) l.toNat c.toNat, σ.add ⟨times zero c.toNat, true, es⟩) else none
    | _, _ => none
  | .slice es x lo hi => match e.ev x with
    | .slice a ln cap => if (cap == 0 || mayCut σ es a lo) = true then match bound cap ln (hi.map e.ev) with
      | some h => match bound h 0 (lo.map e.ev) with
        | some l => some (.slice (a.map (addAt · (l * es))) (h - l) (cap - l), σ)
        | none => none
      | none => none else none
    | _ => none
  | .sliceStr x lo hi => match e.ev x with
    | .string s => match bound s.size s.size (hi.map e.ev) with
      | some h => match bound h 0 (lo.map e.ev) with
        | some l => some (.string (s.extract l h), σ)
        | none => none
      | none => none
    | _ => none
  | .sliceArr es n x lo hi => match e.ev x with
    | .pointer (some ⟨b, o, none⟩) => match σ.m b with
      | some blk => if blk.own = true ∧ blk.es = es ∧ o + n * es ≤ blk.cells.length then match bound n n (hi.map e.ev) with
        | some h => match bound h 0 (lo.map e.ev) with
          | some l => if l < n then some (.slice (some ⟨b, o + l * es, none⟩) (h - l) (n - l), σ) else none
          | none => none
        | none => none else none
      | none => none
    | _ => none
  | .off n x => match e.ev x with
    | .pointer (some ⟨b, o, none⟩) => some (.pointer (some ⟨b, o + n, none⟩), σ)
    | _ => none
  | .idx es x i => match e.ev x, e.ev i with
    | .slice (some ⟨b, o, none⟩) ln _, .int _ i => if 0 ≤ i ∧ i < ln then some (.pointer (some ⟨b, o + i.toNat * es, none⟩), σ) else none
    | _, _ => none
  | .idxA ln es x i => match e.ev x, e.ev i with
    | .pointer (some ⟨b, o, none⟩), .int _ i => if 0 ≤ i ∧ i < ln then some (.pointer (some ⟨b, o + i.toNat * es, none⟩), σ) else none
    | _, _ => none
  | .fieldV fo n agg x => match e.ev x with
    | .agg cs => if agg then some (.agg (cs.extract fo (fo + n)), σ) else (cs[fo]?).map fun v => (v, σ)
    | _ => none
  | .indexV ln es agg x i => match e.ev x, e.ev i with
    | .agg cs, .int _ i => if 0 ≤ i ∧ i < ln then (if agg then some (.agg (cs.extract (i.toNat * es) (i.toNat * es + es)), σ) else (cs[i.toNat * es]?).map fun v => (v, σ)) else none
    | _, _ => none
  | .indexS x i => match e.ev x, e.ev i with
    | .string s, .int _ i => if 0 ≤ i then (s[i.toNat]?).map fun b => (.int .u8 b.toNat, σ) else none
    | _, _ => none
  | .extract x i => match e.ev x with
    | .tuple vs => (vs[i]?).map fun v => (v, σ)
    | _ => none
  | .call _ _ | .callv _ _ => none
  | .append es bytes s x => match e.ev s with
    | .slice a sl sc => match lenV (e.ev x) with
      | some n => match σ.slice es (e.ev x) n with
        | some new => appRun es bytes σ a sl sc n new
        | none => none
      | none => none
    | _ => none
  | .appendZ es bytes zero s x => match e.ev s, e.ev x with
    | .slice a sl sc, .int _ l => if 0 ≤ l ∧ l ≤ 9223372036854775807 ∧ l * bytes ≤ 281474976710656 then appRun es bytes σ a sl sc l.toNat (times zero l.toNat) else none
    | _, _ => none
  | .copy es d s => match e.ev d with
    | .slice a dl _ => match lenV (e.ev s) with
      | some n => match σ.slice es (e.ev s) (min n dl) with
        | some new => (match a with
          | some ⟨b, o, none⟩ => if new = [] then some (.int .i64 (min n dl : Nat), σ) else match σ.m b with
            | some blk => match writeN blk o new with
              | some blk' => some (.int .i64 (min n dl : Nat), σ.set b (some blk'))
              | none => none
            | none => none
          | none => if new = [] then some (.int .i64 (min n dl : Nat), σ) else none
          | _ => none)
        | none => none
      | none => none
    | _ => none
  | .len x => match e.ev x with
    | .slice _ n _ => some (.int .i64 n, σ)
    | _ => none
  | .lenS x => match e.ev x with
    | .string s => some (.int .i64 s.size, σ)
    | _ => none
  | .lenC n => some (.int .i64 n, σ)
  | .most x y => (toMost (e.ev x) (e.ev y)).map fun v => (v, σ)
  | .least x y => (toLeast (e.ev x) (e.ev y)).map fun v => (v, σ)
  | .stuck => none
  | .capN x => match e.ev x with
    | .slice none 0 0 => some (.int .i64 0, σ)
    | _ => none
  | .sliceX x hi mx => match e.ev x with
    | .slice a _ cap => match bound cap 0 (some (e.ev mx)) with
      | some m => match bound m 0 (some (e.ev hi)) with
        | some h => if h = m then match a with
          | none => some (.slice none 0 0, σ)
          | some ⟨b, o, none⟩ => some (.slice (some ⟨b, o, some 0⟩) m m, σ)
          | _ => none
          else none
        | none => none
      | none => none
    | _ => none
  | .range x => match e.ev x with
    | .string s => some (.iface σ.n (.string s), σ.add ⟨[.int .i64 0], true, 1⟩)
    | _ => none
  | .next x => match e.ev x with
    | .iface b (.string s) => match σ.m b with
      | some blk => if blk.own = true then (match blk.cells with
        | .int .i64 p :: r => if 0 ≤ p then (if p.toNat < s.size then
            some (.tuple #[.bool true, .int .i64 p, .int .i32 (Utf8.decode s p.toNat).1], σ.set b (some ⟨.int .i64 ((p.toNat + (Utf8.decode s p.toNat).2 : Nat) : Int) :: r, true, blk.es⟩))
          else some (.tuple #[.bool false], σ)) else none
        | _ => none) else none
      | none => none
    | _ => none
  | .encR x => (intV (e.ev x)).map fun n => (.string (Utf8.encode n), σ)
  | .strOfR x => match e.ev x with
    | .slice a n c => match σ.slice 1 (.slice a n c) n with
      | some cs => (runesV cs).map fun l => (.string (strR l), σ)
      | none => none
    | _ => none
  | .runesOf x => match e.ev x with
    | .string s => if s.size ≤ 70368744177664 then some (.slice (some ⟨σ.n, 0, none⟩) (runesA s).length (runesA s).length, σ.add ⟨runesA s, true, 1⟩) else none
    | _ => none
  | .mark x => match e.ev x with
    | .slice (some ⟨b, o, none⟩) n c => if 0 < n then (match σ.m b with
      | some blk => if blk.own = true then some (.slice (some ⟨b, o, none⟩) n c, σ) else none
      | none => none) else none
    | _ => none
  | .newB => some (.iface σ.n .nilFunc, σ.add ⟨[.string ByteArray.empty], true, 1⟩)
  | .strOf x => match e.ev x with
    | .slice a n c => match σ.slice 1 (.slice a n c) n with
      | some cs => (bytesV cs).map fun l => (.string (strB l), σ)
      | none => none
    | _ => none

/-- An operation whose guard says yes. -/
def runOp (T : Specs) (op : AOp) (e : Env) (σ : Hp) (k : Value → Hp → Prop) : Prop :=
  match op with
  | .call f args => T f (args.map e.ev) σ k
  | .callv x args => match e.ev x with
    | .func (.func f) first captured => T f (first.toList ++ args.map e.ev ++ captured.toList) σ k
    | _ => False
  | op => match op.run e σ with
    | some (v, σ') => k v σ'
    | none => False

def wanted (o : AOper) (e : Env) : Bool :=
  match o.guard with
  | some (t, want) => match e t with
    | .bool b => b == want
    | _ => false
  | none => true

def wpOps (T : Specs) (Q : Env → Hp → Prop) : List AOper → Env → Hp → Prop
  | [], e, σ => Q e σ
  | o :: rest, e, σ => if wanted o e then runOp T o.op e σ fun v σ' => wpOps T Q rest (e.putO o.dst v) σ' else wpOps T Q rest (e.putO o.dst undef) σ

/-- Does an operation leave the memory alone, and ask nothing of it but loads? -/
def AOp.still : AOp → Bool
  | .alloc .. | .box .. | .buildSlice .. | .store .. | .call .. | .callv .. | .makeSlice .. | .append .. | .appendZ .. | .copy .. | .range .. | .next .. | .strOf .. | .newB | .strOfR .. | .runesOf .. | .mark .. => false
  | _ => true

/-- A loop: some number of rounds ends it. -/
def wpLoop (f : (AExit → Env → Hp → Prop) → Env → Hp → Prop) (Q : AExit → Env → Hp → Prop) : Nat → Env → Hp → Prop
  | 0, _, _ => False
  | n + 1, e, σ => f (fun x e' σ' => match x with
    | .normal => wpLoop f Q n e' σ'
    | x => Q x e' σ') e σ

def AOp.isLoad : AOp → Bool
  | .load _ | .loadN _ _ | .sliceArr _ _ _ _ _ | .slice _ _ (some _) _ => true
  | _ => false

/-- What stands ahead of an operation. -/
def predsOf (ops : List (AOper × List Nat)) (i : Nat) : List Nat := match ops[i]? with
  | some (_, p) => p
  | none => []
/-- Of each operation, as bits of one number, all that stands ahead of it. -/
def maskOf (acc : List Nat) (ps : List Nat) : Nat := ps.foldl (fun m q => m ||| 2 ^ q ||| acc.getD q 0) 0
def masks (acc : List Nat) : List (AOper × List Nat) → List Nat
  | [] => acc
  | (_, ps) :: r => masks (acc ++ [maskOf acc ps]) r
def befB (ops : List (AOper × List Nat)) (p j : Nat) : Bool := ((masks [] ops).getD j 0).testBit p

def readyB (ops : List (AOper × List Nat)) (done : List Nat) (i : Nat) : Bool :=
  !done.contains i && (predsOf ops i).all fun q => done.contains q
def stillB (ops : List (AOper × List Nat)) (i : Nat) : Bool := match ops[i]? with
  | some (o, _) => o.op.still
  | none => false
def nextStill (ops : List (AOper × List Nat)) (done : List Nat) : Option Nat := (List.range ops.length).find? fun i => readyB ops done i && stillB ops i
def readyMovers (ops : List (AOper × List Nat)) (done : List Nat) : List Nat := (List.range ops.length).filter fun i => readyB ops done i && !stillB ops i

def allL (f : Nat → Prop) : List Nat → Prop
  | [] => True
  | [m] => f m
  | m :: r => f m ∧ allL f r

/-- The loads that are done, and that the operation m may come ahead of: each still tells what it told. -/
def keeps (ops : List (AOper × List Nat)) (m : Nat) (σ : Hp) : List (Nat × (Hp → Prop)) → Prop
  | [] => True
  | (i, c) :: r => if befB ops i m then keeps ops m σ r else c σ ∧ keeps ops m σ r

/-- Operations whose order is open. -/
def wpD (T : Specs) (Q : Env → Hp → Prop) (ops : List (AOper × List Nat)) : Nat → List Nat → List (Nat × (Hp → Prop)) → Env → Hp → Prop
  | 0, _, _, e, σ => Q e σ
  | f + 1, done, chk, e, σ => match nextStill ops done with
    | some i => match ops[i]? with
      | some (o, _) =>
        if wanted o e then match o.op.run e σ with
          | some (v, _) => wpD T Q ops f (i :: done) (if o.op.isLoad then (i, fun σ' => o.op.run e σ' = some (v, σ')) :: chk else chk) (e.putO o.dst v) σ
          | none => False
        else wpD T Q ops f (i :: done) chk (e.putO o.dst undef) σ
      | none => False
    | none => match readyMovers ops done with
      | [] => Q e σ
      | ms => allL (fun m => match ops[m]? with
        | some (o, _) =>
          if wanted o e then runOp T o.op e σ fun v σ' => keeps ops m σ' chk ∧ wpD T Q ops f (m :: done) chk (e.putO o.dst v) σ'
          else wpD T Q ops f (m :: done) chk (e.putO o.dst undef) σ
        | none => False) ms

def recheck (is : List Nat) (σ : Hp) : List (Nat × (Hp → Prop)) → Prop
  | [] => True
  | (i, c) :: r => if is.contains i then c σ ∧ recheck is σ r else recheck is σ r

def moverB (ops : List (AOper × List Nat)) (i : Nat) : Bool := match ops[i]? with
  | some (o, _) => !o.op.still
  | none => false
def keepB (ops : List (AOper × List Nat)) (i : Nat) : Bool := (List.range ops.length).any fun m => moverB ops m && !befB ops i m

/-- The order in which the abstract machine takes them, where there is but one. -/
def mkItems (ops : List (AOper × List Nat)) : Nat → List Nat → List Nat → Option (List SItem)
  | 0, _, _ => some []
  | f + 1, done, loads => match nextStill ops done with
    | some i => match ops[i]? with
      | some (o, _) => (mkItems ops f (i :: done) (if o.op.isLoad then i :: loads else loads)).map (⟨i, o, false, o.op.isLoad && keepB ops i, []⟩ :: ·)
      | none => none
    | none => match readyMovers ops done with
      | [] => some []
      | [m] => match ops[m]? with
        | some (o, _) => (mkItems ops f (m :: done) loads).map (⟨m, o, true, false, loads.filter fun i => !befB ops i m⟩ :: ·)
        | none => none
      | _ => none

/-- Operations in that order. -/
def wpI (T : Specs) (Q : Env → Hp → Prop) : List SItem → List (Nat × (Hp → Prop)) → Env → Hp → Prop
  | [], _, e, σ => Q e σ
  | it :: r, chk, e, σ =>
    if wanted it.o e then
      (if it.mover then runOp T it.o.op e σ fun v σ' => recheck it.chks σ' chk ∧ wpI T Q r chk (e.putO it.o.dst v) σ'
       else match it.o.op.run e σ with
        | some (v, _) => wpI T Q r (if it.keep then (it.idx, fun σ' => it.o.op.run e σ' = some (v, σ')) :: chk else chk) (e.putO it.o.dst v) σ
        | none => False)
    else wpI T Q r chk (e.putO it.o.dst undef) σ

def wpA (T : Specs) : AC → (AExit → Env → Hp → Prop) → Env → Hp → Prop
  | .skip, Q, e, σ => Q .normal e σ
  | .region ops, Q, e, σ => wpOps T (Q .normal) ops e σ
  | .draw ops, Q, e, σ => wpD T (Q .normal) ops ops.length [] [] e σ
  | .sched its, Q, e, σ => wpI T (Q .normal) its [] e σ
  | .seq a b, Q, e, σ => wpA T a (fun x e σ => match x with
    | .normal => wpA T b Q e σ
    | x => Q x e σ) e σ
  | .cond c a b, Q, e, σ => match e.ev c with
    | .bool true => wpA T a Q e σ
    | .bool false => wpA T b Q e σ
    | _ => False
  | .block id b, Q, e, σ => wpA T b (fun x e σ => match x with
    | .exit i => if i = id then Q .normal e σ else Q (.exit i) e σ
    | x => Q x e σ) e σ
  | .loop b, Q, e, σ => ∃ n, wpLoop (wpA T b) Q n e σ
  | .exit id, Q, e, σ => Q (.exit id) e σ
  | .ret, Q, e, σ => Q .ret e σ

def resOf (e : Env) (σ : Hp) : ARes → Option Value
  | .tmp t => some (e t)
  | .cell t => match e t with
    | .pointer (some ⟨b, o, none⟩) => (σ.m b).bind fun x => x.cells[o]?
    | _ => none
  | .cellN t n => match e t with
    | .pointer (some ⟨b, o, none⟩) => (σ.m b).bind fun x => (readN x o n).map fun cs => .agg cs.toArray
    | _ => none
def resL (e : Env) (σ : Hp) : List ARes → Option (List Value)
  | [] => some []
  | r :: rs => match resOf e σ r, resL e σ rs with
    | some v, some vs => some (v :: vs)
    | _, _ => none
def tupleOf : List Value → Value
  | [v] => v
  | vs => .tuple vs.toArray

/-- What a function comes to. -/
def wpF (T : Specs) (f : AFn) : Spec := fun args σ K => args.length ≤ f.ntmps ∧
  wpA T f.body (fun x e σ' => match x with
    | .exit _ => False
    | _ => match resL e σ' f.results with
      | some vs => K (tupleOf vs) σ'
      | none => False) (Env.of args) σ

end Go.Ab
