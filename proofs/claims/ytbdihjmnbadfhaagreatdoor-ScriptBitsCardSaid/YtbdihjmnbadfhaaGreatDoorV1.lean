/- The value machine: the abstract machine's code, run over lists that are values. Definitions alone. -/
import Derived.Test.YtbdihjmnbadfhaaGreatDoorAb18
namespace Go.V
set_option linter.unusedVariables false
set_option linter.unusedSimpArgs false
open Go.Ab

/-- The shape of a thing that lists may hold. -/
inductive Sh where
  | int (k : IntKind)
  | bool
  | str
  | list (s : Sh)
  | pair (a b : Sh)
  deriving DecidableEq

@[reducible] def El : Sh → Type
  | .int _ => Int
  | .bool => Bool
  | .str => List Int
  | .list s => List (El s)
  | .pair a b => El a × El b

/-- How many cells it has. -/
def Sh.w : Sh → Nat
  | .pair a b => a.w + b.w
  | _ => 1

inductive VV where
  | undef
  | bool (b : Bool)
  | int (k : IntKind) (n : Int)
  | str (l : List Int)
  | nilp
  | nils
  | nilf
  | ptr (k o : Nat)
  | pix (k o n i : Nat)
  | pel (k i o : Nat)
  | pin (s : Sh) (x : El s) (o : Nat)
  | lst (s : Sh) (l : List (El s))
  | tgt (s : Sh) (l : List (El s))
  | full (k : Nat)
  | part (k lo n : Nat)
  | it (k : Nat) (l : List Int)
  | bld (k : Nat)
  | fn (f : Nat) (a c : List VV)
  | agg (l : List VV)
  | tup (l : List VV)

inductive Blk where
  | dead
  | cells (es : Nat) (fz : Bool) (l : List VV)
  | arr (s : Sh) (fz : Bool) (l : List (El s))

abbrev Store := List Blk
abbrev VEnv := List VV

def getV : VEnv → Nat → VV
  | [], _ => .undef
  | v :: _, 0 => v
  | _ :: r, n + 1 => getV r n
def putV : VEnv → Nat → VV → VEnv
  | [], 0, v => [v]
  | [], n + 1, v => .undef :: putV [] n v
  | _ :: r, 0, v => v :: r
  | a :: r, n + 1, v => a :: putV r n v
def putO (e : VEnv) (d : Option Nat) (v : VV) : VEnv := match d with
  | some d => putV e d v
  | none => e
def sget : Store → Nat → Blk
  | [], _ => .dead
  | b :: _, 0 => b
  | _ :: r, n + 1 => sget r n
def sput : Store → Nat → Blk → Store
  | [], _, _ => []
  | _ :: r, 0, b => b :: r
  | a :: r, n + 1, b => a :: sput r n b
def nth {α : Type} : List α → Nat → Option α
  | [], _ => none
  | v :: _, 0 => some v
  | _ :: r, n + 1 => nth r n

def bytesI (s : ByteArray) : List Int := s.data.toList.map fun b => (b.toNat : Int)

def ofC1 : Value → VV
  | .bool b => .bool b
  | .int k n => .int k n
  | .string s => .str (bytesI s)
  | .pointer none => .nilp
  | .slice none 0 0 => .nils
  | .nilFunc => .nilf
  | _ => .undef
def ofC : Value → VV
  | .agg cs => .agg (cs.toList.map ofC1)
  | v => ofC1 v
def ev (e : VEnv) : Operand → VV
  | .tmp t => getV e t
  | .const v => ofC v
  | .func f => .fn f [] []
  | .global _ => .undef

/-- One cell, of which it is known that it is one. -/
def oneV : VV → Bool
  | .undef | .agg _ | .tup _ => false
  | _ => true
def cellsV : VV → List VV
  | .agg l => l
  | v => [v]

def toCells : (s : Sh) → El s → List VV
  | .int k, n => [.int k n]
  | .bool, b => [.bool b]
  | .str, l => [.str l]
  | .list s, l => [.lst s l]
  | .pair a b, x => toCells a x.1 ++ toCells b x.2
def flatL (s : Sh) (l : List (El s)) : List VV := l.flatMap (toCells s)

def castEl (s' s : Sh) (x : El s') : Option (El s) := if h : s' = s then some (h ▸ x) else none

/-- A list cut into equal things. -/
def chunk {α : Type} (f : List VV → Option (α × List VV)) : Nat → List VV → Option (List α)
  | _, [] => some []
  | 0, _ :: _ => none
  | n + 1, v :: l => (f (v :: l)).bind fun p => (chunk f n p.2).bind fun r => some (p.1 :: r)

def Blk.frozen : Blk → Bool
  | .dead => true
  | .cells _ z _ => z
  | .arr _ z _ => z

/-- What a slice holds, as a list; f takes a thing off cells. -/
def blkList (s : Sh) (f : List VV → Option (El s × List VV)) : Blk → Option (List (El s))
  | .dead => none
  | .arr s' _ l => castEl (.list s') (.list s) l
  | .cells es _ l => bif Nat.beq es s.w then chunk f l.length l else none
def listOf (S : Store) (s : Sh) (f : List VV → Option (El s × List VV)) : VV → Option (List (El s))
  | .nils => some []
  | .lst s' l => castEl (.list s') (.list s) l
  | .full k => blkList s f (sget S k)
  | .part k lo n => (blkList s f (sget S k)).bind fun l => some ((l.drop lo).take n)
  | _ => none
/-- What a slice that nobody writes holds. -/
def listFz (S : Store) (s : Sh) (f : List VV → Option (El s × List VV)) : VV → Option (List (El s))
  | .full k => bif (sget S k).frozen then listOf S s f (.full k) else none
  | .part k lo n => bif (sget S k).frozen then listOf S s f (.part k lo n) else none
  | v => listOf S s f v
/-- A thing off cells. -/
def ofCells (S : Store) : (s : Sh) → List VV → Option (El s × List VV)
  | .int k, .int k' n :: r => bif decide (k' = k) then some (n, r) else none
  | .bool, .bool b :: r => some (b, r)
  | .str, .str l :: r => some (l, r)
  | .list s, v :: r => (listFz S s (ofCells S s) v).bind fun l => some (l, r)
  | .pair a b, l => (ofCells S a l).bind fun p => (ofCells S b p.2).bind fun q => some ((p.1, q.1), q.2)
  | _, _ => none
def listV (S : Store) (s : Sh) (v : VV) : Option (List (El s)) := listOf S s (ofCells S s) v

def Blk.freeze : Blk → Blk
  | .dead => .dead
  | .cells es _ l => .cells es true l
  | .arr s _ l => .arr s true l
/-- Freezes what a thing refers to as slices. -/
def fzv : Nat → Store → VV → Store
  | 0, S, _ => S
  | n + 1, S, v => match v with
    | .full k => (match sget S k with
      | .cells es _ l => l.foldl (fzv n) (sput S k (.cells es true l))
      | b => sput S k b.freeze)
    | .part k _ _ => (match sget S k with
      | .cells es _ l => l.foldl (fzv n) (sput S k (.cells es true l))
      | b => sput S k b.freeze)
    | _ => S
def fzL (S : Store) (l : List VV) : Store := l.foldl (fzv 3) S
/-- Freezes what the cells of a slice refer to. -/
def fzIn (S : Store) : VV → Store
  | .full k => (match sget S k with
    | .cells _ _ l => fzL S l
    | _ => S)
  | .part k _ _ => (match sget S k with
    | .cells _ _ l => fzL S l
    | _ => S)
  | _ => S

section
variable {β : Type}
def gd (b : Bool) (x : Option β) : Option β := cond b x none
def ix (i : Int) (n : Nat) : Option Nat := cond (decide (0 ≤ i) && decide (i < n)) (some i.toNat) none
def rd {α : Type} (l : List α) (i : Int) : Option α := cond (decide (0 ≤ i)) l[i.toNat]? none

/-- One of two cells. -/
def selV (p : Bool) : VV → VV → Option VV
  | .int k x, .int k' y => cond (decide (k = k')) (some (.int k (cond p x y))) none
  | .bool x, .bool y => some (.bool (cond p x y))
  | .str x, .str y => some (.str (cond p x y))
  | _, _ => none
def pickK (p : Bool) (x y : VV) (S : Store) (k : VV → Store → Option β) : Option β := match selV p x y with
  | some v => k v S
  | none => cond p (k x S) (k y S)

def ints? : IntKind → List VV → Option (List Int)
  | _, [] => some []
  | k, .int k' n :: r => cond (decide (k' = k)) ((ints? k r).bind fun l => some (n :: l)) none
  | _, _ => none
def bools? : List VV → Option (List Bool)
  | [] => some []
  | .bool b :: r => (bools? r).bind fun l => some (b :: l)
  | _ => none
def strs? : List VV → Option (List (List Int))
  | [] => some []
  | .str b :: r => (strs? r).bind fun l => some (b :: l)
  | _ => none
/-- One of several cells. -/
def pickL (S : Store) (k : VV → Store → Option β) : List VV → Nat → Option β
  | [], _ => none
  | v :: r, i => cond (Nat.beq i 0) (k v S) (pickL S k r (i - 1))
def anyOf (cs : List VV) (i : Nat) (S : Store) (k : VV → Store → Option β) : Option β := match cs with
  | .int kd n :: r => (match ints? kd r with
    | some l => k (.int kd ((n :: l).getD i 0)) S
    | none => none)
  | .bool b :: r => (match bools? r with
    | some l => k (.bool ((b :: l).getD i false)) S
    | none => none)
  | .str b :: r => (match strs? r with
    | some l => k (.str ((b :: l).getD i [])) S
    | none => none)
  | cs => pickL S k cs i
/-- One of several cells is another one. -/
def setAny (v : VV) : List VV → Nat → Nat → Option (List VV)
  | [], _, _ => some []
  | c :: r, i, j => (selV (Nat.beq i j) v c).bind fun x => (setAny v r i (j + 1)).bind fun l => some (x :: l)

def setC (cells : List VV) (o : Nat) : List VV → List VV
  | [] => cells
  | v :: vs => setC (cells.set o v) (o + 1) vs
def fillV (cells : List VV) : List (Nat × Nat × VV) → Option (List VV)
  | [] => some cells
  | (off, size, v) :: rest =>
    cond (Nat.beq (cellsV v).length size && Nat.ble (off + size) cells.length && (cellsV v).all oneV) (fillV (cells.take off ++ cellsV v ++ cells.drop (off + size)) rest) none
def partsV (e : VEnv) (l : List (Nat × Nat × Operand)) : List (Nat × Nat × VV) := l.map fun (o, s, x) => (o, s, ev e x)
def allOne (l : List VV) : Bool := l.all oneV

/-- What stands in memory from an address on: n cells of it. -/
def readK (S : Store) (n : Nat) (agg : Bool) (a : VV) (k : VV → Store → Option β) : Option β :=
  let out (cs : List VV) (o : Nat) : Option β := cond agg (gd (Nat.ble (o + n) cs.length) (k (.agg ((cs.drop o).take n)) S)) (match nth cs o with
    | some v => k v S
    | none => none)
  match a with
  | .ptr b o => (match sget S b with
    | .cells _ _ l => out l o
    | _ => none)
  | .pix b o m i => (match sget S b with
    | .cells _ _ l => gd (!agg && Nat.ble (o + m) l.length) (anyOf ((l.drop o).take m) i S k)
    | _ => none)
  | .pel b i o => (match sget S b with
    | .arr s _ l => (l[i]?).bind fun x => out (toCells s x) o
    | _ => none)
  | .pin s x o => out (toCells s x) o
  | _ => none

def storeK (S : Store) (a : VV) (cs : List VV) (k : Store → Option β) : Option β := match a with
  | .ptr b o => (match sget S b with
    | .cells es false l => gd (Nat.ble (o + cs.length) l.length) (k (sput S b (.cells es false (setC l o cs))))
    | _ => none)
  | .pix b o m i => (match sget S b, cs with
    | .cells es false l, [v] => gd (Nat.ble (o + m) l.length) (match setAny v ((l.drop o).take m) i 0 with
      | some l' => k (sput S b (.cells es false (l.take o ++ l' ++ l.drop (o + m))))
      | none => none)
    | _, _ => none)
  | .pel b i o => (match sget (fzL S cs) b with
    | .arr s false l => (l[i]?).bind fun x => (match ofCells (fzL S cs) s (setC (toCells s x) o cs) with
      | some (y, []) => gd (Nat.ble (o + cs.length) s.w) (k (sput (fzL S cs) b (.arr s false (l.set i y))))
      | _ => none)
    | _ => none)
  | _ => none

def bitV (k : IntKind) (f : BitVec k.bits → BitVec k.bits → BitVec k.bits) (x y : Int) : Int := k.wrap (f (BitVec.ofInt k.bits x) (BitVec.ofInt k.bits y)).toNat
def arithK (op : BinOp) (kd : IntKind) (x y : Int) (k : VV → Option β) : Option β := match op with
  | .add => k (.int kd (kd.wrap (x + y)))
  | .sub => k (.int kd (kd.wrap (x - y)))
  | .mul => k (.int kd (kd.wrap (x * y)))
  | .quo => gd (decide (y ≠ 0)) (k (.int kd (kd.wrap (x.tdiv y))))
  | .rem => gd (decide (y ≠ 0)) (k (.int kd (x.tmod y)))
  | .and => k (.int kd (bitV kd (· &&& ·) x y))
  | .or => k (.int kd (bitV kd (· ||| ·) x y))
  | .xor => k (.int kd (bitV kd (· ^^^ ·) x y))
  | .andNot => k (.int kd (bitV kd (fun a b => a &&& ~~~b) x y))
  | .eql => k (.bool (decide (x = y)))
  | .neq => k (.bool (decide (x ≠ y)))
  | .lss => k (.bool (decide (x < y)))
  | .leq => k (.bool (decide (x ≤ y)))
  | .gtr => k (.bool (decide (y < x)))
  | .geq => k (.bool (decide (y ≤ x)))
  | _ => none
def shiftK (op : BinOp) (kd : IntKind) (x y : Int) (k : VV → Option β) : Option β := match op with
  | .shl => gd (decide (0 ≤ y)) (k (.int kd (kd.wrap (x * 2 ^ (min y.toNat kd.bits)))))
  | .shr => gd (decide (0 ≤ y)) (k (.int kd (x.fdiv (2 ^ (min y.toNat kd.bits)))))
  | _ => none
/-- Two texts may stand side by side. -/
def sfits (a b : Nat) : Bool := Nat.ble (a + b) 9223372036854775807
def strK (op : BinOp) (x y : List Int) (k : VV → Option β) : Option β := match op with
  | .add => gd (sfits x.length y.length) (k (.str (x ++ y)))
  | .eql => k (.bool (decide (x = y)))
  | .neq => k (.bool (decide (x ≠ y)))
  | _ => none
def binK (op : BinOp) (x y : VV) (k : VV → Option β) : Option β := match x, y with
  | .int kx a, .int ky b => cond (isShift op) (shiftK op kx a b k) (cond (decide (kx = ky)) (arithK op kx a b k) none)
  | .str a, .str b => cond (isShift op) none (strK op a b k)
  | _, _ => none

def negB (neg p : Bool) : Bool := cond neg (!p) p
def Blk.live : Blk → Bool
  | .dead => false
  | _ => true
def isPtr (S : Store) : VV → Bool
  | .ptr k _ => (sget S k).live
  | .pix k _ _ _ => (sget S k).live
  | .pel k _ _ => (sget S k).live
  | .pin _ _ _ => true
  | _ => false
def eqvV (S : Store) : Nat → VV → VV → Option Bool
  | 0, .bool a, .bool b => some (a == b)
  | 1, .nilp, .nilp => some true
  | 1, .nilp, v => cond (isPtr S v) (some false) none
  | 1, v, .nilp => cond (isPtr S v) (some false) none
  | 2, .nils, .nils => some true
  | 3, .nilf, .nilf => some true
  | 3, .nilf, .fn _ _ _ => some false
  | 3, .fn _ _ _, .nilf => some false
  | _, _, _ => none
def eqC1 : Nat → VV → VV → Option Bool
  | 0, .bool a, .bool b => some (a == b)
  | 1, .int k a, .int k' b => cond (decide (k = k')) (some (decide (a = b))) none
  | 2, .str a, .str b => some (decide (a = b))
  | _, _, _ => none
def eqCL : List Nat → List VV → List VV → Option Bool
  | [], [], [] => some true
  | [k], [a], [b] => eqC1 k a b
  | k :: ks, a :: r, b :: s => (eqC1 k a b).bind fun p => (eqCL ks r s).bind fun q => some (p && q)
  | _, _, _ => none
def unK (op : UnOp) (x : VV) (k : VV → Option β) : Option β := match op, x with
  | .neg, .int kd n => k (.int kd (kd.wrap (0 - n)))
  | .xor, .int kd n => k (.int kd (kd.wrap (BitVec.ofInt kd.bits (if kd.signed then -1 else kd.max) ^^^ BitVec.ofInt kd.bits n).toNat))
  | .not, .bool b => k (.bool !b)
  | _, _ => none

def intV? : VV → Option Int
  | .int _ n => some n
  | _ => none
/-- How much a slice holds. -/
def lenOf (S : Store) : VV → Option Nat
  | .nils => some 0
  | .lst _ l => some l.length
  | .full b => (match sget S b with
    | .arr _ _ l => some l.length
    | .cells es _ l => some (l.length / es)
    | .dead => none)
  | .part b _ n => cond (sget S b).live (some n) none
  | .str l => some l.length
  | _ => none
/-- A list cut. -/
def cutL {α : Type} (l : List α) (lo hi : Int) : List α := (l.take hi.toNat).drop lo.toNat
def lowOf : Option VV → Option Int
  | none => some 0
  | some v => intV? v
def highOf (n : Nat) : Option VV → Option Int
  | none => some n
  | some v => intV? v
def cutG (lo hi : Int) (n : Nat) : Bool := decide (0 ≤ lo) && decide (lo ≤ hi) && decide (hi ≤ n)
def sliceK (S : Store) (es : Nat) (x : VV) (lo hi : Option VV) (k : VV → Store → Option β) : Option β :=
  match lenOf S x with
  | none => none
  | some n => match lowOf lo, highOf n hi with
    | some a, some b => (match x with
      | .nils => gd (cutG a b n) (k .nils S)
      | .lst s l => gd (Nat.beq es s.w) (match lo, hi with
        | none, none => k (.lst s l) S
        | _, _ => gd (cutG a b n) (k (.lst s (cutL l a b)) S))
      | .full q => (match sget S q with
        | .arr s _ _ => gd (Nat.beq es s.w) (gd (cutG a b n) (k (.part q a.toNat (b.toNat - a.toNat)) S))
        | .cells es' _ _ => gd (Nat.beq es es' && Nat.ble 1 es) (gd (cutG a b n) (k (.part q a.toNat (b.toNat - a.toNat)) S))
        | .dead => none)
      | .part q o _ => (match sget S q with
        | .arr s _ _ => gd (Nat.beq es s.w) (gd (cutG a b n) (k (.part q (o + a.toNat) (b.toNat - a.toNat)) S))
        | .cells es' _ _ => gd (Nat.beq es es' && Nat.ble 1 es) (gd (cutG a b n) (k (.part q (o + a.toNat) (b.toNat - a.toNat)) S))
        | .dead => none)
      | _ => none)
    | _, _ => none
def sliceStrK (S : Store) (x : VV) (lo hi : Option VV) (k : VV → Store → Option β) : Option β := match x with
  | .str l => (match lowOf lo, highOf l.length hi with
    | some a, some b => gd (cutG a b l.length) (k (.str (cutL l a b)) S)
    | _, _ => none)
  | _ => none
/-- An array cut, at places that are known. -/
def sliceArrK (S : Store) (es n : Nat) (x : VV) (lo hi : Option VV) (k : VV → Store → Option β) : Option β := match x with
  | .ptr b o => (match sget S b with
    | .cells es' false l => (match lowOf lo, highOf n hi with
      | some a, some c => gd (Nat.beq es es' && Nat.ble 1 es && Nat.beq (o % es) 0 && Nat.ble (o + n * es) l.length && cutG a c n && decide (a < n)) (k (.part b (o / es + a.toNat) (c.toNat - a.toNat)) S)
      | _, _ => none)
    | .arr s false l => (match lowOf lo, highOf n hi with
      | some a, some c => gd (Nat.beq es s.w && Nat.beq o 0 && Nat.ble n l.length && cutG a c n && decide (a < n)) (k (.part b a.toNat (c.toNat - a.toNat)) S)
      | _, _ => none)
    | _ => none)
  | _ => none
/-- A new variable: an array of many bytes is a list. -/
def isZ8 : Value → Bool
  | .int .u8 n => decide (n = 0)
  | _ => false
def bytesZ (es : Nat) (z : List Value) : Bool := Nat.beq es 1 && Nat.ble 20 z.length && z.all isZ8
def allocB (es : Nat) (z : List Value) : Blk := cond (bytesZ es z) (.arr (.int .u8) false (List.replicate z.length (0 : Int))) (.cells es false (z.map ofC1))
def offV (S : Store) (n : Nat) : VV → Option VV
  | .ptr b o => cond (sget S b).live (some (.ptr b (o + n))) none
  | .pel b i o => cond (sget S b).live (some (.pel b i (o + n))) none
  | .pin s x o => some (.pin s x (o + n))
  | .pix b o m i => cond (sget S b).live (cond (Nat.beq n 0) (some (.pix b o m i)) none) none
  | _ => none
def idxK (S : Store) (es : Nat) (x i : VV) (k : VV → Store → Option β) : Option β := match i with
  | .int _ i => (match x with
    | .lst s l => gd (Nat.beq es s.w) ((rd l i).bind fun y => k (.pin s y 0) S)
    | .full b => (match sget S b with
      | .arr s _ l => gd (Nat.beq es s.w) ((ix i l.length).bind fun j => k (.pel b j 0) S)
      | .cells es' _ l => gd (Nat.beq es es' && Nat.ble 1 es) ((ix i (l.length / es)).bind fun j => cond (Nat.beq es 1) (k (.pix b 0 l.length j) S) (k (.ptr b (j * es)) S))
      | .dead => none)
    | .part b o n => (match sget S b with
      | .arr s _ _ => gd (Nat.beq es s.w) ((ix i n).bind fun j => k (.pel b (o + j) 0) S)
      | .cells es' _ _ => gd (Nat.beq es es' && Nat.ble 1 es) ((ix i n).bind fun j => cond (Nat.beq es 1) (k (.pix b o n j) S) (k (.ptr b ((o + j) * es)) S))
      | .dead => none)
    | _ => none)
  | _ => none
def idxAK (S : Store) (ln es : Nat) (x i : VV) (k : VV → Store → Option β) : Option β := match x, i with
  | .ptr b o, .int _ i => gd (sget S b).live ((ix i ln).bind fun j => cond (Nat.beq es 1) (k (.pix b o ln j) S) (k (.ptr b (o + j * es)) S))
  | _, _ => none

def extractL (l : List VV) (a n : Nat) : List VV := (l.drop a).take n

/-- How much memory a list may take. -/
def fits (n bytes : Nat) : Bool := decide (n * bytes ≤ 140737488355328) && Nat.ble 1 bytes

/-- A list that grows: what it holds so far. -/
inductive Base where
  | none
  | cells (es : Nat) (l : List VV)
  | arr (s : Sh) (l : List (El s))
def baseOf (S : Store) (es : Nat) : VV → Option (Base × Option Nat)
  | .nils => some (.none, none)
  | .full b => (match sget S b with
    | .arr s false l => cond (Nat.beq es s.w) (some (.arr s l, some b)) Option.none
    | .cells es' false l => cond (Nat.beq es es' && Nat.ble 1 es) (some (.cells es l, some b)) Option.none
    | _ => Option.none)
  | .part b 0 n => (match sget S b with
    | .arr s false l => cond (Nat.beq es s.w) (some (.arr s (l.take n), some b)) Option.none
    | .cells es' false l => cond (Nat.beq es es' && Nat.ble 1 es) (some (.cells es (l.take (n * es)), some b)) Option.none
    | _ => Option.none)
  | _ => Option.none
/-- What comes behind: cells that stand beside each other, or a list. -/
inductive More where
  | cells (l : List VV)
  | lst (s : Sh) (l : List (El s))
def moreOf (S : Store) (es : Nat) : VV → Option More
  | .nils => some (.cells [])
  | .lst s l => cond (Nat.beq es s.w) (some (.lst s l)) none
  | .str l => cond (Nat.beq es 1) (some (.lst (.int .u8) l)) none
  | .full b => (match sget S b with
    | .arr s _ l => cond (Nat.beq es s.w) (some (.lst s l)) none
    | .cells es' _ l => cond (Nat.beq es es' && Nat.ble 1 es) (some (.cells l)) none
    | _ => none)
  | .part b o n => (match sget S b with
    | .arr s _ l => cond (Nat.beq es s.w) (some (.lst s ((l.drop o).take n))) none
    | .cells es' _ l => cond (Nat.beq es es' && Nat.ble 1 es) (some (.cells ((l.drop (o * es)).take (n * es)))) none
    | _ => none)
  | _ => none
def killO (S : Store) : Option Nat → Store
  | none => S
  | some b => sput S b .dead
def typed (S : Store) (s : Sh) (l : List VV) : Option (List (El s)) := chunk (ofCells S s) l.length l
def grow (S : Store) (bytes : Nat) (s : Sh) (kill : Option Nat) (a b : List (El s)) (k : VV → Store → Option β) : Option β :=
  gd (fits (a.length + b.length) bytes) (k (.full S.length) (killO S kill ++ [.arr s false (a ++ b)]))
def appendM (S : Store) (es bytes : Nat) (bo : Option (Base × Option Nat)) (mo : Option More) (k : VV → Store → Option β) : Option β :=
  match bo, mo with
  | some (.arr s l, kill), some (.lst s' l') => (castEl (.list s') (.list s) l').bind fun l2 => grow S bytes s kill l l2 k
  | some (.arr s l, kill), some (.cells cs) => (match sget (fzL S cs) (kill.getD 0) with
    | .arr _ false _ => (typed (fzL S cs) s cs).bind fun l2 => grow (fzL S cs) bytes s kill l l2 k
    | _ => none)
  | some (.cells _ l, kill), some (.lst s l') => (match sget (fzL S l) (kill.getD 0) with
    | .cells _ false _ => (typed (fzL S l) s l).bind fun l1 => grow (fzL S l) bytes s kill l1 l' k
    | _ => none)
  | some (.none, kill), some (.lst s l') => grow S bytes s kill [] l' k
  | some (.cells es l, kill), some (.cells cs) => gd (fits ((l.length + cs.length) / es) bytes && allOne cs) (k (.full S.length) (killO S kill ++ [.cells es false (l ++ cs)]))
  | some (.none, kill), some (.cells cs) => gd (fits (cs.length / es) bytes && Nat.ble 1 es && allOne cs) (k (.full S.length) (killO S kill ++ [.cells es false cs]))
  | _, _ => none

def appendK (S : Store) (es bytes : Nat) (x y : VV) (k : VV → Store → Option β) : Option β := appendM S es bytes (baseOf S es x) (moreOf S es y) k
/-- A slice that is cut with no room behind it: a list by itself. -/
def tightSrc (S : Store) : VV → Option (Store × Base)
  | .lst s l => some (S, .arr s l)
  | .full q => (match sget S q with
    | .arr s _ l => some (sput S q (sget S q).freeze, .arr s l)
    | _ => none)
  | _ => none
def sliceXK (S : Store) (x hi mx : VV) (k : VV → Store → Option β) : Option β := match hi, mx with
  | .int _ h, .int _ m => gd (decide (h = m)) (match x with
    | .nils => gd (decide (h = 0)) (k .nils S)
    | v => (match tightSrc S v with
      | some (S1, .arr s l) => gd (cutG 0 h l.length) (k (.tgt s (l.take h.toNat)) S1)
      | _ => none))
  | _, _ => none
/-- Such a slice grows: it is copied. -/
def tightK (S : Store) (es bytes : Nat) (s : Sh) (l : List (El s)) (mo : Option More) (k : VV → Store → Option β) : Option β := match mo with
  | some (.lst s' l') => (castEl (.list s') (.list s) l').bind fun l2 => gd (Nat.beq es s.w && Nat.ble 1 l2.length) (grow S bytes s none l l2 k)
  | some (.cells cs) => (typed (fzL S cs) s cs).bind fun l2 => gd (Nat.beq es s.w && Nat.ble 1 l2.length) (grow (fzL S cs) bytes s none l l2 k)
  | none => none
def appendVK (S : Store) (es bytes : Nat) (x y : VV) (k : VV → Store → Option β) : Option β := match x with
  | .tgt s l => tightK S es bytes s l (moreOf S es y) k
  | x => appendK S es bytes x y k
/-- The rune at a place, and how many bytes it has. -/
def runeN (l : List Int) (i : Nat) : Nat × Nat :=
  let at' (k : Nat) : Nat := (l.getD (i + k) 0).toNat
  let cont (k : Nat) : Bool := i + k < l.length && at' k / 64 == 2
  let b0 := at' 0
  if b0 < 0x80 then (b0, 1)
  else if b0 / 32 == 6 && cont 1 then
    let c := (b0 % 32) * 64 + at' 1 % 64
    if c ≥ 0x80 then (c, 2) else (Utf8.runeError, 1)
  else if b0 / 16 == 14 && cont 1 && cont 2 then
    let c := (b0 % 16) * 4096 + (at' 1 % 64) * 64 + at' 2 % 64
    if c ≥ 0x800 && Utf8.valid c then (c, 3) else (Utf8.runeError, 1)
  else if b0 / 8 == 30 && cont 1 && cont 2 && cont 3 then
    let c := (b0 % 8) * 262144 + (at' 1 % 64) * 4096 + (at' 2 % 64) * 64 + at' 3 % 64
    if c ≥ 0x10000 && Utf8.valid c then (c, 4) else (Utf8.runeError, 1)
  else (Utf8.runeError, 1)
def runeC (l : List Int) (p : Int) : Int := ((runeN l p.toNat).1 : Nat)
def runeW (l : List Int) (p : Int) : Int := ((p.toNat + (runeN l p.toNat).2 : Nat) : Int)
def utf8I (n : Int) : List Int := bytesI (Utf8.encode n)
def byteI (n : Int) : Int := ((UInt8.ofNat n.toNat).toNat : Nat)
def nextK (S : Store) (v : VV) (k : VV → Store → Option β) : Option β := match v with
  | .it q l => (match sget S q with
    | .cells es false (.int .i64 p :: r) => gd (decide (0 ≤ p) && Nat.ble 1 es) (cond (decide (p < l.length)) (k (.tup [.bool true, .int .i64 p, .int .i32 (runeC l p)]) (sput S q (.cells es false (.int .i64 (runeW l p) :: r)))) (k (.tup [.bool false]) S))
    | _ => none)
  | _ => none
/-- A block of one's own is marked behind its end. -/
def markK (S : Store) (v : VV) (k : VV → Store → Option β) : Option β := match v with
  | .full q => (match sget S q with
    | .cells _ false (_ :: _) => k (.full q) S
    | _ => none)
  | _ => none
def strOfK (S : Store) (v : VV) (k : VV → Store → Option β) : Option β := match v with
  | .str _ => none
  | v => (match moreOf S 1 v with
    | some (.lst s l) => (castEl (.list s) (.list (.int .u8)) l).bind fun l2 => k (.str (l2.map byteI)) S
    | some (.cells cs) => (ints? .u8 cs).bind fun l => k (.str (l.map byteI)) S
    | none => none)
def strRK (S : Store) (v : VV) (k : VV → Store → Option β) : Option β := match v with
  | .str _ => none
  | v => (match moreOf S 1 v with
    | some (.lst s l) => (castEl (.list s) (.list (.int .i32)) l).bind fun l2 => k (.str (l2.flatMap utf8I)) S
    | some (.cells cs) => (ints? .i32 cs).bind fun l => k (.str (l.flatMap utf8I)) S
    | none => none)
def runesL : Nat → List Int → Nat → List Int
  | 0, _, _ => []
  | b + 1, l, i => if i < l.length then (((runeN l i).1 : Nat) : Int) :: runesL b l (i + (runeN l i).2) else []
/-- A text's runes. -/
def runesI (l : List Int) : List Int := runesL l.length l 0
def runesK (S : Store) (v : VV) (k : VV → Store → Option β) : Option β := match v with
  | .str l => gd (Nat.ble l.length 70368744177664) (k (.full S.length) (S ++ [.arr (.int .i32) false (runesI l)]))
  | _ => none
/-- A list of which a stretch is another one. -/
def blit {α : Type} (l : List α) (o n : Nat) (m : List α) : List α := l.take o ++ (m.take n ++ l.drop (o + min n m.length))
def overI (kd : IntKind) (m : List Int) : Nat → List VV → Option (List VV)
  | _, [] => some []
  | j, .int k n :: r => cond (decide (k = kd)) ((overI kd m (j + 1) r).bind fun l => some (.int k (m.getD j n) :: l)) none
  | _, _ => none
def copyK (S : Store) (es : Nat) (d y : VV) (k : VV → Store → Option β) : Option β :=
  let go (b o n : Nat) : Option β := match sget S b, moreOf S es y with
    | .arr s false l, some (.lst s' l') => (castEl (.list s') (.list s) l').bind fun l2 => gd (Nat.beq es s.w) (k (.int .i64 (min l2.length n : Nat)) (sput S b (.arr s false (blit l o n l2))))
    | .arr s false l, some (.cells cs) => (ints? .u64 cs).bind fun m => (castEl (.list (.int .u64)) (.list s) m).bind fun l2 => gd (Nat.beq es s.w) (k (.int .i64 (min l2.length n : Nat)) (sput S b (.arr s false (blit l o n l2))))
    | .cells 1 false l, some (.lst (.int kd) m) => gd (Nat.beq es 1 && Nat.ble (o + n) l.length) (match overI kd m 0 ((l.drop o).take n) with
      | some c => k (.int .i64 (min m.length n : Nat)) (sput S b (.cells 1 false (l.take o ++ c ++ l.drop (o + n))))
      | none => none)
    | _, _ => none
  match d with
  | .full b => (match lenOf S d with
    | some n => go b 0 n
    | none => none)
  | .part b o n => go b o n
  | _ => none

def shOfC : List Value → Option Sh
  | [.int k 0] => some (.int k)
  | [.bool false] => some .bool
  | .int k 0 :: r => (shOfC r).bind fun s => some (.pair (.int k) s)
  | .bool false :: r => (shOfC r).bind fun s => some (.pair .bool s)
  | _ => none
def zeroEl : (s : Sh) → El s
  | .int _ => (0 : Int)
  | .bool => false
  | .str => []
  | .list _ => []
  | .pair a b => (zeroEl a, zeroEl b)
def makeK (S : Store) (es bytes : Nat) (z : List Value) (l c : VV) (k : VV → Store → Option β) : Option β := match l, c, shOfC z with
  | .int _ l, .int _ c, some s => gd (Nat.beq es s.w && decide (0 ≤ l) && decide (l ≤ c) && decide (bytes * c ≤ 140737488355328) && Nat.ble 1 bytes) (k (.full S.length) (S ++ [.arr s false (List.replicate l.toNat (zeroEl s))]))
  | _, _, _ => none
/-- Zeros that come behind. -/
def zeroMore (es : Nat) (z : List Value) (l : Int) : Option More := match shOfC z with
  | some s => cond (Nat.beq es s.w) (some (.lst s (List.replicate l.toNat (zeroEl s)))) none
  | none => none
def zeroFits (bytes : Nat) (l : Int) : Bool := decide (0 ≤ l) && (decide (l ≤ 9223372036854775807) && decide (l * (bytes : Int) ≤ 281474976710656))
def appendZK (S : Store) (es bytes : Nat) (z : List Value) (x l : VV) (k : VV → Store → Option β) : Option β := match l with
  | .int _ l => gd (zeroFits bytes l) (appendM S es bytes (baseOf S es x) (zeroMore es z l) k)
  | _ => none
end
end Go.V
