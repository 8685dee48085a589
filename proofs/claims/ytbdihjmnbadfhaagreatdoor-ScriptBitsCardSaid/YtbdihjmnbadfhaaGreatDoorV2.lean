/- The value machine: states that are told by lists of typed things, calls, code. Definitions alone. -/
import Derived.Test.YtbdihjmnbadfhaaGreatDoorV1
namespace Go.V
set_option linter.unusedVariables false
set_option linter.unusedSimpArgs false
open Go.Ab

/-- The form of a value; its leaves are open. -/
inductive Sk where
  | undef
  | leaf (s : Sh)
  | cint (k : IntKind) (n : Int)
  | nilp
  | nils
  | nilf
  | ptr (j o : Nat)
  | full (j : Nat)
  | pin (s : Sh) (o : Nat)
  | fn (f : Nat) (a c : List Sk)
  | agg (l : List Sk)
  | tup (l : List Sk)
/-- The form of a block. -/
inductive OSk where
  | dead
  | cells (es : Nat) (ro : Bool) (l : List Sk)
  | arr (ro : Bool) (s : Sh)
structure Leaf where
  s : Sh
  v : El s
/-- Where a block of the form is taken from: a block, of which perhaps just the first elements. -/
structure Src where
  k : Nat
  cut : Option Nat
structure DSt where
  m : List (Option Src)
  ls : List Leaf
  lent : List Nat

def DSt.push (st : DSt) (s : Sh) (v : El s) : DSt := { st with ls := st.ls ++ [⟨s, v⟩] }
def DSt.lend (st : DSt) : VV → DSt
  | .full k => { st with lent := k :: st.lent }
  | .part k _ _ => { st with lent := k :: st.lent }
  | _ => st
/-- Blocks below N are told by their numbers; those from N on are found where the value says, in their order. -/
def DSt.link (N : Nat) (st : DSt) (j : Nat) (x : Option Src) : Option DSt :=
  cond (Nat.blt j N) (match x with
    | some ⟨k, none⟩ => cond (Nat.beq k j) (some st) none
    | _ => none)
  (match nth st.m (j - N) with
  | some (some ⟨k, none⟩) => (match x with
    | some ⟨k', none⟩ => cond (Nat.beq k k') (some st) none
    | _ => none)
  | some _ => none
  | none => cond (Nat.beq (j - N) st.m.length) (some { st with m := st.m ++ [x] }) none)

mutual
def dec (S : Store) (N : Nat) : Sk → VV → DSt → Option DSt
  | .undef, _, st => some st
  | .leaf s, v, st => (match s, v with
    | .int k, .int k' n => cond (decide (k' = k)) (some (st.push (.int k) n)) none
    | .bool, .bool b => some (st.push .bool b)
    | .str, .str l => some (st.push .str l)
    | .list s, v => (listV S s v).bind fun l => some ((st.lend v).push (.list s) l)
    | _, _ => none)
  | .cint k n, .int k' n', st => cond (decide (k' = k) && decide (n' = n)) (some st) none
  | .nilp, .nilp, st => some st
  | .nils, .nils, st => some st
  | .nilf, .nilf, st => some st
  | .ptr j o, .ptr k o', st => cond (Nat.beq o o') (st.link N j (some ⟨k, none⟩)) none
  | .full j, v, st => (match v with
    | .full k => st.link N j (some ⟨k, none⟩)
    | .part k 0 n => st.link N j (some ⟨k, some n⟩)
    | .nils => st.link N j none
    | _ => none)
  | .pin s o, .pin s' x o', st => cond (Nat.beq o o') ((castEl s' s x).bind fun y => some (st.push s y)) none
  | .fn f a c, .fn f' a' c', st => cond (Nat.beq f f') ((decL S N a a' st).bind fun st1 => decL S N c c' st1) none
  | .agg l, .agg l', st => decL S N l l' st
  | .tup l, .tup l', st => decL S N l l' st
  | _, _, _ => none
def decL (S : Store) (N : Nat) : List Sk → List VV → DSt → Option DSt
  | [], [], st => some st
  | k :: r, v :: r', st => (dec S N k v st).bind fun st1 => decL S N r r' st1
  | _, _, _ => none
end

def cutBy {α : Type} : Option Nat → List α → List α
  | none, l => l
  | some n, l => l.take n
/-- The block of a form. -/
def decO (S : Store) (N : Nat) : OSk → Option Src → DSt → Option DSt
  | .dead, _, st => some st
  | .cells es ro l, some ⟨k, none⟩, st => (match sget S k with
    | .cells es' fz cs => cond (Nat.beq es es' && (ro || !fz)) (decL S N l cs (cond ro { st with lent := k :: st.lent } st)) none
    | _ => none)
  | .arr ro s, none, st => cond ro none (some (st.push (.list s) []))
  | .arr ro s, some ⟨k, cut⟩, st => cond (ro || !(sget S k).frozen) ((listV S s (.full k)).bind fun l => some ((cond ro { st with lent := k :: st.lent } st).push (.list s) (cutBy cut l))) none
  | _, _, _ => none
def decFix (S : Store) (N : Nat) : List OSk → List Nat → DSt → Option DSt
  | [], [], st => some st
  | o :: r, j :: js, st => (decO S N o (some ⟨j, none⟩) st).bind fun st1 => decFix S N r js st1
  | _, _, _ => none
def decFree (S : Store) (N : Nat) : List OSk → Nat → DSt → Option DSt
  | [], i, st => cond (Nat.beq i st.m.length) (some st) none
  | o :: r, i, st => (match nth st.m i with
    | some x => (decO S N o x st).bind fun st1 => decFree S N r (i + 1) st1
    | none => none)

/-- The blocks are all different, and what may be written is lent to nobody. -/
def OSk.ro : OSk → Bool
  | .cells _ ro _ => ro
  | .arr ro _ => ro
  | .dead => false
def memN (k : Nat) : List Nat → Bool
  | [] => false
  | a :: r => cond (Nat.beq a k) true (memN k r)
def apart : List Nat → Bool
  | [] => true
  | a :: r => cond (memN a r) false (apart r)
def ksOf : List (Option Src) → List Nat
  | [] => []
  | none :: r => ksOf r
  | some x :: r => x.k :: ksOf r
def wrOf : List OSk → List (Option Src) → List Nat
  | o :: r, some x :: s => cond o.ro (wrOf r s) (x.k :: wrOf r s)
  | _ :: r, none :: s => wrOf r s
  | _, _ => []
def freeOf (w : List Nat) (l : List Nat) : Bool := w.all fun k => !memN k l

/-- A state's form: values, blocks that stay where they are, blocks that are found. -/
structure SSk where
  vals : List Sk
  fix : List OSk
  free : List OSk
def decSt (S : Store) (N : Nat) (fx : List Nat) (sk : SSk) (vals : List VV) : Option DSt :=
  (decL S N sk.vals vals ⟨[], [], []⟩).bind fun st => (decFix S N sk.fix fx st).bind fun st1 => (decFree S N sk.free 0 st1).bind fun st2 =>
    cond (apart (fx ++ ksOf st2.m) && freeOf (fx ++ wrOf sk.free st2.m) st2.lent) (some st2) none

mutual
def enc (f : Nat → Nat) : Sk → List Leaf → Option (VV × List Leaf)
  | .undef, ls => some (.undef, ls)
  | .leaf s, x :: ls => (castEl x.s s x.v).bind fun (y : El s) => some ((match s, y with
    | .int k, n => .int k n
    | .bool, b => .bool b
    | .str, l => .str l
    | .list s, l => .lst s l
    | .pair _ _, _ => .undef), ls)
  | .cint k n, ls => some (.int k n, ls)
  | .nilp, ls => some (.nilp, ls)
  | .nils, ls => some (.nils, ls)
  | .nilf, ls => some (.nilf, ls)
  | .ptr j o, ls => some (.ptr (f j) o, ls)
  | .full j, ls => some (.full (f j), ls)
  | .pin s o, x :: ls => (castEl x.s s x.v).bind fun (y : El s) => some (.pin s y o, ls)
  | .fn g a c, ls => (encL f a ls).bind fun p => (encL f c p.2).bind fun q => some (.fn g p.1 q.1, q.2)
  | .agg l, ls => (encL f l ls).bind fun p => some (.agg p.1, p.2)
  | .tup l, ls => (encL f l ls).bind fun p => some (.tup p.1, p.2)
  | _, _ => none
def encL (f : Nat → Nat) : List Sk → List Leaf → Option (List VV × List Leaf)
  | [], ls => some ([], ls)
  | k :: r, ls => (enc f k ls).bind fun p => (encL f r p.2).bind fun q => some (p.1 :: q.1, q.2)
end
def encO (f : Nat → Nat) : OSk → List Leaf → Option (Blk × List Leaf)
  | .dead, ls => some (.dead, ls)
  | .cells es ro l, ls => (encL f l ls).bind fun p => some (.cells es ro p.1, p.2)
  | .arr ro s, x :: ls => (castEl x.s (.list s) x.v).bind fun l => some (.arr s ro l, ls)
  | .arr _ _, [] => none
def encOs (f : Nat → Nat) : List OSk → List Leaf → Option (List Blk × List Leaf)
  | [], ls => some ([], ls)
  | o :: r, ls => (encO f o ls).bind fun p => (encOs f r p.2).bind fun q => some (p.1 :: q.1, q.2)
/-- Values, blocks that stay, blocks that are new. -/
def encSt (f : Nat → Nat) (sk : SSk) (ls : List Leaf) : Option (List VV × List Blk × List Blk) :=
  (encL f sk.vals ls).bind fun p => (encOs f sk.fix p.2).bind fun q => (encOs f sk.free q.2).bind fun r => match r.2 with
    | [] => some (p.1, q.1, r.1)
    | _ :: _ => none

/-! ### The leaves, typed -/
mutual
def Sk.shs : Sk → List Sh
  | .leaf s => [s]
  | .pin s _ => [s]
  | .fn _ a c => shsL a ++ shsL c
  | .agg l => shsL l
  | .tup l => shsL l
  | _ => []
def shsL : List Sk → List Sh
  | [] => []
  | k :: r => k.shs ++ shsL r
end
def OSk.shs : OSk → List Sh
  | .dead => []
  | .cells _ _ l => shsL l
  | .arr _ s => [.list s]
def shsO : List OSk → List Sh
  | [] => []
  | o :: r => o.shs ++ shsO r
def SSk.shs (sk : SSk) : List Sh := shsL sk.vals ++ (shsO sk.fix ++ shsO sk.free)
@[reducible] def Tup : List Sh → Type
  | [] => Unit
  | [s] => El s
  | s :: s' :: r => El s × Tup (s' :: r)
def toL : (ss : List Sh) → Tup ss → List Leaf
  | [], _ => []
  | [s], x => [⟨s, x⟩]
  | s :: s' :: r, x => ⟨s, x.1⟩ :: toL (s' :: r) x.2
def ofL : (ss : List Sh) → List Leaf → Option (Tup ss)
  | [], [] => some ()
  | [s], [x] => castEl x.s s x.v
  | s :: s' :: r, x :: ls => (castEl x.s s x.v).bind fun a => (ofL (s' :: r) ls).bind fun b => some (a, b)
  | _, _ => none

inductive XK where
  | normal
  | exit (id : Nat)
  | ret
/-- A way out of a stretch of code: which one, the slots that count, their form. -/
structure Alt where
  x : XK
  ts : List Nat
  sk : SSk
@[reducible] def Alt.Ty (a : Alt) : Type := Tup a.sk.shs
@[reducible] def SumA : List Alt → Type
  | [] => Empty
  | [a] => a.Ty
  | a :: b :: r => a.Ty ⊕ SumA (b :: r)
def caseS {α γ β : Type} (s : α ⊕ γ) (f : α → Option β) (g : γ → Option β) : Option β := match s with
  | .inl a => f a
  | .inr b => g b
def altK {β : Type} : (l : List Alt) → SumA l → ((a : Alt) → a.Ty → Option β) → Option β
  | [], _, _ => none
  | [a], t, k => k a t
  | a :: b :: r, s, k => caseS s (fun t => k a t) fun s' => altK (b :: r) s' k
def SSk.noRo (sk : SSk) : Bool := sk.fix.all (fun o => !o.ro) && sk.free.all fun o => !o.ro
def decOne (S : Store) (N : Nat) (fx : List Nat) (sk : SSk) (vals : List VV) : Option (Tup sk.shs) :=
  gd sk.noRo ((decSt S N fx sk vals).bind fun st => ofL sk.shs st.ls)
def decAlt (S : Store) (N : Nat) (fx : List Nat) (vals : List Nat → List VV) (hit : XK → Bool) : (l : List Alt) → Option (SumA l)
  | [] => none
  | [a] => cond (hit a.x) (decOne S N fx a.sk (vals a.ts)) none
  | a :: b :: r => match cond (hit a.x) (decOne S N fx a.sk (vals a.ts)) none with
    | some t => some (.inl t)
    | none => (decAlt S N fx vals hit (b :: r)).bind fun s => some (.inr s)

def Sh.al : Sh → Bool
  | .list _ => true
  | .pair a b => a.al || b.al
  | _ => false
mutual
/-- A value that holds a list as such. -/
def alV : VV → Bool
  | .lst _ _ => true
  | .tgt _ _ => true
  | .pin _ _ _ => true
  | .fn _ a c => alL a || alL c
  | .agg l => alL l
  | .tup l => alL l
  | _ => false
def alL : List VV → Bool
  | [] => false
  | v :: r => alV v || alL r
end
def alB : Blk → Bool
  | .dead => false
  | .cells _ _ l => alL l
  | .arr s _ _ => s.al
def alAll (vs : List VV) (fs bs : List Blk) : Bool := alL vs || fs.any alB || bs.any alB
/-- A block that may be written, or is gone. -/
def Blk.may : Blk → Bool
  | .dead => true
  | .cells _ z _ => !z
  | .arr _ z _ => !z
def okFx (S : Store) (fx : List Nat) : Bool := fx.all fun j => Nat.blt j S.length && (sget S j).may

/-! ### Calls -/
structure FSum where
  f : Nat
  vals : List Sk
  objs : List OSk
  outs : List Alt
  run : Tup (SSk.shs ⟨vals, [], objs⟩) → Option (SumA outs)
def FSum.ins (F : FSum) : SSk := ⟨F.vals, [], F.objs⟩

/-- The blocks of a function that it may write. -/
def fixOf : List OSk → Nat → List Nat
  | [], _ => []
  | o :: r, i => cond o.ro (fixOf r (i + 1)) (i :: fixOf r (i + 1))
def actual (m : List (Option Src)) (n size j : Nat) : Nat := cond (Nat.blt j n) (match nth m j with
  | some (some x) => x.k
  | _ => size) (size + (j - n))
def sputs : List Nat → List Blk → Store → Option Store
  | [], [], S => some S
  | j :: js, b :: bs, S => sputs js bs (sput S j b)
  | _, _, _ => none
/-- What is handed in as lists of lists is written no more. -/
def fzArg : Sk → VV → Store → Store
  | .leaf (.list (.list _)), v, S => fzIn S v
  | _, _, S => S
def fzArgs : List Sk → List VV → Store → Store
  | k :: r, v :: vs, S => fzArgs r vs (fzArg k v S)
  | _, _, S => S
def fzAll : List Nat → Store → Store
  | [], S => S
  | k :: r, S => fzAll r (sput S k (sget S k).freeze)
def callF {β : Type} (F : FSum) (t : Tup F.ins.shs) (st : DSt) (S : Store) (k : VV → Store → Option β) : Option β :=
  (F.run t).bind fun o => altK F.outs o fun a u => match encSt (actual st.m F.objs.length S.length) a.sk (toL a.sk.shs u) with
    | some ([v], fs, bs) => (match sputs (wrOf F.objs st.m) fs (cond (alAll [v] fs bs) (fzAll st.lent S) S) with
      | some S' => k v (S' ++ bs)
      | none => none)
    | _ => none
/-- All is taken whole. -/
def noCut : List (Option Src) → Bool
  | [] => true
  | some ⟨_, none⟩ :: r => noCut r
  | _ => false
def callT {β : Type} : List FSum → Nat → List VV → Store → (VV → Store → Option β) → Option β
  | [], _, _, _, _ => none
  | F :: r, f, args, S, k => cond (Nat.beq F.f f) (match decSt (fzArgs F.vals args S) 0 [] F.ins args with
    | some st => (match ofL F.ins.shs st.ls with
      | some t => gd (noCut st.m && okFx (fzArgs F.vals args S) (wrOf F.objs st.m)) (callF F t st (fzArgs F.vals args S) k)
      | none => callT r f args S k)
    | none => callT r f args S k) (callT r f args S k)

/-- A function whose code is run in its caller's place. -/
structure Inl where
  f : Nat
  run : (β : Type) → List VV → Store → (VV → Store → Option β) → Option β
/-- What is known of functions. -/
structure Tab where
  fs : List FSum
  is : List Inl
def hasI : List Inl → Nat → Bool
  | [], _ => false
  | I :: r, f => cond (Nat.beq I.f f) true (hasI r f)
def callI {β : Type} : List Inl → Nat → List VV → Store → (VV → Store → Option β) → Option β
  | [], _, _, _, _ => none
  | I :: r, f, args, S, k => cond (Nat.beq I.f f) (I.run β args S k) (callI r f args S k)
def callX {β : Type} (tab : Tab) (f : Nat) (args : List VV) (S : Store) (k : VV → Store → Option β) : Option β :=
  cond (hasI tab.is f) (callI tab.is f args S k) (callT tab.fs f args S k)
def belowN : Nat → List Nat
  | 0 => []
  | n + 1 => n :: belowN n

/-! ### Operations -/
def optV {β : Type} (S : Store) (x : Option VV) (k : VV → Store → Option β) : Option β := match x with
  | some v => k v S
  | none => none
def evOp {β : Type} (tab : Tab) (op : AOp) (e : VEnv) (S : Store) (k : VV → Store → Option β) : Option β := match op with
  | .move x => k (ev e x) S
  | .pick c a b => (match ev e c with
    | .bool p => pickK p (ev e a) (ev e b) S k
    | _ => none)
  | .alloc es z => gd (Nat.ble 1 es) (k (.ptr S.length 0) (S ++ [allocB es z]))
  | .box es x => gd (Nat.ble 1 es && allOne (cellsV (ev e x))) (k (.ptr S.length 0) (S ++ [.cells es false (cellsV (ev e x))]))
  | .build z ps => (match fillV (z.map ofC1) (partsV e ps) with
    | some cs => k (.agg cs) S
    | none => none)
  | .buildSlice es ln z ps => (match fillV ((List.replicate ln (z.map ofC1)).flatten) (partsV e ps) with
    | some cs => gd (allOne cs && Nat.beq (ln * es) cs.length && Nat.ble 1 es) (k (.full S.length) (S ++ [.cells es false cs]))
    | none => none)
  | .load x => readK S 1 false (ev e x) k
  | .loadN n x => readK S n true (ev e x) k
  | .store n a x => gd (Nat.beq (cellsV (ev e x)).length n && allOne (cellsV (ev e x))) (storeK S (ev e a) (cellsV (ev e x)) fun S' => k .undef S')
  | .nilCheck x => (match ev e x with
    | .fn f a c => k (.fn f a c) S
    | v => gd (isPtr S v) (k v S))
  | .bin op x y => binK op (ev e x) (ev e y) fun v => k v S
  | .eqv kd neg x y => (match eqvV S kd (ev e x) (ev e y) with
    | some b => k (.bool (negB neg b)) S
    | none => none)
  | .eqCells neg ks x y => (match ev e x, ev e y with
    | .agg a, .agg b => (match eqCL ks a b with
      | some p => k (.bool (negB neg p)) S
      | none => none)
    | _, _ => none)
  | .un op x => unK op (ev e x) fun v => k v S
  | .conv kd x => (match intV? (ev e x) with
    | some n => k (.int kd (kd.wrap n)) S
    | none => none)
  | .mkFunc f a c => k (.fn f (a.map (ev e)) (c.map (ev e))) S
  | .makeSlice es bytes z l c => makeK S es bytes z (ev e l) (ev e c) k
  | .slice es x lo hi => sliceK S es (ev e x) (lo.map (ev e)) (hi.map (ev e)) k
  | .sliceStr x lo hi => sliceStrK S (ev e x) (lo.map (ev e)) (hi.map (ev e)) k
  | .sliceArr es n x lo hi => sliceArrK S es n (ev e x) (lo.map (ev e)) (hi.map (ev e)) k
  | .off n x => optV S (offV S n (ev e x)) k
  | .idx es x i => idxK S es (ev e x) (ev e i) k
  | .idxA ln es x i => idxAK S ln es (ev e x) (ev e i) k
  | .fieldV o n agg x => (match ev e x with
    | .agg cs => cond agg (k (.agg (extractL cs o n)) S) (optV S (nth cs o) k)
    | _ => none)
  | .indexV ln es agg x i => (match ev e x, ev e i with
    | .agg cs, .int _ i => (ix i ln).bind fun j => cond agg (k (.agg (extractL cs (j * es) es)) S) (gd (Nat.beq es 1 && Nat.beq cs.length ln) (anyOf cs j S k))
    | _, _ => none)
  | .indexS x i => (match ev e x, ev e i with
    | .str l, .int _ i => (rd l i).bind fun b => k (.int .u8 b) S
    | _, _ => none)
  | .extract x i => (match ev e x with
    | .tup vs => optV S (nth vs i) k
    | _ => none)
  | .call f xs => callX tab f (xs.map (ev e)) S k
  | .callv x xs => (match ev e x with
    | .fn f a c => callX tab f (a ++ xs.map (ev e) ++ c) S k
    | _ => none)
  | .append es bytes s x => appendVK S es bytes (ev e s) (ev e x) k
  | .stuck => none
  | .range x => (match ev e x with
    | .str l => k (.it S.length l) (S ++ [.cells 1 false [.int .i64 0]])
    | _ => none)
  | .next x => nextK S (ev e x) k
  | .newB => k (.bld S.length) (S ++ [.cells 1 false [.str []]])
  | .encR x => (match intV? (ev e x) with
    | some n => k (.str (utf8I n)) S
    | none => none)
  | .strOf x => strOfK S (ev e x) k
  | .strOfR x => strRK S (ev e x) k
  | .runesOf x => runesK S (ev e x) k
  | .mark x => markK S (ev e x) k
  | .capN x => (match ev e x with
    | .nils => k (.int .i64 0) S
    | _ => none)
  | .sliceX x hi mx => sliceXK S (ev e x) (ev e hi) (ev e mx) k
  | .appendZ es bytes z s x => appendZK S es bytes z (ev e s) (ev e x) k
  | .copy es d s => copyK S es (ev e d) (ev e s) k
  | .len x => (match ev e x with
    | .str _ => none
    | v => (match lenOf S v with
      | some n => k (.int .i64 n) S
      | none => none))
  | .lenS x => (match ev e x with
    | .str l => k (.int .i64 l.length) S
    | _ => none)
  | .lenC n => k (.int .i64 n) S
  | .most x y => (match ev e x, ev e y with
    | .int kd a, .int _ b => k (.int kd (max a b)) S
    | _, _ => none)
  | .least x y => (match ev e x, ev e y with
    | .int kd a, .int _ b => k (.int kd (min a b)) S
    | _, _ => none)

/-! ### Code -/
section
variable (tab : Tab)
def evOps {β : Type} : List AOper → VEnv → Store → (VEnv → Store → Option β) → Option β
  | [], e, S, k => k e S
  | o :: r, e, S, k => match o.guard with
    | none => evOp tab o.op e S fun v S' => evOps r (putO e o.dst v) S' k
    | some (t, w) => match getV e t with
      | .bool p => cond p
        (cond w (evOp tab o.op (putV e t (.bool true)) S fun v S' => evOps r (putO (putV e t (.bool true)) o.dst v) S' k) (evOps r (putO (putV e t (.bool true)) o.dst (.tup [])) S k))
        (cond w (evOps r (putO (putV e t (.bool false)) o.dst (.tup [])) S k) (evOp tab o.op (putV e t (.bool false)) S fun v S' => evOps r (putO (putV e t (.bool false)) o.dst v) S' k))
      | .tup [] => evOps r (putO e o.dst (.tup [])) S k
      | _ => none

/-- Which block may be written through a value. -/
def blkOf : VV → Option Nat
  | .ptr b _ => some b
  | .it b _ => some b
  | .bld b => some b
  | .pix b _ _ _ => some b
  | .pel b _ _ => some b
  | .full b => some b
  | .part b _ _ => some b
  | _ => none
/-- Which block a load asks (none: none that is ever written), if that is known. -/
def asksV (S : Store) (v : VV) : Option (Option Nat) := match v with
  | .pin _ _ _ | .lst _ _ | .nils => some none
  | v => (match blkOf v with
    | some b => cond (sget S b).live (some (some b)) none
    | none => none)
def asks (S : Store) (op : AOp) (e : VEnv) : Option (Option Nat) := match op with
  | .load x | .loadN _ x | .sliceArr _ _ x _ _ | .slice _ x _ _ => asksV S (ev e x)
  | _ => none
def oneO : Option Nat → List Nat
  | some b => [b]
  | none => []
/-- Which blocks a call may write. -/
def dirtyC : List FSum → Nat → List VV → Store → List Nat
  | [], _, _, _ => []
  | F :: r, f, args, S => cond (Nat.beq F.f f) (match decSt (fzArgs F.vals args S) 0 [] F.ins args with
    | some st => (match ofL F.ins.shs st.ls with
      | some _ => wrOf F.objs st.m
      | none => dirtyC r f args S)
    | none => dirtyC r f args S) (dirtyC r f args S)
def dirtyX (f : Nat) (args : List VV) (S : Store) : List Nat := cond (hasI tab.is f) (belowN S.length) (dirtyC tab.fs f args S)
def dirty (op : AOp) (e : VEnv) (S : Store) : List Nat := match op with
  | .store _ a _ => oneO (blkOf (ev e a))
  | .append _ _ s _ => oneO (blkOf (ev e s))
  | .appendZ _ _ _ s _ => oneO (blkOf (ev e s))
  | .copy _ d _ => oneO (blkOf (ev e d))
  | .next x => oneO (blkOf (ev e x))
  | .call f xs => dirtyX tab f (xs.map (ev e)) S
  | .callv x xs => (match ev e x with
    | .fn f a c => dirtyX tab f (a ++ xs.map (ev e) ++ c) S
    | _ => [])
  | _ => []
/-- Loads that are done: each with the block that it asked (none: none that is ever written), if it still tells what it told; and whether it tells so when it is asked again. -/
abbrev Chk := List (Nat × Option (Option Nat) × (Store → Bool))
def updC (d : List Nat) : Chk → Chk
  | [] => []
  | (i, some (some b), f) :: r => (i, cond (memN b d) none (some (some b)), f) :: updC d r
  | x :: r => x :: updC d r
def recheckV (is : List Nat) : Chk → Bool
  | [] => true
  | (i, b, _) :: r => cond (memN i is) (match b with
    | some _ => recheckV is r
    | none => false) (recheckV is r)
def recheckS (S : Store) (is : List Nat) : Chk → Bool
  | [] => true
  | (i, b, f) :: r => cond (memN i is) (match b with
    | some _ => recheckS S is r
    | none => cond (f S) (recheckS S is r) false) (recheckS S is r)
/-- Values that stand for themselves. -/
def eqSc : VV → VV → Bool
  | .int k n, .int k' n' => decide (k = k') && decide (n = n')
  | .bool a, .bool b => decide (a = b)
  | .str a, .str b => decide (a = b)
  | .nilp, .nilp => true
  | .nils, .nils => true
  | _, _ => false
def reLoad (tab : Tab) (op : AOp) (e : VEnv) (v : VV) (S : Store) : Bool := match evOp tab op e S fun v' _ => some (eqSc v v') with
  | some b => b
  | none => false
def evItem {β : Type} (it : SItem) (chk : Chk) (e : VEnv) (S : Store) (k : Chk → VEnv → Store → Option β) : Option β :=
  cond it.mover (evOp tab it.o.op e S fun v S' => gd (recheckS S' it.chks (updC (dirty tab it.o.op e S) chk)) (k (updC (dirty tab it.o.op e S) chk) (putO e it.o.dst v) S'))
    (gd (it.o.op.still && (!it.keep || it.o.op.isLoad)) (evOp tab it.o.op e S fun v S' => k (cond it.keep ((it.idx, asks S it.o.op e, reLoad tab it.o.op e v) :: chk) chk) (putO e it.o.dst v) S'))
def evItems {β : Type} : List SItem → Chk → VEnv → Store → (VEnv → Store → Option β) → Option β
  | [], _, e, S, k => k e S
  | it :: r, chk, e, S, k => match it.o.guard with
    | none => evItem tab it chk e S fun chk' e' S' => evItems r chk' e' S' k
    | some (t, w) => match getV e t with
      | .bool p => cond p
        (cond w (evItem tab it chk (putV e t (.bool true)) S fun chk' e' S' => evItems r chk' e' S' k) (evItems r chk (putO (putV e t (.bool true)) it.o.dst (.tup [])) S k))
        (cond w (evItems r chk (putO (putV e t (.bool false)) it.o.dst (.tup [])) S k) (evItem tab it chk (putV e t (.bool false)) S fun chk' e' S' => evItems r chk' e' S' k))
      | .tup [] => evItems r chk (putO e it.o.dst (.tup [])) S k
      | _ => none
end

/-! ### Stretches whose order is open in more than one way: new blocks may come early -/
structure LItem where
  i : Nat
  kind : Nat
  chks : List Nat
  need : List Nat
def opAt (ops : List (AOper × List Nat)) (i : Nat) : AOper := match ops[i]? with
  | some (o, _) => o
  | none => ⟨none, .lenC 0, none⟩
/-- A cell that refers to nothing. -/
def scalarV : VV → Bool
  | .int _ _ | .bool _ | .str _ => true
  | _ => false
def scalarC : Value → Bool
  | .int _ _ | .bool _ | .string _ => true
  | _ => false
/-- A new block, and what points to it. -/
def freshK {β : Type} (op : AOp) (e : VEnv) (k : Blk → Bool → Option β) : Option β := match op with
  | .alloc es z => gd (Nat.ble 1 es) (k (allocB es z) false)
  | .makeSlice es bytes z l c => (match ev e l, ev e c, shOfC z with
    | .int _ l, .int _ c, some s => gd (Nat.beq es s.w && decide (0 ≤ l) && decide (l ≤ c) && decide (bytes * c ≤ 140737488355328) && Nat.ble 1 bytes) (k (.arr s false (List.replicate l.toNat (zeroEl s))) true)
    | _, _, _ => none)
  | .buildSlice es ln z ps => (match fillV ((List.replicate ln (z.map ofC1)).flatten) (partsV e ps) with
    | some cs => gd (allOne cs && Nat.beq (ln * es) cs.length && Nat.ble 1 es && cs.all scalarV && z.all scalarC) (k (.cells es false cs) true)
    | none => none)
  | _ => none
def vvF (w : Bool) (k : Nat) : VV := cond w (.full k) (.ptr k 0)
def clearV (e : VEnv) : List Nat → VEnv
  | [] => e
  | t :: ts => putV (clearV e ts) t .undef
/-- Operations that hang on a new block alone: what they write, and what they come to. -/
def grpDs (ops : List (AOper × List Nat)) : List Nat → List Nat
  | [] => []
  | i :: r => (match (opAt ops i).dst with
    | some d => [d]
    | none => []) ++ grpDs ops r
def asksN (n : Nat) : Option (Option Nat) → Bool
  | some (some q) => Nat.beq q n
  | _ => false
section
variable (tab : Tab)
def evG {β : Type} (ops : List (AOper × List Nat)) (n : Nat) : List Nat → VEnv → Store → Option β → Option β
  | [], _, _, z => z
  | i :: g, e, S, z => gd ((opAt ops i).op.still && (!(opAt ops i).op.isLoad || asksN n (asks S (opAt ops i).op e))) (evOp tab (opAt ops i).op e S fun v S' => evG ops n g (putO e (opAt ops i).dst v) S' z)
def evL {β : Type} (ops : List (AOper × List Nat)) : List LItem → Chk → VEnv → Store → (VEnv → Store → Option β) → Option β
  | [], _, e, S, k => k e S
  | it :: r, chk, e, S, k =>
    cond (Nat.beq it.kind 3) (freshK (opAt ops it.i).op e fun _ _ => evL ops r chk e S k) <|
    cond (Nat.beq it.kind 2) (freshK (opAt ops it.i).op e fun blk w => evL ops r chk (putO e (opAt ops it.i).dst (vvF w S.length)) (S ++ [blk]) k)
    (cond (Nat.beq it.kind 1)
      (evOp tab (opAt ops it.i).op e S fun v S' => gd (recheckV it.chks (updC (dirty tab (opAt ops it.i).op e S) chk) && recheckV it.need (updC (dirty tab (opAt ops it.i).op e S) chk)) (evL ops r (updC (dirty tab (opAt ops it.i).op e S) chk) (putO e (opAt ops it.i).dst v) S' k))
      (cond (Nat.beq it.kind 5) (freshK (opAt ops it.i).op (clearV e (grpDs ops it.chks)) fun blk w => evG tab ops S.length it.chks (putO (clearV e (grpDs ops it.chks)) (opAt ops it.i).dst (vvF w S.length)) (S ++ [blk]) (evL ops r chk (clearV e (grpDs ops it.chks)) S k)) <|
      gd (opAt ops it.i).op.still (evOp tab (opAt ops it.i).op e S fun v S' => gd (recheckV it.need (cond (opAt ops it.i).op.isLoad ((it.i, asks S (opAt ops it.i).op e, fun _ => false) :: chk) chk)) (evL ops r (cond (opAt ops it.i).op.isLoad ((it.i, asks S (opAt ops it.i).op e, fun _ => false) :: chk) chk) (putO e (opAt ops it.i).dst v) S' k))))
end
def opdT : Operand → List Nat
  | .tmp t => [t]
  | _ => []
def usesF : AOp → List Nat
  | .makeSlice _ _ _ l c => opdT l ++ opdT c
  | .buildSlice _ _ _ ps => ps.flatMap fun p => opdT p.2.2
  | _ => []
def isAllocB : AOp → Bool
  | .alloc es _ => Nat.ble 1 es
  | _ => false
def freshB : AOp → Bool
  | .alloc _ _ | .makeSlice _ _ _ _ _ => true
  | .buildSlice _ _ z _ => z.all scalarC
  | _ => false
def notIn (d : Option Nat) (l : List Nat) : Bool := match d with
  | some t => !memN t l
  | none => true
def neO (d d' : Option Nat) : Bool := match d, d' with
  | some t, some t' => !Nat.beq t t'
  | _, _ => true
def dropN (i : Nat) : List Nat → List Nat
  | [] => []
  | a :: r => cond (Nat.beq a i) r (a :: dropN i r)
def stripL : List LItem → List Nat → Nat → Option (List Nat × LItem × List LItem)
  | [], _, _ => none
  | it :: r, P, i => cond (Nat.beq it.kind 3) (stripL r P i) <| cond (Nat.beq it.kind 2) (cond (memN it.i P) (stripL r (dropN it.i P) i) none) (cond (Nat.beq it.i i) (some (P, it, r)) none)
def finL : List LItem → List Nat → Bool
  | [], P => P.isEmpty
  | it :: r, P => cond (Nat.beq it.kind 3) (finL r P) (Nat.beq it.kind 2 && memN it.i P && finL r (dropN it.i P))
def isMove : AOp → Bool
  | .move _ => true
  | _ => false
def headF (ops : List (AOper × List Nat)) : List LItem → Nat → Bool
  | [], _ => false
  | it :: r, m => cond (Nat.beq it.kind 3) (Nat.beq it.i m || headF ops r m) <| (Nat.beq it.kind 2 && (Nat.beq it.i m || (notIn (opAt ops it.i).dst (usesF (opAt ops m).op) && headF ops r m))) || (Nat.beq it.kind 0 && isMove (opAt ops it.i).op && notIn (opAt ops it.i).dst (usesF (opAt ops m).op) && headF ops r m)
def okDst (ops : List (AOper × List Nat)) (self : Nat) (ex : Bool) (P : List Nat) (r : List LItem) : Bool :=
  P.all (fun q => neO (opAt ops self).dst (opAt ops q).dst && notIn (opAt ops self).dst (usesF (opAt ops q).op)) &&
  r.all fun it => !Nat.beq it.kind 2 || (ex && Nat.beq it.i self) || neO (opAt ops self).dst (opAt ops it.i).dst
def isGrp : List LItem → Bool
  | it :: _ => Nat.beq it.kind 5
  | [] => false
def eqNO : Option Nat → Nat → Bool
  | some a, b => Nat.beq a b
  | none, _ => false
def chkS (ops : List (AOper × List Nat)) : List Nat → Nat → List Nat → Option (Nat × List Nat)
  | [], f, D => some (f, D)
  | i :: g, f + 1, D => cond (eqNO (nextStill ops D) i && (opAt ops i).guard.isNone) (chkS ops g f (i :: D)) none
  | _ :: _, 0, _ => none
def chkZ (ops : List (AOper × List Nat)) : List LItem → Nat → List Nat → Bool
  | [], 0, _ => true
  | [], _ + 1, D => (nextStill ops D).isNone && (readyMovers ops D).isEmpty
  | it :: r, f + 1, D => Nat.beq it.kind 0 && eqNO (nextStill ops D) it.i && (opAt ops it.i).guard.isNone && chkZ ops r f (it.i :: D)
  | _ :: _, 0, _ => false
def lateI : List Nat → List LItem → Option (List LItem)
  | [], r => some r
  | i :: g, it :: r => cond (Nat.beq it.kind 0 && Nat.beq it.i i) (lateI g r) none
  | _ :: _, [] => none
def okG (ops : List (AOper × List Nat)) (m c : Nat) : List Nat → List Nat → Bool
  | _, [] => true
  | pre, i :: g => (opAt ops i).dst.isSome && notIn (opAt ops i).dst (usesF (opAt ops m).op) && neO (opAt ops i).dst (opAt ops m).dst && notIn (opAt ops c).dst (opAt ops i).op.reads && neO (opAt ops c).dst (opAt ops i).dst && (i :: pre).all (fun j => notIn (opAt ops i).dst (opAt ops j).op.reads) && pre.all (fun j => neO (opAt ops i).dst (opAt ops j).dst) && okG ops m c (i :: pre) g
/-- A new block with what hangs on it, and a call, whichever first; then nothing but what is still. -/
def chkGrp (ops : List (AOper × List Nat)) (f : Nat) (D P ls nd : List Nat) : List LItem → Bool
  | it :: itc :: itm :: r => P.isEmpty && Nat.beq itc.kind 1 && Nat.beq itm.kind 2 && Nat.beq itm.i it.i && freshB (opAt ops it.i).op && !freshB (opAt ops itc.i).op && (opAt ops it.i).guard.isNone && (opAt ops itc.i).guard.isNone && notIn (opAt ops it.i).dst (usesF (opAt ops it.i).op) &&
    !(readyMovers ops D).isEmpty && (readyMovers ops D).all (fun x => Nat.beq x it.i || Nat.beq x itc.i) && ls.all (fun i => befB ops i it.i || memN i nd) && ls.all (fun i => befB ops i itc.i || memN i itc.chks) && okDst ops itc.i false [it.i] (itm :: r) && okG ops it.i itc.i [] it.chks &&
    (match chkS ops it.chks f (it.i :: D), lateI it.chks r with
    | some (f1 + 1, D1), some r3 => (nextStill ops D1).isNone && (match readyMovers ops D1 with
      | [x] => Nat.beq x itc.i
      | _ => false) && chkZ ops r3 f1 (itc.i :: D1)
    | _, _ => false)
  | _ => false
def grpOn (ops : List (AOper × List Nat)) (rec : List Nat → List Nat → List LItem → Bool) (D : List Nat) : List LItem → Bool
  | _ :: itc :: r => rec (itc.i :: D) itc.need r
  | _ => false
def chkT (ops : List (AOper × List Nat)) : Nat → List Nat → List Nat → List Nat → List Nat → List LItem → Bool
  | 0, _, P, _, _, r => finL r P
  | f + 1, D, P, ls, nd, r => match nextStill ops D with
    | some i => (opAt ops i).guard.isNone && (match stripL r P i with
      | some (P', it, r') => Nat.beq it.kind 0 && okDst ops i false P' r' && chkT ops f (i :: D) P' (cond (opAt ops i).op.isLoad (i :: ls) ls) it.need r'
      | none => false)
    | none => cond (isGrp r) (chkGrp ops f D P ls nd r && grpOn ops (fun D' nd' r' => chkT ops f D' [] ls nd' r') D r) <| match readyMovers ops D with
      | [] => finL r P
      | ms => ms.all fun m => (opAt ops m).guard.isNone && cond (freshB (opAt ops m).op)
        (!memN m P && r.any (fun it => Nat.beq it.kind 2 && Nat.beq it.i m) && (isAllocB (opAt ops m).op || headF ops r m) && okDst ops m true P r && notIn (opAt ops m).dst (usesF (opAt ops m).op) && ls.all (fun i => befB ops i m || memN i nd) && chkT ops f (m :: D) (m :: P) ls nd r)
        (match stripL r P m with
        | some (P', it, r') => Nat.beq it.kind 1 && okDst ops m false P' r' && ls.all (fun i => befB ops i m || memN i it.chks) && chkT ops f (m :: D) P' ls it.need r'
        | none => false)
def afterN (i : Nat) : List Nat → List Nat
  | [] => []
  | a :: r => cond (Nat.beq a i) r (afterN i r)
/-- The order in which the value machine takes them; with each operation which loads are looked at again. -/
def itemsOf (ops : List (AOper × List Nat)) (all : List Nat) : List Nat → List Nat → List LItem
  | [], _ => []
  | i :: r, ls =>
    cond (Nat.ble 2000 i) (⟨i % 1000, 5, (afterN (i % 1000) r).take (i / 10000), []⟩ :: itemsOf ops all r ls) <|
    cond (Nat.ble 1000 i) (⟨i - 1000, 3, [], []⟩ :: itemsOf ops all r ls) <|
    let o := (opAt ops i).op
    let ls' := cond o.isLoad (i :: ls) ls
    let fr := r.filter fun m => freshB (opAt ops m).op
    ⟨i, cond (freshB o) 2 (cond o.still 0 1), ls.filter fun j => !befB ops j i, ls'.filter fun j => fr.any fun m => !befB ops j m⟩ :: itemsOf ops all r ls'
def distF (ops : List (AOper × List Nat)) : List LItem → Bool
  | [] => true
  | it :: r => r.all (fun j => !Nat.beq it.kind 2 || !Nat.beq j.kind 2 || neO (opAt ops it.i).dst (opAt ops j.i).dst) && distF ops r
def freshDs (ops : List (AOper × List Nat)) : List LItem → List Nat
  | [] => []
  | it :: r => cond (Nat.beq it.kind 2) ((match (opAt ops it.i).dst with
    | some d => [d]
    | none => []) ++ freshDs ops r) (freshDs ops r)

/-- What is told of code: of loops, and of places where ways meet: which blocks change in their places, which go. -/
inductive AT where
  | no
  | n (l r : AT)
  | lp (fx : List Nat) (head : Alt) (exits : List Alt) (b : AT)
  | jn (fx mov : List Nat) (exits : List Alt) (l r : AT)
  | sz (n : Nat) (l r : AT)
  | dr (L : List Nat)
  | all
/-- What holds of all, holds of the parts. -/
def AT.sub : AT → AT
  | .all => .all
  | _ => .no
def autoL (ops : List (AOper × List Nat)) : Nat → List Nat → List Nat
  | 0, _ => []
  | f + 1, D => match nextStill ops D with
    | some i => i :: autoL ops f (i :: D)
    | none => match (readyMovers ops D).filter (fun m => !freshB (opAt ops m).op), readyMovers ops D with
      | m :: _, ms => (ms.filter fun x => freshB (opAt ops x).op && !isAllocB (opAt ops x).op).map (1000 + ·) ++ m :: autoL ops f (m :: D)
      | [], m :: _ => m :: autoL ops f (m :: D)
      | [], [] => []
def drL (ops : List (AOper × List Nat)) : AT → Option (List Nat)
  | .dr L => some L
  | .all => some (autoL ops ops.length [])
  | _ => none
/-- Which places are nil: a number by which states of one length are told apart. -/
def nilN : List VV → Nat
  | [] => 0
  | .nilp :: r => nilN r + 1
  | _ :: r => nilN r
def keyG : Nat → Store → Nat
  | _, [] => 0
  | k, .cells _ _ l :: r => k * nilN l + keyG (k + 1) r
  | k, _ :: r => keyG (k + 1) r
def keyS (S : Store) : Nat := S.length + 1000 * keyG 1 S
/-- What is told where there are so many blocks. -/
def AT.at (n : Nat) : AT → AT
  | .sz m l r => cond (Nat.beq m n) l (r.at n)
  | t => t

def putsV (e : VEnv) : List Nat → List VV → VEnv
  | t :: ts, v :: vs => putV (putsV e ts vs) t v
  | _, _ => e
def dstL : Option Nat → List Nat
  | some d => [d]
  | none => []
def assigned : AC → List Nat
  | .region ops => ops.flatMap fun o => dstL o.dst
  | .draw ops => ops.flatMap fun o => dstL o.1.dst
  | .sched its => its.flatMap fun i => dstL i.o.dst
  | .seq a b | .cond _ a b => assigned a ++ assigned b
  | .block _ b | .loop b => assigned b
  | _ => []
def XK.is : XK → AExit → Bool
  | .normal, .normal => true
  | .exit i, .exit j => Nat.beq i j
  | .ret, .ret => true
  | _, _ => false
def XK.out : XK → AExit
  | .normal => .normal
  | .exit i => .exit i
  | .ret => .ret
/-- Blocks are frozen, but for some, and some are dead. -/
def around (fx mov : List Nat) (fz : Bool) : Nat → Store → Store
  | _, [] => []
  | i, b :: r => cond (memN i mov) (cond b.frozen b .dead) (cond (memN i fx) b (cond fz b.freeze b)) :: around fx mov fz (i + 1) r
/-- Code with no stretch whose order is open in more than one way. -/
def noDraw : AC → Bool
  | .seq a b | .cond _ a b => noDraw a && noDraw b
  | .block _ b | .loop b => noDraw b
  | _ => true
def loopN {α γ : Type} (f : α → Option (α ⊕ γ)) (n : Nat) : α → Option γ :=
  Nat.rec (fun _ => none) (fun _ ih a => (f a).bind fun s => caseS s ih some) n
def BIG : Nat := 18446744073709551616

/-- The state of a form, beside what stays: S is what was there. -/
def setSt (e0 : VEnv) (S : Store) (fx mov asg : List Nat) (fz : Bool) (ts : List Nat) (sk : SSk) (t : Tup sk.shs) : Option (VEnv × Store) :=
  match encSt id sk (toL sk.shs t) with
  | some (vals, fs, bs) => (match sputs fx fs (around fx mov (fz || alAll vals fs bs) 0 S) with
    | some S' => some (putsV (clearV e0 asg) ts vals, S' ++ bs)
    | none => none)
  | none => none
/-- On from a place where ways meet. -/
def goOn {β : Type} (e0 : VEnv) (S : Store) (fx mov asg : List Nat) (exits : List Alt) (s : SumA exits) (k : AExit → VEnv → Store → Option β) : Option β :=
  altK exits s fun a t => match setSt e0 S fx mov asg false a.ts a.sk t with
    | some (e, S') => k a.x.out e S'
    | none => none
/-- A loop whose rounds are told one by one. -/
def loopU (F : AT → (β : Type) → VEnv → Store → (AExit → VEnv → Store → Option β) → Option β) : AT → (β : Type) → VEnv → Store → (AExit → VEnv → Store → Option β) → Option β
  | .n l r, β, e, S, k => F l β e S fun x e' S' => match x with
    | .normal => loopU F r β e' S' k
    | x => k x e' S'
  | .sz m l r, β, e, S, k => cond (Nat.beq m S.length) (loopU F l β e S k) (loopU F r β e S k)
  | _, _, _, _, _ => none
/-- A loop, round by round, however many. -/
def loopA (F : (β : Type) → VEnv → Store → (AExit → VEnv → Store → Option β) → Option β) (n : Nat) : (β : Type) → VEnv → Store → (AExit → VEnv → Store → Option β) → Option β :=
  Nat.rec (fun _ _ _ _ => none) (fun _ ih β e S k => F β e S fun x e' S' => match x with
    | .normal => ih β e' S' k
    | x => k x e' S') n
def AT.rounds : AT → Nat
  | .n _ r => r.rounds + 1
  | .sz _ l r => l.rounds + r.rounds
  | _ => 0
def eval (tab : Tab) : AC → AT → (β : Type) → VEnv → Store → (AExit → VEnv → Store → Option β) → Option β
  | .skip, _, _, e, S, k => k .normal e S
  | .exit i, _, _, e, S, k => k (.exit i) e S
  | .ret, _, _, e, S, k => k .ret e S
  | .region ops, _, _, e, S, k => evOps tab ops e S fun e' S' => k .normal e' S'
  | .sched its, _, _, e, S, k => evItems tab its [] e S fun e' S' => k .normal e' S'
  | .draw ops, at', _, e, S, k => (match drL ops (at'.at (keyS S)) with
    | some L => gd (chkT ops ops.length [] [] [] [] (itemsOf ops L L []) && distF ops (itemsOf ops L L [])) (evL tab ops (itemsOf ops L L []) [] (clearV e (freshDs ops (itemsOf ops L L []))) S fun e' S' => k .normal e' S')
    | none => none)
  | .seq a b, at', β, e, S, k =>
    (match at'.at (keyS S) with
    | .jn fx mov exits l r => gd (okFx S fx && noDraw a) ((eval tab a l (SumA exits) e (around (fx ++ mov) [] true 0 S) fun x e' S' => decAlt S' S.length fx (fun ts => ts.map (getV e')) (fun y => y.is x) exits).bind fun s =>
        goOn e S fx mov (assigned a) exits s fun x e' S' => match x with
          | .normal => eval tab b r β e' S' k
          | x => k x e' S')
    | .n l r => eval tab a l β e S fun x e' S' => match x with
      | .normal => eval tab b r β e' S' k
      | x => k x e' S'
    | u => eval tab a u.sub β e S fun x e' S' => match x with
      | .normal => eval tab b u.sub β e' S' k
      | x => k x e' S')
  | .cond c a b, at', β, e, S, k =>
    (match ev e c with
    | .bool p => (match c, at'.at (keyS S) with
      | .tmp t, .n l r => cond p (eval tab a l β (putV e t (.bool true)) S k) (eval tab b r β (putV e t (.bool false)) S k)
      | .tmp t, u => cond p (eval tab a u.sub β (putV e t (.bool true)) S k) (eval tab b u.sub β (putV e t (.bool false)) S k)
      | _, .n l r => cond p (eval tab a l β e S k) (eval tab b r β e S k)
      | _, u => cond p (eval tab a u.sub β e S k) (eval tab b u.sub β e S k))
    | _ => none)
  | .block id b, at', β, e, S, k =>
    eval tab b (match at'.at (keyS S) with
      | .n l _ => l
      | u => u.sub) β e S fun x e' S' => match x with
      | .exit i => cond (Nat.beq i id) (k .normal e' S') (k (.exit i) e' S')
      | x => k x e' S'
  | .loop b, at', _, e, S, k =>
    (match at'.at (keyS S) with
    | .lp fx head exits l => gd (head.sk.noRo && okFx S fx && noDraw b) (match decSt S S.length fx head.sk (head.ts.map (getV e)) with
      | some st => (ofL head.sk.shs st.ls).bind fun t0 =>
        (loopN (fun t => match setSt e S fx (ksOf st.m) (assigned b) true head.ts head.sk t with
          | some (e1, S1) => eval tab b l (Tup head.sk.shs ⊕ SumA exits) e1 S1 fun x e' S' => (match x with
            | .normal => (decOne S' S.length fx head.sk (head.ts.map (getV e'))).bind fun t => some (.inl t)
            | x => (decAlt S' S.length fx (fun ts => ts.map (getV e')) (fun y => y.is x) exits).bind fun s => some (.inr s))
          | none => none) BIG t0).bind fun s => goOn e S fx (ksOf st.m) (assigned b) exits s k
      | none => none)
    | .all => loopA (eval tab b .all) 1000000 _ e S k
    | _ => loopU (eval tab b) at' _ e S k)

def resV (e : VEnv) (S : Store) : ARes → Option VV
  | .tmp t => some (getV e t)
  | .cell t => (match getV e t with
    | .ptr b o => (match sget S b with
      | .cells _ _ l => nth l o
      | _ => none)
    | _ => none)
  | .cellN t n => (match getV e t with
    | .ptr b o => (match sget S b with
      | .cells _ _ l => cond (Nat.ble (o + n) l.length) (some (.agg ((l.drop o).take n))) none
      | _ => none)
    | _ => none)
def resVL (e : VEnv) (S : Store) : List ARes → Option (List VV)
  | [] => some []
  | r :: rs => (resV e S r).bind fun v => (resVL e S rs).bind fun vs => some (v :: vs)
def tupV : List VV → VV
  | [v] => v
  | vs => .tup vs

/-- What a function comes to, of things of a form. -/
def inlRun (P : Program) (f : FuncId) (tab : Tab) (at' : AT) : (β : Type) → List VV → Store → (VV → Store → Option β) → Option β := fun β args S k =>
  match trFn P f with
  | some a => gd (Nat.ble args.length a.ntmps) (eval tab a.body at' β args S fun x e S' => match x with
    | .exit _ => none
    | _ => (match resVL e S' a.results with
      | some rs => k (tupV rs) S'
      | none => none))
  | none => none
def evalFn (P : Program) (f : FuncId) (tab : Tab) (vals : List Sk) (objs : List OSk) (outs : List Alt) (at' : AT) (t : Tup (SSk.shs ⟨vals, [], objs⟩)) : Option (SumA outs) :=
  match trFn P f, encSt id ⟨vals, [], objs⟩ (toL _ t) with
  | some a, some (vs, _, S) => gd (Nat.ble vs.length a.ntmps) (eval tab a.body at' (SumA outs) vs S fun x e S' => match x with
    | .exit _ => none
    | _ => (match resVL e S' a.results with
      | some rs => decAlt S' S.length (fixOf objs 0) (fun _ => [tupV rs]) (fun _ => true) outs
      | none => none))
  | _, _ => none
end Go.V
