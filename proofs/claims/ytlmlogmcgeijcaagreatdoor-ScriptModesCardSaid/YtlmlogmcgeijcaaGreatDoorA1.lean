/- A part of the proof. No condition. -/
import Derived.Calls
import Derived.RowKit
import Derived.WalkKit
import Derived.Lib.ItoaMem
import Derived.Lib.FrozenHead
set_option linter.unusedVariables false
set_option linter.unusedSimpArgs false
set_option linter.unusedSectionVars false
namespace Go.Ab
open Option renaming some->O,none->Y
open Bool renaming true->Za,false->Zb
open Decidable renaming decide->Zc
abbrev Zd:=List Int
universe uU
theorem zA {p:Prop}{i:Decidable p}(h:¬p):@decide p i=Zb:=decide_eq_false h
theorem Ze {p:Prop}{i:Decidable p}(h:¬p:=by omega):@decide p i=Zb:=zA h
theorem zB {p:Prop}{i:Decidable p}(h:p):@decide p i=Za:=decide_eq_true h
theorem Zf {p:Prop}{i:Decidable p}(h:p:=by omega):@decide p i=Za:=zB h
theorem zC {α:Sort uU}{a b:α}:cond Za a b=a:=rfl
theorem zD {α:Sort uU}{a b:α}:cond Zb a b=b:=rfl
theorem zE {c:Prop}{h:Decidable c}(d:c){α:Sort uU}{t e:α}:ite c t e=t:=if_pos d
theorem Zg {c:Prop}{h:Decidable c}(d:c:=by omega){α:Sort uU}{t e:α}:ite c t e=t:=zE d
theorem zF {c:Prop}{h:Decidable c}(d:¬c){α:Sort uU}{t e:α}:ite c t e=e:=if_neg d
theorem Zh {c:Prop}{h:Decidable c}(d:¬c:=by omega){α:Sort uU}{t e:α}:ite c t e=e:=zF d
theorem zG {α β:Type uU}{a:α}{f:α->Option β}:(O a).bind f=f a:=rfl
variable {i x y:Operand}{b:Bool}{v v':Value}{op:BinOp}{w:World}{N:Nat}
section
open List renaming range -> aB
structure Blk where
 cells:List Value
 own:Bool
 es:Nat
structure Hp where
 m:Nat->Option Blk
 n:Nat
def Hp.set (Z:Hp)(b:Nat)(x:Option Blk):Hp:={m:=λi=>if i=b then x else Z.m i,n:=Z.n}
def Hp.add (Z:Hp)(x:Blk):Hp:={m:=λi=>if i=Z.n then O x else Z.m i,n:=Z.n+1}
abbrev cf :=Nat->Value
def cf.put (e:cf)(d:Nat)(v:Value):cf:=λi=>if i=d then v else e i
def cf.putO (e:cf)(d:Option Nat)(v:Value):cf:=match d with
 |some d=>e.put d v
 |none=>e
def cf.of (c:List Value):cf:=λi=>(c[i]?).getD undef
def cf.ev (e:cf):Operand->Value
 | .tmp t=>e t
 | .const v=>v
 | .global _=>undef
 | .func f=> .func (.func f) #[] #[]
inductive AExit where
 |normal
 |exit (id:Nat)
 |ret
inductive AOp where
 |move (x:Operand)
 |pick (c a b:Operand)
 |alloc (es:Nat) (zero:List Value)
 |box (es:Nat) (x:Operand)
 |build (zero:List Value) (parts:List (Nat×Nat×Operand))
 |buildSlice (es len:Nat) (zero:List Value) (parts:List (Nat×Nat×Operand))
 |load (x:Operand)
 |loadN (n:Nat) (x:Operand)
 |store (n:Nat) (a x:Operand)
 |nilCheck (x:Operand)
 |bin (op:BinOp) (x y:Operand)
 |eqv (kd:Nat) (neg:Bool) (x y:Operand)
 |eqCells (neg:Bool) (ks:List Nat) (x y:Operand)
 |un (op:UnOp) (x:Operand)
 |conv (k:IntKind) (x:Operand)
 |mkFunc (f:FuncId) (first captured:List Operand)
 |makeSlice (es bytes:Nat) (zero:List Value) (l c:Operand)
 |slice (es:Nat) (x:Operand) (lo hi:Option Operand)
 |sliceStr (x:Operand) (lo hi:Option Operand)
 |sliceArr (es n:Nat) (x:Operand) (lo hi:Option Operand)
 |off (n:Nat) (x:Operand)
 |idx (es:Nat) (x i:Operand)
 |idxA (len es:Nat) (x i:Operand)
 |fieldV (off n:Nat) (agg:Bool) (x:Operand)
 |indexV (len es:Nat) (agg:Bool) (x i:Operand)
 |indexS (x i:Operand)
 |extract (x:Operand) (i:Nat)
 |call (f:FuncId) (args:List Operand)
 |callv (f:Operand) (args:List Operand)
 |append (es bytes:Nat) (s x:Operand)
 |appendZ (es bytes:Nat) (zero:List Value) (s x:Operand)
 |copy (es:Nat) (d s:Operand)
 |len (x:Operand)
 |lenS (x:Operand)
 |lenC (n:Nat)
 |most (x y:Operand)
 |least (x y:Operand)
 |stuck
 |capN (x:Operand)
 |sliceX (x hi mx:Operand)
 |range (x:Operand)
 |next (x:Operand)
 |encR (x:Operand)
 |strOf (x:Operand)
 |newB
 |strOfR (x:Operand)
 |runesOf (x:Operand)
 |mark (x:Operand)
structure AOper where
 dst:Option Nat
 op:AOp
 guard:Option (Nat×Bool)
structure SItem where
 idx:Nat
 o:AOper
 mover:Bool
 keep:Bool
 chks:List Nat
inductive AC where
 |skip
 |region (ops:List AOper)
 |draw (ops:List (AOper×List Nat))
 |sched (its:List SItem)
 |seq (a b:AC)
 |cond (c:Operand) (thn els:AC)
 |block (id:Nat) (body:AC)
 |loop (body:AC)
 |exit (id:Nat)
 |ret
inductive ARes where
 |tmp (t:Nat)
 |cell (t:Nat)
 |cellN (t n:Nat)
structure AFn where
 ntmps:Nat
 results:List ARes
 body:AC
abbrev HE :=List Value->Hp->(Value->Hp->Prop)->Prop
abbrev fM :=FuncId->HE
def one :Value->Bool
 | .agg _| .tuple _=>Zb
 |_=>Za
def cellsOf (v:Value):List Value:=v.cells.toList
def pz (x:Blk)(o n:Nat):Option (List Value):=if o+n<=x.cells.length then O ((x.cells.drop o).take n)else Y
def kD (cells:List Value)(o:Nat):List Value->List Value
 |[]=>cells
 |v::c=>kD (cells.set o v) (o+1) c
def wh (x:Blk)(o:Nat)(vs:List Value):Option Blk:=
 if x.own=Za/\o+vs.length<=x.cells.length/\vs.all one=Za then O {cells:=kD x.cells o vs,own:=x.own,es:=x.es}else Y
def Hp.slice (Z:Hp)(es:Nat):Value->Nat->Option (List Value)
 | .slice (O ⟨b,o,Y⟩) _ _,n=>if n=0 then O []else match Z.m b with
  |some x=>pz x o (n*es)
  |none=>Y
 | .slice Y _ _,n=>if n=0 then O []else Y
 | .string s,n=>if es=1 then O (((s.extract 0 n).data.toList).map λb=> .int .u8 b.toNat)else Y
 |_,_=>Y
def C9 :Value->Option Nat
 | .slice _ n _=>O n
 | .string s=>O s.size
 |_=>Y
def DV (cells:List Value):List (Nat×Nat×Value)->Option (List Value)
 |[]=>O cells
 |(d,c,v)::f=>
  if(cellsOf v).length=c/\d+c<=cells.length then DV (cells.take d++cellsOf v++cells.drop (d+c)) f else Y
def Uq (op:BinOp)(k:IntKind)(x y:Int):Option Value:=
 match op with
 | .add=>O (.int k (k.wrap (x+y)))
 | .sub=>O (.int k (k.wrap (x-y)))
 | .mul=>O (.int k (k.wrap (x*y)))
 | .quo=>if y=0 then Y else O (.int k (k.wrap (x.tdiv y)))
 | .rem=>if y=0 then Y else O (.int k (x.tmod y))
 | .and=>O (.int k (k.wrap (BitVec.ofInt k.bits x&&& BitVec.ofInt k.bits y).toNat))
 | .or=>O (.int k (k.wrap (BitVec.ofInt k.bits x|||BitVec.ofInt k.bits y).toNat))
 | .xor=>O (.int k (k.wrap (BitVec.ofInt k.bits x ^^^ BitVec.ofInt k.bits y).toNat))
 | .andNot=>O (.int k (k.wrap (BitVec.ofInt k.bits x&&& ~~~BitVec.ofInt k.bits y).toNat))
 | .eql=>O (.bool (x==y))
 | .neq=>O (.bool (x !=y))
 | .lss=>O (.bool (x<y))
 | .leq=>O (.bool (x<=y))
 | .gtr=>O (.bool (x > y))
 | .geq=>O (.bool (x≥y))
 |_=>Y
def U0 (op:BinOp)(x y:ByteArray):Option Value:=
 match op with
 | .add=>if((x.size+y.size:Nat):Int) > IntKind.i64.max then Y else O (.string (x++y))
 | .eql=>O (.bool (x.toList==y.toList))
 | .neq=>O (.bool !(x.toList==y.toList))
 | .lss=>O (.bool (Op.bytesLess x.toList y.toList))
 | .leq=>O (.bool (Op.bytesLess x.toList y.toList||x.toList==y.toList))
 | .gtr=>O (.bool !(Op.bytesLess x.toList y.toList||x.toList==y.toList))
 | .geq=>O (.bool !(Op.bytesLess x.toList y.toList))
 |_=>Y
def LW (op:BinOp)(k:IntKind)(x y:Int):Option Value:=
 if y<0 then Y else match op with
 | .shl=>O (.int k (k.wrap (x*2 ^ (min y.toNat k.bits))))
 | .shr=>O (.int k (x.fdiv (2 ^ (min y.toNat k.bits))))
 |_=>Y
def uO :BinOp->Bool
 | .shl| .shr=>Za
 |_=>Zb
def Aq (op:BinOp):Value->Value->Option Value
 | .int k a, .int c b=>if uO op=Za then LW op k a b else if k=c then Uq op k a b else Y
 | .string a, .string b=>if uO op=Za then Y else U0 op a b
 |_,_=>Y
def Qh :Nat->Value->Value->Option Bool
 |0, .bool a, .bool b=>O (a==b)
 |1, .pointer Y, .pointer b=>O b.isNone
 |1, .pointer (O _), .pointer Y=>O Zb
 |2, .slice Y _ _, .slice b _ _=>O b.isNone
 |2, .slice (O _) _ _, .slice Y _ _=>O Zb
 |3, .nilFunc, .nilFunc=>O Za
 |3, .nilFunc, .func _ _ _=>O Zb
 |3, .func _ _ _, .nilFunc=>O Zb
 |_,_,_=>Y
def vu :Nat->Value->Value->Option Bool
 |0, .bool a, .bool b=>O (a==b)
 |1, .int k a, .int c b=>if k=c then O (a==b)else Y
 |2, .string a, .string b=>O (a.toList==b.toList)
 |_,_,_=>Y
def jG :List Nat->List Value->List Value->Option Bool
 |[],[],[]=>O Za
 |k::c,a::r,b::s=>match vu k a b with
  |some true=>jG c r s
  |some false=>O Zb
  |none=>Y
 |_,_,_=>Y
def un1 :UnOp->Value->Option Value
 | .neg, .int k n=>O (.int k (k.wrap (0-n)))
 | .xor, .int k n=>O (.int k (k.wrap (BitVec.ofInt k.bits (if k.signed then-1 else k.max) ^^^ BitVec.ofInt k.bits n).toNat))
 | .not, .bool b=>O (.bool !b)
 |_,_=>Y
def X3 :Value->Option Int
 | .int _ n=>O n
 |_=>Y
def mS (y:Nat)(d:Nat):Option Value->Option Nat
 |some (.int _ i)=>if 0<=i/\i<=y then O i.toNat else Y
 |some _=>Y
 |none=>O d
def Pv :Value->Value->Option Value
 | .int k x, .int _ y=>O (.int k (if y<x then y else x))
 |_,_=>Y
def Tz :Value->Value->Option Value
 | .int k x, .int _ y=>O (.int k (if y > x then y else x))
 |_,_=>Y
def MR (a:Addr)(n:Nat):Addr:=⟨a.block,a.off+n,Y⟩
def Au (Z:Hp)(es:Nat)(a:Option Addr)(d:Option Operand):Bool:=match d,a with
 |none,_=>Za
 |_,Y=>Za
 |some _,O a=>match Z.m a.block with
  |some c=>c.es==es
  |none=>Zb
def eb (zero:List Value)(n:Nat):List Value:=(List.replicate n zero).flatten
def mE (es bytes:Nat)(Z:Hp)(a:Option Addr)(f j n:Nat)(d:List Value):Option (Value×Hp):=if f+n<=j then(match a with
      |some ⟨b,o,Y⟩=>if d=[]then O (.slice (O ⟨b,o,Y⟩) (f+n) j,Z)else match Z.m b with
       |some c=>match wh c (o+f*es) d with
        |some h=>O (.slice (O ⟨b,o,Y⟩) (f+n) j,Z.set b (O h))
        |none=>Y
       |none=>Y
      |none=>if d=[]/\f=0/\j=0/\n=0 then O (.slice Y 0 0,Z)else Y
      |_=>Y)
     else if(f+n)*bytes<=140737488355328/\f+n<=9223372036854775807/\d.all one=Za then(match a with
      |some ⟨b,o,Y⟩=>match Z.m b with
       |some c=>if c.own=Za/\c.es=es then match pz c o (f*es)with
        |some g=>O (.slice (O ⟨Z.n,0,Y⟩) (f+n) (f+n),(Z.set b Y).add ⟨g++d,Za,es⟩)
        |none=>Y
        else Y
       |none=>Y
      |none=>if f=0 then O (.slice (O ⟨Z.n,0,Y⟩) n n,Z.add ⟨d,Za,es⟩)else Y
      |some ⟨b,o,O _⟩=>if f=0 then O (.slice (O ⟨Z.n,0,Y⟩) n n,Z.add ⟨d,Za,es⟩)else match Z.m b with
       |some c=>if c.es=es then match pz c o (f*es)with
        |some g=>O (.slice (O ⟨Z.n,0,Y⟩) (f+n) (f+n),Z.add ⟨g++d,Za,es⟩)
        |none=>Y
        else Y
       |none=>Y)
     else Y
def Ar :List Value->Option (Zd)
 |[]=>O []
 | .int .u8 n::r=>(Ar r).map (n:: ·)
 |_=>Y
def Tr (l:Zd):ByteArray:=l.foldl (λr n=>r.push (UInt8.ofNat n.toNat)) ByteArray.empty
def Ax :List Value->Option (Zd)
 |[]=>O []
 | .int .i32 n::r=>(Ax r).map (n:: ·)
 |_=>Y
def Tt (l:Zd):ByteArray:=l.foldl (λr n=>r++Utf8.encode n) ByteArray.empty
def lf (s:ByteArray):List Value:=(Conv.runesFrom s s.size 0 #[]).toList
def AOp.run (e:cf)(Z:Hp):AOp->Option (Value×Hp)
 | .move x=>O (e.ev x,Z)
 | .pick c a b=>match e.ev c with
  | .bool true=>O (e.ev a,Z)
  | .bool false=>O (e.ev b,Z)
  |_=>Y
 | .alloc es zero=>O (.pointer (O ⟨Z.n,0,Y⟩),Z.add ⟨zero,Za,es⟩)
 | .box es x=>if(cellsOf (e.ev x)).all one then O (.pointer (O ⟨Z.n,0,Y⟩),Z.add ⟨cellsOf (e.ev x),Za,es⟩)else Y
 | .build zero u=>(DV zero (u.map λ(o,s,x)=>(o,s,e.ev x))).map λt=>(.agg t.toArray,Z)
 | .buildSlice es C zero u=>match DV (eb zero C) (u.map λ(o,s,x)=>(o,s,e.ev x))with
  |some t=>if t.all one then O (.slice (O ⟨Z.n,0,Y⟩) C C,Z.add ⟨t,Za,es⟩)else Y
  |none=>Y
 | .load x=>match e.ev x with
  | .pointer (O ⟨b,o,Y⟩)=>match Z.m b with
   |some g=>(g.cells[o]?).map λv=>(v,Z)
   |none=>Y
  |_=>Y
 | .loadN n x=>match e.ev x with
  | .pointer (O ⟨b,o,Y⟩)=>match Z.m b with
   |some g=>(pz g o n).map λt=>(.agg t.toArray,Z)
   |none=>Y
  |_=>Y
 | .store n a x=>match e.ev a with
  | .pointer (O ⟨b,o,Y⟩)=>if(cellsOf (e.ev x)).length=n then match Z.m b with
   |some g=>match wh g o (cellsOf (e.ev x))with
    |some z=>O (undef,Z.set b (O z))
    |none=>Y
   |none=>Y
   else Y
  |_=>Y
 | .nilCheck x=>match e.ev x with
  | .pointer (O a)=>O (.pointer (O a),Z)
  | .func (.func f) first q=>O (.func (.func f) first q,Z)
  |_=>Y
 | .bin op x y=>(Aq op (e.ev x) (e.ev y)).map λv=>(v,Z)
 | .eqv M F x y=>(Qh M (e.ev x) (e.ev y)).map λb=>(.bool (b !=F),Z)
 | .eqCells F Q x y=>match e.ev x,e.ev y with
  | .agg a, .agg b=>(jG Q a.toList b.toList).map λb=>(.bool (b !=F),Z)
  |_,_=>Y
 | .un op x=>(un1 op (e.ev x)).map λv=>(v,Z)
 | .conv k x=>(X3 (e.ev x)).map λn=>(.int k (k.wrap n),Z)
 | .mkFunc f first q=>O (.func (.func f) (first.map e.ev).toArray (q.map e.ev).toArray,Z)
 | .makeSlice es j zero l c=>match e.ev l,e.ev c with
  | .int _ l, .int _ c=>if 0<=l/\l<=c/\j*c<=281474976710656/\c<=9223372036854775807 then
    O (.slice (O ⟨Z.n,0,Y⟩) l.toNat c.toNat,Z.add ⟨eb zero c.toNat,Za,es⟩)else Y
  |_,_=>Y
 | .slice es x H E=>match e.ev x with
  | .slice a C A=>if(A==0||Au Z es a H)=Za then match mS A C (E.map e.ev)with
   |some h=>match mS h 0 (H.map e.ev)with
    |some l=>O (.slice (a.map (MR · (l*es))) (h-l) (A-l),Z)
    |none=>Y
   |none=>Y else Y
  |_=>Y
 | .sliceStr x H E=>match e.ev x with
  | .string s=>match mS s.size s.size (E.map e.ev)with
   |some h=>match mS h 0 (H.map e.ev)with
    |some l=>O (.string (s.extract l h),Z)
    |none=>Y
   |none=>Y
  |_=>Y
 | .sliceArr es n x H E=>match e.ev x with
  | .pointer (O ⟨b,o,Y⟩)=>match Z.m b with
   |some g=>if g.own=Za/\g.es=es/\o+n*es<=g.cells.length then match mS n n (E.map e.ev)with
    |some h=>match mS h 0 (H.map e.ev)with
     |some l=>if l<n then O (.slice (O ⟨b,o+l*es,Y⟩) (h-l) (n-l),Z)else Y
     |none=>Y
    |none=>Y else Y
   |none=>Y
  |_=>Y
 | .off n x=>match e.ev x with
  | .pointer (O ⟨b,o,Y⟩)=>O (.pointer (O ⟨b,o+n,Y⟩),Z)
  |_=>Y
 | .idx es x i=>match e.ev x,e.ev i with
  | .slice (O ⟨b,o,Y⟩) C _, .int _ i=>if 0<=i/\i<C then O (.pointer (O ⟨b,o+i.toNat*es,Y⟩),Z)else Y
  |_,_=>Y
 | .idxA C es x i=>match e.ev x,e.ev i with
  | .pointer (O ⟨b,o,Y⟩), .int _ i=>if 0<=i/\i<C then O (.pointer (O ⟨b,o+i.toNat*es,Y⟩),Z)else Y
  |_,_=>Y
 | .fieldV J n agg x=>match e.ev x with
  | .agg t=>if agg then O (.agg (t.extract J (J+n)),Z)else(t[J]?).map λv=>(v,Z)
  |_=>Y
 | .indexV C es agg x i=>match e.ev x,e.ev i with
  | .agg t, .int _ i=>if 0<=i/\i<C then(if agg then O (.agg (t.extract (i.toNat*es) (i.toNat*es+es)),Z)else(t[i.toNat*es]?).map λv=>(v,Z))else Y
  |_,_=>Y
 | .indexS x i=>match e.ev x,e.ev i with
  | .string s, .int _ i=>if 0<=i then(s[i.toNat]?).map λb=>(.int .u8 b.toNat,Z)else Y
  |_,_=>Y
 | .extract x i=>match e.ev x with
  | .tuple T=>(T[i]?).map λv=>(v,Z)
  |_=>Y
 | .call _ _| .callv _ _=>Y
 | .append es j s x=>match e.ev s with
  | .slice a L K=>match C9 (e.ev x)with
   |some n=>match Z.slice es (e.ev x) n with
    |some D=>mE es j Z a L K n D
    |none=>Y
   |none=>Y
  |_=>Y
 | .appendZ es j zero s x=>match e.ev s,e.ev x with
  | .slice a L K, .int _ l=>if 0<=l/\l<=9223372036854775807/\l*j<=281474976710656 then mE es j Z a L K l.toNat (eb zero l.toNat)else Y
  |_,_=>Y
 | .copy es d s=>match e.ev d with
  | .slice a I _=>match C9 (e.ev s)with
   |some n=>match Z.slice es (e.ev s) (min n I)with
    |some D=>(match a with
     |some ⟨b,o,Y⟩=>if D=[]then O (.int .i64 (min n I:Nat),Z)else match Z.m b with
      |some g=>match wh g o D with
       |some z=>O (.int .i64 (min n I:Nat),Z.set b (O z))
       |none=>Y
      |none=>Y
     |none=>if D=[]then O (.int .i64 (min n I:Nat),Z)else Y
     |_=>Y)
    |none=>Y
   |none=>Y
  |_=>Y
 | .len x=>match e.ev x with
  | .slice _ n _=>O (.int .i64 n,Z)
  |_=>Y
 | .lenS x=>match e.ev x with
  | .string s=>O (.int .i64 s.size,Z)
  |_=>Y
 | .lenC n=>O (.int .i64 n,Z)
 | .most x y=>(Tz (e.ev x) (e.ev y)).map λv=>(v,Z)
 | .least x y=>(Pv (e.ev x) (e.ev y)).map λv=>(v,Z)
 | .stuck=>Y
 | .capN x=>match e.ev x with
  | .slice Y 0 0=>O (.int .i64 0,Z)
  |_=>Y
 | .sliceX x E S=>match e.ev x with
  | .slice a _ A=>match mS A 0 (O (e.ev S))with
   |some m=>match mS m 0 (O (e.ev E))with
    |some h=>if h=m then match a with
     |none=>O (.slice Y 0 0,Z)
     |some ⟨b,o,Y⟩=>O (.slice (O ⟨b,o,O 0⟩) m m,Z)
     |_=>Y
     else Y
    |none=>Y
   |none=>Y
  |_=>Y
 | .range x=>match e.ev x with
  | .string s=>O (.iface Z.n (.string s),Z.add ⟨[.int .i64 0],Za,1⟩)
  |_=>Y
 | .next x=>match e.ev x with
  | .iface b (.string s)=>match Z.m b with
   |some g=>if g.own=Za then(match g.cells with
    | .int .i64 p::r=>if 0<=p then(if p.toNat<s.size then
      O (.tuple #[.bool Za, .int .i64 p, .int .i32 (Utf8.decode s p.toNat).1],Z.set b (O ⟨.int .i64 ((p.toNat+(Utf8.decode s p.toNat).2:Nat):Int)::r,Za,g.es⟩))
     else O (.tuple #[.bool Zb],Z))else Y
    |_=>Y)else Y
   |none=>Y
  |_=>Y
 | .encR x=>(X3 (e.ev x)).map λn=>(.string (Utf8.encode n),Z)
 | .strOfR x=>match e.ev x with
  | .slice a n c=>match Z.slice 1 (.slice a n c) n with
   |some t=>(Ax t).map λl=>(.string (Tt l),Z)
   |none=>Y
  |_=>Y
 | .runesOf x=>match e.ev x with
  | .string s=>if s.size<=70368744177664 then O (.slice (O ⟨Z.n,0,Y⟩) (lf s).length (lf s).length,Z.add ⟨lf s,Za,1⟩)else Y
  |_=>Y
 | .mark x=>match e.ev x with
  | .slice (O ⟨b,o,Y⟩) n c=>if 0<n then(match Z.m b with
   |some g=>if g.own=Za then O (.slice (O ⟨b,o,Y⟩) n c,Z)else Y
   |none=>Y)else Y
  |_=>Y
 | .newB=>O (.iface Z.n .nilFunc,Z.add ⟨[.string ByteArray.empty],Za,1⟩)
 | .strOf x=>match e.ev x with
  | .slice a n c=>match Z.slice 1 (.slice a n c) n with
   |some t=>(Ar t).map λl=>(.string (Tr l),Z)
   |none=>Y
  |_=>Y
def bu (T:fM)(op:AOp)(e:cf)(Z:Hp)(k:Value->Hp->Prop):Prop:=
 match op with
 | .call f d=>T f (d.map e.ev) Z k
 | .callv x d=>match e.ev x with
  | .func (.func f) first c=>T f (first.toList++d.map e.ev++c.toList) Z k
  |_=>False
 |op=>match op.run e Z with
  |some (v,Z')=>k v Z'
  |none=>False
def wanted (o:AOper)(e:cf):Bool:=
 match o.guard with
 |some (t,c)=>match e t with
  | .bool b=>b==c
  |_=>Zb
 |none=>Za
def yF (T:fM)(Q:cf->Hp->Prop):List AOper->cf->Hp->Prop
 |[],e,Z=>Q e Z
 |o::c,e,Z=>if wanted o e then bu T o.op e Z λv Z'=>yF T Q c (e.putO o.dst v) Z' else yF T Q c (e.putO o.dst undef) Z
def AOp.still :AOp->Bool
 | .alloc .. | .box .. | .buildSlice .. | .store .. | .call .. | .callv .. | .makeSlice .. | .append .. | .appendZ .. | .copy .. | .range .. | .next .. | .strOf .. | .newB| .strOfR .. | .runesOf .. | .mark .. =>Zb
 |_=>Za
def jc (f:(AExit->cf->Hp->Prop)->cf->Hp->Prop)(Q:AExit->cf->Hp->Prop):Nat->cf->Hp->Prop
 |0,_,_=>False
 |n+1,e,Z=>f (λx c Z'=>match x with
  | .normal=>jc f Q n c Z'
  |x=>Q x c Z') e Z
def AOp.isLoad :AOp->Bool
 | .load _| .loadN _ _| .sliceArr _ _ _ _ _| .slice _ _ (O _) _=>Za
 |_=>Zb
def gV (c:List (AOper×List Nat))(i:Nat):List Nat:=match c[i]? with
 |some (_,p)=>p
 |none=>[]
def FX (acc:List Nat)(c:List Nat):Nat:=c.foldl (λm q=>m|||2 ^ q|||acc.getD q 0) 0
def QH (acc:List Nat):List (AOper×List Nat)->List Nat
 |[]=>acc
 |(_,c)::r=>QH (acc++[FX acc c]) r
def sZ (c:List (AOper×List Nat))(p j:Nat):Bool:=((QH [] c).getD j 0).testBit p
def Pg (c:List (AOper×List Nat))(done:List Nat)(i:Nat):Bool:=
 !done.contains i&&(gV c i).all λq=>done.contains q
def Cl (c:List (AOper×List Nat))(i:Nat):Bool:=match c[i]? with
 |some (o,_)=>o.op.still
 |none=>Zb
def dx (c:List (AOper×List Nat))(done:List Nat):Option Nat:=(aB c.length).find? λi=>Pg c done i&&Cl c i
def bn (c:List (AOper×List Nat))(done:List Nat):List Nat:=(aB c.length).filter λi=>Pg c done i&& !Cl c i
def Kw (f:Nat->Prop):List Nat->Prop
 |[]=>True
 |[m]=>f m
 |m::r=>f m/\Kw f r
def A3 (d:List (AOper×List Nat))(m:Nat)(Z:Hp):List (Nat×(Hp->Prop))->Prop
 |[]=>True
 |(i,c)::r=>if sZ d i m then A3 d m Z r else c Z/\A3 d m Z r
def Cq (T:fM)(Q:cf->Hp->Prop)(c:List (AOper×List Nat)):Nat->List Nat->List (Nat×(Hp->Prop))->cf->Hp->Prop
 |0,_,_,e,Z=>Q e Z
 |f+1,done,d,e,Z=>match dx c done with
  |some i=>match c[i]? with
   |some (o,_)=>
    if wanted o e then match o.op.run e Z with
     |some (v,_)=>Cq T Q c f (i::done) (if o.op.isLoad then(i,λZ'=>o.op.run e Z'=O (v,Z'))::d else d) (e.putO o.dst v) Z
     |none=>False
    else Cq T Q c f (i::done) d (e.putO o.dst undef) Z
   |none=>False
  |none=>match bn c done with
   |[]=>Q e Z
   |ms=>Kw (λm=>match c[m]? with
    |some (o,_)=>
     if wanted o e then bu T o.op e Z λv Z'=>A3 c m Z' d/\Cq T Q c f (m::done) d (e.putO o.dst v) Z'
     else Cq T Q c f (m::done) d (e.putO o.dst undef) Z
    |none=>False) ms
def xh (d:List Nat)(Z:Hp):List (Nat×(Hp->Prop))->Prop
 |[]=>True
 |(i,c)::r=>if d.contains i then c Z/\xh d Z r else xh d Z r
def SY (c:List (AOper×List Nat))(i:Nat):Bool:=match c[i]? with
 |some (o,_)=> !o.op.still
 |none=>Zb
def X4 (c:List (AOper×List Nat))(i:Nat):Bool:=(aB c.length).any λm=>SY c m&& !sZ c i m
def EO (d:List (AOper×List Nat)):Nat->List Nat->List Nat->Option (List SItem)
 |0,_,_=>O []
 |f+1,done,c=>match dx d done with
  |some i=>match d[i]? with
   |some (o,_)=>(EO d f (i::done) (if o.op.isLoad then i::c else c)).map (⟨i,o,Zb,o.op.isLoad&&X4 d i,[]⟩:: ·)
   |none=>Y
  |none=>match bn d done with
   |[]=>O []
   |[m]=>match d[m]? with
    |some (o,_)=>(EO d f (m::done) c).map (⟨m,o,Za,Zb,c.filter λi=> !sZ d i m⟩:: ·)
    |none=>Y
   |_=>Y
def PC (T:fM)(Q:cf->Hp->Prop):List SItem->List (Nat×(Hp->Prop))->cf->Hp->Prop
 |[],_,e,Z=>Q e Z
 |it::r,c,e,Z=>
  if wanted it.o e then
   (if it.mover then bu T it.o.op e Z λv Z'=>xh it.chks Z' c/\PC T Q r c (e.putO it.o.dst v) Z'
    else match it.o.op.run e Z with
    |some (v,_)=>PC T Q r (if it.keep then(it.idx,λZ'=>it.o.op.run e Z'=O (v,Z'))::c else c) (e.putO it.o.dst v) Z
    |none=>False)
  else PC T Q r c (e.putO it.o.dst undef) Z
def vL (T:fM):AC->(AExit->cf->Hp->Prop)->cf->Hp->Prop
 | .skip,Q,e,Z=>Q .normal e Z
 | .region d,Q,e,Z=>yF T (Q .normal) d e Z
 | .draw d,Q,e,Z=>Cq T (Q .normal) d d.length [] [] e Z
 | .sched f,Q,e,Z=>PC T (Q .normal) f [] e Z
 | .seq a b,Q,e,Z=>vL T a (λx e Z=>match x with
  | .normal=>vL T b Q e Z
  |x=>Q x e Z) e Z
 | .cond c a b,Q,e,Z=>match e.ev c with
  | .bool true=>vL T a Q e Z
  | .bool false=>vL T b Q e Z
  |_=>False
 | .block id b,Q,e,Z=>vL T b (λx e Z=>match x with
  | .exit i=>if i=id then Q .normal e Z else Q (.exit i) e Z
  |x=>Q x e Z) e Z
 | .loop b,Q,e,Z=> ∃n,jc (vL T b) Q n e Z
 | .exit id,Q,e,Z=>Q (.exit id) e Z
 | .ret,Q,e,Z=>Q .ret e Z
def LC (e:cf)(Z:Hp):ARes->Option Value
 | .tmp t=>O (e t)
 | .cell t=>match e t with
  | .pointer (O ⟨b,o,Y⟩)=>(Z.m b).bind λx=>x.cells[o]?
  |_=>Y
 | .cellN t n=>match e t with
  | .pointer (O ⟨b,o,Y⟩)=>(Z.m b).bind λx=>(pz x o n).map λc=> .agg c.toArray
  |_=>Y
def Im (e:cf)(Z:Hp):List ARes->Option (List Value)
 |[]=>O []
 |r::c=>match LC e Z r,Im e Z c with
  |some v,O d=>O (v::d)
  |_,_=>Y
def zM :List Value->Value
 |[v]=>v
 |vs=> .tuple vs.toArray
def wpF (T:fM)(f:AFn):HE:=λc Z K=>c.length<=f.ntmps/\
 vL T f.body (λx e Z'=>match x with
  | .exit _=>False
  |_=>match Im e Z' f.results with
   |some d=>K (zM d) Z'
   |none=>False) (cf.of c) Z
end
variable {e:cf}
section
open Nat renaming lt_of_lt_of_le -> aB
open Go.RowKit
structure G where
 c:Nat
 o:Nat
 ext:Nat
 es:Nat
 ty:Nat
 it:Option Value
abbrev Mu :=Nat->Option G
def Mu.le (μ μ':Mu):Prop:= ∀b g,μ b=O g->μ' b=O g
theorem Mu.le_refl (μ:Mu):μ.le μ:=λ_ _ h=>h
theorem Mu.le_trans {a b c:Mu}(h:a.le b)(k:b.le c):a.le c:=λx g d=>k x g (h x g d)
def Mu.add (μ:Mu)(n:Nat)(g:G):Mu:=λb=>if b=n then O g else μ b
theorem Mu.le_add {μ:Mu}{n:Nat}{g:G}(h:μ n=Y):μ.le (μ.add n g):=λb d c=>by
 unfold Mu.add;by_cases e:b=n
 .subst e;rw[h]at c;cases c
 .rw[zF e];exact c
def Mu.at (μ:Mu)(b:Nat)(g:G):Prop:=μ b=O g/\g.it=Y
theorem Mu.at_le {μ μ':Mu}(h:μ.le μ'){b:Nat}{g:G}(k:μ.at b g):μ'.at b g:=⟨h _ _ k.1,k.2⟩
inductive F2 {α β:Type}(r:α->β->Prop):List α->List β->Prop where
 |nil:F2 r [] []
 |cons {a:α} {b:β} {l:List α} {m:List β}:r a b->F2 r l m->F2 r (a::l) (b::m)
inductive VR (μ:Mu):Value->Value->Prop where
 |bool (b:Bool):VR μ (.bool b) (.bool b)
 |int (k:IntKind) (n:Int):VR μ (.int k n) (.int k n)
 |string (s:ByteArray):VR μ (.string s) (.string s)
 |nilp:VR μ (.pointer Y) (.pointer Y)
 |ptr {b o:Nat} {g:G}:μ.at b g->VR μ (.pointer (O ⟨b,o,Y⟩)) (.pointer (O ⟨g.c,g.o+o,Y⟩))
 |nils:VR μ (.slice Y 0 0) (.slice Y 0 0)
 |slice {b o l c c':Nat} {g:G}:μ.at b g->l<=c->c<=c'->o+c'*g.es<=g.ext->VR μ (.slice (O ⟨b,o,Y⟩) l c) (.slice (O ⟨g.c,g.o+o,Y⟩) l c')
 |slice0 {b o:Nat} {g:G} (A':Addr):μ.at b g->VR μ (.slice (O ⟨b,o,Y⟩) 0 0) (.slice (O A') 0 0)
 |sliceX {b o c:Nat} {g:G}:μ.at b g->o+c*g.es<=g.ext->VR μ (.slice (O ⟨b,o,O 0⟩) c c) (.slice (O ⟨g.c,g.o+o,Y⟩) c c)
 |sliceX0 {b o:Nat} {g:G} (A':Addr):μ.at b g->VR μ (.slice (O ⟨b,o,O 0⟩) 0 0) (.slice (O A') 0 0)
 |nilf:VR μ .nilFunc .nilFunc
 |func {f:Fn} {a a' c c':Array Value}:F2 (VR μ) a.toList a'.toList->F2 (VR μ) c.toList c'.toList->VR μ (.func f a c) (.func f a' c')
 |nili:VR μ .nilIface .nilIface
 |iter {b:Nat} {g:G} {v:Value}:μ b=O g->g.it=O v->VR μ (.iface b v) (.pointer (O ⟨g.c,0,Y⟩))
 |agg {a a':Array Value}:F2 (VR μ) a.toList a'.toList->VR μ (.agg a) (.agg a')
 |tuple {a a':Array Value}:F2 (VR μ) a.toList a'.toList->VR μ (.tuple a) (.tuple a')
theorem F2.length {α β:Type}{r:α->β->Prop}{l:List α}{m:List β}(h:F2 r l m):l.length=m.length:=by
 induction h with
 |nil=>rfl
 |cons _ _ c=>simp[c]
theorem F2.get {α β:Type}{r:α->β->Prop}{l:List α}{m:List β}(h:F2 r l m): ∀(i:Nat) (a:α),l[i]?=O a->∃b,m[i]?=O b/\r a b:=by
 induction h with
 |nil=>intro i a h;simp at h
 |cons c _ d=>
  intro i a h;cases i with
  |zero=>simp at h;subst h;exact⟨_,by simp,c⟩
  |succ i=>simp at h;simpa using d i a h
theorem F2.of_get {α β:Type}{r:α->β->Prop}: ∀(l:List α) (m:List β),l.length=m.length->(∀(i:Nat) (a:α) (b:β),l[i]?=O a->m[i]?=O b->r a b)->F2 r l m
 |[],[],_,_=> .nil
 |[],_::_,h,_=>by simp at h
 |_::_,[],h,_=>by simp at h
 |a::l,b::m,h,c=> .cons (c 0 a b rfl rfl) (F2.of_get l m (by simpa using h) λi x y d f=>c (i+1) x y (by simpa using d) (by simpa using f))
theorem F2.append {α β:Type}{r:α->β->Prop}{l l':List α}{m m':List β}(h:F2 r l m)(c:F2 r l' m'):F2 r (l++l') (m++m'):=by
 induction h with
 |nil=>exact c
 |cons d _ f=>exact .cons d f
theorem F2.take {α β:Type}{r:α->β->Prop}{l:List α}{m:List β}(h:F2 r l m): ∀n,F2 r (l.take n) (m.take n):=by
 induction h with
 |nil=>intro n;simp;exact .nil
 |cons c _ d=>
  intro n;cases n with
  |zero=>exact .nil
  |succ n=>exact .cons c (d n)
theorem F2.drop {α β:Type}{r:α->β->Prop}{l:List α}{m:List β}(h:F2 r l m): ∀n,F2 r (l.drop n) (m.drop n):=by
 induction h with
 |nil=>intro n;simp;exact .nil
 |cons c d f=>
  intro n;cases n with
  |zero=>exact .cons c d
  |succ n=>exact f n
theorem F2.map {α β γ δ:Type}{r:α->β->Prop}{s:γ->δ->Prop}{f:α->γ}{g:β->δ}(c: ∀a b,r a b->s (f a) (g b)){l:List α}{m:List β}(h:F2 r l m):F2 s (l.map f) (m.map g):=by
 induction h with
 |nil=>exact .nil
 |cons d _ j=>exact .cons (c _ _ d) j
theorem F2.same {α:Type}{r:α->α->Prop}: ∀(l:List α),(∀a∈l,r a a)->F2 r l l
 |[],_=> .nil
 |a::l,h=> .cons (h a (by simp)) (F2.same l λb c=>h b (by simp[c]))
theorem F2.imp {α β:Type}{r s:α->β->Prop}(c: ∀a b,r a b->s a b){l:List α}{m:List β}(h:F2 r l m):F2 s l m:=by
 induction h with
 |nil=>exact .nil
 |cons d _ f=>exact .cons (c _ _ d) f
theorem VR.mono {μ μ':Mu}(d:μ.le μ'): ∀{v v':Value},VR μ v v'->VR μ' v v'
 |_,_, .bool b=> .bool b
 |_,_, .int k n=> .int k n
 |_,_, .string s=> .string s
 |_,_, .nilp=> .nilp
 |_,_, .ptr h=> .ptr (Mu.at_le d h)
 |_,_, .nils=> .nils
 |_,_, .slice h c f g=> .slice (Mu.at_le d h) c f g
 |_,_, .slice0 A' h=> .slice0 A' (Mu.at_le d h)
 |_,_, .sliceX h c=> .sliceX (Mu.at_le d h) c
 |_,_, .sliceX0 A' h=> .sliceX0 A' (Mu.at_le d h)
 |_,_, .nilf=> .nilf
 |_,_, .func c f=> .func (go c) (go f)
 |_,_, .nili=> .nili
 |_,_, .iter h c=> .iter (d _ _ h) c
 |_,_, .agg h=> .agg (go h)
 |_,_, .tuple h=> .tuple (go h)
where
 go {l m:List Value}:F2 (VR μ) l m->F2 (VR μ') l m
 | .nil=> .nil
 | .cons h t=> .cons (VR.mono d h) (go t)
theorem VR.undef (μ:Mu):VR μ undef undef:= .tuple .nil
theorem VR.one_iff {μ:Mu}(h:VR μ v v'):one v=v'.oneCell':=by cases h<;>rfl
theorem VR.cells {μ:Mu}(h:VR μ v v'):F2 (VR μ) (cellsOf v) v'.cells.toList:=by
 cases h with
 |agg h=>exact h
 |bool b=>exact .cons (.bool b) .nil
 |int k n=>exact .cons (.int k n) .nil
 |string s=>exact .cons (.string s) .nil
 |nilp=>exact .cons .nilp .nil
 |ptr h=>exact .cons (.ptr h) .nil
 |nils=>exact .cons .nils .nil
 |slice h c d f=>exact .cons (.slice h c d f) .nil
 |slice0 A' h=>exact .cons (.slice0 A' h) .nil
 |sliceX h c=>exact .cons (.sliceX h c) .nil
 |sliceX0 A' h=>exact .cons (.sliceX0 A' h) .nil
 |nilf=>exact .cons .nilf .nil
 |func c d=>exact .cons (.func c d) .nil
 |nili=>exact .cons .nili .nil
 |iter h c=>exact .cons (.iter h c) .nil
 |tuple h=>exact .cons (.tuple h) .nil
def FY :Value->Bool
 | .bool _| .int _ _| .string _| .pointer Y| .slice Y 0 0| .nilFunc| .nilIface=>Za
 | .agg c=>c.toList.all λ
  | .bool _| .int _ _| .string _| .pointer Y| .slice Y 0 0| .nilFunc| .nilIface=>Za
  |_=>Zb
 | .tuple c=>c.size==0
 |_=>Zb
theorem VR.plain1 (μ:Mu): ∀v:Value,(match v with
  | .bool _| .int _ _| .string _| .pointer Y| .slice Y 0 0| .nilFunc| .nilIface=>Za
  |_=>Zb)=Za->VR μ v v:=by
 intro v h;cases v with
 |bool b=>exact .bool b
 |int k n=>exact .int k n
 |string s=>exact .string s
 |pointer a=>cases a with
  |none=>exact .nilp
  |some a=>simp at h
 |slice a n c=>
  split at h<;>first|(rename_i d;cases d;exact .nils)|simp_all
 |nilFunc=>exact .nilf
 |nilIface=>exact .nili
 |_=>simp at h
theorem VR.plain {μ:Mu}(h:FY v=Za):VR μ v v:=by
 cases v with
 |agg d=>
  refine .agg (F2.same _ λa f=>VR.plain1 μ a ?_);simp only[FY,List.all_eq_true]at h;exact h a f
 |tuple d=>
  have:d= #[]:=by simpa[FY]using h
  subst this;exact .tuple .nil
 |bool b=>exact .bool b
 |int k n=>exact .int k n
 |string s=>exact .string s
 |pointer a=>cases a with
  |none=>exact .nilp
  |some a=>simp[FY]at h
 |slice a n c=>
  unfold FY at h;split at h<;>first|(rename_i g;cases g;exact .nils)|simp_all
 |nilFunc=>exact .nilf
 |nilIface=>exact .nili
 |_=>simp[FY]at h
structure Base (P:Program)where
 n:Nat
 h:Nat->Option Obj
 tab: ∀w:World,n<=w.heap.size->(∀b,b<n->w.heap[b]?=h b)->P.globalNamed "internal/strconv.uint64pow10" ≠Y->Lib.TabIs P w "internal/strconv.uint64pow10" .u64 Lib.pow10Tab
instance (P :Program):CoeHead (Base P) Nat:=⟨Base.n⟩
def Ur (P:Program)(t:TypeId):Bool:=match P.types[t]? with
 |some i=>(match i.desc with
  | .named n _=>n== "strings.Builder"
  |_=>Zb)
 |none=>Zb
def oN (w:World)(c:Nat):Option Nat:=match w.heap[c]? with
 |some (.cells d _ _)=>(d[1]?).bind Value.ownBlock
 |_=>Y
theorem Po (w:World)(g i:Nat)(cs:Array Value)(t:TypeId)(c:Nat×Nat)(v:Value)(d:w.heap[g]?=O (.cells cs t c)):(w.setCell ⟨g,i,Y⟩ v).heap[g]?=O (.cells (cs.setIfInBounds i v) t c):=by
 simp[World.setCell,Array.getElem?_modify,d]
theorem K6 (w:World)(g j:Nat)(cs:Array Value)(t:TypeId)(c:Nat×Nat)(f:w.heap[g]?=O (.cells cs t c))(k:j<cs.size)(d:cs.size<=c.1∨c.1=c.2):w.frozen? ⟨g,j,Y⟩=Zb:=by
 obtain⟨l,h⟩:=c;simp only at d;simp only[World.frozen?,f,Bool.and_eq_false_iff,decide_eq_false_iff_not];omega
structure Lives {P:Program}(B:Base P)(μ:Mu)(w:World)(x:Blk)(g:G):Prop where
 lt:g.c<w.heap.size
 es:g.es=x.es
 cell:g.it=Y->∀(i:Nat) (v:Value),x.cells[i]?=O v->∃v',w.cell? ⟨g.c,g.o+i,Y⟩=O v'/\VR μ v v'
 own:g.it=Y->x.own=Za->B.n<=g.c/\x.cells.length<=g.ext/\∃cur e fr,w.heap[g.c]?=O (.cells cur e fr)/\g.o+g.ext<=cur.size/\(cur.size<=fr.1∨fr.1=fr.2)
 iter: ∀s,g.it=O (.string s)->B.n<=g.c/\∃p:Nat,x.cells=[Value.int .i64 p].take x.cells.length/\w.heap[g.c]?=O (.stringIter s p)
 bld:g.it=O .nilFunc->Ur P g.ty=Za/\∃p s,(p= .pointer Y∨p= .pointer (O ⟨g.c,0,Y⟩))/\x.cells=[Value.string s].take x.cells.length/\Lib.BuilderAtF g.ty P.rt.byte B.n g.c p (Lib.strCells s) w
def Sep (μ:Mu)(Z:Hp)(w:World):Prop:= ∀b x g,Z.m b=O x->μ b=O g->g.it=O .nilFunc->∀k,oN w g.c=O k->∀f h d,Z.m f=O h->μ f=O d->d.c≠k/\(f≠b->d.it=O .nilFunc->oN w d.c≠O k)
theorem Sep.of {μ μ':Mu}{Z Z':Hp}{w':World}(h:Sep μ Z w)(j: ∀b x g,Z'.m b=O x->μ' b=O g->(∃y,Z.m b=O y/\μ b=O g)∨(g.it≠O .nilFunc/\∀b1 L t k,Z.m b1=O L->μ b1=O t->t.it=O .nilFunc->oN w t.c=O k->g.c≠k))
  (D: ∀b x g,Z.m b=O x->μ b=O g->g.it=O .nilFunc->(∃y,Z'.m b=O y)->oN w' g.c=oN w g.c):Sep μ' Z' w':=by
 intro b x g E I f k A r F s n z;rcases j b x g E I with⟨y,l,u⟩|⟨l,_⟩
 .rw[D b y g l u f ⟨x,E⟩]at A;rcases j r F s n z with⟨H,p,q⟩|⟨p,q⟩
  .obtain⟨J,K⟩:=h b y g l u f k A r H s p q;exact⟨J,λC d=>by rw[D r H s p q d ⟨F,n⟩];exact K C d⟩
  .exact⟨q b y g k l u f A,λ_ d=>(p d).elim⟩
 .exact(l f).elim
theorem Su {T e:TypeId}{n b:Nat}{p:Value}{bs:List Value}{w':World}(h:Lib.BuilderAtF T e n b p bs w)(u:w'.heap[b]?=w.heap[b]?)(A: ∀k,oN w b=O k->w'.heap[k]?=w.heap[k]?):Lib.BuilderAtF T e n b p bs w':=by
 obtain⟨t,v,d,c,q⟩:=h;refine⟨t,v,u.trans d,⟨c.1, ?_⟩,q⟩;rcases c.2 with C|⟨g,j,l,s,r,z,m,f⟩
 .exact .inl C
 .exact .inr ⟨g,j,l,s,r,z,(A g (by subst r;simp[oN,d,Value.ownBlock])).trans m,f⟩
theorem Vu {T e:TypeId}{n b:Nat}{p:Value}{bs:List Value}(h:Lib.BuilderAtF T e n b p bs w){k:Nat}(m:oN w b=O k):n<=k/\k<w.heap.size/\k≠b:=by
 obtain⟨q,v,d,c,f⟩:=h;have g:v.ownBlock=O k:=by simpa[oN,d]using m
 obtain⟨j,l⟩:=c.lt k g;exact⟨j,l,λe=>f (e▸g)⟩
structure R {P:Program}(B:Base P)(μ:Mu)(Z:Hp)(w:World):Prop where
 base:B.n<=w.heap.size
 old: ∀b,b<B.n->w.heap[b]?=B.h b
 fresh: ∀b,Z.n<=b->μ b=Y
 live: ∀b x,Z.m b=O x->∃g,μ b=O g/\Lives B μ w x g
 inj: ∀b b' x x' g g',Z.m b=O x->Z.m b'=O x'->b≠b'->x.own=Za->μ b=O g->μ b'=O g'->g.c≠g'.c
 sep:Sep μ Z w
section
variable {P:Program} {B:Base P} {μ μ':Mu} {Z:Hp} {w w':World}
theorem Lives.mono {x:Blk}{g:G}(h:Lives B μ w x g)(k:μ.le μ'):Lives B μ' w x g:=
 ⟨h.lt,h.es,λc i v j=>let⟨v',d,f⟩:=h.cell c i v j;⟨v',d,f.mono k⟩,h.own,h.iter,h.bld⟩
theorem Lives.kept {x:Blk}{g:G}(h:Lives B μ w x g)(t:w.heap.size<=w'.heap.size)(j:w'.heap[g.c]?=w.heap[g.c]?)(A:g.it=O .nilFunc->∀k,oN w g.c=O k->w'.heap[k]?=w.heap[k]?):Lives B μ w' x g:=
 ⟨aB h.lt t,h.es,λm i v D=>let⟨v',d,n⟩:=h.cell m i v D;⟨v',(World.cell?_of_block (w:=w) (w':=w') j).trans d,n⟩,λm C=>by
  obtain⟨d,n,l,e,z,f,r⟩:=h.own m C
  exact⟨d,n,l,e,z,j.trans f,r⟩,λs t=>let⟨d,p,q,f⟩:=h.iter s t;⟨d,p,q,j.trans f⟩,λu=>let⟨d,p,s,q,f,r⟩:=h.bld u;⟨d,p,s,q,f,Su r j (A u)⟩⟩
theorem R.same (h:R B μ Z w)(c:w'.heap=w.heap):R B μ Z w':=
 ⟨by rw[c];exact h.base,λb l=>by rw[c];exact h.old b l,h.fresh,λb x d=>let⟨g,f,j⟩:=h.live b x d;⟨g,f,j.kept (by rw[c];exact Nat.le_refl _) (by rw[c]) (λ_ k _=>by rw[c])⟩,h.inj,h.sep.of (λb x g d m=> .inl ⟨x,d,m⟩) (λb x g _ _ _ _=>by unfold oN;rw[c])⟩
theorem R.get (h:R B μ Z w){b:Nat}{x:Blk}{g:G}(j:Z.m b=O x)(f:μ b=O g):Lives B μ w x g:=by
 obtain⟨k,c,d⟩:=h.live b x j;rw[f]at c;injection c with c
 exact c▸d
theorem R.buf (h:R B μ Z w){b:Nat}{x:Blk}{g:G}(q:Z.m b=O x)(f:μ b=O g)(j:g.it=O .nilFunc){k:Nat}(l:oN w g.c=O k):B.n<=k/\k<w.heap.size/\k≠g.c:=by
 obtain⟨_,p,s,_,_,d⟩:=(h.get q f).bld j;exact Vu d l
theorem R.stays (h:R B μ Z w){b:Nat}{x:Blk}{g:G}(l:Z.m b=O x)(f:μ b=O g)(r:w.heap.size<=w'.heap.size)(c:Nat)(d: ∀k,k≠c->k<w.heap.size->w'.heap[k]?=w.heap[k]?)(q:g.c≠c)(j:g.it=O .nilFunc->oN w g.c≠O c):Lives B μ w' x g:=
 (h.get l f).kept r (d _ q (h.get l f).lt) λn k p=>d k (λe=>j n (e▸p)) (h.buf l f n p).2.1
theorem R.kill (h:R B μ Z w)(b:Nat):R B μ (Z.set b Y) w:=by
 have f: ∀d x,(Z.set b Y).m d=O x->Z.m d=O x:=by
  intro d x c;simp only[Hp.set]at c;split at c
  .cases c
  .exact c
 exact⟨h.base,h.old,h.fresh,λd x c=>h.live d x (f _ _ c),λj k x r g l n p=>h.inj j k x r g l (f _ _ n) (f _ _ p),h.sep.of (λd x g c q=> .inl ⟨x,f _ _ c,q⟩) (λ_ _ _ _ _ _ _=>rfl)⟩
theorem R.add (h:R B μ Z w)(d:Array Value)(e:TypeId)(cells:List Value)(es:Nat)(H:cells.length<=d.size)(T:F2 (VR μ) cells (d.toList.take cells.length)):
  R B (μ.add Z.n ⟨w.heap.size,0,d.size,es,e,Y⟩) (Z.add ⟨cells,Za,es⟩) (w.alloc (.cells d e))/\μ.le (μ.add Z.n ⟨w.heap.size,0,d.size,es,e,Y⟩):=by
 have U:μ Z.n=Y:=h.fresh _ (Nat.le_refl _);have p:μ.le (μ.add Z.n ⟨w.heap.size,0,d.size,es,e,Y⟩):=Mu.le_add U
 have old: ∀b x,b≠Z.n->(Z.add ⟨cells,Za,es⟩).m b=O x->Z.m b=O x:=by
  intro b x f j;simpa[Hp.add,f]using j
 have J: ∀x,(Z.add ⟨cells,Za,es⟩).m Z.n=O x->x=⟨cells,Za,es⟩:=by
  intro x j;simp[Hp.add]at j;exact j.symm
 have l: ∀b x g,Z.m b=O x->μ b=O g->g.c<w.heap.size:=λb x g j r=>(h.get j r).lt
 refine⟨⟨Nat.le_trans h.base (by simp),λb f=>(Below.heap_alloc w _ _ (aB f h.base)).trans (h.old b f),λb f=> ?_,λb x j=> ?_,λb A x L g C j s D W r z=> ?_, ?_⟩,p⟩
 .have:Z.n+1<=b:=f;unfold Mu.add;rw[Zh];exact h.fresh b (by omega)
 .by_cases f:b=Z.n
  .subst f;obtain rfl:=J x j;refine⟨⟨w.heap.size,0,d.size,es,e,Y⟩,by simp[Mu.add],⟨by simp,rfl,λ_ i v K=> ?_,λ_ _=>⟨h.base,H,d,e,(0,0),heap_alloc_new w _,by simp, .inr rfl⟩,λ_ I=>(by cases I),λI=>by cases I⟩⟩;obtain⟨v',t,u⟩:=T.get i v K
   have F:i<cells.length:=by
    rcases Nat.lt_or_ge i cells.length with h3|h3
    .exact h3
    .simp[List.getElem?_eq_none h3]at K
   refine⟨v', ?_,u.mono p⟩;rw[Nat.zero_add,cell_of_row _ _ _ d e (0,0) (heap_alloc_new w _)];rw[List.getElem?_take,zE F]at t;simpa using t
  .have s:=old b x f j;obtain⟨g,t,u⟩:=h.live b x s;exact⟨g,p _ _ t,(u.mono p).kept (by simp) (Below.heap_alloc w _ _ u.lt) (λF k V=>Below.heap_alloc w _ _ (h.buf s t F V).2.1)⟩
 .by_cases f:b=Z.n
  .subst f;have q:A≠Z.n:=λe=>D e.symm
   have:g.c=w.heap.size:=by simp[Mu.add]at r;rw[<-r]
   have u:μ A=O C:=by simpa[Mu.add,q]using z
   have:=l A L C (old _ _ q s) u;omega
  .have t:μ b=O g:=by simpa[Mu.add,f]using r
   have E:=old b x f j;by_cases q:A=Z.n
   .subst q;have:C.c=w.heap.size:=by simp[Mu.add]at z;rw[<-z]
    have:=l b x g E t;omega
   .have u:μ A=O C:=by simpa[Mu.add,q]using z
    exact h.inj b A x L g C E (old _ _ q s) D W t u
 .refine h.sep.of (λb x g j r=> ?_) (λb x g j r F _=> ?_)
  .by_cases f:b=Z.n
   .subst f;have M:g=⟨w.heap.size,0,d.size,es,e,Y⟩:=by simp[Mu.add]at r;exact r.symm
    subst M;exact .inr ⟨λQ=>(by cases Q),λX x1 g1 k t u h3 S e=>by have:=(h.buf t u h3 S).2.1;simp only at e;omega⟩
   .exact .inl ⟨x,old b x f j,by simpa[Mu.add,f]using r⟩
  .unfold oN;rw[Below.heap_alloc w _ _ (l b x g j r)]
theorem R.write1 (h:R B μ Z w){b:Nat}{x:Blk}{g:G}(J:Z.m b=O x)(ho:x.own=Za)(H:μ b=O g)(t:g.it=Y)(i:Nat)(I:i<x.cells.length)(hv:VR μ v v'):
  R B μ (Z.set b (O ⟨x.cells.set i v,x.own,x.es⟩)) (w.setCell ⟨g.c,g.o+i,Y⟩ v'):=by
 have V:=h.get J H;obtain⟨o1,o2,K,e,L,o4,o5,o6⟩:=V.own t ho;have n: ∀k,k≠g.c->(w.setCell ⟨g.c,g.o+i,Y⟩ v').heap[k]?=w.heap[k]?:=λk D=>heap_setCell_other w _ k v' (by simpa using D)
 have z:(w.setCell ⟨g.c,g.o+i,Y⟩ v').heap[g.c]?=O (.cells (K.setIfInBounds (g.o+i) v') e L):=Po w g.c (g.o+i) K e L v' o4
 have old: ∀l f,l≠b->(Z.set b (O ⟨x.cells.set i v,x.own,x.es⟩)).m l=O f->Z.m l=O f:=by
  intro l f r d;simpa[Hp.set,r]using d
 have S: ∀f,(Z.set b (O ⟨x.cells.set i v,x.own,x.es⟩)).m b=O f->f=⟨x.cells.set i v,x.own,x.es⟩:=by
  intro f d;simp[Hp.set]at d;exact d.symm
 refine⟨by simpa using h.base,λk D=>(n k (by omega)).trans (h.old k D),h.fresh,λl f d=> ?_,λb1 b2 x1 x2 g1 g2 A U E M X hg2=> ?_, ?_⟩
 .by_cases r:l=b
  .subst r;obtain rfl:=S f d;refine⟨g,H,⟨by simpa using V.lt,V.es,λ_ j u W=> ?_,λ_ _=>⟨o1,by simpa using o2,_,e,L,z,by simpa using o5,by simpa using o6⟩,λs Q=>(by rw[t]at Q;cases Q),λQ=>by rw[t]at Q;cases Q⟩⟩;rw[cell_of_row _ _ _ _ e L z];by_cases hj:j=i
   .subst hj;simp[I]at W;subst W;refine⟨v', ?_,hv⟩;rw[Array.getElem?_setIfInBounds_self_of_lt (by omega)]
   .rw[List.getElem?_set_ne (λe=>hj e.symm)]at W;obtain⟨u',A,U⟩:=V.cell t j u W;refine⟨u', ?_,U⟩;rw[cell_of_row _ _ _ _ e L o4]at A;rw[Array.getElem?_setIfInBounds_ne (by omega)];exact A
  .have C:=old l f r d;obtain⟨F,A,U⟩:=h.live l f C;refine⟨F,A,h.stays C A (by simp) g.c (λk D _=>n k D) (λe=>h.inj b l x f g F J C (λe=>r e.symm) ho H A e.symm) (λI D=>((h.sep l f F C A I _ D b x g J H).1 rfl))⟩
 .have q: ∀l f,(Z.set b (O ⟨x.cells.set i v,x.own,x.es⟩)).m l=O f->∃y,Z.m l=O y/\y.own=f.own:=by
   intro l f d;by_cases r:l=b
   .subst r;obtain rfl:=S f d;exact⟨x,J,rfl⟩
   .exact⟨f,old l f r d,rfl⟩
  obtain⟨y1,hy1,e1⟩:=q _ _ A;obtain⟨y2,hy2,_⟩:=q _ _ U;exact h.inj b1 b2 y1 y2 g1 g2 hy1 hy2 E (e1.trans M) X hg2
 .have T: ∀l f,(Z.set b (O ⟨x.cells.set i v,x.own,x.es⟩)).m l=O f->∃y,Z.m l=O y:=by
   intro l f d;by_cases r:l=b
   .subst r;exact⟨x,J⟩
   .exact⟨f,old l f r d⟩
  refine h.sep.of (λl f F d p=> .inl (let⟨y,hy⟩:=T l f d;⟨y,hy,p⟩)) (λl f F d p I _=> ?_);have E:l≠b:=λe=>by subst e;rw[H]at p;injection p with p;subst p;rw[t]at I;cases I
  unfold oN;rw[n _ (λe=>h.inj b l x f g F J d (λe=>E e.symm) ho H p e.symm)]
end
end
section
open List renaming getElem?_eq_getElem -> aB
open Nat renaming add_assoc -> aD
open Result renaming andThen_ok -> bB
open Go.RowKit
def co :Operand->Bool
 | .const v=>FY v
 | .global _=>Zb
 |_=>Za
def xu (x:Operand):Option Operand:=if co x then O x else Y
def ao7 :Option Operand->Option (Option Operand)
 |some x=>(xu x).map O
 |none=>O Y
def lg (P:Program)(t:TypeId):Option Nat:=(P.info? t).map (·.size)
def P6 (P:Program)(t:TypeId):Option Nat:=(P.info? t).map (·.bytes)
def xx :Value->Bool
 | .bool _| .int _ _| .string _| .pointer Y| .slice Y 0 0| .nilFunc| .nilIface=>Za
 |_=>Zb
def nM (P:Program)(t:TypeId):Option (List Value):=match(P.info? t).bind (·.zero)with
 |some z=>if(cellsOf z).all xx then O (cellsOf z)else Y
 |none=>Y
def zn (P:Program)(t:TypeId):Option Bool:=match P.underlying t with
 |some (.struct _)|some (.array _ _)=>O Za
 |some _=>O Zb
 |none=>Y
def aK0 (P:Program)(t:TypeId):Option Nat:=match P.underlying t with
 |some (.array _ e)=>lg P e
 |_=>O 1
def eU (μ:Mu)(N:Nat)(e:cf)(c:Array Value):Prop:=c.size=N/\∀t,VR μ (e t) (c.getD t undef)
theorem eU.mono {μ μ':Mu}{c:Array Value}(h:eU μ N e c)(d:μ.le μ'):eU μ' N e c:=⟨h.1,λt=>(h.2 t).mono d⟩
theorem eU.put {μ:Mu}{c:Array Value}(h:eU μ N e c)(d:Nat)(g:d<N)(j:VR μ v v'):eU μ N (e.put d v) (c.setIfInBounds d v'):=by
 refine⟨by simpa using h.1,λt=> ?_⟩;unfold cf.put;by_cases f:t=d
 .subst f;simp[h.1,g];exact j
 .rw[zF f];have:=h.2 t;simpa[Array.getElem?_setIfInBounds_ne (λe=>f e.symm)]using this
theorem eU.ev {μ:Mu}{a:Act}(h:eU μ N e a.tmps)(c:co x=Za):VR μ (e.ev x) (a.eval x):=by
 cases x with
 |tmp t=>exact h.2 t
 |const v=>exact VR.plain c
 |global g=>simp[co]at c
 |func f=>exact .func .nil .nil
def iH (P:Program)(o:Oper)(a:Act)(w:World)(B:Base P)(μ:Mu)(v:Value)(Z':Hp):Prop:=
 ∃c w' μ' v',(execOp a.eval o).run P w= .ok c w'/\(c= .value v'∨(c= .skip/\v'=undef))/\μ.le μ'/\R B μ' Z' w'/\VR μ' v v'/\Below B w w'
section
variable {P:Program} {o:Oper} {a:Act} {w:World} {B:Base P} {N:Nat} {μ:Mu} {e:cf} {Z Z':Hp} {v:Value}
theorem iH.same {v':Value}(d:R B μ Z w)(c:(execOp a.eval o).run P w= .ok (.value v') w)(f:VR μ v v'):iH P o a w B μ v Z:=
 ⟨_,w,μ,v',c, .inl rfl,μ.le_refl,d,f,Below.refl _ _⟩
theorem ar (h:xu x=O y):x=y/\co x=Za:=by
 unfold xu at h;split at h
 .rename_i c;exact⟨by simpa using h,c⟩
 .cases h
theorem da {t:TypeId}{d:TypeDesc}(h:P.underlying t=O d)(w:World):(underlying t).run P w= .ok d w:=by simp[underlying,h]
theorem lW {t:TypeId}{n:Nat}(h:lg P t=O n)(w:World):(sizeOf t).run P w= .ok n w:=by
 obtain⟨i,c,d⟩:=Option.map_eq_some_iff.1 h;simp[sizeOf,typeInfo,c,d]
theorem EV {t:TypeId}(h:zn P t=O b)(w:World):(isAgg t).run P w= .ok b w:=by
 unfold zn at h;unfold isAgg;cases c:P.underlying t with
 |none=>simp[c]at h
 |some d=>
  simp only[Sem.run_bind,da c,bB];cases d<;>simp[c]at h<;>subst h<;>rfl
theorem lK {t:TypeId}{z:List Value}(h:nM P t=O z): ∃v,(∀w:World,(zeroValue t).run P w= .ok v w)/\cellsOf v=z/\z.all xx=Za:=by
 unfold nM at h;cases c:P.info? t with
 |none=>simp[c]at h
 |some i=>
  cases d:i.zero with
  |none=>simp[c,d]at h
  |some v=>
   simp only[c,d,zG]at h;split at h
   .rename_i f;injection h with h
    exact⟨v,λw=>by simp[zeroValue,typeInfo,c,d],h,h▸f⟩
   .cases h
theorem VR.plainCells {μ:Mu}{z:List Value}(h:z.all xx=Za):F2 (VR μ) z z:=F2.same _ λv c=>VR.plain1 μ v (by
 have:=List.all_eq_true.1 h v c;unfold xx at this
 exact this)
theorem ph (b o n:Nat):(⟨b,o,Y⟩:Addr).add n=⟨b,o+n,Y⟩:=by unfold Addr.add;split<;>simp_all
theorem R.reads {b o:Nat}{x:Blk}{g:G}(D:R B μ Z w)(H:Z.m b=O x)(t:μ.at b g){n:Nat}{cs:List Value}(h:pz x o n=O cs):
  ∃f,(∀(P:Program) (w':World),w'.heap=w.heap->(loadCells ⟨g.c,g.o+o,Y⟩ n).run P w'= .ok f.toArray w')/\F2 (VR μ) cs f:=by
 unfold pz at h;split at h
 .rename_i F;injection h with h
  subst h;have E:=D.get H t.1
  have d: ∀j,j<n->∃v',w.cell? ⟨g.c,g.o+o+j,Y⟩=O v'/\VR μ (x.cells.getD (o+j) undef) v':=by
   intro j z;obtain⟨v',k,q⟩:=E.cell t.2 (o+j) (x.cells[o+j]'(by omega)) (aB (by omega));refine⟨v',by rw[aD];exact k, ?_⟩;simp[List.getD,aB (show o+j<x.cells.length by omega)];exact q
  refine⟨(List.range n).map λj=>(w.cell? ⟨g.c,g.o+o+j,Y⟩).getD undef,λP w' s=> ?_, ?_⟩
  .have:=run_loadCells (P:=P) w' ⟨g.c,g.o+o,Y⟩ n (λj=>(w.cell? ⟨g.c,g.o+o+j,Y⟩).getD undef) (λj z=>by
    rw[ph];obtain⟨v',k,_⟩:=d j z;have:w'.cell? ⟨g.c,g.o+o+j,Y⟩=w.cell? ⟨g.c,g.o+o+j,Y⟩:=by simp[World.cell?,s]
    rw[this]
    simp[k])
   rw[this]
  .refine F2.of_get _ _ (by simp;omega) λi u I p l=> ?_
   have r:i<n:=by
    rcases Nat.lt_or_ge i n with h3|h3
    .exact h3
    .rw[List.getElem?_eq_none (by simp;omega)]at p;cases p
   obtain⟨v',k,q⟩:=d i r
   have A:I=v':=by
    simp[r,k]at l;exact l.symm
   have C:u=x.cells.getD (o+i) undef:=by
    rw[List.getElem?_take,zE r,List.getElem?_drop]at p;simp[List.getD,p]
   rw[A,C];exact q
 .cases h
theorem R.writes : ∀(vs d:List Value),F2 (VR μ) vs d->(∀v∈vs,one v=Za)->∀(Z:Hp) (w:World) (b o i:Nat) (x:Blk) (g:G),R B μ Z w->Z.m b=O x->x.own=Za->μ.at b g->o+i+vs.length<=x.cells.length->
  ∃w',(∀P:Program,(storeCells ⟨g.c,g.o+o,Y⟩ d i).run P w= .ok () w')/\R B μ (Z.set b (O ⟨kD x.cells (o+i) vs,x.own,x.es⟩)) w'/\Below B w w'
 |[],_,h,_,Z,w,b,o,i,x,g,n,q,p,f,k=>by
  cases h;refine⟨w,λP=>by simp[storeCells], ?_,Below.refl _ _⟩
  have:Z.set b (O ⟨kD x.cells (o+i) [],x.own,x.es⟩)=Z:=by
   unfold Hp.set
   have:(λj=>if j=b then O (⟨kD x.cells (o+i) [],x.own,x.es⟩:Blk)else Z.m j)=Z.m:=by
    funext j
    split
    .rename_i e;subst e;rw[q];rfl
    .rfl
   rw[this]
  rw[this];exact n
 |v::vs,_,h,t,Z,w,b,o,i,x,g,n,q,p,f,k=>by
  cases h with
  |cons C L=>
   rename_i v' d;simp only[List.length_cons]at k;have A:=n.get q f.1;obtain⟨S,V,D,e,E,T,W,U⟩:=A.own f.2 p;have r:=n.write1 q p f.1 f.2 (o+i) (by omega) C;have l:v'.oneCell'=Za:=by rw[<-C.one_iff];exact t v (by simp)
   obtain⟨u,M,_⟩:=A.cell f.2 (o+i) (x.cells[o+i]'(by omega)) (aB (by omega));have s:w.frozen? ⟨g.c,g.o+(o+i),Y⟩=Zb:=K6 w _ _ _ _ E T (by omega) U;have J:(Z.set b (O ⟨x.cells.set (o+i) v,x.own,x.es⟩)).m b=O ⟨x.cells.set (o+i) v,x.own,x.es⟩:=by simp[Hp.set]
   obtain⟨w',F,z,H⟩:=R.writes vs d L (λy Q=>t y (by simp[Q])) _ _ b o (i+1) _ g r J p f (by simp;omega);refine⟨w',λP=> ?_, ?_, ?_⟩
   .have I:(⟨g.c,g.o+o,Y⟩:Addr).add i=⟨g.c,g.o+(o+i),Y⟩:=by rw[ph,aD]
    simp only[storeCells,Sem.run_bind,I,run_store P w _ v' .plain l,M,s,Bool.false_eq_true,if_false,bB];exact F P
   .have K:(Z.set b (O ⟨x.cells.set (o+i) v,x.own,x.es⟩)).set b (O ⟨kD (x.cells.set (o+i) v) (o+(i+1)) vs,x.own,x.es⟩)=Z.set b (O ⟨kD x.cells (o+i) (v::vs),x.own,x.es⟩):=by
     unfold Hp.set
     have:(λj=>if j=b then O (⟨kD (x.cells.set (o+i) v) (o+(i+1)) vs,x.own,x.es⟩:Blk)else if j=b then O ⟨x.cells.set (o+i) v,x.own,x.es⟩else Z.m j)=
       (λj=>if j=b then O (⟨kD x.cells (o+i) (v::vs),x.own,x.es⟩:Blk)else Z.m j):=by
      funext j
      split<;>simp[kD,aD]
     simp only[this]
    rw[K]at z;exact z
   .exact((Below.refl B w).setCell S v').trans H
end
end
section
open Go.RowKit
def uP (c:Nat->Option (Nat×Nat)):List (Nat×Operand)->Option (List (Nat×Nat×Operand))
 |[]=>O []
 |(i,x)::r=>match c i,xu x,uP c r with
  |some (d,n),O x,O r=>O ((d,n,x)::r)
  |_,_,_=>Y
def JJ :List Operand->Option (List Operand)
 |[]=>O []
 |x::r=>match xu x,JJ r with
  |some x,O r=>O (x::r)
  |_,_=>Y
def G7 (P:Program)(c:Array Field)(i:Nat):Option (Nat×Nat):=match c[i]? with
 |some f=>(lg P f.type).map λn=>(f.offset,n)
 |none=>Y
def SF (P:Program)(f:FuncId):Bool:=match P.funcs[f]? with
 |some c=>c.body.isSome&& !(c.name== "runtime.NumGoroutine")
 |none=>Zb
def yp (P:Program)(t:TypeId):Option Nat:=match P.underlying t with
 |some .bool=>O 0
 |some (.int _)=>O 1
 |some .string=>O 2
 |_=>Y
def yq (P:Program):Nat->List Field->Option (List Nat)
 |_,[]=>O []
 |i,f::r=>if f.offset=i/\f.name≠ "_" then match yp P f.type,yq P (i+1) r with
  |some k,O c=>O (k::c)
  |_,_=>Y
  else Y
def OS (P:Program)(t:TypeId):Option (List Nat):=match P.underlying t with
 |some (.struct c)=>if P.eqGuardType P.depth t=Zb/\P.stoodInHeld t=Zb then yq P 0 c.toList else Y
 |some (.array n e)=>if lg P e=O 1/\P.eqGuardType P.depth t=Zb then(yp P e).map λk=>List.replicate n k else Y
 |_=>Y
def al1 :TypeDesc->Option Nat
 | .bool=>O 0
 | .pointer _=>O 1
 | .slice _=>O 2
 | .func _ _ _=>O 3
 |_=>Y
def RH (P:Program)(op:BinOp)(t:TypeId)(x y:Operand):Option AOp:=
 match P.underlying t with
 |some (.int _)|some .string=>match xu x,xu y with
  |some x,O y=>O (.bin op x y)
  |_,_=>Y
 |some (.struct _)|some (.array _ _)=>match op,OS P t,xu x,xu y with
  | .eql,O n,O x,O y=>O (.eqCells Zb n x y)
  | .neq,O n,O x,O y=>O (.eqCells Za n x y)
  |_,_,_,_=>Y
 |some d=>match al1 d,op,xu x,xu y with
  |some c, .eql,O x,O y=>O (.eqv c Zb x y)
  |some c, .neq,O x,O y=>O (.eqv c Za x y)
  |_,_,_,_=>Y
 |none=>Y
def Cn (P:Program)(c:Call):Option AOp:=
 match c.callee with
 | .value (.func f)=>if SF P f then(JJ c.args.toList).map (.call f ·)else Y
 | .value (.tmp t)=>(JJ c.args.toList).map (.callv (.tmp t) ·)
 | .builtin .append=>match c.args.toList,c.argTypes.toList with
  |[s,x],[l,m]=>match P.underlying l,P.underlying m,xu s,xu x with
   |some (.slice e),O (.slice _),O s,O x|some (.slice e),O .string,O s,O x=>match lg P e,P6 P e,nM P e with
    |some h,O g,O z=>if z.length=h then O (.append h g s x)else Y
    |_,_,_=>Y
   |some (.slice e),O (.int _),O s,O x=>match lg P e,P6 P e,nM P e with
    |some h,O g,O z=>if z.length=h/\0<h then O (.appendZ h g z s x)else Y
    |_,_,_=>Y
   |_,_,_,_=>Y
  |_,_=>Y
 | .builtin .copy=>match c.args.toList,c.argTypes.toList with
  |[d,s],k::_=>match P.underlying k,xu d,xu s with
   |some (.slice e),O d,O s=>match lg P e with
    |some h=>O (.copy h d s)
    |none=>Y
   |_,_,_=>Y
  |_,_=>Y
 | .builtin .len=>match c.args.toList,c.argTypes.toList with
  |[x],t::_=>match P.underlying t,xu x with
   |some .string,O x=>O (.lenS x)
   |some (.slice _),O x=>O (.len x)
   |some (.array n _),_=>O (.lenC n)
   |some (.pointer j),_=>match P.underlying j with
    |some (.array n _)=>O (.lenC n)
    |_=>Y
   |_,_=>Y
  |_,_=>Y
 | .builtin .cap=>match c.args.toList,c.argTypes.toList with
  |[x],[t]=>match P.underlying t,xu x with
   |some (.slice _),O x=>O (.capN x)
   |_,_=>Y
  |_,_=>Y
 | .builtin .max=>match c.args.toList with
  |[x,y]=>match xu x,xu y with
   |some x,O y=>O (.most x y)
   |_,_=>Y
  |_=>Y
 | .builtin .min=>match c.args.toList with
  |[x,y]=>match xu x,xu y with
   |some x,O y=>O (.least x y)
   |_,_=>Y
  |_=>Y
 |_=>Y
def RK (P:Program)(o:Oper):Option AOp:=
 match o.op with
 | .move x| .assign x=>(xu x).map .move
 | .pick c a b=>match xu c,xu a,xu b with
  |some c,O a,O b=>O (.pick c a b)
  |_,_,_=>Y
 | .alloc t=>if Ur P t=Za then(match nM P t with
   |some [.pointer Y, .slice Y 0 0]=>O .newB
   |_=>Y)
  else match aK0 P t,nM P t with
  |some u,O z=>O (.alloc u z)
  |_,_=>Y
 | .box t x=>match aK0 P t,xu x with
  |some u,O x=>O (.box u x)
  |_,_=>Y
 | .build t g=>match P.underlying t,nM P t with
  |some (.struct p),O z=>if p.toList.all λf=>(lg P f.type).isSome then(uP (G7 P p) g.toList).map (.build z ·)else Y
  |some (.array _ e),O z=>match lg P e with
   |some n=>(uP (λi=>O (i*n,n)) g.toList).map (.build z ·)
   |none=>Y
  |_,_=>Y
 | .buildSlice t q g=>match P.underlying t with
  |some (.slice e)=>match lg P e,nM P e with
   |some n,O z=>if q*n<=16777216/\z.length=n/\0<n then(uP (λi=>O (i*n,n)) g.toList).map (.buildSlice n q z ·)else Y
   |_,_=>Y
  |_=>Y
 | .load _ (.global _)=>O .stuck
 | .load t x=>match zn P t,xu x with
  |some Za,O x=>(lg P t).map (.loadN · x)
  |some Zb,O x=>O (.load x)
  |_,_=>Y
 | .store t x y=>match lg P t,xu x,xu y with
  |some n,O x,O y=>O (.store n x y)
  |_,_,_=>Y
 | .nilCheck x=>(xu x).map .nilCheck
 | .binOp op t x y _=>RH P op t x y
 | .unOp op _ x=>(xu x).map (.un op ·)
 | .convert s d x=>match P.underlying s,P.underlying d,xu x with
  |some (.int _),O (.int k),O x=>O (.conv k x)
  |some (.int _),O .string,O x=>O (.encR x)
  |some (.slice t),O .string,O x=>match P.underlying t with
   |some (.int .u8)=>O (.strOf x)
   |some (.int .i32)=>O (.strOfR x)
   |_=>Y
  |some .string,O (.slice t),O x=>match P.underlying t with
   |some (.int .i32)=>O (.runesOf x)
   |_=>Y
  |some (.slice _),O (.slice t),O x=>match P.underlying t with
   |some (.int .u8)=>if s=d then O (.mark x)else Y
   |_=>Y
  |_,_,_=>Y
 | .range t x=>match P.underlying t,xu x with
  |some .string,O x=>O (.range x)
  |_,_=>Y
 | .next x true=>(xu x).map .next
 | .makeFunc (.func f) first h=>match JJ first.toList,JJ h.toList with
  |some C,O D=>O (.mkFunc f C D)
  |_,_=>Y
 | .makeSlice t l c=>match P.underlying t with
  |some (.slice e)=>match lg P e,P6 P e,nM P e,xu l,xu c with
   |some n,O r,O z,O l,O c=>if z.length=n/\0<n then O (.makeSlice n r z l c)else Y
   |_,_,_,_,_=>Y
  |_=>Y
 | .slice t x m j Y=>match P.underlying t,xu x,ao7 m,ao7 j with
  |some (.slice e),O x,O m,O j=>(lg P e).map (.slice · x m j)
  |some .string,O x,O m,O j=>O (.sliceStr x m j)
  |some (.array n e),O x,O m,O j=>(lg P e).map (.sliceArr · n x m j)
  |_,_,_,_=>Y
 | .fieldAddr s x i=>match P.underlying s,xu x with
  |some (.struct p),O x=>match p[i]? with
   |some f=>match lg P f.type with
    |some n=>if n=0 then Y else O (.off f.offset x)
    |none=>Y
   |none=>Y
  |_,_=>Y
 | .field t x i=>match P.underlying t,xu x with
  |some (.struct p),O x=>match p[i]? with
   |some f=>match lg P f.type,zn P f.type with
    |some n,O b=>O (.fieldV f.offset n b x)
    |_,_=>Y
   |none=>Y
  |_,_=>Y
 | .indexAddr t x i=>match P.underlying t,xu x,xu i with
  |some (.slice e),O x,O i=>(lg P e).map (.idx · x i)
  |some (.array n e),O x,O i=>(lg P e).map (.idxA n · x i)
  |_,_,_=>Y
 | .index t x i=>match P.underlying t,xu x,xu i with
  |some (.array n e),O x,O i=>match lg P e,zn P e with
   |some s,O b=>O (.indexV n s b x i)
   |_,_=>Y
  |some .string,O x,O i=>O (.indexS x i)
  |_,_,_=>Y
 | .slice t x Y (O j) (O A)=>match P.underlying t,xu x,xu j,xu A with
  |some (.slice d),O x,O j,O A=>if(lg P d).isSome then O (.sliceX x j A)else Y
  |_,_,_,_=>Y
 | .extract x i=>(xu x).map (.extract · i)
 | .call c=>Cn P c
 | .makeInterface _ _| .panic _=>O .stuck
 |_=>Y
section
variable {P:Program} {o:Oper} {a:Act} {w:World} {B:Base P} {N:Nat} {μ:Mu} {e:cf} {Z Z':Hp} {v:Value}
theorem UJ (ho:o.op= .move x∨o.op= .assign x)(g:co x=Za)(c:(AOp.move x).run e Z=O (v,Z'))(f:eU μ N e a.tmps)(d:R B μ Z w):iH P o a w B μ v Z':=by
 simp only[AOp.run,Option.some.injEq,Prod.mk.injEq]at c;obtain⟨rfl,rfl⟩:=c;rcases ho with ho|ho<;>exact .same d (by simp[execOp,ho]) (f.ev g)
theorem VR.bool_inv {v':Value}(h:VR μ (.bool b) v'):v'= .bool b:=by cases h;rfl
theorem VR.int_inv {k:IntKind}{n:Int}{v':Value}(h:VR μ (.int k n) v'):v'= .int k n:=by cases h;rfl
theorem VR.string_inv {s:ByteArray}{v':Value}(h:VR μ (.string s) v'):v'= .string s:=by cases h;rfl
theorem ao4 {c:Operand}(l:o.op= .pick c x y)(m:co c=Za)(n:co x=Za)(p:co y=Za)(f:(AOp.pick c x y).run e Z=O (v,Z'))(j:eU μ N e a.tmps)(k:R B μ Z w):iH P o a w B μ v Z':=by
 have h:=j.ev m;simp only[AOp.run]at f;split at f
 .rename_i g;rw[g]at h;have d:=h.bool_inv;simp only[Option.some.injEq,Prod.mk.injEq]at f;obtain⟨rfl,rfl⟩:=f;exact .same k (by simp[execOp,l,d,asBool]) (j.ev n)
 .rename_i g;rw[g]at h;have d:=h.bool_inv;simp only[Option.some.injEq,Prod.mk.injEq]at f;obtain⟨rfl,rfl⟩:=f;exact .same k (by simp[execOp,l,d,asBool]) (j.ev p)
 .cases f
theorem iH.new (g:R B μ Z w)(c:Array Value)(t:TypeId)(cells:List Value)(es:Nat)(v':Value)(h:F2 (VR μ) cells c.toList)
  (f:(execOp a.eval o).run P w= .ok (.value v') (w.alloc (.cells c t)))
  (l:(μ.add Z.n ⟨w.heap.size,0,c.size,es,t,Y⟩).at Z.n ⟨w.heap.size,0,c.size,es,t,Y⟩->VR (μ.add Z.n ⟨w.heap.size,0,c.size,es,t,Y⟩) v v'):iH P o a w B μ v (Z.add ⟨cells,Za,es⟩):=by
 have d:cells.length=c.size:=by simpa using h.length
 obtain⟨j,k⟩:=g.add c t cells es (by omega) (by rw[d,<-Array.length_toList,List.take_length];exact h);exact⟨_,_,_,v',f, .inl rfl,k,j,l ⟨by simp[Mu.add],rfl⟩,(Below.refl _ _).alloc g.base _⟩
theorem Yy {t:TypeId}{es:Nat}{z:List Value}(l:o.op= .alloc t)(m:nM P t=O z)(d:(AOp.alloc es z).run e Z=O (v,Z'))(k:R B μ Z w):iH P o a w B μ v Z':=by
 obtain⟨f,g,j,c⟩:=lK m;simp only[AOp.run,Option.some.injEq,Prod.mk.injEq]at d;obtain⟨rfl,rfl⟩:=d;refine .new k f.cells t z es (.pointer (O ⟨w.heap.size,0,Y⟩)) ?_ ?_ (λh=> .ptr (o:=0) h)
 .have:z=f.cells.toList:=j.symm;rw[this];rw[this]at c;exact VR.plainCells c
 .simp[execOp,l,Instr.alloc,g,newVar,newRow]
theorem aD6 {t:TypeId}{es:Nat}(g:o.op= .box t x)(j:co x=Za)(c:(AOp.box es x).run e Z=O (v,Z'))(f:eU μ N e a.tmps)(d:R B μ Z w):iH P o a w B μ v Z':=by
 simp only[AOp.run]at c;split at c
 .simp only[Option.some.injEq,Prod.mk.injEq]at c;obtain⟨rfl,rfl⟩:=c;refine .new d (a.eval x).cells t _ es (.pointer (O ⟨w.heap.size,0,Y⟩)) (f.ev j).cells ?_ (λh=> .ptr (o:=0) h);simp[execOp,g,Instr.box,newVar,newRow]
 .cases c
theorem VR.ptr_inv {b n:Nat}{v':Value}(h:VR μ (.pointer (O ⟨b,n,Y⟩)) v'): ∃g,μ.at b g/\v'= .pointer (O ⟨g.c,g.o+n,Y⟩):=by
 cases h with
 |ptr h=>exact⟨_,h,rfl⟩
theorem an9 {t:TypeId}(r:o.op= .load t x)(s:zn P t=O Zb)(C:co x=Za)(c:(AOp.load x).run e Z=O (v,Z'))(q:eU μ N e a.tmps)(f:R B μ Z w):iH P o a w B μ v Z':=by
 have h:=q.ev C;simp only[AOp.run]at c;split at c
 .rename_i b n p;rw[p]at h;obtain⟨g,j,A⟩:=h.ptr_inv;split at c
  .rename_i k d;obtain⟨u,z,c⟩:=Option.map_eq_some_iff.1 c;simp only[Prod.mk.injEq]at c;obtain⟨rfl,rfl⟩:=c;obtain⟨D,l,m⟩:=(f.get d j.1).cell j.2 n u z;refine .same f ?_ m;simp[execOp,r,Instr.loadAt,Instr.sureAddr,A,loadVar,EV s,l]
  .cases c
 .cases c
theorem YC {t:TypeId}{n:Nat}(z:o.op= .load t x)(A:zn P t=O Za)(u:lg P t=O n)(D:co x=Za)(c:(AOp.loadN n x).run e Z=O (v,Z'))(r:eU μ N e a.tmps)(j:R B μ Z w):iH P o a w B μ v Z':=by
 have h:=r.ev D;simp only[AOp.run]at c;split at c
 .rename_i b n q;rw[q]at h;obtain⟨g,s,C⟩:=h.ptr_inv;split at c
  .rename_i k d;obtain⟨E,f,c⟩:=Option.map_eq_some_iff.1 c;simp only[Prod.mk.injEq]at c;obtain⟨rfl,rfl⟩:=c;obtain⟨l,m,p⟩:=j.reads d s f;refine .same j ?_ (.agg p);simp[execOp,z,Instr.loadAt,Instr.sureAddr,C,loadVar,EV A,lW u,m P w rfl]
  .cases c
 .cases c
theorem YF {t:TypeId}{n:Nat}(K:o.op= .store t x y)(J:lg P t=O n)(S:co x=Za)(T:co y=Za)(c:(AOp.store n x y).run e Z=O (v,Z'))(z:eU μ N e a.tmps)(E:R B μ Z w):iH P o a w B μ v Z':=by
 have h:=z.ev S;have j:=(z.ev T).cells;simp only[AOp.run]at c;split at c
 .rename_i b r F;rw[F]at h;obtain⟨g,I,Q⟩:=h.ptr_inv;split at c
  .rename_i q;split at c
   .rename_i m f;unfold wh at c;split at c
    .rename_i s l;split at l
     .rename_i H;obtain⟨k,p,d⟩:=H;injection l with l
      subst l;simp only[Option.some.injEq,Prod.mk.injEq]at c;obtain⟨rfl,rfl⟩:=c;obtain⟨w',A,C,D⟩:=R.writes _ _ j (λu M=>List.all_eq_true.1 d u M) Z w b r 0 m g E f k I p;refine⟨.skip,w',μ,undef, ?_, .inr ⟨rfl,rfl⟩,μ.le_refl,C,VR.undef μ,D⟩;have L:(a.eval y).cells.size=n:=by rw[<-q,j.length];simp
      simp[execOp,K,Instr.storeAt,Instr.sureAddr,Q,storeVar,lW J,L,A]
     .cases l
    .cases c
   .cases c
  .cases c
 .cases c
theorem QQ (k:o.op= .nilCheck x)(s:co x=Za)(c:(AOp.nilCheck x).run e Z=O (v,Z'))(r:eU μ N e a.tmps)(j:R B μ Z w):iH P o a w B μ v Z':=by
 have h:=r.ev s;simp only[AOp.run]at c;split at c
 .rename_i b d;simp only[Option.some.injEq,Prod.mk.injEq]at c;obtain⟨rfl,rfl⟩:=c;rw[d]at h;generalize g:a.eval x=u at h;cases h with
  |ptr l=>exact .same j (by simp[execOp,k,g]) (.ptr l)
 .rename_i f p q d;simp only[Option.some.injEq,Prod.mk.injEq]at c;obtain⟨rfl,rfl⟩:=c;rw[d]at h;generalize g:a.eval x=u at h;cases h with
  |func m n=>exact .same j (by simp[execOp,k,g]) (.func m n)
 .cases c
end
end
section
open List renaming drop_drop -> aB, getElem?_drop -> bB
open Nat renaming add_comm -> aD
open Go.RowKit
section
variable {P:Program} {o:Oper} {a:Act} {w:World} {B:Base P} {N:Nat} {μ:Mu} {e:cf} {Z Z':Hp} {v:Value}
theorem af1 (op:BinOp)(t:TypeId)(x y z:Value)(h:Aq op x y=O z)(w:World)(l p:Operand):
  (eqGuard op t l p x y).run P w= .ok () w/\(binOp op t x y).run P w= .ok z w:=by
 cases x with
 |int k m=>cases y with
  |int q n=>
   simp only[Aq]at h;by_cases c:uO op=Za
   .rw[zE c]at h;unfold LW at h;split at h
    .cases h
    .rename_i j;cases op<;>simp[uO]at c<;>simp at h<;>subst h<;>simp[eqGuard,binOp,Op.shift,j]
   .rw[zF c]at h;split at h
    .rename_i g;subst g;cases op<;>simp[uO]at c<;>simp[Uq]at h
     all_goals first
      |(obtain⟨f,d⟩:=h;subst d;simp[eqGuard,binOp,Op.intDiv,f])
      |(subst h;simp[eqGuard,binOp,Op.intArith,Op.intBits,Op.intCmp])
    .cases h
  |_=>simp[Aq]at h
 |string s=>cases y with
  |string r=>
   simp only[Aq]at h;split at h
   .cases h
   .rename_i c;cases op<;>simp[uO]at c<;>simp[U0]at h
    all_goals first
     |(obtain⟨f,d⟩:=h;subst d;simp[eqGuard,binOp,Op.stringOp];omega)
     |(subst h;simp[eqGuard,binOp,Op.stringOp])
  |_=>simp[Aq]at h
 |_=>simp[Aq]at h
theorem af2 {x y f g z:Value}(h:Aq op x y=O z)(c:VR μ x f)(d:VR μ y g):f=x/\g=y:=by
 cases x with
 |int k m=>cases y with
  |int j n=>exact⟨c.int_inv,d.int_inv⟩
  |_=>simp[Aq]at h
 |string s=>cases y with
  |string l=>exact⟨c.string_inv,d.string_inv⟩
  |_=>simp[Aq]at h
 |_=>simp[Aq]at h
theorem Ss {x y z:Value}(h:Aq op x y=O z):VR μ z z:=by
 cases x with
 |int k m=>cases y with
  |int d n=>
   simp only[Aq]at h;split at h
   .unfold LW at h;split at h
    .cases h
    .cases op<;>simp at h<;>subst h<;>exact .int _ _
   .split at h
    .cases op<;>simp[Uq]at h
     all_goals first
      |(obtain⟨_,c⟩:=h;subst c;exact .int _ _)
      |(subst h;first|exact .int _ _|exact .bool _)
    .cases h
  |_=>simp[Aq]at h
 |string s=>cases y with
  |string f=>
   simp only[Aq]at h;split at h
   .cases h
   .cases op<;>simp[U0]at h
    all_goals first
     |(obtain⟨_,c⟩:=h;subst c;exact .string _)
     |(subst h;first|exact .string _|exact .bool _)
  |_=>simp[Aq]at h
 |_=>simp[Aq]at h
theorem Yz {t q:TypeId}(k:o.op= .binOp op t x y q)(l:co x=Za)(m:co y=Za)(c:(AOp.bin op x y).run e Z=O (v,Z'))(f:eU μ N e a.tmps)(j:R B μ Z w):iH P o a w B μ v Z':=by
 simp only[AOp.run]at c;obtain⟨z,d,c⟩:=Option.map_eq_some_iff.1 c;simp only[Prod.mk.injEq]at c;obtain⟨rfl,rfl⟩:=c;obtain⟨g,h⟩:=af2 d (f.ev l) (f.ev m);refine .same j ?_ (Ss d);obtain⟨n,p⟩:=af1 (P:=P) op t _ _ _ d w x y;simp[execOp,k,g,h,n,p]
theorem SH (op:BinOp)(t:TypeId)(f g:Operand)(x y:Value)(c: ¬(x= .nilIface/\y= .nilIface))(d: ∀a b,¬(x= .agg a/\y= .agg b))(w:World):(eqGuard op t f g x y).run P w= .ok () w:=by
 unfold eqGuard
 cases op<;>first
  |rfl
  |(cases x<;>cases y<;>first
    |rfl
    |exact absurd ⟨rfl,rfl⟩ c
    |exact absurd ⟨rfl,rfl⟩ (d _ _))
set_option maxHeartbeats 1000000 in
theorem ah9 {t:TypeId}{d:TypeDesc}{f:Nat}(k:P.underlying t=O d)(c:al1 d=O f){x y g j:Value}(h:Qh f x y=O b)(l:VR μ x g)(m:VR μ y j)(w:World):
  (Op.equal t g j).run P w= .ok b w:=by
 unfold Op.equal Op.maxDepth;rw[show(10000:Nat)=9999+1 from rfl,Op.equalIn];simp only[Sem.run_bind,da k,Result.andThen_ok];cases d<;>simp[al1]at c<;>subst c
 all_goals (cases l<;>cases m<;>simp[Qh]at h<;>simp[<-h])
theorem ai0 {n:Nat}{x y d f:Value}(h:Qh n x y=O b)(g:VR μ x d)(m:VR μ y f)(t:TypeId)(c:Bool)(w:World)(l:(Op.equal t d f).run P w= .ok b w):
  (binOp (if c then .neq else .eql) t d f).run P w= .ok (.bool (b !=c)) w/\(∀j k op,(eqGuard op t j k d f).run P w= .ok () w):=by
 refine⟨?_,λj k op=>SH op t j k d f ?_ ?_ w⟩
 .have:binOp (if c then .neq else .eql) t d f=(Op.equal t d f >>=λq=>pure (.bool (if c then !q else q))):=by
   cases g<;>cases m<;>first
    |(cases c<;>rfl)
    |(unfold Qh at h;split at h<;>simp_all)
  rw[this];cases c<;>simp[l]
 .rintro⟨rfl,rfl⟩;cases g;unfold Qh at h;split at h<;>simp_all
 .rintro p q ⟨rfl,rfl⟩;cases g;unfold Qh at h;split at h<;>simp_all
theorem YA {t A:TypeId}{d:TypeDesc}{m:Nat}{c:Bool}(r:o.op= .binOp op t x y A)(h:op=if c then .neq else .eql)(p:P.underlying t=O d)(q:al1 d=O m)(j:co x=Za)(k:co y=Za)(f:(AOp.eqv m c x y).run e Z=O (v,Z'))(g:eU μ N e a.tmps)(n:R B μ Z w):iH P o a w B μ v Z':=by
 simp only[AOp.run]at f;obtain⟨b,l,f⟩:=Option.map_eq_some_iff.1 f;simp only[Prod.mk.injEq]at f;obtain⟨rfl,rfl⟩:=f;have s:=ah9 p q l (g.ev j) (g.ev k) w;obtain⟨u,z⟩:=ai0 l (g.ev j) (g.ev k) t c w s;refine .same n ?_ (.bool _);simp[execOp,r,h,u,z]
theorem IT {t:TypeId}{g:Nat}(f:yp P t=O g){x y j k:Value}(h:vu g x y=O b)(m:VR μ x j)(n:VR μ y k)(d:Nat)(w:World):
  (Op.equalIn (d+1) t j k).run P w= .ok b w:=by
 unfold yp at f;cases c:P.underlying t with
 |none=>simp[c]at f
 |some l=>
  cases l<;>simp[c]at f<;>subst f
  all_goals
   cases m<;>cases n<;>simp[vu]at h
  .simp[run_equalIn_bool _ _ _ _ _ c,<-h]
  .obtain⟨rfl,rfl⟩:=h;simp[run_equalIn_int _ _ _ _ _ _ _ c]
  .simp[run_equalIn_string _ _ _ _ _ c,<-h]
theorem AZ {t:TypeId}{d:Nat}(c:yp P t=O d):zn P t=O Zb:=by
 unfold yp at c;unfold zn;split at c<;>simp_all
theorem uw {t:TypeId}(h:zn P t=O Zb){cs:Array Value}{i:Nat}{v:Value}(c:cs[i]?=O v)(w:World):(part t cs i).run P w= .ok v w:=by
 simp[part,EV h,c]
theorem IU (w:World)(d:Nat)(n p:Array Value): ∀(r:List Field) (i:Nat) (u:List Nat) (l m:List Value) (b:Bool),yq P i r=O u->jG u l m=O b->
  F2 (VR μ) l (n.toList.drop i)->F2 (VR μ) m (p.toList.drop i)->(Op.eqFields (d+1) n p r).run P w= .ok b w
 |[],i,u,l,m,b,c,h,_,_=>by
  simp[yq]at c;subst c;cases l<;>cases m<;>simp[jG]at h;subst h;simp[Op.eqFields]
 |f::r,i,u,l,m,b,c,h,C,D=>by
  simp only[yq]at c;split at c
  .rename_i s;split at c
   .rename_i k A z H;injection c with c
    subst c;cases l with
    |nil=>simp[jG]at h
    |cons x l=>cases m with
     |nil=>simp[jG]at h
     |cons y m=>
      simp only[jG]at h;obtain⟨Q,E,J⟩:=C.get 0 x rfl;obtain⟨S,F,K⟩:=D.get 0 y rfl;rw[bB]at E F;have g:n[i]?=O Q:=by simpa using E
      have j:p[i]?=O S:=by simpa using F
      have L:F2 (VR μ) l (n.toList.drop (i+1)):=by
       have:=C.drop 1;simpa[aB,aD]using this
      have M:F2 (VR μ) m (p.toList.drop (i+1)):=by
       have:=D.drop 1;simpa[aB,aD]using this
      have I:=IU w d n p r (i+1) A l m;cases t:vu k x y with
      |none=>simp[t]at h
      |some q=>
       have:=IT (P:=P) z t J K d w;cases q with
       |true=>
        simp only[t]at h;simp[Op.eqFields,s.2,uw (AZ z),s.1,g,j,this,I b H h L M]
       |false=>
        simp[t]at h;simp[Op.eqFields,s.2,uw (AZ z),s.1,g,j,this,<-h]
   .cases c
  .cases c
theorem Qg (w:World)(d:Nat)(e:TypeId)(k:Nat)(f:yp P e=O k)(r s:Array Value): ∀(n i:Nat) (l m:List Value) (b:Bool),jG (List.replicate n k) l m=O b->
  F2 (VR μ) l (r.toList.drop i)->F2 (VR μ) m (s.toList.drop i)->
  (forIn (List.range' i n) ((Y,()):Option Bool×Unit) λj (_:Option Bool×Unit)=>(do
    let a<-part e r (j*1)
    let c<-part e s (j*1)
    let q<-Op.equalIn (d+1) e a c
    if(!q)=Za then pure (ForInStep.done (O Zb,()))else pure (ForInStep.yield (Y,())):Sem (ForInStep (Option Bool×Unit)))).run P w= .ok (if b then Y else O Zb,()) w
 |0,i,l,m,b,h,_,_=>by
  cases l<;>cases m<;>simp[jG]at h;subst h;simp
 |n+1,i,l,m,b,h,A,C=>by
  rw[List.replicate_succ]at h;cases l with
  |nil=>simp[jG]at h
  |cons x l=>cases m with
   |nil=>simp[jG]at h
   |cons y m=>
    simp only[jG]at h;obtain⟨L,D,H⟩:=A.get 0 x rfl;obtain⟨M,E,I⟩:=C.get 0 y rfl;rw[bB]at D E;have g:r[i]?=O L:=by simpa using D
    have p:s[i]?=O M:=by simpa using E
    have J:F2 (VR μ) l (r.toList.drop (i+1)):=by
     have:=A.drop 1;simpa[aB,aD]using this
    have K:F2 (VR μ) m (s.toList.drop (i+1)):=by
     have:=C.drop 1;simpa[aB,aD]using this
    have F:=Qg w d e k f r s n (i+1) l m;cases t:vu k x y with
    |none=>simp[t]at h
    |some q=>
     have u:=IT (P:=P) f t H I d w;rw[List.range'_succ,List.forIn_cons];cases q with
     |true=>
      simp only[t]at h;have z:=F b h J K;simp only[Nat.mul_one]at z⊢;simp[uw (AZ f) g,uw (AZ f) p,u,Result.andThen];simpa using z
     |false=>
      simp[t]at h;simp[uw (AZ f) g,uw (AZ f) p,u,<-h]
end
end
section
open Nat renaming add_assoc -> aB
open Result renaming andThen_ok -> aD
open Go.RowKit
section
variable {P:Program} {o:Oper} {a:Act} {w:World} {B:Base P} {N:Nat} {μ:Mu} {e:cf} {Z Z':Hp} {v:Value}
theorem VR.agg_inv {p:Array Value}{v':Value}(h:VR μ (.agg p) v'): ∃q,v'= .agg q/\F2 (VR μ) p.toList q.toList:=by
 cases h with
 |agg h=>exact⟨_,rfl,h⟩
theorem LJ {t:TypeId}{s:List Nat}(c:OS P t=O s){p q g j:Array Value}(h:jG s p.toList q.toList=O b)(u:F2 (VR μ) p.toList g.toList)(z:F2 (VR μ) q.toList j.toList)(w:World):
  (Op.equal t (.agg g) (.agg j)).run P w= .ok b w/\P.eqGuardType P.depth t=Zb:=by
 unfold OS at c;unfold Op.equal Op.maxDepth;rw[show(10000:Nat)=9998+1+1 from rfl];cases f:P.underlying t with
 |none=>simp[f]at c
 |some A=>
  cases A<;>simp[f]at c
  case struct fs=>
   obtain⟨⟨l,m⟩,r⟩:=c;have d:P.fieldsOf t=fs:=by simp[Program.fieldsOf,f]
   rw[run_equalIn_struct w _ t g j (by rw[d,f]) m,d];exact⟨IU w 9998 g j fs.toList 0 s _ _ b r h (by simpa using u) (by simpa using z),l⟩
  case array n e=>
   obtain⟨⟨l,m⟩,k,r,C⟩:=c;subst C;refine⟨?_,m⟩;have:=Qg (P:=P) w 9998 e k r g j n 0 _ _ b h (by simpa using u) (by simpa using z);rw[Op.equalIn];simp only[Sem.run_bind,da f,aD,lW l];cases b<;>simp at this⊢ <;>rw[this]<;>rfl
theorem Ca {t S:TypeId}{k:List Nat}{d:Bool}(s:o.op= .binOp op t x y S)(f:op=if d then .neq else .eql)(r:OS P t=O k)(A:co x=Za)(C:co y=Za)(c:(AOp.eqCells d k x y).run e Z=O (v,Z'))(j:eU μ N e a.tmps)(n:R B μ Z w):iH P o a w B μ v Z':=by
 simp only[AOp.run]at c;split at c
 .rename_i p q u z;obtain⟨b,D,c⟩:=Option.map_eq_some_iff.1 c;simp only[Prod.mk.injEq]at c;obtain⟨rfl,rfl⟩:=c;have g:=j.ev A;have h:=j.ev C;rw[u]at g;rw[z]at h;obtain⟨K,l,M⟩:=g.agg_inv;obtain⟨L,m,Q⟩:=h.agg_inv;obtain⟨E,F⟩:=LJ r D M Q w;refine .same n ?_ (.bool _);have H:=λI J=>run_eqGuard_agg (P:=P) w op t I J K L F
  simp only[execOp,s,l,m,Sem.run_bind,H,aD];cases d<;>simp[f,binOp,E]
 .cases c
theorem aM3 {t:TypeId}{op:UnOp}(g:o.op= .unOp op t x)(k:co x=Za)(c:(AOp.un op x).run e Z=O (v,Z'))(j:eU μ N e a.tmps)(f:R B μ Z w):iH P o a w B μ v Z':=by
 simp only[AOp.run]at c;obtain⟨z,d,c⟩:=Option.map_eq_some_iff.1 c;simp only[Prod.mk.injEq]at c;obtain⟨rfl,rfl⟩:=c;have h:=j.ev k;generalize e.ev x=u at*;cases u<;>cases op<;>simp[un1]at d
 .subst d;have:=h.bool_inv;exact .same f (by simp[execOp,g,this,Op.unary]) (.bool _)
 .subst d;have:=h.int_inv;exact .same f (by simp[execOp,g,this,Op.unary,Op.intArith]) (.int _ _)
 .subst d;have:=h.int_inv;exact .same f (by simp[execOp,g,this,Op.unary,Op.intBits]) (.int _ _)
theorem an4 {s d:TypeId}{k r:IntKind}(m:o.op= .convert s d x)(p:P.underlying s=O (.int r))(j:P.underlying d=O (.int k))(q:co x=Za)(c:(AOp.conv k x).run e Z=O (v,Z'))(l:eU μ N e a.tmps)(g:R B μ Z w):iH P o a w B μ v Z':=by
 simp only[AOp.run]at c;obtain⟨n,f,c⟩:=Option.map_eq_some_iff.1 c;simp only[Prod.mk.injEq]at c;obtain⟨rfl,rfl⟩:=c;have h:=l.ev q;generalize e.ev x=u at*;cases u<;>simp[X3]at f;subst f;have:=h.int_inv;exact .same g (by simp[execOp,m,this,convert,da p,da j,Conv.intToInt]) (.int _ _)
theorem GJ (f:eU μ N e a.tmps): ∀{d c:List Operand},JJ d=O c->F2 (VR μ) (c.map e.ev) (d.map a.eval)
 |[],c,h=>by simp[JJ]at h;subst h;exact .nil
 |x::d,c,h=>by
  simp only[JJ]at h;split at h
  .rename_i l r g j;injection h with h
   subst h;obtain⟨rfl,k⟩:=ar g;exact .cons (f.ev k) (GJ f j)
  .cases h
theorem Wn {f:FuncId}{first c:Array Operand}{h cs:List Operand}(m:o.op= .makeFunc (.func f) first c)(j:JJ first.toList=O h)(l:JJ c.toList=O cs)(g:(AOp.mkFunc f h cs).run e Z=O (v,Z'))(d:eU μ N e a.tmps)(k:R B μ Z w):iH P o a w B μ v Z':=by
 simp only[AOp.run,Option.some.injEq,Prod.mk.injEq]at g;obtain⟨rfl,rfl⟩:=g;refine .same k (v':= .func (.func f) (first.map a.eval) (c.map a.eval)) (by simp[execOp,m,Instr.makeFunc]) (.func ?_ ?_)
 .simpa using GJ d j
 .simpa using GJ d l
theorem aD9 {t:TypeId}{i n:Nat}{j:Array Field}{f:Field}(u:o.op= .fieldAddr t x i)(z:P.underlying t=O (.struct j))(r:j[i]?=O f)(s:lg P f.type=O n)(k:n≠0)(C:co x=Za)(d:(AOp.off f.offset x).run e Z=O (v,Z'))(p:eU μ N e a.tmps)(l:R B μ Z w):iH P o a w B μ v Z':=by
 have h:=p.ev C;simp only[AOp.run]at d;split at d
 .rename_i b off m;simp only[Option.some.injEq,Prod.mk.injEq]at d;obtain⟨rfl,rfl⟩:=d;rw[m]at h;obtain⟨g,q,A⟩:=h.ptr_inv;refine .same l (v':= .pointer (O ⟨g.c,g.o+(off+f.offset),Y⟩)) ?_ (.ptr q);simp[execOp,u,Instr.fieldAt,da z,r,A,Instr.sureAddr,fieldPlace,lW s,k,ph,aB]
 .cases d
theorem VR.slice_inv {b n l c:Nat}{v':Value}(h:VR μ (.slice (O ⟨b,n,Y⟩) l c) v'):
  (∃g d,μ.at b g/\l<=c/\c<=d/\n+d*g.es<=g.ext/\v'= .slice (O ⟨g.c,g.o+n,Y⟩) l d)∨(l=0/\c=0/\∃A',v'= .slice (O A') 0 0/\∃g,μ.at b g):=by
 cases h with
 |slice f j k m=>exact .inl ⟨_,_,f,j,k,m,rfl⟩
 |slice0 A' h=>exact .inr ⟨rfl,rfl,A',rfl,_,h⟩
theorem aD7 {t d:TypeId}{n:Nat}(F:o.op= .indexAddr t x i)(H:P.underlying t=O (.slice d))(E:lg P d=O n)(J:co x=Za)(C:co i=Za)(f:(AOp.idx n x i).run e Z=O (v,Z'))(s:eU μ N e a.tmps)(u:R B μ Z w):iH P o a w B μ v Z':=by
 have h:=s.ev J;have r:=s.ev C;simp only[AOp.run]at f;split at f
 .rename_i b q l c k j z D;split at f
  .rename_i p;simp only[Option.some.injEq,Prod.mk.injEq]at f;obtain⟨rfl,rfl⟩:=f;rw[z]at h;rw[D]at r;have m:=r.int_inv;rcases h.slice_inv with⟨g,K,A,_,_,_,I⟩|⟨rfl,_⟩
   .refine .same u (v':= .pointer (O ⟨g.c,g.o+(q+j.toNat*n),Y⟩)) ?_ (.ptr A);simp[execOp,F,Instr.indexAt,da H,I,m,asIntOf,p,lW E,ph,aB]
   .omega
  .cases f
 .cases f
theorem an7 {t d:TypeId}{m n:Nat}(F:o.op= .indexAddr t x i)(H:P.underlying t=O (.array m d))(E:lg P d=O n)(J:co x=Za)(C:co i=Za)(f:(AOp.idxA m n x i).run e Z=O (v,Z'))(s:eU μ N e a.tmps)(u:R B μ Z w):iH P o a w B μ v Z':=by
 have h:=s.ev J;have r:=s.ev C;simp only[AOp.run]at f;split at f
 .rename_i b q k j z D;split at f
  .rename_i p;simp only[Option.some.injEq,Prod.mk.injEq]at f;obtain⟨rfl,rfl⟩:=f;rw[z]at h;rw[D]at r;have l:=r.int_inv;obtain⟨g,A,I⟩:=h.ptr_inv;refine .same u (v':= .pointer (O ⟨g.c,g.o+(q+j.toNat*n),Y⟩)) ?_ (.ptr A);simp[execOp,F,Instr.indexAt,Instr.sureAddr,da H,I,l,asIntOf,p,lW E,ph,aB]
  .cases f
 .cases f
theorem Rm {t:TypeId}{n i:Nat}(g:zn P t=O b)(k:lg P t=O n){p q:Array Value}(c:F2 (VR μ) p.toList q.toList){u:Value}
  (d:(if b then O (.agg (p.extract i (i+n)))else p[i]?)=O u) (w:World): ∃f,(part t q i).run P w= .ok f w/\VR μ u f:=by
 cases b with
 |true=>
  simp at d;subst d;refine⟨.agg (q.extract i (i+n)),by simp[part,EV g,lW k], .agg ?_⟩;simpa[Array.toList_extract,List.extract_eq_take_drop]using(c.drop i).take n
 |false=>
  simp at d;obtain⟨f,h,j⟩:=c.get i u (by simpa using d);exact⟨f,uw g (by simpa using h) w,j⟩
theorem Wk {t:TypeId}{i n:Nat}{g:Array Field}{f:Field}(u:o.op= .field t x i)(C:P.underlying t=O (.struct g))(m:g[i]?=O f)(s:lg P f.type=O n)(k:zn P f.type=O b)(D:co x=Za)(c:(AOp.fieldV f.offset n b x).run e Z=O (v,Z'))(l:eU μ N e a.tmps)(j:R B μ Z w):iH P o a w B μ v Z':=by
 have h:=l.ev D;simp only[AOp.run]at c;split at c
 .rename_i p z;rw[z]at h;obtain⟨q,A,r⟩:=h.agg_inv
  have:Z'=Z/\(if b then O (.agg (p.extract f.offset (f.offset+n)))else p[f.offset]?)=O v:=by
   cases b
   .simp at c;obtain⟨_,d,rfl,rfl⟩:=c;exact⟨rfl,by simpa using d⟩
   .simp at c;exact⟨c.2.symm,by simp[c.1]⟩
  obtain⟨rfl,d⟩:=this;obtain⟨H,E,F⟩:=Rm k s r d w;exact .same j (by simp[execOp,u,Instr.field,da C,m,A,asAgg,E]) F
 .cases c
theorem Wm {t d:TypeId}{m n:Nat}(F:o.op= .index t x i)(J:P.underlying t=O (.array m d))(z:lg P d=O n)(C:zn P d=O b)(K:co x=Za)(D:co i=Za)(c:(AOp.indexV m n b x i).run e Z=O (v,Z'))(u:eU μ N e a.tmps)(A:R B μ Z w):iH P o a w B μ v Z':=by
 have h:=u.ev K;have s:=u.ev D;simp only[AOp.run]at c;split at c
 .rename_i p k j H E;rw[H]at h;rw[E]at s;have g:=s.int_inv;obtain⟨q,I,r⟩:=h.agg_inv;split at c
  .rename_i l
   have:Z'=Z/\(if b then O (.agg (p.extract (j.toNat*n) (j.toNat*n+n)))else p[j.toNat*n]?)=O v:=by
    cases b
    .simp at c;obtain⟨_,f,rfl,rfl⟩:=c;exact⟨rfl,by simpa using f⟩
    .simp at c;exact⟨c.2.symm,by simp[c.1]⟩
   obtain⟨rfl,f⟩:=this;obtain⟨Q,L,M⟩:=Rm C z r f w;exact .same A (by simp[execOp,F,Instr.index,da J,I,g,asIntOf,l,lW z,L]) M
  .cases c
 .cases c
theorem Wl {t:TypeId}(z:o.op= .index t x i)(C:P.underlying t=O .string)(D:co x=Za)(r:co i=Za)(d:(AOp.indexS x i).run e Z=O (v,Z'))(m:eU μ N e a.tmps)(p:R B μ Z w):iH P o a w B μ v Z':=by
 have h:=m.ev D;have l:=m.ev r;simp only[AOp.run]at d;split at d
 .rename_i s k j A u;rw[A]at h;rw[u]at l;have f:=l.int_inv;have g:=h.string_inv;split at d
  .rename_i n;obtain⟨c,q,d⟩:=Option.map_eq_some_iff.1 d;simp only[Prod.mk.injEq]at d;obtain⟨rfl,rfl⟩:=d;exact .same p (by simp[execOp,z,Instr.index,da C,g,f,asIntOf,n,q]) (.int _ _)
  .cases d
 .cases d
theorem S7 {i:Nat}(n:o.op= .extract x i)(t:co x=Za)(d:(AOp.extract x i).run e Z=O (v,Z'))(m:eU μ N e a.tmps)(k:R B μ Z w):iH P o a w B μ v Z':=by
 have h:=m.ev t;simp only[AOp.run]at d;split at d
 .rename_i p q;rw[q]at h;generalize s:a.eval x=u at h;cases h with
  |tuple r=>
   obtain⟨c,l,d⟩:=Option.map_eq_some_iff.1 d;simp only[Prod.mk.injEq]at d;obtain⟨rfl,rfl⟩:=d;obtain⟨z,g,j⟩:=r.get i c (by simpa using l);have f:_:=g;rw[Array.getElem?_toList]at f;exact .same k (by simp[execOp,n,Instr.extract,s,f]) j
 .cases d
end
end
end Go.Ab
