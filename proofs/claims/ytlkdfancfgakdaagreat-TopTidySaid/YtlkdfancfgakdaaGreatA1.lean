/- A part of the proof. No condition. -/
import Derived.Calls
import Derived.RowKit
import Derived.WalkKit
import Derived.Lib.ItoaMem
import Derived.Lib.FrozenHead
set_option linter.unusedVariables false
set_option linter.unusedSimpArgs false
set_option linter.unusedSectionVars false
namespace Go.Ab
open Option renaming some->O,none->Y
open Bool renaming true->Za,false->Zb
open Decidable renaming decide->Zc
abbrev Zd:=List Int
universe uU
theorem zA {p:Prop}{i:Decidable p}(h:¬p):@decide p i=Zb:=decide_eq_false h
theorem Ze {p:Prop}{i:Decidable p}(h:¬p:=by omega):@decide p i=Zb:=zA h
theorem zB {p:Prop}{i:Decidable p}(h:p):@decide p i=Za:=decide_eq_true h
theorem Zf {p:Prop}{i:Decidable p}(h:p:=by omega):@decide p i=Za:=zB h
theorem zC {α:Sort uU}{a b:α}:cond Za a b=a:=rfl
theorem zD {α:Sort uU}{a b:α}:cond Zb a b=b:=rfl
theorem zE {c:Prop}{h:Decidable c}(d:c){α:Sort uU}{t e:α}:ite c t e=t:=if_pos d
theorem Zg {c:Prop}{h:Decidable c}(d:c:=by omega){α:Sort uU}{t e:α}:ite c t e=t:=zE d
theorem zF {c:Prop}{h:Decidable c}(d:¬c){α:Sort uU}{t e:α}:ite c t e=e:=if_neg d
theorem Zh {c:Prop}{h:Decidable c}(d:¬c:=by omega){α:Sort uU}{t e:α}:ite c t e=e:=zF d
theorem zG {α β:Type uU}{a:α}{f:α->Option β}:(O a).bind f=f a:=rfl
variable {i x y:Operand}{b:Bool}{v v':Value}{c:Call}{k:IntKind}{op:BinOp}{lo:Option Operand}{w:World}{N:Nat}{fs:Array Field}
section
open List renaming range -> aB, replicate -> aD
structure Blk where
 cells:List Value
 own:Bool
 es:Nat
structure Hp where
 m:Nat->Option Blk
 n:Nat
def Hp.set (Z:Hp)(b:Nat)(x:Option Blk):Hp:={m:=λi=>if i=b then x else Z.m i,n:=Z.n}
def Hp.add (Z:Hp)(x:Blk):Hp:={m:=λi=>if i=Z.n then O x else Z.m i,n:=Z.n+1}
abbrev cj :=Nat->Value
def cj.put (e:cj)(d:Nat)(v:Value):cj:=λi=>if i=d then v else e i
def cj.putO (e:cj)(d:Option Nat)(v:Value):cj:=match d with
 |some d=>e.put d v
 |none=>e
def cj.of (args:List Value):cj:=λi=>(args[i]?).getD undef
def cj.ev (e:cj):Operand->Value
 | .tmp t=>e t
 | .const v=>v
 | .global _=>undef
 | .func f=> .func (.func f) #[] #[]
inductive AExit where
 |normal
 |exit (id:Nat)
 |ret
inductive AOp where
 |move (x:Operand)
 |pick (c a b:Operand)
 |alloc (es:Nat) (zero:List Value)
 |box (es:Nat) (x:Operand)
 |build (zero:List Value) (parts:List (Nat×Nat×Operand))
 |buildSlice (es len:Nat) (zero:List Value) (parts:List (Nat×Nat×Operand))
 |load (x:Operand)
 |loadN (n:Nat) (x:Operand)
 |store (n:Nat) (a x:Operand)
 |nilCheck (x:Operand)
 |bin (op:BinOp) (x y:Operand)
 |eqv (kd:Nat) (neg:Bool) (x y:Operand)
 |eqCells (neg:Bool) (ks:List Nat) (x y:Operand)
 |un (op:UnOp) (x:Operand)
 |conv (k:IntKind) (x:Operand)
 |mkFunc (f:FuncId) (first captured:List Operand)
 |makeSlice (es bytes:Nat) (zero:List Value) (l c:Operand)
 |slice (es:Nat) (x:Operand) (lo hi:Option Operand)
 |sliceStr (x:Operand) (lo hi:Option Operand)
 |sliceArr (es n:Nat) (x:Operand) (lo hi:Option Operand)
 |off (n:Nat) (x:Operand)
 |idx (es:Nat) (x i:Operand)
 |idxA (len es:Nat) (x i:Operand)
 |fieldV (off n:Nat) (agg:Bool) (x:Operand)
 |indexV (len es:Nat) (agg:Bool) (x i:Operand)
 |indexS (x i:Operand)
 |extract (x:Operand) (i:Nat)
 |call (f:FuncId) (args:List Operand)
 |callv (f:Operand) (args:List Operand)
 |append (es bytes:Nat) (s x:Operand)
 |appendZ (es bytes:Nat) (zero:List Value) (s x:Operand)
 |copy (es:Nat) (d s:Operand)
 |len (x:Operand)
 |lenS (x:Operand)
 |lenC (n:Nat)
 |most (x y:Operand)
 |least (x y:Operand)
 |stuck
 |capN (x:Operand)
 |sliceX (x hi mx:Operand)
 |range (x:Operand)
 |next (x:Operand)
 |encR (x:Operand)
 |strOf (x:Operand)
 |newB
 |strOfR (x:Operand)
 |runesOf (x:Operand)
 |mark (x:Operand)
 |makeM (k:IntKind)
 |lookM (k:IntKind) (ok:Bool) (x i:Operand)
 |updM (k:IntKind) (x i v:Operand)
 |lenM (k:IntKind) (x:Operand)
 |rangeF (f n:Nat) (x:Operand)
structure AOper where
 dst:Option Nat
 op:AOp
 guard:Option (Nat×Bool)
structure SItem where
 idx:Nat
 o:AOper
 mover:Bool
 keep:Bool
 chks:List Nat
inductive AC where
 |skip
 |region (ops:List AOper)
 |draw (ops:List (AOper×List Nat))
 |sched (its:List SItem)
 |seq (a b:AC)
 |cond (c:Operand) (thn els:AC)
 |block (id:Nat) (body:AC)
 |loop (body:AC)
 |exit (id:Nat)
 |ret
inductive ARes where
 |tmp (t:Nat)
 |cell (t:Nat)
 |cellN (t n:Nat)
structure AFn where
 ntmps:Nat
 results:List ARes
 body:AC
def WW :IntKind->Nat
 | .i8=>1000000| .i16=>1000001| .i32=>1000002| .i64=>1000003| .u8=>1000004| .u16=>1000005| .u32=>1000006| .u64=>1000007
def Cg (f:Nat):Bool:=Nat.ble 1000000 f
def Gz :Fn->Bool
 | .func f=>Cg f
 |_=>Zb
def WX (k:IntKind)(b:Nat):Value:= .func (.func (WW k)) #[] #[.pointer (O ⟨b,0,Y⟩)]
def UE (f:Nat):Nat:=2000000+f
def EQ (f:Nat):Bool:=Nat.ble 2000000 f
def aO4 (f:Nat):Bool:= !Cg f||EQ f
def Kv (b:Bool):Value:=cond b .nilFunc (.pointer Y)
theorem WA {a:Bool}(h:Kv a=Kv b):a=b:=by cases a<;>cases b<;>first|rfl|cases h
def ylV (f b:Nat):Value:= .func (.func (UE f)) #[] #[.pointer (O ⟨b,0,Y⟩)]
def Lt (k:IntKind):Value->Option Nat
 | .func (.func f) a c=>if f=WW k/\a.toList=[]then(match c.toList with
  |[.pointer (O ⟨b,0,Y⟩)]=>O b
  |_=>Y)else Y
 |_=>Y
def au (s:ByteArray):Zd:=s.data.toList.map λb=>(b.toNat:Int)
def CD :List (Zd×Int)->Zd
 |[]=>[]
 |(k,v)::r=>k.flatMap (λb=>[1,b])++0::(aD v.toNat 1++0::(aD (-v).toNat 1++0::CD r))
def CE :Zd->Zd×Zd
 |x::b::r=>if x=1 then(b::(CE r).1,(CE r).2)else([],b::r)
 |[_]=>([],[])
 |[]=>([],[])
def yw :Zd->Nat×Zd
 |x::r=>if x=1 then((yw r).1+1,(yw r).2)else(0,r)
 |[]=>(0,[])
def PO :Nat->Zd->List (Zd×Int)
 |0,_=>[]
 |_+1,[]=>[]
 |n+1,x::l=>((CE (x::l)).1,((yw (CE (x::l)).2).1:Int)-((yw (yw (CE (x::l)).2).2).1:Int))::PO n (yw (yw (CE (x::l)).2).2).2
def GC (k:Zd)(v:Int):List (Zd×Int)->List (Zd×Int)
 |[]=>[(k,v)]
 |p::r=>if p.1=k then(p.1,v)::r else p::GC k v r
def Lu (l:Zd):List (Zd×Int):=PO l.length l
def H7 (l k:Zd):Option Int:=((Lu l).find? λp=>Zc (p.1=k)).map (·.2)
def DN (l k:Zd)(v:Int):Zd:=CD (GC k v (Lu l))
def PS (l:Zd):Nat:=(Lu l).length
abbrev MQ :=List Value->Hp->(Value->Hp->Prop)->Prop
abbrev lj :=FuncId->MQ
def one :Value->Bool
 | .agg _| .tuple _=>Zb
 |_=>Za
def cellsOf (v:Value):List Value:=v.cells.toList
def uG (x:Blk)(o n:Nat):Option (List Value):=if o+n<=x.cells.length then O ((x.cells.drop o).take n)else Y
def qr (cells:List Value)(o:Nat):List Value->List Value
 |[]=>cells
 |v::d=>qr (cells.set o v) (o+1) d
def Dk (x:Blk)(o:Nat)(vs:List Value):Option Blk:=
 if x.own=Za/\o+vs.length<=x.cells.length/\vs.all one=Za then O {cells:=qr x.cells o vs,own:=x.own,es:=x.es}else Y
def Hp.slice (Z:Hp)(es:Nat):Value->Nat->Option (List Value)
 | .slice (O ⟨b,o,Y⟩) _ _,n=>if n=0 then O []else match Z.m b with
  |some x=>uG x o (n*es)
  |none=>Y
 | .slice Y _ _,n=>if n=0 then O []else Y
 | .string s,n=>if es=1 then O (((s.extract 0 n).data.toList).map λb=> .int .u8 b.toNat)else Y
 |_,_=>Y
def FK :Value->Option Nat
 | .slice _ n _=>O n
 | .string s=>O s.size
 |_=>Y
def Gt (cells:List Value):List (Nat×Nat×Value)->Option (List Value)
 |[]=>O cells
 |(f,d,v)::g=>
  if(cellsOf v).length=d/\f+d<=cells.length then Gt (cells.take f++cellsOf v++cells.drop (f+d)) g else Y
def WJ (op:BinOp)(k:IntKind)(x y:Int):Option Value:=
 match op with
 | .add=>O (.int k (k.wrap (x+y)))
 | .sub=>O (.int k (k.wrap (x-y)))
 | .mul=>O (.int k (k.wrap (x*y)))
 | .quo=>if y=0 then Y else O (.int k (k.wrap (x.tdiv y)))
 | .rem=>if y=0 then Y else O (.int k (x.tmod y))
 | .and=>O (.int k (k.wrap (BitVec.ofInt k.bits x&&& BitVec.ofInt k.bits y).toNat))
 | .or=>O (.int k (k.wrap (BitVec.ofInt k.bits x|||BitVec.ofInt k.bits y).toNat))
 | .xor=>O (.int k (k.wrap (BitVec.ofInt k.bits x ^^^ BitVec.ofInt k.bits y).toNat))
 | .andNot=>O (.int k (k.wrap (BitVec.ofInt k.bits x&&& ~~~BitVec.ofInt k.bits y).toNat))
 | .eql=>O (.bool (x==y))
 | .neq=>O (.bool (x !=y))
 | .lss=>O (.bool (x<y))
 | .leq=>O (.bool (x<=y))
 | .gtr=>O (.bool (x > y))
 | .geq=>O (.bool (x≥y))
 |_=>Y
def Xq (op:BinOp)(x y:ByteArray):Option Value:=
 match op with
 | .add=>if((x.size+y.size:Nat):Int) > IntKind.i64.max then Y else O (.string (x++y))
 | .eql=>O (.bool (x.toList==y.toList))
 | .neq=>O (.bool !(x.toList==y.toList))
 | .lss=>O (.bool (Op.bytesLess x.toList y.toList))
 | .leq=>O (.bool (Op.bytesLess x.toList y.toList||x.toList==y.toList))
 | .gtr=>O (.bool !(Op.bytesLess x.toList y.toList||x.toList==y.toList))
 | .geq=>O (.bool !(Op.bytesLess x.toList y.toList))
 |_=>Y
def Oj (op:BinOp)(k:IntKind)(x y:Int):Option Value:=
 if y<0 then Y else match op with
 | .shl=>O (.int k (k.wrap (x*2 ^ (min y.toNat k.bits))))
 | .shr=>O (.int k (x.fdiv (2 ^ (min y.toNat k.bits))))
 |_=>Y
def yS :BinOp->Bool
 | .shl| .shr=>Za
 |_=>Zb
def Da (op:BinOp):Value->Value->Option Value
 | .int k a, .int d b=>if yS op=Za then Oj op k a b else if k=d then WJ op k a b else Y
 | .string a, .string b=>if yS op=Za then Y else Xq op a b
 |_,_=>Y
def SS :Nat->Value->Value->Option Bool
 |0, .bool a, .bool b=>O (a==b)
 |1, .pointer Y, .pointer b=>O b.isNone
 |1, .pointer (O _), .pointer Y=>O Zb
 |2, .slice Y _ _, .slice b _ _=>O b.isNone
 |2, .slice (O _) _ _, .slice Y _ _=>O Zb
 |3, .nilFunc, .nilFunc=>O Za
 |3, .nilFunc, .func f _ _=>if Gz f then Y else O Zb
 |3, .func f _ _, .nilFunc=>if Gz f then Y else O Zb
 |_,_,_=>Y
def zK :Nat->Value->Value->Option Bool
 |0, .bool a, .bool b=>O (a==b)
 |1, .int k a, .int d b=>if k=d then O (a==b)else Y
 |2, .string a, .string b=>O (a.toList==b.toList)
 |_,_,_=>Y
def ph :List Nat->List Value->List Value->Option Bool
 |[],[],[]=>O Za
 |k::d,a::r,b::s=>match zK k a b with
  |some true=>ph d r s
  |some false=>O Zb
  |none=>Y
 |_,_,_=>Y
def un1 :UnOp->Value->Option Value
 | .neg, .int k n=>O (.int k (k.wrap (0-n)))
 | .xor, .int k n=>O (.int k (k.wrap (BitVec.ofInt k.bits (if k.signed then-1 else k.max) ^^^ BitVec.ofInt k.bits n).toNat))
 | .not, .bool b=>O (.bool !b)
 |_,_=>Y
def af3 :Value->Option Int
 | .int _ n=>O n
 |_=>Y
def rX (y:Nat)(d:Nat):Option Value->Option Nat
 |some (.int _ i)=>if 0<=i/\i<=y then O i.toNat else Y
 |some _=>Y
 |none=>O d
def RQ :Value->Value->Option Value
 | .int k x, .int _ y=>O (.int k (if y<x then y else x))
 |_,_=>Y
def We :Value->Value->Option Value
 | .int k x, .int _ y=>O (.int k (if y > x then y else x))
 |_,_=>Y
def Pd (a:Addr)(n:Nat):Addr:=⟨a.block,a.off+n,Y⟩
def Df (Z:Hp)(es:Nat)(a:Option Addr)(lo:Option Operand):Bool:=match lo,a with
 |none,_=>Za
 |_,Y=>Za
 |some _,O a=>match Z.m a.block with
  |some d=>d.es==es
  |none=>Zb
def eg (zero:List Value)(n:Nat):List Value:=(aD n zero).flatten
def rJ (es bytes:Nat)(Z:Hp)(a:Option Addr)(g l n:Nat)(f:List Value):Option (Value×Hp):=if g+n<=l then(match a with
      |some ⟨b,o,Y⟩=>if f=[]then O (.slice (O ⟨b,o,Y⟩) (g+n) l,Z)else match Z.m b with
       |some d=>match Dk d (o+g*es) f with
        |some j=>O (.slice (O ⟨b,o,Y⟩) (g+n) l,Z.set b (O j))
        |none=>Y
       |none=>Y
      |none=>if f=[]/\g=0/\l=0/\n=0 then O (.slice Y 0 0,Z)else Y
      |_=>Y)
     else if(g+n)*bytes<=140737488355328/\g+n<=9223372036854775807/\f.all one=Za then(match a with
      |some ⟨b,o,Y⟩=>match Z.m b with
       |some d=>if d.own=Za/\d.es=es then match uG d o (g*es)with
        |some h=>O (.slice (O ⟨Z.n,0,Y⟩) (g+n) (g+n),(Z.set b Y).add ⟨h++f,Za,es⟩)
        |none=>Y
        else Y
       |none=>Y
      |none=>if g=0 then O (.slice (O ⟨Z.n,0,Y⟩) n n,Z.add ⟨f,Za,es⟩)else Y
      |some ⟨b,o,O _⟩=>if g=0 then O (.slice (O ⟨Z.n,0,Y⟩) n n,Z.add ⟨f,Za,es⟩)else match Z.m b with
       |some d=>if d.es=es then match uG d o (g*es)with
        |some h=>O (.slice (O ⟨Z.n,0,Y⟩) (g+n) (g+n),Z.add ⟨h++f,Za,es⟩)
        |none=>Y
        else Y
       |none=>Y)
     else Y
def Db :List Value->Option (Zd)
 |[]=>O []
 | .int .u8 n::r=>(Db r).map (n:: ·)
 |_=>Y
def GY (l:Zd):ByteArray:=l.foldl (λr n=>r.push (UInt8.ofNat n.toNat)) ByteArray.empty
def Dh :List Value->Option (Zd)
 |[]=>O []
 | .int .i32 n::r=>(Dh r).map (n:: ·)
 |_=>Y
def V0 (l:Zd):ByteArray:=l.foldl (λr n=>r++Utf8.encode n) ByteArray.empty
def qE (s:ByteArray):List Value:=(Conv.runesFrom s s.size 0 #[]).toList
def WS (k:IntKind)(d:Bool)(s key:ByteArray):Value:=if d then .tuple #[.int k ((H7 (au s) (au key)).getD 0), .bool (H7 (au s) (au key)).isSome]else .int k ((H7 (au s) (au key)).getD 0)
def AOp.run (e:cj)(Z:Hp):AOp->Option (Value×Hp)
 | .move x=>O (e.ev x,Z)
 | .pick c a b=>match e.ev c with
  | .bool true=>O (e.ev a,Z)
  | .bool false=>O (e.ev b,Z)
  |_=>Y
 | .alloc es zero=>O (.pointer (O ⟨Z.n,0,Y⟩),Z.add ⟨zero,Za,es⟩)
 | .box es x=>if(cellsOf (e.ev x)).all one then O (.pointer (O ⟨Z.n,0,Y⟩),Z.add ⟨cellsOf (e.ev x),Za,es⟩)else Y
 | .build zero u=>(Gt zero (u.map λ(o,s,x)=>(o,s,e.ev x))).map λt=>(.agg t.toArray,Z)
 | .buildSlice es C zero u=>match Gt (eg zero C) (u.map λ(o,s,x)=>(o,s,e.ev x))with
  |some t=>if t.all one then O (.slice (O ⟨Z.n,0,Y⟩) C C,Z.add ⟨t,Za,es⟩)else Y
  |none=>Y
 | .load x=>match e.ev x with
  | .pointer (O ⟨b,o,Y⟩)=>match Z.m b with
   |some g=>(g.cells[o]?).map λv=>(v,Z)
   |none=>Y
  |_=>Y
 | .loadN n x=>match e.ev x with
  | .pointer (O ⟨b,o,Y⟩)=>match Z.m b with
   |some g=>(uG g o n).map λt=>(.agg t.toArray,Z)
   |none=>Y
  |_=>Y
 | .store n a x=>match e.ev a with
  | .pointer (O ⟨b,o,Y⟩)=>if(cellsOf (e.ev x)).length=n then match Z.m b with
   |some g=>match Dk g o (cellsOf (e.ev x))with
    |some z=>O (undef,Z.set b (O z))
    |none=>Y
   |none=>Y
   else Y
  |_=>Y
 | .nilCheck x=>match e.ev x with
  | .pointer (O a)=>O (.pointer (O a),Z)
  | .func (.func f) first q=>if Cg f then Y else O (.func (.func f) first q,Z)
  |_=>Y
 | .bin op x y=>(Da op (e.ev x) (e.ev y)).map λv=>(v,Z)
 | .eqv Q H x y=>(SS Q (e.ev x) (e.ev y)).map λb=>(.bool (b !=H),Z)
 | .eqCells H S x y=>match e.ev x,e.ev y with
  | .agg a, .agg b=>(ph S a.toList b.toList).map λb=>(.bool (b !=H),Z)
  |_,_=>Y
 | .un op x=>(un1 op (e.ev x)).map λv=>(v,Z)
 | .conv k x=>(af3 (e.ev x)).map λn=>(.int k (k.wrap n),Z)
 | .mkFunc f first q=>if Cg f then Y else O (.func (.func f) (first.map e.ev).toArray (q.map e.ev).toArray,Z)
 | .makeSlice es j zero l c=>match e.ev l,e.ev c with
  | .int _ l, .int _ c=>if 0<=l/\l<=c/\j*c<=281474976710656/\c<=9223372036854775807 then
    O (.slice (O ⟨Z.n,0,Y⟩) l.toNat c.toNat,Z.add ⟨eg zero c.toNat,Za,es⟩)else Y
  |_,_=>Y
 | .slice es x lo E=>match e.ev x with
  | .slice a C A=>if(A==0||Df Z es a lo)=Za then match rX A C (E.map e.ev)with
   |some h=>match rX h 0 (lo.map e.ev)with
    |some l=>O (.slice (a.map (Pd · (l*es))) (h-l) (A-l),Z)
    |none=>Y
   |none=>Y else Y
  |_=>Y
 | .sliceStr x lo E=>match e.ev x with
  | .string s=>match rX s.size s.size (E.map e.ev)with
   |some h=>match rX h 0 (lo.map e.ev)with
    |some l=>O (.string (s.extract l h),Z)
    |none=>Y
   |none=>Y
  |_=>Y
 | .sliceArr es n x lo E=>match e.ev x with
  | .pointer (O ⟨b,o,Y⟩)=>match Z.m b with
   |some g=>if g.own=Za/\g.es=es/\o+n*es<=g.cells.length then match rX n n (E.map e.ev)with
    |some h=>match rX h 0 (lo.map e.ev)with
     |some l=>if l<n then O (.slice (O ⟨b,o+l*es,Y⟩) (h-l) (n-l),Z)else Y
     |none=>Y
    |none=>Y else Y
   |none=>Y
  |_=>Y
 | .off n x=>match e.ev x with
  | .pointer (O ⟨b,o,Y⟩)=>O (.pointer (O ⟨b,o+n,Y⟩),Z)
  |_=>Y
 | .idx es x i=>match e.ev x,e.ev i with
  | .slice (O ⟨b,o,Y⟩) C _, .int _ i=>if 0<=i/\i<C then O (.pointer (O ⟨b,o+i.toNat*es,Y⟩),Z)else Y
  |_,_=>Y
 | .idxA C es x i=>match e.ev x,e.ev i with
  | .pointer (O ⟨b,o,Y⟩), .int _ i=>if 0<=i/\i<C then O (.pointer (O ⟨b,o+i.toNat*es,Y⟩),Z)else Y
  |_,_=>Y
 | .fieldV J n agg x=>match e.ev x with
  | .agg t=>if agg then O (.agg (t.extract J (J+n)),Z)else(t[J]?).map λv=>(v,Z)
  |_=>Y
 | .indexV C es agg x i=>match e.ev x,e.ev i with
  | .agg t, .int _ i=>if 0<=i/\i<C then(if agg then O (.agg (t.extract (i.toNat*es) (i.toNat*es+es)),Z)else(t[i.toNat*es]?).map λv=>(v,Z))else Y
  |_,_=>Y
 | .indexS x i=>match e.ev x,e.ev i with
  | .string s, .int _ i=>if 0<=i then(s[i.toNat]?).map λb=>(.int .u8 b.toNat,Z)else Y
  |_,_=>Y
 | .extract x i=>match e.ev x with
  | .tuple V=>(V[i]?).map λv=>(v,Z)
  |_=>Y
 | .call _ _| .callv _ _| .rangeF _ _ _=>Y
 | .append es j s x=>match e.ev s with
  | .slice a L K=>match FK (e.ev x)with
   |some n=>match Z.slice es (e.ev x) n with
    |some D=>rJ es j Z a L K n D
    |none=>Y
   |none=>Y
  |_=>Y
 | .appendZ es j zero s x=>match e.ev s,e.ev x with
  | .slice a L K, .int _ l=>if 0<=l/\l<=9223372036854775807/\l*j<=281474976710656 then rJ es j Z a L K l.toNat (eg zero l.toNat)else Y
  |_,_=>Y
 | .copy es d s=>match e.ev d with
  | .slice a I _=>match FK (e.ev s)with
   |some n=>match Z.slice es (e.ev s) (min n I)with
    |some D=>(match a with
     |some ⟨b,o,Y⟩=>if D=[]then O (.int .i64 (min n I:Nat),Z)else match Z.m b with
      |some g=>match Dk g o D with
       |some z=>O (.int .i64 (min n I:Nat),Z.set b (O z))
       |none=>Y
      |none=>Y
     |none=>if D=[]then O (.int .i64 (min n I:Nat),Z)else Y
     |_=>Y)
    |none=>Y
   |none=>Y
  |_=>Y
 | .len x=>match e.ev x with
  | .slice _ n _=>O (.int .i64 n,Z)
  |_=>Y
 | .lenS x=>match e.ev x with
  | .string s=>O (.int .i64 s.size,Z)
  |_=>Y
 | .lenC n=>O (.int .i64 n,Z)
 | .most x y=>(We (e.ev x) (e.ev y)).map λv=>(v,Z)
 | .least x y=>(RQ (e.ev x) (e.ev y)).map λv=>(v,Z)
 | .stuck=>Y
 | .capN x=>match e.ev x with
  | .slice Y 0 0=>O (.int .i64 0,Z)
  |_=>Y
 | .sliceX x E T=>match e.ev x with
  | .slice a _ A=>match rX A 0 (O (e.ev T))with
   |some m=>match rX m 0 (O (e.ev E))with
    |some h=>if h=m then match a with
     |none=>O (.slice Y 0 0,Z)
     |some ⟨b,o,Y⟩=>O (.slice (O ⟨b,o,O 0⟩) m m,Z)
     |_=>Y
     else Y
    |none=>Y
   |none=>Y
  |_=>Y
 | .range x=>match e.ev x with
  | .string s=>O (.iface Z.n (.string s),Z.add ⟨[.int .i64 0],Za,1⟩)
  |_=>Y
 | .next x=>match e.ev x with
  | .iface b (.string s)=>match Z.m b with
   |some g=>if g.own=Za then(match g.cells with
    | .int .i64 p::r=>if 0<=p then(if p.toNat<s.size then
      O (.tuple #[.bool Za, .int .i64 p, .int .i32 (Utf8.decode s p.toNat).1],Z.set b (O ⟨.int .i64 ((p.toNat+(Utf8.decode s p.toNat).2:Nat):Int)::r,Za,g.es⟩))
     else O (.tuple #[.bool Zb],Z))else Y
    |_=>Y)else Y
   |none=>Y
  |_=>Y
 | .encR x=>(af3 (e.ev x)).map λn=>(.string (Utf8.encode n),Z)
 | .strOfR x=>match e.ev x with
  | .slice a n c=>match Z.slice 1 (.slice a n c) n with
   |some t=>(Dh t).map λl=>(.string (V0 l),Z)
   |none=>Y
  |_=>Y
 | .runesOf x=>match e.ev x with
  | .string s=>if s.size<=70368744177664 then O (.slice (O ⟨Z.n,0,Y⟩) (qE s).length (qE s).length,Z.add ⟨qE s,Za,1⟩)else Y
  |_=>Y
 | .mark x=>match e.ev x with
  | .slice (O ⟨b,o,Y⟩) n c=>if 0<n then(match Z.m b with
   |some g=>if g.own=Za then O (.slice (O ⟨b,o,Y⟩) n c,Z)else Y
   |none=>Y)else Y
  |_=>Y
 | .newB=>O (.iface Z.n .nilFunc,Z.add ⟨[.string ByteArray.empty],Za,1⟩)
 | .makeM k=>O (WX k Z.n,Z.add ⟨[.string ByteArray.empty],Za,1⟩)
 | .lookM k U x i=>match Lt k (e.ev x),e.ev i with
  |some b, .string F=>match Z.m b with
   |some g=>(match g.cells with
    | .string s::_=>O (WS k U s F,Z)
    |_=>Y)
   |none=>Y
  |_,_=>Y
 | .updM k x i v=>match Lt k (e.ev x),e.ev i,e.ev v with
  |some b, .string F, .int M n=>if M=k then(match Z.m b with
   |some g=>if g.own=Za then(match g.cells with
    | .string s::r=>O (undef,Z.set b (O ⟨.string (GY (DN (au s) (au F) n))::r,Za,g.es⟩))
    |_=>Y)else Y
   |none=>Y)else Y
  |_,_,_=>Y
 | .lenM k x=>match Lt k (e.ev x)with
  |some b=>match Z.m b with
   |some g=>(match g.cells with
    | .string s::_=>O (.int .i64 (PS (au s)),Z)
    |_=>Y)
   |none=>Y
  |none=>Y
 | .strOf x=>match e.ev x with
  | .slice a n c=>match Z.slice 1 (.slice a n c) n with
   |some t=>(Db t).map λl=>(.string (GY l),Z)
   |none=>Y
  |_=>Y
def bn (T:lj)(op:AOp)(e:cj)(Z:Hp)(k:Value->Hp->Prop):Prop:=
 match op with
 | .call f h=>T f (h.map e.ev) Z k
 | .callv x h=>match e.ev x with
  | .func (.func f) first d=>aO4 f=Za/\T f (first.toList++h.map e.ev++d.toList) Z k
  |_=>False
 | .rangeF f n x=>match e.ev x with
  | .func (.func g) first d=>Cg g=Zb/\first.toList=[]/\T g (ylV f Z.n::d.toList) (Z.add ⟨Kv Za::(aB n).map e,Za,1⟩) λ_ Z'=>(∃x,Z'.m Z.n=O x/\x.own=Za/\x.cells.head?=O (Kv Za))/\k undef (Z'.set Z.n Y)
  |_=>False
 |op=>match op.run e Z with
  |some (v,Z')=>k v Z'
  |none=>False
def wanted (o:AOper)(e:cj):Bool:=
 match o.guard with
 |some (t,d)=>match e t with
  | .bool b=>b==d
  |_=>Zb
 |none=>Za
def AH (T:lj)(Q:cj->Hp->Prop):List AOper->cj->Hp->Prop
 |[],e,Z=>Q e Z
 |o::d,e,Z=>if wanted o e then bn T o.op e Z λv Z'=>AH T Q d (e.putO o.dst v) Z' else AH T Q d (e.putO o.dst undef) Z
def AOp.still :AOp->Bool
 | .alloc .. | .box .. | .buildSlice .. | .store .. | .call .. | .callv .. | .rangeF .. | .makeSlice .. | .append .. | .appendZ .. | .copy .. | .range .. | .next .. | .strOf .. | .newB| .strOfR .. | .runesOf .. | .mark .. | .makeM .. | .lookM .. | .updM .. | .lenM .. =>Zb
 |_=>Za
def od (f:(AExit->cj->Hp->Prop)->cj->Hp->Prop)(Q:AExit->cj->Hp->Prop):Nat->cj->Hp->Prop
 |0,_,_=>False
 |n+1,e,Z=>f (λx d Z'=>match x with
  | .normal=>od f Q n d Z'
  |x=>Q x d Z') e Z
def AOp.isLoad :AOp->Bool
 | .load _| .loadN _ _| .sliceArr _ _ _ _ _| .slice _ _ (O _) _=>Za
 |_=>Zb
def ko (d:List (AOper×List Nat))(i:Nat):List Nat:=match d[i]? with
 |some (_,p)=>p
 |none=>[]
def Iw (acc:List Nat)(d:List Nat):Nat:=d.foldl (λm q=>m|||2 ^ q|||acc.getD q 0) 0
def Tp (d:List Nat):List (AOper×List Nat)->List Nat
 |[]=>d
 |(_,f)::r=>Tp (d++[Iw d f]) r
def xr (d:List (AOper×List Nat))(p j:Nat):Bool:=((Tp [] d).getD j 0).testBit p
def RB (d:List (AOper×List Nat))(done:List Nat)(i:Nat):Bool:=
 !done.contains i&&(ko d i).all λq=>done.contains q
def E6 (d:List (AOper×List Nat))(i:Nat):Bool:=match d[i]? with
 |some (o,_)=>o.op.still
 |none=>Zb
def dy (d:List (AOper×List Nat))(done:List Nat):Option Nat:=(aB d.length).find? λi=>RB d done i&&E6 d i
def bp (d:List (AOper×List Nat))(done:List Nat):List Nat:=(aB d.length).filter λi=>RB d done i&& !E6 d i
def MU (f:Nat->Prop):List Nat->Prop
 |[]=>True
 |[m]=>f m
 |m::r=>f m/\MU f r
def DK (d:List (AOper×List Nat))(m:Nat)(Z:Hp):List (Nat×(Hp->Prop))->Prop
 |[]=>True
 |(i,c)::r=>if xr d i m then DK d m Z r else c Z/\DK d m Z r
def Fb (T:lj)(Q:cj->Hp->Prop)(d:List (AOper×List Nat)):Nat->List Nat->List (Nat×(Hp->Prop))->cj->Hp->Prop
 |0,_,_,e,Z=>Q e Z
 |f+1,done,g,e,Z=>match dy d done with
  |some i=>match d[i]? with
   |some (o,_)=>
    if wanted o e then match o.op.run e Z with
     |some (v,_)=>Fb T Q d f (i::done) (if o.op.isLoad then(i,λZ'=>o.op.run e Z'=O (v,Z'))::g else g) (e.putO o.dst v) Z
     |none=>False
    else Fb T Q d f (i::done) g (e.putO o.dst undef) Z
   |none=>False
  |none=>match bp d done with
   |[]=>Q e Z
   |ms=>MU (λm=>match d[m]? with
    |some (o,_)=>
     if wanted o e then bn T o.op e Z λv Z'=>DK d m Z' g/\Fb T Q d f (m::done) g (e.putO o.dst v) Z'
     else Fb T Q d f (m::done) g (e.putO o.dst undef) Z
    |none=>False) ms
def A3 (d:List Nat)(Z:Hp):List (Nat×(Hp->Prop))->Prop
 |[]=>True
 |(i,c)::r=>if d.contains i then c Z/\A3 d Z r else A3 d Z r
def Vt (d:List (AOper×List Nat))(i:Nat):Bool:=match d[i]? with
 |some (o,_)=> !o.op.still
 |none=>Zb
def af6 (d:List (AOper×List Nat))(i:Nat):Bool:=(aB d.length).any λm=>Vt d m&& !xr d i m
def Hu (g:List (AOper×List Nat)):Nat->List Nat->List Nat->Option (List SItem)
 |0,_,_=>O []
 |f+1,done,d=>match dy g done with
  |some i=>match g[i]? with
   |some (o,_)=>(Hu g f (i::done) (if o.op.isLoad then i::d else d)).map (⟨i,o,Zb,o.op.isLoad&&af6 g i,[]⟩:: ·)
   |none=>Y
  |none=>match bp g done with
   |[]=>O []
   |[m]=>match g[m]? with
    |some (o,_)=>(Hu g f (m::done) d).map (⟨m,o,Za,Zb,d.filter λi=> !xr g i m⟩:: ·)
    |none=>Y
   |_=>Y
def R0 (T:lj)(Q:cj->Hp->Prop):List SItem->List (Nat×(Hp->Prop))->cj->Hp->Prop
 |[],_,e,Z=>Q e Z
 |it::r,d,e,Z=>
  if wanted it.o e then
   (if it.mover then bn T it.o.op e Z λv Z'=>A3 it.chks Z' d/\R0 T Q r d (e.putO it.o.dst v) Z'
    else match it.o.op.run e Z with
    |some (v,_)=>R0 T Q r (if it.keep then(it.idx,λZ'=>it.o.op.run e Z'=O (v,Z'))::d else d) (e.putO it.o.dst v) Z
    |none=>False)
  else R0 T Q r d (e.putO it.o.dst undef) Z
def yd (T:lj):AC->(AExit->cj->Hp->Prop)->cj->Hp->Prop
 | .skip,Q,e,Z=>Q .normal e Z
 | .region d,Q,e,Z=>AH T (Q .normal) d e Z
 | .draw d,Q,e,Z=>Fb T (Q .normal) d d.length [] [] e Z
 | .sched f,Q,e,Z=>R0 T (Q .normal) f [] e Z
 | .seq a b,Q,e,Z=>yd T a (λx e Z=>match x with
  | .normal=>yd T b Q e Z
  |x=>Q x e Z) e Z
 | .cond c a b,Q,e,Z=>match e.ev c with
  | .bool true=>yd T a Q e Z
  | .bool false=>yd T b Q e Z
  |_=>False
 | .block id b,Q,e,Z=>yd T b (λx e Z=>match x with
  | .exit i=>if i=id then Q .normal e Z else Q (.exit i) e Z
  |x=>Q x e Z) e Z
 | .loop b,Q,e,Z=> ∃n,od (yd T b) Q n e Z
 | .exit id,Q,e,Z=>Q (.exit id) e Z
 | .ret,Q,e,Z=>Q .ret e Z
def N5 (e:cj)(Z:Hp):ARes->Option Value
 | .tmp t=>O (e t)
 | .cell t=>match e t with
  | .pointer (O ⟨b,o,Y⟩)=>(Z.m b).bind λx=>x.cells[o]?
  |_=>Y
 | .cellN t n=>match e t with
  | .pointer (O ⟨b,o,Y⟩)=>(Z.m b).bind λx=>(uG x o n).map λd=> .agg d.toArray
  |_=>Y
def JK (e:cj)(Z:Hp):List ARes->Option (List Value)
 |[]=>O []
 |r::d=>match N5 e Z r,JK e Z d with
  |some v,O f=>O (v::f)
  |_,_=>Y
def A7 :List Value->Value
 |[v]=>v
 |vs=> .tuple vs.toArray
def wpF (T:lj)(f:AFn):MQ:=λd Z K=>d.length<=f.ntmps/\
 yd T f.body (λx e Z'=>match x with
  | .exit _=>False
  |_=>match JK e Z' f.results with
   |some g=>K (A7 g) Z'
   |none=>False) (cj.of d) Z
end
variable {e:cj}
section
open Nat renaming ble_eq -> aB, le_refl -> aD, lt_of_lt_of_le -> bB
open Go.RowKit
structure G where
 c:Nat
 o:Nat
 ext:Nat
 es:Nat
 ty:Nat
 it:Option Value
abbrev Mu :=Nat->Option G
def Mu.le (μ μ':Mu):Prop:= ∀b g,μ b=O g->μ' b=O g
theorem Mu.le_refl (μ:Mu):μ.le μ:=λ_ _ h=>h
theorem Mu.le_trans {a b c:Mu}(h:a.le b)(k:b.le c):a.le c:=λx g d=>k x g (h x g d)
def Mu.add (μ:Mu)(n:Nat)(g:G):Mu:=λb=>if b=n then O g else μ b
theorem Mu.le_add {μ:Mu}{n:Nat}{g:G}(h:μ n=Y):μ.le (μ.add n g):=λb f d=>by
 unfold Mu.add;by_cases e:b=n
 .subst e;rw[h]at d;cases d
 .rw[zF e];exact d
def Mu.at (μ:Mu)(b:Nat)(g:G):Prop:=μ b=O g/\g.it=Y
theorem Mu.at_le {μ μ':Mu}(h:μ.le μ'){b:Nat}{g:G}(k:μ.at b g):μ'.at b g:=⟨h _ _ k.1,k.2⟩
inductive F2 {α β:Type}(r:α->β->Prop):List α->List β->Prop where
 |nil:F2 r [] []
 |cons {a:α} {b:β} {l:List α} {m:List β}:r a b->F2 r l m->F2 r (a::l) (b::m)
inductive VR (μ:Mu):Value->Value->Prop where
 |bool (b:Bool):VR μ (.bool b) (.bool b)
 |int (k:IntKind) (n:Int):VR μ (.int k n) (.int k n)
 |string (s:ByteArray):VR μ (.string s) (.string s)
 |nilp:VR μ (.pointer Y) (.pointer Y)
 |ptr {b o:Nat} {g:G}:μ.at b g->VR μ (.pointer (O ⟨b,o,Y⟩)) (.pointer (O ⟨g.c,g.o+o,Y⟩))
 |nils:VR μ (.slice Y 0 0) (.slice Y 0 0)
 |slice {b o l c c':Nat} {g:G}:μ.at b g->l<=c->c<=c'->o+c'*g.es<=g.ext->VR μ (.slice (O ⟨b,o,Y⟩) l c) (.slice (O ⟨g.c,g.o+o,Y⟩) l c')
 |slice0 {b o:Nat} {g:G} (A':Addr):μ.at b g->VR μ (.slice (O ⟨b,o,Y⟩) 0 0) (.slice (O A') 0 0)
 |sliceX {b o c:Nat} {g:G}:μ.at b g->o+c*g.es<=g.ext->VR μ (.slice (O ⟨b,o,O 0⟩) c c) (.slice (O ⟨g.c,g.o+o,Y⟩) c c)
 |sliceX0 {b o:Nat} {g:G} (A':Addr):μ.at b g->VR μ (.slice (O ⟨b,o,O 0⟩) 0 0) (.slice (O A') 0 0)
 |nilf:VR μ .nilFunc .nilFunc
 |nilm:VR μ (.map Y) (.map Y)
 |mp {b:Nat} {g:G} {k:IntKind}:μ b=O g->g.it=O (.int k 0)->VR μ (WX k b) (.map (O g.c))
 |yl {b:Nat} {g:G}:μ b=O g->g.it=O (.bool Za)->VR μ (ylV g.ty b) (.func (.yield g.c) #[] #[])
 |func {f:Fn} {a a' c c':Array Value}:Gz f=Zb->F2 (VR μ) a.toList a'.toList->F2 (VR μ) c.toList c'.toList->VR μ (.func f a c) (.func f a' c')
 |nili:VR μ .nilIface .nilIface
 |iter {b:Nat} {g:G} {v:Value}:μ b=O g->g.it=O v->VR μ (.iface b v) (.pointer (O ⟨g.c,0,Y⟩))
 |agg {a a':Array Value}:F2 (VR μ) a.toList a'.toList->VR μ (.agg a) (.agg a')
 |tuple {a a':Array Value}:F2 (VR μ) a.toList a'.toList->VR μ (.tuple a) (.tuple a')
theorem F2.length {α β:Type}{r:α->β->Prop}{l:List α}{m:List β}(h:F2 r l m):l.length=m.length:=by
 induction h with
 |nil=>rfl
 |cons _ _ d=>simp[d]
theorem F2.get {α β:Type}{r:α->β->Prop}{l:List α}{m:List β}(h:F2 r l m): ∀(i:Nat) (a:α),l[i]?=O a->∃b,m[i]?=O b/\r a b:=by
 induction h with
 |nil=>intro i a h;simp at h
 |cons d _ f=>
  intro i a h;cases i with
  |zero=>simp at h;subst h;exact⟨_,by simp,d⟩
  |succ i=>simp at h;simpa using f i a h
theorem F2.of_get {α β:Type}{r:α->β->Prop}: ∀(l:List α) (m:List β),l.length=m.length->(∀(i:Nat) (a:α) (b:β),l[i]?=O a->m[i]?=O b->r a b)->F2 r l m
 |[],[],_,_=> .nil
 |[],_::_,h,_=>by simp at h
 |_::_,[],h,_=>by simp at h
 |a::l,b::m,h,d=> .cons (d 0 a b rfl rfl) (F2.of_get l m (by simpa using h) λi x y f g=>d (i+1) x y (by simpa using f) (by simpa using g))
theorem F2.append {α β:Type}{r:α->β->Prop}{l l':List α}{m m':List β}(h:F2 r l m)(d:F2 r l' m'):F2 r (l++l') (m++m'):=by
 induction h with
 |nil=>exact d
 |cons f _ g=>exact .cons f g
theorem F2.take {α β:Type}{r:α->β->Prop}{l:List α}{m:List β}(h:F2 r l m): ∀n,F2 r (l.take n) (m.take n):=by
 induction h with
 |nil=>intro n;simp;exact .nil
 |cons d _ f=>
  intro n;cases n with
  |zero=>exact .nil
  |succ n=>exact .cons d (f n)
theorem F2.drop {α β:Type}{r:α->β->Prop}{l:List α}{m:List β}(h:F2 r l m): ∀n,F2 r (l.drop n) (m.drop n):=by
 induction h with
 |nil=>intro n;simp;exact .nil
 |cons d f g=>
  intro n;cases n with
  |zero=>exact .cons d f
  |succ n=>exact g n
theorem F2.same {α:Type}{r:α->α->Prop}: ∀(l:List α),(∀a∈l,r a a)->F2 r l l
 |[],_=> .nil
 |a::l,h=> .cons (h a (by simp)) (F2.same l λb d=>h b (by simp[d]))
theorem F2.imp {α β:Type}{r s:α->β->Prop}(d: ∀a b,r a b->s a b){l:List α}{m:List β}(h:F2 r l m):F2 s l m:=by
 induction h with
 |nil=>exact .nil
 |cons f _ g=>exact .cons (d _ _ f) g
theorem VR.mono {μ μ':Mu}(f:μ.le μ'): ∀{v v':Value},VR μ v v'->VR μ' v v'
 |_,_, .bool b=> .bool b
 |_,_, .int k n=> .int k n
 |_,_, .string s=> .string s
 |_,_, .nilp=> .nilp
 |_,_, .ptr h=> .ptr (Mu.at_le f h)
 |_,_, .nils=> .nils
 |_,_, .slice h d g p=> .slice (Mu.at_le f h) d g p
 |_,_, .slice0 A' h=> .slice0 A' (Mu.at_le f h)
 |_,_, .sliceX h d=> .sliceX (Mu.at_le f h) d
 |_,_, .sliceX0 A' h=> .sliceX0 A' (Mu.at_le f h)
 |_,_, .nilf=> .nilf
 |_,_, .nilm=> .nilm
 |_,_, .mp h d=> .mp (f _ _ h) d
 |_,_, .yl h d=> .yl (f _ _ h) d
 |_,_, .func j d g=> .func j (go d) (go g)
 |_,_, .nili=> .nili
 |_,_, .iter h d=> .iter (f _ _ h) d
 |_,_, .agg h=> .agg (go h)
 |_,_, .tuple h=> .tuple (go h)
where
 go {l m:List Value}:F2 (VR μ) l m->F2 (VR μ') l m
 | .nil=> .nil
 | .cons h t=> .cons (VR.mono f h) (go t)
theorem VR.undef (μ:Mu):VR μ undef undef:= .tuple .nil
theorem VR.one_iff {μ:Mu}(h:VR μ v v'):one v=v'.oneCell':=by cases h<;>rfl
theorem VR.cells {μ:Mu}(h:VR μ v v'):F2 (VR μ) (cellsOf v) v'.cells.toList:=by
 cases h with
 |agg h=>exact h
 |bool b=>exact .cons (.bool b) .nil
 |int k n=>exact .cons (.int k n) .nil
 |string s=>exact .cons (.string s) .nil
 |nilp=>exact .cons .nilp .nil
 |ptr h=>exact .cons (.ptr h) .nil
 |nils=>exact .cons .nils .nil
 |slice h d f j=>exact .cons (.slice h d f j) .nil
 |slice0 A' h=>exact .cons (.slice0 A' h) .nil
 |sliceX h d=>exact .cons (.sliceX h d) .nil
 |sliceX0 A' h=>exact .cons (.sliceX0 A' h) .nil
 |nilf=>exact .cons .nilf .nil
 |nilm=>exact .cons .nilm .nil
 |mp h d=>exact .cons (.mp h d) .nil
 |yl h d=>exact .cons (.yl h d) .nil
 |func g d f=>exact .cons (.func g d f) .nil
 |nili=>exact .cons .nili .nil
 |iter h d=>exact .cons (.iter h d) .nil
 |tuple h=>exact .cons (.tuple h) .nil
theorem WL (f:Nat):Cg (UE f)=Za:=by
 unfold Cg UE;rw[aB];omega
theorem af4 (f:Nat):Gz (.func (UE f))=Za:=WL f
theorem aN3 (f:Nat):EQ (UE f)=Za:=by
 unfold EQ UE;rw[aB];omega
theorem PT (k:IntKind):WW k<2000000:=by cases k<;>decide
theorem VR.func_inv {μ:Mu}{f:Nat}{a c:Array Value}(h:VR μ (.func (.func f) a c) v')(q:Cg f=Zb): ∃r s,v'= .func (.func f) r s/\F2 (VR μ) a.toList r.toList/\F2 (VR μ) c.toList s.toList:=by
 generalize j:Value.func (.func f) a c=v at h;cases h with
 |func t n p=>
  injection j with d l m
  subst d l m;exact⟨_,_,rfl,n,p⟩
 | @mp b g k n p=>
  injection j with d l m
  injection d with d
  subst d;cases k<;>cases q
 | @yl b g n p=>
  injection j with d l m
  injection d with d
  subst d;rw[WL]at q;cases q
 |_=>cases j
theorem az9 : ∀{k d:IntKind},WW k=WW d->k=d:=by
 intro k d h;cases k<;>cases d<;>first|rfl|cases h
theorem af5 (k:IntKind):Cg (WW k)=Za:=by cases k<;>rfl
theorem ay3 (k:IntKind):Gz (.func (WW k))=Za:=af5 k
theorem VR.mp_inv {μ:Mu}{b:Nat}(h:VR μ (WX k b) v'): ∃g,μ b=O g/\g.it=O (.int k 0)/\v'= .map (O g.c):=by
 generalize f:WX k b=v at h;cases h with
 |func l m n=>
  injection f with d p j
  subst d;unfold Gz at l;simp only[af5]at l;cases l
 | @yl q g m n=>
  unfold WX ylV UE at f;injection f with d p j
  injection d with d
  have d:WW k=2000000+g.ty:=d;have:=PT k;omega
 | @mp q g r m n=>
  unfold WX at f;injection f with d p j
  injection d with d
  have:=az9 d;subst this;simp at j;subst j;exact⟨g,m,n,rfl⟩
 |_=>cases f
theorem VR.yl_inv {μ:Mu}{f:Nat}{a c:Array Value}(h:VR μ (.func (.func f) a c) v')(r:EQ f=Za): ∃b g,μ b=O g/\g.it=O (.bool Za)/\f=UE g.ty/\a= #[]/\c= #[.pointer (O ⟨b,0,Y⟩)]/\v'= .func (.yield g.c) #[] #[]:=by
 have s:2000000<=f:=by
  unfold EQ at r;rw[aB]at r;exact r
 generalize j:Value.func (.func f) a c=v at h;cases h with
 |func n p q=>
  injection j with d l m
  subst d;unfold Gz Cg at n
  have:Nat.ble 1000000 f=Za:=by
   rw[aB];omega
  simp only[this]at n;cases n
 | @yl b g p q=>
  unfold ylV at j;injection j with d l m
  injection d with d
  exact⟨b,g,p,q,d,l,m,rfl⟩
 | @mp b g k p q=>
  unfold WX at j;injection j with d l m
  injection d with d
  have d:f=WW k:=d;have:=PT k;omega
 |_=>cases j
theorem Iv {b:Nat}(h:Lt k v=O b):v=WX k b:=by
 unfold Lt at h;split at h
 .rename_i f a c;split at h
  .rename_i m;obtain⟨rfl,j⟩:=m;split at h
   .rename_i l;injection h with h
    subst h;have d:a= #[]:=Array.toList_inj.1 (by rw[j]);have g:c= #[.pointer (O ⟨_,0,Y⟩)]:=Array.toList_inj.1 (by rw[l]);rw[d,g];rfl
   .cases h
  .cases h
 .cases h
def GI :Value->Bool
 | .bool _| .int _ _| .string _| .pointer Y| .slice Y 0 0| .nilFunc| .nilIface| .map Y=>Za
 | .agg d=>d.toList.all λ
  | .bool _| .int _ _| .string _| .pointer Y| .slice Y 0 0| .nilFunc| .nilIface| .map Y=>Za
  |_=>Zb
 | .tuple d=>d.size==0
 |_=>Zb
theorem VR.plain1 (μ:Mu): ∀v:Value,(match v with
  | .bool _| .int _ _| .string _| .pointer Y| .slice Y 0 0| .nilFunc| .nilIface| .map Y=>Za
  |_=>Zb)=Za->VR μ v v:=by
 intro v h;cases v with
 |bool b=>exact .bool b
 |int k n=>exact .int k n
 |string s=>exact .string s
 |pointer a=>cases a with
  |none=>exact .nilp
  |some a=>simp at h
 |slice a n c=>
  split at h<;>first|(rename_i d;cases d;exact .nils)|simp_all
 |nilFunc=>exact .nilf
 |nilIface=>exact .nili
 |map a=>cases a with
  |none=>exact .nilm
  |some a=>simp at h
 |_=>simp at h
theorem VR.plain {μ:Mu}(h:GI v=Za):VR μ v v:=by
 cases v with
 |agg d=>
  refine .agg (F2.same _ λa f=>VR.plain1 μ a ?_);simp only[GI,List.all_eq_true]at h;exact h a f
 |tuple d=>
  have:d= #[]:=by simpa[GI]using h
  subst this;exact .tuple .nil
 |bool b=>exact .bool b
 |int k n=>exact .int k n
 |string s=>exact .string s
 |pointer a=>cases a with
  |none=>exact .nilp
  |some a=>simp[GI]at h
 |slice a n c=>
  unfold GI at h;split at h<;>first|(rename_i g;cases g;exact .nils)|simp_all
 |nilFunc=>exact .nilf
 |nilIface=>exact .nili
 |map a=>cases a with
  |none=>exact .nilm
  |some a=>simp[GI]at h
 |_=>simp[GI]at h
structure Base (P:Program)where
 n:Nat
 h:Nat->Option Obj
 ds:List Nat:=[]
 small:P.funcs.size<=2000000
 tab: ∀w:World,n<=w.heap.size->(∀b,b<n->w.heap[b]?=h b)->P.globalNamed "internal/strconv.uint64pow10" ≠Y->Lib.TabIs P w "internal/strconv.uint64pow10" .u64 Lib.pow10Tab
instance (P :Program):CoeHead (Base P) Nat:=⟨Base.n⟩
def WK (P:Program)(t:TypeId):Bool:=match P.types[t]? with
 |some i=>(match i.desc with
  | .named n _=>n== "strings.Builder"
  |_=>Zb)
 |none=>Zb
def nz (w:World)(c:Nat):Option Nat:=match w.heap[c]? with
 |some (.cells d _ _)=>(d[1]?).bind Value.ownBlock
 |_=>Y
theorem RJ (w:World)(g i:Nat)(cs:Array Value)(t:TypeId)(d:Nat×Nat)(v:Value)(f:w.heap[g]?=O (.cells cs t d)):(w.setCell ⟨g,i,Y⟩ v).heap[g]?=O (.cells (cs.setIfInBounds i v) t d):=by
 simp[World.setCell,Array.getElem?_modify,f]
theorem Ns (w:World)(g j:Nat)(cs:Array Value)(t:TypeId)(d:Nat×Nat)(h:w.heap[g]?=O (.cells cs t d))(m:j<cs.size)(f:cs.size<=d.1∨d.1=d.2):w.frozen? ⟨g,j,Y⟩=Zb:=by
 obtain⟨lo,l⟩:=d;simp only at f;simp only[World.frozen?,h,Bool.and_eq_false_iff,decide_eq_false_iff_not];omega
def FZ (k:IntKind)(es:Array MapEntry)(s:ByteArray):Prop:= ∃l:List (ByteArray×Int),es.toList.map (λe=>(e.key,e.val))=l.map (λp=>(Value.string p.1,Value.int k p.2))/\au s=CD (l.map λp=>(au p.1,p.2))
def tw :Code->List (Array Tmp×Code×Code)
 | .seq a b| .cond _ a b=>tw a++tw b
 | .block _ b| .loop b| .scope b=>tw b
 | .rangeFunc _ d a b=>(d,a,b)::(tw a++tw b)
 |_=>[]
def Di (P:Program)(f:FuncId):Option (Nat×Array Tmp×Code×Code):=match P.funcs[f]? with
 |some d=>(match d.body.map tw with
  |some [s]=>O (d.ntmps,s)
  |_=>Y)
 |none=>Y
structure Lives {P:Program}(B:Base P)(μ:Mu)(w:World)(x:Blk)(g:G):Prop where
 lt:g.c<w.heap.size
 es:g.es=x.es
 cell:g.it=Y->∀(i:Nat) (v:Value),x.cells[i]?=O v->∃v',w.cell? ⟨g.c,g.o+i,Y⟩=O v'/\VR μ v v'
 own:g.it=Y->x.own=Za->B.n<=g.c/\x.cells.length<=g.ext/\∃cur e fr,w.heap[g.c]?=O (.cells cur e fr)/\g.o+g.ext<=cur.size/\(cur.size<=fr.1∨fr.1=fr.2)
 iter: ∀s,g.it=O (.string s)->B.n<=g.c/\∃p:Nat,x.cells=[Value.int .i64 p].take x.cells.length/\w.heap[g.c]?=O (.stringIter s p)
 bld:g.it=O .nilFunc->WK P g.ty=Za/\∃p s,(p= .pointer Y∨p= .pointer (O ⟨g.c,0,Y⟩))/\x.cells=[Value.string s].take x.cells.length/\Lib.BuilderAtF g.ty P.rt.byte B.n g.c p (Lib.strCells s) w
 mp: ∀k,g.it=O (.int k 0)->B.n<=g.c/\∃es clock s,x.cells=[Value.string s].take x.cells.length/\w.heap[g.c]?=O (.map es clock)/\FZ k es s
 lp:g.it=O (.bool Za)->B.n<=g.c/\∃r:Loop,w.heap[g.c]?=O (.loop r)/\Di P g.ty=O (r.tmps.size,r.params,r.assign,r.body)/\r.pending=Y/\r.tmps.size=g.ext/\∀fl vals,x.cells=Kv fl::vals->r.state=(if fl then LoopState.ready else LoopState.busy)/\(g.ext<=vals.length->F2 (VR μ) (vals.take g.ext) r.tmps.toList)
def Sep (μ:Mu)(Z:Hp)(w:World):Prop:= ∀b x g,Z.m b=O x->μ b=O g->g.it=O .nilFunc->∀k,nz w g.c=O k->∀f h d,Z.m f=O h->μ f=O d->d.c≠k/\(f≠b->d.it=O .nilFunc->nz w d.c≠O k)
theorem Sep.of {μ μ':Mu}{Z Z':Hp}{w':World}(h:Sep μ Z w)(j: ∀b x g,Z'.m b=O x->μ' b=O g->(∃y,Z.m b=O y/\μ b=O g)∨(g.it≠O .nilFunc/\∀b1 L t k,Z.m b1=O L->μ b1=O t->t.it=O .nilFunc->nz w t.c=O k->g.c≠k))
  (D: ∀b x g,Z.m b=O x->μ b=O g->g.it=O .nilFunc->(∃y,Z'.m b=O y)->nz w' g.c=nz w g.c):Sep μ' Z' w':=by
 intro b x g E I f k A r F s n z;rcases j b x g E I with⟨y,l,u⟩|⟨l,_⟩
 .rw[D b y g l u f ⟨x,E⟩]at A;rcases j r F s n z with⟨H,p,q⟩|⟨p,q⟩
  .obtain⟨J,K⟩:=h b y g l u f k A r H s p q;exact⟨J,λC d=>by rw[D r H s p q d ⟨F,n⟩];exact K C d⟩
  .exact⟨q b y g k l u f A,λ_ d=>(p d).elim⟩
 .exact(l f).elim
theorem U0 {T e:TypeId}{n b:Nat}{p:Value}{bs:List Value}{w':World}(h:Lib.BuilderAtF T e n b p bs w)(z:w'.heap[b]?=w.heap[b]?)(C: ∀k,nz w b=O k->w'.heap[k]?=w.heap[k]?):Lib.BuilderAtF T e n b p bs w':=by
 obtain⟨u,v,f,d,r⟩:=h;refine⟨u,v,z.trans f,⟨d.1, ?_⟩,r⟩;rcases d.2 with D|⟨g,l,m,t,s,A,q,j⟩
 .exact .inl D
 .exact .inr ⟨g,l,m,t,s,A,(C g (by subst s;simp[nz,f,Value.ownBlock])).trans q,j⟩
theorem XP {T e:TypeId}{n b:Nat}{p:Value}{bs:List Value}(h:Lib.BuilderAtF T e n b p bs w){k:Nat}(q:nz w b=O k):n<=k/\k<w.heap.size/\k≠b:=by
 obtain⟨r,v,f,d,g⟩:=h;have j:v.ownBlock=O k:=by simpa[nz,f]using q
 obtain⟨l,m⟩:=d.lt k j;exact⟨l,m,λe=>g (e▸j)⟩
structure R {P:Program}(B:Base P)(μ:Mu)(Z:Hp)(w:World):Prop where
 base:B.n<=w.heap.size
 old: ∀b,b<B.n->w.heap[b]?=B.h b
 fresh: ∀b,Z.n<=b->μ b=Y
 live: ∀b x,Z.m b=O x->∃g,μ b=O g/\Lives B μ w x g
 inj: ∀b b' x x' g g',Z.m b=O x->Z.m b'=O x'->b≠b'->x.own=Za->μ b=O g->μ b'=O g'->g.c≠g'.c
 sep:Sep μ Z w
 dfr:(B.ds.Nodup/\∀k∈B.ds,B.n<=k)/\∀k∈B.ds,w.heap[k]?=O (.deferred (O []))
section
variable {P:Program} {B:Base P} {μ μ':Mu} {Z:Hp} {w w':World}
theorem Lives.mono {x:Blk}{g:G}(h:Lives B μ w x g)(n:μ.le μ'):Lives B μ' w x g:=
 ⟨h.lt,h.es,λp i v A=>let⟨v',f,j⟩:=h.cell p i v A;⟨v',f,j.mono n⟩,h.own,h.iter,h.bld,h.mp,λz=>let⟨f,r,j,s,t,u,m⟩:=h.lp z;⟨f,r,j,s,t,u,λl d e=>⟨(m l d e).1,λq=>((m l d e).2 q).imp λ_ _ k=>k.mono n⟩⟩⟩
theorem Lives.kept {x:Blk}{g:G}(h:Lives B μ w x g)(l:w.heap.size<=w'.heap.size)(m:w'.heap[g.c]?=w.heap[g.c]?)(D:g.it=O .nilFunc->∀k,nz w g.c=O k->w'.heap[k]?=w.heap[k]?):Lives B μ w' x g:=
 ⟨bB h.lt l,h.es,λu i v F=>let⟨v',d,n⟩:=h.cell u i v F;⟨v',(World.cell?_of_block (w:=w) (w':=w') m).trans d,n⟩,λu E=>by
  obtain⟨d,n,t,e,C,j,q⟩:=h.own u E
  exact⟨d,n,t,e,C,m.trans j,q⟩,λs l=>let⟨d,p,f,j⟩:=h.iter s l;⟨d,p,f,m.trans j⟩,λz=>let⟨d,p,s,f,j,q⟩:=h.bld z;⟨d,p,s,f,j,U0 q m (D z)⟩,λk l=>let⟨d,es,A,s,f,j,q⟩:=h.mp k l;⟨d,es,A,s,f,m.trans j,q⟩,λl=>let⟨d,r,n,f⟩:=h.lp l;⟨d,r,m.trans n,f⟩⟩
theorem R.dfr_but (h:R B μ Z w){c:Nat}(l: ∀d,w.heap[c]?≠O (.deferred d))(f: ∀k,k≠c->k<w.heap.size->w'.heap[k]?=w.heap[k]?):(B.ds.Nodup/\∀k∈B.ds,B.n<=k)/\∀k∈B.ds,w'.heap[k]?=O (.deferred (O [])):=⟨h.dfr.1,λk m=>by
 have g:=h.dfr.2 k m;have j:k<w.heap.size:=(Array.getElem?_eq_some_iff.1 g).1;rw[f k (λe=>l _ (e▸g)) j]
 exact g⟩
theorem R.dfr_alloc (h:R B μ Z w)(o:Obj):(B.ds.Nodup/\∀k∈B.ds,B.n<=k)/\∀k∈B.ds,(w.alloc o).heap[k]?=O (.deferred (O [])):=
 h.dfr_but (c:=w.heap.size) (λd=>by rw[Array.getElem?_eq_none (aD _)];simp) λk _ f=>Below.heap_alloc w _ _ f
theorem R.same (h:R B μ Z w)(d:w'.heap=w.heap):R B μ Z w':=
 ⟨by rw[d];exact h.base,λb m=>by rw[d];exact h.old b m,h.fresh,λb x f=>let⟨g,j,l⟩:=h.live b x f;⟨g,j,l.kept (by rw[d];exact aD _) (by rw[d]) (λ_ k _=>by rw[d])⟩,h.inj,h.sep.of (λb x g f n=> .inl ⟨x,f,n⟩) (λb x g _ _ _ _=>by unfold nz;rw[d]),⟨h.dfr.1,λk p=>by rw[d];exact h.dfr.2 k p⟩⟩
theorem R.get (h:R B μ Z w){b:Nat}{x:Blk}{g:G}(l:Z.m b=O x)(j:μ b=O g):Lives B μ w x g:=by
 obtain⟨n,d,f⟩:=h.live b x l;rw[j]at d;injection d with d
 exact d▸f
theorem R.buf (h:R B μ Z w){b:Nat}{x:Blk}{g:G}(q:Z.m b=O x)(f:μ b=O g)(j:g.it=O .nilFunc){k:Nat}(l:nz w g.c=O k):B.n<=k/\k<w.heap.size/\k≠g.c:=by
 obtain⟨_,p,s,_,_,d⟩:=(h.get q f).bld j;exact XP d l
theorem R.stays (h:R B μ Z w){b:Nat}{x:Blk}{g:G}(l:Z.m b=O x)(f:μ b=O g)(r:w.heap.size<=w'.heap.size)(c:Nat)(d: ∀k,k≠c->k<w.heap.size->w'.heap[k]?=w.heap[k]?)(q:g.c≠c)(j:g.it=O .nilFunc->nz w g.c≠O c):Lives B μ w' x g:=
 (h.get l f).kept r (d _ q (h.get l f).lt) λn k p=>d k (λe=>j n (e▸p)) (h.buf l f n p).2.1
theorem R.kill (h:R B μ Z w)(b:Nat):R B μ (Z.set b Y) w:=by
 have j: ∀f x,(Z.set b Y).m f=O x->Z.m f=O x:=by
  intro f x d;simp only[Hp.set]at d;split at d
  .cases d
  .exact d
 exact⟨h.base,h.old,h.fresh,λf x d=>h.live f x (j _ _ d),λl n x t g p q r=>h.inj l n x t g p (j _ _ q) (j _ _ r),h.sep.of (λf x g d s=> .inl ⟨x,j _ _ d,s⟩) (λ_ _ _ _ _ _ _=>rfl),h.dfr⟩
theorem R.add (h:R B μ Z w)(d:Array Value)(e:TypeId)(cells:List Value)(es:Nat)(I:cells.length<=d.size)(T:F2 (VR μ) cells (d.toList.take cells.length)):
  R B (μ.add Z.n ⟨w.heap.size,0,d.size,es,e,Y⟩) (Z.add ⟨cells,Za,es⟩) (w.alloc (.cells d e))/\μ.le (μ.add Z.n ⟨w.heap.size,0,d.size,es,e,Y⟩):=by
 have U:μ Z.n=Y:=h.fresh _ (aD _);have p:μ.le (μ.add Z.n ⟨w.heap.size,0,d.size,es,e,Y⟩):=Mu.le_add U
 have old: ∀b x,b≠Z.n->(Z.add ⟨cells,Za,es⟩).m b=O x->Z.m b=O x:=by
  intro b x f j;simpa[Hp.add,f]using j
 have J: ∀x,(Z.add ⟨cells,Za,es⟩).m Z.n=O x->x=⟨cells,Za,es⟩:=by
  intro x j;simp[Hp.add]at j;exact j.symm
 have l: ∀b x g,Z.m b=O x->μ b=O g->g.c<w.heap.size:=λb x g j r=>(h.get j r).lt
 refine⟨⟨Nat.le_trans h.base (by simp),λb f=>(Below.heap_alloc w _ _ (bB f h.base)).trans (h.old b f),λb f=> ?_,λb x j=> ?_,λb C x L g D j s E W r z=> ?_, ?_,h.dfr_alloc _⟩,p⟩
 .have:Z.n+1<=b:=f;unfold Mu.add;rw[Zh];exact h.fresh b (by omega)
 .by_cases f:b=Z.n
  .subst f;obtain rfl:=J x j;refine⟨⟨w.heap.size,0,d.size,es,e,Y⟩,by simp[Mu.add],⟨by simp,rfl,λ_ i v K=> ?_,λ_ _=>⟨h.base,I,d,e,(0,0),heap_alloc_new w _,by simp, .inr rfl⟩,λ_ A=>(by cases A),λA=>(by cases A),λ_ A=>(by cases A),λA=>by cases A⟩⟩;obtain⟨v',t,u⟩:=T.get i v K
   have H:i<cells.length:=by
    rcases Nat.lt_or_ge i cells.length with h3|h3
    .exact h3
    .simp[List.getElem?_eq_none h3]at K
   refine⟨v', ?_,u.mono p⟩;rw[Nat.zero_add,cell_of_row _ _ _ d e (0,0) (heap_alloc_new w _)];rw[List.getElem?_take,zE H]at t;simpa using t
  .have s:=old b x f j;obtain⟨g,t,u⟩:=h.live b x s;exact⟨g,p _ _ t,(u.mono p).kept (by simp) (Below.heap_alloc w _ _ u.lt) (λH k V=>Below.heap_alloc w _ _ (h.buf s t H V).2.1)⟩
 .by_cases f:b=Z.n
  .subst f;have q:C≠Z.n:=λe=>E e.symm
   have:g.c=w.heap.size:=by simp[Mu.add]at r;rw[<-r]
   have u:μ C=O D:=by simpa[Mu.add,q]using z
   have:=l C L D (old _ _ q s) u;omega
  .have t:μ b=O g:=by simpa[Mu.add,f]using r
   have F:=old b x f j;by_cases q:C=Z.n
   .subst q;have:D.c=w.heap.size:=by simp[Mu.add]at z;rw[<-z]
    have:=l b x g F t;omega
   .have u:μ C=O D:=by simpa[Mu.add,q]using z
    exact h.inj b C x L g D F (old _ _ q s) E W t u
 .refine h.sep.of (λb x g j r=> ?_) (λb x g j r H _=> ?_)
  .by_cases f:b=Z.n
   .subst f;have M:g=⟨w.heap.size,0,d.size,es,e,Y⟩:=by simp[Mu.add]at r;exact r.symm
    subst M;exact .inr ⟨λQ=>(by cases Q),λX x1 g1 k t u h3 S e=>by have:=(h.buf t u h3 S).2.1;simp only at e;omega⟩
   .exact .inl ⟨x,old b x f j,by simpa[Mu.add,f]using r⟩
  .unfold nz;rw[Below.heap_alloc w _ _ (l b x g j r)]
theorem R.write1 (h:R B μ Z w){b:Nat}{x:Blk}{g:G}(L:Z.m b=O x)(ho:x.own=Za)(J:μ b=O g)(r:g.it=Y)(i:Nat)(K:i<x.cells.length)(hv:VR μ v v'):
  R B μ (Z.set b (O ⟨x.cells.set i v,x.own,x.es⟩)) (w.setCell ⟨g.c,g.o+i,Y⟩ v'):=by
 have W:=h.get L J;obtain⟨o1,o2,M,e,Q,o4,o5,o6⟩:=W.own r ho;have p: ∀k,k≠g.c->(w.setCell ⟨g.c,g.o+i,Y⟩ v').heap[k]?=w.heap[k]?:=λk E=>heap_setCell_other w _ k v' (by simpa using E)
 have C:(w.setCell ⟨g.c,g.o+i,Y⟩ v').heap[g.c]?=O (.cells (M.setIfInBounds (g.o+i) v') e Q):=RJ w g.c (g.o+i) M e Q v' o4
 have old: ∀n l,n≠b->(Z.set b (O ⟨x.cells.set i v,x.own,x.es⟩)).m n=O l->Z.m n=O l:=by
  intro n l z f;simpa[Hp.set,z]using f
 have T: ∀l,(Z.set b (O ⟨x.cells.set i v,x.own,x.es⟩)).m b=O l->l=⟨x.cells.set i v,x.own,x.es⟩:=by
  intro l f;simp[Hp.set]at f;exact f.symm
 refine⟨by simpa using h.base,λk E=>(p k (by omega)).trans (h.old k E),h.fresh,λn l f=> ?_,λb1 b2 x1 x2 g1 g2 D V H S hg1 hg2=> ?_, ?_,h.dfr_but (c:=g.c) (λd=>by rw[o4];simp) λk E _=>p k E⟩
 .by_cases z:n=b
  .subst z;obtain rfl:=T l f;refine⟨g,J,⟨by simpa using W.lt,W.es,λ_ j u X=> ?_,λ_ _=>⟨o1,by simpa using o2,_,e,Q,C,by simpa using o5,by simpa using o6⟩,λs A=>(by rw[r]at A;cases A),λA=>(by rw[r]at A;cases A),λ_ A=>(by rw[r]at A;cases A),λA=>by rw[r]at A;cases A⟩⟩;rw[cell_of_row _ _ _ _ e Q C];by_cases hj:j=i
   .subst hj;simp[K]at X;subst X;refine⟨v', ?_,hv⟩;rw[Array.getElem?_setIfInBounds_self_of_lt (by omega)]
   .rw[List.getElem?_set_ne (λe=>hj e.symm)]at X;obtain⟨u',D,V⟩:=W.cell r j u X;refine⟨u', ?_,V⟩;rw[cell_of_row _ _ _ _ e Q o4]at D;rw[Array.getElem?_setIfInBounds_ne (by omega)];exact D
  .have F:=old n l z f;obtain⟨I,D,V⟩:=h.live n l F;refine⟨I,D,h.stays F D (by simp) g.c (λk E _=>p k E) (λe=>h.inj b n x l g I L F (λe=>z e.symm) ho J D e.symm) (λK E=>((h.sep n l I F D K _ E b x g L J).1 rfl))⟩
 .have t: ∀n l,(Z.set b (O ⟨x.cells.set i v,x.own,x.es⟩)).m n=O l->∃y,Z.m n=O y/\y.own=l.own:=by
   intro n l f;by_cases z:n=b
   .subst z;obtain rfl:=T l f;exact⟨x,L,rfl⟩
   .exact⟨l,old n l z f,rfl⟩
  obtain⟨y1,hy1,e1⟩:=t _ _ D;obtain⟨y2,hy2,_⟩:=t _ _ V;exact h.inj b1 b2 y1 y2 g1 g2 hy1 hy2 H (e1.trans S) hg1 hg2
 .have U: ∀n l,(Z.set b (O ⟨x.cells.set i v,x.own,x.es⟩)).m n=O l->∃y,Z.m n=O y:=by
   intro n l f;by_cases z:n=b
   .subst z;exact⟨x,L⟩
   .exact⟨l,old n l z f⟩
  refine h.sep.of (λn l I f q=> .inl (let⟨y,hy⟩:=U n l f;⟨y,hy,q⟩)) (λn l I f q K _=> ?_);have H:n≠b:=λe=>by subst e;rw[J]at q;injection q with q;subst q;rw[r]at K;cases K
  unfold nz;rw[p _ (λe=>h.inj b n x l g I L f (λe=>H e.symm) ho J q e.symm)]
end
end
section
open List renaming getElem?_eq_getElem -> aB
open Nat renaming add_assoc -> aD
open Result renaming andThen_ok -> bB
open Go.RowKit
def cm :Operand->Bool
 | .const v=>GI v
 | .global _=>Zb
 | .func f=> !Cg f
 |_=>Za
def xZ (x:Operand):Option Operand:=if cm x then O x else Y
def aC4 :Option Operand->Option (Option Operand)
 |some x=>(xZ x).map O
 |none=>O Y
def qF (P:Program)(t:TypeId):Option Nat:=(P.info? t).map (·.size)
def SH (P:Program)(t:TypeId):Option Nat:=(P.info? t).map (·.bytes)
def Bg :Value->Bool
 | .bool _| .int _ _| .string _| .pointer Y| .slice Y 0 0| .nilFunc| .nilIface| .map Y=>Za
 |_=>Zb
def sS (P:Program)(t:TypeId):Option (List Value):=match(P.info? t).bind (·.zero)with
 |some z=>if(cellsOf z).all Bg then O (cellsOf z)else Y
 |none=>Y
def Cy (P:Program)(t:TypeId):Option Bool:=match P.underlying t with
 |some (.struct _)|some (.array _ _)=>O Za
 |some _=>O Zb
 |none=>Y
def aW8 (P:Program)(t:TypeId):Option Nat:=match P.underlying t with
 |some (.array _ e)=>qF P e
 |_=>O 1
def di (μ:Mu)(N:Nat)(e:cj)(tmps:Array Value):Prop:=tmps.size=N/\∀t,VR μ (e t) (tmps.getD t undef)
theorem di.mono {μ μ':Mu}{tmps:Array Value}(h:di μ N e tmps)(d:μ.le μ'):di μ' N e tmps:=⟨h.1,λt=>(h.2 t).mono d⟩
theorem di.put {μ:Mu}{tmps:Array Value}(h:di μ N e tmps)(d:Nat)(g:d<N)(j:VR μ v v'):di μ N (e.put d v) (tmps.setIfInBounds d v'):=by
 refine⟨by simpa using h.1,λt=> ?_⟩;unfold cj.put;by_cases f:t=d
 .subst f;simp[h.1,g];exact j
 .rw[zF f];have:=h.2 t;simpa[Array.getElem?_setIfInBounds_ne (λe=>f e.symm)]using this
theorem di.ev {μ:Mu}{a:Act}(h:di μ N e a.tmps)(d:cm x=Za):VR μ (e.ev x) (a.eval x):=by
 cases x with
 |tmp t=>exact h.2 t
 |const v=>exact VR.plain d
 |global g=>simp[cm]at d
 |func f=>exact .func (by simpa[cm,Gz]using d) .nil .nil
def kr (P:Program)(o:Oper)(a:Act)(w:World)(B:Base P)(μ:Mu)(v:Value)(Z':Hp):Prop:=
 ∃d w' μ' v',(execOp a.eval o).run P w= .ok d w'/\(d= .value v'∨(d= .skip/\v'=undef))/\μ.le μ'/\R B μ' Z' w'/\VR μ' v v'/\Below B w w'
section
variable {P:Program} {o:Oper} {a:Act} {w:World} {B:Base P} {N:Nat} {μ:Mu} {e:cj} {Z Z':Hp} {v:Value}
theorem kr.same {v':Value}(f:R B μ Z w)(d:(execOp a.eval o).run P w= .ok (.value v') w)(g:VR μ v v'):kr P o a w B μ v Z:=
 ⟨_,w,μ,v',d, .inl rfl,μ.le_refl,f,g,Below.refl _ _⟩
theorem aq (h:xZ x=O y):x=y/\cm x=Za:=by
 unfold xZ at h;split at h
 .rename_i d;exact⟨by simpa using h,d⟩
 .cases h
theorem cy {t:TypeId}{d:TypeDesc}(h:P.underlying t=O d)(w:World):(underlying t).run P w= .ok d w:=by simp[underlying,h]
theorem rl {t:TypeId}{n:Nat}(h:qF P t=O n)(w:World):(sizeOf t).run P w= .ok n w:=by
 obtain⟨i,d,f⟩:=Option.map_eq_some_iff.1 h;simp[sizeOf,typeInfo,d,f]
theorem HF {t:TypeId}(h:Cy P t=O b)(w:World):(isAgg t).run P w= .ok b w:=by
 unfold Cy at h;unfold isAgg;cases f:P.underlying t with
 |none=>simp[f]at h
 |some d=>
  simp only[Sem.run_bind,cy f,bB];cases d<;>simp[f]at h<;>subst h<;>rfl
theorem rb {t:TypeId}{z:List Value}(h:sS P t=O z): ∃v,(∀w:World,(zeroValue t).run P w= .ok v w)/\cellsOf v=z/\z.all Bg=Za:=by
 unfold sS at h;cases d:P.info? t with
 |none=>simp[d]at h
 |some i=>
  cases f:i.zero with
  |none=>simp[d,f]at h
  |some v=>
   simp only[d,f,zG]at h;split at h
   .rename_i g;injection h with h
    exact⟨v,λw=>by simp[zeroValue,typeInfo,d,f],h,h▸g⟩
   .cases h
def Xx (P:Program)(t:TypeId):Option IntKind:=match(P.info? t).bind (·.zero)with
 |some (.int k 0)=>O k
 |_=>Y
theorem Wh {t:TypeId}(h:Xx P t=O k)(w:World):(zeroValue t).run P w= .ok (.int k 0) w:=by
 unfold Xx at h;cases d:P.info? t with
 |none=>simp[d]at h
 |some i=>
  cases g:i.zero with
  |none=>simp[d,g]at h
  |some v=>
   simp only[d,g,zG]at h;split at h
   .rename_i f;injection f with f
    injection h with h
    subst f h;simp[zeroValue,typeInfo,d,g]
   .cases h
theorem VR.plainCells {μ:Mu}{z:List Value}(h:z.all Bg=Za):F2 (VR μ) z z:=F2.same _ λv d=>VR.plain1 μ v (by
 have:=List.all_eq_true.1 h v d;unfold Bg at this
 exact this)
theorem tZ (b o n:Nat):(⟨b,o,Y⟩:Addr).add n=⟨b,o+n,Y⟩:=by unfold Addr.add;split<;>simp_all
theorem R.reads {b o:Nat}{x:Blk}{g:G}(E:R B μ Z w)(I:Z.m b=O x)(z:μ.at b g){n:Nat}{cs:List Value}(h:uG x o n=O cs):
  ∃f,(∀(P:Program) (w':World),w'.heap=w.heap->(loadCells ⟨g.c,g.o+o,Y⟩ n).run P w'= .ok f.toArray w')/\F2 (VR μ) cs f:=by
 unfold uG at h;split at h
 .rename_i H;injection h with h
  subst h;have F:=E.get I z.1
  have d: ∀j,j<n->∃v',w.cell? ⟨g.c,g.o+o+j,Y⟩=O v'/\VR μ (x.cells.getD (o+j) undef) v':=by
   intro j A;obtain⟨v',l,r⟩:=F.cell z.2 (o+j) (x.cells[o+j]'(by omega)) (aB (by omega));refine⟨v',by rw[aD];exact l, ?_⟩;simp[List.getD,aB (show o+j<x.cells.length by omega)];exact r
  refine⟨(List.range n).map λj=>(w.cell? ⟨g.c,g.o+o+j,Y⟩).getD undef,λP w' t=> ?_, ?_⟩
  .have:=run_loadCells (P:=P) w' ⟨g.c,g.o+o,Y⟩ n (λj=>(w.cell? ⟨g.c,g.o+o+j,Y⟩).getD undef) (λj A=>by
    rw[tZ];obtain⟨v',l,_⟩:=d j A;have:w'.cell? ⟨g.c,g.o+o+j,Y⟩=w.cell? ⟨g.c,g.o+o+j,Y⟩:=by simp[World.cell?,t]
    rw[this]
    simp[l])
   rw[this]
  .refine F2.of_get _ _ (by simp;omega) λi u J q p=> ?_
   have s:i<n:=by
    rcases Nat.lt_or_ge i n with h3|h3
    .exact h3
    .rw[List.getElem?_eq_none (by simp;omega)]at q;cases q
   obtain⟨v',l,r⟩:=d i s
   have C:J=v':=by
    simp[s,l]at p;exact p.symm
   have D:u=x.cells.getD (o+i) undef:=by
    rw[List.getElem?_take,zE s,List.getElem?_drop]at q;simp[List.getD,q]
   rw[C,D];exact r
 .cases h
theorem R.writes : ∀(vs d:List Value),F2 (VR μ) vs d->(∀v∈vs,one v=Za)->∀(Z:Hp) (w:World) (b o i:Nat) (x:Blk) (g:G),R B μ Z w->Z.m b=O x->x.own=Za->μ.at b g->o+i+vs.length<=x.cells.length->
  ∃w',(∀P:Program,(storeCells ⟨g.c,g.o+o,Y⟩ d i).run P w= .ok () w')/\R B μ (Z.set b (O ⟨qr x.cells (o+i) vs,x.own,x.es⟩)) w'/\Below B w w'
 |[],_,h,_,Z,w,b,o,i,x,g,p,r,q,f,l=>by
  cases h;refine⟨w,λP=>by simp[storeCells], ?_,Below.refl _ _⟩
  have:Z.set b (O ⟨qr x.cells (o+i) [],x.own,x.es⟩)=Z:=by
   unfold Hp.set
   have:(λj=>if j=b then O (⟨qr x.cells (o+i) [],x.own,x.es⟩:Blk)else Z.m j)=Z.m:=by
    funext j
    split
    .rename_i e;subst e;rw[r];rfl
    .rfl
   rw[this]
  rw[this];exact p
 |v::vs,_,h,z,Z,w,b,o,i,x,g,p,r,q,f,l=>by
  cases h with
  |cons D M=>
   rename_i v' d;simp only[List.length_cons]at l;have C:=p.get r f.1;obtain⟨T,W,E,e,F,U,X,V⟩:=C.own f.2 q;have s:=p.write1 r q f.1 f.2 (o+i) (by omega) D;have n:v'.oneCell'=Za:=by rw[<-D.one_iff];exact z v (by simp)
   obtain⟨u,Q,_⟩:=C.cell f.2 (o+i) (x.cells[o+i]'(by omega)) (aB (by omega));have t:w.frozen? ⟨g.c,g.o+(o+i),Y⟩=Zb:=Ns w _ _ _ _ F U (by omega) V;have K:(Z.set b (O ⟨x.cells.set (o+i) v,x.own,x.es⟩)).m b=O ⟨x.cells.set (o+i) v,x.own,x.es⟩:=by simp[Hp.set]
   obtain⟨w',H,A,I⟩:=R.writes vs d M (λy S=>z y (by simp[S])) _ _ b o (i+1) _ g s K q f (by simp;omega);refine⟨w',λP=> ?_, ?_, ?_⟩
   .have J:(⟨g.c,g.o+o,Y⟩:Addr).add i=⟨g.c,g.o+(o+i),Y⟩:=by rw[tZ,aD]
    simp only[storeCells,Sem.run_bind,J,run_store P w _ v' .plain n,Q,t,Bool.false_eq_true,if_false,bB];exact H P
   .have L:(Z.set b (O ⟨x.cells.set (o+i) v,x.own,x.es⟩)).set b (O ⟨qr (x.cells.set (o+i) v) (o+(i+1)) vs,x.own,x.es⟩)=Z.set b (O ⟨qr x.cells (o+i) (v::vs),x.own,x.es⟩):=by
     unfold Hp.set
     have:(λj=>if j=b then O (⟨qr (x.cells.set (o+i) v) (o+(i+1)) vs,x.own,x.es⟩:Blk)else if j=b then O ⟨x.cells.set (o+i) v,x.own,x.es⟩else Z.m j)=
       (λj=>if j=b then O (⟨qr x.cells (o+i) (v::vs),x.own,x.es⟩:Blk)else Z.m j):=by
      funext j
      split<;>simp[qr,aD]
     simp only[this]
    rw[L]at A;exact A
   .exact((Below.refl B w).setCell T v').trans I
end
end
section
open Go.RowKit
def yT (d:Nat->Option (Nat×Nat)):List (Nat×Operand)->Option (List (Nat×Nat×Operand))
 |[]=>O []
 |(i,x)::r=>match d i,xZ x,yT d r with
  |some (f,n),O x,O r=>O ((f,n,x)::r)
  |_,_,_=>Y
def L5 :List Operand->Option (List Operand)
 |[]=>O []
 |x::r=>match xZ x,L5 r with
  |some x,O r=>O (x::r)
  |_,_=>Y
def JF (P:Program)(fs:Array Field)(i:Nat):Option (Nat×Nat):=match fs[i]? with
 |some f=>(qF P f.type).map λn=>(f.offset,n)
 |none=>Y
def Q7 (P:Program)(f:FuncId):Bool:=match P.funcs[f]? with
 |some d=>d.body.isSome&& !(d.name== "runtime.NumGoroutine")
 |none=>Zb
def BQ (P:Program)(t:TypeId):Option Nat:=match P.underlying t with
 |some .bool=>O 0
 |some (.int _)=>O 1
 |some .string=>O 2
 |_=>Y
def BR (P:Program):Nat->List Field->Option (List Nat)
 |_,[]=>O []
 |i,f::r=>if f.offset=i/\f.name≠ "_" then match BQ P f.type,BR P (i+1) r with
  |some k,O d=>O (k::d)
  |_,_=>Y
  else Y
def Re (P:Program)(t:TypeId):Option (List Nat):=match P.underlying t with
 |some (.struct fs)=>if P.eqGuardType P.depth t=Zb/\P.stoodInHeld t=Zb then BR P 0 fs.toList else Y
 |some (.array n e)=>if qF P e=O 1/\P.eqGuardType P.depth t=Zb then(BQ P e).map λk=>List.replicate n k else Y
 |_=>Y
def ay5 :TypeDesc->Option Nat
 | .bool=>O 0
 | .pointer _=>O 1
 | .slice _=>O 2
 | .func _ _ _=>O 3
 |_=>Y
def Ql (P:Program)(op:BinOp)(t:TypeId)(x y:Operand):Option AOp:=
 match P.underlying t with
 |some (.int _)|some .string=>match xZ x,xZ y with
  |some x,O y=>O (.bin op x y)
  |_,_=>Y
 |some (.struct _)|some (.array _ _)=>match op,Re P t,xZ x,xZ y with
  | .eql,O n,O x,O y=>O (.eqCells Zb n x y)
  | .neq,O n,O x,O y=>O (.eqCells Za n x y)
  |_,_,_,_=>Y
 |some d=>match ay5 d,op,xZ x,xZ y with
  |some f, .eql,O x,O y=>O (.eqv f Zb x y)
  |some f, .neq,O x,O y=>O (.eqv f Za x y)
  |_,_,_,_=>Y
 |none=>Y
def Aq (P:Program)(c:Call):Option AOp:=
 match c.callee with
 | .value (.func f)=>if Q7 P f then(L5 c.args.toList).map (.call f ·)else Y
 | .value (.tmp t)=>(L5 c.args.toList).map (.callv (.tmp t) ·)
 | .builtin .append=>match c.args.toList,c.argTypes.toList with
  |[s,x],[r,u]=>match P.underlying r,P.underlying u,xZ s,xZ x with
   |some (.slice e),O (.slice _),O s,O x|some (.slice e),O .string,O s,O x=>match qF P e,SH P e,sS P e with
    |some h,O g,O z=>if z.length=h then O (.append h g s x)else Y
    |_,_,_=>Y
   |some (.slice e),O (.int _),O s,O x=>match qF P e,SH P e,sS P e with
    |some h,O g,O z=>if z.length=h/\0<h then O (.appendZ h g z s x)else Y
    |_,_,_=>Y
   |_,_,_,_=>Y
  |_,_=>Y
 | .builtin .copy=>match c.args.toList,c.argTypes.toList with
  |[d,s],l::_=>match P.underlying l,xZ d,xZ s with
   |some (.slice e),O d,O s=>match qF P e with
    |some h=>O (.copy h d s)
    |none=>Y
   |_,_,_=>Y
  |_,_=>Y
 | .builtin .len=>match c.args.toList,c.argTypes.toList with
  |[x],t::_=>match P.underlying t,xZ x with
   |some .string,O x=>O (.lenS x)
   |some (.slice _),O x=>O (.len x)
   |some (.map q m),O x=>match P.underlying q,P.underlying m with
    |some .string,O (.int p)=>O (.lenM p x)
    |_,_=>Y
   |some (.array n _),_=>O (.lenC n)
   |some (.pointer j),_=>match P.underlying j with
    |some (.array n _)=>O (.lenC n)
    |_=>Y
   |_,_=>Y
  |_,_=>Y
 | .builtin .cap=>match c.args.toList,c.argTypes.toList with
  |[x],[t]=>match P.underlying t,xZ x with
   |some (.slice _),O x=>O (.capN x)
   |_,_=>Y
  |_,_=>Y
 | .builtin .max=>match c.args.toList with
  |[x,y]=>match xZ x,xZ y with
   |some x,O y=>O (.most x y)
   |_,_=>Y
  |_=>Y
 | .builtin .min=>match c.args.toList with
  |[x,y]=>match xZ x,xZ y with
   |some x,O y=>O (.least x y)
   |_,_=>Y
  |_=>Y
 |_=>Y
def L8 (P:Program)(o:Oper):Option AOp:=
 match o.op with
 | .move x| .assign x=>(xZ x).map .move
 | .pick c a b=>match xZ c,xZ a,xZ b with
  |some c,O a,O b=>O (.pick c a b)
  |_,_,_=>Y
 | .alloc t=>if WK P t=Za then(match sS P t with
   |some [.pointer Y, .slice Y 0 0]=>O .newB
   |_=>Y)
  else match aW8 P t,sS P t with
  |some A,O z=>O (.alloc A z)
  |_,_=>Y
 | .box t x=>match aW8 P t,xZ x with
  |some A,O x=>O (.box A x)
  |_,_=>Y
 | .build t g=>match P.underlying t,sS P t with
  |some (.struct fs),O z=>if fs.toList.all λf=>(qF P f.type).isSome then(yT (JF P fs) g.toList).map (.build z ·)else Y
  |some (.array _ e),O z=>match qF P e with
   |some n=>(yT (λi=>O (i*n,n)) g.toList).map (.build z ·)
   |none=>Y
  |_,_=>Y
 | .buildSlice t r g=>match P.underlying t with
  |some (.slice e)=>match qF P e,sS P e with
   |some n,O z=>if r*n<=16777216/\z.length=n/\0<n then(yT (λi=>O (i*n,n)) g.toList).map (.buildSlice n r z ·)else Y
   |_,_=>Y
  |_=>Y
 | .load _ (.global _)=>O .stuck
 | .load t x=>match Cy P t,xZ x with
  |some Za,O x=>(qF P t).map (.loadN · x)
  |some Zb,O x=>O (.load x)
  |_,_=>Y
 | .store t x y=>match qF P t,xZ x,xZ y with
  |some n,O x,O y=>O (.store n x y)
  |_,_,_=>Y
 | .nilCheck x=>(xZ x).map .nilCheck
 | .binOp op t x y _=>Ql P op t x y
 | .unOp op _ x=>(xZ x).map (.un op ·)
 | .convert s d x=>match P.underlying s,P.underlying d,xZ x with
  |some (.int _),O (.int k),O x=>O (.conv k x)
  |some (.int _),O .string,O x=>O (.encR x)
  |some (.slice t),O .string,O x=>match P.underlying t with
   |some (.int .u8)=>O (.strOf x)
   |some (.int .i32)=>O (.strOfR x)
   |_=>Y
  |some .string,O (.slice t),O x=>match P.underlying t with
   |some (.int .i32)=>O (.runesOf x)
   |_=>Y
  |some (.slice _),O (.slice t),O x=>match P.underlying t with
   |some (.int .u8)=>if s=d then O (.mark x)else Y
   |_=>Y
  |_,_,_=>Y
 | .range t x=>match P.underlying t,xZ x with
  |some .string,O x=>O (.range x)
  |_,_=>Y
 | .next x true=>(xZ x).map .next
 | .makeMap t Y=>match P.underlying t with
  |some (.map q m)=>match P.underlying q,P.underlying m with
   |some .string,O (.int p)=>O (.makeM p)
   |_,_=>Y
  |_=>Y
 | .lookup t x i D=>match P.underlying t,xZ x,xZ i with
  |some (.map q m),O x,O i=>match P.underlying q,Xx P m with
   |some .string,O p=>O (.lookM p D x i)
   |_,_=>Y
  |_,_,_=>Y
 | .mapUpdate t x i v=>match P.underlying t,xZ x,xZ i,xZ v with
  |some (.map q m),O x,O i,O v=>match P.underlying q,P.underlying m with
   |some .string,O (.int p)=>O (.updM p x i v)
   |_,_=>Y
  |_,_,_,_=>Y
 | .makeFunc (.func f) first h=>match L5 first.toList,L5 h.toList with
  |some E,O F=>O (.mkFunc f E F)
  |_,_=>Y
 | .makeSlice t l c=>match P.underlying t with
  |some (.slice e)=>match qF P e,SH P e,sS P e,xZ l,xZ c with
   |some n,O u,O z,O l,O c=>if z.length=n/\0<n then O (.makeSlice n u z l c)else Y
   |_,_,_,_,_=>Y
  |_=>Y
 | .slice t x lo j Y=>match P.underlying t,xZ x,aC4 lo,aC4 j with
  |some (.slice e),O x,O lo,O j=>(qF P e).map (.slice · x lo j)
  |some .string,O x,O lo,O j=>O (.sliceStr x lo j)
  |some (.array n e),O x,O lo,O j=>(qF P e).map (.sliceArr · n x lo j)
  |_,_,_,_=>Y
 | .fieldAddr s x i=>match P.underlying s,xZ x with
  |some (.struct fs),O x=>match fs[i]? with
   |some f=>match qF P f.type with
    |some n=>if n=0 then Y else O (.off f.offset x)
    |none=>Y
   |none=>Y
  |_,_=>Y
 | .field t x i=>match P.underlying t,xZ x with
  |some (.struct fs),O x=>match fs[i]? with
   |some f=>match qF P f.type,Cy P f.type with
    |some n,O b=>O (.fieldV f.offset n b x)
    |_,_=>Y
   |none=>Y
  |_,_=>Y
 | .indexAddr t x i=>match P.underlying t,xZ x,xZ i with
  |some (.slice e),O x,O i=>(qF P e).map (.idx · x i)
  |some (.array n e),O x,O i=>(qF P e).map (.idxA n · x i)
  |_,_,_=>Y
 | .index t x i=>match P.underlying t,xZ x,xZ i with
  |some (.array n e),O x,O i=>match qF P e,Cy P e with
   |some s,O b=>O (.indexV n s b x i)
   |_,_=>Y
  |some .string,O x,O i=>O (.indexS x i)
  |_,_,_=>Y
 | .slice t x Y (O j) (O C)=>match P.underlying t,xZ x,xZ j,xZ C with
  |some (.slice d),O x,O j,O C=>if(qF P d).isSome then O (.sliceX x j C)else Y
  |_,_,_,_=>Y
 | .extract x i=>(xZ x).map (.extract · i)
 | .call c=>Aq P c
 | .makeInterface _ _| .panic _=>O .stuck
 |_=>Y
section
variable {P:Program} {o:Oper} {a:Act} {w:World} {B:Base P} {N:Nat} {μ:Mu} {e:cj} {Z Z':Hp} {v:Value}
theorem W8 (ho:o.op= .move x∨o.op= .assign x)(h:cm x=Za)(d:(AOp.move x).run e Z=O (v,Z'))(g:di μ N e a.tmps)(f:R B μ Z w):kr P o a w B μ v Z':=by
 simp only[AOp.run,Option.some.injEq,Prod.mk.injEq]at d;obtain⟨rfl,rfl⟩:=d;rcases ho with ho|ho<;>exact .same f (by simp[execOp,ho]) (g.ev h)
theorem VR.bool_inv {v':Value}(h:VR μ (.bool b) v'):v'= .bool b:=by cases h;rfl
theorem VR.int_inv {n:Int}{v':Value}(h:VR μ (.int k n) v'):v'= .int k n:=by cases h;rfl
theorem VR.string_inv {s:ByteArray}{v':Value}(h:VR μ (.string s) v'):v'= .string s:=by cases h;rfl
theorem aC1 {c:Operand}(m:o.op= .pick c x y)(n:cm c=Za)(p:cm x=Za)(q:cm y=Za)(f:(AOp.pick c x y).run e Z=O (v,Z'))(j:di μ N e a.tmps)(l:R B μ Z w):kr P o a w B μ v Z':=by
 have h:=j.ev n;simp only[AOp.run]at f;split at f
 .rename_i g;rw[g]at h;have d:=h.bool_inv;simp only[Option.some.injEq,Prod.mk.injEq]at f;obtain⟨rfl,rfl⟩:=f;exact .same l (by simp[execOp,m,d,asBool]) (j.ev p)
 .rename_i g;rw[g]at h;have d:=h.bool_inv;simp only[Option.some.injEq,Prod.mk.injEq]at f;obtain⟨rfl,rfl⟩:=f;exact .same l (by simp[execOp,m,d,asBool]) (j.ev q)
 .cases f
theorem kr.new (h:R B μ Z w)(d:Array Value)(t:TypeId)(cells:List Value)(es:Nat)(v':Value)(j:F2 (VR μ) cells d.toList)
  (g:(execOp a.eval o).run P w= .ok (.value v') (w.alloc (.cells d t)))
  (p:(μ.add Z.n ⟨w.heap.size,0,d.size,es,t,Y⟩).at Z.n ⟨w.heap.size,0,d.size,es,t,Y⟩->VR (μ.add Z.n ⟨w.heap.size,0,d.size,es,t,Y⟩) v v'):kr P o a w B μ v (Z.add ⟨cells,Za,es⟩):=by
 have f:cells.length=d.size:=by simpa using j.length
 obtain⟨l,m⟩:=h.add d t cells es (by omega) (by rw[f,<-Array.length_toList,List.take_length];exact j);exact⟨_,_,_,v',g, .inl rfl,m,l,p ⟨by simp[Mu.add],rfl⟩,(Below.refl _ _).alloc h.base _⟩
theorem aj0 {t:TypeId}{es:Nat}{z:List Value}(n:o.op= .alloc t)(p:sS P t=O z)(f:(AOp.alloc es z).run e Z=O (v,Z'))(m:R B μ Z w):kr P o a w B μ v Z':=by
 obtain⟨g,j,l,d⟩:=rb p;simp only[AOp.run,Option.some.injEq,Prod.mk.injEq]at f;obtain⟨rfl,rfl⟩:=f;refine .new m g.cells t z es (.pointer (O ⟨w.heap.size,0,Y⟩)) ?_ ?_ (λh=> .ptr (o:=0) h)
 .have:z=g.cells.toList:=l.symm;rw[this];rw[this]at d;exact VR.plainCells d
 .simp[execOp,n,Instr.alloc,j,newVar,newRow]
theorem aP2 {t:TypeId}{es:Nat}(j:o.op= .box t x)(l:cm x=Za)(d:(AOp.box es x).run e Z=O (v,Z'))(g:di μ N e a.tmps)(f:R B μ Z w):kr P o a w B μ v Z':=by
 simp only[AOp.run]at d;split at d
 .simp only[Option.some.injEq,Prod.mk.injEq]at d;obtain⟨rfl,rfl⟩:=d;refine .new f (a.eval x).cells t _ es (.pointer (O ⟨w.heap.size,0,Y⟩)) (g.ev l).cells ?_ (λh=> .ptr (o:=0) h);simp[execOp,j,Instr.box,newVar,newRow]
 .cases d
theorem VR.ptr_inv {b n:Nat}{v':Value}(h:VR μ (.pointer (O ⟨b,n,Y⟩)) v'): ∃g,μ.at b g/\v'= .pointer (O ⟨g.c,g.o+n,Y⟩):=by
 cases h with
 |ptr h=>exact⟨_,h,rfl⟩
theorem aB6 {t:TypeId}(z:o.op= .load t x)(A:Cy P t=O Zb)(E:cm x=Za)(d:(AOp.load x).run e Z=O (v,Z'))(s:di μ N e a.tmps)(j:R B μ Z w):kr P o a w B μ v Z':=by
 have h:=s.ev E;simp only[AOp.run]at d;split at d
 .rename_i b n r;rw[r]at h;obtain⟨g,l,D⟩:=h.ptr_inv;split at d
  .rename_i m f;obtain⟨u,C,d⟩:=Option.map_eq_some_iff.1 d;simp only[Prod.mk.injEq]at d;obtain⟨rfl,rfl⟩:=d;obtain⟨F,p,q⟩:=(j.get f l.1).cell l.2 n u C;refine .same j ?_ q;simp[execOp,z,Instr.loadAt,Instr.sureAddr,D,loadVar,HF A,p]
  .cases d
 .cases d
theorem aj4 {t:TypeId}{n:Nat}(C:o.op= .load t x)(D:Cy P t=O Za)(A:qF P t=O n)(F:cm x=Za)(d:(AOp.loadN n x).run e Z=O (v,Z'))(u:di μ N e a.tmps)(l:R B μ Z w):kr P o a w B μ v Z':=by
 have h:=u.ev F;simp only[AOp.run]at d;split at d
 .rename_i b n s;rw[s]at h;obtain⟨g,z,E⟩:=h.ptr_inv;split at d
  .rename_i m f;obtain⟨H,j,d⟩:=Option.map_eq_some_iff.1 d;simp only[Prod.mk.injEq]at d;obtain⟨rfl,rfl⟩:=d;obtain⟨p,q,r⟩:=l.reads f z j;refine .same l ?_ (.agg r);simp[execOp,C,Instr.loadAt,Instr.sureAddr,E,loadVar,HF D,rl A,q P w rfl]
  .cases d
 .cases d
theorem aj9 {t:TypeId}{n:Nat}(M:o.op= .store t x y)(L:qF P t=O n)(U:cm x=Za)(V:cm y=Za)(d:(AOp.store n x y).run e Z=O (v,Z'))(C:di μ N e a.tmps)(H:R B μ Z w):kr P o a w B μ v Z':=by
 have h:=C.ev U;have l:=(C.ev V).cells;simp only[AOp.run]at d;split at d
 .rename_i b z I;rw[I]at h;obtain⟨g,K,T⟩:=h.ptr_inv;split at d
  .rename_i s;split at d
   .rename_i q j;unfold Dk at d;split at d
    .rename_i A p;split at p
     .rename_i J;obtain⟨m,r,f⟩:=J;injection p with p
      subst p;simp only[Option.some.injEq,Prod.mk.injEq]at d;obtain⟨rfl,rfl⟩:=d;obtain⟨w',D,E,F⟩:=R.writes _ _ l (λu S=>List.all_eq_true.1 f u S) Z w b z 0 q g H j m K r;refine⟨.skip,w',μ,undef, ?_, .inr ⟨rfl,rfl⟩,μ.le_refl,E,VR.undef μ,F⟩;have Q:(a.eval y).cells.size=n:=by rw[<-s,l.length];simp
      simp[execOp,M,Instr.storeAt,Instr.sureAddr,T,storeVar,rl L,Q,D]
     .cases p
    .cases d
   .cases d
  .cases d
 .cases d
theorem Tw (n:o.op= .nilCheck x)(A:cm x=Za)(d:(AOp.nilCheck x).run e Z=O (v,Z'))(z:di μ N e a.tmps)(m:R B μ Z w):kr P o a w B μ v Z':=by
 have h:=z.ev A;simp only[AOp.run]at d;split at d
 .rename_i b j;simp only[Option.some.injEq,Prod.mk.injEq]at d;obtain⟨rfl,rfl⟩:=d;rw[j]at h;generalize l:a.eval x=u at h;cases h with
  |ptr r=>exact .same m (by simp[execOp,n,l]) (.ptr r)
 .rename_i f p q j;split at d
  .cases d
  rename_i g;simp only[Option.some.injEq,Prod.mk.injEq]at d;obtain⟨rfl,rfl⟩:=d;rw[j]at h;obtain⟨C,D,l,s,t⟩:=h.func_inv (by simpa[Gz]using g);exact .same m (by simp[execOp,n,l]) (.func (by simpa[Gz]using g) s t)
 .cases d
end
end
section
open List renaming drop_drop -> aB, getElem?_drop -> bB
open Nat renaming add_comm -> aD
open Go.RowKit
section
variable {P:Program} {o:Oper} {a:Act} {w:World} {B:Base P} {N:Nat} {μ:Mu} {e:cj} {Z Z':Hp} {v:Value}
theorem at9 (op:BinOp)(t:TypeId)(x y z:Value)(h:Da op x y=O z)(w:World)(p q:Operand):
  (eqGuard op t p q x y).run P w= .ok () w/\(binOp op t x y).run P w= .ok z w:=by
 cases x with
 |int k m=>cases y with
  |int r n=>
   simp only[Da]at h;by_cases d:yS op=Za
   .rw[zE d]at h;unfold Oj at h;split at h
    .cases h
    .rename_i l;cases op<;>simp[yS]at d<;>simp at h<;>subst h<;>simp[eqGuard,binOp,Op.shift,l]
   .rw[zF d]at h;split at h
    .rename_i j;subst j;cases op<;>simp[yS]at d<;>simp[WJ]at h
     all_goals first
      |(obtain⟨g,f⟩:=h;subst f;simp[eqGuard,binOp,Op.intDiv,g])
      |(subst h;simp[eqGuard,binOp,Op.intArith,Op.intBits,Op.intCmp])
    .cases h
  |_=>simp[Da]at h
 |string s=>cases y with
  |string u=>
   simp only[Da]at h;split at h
   .cases h
   .rename_i d;cases op<;>simp[yS]at d<;>simp[Xq]at h
    all_goals first
     |(obtain⟨g,f⟩:=h;subst f;simp[eqGuard,binOp,Op.stringOp];omega)
     |(subst h;simp[eqGuard,binOp,Op.stringOp])
  |_=>simp[Da]at h
 |_=>simp[Da]at h
theorem au0 {x y g j z:Value}(h:Da op x y=O z)(d:VR μ x g)(f:VR μ y j):g=x/\j=y:=by
 cases x with
 |int k m=>cases y with
  |int l n=>exact⟨d.int_inv,f.int_inv⟩
  |_=>simp[Da]at h
 |string s=>cases y with
  |string p=>exact⟨d.string_inv,f.string_inv⟩
  |_=>simp[Da]at h
 |_=>simp[Da]at h
theorem UZ {x y z:Value}(h:Da op x y=O z):VR μ z z:=by
 cases x with
 |int k m=>cases y with
  |int f n=>
   simp only[Da]at h;split at h
   .unfold Oj at h;split at h
    .cases h
    .cases op<;>simp at h<;>subst h<;>exact .int _ _
   .split at h
    .cases op<;>simp[WJ]at h
     all_goals first
      |(obtain⟨_,d⟩:=h;subst d;exact .int _ _)
      |(subst h;first|exact .int _ _|exact .bool _)
    .cases h
  |_=>simp[Da]at h
 |string s=>cases y with
  |string g=>
   simp only[Da]at h;split at h
   .cases h
   .cases op<;>simp[Xq]at h
    all_goals first
     |(obtain⟨_,d⟩:=h;subst d;exact .string _)
     |(subst h;first|exact .string _|exact .bool _)
  |_=>simp[Da]at h
 |_=>simp[Da]at h
theorem aj1 {t s:TypeId}(m:o.op= .binOp op t x y s)(n:cm x=Za)(p:cm y=Za)(d:(AOp.bin op x y).run e Z=O (v,Z'))(g:di μ N e a.tmps)(l:R B μ Z w):kr P o a w B μ v Z':=by
 simp only[AOp.run]at d;obtain⟨z,f,d⟩:=Option.map_eq_some_iff.1 d;simp only[Prod.mk.injEq]at d;obtain⟨rfl,rfl⟩:=d;obtain⟨h,j⟩:=au0 f (g.ev n) (g.ev p);refine .same l ?_ (UZ f);obtain⟨q,r⟩:=at9 (P:=P) op t _ _ _ f w x y;simp[execOp,m,h,j,q,r]
theorem Vc (op:BinOp)(t:TypeId)(g h:Operand)(x y:Value)(d: ¬(x= .nilIface/\y= .nilIface))(f: ∀a b,¬(x= .agg a/\y= .agg b))(w:World):(eqGuard op t g h x y).run P w= .ok () w:=by
 unfold eqGuard
 cases op<;>first
  |rfl
  |(cases x<;>cases y<;>first
    |rfl
    |exact absurd ⟨rfl,rfl⟩ d
    |exact absurd ⟨rfl,rfl⟩ (f _ _))
set_option maxHeartbeats 1000000 in
theorem aw2 {t:TypeId}{d:TypeDesc}{kd:Nat}(l:P.underlying t=O d)(f:ay5 d=O kd){x y g j:Value}(h:SS kd x y=O b)(m:VR μ x g)(n:VR μ y j)(w:World):
  (Op.equal t g j).run P w= .ok b w:=by
 unfold Op.equal Op.maxDepth;rw[show(10000:Nat)=9999+1 from rfl,Op.equalIn];simp only[Sem.run_bind,cy l,Result.andThen_ok];cases d<;>simp[ay5]at f<;>subst f
 all_goals (cases m<;>cases n<;>simp[SS,WX,ylV,ay3,af4, *]at h<;>simp[<-h])
theorem aw3 {kd:Nat}{x y f g:Value}(h:SS kd x y=O b)(j:VR μ x f)(r:VR μ y g)(t:TypeId)(d:Bool)(w:World)(n:(Op.equal t f g).run P w= .ok b w):
  (binOp (if d then .neq else .eql) t f g).run P w= .ok (.bool (b !=d)) w/\(∀l m op,(eqGuard op t l m f g).run P w= .ok () w):=by
 refine⟨?_,λl m op=>Vc op t l m f g ?_ ?_ w⟩
 .have:binOp (if d then .neq else .eql) t f g=(Op.equal t f g >>=λq=>pure (.bool (if d then !q else q))):=by
   cases j<;>cases r<;>first
    |(cases d<;>rfl)
    |(unfold SS at h;split at h<;>simp_all)
  rw[this];cases d<;>simp[n]
 .rintro⟨rfl,rfl⟩;cases j;unfold SS at h;split at h<;>simp_all
 .rintro p q ⟨rfl,rfl⟩;cases j;unfold SS at h;split at h<;>simp_all
theorem aj2 {t C:TypeId}{d:TypeDesc}{kd:Nat}{f:Bool}(s:o.op= .binOp op t x y C)(j:op=if f then .neq else .eql)(q:P.underlying t=O d)(r:ay5 d=O kd)(l:cm x=Za)(m:cm y=Za)(g:(AOp.eqv kd f x y).run e Z=O (v,Z'))(h:di μ N e a.tmps)(p:R B μ Z w):kr P o a w B μ v Z':=by
 simp only[AOp.run]at g;obtain⟨b,n,g⟩:=Option.map_eq_some_iff.1 g;simp only[Prod.mk.injEq]at g;obtain⟨rfl,rfl⟩:=g;have u:=aw2 q r n (h.ev l) (h.ev m) w;obtain⟨z,A⟩:=aw3 n (h.ev l) (h.ev m) t f w u;refine .same p ?_ (.bool _);simp[execOp,s,j,z,A]
theorem Ll {t:TypeId}{kd:Nat}(g:BQ P t=O kd){x y j l:Value}(h:zK kd x y=O b)(n:VR μ x j)(p:VR μ y l)(d:Nat)(w:World):
  (Op.equalIn (d+1) t j l).run P w= .ok b w:=by
 unfold BQ at g;cases f:P.underlying t with
 |none=>simp[f]at g
 |some m=>
  cases m<;>simp[f]at g<;>subst g
  all_goals
   cases n<;>cases p<;>simp[zK,WX,ylV]at h
  .simp[run_equalIn_bool _ _ _ _ _ f,<-h]
  .obtain⟨rfl,rfl⟩:=h;simp[run_equalIn_int _ _ _ _ _ _ _ f]
  .simp[run_equalIn_string _ _ _ _ _ f,<-h]
theorem DF {t:TypeId}{kd:Nat}(d:BQ P t=O kd):Cy P t=O Zb:=by
 unfold BQ at d;unfold Cy;split at d<;>simp_all
theorem yA {t:TypeId}(h:Cy P t=O Zb){cs:Array Value}{i:Nat}{v:Value}(d:cs[i]?=O v)(w:World):(part t cs i).run P w= .ok v w:=by
 simp[part,HF h,d]
theorem Lm (w:World)(d:Nat)(p r:Array Value): ∀(fs:List Field) (i:Nat) (ks:List Nat) (l m:List Value) (b:Bool),BR P i fs=O ks->ph ks l m=O b->
  F2 (VR μ) l (p.toList.drop i)->F2 (VR μ) m (r.toList.drop i)->(Op.eqFields (d+1) p r fs).run P w= .ok b w
 |[],i,ks,l,m,b,g,h,_,_=>by
  simp[BR]at g;subst g;cases l<;>cases m<;>simp[ph]at h;subst h;simp[Op.eqFields]
 |f::fs,i,ks,l,m,b,g,h,A,C=>by
  simp only[BR]at g;split at g
  .rename_i s;split at g
   .rename_i k z u F;injection g with g
    subst g;cases l with
    |nil=>simp[ph]at h
    |cons x l=>cases m with
     |nil=>simp[ph]at h
     |cons y m=>
      simp only[ph]at h;obtain⟨M,D,I⟩:=A.get 0 x rfl;obtain⟨Q,E,J⟩:=C.get 0 y rfl;rw[bB]at D E;have j:p[i]?=O M:=by simpa using D
      have n:r[i]?=O Q:=by simpa using E
      have K:F2 (VR μ) l (p.toList.drop (i+1)):=by
       have:=A.drop 1;simpa[aB,aD]using this
      have L:F2 (VR μ) m (r.toList.drop (i+1)):=by
       have:=C.drop 1;simpa[aB,aD]using this
      have H:=Lm w d p r fs (i+1) z l m;cases t:zK k x y with
      |none=>simp[t]at h
      |some q=>
       have:=Ll (P:=P) u t I J d w;cases q with
       |true=>
        simp only[t]at h;simp[Op.eqFields,s.2,yA (DF u),s.1,j,n,this,H b F h K L]
       |false=>
        simp[t]at h;simp[Op.eqFields,s.2,yA (DF u),s.1,j,n,this,<-h]
   .cases g
  .cases g
theorem SR (w:World)(d:Nat)(e:TypeId)(k:Nat)(f:BQ P e=O k)(r s:Array Value): ∀(n i:Nat) (l m:List Value) (b:Bool),ph (List.replicate n k) l m=O b->
  F2 (VR μ) l (r.toList.drop i)->F2 (VR μ) m (s.toList.drop i)->
  (forIn (List.range' i n) ((Y,()):Option Bool×Unit) λj (_:Option Bool×Unit)=>(do
    let a<-part e r (j*1)
    let c<-part e s (j*1)
    let q<-Op.equalIn (d+1) e a c
    if(!q)=Za then pure (ForInStep.done (O Zb,()))else pure (ForInStep.yield (Y,())):Sem (ForInStep (Option Bool×Unit)))).run P w= .ok (if b then Y else O Zb,()) w
 |0,i,l,m,b,h,_,_=>by
  cases l<;>cases m<;>simp[ph]at h;subst h;simp
 |n+1,i,l,m,b,h,A,C=>by
  rw[List.replicate_succ]at h;cases l with
  |nil=>simp[ph]at h
  |cons x l=>cases m with
   |nil=>simp[ph]at h
   |cons y m=>
    simp only[ph]at h;obtain⟨L,D,H⟩:=A.get 0 x rfl;obtain⟨M,E,I⟩:=C.get 0 y rfl;rw[bB]at D E;have g:r[i]?=O L:=by simpa using D
    have p:s[i]?=O M:=by simpa using E
    have J:F2 (VR μ) l (r.toList.drop (i+1)):=by
     have:=A.drop 1;simpa[aB,aD]using this
    have K:F2 (VR μ) m (s.toList.drop (i+1)):=by
     have:=C.drop 1;simpa[aB,aD]using this
    have F:=SR w d e k f r s n (i+1) l m;cases t:zK k x y with
    |none=>simp[t]at h
    |some q=>
     have u:=Ll (P:=P) f t H I d w;rw[List.range'_succ,List.forIn_cons];cases q with
     |true=>
      simp only[t]at h;have z:=F b h J K;simp only[Nat.mul_one]at z⊢;simp[yA (DF f) g,yA (DF f) p,u,Result.andThen];simpa using z
     |false=>
      simp[t]at h;simp[yA (DF f) g,yA (DF f) p,u,<-h]
end
end
section
open Nat renaming add_assoc -> aB
open Result renaming andThen_ok -> aD
open Go.RowKit
section
variable {P:Program} {o:Oper} {a:Act} {w:World} {B:Base P} {N:Nat} {μ:Mu} {e:cj} {Z Z':Hp} {v:Value}
theorem VR.agg_inv {p:Array Value}{v':Value}(h:VR μ (.agg p) v'): ∃q,v'= .agg q/\F2 (VR μ) p.toList q.toList:=by
 cases h with
 |agg h=>exact⟨_,rfl,h⟩
theorem Oa {t:TypeId}{ks:List Nat}(d:Re P t=O ks){p q j l:Array Value}(h:ph ks p.toList q.toList=O b)(u:F2 (VR μ) p.toList j.toList)(z:F2 (VR μ) q.toList l.toList)(w:World):
  (Op.equal t (.agg j) (.agg l)).run P w= .ok b w/\P.eqGuardType P.depth t=Zb:=by
 unfold Re at d;unfold Op.equal Op.maxDepth;rw[show(10000:Nat)=9998+1+1 from rfl];cases g:P.underlying t with
 |none=>simp[g]at d
 |some A=>
  cases A<;>simp[g]at d
  case struct fs=>
   obtain⟨⟨m,r⟩,s⟩:=d;have f:P.fieldsOf t=fs:=by simp[Program.fieldsOf,g]
   rw[run_equalIn_struct w _ t j l (by rw[f,g]) r,f];exact⟨Lm w 9998 j l fs.toList 0 ks _ _ b s h (by simpa using u) (by simpa using z),m⟩
  case array n e=>
   obtain⟨⟨m,r⟩,k,s,C⟩:=d;subst C;refine⟨?_,r⟩;have:=SR (P:=P) w 9998 e k s j l n 0 _ _ b h (by simpa using u) (by simpa using z);rw[Op.equalIn];simp only[Sem.run_bind,cy g,aD,rl m];cases b<;>simp at this⊢ <;>rw[this]<;>rfl
theorem ES {t T:TypeId}{ks:List Nat}{f:Bool}(u:o.op= .binOp op t x y T)(g:op=if f then .neq else .eql)(s:Re P t=O ks)(C:cm x=Za)(D:cm y=Za)(d:(AOp.eqCells f ks x y).run e Z=O (v,Z'))(l:di μ N e a.tmps)(r:R B μ Z w):kr P o a w B μ v Z':=by
 simp only[AOp.run]at d;split at d
 .rename_i p q z A;obtain⟨b,E,d⟩:=Option.map_eq_some_iff.1 d;simp only[Prod.mk.injEq]at d;obtain⟨rfl,rfl⟩:=d;have h:=l.ev C;have j:=l.ev D;rw[z]at h;rw[A]at j;obtain⟨L,m,Q⟩:=h.agg_inv;obtain⟨M,n,S⟩:=j.agg_inv;obtain⟨F,H⟩:=Oa s E Q S w;refine .same r ?_ (.bool _);have I:=λJ K=>run_eqGuard_agg (P:=P) w op t J K L M H
  simp only[execOp,u,m,n,Sem.run_bind,I,aD];cases f<;>simp[g,binOp,F]
 .cases d
theorem aY6 {t:TypeId}{op:UnOp}(j:o.op= .unOp op t x)(m:cm x=Za)(d:(AOp.un op x).run e Z=O (v,Z'))(l:di μ N e a.tmps)(g:R B μ Z w):kr P o a w B μ v Z':=by
 simp only[AOp.run]at d;obtain⟨z,f,d⟩:=Option.map_eq_some_iff.1 d;simp only[Prod.mk.injEq]at d;obtain⟨rfl,rfl⟩:=d;have h:=l.ev m;generalize e.ev x=u at*;cases u<;>cases op<;>simp[un1]at f
 .subst f;have:=h.bool_inv;exact .same g (by simp[execOp,j,this,Op.unary]) (.bool _)
 .subst f;have:=h.int_inv;exact .same g (by simp[execOp,j,this,Op.unary,Op.intArith]) (.int _ _)
 .subst f;have:=h.int_inv;exact .same g (by simp[execOp,j,this,Op.unary,Op.intBits]) (.int _ _)
theorem aB0 {s d:TypeId}{t:IntKind}(p:o.op= .convert s d x)(q:P.underlying s=O (.int t))(l:P.underlying d=O (.int k))(r:cm x=Za)(f:(AOp.conv k x).run e Z=O (v,Z'))(m:di μ N e a.tmps)(j:R B μ Z w):kr P o a w B μ v Z':=by
 simp only[AOp.run]at f;obtain⟨n,g,f⟩:=Option.map_eq_some_iff.1 f;simp only[Prod.mk.injEq]at f;obtain⟨rfl,rfl⟩:=f;have h:=m.ev r;generalize e.ev x=u at*;cases u<;>simp[af3]at g;subst g;have:=h.int_inv;exact .same j (by simp[execOp,p,this,convert,cy q,cy l,Conv.intToInt]) (.int _ _)
theorem Ji (g:di μ N e a.tmps): ∀{f d:List Operand},L5 f=O d->F2 (VR μ) (d.map e.ev) (f.map a.eval)
 |[],d,h=>by simp[L5]at h;subst h;exact .nil
 |x::f,d,h=>by
  simp only[L5]at h;split at h
  .rename_i n r j l;injection h with h
   subst h;obtain⟨rfl,m⟩:=aq j;exact .cons (g.ev m) (Ji g l)
  .cases h
theorem Yu {f:FuncId}{first d:Array Operand}{l cs:List Operand}(q:o.op= .makeFunc (.func f) first d)(m:L5 first.toList=O l)(p:L5 d.toList=O cs)(g:(AOp.mkFunc f l cs).run e Z=O (v,Z'))(j:di μ N e a.tmps)(n:R B μ Z w):kr P o a w B μ v Z':=by
 simp only[AOp.run]at g;split at g
 .cases g
 rename_i h;simp only[Option.some.injEq,Prod.mk.injEq]at g;obtain⟨rfl,rfl⟩:=g;refine .same n (v':= .func (.func f) (first.map a.eval) (d.map a.eval)) (by simp[execOp,q,Instr.makeFunc]) (.func (by simpa[Gz]using h) ?_ ?_)
 .simpa using Ji j m
 .simpa using Ji j p
theorem aP5 {t:TypeId}{i n:Nat}{f:Field}(u:o.op= .fieldAddr t x i)(z:P.underlying t=O (.struct fs))(r:fs[i]?=O f)(s:qF P f.type=O n)(j:n≠0)(C:cm x=Za)(d:(AOp.off f.offset x).run e Z=O (v,Z'))(p:di μ N e a.tmps)(l:R B μ Z w):kr P o a w B μ v Z':=by
 have h:=p.ev C;simp only[AOp.run]at d;split at d
 .rename_i b off m;simp only[Option.some.injEq,Prod.mk.injEq]at d;obtain⟨rfl,rfl⟩:=d;rw[m]at h;obtain⟨g,q,A⟩:=h.ptr_inv;refine .same l (v':= .pointer (O ⟨g.c,g.o+(off+f.offset),Y⟩)) ?_ (.ptr q);simp[execOp,u,Instr.fieldAt,cy z,r,A,Instr.sureAddr,fieldPlace,rl s,j,tZ,aB]
 .cases d
theorem VR.slice_inv {b n l c:Nat}{v':Value}(h:VR μ (.slice (O ⟨b,n,Y⟩) l c) v'):
  (∃g d,μ.at b g/\l<=c/\c<=d/\n+d*g.es<=g.ext/\v'= .slice (O ⟨g.c,g.o+n,Y⟩) l d)∨(l=0/\c=0/\∃A',v'= .slice (O A') 0 0/\∃g,μ.at b g):=by
 cases h with
 |slice f j m p=>exact .inl ⟨_,_,f,j,m,p,rfl⟩
 |slice0 A' h=>exact .inr ⟨rfl,rfl,A',rfl,_,h⟩
theorem aP3 {t d:TypeId}{n:Nat}(F:o.op= .indexAddr t x i)(H:P.underlying t=O (.slice d))(E:qF P d=O n)(J:cm x=Za)(C:cm i=Za)(f:(AOp.idx n x i).run e Z=O (v,Z'))(s:di μ N e a.tmps)(u:R B μ Z w):kr P o a w B μ v Z':=by
 have h:=s.ev J;have r:=s.ev C;simp only[AOp.run]at f;split at f
 .rename_i b q l c k j z D;split at f
  .rename_i p;simp only[Option.some.injEq,Prod.mk.injEq]at f;obtain⟨rfl,rfl⟩:=f;rw[z]at h;rw[D]at r;have m:=r.int_inv;rcases h.slice_inv with⟨g,K,A,_,_,_,I⟩|⟨rfl,_⟩
   .refine .same u (v':= .pointer (O ⟨g.c,g.o+(q+j.toNat*n),Y⟩)) ?_ (.ptr A);simp[execOp,F,Instr.indexAt,cy H,I,m,asIntOf,p,rl E,tZ,aB]
   .omega
  .cases f
 .cases f
theorem aB3 {t d:TypeId}{m n:Nat}(F:o.op= .indexAddr t x i)(H:P.underlying t=O (.array m d))(E:qF P d=O n)(J:cm x=Za)(C:cm i=Za)(f:(AOp.idxA m n x i).run e Z=O (v,Z'))(s:di μ N e a.tmps)(u:R B μ Z w):kr P o a w B μ v Z':=by
 have h:=s.ev J;have r:=s.ev C;simp only[AOp.run]at f;split at f
 .rename_i b q k j z D;split at f
  .rename_i p;simp only[Option.some.injEq,Prod.mk.injEq]at f;obtain⟨rfl,rfl⟩:=f;rw[z]at h;rw[D]at r;have l:=r.int_inv;obtain⟨g,A,I⟩:=h.ptr_inv;refine .same u (v':= .pointer (O ⟨g.c,g.o+(q+j.toNat*n),Y⟩)) ?_ (.ptr A);simp[execOp,F,Instr.indexAt,Instr.sureAddr,cy H,I,l,asIntOf,p,rl E,tZ,aB]
  .cases f
 .cases f
theorem Ua {t:TypeId}{n i:Nat}(h:Cy P t=O b)(m:qF P t=O n){p q:Array Value}(d:F2 (VR μ) p.toList q.toList){u:Value}
  (f:(if b then O (.agg (p.extract i (i+n)))else p[i]?)=O u) (w:World): ∃g,(part t q i).run P w= .ok g w/\VR μ u g:=by
 cases b with
 |true=>
  simp at f;subst f;refine⟨.agg (q.extract i (i+n)),by simp[part,HF h,rl m], .agg ?_⟩;simpa[Array.toList_extract,List.extract_eq_take_drop]using(d.drop i).take n
 |false=>
  simp at f;obtain⟨g,j,l⟩:=d.get i u (by simpa using f);exact⟨g,yA h (by simpa using j) w,l⟩
theorem Yr {t:TypeId}{i n:Nat}{f:Field}(z:o.op= .field t x i)(D:P.underlying t=O (.struct fs))(s:fs[i]?=O f)(u:qF P f.type=O n)(l:Cy P f.type=O b)(E:cm x=Za)(d:(AOp.fieldV f.offset n b x).run e Z=O (v,Z'))(m:di μ N e a.tmps)(j:R B μ Z w):kr P o a w B μ v Z':=by
 have h:=m.ev E;simp only[AOp.run]at d;split at d
 .rename_i p A;rw[A]at h;obtain⟨q,C,r⟩:=h.agg_inv
  have:Z'=Z/\(if b then O (.agg (p.extract f.offset (f.offset+n)))else p[f.offset]?)=O v:=by
   cases b
   .simp at d;obtain⟨_,g,rfl,rfl⟩:=d;exact⟨rfl,by simpa using g⟩
   .simp at d;exact⟨d.2.symm,by simp[d.1]⟩
  obtain⟨rfl,g⟩:=this;obtain⟨I,F,H⟩:=Ua l u r g w;exact .same j (by simp[execOp,z,Instr.field,cy D,s,C,asAgg,F]) H
 .cases d
theorem Yt {t d:TypeId}{m n:Nat}(H:o.op= .index t x i)(K:P.underlying t=O (.array m d))(A:qF P d=O n)(D:Cy P d=O b)(L:cm x=Za)(E:cm i=Za)(f:(AOp.indexV m n b x i).run e Z=O (v,Z'))(z:di μ N e a.tmps)(C:R B μ Z w):kr P o a w B μ v Z':=by
 have h:=z.ev L;have u:=z.ev E;simp only[AOp.run]at f;split at f
 .rename_i p k j I F;rw[I]at h;rw[F]at u;have l:=u.int_inv;obtain⟨q,J,r⟩:=h.agg_inv;split at f
  .rename_i s
   have:Z'=Z/\(if b then O (.agg (p.extract (j.toNat*n) (j.toNat*n+n)))else p[j.toNat*n]?)=O v:=by
    cases b
    .simp at f;obtain⟨_,g,rfl,rfl⟩:=f;exact⟨rfl,by simpa using g⟩
    .simp at f;exact⟨f.2.symm,by simp[f.1]⟩
   obtain⟨rfl,g⟩:=this;obtain⟨S,M,Q⟩:=Ua D A r g w;exact .same C (by simp[execOp,H,Instr.index,cy K,J,l,asIntOf,s,rl A,M]) Q
  .cases f
 .cases f
theorem Ys {t:TypeId}(z:o.op= .index t x i)(C:P.underlying t=O .string)(D:cm x=Za)(r:cm i=Za)(d:(AOp.indexS x i).run e Z=O (v,Z'))(m:di μ N e a.tmps)(p:R B μ Z w):kr P o a w B μ v Z':=by
 have h:=m.ev D;have l:=m.ev r;simp only[AOp.run]at d;split at d
 .rename_i s k j A u;rw[A]at h;rw[u]at l;have f:=l.int_inv;have g:=h.string_inv;split at d
  .rename_i n;obtain⟨c,q,d⟩:=Option.map_eq_some_iff.1 d;simp only[Prod.mk.injEq]at d;obtain⟨rfl,rfl⟩:=d;exact .same p (by simp[execOp,z,Instr.index,cy C,g,f,asIntOf,n,q]) (.int _ _)
  .cases d
 .cases d
theorem VC {i:Nat}(q:o.op= .extract x i)(z:cm x=Za)(d:(AOp.extract x i).run e Z=O (v,Z'))(n:di μ N e a.tmps)(l:R B μ Z w):kr P o a w B μ v Z':=by
 have h:=n.ev z;simp only[AOp.run]at d;split at d
 .rename_i p s;rw[s]at h;generalize t:a.eval x=u at h;cases h with
  |tuple r=>
   obtain⟨c,m,d⟩:=Option.map_eq_some_iff.1 d;simp only[Prod.mk.injEq]at d;obtain⟨rfl,rfl⟩:=d;obtain⟨A,g,j⟩:=r.get i c (by simpa using m);have f:_:=g;rw[Array.getElem?_toList]at f;exact .same l (by simp[execOp,q,Instr.extract,t,f]) j
 .cases d
end
end
section
open List renaming getElem?_eq_none -> bB, length_cons -> bD
open Result renaming andThen_ok -> aB
open Sem renaming run_bind -> aD
open Go.RowKit
section
variable {P:Program} {o:Oper} {a:Act} {w:World} {B:Base P} {N:Nat} {μ:Mu} {e:cj} {Z Z':Hp} {v:Value}
theorem JP (d:Nat): ∀(vs:List Value) (k:Nat) (cells:Array Value),d+k+vs.length<=cells.size->
  ((vs.zipIdx k).foldl (λcs (p:Value×Nat)=>cs.setIfInBounds (d+p.2) p.1) cells).toList=cells.toList.take (d+k)++vs++cells.toList.drop (d+k+vs.length)
 |[],k,cells,_=>by simp
 |v::vs,k,cells,h=>by
  simp only[bD]at h;rw[List.zipIdx_cons,List.foldl_cons,JP d vs (k+1) _ (by simp;omega)];have f:d+k<cells.toList.length:=by simp;omega
  simp only[Array.toList_setIfInBounds,bD];rw[List.take_set,List.drop_set_of_lt (by omega)];rw[show d+(k+1)=d+k+1 from by omega,List.take_add_one,show d+k+1+vs.length=d+k+(vs.length+1)from by omega]
  have g:(cells.toList.take (d+k)++(cells.toList[d+k]?).toList).set (d+k) v=cells.toList.take (d+k)++[v]:=by
   rw[List.getElem?_eq_getElem f];rw[List.set_append_right _ _ (by simp;omega)];have:d+k-(List.take (d+k) cells.toList).length=0:=by rw[List.length_take];omega
   rw[this];simp
  rw[g];simp
theorem VX (d:Nat)(vs:Array Value)(cells:Array Value)(h:d+vs.size<=cells.size):
  (vs.zipIdx.foldl (λcs (c,j)=>cs.setIfInBounds (d+j) c) cells).toList=cells.toList.take d++vs.toList++cells.toList.drop (d+vs.size):=by
 have:=JP d vs.toList 0 cells (by simpa using h);rw[<-Array.foldl_toList,Array.toList_zipIdx];simpa using this
theorem AY {g:Nat->Option (Nat×Nat)}(A:di μ N e a.tmps): ∀(f:List (Nat×Operand)) (d:List (Nat×Nat×Operand)) (z:List Value) (q:Array Value) (cs:List Value),yT g f=O d->
  Gt z (d.map λ(o,s,x)=>(o,s,e.ev x))=O cs->F2 (VR μ) z q.toList->∃h,Instr.fill g q (f.map λ(i,x)=>(i,a.eval x))=O h/\F2 (VR μ) cs h.toList
 |[],d,z,q,cs,l,p,t=>by
  simp[yT]at l;subst l;simp[Gt]at p;subst p;exact⟨q,rfl,t⟩
 |(i,x)::r,d,z,q,cs,l,p,t=>by
  simp only[yT]at l;split at l
  .rename_i u n Q M D E F;injection l with l
   subst l;obtain⟨rfl,K⟩:=aq E;simp only[List.map_cons,Gt]at p;split at p
   .rename_i J;have C:=(A.ev K).cells;have m:(a.eval x).cells.size=n:=by rw[<-J.1,C.length];simp
    have L:z.length=q.size:=by simpa using t.length
    obtain⟨h,H,I⟩:=AY A r M _ ((a.eval x).cells.zipIdx.foldl (λcs (c,j)=>cs.setIfInBounds (u+j) c) q) cs F p (by
     rw[VX _ _ _ (by omega),m]
     exact((t.take _).append C).append (t.drop _))
    refine⟨h, ?_,I⟩;simp only[List.map_cons,Instr.fill,D,m];rw[zF (by simp;omega)];exact H
   .cases p
  .cases l
theorem TZ {α β:Type}(P:Program)(w:World)(f:α->Sem β)(g:α->β): ∀(l:List α),(∀x∈l,(f x).run P w= .ok (g x) w)->(l.mapM f).run P w= .ok (l.map g) w
 |[],_=>by simp
 |x::l,h=>by
  have:=TZ P w f g l (λy d=>h y (by simp[d]));simp[List.mapM_cons,h x (by simp),this]
theorem L3 {t:TypeId}{d:Array (Nat×Operand)}{z:List Value}{r:List (Nat×Nat×Operand)}(L:o.op= .build t d)(Q:P.underlying t=O (.struct fs))(S:sS P t=O z)
  (g:(fs.toList.all λf=>(qF P f.type).isSome)=Za) (M:yT (JF P fs) d.toList=O r) (j:(AOp.build z r).run e Z=O (v,Z')) (H:di μ N e a.tmps) (F:R B μ Z w):kr P o a w B μ v Z':=by
 obtain⟨T,A,s,C⟩:=rb S;simp only[AOp.run]at j;obtain⟨u,I,j⟩:=Option.map_eq_some_iff.1 j;simp only[Prod.mk.injEq]at j;obtain⟨rfl,rfl⟩:=j;obtain⟨m,D,E⟩:=AY H d.toList r z T.cells u M I (s▸VR.plainCells (s▸C))
 have K:(fs.mapM λf=>(do pure (f.offset,<-sizeOf f.type):Sem (Nat×Nat))).run P w= .ok (fs.map λf=>(f.offset,(qF P f.type).getD 0)) w:=by
  rw[Array.mapM_eq_mapM_toList]
  have:=TZ P w (λf:Field=>(do pure (f.offset,<-sizeOf f.type):Sem (Nat×Nat))) (λf=>(f.offset,(qF P f.type).getD 0)) fs.toList (λf p=>by
   have:=List.all_eq_true.1 g f p;obtain⟨n,l⟩:=Option.isSome_iff_exists.1 this
   simp[rl l,l])
  simp only[Sem.run_map,this,aB];rw[<-Array.toList_map]
 have q:(λi=>(fs.map λf=>(f.offset,(qF P f.type).getD 0))[i]?)=JF P fs:=by
  funext i
  unfold JF;rw[Array.getElem?_map];cases J:fs[i]? with
  |none=>rfl
  |some f=>
   have h:f∈fs.toList:=by
    have:=Array.mem_of_getElem? J;simpa using this
   obtain⟨n,l⟩:=Option.isSome_iff_exists.1 (List.all_eq_true.1 g f h);simp[l]
 refine .same F (v':= .agg m) ?_ (.agg (by simpa using E));simp only[execOp,L,Instr.build,aD,A,aB,cy Q,K,q];rw[Array.toList_map];simp only[D];rfl
theorem NT {t d:TypeId}{m n:Nat}{f:Array (Nat×Operand)}{z:List Value}{j:List (Nat×Nat×Operand)}(F:o.op= .build t f)(I:P.underlying t=O (.array m d))(E:qF P d=O n)(J:sS P t=O z)
  (H:yT (λi=>O (i*n,n)) f.toList=O j) (g:(AOp.build z j).run e Z=O (v,Z')) (C:di μ N e a.tmps) (A:R B μ Z w):kr P o a w B μ v Z':=by
 obtain⟨K,q,l,r⟩:=rb J;simp only[AOp.run]at g;obtain⟨p,D,g⟩:=Option.map_eq_some_iff.1 g;simp only[Prod.mk.injEq]at g;obtain⟨rfl,rfl⟩:=g;obtain⟨h,s,u⟩:=AY C f.toList j z K.cells p H D (l▸VR.plainCells (l▸r));refine .same A (v':= .agg h) ?_ (.agg (by simpa using u));simp only[execOp,F,Instr.build,aD,q,aB,cy I,rl E];rw[Array.toList_map];simp only[s];rfl
theorem Oq (z:Array Value)(n:Nat)(j:0<z.size):((Array.range (n*z.size)).map (λi=>z[i % z.size]!)).toList=eg z.toList n:=by
 unfold eg;apply List.ext_getElem?;intro i;have d:(List.replicate n z.toList).flatten.length=n*z.size:=by simp
 by_cases g:i<n*z.size
 .have h:((Array.range (n*z.size)).map (λi=>z[i % z.size]!)).toList[i]?=O (z[i % z.size]'(Nat.mod_lt _ j)):=by
   simp[g,Nat.mod_lt _ j]
  rw[h];clear h;induction n generalizing i with
  |zero=>simp at g
  |succ n p=>
   rw[List.replicate_succ,List.flatten_cons];by_cases f:i<z.size
   .rw[List.getElem?_append_left (by simpa using f)];simp[Nat.mod_eq_of_lt f,f]
   .rw[List.getElem?_append_right (by simpa using f)];have l:=p (i-z.size) (by simp) (by rw[Nat.succ_mul]at g;omega);rw[Array.length_toList,<-l];have m:i % z.size=(i-z.size) % z.size:=by rw[Nat.mod_eq_sub_mod (by omega)]
    simp only[m]
 .rw[bB (by simp;omega),bB (by rw[d];omega)]
theorem A6 (z:List Value)(n:Nat):(eg z n).length=n*z.length:=by simp[eg]
theorem G4 {z:List Value}(h:z.all Bg=Za)(n:Nat):(eg z n).all Bg=Za:=by
 unfold eg;rw[List.all_eq_true]at*;intro x d;simp only[List.mem_flatten,List.mem_replicate]at d;obtain⟨l,⟨_,rfl⟩,d⟩:=d;exact h x d
theorem O9 {t d:TypeId}{f n:Nat}{g:Array (Nat×Operand)}{z:List Value}{l:List (Nat×Nat×Operand)}(ho:o.op= .buildSlice t f g)(hu:P.underlying t=O (.slice d))(hn:qF P d=O n)(hz:sS P d=O z)
  (S:f*n<=16777216) (C:z.length=n) (h0:0<n)
  (hp:yT (λi=>O (i*n,n)) g.toList=O l) (r:(AOp.buildSlice n f z l).run e Z=O (v,Z')) (he:di μ N e a.tmps) (X:R B μ Z w):kr P o a w B μ v Z':=by
 obtain⟨s,V,K,W⟩:=rb hz;simp only[AOp.run]at r;split at r
 .rename_i F Q;split at r
  .simp only[Option.some.injEq,Prod.mk.injEq]at r;obtain⟨rfl,rfl⟩:=r;have I:s.cells.size=n:=by rw[<-C,<-K];simp[cellsOf]
   have H:s.cells.toList=z:=K
   have j: ∀D:Array Value,(f*n=0->D= #[])->(f*n≠0->D=s.cells)->((Array.range (f*n)).map (λi=>D[i % D.size]!)).toList=eg z f:=by
    intro D T U;by_cases q:f*n=0
    .have:f=0:=by
      rcases Nat.mul_eq_zero.1 q with h|h
      .exact h
      .omega
     subst this;simp[eg]
    .rw[U q,<-I,Oq _ _ (by omega),H]
   have J:F2 (VR μ) (eg z f) (eg z f):=VR.plainCells (G4 W f);obtain⟨u,L,M⟩:=AY he g.toList l (eg z f) (eg z f).toArray F hp Q (by simpa using J)
   have A:u.size=f*n:=by
    have T:F.length=f*n:=by
     have: ∀(l:List (Nat×Nat×Value)) (x y:List Value),Gt x l=O y->y.length=x.length:=by
      intro l;induction l with
      |nil=>intro x y h;simp[Gt]at h;rw[h]
      |cons p l ih=>
       obtain⟨p1,p2,p3⟩:=p;intro x y h;simp only[Gt]at h;split at h
       .rename_i E;rw[ih _ _ h];simp;omega
       .cases h
     rw[this _ _ _ Q,A6,C]
    have:=M.length;simp at this;omega
   refine .new X u d F n (.slice (O ⟨w.heap.size,0,Y⟩) f f) M ?_ (λh=>VR.slice (o:=0) h (Nat.le_refl _) (Nat.le_refl _) (by simp[A]));simp only[execOp,ho,Instr.buildSlice,aD,cy hu,aB,rl hn];rw[Zh];by_cases q:f*n=0
   .have E:=j #[] (λ_=>rfl) (λh=>absurd q h);have m:(Array.range (f*n)).map (λi=>(#[]:Array Value)[i % (#[]:Array Value).size]!)=(eg z f).toArray:=by rw[<-E]
    rw[zE q];simp only[aD,Sem.run_pure,aB,m];rw[Array.toList_map];simp[L,newRow]
   .have E:=j s.cells (λh=>absurd h q) (λ_=>rfl);have m:(Array.range (f*n)).map (λi=>s.cells[i % s.cells.size]!)=(eg z f).toArray:=by rw[<-E]
    rw[zF q];simp only[V,aD,Sem.run_pure,aB,m];rw[Array.toList_map];simp[L,newRow]
  .cases r
 .cases r
end
end
section
open Bool renaming false_eq_true -> fB, or_eq_true -> fD
open Builtin renaming len_ -> dB
open Nat renaming le_refl -> aB, add_assoc -> dD, add_mul -> eD
open Option renaming map_some -> cB, map_none -> cD
open Result renaming andThen_ok -> aD
open Sem renaming run_bind -> bB, run_pure -> bD
open Go.RowKit
section
variable {P:Program} {o:Oper} {a:Act} {w:World} {B:Base P} {N:Nat} {μ:Mu} {e:cj} {Z Z':Hp} {v:Value}
theorem VR.nils_inv {n c:Nat}{v':Value}(h:VR μ (.slice Y n c) v'):v'= .slice Y 0 0/\n=0/\c=0:=by cases h;exact⟨rfl,rfl,rfl⟩
theorem WO {x d:Value}{n:Nat}(h:FK x=O n)(f:VR μ x d):FK d=O n:=by
 cases f<;>simp_all [FK,WX,ylV]
theorem gw {b:Builtin}(f:o.op= .call c)(d:c.callee= .builtin b)(w:World):
  ∃cs,(execOp a.eval o).run P w=(builtin b c.argTypes o.type cs (c.args.map a.eval)).run P w:=by
 refine⟨c.args.map λ| .const _=>Za|_=>Zb, ?_⟩;simp only[execOp,f,resolve,d,invoke,bB,bD,aD];rfl
theorem UV {α:Type}{c:Array α}{x:α}(h:c.toList=[x]):c= #[x]:=by rw[<-Array.toList_inj];simpa using h
theorem MY {α:Type}{c:Array α}{x y:α}(h:c.toList=[x,y]):c= #[x,y]:=by rw[<-Array.toList_inj];simpa using h
theorem DA {α:Type}{c:Array α}{x:α}{r:List α}(h:c.toList=x::r):c[0]?=O x:=by rw[<-Array.getElem?_toList,h];rfl
theorem aP4 {t u:TypeId}{ts:List TypeId}(s:o.op= .call c)(q:c.callee= .builtin .len)(m:c.args.toList=[x])(A:c.argTypes.toList=t::ts)(C:P.underlying t=O (.slice u))
  (D:cm x=Za) (f:(AOp.len x).run e Z=O (v,Z')) (r:di μ N e a.tmps) (l:R B μ Z w):kr P o a w B μ v Z':=by
 have h:=r.ev D;simp only[AOp.run]at f;split at f
 .rename_i p n F z;simp only[Option.some.injEq,Prod.mk.injEq]at f;obtain⟨rfl,rfl⟩:=f;rw[z]at h
  have: ∃j d,a.eval x= .slice j n d:=by
   generalize a.eval x=y at h;cases h<;>exact⟨_,_,rfl⟩
  obtain⟨j,d,E⟩:=this;obtain⟨H,g⟩:=gw (P:=P) (a:=a) s q w;refine .same l ?_ (.int .i64 n);simp[g,builtin,dB,UV m,DA A,E,cy C,goInt]
 .cases f
theorem aA9 {t u:TypeId}(n:o.op= .call c)(l:c.callee= .builtin .cap)(j:c.args.toList=[x])(r:c.argTypes.toList=[t])(s:P.underlying t=O (.slice u))
  (z:cm x=Za) (d:(AOp.capN x).run e Z=O (v,Z')) (m:di μ N e a.tmps) (g:R B μ Z w):kr P o a w B μ v Z':=by
 have h:=m.ev z;simp only[AOp.run]at d;split at d
 .rename_i p;simp only[Option.some.injEq,Prod.mk.injEq]at d;obtain⟨rfl,rfl⟩:=d;rw[p]at h;obtain⟨q,_,_⟩:=h.nils_inv;obtain⟨A,f⟩:=gw (P:=P) (a:=a) n l w;refine .same g ?_ (.int .i64 0);simp[f,builtin,Builtin.cap_,UV j,UV r,q,cy s,goInt]
 .cases d
theorem aB5 {t:TypeId}{ts:List TypeId}(n:o.op= .call c)(l:c.callee= .builtin .len)(j:c.args.toList=[x])(q:c.argTypes.toList=t::ts)(r:P.underlying t=O .string)
  (u:cm x=Za) (d:(AOp.lenS x).run e Z=O (v,Z')) (m:di μ N e a.tmps) (g:R B μ Z w):kr P o a w B μ v Z':=by
 have h:=m.ev u;simp only[AOp.run]at d;split at d
 .rename_i s p;simp only[Option.some.injEq,Prod.mk.injEq]at d;obtain⟨rfl,rfl⟩:=d;rw[p]at h;obtain⟨z,f⟩:=gw (P:=P) (a:=a) n l w;refine .same g ?_ (.int .i64 s.size);simp[f,builtin,dB,UV j,DA q,h.string_inv,cy r,goInt]
 .cases d
theorem W7 {t:TypeId}{ts:List TypeId}{m:Nat}(r:o.op= .call c)(q:c.callee= .builtin .len)(h:c.args.toList=[x])(l:c.argTypes.toList=t::ts)
  (f:(∃u,P.underlying t=O (.array m u))∨∃p u,P.underlying t=O (.pointer p)/\P.underlying p=O (.array m u))
  (j:(AOp.lenC m).run e Z=O (v,Z')) (n:R B μ Z w):kr P o a w B μ v Z':=by
 simp only[AOp.run,Option.some.injEq,Prod.mk.injEq]at j;obtain⟨rfl,rfl⟩:=j;obtain⟨z,d⟩:=gw (P:=P) (a:=a) r q w;refine .same n ?_ (.int .i64 m);rcases f with⟨u,f⟩|⟨p,u,f,s⟩
 .cases g:a.eval x<;>simp[d,builtin,dB,UV h,DA l,cy f,goInt,g]
 .cases g:a.eval x<;>simp[d,builtin,dB,UV h,DA l,cy f,cy s,goInt,g]
theorem aB8 (u:o.op= .call c)(t:c.callee= .builtin .max)(s:c.args.toList=[x,y])(A:cm x=Za)(C:cm y=Za)(d:(AOp.most x y).run e Z=O (v,Z'))(g:di μ N e a.tmps)(r:R B μ Z w):kr P o a w B μ v Z':=by
 simp only[AOp.run]at d;obtain⟨z,j,d⟩:=Option.map_eq_some_iff.1 d;simp only[Prod.mk.injEq]at d;obtain⟨rfl,rfl⟩:=d;have h:=g.ev A;have n:=g.ev C;generalize e.ev x=p at*;generalize e.ev y=q at*;cases p<;>cases q<;>simp[We]at j;subst j;have l:=h.int_inv;have m:=n.int_inv;obtain⟨D,f⟩:=gw (P:=P) (a:=a) u t w;exact .same r (by simp[f,builtin,Builtin.max_,MY s,l,m,Builtin.max2]) (.int _ _)
theorem aj3 (u:o.op= .call c)(t:c.callee= .builtin .min)(s:c.args.toList=[x,y])(A:cm x=Za)(C:cm y=Za)(d:(AOp.least x y).run e Z=O (v,Z'))(g:di μ N e a.tmps)(r:R B μ Z w):kr P o a w B μ v Z':=by
 simp only[AOp.run]at d;obtain⟨z,j,d⟩:=Option.map_eq_some_iff.1 d;simp only[Prod.mk.injEq]at d;obtain⟨rfl,rfl⟩:=d;have h:=g.ev A;have n:=g.ev C;generalize e.ev x=p at*;generalize e.ev y=q at*;cases p<;>cases q<;>simp[RQ]at j;subst j;have l:=h.int_inv;have m:=n.int_inv;obtain⟨D,f⟩:=gw (P:=P) (a:=a) u t w;exact .same r (by simp[f,builtin,Builtin.min_,MY s,l,m,Builtin.min2]) (.int _ _)
theorem SG {y d:Nat}{x:Option Operand}{n:Nat}(p: ∀u,x=O u->cm u=Za)(h:rX y d (x.map e.ev)=O n)(l:di μ N e a.tmps):
  match x with
  |none=>n=d
  |some u=> ∃k i,a.eval u= .int k i/\0<=i/\i<=y/\n=i.toNat:=by
 cases x with
 |none=>simp[rX]at h;exact h.symm
 |some u=>
  have j:=l.ev (p u rfl);simp only[cB]at h;unfold rX at h;split at h
  .rename_i k i g;simp only[Option.some.injEq]at g;split at h
   .rename_i f;rw[g]at j;exact⟨k,i,j.int_inv,f.1,f.2,by simpa using h.symm⟩
   .cases h
  .cases h
  .rename_i m;cases m
theorem Kg {s:Bool}{ln g d:Nat}{j:Option Operand}{h l:Nat}(t: ∀u,lo=O u->cm u=Za)(r: ∀u,j=O u->cm u=Za)
  (F:rX g ln (j.map e.ev)=O h) (H:rX h 0 (lo.map e.ev)=O l) (D:g<=d) (E:di μ N e a.tmps) (w:World):
  (Instr.sliceBounds s ln d (lo.map a.eval) (j.map a.eval) Y).run P w= .ok (l,h,d) w:=by
 have m:=SG r F E;have f:=SG t H E;unfold Instr.sliceBounds;cases j with
 |none=>
  simp only at m;subst m;cases lo with
  |none=>simp only at f;subst f;simp
  |some u=>
   obtain⟨k,i,n,p,q,rfl⟩:=f;simp[n,Instr.sliceBound,asIntOf,p,q]
 |some L=>
  obtain⟨K,I,z,A,J,rfl⟩:=m;have C:I<=(d:Int):=by omega
  cases lo with
  |none=>simp only at f;subst f;simp[z,Instr.sliceBound,asIntOf,A,C]
  |some u=>
   obtain⟨k,i,n,p,q,rfl⟩:=f;simp only[cB,n,z,Instr.sliceBound,asIntOf,bB,bD,aD];rw[zE ⟨A,C⟩];simp only[bD,aD];rw[zE ⟨p,q⟩];rfl
theorem M4 {y d n:Nat}{x:Option Value}(h:rX y d x=O n):n<=y∨(x=Y/\n=d):=by
 unfold rX at h;split at h
 .split at h
  .rename_i f;simp at h;left;omega
  .cases h
 .cases h
 .right;exact⟨rfl,by simpa using h.symm⟩
theorem A9 {ln d:Nat}{n:Option Operand}{h l:Nat}(p:ln<=d)(m:rX d ln (n.map e.ev)=O h)(g:rX h 0 (lo.map e.ev)=O l):l<=h/\h<=d:=by
 rcases M4 m with j|⟨_,j⟩
 .rcases M4 g with f|⟨_,f⟩<;>omega
 .rcases M4 g with f|⟨_,f⟩<;>omega
theorem aj8 {t d:TypeId}{n:Nat}{V:Option Operand}(ho:o.op= .slice t x lo V Y)(hu:P.underlying t=O (.slice d))(hn:qF P d=O n)(hx:cm x=Za)(X: ∀u,lo=O u->cm u=Za)(U: ∀u,V=O u->cm u=Za)
  (r:(AOp.slice n x lo V).run e Z=O (v,Z')) (he:di μ N e a.tmps) (I:R B μ Z w):kr P o a w B μ v Z':=by
 have S:=he.ev hx;simp only[AOp.run]at r;split at r
 .rename_i p Q F hp;split at r
  .rename_i hcut;split at r
   .rename_i h L;split at r
    .rename_i l D;simp only[Option.some.injEq,Prod.mk.injEq]at r;obtain⟨rfl,rfl⟩:=r;rw[hp]at S
     have z: ∀(T:Option Addr) (f:Nat),a.eval x= .slice T Q f->F<=f->
       (execOp a.eval o).run P w= .ok (.value (.slice (if f=l then T else T.map (·.add (l*n))) (h-l) (f-l))) w:=by
      intro T f hy W;have hb:=Kg (P:=P) (s:=Za) X U L D W he w;simp only[execOp,ho,Instr.sliceAt,bB,cy hu,aD,Instr.slice,hy,cD,hb,rl hn,bD]
     cases p with
     |none=>
      obtain⟨M,rfl,rfl⟩:=S.nils_inv;have:=A9 (aB _) L D;refine .same I (z _ _ M (aB _)) ?_;have C:h=0:=by omega
      subst C;simp only[cD,ite_self];rw[show(0:Nat)-l=0 from by omega];exact .nils
     |some A=>
      generalize M:a.eval x=q at S;cases S with
      |slice j h2 h3 K=>
       rename_i b off f g;obtain⟨k1,k2⟩:=A9 h2 L D;refine .same I (z _ _ M h3) ?_;by_cases J:f=l
       .rw[zE J,J];rw[show l-l=0 from by omega,show F-l=0 from by omega,show h-l=0 from by omega];exact .slice0 _ j
       .rw[zF J];simp only[cB,Pd,tZ];rw[dD];refine .slice j (by omega) (by omega) ?_;cases lo with
        |none=>
         have:l=0:=by simpa[rX]using D.symm
         subst this;simpa using K
        |some u=>
         rw[fD]at hcut;rcases hcut with hcut|hcut
         .have:F=0:=by simpa using hcut
          have:l=0:=by omega
          subst this;simpa using K
         unfold Df at hcut;simp only at hcut;split at hcut
         .rename_i E m;have C:=(I.get m j.1).es;have H:E.es=n:=by simpa using hcut
          rw[C,H]at K⊢;have:l*n+(f-l)*n=f*n:=by rw[<-eD];congr 1;omega
          omega
         .cases hcut
      |slice0 A' j=>
       obtain⟨k1,k2⟩:=A9 (aB _) L D;refine .same I (z _ _ M (aB _)) ?_;have C:l=0:=by omega
       have H:h=0:=by omega
       subst C H;simp only[cB,if_true];exact .slice0 _ j
      |sliceX j K=>
       rename_i b off g;obtain⟨k1,k2⟩:=A9 (aB _) L D;refine .same I (z _ _ M (aB _)) ?_;by_cases J:Q=l
       .rw[zE J,J];rw[show l-l=0 from by omega,show h-l=0 from by omega];exact .slice0 _ j
       .rw[zF J];simp only[cB,Pd,tZ];rw[dD];refine .slice j (by omega) (by omega) ?_;cases lo with
        |none=>
         have:l=0:=by simpa[rX]using D.symm
         subst this;simpa using K
        |some u=>
         rw[fD]at hcut;rcases hcut with hcut|hcut
         .have:Q=0:=by simpa using hcut
          omega
         unfold Df at hcut;simp only at hcut;split at hcut
         .rename_i E m;have C:=(I.get m j.1).es;have H:E.es=n:=by simpa using hcut
          rw[C,H]at K⊢;have:l*n+(Q-l)*n=Q*n:=by rw[<-eD];congr 1;omega
          omega
         .cases hcut
      |sliceX0 A' j=>
       obtain⟨k1,k2⟩:=A9 (aB _) L D;refine .same I (z _ _ M (aB _)) ?_;have C:l=0:=by omega
       have H:h=0:=by omega
       subst C H;simp only[cB,if_true];exact .slice0 _ j
    .cases r
   .cases r
  .cases r
 .cases r
theorem Yv {t d:TypeId}{H L:Operand}(ho:o.op= .slice t x Y (O H) (O L))(hu:P.underlying t=O (.slice d)){n:Nat}(hn:qF P d=O n)(hx:cm x=Za)(hhi:cm H=Za)(hmx:cm L=Za)
  (l:(AOp.sliceX x H L).run e Z=O (v,Z')) (X:di μ N e a.tmps) (W:R B μ Z w):kr P o a w B μ v Z':=by
 have M:=X.ev hx;have J:=X.ev hhi;have K:=X.ev hmx;simp only[AOp.run]at l;split at l
 .rename_i p ln E hp;split at l
  .rename_i m u;split at l
   .rename_i h r;split at l
    .rename_i heq;subst heq
     have hm': ∃S C,e.ev L= .int S C/\0<=C/\C<=E/\h=C.toNat:=by
      unfold rX at u;split at u
      .rename_i S C j;injection j with j
       split at u
       .rename_i F;injection u with u
        exact⟨S,C,j,F.1,F.2,u.symm⟩
       .cases u
      .cases u
      .rename_i j;cases j
     obtain⟨S,C,q1,q2,q3,q4⟩:=hm'
     have hh': ∃Q z,e.ev H= .int Q z/\0<=z/\z<=h/\h=z.toNat:=by
      unfold rX at r;split at r
      .rename_i Q z j;injection j with j
       split at r
       .rename_i F;injection r with r
        exact⟨Q,z,j,F.1,F.2,r.symm⟩
       .cases r
      .cases r
      .rename_i j;cases j
     obtain⟨Q,z,r1,r2,r3,r4⟩:=hh';rw[q1]at K;rw[r1]at J;have v1:=K.int_inv;have v2:=J.int_inv;rw[hp]at M
     have D: ∀(T:Option Addr) (f:Nat),a.eval x= .slice T ln f->E<=f->
       (execOp a.eval o).run P w= .ok (.value (.slice T h h)) w:=by
      intro T f hy hle;have e1:z=(h:Int):=by omega
      have e2:C=(h:Int):=by omega
      subst e1 e2;have I:h<=f:=by omega
      have hb:(Instr.sliceBounds Za ln f Y (O (a.eval H)) (O (a.eval L))).run P w= .ok (0,h,h) w:=by
       simp[Instr.sliceBounds,Instr.sliceBound,asIntOf,v1,v2,I]
      simp only[execOp,ho,Instr.sliceAt,bB,cy hu,aD,Instr.slice,hy,cD,cB,hb,rl hn,bD,Nat.zero_mul,Nat.sub_zero]
      congr 3
      split
      .rfl
      .cases T with
       |none=>rfl
       |some A=>simp[Addr.add]
     cases p with
     |none=>
      obtain⟨j,rfl,rfl⟩:=M.nils_inv;simp only[Option.some.injEq,Prod.mk.injEq]at l;obtain⟨rfl,rfl⟩:=l;have U:h=0:=by omega
      refine .same W (D _ _ j (aB _)) ?_;rw[U];exact .nils
     |some A=>
      obtain⟨b,off,s⟩:=A;cases s with
      |some _=>cases l
      |none=>
       simp only[Option.some.injEq,Prod.mk.injEq]at l;obtain⟨rfl,rfl⟩:=l;generalize j:a.eval x=q at M;cases M with
       |slice V h2 h3 h4=>
        rename_i f g;refine .same W (D _ _ j h3) (.sliceX V ?_);have:h*g.es<=f*g.es:=Nat.mul_le_mul_right _ (by omega);omega
       |slice0 A' V=>
        have U:h=0:=by omega
        refine .same W (D _ _ j (aB _)) ?_;rw[U];exact .sliceX0 _ V
    .cases l
   .cases l
  .cases l
 .cases l
theorem Tz {t:TypeId}{g:Option Operand}(A:o.op= .slice t x lo g Y)(D:P.underlying t=O .string)(E:cm x=Za)(j: ∀u,lo=O u->cm u=Za)(f: ∀u,g=O u->cm u=Za)
  (d:(AOp.sliceStr x lo g).run e Z=O (v,Z')) (m:di μ N e a.tmps) (p:R B μ Z w):kr P o a w B μ v Z':=by
 have n:=m.ev E;simp only[AOp.run]at d;split at d
 .rename_i s C;split at d
  .rename_i h r;split at d
   .rename_i l z;simp only[Option.some.injEq,Prod.mk.injEq]at d;obtain⟨rfl,rfl⟩:=d;rw[C]at n;have q:=Kg (P:=P) (s:=Zb) j f r z (aB _) m w;refine .same p (v':= .string (s.extract l h)) ?_ (.string _);simp only[execOp,A,Instr.sliceAt,bB,cy D,aD,Instr.slice,n.string_inv,cD,Option.isSome_none,fB,if_false,q,bD]
   .cases d
  .cases d
 .cases d
theorem Tx {t d:TypeId}{m n:Nat}{z:Option Operand}(S:o.op= .slice t x lo z Y)(U:P.underlying t=O (.array m d))(Q:qF P d=O n)(V:cm x=Za)(A: ∀u,lo=O u->cm u=Za)(r: ∀u,z=O u->cm u=Za)
  (f:(AOp.sliceArr n m x lo z).run e Z=O (v,Z')) (F:di μ N e a.tmps) (D:R B μ Z w):kr P o a w B μ v Z':=by
 have J:=F.ev V;simp only[AOp.run]at f;split at f
 .rename_i b C T;split at f
  .rename_i K j;split at f
   .rename_i E;split at f
    .rename_i h H;split at f
     .rename_i l I;split at f
      .rename_i M;simp only[Option.some.injEq,Prod.mk.injEq]at f;obtain⟨rfl,rfl⟩:=f;rw[T]at J;obtain⟨g,q,W⟩:=J.ptr_inv;obtain⟨X,k2⟩:=A9 (aB _) H I;have L:=Kg (P:=P) (s:=Zb) A r H I (aB _) F w;have p:=D.get j q.1;obtain⟨_,o2,_⟩:=p.own q.2 E.1;refine .same D (v':= .slice (O ⟨g.c,g.o+(C+l*n),Y⟩) (h-l) (m-l)) ?_ (.slice q (by omega) (aB _) ?_)
       .simp only[execOp,S,Instr.sliceAt,bB,cy U,aD,W,Instr.sureAddr,cD,L,rl Q,bD];rw[Zh,tZ,dD]
       .rw[p.es,E.2.1];have:l*n+(m-l)*n=m*n:=by rw[<-eD];congr 1;omega
        omega
      .cases f
     .cases f
    .cases f
   .cases f
  .cases f
 .cases f
theorem Rw {t d:TypeId}{n f:Nat}{z:List Value}(W:o.op= .makeSlice t x y)(X:P.underlying t=O (.slice d))(V:qF P d=O n)(Q:SH P d=O f)(hz:sS P d=O z)(hx:cm x=Za)(hy:cm y=Za)
  (r:z.length=n) (h0:0<n) (p:(AOp.makeSlice n f z x y).run e Z=O (v,Z')) (J:di μ N e a.tmps) (M:R B μ Z w):kr P o a w B μ v Z':=by
 have H:=J.ev hx;have I:=J.ev hy;obtain⟨s,K,F,L⟩:=rb hz;simp only[AOp.run]at p;split at p
 .rename_i k l k' c U S;split at p
  .rename_i j;obtain⟨c1,c2,c3,c4⟩:=j;simp only[Option.some.injEq,Prod.mk.injEq]at p;obtain⟨rfl,rfl⟩:=p;rw[U]at H;rw[S]at I;have v1:=H.int_inv;have v2:=I.int_inv;obtain⟨i,T,C⟩:=Option.map_eq_some_iff.1 Q;have w1:IntKind.i64.wrap l=l:=IntWalk.i64_in _ (by omega);have w2:IntKind.i64.wrap c=c:=IntWalk.i64_in _ (by omega);have E:s.cells.size=n:=by rw[<-r,<-F];simp[cellsOf]
   have D:s.cells.toList=z:=F;have q:(eg z c.toNat).toArray.size=c.toNat*n:=by simp[A6,r]
   refine .new M (eg z c.toNat).toArray d (eg z c.toNat) n (.slice (O ⟨w.heap.size,0,Y⟩) l.toNat c.toNat) ?_ ?_ (λh=>VR.slice (o:=0) h (by omega) (aB _) (by rw[q];simp))
   .simpa using VR.plainCells (G4 L _)
   .have ht: ¬((f:Int)*c > 281474976710656):=by omega
    have m: ∀w:World,(typeInfo d).run P w= .ok i w:=λw=>by simp[typeInfo,T]
    simp only[execOp,W,Instr.makeSlice,bB,cy X,aD,v1,v2,asInt,asIntOf,bD,m,C,w1,w2]
    have t1:(Zc (c<0)||Zc ((f:Int)*c > 2 ^ 48))=Zb:=by
     simp;omega
    have t2:(Zc (l<0))=Zb:=by simp;omega
    have t3:(Zc (l > c))=Zb:=by simp;omega
    simp only[t1,t2,t3,Bool.or_false,fB,if_false,bB,run_askRoom,aD,rl V];by_cases g:c.toNat*n=0
    .have u:c.toNat=0:=by
      rcases Nat.mul_eq_zero.1 g with h|h
      .exact h
      .omega
     have:(eg z c.toNat)=[]:=by rw[u];rfl
     rw[zE g,this,g];simp[newRow,show Array.range 0= #[]from rfl]
    .rw[zF g]
     have A:(Array.range (c.toNat*n)).map (λi=>s.cells[i % s.cells.size]!)=(eg z c.toNat).toArray:=by
      rw[<-D,<-Oq _ _ (by omega),E]
     simp only[bB,K,bD,aD,A];simp[newRow]
  .cases p
 .cases p
end
end
end Go.Ab
