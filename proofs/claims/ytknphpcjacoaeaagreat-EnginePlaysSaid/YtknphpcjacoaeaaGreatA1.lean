/- A part of the proof. No condition. -/
import Derived.Calls
import Derived.RowKit
import Derived.WalkKit
import Derived.Lib.ItoaMem
import Derived.Lib.FrozenHead
set_option linter.unusedVariables false
set_option linter.unusedSimpArgs false
set_option linter.unusedSectionVars false
namespace Go.Ab
open Option renaming some->O,none->Y
open Bool renaming true->Za,false->Zb
open Decidable renaming decide->Zc
abbrev Zd:=List Int
universe uU
theorem zA {p:Prop}{i:Decidable p}(h:¬p):@decide p i=Zb:=decide_eq_false h
theorem Ze {p:Prop}{i:Decidable p}(h:¬p:=by omega):@decide p i=Zb:=zA h
theorem zB {p:Prop}{i:Decidable p}(h:p):@decide p i=Za:=decide_eq_true h
theorem Zf {p:Prop}{i:Decidable p}(h:p:=by omega):@decide p i=Za:=zB h
theorem zC {α:Sort uU}{a b:α}:cond Za a b=a:=rfl
theorem zD {α:Sort uU}{a b:α}:cond Zb a b=b:=rfl
theorem zE {c:Prop}{h:Decidable c}(d:c){α:Sort uU}{t e:α}:ite c t e=t:=if_pos d
theorem Zg {c:Prop}{h:Decidable c}(d:c:=by omega){α:Sort uU}{t e:α}:ite c t e=t:=zE d
theorem zF {c:Prop}{h:Decidable c}(d:¬c){α:Sort uU}{t e:α}:ite c t e=e:=if_neg d
theorem Zh {c:Prop}{h:Decidable c}(d:¬c:=by omega){α:Sort uU}{t e:α}:ite c t e=e:=zF d
theorem zG {α β:Type uU}{a:α}{f:α->Option β}:(O a).bind f=f a:=rfl
variable {i x y:Operand}{b:Bool}{v v':Value}{op:BinOp}{w:World}{N:Nat}
section
open List renaming range -> aB
structure Blk where
 cells:List Value
 own:Bool
 es:Nat
structure Hp where
 m:Nat->Option Blk
 n:Nat
def Hp.set (Z:Hp)(b:Nat)(x:Option Blk):Hp:={m:=λi=>if i=b then x else Z.m i,n:=Z.n}
def Hp.add (Z:Hp)(x:Blk):Hp:={m:=λi=>if i=Z.n then O x else Z.m i,n:=Z.n+1}
abbrev cm :=Nat->Value
def cm.put (e:cm)(d:Nat)(v:Value):cm:=λi=>if i=d then v else e i
def cm.putO (e:cm)(d:Option Nat)(v:Value):cm:=match d with
 |some d=>e.put d v
 |none=>e
def cm.of (c:List Value):cm:=λi=>(c[i]?).getD undef
def cm.ev (e:cm):Operand->Value
 | .tmp t=>e t
 | .const v=>v
 | .global _=>undef
 | .func f=> .func (.func f) #[] #[]
inductive AExit where
 |normal
 |exit (id:Nat)
 |ret
inductive AOp where
 |move (x:Operand)
 |pick (c a b:Operand)
 |alloc (es:Nat) (zero:List Value)
 |box (es:Nat) (x:Operand)
 |build (zero:List Value) (parts:List (Nat×Nat×Operand))
 |buildSlice (es len:Nat) (zero:List Value) (parts:List (Nat×Nat×Operand))
 |load (x:Operand)
 |loadN (n:Nat) (x:Operand)
 |store (n:Nat) (a x:Operand)
 |nilCheck (x:Operand)
 |bin (op:BinOp) (x y:Operand)
 |eqv (kd:Nat) (neg:Bool) (x y:Operand)
 |eqCells (neg:Bool) (ks:List Nat) (x y:Operand)
 |un (op:UnOp) (x:Operand)
 |conv (k:IntKind) (x:Operand)
 |mkFunc (f:FuncId) (first captured:List Operand)
 |makeSlice (es bytes:Nat) (zero:List Value) (l c:Operand)
 |slice (es:Nat) (x:Operand) (lo hi:Option Operand)
 |sliceArr (es n:Nat) (x:Operand) (lo hi:Option Operand)
 |off (n:Nat) (x:Operand)
 |idx (es:Nat) (x i:Operand)
 |idxA (len es:Nat) (x i:Operand)
 |fieldV (off n:Nat) (agg:Bool) (x:Operand)
 |indexV (len es:Nat) (agg:Bool) (x i:Operand)
 |indexS (x i:Operand)
 |extract (x:Operand) (i:Nat)
 |call (f:FuncId) (args:List Operand)
 |callv (f:Operand) (args:List Operand)
 |append (es bytes:Nat) (s x:Operand)
 |appendZ (es bytes:Nat) (zero:List Value) (s x:Operand)
 |copy (es:Nat) (d s:Operand)
 |len (x:Operand)
 |lenC (n:Nat)
 |most (x y:Operand)
 |least (x y:Operand)
 |stuck
 |capN (x:Operand)
 |sliceX (x hi mx:Operand)
structure AOper where
 dst:Option Nat
 op:AOp
 guard:Option (Nat×Bool)
structure SItem where
 idx:Nat
 o:AOper
 mover:Bool
 keep:Bool
 chks:List Nat
inductive AC where
 |skip
 |region (ops:List AOper)
 |draw (ops:List (AOper×List Nat))
 |sched (its:List SItem)
 |seq (a b:AC)
 |cond (c:Operand) (thn els:AC)
 |block (id:Nat) (body:AC)
 |loop (body:AC)
 |exit (id:Nat)
 |ret
inductive ARes where
 |tmp (t:Nat)
 |cell (t:Nat)
 |cellN (t n:Nat)
structure AFn where
 ntmps:Nat
 results:List ARes
 body:AC
abbrev Tt :=List Value->Hp->(Value->Hp->Prop)->Prop
abbrev mE :=FuncId->Tt
def one :Value->Bool
 | .agg _| .tuple _=>Zb
 |_=>Za
def cellsOf (v:Value):List Value:=v.cells.toList
def uK (x:Blk)(o n:Nat):Option (List Value):=if o+n<=x.cells.length then O ((x.cells.drop o).take n)else Y
def oI (cells:List Value)(o:Nat):List Value->List Value
 |[]=>cells
 |v::c=>oI (cells.set o v) (o+1) c
def EK (x:Blk)(o:Nat)(vs:List Value):Option Blk:=
 if x.own=Za/\o+vs.length<=x.cells.length/\vs.all one=Za then O {cells:=oI x.cells o vs,own:=x.own,es:=x.es}else Y
def Hp.slice (Z:Hp)(es:Nat):Value->Nat->Option (List Value)
 | .slice (O ⟨b,o,Y⟩) _ _,n=>if n=0 then O []else match Z.m b with
  |some x=>uK x o (n*es)
  |none=>Y
 | .slice Y _ _,n=>if n=0 then O []else Y
 | .string s,n=>if es=1 then O (((s.extract 0 n).data.toList).map λb=> .int .u8 b.toNat)else Y
 |_,_=>Y
def JH :Value->Option Nat
 | .slice _ n _=>O n
 | .string s=>O s.size
 |_=>Y
def Io (cells:List Value):List (Nat×Nat×Value)->Option (List Value)
 |[]=>O cells
 |(d,c,v)::f=>
  if(cellsOf v).length=c/\d+c<=cells.length then Io (cells.take d++cellsOf v++cells.drop (d+c)) f else Y
def Y8 (op:BinOp)(k:IntKind)(x y:Int):Option Value:=
 match op with
 | .add=>O (.int k (k.wrap (x+y)))
 | .sub=>O (.int k (k.wrap (x-y)))
 | .mul=>O (.int k (k.wrap (x*y)))
 | .quo=>if y=0 then Y else O (.int k (k.wrap (x.tdiv y)))
 | .rem=>if y=0 then Y else O (.int k (x.tmod y))
 | .and=>O (.int k (k.wrap (BitVec.ofInt k.bits x&&& BitVec.ofInt k.bits y).toNat))
 | .or=>O (.int k (k.wrap (BitVec.ofInt k.bits x|||BitVec.ofInt k.bits y).toNat))
 | .xor=>O (.int k (k.wrap (BitVec.ofInt k.bits x ^^^ BitVec.ofInt k.bits y).toNat))
 | .andNot=>O (.int k (k.wrap (BitVec.ofInt k.bits x&&& ~~~BitVec.ofInt k.bits y).toNat))
 | .eql=>O (.bool (x==y))
 | .neq=>O (.bool (x !=y))
 | .lss=>O (.bool (x<y))
 | .leq=>O (.bool (x<=y))
 | .gtr=>O (.bool (x > y))
 | .geq=>O (.bool (x≥y))
 |_=>Y
def ac6 (op:BinOp)(x y:ByteArray):Option Value:=
 match op with
 | .add=>if((x.size+y.size:Nat):Int) > IntKind.i64.max then Y else O (.string (x++y))
 | .eql=>O (.bool (x.toList==y.toList))
 | .neq=>O (.bool !(x.toList==y.toList))
 | .lss=>O (.bool (Op.bytesLess x.toList y.toList))
 | .leq=>O (.bool (Op.bytesLess x.toList y.toList||x.toList==y.toList))
 | .gtr=>O (.bool !(Op.bytesLess x.toList y.toList||x.toList==y.toList))
 | .geq=>O (.bool !(Op.bytesLess x.toList y.toList))
 |_=>Y
def Qx (op:BinOp)(k:IntKind)(x y:Int):Option Value:=
 if y<0 then Y else match op with
 | .shl=>O (.int k (k.wrap (x*2 ^ (min y.toNat k.bits))))
 | .shr=>O (.int k (x.fdiv (2 ^ (min y.toNat k.bits))))
 |_=>Y
def zV :BinOp->Bool
 | .shl| .shr=>Za
 |_=>Zb
def ED (op:BinOp):Value->Value->Option Value
 | .int k a, .int c b=>if zV op=Za then Qx op k a b else if k=c then Y8 op k a b else Y
 | .string a, .string b=>if zV op=Za then Y else ac6 op a b
 |_,_=>Y
def VE :Nat->Value->Value->Option Bool
 |0, .bool a, .bool b=>O (a==b)
 |1, .pointer Y, .pointer b=>O b.isNone
 |1, .pointer (O _), .pointer Y=>O Zb
 |2, .slice Y _ _, .slice b _ _=>O b.isNone
 |2, .slice (O _) _ _, .slice Y _ _=>O Zb
 |3, .nilFunc, .nilFunc=>O Za
 |3, .nilFunc, .func _ _ _=>O Zb
 |3, .func _ _ _, .nilFunc=>O Zb
 |_,_,_=>Y
def Az :Nat->Value->Value->Option Bool
 |0, .bool a, .bool b=>O (a==b)
 |1, .int k a, .int c b=>if k=c then O (a==b)else Y
 |2, .string a, .string b=>O (a.toList==b.toList)
 |_,_,_=>Y
def nL :List Nat->List Value->List Value->Option Bool
 |[],[],[]=>O Za
 |k::c,a::r,b::s=>match Az k a b with
  |some true=>nL c r s
  |some false=>O Zb
  |none=>Y
 |_,_,_=>Y
def un1 :UnOp->Value->Option Value
 | .neg, .int k n=>O (.int k (k.wrap (0-n)))
 | .xor, .int k n=>O (.int k (k.wrap (BitVec.ofInt k.bits (if k.signed then-1 else k.max) ^^^ BitVec.ofInt k.bits n).toNat))
 | .not, .bool b=>O (.bool !b)
 |_,_=>Y
def bk3 :Value->Option Int
 | .int _ n=>O n
 |_=>Y
def tj (y:Nat)(d:Nat):Option Value->Option Nat
 |some (.int _ i)=>if 0<=i/\i<=y then O i.toNat else Y
 |some _=>Y
 |none=>O d
def UM :Value->Value->Option Value
 | .int k x, .int _ y=>O (.int k (if y<x then y else x))
 |_,_=>Y
def YF :Value->Value->Option Value
 | .int k x, .int _ y=>O (.int k (if y > x then y else x))
 |_,_=>Y
def Rw (a:Addr)(n:Nat):Addr:=⟨a.block,a.off+n,Y⟩
def EG (Z:Hp)(es:Nat)(a:Option Addr)(d:Option Operand):Bool:=match d,a with
 |none,_=>Za
 |_,Y=>Za
 |some _,O a=>match Z.m a.block with
  |some c=>c.es==es
  |none=>Zb
def eo (zero:List Value)(n:Nat):List Value:=(List.replicate n zero).flatten
def qM (es bytes:Nat)(Z:Hp)(a:Option Addr)(sl h n:Nat)(d:List Value):Option (Value×Hp):=if sl+n<=h then(match a with
      |some ⟨b,o,Y⟩=>if d=[]then O (.slice (O ⟨b,o,Y⟩) (sl+n) h,Z)else match Z.m b with
       |some c=>match EK c (o+sl*es) d with
        |some g=>O (.slice (O ⟨b,o,Y⟩) (sl+n) h,Z.set b (O g))
        |none=>Y
       |none=>Y
      |none=>if d=[]/\sl=0/\h=0/\n=0 then O (.slice Y 0 0,Z)else Y
      |_=>Y)
     else if(sl+n)*bytes<=140737488355328/\sl+n<=9223372036854775807/\d.all one=Za then(match a with
      |some ⟨b,o,Y⟩=>match Z.m b with
       |some c=>if c.own=Za/\c.es=es then match uK c o (sl*es)with
        |some f=>O (.slice (O ⟨Z.n,0,Y⟩) (sl+n) (sl+n),(Z.set b Y).add ⟨f++d,Za,es⟩)
        |none=>Y
        else Y
       |none=>Y
      |none=>if sl=0 then O (.slice (O ⟨Z.n,0,Y⟩) n n,Z.add ⟨d,Za,es⟩)else Y
      |some ⟨b,o,O _⟩=>if sl=0 then O (.slice (O ⟨Z.n,0,Y⟩) n n,Z.add ⟨d,Za,es⟩)else match Z.m b with
       |some c=>if c.es=es then match uK c o (sl*es)with
        |some f=>O (.slice (O ⟨Z.n,0,Y⟩) (sl+n) (sl+n),Z.add ⟨f++d,Za,es⟩)
        |none=>Y
        else Y
       |none=>Y)
     else Y
def AOp.run (e:cm)(Z:Hp):AOp->Option (Value×Hp)
 | .move x=>O (e.ev x,Z)
 | .pick c a b=>match e.ev c with
  | .bool true=>O (e.ev a,Z)
  | .bool false=>O (e.ev b,Z)
  |_=>Y
 | .alloc es zero=>O (.pointer (O ⟨Z.n,0,Y⟩),Z.add ⟨zero,Za,es⟩)
 | .box es x=>if(cellsOf (e.ev x)).all one then O (.pointer (O ⟨Z.n,0,Y⟩),Z.add ⟨cellsOf (e.ev x),Za,es⟩)else Y
 | .build zero q=>(Io zero (q.map λ(o,s,x)=>(o,s,e.ev x))).map λr=>(.agg r.toArray,Z)
 | .buildSlice es z zero q=>match Io (eo zero z) (q.map λ(o,s,x)=>(o,s,e.ev x))with
  |some r=>if r.all one then O (.slice (O ⟨Z.n,0,Y⟩) z z,Z.add ⟨r,Za,es⟩)else Y
  |none=>Y
 | .load x=>match e.ev x with
  | .pointer (O ⟨b,o,Y⟩)=>match Z.m b with
   |some p=>(p.cells[o]?).map λv=>(v,Z)
   |none=>Y
  |_=>Y
 | .loadN n x=>match e.ev x with
  | .pointer (O ⟨b,o,Y⟩)=>match Z.m b with
   |some p=>(uK p o n).map λr=>(.agg r.toArray,Z)
   |none=>Y
  |_=>Y
 | .store n a x=>match e.ev a with
  | .pointer (O ⟨b,o,Y⟩)=>if(cellsOf (e.ev x)).length=n then match Z.m b with
   |some p=>match EK p o (cellsOf (e.ev x))with
    |some t=>O (undef,Z.set b (O t))
    |none=>Y
   |none=>Y
   else Y
  |_=>Y
 | .nilCheck x=>match e.ev x with
  | .pointer (O a)=>O (.pointer (O a),Z)
  | .func (.func f) first j=>O (.func (.func f) first j,Z)
  |_=>Y
 | .bin op x y=>(ED op (e.ev x) (e.ev y)).map λv=>(v,Z)
 | .eqv K C x y=>(VE K (e.ev x) (e.ev y)).map λb=>(.bool (b !=C),Z)
 | .eqCells C L x y=>match e.ev x,e.ev y with
  | .agg a, .agg b=>(nL L a.toList b.toList).map λb=>(.bool (b !=C),Z)
  |_,_=>Y
 | .un op x=>(un1 op (e.ev x)).map λv=>(v,Z)
 | .conv k x=>(bk3 (e.ev x)).map λn=>(.int k (k.wrap n),Z)
 | .mkFunc f first j=>O (.func (.func f) (first.map e.ev).toArray (j.map e.ev).toArray,Z)
 | .makeSlice es g zero l c=>match e.ev l,e.ev c with
  | .int _ l, .int _ c=>if 0<=l/\l<=c/\g*c<=281474976710656/\c<=9223372036854775807 then
    O (.slice (O ⟨Z.n,0,Y⟩) l.toNat c.toNat,Z.add ⟨eo zero c.toNat,Za,es⟩)else Y
  |_,_=>Y
 | .slice es x F D=>match e.ev x with
  | .slice a z u=>if(u==0||EG Z es a F)=Za then match tj u z (D.map e.ev)with
   |some h=>match tj h 0 (F.map e.ev)with
    |some l=>O (.slice (a.map (Rw · (l*es))) (h-l) (u-l),Z)
    |none=>Y
   |none=>Y else Y
  |_=>Y
 | .sliceArr es n x F D=>match e.ev x with
  | .pointer (O ⟨b,o,Y⟩)=>match Z.m b with
   |some p=>if p.own=Za/\p.es=es/\o+n*es<=p.cells.length then match tj n n (D.map e.ev)with
    |some h=>match tj h 0 (F.map e.ev)with
     |some l=>if l<n then O (.slice (O ⟨b,o+l*es,Y⟩) (h-l) (n-l),Z)else Y
     |none=>Y
    |none=>Y else Y
   |none=>Y
  |_=>Y
 | .off n x=>match e.ev x with
  | .pointer (O ⟨b,o,Y⟩)=>O (.pointer (O ⟨b,o+n,Y⟩),Z)
  |_=>Y
 | .idx es x i=>match e.ev x,e.ev i with
  | .slice (O ⟨b,o,Y⟩) z _, .int _ i=>if 0<=i/\i<z then O (.pointer (O ⟨b,o+i.toNat*es,Y⟩),Z)else Y
  |_,_=>Y
 | .idxA z es x i=>match e.ev x,e.ev i with
  | .pointer (O ⟨b,o,Y⟩), .int _ i=>if 0<=i/\i<z then O (.pointer (O ⟨b,o+i.toNat*es,Y⟩),Z)else Y
  |_,_=>Y
 | .fieldV H n agg x=>match e.ev x with
  | .agg r=>if agg then O (.agg (r.extract H (H+n)),Z)else(r[H]?).map λv=>(v,Z)
  |_=>Y
 | .indexV z es agg x i=>match e.ev x,e.ev i with
  | .agg r, .int _ i=>if 0<=i/\i<z then(if agg then O (.agg (r.extract (i.toNat*es) (i.toNat*es+es)),Z)else(r[i.toNat*es]?).map λv=>(v,Z))else Y
  |_,_=>Y
 | .indexS x i=>match e.ev x,e.ev i with
  | .string s, .int _ i=>if 0<=i then(s[i.toNat]?).map λb=>(.int .u8 b.toNat,Z)else Y
  |_,_=>Y
 | .extract x i=>match e.ev x with
  | .tuple Q=>(Q[i]?).map λv=>(v,Z)
  |_=>Y
 | .call _ _| .callv _ _=>Y
 | .append es g s x=>match e.ev s with
  | .slice a J I=>match JH (e.ev x)with
   |some n=>match Z.slice es (e.ev x) n with
    |some A=>qM es g Z a J I n A
    |none=>Y
   |none=>Y
  |_=>Y
 | .appendZ es g zero s x=>match e.ev s,e.ev x with
  | .slice a J I, .int _ l=>if 0<=l/\l<=9223372036854775807/\l*g<=281474976710656 then qM es g Z a J I l.toNat (eo zero l.toNat)else Y
  |_,_=>Y
 | .copy es d s=>match e.ev d with
  | .slice a E _=>match JH (e.ev s)with
   |some n=>match Z.slice es (e.ev s) (min n E)with
    |some A=>(match a with
     |some ⟨b,o,Y⟩=>if A=[]then O (.int .i64 (min n E:Nat),Z)else match Z.m b with
      |some p=>match EK p o A with
       |some t=>O (.int .i64 (min n E:Nat),Z.set b (O t))
       |none=>Y
      |none=>Y
     |none=>if A=[]then O (.int .i64 (min n E:Nat),Z)else Y
     |_=>Y)
    |none=>Y
   |none=>Y
  |_=>Y
 | .len x=>match e.ev x with
  | .slice _ n _=>O (.int .i64 n,Z)
  |_=>Y
 | .lenC n=>O (.int .i64 n,Z)
 | .most x y=>(YF (e.ev x) (e.ev y)).map λv=>(v,Z)
 | .least x y=>(UM (e.ev x) (e.ev y)).map λv=>(v,Z)
 | .stuck=>Y
 | .capN x=>match e.ev x with
  | .slice Y 0 0=>O (.int .i64 0,Z)
  |_=>Y
 | .sliceX x D M=>match e.ev x with
  | .slice a _ u=>match tj u 0 (O (e.ev M))with
   |some m=>match tj m 0 (O (e.ev D))with
    |some h=>if h=m then match a with
     |none=>O (.slice Y 0 0,Z)
     |some ⟨b,o,Y⟩=>O (.slice (O ⟨b,o,O 0⟩) m m,Z)
     |_=>Y
     else Y
    |none=>Y
   |none=>Y
  |_=>Y
def cc (T:mE)(op:AOp)(e:cm)(Z:Hp)(k:Value->Hp->Prop):Prop:=
 match op with
 | .call f d=>T f (d.map e.ev) Z k
 | .callv x d=>match e.ev x with
  | .func (.func f) first c=>T f (first.toList++d.map e.ev++c.toList) Z k
  |_=>False
 |op=>match op.run e Z with
  |some (v,Z')=>k v Z'
  |none=>False
def wanted (o:AOper)(e:cm):Bool:=
 match o.guard with
 |some (t,c)=>match e t with
  | .bool b=>b==c
  |_=>Zb
 |none=>Za
def Di (T:mE)(Q:cm->Hp->Prop):List AOper->cm->Hp->Prop
 |[],e,Z=>Q e Z
 |o::c,e,Z=>if wanted o e then cc T o.op e Z λv Z'=>Di T Q c (e.putO o.dst v) Z' else Di T Q c (e.putO o.dst undef) Z
def AOp.still :AOp->Bool
 | .alloc .. | .box .. | .buildSlice .. | .store .. | .call .. | .callv .. | .makeSlice .. | .append .. | .appendZ .. | .copy .. =>Zb
 |_=>Za
def nZ (f:(AExit->cm->Hp->Prop)->cm->Hp->Prop)(Q:AExit->cm->Hp->Prop):Nat->cm->Hp->Prop
 |0,_,_=>False
 |n+1,e,Z=>f (λx c Z'=>match x with
  | .normal=>nZ f Q n c Z'
  |x=>Q x c Z') e Z
def AOp.isLoad :AOp->Bool
 | .load _| .loadN _ _| .sliceArr _ _ _ _ _| .slice _ _ (O _) _=>Za
 |_=>Zb
def li (c:List (AOper×List Nat))(i:Nat):List Nat:=match c[i]? with
 |some (_,p)=>p
 |none=>[]
def Ko (acc:List Nat)(c:List Nat):Nat:=c.foldl (λm q=>m|||2 ^ q|||acc.getD q 0) 0
def VW (c:List Nat):List (AOper×List Nat)->List Nat
 |[]=>c
 |(_,d)::r=>VW (c++[Ko c d]) r
def AZ (c:List (AOper×List Nat))(p j:Nat):Bool:=((VW [] c).getD j 0).testBit p
def Uy (c:List (AOper×List Nat))(done:List Nat)(i:Nat):Bool:=
 !done.contains i&&(li c i).all λq=>done.contains q
def GG (c:List (AOper×List Nat))(i:Nat):Bool:=match c[i]? with
 |some (o,_)=>o.op.still
 |none=>Zb
def mD (c:List (AOper×List Nat))(done:List Nat):Option Nat:=(aB c.length).find? λi=>Uy c done i&&GG c i
def dj (c:List (AOper×List Nat))(done:List Nat):List Nat:=(aB c.length).filter λi=>Uy c done i&& !GG c i
def Rd (f:Nat->Prop):List Nat->Prop
 |[]=>True
 |[m]=>f m
 |m::r=>f m/\Rd f r
def G5 (d:List (AOper×List Nat))(m:Nat)(Z:Hp):List (Nat×(Hp->Prop))->Prop
 |[]=>True
 |(i,c)::r=>if AZ d i m then G5 d m Z r else c Z/\G5 d m Z r
def KK (T:mE)(Q:cm->Hp->Prop)(c:List (AOper×List Nat)):Nat->List Nat->List (Nat×(Hp->Prop))->cm->Hp->Prop
 |0,_,_,e,Z=>Q e Z
 |f+1,done,d,e,Z=>match mD c done with
  |some i=>match c[i]? with
   |some (o,_)=>
    if wanted o e then match o.op.run e Z with
     |some (v,_)=>KK T Q c f (i::done) (if o.op.isLoad then(i,λZ'=>o.op.run e Z'=O (v,Z'))::d else d) (e.putO o.dst v) Z
     |none=>False
    else KK T Q c f (i::done) d (e.putO o.dst undef) Z
   |none=>False
  |none=>match dj c done with
   |[]=>Q e Z
   |ms=>Rd (λm=>match c[m]? with
    |some (o,_)=>
     if wanted o e then cc T o.op e Z λv Z'=>G5 c m Z' d/\KK T Q c f (m::done) d (e.putO o.dst v) Z'
     else KK T Q c f (m::done) d (e.putO o.dst undef) Z
    |none=>False) ms
def B5 (d:List Nat)(Z:Hp):List (Nat×(Hp->Prop))->Prop
 |[]=>True
 |(i,c)::r=>if d.contains i then c Z/\B5 d Z r else B5 d Z r
def X1 (c:List (AOper×List Nat))(i:Nat):Bool:=match c[i]? with
 |some (o,_)=> !o.op.still
 |none=>Zb
def at7 (c:List (AOper×List Nat))(i:Nat):Bool:=(aB c.length).any λm=>X1 c m&& !AZ c i m
def Jk (d:List (AOper×List Nat)):Nat->List Nat->List Nat->Option (List SItem)
 |0,_,_=>O []
 |f+1,done,c=>match mD d done with
  |some i=>match d[i]? with
   |some (o,_)=>(Jk d f (i::done) (if o.op.isLoad then i::c else c)).map (⟨i,o,Zb,o.op.isLoad&&at7 d i,[]⟩:: ·)
   |none=>Y
  |none=>match dj d done with
   |[]=>O []
   |[m]=>match d[m]? with
    |some (o,_)=>(Jk d f (m::done) c).map (⟨m,o,Za,Zb,c.filter λi=> !AZ d i m⟩:: ·)
    |none=>Y
   |_=>Y
def UV (T:mE)(Q:cm->Hp->Prop):List SItem->List (Nat×(Hp->Prop))->cm->Hp->Prop
 |[],_,e,Z=>Q e Z
 |it::r,c,e,Z=>
  if wanted it.o e then
   (if it.mover then cc T it.o.op e Z λv Z'=>B5 it.chks Z' c/\UV T Q r c (e.putO it.o.dst v) Z'
    else match it.o.op.run e Z with
    |some (v,_)=>UV T Q r (if it.keep then(it.idx,λZ'=>it.o.op.run e Z'=O (v,Z'))::c else c) (e.putO it.o.dst v) Z
    |none=>False)
  else UV T Q r c (e.putO it.o.dst undef) Z
def Bv (T:mE):AC->(AExit->cm->Hp->Prop)->cm->Hp->Prop
 | .skip,Q,e,Z=>Q .normal e Z
 | .region d,Q,e,Z=>Di T (Q .normal) d e Z
 | .draw d,Q,e,Z=>KK T (Q .normal) d d.length [] [] e Z
 | .sched f,Q,e,Z=>UV T (Q .normal) f [] e Z
 | .seq a b,Q,e,Z=>Bv T a (λx e Z=>match x with
  | .normal=>Bv T b Q e Z
  |x=>Q x e Z) e Z
 | .cond c a b,Q,e,Z=>match e.ev c with
  | .bool true=>Bv T a Q e Z
  | .bool false=>Bv T b Q e Z
  |_=>False
 | .block id b,Q,e,Z=>Bv T b (λx e Z=>match x with
  | .exit i=>if i=id then Q .normal e Z else Q (.exit i) e Z
  |x=>Q x e Z) e Z
 | .loop b,Q,e,Z=> ∃n,nZ (Bv T b) Q n e Z
 | .exit id,Q,e,Z=>Q (.exit id) e Z
 | .ret,Q,e,Z=>Q .ret e Z
def Qh (e:cm)(Z:Hp):ARes->Option Value
 | .tmp t=>O (e t)
 | .cell t=>match e t with
  | .pointer (O ⟨b,o,Y⟩)=>(Z.m b).bind λx=>x.cells[o]?
  |_=>Y
 | .cellN t n=>match e t with
  | .pointer (O ⟨b,o,Y⟩)=>(Z.m b).bind λx=>(uK x o n).map λc=> .agg c.toArray
  |_=>Y
def MP (e:cm)(Z:Hp):List ARes->Option (List Value)
 |[]=>O []
 |r::c=>match Qh e Z r,MP e Z c with
  |some v,O d=>O (v::d)
  |_,_=>Y
def D2 :List Value->Value
 |[v]=>v
 |vs=> .tuple vs.toArray
def wpF (T:mE)(f:AFn):Tt:=λc Z K=>c.length<=f.ntmps/\
 Bv T f.body (λx e Z'=>match x with
  | .exit _=>False
  |_=>match MP e Z' f.results with
   |some d=>K (D2 d) Z'
   |none=>False) (cm.of c) Z
end
variable {e:cm}
section
open Nat renaming lt_of_lt_of_le -> aB
open Go.RowKit
structure G where
 c:Nat
 o:Nat
 ext:Nat
 es:Nat
 ty:Nat
 it:Option Value
abbrev Mu :=Nat->Option G
def Mu.le (μ μ':Mu):Prop:= ∀b g,μ b=O g->μ' b=O g
theorem Mu.le_refl (μ:Mu):μ.le μ:=λ_ _ h=>h
theorem Mu.le_trans {a b c:Mu}(h:a.le b)(k:b.le c):a.le c:=λx g d=>k x g (h x g d)
def Mu.add (μ:Mu)(n:Nat)(g:G):Mu:=λb=>if b=n then O g else μ b
theorem Mu.le_add {μ:Mu}{n:Nat}{g:G}(h:μ n=Y):μ.le (μ.add n g):=λb d c=>by
 unfold Mu.add;by_cases e:b=n
 .subst e;rw[h]at c;cases c
 .rw[zF e];exact c
def Mu.at (μ:Mu)(b:Nat)(g:G):Prop:=μ b=O g/\g.it=Y
theorem Mu.at_le {μ μ':Mu}(h:μ.le μ'){b:Nat}{g:G}(k:μ.at b g):μ'.at b g:=⟨h _ _ k.1,k.2⟩
inductive F2 {α β:Type}(r:α->β->Prop):List α->List β->Prop where
 |nil:F2 r [] []
 |cons {a:α} {b:β} {l:List α} {m:List β}:r a b->F2 r l m->F2 r (a::l) (b::m)
inductive VR (μ:Mu):Value->Value->Prop where
 |bool (b:Bool):VR μ (.bool b) (.bool b)
 |int (k:IntKind) (n:Int):VR μ (.int k n) (.int k n)
 |string (s:ByteArray):VR μ (.string s) (.string s)
 |nilp:VR μ (.pointer Y) (.pointer Y)
 |ptr {b o:Nat} {g:G}:μ.at b g->VR μ (.pointer (O ⟨b,o,Y⟩)) (.pointer (O ⟨g.c,g.o+o,Y⟩))
 |nils:VR μ (.slice Y 0 0) (.slice Y 0 0)
 |slice {b o l c c':Nat} {g:G}:μ.at b g->l<=c->c<=c'->o+c'*g.es<=g.ext->VR μ (.slice (O ⟨b,o,Y⟩) l c) (.slice (O ⟨g.c,g.o+o,Y⟩) l c')
 |slice0 {b o:Nat} {g:G} (A':Addr):μ.at b g->VR μ (.slice (O ⟨b,o,Y⟩) 0 0) (.slice (O A') 0 0)
 |sliceX {b o c:Nat} {g:G}:μ.at b g->o+c*g.es<=g.ext->VR μ (.slice (O ⟨b,o,O 0⟩) c c) (.slice (O ⟨g.c,g.o+o,Y⟩) c c)
 |sliceX0 {b o:Nat} {g:G} (A':Addr):μ.at b g->VR μ (.slice (O ⟨b,o,O 0⟩) 0 0) (.slice (O A') 0 0)
 |nilf:VR μ .nilFunc .nilFunc
 |func {f:Fn} {a a' c c':Array Value}:F2 (VR μ) a.toList a'.toList->F2 (VR μ) c.toList c'.toList->VR μ (.func f a c) (.func f a' c')
 |nili:VR μ .nilIface .nilIface
 |iter {b:Nat} {g:G} {v:Value}:μ b=O g->g.it=O v->VR μ (.iface b v) (.pointer (O ⟨g.c,0,Y⟩))
 |agg {a a':Array Value}:F2 (VR μ) a.toList a'.toList->VR μ (.agg a) (.agg a')
 |tuple {a a':Array Value}:F2 (VR μ) a.toList a'.toList->VR μ (.tuple a) (.tuple a')
theorem F2.length {α β:Type}{r:α->β->Prop}{l:List α}{m:List β}(h:F2 r l m):l.length=m.length:=by
 induction h with
 |nil=>rfl
 |cons _ _ c=>simp[c]
theorem F2.get {α β:Type}{r:α->β->Prop}{l:List α}{m:List β}(h:F2 r l m): ∀(i:Nat) (a:α),l[i]?=O a->∃b,m[i]?=O b/\r a b:=by
 induction h with
 |nil=>intro i a h;simp at h
 |cons c _ d=>
  intro i a h;cases i with
  |zero=>simp at h;subst h;exact⟨_,by simp,c⟩
  |succ i=>simp at h;simpa using d i a h
theorem F2.of_get {α β:Type}{r:α->β->Prop}: ∀(l:List α) (m:List β),l.length=m.length->(∀(i:Nat) (a:α) (b:β),l[i]?=O a->m[i]?=O b->r a b)->F2 r l m
 |[],[],_,_=> .nil
 |[],_::_,h,_=>by simp at h
 |_::_,[],h,_=>by simp at h
 |a::l,b::m,h,c=> .cons (c 0 a b rfl rfl) (F2.of_get l m (by simpa using h) λi x y d f=>c (i+1) x y (by simpa using d) (by simpa using f))
theorem F2.append {α β:Type}{r:α->β->Prop}{l l':List α}{m c:List β}(h:F2 r l m)(d:F2 r l' c):F2 r (l++l') (m++c):=by
 induction h with
 |nil=>exact d
 |cons f _ g=>exact .cons f g
theorem F2.take {α β:Type}{r:α->β->Prop}{l:List α}{m:List β}(h:F2 r l m): ∀n,F2 r (l.take n) (m.take n):=by
 induction h with
 |nil=>intro n;simp;exact .nil
 |cons c _ d=>
  intro n;cases n with
  |zero=>exact .nil
  |succ n=>exact .cons c (d n)
theorem F2.drop {α β:Type}{r:α->β->Prop}{l:List α}{m:List β}(h:F2 r l m): ∀n,F2 r (l.drop n) (m.drop n):=by
 induction h with
 |nil=>intro n;simp;exact .nil
 |cons c d f=>
  intro n;cases n with
  |zero=>exact .cons c d
  |succ n=>exact f n
theorem F2.same {α:Type}{r:α->α->Prop}: ∀(l:List α),(∀a∈l,r a a)->F2 r l l
 |[],_=> .nil
 |a::l,h=> .cons (h a (by simp)) (F2.same l λb c=>h b (by simp[c]))
theorem F2.imp {α β:Type}{r s:α->β->Prop}(c: ∀a b,r a b->s a b){l:List α}{m:List β}(h:F2 r l m):F2 s l m:=by
 induction h with
 |nil=>exact .nil
 |cons d _ f=>exact .cons (c _ _ d) f
theorem VR.mono {μ μ':Mu}(d:μ.le μ'): ∀{v v':Value},VR μ v v'->VR μ' v v'
 |_,_, .bool b=> .bool b
 |_,_, .int k n=> .int k n
 |_,_, .string s=> .string s
 |_,_, .nilp=> .nilp
 |_,_, .ptr h=> .ptr (Mu.at_le d h)
 |_,_, .nils=> .nils
 |_,_, .slice h c f g=> .slice (Mu.at_le d h) c f g
 |_,_, .slice0 A' h=> .slice0 A' (Mu.at_le d h)
 |_,_, .sliceX h c=> .sliceX (Mu.at_le d h) c
 |_,_, .sliceX0 A' h=> .sliceX0 A' (Mu.at_le d h)
 |_,_, .nilf=> .nilf
 |_,_, .func c f=> .func (go c) (go f)
 |_,_, .nili=> .nili
 |_,_, .iter h c=> .iter (d _ _ h) c
 |_,_, .agg h=> .agg (go h)
 |_,_, .tuple h=> .tuple (go h)
where
 go {l m:List Value}:F2 (VR μ) l m->F2 (VR μ') l m
 | .nil=> .nil
 | .cons h t=> .cons (VR.mono d h) (go t)
theorem VR.undef (μ:Mu):VR μ undef undef:= .tuple .nil
theorem VR.one_iff {μ:Mu}(h:VR μ v v'):one v=v'.oneCell':=by cases h<;>rfl
theorem VR.cells {μ:Mu}(h:VR μ v v'):F2 (VR μ) (cellsOf v) v'.cells.toList:=by
 cases h with
 |agg h=>exact h
 |bool b=>exact .cons (.bool b) .nil
 |int k n=>exact .cons (.int k n) .nil
 |string s=>exact .cons (.string s) .nil
 |nilp=>exact .cons .nilp .nil
 |ptr h=>exact .cons (.ptr h) .nil
 |nils=>exact .cons .nils .nil
 |slice h c d f=>exact .cons (.slice h c d f) .nil
 |slice0 A' h=>exact .cons (.slice0 A' h) .nil
 |sliceX h c=>exact .cons (.sliceX h c) .nil
 |sliceX0 A' h=>exact .cons (.sliceX0 A' h) .nil
 |nilf=>exact .cons .nilf .nil
 |func c d=>exact .cons (.func c d) .nil
 |nili=>exact .cons .nili .nil
 |iter h c=>exact .cons (.iter h c) .nil
 |tuple h=>exact .cons (.tuple h) .nil
def Kq :Value->Bool
 | .bool _| .int _ _| .string _| .pointer Y| .slice Y 0 0| .nilFunc| .nilIface=>Za
 | .agg c=>c.toList.all λ
  | .bool _| .int _ _| .string _| .pointer Y| .slice Y 0 0| .nilFunc| .nilIface=>Za
  |_=>Zb
 | .tuple c=>c.size==0
 |_=>Zb
theorem VR.plain1 (μ:Mu): ∀v:Value,(match v with
  | .bool _| .int _ _| .string _| .pointer Y| .slice Y 0 0| .nilFunc| .nilIface=>Za
  |_=>Zb)=Za->VR μ v v:=by
 intro v h;cases v with
 |bool b=>exact .bool b
 |int k n=>exact .int k n
 |string s=>exact .string s
 |pointer a=>cases a with
  |none=>exact .nilp
  |some a=>simp at h
 |slice a n c=>
  split at h<;>first|(rename_i d;cases d;exact .nils)|simp_all
 |nilFunc=>exact .nilf
 |nilIface=>exact .nili
 |_=>simp at h
theorem VR.plain {μ:Mu}(h:Kq v=Za):VR μ v v:=by
 cases v with
 |agg d=>
  refine .agg (F2.same _ λa f=>VR.plain1 μ a ?_);simp only[Kq,List.all_eq_true]at h;exact h a f
 |tuple d=>
  have:d= #[]:=by simpa[Kq]using h
  subst this;exact .tuple .nil
 |bool b=>exact .bool b
 |int k n=>exact .int k n
 |string s=>exact .string s
 |pointer a=>cases a with
  |none=>exact .nilp
  |some a=>simp[Kq]at h
 |slice a n c=>
  unfold Kq at h;split at h<;>first|(rename_i g;cases g;exact .nils)|simp_all
 |nilFunc=>exact .nilf
 |nilIface=>exact .nili
 |_=>simp[Kq]at h
structure Base (P:Program)where
 n:Nat
 h:Nat->Option Obj
 tab: ∀w:World,n<=w.heap.size->(∀b,b<n->w.heap[b]?=h b)->P.globalNamed "internal/strconv.uint64pow10" ≠Y->Lib.TabIs P w "internal/strconv.uint64pow10" .u64 Lib.pow10Tab
instance (P :Program):CoeHead (Base P) Nat:=⟨Base.n⟩
def aU3 (P:Program)(t:TypeId):Bool:=match P.types[t]? with
 |some i=>(match i.desc with
  | .named n _=>n== "strings.Builder"
  |_=>Zb)
 |none=>Zb
def Bq (w:World)(c:Nat):Option Nat:=match w.heap[c]? with
 |some (.cells d _ _)=>(d[1]?).bind Value.ownBlock
 |_=>Y
structure Lives {P:Program}(B:Base P)(μ:Mu)(w:World)(x:Blk)(g:G):Prop where
 lt:g.c<w.heap.size
 es:g.es=x.es
 cell:g.it=Y->∀(i:Nat) (v:Value),x.cells[i]?=O v->∃v',w.cell? ⟨g.c,g.o+i,Y⟩=O v'/\VR μ v v'
 own:g.it=Y->x.own=Za->B.n<=g.c/\x.cells.length<=g.ext/\∃cur e,w.heap[g.c]?=O (.cells cur e (0,0))/\g.o+g.ext<=cur.size
 iter: ∀s,g.it=O (.string s)->B.n<=g.c/\∃p:Nat,x.cells=[Value.int .i64 p].take x.cells.length/\w.heap[g.c]?=O (.stringIter s p)
 bld:g.it=O .nilFunc->aU3 P g.ty=Za/\∃p s,(p= .pointer Y∨p= .pointer (O ⟨g.c,0,Y⟩))/\x.cells=[Value.string s].take x.cells.length/\Lib.BuilderAtF g.ty P.rt.byte B.n g.c p (Lib.strCells s) w
def Sep (μ:Mu)(Z:Hp)(w:World):Prop:= ∀b x g,Z.m b=O x->μ b=O g->g.it=O .nilFunc->∀k,Bq w g.c=O k->∀f h d,Z.m f=O h->μ f=O d->d.c≠k/\(f≠b->d.it=O .nilFunc->Bq w d.c≠O k)
theorem Sep.of {μ μ':Mu}{Z Z':Hp}{w':World}(h:Sep μ Z w)(j: ∀b x g,Z'.m b=O x->μ' b=O g->(∃y,Z.m b=O y/\μ b=O g)∨(g.it≠O .nilFunc/\∀b1 x1 t k,Z.m b1=O x1->μ b1=O t->t.it=O .nilFunc->Bq w t.c=O k->g.c≠k))
  (D: ∀b x g,Z.m b=O x->μ b=O g->g.it=O .nilFunc->(∃y,Z'.m b=O y)->Bq w' g.c=Bq w g.c):Sep μ' Z' w':=by
 intro b x g E I f k A r F s n z;rcases j b x g E I with⟨y,l,u⟩|⟨l,_⟩
 .rw[D b y g l u f ⟨x,E⟩]at A;rcases j r F s n z with⟨H,p,q⟩|⟨p,q⟩
  .obtain⟨J,K⟩:=h b y g l u f k A r H s p q;exact⟨J,λC d=>by rw[D r H s p q d ⟨F,n⟩];exact K C d⟩
  .exact⟨q b y g k l u f A,λ_ d=>(p d).elim⟩
 .exact(l f).elim
theorem Xu {T e:TypeId}{n b:Nat}{p:Value}{bs:List Value}{w':World}(h:Lib.BuilderAtF T e n b p bs w)(u:w'.heap[b]?=w.heap[b]?)(A: ∀k,Bq w b=O k->w'.heap[k]?=w.heap[k]?):Lib.BuilderAtF T e n b p bs w':=by
 obtain⟨t,v,d,c,q⟩:=h;refine⟨t,v,u.trans d,⟨c.1, ?_⟩,q⟩;rcases c.2 with C|⟨g,j,l,s,r,z,m,f⟩
 .exact .inl C
 .exact .inr ⟨g,j,l,s,r,z,(A g (by subst r;simp[Bq,d,Value.ownBlock])).trans m,f⟩
theorem af4 {T e:TypeId}{n b:Nat}{p:Value}{bs:List Value}(h:Lib.BuilderAtF T e n b p bs w){k:Nat}(m:Bq w b=O k):n<=k/\k<w.heap.size/\k≠b:=by
 obtain⟨q,v,d,c,f⟩:=h;have g:v.ownBlock=O k:=by simpa[Bq,d]using m
 obtain⟨j,l⟩:=c.lt k g;exact⟨j,l,λe=>f (e▸g)⟩
structure R {P:Program}(B:Base P)(μ:Mu)(Z:Hp)(w:World):Prop where
 base:B.n<=w.heap.size
 old: ∀b,b<B.n->w.heap[b]?=B.h b
 fresh: ∀b,Z.n<=b->μ b=Y
 live: ∀b x,Z.m b=O x->∃g,μ b=O g/\Lives B μ w x g
 inj: ∀b b' x x' g g',Z.m b=O x->Z.m b'=O x'->b≠b'->x.own=Za->μ b=O g->μ b'=O g'->g.c≠g'.c
 sep:Sep μ Z w
section
variable {P:Program} {B:Base P} {μ μ':Mu} {Z:Hp} {w w':World}
theorem Lives.mono {x:Blk}{g:G}(h:Lives B μ w x g)(k:μ.le μ'):Lives B μ' w x g:=
 ⟨h.lt,h.es,λc i v j=>let⟨v',d,f⟩:=h.cell c i v j;⟨v',d,f.mono k⟩,h.own,h.iter,h.bld⟩
theorem Lives.kept {x:Blk}{g:G}(h:Lives B μ w x g)(t:w.heap.size<=w'.heap.size)(j:w'.heap[g.c]?=w.heap[g.c]?)(z:g.it=O .nilFunc->∀k,Bq w g.c=O k->w'.heap[k]?=w.heap[k]?):Lives B μ w' x g:=
 ⟨aB h.lt t,h.es,λm i v C=>let⟨v',d,n⟩:=h.cell m i v C;⟨v',(World.cell?_of_block (w:=w) (w':=w') j).trans d,n⟩,λm A=>by
  obtain⟨d,n,l,e,f,r⟩:=h.own m A
  exact⟨d,n,l,e,j.trans f,r⟩,λs t=>let⟨d,p,q,f⟩:=h.iter s t;⟨d,p,q,j.trans f⟩,λu=>let⟨d,p,s,q,f,r⟩:=h.bld u;⟨d,p,s,q,f,Xu r j (z u)⟩⟩
theorem R.same (h:R B μ Z w)(c:w'.heap=w.heap):R B μ Z w':=
 ⟨by rw[c];exact h.base,λb l=>by rw[c];exact h.old b l,h.fresh,λb x d=>let⟨g,f,j⟩:=h.live b x d;⟨g,f,j.kept (by rw[c];exact Nat.le_refl _) (by rw[c]) (λ_ k _=>by rw[c])⟩,h.inj,h.sep.of (λb x g d m=> .inl ⟨x,d,m⟩) (λb x g _ _ _ _=>by unfold Bq;rw[c])⟩
theorem R.get (h:R B μ Z w){b:Nat}{x:Blk}{g:G}(j:Z.m b=O x)(f:μ b=O g):Lives B μ w x g:=by
 obtain⟨k,c,d⟩:=h.live b x j;rw[f]at c;injection c with c
 exact c▸d
theorem R.buf (h:R B μ Z w){b:Nat}{x:Blk}{g:G}(q:Z.m b=O x)(f:μ b=O g)(j:g.it=O .nilFunc){k:Nat}(l:Bq w g.c=O k):B.n<=k/\k<w.heap.size/\k≠g.c:=by
 obtain⟨_,p,s,_,_,d⟩:=(h.get q f).bld j;exact af4 d l
theorem R.stays (h:R B μ Z w){b:Nat}{x:Blk}{g:G}(l:Z.m b=O x)(f:μ b=O g)(r:w.heap.size<=w'.heap.size)(c:Nat)(d: ∀k,k≠c->k<w.heap.size->w'.heap[k]?=w.heap[k]?)(q:g.c≠c)(j:g.it=O .nilFunc->Bq w g.c≠O c):Lives B μ w' x g:=
 (h.get l f).kept r (d _ q (h.get l f).lt) λn k p=>d k (λe=>j n (e▸p)) (h.buf l f n p).2.1
theorem R.kill (h:R B μ Z w)(b:Nat):R B μ (Z.set b Y) w:=by
 have f: ∀d x,(Z.set b Y).m d=O x->Z.m d=O x:=by
  intro d x c;simp only[Hp.set]at c;split at c
  .cases c
  .exact c
 exact⟨h.base,h.old,h.fresh,λd x c=>h.live d x (f _ _ c),λj k x r g l n p=>h.inj j k x r g l (f _ _ n) (f _ _ p),h.sep.of (λd x g c q=> .inl ⟨x,f _ _ c,q⟩) (λ_ _ _ _ _ _ _=>rfl)⟩
theorem R.add (h:R B μ Z w)(d:Array Value)(e:TypeId)(cells:List Value)(es:Nat)(H:cells.length<=d.size)(T:F2 (VR μ) cells (d.toList.take cells.length)):
  R B (μ.add Z.n ⟨w.heap.size,0,d.size,es,e,Y⟩) (Z.add ⟨cells,Za,es⟩) (w.alloc (.cells d e))/\μ.le (μ.add Z.n ⟨w.heap.size,0,d.size,es,e,Y⟩):=by
 have U:μ Z.n=Y:=h.fresh _ (Nat.le_refl _);have p:μ.le (μ.add Z.n ⟨w.heap.size,0,d.size,es,e,Y⟩):=Mu.le_add U
 have old: ∀b x,b≠Z.n->(Z.add ⟨cells,Za,es⟩).m b=O x->Z.m b=O x:=by
  intro b x f j;simpa[Hp.add,f]using j
 have J: ∀x,(Z.add ⟨cells,Za,es⟩).m Z.n=O x->x=⟨cells,Za,es⟩:=by
  intro x j;simp[Hp.add]at j;exact j.symm
 have l: ∀b x g,Z.m b=O x->μ b=O g->g.c<w.heap.size:=λb x g j r=>(h.get j r).lt
 refine⟨⟨Nat.le_trans h.base (by simp),λb f=>(Below.heap_alloc w _ _ (aB f h.base)).trans (h.old b f),λb f=> ?_,λb x j=> ?_,λb A x L g C j s D W r z=> ?_, ?_⟩,p⟩
 .have:Z.n+1<=b:=f;unfold Mu.add;rw[Zh];exact h.fresh b (by omega)
 .by_cases f:b=Z.n
  .subst f;obtain rfl:=J x j;refine⟨⟨w.heap.size,0,d.size,es,e,Y⟩,by simp[Mu.add],⟨by simp,rfl,λ_ i v K=> ?_,λ_ _=>⟨h.base,H,d,e,heap_alloc_new w _,by simp⟩,λ_ I=>(by cases I),λI=>by cases I⟩⟩;obtain⟨v',t,u⟩:=T.get i v K
   have F:i<cells.length:=by
    rcases Nat.lt_or_ge i cells.length with h3|h3
    .exact h3
    .simp[List.getElem?_eq_none h3]at K
   refine⟨v', ?_,u.mono p⟩;rw[Nat.zero_add,cell_of_row _ _ _ d e (0,0) (heap_alloc_new w _)];rw[List.getElem?_take,zE F]at t;simpa using t
  .have s:=old b x f j;obtain⟨g,t,u⟩:=h.live b x s;exact⟨g,p _ _ t,(u.mono p).kept (by simp) (Below.heap_alloc w _ _ u.lt) (λF k V=>Below.heap_alloc w _ _ (h.buf s t F V).2.1)⟩
 .by_cases f:b=Z.n
  .subst f;have q:A≠Z.n:=λe=>D e.symm
   have:g.c=w.heap.size:=by simp[Mu.add]at r;rw[<-r]
   have u:μ A=O C:=by simpa[Mu.add,q]using z
   have:=l A L C (old _ _ q s) u;omega
  .have t:μ b=O g:=by simpa[Mu.add,f]using r
   have E:=old b x f j;by_cases q:A=Z.n
   .subst q;have:C.c=w.heap.size:=by simp[Mu.add]at z;rw[<-z]
    have:=l b x g E t;omega
   .have u:μ A=O C:=by simpa[Mu.add,q]using z
    exact h.inj b A x L g C E (old _ _ q s) D W t u
 .refine h.sep.of (λb x g j r=> ?_) (λb x g j r F _=> ?_)
  .by_cases f:b=Z.n
   .subst f;have M:g=⟨w.heap.size,0,d.size,es,e,Y⟩:=by simp[Mu.add]at r;exact r.symm
    subst M;exact .inr ⟨λQ=>(by cases Q),λX x1 g1 k t u h3 S e=>by have:=(h.buf t u h3 S).2.1;simp only at e;omega⟩
   .exact .inl ⟨x,old b x f j,by simpa[Mu.add,f]using r⟩
  .unfold Bq;rw[Below.heap_alloc w _ _ (l b x g j r)]
theorem R.write1 (h:R B μ Z w){b:Nat}{x:Blk}{g:G}(J:Z.m b=O x)(ho:x.own=Za)(H:μ b=O g)(t:g.it=Y)(i:Nat)(I:i<x.cells.length)(hv:VR μ v v'):
  R B μ (Z.set b (O ⟨x.cells.set i v,x.own,x.es⟩)) (w.setCell ⟨g.c,g.o+i,Y⟩ v'):=by
 have U:=h.get J H;obtain⟨o1,o2,K,e,o4,o5⟩:=U.own t ho;have n: ∀k,k≠g.c->(w.setCell ⟨g.c,g.o+i,Y⟩ v').heap[k]?=w.heap[k]?:=λk D=>heap_setCell_other w _ k v' (by simpa using D)
 have z:(w.setCell ⟨g.c,g.o+i,Y⟩ v').heap[g.c]?=O (.cells (K.setIfInBounds (g.o+i) v') e (0,0)):=heap_setCell_same w g.c (g.o+i) K e v' o4
 have old: ∀l f,l≠b->(Z.set b (O ⟨x.cells.set i v,x.own,x.es⟩)).m l=O f->Z.m l=O f:=by
  intro l f r d;simpa[Hp.set,r]using d
 have Q: ∀f,(Z.set b (O ⟨x.cells.set i v,x.own,x.es⟩)).m b=O f->f=⟨x.cells.set i v,x.own,x.es⟩:=by
  intro f d;simp[Hp.set]at d;exact d.symm
 refine⟨by simpa using h.base,λk D=>(n k (by omega)).trans (h.old k D),h.fresh,λl f d=> ?_,λb1 b2 x1 x2 g1 g2 A T E L W X=> ?_, ?_⟩
 .by_cases r:l=b
  .subst r;obtain rfl:=Q f d;refine⟨g,H,⟨by simpa using U.lt,U.es,λ_ j u V=> ?_,λ_ _=>⟨o1,by simpa using o2,_,e,z,by simpa using o5⟩,λs M=>(by rw[t]at M;cases M),λM=>by rw[t]at M;cases M⟩⟩;rw[cell_of_row _ _ _ _ e (0,0) z];by_cases hj:j=i
   .subst hj;simp[I]at V;subst V;refine⟨v', ?_,hv⟩;rw[Array.getElem?_setIfInBounds_self_of_lt (by omega)]
   .rw[List.getElem?_set_ne (λe=>hj e.symm)]at V;obtain⟨u',A,T⟩:=U.cell t j u V;refine⟨u', ?_,T⟩;rw[cell_of_row _ _ _ _ e (0,0) o4]at A;rw[Array.getElem?_setIfInBounds_ne (by omega)];exact A
  .have C:=old l f r d;obtain⟨F,A,T⟩:=h.live l f C;refine⟨F,A,h.stays C A (by simp) g.c (λk D _=>n k D) (λe=>h.inj b l x f g F J C (λe=>r e.symm) ho H A e.symm) (λI D=>((h.sep l f F C A I _ D b x g J H).1 rfl))⟩
 .have q: ∀l f,(Z.set b (O ⟨x.cells.set i v,x.own,x.es⟩)).m l=O f->∃y,Z.m l=O y/\y.own=f.own:=by
   intro l f d;by_cases r:l=b
   .subst r;obtain rfl:=Q f d;exact⟨x,J,rfl⟩
   .exact⟨f,old l f r d,rfl⟩
  obtain⟨y1,hy1,e1⟩:=q _ _ A;obtain⟨y2,hy2,_⟩:=q _ _ T;exact h.inj b1 b2 y1 y2 g1 g2 hy1 hy2 E (e1.trans L) W X
 .have S: ∀l f,(Z.set b (O ⟨x.cells.set i v,x.own,x.es⟩)).m l=O f->∃y,Z.m l=O y:=by
   intro l f d;by_cases r:l=b
   .subst r;exact⟨x,J⟩
   .exact⟨f,old l f r d⟩
  refine h.sep.of (λl f F d p=> .inl (let⟨y,hy⟩:=S l f d;⟨y,hy,p⟩)) (λl f F d p I _=> ?_);have E:l≠b:=λe=>by subst e;rw[H]at p;injection p with p;subst p;rw[t]at I;cases I
  unfold Bq;rw[n _ (λe=>h.inj b l x f g F J d (λe=>E e.symm) ho H p e.symm)]
end
end
section
open List renaming getElem?_eq_getElem -> aB
open Nat renaming add_assoc -> aD
open Result renaming andThen_ok -> bB
open Go.RowKit
def di :Operand->Bool
 | .const v=>Kq v
 | .global _=>Zb
 |_=>Za
def Dl (x:Operand):Option Operand:=if di x then O x else Y
def aL8 :Option Operand->Option (Option Operand)
 |some x=>(Dl x).map O
 |none=>O Y
def ph (P:Program)(t:TypeId):Option Nat:=(P.info? t).map (·.size)
def Vs (P:Program)(t:TypeId):Option Nat:=(P.info? t).map (·.bytes)
def Ce :Value->Bool
 | .bool _| .int _ _| .string _| .pointer Y| .slice Y 0 0| .nilFunc| .nilIface=>Za
 |_=>Zb
def tX (P:Program)(t:TypeId):Option (List Value):=match(P.info? t).bind (·.zero)with
 |some z=>if(cellsOf z).all Ce then O (cellsOf z)else Y
 |none=>Y
def DU (P:Program)(t:TypeId):Option Bool:=match P.underlying t with
 |some (.struct _)|some (.array _ _)=>O Za
 |some _=>O Zb
 |none=>Y
def bj6 (P:Program)(t:TypeId):Option Nat:=match P.underlying t with
 |some (.array _ e)=>ph P e
 |_=>O 1
def ig (μ:Mu)(N:Nat)(e:cm)(c:Array Value):Prop:=c.size=N/\∀t,VR μ (e t) (c.getD t undef)
theorem ig.mono {μ μ':Mu}{c:Array Value}(h:ig μ N e c)(d:μ.le μ'):ig μ' N e c:=⟨h.1,λt=>(h.2 t).mono d⟩
theorem ig.put {μ:Mu}{c:Array Value}(h:ig μ N e c)(d:Nat)(g:d<N)(j:VR μ v v'):ig μ N (e.put d v) (c.setIfInBounds d v'):=by
 refine⟨by simpa using h.1,λt=> ?_⟩;unfold cm.put;by_cases f:t=d
 .subst f;simp[h.1,g];exact j
 .rw[zF f];have:=h.2 t;simpa[Array.getElem?_setIfInBounds_ne (λe=>f e.symm)]using this
theorem ig.ev {μ:Mu}{a:Act}(h:ig μ N e a.tmps)(c:di x=Za):VR μ (e.ev x) (a.eval x):=by
 cases x with
 |tmp t=>exact h.2 t
 |const v=>exact VR.plain c
 |global g=>simp[di]at c
 |func f=>exact .func .nil .nil
def oV (P:Program)(o:Oper)(a:Act)(w:World)(B:Base P)(μ:Mu)(v:Value)(Z':Hp):Prop:=
 ∃c w' μ' v',(execOp a.eval o).run P w= .ok c w'/\(c= .value v'∨(c= .skip/\v'=undef))/\μ.le μ'/\R B μ' Z' w'/\VR μ' v v'/\Below B w w'
section
variable {P:Program} {o:Oper} {a:Act} {w:World} {B:Base P} {N:Nat} {μ:Mu} {e:cm} {Z Z':Hp} {v:Value}
theorem oV.same {v':Value}(d:R B μ Z w)(c:(execOp a.eval o).run P w= .ok (.value v') w)(f:VR μ v v'):oV P o a w B μ v Z:=
 ⟨_,w,μ,v',c, .inl rfl,μ.le_refl,d,f,Below.refl _ _⟩
theorem au (h:Dl x=O y):x=y/\di x=Za:=by
 unfold Dl at h;split at h
 .rename_i c;exact⟨by simpa using h,c⟩
 .cases h
theorem fg {t:TypeId}{d:TypeDesc}(h:P.underlying t=O d)(w:World):(underlying t).run P w= .ok d w:=by simp[underlying,h]
theorem qf {t:TypeId}{n:Nat}(h:ph P t=O n)(w:World):(sizeOf t).run P w= .ok n w:=by
 obtain⟨i,c,d⟩:=Option.map_eq_some_iff.1 h;simp[sizeOf,typeInfo,c,d]
theorem Jr {t:TypeId}(h:DU P t=O b)(w:World):(isAgg t).run P w= .ok b w:=by
 unfold DU at h;unfold isAgg;cases c:P.underlying t with
 |none=>simp[c]at h
 |some d=>
  simp only[Sem.run_bind,fg c,bB];cases d<;>simp[c]at h<;>subst h<;>rfl
theorem rj {t:TypeId}{z:List Value}(h:tX P t=O z): ∃v,(∀w:World,(zeroValue t).run P w= .ok v w)/\cellsOf v=z/\z.all Ce=Za:=by
 unfold tX at h;cases c:P.info? t with
 |none=>simp[c]at h
 |some i=>
  cases d:i.zero with
  |none=>simp[c,d]at h
  |some v=>
   simp only[c,d,zG]at h;split at h
   .rename_i f;injection h with h
    exact⟨v,λw=>by simp[zeroValue,typeInfo,c,d],h,h▸f⟩
   .cases h
theorem VR.plainCells {μ:Mu}{z:List Value}(h:z.all Ce=Za):F2 (VR μ) z z:=F2.same _ λv c=>VR.plain1 μ v (by
 have:=List.all_eq_true.1 h v c;unfold Ce at this
 exact this)
theorem vq (b o n:Nat):(⟨b,o,Y⟩:Addr).add n=⟨b,o+n,Y⟩:=by unfold Addr.add;split<;>simp_all
theorem R.reads {b o:Nat}{x:Blk}{g:G}(D:R B μ Z w)(H:Z.m b=O x)(t:μ.at b g){n:Nat}{cs:List Value}(h:uK x o n=O cs):
  ∃f,(∀(P:Program) (w':World),w'.heap=w.heap->(loadCells ⟨g.c,g.o+o,Y⟩ n).run P w'= .ok f.toArray w')/\F2 (VR μ) cs f:=by
 unfold uK at h;split at h
 .rename_i F;injection h with h
  subst h;have E:=D.get H t.1
  have d: ∀j,j<n->∃v',w.cell? ⟨g.c,g.o+o+j,Y⟩=O v'/\VR μ (x.cells.getD (o+j) undef) v':=by
   intro j z;obtain⟨v',k,q⟩:=E.cell t.2 (o+j) (x.cells[o+j]'(by omega)) (aB (by omega));refine⟨v',by rw[aD];exact k, ?_⟩;simp[List.getD,aB (show o+j<x.cells.length by omega)];exact q
  refine⟨(List.range n).map λj=>(w.cell? ⟨g.c,g.o+o+j,Y⟩).getD undef,λP w' s=> ?_, ?_⟩
  .have:=run_loadCells (P:=P) w' ⟨g.c,g.o+o,Y⟩ n (λj=>(w.cell? ⟨g.c,g.o+o+j,Y⟩).getD undef) (λj z=>by
    rw[vq];obtain⟨v',k,_⟩:=d j z;have:w'.cell? ⟨g.c,g.o+o+j,Y⟩=w.cell? ⟨g.c,g.o+o+j,Y⟩:=by simp[World.cell?,s]
    rw[this]
    simp[k])
   rw[this]
  .refine F2.of_get _ _ (by simp;omega) λi u I p l=> ?_
   have r:i<n:=by
    rcases Nat.lt_or_ge i n with h3|h3
    .exact h3
    .rw[List.getElem?_eq_none (by simp;omega)]at p;cases p
   obtain⟨v',k,q⟩:=d i r
   have A:I=v':=by
    simp[r,k]at l;exact l.symm
   have C:u=x.cells.getD (o+i) undef:=by
    rw[List.getElem?_take,zE r,List.getElem?_drop]at p;simp[List.getD,p]
   rw[A,C];exact q
 .cases h
theorem R.writes : ∀(vs d:List Value),F2 (VR μ) vs d->(∀v∈vs,one v=Za)->∀(Z:Hp) (w:World) (b o i:Nat) (x:Blk) (g:G),R B μ Z w->Z.m b=O x->x.own=Za->μ.at b g->o+i+vs.length<=x.cells.length->
  ∃w',(∀P:Program,(storeCells ⟨g.c,g.o+o,Y⟩ d i).run P w= .ok () w')/\R B μ (Z.set b (O ⟨oI x.cells (o+i) vs,x.own,x.es⟩)) w'/\Below B w w'
 |[],_,h,_,Z,w,b,o,i,x,g,n,q,p,f,k=>by
  cases h;refine⟨w,λP=>by simp[storeCells], ?_,Below.refl _ _⟩
  have:Z.set b (O ⟨oI x.cells (o+i) [],x.own,x.es⟩)=Z:=by
   unfold Hp.set
   have:(λj=>if j=b then O (⟨oI x.cells (o+i) [],x.own,x.es⟩:Blk)else Z.m j)=Z.m:=by
    funext j
    split
    .rename_i e;subst e;rw[q];rfl
    .rfl
   rw[this]
  rw[this];exact n
 |v::vs,_,h,t,Z,w,b,o,i,x,g,n,q,p,f,k=>by
  cases h with
  |cons C K=>
   rename_i v' d;simp only[List.length_cons]at k;have A:=n.get q f.1;obtain⟨Q,T,D,e,S,U⟩:=A.own f.2 p;have r:=n.write1 q p f.1 f.2 (o+i) (by omega) C;have l:v'.oneCell'=Za:=by rw[<-C.one_iff];exact t v (by simp)
   obtain⟨u,L,_⟩:=A.cell f.2 (o+i) (x.cells[o+i]'(by omega)) (aB (by omega));have s:w.frozen? ⟨g.c,g.o+(o+i),Y⟩=Zb:=frozen_of_row w _ _ _ _ S;have I:(Z.set b (O ⟨x.cells.set (o+i) v,x.own,x.es⟩)).m b=O ⟨x.cells.set (o+i) v,x.own,x.es⟩:=by simp[Hp.set]
   obtain⟨w',E,z,F⟩:=R.writes vs d K (λy M=>t y (by simp[M])) _ _ b o (i+1) _ g r I p f (by simp;omega);refine⟨w',λP=> ?_, ?_, ?_⟩
   .have H:(⟨g.c,g.o+o,Y⟩:Addr).add i=⟨g.c,g.o+(o+i),Y⟩:=by rw[vq,aD]
    simp only[storeCells,Sem.run_bind,H,run_store P w _ v' .plain l,L,s,Bool.false_eq_true,if_false,bB];exact E P
   .have J:(Z.set b (O ⟨x.cells.set (o+i) v,x.own,x.es⟩)).set b (O ⟨oI (x.cells.set (o+i) v) (o+(i+1)) vs,x.own,x.es⟩)=Z.set b (O ⟨oI x.cells (o+i) (v::vs),x.own,x.es⟩):=by
     unfold Hp.set
     have:(λj=>if j=b then O (⟨oI (x.cells.set (o+i) v) (o+(i+1)) vs,x.own,x.es⟩:Blk)else if j=b then O ⟨x.cells.set (o+i) v,x.own,x.es⟩else Z.m j)=
       (λj=>if j=b then O (⟨oI x.cells (o+i) (v::vs),x.own,x.es⟩:Blk)else Z.m j):=by
      funext j
      split<;>simp[oI,aD]
     simp only[this]
    rw[J]at z;exact z
   .exact((Below.refl B w).setCell Q v').trans F
end
end
section
open Go.RowKit
def zW (c:Nat->Option (Nat×Nat)):List (Nat×Operand)->Option (List (Nat×Nat×Operand))
 |[]=>O []
 |(i,x)::r=>match c i,Dl x,zW c r with
  |some (d,n),O x,O r=>O ((d,n,x)::r)
  |_,_,_=>Y
def N7 :List Operand->Option (List Operand)
 |[]=>O []
 |x::r=>match Dl x,N7 r with
  |some x,O r=>O (x::r)
  |_,_=>Y
def LA (P:Program)(c:Array Field)(i:Nat):Option (Nat×Nat):=match c[i]? with
 |some f=>(ph P f.type).map λn=>(f.offset,n)
 |none=>Y
def XM (P:Program)(f:FuncId):Bool:=match P.funcs[f]? with
 |some c=>c.body.isSome&& !(c.name== "runtime.NumGoroutine")
 |none=>Zb
def CU (P:Program)(t:TypeId):Option Nat:=match P.underlying t with
 |some .bool=>O 0
 |some (.int _)=>O 1
 |some .string=>O 2
 |_=>Y
def CV (P:Program):Nat->List Field->Option (List Nat)
 |_,[]=>O []
 |i,f::r=>if f.offset=i/\f.name≠ "_" then match CU P f.type,CV P (i+1) r with
  |some k,O c=>O (k::c)
  |_,_=>Y
  else Y
def TX (P:Program)(t:TypeId):Option (List Nat):=match P.underlying t with
 |some (.struct c)=>if P.eqGuardType P.depth t=Zb/\P.stoodInHeld t=Zb then CV P 0 c.toList else Y
 |some (.array n e)=>if ph P e=O 1/\P.eqGuardType P.depth t=Zb then(CU P e).map λk=>List.replicate n k else Y
 |_=>Y
def aJ1 :TypeDesc->Option Nat
 | .bool=>O 0
 | .pointer _=>O 1
 | .slice _=>O 2
 | .func _ _ _=>O 3
 |_=>Y
def WV (P:Program)(op:BinOp)(t:TypeId)(x y:Operand):Option AOp:=
 match P.underlying t with
 |some (.int _)|some .string=>match Dl x,Dl y with
  |some x,O y=>O (.bin op x y)
  |_,_=>Y
 |some (.struct _)|some (.array _ _)=>match op,TX P t,Dl x,Dl y with
  | .eql,O n,O x,O y=>O (.eqCells Zb n x y)
  | .neq,O n,O x,O y=>O (.eqCells Za n x y)
  |_,_,_,_=>Y
 |some d=>match aJ1 d,op,Dl x,Dl y with
  |some c, .eql,O x,O y=>O (.eqv c Zb x y)
  |some c, .neq,O x,O y=>O (.eqv c Za x y)
  |_,_,_,_=>Y
 |none=>Y
def GK (P:Program)(c:Call):Option AOp:=
 match c.callee with
 | .value (.func f)=>if XM P f then(N7 c.args.toList).map (.call f ·)else Y
 | .value (.tmp t)=>(N7 c.args.toList).map (.callv (.tmp t) ·)
 | .builtin .append=>match c.args.toList,c.argTypes.toList with
  |[s,x],[l,m]=>match P.underlying l,P.underlying m,Dl s,Dl x with
   |some (.slice e),O (.slice _),O s,O x|some (.slice e),O .string,O s,O x=>match ph P e,Vs P e,tX P e with
    |some h,O g,O z=>if z.length=h then O (.append h g s x)else Y
    |_,_,_=>Y
   |some (.slice e),O (.int _),O s,O x=>match ph P e,Vs P e,tX P e with
    |some h,O g,O z=>if z.length=h/\0<h then O (.appendZ h g z s x)else Y
    |_,_,_=>Y
   |_,_,_,_=>Y
  |_,_=>Y
 | .builtin .copy=>match c.args.toList,c.argTypes.toList with
  |[d,s],k::_=>match P.underlying k,Dl d,Dl s with
   |some (.slice e),O d,O s=>match ph P e with
    |some h=>O (.copy h d s)
    |none=>Y
   |_,_,_=>Y
  |_,_=>Y
 | .builtin .len=>match c.args.toList,c.argTypes.toList with
  |[x],t::_=>match P.underlying t,Dl x with
   |some (.slice _),O x=>O (.len x)
   |some (.array n _),_=>O (.lenC n)
   |some (.pointer j),_=>match P.underlying j with
    |some (.array n _)=>O (.lenC n)
    |_=>Y
   |_,_=>Y
  |_,_=>Y
 | .builtin .cap=>match c.args.toList,c.argTypes.toList with
  |[x],[t]=>match P.underlying t,Dl x with
   |some (.slice _),O x=>O (.capN x)
   |_,_=>Y
  |_,_=>Y
 | .builtin .max=>match c.args.toList with
  |[x,y]=>match Dl x,Dl y with
   |some x,O y=>O (.most x y)
   |_,_=>Y
  |_=>Y
 | .builtin .min=>match c.args.toList with
  |[x,y]=>match Dl x,Dl y with
   |some x,O y=>O (.least x y)
   |_,_=>Y
  |_=>Y
 |_=>Y
def WX (P:Program)(o:Oper):Option AOp:=
 match o.op with
 | .move x| .assign x=>(Dl x).map .move
 | .pick c a b=>match Dl c,Dl a,Dl b with
  |some c,O a,O b=>O (.pick c a b)
  |_,_,_=>Y
 | .alloc t=>if aU3 P t=Za then Y
  else match bj6 P t,tX P t with
  |some u,O z=>O (.alloc u z)
  |_,_=>Y
 | .box t x=>match bj6 P t,Dl x with
  |some u,O x=>O (.box u x)
  |_,_=>Y
 | .build t g=>match P.underlying t,tX P t with
  |some (.struct m),O z=>if m.toList.all λf=>(ph P f.type).isSome then(zW (LA P m) g.toList).map (.build z ·)else Y
  |some (.array _ e),O z=>match ph P e with
   |some n=>(zW (λi=>O (i*n,n)) g.toList).map (.build z ·)
   |none=>Y
  |_,_=>Y
 | .buildSlice t p g=>match P.underlying t with
  |some (.slice e)=>match ph P e,tX P e with
   |some n,O z=>if p*n<=16777216/\z.length=n/\0<n then(zW (λi=>O (i*n,n)) g.toList).map (.buildSlice n p z ·)else Y
   |_,_=>Y
  |_=>Y
 | .load _ (.global _)=>O .stuck
 | .load t x=>match DU P t,Dl x with
  |some Za,O x=>(ph P t).map (.loadN · x)
  |some Zb,O x=>O (.load x)
  |_,_=>Y
 | .store t x y=>match ph P t,Dl x,Dl y with
  |some n,O x,O y=>O (.store n x y)
  |_,_,_=>Y
 | .nilCheck x=>(Dl x).map .nilCheck
 | .binOp op t x y _=>WV P op t x y
 | .unOp op _ x=>(Dl x).map (.un op ·)
 | .convert s d x=>match P.underlying s,P.underlying d,Dl x with
  |some (.int _),O (.int k),O x=>O (.conv k x)
  |_,_,_=>Y
 | .makeFunc (.func f) first h=>match N7 first.toList,N7 h.toList with
  |some C,O D=>O (.mkFunc f C D)
  |_,_=>Y
 | .makeSlice t l c=>match P.underlying t with
  |some (.slice e)=>match ph P e,Vs P e,tX P e,Dl l,Dl c with
   |some n,O r,O z,O l,O c=>if z.length=n/\0<n then O (.makeSlice n r z l c)else Y
   |_,_,_,_,_=>Y
  |_=>Y
 | .slice t x q j Y=>match P.underlying t,Dl x,aL8 q,aL8 j with
  |some (.slice e),O x,O q,O j=>(ph P e).map (.slice · x q j)
  |some (.array n e),O x,O q,O j=>(ph P e).map (.sliceArr · n x q j)
  |_,_,_,_=>Y
 | .fieldAddr s x i=>match P.underlying s,Dl x with
  |some (.struct m),O x=>match m[i]? with
   |some f=>match ph P f.type with
    |some n=>if n=0 then Y else O (.off f.offset x)
    |none=>Y
   |none=>Y
  |_,_=>Y
 | .field t x i=>match P.underlying t,Dl x with
  |some (.struct m),O x=>match m[i]? with
   |some f=>match ph P f.type,DU P f.type with
    |some n,O b=>O (.fieldV f.offset n b x)
    |_,_=>Y
   |none=>Y
  |_,_=>Y
 | .indexAddr t x i=>match P.underlying t,Dl x,Dl i with
  |some (.slice e),O x,O i=>(ph P e).map (.idx · x i)
  |some (.array n e),O x,O i=>(ph P e).map (.idxA n · x i)
  |_,_,_=>Y
 | .index t x i=>match P.underlying t,Dl x,Dl i with
  |some (.array n e),O x,O i=>match ph P e,DU P e with
   |some s,O b=>O (.indexV n s b x i)
   |_,_=>Y
  |some .string,O x,O i=>O (.indexS x i)
  |_,_,_=>Y
 | .slice t x Y (O j) (O A)=>match P.underlying t,Dl x,Dl j,Dl A with
  |some (.slice d),O x,O j,O A=>if(ph P d).isSome then O (.sliceX x j A)else Y
  |_,_,_,_=>Y
 | .extract x i=>(Dl x).map (.extract · i)
 | .call c=>GK P c
 | .makeInterface _ _| .panic _=>O .stuck
 |_=>Y
section
variable {P:Program} {o:Oper} {a:Act} {w:World} {B:Base P} {N:Nat} {μ:Mu} {e:cm} {Z Z':Hp} {v:Value}
theorem ab1 (ho:o.op= .move x∨o.op= .assign x)(g:di x=Za)(c:(AOp.move x).run e Z=O (v,Z'))(f:ig μ N e a.tmps)(d:R B μ Z w):oV P o a w B μ v Z':=by
 simp only[AOp.run,Option.some.injEq,Prod.mk.injEq]at c;obtain⟨rfl,rfl⟩:=c;rcases ho with ho|ho<;>exact .same d (by simp[execOp,ho]) (f.ev g)
theorem VR.bool_inv {v':Value}(h:VR μ (.bool b) v'):v'= .bool b:=by cases h;rfl
theorem VR.int_inv {k:IntKind}{n:Int}{v':Value}(h:VR μ (.int k n) v'):v'= .int k n:=by cases h;rfl
theorem VR.string_inv {s:ByteArray}{v':Value}(h:VR μ (.string s) v'):v'= .string s:=by cases h;rfl
theorem aL6 {c:Operand}(l:o.op= .pick c x y)(m:di c=Za)(n:di x=Za)(p:di y=Za)(f:(AOp.pick c x y).run e Z=O (v,Z'))(j:ig μ N e a.tmps)(k:R B μ Z w):oV P o a w B μ v Z':=by
 have h:=j.ev m;simp only[AOp.run]at f;split at f
 .rename_i g;rw[g]at h;have d:=h.bool_inv;simp only[Option.some.injEq,Prod.mk.injEq]at f;obtain⟨rfl,rfl⟩:=f;exact .same k (by simp[execOp,l,d,asBool]) (j.ev n)
 .rename_i g;rw[g]at h;have d:=h.bool_inv;simp only[Option.some.injEq,Prod.mk.injEq]at f;obtain⟨rfl,rfl⟩:=f;exact .same k (by simp[execOp,l,d,asBool]) (j.ev p)
 .cases f
theorem oV.new (g:R B μ Z w)(c:Array Value)(t:TypeId)(cells:List Value)(es:Nat)(v':Value)(h:F2 (VR μ) cells c.toList)
  (f:(execOp a.eval o).run P w= .ok (.value v') (w.alloc (.cells c t)))
  (l:(μ.add Z.n ⟨w.heap.size,0,c.size,es,t,Y⟩).at Z.n ⟨w.heap.size,0,c.size,es,t,Y⟩->VR (μ.add Z.n ⟨w.heap.size,0,c.size,es,t,Y⟩) v v'):oV P o a w B μ v (Z.add ⟨cells,Za,es⟩):=by
 have d:cells.length=c.size:=by simpa using h.length
 obtain⟨j,k⟩:=g.add c t cells es (by omega) (by rw[d,<-Array.length_toList,List.take_length];exact h);exact⟨_,_,_,v',f, .inl rfl,k,j,l ⟨by simp[Mu.add],rfl⟩,(Below.refl _ _).alloc g.base _⟩
theorem aw9 {t:TypeId}{es:Nat}{z:List Value}(l:o.op= .alloc t)(m:tX P t=O z)(d:(AOp.alloc es z).run e Z=O (v,Z'))(k:R B μ Z w):oV P o a w B μ v Z':=by
 obtain⟨f,g,j,c⟩:=rj m;simp only[AOp.run,Option.some.injEq,Prod.mk.injEq]at d;obtain⟨rfl,rfl⟩:=d;refine .new k f.cells t z es (.pointer (O ⟨w.heap.size,0,Y⟩)) ?_ ?_ (λh=> .ptr (o:=0) h)
 .have:z=f.cells.toList:=j.symm;rw[this];rw[this]at c;exact VR.plainCells c
 .simp[execOp,l,Instr.alloc,g,newVar,newRow]
theorem bc2 {t:TypeId}{es:Nat}(g:o.op= .box t x)(j:di x=Za)(c:(AOp.box es x).run e Z=O (v,Z'))(f:ig μ N e a.tmps)(d:R B μ Z w):oV P o a w B μ v Z':=by
 simp only[AOp.run]at c;split at c
 .simp only[Option.some.injEq,Prod.mk.injEq]at c;obtain⟨rfl,rfl⟩:=c;refine .new d (a.eval x).cells t _ es (.pointer (O ⟨w.heap.size,0,Y⟩)) (f.ev j).cells ?_ (λh=> .ptr (o:=0) h);simp[execOp,g,Instr.box,newVar,newRow]
 .cases c
theorem VR.ptr_inv {b n:Nat}{v':Value}(h:VR μ (.pointer (O ⟨b,n,Y⟩)) v'): ∃g,μ.at b g/\v'= .pointer (O ⟨g.c,g.o+n,Y⟩):=by
 cases h with
 |ptr h=>exact⟨_,h,rfl⟩
theorem aL4 {t:TypeId}(r:o.op= .load t x)(s:DU P t=O Zb)(C:di x=Za)(c:(AOp.load x).run e Z=O (v,Z'))(q:ig μ N e a.tmps)(f:R B μ Z w):oV P o a w B μ v Z':=by
 have h:=q.ev C;simp only[AOp.run]at c;split at c
 .rename_i b n p;rw[p]at h;obtain⟨g,j,A⟩:=h.ptr_inv;split at c
  .rename_i k d;obtain⟨u,z,c⟩:=Option.map_eq_some_iff.1 c;simp only[Prod.mk.injEq]at c;obtain⟨rfl,rfl⟩:=c;obtain⟨D,l,m⟩:=(f.get d j.1).cell j.2 n u z;refine .same f ?_ m;simp[execOp,r,Instr.loadAt,Instr.sureAddr,A,loadVar,Jr s,l]
  .cases c
 .cases c
theorem ax3 {t:TypeId}{n:Nat}(z:o.op= .load t x)(A:DU P t=O Za)(u:ph P t=O n)(D:di x=Za)(c:(AOp.loadN n x).run e Z=O (v,Z'))(r:ig μ N e a.tmps)(j:R B μ Z w):oV P o a w B μ v Z':=by
 have h:=r.ev D;simp only[AOp.run]at c;split at c
 .rename_i b n q;rw[q]at h;obtain⟨g,s,C⟩:=h.ptr_inv;split at c
  .rename_i k d;obtain⟨E,f,c⟩:=Option.map_eq_some_iff.1 c;simp only[Prod.mk.injEq]at c;obtain⟨rfl,rfl⟩:=c;obtain⟨l,m,p⟩:=j.reads d s f;refine .same j ?_ (.agg p);simp[execOp,z,Instr.loadAt,Instr.sureAddr,C,loadVar,Jr A,qf u,m P w rfl]
  .cases c
 .cases c
theorem ax5 {t:TypeId}{n:Nat}(K:o.op= .store t x y)(J:ph P t=O n)(S:di x=Za)(T:di y=Za)(c:(AOp.store n x y).run e Z=O (v,Z'))(z:ig μ N e a.tmps)(E:R B μ Z w):oV P o a w B μ v Z':=by
 have h:=z.ev S;have j:=(z.ev T).cells;simp only[AOp.run]at c;split at c
 .rename_i b r F;rw[F]at h;obtain⟨g,I,Q⟩:=h.ptr_inv;split at c
  .rename_i q;split at c
   .rename_i m f;unfold EK at c;split at c
    .rename_i s l;split at l
     .rename_i H;obtain⟨k,p,d⟩:=H;injection l with l
      subst l;simp only[Option.some.injEq,Prod.mk.injEq]at c;obtain⟨rfl,rfl⟩:=c;obtain⟨w',A,C,D⟩:=R.writes _ _ j (λu M=>List.all_eq_true.1 d u M) Z w b r 0 m g E f k I p;refine⟨.skip,w',μ,undef, ?_, .inr ⟨rfl,rfl⟩,μ.le_refl,C,VR.undef μ,D⟩;have L:(a.eval y).cells.size=n:=by rw[<-q,j.length];simp
      simp[execOp,K,Instr.storeAt,Instr.sureAddr,Q,storeVar,qf J,L,A]
     .cases l
    .cases c
   .cases c
  .cases c
 .cases c
theorem Wb (k:o.op= .nilCheck x)(s:di x=Za)(c:(AOp.nilCheck x).run e Z=O (v,Z'))(r:ig μ N e a.tmps)(j:R B μ Z w):oV P o a w B μ v Z':=by
 have h:=r.ev s;simp only[AOp.run]at c;split at c
 .rename_i b d;simp only[Option.some.injEq,Prod.mk.injEq]at c;obtain⟨rfl,rfl⟩:=c;rw[d]at h;generalize g:a.eval x=u at h;cases h with
  |ptr l=>exact .same j (by simp[execOp,k,g]) (.ptr l)
 .rename_i f p q d;simp only[Option.some.injEq,Prod.mk.injEq]at c;obtain⟨rfl,rfl⟩:=c;rw[d]at h;generalize g:a.eval x=u at h;cases h with
  |func m n=>exact .same j (by simp[execOp,k,g]) (.func m n)
 .cases c
end
end
section
open List renaming drop_drop -> aB, getElem?_drop -> bB
open Nat renaming add_comm -> aD
open Go.RowKit
section
variable {P:Program} {o:Oper} {a:Act} {w:World} {B:Base P} {N:Nat} {μ:Mu} {e:cm} {Z Z':Hp} {v:Value}
theorem aG2 (op:BinOp)(t:TypeId)(x y z:Value)(h:ED op x y=O z)(w:World)(l p:Operand):
  (eqGuard op t l p x y).run P w= .ok () w/\(binOp op t x y).run P w= .ok z w:=by
 cases x with
 |int k m=>cases y with
  |int q n=>
   simp only[ED]at h;by_cases c:zV op=Za
   .rw[zE c]at h;unfold Qx at h;split at h
    .cases h
    .rename_i j;cases op<;>simp[zV]at c<;>simp at h<;>subst h<;>simp[eqGuard,binOp,Op.shift,j]
   .rw[zF c]at h;split at h
    .rename_i g;subst g;cases op<;>simp[zV]at c<;>simp[Y8]at h
     all_goals first
      |(obtain⟨f,d⟩:=h;subst d;simp[eqGuard,binOp,Op.intDiv,f])
      |(subst h;simp[eqGuard,binOp,Op.intArith,Op.intBits,Op.intCmp])
    .cases h
  |_=>simp[ED]at h
 |string s=>cases y with
  |string r=>
   simp only[ED]at h;split at h
   .cases h
   .rename_i c;cases op<;>simp[zV]at c<;>simp[ac6]at h
    all_goals first
     |(obtain⟨f,d⟩:=h;subst d;simp[eqGuard,binOp,Op.stringOp];omega)
     |(subst h;simp[eqGuard,binOp,Op.stringOp])
  |_=>simp[ED]at h
 |_=>simp[ED]at h
theorem aG3 {x y f g z:Value}(h:ED op x y=O z)(c:VR μ x f)(d:VR μ y g):f=x/\g=y:=by
 cases x with
 |int k m=>cases y with
  |int j n=>exact⟨c.int_inv,d.int_inv⟩
  |_=>simp[ED]at h
 |string s=>cases y with
  |string l=>exact⟨c.string_inv,d.string_inv⟩
  |_=>simp[ED]at h
 |_=>simp[ED]at h
theorem Xt {x y z:Value}(h:ED op x y=O z):VR μ z z:=by
 cases x with
 |int k m=>cases y with
  |int d n=>
   simp only[ED]at h;split at h
   .unfold Qx at h;split at h
    .cases h
    .cases op<;>simp at h<;>subst h<;>exact .int _ _
   .split at h
    .cases op<;>simp[Y8]at h
     all_goals first
      |(obtain⟨_,c⟩:=h;subst c;exact .int _ _)
      |(subst h;first|exact .int _ _|exact .bool _)
    .cases h
  |_=>simp[ED]at h
 |string s=>cases y with
  |string f=>
   simp only[ED]at h;split at h
   .cases h
   .cases op<;>simp[ac6]at h
    all_goals first
     |(obtain⟨_,c⟩:=h;subst c;exact .string _)
     |(subst h;first|exact .string _|exact .bool _)
  |_=>simp[ED]at h
 |_=>simp[ED]at h
theorem ax0 {t q:TypeId}(k:o.op= .binOp op t x y q)(l:di x=Za)(m:di y=Za)(c:(AOp.bin op x y).run e Z=O (v,Z'))(f:ig μ N e a.tmps)(j:R B μ Z w):oV P o a w B μ v Z':=by
 simp only[AOp.run]at c;obtain⟨z,d,c⟩:=Option.map_eq_some_iff.1 c;simp only[Prod.mk.injEq]at c;obtain⟨rfl,rfl⟩:=c;obtain⟨g,h⟩:=aG3 d (f.ev l) (f.ev m);refine .same j ?_ (Xt d);obtain⟨n,p⟩:=aG2 (P:=P) op t _ _ _ d w x y;simp[execOp,k,g,h,n,p]
theorem XO (op:BinOp)(t:TypeId)(f g:Operand)(x y:Value)(c: ¬(x= .nilIface/\y= .nilIface))(d: ∀a b,¬(x= .agg a/\y= .agg b))(w:World):(eqGuard op t f g x y).run P w= .ok () w:=by
 unfold eqGuard
 cases op<;>first
  |rfl
  |(cases x<;>cases y<;>first
    |rfl
    |exact absurd ⟨rfl,rfl⟩ c
    |exact absurd ⟨rfl,rfl⟩ (d _ _))
set_option maxHeartbeats 1000000 in
theorem aH8 {t:TypeId}{d:TypeDesc}{f:Nat}(k:P.underlying t=O d)(c:aJ1 d=O f){x y g j:Value}(h:VE f x y=O b)(l:VR μ x g)(m:VR μ y j)(w:World):
  (Op.equal t g j).run P w= .ok b w:=by
 unfold Op.equal Op.maxDepth;rw[show(10000:Nat)=9999+1 from rfl,Op.equalIn];simp only[Sem.run_bind,fg k,Result.andThen_ok];cases d<;>simp[aJ1]at c<;>subst c
 all_goals (cases l<;>cases m<;>simp[VE]at h<;>simp[<-h])
theorem aH9 {n:Nat}{x y d f:Value}(h:VE n x y=O b)(g:VR μ x d)(m:VR μ y f)(t:TypeId)(c:Bool)(w:World)(l:(Op.equal t d f).run P w= .ok b w):
  (binOp (if c then .neq else .eql) t d f).run P w= .ok (.bool (b !=c)) w/\(∀j k op,(eqGuard op t j k d f).run P w= .ok () w):=by
 refine⟨?_,λj k op=>XO op t j k d f ?_ ?_ w⟩
 .have:binOp (if c then .neq else .eql) t d f=(Op.equal t d f >>=λq=>pure (.bool (if c then !q else q))):=by
   cases g<;>cases m<;>first
    |(cases c<;>rfl)
    |(unfold VE at h;split at h<;>simp_all)
  rw[this];cases c<;>simp[l]
 .rintro⟨rfl,rfl⟩;cases g;unfold VE at h;split at h<;>simp_all
 .rintro p q ⟨rfl,rfl⟩;cases g;unfold VE at h;split at h<;>simp_all
theorem ax1 {t A:TypeId}{d:TypeDesc}{m:Nat}{c:Bool}(r:o.op= .binOp op t x y A)(h:op=if c then .neq else .eql)(p:P.underlying t=O d)(q:aJ1 d=O m)(j:di x=Za)(k:di y=Za)(f:(AOp.eqv m c x y).run e Z=O (v,Z'))(g:ig μ N e a.tmps)(n:R B μ Z w):oV P o a w B μ v Z':=by
 simp only[AOp.run]at f;obtain⟨b,l,f⟩:=Option.map_eq_some_iff.1 f;simp only[Prod.mk.injEq]at f;obtain⟨rfl,rfl⟩:=f;have s:=aH8 p q l (g.ev j) (g.ev k) w;obtain⟨u,z⟩:=aH9 l (g.ev j) (g.ev k) t c w s;refine .same n ?_ (.bool _);simp[execOp,r,h,u,z]
theorem Np {t:TypeId}{g:Nat}(f:CU P t=O g){x y j k:Value}(h:Az g x y=O b)(m:VR μ x j)(n:VR μ y k)(d:Nat)(w:World):
  (Op.equalIn (d+1) t j k).run P w= .ok b w:=by
 unfold CU at f;cases c:P.underlying t with
 |none=>simp[c]at f
 |some l=>
  cases l<;>simp[c]at f<;>subst f
  all_goals
   cases m<;>cases n<;>simp[Az]at h
  .simp[run_equalIn_bool _ _ _ _ _ c,<-h]
  .obtain⟨rfl,rfl⟩:=h;simp[run_equalIn_int _ _ _ _ _ _ _ c]
  .simp[run_equalIn_string _ _ _ _ _ c,<-h]
theorem E8 {t:TypeId}{d:Nat}(c:CU P t=O d):DU P t=O Zb:=by
 unfold CU at c;unfold DU;split at c<;>simp_all
theorem zu {t:TypeId}(h:DU P t=O Zb){cs:Array Value}{i:Nat}{v:Value}(c:cs[i]?=O v)(w:World):(part t cs i).run P w= .ok v w:=by
 simp[part,Jr h,c]
theorem Nq (w:World)(d:Nat)(n p:Array Value): ∀(r:List Field) (i:Nat) (u:List Nat) (l m:List Value) (b:Bool),CV P i r=O u->nL u l m=O b->
  F2 (VR μ) l (n.toList.drop i)->F2 (VR μ) m (p.toList.drop i)->(Op.eqFields (d+1) n p r).run P w= .ok b w
 |[],i,u,l,m,b,c,h,_,_=>by
  simp[CV]at c;subst c;cases l<;>cases m<;>simp[nL]at h;subst h;simp[Op.eqFields]
 |f::r,i,u,l,m,b,c,h,C,D=>by
  simp only[CV]at c;split at c
  .rename_i s;split at c
   .rename_i k A z H;injection c with c
    subst c;cases l with
    |nil=>simp[nL]at h
    |cons x l=>cases m with
     |nil=>simp[nL]at h
     |cons y m=>
      simp only[nL]at h;obtain⟨Q,E,J⟩:=C.get 0 x rfl;obtain⟨S,F,K⟩:=D.get 0 y rfl;rw[bB]at E F;have g:n[i]?=O Q:=by simpa using E
      have j:p[i]?=O S:=by simpa using F
      have L:F2 (VR μ) l (n.toList.drop (i+1)):=by
       have:=C.drop 1;simpa[aB,aD]using this
      have M:F2 (VR μ) m (p.toList.drop (i+1)):=by
       have:=D.drop 1;simpa[aB,aD]using this
      have I:=Nq w d n p r (i+1) A l m;cases t:Az k x y with
      |none=>simp[t]at h
      |some q=>
       have:=Np (P:=P) z t J K d w;cases q with
       |true=>
        simp only[t]at h;simp[Op.eqFields,s.2,zu (E8 z),s.1,g,j,this,I b H h L M]
       |false=>
        simp[t]at h;simp[Op.eqFields,s.2,zu (E8 z),s.1,g,j,this,<-h]
   .cases c
  .cases c
theorem VD (w:World)(d:Nat)(e:TypeId)(k:Nat)(f:CU P e=O k)(r s:Array Value): ∀(n i:Nat) (l m:List Value) (b:Bool),nL (List.replicate n k) l m=O b->
  F2 (VR μ) l (r.toList.drop i)->F2 (VR μ) m (s.toList.drop i)->
  (forIn (List.range' i n) ((Y,()):Option Bool×Unit) λj (_:Option Bool×Unit)=>(do
    let a<-part e r (j*1)
    let c<-part e s (j*1)
    let q<-Op.equalIn (d+1) e a c
    if(!q)=Za then pure (ForInStep.done (O Zb,()))else pure (ForInStep.yield (Y,())):Sem (ForInStep (Option Bool×Unit)))).run P w= .ok (if b then Y else O Zb,()) w
 |0,i,l,m,b,h,_,_=>by
  cases l<;>cases m<;>simp[nL]at h;subst h;simp
 |n+1,i,l,m,b,h,A,C=>by
  rw[List.replicate_succ]at h;cases l with
  |nil=>simp[nL]at h
  |cons x l=>cases m with
   |nil=>simp[nL]at h
   |cons y m=>
    simp only[nL]at h;obtain⟨L,D,H⟩:=A.get 0 x rfl;obtain⟨M,E,I⟩:=C.get 0 y rfl;rw[bB]at D E;have g:r[i]?=O L:=by simpa using D
    have p:s[i]?=O M:=by simpa using E
    have J:F2 (VR μ) l (r.toList.drop (i+1)):=by
     have:=A.drop 1;simpa[aB,aD]using this
    have K:F2 (VR μ) m (s.toList.drop (i+1)):=by
     have:=C.drop 1;simpa[aB,aD]using this
    have F:=VD w d e k f r s n (i+1) l m;cases t:Az k x y with
    |none=>simp[t]at h
    |some q=>
     have u:=Np (P:=P) f t H I d w;rw[List.range'_succ,List.forIn_cons];cases q with
     |true=>
      simp only[t]at h;have z:=F b h J K;simp only[Nat.mul_one]at z⊢;simp[zu (E8 f) g,zu (E8 f) p,u,Result.andThen];simpa using z
     |false=>
      simp[t]at h;simp[zu (E8 f) g,zu (E8 f) p,u,<-h]
end
end
section
open Nat renaming add_assoc -> aB
open Result renaming andThen_ok -> aD
open Go.RowKit
section
variable {P:Program} {o:Oper} {a:Act} {w:World} {B:Base P} {N:Nat} {μ:Mu} {e:cm} {Z Z':Hp} {v:Value}
theorem VR.agg_inv {p:Array Value}{v':Value}(h:VR μ (.agg p) v'): ∃q,v'= .agg q/\F2 (VR μ) p.toList q.toList:=by
 cases h with
 |agg h=>exact⟨_,rfl,h⟩
theorem Qo {t:TypeId}{s:List Nat}(c:TX P t=O s){p q g j:Array Value}(h:nL s p.toList q.toList=O b)(u:F2 (VR μ) p.toList g.toList)(z:F2 (VR μ) q.toList j.toList)(w:World):
  (Op.equal t (.agg g) (.agg j)).run P w= .ok b w/\P.eqGuardType P.depth t=Zb:=by
 unfold TX at c;unfold Op.equal Op.maxDepth;rw[show(10000:Nat)=9998+1+1 from rfl];cases f:P.underlying t with
 |none=>simp[f]at c
 |some A=>
  cases A<;>simp[f]at c
  case struct fs=>
   obtain⟨⟨l,m⟩,r⟩:=c;have d:P.fieldsOf t=fs:=by simp[Program.fieldsOf,f]
   rw[run_equalIn_struct w _ t g j (by rw[d,f]) m,d];exact⟨Nq w 9998 g j fs.toList 0 s _ _ b r h (by simpa using u) (by simpa using z),l⟩
  case array n e=>
   obtain⟨⟨l,m⟩,k,r,C⟩:=c;subst C;refine⟨?_,m⟩;have:=VD (P:=P) w 9998 e k r g j n 0 _ _ b h (by simpa using u) (by simpa using z);rw[Op.equalIn];simp only[Sem.run_bind,fg f,aD,qf l];cases b<;>simp at this⊢ <;>rw[this]<;>rfl
theorem Gt {t S:TypeId}{k:List Nat}{d:Bool}(s:o.op= .binOp op t x y S)(f:op=if d then .neq else .eql)(r:TX P t=O k)(A:di x=Za)(C:di y=Za)(c:(AOp.eqCells d k x y).run e Z=O (v,Z'))(j:ig μ N e a.tmps)(n:R B μ Z w):oV P o a w B μ v Z':=by
 simp only[AOp.run]at c;split at c
 .rename_i p q u z;obtain⟨b,D,c⟩:=Option.map_eq_some_iff.1 c;simp only[Prod.mk.injEq]at c;obtain⟨rfl,rfl⟩:=c;have g:=j.ev A;have h:=j.ev C;rw[u]at g;rw[z]at h;obtain⟨K,l,M⟩:=g.agg_inv;obtain⟨L,m,Q⟩:=h.agg_inv;obtain⟨E,F⟩:=Qo r D M Q w;refine .same n ?_ (.bool _);have H:=λI J=>run_eqGuard_agg (P:=P) w op t I J K L F
  simp only[execOp,s,l,m,Sem.run_bind,H,aD];cases d<;>simp[f,binOp,E]
 .cases c
theorem bn1 {t:TypeId}{op:UnOp}(g:o.op= .unOp op t x)(k:di x=Za)(c:(AOp.un op x).run e Z=O (v,Z'))(j:ig μ N e a.tmps)(f:R B μ Z w):oV P o a w B μ v Z':=by
 simp only[AOp.run]at c;obtain⟨z,d,c⟩:=Option.map_eq_some_iff.1 c;simp only[Prod.mk.injEq]at c;obtain⟨rfl,rfl⟩:=c;have h:=j.ev k;generalize e.ev x=u at*;cases u<;>cases op<;>simp[un1]at d
 .subst d;have:=h.bool_inv;exact .same f (by simp[execOp,g,this,Op.unary]) (.bool _)
 .subst d;have:=h.int_inv;exact .same f (by simp[execOp,g,this,Op.unary,Op.intArith]) (.int _ _)
 .subst d;have:=h.int_inv;exact .same f (by simp[execOp,g,this,Op.unary,Op.intBits]) (.int _ _)
theorem aL1 {s d:TypeId}{k r:IntKind}(m:o.op= .convert s d x)(p:P.underlying s=O (.int r))(j:P.underlying d=O (.int k))(q:di x=Za)(c:(AOp.conv k x).run e Z=O (v,Z'))(l:ig μ N e a.tmps)(g:R B μ Z w):oV P o a w B μ v Z':=by
 simp only[AOp.run]at c;obtain⟨n,f,c⟩:=Option.map_eq_some_iff.1 c;simp only[Prod.mk.injEq]at c;obtain⟨rfl,rfl⟩:=c;have h:=l.ev q;generalize e.ev x=u at*;cases u<;>simp[bk3]at f;subst f;have:=h.int_inv;exact .same g (by simp[execOp,m,this,convert,fg p,fg j,Conv.intToInt]) (.int _ _)
theorem Li (f:ig μ N e a.tmps): ∀{d c:List Operand},N7 d=O c->F2 (VR μ) (c.map e.ev) (d.map a.eval)
 |[],c,h=>by simp[N7]at h;subst h;exact .nil
 |x::d,c,h=>by
  simp only[N7]at h;split at h
  .rename_i l r g j;injection h with h
   subst h;obtain⟨rfl,k⟩:=au g;exact .cons (f.ev k) (Li f j)
  .cases h
theorem ai7 {f:FuncId}{first c:Array Operand}{h cs:List Operand}(m:o.op= .makeFunc (.func f) first c)(j:N7 first.toList=O h)(l:N7 c.toList=O cs)(g:(AOp.mkFunc f h cs).run e Z=O (v,Z'))(d:ig μ N e a.tmps)(k:R B μ Z w):oV P o a w B μ v Z':=by
 simp only[AOp.run,Option.some.injEq,Prod.mk.injEq]at g;obtain⟨rfl,rfl⟩:=g;refine .same k (v':= .func (.func f) (first.map a.eval) (c.map a.eval)) (by simp[execOp,m,Instr.makeFunc]) (.func ?_ ?_)
 .simpa using Li d j
 .simpa using Li d l
theorem bc5 {t:TypeId}{i n:Nat}{j:Array Field}{f:Field}(u:o.op= .fieldAddr t x i)(z:P.underlying t=O (.struct j))(r:j[i]?=O f)(s:ph P f.type=O n)(k:n≠0)(C:di x=Za)(d:(AOp.off f.offset x).run e Z=O (v,Z'))(p:ig μ N e a.tmps)(l:R B μ Z w):oV P o a w B μ v Z':=by
 have h:=p.ev C;simp only[AOp.run]at d;split at d
 .rename_i b off m;simp only[Option.some.injEq,Prod.mk.injEq]at d;obtain⟨rfl,rfl⟩:=d;rw[m]at h;obtain⟨g,q,A⟩:=h.ptr_inv;refine .same l (v':= .pointer (O ⟨g.c,g.o+(off+f.offset),Y⟩)) ?_ (.ptr q);simp[execOp,u,Instr.fieldAt,fg z,r,A,Instr.sureAddr,fieldPlace,qf s,k,vq,aB]
 .cases d
theorem VR.slice_inv {b n l c:Nat}{v':Value}(h:VR μ (.slice (O ⟨b,n,Y⟩) l c) v'):
  (∃g d,μ.at b g/\l<=c/\c<=d/\n+d*g.es<=g.ext/\v'= .slice (O ⟨g.c,g.o+n,Y⟩) l d)∨(l=0/\c=0/\∃A',v'= .slice (O A') 0 0/\∃g,μ.at b g):=by
 cases h with
 |slice f j k m=>exact .inl ⟨_,_,f,j,k,m,rfl⟩
 |slice0 A' h=>exact .inr ⟨rfl,rfl,A',rfl,_,h⟩
theorem bc3 {t d:TypeId}{n:Nat}(F:o.op= .indexAddr t x i)(H:P.underlying t=O (.slice d))(E:ph P d=O n)(J:di x=Za)(C:di i=Za)(f:(AOp.idx n x i).run e Z=O (v,Z'))(s:ig μ N e a.tmps)(u:R B μ Z w):oV P o a w B μ v Z':=by
 have h:=s.ev J;have r:=s.ev C;simp only[AOp.run]at f;split at f
 .rename_i b q l c k j z D;split at f
  .rename_i p;simp only[Option.some.injEq,Prod.mk.injEq]at f;obtain⟨rfl,rfl⟩:=f;rw[z]at h;rw[D]at r;have m:=r.int_inv;rcases h.slice_inv with⟨g,K,A,_,_,_,I⟩|⟨rfl,_⟩
   .refine .same u (v':= .pointer (O ⟨g.c,g.o+(q+j.toNat*n),Y⟩)) ?_ (.ptr A);simp[execOp,F,Instr.indexAt,fg H,I,m,asIntOf,p,qf E,vq,aB]
   .omega
  .cases f
 .cases f
theorem aL3 {t d:TypeId}{m n:Nat}(F:o.op= .indexAddr t x i)(H:P.underlying t=O (.array m d))(E:ph P d=O n)(J:di x=Za)(C:di i=Za)(f:(AOp.idxA m n x i).run e Z=O (v,Z'))(s:ig μ N e a.tmps)(u:R B μ Z w):oV P o a w B μ v Z':=by
 have h:=s.ev J;have r:=s.ev C;simp only[AOp.run]at f;split at f
 .rename_i b q k j z D;split at f
  .rename_i p;simp only[Option.some.injEq,Prod.mk.injEq]at f;obtain⟨rfl,rfl⟩:=f;rw[z]at h;rw[D]at r;have l:=r.int_inv;obtain⟨g,A,I⟩:=h.ptr_inv;refine .same u (v':= .pointer (O ⟨g.c,g.o+(q+j.toNat*n),Y⟩)) ?_ (.ptr A);simp[execOp,F,Instr.indexAt,Instr.sureAddr,fg H,I,l,asIntOf,p,qf E,vq,aB]
  .cases f
 .cases f
theorem WF {t:TypeId}{n i:Nat}(g:DU P t=O b)(k:ph P t=O n){p q:Array Value}(c:F2 (VR μ) p.toList q.toList){u:Value}
  (d:(if b then O (.agg (p.extract i (i+n)))else p[i]?)=O u) (w:World): ∃f,(part t q i).run P w= .ok f w/\VR μ u f:=by
 cases b with
 |true=>
  simp at d;subst d;refine⟨.agg (q.extract i (i+n)),by simp[part,Jr g,qf k], .agg ?_⟩;simpa[Array.toList_extract,List.extract_eq_take_drop]using(c.drop i).take n
 |false=>
  simp at d;obtain⟨f,h,j⟩:=c.get i u (by simpa using d);exact⟨f,zu g (by simpa using h) w,j⟩
theorem ai4 {t:TypeId}{i n:Nat}{g:Array Field}{f:Field}(u:o.op= .field t x i)(C:P.underlying t=O (.struct g))(m:g[i]?=O f)(s:ph P f.type=O n)(k:DU P f.type=O b)(D:di x=Za)(c:(AOp.fieldV f.offset n b x).run e Z=O (v,Z'))(l:ig μ N e a.tmps)(j:R B μ Z w):oV P o a w B μ v Z':=by
 have h:=l.ev D;simp only[AOp.run]at c;split at c
 .rename_i p z;rw[z]at h;obtain⟨q,A,r⟩:=h.agg_inv
  have:Z'=Z/\(if b then O (.agg (p.extract f.offset (f.offset+n)))else p[f.offset]?)=O v:=by
   cases b
   .simp at c;obtain⟨_,d,rfl,rfl⟩:=c;exact⟨rfl,by simpa using d⟩
   .simp at c;exact⟨c.2.symm,by simp[c.1]⟩
  obtain⟨rfl,d⟩:=this;obtain⟨H,E,F⟩:=WF k s r d w;exact .same j (by simp[execOp,u,Instr.field,fg C,m,A,asAgg,E]) F
 .cases c
theorem ai6 {t d:TypeId}{m n:Nat}(F:o.op= .index t x i)(J:P.underlying t=O (.array m d))(z:ph P d=O n)(C:DU P d=O b)(K:di x=Za)(D:di i=Za)(c:(AOp.indexV m n b x i).run e Z=O (v,Z'))(u:ig μ N e a.tmps)(A:R B μ Z w):oV P o a w B μ v Z':=by
 have h:=u.ev K;have s:=u.ev D;simp only[AOp.run]at c;split at c
 .rename_i p k j H E;rw[H]at h;rw[E]at s;have g:=s.int_inv;obtain⟨q,I,r⟩:=h.agg_inv;split at c
  .rename_i l
   have:Z'=Z/\(if b then O (.agg (p.extract (j.toNat*n) (j.toNat*n+n)))else p[j.toNat*n]?)=O v:=by
    cases b
    .simp at c;obtain⟨_,f,rfl,rfl⟩:=c;exact⟨rfl,by simpa using f⟩
    .simp at c;exact⟨c.2.symm,by simp[c.1]⟩
   obtain⟨rfl,f⟩:=this;obtain⟨Q,L,M⟩:=WF C z r f w;exact .same A (by simp[execOp,F,Instr.index,fg J,I,g,asIntOf,l,qf z,L]) M
  .cases c
 .cases c
theorem ai5 {t:TypeId}(z:o.op= .index t x i)(C:P.underlying t=O .string)(D:di x=Za)(r:di i=Za)(d:(AOp.indexS x i).run e Z=O (v,Z'))(m:ig μ N e a.tmps)(p:R B μ Z w):oV P o a w B μ v Z':=by
 have h:=m.ev D;have l:=m.ev r;simp only[AOp.run]at d;split at d
 .rename_i s k j A u;rw[A]at h;rw[u]at l;have f:=l.int_inv;have g:=h.string_inv;split at d
  .rename_i n;obtain⟨c,q,d⟩:=Option.map_eq_some_iff.1 d;simp only[Prod.mk.injEq]at d;obtain⟨rfl,rfl⟩:=d;exact .same p (by simp[execOp,z,Instr.index,fg C,g,f,asIntOf,n,q]) (.int _ _)
  .cases d
 .cases d
theorem X4 {i:Nat}(n:o.op= .extract x i)(t:di x=Za)(d:(AOp.extract x i).run e Z=O (v,Z'))(m:ig μ N e a.tmps)(k:R B μ Z w):oV P o a w B μ v Z':=by
 have h:=m.ev t;simp only[AOp.run]at d;split at d
 .rename_i p q;rw[q]at h;generalize s:a.eval x=u at h;cases h with
  |tuple r=>
   obtain⟨c,l,d⟩:=Option.map_eq_some_iff.1 d;simp only[Prod.mk.injEq]at d;obtain⟨rfl,rfl⟩:=d;obtain⟨z,g,j⟩:=r.get i c (by simpa using l);have f:_:=g;rw[Array.getElem?_toList]at f;exact .same k (by simp[execOp,n,Instr.extract,s,f]) j
 .cases d
end
end
end Go.Ab
