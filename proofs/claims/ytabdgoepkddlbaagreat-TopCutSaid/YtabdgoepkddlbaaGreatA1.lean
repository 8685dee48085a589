/- A part of the proofs of this claim: what functions of the program answer on an abstract machine, and plain laws. No condition. -/
import Derived.Calls
import Derived.RowKit
import Derived.WalkKit
import Derived.Lib.ItoaMem
import Derived.Lib.FrozenHead
set_option linter.unusedVariables false
set_option linter.unusedSimpArgs false
set_option linter.unusedSectionVars false
namespace Go.Ab
open Option renaming some->Y,none->Z
open Bool renaming true->Za,false->Zb
open Decidable renaming decide->Zc
abbrev Zd:=List Int
universe uU
theorem zA {p:Prop}{i:Decidable p}(h:¬p):@decide p i=Zb:=decide_eq_false h
theorem zB {p:Prop}{i:Decidable p}(h:p):@decide p i=Za:=decide_eq_true h
theorem zC {α:Sort uU}{a b:α}:cond Za a b=a:=rfl
theorem zD {α:Sort uU}{a b:α}:cond Zb a b=b:=rfl
theorem zE {c:Prop}{h:Decidable c}(hc:c){α:Sort uU}{t e:α}:ite c t e=t:=if_pos hc
theorem zF {c:Prop}{h:Decidable c}(hc:¬c){α:Sort uU}{t e:α}:ite c t e=e:=if_neg hc
theorem zG {α β:Type uU}{a:α}{f:α->Option β}:(Y a).bind f=f a:=rfl
section
open List renaming range -> aB
structure Blk where
 cells:List Value
 own:Bool
 es:Nat
structure Hp where
 m:Nat->Option Blk
 n:Nat
def Hp.set (σ:Hp)(b:Nat)(x:Option Blk):Hp:={m:=λi=>if i=b then x else σ.m i,n:=σ.n}
def Hp.add (σ:Hp)(x:Blk):Hp:={m:=λi=>if i=σ.n then Y x else σ.m i,n:=σ.n+1}
abbrev cb :=Nat->Value
def cb.put (e:cb)(d:Nat)(v:Value):cb:=λi=>if i=d then v else e i
def cb.putO (e:cb)(d:Option Nat)(v:Value):cb:=match d with
 |some d=>e.put d v
 |none=>e
def cb.of (args:List Value):cb:=λi=>(args[i]?).getD undef
def cb.ev (e:cb):Operand->Value
 | .tmp t=>e t
 | .const v=>v
 | .global _=>undef
 | .func f=> .func (.func f) #[] #[]
inductive AExit where
 |normal
 |exit (id:Nat)
 |ret
inductive AOp where
 |move (x:Operand)
 |pick (c a b:Operand)
 |alloc (es:Nat) (zero:List Value)
 |box (es:Nat) (x:Operand)
 |build (zero:List Value) (parts:List (Nat×Nat×Operand))
 |buildSlice (es len:Nat) (zero:List Value) (parts:List (Nat×Nat×Operand))
 |load (x:Operand)
 |loadN (n:Nat) (x:Operand)
 |store (n:Nat) (a x:Operand)
 |nilCheck (x:Operand)
 |bin (op:BinOp) (x y:Operand)
 |eqv (kd:Nat) (neg:Bool) (x y:Operand)
 |eqCells (neg:Bool) (ks:List Nat) (x y:Operand)
 |un (op:UnOp) (x:Operand)
 |conv (k:IntKind) (x:Operand)
 |mkFunc (f:FuncId) (first captured:List Operand)
 |makeSlice (es bytes:Nat) (zero:List Value) (l c:Operand)
 |slice (es:Nat) (x:Operand) (lo hi:Option Operand)
 |sliceArr (es n:Nat) (x:Operand) (lo hi:Option Operand)
 |off (n:Nat) (x:Operand)
 |idx (es:Nat) (x i:Operand)
 |idxA (len es:Nat) (x i:Operand)
 |fieldV (off n:Nat) (agg:Bool) (x:Operand)
 |indexV (len es:Nat) (agg:Bool) (x i:Operand)
 |indexS (x i:Operand)
 |extract (x:Operand) (i:Nat)
 |call (f:FuncId) (args:List Operand)
 |callv (f:Operand) (args:List Operand)
 |append (es bytes:Nat) (s x:Operand)
 |appendZ (es bytes:Nat) (zero:List Value) (s x:Operand)
 |copy (es:Nat) (d s:Operand)
 |len (x:Operand)
 |lenC (n:Nat)
 |most (x y:Operand)
 |least (x y:Operand)
 |stuck
 |capN (x:Operand)
 |sliceX (x hi mx:Operand)
structure AOper where
 dst:Option Nat
 op:AOp
 guard:Option (Nat×Bool)
structure SItem where
 idx:Nat
 o:AOper
 mover:Bool
 keep:Bool
 chks:List Nat
inductive AC where
 |skip
 |region (ops:List AOper)
 |draw (ops:List (AOper×List Nat))
 |sched (its:List SItem)
 |seq (a b:AC)
 |cond (c:Operand) (thn els:AC)
 |block (id:Nat) (body:AC)
 |loop (body:AC)
 |exit (id:Nat)
 |ret
inductive ARes where
 |tmp (t:Nat)
 |cell (t:Nat)
 |cellN (t n:Nat)
structure AFn where
 ntmps:Nat
 results:List ARes
 body:AC
abbrev bx9 :=List Value->Hp->(Value->Hp->Prop)->Prop
abbrev gr :=FuncId->bx9
def one :Value->Bool
 | .agg _| .tuple _=>Zb
 |_=>Za
def cellsOf (v:Value):List Value:=v.cells.toList
def vk (x:Blk)(o n:Nat):Option (List Value):=if o+n<=x.cells.length then Y ((x.cells.drop o).take n)else Z
def px (cells:List Value)(o:Nat):List Value->List Value
 |[]=>cells
 |v::vs=>px (cells.set o v) (o+1) vs
def af2 (x:Blk)(o:Nat)(vs:List Value):Option Blk:=
 if x.own=Za/\o+vs.length<=x.cells.length/\vs.all one=Za then Y {cells:=px x.cells o vs,own:=x.own,es:=x.es}else Z
def Hp.slice (σ:Hp)(es:Nat):Value->Nat->Option (List Value)
 | .slice (Y ⟨b,o,Z⟩) _ _,n=>if n=0 then Y []else match σ.m b with
  |some x=>vk x o (n*es)
  |none=>Z
 | .slice Z _ _,n=>if n=0 then Y []else Z
 | .string s,n=>if es=1 then Y (((s.extract 0 n).data.toList).map λb=> .int .u8 b.toNat)else Z
 |_,_=>Z
def bi9 :Value->Option Nat
 | .slice _ n _=>Y n
 | .string s=>Y s.size
 |_=>Z
def aZ5 (cells:List Value):List (Nat×Nat×Value)->Option (List Value)
 |[]=>Y cells
 |(off,size,v)::rest=>
  if(cellsOf v).length=size/\off+size<=cells.length then aZ5 (cells.take off++cellsOf v++cells.drop (off+size)) rest else Z
def cU8 (op:BinOp)(k:IntKind)(x y:Int):Option Value:=
 match op with
 | .add=>Y (.int k (k.wrap (x+y)))
 | .sub=>Y (.int k (k.wrap (x-y)))
 | .mul=>Y (.int k (k.wrap (x*y)))
 | .quo=>if y=0 then Z else Y (.int k (k.wrap (x.tdiv y)))
 | .rem=>if y=0 then Z else Y (.int k (x.tmod y))
 | .and=>Y (.int k (k.wrap (BitVec.ofInt k.bits x&&& BitVec.ofInt k.bits y).toNat))
 | .or=>Y (.int k (k.wrap (BitVec.ofInt k.bits x|||BitVec.ofInt k.bits y).toNat))
 | .xor=>Y (.int k (k.wrap (BitVec.ofInt k.bits x ^^^ BitVec.ofInt k.bits y).toNat))
 | .andNot=>Y (.int k (k.wrap (BitVec.ofInt k.bits x&&& ~~~BitVec.ofInt k.bits y).toNat))
 | .eql=>Y (.bool (x==y))
 | .neq=>Y (.bool (x !=y))
 | .lss=>Y (.bool (x<y))
 | .leq=>Y (.bool (x<=y))
 | .gtr=>Y (.bool (x > y))
 | .geq=>Y (.bool (x≥y))
 |_=>Z
def cX8 (op:BinOp)(x y:ByteArray):Option Value:=
 match op with
 | .add=>if((x.size+y.size:Nat):Int) > IntKind.i64.max then Z else Y (.string (x++y))
 | .eql=>Y (.bool (x.toList==y.toList))
 | .neq=>Y (.bool !(x.toList==y.toList))
 | .lss=>Y (.bool (Op.bytesLess x.toList y.toList))
 | .leq=>Y (.bool (Op.bytesLess x.toList y.toList||x.toList==y.toList))
 | .gtr=>Y (.bool !(Op.bytesLess x.toList y.toList||x.toList==y.toList))
 | .geq=>Y (.bool !(Op.bytesLess x.toList y.toList))
 |_=>Z
def bW8 (op:BinOp)(k:IntKind)(x y:Int):Option Value:=
 if y<0 then Z else match op with
 | .shl=>Y (.int k (k.wrap (x*2 ^ (min y.toNat k.bits))))
 | .shr=>Y (.int k (x.fdiv (2 ^ (min y.toNat k.bits))))
 |_=>Z
def zV :BinOp->Bool
 | .shl| .shr=>Za
 |_=>Zb
def ay9 (op:BinOp):Value->Value->Option Value
 | .int k a, .int k' b=>if zV op=Za then bW8 op k a b else if k=k' then cU8 op k a b else Z
 | .string a, .string b=>if zV op=Za then Z else cX8 op a b
 |_,_=>Z
def cA7 :Nat->Value->Value->Option Bool
 |0, .bool a, .bool b=>Y (a==b)
 |1, .pointer Z, .pointer b=>Y b.isNone
 |1, .pointer (Y _), .pointer Z=>Y Zb
 |2, .slice Z _ _, .slice b _ _=>Y b.isNone
 |2, .slice (Y _) _ _, .slice Z _ _=>Y Zb
 |3, .nilFunc, .nilFunc=>Y Za
 |3, .nilFunc, .func _ _ _=>Y Zb
 |3, .func _ _ _, .nilFunc=>Y Zb
 |_,_,_=>Z
def ac4 :Nat->Value->Value->Option Bool
 |0, .bool a, .bool b=>Y (a==b)
 |1, .int k a, .int k' b=>if k=k' then Y (a==b)else Z
 |2, .string a, .string b=>Y (a.toList==b.toList)
 |_,_,_=>Z
def ny :List Nat->List Value->List Value->Option Bool
 |[],[],[]=>Y Za
 |k::ks,a::r,b::s=>match ac4 k a b with
  |some true=>ny ks r s
  |some false=>Y Zb
  |none=>Z
 |_,_,_=>Z
def un1 :UnOp->Value->Option Value
 | .neg, .int k n=>Y (.int k (k.wrap (0-n)))
 | .xor, .int k n=>Y (.int k (k.wrap (BitVec.ofInt k.bits (if k.signed then-1 else k.max) ^^^ BitVec.ofInt k.bits n).toNat))
 | .not, .bool b=>Y (.bool !b)
 |_,_=>Z
def dZ1 :Value->Option Int
 | .int _ n=>Y n
 |_=>Z
def uH (y:Nat)(d:Nat):Option Value->Option Nat
 |some (.int _ i)=>if 0<=i/\i<=y then Y i.toNat else Z
 |some _=>Z
 |none=>Y d
def cu5 :Value->Value->Option Value
 | .int k x, .int _ y=>Y (.int k (if y<x then y else x))
 |_,_=>Z
def cR3 :Value->Value->Option Value
 | .int k x, .int _ y=>Y (.int k (if y > x then y else x))
 |_,_=>Z
def ce0 (a:Addr)(n:Nat):Addr:=⟨a.block,a.off+n,Z⟩
def az2 (σ:Hp)(es:Nat)(a:Option Addr)(lo:Option Operand):Bool:=match lo,a with
 |none,_=>Za
 |_,Z=>Za
 |some _,Y a=>match σ.m a.block with
  |some blk=>blk.es==es
  |none=>Zb
def di (zero:List Value)(n:Nat):List Value:=(List.replicate n zero).flatten
def sS (es bytes:Nat)(σ:Hp)(a:Option Addr)(sl sc n:Nat)(new:List Value):Option (Value×Hp):=if sl+n<=sc then(match a with
      |some ⟨b,o,Z⟩=>if new=[]then Y (.slice (Y ⟨b,o,Z⟩) (sl+n) sc,σ)else match σ.m b with
       |some blk=>match af2 blk (o+sl*es) new with
        |some blk'=>Y (.slice (Y ⟨b,o,Z⟩) (sl+n) sc,σ.set b (Y blk'))
        |none=>Z
       |none=>Z
      |none=>if new=[]/\sl=0/\sc=0/\n=0 then Y (.slice Z 0 0,σ)else Z
      |_=>Z)
     else if(sl+n)*bytes<=140737488355328/\sl+n<=9223372036854775807/\new.all one=Za then(match a with
      |some ⟨b,o,Z⟩=>match σ.m b with
       |some blk=>if blk.own=Za/\blk.es=es then match vk blk o (sl*es)with
        |some old=>Y (.slice (Y ⟨σ.n,0,Z⟩) (sl+n) (sl+n),(σ.set b Z).add ⟨old++new,Za,es⟩)
        |none=>Z
        else Z
       |none=>Z
      |none=>if sl=0 then Y (.slice (Y ⟨σ.n,0,Z⟩) n n,σ.add ⟨new,Za,es⟩)else Z
      |some ⟨b,o,Y _⟩=>if sl=0 then Y (.slice (Y ⟨σ.n,0,Z⟩) n n,σ.add ⟨new,Za,es⟩)else match σ.m b with
       |some blk=>if blk.es=es then match vk blk o (sl*es)with
        |some old=>Y (.slice (Y ⟨σ.n,0,Z⟩) (sl+n) (sl+n),σ.add ⟨old++new,Za,es⟩)
        |none=>Z
        else Z
       |none=>Z)
     else Z
def AOp.run (e:cb)(σ:Hp):AOp->Option (Value×Hp)
 | .move x=>Y (e.ev x,σ)
 | .pick c a b=>match e.ev c with
  | .bool true=>Y (e.ev a,σ)
  | .bool false=>Y (e.ev b,σ)
  |_=>Z
 | .alloc es zero=>Y (.pointer (Y ⟨σ.n,0,Z⟩),σ.add ⟨zero,Za,es⟩)
 | .box es x=>if(cellsOf (e.ev x)).all one then Y (.pointer (Y ⟨σ.n,0,Z⟩),σ.add ⟨cellsOf (e.ev x),Za,es⟩)else Z
 | .build zero parts=>(aZ5 zero (parts.map λ(o,s,x)=>(o,s,e.ev x))).map λcs=>(.agg cs.toArray,σ)
 | .buildSlice es ln zero parts=>match aZ5 (di zero ln) (parts.map λ(o,s,x)=>(o,s,e.ev x))with
  |some cs=>if cs.all one then Y (.slice (Y ⟨σ.n,0,Z⟩) ln ln,σ.add ⟨cs,Za,es⟩)else Z
  |none=>Z
 | .load x=>match e.ev x with
  | .pointer (Y ⟨b,o,Z⟩)=>match σ.m b with
   |some blk=>(blk.cells[o]?).map λv=>(v,σ)
   |none=>Z
  |_=>Z
 | .loadN n x=>match e.ev x with
  | .pointer (Y ⟨b,o,Z⟩)=>match σ.m b with
   |some blk=>(vk blk o n).map λcs=>(.agg cs.toArray,σ)
   |none=>Z
  |_=>Z
 | .store n a x=>match e.ev a with
  | .pointer (Y ⟨b,o,Z⟩)=>if(cellsOf (e.ev x)).length=n then match σ.m b with
   |some blk=>match af2 blk o (cellsOf (e.ev x))with
    |some blk'=>Y (undef,σ.set b (Y blk'))
    |none=>Z
   |none=>Z
   else Z
  |_=>Z
 | .nilCheck x=>match e.ev x with
  | .pointer (Y a)=>Y (.pointer (Y a),σ)
  | .func (.func f) first captured=>Y (.func (.func f) first captured,σ)
  |_=>Z
 | .bin op x y=>(ay9 op (e.ev x) (e.ev y)).map λv=>(v,σ)
 | .eqv kd neg x y=>(cA7 kd (e.ev x) (e.ev y)).map λb=>(.bool (b !=neg),σ)
 | .eqCells neg ks x y=>match e.ev x,e.ev y with
  | .agg a, .agg b=>(ny ks a.toList b.toList).map λb=>(.bool (b !=neg),σ)
  |_,_=>Z
 | .un op x=>(un1 op (e.ev x)).map λv=>(v,σ)
 | .conv k x=>(dZ1 (e.ev x)).map λn=>(.int k (k.wrap n),σ)
 | .mkFunc f first captured=>Y (.func (.func f) (first.map e.ev).toArray (captured.map e.ev).toArray,σ)
 | .makeSlice es bytes zero l c=>match e.ev l,e.ev c with
  | .int _ l, .int _ c=>if 0<=l/\l<=c/\bytes*c<=281474976710656/\c<=9223372036854775807 then
    Y (.slice (Y ⟨σ.n,0,Z⟩) l.toNat c.toNat,σ.add ⟨di zero c.toNat,Za,es⟩)else Z
  |_,_=>Z
 | .slice es x lo hi=>match e.ev x with
  | .slice a ln cap=>if(cap==0||az2 σ es a lo)=Za then match uH cap ln (hi.map e.ev)with
   |some h=>match uH h 0 (lo.map e.ev)with
    |some l=>Y (.slice (a.map (ce0 · (l*es))) (h-l) (cap-l),σ)
    |none=>Z
   |none=>Z else Z
  |_=>Z
 | .sliceArr es n x lo hi=>match e.ev x with
  | .pointer (Y ⟨b,o,Z⟩)=>match σ.m b with
   |some blk=>if blk.own=Za/\blk.es=es/\o+n*es<=blk.cells.length then match uH n n (hi.map e.ev)with
    |some h=>match uH h 0 (lo.map e.ev)with
     |some l=>if l<n then Y (.slice (Y ⟨b,o+l*es,Z⟩) (h-l) (n-l),σ)else Z
     |none=>Z
    |none=>Z else Z
   |none=>Z
  |_=>Z
 | .off n x=>match e.ev x with
  | .pointer (Y ⟨b,o,Z⟩)=>Y (.pointer (Y ⟨b,o+n,Z⟩),σ)
  |_=>Z
 | .idx es x i=>match e.ev x,e.ev i with
  | .slice (Y ⟨b,o,Z⟩) ln _, .int _ i=>if 0<=i/\i<ln then Y (.pointer (Y ⟨b,o+i.toNat*es,Z⟩),σ)else Z
  |_,_=>Z
 | .idxA ln es x i=>match e.ev x,e.ev i with
  | .pointer (Y ⟨b,o,Z⟩), .int _ i=>if 0<=i/\i<ln then Y (.pointer (Y ⟨b,o+i.toNat*es,Z⟩),σ)else Z
  |_,_=>Z
 | .fieldV fo n agg x=>match e.ev x with
  | .agg cs=>if agg then Y (.agg (cs.extract fo (fo+n)),σ)else(cs[fo]?).map λv=>(v,σ)
  |_=>Z
 | .indexV ln es agg x i=>match e.ev x,e.ev i with
  | .agg cs, .int _ i=>if 0<=i/\i<ln then(if agg then Y (.agg (cs.extract (i.toNat*es) (i.toNat*es+es)),σ)else(cs[i.toNat*es]?).map λv=>(v,σ))else Z
  |_,_=>Z
 | .indexS x i=>match e.ev x,e.ev i with
  | .string s, .int _ i=>if 0<=i then(s[i.toNat]?).map λb=>(.int .u8 b.toNat,σ)else Z
  |_,_=>Z
 | .extract x i=>match e.ev x with
  | .tuple vs=>(vs[i]?).map λv=>(v,σ)
  |_=>Z
 | .call _ _| .callv _ _=>Z
 | .append es bytes s x=>match e.ev s with
  | .slice a sl sc=>match bi9 (e.ev x)with
   |some n=>match σ.slice es (e.ev x) n with
    |some new=>sS es bytes σ a sl sc n new
    |none=>Z
   |none=>Z
  |_=>Z
 | .appendZ es bytes zero s x=>match e.ev s,e.ev x with
  | .slice a sl sc, .int _ l=>if 0<=l/\l<=9223372036854775807/\l*bytes<=281474976710656 then sS es bytes σ a sl sc l.toNat (di zero l.toNat)else Z
  |_,_=>Z
 | .copy es d s=>match e.ev d with
  | .slice a dl _=>match bi9 (e.ev s)with
   |some n=>match σ.slice es (e.ev s) (min n dl)with
    |some new=>(match a with
     |some ⟨b,o,Z⟩=>if new=[]then Y (.int .i64 (min n dl:Nat),σ)else match σ.m b with
      |some blk=>match af2 blk o new with
       |some blk'=>Y (.int .i64 (min n dl:Nat),σ.set b (Y blk'))
       |none=>Z
      |none=>Z
     |none=>if new=[]then Y (.int .i64 (min n dl:Nat),σ)else Z
     |_=>Z)
    |none=>Z
   |none=>Z
  |_=>Z
 | .len x=>match e.ev x with
  | .slice _ n _=>Y (.int .i64 n,σ)
  |_=>Z
 | .lenC n=>Y (.int .i64 n,σ)
 | .most x y=>(cR3 (e.ev x) (e.ev y)).map λv=>(v,σ)
 | .least x y=>(cu5 (e.ev x) (e.ev y)).map λv=>(v,σ)
 | .stuck=>Z
 | .capN x=>match e.ev x with
  | .slice Z 0 0=>Y (.int .i64 0,σ)
  |_=>Z
 | .sliceX x hi mx=>match e.ev x with
  | .slice a _ cap=>match uH cap 0 (Y (e.ev mx))with
   |some m=>match uH m 0 (Y (e.ev hi))with
    |some h=>if h=m then match a with
     |none=>Y (.slice Z 0 0,σ)
     |some ⟨b,o,Z⟩=>Y (.slice (Y ⟨b,o,Y 0⟩) m m,σ)
     |_=>Z
     else Z
    |none=>Z
   |none=>Z
  |_=>Z
def br (T:gr)(op:AOp)(e:cb)(σ:Hp)(k:Value->Hp->Prop):Prop:=
 match op with
 | .call f args=>T f (args.map e.ev) σ k
 | .callv x args=>match e.ev x with
  | .func (.func f) first captured=>T f (first.toList++args.map e.ev++captured.toList) σ k
  |_=>False
 |op=>match op.run e σ with
  |some (v,σ')=>k v σ'
  |none=>False
def wanted (o:AOper)(e:cb):Bool:=
 match o.guard with
 |some (t,want)=>match e t with
  | .bool b=>b==want
  |_=>Zb
 |none=>Za
def aq2 (T:gr)(Q:cb->Hp->Prop):List AOper->cb->Hp->Prop
 |[],e,σ=>Q e σ
 |o::rest,e,σ=>if wanted o e then br T o.op e σ λv σ'=>aq2 T Q rest (e.putO o.dst v) σ' else aq2 T Q rest (e.putO o.dst undef) σ
def AOp.still :AOp->Bool
 | .alloc .. | .box .. | .buildSlice .. | .store .. | .call .. | .callv .. | .makeSlice .. | .append .. | .appendZ .. | .copy .. =>Zb
 |_=>Za
def om (f:(AExit->cb->Hp->Prop)->cb->Hp->Prop)(Q:AExit->cb->Hp->Prop):Nat->cb->Hp->Prop
 |0,_,_=>False
 |n+1,e,σ=>f (λx e' σ'=>match x with
  | .normal=>om f Q n e' σ'
  |x=>Q x e' σ') e σ
def AOp.isLoad :AOp->Bool
 | .load _| .loadN _ _| .sliceArr _ _ _ _ _| .slice _ _ (Y _) _=>Za
 |_=>Zb
def jp (ops:List (AOper×List Nat))(i:Nat):List Nat:=match ops[i]? with
 |some (_,p)=>p
 |none=>[]
def bn4 (acc:List Nat)(ps:List Nat):Nat:=ps.foldl (λm q=>m|||2 ^ q|||acc.getD q 0) 0
def cC4 (acc:List Nat):List (AOper×List Nat)->List Nat
 |[]=>acc
 |(_,ps)::r=>cC4 (acc++[bn4 acc ps]) r
def ae7 (ops:List (AOper×List Nat))(p j:Nat):Bool:=((cC4 [] ops).getD j 0).testBit p
def ct3 (ops:List (AOper×List Nat))(done:List Nat)(i:Nat):Bool:=
 !done.contains i&&(jp ops i).all λq=>done.contains q
def aM8 (ops:List (AOper×List Nat))(i:Nat):Bool:=match ops[i]? with
 |some (o,_)=>o.op.still
 |none=>Zb
def li (ops:List (AOper×List Nat))(done:List Nat):Option Nat:=(aB ops.length).find? λi=>ct3 ops done i&&aM8 ops i
def cy (ops:List (AOper×List Nat))(done:List Nat):List Nat:=(aB ops.length).filter λi=>ct3 ops done i&& !aM8 ops i
def cc1 (f:Nat->Prop):List Nat->Prop
 |[]=>True
 |[m]=>f m
 |m::r=>f m/\cc1 f r
def aO6 (ops:List (AOper×List Nat))(m:Nat)(σ:Hp):List (Nat×(Hp->Prop))->Prop
 |[]=>True
 |(i,c)::r=>if ae7 ops i m then aO6 ops m σ r else c σ/\aO6 ops m σ r
def wpD (T:gr)(Q:cb->Hp->Prop)(ops:List (AOper×List Nat)):Nat->List Nat->List (Nat×(Hp->Prop))->cb->Hp->Prop
 |0,_,_,e,σ=>Q e σ
 |f+1,done,chk,e,σ=>match li ops done with
  |some i=>match ops[i]? with
   |some (o,_)=>
    if wanted o e then match o.op.run e σ with
     |some (v,_)=>wpD T Q ops f (i::done) (if o.op.isLoad then(i,λσ'=>o.op.run e σ'=Y (v,σ'))::chk else chk) (e.putO o.dst v) σ
     |none=>False
    else wpD T Q ops f (i::done) chk (e.putO o.dst undef) σ
   |none=>False
  |none=>match cy ops done with
   |[]=>Q e σ
   |ms=>cc1 (λm=>match ops[m]? with
    |some (o,_)=>
     if wanted o e then br T o.op e σ λv σ'=>aO6 ops m σ' chk/\wpD T Q ops f (m::done) chk (e.putO o.dst v) σ'
     else wpD T Q ops f (m::done) chk (e.putO o.dst undef) σ
    |none=>False) ms
def aj2 (is:List Nat)(σ:Hp):List (Nat×(Hp->Prop))->Prop
 |[]=>True
 |(i,c)::r=>if is.contains i then c σ/\aj2 is σ r else aj2 is σ r
def cO4 (ops:List (AOper×List Nat))(i:Nat):Bool:=match ops[i]? with
 |some (o,_)=> !o.op.still
 |none=>Zb
def dn4 (ops:List (AOper×List Nat))(i:Nat):Bool:=(aB ops.length).any λm=>cO4 ops m&& !ae7 ops i m
def bf0 (ops:List (AOper×List Nat)):Nat->List Nat->List Nat->Option (List SItem)
 |0,_,_=>Y []
 |f+1,done,loads=>match li ops done with
  |some i=>match ops[i]? with
   |some (o,_)=>(bf0 ops f (i::done) (if o.op.isLoad then i::loads else loads)).map (⟨i,o,Zb,o.op.isLoad&&dn4 ops i,[]⟩:: ·)
   |none=>Z
  |none=>match cy ops done with
   |[]=>Y []
   |[m]=>match ops[m]? with
    |some (o,_)=>(bf0 ops f (m::done) loads).map (⟨m,o,Za,Zb,loads.filter λi=> !ae7 ops i m⟩:: ·)
    |none=>Z
   |_=>Z
def wpI (T:gr)(Q:cb->Hp->Prop):List SItem->List (Nat×(Hp->Prop))->cb->Hp->Prop
 |[],_,e,σ=>Q e σ
 |it::r,chk,e,σ=>
  if wanted it.o e then
   (if it.mover then br T it.o.op e σ λv σ'=>aj2 it.chks σ' chk/\wpI T Q r chk (e.putO it.o.dst v) σ'
    else match it.o.op.run e σ with
    |some (v,_)=>wpI T Q r (if it.keep then(it.idx,λσ'=>it.o.op.run e σ'=Y (v,σ'))::chk else chk) (e.putO it.o.dst v) σ
    |none=>False)
  else wpI T Q r chk (e.putO it.o.dst undef) σ
def wpA (T:gr):AC->(AExit->cb->Hp->Prop)->cb->Hp->Prop
 | .skip,Q,e,σ=>Q .normal e σ
 | .region ops,Q,e,σ=>aq2 T (Q .normal) ops e σ
 | .draw ops,Q,e,σ=>wpD T (Q .normal) ops ops.length [] [] e σ
 | .sched its,Q,e,σ=>wpI T (Q .normal) its [] e σ
 | .seq a b,Q,e,σ=>wpA T a (λx e σ=>match x with
  | .normal=>wpA T b Q e σ
  |x=>Q x e σ) e σ
 | .cond c a b,Q,e,σ=>match e.ev c with
  | .bool true=>wpA T a Q e σ
  | .bool false=>wpA T b Q e σ
  |_=>False
 | .block id b,Q,e,σ=>wpA T b (λx e σ=>match x with
  | .exit i=>if i=id then Q .normal e σ else Q (.exit i) e σ
  |x=>Q x e σ) e σ
 | .loop b,Q,e,σ=> ∃n,om (wpA T b) Q n e σ
 | .exit id,Q,e,σ=>Q (.exit id) e σ
 | .ret,Q,e,σ=>Q .ret e σ
def bU9 (e:cb)(σ:Hp):ARes->Option Value
 | .tmp t=>Y (e t)
 | .cell t=>match e t with
  | .pointer (Y ⟨b,o,Z⟩)=>(σ.m b).bind λx=>x.cells[o]?
  |_=>Z
 | .cellN t n=>match e t with
  | .pointer (Y ⟨b,o,Z⟩)=>(σ.m b).bind λx=>(vk x o n).map λcs=> .agg cs.toArray
  |_=>Z
def bA7 (e:cb)(σ:Hp):List ARes->Option (List Value)
 |[]=>Y []
 |r::rs=>match bU9 e σ r,bA7 e σ rs with
  |some v,Y vs=>Y (v::vs)
  |_,_=>Z
def au9 :List Value->Value
 |[v]=>v
 |vs=> .tuple vs.toArray
def wpF (T:gr)(f:AFn):bx9:=λargs σ K=>args.length<=f.ntmps/\
 wpA T f.body (λx e σ'=>match x with
  | .exit _=>False
  |_=>match bA7 e σ' f.results with
   |some vs=>K (au9 vs) σ'
   |none=>False) (cb.of args) σ
end
section
open Nat renaming lt_of_lt_of_le -> aB
open Go.RowKit
structure G where
 c:Nat
 o:Nat
 ext:Nat
 es:Nat
 ty:Nat
 it:Option Value
abbrev Mu :=Nat->Option G
def Mu.le (μ μ':Mu):Prop:= ∀b g,μ b=Y g->μ' b=Y g
theorem Mu.le_refl (μ:Mu):μ.le μ:=λ_ _ h=>h
theorem Mu.le_trans {a b c:Mu}(h:a.le b)(k:b.le c):a.le c:=λx g hx=>k x g (h x g hx)
def Mu.add (μ:Mu)(n:Nat)(g:G):Mu:=λb=>if b=n then Y g else μ b
theorem Mu.le_add {μ:Mu}{n:Nat}{g:G}(h:μ n=Z):μ.le (μ.add n g):=λb g' hb=>by
 unfold Mu.add;by_cases e:b=n
 .subst e;rw[h]at hb;cases hb
 .rw[zF e];exact hb
def Mu.at (μ:Mu)(b:Nat)(g:G):Prop:=μ b=Y g/\g.it=Z
theorem Mu.at_le {μ μ':Mu}(h:μ.le μ'){b:Nat}{g:G}(k:μ.at b g):μ'.at b g:=⟨h _ _ k.1,k.2⟩
inductive F2 {α β:Type}(r:α->β->Prop):List α->List β->Prop where
 |nil:F2 r [] []
 |cons {a:α} {b:β} {l:List α} {m:List β}:r a b->F2 r l m->F2 r (a::l) (b::m)
inductive VR (μ:Mu):Value->Value->Prop where
 |bool (b:Bool):VR μ (.bool b) (.bool b)
 |int (k:IntKind) (n:Int):VR μ (.int k n) (.int k n)
 |string (s:ByteArray):VR μ (.string s) (.string s)
 |nilp:VR μ (.pointer Z) (.pointer Z)
 |ptr {b o:Nat} {g:G}:μ.at b g->VR μ (.pointer (Y ⟨b,o,Z⟩)) (.pointer (Y ⟨g.c,g.o+o,Z⟩))
 |nils:VR μ (.slice Z 0 0) (.slice Z 0 0)
 |slice {b o l c c':Nat} {g:G}:μ.at b g->l<=c->c<=c'->o+c'*g.es<=g.ext->VR μ (.slice (Y ⟨b,o,Z⟩) l c) (.slice (Y ⟨g.c,g.o+o,Z⟩) l c')
 |slice0 {b o:Nat} {g:G} (A':Addr):μ.at b g->VR μ (.slice (Y ⟨b,o,Z⟩) 0 0) (.slice (Y A') 0 0)
 |sliceX {b o c:Nat} {g:G}:μ.at b g->o+c*g.es<=g.ext->VR μ (.slice (Y ⟨b,o,Y 0⟩) c c) (.slice (Y ⟨g.c,g.o+o,Z⟩) c c)
 |sliceX0 {b o:Nat} {g:G} (A':Addr):μ.at b g->VR μ (.slice (Y ⟨b,o,Y 0⟩) 0 0) (.slice (Y A') 0 0)
 |nilf:VR μ .nilFunc .nilFunc
 |func {f:Fn} {a a' c c':Array Value}:F2 (VR μ) a.toList a'.toList->F2 (VR μ) c.toList c'.toList->VR μ (.func f a c) (.func f a' c')
 |nili:VR μ .nilIface .nilIface
 |iter {b:Nat} {g:G} {v:Value}:μ b=Y g->g.it=Y v->VR μ (.iface b v) (.pointer (Y ⟨g.c,0,Z⟩))
 |agg {a a':Array Value}:F2 (VR μ) a.toList a'.toList->VR μ (.agg a) (.agg a')
 |tuple {a a':Array Value}:F2 (VR μ) a.toList a'.toList->VR μ (.tuple a) (.tuple a')
theorem F2.length {α β:Type}{r:α->β->Prop}{l:List α}{m:List β}(h:F2 r l m):l.length=m.length:=by
 induction h with
 |nil=>rfl
 |cons _ _ ih=>simp[ih]
theorem F2.get {α β:Type}{r:α->β->Prop}{l:List α}{m:List β}(h:F2 r l m): ∀(i:Nat) (a:α),l[i]?=Y a->∃b,m[i]?=Y b/\r a b:=by
 induction h with
 |nil=>intro i a h;simp at h
 |cons h1 _ ih=>
  intro i a h;cases i with
  |zero=>simp at h;subst h;exact⟨_,by simp,h1⟩
  |succ i=>simp at h;simpa using ih i a h
theorem F2.of_get {α β:Type}{r:α->β->Prop}: ∀(l:List α) (m:List β),l.length=m.length->(∀(i:Nat) (a:α) (b:β),l[i]?=Y a->m[i]?=Y b->r a b)->F2 r l m
 |[],[],_,_=> .nil
 |[],_::_,h,_=>by simp at h
 |_::_,[],h,_=>by simp at h
 |a::l,b::m,h,hr=> .cons (hr 0 a b rfl rfl) (F2.of_get l m (by simpa using h) λi x y hx hy=>hr (i+1) x y (by simpa using hx) (by simpa using hy))
theorem F2.append {α β:Type}{r:α->β->Prop}{l l':List α}{m m':List β}(h:F2 r l m)(h':F2 r l' m'):F2 r (l++l') (m++m'):=by
 induction h with
 |nil=>exact h'
 |cons h1 _ ih=>exact .cons h1 ih
theorem F2.take {α β:Type}{r:α->β->Prop}{l:List α}{m:List β}(h:F2 r l m): ∀n,F2 r (l.take n) (m.take n):=by
 induction h with
 |nil=>intro n;simp;exact .nil
 |cons h1 _ ih=>
  intro n;cases n with
  |zero=>exact .nil
  |succ n=>exact .cons h1 (ih n)
theorem F2.drop {α β:Type}{r:α->β->Prop}{l:List α}{m:List β}(h:F2 r l m): ∀n,F2 r (l.drop n) (m.drop n):=by
 induction h with
 |nil=>intro n;simp;exact .nil
 |cons h1 h2 ih=>
  intro n;cases n with
  |zero=>exact .cons h1 h2
  |succ n=>exact ih n
theorem F2.map {α β γ δ:Type}{r:α->β->Prop}{s:γ->δ->Prop}{f:α->γ}{g:β->δ}(hfg: ∀a b,r a b->s (f a) (g b)){l:List α}{m:List β}(h:F2 r l m):F2 s (l.map f) (m.map g):=by
 induction h with
 |nil=>exact .nil
 |cons h1 _ ih=>exact .cons (hfg _ _ h1) ih
theorem F2.same {α:Type}{r:α->α->Prop}: ∀(l:List α),(∀a∈l,r a a)->F2 r l l
 |[],_=> .nil
 |a::l,h=> .cons (h a (by simp)) (F2.same l λb hb=>h b (by simp[hb]))
theorem F2.imp {α β:Type}{r s:α->β->Prop}(hrs: ∀a b,r a b->s a b){l:List α}{m:List β}(h:F2 r l m):F2 s l m:=by
 induction h with
 |nil=>exact .nil
 |cons h1 _ ih=>exact .cons (hrs _ _ h1) ih
theorem VR.mono {μ μ':Mu}(hμ:μ.le μ'): ∀{v v':Value},VR μ v v'->VR μ' v v'
 |_,_, .bool b=> .bool b
 |_,_, .int k n=> .int k n
 |_,_, .string s=> .string s
 |_,_, .nilp=> .nilp
 |_,_, .ptr h=> .ptr (Mu.at_le hμ h)
 |_,_, .nils=> .nils
 |_,_, .slice h h1 h2 h3=> .slice (Mu.at_le hμ h) h1 h2 h3
 |_,_, .slice0 A' h=> .slice0 A' (Mu.at_le hμ h)
 |_,_, .sliceX h h1=> .sliceX (Mu.at_le hμ h) h1
 |_,_, .sliceX0 A' h=> .sliceX0 A' (Mu.at_le hμ h)
 |_,_, .nilf=> .nilf
 |_,_, .func h1 h2=> .func (go h1) (go h2)
 |_,_, .nili=> .nili
 |_,_, .iter h h1=> .iter (hμ _ _ h) h1
 |_,_, .agg h=> .agg (go h)
 |_,_, .tuple h=> .tuple (go h)
where
 go {l m:List Value}:F2 (VR μ) l m->F2 (VR μ') l m
 | .nil=> .nil
 | .cons h t=> .cons (VR.mono hμ h) (go t)
theorem VR.undef (μ:Mu):VR μ undef undef:= .tuple .nil
theorem VR.one_iff {μ:Mu}{v v':Value}(h:VR μ v v'):one v=v'.oneCell':=by cases h<;>rfl
theorem VR.cells {μ:Mu}{v v':Value}(h:VR μ v v'):F2 (VR μ) (cellsOf v) v'.cells.toList:=by
 cases h with
 |agg h=>exact h
 |bool b=>exact .cons (.bool b) .nil
 |int k n=>exact .cons (.int k n) .nil
 |string s=>exact .cons (.string s) .nil
 |nilp=>exact .cons .nilp .nil
 |ptr h=>exact .cons (.ptr h) .nil
 |nils=>exact .cons .nils .nil
 |slice h h1 h2 h3=>exact .cons (.slice h h1 h2 h3) .nil
 |slice0 A' h=>exact .cons (.slice0 A' h) .nil
 |sliceX h h1=>exact .cons (.sliceX h h1) .nil
 |sliceX0 A' h=>exact .cons (.sliceX0 A' h) .nil
 |nilf=>exact .cons .nilf .nil
 |func h1 h2=>exact .cons (.func h1 h2) .nil
 |nili=>exact .cons .nili .nil
 |iter h h1=>exact .cons (.iter h h1) .nil
 |tuple h=>exact .cons (.tuple h) .nil
def bn6 :Value->Bool
 | .bool _| .int _ _| .string _| .pointer Z| .slice Z 0 0| .nilFunc| .nilIface=>Za
 | .agg cs=>cs.toList.all λ
  | .bool _| .int _ _| .string _| .pointer Z| .slice Z 0 0| .nilFunc| .nilIface=>Za
  |_=>Zb
 | .tuple cs=>cs.size==0
 |_=>Zb
theorem VR.plain1 (μ:Mu): ∀v:Value,(match v with
  | .bool _| .int _ _| .string _| .pointer Z| .slice Z 0 0| .nilFunc| .nilIface=>Za
  |_=>Zb)=Za->VR μ v v:=by
 intro v h;cases v with
 |bool b=>exact .bool b
 |int k n=>exact .int k n
 |string s=>exact .string s
 |pointer a=>cases a with
  |none=>exact .nilp
  |some a=>simp at h
 |slice a n c=>
  split at h<;>first|(rename_i he;cases he;exact .nils)|simp_all
 |nilFunc=>exact .nilf
 |nilIface=>exact .nili
 |_=>simp at h
theorem VR.plain {μ:Mu}{v:Value}(h:bn6 v=Za):VR μ v v:=by
 cases v with
 |agg cs=>
  refine .agg (F2.same _ λa ha=>VR.plain1 μ a ?_);simp only[bn6,List.all_eq_true]at h;exact h a ha
 |tuple cs=>
  have:cs= #[]:=by simpa[bn6]using h
  subst this;exact .tuple .nil
 |bool b=>exact .bool b
 |int k n=>exact .int k n
 |string s=>exact .string s
 |pointer a=>cases a with
  |none=>exact .nilp
  |some a=>simp[bn6]at h
 |slice a n c=>
  unfold bn6 at h;split at h<;>first|(rename_i he;cases he;exact .nils)|simp_all
 |nilFunc=>exact .nilf
 |nilIface=>exact .nili
 |_=>simp[bn6]at h
structure Base (P:Program)where
 n:Nat
 h:Nat->Option Obj
 tab: ∀w:World,n<=w.heap.size->(∀b,b<n->w.heap[b]?=h b)->P.globalNamed "internal/strconv.uint64pow10" ≠Z->Lib.TabIs P w "internal/strconv.uint64pow10" .u64 Lib.pow10Tab
instance (P :Program):CoeHead (Base P) Nat:=⟨Base.n⟩
def dL5 (P:Program)(t:TypeId):Bool:=match P.types[t]? with
 |some i=>(match i.desc with
  | .named n _=>n== "strings.Builder"
  |_=>Zb)
 |none=>Zb
def zd (w:World)(c:Nat):Option Nat:=match w.heap[c]? with
 |some (.cells cs _ _)=>(cs[1]?).bind Value.ownBlock
 |_=>Z
structure Lives {P:Program}(B:Base P)(μ:Mu)(w:World)(x:Blk)(g:G):Prop where
 lt:g.c<w.heap.size
 es:g.es=x.es
 cell:g.it=Z->∀(i:Nat) (v:Value),x.cells[i]?=Y v->∃v',w.cell? ⟨g.c,g.o+i,Z⟩=Y v'/\VR μ v v'
 own:g.it=Z->x.own=Za->B.n<=g.c/\x.cells.length<=g.ext/\∃cur e,w.heap[g.c]?=Y (.cells cur e (0,0))/\g.o+g.ext<=cur.size
 iter: ∀s,g.it=Y (.string s)->B.n<=g.c/\∃p:Nat,x.cells=[Value.int .i64 p].take x.cells.length/\w.heap[g.c]?=Y (.stringIter s p)
 bld:g.it=Y .nilFunc->dL5 P g.ty=Za/\∃p s,(p= .pointer Z∨p= .pointer (Y ⟨g.c,0,Z⟩))/\x.cells=[Value.string s].take x.cells.length/\Lib.BuilderAtF g.ty P.rt.byte B.n g.c p (Lib.strCells s) w
def Sep (μ:Mu)(σ:Hp)(w:World):Prop:= ∀b x g,σ.m b=Y x->μ b=Y g->g.it=Y .nilFunc->∀k,zd w g.c=Y k->∀b' x' g',σ.m b'=Y x'->μ b'=Y g'->g'.c≠k/\(b'≠b->g'.it=Y .nilFunc->zd w g'.c≠Y k)
theorem Sep.of {μ μ':Mu}{σ σ':Hp}{w w':World}(h:Sep μ σ w)(hold: ∀b x g,σ'.m b=Y x->μ' b=Y g->(∃y,σ.m b=Y y/\μ b=Y g)∨(g.it≠Y .nilFunc/\∀b1 x1 g1 k,σ.m b1=Y x1->μ b1=Y g1->g1.it=Y .nilFunc->zd w g1.c=Y k->g.c≠k))
  (hb: ∀b x g,σ.m b=Y x->μ b=Y g->g.it=Y .nilFunc->(∃y,σ'.m b=Y y)->zd w' g.c=zd w g.c):Sep μ' σ' w':=by
 intro b x g hx hg hit k hk b' x' g' hx' hg';rcases hold b x g hx hg with⟨y,h1,h2⟩|⟨h1,_⟩
 .rw[hb b y g h1 h2 hit ⟨x,hx⟩]at hk;rcases hold b' x' g' hx' hg' with⟨y',k1,k2⟩|⟨k1,k2⟩
  .obtain⟨m1,m2⟩:=h b y g h1 h2 hit k hk b' y' g' k1 k2;exact⟨m1,λhne hit'=>by rw[hb b' y' g' k1 k2 hit' ⟨x',hx'⟩];exact m2 hne hit'⟩
  .exact⟨k2 b y g k h1 h2 hit hk,λ_ hit'=>(k1 hit').elim⟩
 .exact(h1 hit).elim
theorem cL3 {T e:TypeId}{n b:Nat}{p:Value}{bs:List Value}{w w':World}(h:Lib.BuilderAtF T e n b p bs w)(hb:w'.heap[b]?=w.heap[b]?)(hk: ∀k,zd w b=Y k->w'.heap[k]?=w.heap[k]?):Lib.BuilderAtF T e n b p bs w':=by
 obtain⟨hB,v,hbk,hown,hne⟩:=h;refine⟨hB,v,hb.trans hbk,⟨hown.1, ?_⟩,hne⟩;rcases hown.2 with hn|⟨g,cap,cur,fz,hv,hg,hgg,rest⟩
 .exact .inl hn
 .exact .inr ⟨g,cap,cur,fz,hv,hg,(hk g (by subst hv;simp[zd,hbk,Value.ownBlock])).trans hgg,rest⟩
theorem db0 {T e:TypeId}{n b:Nat}{p:Value}{bs:List Value}{w:World}(h:Lib.BuilderAtF T e n b p bs w){k:Nat}(hk:zd w b=Y k):n<=k/\k<w.heap.size/\k≠b:=by
 obtain⟨hB,v,hbk,hown,hne⟩:=h;have hv:v.ownBlock=Y k:=by simpa[zd,hbk]using hk
 obtain⟨h1,h2⟩:=hown.lt k hv;exact⟨h1,h2,λe=>hne (e▸hv)⟩
structure R {P:Program}(B:Base P)(μ:Mu)(σ:Hp)(w:World):Prop where
 base:B.n<=w.heap.size
 old: ∀b,b<B.n->w.heap[b]?=B.h b
 fresh: ∀b,σ.n<=b->μ b=Z
 live: ∀b x,σ.m b=Y x->∃g,μ b=Y g/\Lives B μ w x g
 inj: ∀b b' x x' g g',σ.m b=Y x->σ.m b'=Y x'->b≠b'->x.own=Za->μ b=Y g->μ b'=Y g'->g.c≠g'.c
 sep:Sep μ σ w
section
variable {P:Program} {B:Base P} {μ μ':Mu} {σ:Hp} {w w':World}
theorem Lives.mono {x:Blk}{g:G}(h:Lives B μ w x g)(hμ:μ.le μ'):Lives B μ' w x g:=
 ⟨h.lt,h.es,λh0 i v hv=>let⟨v',h1,h2⟩:=h.cell h0 i v hv;⟨v',h1,h2.mono hμ⟩,h.own,h.iter,h.bld⟩
theorem Lives.kept {x:Blk}{g:G}(h:Lives B μ w x g)(hs:w.heap.size<=w'.heap.size)(hb:w'.heap[g.c]?=w.heap[g.c]?)(hk:g.it=Y .nilFunc->∀k,zd w g.c=Y k->w'.heap[k]?=w.heap[k]?):Lives B μ w' x g:=
 ⟨aB h.lt hs,h.es,λh0 i v hv=>let⟨v',h1,h2⟩:=h.cell h0 i v hv;⟨v',(World.cell?_of_block (w:=w) (w':=w') hb).trans h1,h2⟩,λh0 ho=>by
  obtain⟨h1,h2,cur,e,h4,h5⟩:=h.own h0 ho
  exact⟨h1,h2,cur,e,hb.trans h4,h5⟩,λs hs=>let⟨h1,p,h3,h4⟩:=h.iter s hs;⟨h1,p,h3,hb.trans h4⟩,λhi=>let⟨h1,p,s,h3,h4,h5⟩:=h.bld hi;⟨h1,p,s,h3,h4,cL3 h5 hb (hk hi)⟩⟩
theorem R.same (h:R B μ σ w)(hh:w'.heap=w.heap):R B μ σ w':=
 ⟨by rw[hh];exact h.base,λb hb=>by rw[hh];exact h.old b hb,h.fresh,λb x hx=>let⟨g,h1,h2⟩:=h.live b x hx;⟨g,h1,h2.kept (by rw[hh];exact Nat.le_refl _) (by rw[hh]) (λ_ k _=>by rw[hh])⟩,h.inj,h.sep.of (λb x g hx hg=> .inl ⟨x,hx,hg⟩) (λb x g _ _ _ _=>by unfold zd;rw[hh])⟩
theorem R.get (h:R B μ σ w){b:Nat}{x:Blk}{g:G}(hx:σ.m b=Y x)(hg:μ b=Y g):Lives B μ w x g:=by
 obtain⟨g',h1,h2⟩:=h.live b x hx;rw[hg]at h1;injection h1 with h1
 exact h1▸h2
theorem R.buf (h:R B μ σ w){b:Nat}{x:Blk}{g:G}(hx:σ.m b=Y x)(hg:μ b=Y g)(hi:g.it=Y .nilFunc){k:Nat}(hk:zd w g.c=Y k):B.n<=k/\k<w.heap.size/\k≠g.c:=by
 obtain⟨_,p,s,_,_,h5⟩:=(h.get hx hg).bld hi;exact db0 h5 hk
theorem R.stays (h:R B μ σ w){b:Nat}{x:Blk}{g:G}(hx:σ.m b=Y x)(hg:μ b=Y g)(hs:w.heap.size<=w'.heap.size)(c:Nat)(hoth: ∀k,k≠c->k<w.heap.size->w'.heap[k]?=w.heap[k]?)(hc:g.c≠c)(hkc:g.it=Y .nilFunc->zd w g.c≠Y c):Lives B μ w' x g:=
 (h.get hx hg).kept hs (hoth _ hc (h.get hx hg).lt) λhi k hk=>hoth k (λe=>hkc hi (e▸hk)) (h.buf hx hg hi hk).2.1
theorem R.kill (h:R B μ σ w)(b:Nat):R B μ (σ.set b Z) w:=by
 have hm: ∀b' x,(σ.set b Z).m b'=Y x->σ.m b'=Y x:=by
  intro b' x hx;simp only[Hp.set]at hx;split at hx
  .cases hx
  .exact hx
 exact⟨h.base,h.old,h.fresh,λb' x hx=>h.live b' x (hm _ _ hx),λb1 b2 x x' g g' h1 h2=>h.inj b1 b2 x x' g g' (hm _ _ h1) (hm _ _ h2),h.sep.of (λb' x g hx hg=> .inl ⟨x,hm _ _ hx,hg⟩) (λ_ _ _ _ _ _ _=>rfl)⟩
theorem R.add (h:R B μ σ w)(cur:Array Value)(e:TypeId)(cells:List Value)(es:Nat)(hle:cells.length<=cur.size)(hc:F2 (VR μ) cells (cur.toList.take cells.length)):
  R B (μ.add σ.n ⟨w.heap.size,0,cur.size,es,e,Z⟩) (σ.add ⟨cells,Za,es⟩) (w.alloc (.cells cur e))/\μ.le (μ.add σ.n ⟨w.heap.size,0,cur.size,es,e,Z⟩):=by
 have hf:μ σ.n=Z:=h.fresh _ (Nat.le_refl _);have hle':μ.le (μ.add σ.n ⟨w.heap.size,0,cur.size,es,e,Z⟩):=Mu.le_add hf
 have old: ∀b x,b≠σ.n->(σ.add ⟨cells,Za,es⟩).m b=Y x->σ.m b=Y x:=by
  intro b x hb hx;simpa[Hp.add,hb]using hx
 have new: ∀x,(σ.add ⟨cells,Za,es⟩).m σ.n=Y x->x=⟨cells,Za,es⟩:=by
  intro x hx;simp[Hp.add]at hx;exact hx.symm
 have oldlt: ∀b x g,σ.m b=Y x->μ b=Y g->g.c<w.heap.size:=λb x g hx hg=>(h.get hx hg).lt
 refine⟨⟨Nat.le_trans h.base (by simp),λb hb=>(Below.heap_alloc w _ _ (aB hb h.base)).trans (h.old b hb),λb hb=> ?_,λb x hx=> ?_,λb b' x x' g g' hx hx' hne ho hg hg'=> ?_, ?_⟩,hle'⟩
 .have:σ.n+1<=b:=hb;unfold Mu.add;rw[zF (by omega)];exact h.fresh b (by omega)
 .by_cases hb:b=σ.n
  .subst hb;obtain rfl:=new x hx;refine⟨⟨w.heap.size,0,cur.size,es,e,Z⟩,by simp[Mu.add],⟨by simp,rfl,λ_ i v hv=> ?_,λ_ _=>⟨h.base,hle,cur,e,heap_alloc_new w _,by simp⟩,λ_ hs=>(by cases hs),λhs=>by cases hs⟩⟩;obtain⟨v',h1,h2⟩:=hc.get i v hv
   have hi:i<cells.length:=by
    rcases Nat.lt_or_ge i cells.length with h3|h3
    .exact h3
    .simp[List.getElem?_eq_none h3]at hv
   refine⟨v', ?_,h2.mono hle'⟩;rw[Nat.zero_add,cell_of_row _ _ _ cur e (0,0) (heap_alloc_new w _)];rw[List.getElem?_take,zE hi]at h1;simpa using h1
  .have hx':=old b x hb hx;obtain⟨g,h1,h2⟩:=h.live b x hx';exact⟨g,hle' _ _ h1,(h2.mono hle').kept (by simp) (Below.heap_alloc w _ _ h2.lt) (λhi k hk=>Below.heap_alloc w _ _ (h.buf hx' h1 hi hk).2.1)⟩
 .by_cases hb:b=σ.n
  .subst hb;have hb':b'≠σ.n:=λe=>hne e.symm
   have:g.c=w.heap.size:=by simp[Mu.add]at hg;rw[<-hg]
   have h2:μ b'=Y g':=by simpa[Mu.add,hb']using hg'
   have:=oldlt b' x' g' (old _ _ hb' hx') h2;omega
  .have h1:μ b=Y g:=by simpa[Mu.add,hb]using hg
   have hx1:=old b x hb hx;by_cases hb':b'=σ.n
   .subst hb';have:g'.c=w.heap.size:=by simp[Mu.add]at hg';rw[<-hg']
    have:=oldlt b x g hx1 h1;omega
   .have h2:μ b'=Y g':=by simpa[Mu.add,hb']using hg'
    exact h.inj b b' x x' g g' hx1 (old _ _ hb' hx') hne ho h1 h2
 .refine h.sep.of (λb x g hx hg=> ?_) (λb x g hx hg hi _=> ?_)
  .by_cases hb:b=σ.n
   .subst hb;have e1:g=⟨w.heap.size,0,cur.size,es,e,Z⟩:=by simp[Mu.add]at hg;exact hg.symm
    subst e1;exact .inr ⟨λh0=>(by cases h0),λb1 x1 g1 k h1 h2 h3 h4 e=>by have:=(h.buf h1 h2 h3 h4).2.1;simp only at e;omega⟩
   .exact .inl ⟨x,old b x hb hx,by simpa[Mu.add,hb]using hg⟩
  .unfold zd;rw[Below.heap_alloc w _ _ (oldlt b x g hx hg)]
theorem R.write1 (h:R B μ σ w){b:Nat}{x:Blk}{g:G}(hx:σ.m b=Y x)(ho:x.own=Za)(hg:μ b=Y g)(hit:g.it=Z)(i:Nat)(hi:i<x.cells.length){v v':Value}(hv:VR μ v v'):
  R B μ (σ.set b (Y ⟨x.cells.set i v,x.own,x.es⟩)) (w.setCell ⟨g.c,g.o+i,Z⟩ v'):=by
 have hl:=h.get hx hg;obtain⟨o1,o2,cur,e,o4,o5⟩:=hl.own hit ho;have hother: ∀k,k≠g.c->(w.setCell ⟨g.c,g.o+i,Z⟩ v').heap[k]?=w.heap[k]?:=λk hk=>heap_setCell_other w _ k v' (by simpa using hk)
 have hsame:(w.setCell ⟨g.c,g.o+i,Z⟩ v').heap[g.c]?=Y (.cells (cur.setIfInBounds (g.o+i) v') e (0,0)):=heap_setCell_same w g.c (g.o+i) cur e v' o4
 have old: ∀b' x',b'≠b->(σ.set b (Y ⟨x.cells.set i v,x.own,x.es⟩)).m b'=Y x'->σ.m b'=Y x':=by
  intro b' x' hb hx';simpa[Hp.set,hb]using hx'
 have new: ∀x',(σ.set b (Y ⟨x.cells.set i v,x.own,x.es⟩)).m b=Y x'->x'=⟨x.cells.set i v,x.own,x.es⟩:=by
  intro x' hx';simp[Hp.set]at hx';exact hx'.symm
 refine⟨by simpa using h.base,λk hk=>(hother k (by omega)).trans (h.old k hk),h.fresh,λb' x' hx'=> ?_,λb1 b2 x1 x2 g1 g2 h1 h2 hne hown hg1 hg2=> ?_, ?_⟩
 .by_cases hb:b'=b
  .subst hb;obtain rfl:=new x' hx';refine⟨g,hg,⟨by simpa using hl.lt,hl.es,λ_ j u hu=> ?_,λ_ _=>⟨o1,by simpa using o2,_,e,hsame,by simpa using o5⟩,λs hs=>(by rw[hit]at hs;cases hs),λhs=>by rw[hit]at hs;cases hs⟩⟩;rw[cell_of_row _ _ _ _ e (0,0) hsame];by_cases hj:j=i
   .subst hj;simp[hi]at hu;subst hu;refine⟨v', ?_,hv⟩;rw[Array.getElem?_setIfInBounds_self_of_lt (by omega)]
   .rw[List.getElem?_set_ne (λe=>hj e.symm)]at hu;obtain⟨u',h1,h2⟩:=hl.cell hit j u hu;refine⟨u', ?_,h2⟩;rw[cell_of_row _ _ _ _ e (0,0) o4]at h1;rw[Array.getElem?_setIfInBounds_ne (by omega)];exact h1
  .have hx1:=old b' x' hb hx';obtain⟨g',h1,h2⟩:=h.live b' x' hx1;refine⟨g',h1,h.stays hx1 h1 (by simp) g.c (λk hk _=>hother k hk) (λe=>h.inj b b' x x' g g' hx hx1 (λe=>hb e.symm) ho hg h1 e.symm) (λhi hk=>((h.sep b' x' g' hx1 h1 hi _ hk b x g hx hg).1 rfl))⟩
 .have keyown: ∀b' x',(σ.set b (Y ⟨x.cells.set i v,x.own,x.es⟩)).m b'=Y x'->∃y,σ.m b'=Y y/\y.own=x'.own:=by
   intro b' x' hx';by_cases hb:b'=b
   .subst hb;obtain rfl:=new x' hx';exact⟨x,hx,rfl⟩
   .exact⟨x',old b' x' hb hx',rfl⟩
  obtain⟨y1,hy1,e1⟩:=keyown _ _ h1;obtain⟨y2,hy2,_⟩:=keyown _ _ h2;exact h.inj b1 b2 y1 y2 g1 g2 hy1 hy2 hne (e1.trans hown) hg1 hg2
 .have oldl: ∀b' x',(σ.set b (Y ⟨x.cells.set i v,x.own,x.es⟩)).m b'=Y x'->∃y,σ.m b'=Y y:=by
   intro b' x' hx';by_cases hb:b'=b
   .subst hb;exact⟨x,hx⟩
   .exact⟨x',old b' x' hb hx'⟩
  refine h.sep.of (λb' x' g' hx' hg'=> .inl (let⟨y,hy⟩:=oldl b' x' hx';⟨y,hy,hg'⟩)) (λb' x' g' hx' hg' hi _=> ?_);have hne:b'≠b:=λe=>by subst e;rw[hg]at hg';injection hg' with hg';subst hg';rw[hit]at hi;cases hi
  unfold zd;rw[hother _ (λe=>h.inj b b' x x' g g' hx hx' (λe=>hne e.symm) ho hg hg' e.symm)]
end
end
section
open List renaming getElem?_eq_getElem -> aB
open Nat renaming add_assoc -> aD
open Result renaming andThen_ok -> bB
open Go.RowKit
def cx :Operand->Bool
 | .const v=>bn6 v
 | .global _=>Zb
 |_=>Za
def opd (x:Operand):Option Operand:=if cx x then Y x else Z
def dF9 :Option Operand->Option (Option Operand)
 |some x=>(opd x).map Y
 |none=>Y Z
def qu (P:Program)(t:TypeId):Option Nat:=(P.info? t).map (·.size)
def cz6 (P:Program)(t:TypeId):Option Nat:=(P.info? t).map (·.bytes)
def ak0 :Value->Bool
 | .bool _| .int _ _| .string _| .pointer Z| .slice Z 0 0| .nilFunc| .nilIface=>Za
 |_=>Zb
def vp (P:Program)(t:TypeId):Option (List Value):=match(P.info? t).bind (·.zero)with
 |some z=>if(cellsOf z).all ak0 then Y (cellsOf z)else Z
 |none=>Z
def au1 (P:Program)(t:TypeId):Option Bool:=match P.underlying t with
 |some (.struct _)|some (.array _ _)=>Y Za
 |some _=>Y Zb
 |none=>Z
def dY3 (P:Program)(t:TypeId):Option Nat:=match P.underlying t with
 |some (.array _ e)=>qu P e
 |_=>Y 1
def gm (μ:Mu)(N:Nat)(e:cb)(tmps:Array Value):Prop:=tmps.size=N/\∀t,VR μ (e t) (tmps.getD t undef)
theorem gm.mono {μ μ':Mu}{N:Nat}{e:cb}{tmps:Array Value}(h:gm μ N e tmps)(hμ:μ.le μ'):gm μ' N e tmps:=⟨h.1,λt=>(h.2 t).mono hμ⟩
theorem gm.put {μ:Mu}{N:Nat}{e:cb}{tmps:Array Value}(h:gm μ N e tmps)(d:Nat)(hd:d<N){v v':Value}(hv:VR μ v v'):gm μ N (e.put d v) (tmps.setIfInBounds d v'):=by
 refine⟨by simpa using h.1,λt=> ?_⟩;unfold cb.put;by_cases ht:t=d
 .subst ht;simp[h.1,hd];exact hv
 .rw[zF ht];have:=h.2 t;simpa[Array.getElem?_setIfInBounds_ne (λe=>ht e.symm)]using this
theorem gm.ev {μ:Mu}{N:Nat}{e:cb}{a:Act}(h:gm μ N e a.tmps){x:Operand}(hx:cx x=Za):VR μ (e.ev x) (a.eval x):=by
 cases x with
 |tmp t=>exact h.2 t
 |const v=>exact VR.plain hx
 |global g=>simp[cx]at hx
 |func f=>exact .func .nil .nil
def qi (P:Program)(o:Oper)(a:Act)(w:World)(B:Base P)(μ:Mu)(v:Value)(σ':Hp):Prop:=
 ∃nx w' μ' v',(execOp a.eval o).run P w= .ok nx w'/\(nx= .value v'∨(nx= .skip/\v'=undef))/\μ.le μ'/\R B μ' σ' w'/\VR μ' v v'/\Below B w w'
section
variable {P:Program} {o:Oper} {a:Act} {w:World} {B:Base P} {N:Nat} {μ:Mu} {e:cb} {σ σ':Hp} {v:Value}
theorem qi.same {v':Value}(hR:R B μ σ w)(hrun:(execOp a.eval o).run P w= .ok (.value v') w)(hv:VR μ v v'):qi P o a w B μ v σ:=
 ⟨_,w,μ,v',hrun, .inl rfl,μ.le_refl,hR,hv,Below.refl _ _⟩
theorem ar {x y:Operand}(h:opd x=Y y):x=y/\cx x=Za:=by
 unfold opd at h;split at h
 .rename_i hx;exact⟨by simpa using h,hx⟩
 .cases h
theorem dz {t:TypeId}{d:TypeDesc}(h:P.underlying t=Y d)(w:World):(underlying t).run P w= .ok d w:=by simp[underlying,h]
theorem sv {t:TypeId}{n:Nat}(h:qu P t=Y n)(w:World):(sizeOf t).run P w= .ok n w:=by
 obtain⟨i,hi,hn⟩:=Option.map_eq_some_iff.1 h;simp[sizeOf,typeInfo,hi,hn]
theorem bf6 {t:TypeId}{b:Bool}(h:au1 P t=Y b)(w:World):(isAgg t).run P w= .ok b w:=by
 unfold au1 at h;unfold isAgg;cases hu:P.underlying t with
 |none=>simp[hu]at h
 |some d=>
  simp only[Sem.run_bind,dz hu,bB];cases d<;>simp[hu]at h<;>subst h<;>rfl
theorem tf {t:TypeId}{z:List Value}(h:vp P t=Y z): ∃v,(∀w:World,(zeroValue t).run P w= .ok v w)/\cellsOf v=z/\z.all ak0=Za:=by
 unfold vp at h;cases hi:P.info? t with
 |none=>simp[hi]at h
 |some i=>
  cases hz:i.zero with
  |none=>simp[hi,hz]at h
  |some v=>
   simp only[hi,hz,zG]at h;split at h
   .rename_i hp;injection h with h
    exact⟨v,λw=>by simp[zeroValue,typeInfo,hi,hz],h,h▸hp⟩
   .cases h
theorem VR.plainCells {μ:Mu}{z:List Value}(h:z.all ak0=Za):F2 (VR μ) z z:=F2.same _ λv hv=>VR.plain1 μ v (by
 have:=List.all_eq_true.1 h v hv;unfold ak0 at this
 exact this)
theorem wu (b o n:Nat):(⟨b,o,Z⟩:Addr).add n=⟨b,o+n,Z⟩:=by unfold Addr.add;split<;>simp_all
theorem R.reads {b o:Nat}{x:Blk}{g:G}(hR:R B μ σ w)(hx:σ.m b=Y x)(hg:μ.at b g){n:Nat}{cs:List Value}(h:vk x o n=Y cs):
  ∃cs',(∀(P:Program) (w':World),w'.heap=w.heap->(loadCells ⟨g.c,g.o+o,Z⟩ n).run P w'= .ok cs'.toArray w')/\F2 (VR μ) cs cs':=by
 unfold vk at h;split at h
 .rename_i hle;injection h with h
  subst h;have hl:=hR.get hx hg.1
  have hall: ∀j,j<n->∃v',w.cell? ⟨g.c,g.o+o+j,Z⟩=Y v'/\VR μ (x.cells.getD (o+j) undef) v':=by
   intro j hj;obtain⟨v',h1,h2⟩:=hl.cell hg.2 (o+j) (x.cells[o+j]'(by omega)) (aB (by omega));refine⟨v',by rw[aD];exact h1, ?_⟩;simp[List.getD,aB (show o+j<x.cells.length by omega)];exact h2
  refine⟨(List.range n).map λj=>(w.cell? ⟨g.c,g.o+o+j,Z⟩).getD undef,λP w' hw'=> ?_, ?_⟩
  .have:=run_loadCells (P:=P) w' ⟨g.c,g.o+o,Z⟩ n (λj=>(w.cell? ⟨g.c,g.o+o+j,Z⟩).getD undef) (λj hj=>by
    rw[wu];obtain⟨v',h1,_⟩:=hall j hj;have:w'.cell? ⟨g.c,g.o+o+j,Z⟩=w.cell? ⟨g.c,g.o+o+j,Z⟩:=by simp[World.cell?,hw']
    rw[this]
    simp[h1])
   rw[this]
  .refine F2.of_get _ _ (by simp;omega) λi u u' hu hu'=> ?_
   have hi:i<n:=by
    rcases Nat.lt_or_ge i n with h3|h3
    .exact h3
    .rw[List.getElem?_eq_none (by simp;omega)]at hu;cases hu
   obtain⟨v',h1,h2⟩:=hall i hi
   have e1:u'=v':=by
    simp[hi,h1]at hu';exact hu'.symm
   have e2:u=x.cells.getD (o+i) undef:=by
    rw[List.getElem?_take,zE hi,List.getElem?_drop]at hu;simp[List.getD,hu]
   rw[e1,e2];exact h2
 .cases h
theorem R.writes : ∀(vs vs':List Value),F2 (VR μ) vs vs'->(∀v∈vs,one v=Za)->∀(σ:Hp) (w:World) (b o i:Nat) (x:Blk) (g:G),R B μ σ w->σ.m b=Y x->x.own=Za->μ.at b g->o+i+vs.length<=x.cells.length->
  ∃w',(∀P:Program,(storeCells ⟨g.c,g.o+o,Z⟩ vs' i).run P w= .ok () w')/\R B μ (σ.set b (Y ⟨px x.cells (o+i) vs,x.own,x.es⟩)) w'/\Below B w w'
 |[],_,h,_,σ,w,b,o,i,x,g,hR,hx,ho,hg,hle=>by
  cases h;refine⟨w,λP=>by simp[storeCells], ?_,Below.refl _ _⟩
  have:σ.set b (Y ⟨px x.cells (o+i) [],x.own,x.es⟩)=σ:=by
   unfold Hp.set
   have:(λj=>if j=b then Y (⟨px x.cells (o+i) [],x.own,x.es⟩:Blk)else σ.m j)=σ.m:=by
    funext j
    split
    .rename_i e;subst e;rw[hx];rfl
    .rfl
   rw[this]
  rw[this];exact hR
 |v::vs,_,h,h1,σ,w,b,o,i,x,g,hR,hx,ho,hg,hle=>by
  cases h with
  |cons hv ht=>
   rename_i v' vs';simp only[List.length_cons]at hle;have hl:=hR.get hx hg.1;obtain⟨o1,o2,cur,e,o4,o5⟩:=hl.own hg.2 ho;have hR1:=hR.write1 hx ho hg.1 hg.2 (o+i) (by omega) hv;have hone:v'.oneCell'=Za:=by rw[<-hv.one_iff];exact h1 v (by simp)
   obtain⟨u,hu,_⟩:=hl.cell hg.2 (o+i) (x.cells[o+i]'(by omega)) (aB (by omega));have hfr:w.frozen? ⟨g.c,g.o+(o+i),Z⟩=Zb:=frozen_of_row w _ _ _ _ o4;have hm:(σ.set b (Y ⟨x.cells.set (o+i) v,x.own,x.es⟩)).m b=Y ⟨x.cells.set (o+i) v,x.own,x.es⟩:=by simp[Hp.set]
   obtain⟨w',h2,h3,h4⟩:=R.writes vs vs' ht (λy hy=>h1 y (by simp[hy])) _ _ b o (i+1) _ g hR1 hm ho hg (by simp;omega);refine⟨w',λP=> ?_, ?_, ?_⟩
   .have ha:(⟨g.c,g.o+o,Z⟩:Addr).add i=⟨g.c,g.o+(o+i),Z⟩:=by rw[wu,aD]
    simp only[storeCells,Sem.run_bind,ha,run_store P w _ v' .plain hone,hu,hfr,Bool.false_eq_true,if_false,bB];exact h2 P
   .have hs:(σ.set b (Y ⟨x.cells.set (o+i) v,x.own,x.es⟩)).set b (Y ⟨px (x.cells.set (o+i) v) (o+(i+1)) vs,x.own,x.es⟩)=σ.set b (Y ⟨px x.cells (o+i) (v::vs),x.own,x.es⟩):=by
     unfold Hp.set
     have:(λj=>if j=b then Y (⟨px (x.cells.set (o+i) v) (o+(i+1)) vs,x.own,x.es⟩:Blk)else if j=b then Y ⟨x.cells.set (o+i) v,x.own,x.es⟩else σ.m j)=
       (λj=>if j=b then Y (⟨px x.cells (o+i) (v::vs),x.own,x.es⟩:Blk)else σ.m j):=by
      funext j
      split<;>simp[px,aD]
     simp only[this]
    rw[hs]at h3;exact h3
   .exact((Below.refl B w).setCell o1 v').trans h4
end
end
section
open Go.RowKit
def zW (size:Nat->Option (Nat×Nat)):List (Nat×Operand)->Option (List (Nat×Nat×Operand))
 |[]=>Y []
 |(i,x)::r=>match size i,opd x,zW size r with
  |some (off,n),Y x,Y r=>Y ((off,n,x)::r)
  |_,_,_=>Z
def bI6 :List Operand->Option (List Operand)
 |[]=>Y []
 |x::r=>match opd x,bI6 r with
  |some x,Y r=>Y (x::r)
  |_,_=>Z
def bu1 (P:Program)(fs:Array Field)(i:Nat):Option (Nat×Nat):=match fs[i]? with
 |some f=>(qu P f.type).map λn=>(f.offset,n)
 |none=>Z
def cM8 (P:Program)(f:FuncId):Bool:=match P.funcs[f]? with
 |some fn=>fn.body.isSome&& !(fn.name== "runtime.NumGoroutine")
 |none=>Zb
def ao5 (P:Program)(t:TypeId):Option Nat:=match P.underlying t with
 |some .bool=>Y 0
 |some (.int _)=>Y 1
 |some .string=>Y 2
 |_=>Z
def ao6 (P:Program):Nat->List Field->Option (List Nat)
 |_,[]=>Y []
 |i,f::r=>if f.offset=i/\f.name≠ "_" then match ao5 P f.type,ao6 P (i+1) r with
  |some k,Y ks=>Y (k::ks)
  |_,_=>Z
  else Z
def cr3 (P:Program)(t:TypeId):Option (List Nat):=match P.underlying t with
 |some (.struct fs)=>if P.eqGuardType P.depth t=Zb/\P.stoodInHeld t=Zb then ao6 P 0 fs.toList else Z
 |some (.array n e)=>if qu P e=Y 1/\P.eqGuardType P.depth t=Zb then(ao5 P e).map λk=>List.replicate n k else Z
 |_=>Z
def dD3 :TypeDesc->Option Nat
 | .bool=>Y 0
 | .pointer _=>Y 1
 | .slice _=>Y 2
 | .func _ _ _=>Y 3
 |_=>Z
def cH0 (P:Program)(op:BinOp)(t:TypeId)(x y:Operand):Option AOp:=
 match P.underlying t with
 |some (.int _)|some .string=>match opd x,opd y with
  |some x,Y y=>Y (.bin op x y)
  |_,_=>Z
 |some (.struct _)|some (.array _ _)=>match op,cr3 P t,opd x,opd y with
  | .eql,Y n,Y x,Y y=>Y (.eqCells Zb n x y)
  | .neq,Y n,Y x,Y y=>Y (.eqCells Za n x y)
  |_,_,_,_=>Z
 |some d=>match dD3 d,op,opd x,opd y with
  |some kd, .eql,Y x,Y y=>Y (.eqv kd Zb x y)
  |some kd, .neq,Y x,Y y=>Y (.eqv kd Za x y)
  |_,_,_,_=>Z
 |none=>Z
def aN0 (P:Program)(c:Call):Option AOp:=
 match c.callee with
 | .value (.func f)=>if cM8 P f then(bI6 c.args.toList).map (.call f ·)else Z
 | .value (.tmp t)=>(bI6 c.args.toList).map (.callv (.tmp t) ·)
 | .builtin .append=>match c.args.toList,c.argTypes.toList with
  |[s,x],[st,xt]=>match P.underlying st,P.underlying xt,opd s,opd x with
   |some (.slice e),Y (.slice _),Y s,Y x|some (.slice e),Y .string,Y s,Y x=>match qu P e,cz6 P e,vp P e with
    |some es,Y bytes,Y z=>if z.length=es then Y (.append es bytes s x)else Z
    |_,_,_=>Z
   |some (.slice e),Y (.int _),Y s,Y x=>match qu P e,cz6 P e,vp P e with
    |some es,Y bytes,Y z=>if z.length=es/\0<es then Y (.appendZ es bytes z s x)else Z
    |_,_,_=>Z
   |_,_,_,_=>Z
  |_,_=>Z
 | .builtin .copy=>match c.args.toList,c.argTypes.toList with
  |[d,s],dt::_=>match P.underlying dt,opd d,opd s with
   |some (.slice e),Y d,Y s=>match qu P e with
    |some es=>Y (.copy es d s)
    |none=>Z
   |_,_,_=>Z
  |_,_=>Z
 | .builtin .len=>match c.args.toList,c.argTypes.toList with
  |[x],t::_=>match P.underlying t,opd x with
   |some (.slice _),Y x=>Y (.len x)
   |some (.array n _),_=>Y (.lenC n)
   |some (.pointer arr),_=>match P.underlying arr with
    |some (.array n _)=>Y (.lenC n)
    |_=>Z
   |_,_=>Z
  |_,_=>Z
 | .builtin .cap=>match c.args.toList,c.argTypes.toList with
  |[x],[t]=>match P.underlying t,opd x with
   |some (.slice _),Y x=>Y (.capN x)
   |_,_=>Z
  |_,_=>Z
 | .builtin .max=>match c.args.toList with
  |[x,y]=>match opd x,opd y with
   |some x,Y y=>Y (.most x y)
   |_,_=>Z
  |_=>Z
 | .builtin .min=>match c.args.toList with
  |[x,y]=>match opd x,opd y with
   |some x,Y y=>Y (.least x y)
   |_,_=>Z
  |_=>Z
 |_=>Z
def cH3 (P:Program)(o:Oper):Option AOp:=
 match o.op with
 | .move x| .assign x=>(opd x).map .move
 | .pick c a b=>match opd c,opd a,opd b with
  |some c,Y a,Y b=>Y (.pick c a b)
  |_,_,_=>Z
 | .alloc t=>if dL5 P t=Za then Z
  else match dY3 P t,vp P t with
  |some es,Y z=>Y (.alloc es z)
  |_,_=>Z
 | .box t x=>match dY3 P t,opd x with
  |some es,Y x=>Y (.box es x)
  |_,_=>Z
 | .build t parts=>match P.underlying t,vp P t with
  |some (.struct fs),Y z=>if fs.toList.all λf=>(qu P f.type).isSome then(zW (bu1 P fs) parts.toList).map (.build z ·)else Z
  |some (.array _ e),Y z=>match qu P e with
   |some n=>(zW (λi=>Y (i*n,n)) parts.toList).map (.build z ·)
   |none=>Z
  |_,_=>Z
 | .buildSlice t len parts=>match P.underlying t with
  |some (.slice e)=>match qu P e,vp P e with
   |some n,Y z=>if len*n<=16777216/\z.length=n/\0<n then(zW (λi=>Y (i*n,n)) parts.toList).map (.buildSlice n len z ·)else Z
   |_,_=>Z
  |_=>Z
 | .load _ (.global _)=>Y .stuck
 | .load t x=>match au1 P t,opd x with
  |some Za,Y x=>(qu P t).map (.loadN · x)
  |some Zb,Y x=>Y (.load x)
  |_,_=>Z
 | .store t x y=>match qu P t,opd x,opd y with
  |some n,Y x,Y y=>Y (.store n x y)
  |_,_,_=>Z
 | .nilCheck x=>(opd x).map .nilCheck
 | .binOp op t x y _=>cH0 P op t x y
 | .unOp op _ x=>(opd x).map (.un op ·)
 | .convert s d x=>match P.underlying s,P.underlying d,opd x with
  |some (.int _),Y (.int k),Y x=>Y (.conv k x)
  |_,_,_=>Z
 | .makeFunc (.func f) first captured=>match bI6 first.toList,bI6 captured.toList with
  |some xs,Y ys=>Y (.mkFunc f xs ys)
  |_,_=>Z
 | .makeSlice t l c=>match P.underlying t with
  |some (.slice e)=>match qu P e,cz6 P e,vp P e,opd l,opd c with
   |some n,Y by_,Y z,Y l,Y c=>if z.length=n/\0<n then Y (.makeSlice n by_ z l c)else Z
   |_,_,_,_,_=>Z
  |_=>Z
 | .slice t x lo hi Z=>match P.underlying t,opd x,dF9 lo,dF9 hi with
  |some (.slice e),Y x,Y lo,Y hi=>(qu P e).map (.slice · x lo hi)
  |some (.array n e),Y x,Y lo,Y hi=>(qu P e).map (.sliceArr · n x lo hi)
  |_,_,_,_=>Z
 | .fieldAddr s x i=>match P.underlying s,opd x with
  |some (.struct fs),Y x=>match fs[i]? with
   |some f=>match qu P f.type with
    |some n=>if n=0 then Z else Y (.off f.offset x)
    |none=>Z
   |none=>Z
  |_,_=>Z
 | .field t x i=>match P.underlying t,opd x with
  |some (.struct fs),Y x=>match fs[i]? with
   |some f=>match qu P f.type,au1 P f.type with
    |some n,Y b=>Y (.fieldV f.offset n b x)
    |_,_=>Z
   |none=>Z
  |_,_=>Z
 | .indexAddr t x i=>match P.underlying t,opd x,opd i with
  |some (.slice e),Y x,Y i=>(qu P e).map (.idx · x i)
  |some (.array n e),Y x,Y i=>(qu P e).map (.idxA n · x i)
  |_,_,_=>Z
 | .index t x i=>match P.underlying t,opd x,opd i with
  |some (.array n e),Y x,Y i=>match qu P e,au1 P e with
   |some s,Y b=>Y (.indexV n s b x i)
   |_,_=>Z
  |some .string,Y x,Y i=>Y (.indexS x i)
  |_,_,_=>Z
 | .slice t x Z (Y hi) (Y mx)=>match P.underlying t,opd x,opd hi,opd mx with
  |some (.slice d),Y x,Y hi,Y mx=>if(qu P d).isSome then Y (.sliceX x hi mx)else Z
  |_,_,_,_=>Z
 | .extract x i=>(opd x).map (.extract · i)
 | .call c=>aN0 P c
 | .makeInterface _ _| .panic _=>Y .stuck
 |_=>Z
section
variable {P:Program} {o:Oper} {a:Act} {w:World} {B:Base P} {N:Nat} {μ:Mu} {e:cb} {σ σ':Hp} {v:Value}
theorem cW3 {x:Operand}(ho:o.op= .move x∨o.op= .assign x)(hx:cx x=Za)(hr:(AOp.move x).run e σ=Y (v,σ'))(he:gm μ N e a.tmps)(hR:R B μ σ w):qi P o a w B μ v σ':=by
 simp only[AOp.run,Option.some.injEq,Prod.mk.injEq]at hr;obtain⟨rfl,rfl⟩:=hr;rcases ho with ho|ho<;>exact .same hR (by simp[execOp,ho]) (he.ev hx)
theorem VR.bool_inv {b:Bool}{v':Value}(h:VR μ (.bool b) v'):v'= .bool b:=by cases h;rfl
theorem VR.int_inv {k:IntKind}{n:Int}{v':Value}(h:VR μ (.int k n) v'):v'= .int k n:=by cases h;rfl
theorem VR.string_inv {s:ByteArray}{v':Value}(h:VR μ (.string s) v'):v'= .string s:=by cases h;rfl
theorem dF7 {c x y:Operand}(ho:o.op= .pick c x y)(hc:cx c=Za)(hx:cx x=Za)(hy:cx y=Za)(hr:(AOp.pick c x y).run e σ=Y (v,σ'))(he:gm μ N e a.tmps)(hR:R B μ σ w):qi P o a w B μ v σ':=by
 have h:=he.ev hc;simp only[AOp.run]at hr;split at hr
 .rename_i hb;rw[hb]at h;have hb':=h.bool_inv;simp only[Option.some.injEq,Prod.mk.injEq]at hr;obtain⟨rfl,rfl⟩:=hr;exact .same hR (by simp[execOp,ho,hb',asBool]) (he.ev hx)
 .rename_i hb;rw[hb]at h;have hb':=h.bool_inv;simp only[Option.some.injEq,Prod.mk.injEq]at hr;obtain⟨rfl,rfl⟩:=hr;exact .same hR (by simp[execOp,ho,hb',asBool]) (he.ev hy)
 .cases hr
theorem qi.new (hR:R B μ σ w)(cur:Array Value)(t:TypeId)(cells:List Value)(es:Nat)(v':Value)(hc:F2 (VR μ) cells cur.toList)
  (hrun:(execOp a.eval o).run P w= .ok (.value v') (w.alloc (.cells cur t)))
  (hv:(μ.add σ.n ⟨w.heap.size,0,cur.size,es,t,Z⟩).at σ.n ⟨w.heap.size,0,cur.size,es,t,Z⟩->VR (μ.add σ.n ⟨w.heap.size,0,cur.size,es,t,Z⟩) v v'):qi P o a w B μ v (σ.add ⟨cells,Za,es⟩):=by
 have hlen:cells.length=cur.size:=by simpa using hc.length
 obtain⟨h1,h2⟩:=hR.add cur t cells es (by omega) (by rw[hlen,<-Array.length_toList,List.take_length];exact hc);exact⟨_,_,_,v',hrun, .inl rfl,h2,h1,hv ⟨by simp[Mu.add],rfl⟩,(Below.refl _ _).alloc hR.base _⟩
theorem dq5 {t:TypeId}{es:Nat}{z:List Value}(ho:o.op= .alloc t)(hz:vp P t=Y z)(hr:(AOp.alloc es z).run e σ=Y (v,σ'))(hR:R B μ σ w):qi P o a w B μ v σ':=by
 obtain⟨z',h1,h2,h3⟩:=tf hz;simp only[AOp.run,Option.some.injEq,Prod.mk.injEq]at hr;obtain⟨rfl,rfl⟩:=hr;refine .new hR z'.cells t z es (.pointer (Y ⟨w.heap.size,0,Z⟩)) ?_ ?_ (λh=> .ptr (o:=0) h)
 .have:z=z'.cells.toList:=h2.symm;rw[this];rw[this]at h3;exact VR.plainCells h3
 .simp[execOp,ho,Instr.alloc,h1,newVar,newRow]
theorem dS1 {t:TypeId}{es:Nat}{x:Operand}(ho:o.op= .box t x)(hx:cx x=Za)(hr:(AOp.box es x).run e σ=Y (v,σ'))(he:gm μ N e a.tmps)(hR:R B μ σ w):qi P o a w B μ v σ':=by
 simp only[AOp.run]at hr;split at hr
 .simp only[Option.some.injEq,Prod.mk.injEq]at hr;obtain⟨rfl,rfl⟩:=hr;refine .new hR (a.eval x).cells t _ es (.pointer (Y ⟨w.heap.size,0,Z⟩)) (he.ev hx).cells ?_ (λh=> .ptr (o:=0) h);simp[execOp,ho,Instr.box,newVar,newRow]
 .cases hr
theorem VR.ptr_inv {b n:Nat}{v':Value}(h:VR μ (.pointer (Y ⟨b,n,Z⟩)) v'): ∃g,μ.at b g/\v'= .pointer (Y ⟨g.c,g.o+n,Z⟩):=by
 cases h with
 |ptr h=>exact⟨_,h,rfl⟩
theorem dF5 {t:TypeId}{x:Operand}(ho:o.op= .load t x)(ht:au1 P t=Y Zb)(hx:cx x=Za)(hr:(AOp.load x).run e σ=Y (v,σ'))(he:gm μ N e a.tmps)(hR:R B μ σ w):qi P o a w B μ v σ':=by
 have h:=he.ev hx;simp only[AOp.run]at hr;split at hr
 .rename_i b n hb;rw[hb]at h;obtain⟨g,hg,hv⟩:=h.ptr_inv;split at hr
  .rename_i blk hblk;obtain⟨u,hu,hr⟩:=Option.map_eq_some_iff.1 hr;simp only[Prod.mk.injEq]at hr;obtain⟨rfl,rfl⟩:=hr;obtain⟨u',h1,h2⟩:=(hR.get hblk hg.1).cell hg.2 n u hu;refine .same hR ?_ h2;simp[execOp,ho,Instr.loadAt,Instr.sureAddr,hv,loadVar,bf6 ht,h1]
  .cases hr
 .cases hr
theorem dq9 {t:TypeId}{x:Operand}{n:Nat}(ho:o.op= .load t x)(ht:au1 P t=Y Za)(hn:qu P t=Y n)(hx:cx x=Za)(hr:(AOp.loadN n x).run e σ=Y (v,σ'))(he:gm μ N e a.tmps)(hR:R B μ σ w):qi P o a w B μ v σ':=by
 have h:=he.ev hx;simp only[AOp.run]at hr;split at hr
 .rename_i b n hb;rw[hb]at h;obtain⟨g,hg,hv⟩:=h.ptr_inv;split at hr
  .rename_i blk hblk;obtain⟨cs,hcs,hr⟩:=Option.map_eq_some_iff.1 hr;simp only[Prod.mk.injEq]at hr;obtain⟨rfl,rfl⟩:=hr;obtain⟨cs',h1,h2⟩:=hR.reads hblk hg hcs;refine .same hR ?_ (.agg h2);simp[execOp,ho,Instr.loadAt,Instr.sureAddr,hv,loadVar,bf6 ht,sv hn,h1 P w rfl]
  .cases hr
 .cases hr
theorem dr1 {t:TypeId}{x y:Operand}{n:Nat}(ho:o.op= .store t x y)(hn:qu P t=Y n)(hx:cx x=Za)(hy:cx y=Za)(hr:(AOp.store n x y).run e σ=Y (v,σ'))(he:gm μ N e a.tmps)(hR:R B μ σ w):qi P o a w B μ v σ':=by
 have h:=he.ev hx;have hcs:=(he.ev hy).cells;simp only[AOp.run]at hr;split at hr
 .rename_i b off hb;rw[hb]at h;obtain⟨g,hg,hv⟩:=h.ptr_inv;split at hr
  .rename_i hsz;split at hr
   .rename_i blk hblk;unfold af2 at hr;split at hr
    .rename_i blk' hw;split at hw
     .rename_i hc;obtain⟨hown,hle,hall⟩:=hc;injection hw with hw
      subst hw;simp only[Option.some.injEq,Prod.mk.injEq]at hr;obtain⟨rfl,rfl⟩:=hr;obtain⟨w',h1,h2,h3⟩:=R.writes _ _ hcs (λu hu=>List.all_eq_true.1 hall u hu) σ w b off 0 blk g hR hblk hown hg hle;refine⟨.skip,w',μ,undef, ?_, .inr ⟨rfl,rfl⟩,μ.le_refl,h2,VR.undef μ,h3⟩;have hs:(a.eval y).cells.size=n:=by rw[<-hsz,hcs.length];simp
      simp[execOp,ho,Instr.storeAt,Instr.sureAddr,hv,storeVar,sv hn,hs,h1]
     .cases hw
    .cases hr
   .cases hr
  .cases hr
 .cases hr
theorem cD3 {x:Operand}(ho:o.op= .nilCheck x)(hx:cx x=Za)(hr:(AOp.nilCheck x).run e σ=Y (v,σ'))(he:gm μ N e a.tmps)(hR:R B μ σ w):qi P o a w B μ v σ':=by
 have h:=he.ev hx;simp only[AOp.run]at hr;split at hr
 .rename_i b hb;simp only[Option.some.injEq,Prod.mk.injEq]at hr;obtain⟨rfl,rfl⟩:=hr;rw[hb]at h;generalize hv:a.eval x=u at h;cases h with
  |ptr h'=>exact .same hR (by simp[execOp,ho,hv]) (.ptr h')
 .rename_i f p q hb;simp only[Option.some.injEq,Prod.mk.injEq]at hr;obtain⟨rfl,rfl⟩:=hr;rw[hb]at h;generalize hv:a.eval x=u at h;cases h with
  |func h1 h2=>exact .same hR (by simp[execOp,ho,hv]) (.func h1 h2)
 .cases hr
end
end
section
open List renaming drop_drop -> aB, getElem?_drop -> bB
open Nat renaming add_comm -> aD
open Go.RowKit
section
variable {P:Program} {o:Oper} {a:Act} {w:World} {B:Base P} {N:Nat} {μ:Mu} {e:cb} {σ σ':Hp} {v:Value}
theorem dz8 (op:BinOp)(t:TypeId)(x y z:Value)(h:ay9 op x y=Y z)(w:World)(ox oy:Operand):
  (eqGuard op t ox oy x y).run P w= .ok () w/\(binOp op t x y).run P w= .ok z w:=by
 cases x with
 |int k m=>cases y with
  |int k' n=>
   simp only[ay9]at h;by_cases hs:zV op=Za
   .rw[zE hs]at h;unfold bW8 at h;split at h
    .cases h
    .rename_i hn;cases op<;>simp[zV]at hs<;>simp at h<;>subst h<;>simp[eqGuard,binOp,Op.shift,hn]
   .rw[zF hs]at h;split at h
    .rename_i hk;subst hk;cases op<;>simp[zV]at hs<;>simp[cU8]at h
     all_goals first
      |(obtain⟨h1,h2⟩:=h;subst h2;simp[eqGuard,binOp,Op.intDiv,h1])
      |(subst h;simp[eqGuard,binOp,Op.intArith,Op.intBits,Op.intCmp])
    .cases h
  |_=>simp[ay9]at h
 |string s=>cases y with
  |string s'=>
   simp only[ay9]at h;split at h
   .cases h
   .rename_i hs;cases op<;>simp[zV]at hs<;>simp[cX8]at h
    all_goals first
     |(obtain⟨h1,h2⟩:=h;subst h2;simp[eqGuard,binOp,Op.stringOp];omega)
     |(subst h;simp[eqGuard,binOp,Op.stringOp])
  |_=>simp[ay9]at h
 |_=>simp[ay9]at h
theorem dz9 {op:BinOp}{x y x' y' z:Value}(h:ay9 op x y=Y z)(hx:VR μ x x')(hy:VR μ y y'):x'=x/\y'=y:=by
 cases x with
 |int k m=>cases y with
  |int k' n=>exact⟨hx.int_inv,hy.int_inv⟩
  |_=>simp[ay9]at h
 |string s=>cases y with
  |string s'=>exact⟨hx.string_inv,hy.string_inv⟩
  |_=>simp[ay9]at h
 |_=>simp[ay9]at h
theorem cL2 {op:BinOp}{x y z:Value}(h:ay9 op x y=Y z):VR μ z z:=by
 cases x with
 |int k m=>cases y with
  |int k' n=>
   simp only[ay9]at h;split at h
   .unfold bW8 at h;split at h
    .cases h
    .cases op<;>simp at h<;>subst h<;>exact .int _ _
   .split at h
    .cases op<;>simp[cU8]at h
     all_goals first
      |(obtain⟨_,h2⟩:=h;subst h2;exact .int _ _)
      |(subst h;first|exact .int _ _|exact .bool _)
    .cases h
  |_=>simp[ay9]at h
 |string s=>cases y with
  |string s'=>
   simp only[ay9]at h;split at h
   .cases h
   .cases op<;>simp[cX8]at h
    all_goals first
     |(obtain⟨_,h2⟩:=h;subst h2;exact .string _)
     |(subst h;first|exact .string _|exact .bool _)
  |_=>simp[ay9]at h
 |_=>simp[ay9]at h
theorem dq6 {op:BinOp}{t t':TypeId}{x y:Operand}(ho:o.op= .binOp op t x y t')(hx:cx x=Za)(hy:cx y=Za)(hr:(AOp.bin op x y).run e σ=Y (v,σ'))(he:gm μ N e a.tmps)(hR:R B μ σ w):qi P o a w B μ v σ':=by
 simp only[AOp.run]at hr;obtain⟨z,hz,hr⟩:=Option.map_eq_some_iff.1 hr;simp only[Prod.mk.injEq]at hr;obtain⟨rfl,rfl⟩:=hr;obtain⟨h1,h2⟩:=dz9 hz (he.ev hx) (he.ev hy);refine .same hR ?_ (cL2 hz);obtain⟨k1,k2⟩:=dz8 (P:=P) op t _ _ _ hz w x y;simp[execOp,ho,h1,h2,k1,k2]
theorem cN0 (op:BinOp)(t:TypeId)(ox oy:Operand)(x y:Value)(h1: ¬(x= .nilIface/\y= .nilIface))(h2: ∀a b,¬(x= .agg a/\y= .agg b))(w:World):(eqGuard op t ox oy x y).run P w= .ok () w:=by
 unfold eqGuard
 cases op<;>first
  |rfl
  |(cases x<;>cases y<;>first
    |rfl
    |exact absurd ⟨rfl,rfl⟩ h1
    |exact absurd ⟨rfl,rfl⟩ (h2 _ _))
set_option maxHeartbeats 1000000 in
theorem dB7 {t:TypeId}{d:TypeDesc}{kd:Nat}(hd:P.underlying t=Y d)(hk:dD3 d=Y kd){x y x' y':Value}{b:Bool}(h:cA7 kd x y=Y b)(hx:VR μ x x')(hy:VR μ y y')(w:World):
  (Op.equal t x' y').run P w= .ok b w:=by
 unfold Op.equal Op.maxDepth;rw[show(10000:Nat)=9999+1 from rfl,Op.equalIn];simp only[Sem.run_bind,dz hd,Result.andThen_ok];cases d<;>simp[dD3]at hk<;>subst hk
 all_goals (cases hx<;>cases hy<;>simp[cA7]at h<;>simp[<-h])
theorem dB8 {kd:Nat}{x y x' y':Value}{b:Bool}(h:cA7 kd x y=Y b)(hx:VR μ x x')(hy:VR μ y y')(t:TypeId)(neg:Bool)(w:World)(hq:(Op.equal t x' y').run P w= .ok b w):
  (binOp (if neg then .neq else .eql) t x' y').run P w= .ok (.bool (b !=neg)) w/\(∀ox oy op,(eqGuard op t ox oy x' y').run P w= .ok () w):=by
 refine⟨?_,λox oy op=>cN0 op t ox oy x' y' ?_ ?_ w⟩
 .have:binOp (if neg then .neq else .eql) t x' y'=(Op.equal t x' y' >>=λq=>pure (.bool (if neg then !q else q))):=by
   cases hx<;>cases hy<;>first
    |(cases neg<;>rfl)
    |(unfold cA7 at h;split at h<;>simp_all)
  rw[this];cases neg<;>simp[hq]
 .rintro⟨rfl,rfl⟩;cases hx;unfold cA7 at h;split at h<;>simp_all
 .rintro p q ⟨rfl,rfl⟩;cases hx;unfold cA7 at h;split at h<;>simp_all
theorem dq7 {t t':TypeId}{d:TypeDesc}{kd:Nat}{neg:Bool}{op:BinOp}{x y:Operand}(ho:o.op= .binOp op t x y t')(hop:op=if neg then .neq else .eql)(hd:P.underlying t=Y d)(hk:dD3 d=Y kd)(hx:cx x=Za)(hy:cx y=Za)(hr:(AOp.eqv kd neg x y).run e σ=Y (v,σ'))(he:gm μ N e a.tmps)(hR:R B μ σ w):qi P o a w B μ v σ':=by
 simp only[AOp.run]at hr;obtain⟨b,hz,hr⟩:=Option.map_eq_some_iff.1 hr;simp only[Prod.mk.injEq]at hr;obtain⟨rfl,rfl⟩:=hr;have hq:=dB7 hd hk hz (he.ev hx) (he.ev hy) w;obtain⟨k1,k2⟩:=dB8 hz (he.ev hx) (he.ev hy) t neg w hq;refine .same hR ?_ (.bool _);simp[execOp,ho,hop,k1,k2]
theorem bD7 {t:TypeId}{kd:Nat}(hf:ao5 P t=Y kd){x y x' y':Value}{b:Bool}(h:ac4 kd x y=Y b)(hx:VR μ x x')(hy:VR μ y y')(d:Nat)(w:World):
  (Op.equalIn (d+1) t x' y').run P w= .ok b w:=by
 unfold ao5 at hf;cases hu:P.underlying t with
 |none=>simp[hu]at hf
 |some dd=>
  cases dd<;>simp[hu]at hf<;>subst hf
  all_goals
   cases hx<;>cases hy<;>simp[ac4]at h
  .simp[run_equalIn_bool _ _ _ _ _ hu,<-h]
  .obtain⟨rfl,rfl⟩:=h;simp[run_equalIn_int _ _ _ _ _ _ _ hu]
  .simp[run_equalIn_string _ _ _ _ _ hu,<-h]
theorem aC7 {t:TypeId}{kd:Nat}(hf:ao5 P t=Y kd):au1 P t=Y Zb:=by
 unfold ao5 at hf;unfold au1;split at hf<;>simp_all
theorem zL {t:TypeId}(h:au1 P t=Y Zb){cs:Array Value}{i:Nat}{v:Value}(hv:cs[i]?=Y v)(w:World):(part t cs i).run P w= .ok v w:=by
 simp[part,bf6 h,hv]
theorem bD8 (w:World)(d:Nat)(xs ys:Array Value): ∀(fs:List Field) (i:Nat) (ks:List Nat) (l m:List Value) (b:Bool),ao6 P i fs=Y ks->ny ks l m=Y b->
  F2 (VR μ) l (xs.toList.drop i)->F2 (VR μ) m (ys.toList.drop i)->(Op.eqFields (d+1) xs ys fs).run P w= .ok b w
 |[],i,ks,l,m,b,hf,h,_,_=>by
  simp[ao6]at hf;subst hf;cases l<;>cases m<;>simp[ny]at h;subst h;simp[Op.eqFields]
 |f::fs,i,ks,l,m,b,hf,h,hl,hm=>by
  simp only[ao6]at hf;split at hf
  .rename_i hc;split at hf
   .rename_i k ks' h1 h2;injection hf with hf
    subst hf;cases l with
    |nil=>simp[ny]at h
    |cons x l=>cases m with
     |nil=>simp[ny]at h
     |cons y m=>
      simp only[ny]at h;obtain⟨x',hx,rx⟩:=hl.get 0 x rfl;obtain⟨y',hy,ry⟩:=hm.get 0 y rfl;rw[bB]at hx hy;have hx':xs[i]?=Y x':=by simpa using hx
      have hy':ys[i]?=Y y':=by simpa using hy
      have tl:F2 (VR μ) l (xs.toList.drop (i+1)):=by
       have:=hl.drop 1;simpa[aB,aD]using this
      have tm:F2 (VR μ) m (ys.toList.drop (i+1)):=by
       have:=hm.drop 1;simpa[aB,aD]using this
      have ih:=bD8 w d xs ys fs (i+1) ks' l m;cases he:ac4 k x y with
      |none=>simp[he]at h
      |some q=>
       have:=bD7 (P:=P) h1 he rx ry d w;cases q with
       |true=>
        simp only[he]at h;simp[Op.eqFields,hc.2,zL (aC7 h1),hc.1,hx',hy',this,ih b h2 h tl tm]
       |false=>
        simp[he]at h;simp[Op.eqFields,hc.2,zL (aC7 h1),hc.1,hx',hy',this,<-h]
   .cases hf
  .cases hf
theorem cA6 (w:World)(d:Nat)(e:TypeId)(k:Nat)(hk:ao5 P e=Y k)(xs ys:Array Value): ∀(n i:Nat) (l m:List Value) (b:Bool),ny (List.replicate n k) l m=Y b->
  F2 (VR μ) l (xs.toList.drop i)->F2 (VR μ) m (ys.toList.drop i)->
  (forIn (List.range' i n) ((Z,()):Option Bool×Unit) λj (_:Option Bool×Unit)=>(do
    let a<-part e xs (j*1)
    let c<-part e ys (j*1)
    let q<-Op.equalIn (d+1) e a c
    if(!q)=Za then pure (ForInStep.done (Y Zb,()))else pure (ForInStep.yield (Z,())):Sem (ForInStep (Option Bool×Unit)))).run P w= .ok (if b then Z else Y Zb,()) w
 |0,i,l,m,b,h,_,_=>by
  cases l<;>cases m<;>simp[ny]at h;subst h;simp
 |n+1,i,l,m,b,h,hl,hm=>by
  rw[List.replicate_succ]at h;cases l with
  |nil=>simp[ny]at h
  |cons x l=>cases m with
   |nil=>simp[ny]at h
   |cons y m=>
    simp only[ny]at h;obtain⟨x',hx,rx⟩:=hl.get 0 x rfl;obtain⟨y',hy,ry⟩:=hm.get 0 y rfl;rw[bB]at hx hy;have hx':xs[i]?=Y x':=by simpa using hx
    have hy':ys[i]?=Y y':=by simpa using hy
    have tl:F2 (VR μ) l (xs.toList.drop (i+1)):=by
     have:=hl.drop 1;simpa[aB,aD]using this
    have tm:F2 (VR μ) m (ys.toList.drop (i+1)):=by
     have:=hm.drop 1;simpa[aB,aD]using this
    have ih:=cA6 w d e k hk xs ys n (i+1) l m;cases he:ac4 k x y with
    |none=>simp[he]at h
    |some q=>
     have h2:=bD7 (P:=P) hk he rx ry d w;rw[List.range'_succ,List.forIn_cons];cases q with
     |true=>
      simp only[he]at h;have h3:=ih b h tl tm;simp only[Nat.mul_one]at h3⊢;simp[zL (aC7 hk) hx',zL (aC7 hk) hy',h2,Result.andThen];simpa using h3
     |false=>
      simp[he]at h;simp[zL (aC7 hk) hx',zL (aC7 hk) hy',h2,<-h]
end
end
section
open Nat renaming add_assoc -> aB
open Result renaming andThen_ok -> aD
open Go.RowKit
section
variable {P:Program} {o:Oper} {a:Act} {w:World} {B:Base P} {N:Nat} {μ:Mu} {e:cb} {σ σ':Hp} {v:Value}
theorem VR.agg_inv {p:Array Value}{v':Value}(h:VR μ (.agg p) v'): ∃q,v'= .agg q/\F2 (VR μ) p.toList q.toList:=by
 cases h with
 |agg h=>exact⟨_,rfl,h⟩
theorem bV7 {t:TypeId}{ks:List Nat}(hf:cr3 P t=Y ks){p q p' q':Array Value}{b:Bool}(h:ny ks p.toList q.toList=Y b)(hp:F2 (VR μ) p.toList p'.toList)(hq:F2 (VR μ) q.toList q'.toList)(w:World):
  (Op.equal t (.agg p') (.agg q')).run P w= .ok b w/\P.eqGuardType P.depth t=Zb:=by
 unfold cr3 at hf;unfold Op.equal Op.maxDepth;rw[show(10000:Nat)=9998+1+1 from rfl];cases hu:P.underlying t with
 |none=>simp[hu]at hf
 |some dd=>
  cases dd<;>simp[hu]at hf
  case struct fs=>
   obtain⟨⟨h1,h2⟩,h3⟩:=hf;have hfs:P.fieldsOf t=fs:=by simp[Program.fieldsOf,hu]
   rw[run_equalIn_struct w _ t p' q' (by rw[hfs,hu]) h2,hfs];exact⟨bD8 w 9998 p' q' fs.toList 0 ks _ _ b h3 h (by simpa using hp) (by simpa using hq),h1⟩
  case array n e=>
   obtain⟨⟨h1,h2⟩,k,h3,h4⟩:=hf;subst h4;refine⟨?_,h2⟩;have:=cA6 (P:=P) w 9998 e k h3 p' q' n 0 _ _ b h (by simpa using hp) (by simpa using hq);rw[Op.equalIn];simp only[Sem.run_bind,dz hu,aD,sv h1];cases b<;>simp at this⊢ <;>rw[this]<;>rfl
theorem aL8 {t t':TypeId}{ks:List Nat}{neg:Bool}{op:BinOp}{x y:Operand}(ho:o.op= .binOp op t x y t')(hop:op=if neg then .neq else .eql)(hf:cr3 P t=Y ks)(hx:cx x=Za)(hy:cx y=Za)(hr:(AOp.eqCells neg ks x y).run e σ=Y (v,σ'))(he:gm μ N e a.tmps)(hR:R B μ σ w):qi P o a w B μ v σ':=by
 simp only[AOp.run]at hr;split at hr
 .rename_i p q hp hq;obtain⟨b,hz,hr⟩:=Option.map_eq_some_iff.1 hr;simp only[Prod.mk.injEq]at hr;obtain⟨rfl,rfl⟩:=hr;have h1:=he.ev hx;have h2:=he.ev hy;rw[hp]at h1;rw[hq]at h2;obtain⟨p',e1,r1⟩:=h1.agg_inv;obtain⟨q',e2,r2⟩:=h2.agg_inv;obtain⟨k1,k2⟩:=bV7 hf hz r1 r2 w;refine .same hR ?_ (.bool _);have k3:=λox oy=>run_eqGuard_agg (P:=P) w op t ox oy p' q' k2
  simp only[execOp,ho,e1,e2,Sem.run_bind,k3,aD];cases neg<;>simp[hop,binOp,k1]
 .cases hr
theorem ea2 {t:TypeId}{op:UnOp}{x:Operand}(ho:o.op= .unOp op t x)(hx:cx x=Za)(hr:(AOp.un op x).run e σ=Y (v,σ'))(he:gm μ N e a.tmps)(hR:R B μ σ w):qi P o a w B μ v σ':=by
 simp only[AOp.run]at hr;obtain⟨z,hz,hr⟩:=Option.map_eq_some_iff.1 hr;simp only[Prod.mk.injEq]at hr;obtain⟨rfl,rfl⟩:=hr;have h:=he.ev hx;generalize e.ev x=u at*;cases u<;>cases op<;>simp[un1]at hz
 .subst hz;have:=h.bool_inv;exact .same hR (by simp[execOp,ho,this,Op.unary]) (.bool _)
 .subst hz;have:=h.int_inv;exact .same hR (by simp[execOp,ho,this,Op.unary,Op.intArith]) (.int _ _)
 .subst hz;have:=h.int_inv;exact .same hR (by simp[execOp,ho,this,Op.unary,Op.intBits]) (.int _ _)
theorem dF2 {s d:TypeId}{k k':IntKind}{x:Operand}(ho:o.op= .convert s d x)(hs:P.underlying s=Y (.int k'))(hd:P.underlying d=Y (.int k))(hx:cx x=Za)(hr:(AOp.conv k x).run e σ=Y (v,σ'))(he:gm μ N e a.tmps)(hR:R B μ σ w):qi P o a w B μ v σ':=by
 simp only[AOp.run]at hr;obtain⟨n,hn,hr⟩:=Option.map_eq_some_iff.1 hr;simp only[Prod.mk.injEq]at hr;obtain⟨rfl,rfl⟩:=hr;have h:=he.ev hx;generalize e.ev x=u at*;cases u<;>simp[dZ1]at hn;subst hn;have:=h.int_inv;exact .same hR (by simp[execOp,ho,this,convert,dz hs,dz hd,Conv.intToInt]) (.int _ _)
theorem bs4 (he:gm μ N e a.tmps): ∀{xs ys:List Operand},bI6 xs=Y ys->F2 (VR μ) (ys.map e.ev) (xs.map a.eval)
 |[],ys,h=>by simp[bI6]at h;subst h;exact .nil
 |x::xs,ys,h=>by
  simp only[bI6]at h;split at h
  .rename_i x' r h1 h2;injection h with h
   subst h;obtain⟨rfl,h3⟩:=ar h1;exact .cons (he.ev h3) (bs4 he h2)
  .cases h
theorem de3 {f:FuncId}{first captured:Array Operand}{xs cs:List Operand}(ho:o.op= .makeFunc (.func f) first captured)(h0:bI6 first.toList=Y xs)(hc:bI6 captured.toList=Y cs)(hr:(AOp.mkFunc f xs cs).run e σ=Y (v,σ'))(he:gm μ N e a.tmps)(hR:R B μ σ w):qi P o a w B μ v σ':=by
 simp only[AOp.run,Option.some.injEq,Prod.mk.injEq]at hr;obtain⟨rfl,rfl⟩:=hr;refine .same hR (v':= .func (.func f) (first.map a.eval) (captured.map a.eval)) (by simp[execOp,ho,Instr.makeFunc]) (.func ?_ ?_)
 .simpa using bs4 he h0
 .simpa using bs4 he hc
theorem dS4 {t:TypeId}{i n:Nat}{x:Operand}{fs:Array Field}{f:Field}(ho:o.op= .fieldAddr t x i)(hu:P.underlying t=Y (.struct fs))(hi:fs[i]?=Y f)(hn:qu P f.type=Y n)(h0:n≠0)(hx:cx x=Za)(hr:(AOp.off f.offset x).run e σ=Y (v,σ'))(he:gm μ N e a.tmps)(hR:R B μ σ w):qi P o a w B μ v σ':=by
 have h:=he.ev hx;simp only[AOp.run]at hr;split at hr
 .rename_i b off hb;simp only[Option.some.injEq,Prod.mk.injEq]at hr;obtain⟨rfl,rfl⟩:=hr;rw[hb]at h;obtain⟨g,hg,hv⟩:=h.ptr_inv;refine .same hR (v':= .pointer (Y ⟨g.c,g.o+(off+f.offset),Z⟩)) ?_ (.ptr hg);simp[execOp,ho,Instr.fieldAt,dz hu,hi,hv,Instr.sureAddr,fieldPlace,sv hn,h0,wu,aB]
 .cases hr
theorem VR.slice_inv {b n l c:Nat}{v':Value}(h:VR μ (.slice (Y ⟨b,n,Z⟩) l c) v'):
  (∃g c',μ.at b g/\l<=c/\c<=c'/\n+c'*g.es<=g.ext/\v'= .slice (Y ⟨g.c,g.o+n,Z⟩) l c')∨(l=0/\c=0/\∃A',v'= .slice (Y A') 0 0/\∃g,μ.at b g):=by
 cases h with
 |slice h1 h2 h3 h4=>exact .inl ⟨_,_,h1,h2,h3,h4,rfl⟩
 |slice0 A' h=>exact .inr ⟨rfl,rfl,A',rfl,_,h⟩
theorem dS2 {t d:TypeId}{n:Nat}{x i:Operand}(ho:o.op= .indexAddr t x i)(hu:P.underlying t=Y (.slice d))(hn:qu P d=Y n)(hx:cx x=Za)(hi:cx i=Za)(hr:(AOp.idx n x i).run e σ=Y (v,σ'))(he:gm μ N e a.tmps)(hR:R B μ σ w):qi P o a w B μ v σ':=by
 have h:=he.ev hx;have h':=he.ev hi;simp only[AOp.run]at hr;split at hr
 .rename_i b off l c k j hb hj;split at hr
  .rename_i hlt;simp only[Option.some.injEq,Prod.mk.injEq]at hr;obtain⟨rfl,rfl⟩:=hr;rw[hb]at h;rw[hj]at h';have hj':=h'.int_inv;rcases h.slice_inv with⟨g,c',hg,_,_,_,hv⟩|⟨rfl,_⟩
   .refine .same hR (v':= .pointer (Y ⟨g.c,g.o+(off+j.toNat*n),Z⟩)) ?_ (.ptr hg);simp[execOp,ho,Instr.indexAt,dz hu,hv,hj',asIntOf,hlt,sv hn,wu,aB]
   .omega
  .cases hr
 .cases hr
theorem dF4 {t d:TypeId}{m n:Nat}{x i:Operand}(ho:o.op= .indexAddr t x i)(hu:P.underlying t=Y (.array m d))(hn:qu P d=Y n)(hx:cx x=Za)(hi:cx i=Za)(hr:(AOp.idxA m n x i).run e σ=Y (v,σ'))(he:gm μ N e a.tmps)(hR:R B μ σ w):qi P o a w B μ v σ':=by
 have h:=he.ev hx;have h':=he.ev hi;simp only[AOp.run]at hr;split at hr
 .rename_i b off k j hb hj;split at hr
  .rename_i hlt;simp only[Option.some.injEq,Prod.mk.injEq]at hr;obtain⟨rfl,rfl⟩:=hr;rw[hb]at h;rw[hj]at h';have hj':=h'.int_inv;obtain⟨g,hg,hv⟩:=h.ptr_inv;refine .same hR (v':= .pointer (Y ⟨g.c,g.o+(off+j.toNat*n),Z⟩)) ?_ (.ptr hg);simp[execOp,ho,Instr.indexAt,Instr.sureAddr,dz hu,hv,hj',asIntOf,hlt,sv hn,wu,aB]
  .cases hr
 .cases hr
theorem cF7 {t:TypeId}{b:Bool}{n i:Nat}(hb:au1 P t=Y b)(hn:qu P t=Y n){p q:Array Value}(hpq:F2 (VR μ) p.toList q.toList){u:Value}
  (hu:(if b then Y (.agg (p.extract i (i+n)))else p[i]?)=Y u) (w:World): ∃u',(part t q i).run P w= .ok u' w/\VR μ u u':=by
 cases b with
 |true=>
  simp at hu;subst hu;refine⟨.agg (q.extract i (i+n)),by simp[part,bf6 hb,sv hn], .agg ?_⟩;simpa[Array.toList_extract,List.extract_eq_take_drop]using(hpq.drop i).take n
 |false=>
  simp at hu;obtain⟨u',h1,h2⟩:=hpq.get i u (by simpa using hu);exact⟨u',zL hb (by simpa using h1) w,h2⟩
theorem de0 {t:TypeId}{i n:Nat}{b:Bool}{x:Operand}{fs:Array Field}{f:Field}(ho:o.op= .field t x i)(hu:P.underlying t=Y (.struct fs))(hi:fs[i]?=Y f)(hn:qu P f.type=Y n)(hb:au1 P f.type=Y b)(hx:cx x=Za)(hr:(AOp.fieldV f.offset n b x).run e σ=Y (v,σ'))(he:gm μ N e a.tmps)(hR:R B μ σ w):qi P o a w B μ v σ':=by
 have h:=he.ev hx;simp only[AOp.run]at hr;split at hr
 .rename_i p hp;rw[hp]at h;obtain⟨q,hq,r⟩:=h.agg_inv
  have:σ'=σ/\(if b then Y (.agg (p.extract f.offset (f.offset+n)))else p[f.offset]?)=Y v:=by
   cases b
   .simp at hr;obtain⟨_,h1,rfl,rfl⟩:=hr;exact⟨rfl,by simpa using h1⟩
   .simp at hr;exact⟨hr.2.symm,by simp[hr.1]⟩
  obtain⟨rfl,h1⟩:=this;obtain⟨u',k1,k2⟩:=cF7 hb hn r h1 w;exact .same hR (by simp[execOp,ho,Instr.field,dz hu,hi,hq,asAgg,k1]) k2
 .cases hr
theorem de2 {t d:TypeId}{m n:Nat}{b:Bool}{x i:Operand}(ho:o.op= .index t x i)(hu:P.underlying t=Y (.array m d))(hn:qu P d=Y n)(hb:au1 P d=Y b)(hx:cx x=Za)(hi:cx i=Za)(hr:(AOp.indexV m n b x i).run e σ=Y (v,σ'))(he:gm μ N e a.tmps)(hR:R B μ σ w):qi P o a w B μ v σ':=by
 have h:=he.ev hx;have h':=he.ev hi;simp only[AOp.run]at hr;split at hr
 .rename_i p k j hp hj;rw[hp]at h;rw[hj]at h';have hj':=h'.int_inv;obtain⟨q,hq,r⟩:=h.agg_inv;split at hr
  .rename_i hlt
   have:σ'=σ/\(if b then Y (.agg (p.extract (j.toNat*n) (j.toNat*n+n)))else p[j.toNat*n]?)=Y v:=by
    cases b
    .simp at hr;obtain⟨_,h1,rfl,rfl⟩:=hr;exact⟨rfl,by simpa using h1⟩
    .simp at hr;exact⟨hr.2.symm,by simp[hr.1]⟩
   obtain⟨rfl,h1⟩:=this;obtain⟨u',k1,k2⟩:=cF7 hb hn r h1 w;exact .same hR (by simp[execOp,ho,Instr.index,dz hu,hq,hj',asIntOf,hlt,sv hn,k1]) k2
  .cases hr
 .cases hr
theorem de1 {t:TypeId}{x i:Operand}(ho:o.op= .index t x i)(hu:P.underlying t=Y .string)(hx:cx x=Za)(hi:cx i=Za)(hr:(AOp.indexS x i).run e σ=Y (v,σ'))(he:gm μ N e a.tmps)(hR:R B μ σ w):qi P o a w B μ v σ':=by
 have h:=he.ev hx;have h':=he.ev hi;simp only[AOp.run]at hr;split at hr
 .rename_i s k j hs hj;rw[hs]at h;rw[hj]at h';have hj':=h'.int_inv;have hs':=h.string_inv;split at hr
  .rename_i h0;obtain⟨c,hc,hr⟩:=Option.map_eq_some_iff.1 hr;simp only[Prod.mk.injEq]at hr;obtain⟨rfl,rfl⟩:=hr;exact .same hR (by simp[execOp,ho,Instr.index,dz hu,hs',hj',asIntOf,h0,hc]) (.int _ _)
  .cases hr
 .cases hr
theorem cO8 {x:Operand}{i:Nat}(ho:o.op= .extract x i)(hx:cx x=Za)(hr:(AOp.extract x i).run e σ=Y (v,σ'))(he:gm μ N e a.tmps)(hR:R B μ σ w):qi P o a w B μ v σ':=by
 have h:=he.ev hx;simp only[AOp.run]at hr;split at hr
 .rename_i p hp;rw[hp]at h;generalize hq:a.eval x=u at h;cases h with
  |tuple r=>
   obtain⟨c,hc,hr⟩:=Option.map_eq_some_iff.1 hr;simp only[Prod.mk.injEq]at hr;obtain⟨rfl,rfl⟩:=hr;obtain⟨c',h1,h2⟩:=r.get i c (by simpa using hc);have h1':_:=h1;rw[Array.getElem?_toList]at h1';exact .same hR (by simp[execOp,ho,Instr.extract,hq,h1']) h2
 .cases hr
end
end
section
open List renaming getElem?_eq_none -> bB, length_cons -> bD
open Result renaming andThen_ok -> aB
open Sem renaming run_bind -> aD
open Go.RowKit
section
variable {P:Program} {o:Oper} {a:Act} {w:World} {B:Base P} {N:Nat} {μ:Mu} {e:cb} {σ σ':Hp} {v:Value}
theorem bv3 (off:Nat): ∀(vs:List Value) (k:Nat) (cells:Array Value),off+k+vs.length<=cells.size->
  ((vs.zipIdx k).foldl (λcs (p:Value×Nat)=>cs.setIfInBounds (off+p.2) p.1) cells).toList=cells.toList.take (off+k)++vs++cells.toList.drop (off+k+vs.length)
 |[],k,cells,_=>by simp
 |v::vs,k,cells,h=>by
  simp only[bD]at h;rw[List.zipIdx_cons,List.foldl_cons,bv3 off vs (k+1) _ (by simp;omega)];have hlt:off+k<cells.toList.length:=by simp;omega
  simp only[Array.toList_setIfInBounds,bD];rw[List.take_set,List.drop_set_of_lt (by omega)];rw[show off+(k+1)=off+k+1 from by omega,List.take_add_one,show off+k+1+vs.length=off+k+(vs.length+1)from by omega]
  have h2:(cells.toList.take (off+k)++(cells.toList[off+k]?).toList).set (off+k) v=cells.toList.take (off+k)++[v]:=by
   rw[List.getElem?_eq_getElem hlt];rw[List.set_append_right _ _ (by simp;omega)];have:off+k-(List.take (off+k) cells.toList).length=0:=by rw[List.length_take];omega
   rw[this];simp
  rw[h2];simp
theorem cQ6 (off:Nat)(vs:Array Value)(cells:Array Value)(h:off+vs.size<=cells.size):
  (vs.zipIdx.foldl (λcs (c,j)=>cs.setIfInBounds (off+j) c) cells).toList=cells.toList.take off++vs.toList++cells.toList.drop (off+vs.size):=by
 have:=bv3 off vs.toList 0 cells (by simpa using h);rw[<-Array.foldl_toList,Array.toList_zipIdx];simpa using this
theorem aj0 {place:Nat->Option (Nat×Nat)}(he:gm μ N e a.tmps): ∀(parts:List (Nat×Operand)) (parts':List (Nat×Nat×Operand)) (z:List Value) (z':Array Value) (cs:List Value),zW place parts=Y parts'->
  aZ5 z (parts'.map λ(o,s,x)=>(o,s,e.ev x))=Y cs->F2 (VR μ) z z'.toList->∃cs',Instr.fill place z' (parts.map λ(i,x)=>(i,a.eval x))=Y cs'/\F2 (VR μ) cs cs'.toList
 |[],parts',z,z',cs,hp,hf,hz=>by
  simp[zW]at hp;subst hp;simp[aZ5]at hf;subst hf;exact⟨z',rfl,hz⟩
 |(i,x)::r,parts',z,z',cs,hp,hf,hz=>by
  simp only[zW]at hp;split at hp
  .rename_i off n x' r' h1 h2 h3;injection hp with hp
   subst hp;obtain⟨rfl,hx⟩:=ar h2;simp only[List.map_cons,aZ5]at hf;split at hf
   .rename_i hc;have hv:=(he.ev hx).cells;have hlen:(a.eval x).cells.size=n:=by rw[<-hc.1,hv.length];simp
    have hzl:z.length=z'.size:=by simpa using hz.length
    obtain⟨cs',h4,h5⟩:=aj0 he r r' _ ((a.eval x).cells.zipIdx.foldl (λcs (c,j)=>cs.setIfInBounds (off+j) c) z') cs h3 hf (by
     rw[cQ6 _ _ _ (by omega),hlen]
     exact((hz.take _).append hv).append (hz.drop _))
    refine⟨cs', ?_,h5⟩;simp only[List.map_cons,Instr.fill,h1,hlen];rw[zF (by simp;omega)];exact h4
   .cases hf
  .cases hp
theorem cF6 {α β:Type}(P:Program)(w:World)(f:α->Sem β)(g:α->β): ∀(l:List α),(∀x∈l,(f x).run P w= .ok (g x) w)->(l.mapM f).run P w= .ok (l.map g) w
 |[],_=>by simp
 |x::l,h=>by
  have:=cF6 P w f g l (λy hy=>h y (by simp[hy]));simp[List.mapM_cons,h x (by simp),this]
theorem bI4 {t:TypeId}{parts:Array (Nat×Operand)}{fs:Array Field}{z:List Value}{ps:List (Nat×Nat×Operand)}(ho:o.op= .build t parts)(hu:P.underlying t=Y (.struct fs))(hz:vp P t=Y z)
  (hall:(fs.toList.all λf=>(qu P f.type).isSome)=Za) (hp:zW (bu1 P fs) parts.toList=Y ps) (hr:(AOp.build z ps).run e σ=Y (v,σ')) (he:gm μ N e a.tmps) (hR:R B μ σ w):qi P o a w B μ v σ':=by
 obtain⟨z',h1,h2,h3⟩:=tf hz;simp only[AOp.run]at hr;obtain⟨cs,hf,hr⟩:=Option.map_eq_some_iff.1 hr;simp only[Prod.mk.injEq]at hr;obtain⟨rfl,rfl⟩:=hr;obtain⟨cs',h4,h5⟩:=aj0 he parts.toList ps z z'.cells cs hp hf (h2▸VR.plainCells (h2▸h3))
 have hm:(fs.mapM λf=>(do pure (f.offset,<-sizeOf f.type):Sem (Nat×Nat))).run P w= .ok (fs.map λf=>(f.offset,(qu P f.type).getD 0)) w:=by
  rw[Array.mapM_eq_mapM_toList]
  have:=cF6 P w (λf:Field=>(do pure (f.offset,<-sizeOf f.type):Sem (Nat×Nat))) (λf=>(f.offset,(qu P f.type).getD 0)) fs.toList (λf hf'=>by
   have:=List.all_eq_true.1 hall f hf';obtain⟨n,hn⟩:=Option.isSome_iff_exists.1 this
   simp[sv hn,hn])
  simp only[Sem.run_map,this,aB];rw[<-Array.toList_map]
 have hpl:(λi=>(fs.map λf=>(f.offset,(qu P f.type).getD 0))[i]?)=bu1 P fs:=by
  funext i
  unfold bu1;rw[Array.getElem?_map];cases hi:fs[i]? with
  |none=>rfl
  |some f=>
   have hmem:f∈fs.toList:=by
    have:=Array.mem_of_getElem? hi;simpa using this
   obtain⟨n,hn⟩:=Option.isSome_iff_exists.1 (List.all_eq_true.1 hall f hmem);simp[hn]
 refine .same hR (v':= .agg cs') ?_ (.agg (by simpa using h5));simp only[execOp,ho,Instr.build,aD,h1,aB,dz hu,hm,hpl];rw[Array.toList_map];simp only[h4];rfl
theorem bU2 {t d:TypeId}{m n:Nat}{parts:Array (Nat×Operand)}{z:List Value}{ps:List (Nat×Nat×Operand)}(ho:o.op= .build t parts)(hu:P.underlying t=Y (.array m d))(hn:qu P d=Y n)(hz:vp P t=Y z)
  (hp:zW (λi=>Y (i*n,n)) parts.toList=Y ps) (hr:(AOp.build z ps).run e σ=Y (v,σ')) (he:gm μ N e a.tmps) (hR:R B μ σ w):qi P o a w B μ v σ':=by
 obtain⟨z',h1,h2,h3⟩:=tf hz;simp only[AOp.run]at hr;obtain⟨cs,hf,hr⟩:=Option.map_eq_some_iff.1 hr;simp only[Prod.mk.injEq]at hr;obtain⟨rfl,rfl⟩:=hr;obtain⟨cs',h4,h5⟩:=aj0 he parts.toList ps z z'.cells cs hp hf (h2▸VR.plainCells (h2▸h3));refine .same hR (v':= .agg cs') ?_ (.agg (by simpa using h5));simp only[execOp,ho,Instr.build,aD,h1,aB,dz hu,sv hn];rw[Array.toList_map];simp only[h4];rfl
theorem bX2 (z:Array Value)(n:Nat)(hz:0<z.size):((Array.range (n*z.size)).map (λi=>z[i % z.size]!)).toList=di z.toList n:=by
 unfold di;apply List.ext_getElem?;intro i;have hlen:(List.replicate n z.toList).flatten.length=n*z.size:=by simp
 by_cases hi:i<n*z.size
 .have h1:((Array.range (n*z.size)).map (λi=>z[i % z.size]!)).toList[i]?=Y (z[i % z.size]'(Nat.mod_lt _ hz)):=by
   simp[hi,Nat.mod_lt _ hz]
  rw[h1];clear h1;induction n generalizing i with
  |zero=>simp at hi
  |succ n ih=>
   rw[List.replicate_succ,List.flatten_cons];by_cases h2:i<z.size
   .rw[List.getElem?_append_left (by simpa using h2)];simp[Nat.mod_eq_of_lt h2,h2]
   .rw[List.getElem?_append_right (by simpa using h2)];have h3:=ih (i-z.size) (by simp) (by rw[Nat.succ_mul]at hi;omega);rw[Array.length_toList,<-h3];have h4:i % z.size=(i-z.size) % z.size:=by rw[Nat.mod_eq_sub_mod (by omega)]
    simp only[h4]
 .rw[bB (by simp;omega),bB (by rw[hlen];omega)]
theorem aj5 (z:List Value)(n:Nat):(di z n).length=n*z.length:=by simp[di]
theorem bb8 {z:List Value}(h:z.all ak0=Za)(n:Nat):(di z n).all ak0=Za:=by
 unfold di;rw[List.all_eq_true]at*;intro x hx;simp only[List.mem_flatten,List.mem_replicate]at hx;obtain⟨l,⟨_,rfl⟩,hx⟩:=hx;exact h x hx
theorem cd3 {t d:TypeId}{len n:Nat}{parts:Array (Nat×Operand)}{z:List Value}{ps:List (Nat×Nat×Operand)}(ho:o.op= .buildSlice t len parts)(hu:P.underlying t=Y (.slice d))(hn:qu P d=Y n)(hz:vp P d=Y z)
  (hmax:len*n<=16777216) (hzn:z.length=n) (h0:0<n)
  (hp:zW (λi=>Y (i*n,n)) parts.toList=Y ps) (hr:(AOp.buildSlice n len z ps).run e σ=Y (v,σ')) (he:gm μ N e a.tmps) (hR:R B μ σ w):qi P o a w B μ v σ':=by
 obtain⟨z',h1,h2,h3⟩:=tf hz;simp only[AOp.run]at hr;split at hr
 .rename_i cs hf;split at hr
  .simp only[Option.some.injEq,Prod.mk.injEq]at hr;obtain⟨rfl,rfl⟩:=hr;have hzs:z'.cells.size=n:=by rw[<-hzn,<-h2];simp[cellsOf]
   have hzl:z'.cells.toList=z:=h2
   have hcells: ∀zz:Array Value,(len*n=0->zz= #[])->(len*n≠0->zz=z'.cells)->((Array.range (len*n)).map (λi=>zz[i % zz.size]!)).toList=di z len:=by
    intro zz e1 e2;by_cases hl:len*n=0
    .have:len=0:=by
      rcases Nat.mul_eq_zero.1 hl with h|h
      .exact h
      .omega
     subst this;simp[di]
    .rw[e2 hl,<-hzs,bX2 _ _ (by omega),hzl]
   have hzt:F2 (VR μ) (di z len) (di z len):=VR.plainCells (bb8 h3 len);obtain⟨cs',h4,h5⟩:=aj0 he parts.toList ps (di z len) (di z len).toArray cs hp hf (by simpa using hzt)
   have hlen:cs'.size=len*n:=by
    have e1:cs.length=len*n:=by
     have: ∀(ps:List (Nat×Nat×Value)) (x y:List Value),aZ5 x ps=Y y->y.length=x.length:=by
      intro ps;induction ps with
      |nil=>intro x y h;simp[aZ5]at h;rw[h]
      |cons p ps ih=>
       obtain⟨p1,p2,p3⟩:=p;intro x y h;simp only[aZ5]at h;split at h
       .rename_i hc;rw[ih _ _ h];simp;omega
       .cases h
     rw[this _ _ _ hf,aj5,hzn]
    have:=h5.length;simp at this;omega
   refine .new hR cs' d cs n (.slice (Y ⟨w.heap.size,0,Z⟩) len len) h5 ?_ (λh=>VR.slice (o:=0) h (Nat.le_refl _) (Nat.le_refl _) (by simp[hlen]));simp only[execOp,ho,Instr.buildSlice,aD,dz hu,aB,sv hn];rw[zF (by omega)];by_cases hl:len*n=0
   .have hc:=hcells #[] (λ_=>rfl) (λh=>absurd hl h);have hc':(Array.range (len*n)).map (λi=>(#[]:Array Value)[i % (#[]:Array Value).size]!)=(di z len).toArray:=by rw[<-hc]
    rw[zE hl];simp only[aD,Sem.run_pure,aB,hc'];rw[Array.toList_map];simp[h4,newRow]
   .have hc:=hcells z'.cells (λh=>absurd h hl) (λ_=>rfl);have hc':(Array.range (len*n)).map (λi=>z'.cells[i % z'.cells.size]!)=(di z len).toArray:=by rw[<-hc]
    rw[zF hl];simp only[h1,aD,Sem.run_pure,aB,hc'];rw[Array.toList_map];simp[h4,newRow]
  .cases hr
 .cases hr
end
end
section
open Bool renaming or_eq_true -> fB
open Builtin renaming len_ -> dB
open Nat renaming le_refl -> aB, add_assoc -> dD, add_mul -> eD
open Option renaming map_some -> cB, map_none -> cD
open Result renaming andThen_ok -> aD
open Sem renaming run_bind -> bB, run_pure -> bD
open Go.RowKit
section
variable {P:Program} {o:Oper} {a:Act} {w:World} {B:Base P} {N:Nat} {μ:Mu} {e:cb} {σ σ':Hp} {v:Value}
theorem VR.nils_inv {n c:Nat}{v':Value}(h:VR μ (.slice Z n c) v'):v'= .slice Z 0 0/\n=0/\c=0:=by cases h;exact⟨rfl,rfl,rfl⟩
theorem cV0 {x x':Value}{n:Nat}(h:bi9 x=Y n)(hx:VR μ x x'):bi9 x'=Y n:=by
 cases hx<;>simp_all [bi9]
theorem jl {c:Call}{b:Builtin}(ho:o.op= .call c)(hc:c.callee= .builtin b)(w:World):
  ∃cs,(execOp a.eval o).run P w=(builtin b c.argTypes o.type cs (c.args.map a.eval)).run P w:=by
 refine⟨c.args.map λ| .const _=>Za|_=>Zb, ?_⟩;simp only[execOp,ho,resolve,hc,invoke,bB,bD,aD];rfl
theorem di8 {α:Type}{c:Array α}{x:α}(h:c.toList=[x]):c= #[x]:=by rw[<-Array.toList_inj];simpa using h
theorem bP5 {α:Type}{c:Array α}{x y:α}(h:c.toList=[x,y]):c= #[x,y]:=by rw[<-Array.toList_inj];simpa using h
theorem br4 {α:Type}{c:Array α}{x:α}{r:List α}(h:c.toList=x::r):c[0]?=Y x:=by rw[<-Array.getElem?_toList,h];rfl
theorem dS3 {c:Call}{x:Operand}{t u:TypeId}{ts:List TypeId}(ho:o.op= .call c)(hc:c.callee= .builtin .len)(ha:c.args.toList=[x])(ht:c.argTypes.toList=t::ts)(hu:P.underlying t=Y (.slice u))
  (hx:cx x=Za) (hr:(AOp.len x).run e σ=Y (v,σ')) (he:gm μ N e a.tmps) (hR:R B μ σ w):qi P o a w B μ v σ':=by
 have h:=he.ev hx;simp only[AOp.run]at hr;split at hr
 .rename_i p n c' hp;simp only[Option.some.injEq,Prod.mk.injEq]at hr;obtain⟨rfl,rfl⟩:=hr;rw[hp]at h
  have: ∃p' c'',a.eval x= .slice p' n c'':=by
   generalize a.eval x=y at h;cases h<;>exact⟨_,_,rfl⟩
  obtain⟨p',c'',hy⟩:=this;obtain⟨cs,hrun⟩:=jl (P:=P) (a:=a) ho hc w;refine .same hR ?_ (.int .i64 n);simp[hrun,builtin,dB,di8 ha,br4 ht,hy,dz hu,goInt]
 .cases hr
theorem dF1 {c:Call}{x:Operand}{t u:TypeId}(ho:o.op= .call c)(hc:c.callee= .builtin .cap)(ha:c.args.toList=[x])(ht:c.argTypes.toList=[t])(hu:P.underlying t=Y (.slice u))
  (hx:cx x=Za) (hr:(AOp.capN x).run e σ=Y (v,σ')) (he:gm μ N e a.tmps) (hR:R B μ σ w):qi P o a w B μ v σ':=by
 have h:=he.ev hx;simp only[AOp.run]at hr;split at hr
 .rename_i hp;simp only[Option.some.injEq,Prod.mk.injEq]at hr;obtain⟨rfl,rfl⟩:=hr;rw[hp]at h;obtain⟨hq,_,_⟩:=h.nils_inv;obtain⟨cs,hrun⟩:=jl (P:=P) (a:=a) ho hc w;refine .same hR ?_ (.int .i64 0);simp[hrun,builtin,Builtin.cap_,di8 ha,di8 ht,hq,dz hu,goInt]
 .cases hr
theorem cW2 {c:Call}{x:Operand}{t:TypeId}{ts:List TypeId}{m:Nat}(ho:o.op= .call c)(hc:c.callee= .builtin .len)(ha:c.args.toList=[x])(ht:c.argTypes.toList=t::ts)
  (hu:(∃u,P.underlying t=Y (.array m u))∨∃p u,P.underlying t=Y (.pointer p)/\P.underlying p=Y (.array m u))
  (hr:(AOp.lenC m).run e σ=Y (v,σ')) (hR:R B μ σ w):qi P o a w B μ v σ':=by
 simp only[AOp.run,Option.some.injEq,Prod.mk.injEq]at hr;obtain⟨rfl,rfl⟩:=hr;obtain⟨cs,hrun⟩:=jl (P:=P) (a:=a) ho hc w;refine .same hR ?_ (.int .i64 m);rcases hu with⟨u,hu⟩|⟨p,u,hu,hp⟩
 .cases hv:a.eval x<;>simp[hrun,builtin,dB,di8 ha,br4 ht,dz hu,goInt,hv]
 .cases hv:a.eval x<;>simp[hrun,builtin,dB,di8 ha,br4 ht,dz hu,dz hp,goInt,hv]
theorem dF6 {c:Call}{x y:Operand}(ho:o.op= .call c)(hc:c.callee= .builtin .max)(ha:c.args.toList=[x,y])(hx:cx x=Za)(hy:cx y=Za)(hr:(AOp.most x y).run e σ=Y (v,σ'))(he:gm μ N e a.tmps)(hR:R B μ σ w):qi P o a w B μ v σ':=by
 simp only[AOp.run]at hr;obtain⟨z,hz,hr⟩:=Option.map_eq_some_iff.1 hr;simp only[Prod.mk.injEq]at hr;obtain⟨rfl,rfl⟩:=hr;have h:=he.ev hx;have h':=he.ev hy;generalize e.ev x=p at*;generalize e.ev y=q at*;cases p<;>cases q<;>simp[cR3]at hz;subst hz;have e1:=h.int_inv;have e2:=h'.int_inv;obtain⟨cs,hrun⟩:=jl (P:=P) (a:=a) ho hc w;exact .same hR (by simp[hrun,builtin,Builtin.max_,bP5 ha,e1,e2,Builtin.max2]) (.int _ _)
theorem dq8 {c:Call}{x y:Operand}(ho:o.op= .call c)(hc:c.callee= .builtin .min)(ha:c.args.toList=[x,y])(hx:cx x=Za)(hy:cx y=Za)(hr:(AOp.least x y).run e σ=Y (v,σ'))(he:gm μ N e a.tmps)(hR:R B μ σ w):qi P o a w B μ v σ':=by
 simp only[AOp.run]at hr;obtain⟨z,hz,hr⟩:=Option.map_eq_some_iff.1 hr;simp only[Prod.mk.injEq]at hr;obtain⟨rfl,rfl⟩:=hr;have h:=he.ev hx;have h':=he.ev hy;generalize e.ev x=p at*;generalize e.ev y=q at*;cases p<;>cases q<;>simp[cu5]at hz;subst hz;have e1:=h.int_inv;have e2:=h'.int_inv;obtain⟨cs,hrun⟩:=jl (P:=P) (a:=a) ho hc w;exact .same hR (by simp[hrun,builtin,Builtin.min_,bP5 ha,e1,e2,Builtin.min2]) (.int _ _)
theorem cz5 {y d:Nat}{x:Option Operand}{n:Nat}(hx: ∀u,x=Y u->cx u=Za)(h:uH y d (x.map e.ev)=Y n)(he:gm μ N e a.tmps):
  match x with
  |none=>n=d
  |some u=> ∃k i,a.eval u= .int k i/\0<=i/\i<=y/\n=i.toNat:=by
 cases x with
 |none=>simp[uH]at h;exact h.symm
 |some u=>
  have hu:=he.ev (hx u rfl);simp only[cB]at h;unfold uH at h;split at h
  .rename_i k i hk;simp only[Option.some.injEq]at hk;split at h
   .rename_i hc;rw[hk]at hu;exact⟨k,i,hu.int_inv,hc.1,hc.2,by simpa using h.symm⟩
   .cases h
  .cases h
  .rename_i hn;cases hn
theorem ce7 {s:Bool}{ln cap cap':Nat}{lo hi:Option Operand}{h l:Nat}(hlo: ∀u,lo=Y u->cx u=Za)(hhi: ∀u,hi=Y u->cx u=Za)
  (hh:uH cap ln (hi.map e.ev)=Y h) (hl:uH h 0 (lo.map e.ev)=Y l) (hcap:cap<=cap') (he:gm μ N e a.tmps) (w:World):
  (Instr.sliceBounds s ln cap' (lo.map a.eval) (hi.map a.eval) Z).run P w= .ok (l,h,cap') w:=by
 have b1:=cz5 hhi hh he;have b2:=cz5 hlo hl he;unfold Instr.sliceBounds;cases hi with
 |none=>
  simp only at b1;subst b1;cases lo with
  |none=>simp only at b2;subst b2;simp
  |some u=>
   obtain⟨k,i,e1,e2,e3,rfl⟩:=b2;simp[e1,Instr.sliceBound,asIntOf,e2,e3]
 |some uh=>
  obtain⟨kh,ih,f1,f2,f3,rfl⟩:=b1;have f4:ih<=(cap':Int):=by omega
  cases lo with
  |none=>simp only at b2;subst b2;simp[f1,Instr.sliceBound,asIntOf,f2,f4]
  |some u=>
   obtain⟨k,i,e1,e2,e3,rfl⟩:=b2;simp only[cB,e1,f1,Instr.sliceBound,asIntOf,bB,bD,aD];rw[zE ⟨f2,f4⟩];simp only[bD,aD];rw[zE ⟨e2,e3⟩];rfl
theorem bQ5 {y d n:Nat}{x:Option Value}(h:uH y d x=Y n):n<=y∨(x=Z/\n=d):=by
 unfold uH at h;split at h
 .split at h
  .rename_i hc;simp at h;left;omega
  .cases h
 .cases h
 .right;exact⟨rfl,by simpa using h.symm⟩
theorem aj6 {ln cap:Nat}{lo hi:Option Operand}{h l:Nat}(hle:ln<=cap)(hh:uH cap ln (hi.map e.ev)=Y h)(hl:uH h 0 (lo.map e.ev)=Y l):l<=h/\h<=cap:=by
 rcases bQ5 hh with h1|⟨_,h1⟩
 .rcases bQ5 hl with h2|⟨_,h2⟩<;>omega
 .rcases bQ5 hl with h2|⟨_,h2⟩<;>omega
theorem dr0 {t d:TypeId}{n:Nat}{x:Operand}{lo hi:Option Operand}(ho:o.op= .slice t x lo hi Z)(hu:P.underlying t=Y (.slice d))(hn:qu P d=Y n)(hx:cx x=Za)(hlo: ∀u,lo=Y u->cx u=Za)(hhi: ∀u,hi=Y u->cx u=Za)
  (hr:(AOp.slice n x lo hi).run e σ=Y (v,σ')) (he:gm μ N e a.tmps) (hR:R B μ σ w):qi P o a w B μ v σ':=by
 have hv:=he.ev hx;simp only[AOp.run]at hr;split at hr
 .rename_i p ln cap hp;split at hr
  .rename_i hcut;split at hr
   .rename_i h hh;split at hr
    .rename_i l hl;simp only[Option.some.injEq,Prod.mk.injEq]at hr;obtain⟨rfl,rfl⟩:=hr;rw[hp]at hv
     have key: ∀(p':Option Addr) (cap':Nat),a.eval x= .slice p' ln cap'->cap<=cap'->
       (execOp a.eval o).run P w= .ok (.value (.slice (if cap'=l then p' else p'.map (·.add (l*n))) (h-l) (cap'-l))) w:=by
      intro p' cap' hy hle;have hb:=ce7 (P:=P) (s:=Za) hlo hhi hh hl hle he w;simp only[execOp,ho,Instr.sliceAt,bB,dz hu,aD,Instr.slice,hy,cD,hb,sv hn,bD]
     cases p with
     |none=>
      obtain⟨hq,rfl,rfl⟩:=hv.nils_inv;have:=aj6 (aB _) hh hl;refine .same hR (key _ _ hq (aB _)) ?_;have e1:h=0:=by omega
      subst e1;simp only[cD,ite_self];rw[show(0:Nat)-l=0 from by omega];exact .nils
     |some A=>
      generalize hq:a.eval x=q at hv;cases hv with
      |slice h1 h2 h3 h4=>
       rename_i b off cap' g;obtain⟨k1,k2⟩:=aj6 h2 hh hl;refine .same hR (key _ _ hq h3) ?_;by_cases hc:cap'=l
       .rw[zE hc,hc];rw[show l-l=0 from by omega,show cap-l=0 from by omega,show h-l=0 from by omega];exact .slice0 _ h1
       .rw[zF hc];simp only[cB,ce0,wu];rw[dD];refine .slice h1 (by omega) (by omega) ?_;cases lo with
        |none=>
         have:l=0:=by simpa[uH]using hl.symm
         subst this;simpa using h4
        |some u=>
         rw[fB]at hcut;rcases hcut with hcut|hcut
         .have:cap=0:=by simpa using hcut
          have:l=0:=by omega
          subst this;simpa using h4
         unfold az2 at hcut;simp only at hcut;split at hcut
         .rename_i blk hblk;have e1:=(hR.get hblk h1.1).es;have e2:blk.es=n:=by simpa using hcut
          rw[e1,e2]at h4⊢;have:l*n+(cap'-l)*n=cap'*n:=by rw[<-eD];congr 1;omega
          omega
         .cases hcut
      |slice0 A' h1=>
       obtain⟨k1,k2⟩:=aj6 (aB _) hh hl;refine .same hR (key _ _ hq (aB _)) ?_;have e1:l=0:=by omega
       have e2:h=0:=by omega
       subst e1 e2;simp only[cB,if_true];exact .slice0 _ h1
      |sliceX h1 h4=>
       rename_i b off g;obtain⟨k1,k2⟩:=aj6 (aB _) hh hl;refine .same hR (key _ _ hq (aB _)) ?_;by_cases hc:ln=l
       .rw[zE hc,hc];rw[show l-l=0 from by omega,show h-l=0 from by omega];exact .slice0 _ h1
       .rw[zF hc];simp only[cB,ce0,wu];rw[dD];refine .slice h1 (by omega) (by omega) ?_;cases lo with
        |none=>
         have:l=0:=by simpa[uH]using hl.symm
         subst this;simpa using h4
        |some u=>
         rw[fB]at hcut;rcases hcut with hcut|hcut
         .have:ln=0:=by simpa using hcut
          omega
         unfold az2 at hcut;simp only at hcut;split at hcut
         .rename_i blk hblk;have e1:=(hR.get hblk h1.1).es;have e2:blk.es=n:=by simpa using hcut
          rw[e1,e2]at h4⊢;have:l*n+(ln-l)*n=ln*n:=by rw[<-eD];congr 1;omega
          omega
         .cases hcut
      |sliceX0 A' h1=>
       obtain⟨k1,k2⟩:=aj6 (aB _) hh hl;refine .same hR (key _ _ hq (aB _)) ?_;have e1:l=0:=by omega
       have e2:h=0:=by omega
       subst e1 e2;simp only[cB,if_true];exact .slice0 _ h1
    .cases hr
   .cases hr
  .cases hr
 .cases hr
theorem de4 {t d:TypeId}{x hi mx:Operand}(ho:o.op= .slice t x Z (Y hi) (Y mx))(hu:P.underlying t=Y (.slice d)){n:Nat}(hn:qu P d=Y n)(hx:cx x=Za)(hhi:cx hi=Za)(hmx:cx mx=Za)
  (hr:(AOp.sliceX x hi mx).run e σ=Y (v,σ')) (he:gm μ N e a.tmps) (hR:R B μ σ w):qi P o a w B μ v σ':=by
 have hv:=he.ev hx;have hvh:=he.ev hhi;have hvm:=he.ev hmx;simp only[AOp.run]at hr;split at hr
 .rename_i p ln cap hp;split at hr
  .rename_i m hm;split at hr
   .rename_i h hh;split at hr
    .rename_i heq;subst heq
     have hm': ∃km im,e.ev mx= .int km im/\0<=im/\im<=cap/\h=im.toNat:=by
      unfold uH at hm;split at hm
      .rename_i km im hq;injection hq with hq
       split at hm
       .rename_i hc;injection hm with hm
        exact⟨km,im,hq,hc.1,hc.2,hm.symm⟩
       .cases hm
      .cases hm
      .rename_i hq;cases hq
     obtain⟨km,im,q1,q2,q3,q4⟩:=hm'
     have hh': ∃kh ih,e.ev hi= .int kh ih/\0<=ih/\ih<=h/\h=ih.toNat:=by
      unfold uH at hh;split at hh
      .rename_i kh ih hq;injection hq with hq
       split at hh
       .rename_i hc;injection hh with hh
        exact⟨kh,ih,hq,hc.1,hc.2,hh.symm⟩
       .cases hh
      .cases hh
      .rename_i hq;cases hq
     obtain⟨kh,ih,r1,r2,r3,r4⟩:=hh';rw[q1]at hvm;rw[r1]at hvh;have v1:=hvm.int_inv;have v2:=hvh.int_inv;rw[hp]at hv
     have key: ∀(p':Option Addr) (cap':Nat),a.eval x= .slice p' ln cap'->cap<=cap'->
       (execOp a.eval o).run P w= .ok (.value (.slice p' h h)) w:=by
      intro p' cap' hy hle;have e1:ih=(h:Int):=by omega
      have e2:im=(h:Int):=by omega
      subst e1 e2;have hle':h<=cap':=by omega
      have hb:(Instr.sliceBounds Za ln cap' Z (Y (a.eval hi)) (Y (a.eval mx))).run P w= .ok (0,h,h) w:=by
       simp[Instr.sliceBounds,Instr.sliceBound,asIntOf,v1,v2,hle']
      simp only[execOp,ho,Instr.sliceAt,bB,dz hu,aD,Instr.slice,hy,cD,cB,hb,sv hn,bD,Nat.zero_mul,Nat.sub_zero]
      congr 3
      split
      .rfl
      .cases p' with
       |none=>rfl
       |some A=>simp[Addr.add]
     cases p with
     |none=>
      obtain⟨hq,rfl,rfl⟩:=hv.nils_inv;simp only[Option.some.injEq,Prod.mk.injEq]at hr;obtain⟨rfl,rfl⟩:=hr;have h0:h=0:=by omega
      refine .same hR (key _ _ hq (aB _)) ?_;rw[h0];exact .nils
     |some A=>
      obtain⟨b,off,s⟩:=A;cases s with
      |some _=>cases hr
      |none=>
       simp only[Option.some.injEq,Prod.mk.injEq]at hr;obtain⟨rfl,rfl⟩:=hr;generalize hq:a.eval x=q at hv;cases hv with
       |slice h1 h2 h3 h4=>
        rename_i cap' g;refine .same hR (key _ _ hq h3) (.sliceX h1 ?_);have:h*g.es<=cap'*g.es:=Nat.mul_le_mul_right _ (by omega);omega
       |slice0 A' h1=>
        have h0:h=0:=by omega
        refine .same hR (key _ _ hq (aB _)) ?_;rw[h0];exact .sliceX0 _ h1
    .cases hr
   .cases hr
  .cases hr
 .cases hr
theorem cD4 {t d:TypeId}{m n:Nat}{x:Operand}{lo hi:Option Operand}(ho:o.op= .slice t x lo hi Z)(hu:P.underlying t=Y (.array m d))(hn:qu P d=Y n)(hx:cx x=Za)(hlo: ∀u,lo=Y u->cx u=Za)(hhi: ∀u,hi=Y u->cx u=Za)
  (hr:(AOp.sliceArr n m x lo hi).run e σ=Y (v,σ')) (he:gm μ N e a.tmps) (hR:R B μ σ w):qi P o a w B μ v σ':=by
 have hv:=he.ev hx;simp only[AOp.run]at hr;split at hr
 .rename_i b off hp;split at hr
  .rename_i blk hblk;split at hr
   .rename_i hc;split at hr
    .rename_i h hh;split at hr
     .rename_i l hl;split at hr
      .rename_i hlm;simp only[Option.some.injEq,Prod.mk.injEq]at hr;obtain⟨rfl,rfl⟩:=hr;rw[hp]at hv;obtain⟨g,hg,hy⟩:=hv.ptr_inv;obtain⟨k1,k2⟩:=aj6 (aB _) hh hl;have hb:=ce7 (P:=P) (s:=Zb) hlo hhi hh hl (aB _) he w;have hlv:=hR.get hblk hg.1;obtain⟨_,o2,_⟩:=hlv.own hg.2 hc.1;refine .same hR (v':= .slice (Y ⟨g.c,g.o+(off+l*n),Z⟩) (h-l) (m-l)) ?_ (.slice hg (by omega) (aB _) ?_)
       .simp only[execOp,ho,Instr.sliceAt,bB,dz hu,aD,hy,Instr.sureAddr,cD,hb,sv hn,bD];rw[zF (by omega),wu,dD]
       .rw[hlv.es,hc.2.1];have:l*n+(m-l)*n=m*n:=by rw[<-eD];congr 1;omega
        omega
      .cases hr
     .cases hr
    .cases hr
   .cases hr
  .cases hr
 .cases hr
theorem cs6 {t d:TypeId}{n by_:Nat}{z:List Value}{x y:Operand}(ho:o.op= .makeSlice t x y)(hu:P.underlying t=Y (.slice d))(hn:qu P d=Y n)(hb:cz6 P d=Y by_)(hz:vp P d=Y z)(hx:cx x=Za)(hy:cx y=Za)
  (hzn:z.length=n) (h0:0<n) (hr:(AOp.makeSlice n by_ z x y).run e σ=Y (v,σ')) (he:gm μ N e a.tmps) (hR:R B μ σ w):qi P o a w B μ v σ':=by
 have h1:=he.ev hx;have h2:=he.ev hy;obtain⟨z',e1,e2,e3⟩:=tf hz;simp only[AOp.run]at hr;split at hr
 .rename_i k l k' c hl hc;split at hr
  .rename_i hcond;obtain⟨c1,c2,c3,c4⟩:=hcond;simp only[Option.some.injEq,Prod.mk.injEq]at hr;obtain⟨rfl,rfl⟩:=hr;rw[hl]at h1;rw[hc]at h2;have v1:=h1.int_inv;have v2:=h2.int_inv;obtain⟨i,hi,hib⟩:=Option.map_eq_some_iff.1 hb;have w1:IntKind.i64.wrap l=l:=IntWalk.i64_in _ (by omega);have w2:IntKind.i64.wrap c=c:=IntWalk.i64_in _ (by omega);have hzs:z'.cells.size=n:=by rw[<-hzn,<-e2];simp[cellsOf]
   have hzl:z'.cells.toList=z:=e2;have hlen:(di z c.toNat).toArray.size=c.toNat*n:=by simp[aj5,hzn]
   refine .new hR (di z c.toNat).toArray d (di z c.toNat) n (.slice (Y ⟨w.heap.size,0,Z⟩) l.toNat c.toNat) ?_ ?_ (λh=>VR.slice (o:=0) h (by omega) (aB _) (by rw[hlen];simp))
   .simpa using VR.plainCells (bb8 e3 _)
   .have ht: ¬((by_:Int)*c > 281474976710656):=by omega
    have hinfo: ∀w:World,(typeInfo d).run P w= .ok i w:=λw=>by simp[typeInfo,hi]
    simp only[execOp,ho,Instr.makeSlice,bB,dz hu,aD,v1,v2,asInt,asIntOf,bD,hinfo,hib,w1,w2]
    have t1:(Zc (c<0)||Zc ((by_:Int)*c > 2 ^ 48))=Zb:=by
     simp;omega
    have t2:(Zc (l<0))=Zb:=by simp;omega
    have t3:(Zc (l > c))=Zb:=by simp;omega
    simp only[t1,t2,t3,Bool.or_false,Bool.false_eq_true,if_false,bB,run_askRoom,aD,sv hn];by_cases hcn:c.toNat*n=0
    .have hc0:c.toNat=0:=by
      rcases Nat.mul_eq_zero.1 hcn with h|h
      .exact h
      .omega
     have:(di z c.toNat)=[]:=by rw[hc0];rfl
     rw[zE hcn,this,hcn];simp[newRow,show Array.range 0= #[]from rfl]
    .rw[zF hcn]
     have hcc:(Array.range (c.toNat*n)).map (λi=>z'.cells[i % z'.cells.size]!)=(di z c.toNat).toArray:=by
      rw[<-hzl,<-bX2 _ _ (by omega),hzs]
     simp only[bB,e1,bD,aD,hcc];simp[newRow]
  .cases hr
 .cases hr
end
end
section
open Bool renaming false_eq_true -> eD
open Builtin renaming firstCells -> aB, zeroCells -> bD, append_ -> iA, lenOf -> iB
open List renaming length_append -> dB, map_cons -> fB, map_nil -> fD, map_toArray -> gB, take_left -> iC, getElem?_drop -> iE, getElem?_take -> iF, append_assoc -> iG, getElem?_eq_getElem -> iH, getElem?_eq_none -> iI
open Nat renaming le_refl -> cB, add_mul -> dD, zero_add -> gD, mul_le_mul_right -> iD
open Result renaming andThen_ok -> aD
open Sem renaming run_bind -> bB, run_pure -> cD
open Go.RowKit
section
variable {P:Program} {o:Oper} {a:Act} {w w':World} {B:Base P} {N:Nat} {μ:Mu} {e:cb} {σ σ':Hp} {v:Value}
theorem bU6 {x:Blk}{o:Nat}{cs:List Value}(h:vk x o 0=Y cs):cs=[]:=by
 unfold vk at h;split at h
 .simpa using h.symm
 .cases h
theorem bk3 {es n ln:Nat}{x x':Value}{cs:List Value}(hl:bi9 x=Y ln)(hle:n<=ln)(h:σ.slice es x n=Y cs)(hR:R B μ σ w)(hx:VR μ x x'):
  ∃arr:Array Value,(∀w':World,w'.heap=w.heap->(aB es n x').run P w'= .ok arr w')/\F2 (VR μ) cs arr.toList:=by
 unfold Hp.slice at h;split at h
 .rename_i b off l c;simp[bi9]at hl;subst hl;split at h
  .rename_i hn0;injection h with h
   subst h;subst hn0;rcases hx.slice_inv with⟨g,c',hg,_,_,_,rfl⟩|⟨rfl,rfl,A',rfl,_⟩
   .exact⟨#[],λ_ _=>by simp[aB,loadCells,loadCellsFrom], .nil⟩
   .exact⟨#[],λ_ _=>by simp[aB,loadCells,loadCellsFrom], .nil⟩
  split at h
  .rename_i blk hblk;rcases hx.slice_inv with⟨g,c',hg,_,_,_,rfl⟩|⟨rfl,rfl,A',rfl,_⟩
   .obtain⟨cs',h1,h2⟩:=hR.reads hblk hg h;exact⟨cs'.toArray,λw' hw'=>by simp[aB,h1 P w' hw'],h2⟩
   .have:n=0:=by omega
    subst this;rw[Nat.zero_mul]at h;rw[bU6 h];exact⟨#[],λ_ _=>by simp[aB,loadCells,loadCellsFrom], .nil⟩
  .cases h
 .obtain⟨rfl,_,_⟩:=hx.nils_inv;split at h
  .injection h with h
   subst h;exact⟨#[],λ_ _=>by simp[aB], .nil⟩
  .cases h
 .rename_i s;split at h
  case isFalse=>cases h
  injection h with h
  subst h;obtain rfl:=hx.string_inv;refine⟨_,λ_ _=>by simp only[aB];rfl, ?_⟩;simp only[Array.toList_map]
  exact F2.same _ λu hu=>by
   simp only[List.mem_map]at hu;obtain⟨c,_,rfl⟩:=hu;exact .int _ _
 .cases h
theorem bF2 {x y:Blk}{off:Nat}{vs:List Value}(h:af2 x off vs=Y y):x.own=Za/\off+vs.length<=x.cells.length/\(∀v∈vs,one v=Za)/\y=⟨px x.cells off vs,x.own,x.es⟩:=by
 unfold af2 at h;split at h
 .rename_i hc;injection h with h
  exact⟨hc.1,hc.2.1,λv hv=>List.all_eq_true.1 hc.2.2 v hv,h.symm⟩
 .cases h
theorem dF3 {c:Call}{x y:Operand}{t d:TypeId}{ts:List TypeId}{n:Nat}(ho:o.op= .call c)(hc:c.callee= .builtin .copy)(ha:c.args.toList=[x,y])(ht:c.argTypes.toList=t::ts)(hu:P.underlying t=Y (.slice d))(hn:qu P d=Y n)
  (hx:cx x=Za) (hy:cx y=Za) (hr:(AOp.copy n x y).run e σ=Y (v,σ')) (he:gm μ N e a.tmps) (hR:R B μ σ w):qi P o a w B μ v σ':=by
 have hvx:=he.ev hx;have hvy:=he.ev hy;obtain⟨cst,hrun⟩:=jl (P:=P) (a:=a) ho hc w;simp only[AOp.run]at hr;split at hr
 .rename_i p dl dc hp;rw[hp]at hvx
  have hsh: ∃p' dc',a.eval x= .slice p' dl dc':=by
   generalize a.eval x=q at hvx;cases hvx<;>exact⟨_,_,rfl⟩
  obtain⟨p',dc',hq⟩:=hsh;split at hr
  .rename_i ln hln;have hln':=cV0 hln hvy
   have hlr:(iB (a.eval y)).run P w= .ok ln w:=by
    generalize a.eval y=q at*;cases q<;>simp[bi9]at hln'<;>simp[iB,hln']
   split at hr
   .rename_i new hnew;obtain⟨arr,f1,f2⟩:=bk3 (P:=P) hln (Nat.min_le_left _ _) hnew hR hvy
    have head:(execOp a.eval o).run P w=((do
      if let Y a:=p' then storeCells a arr.toList
      pure (goInt (Nat.min ln dl)):Sem Value).run P w).andThen λv w=> .ok (.value v) w:=by
     simp only[hrun,builtin,Builtin.copy_,bP5 ha,gB,fB,fD,br4 ht,hq,bB];have e1:(#[Value.slice p' dl dc',a.eval y]:Array Value)[0]?=Y (.slice p' dl dc'):=rfl;have e2:(#[Value.slice p' dl dc',a.eval y]:Array Value)[1]?=Y (a.eval y):=rfl;simp only[e1,e2,bB,dz hu,aD,hlr,sv hn];have f1':(aB n (ln.min dl) (a.eval y)).run P w= .ok arr w:=f1 w rfl;simp only[f1',aD];rfl
    have hstill:new=[]->qi P o a w B μ (.int .i64 (min ln dl:Nat)) σ:=by
     intro hn0;subst hn0
     have:arr= #[]:=by
      cases f2':arr.toList with
      |nil=>simpa using f2'
      |cons _ _=>rw[f2']at f2;cases f2
     subst this;refine .same hR ?_ (.int _ _);rw[head];cases p'<;>simp[storeCells,goInt]<;>rfl
    split at hr
    .rename_i b off;split at hr
     .rename_i hn0;simp only[Option.some.injEq,Prod.mk.injEq]at hr;obtain⟨rfl,rfl⟩:=hr;exact hstill hn0
     .rename_i hn0;split at hr
      .rename_i blk hblk;split at hr
       .rename_i blk' hw;simp only[Option.some.injEq,Prod.mk.injEq]at hr;obtain⟨rfl,rfl⟩:=hr;obtain⟨k1,k2,k3,rfl⟩:=bF2 hw;rw[hq]at hvx;rcases hvx.slice_inv with⟨g,c',hg,_,_,_,hv⟩|⟨rfl,_⟩
        .injection hv with hv1 hv2 hv3
         subst hv1;obtain⟨w',g1,g2,g3⟩:=R.writes _ _ f2 k3 σ w b off 0 blk g hR hblk k1 hg (by omega);refine⟨_,w',μ, .int .i64 (min ln dl:Nat), ?_, .inl rfl,μ.le_refl,g2, .int _ _,g3⟩;rw[head];simp[g1,goInt]
        .exfalso;rw[Nat.min_zero]at hnew;unfold Hp.slice at hnew;split at hnew
         .simp at hnew;exact hn0 hnew
         .simp at hnew;exact hn0 hnew
         .simp at hnew;exact hn0 hnew.2
         .cases hnew
       .cases hr
      .cases hr
    .split at hr
     .rename_i hn0;simp only[Option.some.injEq,Prod.mk.injEq]at hr;obtain⟨rfl,rfl⟩:=hr;exact hstill hn0
     .cases hr
    .cases hr
   .cases hr
  .cases hr
 .cases hr
theorem br3 {arr:Array Value}(h:F2 (VR μ) [] arr.toList):arr= #[]:=by
 cases f2':arr.toList with
 |nil=>simpa using f2'
 |cons _ _=>rw[f2']at h;cases h
theorem cz1 {c:Call}{x y:Operand}{st xt d:TypeId}{n by_:Nat}{z:List Value}(ho:o.op= .call c)(hc:c.callee= .builtin .append)(ha:c.args.toList=[x,y])(ht:c.argTypes.toList=[st,xt])(hu:P.underlying st=Y (.slice d))
  (hxt:(∃q,P.underlying xt=Y (.slice q))∨P.underlying xt=Y .string) (hn:qu P d=Y n) (hb:cz6 P d=Y by_) (hz:vp P d=Y z)
  {p':Option Addr} {sl sc ln:Nat} (hq:a.eval x= .slice p' sl sc) (hln:bi9 (a.eval y)=Y ln) {arr:Array Value} (harr:(aB n ln (a.eval y)).run P w= .ok arr w):
  (sl+ln<=sc->(execOp a.eval o).run P w=((do
    if let Y a:=p' then storeCells (a.add (sl*n)) arr.toList
    pure (.slice p' (sl+ln) sc):Sem Value).run P w).andThen λv w=> .ok (.value v) w)/\
  (sc<sl+ln->(sl+ln)*by_<=140737488355328->sl+ln<=9223372036854775807->∀old:Array Value,(aB n sl (.slice p' sl sc)).run P w.drew= .ok old w.drew->(aB n ln (a.eval y)).run P w.drew= .ok arr w.drew->
   ∃cap,sl+ln<=cap/\∃zz:Value,cellsOf zz=z/\(execOp a.eval o).run P w= .ok (.value (.slice (Y ⟨w.heap.size,0,Z⟩) (sl+ln) cap)) (w.drew.alloc (.cells (old++arr++bD zz.cells (cap-(sl+ln))) d))):=by
 obtain⟨cst,hrun⟩:=jl (P:=P) (a:=a) ho hc w
 have hlr:(iB (a.eval y)).run P w= .ok ln w:=by
  generalize a.eval y=q at*;cases q<;>simp[bi9]at hln<;>simp[iB,hln]
 obtain⟨i,hi,hib⟩:=Option.map_eq_some_iff.1 hb;have hinfo: ∀w:World,(typeInfo d).run P w= .ok i w:=λw=>by simp[typeInfo,hi]
 have e1:(#[Value.slice p' sl sc,a.eval y]:Array Value)[0]?=Y (.slice p' sl sc):=rfl;have e2:(#[Value.slice p' sl sc,a.eval y]:Array Value)[1]?=Y (a.eval y):=rfl;have e3:(#[st,xt]:Array TypeId)[0]?=Y st:=rfl;have e4:(#[st,xt]:Array TypeId)[1]?=Y xt:=rfl;refine⟨λhfit=> ?_,λhgrow hbytes hmax old hold hnew=> ?_⟩
 .rw[hrun];rcases hxt with⟨q,hdd⟩|hdd
  all_goals
   simp only[builtin,iA,bP5 ha,bP5 ht,gB,fB,fD,hq,e1,e2,e3,e4,bB,dz hu,dz hdd,aD,sv hn,cD,eD,if_false,hlr,Bool.not_false,if_true];rw[zE hfit];simp only[bB,harr,aD];rfl
 .obtain⟨zz,z1,z2,z3⟩:=tf hz;refine⟨grownCap w (sl+ln) sc d,grownCap_ge _ _ _ _,zz,z2, ?_⟩;have hfits:=growslice_fits hgrow hbytes;rw[hrun];rcases hxt with⟨q,hdd⟩|hdd
  all_goals
   simp only[builtin,iA,bP5 ha,bP5 ht,gB,fB,fD,hq,e1,e2,e3,e4,bB,dz hu,dz hdd,aD,sv hn,cD,eD,if_false,hlr,Bool.not_false,if_true];rw[zF (by omega)];simp only[bB,hinfo,aD,hib,false_or]
   have h63: ¬(((sl+ln:Nat):Int) > IntKind.i64.max/\by_=0):=by
    have:IntKind.i64.max=9223372036854775807:=by decide
    omega
   rw[zF h63];simp only[bB,hinfo,aD,hib];rw[zF (by omega)];simp only[bB,run_choose,Question.forced,eD,if_false,World.drew_eq,aD,hinfo,run_askRoom,hold,hnew,z1,newRow,run_newObj,cD,World.alloc_eq];rfl
theorem aq3 (z:Array Value)(n:Nat):(bD z n).size=n*z.size:=by simp[bD]
theorem aM6 (σ:Hp)(hR:R B μ σ w):R B μ σ w.drew:=hR.same rfl
theorem dv7 {α:Type}(A M T:List α):(A++(M++T)).take (A.length+M.length)=A++M:=by
 rw[<-iG,<-dB,iC]
theorem bA6 {x:Blk}{o n:Nat}{cs:List Value}(h:vk x o n=Y cs):cs.length=n:=by
 unfold vk at h;split at h
 .injection h with h
  subst h;simp;omega
 .cases h
theorem df3 {es n:Nat}{x:Value}{cs:List Value}(h:σ.slice es x n=Y cs)(hs: ∀s,x= .string s->n<=s.size):cs.length=n*es:=by
 unfold Hp.slice at h;split at h
 .split at h
  .rename_i hn;injection h with h;subst h hn;simp
  split at h
  .exact bA6 h
  .cases h
 .split at h
  .rename_i hn;injection h with h;subst h hn;simp
  .cases h
 .rename_i s;split at h
  case isFalse=>cases h
  rename_i h2;injection h with h
  subst h;have h1:=hs s rfl;subst h2;simp;omega
 .cases h
theorem R.moved (hR:R B μ σ w){b:Nat}{blk:Blk}{g:G}(hblk:σ.m b=Y blk)(hown:blk.own=Za)(hg:μ.at b g){off n:Nat}{cells:List Value}{cur:Array Value}{t:TypeId}
  (hlt:w.heap.size=w'.heap.size) (hnew:w'.heap[g.c]?=Y (.cells cur t (0,0))) (hoth: ∀k,k≠g.c->w'.heap[k]?=w.heap[k]?) (hsz:g.o+g.ext<=cur.size) (hfit:off+cells.length<=g.ext)
  (hc:F2 (VR μ) cells ((cur.toList.drop (g.o+off)).take cells.length)):
  R B (μ.add σ.n ⟨g.c,g.o+off,g.ext-off,n,t,Z⟩) ((σ.set b Z).add ⟨cells,Za,n⟩) w'/\μ.le (μ.add σ.n ⟨g.c,g.o+off,g.ext-off,n,t,Z⟩):=by
 have hf:μ σ.n=Z:=hR.fresh _ (cB _);have hle':μ.le (μ.add σ.n ⟨g.c,g.o+off,g.ext-off,n,t,Z⟩):=Mu.le_add hf;have hl:=hR.get hblk hg.1;obtain⟨o1,o2,_⟩:=hl.own hg.2 hown;have hbn:b≠σ.n:=λe=>by have:=hg.1;rw[e,hf]at this;cases this
 have old: ∀b' x,b'≠σ.n->((σ.set b Z).add ⟨cells,Za,n⟩).m b'=Y x->σ.m b'=Y x/\b'≠b:=by
  intro b' x hb hx;have hb2:b'≠(σ.set b Z).n:=hb;simp only[Hp.add,zF hb2]at hx;simp only[Hp.set]at hx;split at hx
  .cases hx
  .rename_i h;exact⟨hx,h⟩
 have new: ∀x,((σ.set b Z).add ⟨cells,Za,n⟩).m σ.n=Y x->x=⟨cells,Za,n⟩:=by
  intro x hx;have hb2:σ.n=(σ.set b Z).n:=rfl;simp only[Hp.add,zE hb2]at hx;exact(Option.some.inj hx).symm
 refine⟨⟨by rw[<-hlt];exact hR.base,λk hk=>(hoth k (by omega)).trans (hR.old k hk),λb' hb=> ?_,λb' x hx=> ?_,λb1 b2 x x' g1 g2 hx hx' hne ho hg1 hg2=> ?_, ?_⟩,hle'⟩
 .have:σ.n+1<=b':=hb;unfold Mu.add;rw[zF (by omega)];exact hR.fresh b' (by omega)
 .by_cases hb:b'=σ.n
  .subst hb;obtain rfl:=new x hx;refine⟨⟨g.c,g.o+off,g.ext-off,n,t,Z⟩,by simp[Mu.add],⟨by rw[<-hlt];exact hl.lt,rfl,λ_ i v hv=> ?_,λ_ _=>⟨o1,by simp;omega,cur,t,hnew,by simp;omega⟩,λ_ hs=>(by cases hs),λhs=>by cases hs⟩⟩;obtain⟨v',h1,h2⟩:=hc.get i v hv
   have hi:i<cells.length:=by
    rcases Nat.lt_or_ge i cells.length with h3|h3
    .exact h3
    .simp[iI h3]at hv
   refine⟨v', ?_,h2.mono hle'⟩;rw[cell_of_row _ _ _ cur t (0,0) hnew];rw[iF,zE hi,iE]at h1;simpa using h1
  .obtain⟨hx',hbb⟩:=old b' x hb hx;obtain⟨g',h1,h2⟩:=hR.live b' x hx';have hne:g'.c≠g.c:=λe=>hR.inj b b' blk x g g' hblk hx' (λe=>hbb e.symm) hown hg.1 h1 e.symm
   exact⟨g',hle' _ _ h1,(hR.stays hx' h1 (by rw[hlt];exact cB _) g.c (λk hk _=>hoth k hk) hne (λhi hk=>(hR.sep b' x g' hx' h1 hi _ hk b blk g hblk hg.1).1 rfl)).mono hle'⟩
 .by_cases hb:b1=σ.n
  .subst hb;have hb':b2≠σ.n:=λe=>hne e.symm
   have e1:g1.c=g.c:=by simp[Mu.add]at hg1;rw[<-hg1]
   have h2:μ b2=Y g2:=by simpa[Mu.add,hb']using hg2
   obtain⟨hx2,hb2⟩:=old b2 x' hb' hx';rw[e1];exact hR.inj b b2 blk x' g g2 hblk hx2 (λe=>hb2 e.symm) hown hg.1 h2
  .have h1:μ b1=Y g1:=by simpa[Mu.add,hb]using hg1
   obtain⟨hx1,hb1⟩:=old b1 x hb hx;by_cases hb':b2=σ.n
   .subst hb';have e1:g2.c=g.c:=by simp[Mu.add]at hg2;rw[<-hg2]
    rw[e1];exact λe=>hR.inj b b1 blk x g g1 hblk hx1 (λe=>hb1 e.symm) hown hg.1 h1 e.symm
   .have h2:μ b2=Y g2:=by simpa[Mu.add,hb']using hg2
    exact hR.inj b1 b2 x x' g1 g2 hx1 (old _ _ hb' hx').1 hne ho h1 h2
 .refine hR.sep.of (λb' x g' hx hg'=> ?_) (λb' x g' hx hg' hi hl'=> ?_)
  .by_cases hb:b'=σ.n
   .subst hb;have e1:g'=⟨g.c,g.o+off,g.ext-off,n,t,Z⟩:=by simp[Mu.add]at hg';exact hg'.symm
    subst e1;exact .inr ⟨λh0=>(by cases h0),λb1 x1 g1 k h1 h2 h3 h4=>(hR.sep b1 x1 g1 h1 h2 h3 k h4 b blk g hblk hg.1).1⟩
   .exact .inl ⟨x,(old b' x hb hx).1,by simpa[Mu.add,hb]using hg'⟩
  .have hbb:b'≠b:=λe=>by subst e;rw[hg.1]at hg';injection hg' with hg';subst hg';rw[hg.2]at hi;cases hi
   unfold zd;rw[hoth _ (λe=>hR.inj b b' blk x g g' hblk hx (λe=>hbb e.symm) hown hg.1 hg' e.symm)]
theorem bE5 {x:Operand}{d:TypeId}{n by_:Nat}{z:List Value}{p:Option Addr}{sl sc ln:Nat}{new:List Value}{arr:Array Value}(hzn:z.length=n)(f2:F2 (VR μ) new arr.toList)(hlen:new.length=ln*n)
  (hp:e.ev x= .slice p sl sc) (hx:cx x=Za) (hr:sS n by_ σ p sl sc ln new=Y (v,σ')) (he:gm μ N e a.tmps) (hR:R B μ σ w)
  (hhead: ∀{p':Option Addr} {sc':Nat},a.eval x= .slice p' sl sc'->(sl+ln<=sc'->(execOp a.eval o).run P w=((do
    if let Y a:=p' then storeCells (a.add (sl*n)) arr.toList
    pure (.slice p' (sl+ln) sc'):Sem Value).run P w).andThen λv w=> .ok (.value v) w)/\
   (sc'<sl+ln->(sl+ln)*by_<=140737488355328->sl+ln<=9223372036854775807->∀old:Array Value,(aB n sl (.slice p' sl sc')).run P w.drew= .ok old w.drew->
    ∃cap,sl+ln<=cap/\∃zz:Value,cellsOf zz=z/\(execOp a.eval o).run P w= .ok (.value (.slice (Y ⟨w.heap.size,0,Z⟩) (sl+ln) cap)) (w.drew.alloc (.cells (old++arr++bD zz.cells (cap-(sl+ln))) d)))):qi P o a w B μ v σ':=by
 have hvx:=he.ev hx;rw[hp]at hvx;unfold sS at hr;split at hr
 .rename_i hfit;split at hr
  .rename_i b off
   have hcase: ∃p' sc',a.eval x= .slice p' sl sc'/\sc<=sc'/\VR μ (.slice (Y ⟨b,off,Z⟩) (sl+ln) sc) (.slice p' (sl+ln) sc')/\(new≠[]->∃g,μ.at b g/\p'=Y ⟨g.c,g.o+off,Z⟩):=by
    rcases hvx.slice_inv with⟨g,c',hg,h1,h2,h3,hv⟩|⟨h1,h2,A',hv,g0,hg0⟩
    .exact⟨_,c',hv,h2, .slice hg hfit h2 h3,λ_=>⟨g,hg,rfl⟩⟩
    .subst h1 h2;have:ln=0:=by omega
     subst this;exact⟨_,0,hv,cB _, .slice0 _ hg0,λhne=>absurd (List.eq_nil_of_length_eq_zero (by simpa using hlen)) hne⟩
   obtain⟨p',sc',hq,hle,hvr,hwhere⟩:=hcase;obtain⟨head,_⟩:=hhead hq;have head:=head (by omega);split at hr
   .rename_i hn0;simp only[Option.some.injEq,Prod.mk.injEq]at hr;obtain⟨rfl,rfl⟩:=hr;subst hn0;have:=br3 f2;subst this;refine .same hR ?_ hvr;rw[head];cases p'<;>simp[storeCells]
   .rename_i hn0;split at hr
    .rename_i blk hblk;split at hr
     .rename_i blk' hw;simp only[Option.some.injEq,Prod.mk.injEq]at hr;obtain⟨rfl,rfl⟩:=hr;obtain⟨k1,k2,k3,rfl⟩:=bF2 hw;obtain⟨g,hg,rfl⟩:=hwhere hn0;obtain⟨w',g1,g2,g3⟩:=R.writes _ _ f2 k3 σ w b (off+sl*n) 0 blk g hR hblk k1 hg (by omega);refine⟨_,w',μ,_, ?_, .inl rfl,μ.le_refl,g2,hvr,g3⟩;rw[head];simp[wu,Nat.add_assoc];simp[g1]
     .cases hr
    .cases hr
  .split at hr
   .rename_i hn0;obtain⟨hn0,h1,h2,h3⟩:=hn0;simp only[Option.some.injEq,Prod.mk.injEq]at hr;obtain⟨rfl,rfl⟩:=hr;subst h1 h2 h3 hn0;obtain⟨hq,_,_⟩:=hvx.nils_inv;have:=br3 f2;subst this;obtain⟨head,_⟩:=hhead hq;refine .same hR ?_ .nils;rw[head (by omega)];simp
   .cases hr
  .cases hr
 .rename_i hfit;split at hr
  .rename_i hbig;obtain⟨hb1,hb2,hall⟩:=hbig;have hone: ∀u∈new,one u=Za:=λu hu=>List.all_eq_true.1 hall u hu
   split at hr
   .rename_i b off;split at hr
    .rename_i blk hblk;split at hr
     .rename_i hown;split at hr
      .rename_i old hold;simp only[Option.some.injEq,Prod.mk.injEq]at hr;obtain⟨rfl,rfl⟩:=hr;have holdlen:=bA6 hold
       have hcase: ∃p' sc',a.eval x= .slice p' sl sc'/\sc<=sc'/\(∃oa:Array Value,(aB n sl (.slice p' sl sc')).run P w.drew= .ok oa w.drew/\F2 (VR μ) old oa.toList)/\
         (sl+ln<=sc'->∃g,μ.at b g/\p'=Y ⟨g.c,g.o+off,Z⟩/\off+sc'*g.es<=g.ext):=by
        rcases hvx.slice_inv with⟨g,c',hg,h1,h2,h3,hv⟩|⟨h1,h2,A',hv,g0,hg0⟩
        .obtain⟨cs',r1,r2⟩:=(aM6 σ hR).reads hblk hg hold;exact⟨_,c',hv,h2,⟨cs'.toArray,by simp[aB,r1 P w.drew rfl],r2⟩,λ_=>⟨g,hg,rfl,h3⟩⟩
        .subst h1 h2;rw[Nat.zero_mul]at hold;have:=bU6 hold;subst this;exact⟨_,0,hv,cB _,⟨#[],by simp[aB,loadCells,loadCellsFrom], .nil⟩,λh=>absurd h (by omega)⟩
       obtain⟨p',sc',hq,hle,⟨oa,q1,q2⟩,hin⟩:=hcase;by_cases hin':sl+ln<=sc'
       .
        obtain⟨head,_⟩:=hhead hq;have head:=head hin';obtain⟨g,hg,rfl,hext⟩:=hin hin';have hlv:=hR.get hblk hg.1;obtain⟨o1,o2,cur,t,o3,o4⟩:=hlv.own hg.2 hown.1;have hes:g.es=n:=hlv.es.trans hown.2;rw[hes]at hext;have hsum:(sl+ln)*n<=sc'*n:=iD _ hin';rw[dD]at hsum;have harl:arr.toList.length=ln*n:=by rw[<-f2.length,hlen]
        have hone': ∀u∈arr.toList,u.oneCell'=Za:=by
         intro u hu;obtain⟨i,hi,he'⟩:=List.getElem_of_mem hu;obtain⟨u',h1,h2⟩:=f2.get i (new[i]'(by rw[hlen,<-harl];exact hi)) (iH _);rw[iH hi]at h1;injection h1 with h1
         rw[<-he',h1,<-h2.one_iff];exact hone _ (List.getElem_mem _)
        have hst:=run_storeCells_at (P:=P) g.c (g.o+off+sl*n) t arr.toList 0 cur w o3 (by omega) hone';rw[Nat.add_zero]at hst;have hrow:=setRow_heap w g.c cur (cur.toList.take (g.o+off+sl*n)++arr.toList++cur.toList.drop (g.o+off+sl*n+arr.toList.length)).toArray t (0,0) o3
        have hold':F2 (VR μ) old ((cur.toList.drop (g.o+off)).take (sl*n)):=by
         obtain⟨cs',r1,r2⟩:=hR.reads hblk hg hold;refine F2.of_get _ _ (by rw[holdlen];simp;omega) λi u u' hu hu'=> ?_
         have hi:i<sl*n:=by
          rcases Nat.lt_or_ge i (sl*n)with h3|h3
          .exact h3
          .rw[iI (by omega)]at hu;cases hu
         unfold vk at hold;split at hold
         .injection hold with hold
          rw[<-hold,iF,zE hi,iE]at hu;obtain⟨u'',h1,h2⟩:=hlv.cell hg.2 (off+i) u hu;rw[cell_of_row _ _ _ cur t (0,0) o3]at h1;rw[iF,zE hi,iE]at hu'
          have:u'=u'':=by
           have e1:cur[g.o+(off+i)]?=Y u':=by rw[<-Array.getElem?_toList,<-Nat.add_assoc];exact hu'
           rw[e1]at h1;exact Option.some.inj h1
          rw[this];exact h2
         .cases hold
        have hcells:F2 (VR μ) (old++new) (((cur.toList.take (g.o+off+sl*n)++arr.toList++cur.toList.drop (g.o+off+sl*n+arr.toList.length)).toArray.toList.drop (g.o+off)).take (old++new).length):=by
         have:((cur.toList.take (g.o+off+sl*n)++arr.toList++cur.toList.drop (g.o+off+sl*n+arr.toList.length)).toArray.toList.drop (g.o+off)).take (old++new).length=((cur.toList.drop (g.o+off)).take (sl*n))++arr.toList:=by
          rw[dB,holdlen,hlen,iG];rw[List.drop_append_of_le_length (by simp;omega)];rw[List.drop_take,show g.o+off+sl*n-(g.o+off)=sl*n from by omega];have e1:((cur.toList.drop (g.o+off)).take (sl*n)).length=sl*n:=by simp;omega
          have e2:=dv7 ((cur.toList.drop (g.o+off)).take (sl*n)) arr.toList (cur.toList.drop (g.o+off+sl*n+arr.toList.length));rw[e1,harl]at e2;rw[harl];exact e2
         rw[this];exact hold'.append f2
        obtain⟨m1,m2⟩:=R.moved (w':=w.setRow g.c (cur.toList.take (g.o+off+sl*n)++arr.toList++cur.toList.drop (g.o+off+sl*n+arr.toList.length)).toArray) (n:=n) hR hblk hown.1 hg (by simp) hrow (λk hk=>setRow_other _ _ _ _ hk) (by simp;omega) (by rw[dB,holdlen,hlen];omega) hcells;refine⟨_,_,_,_, ?_, .inl rfl,m2,m1, .slice (o:=0) (g:=⟨g.c,g.o+off,g.ext-off,n,t,Z⟩) ⟨by simp[Mu.add],rfl⟩ (cB _) hin' (by simp;omega), ?_⟩
        .rw[head];simp only[wu];simp only[bB,hst,aD,cD];rfl
        .refine⟨rfl,rfl,rfl,by simp,λk hk=>setRow_other _ _ _ _ (by omega)⟩
       .
        obtain⟨_,head⟩:=hhead hq;obtain⟨cap,hcap,zz,hzz,hrun⟩:=head (by omega) hb1 hb2 oa q1;have hdrew:=aM6 σ hR;have hzs:zz.cells.size=n:=by rw[<-hzn,<-hzz];simp[cellsOf]
        have hoal:oa.toList.length=sl*n:=by rw[<-q2.length,holdlen]
        have harl:arr.toList.length=ln*n:=by rw[<-f2.length,hlen]
        have hcs:(oa++arr++bD zz.cells (cap-(sl+ln))).size=cap*n:=by
         have hoas:oa.size=sl*n:=by simpa using hoal
         have hars:arr.size=ln*n:=by simpa using harl
         rw[Array.size_append,Array.size_append,aq3,hzs,hoas,hars,<-dD,<-dD]
         congr 1
         omega
        have hk:=hdrew.kill b
        obtain⟨m1,m2⟩:=hk.add (oa++arr++bD zz.cells (cap-(sl+ln))) d (old++new) n (by rw[dB,holdlen,hlen,hcs,<-dD];exact iD _ hcap) (by
         have:((oa++arr++bD zz.cells (cap-(sl+ln))).toList).take (old++new).length=oa.toList++arr.toList:=by
          rw[dB,holdlen,hlen,<-hoal,<-harl,<-dB];simp only[Array.toList_append];exact iC
         rw[this]
         exact q2.append f2)
        refine⟨_,_,_,_,hrun, .inl rfl,m2,m1, .slice (o:=0) (g:=⟨w.drew.heap.size,0,_,n,_,Z⟩) ⟨by unfold Mu.add;exact zE rfl,rfl⟩ (cB _) hcap (by simp only[gD];rw[hcs];exact cB _), ?_⟩;exact((Below.refl _ _).drew).alloc hR.base _
      .cases hr
     .cases hr
    .cases hr
   .split at hr
    .rename_i hsl;subst hsl;simp only[Option.some.injEq,Prod.mk.injEq]at hr;obtain⟨rfl,rfl⟩:=hr;obtain⟨hq,_,hsc⟩:=hvx.nils_inv;subst hsc;obtain⟨_,head⟩:=hhead hq;obtain⟨cap,hcap,zz,hzz,hrun⟩:=head (by omega) hb1 hb2 #[] (by simp[aB]);rw[gD]at hcap hrun;have hdrew:=aM6 σ hR;have hzs:zz.cells.size=n:=by rw[<-hzn,<-hzz];simp[cellsOf]
     have harl:arr.toList.length=ln*n:=by rw[<-f2.length,hlen]
     have hcs:((#[]:Array Value)++arr++bD zz.cells (cap-ln)).size=cap*n:=by
      have hars:arr.size=ln*n:=by simpa using harl
      rw[Array.size_append,Array.size_append,aq3,hzs,hars,Array.size_empty,gD,<-dD]
      congr 1
      omega
     obtain⟨m1,m2⟩:=hdrew.add ((#[]:Array Value)++arr++bD zz.cells (cap-ln)) d new n (by rw[hlen,hcs];exact iD _ hcap) (by
      have:(((#[]:Array Value)++arr++bD zz.cells (cap-ln)).toList).take new.length=arr.toList:=by
       rw[hlen,<-harl];simp only[Array.toList_append,List.nil_append];exact iC
      rw[this]
      exact f2)
     refine⟨_,_,_,_,hrun, .inl rfl,m2,m1, ?_,((Below.refl _ _).drew).alloc hR.base _⟩;exact .slice (o:=0) (g:=⟨w.drew.heap.size,0,_,n,_,Z⟩) ⟨by unfold Mu.add;exact zE rfl,rfl⟩ (cB _) hcap (by rw[hcs];show 0+cap*n<=cap*n;omega)
    .cases hr
   .
    rename_i b off q
    have hcase: ∃p',a.eval x= .slice p' sl sc/\sl=sc/\(sl≠0->∃g,μ.at b g/\p'=Y ⟨g.c,g.o+off,Z⟩):=by
     generalize hq:a.eval x=q' at hvx;cases hvx with
     |sliceX h1 h2=>exact⟨_,rfl,rfl,λ_=>⟨_,h1,rfl⟩⟩
     |sliceX0 A' h1=>exact⟨_,rfl,rfl,λh=>(h rfl).elim⟩
    obtain⟨p',hq,hsc,hgo⟩:=hcase;have hdrew:=aM6 σ hR
    have hfin: ∀(old:List Value) (oa:Array Value),old.length=sl*n->(aB n sl (.slice p' sl sc)).run P w.drew= .ok oa w.drew->F2 (VR μ) old oa.toList->
      qi P o a w B μ (.slice (Y ⟨σ.n,0,Z⟩) (sl+ln) (sl+ln)) (σ.add ⟨old++new,Za,n⟩):=by
     intro old oa holdlen q1 q2;obtain⟨_,head⟩:=hhead hq;obtain⟨cap,hcap,zz,hzz,hrun⟩:=head (by omega) hb1 hb2 oa q1;have hzs:zz.cells.size=n:=by rw[<-hzn,<-hzz];simp[cellsOf]
     have hoal:oa.toList.length=sl*n:=by rw[<-q2.length,holdlen]
     have harl:arr.toList.length=ln*n:=by rw[<-f2.length,hlen]
     have hcs:(oa++arr++bD zz.cells (cap-(sl+ln))).size=cap*n:=by
      have hoas:oa.size=sl*n:=by simpa using hoal
      have hars:arr.size=ln*n:=by simpa using harl
      rw[Array.size_append,Array.size_append,aq3,hzs,hoas,hars,<-dD,<-dD]
      congr 1
      omega
     obtain⟨m1,m2⟩:=hdrew.add (oa++arr++bD zz.cells (cap-(sl+ln))) d (old++new) n (by rw[dB,holdlen,hlen,hcs,<-dD];exact iD _ hcap) (by
      have:((oa++arr++bD zz.cells (cap-(sl+ln))).toList).take (old++new).length=oa.toList++arr.toList:=by
       rw[dB,holdlen,hlen,<-hoal,<-harl,<-dB];simp only[Array.toList_append];exact iC
      rw[this]
      exact q2.append f2)
     refine⟨_,_,_,_,hrun, .inl rfl,m2,m1, .slice (o:=0) (g:=⟨w.drew.heap.size,0,_,n,_,Z⟩) ⟨by unfold Mu.add;exact zE rfl,rfl⟩ (cB _) hcap (by simp only[gD];rw[hcs];exact cB _), ?_⟩;exact((Below.refl _ _).drew).alloc hR.base _
    split at hr
    .rename_i hsl;simp only[Option.some.injEq,Prod.mk.injEq]at hr;obtain⟨rfl,rfl⟩:=hr;have:=hfin [] #[] (by rw[hsl];simp) (by rw[hsl];cases p'<;>simp[aB,loadCells,loadCellsFrom]) .nil;rw[hsl,gD]at this;exact this
    .rename_i hsl;split at hr
     .rename_i blk hblk;split at hr
      .split at hr
       .rename_i old hold;simp only[Option.some.injEq,Prod.mk.injEq]at hr;obtain⟨rfl,rfl⟩:=hr;obtain⟨g,hg,rfl⟩:=hgo hsl;obtain⟨cs',r1,r2⟩:=hdrew.reads hblk hg hold;exact hfin old cs'.toArray (bA6 hold) (by simp[aB,r1 P w.drew rfl]) r2
       .cases hr
      .cases hr
     .cases hr
  .cases hr
theorem ch5 {c:Call}{x y:Operand}{st xt d:TypeId}{n by_:Nat}{z:List Value}(ho:o.op= .call c)(hc:c.callee= .builtin .append)(ha:c.args.toList=[x,y])(ht:c.argTypes.toList=[st,xt])(hu:P.underlying st=Y (.slice d))
  (hxt:(∃q,P.underlying xt=Y (.slice q))∨P.underlying xt=Y .string) (hn:qu P d=Y n) (hb:cz6 P d=Y by_) (hz:vp P d=Y z) (hzn:z.length=n)
  (hx:cx x=Za) (hy:cx y=Za) (hr:(AOp.append n by_ x y).run e σ=Y (v,σ')) (he:gm μ N e a.tmps) (hR:R B μ σ w):qi P o a w B μ v σ':=by
 have hvy:=he.ev hy;simp only[AOp.run]at hr;split at hr
 .rename_i p sl sc hp;split at hr
  .rename_i ln hln;have hln':=cV0 hln hvy;split at hr
   .rename_i new hnew;obtain⟨arr,f0,f2⟩:=bk3 (P:=P) hln (cB _) hnew hR hvy;have f1:=f0 w rfl;have f1d:=f0 w.drew rfl;have hxt':=hxt
    have hlen:new.length=ln*n:=df3 hnew λs hs=>by
     rw[hs]at hln;simp[bi9]at hln;omega
    exact bE5 hzn f2 hlen hp hx hr he hR λhq=>by
     obtain⟨h1,h2⟩:=cz1 ho hc ha ht hu hxt' hn hb hz hq hln' f1;exact⟨h1,λq1 q2 q3 old q4=>h2 q1 q2 q3 old q4 f1d⟩
   .cases hr
  .cases hr
 .cases hr
theorem cp4 {c:Call}{x y:Operand}{st xt d:TypeId}{n by_:Nat}{z:List Value}(ho:o.op= .call c)(hc:c.callee= .builtin .append)(ha:c.args.toList=[x,y])(ht:c.argTypes.toList=[st,xt])(hu:P.underlying st=Y (.slice d))
  (hxt: ∃q,P.underlying xt=Y (.int q)) (hn:qu P d=Y n) (hb:cz6 P d=Y by_) (hz:vp P d=Y z) (hzn:z.length=n) (h0:0<n)
  {p':Option Addr} {sl sc:Nat} {k:IntKind} {l:Int} (hq:a.eval x= .slice p' sl sc) (hl:a.eval y= .int k l) (l0:0<=l) (l1:l<=9223372036854775807) (l2:l*by_<=281474976710656):
  (sl+l.toNat<=sc->(execOp a.eval o).run P w=((do
    if let Y a:=p' then storeCells (a.add (sl*n)) (di z l.toNat).toArray.toList
    pure (.slice p' (sl+l.toNat) sc):Sem Value).run P w).andThen λv w=> .ok (.value v) w)/\
  (sc<sl+l.toNat->(sl+l.toNat)*by_<=140737488355328->sl+l.toNat<=9223372036854775807->∀old:Array Value,(aB n sl (.slice p' sl sc)).run P w.drew= .ok old w.drew->
   ∃cap,sl+l.toNat<=cap/\∃zz:Value,cellsOf zz=z/\(execOp a.eval o).run P w= .ok (.value (.slice (Y ⟨w.heap.size,0,Z⟩) (sl+l.toNat) cap)) (w.drew.alloc (.cells (old++(di z l.toNat).toArray++bD zz.cells (cap-(sl+l.toNat))) d))):=by
 obtain⟨cst,hrun⟩:=jl (P:=P) (a:=a) ho hc w;obtain⟨i,hi,hib⟩:=Option.map_eq_some_iff.1 hb;have hinfo: ∀w:World,(typeInfo d).run P w= .ok i w:=λw=>by simp[typeInfo,hi]
 have e1:(#[Value.slice p' sl sc,Value.int k l]:Array Value)[0]?=Y (.slice p' sl sc):=rfl;have e2:(#[Value.slice p' sl sc,Value.int k l]:Array Value)[1]?=Y (.int k l):=rfl;have e3:(#[st,xt]:Array TypeId)[0]?=Y st:=rfl;have e4:(#[st,xt]:Array TypeId)[1]?=Y xt:=rfl;obtain⟨zz,z1,z2,z3⟩:=tf hz;obtain⟨q,hdd⟩:=hxt;have w1:IntKind.i64.wrap l=l:=IntWalk.i64_in _ (by omega);have hzs:zz.cells.size=n:=by rw[<-hzn,<-z2];simp[cellsOf]
 have hzl:zz.cells.toList=z:=z2
 have happ: ∀w:World,((if l.toNat*n=0 then pure #[]else do pure (bD (<-zeroValue d).cells l.toNat)):Sem (Array Value)).run P w= .ok (di z l.toNat).toArray w:=by
  intro w;by_cases hcn:l.toNat*n=0
  .have hc0:l.toNat=0:=by
    rcases Nat.mul_eq_zero.1 hcn with h|h
    .exact h
    .omega
   have:(di z l.toNat)=[]:=by rw[hc0];rfl
   rw[zE hcn,this];simp
  .rw[zF hcn]
   have hcc:bD zz.cells l.toNat=(di z l.toNat).toArray:=by
    unfold bD;rw[<-hzl,<-bX2 _ _ (by omega)]
   simp only[bB,z1,cD,aD,hcc]
 refine⟨λhfit=> ?_,λhgrow hbytes hmax old hold=> ?_⟩
 .rw[hrun];simp only[builtin,iA,bP5 ha,bP5 ht,gB,fB,fD,hq,hl,e1,e2,e3,e4,bB,dz hu,dz hdd,aD,sv hn,cD,eD,if_false,asInt,asIntOf,w1,Bool.not_true,if_true];rw[zF (by omega)];simp only[bB,hinfo,aD,hib];rw[zF (by omega)];simp only[bB,cD,aD];rw[zE hfit];simp only[bB,happ,aD];rfl
 .refine⟨grownCap w (sl+l.toNat) sc d,grownCap_ge _ _ _ _,zz,z2, ?_⟩;have hfits:=growslice_fits hgrow hbytes;rw[hrun];simp only[builtin,iA,bP5 ha,bP5 ht,gB,fB,fD,hq,hl,e1,e2,e3,e4,bB,dz hu,dz hdd,aD,sv hn,cD,eD,if_false,asInt,asIntOf,w1,Bool.not_true,if_true];rw[zF (by omega)];simp only[bB,hinfo,aD,hib];rw[zF (by omega)];simp only[bB,cD,aD];rw[zF (by omega)];simp only[bB,hinfo,aD,true_or,and_true]
  have h63: ¬((sl+l.toNat:Nat):Int) > IntKind.i64.max:=by
   have:IntKind.i64.max=9223372036854775807:=by decide
   omega
  rw[zF h63];simp only[bB,hinfo,aD,hib];rw[zF (by omega)];simp only[bB,run_choose,Question.forced,eD,if_false,World.drew_eq,aD,hinfo,run_askRoom,hold,happ,z1,newRow,run_newObj,cD,World.alloc_eq];rfl
theorem cO7 {c:Call}{x y:Operand}{st xt d:TypeId}{n by_:Nat}{z:List Value}(ho:o.op= .call c)(hc:c.callee= .builtin .append)(ha:c.args.toList=[x,y])(ht:c.argTypes.toList=[st,xt])(hu:P.underlying st=Y (.slice d))
  (hxt: ∃q,P.underlying xt=Y (.int q)) (hn:qu P d=Y n) (hb:cz6 P d=Y by_) (hz:vp P d=Y z) (hzn:z.length=n) (h0:0<n)
  (hx:cx x=Za) (hy:cx y=Za) (hr:(AOp.appendZ n by_ z x y).run e σ=Y (v,σ')) (he:gm μ N e a.tmps) (hR:R B μ σ w):qi P o a w B μ v σ':=by
 have hvy:=he.ev hy;obtain⟨zz,z1,z2,z3⟩:=tf hz;simp only[AOp.run]at hr;split at hr
 .rename_i p sl sc k l hp hq;split at hr
  .rename_i hcond;rw[hq]at hvy;have v1:=hvy.int_inv;refine bE5 (d:=d) (arr:=(di z l.toNat).toArray) hzn (by simpa using VR.plainCells (bb8 z3 _)) (by simp[aj5,hzn]) hp hx hr he hR λhq'=> ?_
   exact cp4 ho hc ha ht hu hxt hn hb hz hzn h0 hq' v1 hcond.1 hcond.2.1 hcond.2.2
  .cases hr
 .cases hr
end
end
end Go.Ab
