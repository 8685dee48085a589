/- A part of the proofs of this claim: what functions of the program answer on an abstract machine, and plain laws. No condition. -/
import Derived.Calls
import Derived.RowKit
import Derived.WalkKit
import Derived.Lib.ItoaMem
import Derived.Lib.FrozenHead
set_option linter.unusedVariables false
set_option linter.unusedSimpArgs false
set_option linter.unusedSectionVars false
namespace Go.Ab
universe uU
theorem zA {p:Prop}{i:Decidable p}(h:¬p):@decide p i=false:=decide_eq_false h
theorem zB {p:Prop}{i:Decidable p}(h:p):@decide p i=true:=decide_eq_true h
theorem zC {α:Sort uU}{a b:α}:cond true a b=a:=rfl
theorem zD {α:Sort uU}{a b:α}:cond false a b=b:=rfl
theorem zE {c:Prop}{h:Decidable c}(hc:c){α:Sort uU}{t e:α}:ite c t e=t:=if_pos hc
theorem zF {c:Prop}{h:Decidable c}(hc:¬c){α:Sort uU}{t e:α}:ite c t e=e:=if_neg hc
theorem zG {α β:Type uU}{a:α}{f:α→Option β}:(some a).bind f=f a:=rfl
section
open List renaming range → aA, replicate → aB
structure Blk where
 cells:List Value
 own:Bool
 es:Nat
structure Hp where
 m:Nat→Option Blk
 n:Nat
def Hp.set (σ:Hp)(b:Nat)(x:Option Blk):Hp:={m:=fun i=>if i=b then x else σ.m i,n:=σ.n}
def Hp.add (σ:Hp)(x:Blk):Hp:={m:=fun i=>if i=σ.n then some x else σ.m i,n:=σ.n+1}
abbrev br :=Nat→Value
def br.put (e:br)(d:Nat)(v:Value):br:=fun i=>if i=d then v else e i
def br.putO (e:br)(d:Option Nat)(v:Value):br:=match d with
 |some d=>e.put d v
 |none=>e
def br.of (args:List Value):br:=fun i=>(args[i]?).getD undef
def br.ev (e:br):Operand→Value
 | .tmp t=>e t
 | .const v=>v
 | .global _=>undef
 | .func f=> .func (.func f) #[] #[]
inductive AExit where
 |normal
 |exit (id:Nat)
 |ret
inductive AOp where
 |move (x:Operand)
 |pick (c a b:Operand)
 |alloc (es:Nat) (zero:List Value)
 |box (es:Nat) (x:Operand)
 |build (zero:List Value) (parts:List (Nat×Nat×Operand))
 |buildSlice (es len:Nat) (zero:List Value) (parts:List (Nat×Nat×Operand))
 |load (x:Operand)
 |loadN (n:Nat) (x:Operand)
 |store (n:Nat) (a x:Operand)
 |nilCheck (x:Operand)
 |bin (op:BinOp) (x y:Operand)
 |eqv (kd:Nat) (neg:Bool) (x y:Operand)
 |eqCells (neg:Bool) (ks:List Nat) (x y:Operand)
 |un (op:UnOp) (x:Operand)
 |conv (k:IntKind) (x:Operand)
 |mkFunc (f:FuncId) (first captured:List Operand)
 |makeSlice (es bytes:Nat) (zero:List Value) (l c:Operand)
 |slice (es:Nat) (x:Operand) (lo hi:Option Operand)
 |sliceStr (x:Operand) (lo hi:Option Operand)
 |sliceArr (es n:Nat) (x:Operand) (lo hi:Option Operand)
 |off (n:Nat) (x:Operand)
 |idx (es:Nat) (x i:Operand)
 |idxA (len es:Nat) (x i:Operand)
 |fieldV (off n:Nat) (agg:Bool) (x:Operand)
 |indexV (len es:Nat) (agg:Bool) (x i:Operand)
 |indexS (x i:Operand)
 |extract (x:Operand) (i:Nat)
 |call (f:FuncId) (args:List Operand)
 |callv (f:Operand) (args:List Operand)
 |append (es bytes:Nat) (s x:Operand)
 |appendZ (es bytes:Nat) (zero:List Value) (s x:Operand)
 |copy (es:Nat) (d s:Operand)
 |len (x:Operand)
 |lenS (x:Operand)
 |lenC (n:Nat)
 |most (x y:Operand)
 |least (x y:Operand)
 |stuck
 |capN (x:Operand)
 |sliceX (x hi mx:Operand)
 |range (x:Operand)
 |next (x:Operand)
 |encR (x:Operand)
 |strOf (x:Operand)
 |newB
 |strOfR (x:Operand)
 |runesOf (x:Operand)
 |mark (x:Operand)
 |makeM (k:IntKind)
 |lookM (k:IntKind) (ok:Bool) (x i:Operand)
 |updM (k:IntKind) (x i v:Operand)
 |lenM (k:IntKind) (x:Operand)
structure AOper where
 dst:Option Nat
 op:AOp
 guard:Option (Nat×Bool)
structure SItem where
 idx:Nat
 o:AOper
 mover:Bool
 keep:Bool
 chks:List Nat
inductive AC where
 |skip
 |region (ops:List AOper)
 |draw (ops:List (AOper×List Nat))
 |sched (its:List SItem)
 |seq (a b:AC)
 |cond (c:Operand) (thn els:AC)
 |block (id:Nat) (body:AC)
 |loop (body:AC)
 |exit (id:Nat)
 |ret
inductive ARes where
 |tmp (t:Nat)
 |cell (t:Nat)
 |cellN (t n:Nat)
structure AFn where
 ntmps:Nat
 results:List ARes
 body:AC
def MQ :IntKind→Nat
 | .i8=>1000000| .i16=>1000001| .i32=>1000002| .i64=>1000003| .u8=>1000004| .u16=>1000005| .u32=>1000006| .u64=>1000007
def wd (f:Nat):Bool:=Nat.ble 1000000 f
def yt :Fn→Bool
 | .func f=>wd f
 |_=>false
def LN (k:IntKind)(b:Nat):Value:= .func (.func (MQ k)) #[] #[.pointer (some ⟨b,0,none⟩)]
def AG (k:IntKind):Value→Option Nat
 | .func (.func f) a c=>if f=MQ k∧a.toList=[]then(match c.toList with
  |[.pointer (some ⟨b,0,none⟩)]=>some b
  |_=>none)else none
 |_=>none
def ak (s:ByteArray):List Int:=s.data.toList.map fun b=>(b.toNat:Int)
def dp :List (List Int×Int)→List Int
 |[]=>[]
 |(k,v)::r=>k.flatMap (fun b=>[1,b])++0::(aB v.toNat 1++0::(aB (-v).toNat 1++0::dp r))
def ql :List Int→List Int×List Int
 |x::b::r=>if x=1 then(b::(ql r).1,(ql r).2)else([],b::r)
 |[_]=>([],[])
 |[]=>([],[])
def lW :List Int→Nat×List Int
 |x::r=>if x=1 then((lW r).1+1,(lW r).2)else(0,r)
 |[]=>(0,[])
def EG :Nat→List Int→List (List Int×Int)
 |0,_=>[]
 |_+1,[]=>[]
 |n+1,x::l=>((ql (x::l)).1,((lW (ql (x::l)).2).1:Int)-((lW (lW (ql (x::l)).2).2).1:Int))::EG n (lW (lW (ql (x::l)).2).2).2
def sN (k:List Int)(v:Int):List (List Int×Int)→List (List Int×Int)
 |[]=>[(k,v)]
 |p::r=>if p.1=k then(p.1,v)::r else p::sN k v r
def AH (l:List Int):List (List Int×Int):=EG l.length l
def fV (l k:List Int):Option Int:=((AH l).find? fun p=>decide (p.1=k)).map (·.2)
def lJ (l k:List Int)(v:Int):List Int:=dp (sN k v (AH l))
def rB (l:List Int):Nat:=(AH l).length
abbrev Fu :=List Value→Hp→(Value→Hp→Prop)→Prop
abbrev dn :=FuncId→Fu
def one :Value→Bool
 | .agg _| .tuple _=>false
 |_=>true
def cellsOf (v:Value):List Value:=v.cells.toList
def iN (x:Blk)(o n:Nat):Option (List Value):=if o+n≤x.cells.length then some ((x.cells.drop o).take n)else none
def eL (cells:List Value)(o:Nat):List Value→List Value
 |[]=>cells
 |v::vs=>eL (cells.set o v) (o+1) vs
def qO (x:Blk)(o:Nat)(vs:List Value):Option Blk:=
 if x.own=true∧o+vs.length≤x.cells.length∧vs.all one=true then some {cells:=eL x.cells o vs,own:=x.own,es:=x.es}else none
def Hp.slice (σ:Hp)(es:Nat):Value→Nat→Option (List Value)
 | .slice (some ⟨b,o,none⟩) _ _,n=>if n=0 then some []else match σ.m b with
  |some x=>iN x o (n*es)
  |none=>none
 | .slice none _ _,n=>if n=0 then some []else none
 | .string s,n=>if es=1 then some (((s.extract 0 n).data.toList).map fun b=> .int .u8 b.toNat)else none
 |_,_=>none
def tK :Value→Option Nat
 | .slice _ n _=>some n
 | .string s=>some s.size
 |_=>none
def uI (cells:List Value):List (Nat×Nat×Value)→Option (List Value)
 |[]=>some cells
 |(off,size,v)::rest=>
  if(cellsOf v).length=size∧off+size≤cells.length then uI (cells.take off++cellsOf v++cells.drop (off+size)) rest else none
def J0 (op:BinOp)(k:IntKind)(x y:Int):Option Value:=
 match op with
 | .add=>some (.int k (k.wrap (x+y)))
 | .sub=>some (.int k (k.wrap (x-y)))
 | .mul=>some (.int k (k.wrap (x*y)))
 | .quo=>if y=0 then none else some (.int k (k.wrap (x.tdiv y)))
 | .rem=>if y=0 then none else some (.int k (x.tmod y))
 | .and=>some (.int k (k.wrap (BitVec.ofInt k.bits x&&& BitVec.ofInt k.bits y).toNat))
 | .or=>some (.int k (k.wrap (BitVec.ofInt k.bits x|||BitVec.ofInt k.bits y).toNat))
 | .xor=>some (.int k (k.wrap (BitVec.ofInt k.bits x ^^^ BitVec.ofInt k.bits y).toNat))
 | .andNot=>some (.int k (k.wrap (BitVec.ofInt k.bits x&&& ~~~BitVec.ofInt k.bits y).toNat))
 | .eql=>some (.bool (x==y))
 | .neq=>some (.bool (x !=y))
 | .lss=>some (.bool (x<y))
 | .leq=>some (.bool (x≤y))
 | .gtr=>some (.bool (x > y))
 | .geq=>some (.bool (x≥y))
 |_=>none
def Kp (op:BinOp)(x y:ByteArray):Option Value:=
 match op with
 | .add=>if((x.size+y.size:Nat):Int) > IntKind.i64.max then none else some (.string (x++y))
 | .eql=>some (.bool (x.toList==y.toList))
 | .neq=>some (.bool !(x.toList==y.toList))
 | .lss=>some (.bool (Op.bytesLess x.toList y.toList))
 | .leq=>some (.bool (Op.bytesLess x.toList y.toList||x.toList==y.toList))
 | .gtr=>some (.bool !(Op.bytesLess x.toList y.toList||x.toList==y.toList))
 | .geq=>some (.bool !(Op.bytesLess x.toList y.toList))
 |_=>none
def Dk (op:BinOp)(k:IntKind)(x y:Int):Option Value:=
 if y<0 then none else match op with
 | .shl=>some (.int k (k.wrap (x*2 ^ (min y.toNat k.bits))))
 | .shr=>some (.int k (x.fdiv (2 ^ (min y.toNat k.bits))))
 |_=>none
def mn :BinOp→Bool
 | .shl| .shr=>true
 |_=>false
def qG (op:BinOp):Value→Value→Option Value
 | .int k a, .int k' b=>if mn op=true then Dk op k a b else if k=k' then J0 op k a b else none
 | .string a, .string b=>if mn op=true then none else Kp op a b
 |_,_=>none
def G6 :Nat→Value→Value→Option Bool
 |0, .bool a, .bool b=>some (a==b)
 |1, .pointer none, .pointer b=>some b.isNone
 |1, .pointer (some _), .pointer none=>some false
 |2, .slice none _ _, .slice b _ _=>some b.isNone
 |2, .slice (some _) _ _, .slice none _ _=>some false
 |3, .nilFunc, .nilFunc=>some true
 |3, .nilFunc, .func f _ _=>if yt f then none else some false
 |3, .func f _ _, .nilFunc=>if yt f then none else some false
 |_,_,_=>none
def mZ :Nat→Value→Value→Option Bool
 |0, .bool a, .bool b=>some (a==b)
 |1, .int k a, .int k' b=>if k=k' then some (a==b)else none
 |2, .string a, .string b=>some (a.toList==b.toList)
 |_,_,_=>none
def dT :List Nat→List Value→List Value→Option Bool
 |[],[],[]=>some true
 |k::ks,a::r,b::s=>match mZ k a b with
  |some true=>dT ks r s
  |some false=>some false
  |none=>none
 |_,_,_=>none
def TN :UnOp→Value→Option Value
 | .neg, .int k n=>some (.int k (k.wrap (0-n)))
 | .xor, .int k n=>some (.int k (k.wrap (BitVec.ofInt k.bits (if k.signed then-1 else k.max) ^^^ BitVec.ofInt k.bits n).toNat))
 | .not, .bool b=>some (.bool !b)
 |_,_=>none
def Mt :Value→Option Int
 | .int _ n=>some n
 |_=>none
def ge (y:Nat)(d:Nat):Option Value→Option Nat
 |some (.int _ i)=>if 0≤i∧i≤y then some i.toNat else none
 |some _=>none
 |none=>some d
def Gd :Value→Value→Option Value
 | .int k x, .int _ y=>some (.int k (if y<x then y else x))
 |_,_=>none
def JF :Value→Value→Option Value
 | .int k x, .int _ y=>some (.int k (if y > x then y else x))
 |_,_=>none
def Ei (a:Addr)(n:Nat):Addr:=⟨a.block,a.off+n,none⟩
def qJ (σ:Hp)(es:Nat)(a:Option Addr)(lo:Option Operand):Bool:=match lo,a with
 |none,_=>true
 |_,none=>true
 |some _,some a=>match σ.m a.block with
  |some blk=>blk.es==es
  |none=>false
def co (zero:List Value)(n:Nat):List Value:=(aB n zero).flatten
def fR (es bytes:Nat)(σ:Hp)(a:Option Addr)(sl sc n:Nat)(new:List Value):Option (Value×Hp):=if sl+n≤sc then(match a with
      |some ⟨b,o,none⟩=>if new=[]then some (.slice (some ⟨b,o,none⟩) (sl+n) sc,σ)else match σ.m b with
       |some blk=>match qO blk (o+sl*es) new with
        |some blk'=>some (.slice (some ⟨b,o,none⟩) (sl+n) sc,σ.set b (some blk'))
        |none=>none
       |none=>none
      |none=>if new=[]∧sl=0∧sc=0∧n=0 then some (.slice none 0 0,σ)else none
      |_=>none)
     else if(sl+n)*bytes≤140737488355328∧sl+n≤9223372036854775807∧new.all one=true then(match a with
      |some ⟨b,o,none⟩=>match σ.m b with
       |some blk=>if blk.own=true∧blk.es=es then match iN blk o (sl*es)with
        |some old=>some (.slice (some ⟨σ.n,0,none⟩) (sl+n) (sl+n),(σ.set b none).add ⟨old++new,true,es⟩)
        |none=>none
        else none
       |none=>none
      |none=>if sl=0 then some (.slice (some ⟨σ.n,0,none⟩) n n,σ.add ⟨new,true,es⟩)else none
      |some ⟨b,o,some _⟩=>if sl=0 then some (.slice (some ⟨σ.n,0,none⟩) n n,σ.add ⟨new,true,es⟩)else match σ.m b with
       |some blk=>if blk.es=es then match iN blk o (sl*es)with
        |some old=>some (.slice (some ⟨σ.n,0,none⟩) (sl+n) (sl+n),σ.add ⟨old++new,true,es⟩)
        |none=>none
        else none
       |none=>none)
     else none
def qH :List Value→Option (List Int)
 |[]=>some []
 | .int .u8 n::r=>(qH r).map (n:: ·)
 |_=>none
def vj (l:List Int):ByteArray:=l.foldl (fun r n=>r.push (UInt8.ofNat n.toNat)) ByteArray.empty
def qN :List Value→Option (List Int)
 |[]=>some []
 | .int .i32 n::r=>(qN r).map (n:: ·)
 |_=>none
def JB (l:List Int):ByteArray:=l.foldl (fun r n=>r++Utf8.encode n) ByteArray.empty
def eV (s:ByteArray):List Value:=(Conv.runesFrom s s.size 0 #[]).toList
def J8 (k:IntKind)(ok:Bool)(s key:ByteArray):Value:=if ok then .tuple #[.int k ((fV (ak s) (ak key)).getD 0), .bool (fV (ak s) (ak key)).isSome]else .int k ((fV (ak s) (ak key)).getD 0)
def AOp.run (e:br)(σ:Hp):AOp→Option (Value×Hp)
 | .move x=>some (e.ev x,σ)
 | .pick c a b=>match e.ev c with
  | .bool true=>some (e.ev a,σ)
  | .bool false=>some (e.ev b,σ)
  |_=>none
 | .alloc es zero=>some (.pointer (some ⟨σ.n,0,none⟩),σ.add ⟨zero,true,es⟩)
 | .box es x=>if(cellsOf (e.ev x)).all one then some (.pointer (some ⟨σ.n,0,none⟩),σ.add ⟨cellsOf (e.ev x),true,es⟩)else none
 | .build zero parts=>(uI zero (parts.map fun(o,s,x)=>(o,s,e.ev x))).map fun cs=>(.agg cs.toArray,σ)
 | .buildSlice es ln zero parts=>match uI (co zero ln) (parts.map fun(o,s,x)=>(o,s,e.ev x))with
  |some cs=>if cs.all one then some (.slice (some ⟨σ.n,0,none⟩) ln ln,σ.add ⟨cs,true,es⟩)else none
  |none=>none
 | .load x=>match e.ev x with
  | .pointer (some ⟨b,o,none⟩)=>match σ.m b with
   |some blk=>(blk.cells[o]?).map fun v=>(v,σ)
   |none=>none
  |_=>none
 | .loadN n x=>match e.ev x with
  | .pointer (some ⟨b,o,none⟩)=>match σ.m b with
   |some blk=>(iN blk o n).map fun cs=>(.agg cs.toArray,σ)
   |none=>none
  |_=>none
 | .store n a x=>match e.ev a with
  | .pointer (some ⟨b,o,none⟩)=>if(cellsOf (e.ev x)).length=n then match σ.m b with
   |some blk=>match qO blk o (cellsOf (e.ev x))with
    |some blk'=>some (undef,σ.set b (some blk'))
    |none=>none
   |none=>none
   else none
  |_=>none
 | .nilCheck x=>match e.ev x with
  | .pointer (some a)=>some (.pointer (some a),σ)
  | .func (.func f) first captured=>if wd f then none else some (.func (.func f) first captured,σ)
  |_=>none
 | .bin op x y=>(qG op (e.ev x) (e.ev y)).map fun v=>(v,σ)
 | .eqv kd neg x y=>(G6 kd (e.ev x) (e.ev y)).map fun b=>(.bool (b !=neg),σ)
 | .eqCells neg ks x y=>match e.ev x,e.ev y with
  | .agg a, .agg b=>(dT ks a.toList b.toList).map fun b=>(.bool (b !=neg),σ)
  |_,_=>none
 | .un op x=>(TN op (e.ev x)).map fun v=>(v,σ)
 | .conv k x=>(Mt (e.ev x)).map fun n=>(.int k (k.wrap n),σ)
 | .mkFunc f first captured=>if wd f then none else some (.func (.func f) (first.map e.ev).toArray (captured.map e.ev).toArray,σ)
 | .makeSlice es bytes zero l c=>match e.ev l,e.ev c with
  | .int _ l, .int _ c=>if 0≤l∧l≤c∧bytes*c≤281474976710656∧c≤9223372036854775807 then
    some (.slice (some ⟨σ.n,0,none⟩) l.toNat c.toNat,σ.add ⟨co zero c.toNat,true,es⟩)else none
  |_,_=>none
 | .slice es x lo hi=>match e.ev x with
  | .slice a ln cap=>if(cap==0||qJ σ es a lo)=true then match ge cap ln (hi.map e.ev)with
   |some h=>match ge h 0 (lo.map e.ev)with
    |some l=>some (.slice (a.map (Ei · (l*es))) (h-l) (cap-l),σ)
    |none=>none
   |none=>none else none
  |_=>none
 | .sliceStr x lo hi=>match e.ev x with
  | .string s=>match ge s.size s.size (hi.map e.ev)with
   |some h=>match ge h 0 (lo.map e.ev)with
    |some l=>some (.string (s.extract l h),σ)
    |none=>none
   |none=>none
  |_=>none
 | .sliceArr es n x lo hi=>match e.ev x with
  | .pointer (some ⟨b,o,none⟩)=>match σ.m b with
   |some blk=>if blk.own=true∧blk.es=es∧o+n*es≤blk.cells.length then match ge n n (hi.map e.ev)with
    |some h=>match ge h 0 (lo.map e.ev)with
     |some l=>if l<n then some (.slice (some ⟨b,o+l*es,none⟩) (h-l) (n-l),σ)else none
     |none=>none
    |none=>none else none
   |none=>none
  |_=>none
 | .off n x=>match e.ev x with
  | .pointer (some ⟨b,o,none⟩)=>some (.pointer (some ⟨b,o+n,none⟩),σ)
  |_=>none
 | .idx es x i=>match e.ev x,e.ev i with
  | .slice (some ⟨b,o,none⟩) ln _, .int _ i=>if 0≤i∧i<ln then some (.pointer (some ⟨b,o+i.toNat*es,none⟩),σ)else none
  |_,_=>none
 | .idxA ln es x i=>match e.ev x,e.ev i with
  | .pointer (some ⟨b,o,none⟩), .int _ i=>if 0≤i∧i<ln then some (.pointer (some ⟨b,o+i.toNat*es,none⟩),σ)else none
  |_,_=>none
 | .fieldV fo n agg x=>match e.ev x with
  | .agg cs=>if agg then some (.agg (cs.extract fo (fo+n)),σ)else(cs[fo]?).map fun v=>(v,σ)
  |_=>none
 | .indexV ln es agg x i=>match e.ev x,e.ev i with
  | .agg cs, .int _ i=>if 0≤i∧i<ln then(if agg then some (.agg (cs.extract (i.toNat*es) (i.toNat*es+es)),σ)else(cs[i.toNat*es]?).map fun v=>(v,σ))else none
  |_,_=>none
 | .indexS x i=>match e.ev x,e.ev i with
  | .string s, .int _ i=>if 0≤i then(s[i.toNat]?).map fun b=>(.int .u8 b.toNat,σ)else none
  |_,_=>none
 | .extract x i=>match e.ev x with
  | .tuple vs=>(vs[i]?).map fun v=>(v,σ)
  |_=>none
 | .call _ _| .callv _ _=>none
 | .append es bytes s x=>match e.ev s with
  | .slice a sl sc=>match tK (e.ev x)with
   |some n=>match σ.slice es (e.ev x) n with
    |some new=>fR es bytes σ a sl sc n new
    |none=>none
   |none=>none
  |_=>none
 | .appendZ es bytes zero s x=>match e.ev s,e.ev x with
  | .slice a sl sc, .int _ l=>if 0≤l∧l≤9223372036854775807∧l*bytes≤281474976710656 then fR es bytes σ a sl sc l.toNat (co zero l.toNat)else none
  |_,_=>none
 | .copy es d s=>match e.ev d with
  | .slice a dl _=>match tK (e.ev s)with
   |some n=>match σ.slice es (e.ev s) (min n dl)with
    |some new=>(match a with
     |some ⟨b,o,none⟩=>if new=[]then some (.int .i64 (min n dl:Nat),σ)else match σ.m b with
      |some blk=>match qO blk o new with
       |some blk'=>some (.int .i64 (min n dl:Nat),σ.set b (some blk'))
       |none=>none
      |none=>none
     |none=>if new=[]then some (.int .i64 (min n dl:Nat),σ)else none
     |_=>none)
    |none=>none
   |none=>none
  |_=>none
 | .len x=>match e.ev x with
  | .slice _ n _=>some (.int .i64 n,σ)
  |_=>none
 | .lenS x=>match e.ev x with
  | .string s=>some (.int .i64 s.size,σ)
  |_=>none
 | .lenC n=>some (.int .i64 n,σ)
 | .most x y=>(JF (e.ev x) (e.ev y)).map fun v=>(v,σ)
 | .least x y=>(Gd (e.ev x) (e.ev y)).map fun v=>(v,σ)
 | .stuck=>none
 | .capN x=>match e.ev x with
  | .slice none 0 0=>some (.int .i64 0,σ)
  |_=>none
 | .sliceX x hi mx=>match e.ev x with
  | .slice a _ cap=>match ge cap 0 (some (e.ev mx))with
   |some m=>match ge m 0 (some (e.ev hi))with
    |some h=>if h=m then match a with
     |none=>some (.slice none 0 0,σ)
     |some ⟨b,o,none⟩=>some (.slice (some ⟨b,o,some 0⟩) m m,σ)
     |_=>none
     else none
    |none=>none
   |none=>none
  |_=>none
 | .range x=>match e.ev x with
  | .string s=>some (.iface σ.n (.string s),σ.add ⟨[.int .i64 0],true,1⟩)
  |_=>none
 | .next x=>match e.ev x with
  | .iface b (.string s)=>match σ.m b with
   |some blk=>if blk.own=true then(match blk.cells with
    | .int .i64 p::r=>if 0≤p then(if p.toNat<s.size then
      some (.tuple #[.bool true, .int .i64 p, .int .i32 (Utf8.decode s p.toNat).1],σ.set b (some ⟨.int .i64 ((p.toNat+(Utf8.decode s p.toNat).2:Nat):Int)::r,true,blk.es⟩))
     else some (.tuple #[.bool false],σ))else none
    |_=>none)else none
   |none=>none
  |_=>none
 | .encR x=>(Mt (e.ev x)).map fun n=>(.string (Utf8.encode n),σ)
 | .strOfR x=>match e.ev x with
  | .slice a n c=>match σ.slice 1 (.slice a n c) n with
   |some cs=>(qN cs).map fun l=>(.string (JB l),σ)
   |none=>none
  |_=>none
 | .runesOf x=>match e.ev x with
  | .string s=>if s.size≤70368744177664 then some (.slice (some ⟨σ.n,0,none⟩) (eV s).length (eV s).length,σ.add ⟨eV s,true,1⟩)else none
  |_=>none
 | .mark x=>match e.ev x with
  | .slice (some ⟨b,o,none⟩) n c=>if 0<n then(match σ.m b with
   |some blk=>if blk.own=true then some (.slice (some ⟨b,o,none⟩) n c,σ)else none
   |none=>none)else none
  |_=>none
 | .newB=>some (.iface σ.n .nilFunc,σ.add ⟨[.string ByteArray.empty],true,1⟩)
 | .makeM k=>some (LN k σ.n,σ.add ⟨[.string ByteArray.empty],true,1⟩)
 | .lookM k ok x i=>match AG k (e.ev x),e.ev i with
  |some b, .string key=>match σ.m b with
   |some blk=>(match blk.cells with
    | .string s::_=>some (J8 k ok s key,σ)
    |_=>none)
   |none=>none
  |_,_=>none
 | .updM k x i v=>match AG k (e.ev x),e.ev i,e.ev v with
  |some b, .string key, .int k' n=>if k'=k then(match σ.m b with
   |some blk=>if blk.own=true then(match blk.cells with
    | .string s::r=>some (undef,σ.set b (some ⟨.string (vj (lJ (ak s) (ak key) n))::r,true,blk.es⟩))
    |_=>none)else none
   |none=>none)else none
  |_,_,_=>none
 | .lenM k x=>match AG k (e.ev x)with
  |some b=>match σ.m b with
   |some blk=>(match blk.cells with
    | .string s::_=>some (.int .i64 (rB (ak s)),σ)
    |_=>none)
   |none=>none
  |none=>none
 | .strOf x=>match e.ev x with
  | .slice a n c=>match σ.slice 1 (.slice a n c) n with
   |some cs=>(qH cs).map fun l=>(.string (vj l),σ)
   |none=>none
  |_=>none
def bj (T:dn)(op:AOp)(e:br)(σ:Hp)(k:Value→Hp→Prop):Prop:=
 match op with
 | .call f args=>T f (args.map e.ev) σ k
 | .callv x args=>match e.ev x with
  | .func (.func f) first captured=>wd f=false∧T f (first.toList++args.map e.ev++captured.toList) σ k
  |_=>False
 |op=>match op.run e σ with
  |some (v,σ')=>k v σ'
  |none=>False
def wanted (o:AOper)(e:br):Bool:=
 match o.guard with
 |some (t,want)=>match e t with
  | .bool b=>b==want
  |_=>false
 |none=>true
def pK (T:dn)(Q:br→Hp→Prop):List AOper→br→Hp→Prop
 |[],e,σ=>Q e σ
 |o::rest,e,σ=>if wanted o e then bj T o.op e σ fun v σ'=>pK T Q rest (e.putO o.dst v) σ' else pK T Q rest (e.putO o.dst undef) σ
def AOp.still :AOp→Bool
 | .alloc .. | .box .. | .buildSlice .. | .store .. | .call .. | .callv .. | .makeSlice .. | .append .. | .appendZ .. | .copy .. | .range .. | .next .. | .strOf .. | .newB| .strOfR .. | .runesOf .. | .mark .. | .makeM .. | .lookM .. | .updM .. | .lenM .. =>false
 |_=>true
def dE (f:(AExit→br→Hp→Prop)→br→Hp→Prop)(Q:AExit→br→Hp→Prop):Nat→br→Hp→Prop
 |0,_,_=>False
 |n+1,e,σ=>f (fun x e' σ'=>match x with
  | .normal=>dE f Q n e' σ'
  |x=>Q x e' σ') e σ
def AOp.isLoad :AOp→Bool
 | .load _| .loadN _ _| .sliceArr _ _ _ _ _| .slice _ _ (some _) _=>true
 |_=>false
def cW (ops:List (AOper×List Nat))(i:Nat):List Nat:=match ops[i]? with
 |some (_,p)=>p
 |none=>[]
def xl (acc:List Nat)(ps:List Nat):Nat:=ps.foldl (fun m q=>m|||2 ^ q|||acc.getD q 0) 0
def Hq (acc:List Nat):List (AOper×List Nat)→List Nat
 |[]=>acc
 |(_,ps)::r=>Hq (acc++[xl acc ps]) r
def kU (ops:List (AOper×List Nat))(p j:Nat):Bool:=((Hq [] ops).getD j 0).testBit p
def F0 (ops:List (AOper×List Nat))(done:List Nat)(i:Nat):Bool:=
 !done.contains i&&(cW ops i).all fun q=>done.contains q
def sU (ops:List (AOper×List Nat))(i:Nat):Bool:=match ops[i]? with
 |some (o,_)=>o.op.still
 |none=>false
def ci (ops:List (AOper×List Nat))(done:List Nat):Option Nat:=(aA ops.length).find? fun i=>F0 ops done i&&sU ops i
def bi (ops:List (AOper×List Nat))(done:List Nat):List Nat:=(aA ops.length).filter fun i=>F0 ops done i&& !sU ops i
def B5 (f:Nat→Prop):List Nat→Prop
 |[]=>True
 |[m]=>f m
 |m::r=>f m∧B5 f r
def rz (ops:List (AOper×List Nat))(m:Nat)(σ:Hp):List (Nat×(Hp→Prop))→Prop
 |[]=>True
 |(i,c)::r=>if kU ops i m then rz ops m σ r else c σ∧rz ops m σ r
def sY (T:dn)(Q:br→Hp→Prop)(ops:List (AOper×List Nat)):Nat→List Nat→List (Nat×(Hp→Prop))→br→Hp→Prop
 |0,_,_,e,σ=>Q e σ
 |f+1,done,chk,e,σ=>match ci ops done with
  |some i=>match ops[i]? with
   |some (o,_)=>
    if wanted o e then match o.op.run e σ with
     |some (v,_)=>sY T Q ops f (i::done) (if o.op.isLoad then(i,fun σ'=>o.op.run e σ'=some (v,σ'))::chk else chk) (e.putO o.dst v) σ
     |none=>False
    else sY T Q ops f (i::done) chk (e.putO o.dst undef) σ
   |none=>False
  |none=>match bi ops done with
   |[]=>Q e σ
   |ms=>B5 (fun m=>match ops[m]? with
    |some (o,_)=>
     if wanted o e then bj T o.op e σ fun v σ'=>rz ops m σ' chk∧sY T Q ops f (m::done) chk (e.putO o.dst v) σ'
     else sY T Q ops f (m::done) chk (e.putO o.dst undef) σ
    |none=>False) ms
def oG (is:List Nat)(σ:Hp):List (Nat×(Hp→Prop))→Prop
 |[]=>True
 |(i,c)::r=>if is.contains i then c σ∧oG is σ r else oG is σ r
def I3 (ops:List (AOper×List Nat))(i:Nat):Bool:=match ops[i]? with
 |some (o,_)=> !o.op.still
 |none=>false
def My (ops:List (AOper×List Nat))(i:Nat):Bool:=(aA ops.length).any fun m=>I3 ops m&& !kU ops i m
def vL (ops:List (AOper×List Nat)):Nat→List Nat→List Nat→Option (List SItem)
 |0,_,_=>some []
 |f+1,done,loads=>match ci ops done with
  |some i=>match ops[i]? with
   |some (o,_)=>(vL ops f (i::done) (if o.op.isLoad then i::loads else loads)).map (⟨i,o,false,o.op.isLoad&&My ops i,[]⟩:: ·)
   |none=>none
  |none=>match bi ops done with
   |[]=>some []
   |[m]=>match ops[m]? with
    |some (o,_)=>(vL ops f (m::done) loads).map (⟨m,o,true,false,loads.filter fun i=> !kU ops i m⟩:: ·)
    |none=>none
   |_=>none
def Gi (T:dn)(Q:br→Hp→Prop):List SItem→List (Nat×(Hp→Prop))→br→Hp→Prop
 |[],_,e,σ=>Q e σ
 |it::r,chk,e,σ=>
  if wanted it.o e then
   (if it.mover then bj T it.o.op e σ fun v σ'=>oG it.chks σ' chk∧Gi T Q r chk (e.putO it.o.dst v) σ'
    else match it.o.op.run e σ with
    |some (v,_)=>Gi T Q r (if it.keep then(it.idx,fun σ'=>it.o.op.run e σ'=some (v,σ'))::chk else chk) (e.putO it.o.dst v) σ
    |none=>False)
  else Gi T Q r chk (e.putO it.o.dst undef) σ
def nw (T:dn):AC→(AExit→br→Hp→Prop)→br→Hp→Prop
 | .skip,Q,e,σ=>Q .normal e σ
 | .region ops,Q,e,σ=>pK T (Q .normal) ops e σ
 | .draw ops,Q,e,σ=>sY T (Q .normal) ops ops.length [] [] e σ
 | .sched its,Q,e,σ=>Gi T (Q .normal) its [] e σ
 | .seq a b,Q,e,σ=>nw T a (fun x e σ=>match x with
  | .normal=>nw T b Q e σ
  |x=>Q x e σ) e σ
 | .cond c a b,Q,e,σ=>match e.ev c with
  | .bool true=>nw T a Q e σ
  | .bool false=>nw T b Q e σ
  |_=>False
 | .block id b,Q,e,σ=>nw T b (fun x e σ=>match x with
  | .exit i=>if i=id then Q .normal e σ else Q (.exit i) e σ
  |x=>Q x e σ) e σ
 | .loop b,Q,e,σ=> ∃n,dE (nw T b) Q n e σ
 | .exit id,Q,e,σ=>Q (.exit id) e σ
 | .ret,Q,e,σ=>Q .ret e σ
def C3 (e:br)(σ:Hp):ARes→Option Value
 | .tmp t=>some (e t)
 | .cell t=>match e t with
  | .pointer (some ⟨b,o,none⟩)=>(σ.m b).bind fun x=>x.cells[o]?
  |_=>none
 | .cellN t n=>match e t with
  | .pointer (some ⟨b,o,none⟩)=>(σ.m b).bind fun x=>(iN x o n).map fun cs=> .agg cs.toArray
  |_=>none
def zT (e:br)(σ:Hp):List ARes→Option (List Value)
 |[]=>some []
 |r::rs=>match C3 e σ r,zT e σ rs with
  |some v,some vs=>some (v::vs)
  |_,_=>none
def qp :List Value→Value
 |[v]=>v
 |vs=> .tuple vs.toArray
def Ui (T:dn)(f:AFn):Fu:=fun args σ K=>args.length≤f.ntmps∧
 nw T f.body (fun x e σ'=>match x with
  | .exit _=>False
  |_=>match zT e σ' f.results with
   |some vs=>K (qp vs) σ'
   |none=>False) (br.of args) σ
end
section
open Nat renaming lt_of_lt_of_le → aA
open Go.RowKit
structure G where
 c:Nat
 o:Nat
 ext:Nat
 es:Nat
 ty:Nat
 it:Option Value
abbrev Mu :=Nat→Option G
def Mu.le (μ μ':Mu):Prop:= ∀b g,μ b=some g→μ' b=some g
theorem Mu.le_refl (μ:Mu):μ.le μ:=fun _ _ h=>h
theorem Mu.le_trans {a b c:Mu}(h:a.le b)(k:b.le c):a.le c:=fun x g hx=>k x g (h x g hx)
def Mu.add (μ:Mu)(n:Nat)(g:G):Mu:=fun b=>if b=n then some g else μ b
theorem Mu.le_add {μ:Mu}{n:Nat}{g:G}(h:μ n=none):μ.le (μ.add n g):=fun b g' hb=>by
 unfold Mu.add;by_cases e:b=n
 ·subst e;rw[h]at hb;cases hb
 ·rw[zF e];exact hb
def Mu.at (μ:Mu)(b:Nat)(g:G):Prop:=μ b=some g∧g.it=none
theorem Mu.at_le {μ μ':Mu}(h:μ.le μ'){b:Nat}{g:G}(k:μ.at b g):μ'.at b g:=⟨h _ _ k.1,k.2⟩
inductive F2 {α β:Type}(r:α→β→Prop):List α→List β→Prop where
 |nil:F2 r [] []
 |cons {a:α} {b:β} {l:List α} {m:List β}:r a b→F2 r l m→F2 r (a::l) (b::m)
inductive VR (μ:Mu):Value→Value→Prop where
 |bool (b:Bool):VR μ (.bool b) (.bool b)
 |int (k:IntKind) (n:Int):VR μ (.int k n) (.int k n)
 |string (s:ByteArray):VR μ (.string s) (.string s)
 |nilp:VR μ (.pointer none) (.pointer none)
 |ptr {b o:Nat} {g:G}:μ.at b g→VR μ (.pointer (some ⟨b,o,none⟩)) (.pointer (some ⟨g.c,g.o+o,none⟩))
 |nils:VR μ (.slice none 0 0) (.slice none 0 0)
 |slice {b o l c c':Nat} {g:G}:μ.at b g→l≤c→c≤c'→o+c'*g.es≤g.ext→VR μ (.slice (some ⟨b,o,none⟩) l c) (.slice (some ⟨g.c,g.o+o,none⟩) l c')
 |slice0 {b o:Nat} {g:G} (A':Addr):μ.at b g→VR μ (.slice (some ⟨b,o,none⟩) 0 0) (.slice (some A') 0 0)
 |sliceX {b o c:Nat} {g:G}:μ.at b g→o+c*g.es≤g.ext→VR μ (.slice (some ⟨b,o,some 0⟩) c c) (.slice (some ⟨g.c,g.o+o,none⟩) c c)
 |sliceX0 {b o:Nat} {g:G} (A':Addr):μ.at b g→VR μ (.slice (some ⟨b,o,some 0⟩) 0 0) (.slice (some A') 0 0)
 |nilf:VR μ .nilFunc .nilFunc
 |nilm:VR μ (.map none) (.map none)
 |mp {b:Nat} {g:G} {k:IntKind}:μ b=some g→g.it=some (.int k 0)→VR μ (LN k b) (.map (some g.c))
 |func {f:Fn} {a a' c c':Array Value}:yt f=false→F2 (VR μ) a.toList a'.toList→F2 (VR μ) c.toList c'.toList→VR μ (.func f a c) (.func f a' c')
 |nili:VR μ .nilIface .nilIface
 |iter {b:Nat} {g:G} {v:Value}:μ b=some g→g.it=some v→VR μ (.iface b v) (.pointer (some ⟨g.c,0,none⟩))
 |agg {a a':Array Value}:F2 (VR μ) a.toList a'.toList→VR μ (.agg a) (.agg a')
 |tuple {a a':Array Value}:F2 (VR μ) a.toList a'.toList→VR μ (.tuple a) (.tuple a')
theorem F2.length {α β:Type}{r:α→β→Prop}{l:List α}{m:List β}(h:F2 r l m):l.length=m.length:=by
 induction h with
 |nil=>rfl
 |cons _ _ ih=>simp[ih]
theorem F2.get {α β:Type}{r:α→β→Prop}{l:List α}{m:List β}(h:F2 r l m): ∀(i:Nat) (a:α),l[i]?=some a→∃b,m[i]?=some b∧r a b:=by
 induction h with
 |nil=>intro i a h;simp at h
 |cons h1 _ ih=>
  intro i a h;cases i with
  |zero=>simp at h;subst h;exact⟨_,by simp,h1⟩
  |succ i=>simp at h;simpa using ih i a h
theorem F2.of_get {α β:Type}{r:α→β→Prop}: ∀(l:List α) (m:List β),l.length=m.length→(∀(i:Nat) (a:α) (b:β),l[i]?=some a→m[i]?=some b→r a b)→F2 r l m
 |[],[],_,_=> .nil
 |[],_::_,h,_=>by simp at h
 |_::_,[],h,_=>by simp at h
 |a::l,b::m,h,hr=> .cons (hr 0 a b rfl rfl) (F2.of_get l m (by simpa using h) fun i x y hx hy=>hr (i+1) x y (by simpa using hx) (by simpa using hy))
theorem F2.append {α β:Type}{r:α→β→Prop}{l l':List α}{m m':List β}(h:F2 r l m)(h':F2 r l' m'):F2 r (l++l') (m++m'):=by
 induction h with
 |nil=>exact h'
 |cons h1 _ ih=>exact .cons h1 ih
theorem F2.take {α β:Type}{r:α→β→Prop}{l:List α}{m:List β}(h:F2 r l m): ∀n,F2 r (l.take n) (m.take n):=by
 induction h with
 |nil=>intro n;simp;exact .nil
 |cons h1 _ ih=>
  intro n;cases n with
  |zero=>exact .nil
  |succ n=>exact .cons h1 (ih n)
theorem F2.drop {α β:Type}{r:α→β→Prop}{l:List α}{m:List β}(h:F2 r l m): ∀n,F2 r (l.drop n) (m.drop n):=by
 induction h with
 |nil=>intro n;simp;exact .nil
 |cons h1 h2 ih=>
  intro n;cases n with
  |zero=>exact .cons h1 h2
  |succ n=>exact ih n
theorem F2.same {α:Type}{r:α→α→Prop}: ∀(l:List α),(∀a∈l,r a a)→F2 r l l
 |[],_=> .nil
 |a::l,h=> .cons (h a (by simp)) (F2.same l fun b hb=>h b (by simp[hb]))
theorem F2.imp {α β:Type}{r s:α→β→Prop}(hrs: ∀a b,r a b→s a b){l:List α}{m:List β}(h:F2 r l m):F2 s l m:=by
 induction h with
 |nil=>exact .nil
 |cons h1 _ ih=>exact .cons (hrs _ _ h1) ih
theorem VR.mono {μ μ':Mu}(hμ:μ.le μ'): ∀{v v':Value},VR μ v v'→VR μ' v v'
 |_,_, .bool b=> .bool b
 |_,_, .int k n=> .int k n
 |_,_, .string s=> .string s
 |_,_, .nilp=> .nilp
 |_,_, .ptr h=> .ptr (Mu.at_le hμ h)
 |_,_, .nils=> .nils
 |_,_, .slice h h1 h2 h3=> .slice (Mu.at_le hμ h) h1 h2 h3
 |_,_, .slice0 A' h=> .slice0 A' (Mu.at_le hμ h)
 |_,_, .sliceX h h1=> .sliceX (Mu.at_le hμ h) h1
 |_,_, .sliceX0 A' h=> .sliceX0 A' (Mu.at_le hμ h)
 |_,_, .nilf=> .nilf
 |_,_, .nilm=> .nilm
 |_,_, .mp h h1=> .mp (hμ _ _ h) h1
 |_,_, .func h0 h1 h2=> .func h0 (go h1) (go h2)
 |_,_, .nili=> .nili
 |_,_, .iter h h1=> .iter (hμ _ _ h) h1
 |_,_, .agg h=> .agg (go h)
 |_,_, .tuple h=> .tuple (go h)
where
 go {l m:List Value}:F2 (VR μ) l m→F2 (VR μ') l m
 | .nil=> .nil
 | .cons h t=> .cons (VR.mono hμ h) (go t)
theorem VR.undef (μ:Mu):VR μ undef undef:= .tuple .nil
theorem VR.one_iff {μ:Mu}{v v':Value}(h:VR μ v v'):one v=v'.oneCell':=by cases h<;>rfl
theorem VR.cells {μ:Mu}{v v':Value}(h:VR μ v v'):F2 (VR μ) (cellsOf v) v'.cells.toList:=by
 cases h with
 |agg h=>exact h
 |bool b=>exact .cons (.bool b) .nil
 |int k n=>exact .cons (.int k n) .nil
 |string s=>exact .cons (.string s) .nil
 |nilp=>exact .cons .nilp .nil
 |ptr h=>exact .cons (.ptr h) .nil
 |nils=>exact .cons .nils .nil
 |slice h h1 h2 h3=>exact .cons (.slice h h1 h2 h3) .nil
 |slice0 A' h=>exact .cons (.slice0 A' h) .nil
 |sliceX h h1=>exact .cons (.sliceX h h1) .nil
 |sliceX0 A' h=>exact .cons (.sliceX0 A' h) .nil
 |nilf=>exact .cons .nilf .nil
 |nilm=>exact .cons .nilm .nil
 |mp h h1=>exact .cons (.mp h h1) .nil
 |func h0 h1 h2=>exact .cons (.func h0 h1 h2) .nil
 |nili=>exact .cons .nili .nil
 |iter h h1=>exact .cons (.iter h h1) .nil
 |tuple h=>exact .cons (.tuple h) .nil
theorem VR.func_inv {μ:Mu}{f:Nat}{a c:Array Value}{v':Value}(h:VR μ (.func (.func f) a c) v')(hf:wd f=false): ∃a' c',v'= .func (.func f) a' c'∧F2 (VR μ) a.toList a'.toList∧F2 (VR μ) c.toList c'.toList:=by
 generalize hv:Value.func (.func f) a c=v at h;cases h with
 |func h0 h1 h2=>
  injection hv with e1 e2 e3
  subst e1 e2 e3;exact⟨_,_,rfl,h1,h2⟩
 | @mp b g k h1 h2=>
  injection hv with e1 e2 e3
  injection e1 with e1
  subst e1;cases k<;>cases hf
 |_=>cases hv
theorem OQ : ∀{k k':IntKind},MQ k=MQ k'→k=k':=by
 intro k k' h;cases k<;>cases k'<;>first|rfl|cases h
theorem Mx (k:IntKind):wd (MQ k)=true:=by cases k<;>rfl
theorem OD (k:IntKind):yt (.func (MQ k))=true:=Mx k
theorem VR.mp_inv {μ:Mu}{k:IntKind}{b:Nat}{v':Value}(h:VR μ (LN k b) v'): ∃g,μ b=some g∧g.it=some (.int k 0)∧v'= .map (some g.c):=by
 generalize hv:LN k b=v at h;cases h with
 |func h0 h1 h2=>
  injection hv with e1 e2 e3
  subst e1;unfold yt at h0;simp only[Mx]at h0;cases h0
 | @mp b' g k' h1 h2=>
  unfold LN at hv;injection hv with e1 e2 e3
  injection e1 with e1
  have:=OQ e1;subst this;simp at e3;subst e3;exact⟨g,h1,h2,rfl⟩
 |_=>cases hv
theorem xk {k:IntKind}{v:Value}{b:Nat}(h:AG k v=some b):v=LN k b:=by
 unfold AG at h;split at h
 ·rename_i f a c;split at h
  ·rename_i hf;obtain⟨rfl,ha⟩:=hf;split at h
   ·rename_i hc;injection h with h
    subst h;have e1:a= #[]:=Array.toList_inj.1 (by rw[ha]);have e2:c= #[.pointer (some ⟨_,0,none⟩)]:=Array.toList_inj.1 (by rw[hc]);rw[e1,e2];rfl
   ·cases h
  ·cases h
 ·cases h
def uV :Value→Bool
 | .bool _| .int _ _| .string _| .pointer none| .slice none 0 0| .nilFunc| .nilIface| .map none=>true
 | .agg cs=>cs.toList.all fun
  | .bool _| .int _ _| .string _| .pointer none| .slice none 0 0| .nilFunc| .nilIface| .map none=>true
  |_=>false
 | .tuple cs=>cs.size==0
 |_=>false
theorem VR.plain1 (μ:Mu): ∀v:Value,(match v with
  | .bool _| .int _ _| .string _| .pointer none| .slice none 0 0| .nilFunc| .nilIface| .map none=>true
  |_=>false)=true→VR μ v v:=by
 intro v h;cases v with
 |bool b=>exact .bool b
 |int k n=>exact .int k n
 |string s=>exact .string s
 |pointer a=>cases a with
  |none=>exact .nilp
  |some a=>simp at h
 |slice a n c=>
  split at h<;>first|(rename_i he;cases he;exact .nils)|simp_all
 |nilFunc=>exact .nilf
 |nilIface=>exact .nili
 |map a=>cases a with
  |none=>exact .nilm
  |some a=>simp at h
 |_=>simp at h
theorem VR.plain {μ:Mu}{v:Value}(h:uV v=true):VR μ v v:=by
 cases v with
 |agg cs=>
  refine .agg (F2.same _ fun a ha=>VR.plain1 μ a ?_);simp only[uV,List.all_eq_true]at h;exact h a ha
 |tuple cs=>
  have:cs= #[]:=by simpa[uV]using h
  subst this;exact .tuple .nil
 |bool b=>exact .bool b
 |int k n=>exact .int k n
 |string s=>exact .string s
 |pointer a=>cases a with
  |none=>exact .nilp
  |some a=>simp[uV]at h
 |slice a n c=>
  unfold uV at h;split at h<;>first|(rename_i he;cases he;exact .nils)|simp_all
 |nilFunc=>exact .nilf
 |nilIface=>exact .nili
 |map a=>cases a with
  |none=>exact .nilm
  |some a=>simp[uV]at h
 |_=>simp[uV]at h
structure Base (P:Program)where
 n:Nat
 h:Nat→Option Obj
 tab: ∀w:World,n≤w.heap.size→(∀b,b<n→w.heap[b]?=h b)→P.globalNamed "internal/strconv.uint64pow10" ≠none→Lib.TabIs P w "internal/strconv.uint64pow10" .u64 Lib.pow10Tab
instance (P :Program):CoeHead (Base P) Nat:=⟨Base.n⟩
def yr (P:Program)(t:TypeId):Bool:=match P.types[t]? with
 |some i=>(match i.desc with
  | .named n _=>n== "strings.Builder"
  |_=>false)
 |none=>false
def cV (w:World)(c:Nat):Option Nat:=match w.heap[c]? with
 |some (.cells cs _ _)=>(cs[1]?).bind Value.ownBlock
 |_=>none
theorem F7 (w:World)(g i:Nat)(cs:Array Value)(t:TypeId)(fr:Nat×Nat)(v:Value)(hg:w.heap[g]?=some (.cells cs t fr)):(w.setCell ⟨g,i,none⟩ v).heap[g]?=some (.cells (cs.setIfInBounds i v) t fr):=by
 simp[World.setCell,Array.getElem?_modify,hg]
theorem Cy (w:World)(g j:Nat)(cs:Array Value)(t:TypeId)(fr:Nat×Nat)(hg:w.heap[g]?=some (.cells cs t fr))(hj:j<cs.size)(hf:cs.size≤fr.1∨fr.1=fr.2):w.frozen? ⟨g,j,none⟩=false:=by
 obtain⟨lo,hi⟩:=fr;simp only at hf;simp only[World.frozen?,hg,Bool.and_eq_false_iff,decide_eq_false_iff_not];omega
def ue (k:IntKind)(es:Array MapEntry)(s:ByteArray):Prop:= ∃l:List (ByteArray×Int),es.toList.map (fun e=>(e.key,e.val))=l.map (fun p=>(Value.string p.1,Value.int k p.2))∧ak s=dp (l.map fun p=>(ak p.1,p.2))
structure Lives {P:Program}(B:Base P)(μ:Mu)(w:World)(x:Blk)(g:G):Prop where
 lt:g.c<w.heap.size
 es:g.es=x.es
 cell:g.it=none→∀(i:Nat) (v:Value),x.cells[i]?=some v→∃v',w.cell? ⟨g.c,g.o+i,none⟩=some v'∧VR μ v v'
 own:g.it=none→x.own=true→B.n≤g.c∧x.cells.length≤g.ext∧∃cur e fr,w.heap[g.c]?=some (.cells cur e fr)∧g.o+g.ext≤cur.size∧(cur.size≤fr.1∨fr.1=fr.2)
 iter: ∀s,g.it=some (.string s)→B.n≤g.c∧∃p:Nat,x.cells=[Value.int .i64 p].take x.cells.length∧w.heap[g.c]?=some (.stringIter s p)
 bld:g.it=some .nilFunc→yr P g.ty=true∧∃p s,(p= .pointer none∨p= .pointer (some ⟨g.c,0,none⟩))∧x.cells=[Value.string s].take x.cells.length∧Lib.BuilderAtF g.ty P.rt.byte B.n g.c p (Lib.strCells s) w
 mp: ∀k,g.it=some (.int k 0)→B.n≤g.c∧∃es clock s,x.cells=[Value.string s].take x.cells.length∧w.heap[g.c]?=some (.map es clock)∧ue k es s
def SX (μ:Mu)(σ:Hp)(w:World):Prop:= ∀b x g,σ.m b=some x→μ b=some g→g.it=some .nilFunc→∀k,cV w g.c=some k→∀b' x' g',σ.m b'=some x'→μ b'=some g'→g'.c≠k∧(b'≠b→g'.it=some .nilFunc→cV w g'.c≠some k)
theorem SX.of {μ μ':Mu}{σ σ':Hp}{w w':World}(h:SX μ σ w)(hold: ∀b x g,σ'.m b=some x→μ' b=some g→(∃y,σ.m b=some y∧μ b=some g)∨(g.it≠some .nilFunc∧∀b1 x1 g1 k,σ.m b1=some x1→μ b1=some g1→g1.it=some .nilFunc→cV w g1.c=some k→g.c≠k))
  (hb: ∀b x g,σ.m b=some x→μ b=some g→g.it=some .nilFunc→(∃y,σ'.m b=some y)→cV w' g.c=cV w g.c):SX μ' σ' w':=by
 intro b x g hx hg hit k hk b' x' g' hx' hg';rcases hold b x g hx hg with⟨y,h1,h2⟩|⟨h1,_⟩
 ·rw[hb b y g h1 h2 hit ⟨x,hx⟩]at hk;rcases hold b' x' g' hx' hg' with⟨y',k1,k2⟩|⟨k1,k2⟩
  ·obtain⟨m1,m2⟩:=h b y g h1 h2 hit k hk b' y' g' k1 k2;exact⟨m1,fun hne hit'=>by rw[hb b' y' g' k1 k2 hit' ⟨x',hx'⟩];exact m2 hne hit'⟩
  ·exact⟨k2 b y g k h1 h2 hit hk,fun _ hit'=>(k1 hit').elim⟩
 ·exact(h1 hit).elim
theorem IH {T e:TypeId}{n b:Nat}{p:Value}{bs:List Value}{w w':World}(h:Lib.BuilderAtF T e n b p bs w)(hb:w'.heap[b]?=w.heap[b]?)(hk: ∀k,cV w b=some k→w'.heap[k]?=w.heap[k]?):Lib.BuilderAtF T e n b p bs w':=by
 obtain⟨hB,v,hbk,hown,hne⟩:=h;refine⟨hB,v,hb.trans hbk,⟨hown.1, ?_⟩,hne⟩;rcases hown.2 with hn|⟨g,cap,cur,fz,hv,hg,hgg,rest⟩
 ·exact .inl hn
 ·exact .inr ⟨g,cap,cur,fz,hv,hg,(hk g (by subst hv;simp[cV,hbk,Value.ownBlock])).trans hgg,rest⟩
theorem KC {T e:TypeId}{n b:Nat}{p:Value}{bs:List Value}{w:World}(h:Lib.BuilderAtF T e n b p bs w){k:Nat}(hk:cV w b=some k):n≤k∧k<w.heap.size∧k≠b:=by
 obtain⟨hB,v,hbk,hown,hne⟩:=h;have hv:v.ownBlock=some k:=by simpa[cV,hbk]using hk
 obtain⟨h1,h2⟩:=hown.lt k hv;exact⟨h1,h2,fun e=>hne (e▸hv)⟩
structure R {P:Program}(B:Base P)(μ:Mu)(σ:Hp)(w:World):Prop where
 base:B.n≤w.heap.size
 old: ∀b,b<B.n→w.heap[b]?=B.h b
 fresh: ∀b,σ.n≤b→μ b=none
 live: ∀b x,σ.m b=some x→∃g,μ b=some g∧Lives B μ w x g
 inj: ∀b b' x x' g g',σ.m b=some x→σ.m b'=some x'→b≠b'→x.own=true→μ b=some g→μ b'=some g'→g.c≠g'.c
 sep:SX μ σ w
section
variable {P:Program} {B:Base P} {μ μ':Mu} {σ:Hp} {w w':World}
theorem Lives.mono {x:Blk}{g:G}(h:Lives B μ w x g)(hμ:μ.le μ'):Lives B μ' w x g:=
 ⟨h.lt,h.es,fun h0 i v hv=>let⟨v',h1,h2⟩:=h.cell h0 i v hv;⟨v',h1,h2.mono hμ⟩,h.own,h.iter,h.bld,h.mp⟩
theorem Lives.kept {x:Blk}{g:G}(h:Lives B μ w x g)(hs:w.heap.size≤w'.heap.size)(hb:w'.heap[g.c]?=w.heap[g.c]?)(hk:g.it=some .nilFunc→∀k,cV w g.c=some k→w'.heap[k]?=w.heap[k]?):Lives B μ w' x g:=
 ⟨aA h.lt hs,h.es,fun h0 i v hv=>let⟨v',h1,h2⟩:=h.cell h0 i v hv;⟨v',(World.cell?_of_block (w:=w) (w':=w') hb).trans h1,h2⟩,fun h0 ho=>by
  obtain⟨h1,h2,cur,e,fr,h4,h5⟩:=h.own h0 ho
  exact⟨h1,h2,cur,e,fr,hb.trans h4,h5⟩,fun s hs=>let⟨h1,p,h3,h4⟩:=h.iter s hs;⟨h1,p,h3,hb.trans h4⟩,fun hi=>let⟨h1,p,s,h3,h4,h5⟩:=h.bld hi;⟨h1,p,s,h3,h4,IH h5 hb (hk hi)⟩,fun k hs=>let⟨h1,es,cl,s,h3,h4,h5⟩:=h.mp k hs;⟨h1,es,cl,s,h3,hb.trans h4,h5⟩⟩
theorem R.same (h:R B μ σ w)(hh:w'.heap=w.heap):R B μ σ w':=
 ⟨by rw[hh];exact h.base,fun b hb=>by rw[hh];exact h.old b hb,h.fresh,fun b x hx=>let⟨g,h1,h2⟩:=h.live b x hx;⟨g,h1,h2.kept (by rw[hh];exact Nat.le_refl _) (by rw[hh]) (fun _ k _=>by rw[hh])⟩,h.inj,h.sep.of (fun b x g hx hg=> .inl ⟨x,hx,hg⟩) (fun b x g _ _ _ _=>by unfold cV;rw[hh])⟩
theorem R.get (h:R B μ σ w){b:Nat}{x:Blk}{g:G}(hx:σ.m b=some x)(hg:μ b=some g):Lives B μ w x g:=by
 obtain⟨g',h1,h2⟩:=h.live b x hx;rw[hg]at h1;injection h1 with h1
 exact h1▸h2
theorem R.buf (h:R B μ σ w){b:Nat}{x:Blk}{g:G}(hx:σ.m b=some x)(hg:μ b=some g)(hi:g.it=some .nilFunc){k:Nat}(hk:cV w g.c=some k):B.n≤k∧k<w.heap.size∧k≠g.c:=by
 obtain⟨_,p,s,_,_,h5⟩:=(h.get hx hg).bld hi;exact KC h5 hk
theorem R.stays (h:R B μ σ w){b:Nat}{x:Blk}{g:G}(hx:σ.m b=some x)(hg:μ b=some g)(hs:w.heap.size≤w'.heap.size)(c:Nat)(hoth: ∀k,k≠c→k<w.heap.size→w'.heap[k]?=w.heap[k]?)(hc:g.c≠c)(hkc:g.it=some .nilFunc→cV w g.c≠some c):Lives B μ w' x g:=
 (h.get hx hg).kept hs (hoth _ hc (h.get hx hg).lt) fun hi k hk=>hoth k (fun e=>hkc hi (e▸hk)) (h.buf hx hg hi hk).2.1
theorem R.kill (h:R B μ σ w)(b:Nat):R B μ (σ.set b none) w:=by
 have hm: ∀b' x,(σ.set b none).m b'=some x→σ.m b'=some x:=by
  intro b' x hx;simp only[Hp.set]at hx;split at hx
  ·cases hx
  ·exact hx
 exact⟨h.base,h.old,h.fresh,fun b' x hx=>h.live b' x (hm _ _ hx),fun b1 b2 x x' g g' h1 h2=>h.inj b1 b2 x x' g g' (hm _ _ h1) (hm _ _ h2),h.sep.of (fun b' x g hx hg=> .inl ⟨x,hm _ _ hx,hg⟩) (fun _ _ _ _ _ _ _=>rfl)⟩
theorem R.add (h:R B μ σ w)(cur:Array Value)(e:TypeId)(cells:List Value)(es:Nat)(hle:cells.length≤cur.size)(hc:F2 (VR μ) cells (cur.toList.take cells.length)):
  R B (μ.add σ.n ⟨w.heap.size,0,cur.size,es,e,none⟩) (σ.add ⟨cells,true,es⟩) (w.alloc (.cells cur e))∧μ.le (μ.add σ.n ⟨w.heap.size,0,cur.size,es,e,none⟩):=by
 have hf:μ σ.n=none:=h.fresh _ (Nat.le_refl _);have hle':μ.le (μ.add σ.n ⟨w.heap.size,0,cur.size,es,e,none⟩):=Mu.le_add hf
 have old: ∀b x,b≠σ.n→(σ.add ⟨cells,true,es⟩).m b=some x→σ.m b=some x:=by
  intro b x hb hx;simpa[Hp.add,hb]using hx
 have new: ∀x,(σ.add ⟨cells,true,es⟩).m σ.n=some x→x=⟨cells,true,es⟩:=by
  intro x hx;simp[Hp.add]at hx;exact hx.symm
 have oldlt: ∀b x g,σ.m b=some x→μ b=some g→g.c<w.heap.size:=fun b x g hx hg=>(h.get hx hg).lt
 refine⟨⟨Nat.le_trans h.base (by simp),fun b hb=>(Below.heap_alloc w _ _ (aA hb h.base)).trans (h.old b hb),fun b hb=> ?_,fun b x hx=> ?_,fun b b' x x' g g' hx hx' hne ho hg hg'=> ?_, ?_⟩,hle'⟩
 ·have:σ.n+1≤b:=hb;unfold Mu.add;rw[zF (by omega)];exact h.fresh b (by omega)
 ·by_cases hb:b=σ.n
  ·subst hb;obtain rfl:=new x hx;refine⟨⟨w.heap.size,0,cur.size,es,e,none⟩,by simp[Mu.add],⟨by simp,rfl,fun _ i v hv=> ?_,fun _ _=>⟨h.base,hle,cur,e,(0,0),heap_alloc_new w _,by simp, .inr rfl⟩,fun _ hs=>(by cases hs),fun hs=>(by cases hs),fun _ hs=>by cases hs⟩⟩;obtain⟨v',h1,h2⟩:=hc.get i v hv
   have hi:i<cells.length:=by
    rcases Nat.lt_or_ge i cells.length with h3|h3
    ·exact h3
    ·simp[List.getElem?_eq_none h3]at hv
   refine⟨v', ?_,h2.mono hle'⟩;rw[Nat.zero_add,cell_of_row _ _ _ cur e (0,0) (heap_alloc_new w _)];rw[List.getElem?_take,zE hi]at h1;simpa using h1
  ·have hx':=old b x hb hx;obtain⟨g,h1,h2⟩:=h.live b x hx';exact⟨g,hle' _ _ h1,(h2.mono hle').kept (by simp) (Below.heap_alloc w _ _ h2.lt) (fun hi k hk=>Below.heap_alloc w _ _ (h.buf hx' h1 hi hk).2.1)⟩
 ·by_cases hb:b=σ.n
  ·subst hb;have hb':b'≠σ.n:=fun e=>hne e.symm
   have:g.c=w.heap.size:=by simp[Mu.add]at hg;rw[←hg]
   have h2:μ b'=some g':=by simpa[Mu.add,hb']using hg'
   have:=oldlt b' x' g' (old _ _ hb' hx') h2;omega
  ·have h1:μ b=some g:=by simpa[Mu.add,hb]using hg
   have hx1:=old b x hb hx;by_cases hb':b'=σ.n
   ·subst hb';have:g'.c=w.heap.size:=by simp[Mu.add]at hg';rw[←hg']
    have:=oldlt b x g hx1 h1;omega
   ·have h2:μ b'=some g':=by simpa[Mu.add,hb']using hg'
    exact h.inj b b' x x' g g' hx1 (old _ _ hb' hx') hne ho h1 h2
 ·refine h.sep.of (fun b x g hx hg=> ?_) (fun b x g hx hg hi _=> ?_)
  ·by_cases hb:b=σ.n
   ·subst hb;have e1:g=⟨w.heap.size,0,cur.size,es,e,none⟩:=by simp[Mu.add]at hg;exact hg.symm
    subst e1;exact .inr ⟨fun h0=>(by cases h0),fun b1 x1 g1 k h1 h2 h3 h4 e=>by have:=(h.buf h1 h2 h3 h4).2.1;simp only at e;omega⟩
   ·exact .inl ⟨x,old b x hb hx,by simpa[Mu.add,hb]using hg⟩
  ·unfold cV;rw[Below.heap_alloc w _ _ (oldlt b x g hx hg)]
theorem R.write1 (h:R B μ σ w){b:Nat}{x:Blk}{g:G}(hx:σ.m b=some x)(ho:x.own=true)(hg:μ b=some g)(hit:g.it=none)(i:Nat)(hi:i<x.cells.length){v v':Value}(hv:VR μ v v'):
  R B μ (σ.set b (some ⟨x.cells.set i v,x.own,x.es⟩)) (w.setCell ⟨g.c,g.o+i,none⟩ v'):=by
 have hl:=h.get hx hg;obtain⟨o1,o2,cur,e,fr,o4,o5,o6⟩:=hl.own hit ho;have hother: ∀k,k≠g.c→(w.setCell ⟨g.c,g.o+i,none⟩ v').heap[k]?=w.heap[k]?:=fun k hk=>heap_setCell_other w _ k v' (by simpa using hk)
 have hsame:(w.setCell ⟨g.c,g.o+i,none⟩ v').heap[g.c]?=some (.cells (cur.setIfInBounds (g.o+i) v') e fr):=F7 w g.c (g.o+i) cur e fr v' o4
 have old: ∀b' x',b'≠b→(σ.set b (some ⟨x.cells.set i v,x.own,x.es⟩)).m b'=some x'→σ.m b'=some x':=by
  intro b' x' hb hx';simpa[Hp.set,hb]using hx'
 have new: ∀x',(σ.set b (some ⟨x.cells.set i v,x.own,x.es⟩)).m b=some x'→x'=⟨x.cells.set i v,x.own,x.es⟩:=by
  intro x' hx';simp[Hp.set]at hx';exact hx'.symm
 refine⟨by simpa using h.base,fun k hk=>(hother k (by omega)).trans (h.old k hk),h.fresh,fun b' x' hx'=> ?_,fun b1 b2 x1 x2 g1 g2 h1 h2 hne hown hg1 hg2=> ?_, ?_⟩
 ·by_cases hb:b'=b
  ·subst hb;obtain rfl:=new x' hx';refine⟨g,hg,⟨by simpa using hl.lt,hl.es,fun _ j u hu=> ?_,fun _ _=>⟨o1,by simpa using o2,_,e,fr,hsame,by simpa using o5,by simpa using o6⟩,fun s hs=>(by rw[hit]at hs;cases hs),fun hs=>(by rw[hit]at hs;cases hs),fun _ hs=>by rw[hit]at hs;cases hs⟩⟩;rw[cell_of_row _ _ _ _ e fr hsame];by_cases hj:j=i
   ·subst hj;simp[hi]at hu;subst hu;refine⟨v', ?_,hv⟩;rw[Array.getElem?_setIfInBounds_self_of_lt (by omega)]
   ·rw[List.getElem?_set_ne (fun e=>hj e.symm)]at hu;obtain⟨u',h1,h2⟩:=hl.cell hit j u hu;refine⟨u', ?_,h2⟩;rw[cell_of_row _ _ _ _ e fr o4]at h1;rw[Array.getElem?_setIfInBounds_ne (by omega)];exact h1
  ·have hx1:=old b' x' hb hx';obtain⟨g',h1,h2⟩:=h.live b' x' hx1;refine⟨g',h1,h.stays hx1 h1 (by simp) g.c (fun k hk _=>hother k hk) (fun e=>h.inj b b' x x' g g' hx hx1 (fun e=>hb e.symm) ho hg h1 e.symm) (fun hi hk=>((h.sep b' x' g' hx1 h1 hi _ hk b x g hx hg).1 rfl))⟩
 ·have keyown: ∀b' x',(σ.set b (some ⟨x.cells.set i v,x.own,x.es⟩)).m b'=some x'→∃y,σ.m b'=some y∧y.own=x'.own:=by
   intro b' x' hx';by_cases hb:b'=b
   ·subst hb;obtain rfl:=new x' hx';exact⟨x,hx,rfl⟩
   ·exact⟨x',old b' x' hb hx',rfl⟩
  obtain⟨y1,hy1,e1⟩:=keyown _ _ h1;obtain⟨y2,hy2,_⟩:=keyown _ _ h2;exact h.inj b1 b2 y1 y2 g1 g2 hy1 hy2 hne (e1.trans hown) hg1 hg2
 ·have oldl: ∀b' x',(σ.set b (some ⟨x.cells.set i v,x.own,x.es⟩)).m b'=some x'→∃y,σ.m b'=some y:=by
   intro b' x' hx';by_cases hb:b'=b
   ·subst hb;exact⟨x,hx⟩
   ·exact⟨x',old b' x' hb hx'⟩
  refine h.sep.of (fun b' x' g' hx' hg'=> .inl (let⟨y,hy⟩:=oldl b' x' hx';⟨y,hy,hg'⟩)) (fun b' x' g' hx' hg' hi _=> ?_);have hne:b'≠b:=fun e=>by subst e;rw[hg]at hg';injection hg' with hg';subst hg';rw[hit]at hi;cases hi
  unfold cV;rw[hother _ (fun e=>h.inj b b' x x' g g' hx hx' (fun e=>hne e.symm) ho hg hg' e.symm)]
end
end
section
open List renaming getElem?_eq_getElem → aA
open Nat renaming add_assoc → aB
open Result renaming andThen_ok → aC
open Go.RowKit
def bq :Operand→Bool
 | .const v=>uV v
 | .global _=>false
 | .func f=> !wd f
 |_=>true
def nj (x:Operand):Option Operand:=if bq x then some x else none
def Pd :Option Operand→Option (Option Operand)
 |some x=>(nj x).map some
 |none=>some none
def eX (P:Program)(t:TypeId):Option Nat:=(P.info? t).map (·.size)
def GQ (P:Program)(t:TypeId):Option Nat:=(P.info? t).map (·.bytes)
def oS :Value→Bool
 | .bool _| .int _ _| .string _| .pointer none| .slice none 0 0| .nilFunc| .nilIface| .map none=>true
 |_=>false
def gz (P:Program)(t:TypeId):Option (List Value):=match(P.info? t).bind (·.zero)with
 |some z=>if(cellsOf z).all oS then some (cellsOf z)else none
 |none=>none
def qh (P:Program)(t:TypeId):Option Bool:=match P.underlying t with
 |some (.struct _)|some (.array _ _)=>some true
 |some _=>some false
 |none=>none
def RC (P:Program)(t:TypeId):Option Nat:=match P.underlying t with
 |some (.array _ e)=>eX P e
 |_=>some 1
def cq (μ:Mu)(N:Nat)(e:br)(tmps:Array Value):Prop:=tmps.size=N∧∀t,VR μ (e t) (tmps.getD t undef)
theorem cq.mono {μ μ':Mu}{N:Nat}{e:br}{tmps:Array Value}(h:cq μ N e tmps)(hμ:μ.le μ'):cq μ' N e tmps:=⟨h.1,fun t=>(h.2 t).mono hμ⟩
theorem cq.put {μ:Mu}{N:Nat}{e:br}{tmps:Array Value}(h:cq μ N e tmps)(d:Nat)(hd:d<N){v v':Value}(hv:VR μ v v'):cq μ N (e.put d v) (tmps.setIfInBounds d v'):=by
 refine⟨by simpa using h.1,fun t=> ?_⟩;unfold br.put;by_cases ht:t=d
 ·subst ht;simp[h.1,hd];exact hv
 ·rw[zF ht];have:=h.2 t;simpa[Array.getElem?_setIfInBounds_ne (fun e=>ht e.symm)]using this
theorem cq.ev {μ:Mu}{N:Nat}{e:br}{a:Act}(h:cq μ N e a.tmps){x:Operand}(hx:bq x=true):VR μ (e.ev x) (a.eval x):=by
 cases x with
 |tmp t=>exact h.2 t
 |const v=>exact VR.plain hx
 |global g=>simp[bq]at hx
 |func f=>exact .func (by simpa[bq,yt]using hx) .nil .nil
def cY (P:Program)(o:Oper)(a:Act)(w:World)(B:Base P)(μ:Mu)(v:Value)(σ':Hp):Prop:=
 ∃nx w' μ' v',(execOp a.eval o).run P w= .ok nx w'∧(nx= .value v'∨(nx= .skip∧v'=undef))∧μ.le μ'∧R B μ' σ' w'∧VR μ' v v'∧Below B w w'
section
variable {P:Program} {o:Oper} {a:Act} {w:World} {B:Base P} {N:Nat} {μ:Mu} {e:br} {σ σ':Hp} {v:Value}
theorem cY.same {v':Value}(hR:R B μ σ w)(hrun:(execOp a.eval o).run P w= .ok (.value v') w)(hv:VR μ v v'):cY P o a w B μ v σ:=
 ⟨_,w,μ,v',hrun, .inl rfl,μ.le_refl,hR,hv,Below.refl _ _⟩
theorem aj {x y:Operand}(h:nj x=some y):x=y∧bq x=true:=by
 unfold nj at h;split at h
 ·rename_i hx;exact⟨by simpa using h,hx⟩
 ·cases h
theorem bw {t:TypeId}{d:TypeDesc}(h:P.underlying t=some d)(w:World):(underlying t).run P w= .ok d w:=by simp[underlying,h]
theorem fF {t:TypeId}{n:Nat}(h:eX P t=some n)(w:World):(sizeOf t).run P w= .ok n w:=by
 obtain⟨i,hi,hn⟩:=Option.map_eq_some_iff.1 h;simp[sizeOf,typeInfo,hi,hn]
theorem vS {t:TypeId}{b:Bool}(h:qh P t=some b)(w:World):(isAgg t).run P w= .ok b w:=by
 unfold qh at h;unfold isAgg;cases hu:P.underlying t with
 |none=>simp[hu]at h
 |some d=>
  simp only[Sem.run_bind,bw hu,aC];cases d<;>simp[hu]at h<;>subst h<;>rfl
theorem fv {t:TypeId}{z:List Value}(h:gz P t=some z): ∃v,(∀w:World,(zeroValue t).run P w= .ok v w)∧cellsOf v=z∧z.all oS=true:=by
 unfold gz at h;cases hi:P.info? t with
 |none=>simp[hi]at h
 |some i=>
  cases hz:i.zero with
  |none=>simp[hi,hz]at h
  |some v=>
   simp only[hi,hz,zG]at h;split at h
   ·rename_i hp;injection h with h
    exact⟨v,fun w=>by simp[zeroValue,typeInfo,hi,hz],h,h▸hp⟩
   ·cases h
def Ku (P:Program)(t:TypeId):Option IntKind:=match(P.info? t).bind (·.zero)with
 |some (.int k 0)=>some k
 |_=>none
theorem JI {t:TypeId}{k:IntKind}(h:Ku P t=some k)(w:World):(zeroValue t).run P w= .ok (.int k 0) w:=by
 unfold Ku at h;cases hi:P.info? t with
 |none=>simp[hi]at h
 |some i=>
  cases hz:i.zero with
  |none=>simp[hi,hz]at h
  |some v=>
   simp only[hi,hz,zG]at h;split at h
   ·rename_i he;injection he with he
    injection h with h
    subst he h;simp[zeroValue,typeInfo,hi,hz]
   ·cases h
theorem VR.plainCells {μ:Mu}{z:List Value}(h:z.all oS=true):F2 (VR μ) z z:=F2.same _ fun v hv=>VR.plain1 μ v (by
 have:=List.all_eq_true.1 h v hv;unfold oS at this
 exact this)
theorem il (b o n:Nat):(⟨b,o,none⟩:Addr).add n=⟨b,o+n,none⟩:=by unfold Addr.add;split<;>simp_all
theorem R.reads {b o:Nat}{x:Blk}{g:G}(hR:R B μ σ w)(hx:σ.m b=some x)(hg:μ.at b g){n:Nat}{cs:List Value}(h:iN x o n=some cs):
  ∃cs',(∀(P:Program) (w':World),w'.heap=w.heap→(loadCells ⟨g.c,g.o+o,none⟩ n).run P w'= .ok cs'.toArray w')∧F2 (VR μ) cs cs':=by
 unfold iN at h;split at h
 ·rename_i hle;injection h with h
  subst h;have hl:=hR.get hx hg.1
  have hall: ∀j,j<n→∃v',w.cell? ⟨g.c,g.o+o+j,none⟩=some v'∧VR μ (x.cells.getD (o+j) undef) v':=by
   intro j hj;obtain⟨v',h1,h2⟩:=hl.cell hg.2 (o+j) (x.cells[o+j]'(by omega)) (aA (by omega));refine⟨v',by rw[aB];exact h1, ?_⟩;simp[List.getD,aA (show o+j<x.cells.length by omega)];exact h2
  refine⟨(List.range n).map fun j=>(w.cell? ⟨g.c,g.o+o+j,none⟩).getD undef,fun P w' hw'=> ?_, ?_⟩
  ·have:=run_loadCells (P:=P) w' ⟨g.c,g.o+o,none⟩ n (fun j=>(w.cell? ⟨g.c,g.o+o+j,none⟩).getD undef) (fun j hj=>by
    rw[il];obtain⟨v',h1,_⟩:=hall j hj;have:w'.cell? ⟨g.c,g.o+o+j,none⟩=w.cell? ⟨g.c,g.o+o+j,none⟩:=by simp[World.cell?,hw']
    rw[this]
    simp[h1])
   rw[this]
  ·refine F2.of_get _ _ (by simp;omega) fun i u u' hu hu'=> ?_
   have hi:i<n:=by
    rcases Nat.lt_or_ge i n with h3|h3
    ·exact h3
    ·rw[List.getElem?_eq_none (by simp;omega)]at hu;cases hu
   obtain⟨v',h1,h2⟩:=hall i hi
   have e1:u'=v':=by
    simp[hi,h1]at hu';exact hu'.symm
   have e2:u=x.cells.getD (o+i) undef:=by
    rw[List.getElem?_take,zE hi,List.getElem?_drop]at hu;simp[List.getD,hu]
   rw[e1,e2];exact h2
 ·cases h
theorem R.writes : ∀(vs vs':List Value),F2 (VR μ) vs vs'→(∀v∈vs,one v=true)→∀(σ:Hp) (w:World) (b o i:Nat) (x:Blk) (g:G),R B μ σ w→σ.m b=some x→x.own=true→μ.at b g→o+i+vs.length≤x.cells.length→
  ∃w',(∀P:Program,(storeCells ⟨g.c,g.o+o,none⟩ vs' i).run P w= .ok () w')∧R B μ (σ.set b (some ⟨eL x.cells (o+i) vs,x.own,x.es⟩)) w'∧Below B w w'
 |[],_,h,_,σ,w,b,o,i,x,g,hR,hx,ho,hg,hle=>by
  cases h;refine⟨w,fun P=>by simp[storeCells], ?_,Below.refl _ _⟩
  have:σ.set b (some ⟨eL x.cells (o+i) [],x.own,x.es⟩)=σ:=by
   unfold Hp.set
   have:(fun j=>if j=b then some (⟨eL x.cells (o+i) [],x.own,x.es⟩:Blk)else σ.m j)=σ.m:=by
    funext j
    split
    ·rename_i e;subst e;rw[hx];rfl
    ·rfl
   rw[this]
  rw[this];exact hR
 |v::vs,_,h,h1,σ,w,b,o,i,x,g,hR,hx,ho,hg,hle=>by
  cases h with
  |cons hv ht=>
   rename_i v' vs';simp only[List.length_cons]at hle;have hl:=hR.get hx hg.1;obtain⟨o1,o2,cur,e,fr,o4,o5,o6⟩:=hl.own hg.2 ho;have hR1:=hR.write1 hx ho hg.1 hg.2 (o+i) (by omega) hv;have hone:v'.oneCell'=true:=by rw[←hv.one_iff];exact h1 v (by simp)
   obtain⟨u,hu,_⟩:=hl.cell hg.2 (o+i) (x.cells[o+i]'(by omega)) (aA (by omega));have hfr:w.frozen? ⟨g.c,g.o+(o+i),none⟩=false:=Cy w _ _ _ _ fr o4 (by omega) o6;have hm:(σ.set b (some ⟨x.cells.set (o+i) v,x.own,x.es⟩)).m b=some ⟨x.cells.set (o+i) v,x.own,x.es⟩:=by simp[Hp.set]
   obtain⟨w',h2,h3,h4⟩:=R.writes vs vs' ht (fun y hy=>h1 y (by simp[hy])) _ _ b o (i+1) _ g hR1 hm ho hg (by simp;omega);refine⟨w',fun P=> ?_, ?_, ?_⟩
   ·have ha:(⟨g.c,g.o+o,none⟩:Addr).add i=⟨g.c,g.o+(o+i),none⟩:=by rw[il,aB]
    simp only[storeCells,Sem.run_bind,ha,run_store P w _ v' .plain hone,hu,hfr,Bool.false_eq_true,if_false,aC];exact h2 P
   ·have hs:(σ.set b (some ⟨x.cells.set (o+i) v,x.own,x.es⟩)).set b (some ⟨eL (x.cells.set (o+i) v) (o+(i+1)) vs,x.own,x.es⟩)=σ.set b (some ⟨eL x.cells (o+i) (v::vs),x.own,x.es⟩):=by
     unfold Hp.set
     have:(fun j=>if j=b then some (⟨eL (x.cells.set (o+i) v) (o+(i+1)) vs,x.own,x.es⟩:Blk)else if j=b then some ⟨x.cells.set (o+i) v,x.own,x.es⟩else σ.m j)=
       (fun j=>if j=b then some (⟨eL x.cells (o+i) (v::vs),x.own,x.es⟩:Blk)else σ.m j):=by
      funext j
      split<;>simp[eL,aB]
     simp only[this]
    rw[hs]at h3;exact h3
   ·exact((Below.refl B w).setCell o1 v').trans h4
end
end
section
open Go.RowKit
def mq (size:Nat→Option (Nat×Nat)):List (Nat×Operand)→Option (List (Nat×Nat×Operand))
 |[]=>some []
 |(i,x)::r=>match size i,nj x,mq size r with
  |some (off,n),some x,some r=>some ((off,n,x)::r)
  |_,_,_=>none
def Bk :List Operand→Option (List Operand)
 |[]=>some []
 |x::r=>match nj x,Bk r with
  |some x,some r=>some (x::r)
  |_,_=>none
def yD (P:Program)(fs:Array Field)(i:Nat):Option (Nat×Nat):=match fs[i]? with
 |some f=>(eX P f.type).map fun n=>(f.offset,n)
 |none=>none
def IP (P:Program)(f:FuncId):Bool:=match P.funcs[f]? with
 |some fn=>fn.body.isSome&& !(fn.name== "runtime.NumGoroutine")
 |none=>false
def pt (P:Program)(t:TypeId):Option Nat:=match P.underlying t with
 |some .bool=>some 0
 |some (.int _)=>some 1
 |some .string=>some 2
 |_=>none
def pu (P:Program):Nat→List Field→Option (List Nat)
 |_,[]=>some []
 |i,f::r=>if f.offset=i∧f.name≠ "_" then match pt P f.type,pu P (i+1) r with
  |some k,some ks=>some (k::ks)
  |_,_=>none
  else none
def FK (P:Program)(t:TypeId):Option (List Nat):=match P.underlying t with
 |some (.struct fs)=>if P.eqGuardType P.depth t=false∧P.stoodInHeld t=false then pu P 0 fs.toList else none
 |some (.array n e)=>if eX P e=some 1∧P.eqGuardType P.depth t=false then(pt P e).map fun k=>List.replicate n k else none
 |_=>none
def OF :TypeDesc→Option Nat
 | .bool=>some 0
 | .pointer _=>some 1
 | .slice _=>some 2
 | .func _ _ _=>some 3
 |_=>none
def In (P:Program)(op:BinOp)(t:TypeId)(x y:Operand):Option AOp:=
 match P.underlying t with
 |some (.int _)|some .string=>match nj x,nj y with
  |some x,some y=>some (.bin op x y)
  |_,_=>none
 |some (.struct _)|some (.array _ _)=>match op,FK P t,nj x,nj y with
  | .eql,some n,some x,some y=>some (.eqCells false n x y)
  | .neq,some n,some x,some y=>some (.eqCells true n x y)
  |_,_,_,_=>none
 |some d=>match OF d,op,nj x,nj y with
  |some kd, .eql,some x,some y=>some (.eqv kd false x y)
  |some kd, .neq,some x,some y=>some (.eqv kd true x y)
  |_,_,_,_=>none
 |none=>none
def sW (P:Program)(c:Call):Option AOp:=
 match c.callee with
 | .value (.func f)=>if IP P f then(Bk c.args.toList).map (.call f ·)else none
 | .value (.tmp t)=>(Bk c.args.toList).map (.callv (.tmp t) ·)
 | .builtin .append=>match c.args.toList,c.argTypes.toList with
  |[s,x],[st,xt]=>match P.underlying st,P.underlying xt,nj s,nj x with
   |some (.slice e),some (.slice _),some s,some x|some (.slice e),some .string,some s,some x=>match eX P e,GQ P e,gz P e with
    |some es,some bytes,some z=>if z.length=es then some (.append es bytes s x)else none
    |_,_,_=>none
   |some (.slice e),some (.int _),some s,some x=>match eX P e,GQ P e,gz P e with
    |some es,some bytes,some z=>if z.length=es∧0<es then some (.appendZ es bytes z s x)else none
    |_,_,_=>none
   |_,_,_,_=>none
  |_,_=>none
 | .builtin .copy=>match c.args.toList,c.argTypes.toList with
  |[d,s],dt::_=>match P.underlying dt,nj d,nj s with
   |some (.slice e),some d,some s=>match eX P e with
    |some es=>some (.copy es d s)
    |none=>none
   |_,_,_=>none
  |_,_=>none
 | .builtin .len=>match c.args.toList,c.argTypes.toList with
  |[x],t::_=>match P.underlying t,nj x with
   |some .string,some x=>some (.lenS x)
   |some (.slice _),some x=>some (.len x)
   |some (.map kt et),some x=>match P.underlying kt,P.underlying et with
    |some .string,some (.int kd)=>some (.lenM kd x)
    |_,_=>none
   |some (.array n _),_=>some (.lenC n)
   |some (.pointer arr),_=>match P.underlying arr with
    |some (.array n _)=>some (.lenC n)
    |_=>none
   |_,_=>none
  |_,_=>none
 | .builtin .cap=>match c.args.toList,c.argTypes.toList with
  |[x],[t]=>match P.underlying t,nj x with
   |some (.slice _),some x=>some (.capN x)
   |_,_=>none
  |_,_=>none
 | .builtin .max=>match c.args.toList with
  |[x,y]=>match nj x,nj y with
   |some x,some y=>some (.most x y)
   |_,_=>none
  |_=>none
 | .builtin .min=>match c.args.toList with
  |[x,y]=>match nj x,nj y with
   |some x,some y=>some (.least x y)
   |_,_=>none
  |_=>none
 |_=>none
def Ip (P:Program)(o:Oper):Option AOp:=
 match o.op with
 | .move x| .assign x=>(nj x).map .move
 | .pick c a b=>match nj c,nj a,nj b with
  |some c,some a,some b=>some (.pick c a b)
  |_,_,_=>none
 | .alloc t=>if yr P t=true then(match gz P t with
   |some [.pointer none, .slice none 0 0]=>some .newB
   |_=>none)
  else match RC P t,gz P t with
  |some es,some z=>some (.alloc es z)
  |_,_=>none
 | .box t x=>match RC P t,nj x with
  |some es,some x=>some (.box es x)
  |_,_=>none
 | .build t parts=>match P.underlying t,gz P t with
  |some (.struct fs),some z=>if fs.toList.all fun f=>(eX P f.type).isSome then(mq (yD P fs) parts.toList).map (.build z ·)else none
  |some (.array _ e),some z=>match eX P e with
   |some n=>(mq (fun i=>some (i*n,n)) parts.toList).map (.build z ·)
   |none=>none
  |_,_=>none
 | .buildSlice t len parts=>match P.underlying t with
  |some (.slice e)=>match eX P e,gz P e with
   |some n,some z=>if len*n≤16777216∧z.length=n∧0<n then(mq (fun i=>some (i*n,n)) parts.toList).map (.buildSlice n len z ·)else none
   |_,_=>none
  |_=>none
 | .load _ (.global _)=>some .stuck
 | .load t x=>match qh P t,nj x with
  |some true,some x=>(eX P t).map (.loadN · x)
  |some false,some x=>some (.load x)
  |_,_=>none
 | .store t x y=>match eX P t,nj x,nj y with
  |some n,some x,some y=>some (.store n x y)
  |_,_,_=>none
 | .nilCheck x=>(nj x).map .nilCheck
 | .binOp op t x y _=>In P op t x y
 | .unOp op _ x=>(nj x).map (.un op ·)
 | .convert s d x=>match P.underlying s,P.underlying d,nj x with
  |some (.int _),some (.int k),some x=>some (.conv k x)
  |some (.int _),some .string,some x=>some (.encR x)
  |some (.slice t),some .string,some x=>match P.underlying t with
   |some (.int .u8)=>some (.strOf x)
   |some (.int .i32)=>some (.strOfR x)
   |_=>none
  |some .string,some (.slice t),some x=>match P.underlying t with
   |some (.int .i32)=>some (.runesOf x)
   |_=>none
  |some (.slice _),some (.slice t),some x=>match P.underlying t with
   |some (.int .u8)=>if s=d then some (.mark x)else none
   |_=>none
  |_,_,_=>none
 | .range t x=>match P.underlying t,nj x with
  |some .string,some x=>some (.range x)
  |_,_=>none
 | .next x true=>(nj x).map .next
 | .makeMap t none=>match P.underlying t with
  |some (.map kt et)=>match P.underlying kt,P.underlying et with
   |some .string,some (.int kd)=>some (.makeM kd)
   |_,_=>none
  |_=>none
 | .lookup t x i ok=>match P.underlying t,nj x,nj i with
  |some (.map kt et),some x,some i=>match P.underlying kt,Ku P et with
   |some .string,some kd=>some (.lookM kd ok x i)
   |_,_=>none
  |_,_,_=>none
 | .mapUpdate t x i v=>match P.underlying t,nj x,nj i,nj v with
  |some (.map kt et),some x,some i,some v=>match P.underlying kt,P.underlying et with
   |some .string,some (.int kd)=>some (.updM kd x i v)
   |_,_=>none
  |_,_,_,_=>none
 | .makeFunc (.func f) first captured=>match Bk first.toList,Bk captured.toList with
  |some xs,some ys=>some (.mkFunc f xs ys)
  |_,_=>none
 | .makeSlice t l c=>match P.underlying t with
  |some (.slice e)=>match eX P e,GQ P e,gz P e,nj l,nj c with
   |some n,some by_,some z,some l,some c=>if z.length=n∧0<n then some (.makeSlice n by_ z l c)else none
   |_,_,_,_,_=>none
  |_=>none
 | .slice t x lo hi none=>match P.underlying t,nj x,Pd lo,Pd hi with
  |some (.slice e),some x,some lo,some hi=>(eX P e).map (.slice · x lo hi)
  |some .string,some x,some lo,some hi=>some (.sliceStr x lo hi)
  |some (.array n e),some x,some lo,some hi=>(eX P e).map (.sliceArr · n x lo hi)
  |_,_,_,_=>none
 | .fieldAddr s x i=>match P.underlying s,nj x with
  |some (.struct fs),some x=>match fs[i]? with
   |some f=>match eX P f.type with
    |some n=>if n=0 then none else some (.off f.offset x)
    |none=>none
   |none=>none
  |_,_=>none
 | .field t x i=>match P.underlying t,nj x with
  |some (.struct fs),some x=>match fs[i]? with
   |some f=>match eX P f.type,qh P f.type with
    |some n,some b=>some (.fieldV f.offset n b x)
    |_,_=>none
   |none=>none
  |_,_=>none
 | .indexAddr t x i=>match P.underlying t,nj x,nj i with
  |some (.slice e),some x,some i=>(eX P e).map (.idx · x i)
  |some (.array n e),some x,some i=>(eX P e).map (.idxA n · x i)
  |_,_,_=>none
 | .index t x i=>match P.underlying t,nj x,nj i with
  |some (.array n e),some x,some i=>match eX P e,qh P e with
   |some s,some b=>some (.indexV n s b x i)
   |_,_=>none
  |some .string,some x,some i=>some (.indexS x i)
  |_,_,_=>none
 | .slice t x none (some hi) (some mx)=>match P.underlying t,nj x,nj hi,nj mx with
  |some (.slice d),some x,some hi,some mx=>if(eX P d).isSome then some (.sliceX x hi mx)else none
  |_,_,_,_=>none
 | .extract x i=>(nj x).map (.extract · i)
 | .call c=>sW P c
 | .makeInterface _ _| .panic _=>some .stuck
 |_=>none
section
variable {P:Program} {o:Oper} {a:Act} {w:World} {B:Base P} {N:Nat} {μ:Mu} {e:br} {σ σ':Hp} {v:Value}
theorem Kg {x:Operand}(ho:o.op= .move x∨o.op= .assign x)(hx:bq x=true)(hr:(AOp.move x).run e σ=some (v,σ'))(he:cq μ N e a.tmps)(hR:R B μ σ w):cY P o a w B μ v σ':=by
 simp only[AOp.run,Option.some.injEq,Prod.mk.injEq]at hr;obtain⟨rfl,rfl⟩:=hr;rcases ho with ho|ho<;>exact .same hR (by simp[execOp,ho]) (he.ev hx)
theorem VR.bool_inv {b:Bool}{v':Value}(h:VR μ (.bool b) v'):v'= .bool b:=by cases h;rfl
theorem VR.int_inv {k:IntKind}{n:Int}{v':Value}(h:VR μ (.int k n) v'):v'= .int k n:=by cases h;rfl
theorem VR.string_inv {s:ByteArray}{v':Value}(h:VR μ (.string s) v'):v'= .string s:=by cases h;rfl
theorem Pa {c x y:Operand}(ho:o.op= .pick c x y)(hc:bq c=true)(hx:bq x=true)(hy:bq y=true)(hr:(AOp.pick c x y).run e σ=some (v,σ'))(he:cq μ N e a.tmps)(hR:R B μ σ w):cY P o a w B μ v σ':=by
 have h:=he.ev hc;simp only[AOp.run]at hr;split at hr
 ·rename_i hb;rw[hb]at h;have hb':=h.bool_inv;simp only[Option.some.injEq,Prod.mk.injEq]at hr;obtain⟨rfl,rfl⟩:=hr;exact .same hR (by simp[execOp,ho,hb',asBool]) (he.ev hx)
 ·rename_i hb;rw[hb]at h;have hb':=h.bool_inv;simp only[Option.some.injEq,Prod.mk.injEq]at hr;obtain⟨rfl,rfl⟩:=hr;exact .same hR (by simp[execOp,ho,hb',asBool]) (he.ev hy)
 ·cases hr
theorem cY.new (hR:R B μ σ w)(cur:Array Value)(t:TypeId)(cells:List Value)(es:Nat)(v':Value)(hc:F2 (VR μ) cells cur.toList)
  (hrun:(execOp a.eval o).run P w= .ok (.value v') (w.alloc (.cells cur t)))
  (hv:(μ.add σ.n ⟨w.heap.size,0,cur.size,es,t,none⟩).at σ.n ⟨w.heap.size,0,cur.size,es,t,none⟩→VR (μ.add σ.n ⟨w.heap.size,0,cur.size,es,t,none⟩) v v'):cY P o a w B μ v (σ.add ⟨cells,true,es⟩):=by
 have hlen:cells.length=cur.size:=by simpa using hc.length
 obtain⟨h1,h2⟩:=hR.add cur t cells es (by omega) (by rw[hlen,←Array.length_toList,List.take_length];exact hc);exact⟨_,_,_,v',hrun, .inl rfl,h2,h1,hv ⟨by simp[Mu.add],rfl⟩,(Below.refl _ _).alloc hR.base _⟩
theorem MX {t:TypeId}{es:Nat}{z:List Value}(ho:o.op= .alloc t)(hz:gz P t=some z)(hr:(AOp.alloc es z).run e σ=some (v,σ'))(hR:R B μ σ w):cY P o a w B μ v σ':=by
 obtain⟨z',h1,h2,h3⟩:=fv hz;simp only[AOp.run,Option.some.injEq,Prod.mk.injEq]at hr;obtain⟨rfl,rfl⟩:=hr;refine .new hR z'.cells t z es (.pointer (some ⟨w.heap.size,0,none⟩)) ?_ ?_ (fun h=> .ptr (o:=0) h)
 ·have:z=z'.cells.toList:=h2.symm;rw[this];rw[this]at h3;exact VR.plainCells h3
 ·simp[execOp,ho,Instr.alloc,h1,newVar,newRow]
theorem QJ {t:TypeId}{es:Nat}{x:Operand}(ho:o.op= .box t x)(hx:bq x=true)(hr:(AOp.box es x).run e σ=some (v,σ'))(he:cq μ N e a.tmps)(hR:R B μ σ w):cY P o a w B μ v σ':=by
 simp only[AOp.run]at hr;split at hr
 ·simp only[Option.some.injEq,Prod.mk.injEq]at hr;obtain⟨rfl,rfl⟩:=hr;refine .new hR (a.eval x).cells t _ es (.pointer (some ⟨w.heap.size,0,none⟩)) (he.ev hx).cells ?_ (fun h=> .ptr (o:=0) h);simp[execOp,ho,Instr.box,newVar,newRow]
 ·cases hr
theorem VR.ptr_inv {b n:Nat}{v':Value}(h:VR μ (.pointer (some ⟨b,n,none⟩)) v'): ∃g,μ.at b g∧v'= .pointer (some ⟨g.c,g.o+n,none⟩):=by
 cases h with
 |ptr h=>exact⟨_,h,rfl⟩
theorem O5 {t:TypeId}{x:Operand}(ho:o.op= .load t x)(ht:qh P t=some false)(hx:bq x=true)(hr:(AOp.load x).run e σ=some (v,σ'))(he:cq μ N e a.tmps)(hR:R B μ σ w):cY P o a w B μ v σ':=by
 have h:=he.ev hx;simp only[AOp.run]at hr;split at hr
 ·rename_i b n hb;rw[hb]at h;obtain⟨g,hg,hv⟩:=h.ptr_inv;split at hr
  ·rename_i blk hblk;obtain⟨u,hu,hr⟩:=Option.map_eq_some_iff.1 hr;simp only[Prod.mk.injEq]at hr;obtain⟨rfl,rfl⟩:=hr;obtain⟨u',h1,h2⟩:=(hR.get hblk hg.1).cell hg.2 n u hu;refine .same hR ?_ h2;simp[execOp,ho,Instr.loadAt,Instr.sureAddr,hv,loadVar,vS ht,h1]
  ·cases hr
 ·cases hr
theorem M1 {t:TypeId}{x:Operand}{n:Nat}(ho:o.op= .load t x)(ht:qh P t=some true)(hn:eX P t=some n)(hx:bq x=true)(hr:(AOp.loadN n x).run e σ=some (v,σ'))(he:cq μ N e a.tmps)(hR:R B μ σ w):cY P o a w B μ v σ':=by
 have h:=he.ev hx;simp only[AOp.run]at hr;split at hr
 ·rename_i b n hb;rw[hb]at h;obtain⟨g,hg,hv⟩:=h.ptr_inv;split at hr
  ·rename_i blk hblk;obtain⟨cs,hcs,hr⟩:=Option.map_eq_some_iff.1 hr;simp only[Prod.mk.injEq]at hr;obtain⟨rfl,rfl⟩:=hr;obtain⟨cs',h1,h2⟩:=hR.reads hblk hg hcs;refine .same hR ?_ (.agg h2);simp[execOp,ho,Instr.loadAt,Instr.sureAddr,hv,loadVar,vS ht,fF hn,h1 P w rfl]
  ·cases hr
 ·cases hr
theorem M6 {t:TypeId}{x y:Operand}{n:Nat}(ho:o.op= .store t x y)(hn:eX P t=some n)(hx:bq x=true)(hy:bq y=true)(hr:(AOp.store n x y).run e σ=some (v,σ'))(he:cq μ N e a.tmps)(hR:R B μ σ w):cY P o a w B μ v σ':=by
 have h:=he.ev hx;have hcs:=(he.ev hy).cells;simp only[AOp.run]at hr;split at hr
 ·rename_i b off hb;rw[hb]at h;obtain⟨g,hg,hv⟩:=h.ptr_inv;split at hr
  ·rename_i hsz;split at hr
   ·rename_i blk hblk;unfold qO at hr;split at hr
    ·rename_i blk' hw;split at hw
     ·rename_i hc;obtain⟨hown,hle,hall⟩:=hc;injection hw with hw
      subst hw;simp only[Option.some.injEq,Prod.mk.injEq]at hr;obtain⟨rfl,rfl⟩:=hr;obtain⟨w',h1,h2,h3⟩:=R.writes _ _ hcs (fun u hu=>List.all_eq_true.1 hall u hu) σ w b off 0 blk g hR hblk hown hg hle;refine⟨.skip,w',μ,undef, ?_, .inr ⟨rfl,rfl⟩,μ.le_refl,h2,VR.undef μ,h3⟩;have hs:(a.eval y).cells.size=n:=by rw[←hsz,hcs.length];simp
      simp[execOp,ho,Instr.storeAt,Instr.sureAddr,hv,storeVar,fF hn,hs,h1]
     ·cases hw
    ·cases hr
   ·cases hr
  ·cases hr
 ·cases hr
theorem Hw {x:Operand}(ho:o.op= .nilCheck x)(hx:bq x=true)(hr:(AOp.nilCheck x).run e σ=some (v,σ'))(he:cq μ N e a.tmps)(hR:R B μ σ w):cY P o a w B μ v σ':=by
 have h:=he.ev hx;simp only[AOp.run]at hr;split at hr
 ·rename_i b hb;simp only[Option.some.injEq,Prod.mk.injEq]at hr;obtain⟨rfl,rfl⟩:=hr;rw[hb]at h;generalize hv:a.eval x=u at h;cases h with
  |ptr h'=>exact .same hR (by simp[execOp,ho,hv]) (.ptr h')
 ·rename_i f p q hb;split at hr
  ·cases hr
  rename_i hmp;simp only[Option.some.injEq,Prod.mk.injEq]at hr;obtain⟨rfl,rfl⟩:=hr;rw[hb]at h;obtain⟨p',q',hv,h1,h2⟩:=h.func_inv (by simpa[yt]using hmp);exact .same hR (by simp[execOp,ho,hv]) (.func (by simpa[yt]using hmp) h1 h2)
 ·cases hr
end
end
section
open List renaming drop_drop → aA, getElem?_drop → aC
open Nat renaming add_comm → aB
open Go.RowKit
section
variable {P:Program} {o:Oper} {a:Act} {w:World} {B:Base P} {N:Nat} {μ:Mu} {e:br} {σ σ':Hp} {v:Value}
theorem N5 (op:BinOp)(t:TypeId)(x y z:Value)(h:qG op x y=some z)(w:World)(ox oy:Operand):
  (eqGuard op t ox oy x y).run P w= .ok () w∧(binOp op t x y).run P w= .ok z w:=by
 cases x with
 |int k m=>cases y with
  |int k' n=>
   simp only[qG]at h;by_cases hs:mn op=true
   ·rw[zE hs]at h;unfold Dk at h;split at h
    ·cases h
    ·rename_i hn;cases op<;>simp[mn]at hs<;>simp at h<;>subst h<;>simp[eqGuard,binOp,Op.shift,hn]
   ·rw[zF hs]at h;split at h
    ·rename_i hk;subst hk;cases op<;>simp[mn]at hs<;>simp[J0]at h
     all_goals first
      |(obtain⟨h1,h2⟩:=h;subst h2;simp[eqGuard,binOp,Op.intDiv,h1])
      |(subst h;simp[eqGuard,binOp,Op.intArith,Op.intBits,Op.intCmp])
    ·cases h
  |_=>simp[qG]at h
 |string s=>cases y with
  |string s'=>
   simp only[qG]at h;split at h
   ·cases h
   ·rename_i hs;cases op<;>simp[mn]at hs<;>simp[Kp]at h
    all_goals first
     |(obtain⟨h1,h2⟩:=h;subst h2;simp[eqGuard,binOp,Op.stringOp];omega)
     |(subst h;simp[eqGuard,binOp,Op.stringOp])
  |_=>simp[qG]at h
 |_=>simp[qG]at h
theorem N6 {op:BinOp}{x y x' y' z:Value}(h:qG op x y=some z)(hx:VR μ x x')(hy:VR μ y y'):x'=x∧y'=y:=by
 cases x with
 |int k m=>cases y with
  |int k' n=>exact⟨hx.int_inv,hy.int_inv⟩
  |_=>simp[qG]at h
 |string s=>cases y with
  |string s'=>exact⟨hx.string_inv,hy.string_inv⟩
  |_=>simp[qG]at h
 |_=>simp[qG]at h
theorem IG {op:BinOp}{x y z:Value}(h:qG op x y=some z):VR μ z z:=by
 cases x with
 |int k m=>cases y with
  |int k' n=>
   simp only[qG]at h;split at h
   ·unfold Dk at h;split at h
    ·cases h
    ·cases op<;>simp at h<;>subst h<;>exact .int _ _
   ·split at h
    ·cases op<;>simp[J0]at h
     all_goals first
      |(obtain⟨_,h2⟩:=h;subst h2;exact .int _ _)
      |(subst h;first|exact .int _ _|exact .bool _)
    ·cases h
  |_=>simp[qG]at h
 |string s=>cases y with
  |string s'=>
   simp only[qG]at h;split at h
   ·cases h
   ·cases op<;>simp[Kp]at h
    all_goals first
     |(obtain⟨_,h2⟩:=h;subst h2;exact .string _)
     |(subst h;first|exact .string _|exact .bool _)
  |_=>simp[qG]at h
 |_=>simp[qG]at h
theorem MY {op:BinOp}{t t':TypeId}{x y:Operand}(ho:o.op= .binOp op t x y t')(hx:bq x=true)(hy:bq y=true)(hr:(AOp.bin op x y).run e σ=some (v,σ'))(he:cq μ N e a.tmps)(hR:R B μ σ w):cY P o a w B μ v σ':=by
 simp only[AOp.run]at hr;obtain⟨z,hz,hr⟩:=Option.map_eq_some_iff.1 hr;simp only[Prod.mk.injEq]at hr;obtain⟨rfl,rfl⟩:=hr;obtain⟨h1,h2⟩:=N6 hz (he.ev hx) (he.ev hy);refine .same hR ?_ (IG hz);obtain⟨k1,k2⟩:=N5 (P:=P) op t _ _ _ hz w x y;simp[execOp,ho,h1,h2,k1,k2]
theorem IS (op:BinOp)(t:TypeId)(ox oy:Operand)(x y:Value)(h1: ¬(x= .nilIface∧y= .nilIface))(h2: ∀a b,¬(x= .agg a∧y= .agg b))(w:World):(eqGuard op t ox oy x y).run P w= .ok () w:=by
 unfold eqGuard
 cases op<;>first
  |rfl
  |(cases x<;>cases y<;>first
    |rfl
    |exact absurd ⟨rfl,rfl⟩ h1
    |exact absurd ⟨rfl,rfl⟩ (h2 _ _))
set_option maxHeartbeats 1000000 in
theorem Oo {t:TypeId}{d:TypeDesc}{kd:Nat}(hd:P.underlying t=some d)(hk:OF d=some kd){x y x' y':Value}{b:Bool}(h:G6 kd x y=some b)(hx:VR μ x x')(hy:VR μ y y')(w:World):
  (Op.equal t x' y').run P w= .ok b w:=by
 unfold Op.equal Op.maxDepth;rw[show(10000:Nat)=9999+1 from rfl,Op.equalIn];simp only[Sem.run_bind,bw hd,Result.andThen_ok];cases d<;>simp[OF]at hk<;>subst hk
 all_goals (cases hx<;>cases hy<;>simp[G6,LN,OD, *]at h<;>simp[←h])
theorem Oq {kd:Nat}{x y x' y':Value}{b:Bool}(h:G6 kd x y=some b)(hx:VR μ x x')(hy:VR μ y y')(t:TypeId)(neg:Bool)(w:World)(hq:(Op.equal t x' y').run P w= .ok b w):
  (binOp (if neg then .neq else .eql) t x' y').run P w= .ok (.bool (b !=neg)) w∧(∀ox oy op,(eqGuard op t ox oy x' y').run P w= .ok () w):=by
 refine⟨?_,fun ox oy op=>IS op t ox oy x' y' ?_ ?_ w⟩
 ·have:binOp (if neg then .neq else .eql) t x' y'=(Op.equal t x' y' >>=fun q=>pure (.bool (if neg then !q else q))):=by
   cases hx<;>cases hy<;>first
    |(cases neg<;>rfl)
    |(unfold G6 at h;split at h<;>simp_all)
  rw[this];cases neg<;>simp[hq]
 ·rintro⟨rfl,rfl⟩;cases hx;unfold G6 at h;split at h<;>simp_all
 ·rintro p q ⟨rfl,rfl⟩;cases hx;unfold G6 at h;split at h<;>simp_all
theorem MZ {t t':TypeId}{d:TypeDesc}{kd:Nat}{neg:Bool}{op:BinOp}{x y:Operand}(ho:o.op= .binOp op t x y t')(hop:op=if neg then .neq else .eql)(hd:P.underlying t=some d)(hk:OF d=some kd)(hx:bq x=true)(hy:bq y=true)(hr:(AOp.eqv kd neg x y).run e σ=some (v,σ'))(he:cq μ N e a.tmps)(hR:R B μ σ w):cY P o a w B μ v σ':=by
 simp only[AOp.run]at hr;obtain⟨b,hz,hr⟩:=Option.map_eq_some_iff.1 hr;simp only[Prod.mk.injEq]at hr;obtain⟨rfl,rfl⟩:=hr;have hq:=Oo hd hk hz (he.ev hx) (he.ev hy) w;obtain⟨k1,k2⟩:=Oq hz (he.ev hx) (he.ev hy) t neg w hq;refine .same hR ?_ (.bool _);simp[execOp,ho,hop,k1,k2]
theorem Ax {t:TypeId}{kd:Nat}(hf:pt P t=some kd){x y x' y':Value}{b:Bool}(h:mZ kd x y=some b)(hx:VR μ x x')(hy:VR μ y y')(d:Nat)(w:World):
  (Op.equalIn (d+1) t x' y').run P w= .ok b w:=by
 unfold pt at hf;cases hu:P.underlying t with
 |none=>simp[hu]at hf
 |some dd=>
  cases dd<;>simp[hu]at hf<;>subst hf
  all_goals
   cases hx<;>cases hy<;>simp[mZ,LN]at h
  ·simp[run_equalIn_bool _ _ _ _ _ hu,←h]
  ·obtain⟨rfl,rfl⟩:=h;simp[run_equalIn_int _ _ _ _ _ _ _ hu]
  ·simp[run_equalIn_string _ _ _ _ _ hu,←h]
theorem rp {t:TypeId}{kd:Nat}(hf:pt P t=some kd):qh P t=some false:=by
 unfold pt at hf;unfold qh;split at hf<;>simp_all
theorem lZ {t:TypeId}(h:qh P t=some false){cs:Array Value}{i:Nat}{v:Value}(hv:cs[i]?=some v)(w:World):(part t cs i).run P w= .ok v w:=by
 simp[part,vS h,hv]
theorem Ay (w:World)(d:Nat)(xs ys:Array Value): ∀(fs:List Field) (i:Nat) (ks:List Nat) (l m:List Value) (b:Bool),pu P i fs=some ks→dT ks l m=some b→
  F2 (VR μ) l (xs.toList.drop i)→F2 (VR μ) m (ys.toList.drop i)→(Op.eqFields (d+1) xs ys fs).run P w= .ok b w
 |[],i,ks,l,m,b,hf,h,_,_=>by
  simp[pu]at hf;subst hf;cases l<;>cases m<;>simp[dT]at h;subst h;simp[Op.eqFields]
 |f::fs,i,ks,l,m,b,hf,h,hl,hm=>by
  simp only[pu]at hf;split at hf
  ·rename_i hc;split at hf
   ·rename_i k ks' h1 h2;injection hf with hf
    subst hf;cases l with
    |nil=>simp[dT]at h
    |cons x l=>cases m with
     |nil=>simp[dT]at h
     |cons y m=>
      simp only[dT]at h;obtain⟨x',hx,rx⟩:=hl.get 0 x rfl;obtain⟨y',hy,ry⟩:=hm.get 0 y rfl;rw[aC]at hx hy;have hx':xs[i]?=some x':=by simpa using hx
      have hy':ys[i]?=some y':=by simpa using hy
      have tl:F2 (VR μ) l (xs.toList.drop (i+1)):=by
       have:=hl.drop 1;simpa[aA,aB]using this
      have tm:F2 (VR μ) m (ys.toList.drop (i+1)):=by
       have:=hm.drop 1;simpa[aA,aB]using this
      have ih:=Ay w d xs ys fs (i+1) ks' l m;cases he:mZ k x y with
      |none=>simp[he]at h
      |some q=>
       have:=Ax (P:=P) h1 he rx ry d w;cases q with
       |true=>
        simp only[he]at h;simp[Op.eqFields,hc.2,lZ (rp h1),hc.1,hx',hy',this,ih b h2 h tl tm]
       |false=>
        simp[he]at h;simp[Op.eqFields,hc.2,lZ (rp h1),hc.1,hx',hy',this,←h]
   ·cases hf
  ·cases hf
theorem G5 (w:World)(d:Nat)(e:TypeId)(k:Nat)(hk:pt P e=some k)(xs ys:Array Value): ∀(n i:Nat) (l m:List Value) (b:Bool),dT (List.replicate n k) l m=some b→
  F2 (VR μ) l (xs.toList.drop i)→F2 (VR μ) m (ys.toList.drop i)→
  (forIn (List.range' i n) ((none,()):Option Bool×Unit) fun j (_:Option Bool×Unit)=>(do
    let a←part e xs (j*1)
    let c←part e ys (j*1)
    let q←Op.equalIn (d+1) e a c
    if(!q)=true then pure (ForInStep.done (some false,()))else pure (ForInStep.yield (none,())):Sem (ForInStep (Option Bool×Unit)))).run P w= .ok (if b then none else some false,()) w
 |0,i,l,m,b,h,_,_=>by
  cases l<;>cases m<;>simp[dT]at h;subst h;simp
 |n+1,i,l,m,b,h,hl,hm=>by
  rw[List.replicate_succ]at h;cases l with
  |nil=>simp[dT]at h
  |cons x l=>cases m with
   |nil=>simp[dT]at h
   |cons y m=>
    simp only[dT]at h;obtain⟨x',hx,rx⟩:=hl.get 0 x rfl;obtain⟨y',hy,ry⟩:=hm.get 0 y rfl;rw[aC]at hx hy;have hx':xs[i]?=some x':=by simpa using hx
    have hy':ys[i]?=some y':=by simpa using hy
    have tl:F2 (VR μ) l (xs.toList.drop (i+1)):=by
     have:=hl.drop 1;simpa[aA,aB]using this
    have tm:F2 (VR μ) m (ys.toList.drop (i+1)):=by
     have:=hm.drop 1;simpa[aA,aB]using this
    have ih:=G5 w d e k hk xs ys n (i+1) l m;cases he:mZ k x y with
    |none=>simp[he]at h
    |some q=>
     have h2:=Ax (P:=P) hk he rx ry d w;rw[List.range'_succ,List.forIn_cons];cases q with
     |true=>
      simp only[he]at h;have h3:=ih b h tl tm;simp only[Nat.mul_one]at h3⊢;simp[lZ (rp hk) hx',lZ (rp hk) hy',h2,Result.andThen];simpa using h3
     |false=>
      simp[he]at h;simp[lZ (rp hk) hx',lZ (rp hk) hy',h2,←h]
end
end
section
open Nat renaming add_assoc → aA
open Result renaming andThen_ok → aB
open Go.RowKit
section
variable {P:Program} {o:Oper} {a:Act} {w:World} {B:Base P} {N:Nat} {μ:Mu} {e:br} {σ σ':Hp} {v:Value}
theorem VR.agg_inv {p:Array Value}{v':Value}(h:VR μ (.agg p) v'): ∃q,v'= .agg q∧F2 (VR μ) p.toList q.toList:=by
 cases h with
 |agg h=>exact⟨_,rfl,h⟩
theorem C8 {t:TypeId}{ks:List Nat}(hf:FK P t=some ks){p q p' q':Array Value}{b:Bool}(h:dT ks p.toList q.toList=some b)(hp:F2 (VR μ) p.toList p'.toList)(hq:F2 (VR μ) q.toList q'.toList)(w:World):
  (Op.equal t (.agg p') (.agg q')).run P w= .ok b w∧P.eqGuardType P.depth t=false:=by
 unfold FK at hf;unfold Op.equal Op.maxDepth;rw[show(10000:Nat)=9998+1+1 from rfl];cases hu:P.underlying t with
 |none=>simp[hu]at hf
 |some dd=>
  cases dd<;>simp[hu]at hf
  case struct fs=>
   obtain⟨⟨h1,h2⟩,h3⟩:=hf;have hfs:P.fieldsOf t=fs:=by simp[Program.fieldsOf,hu]
   rw[run_equalIn_struct w _ t p' q' (by rw[hfs,hu]) h2,hfs];exact⟨Ay w 9998 p' q' fs.toList 0 ks _ _ b h3 h (by simpa using hp) (by simpa using hq),h1⟩
  case array n e=>
   obtain⟨⟨h1,h2⟩,k,h3,h4⟩:=hf;subst h4;refine⟨?_,h2⟩;have:=G5 (P:=P) w 9998 e k h3 p' q' n 0 _ _ b h (by simpa using hp) (by simpa using hq);rw[Op.equalIn];simp only[Sem.run_bind,bw hu,aB,fF h1];cases b<;>simp at this⊢ <;>rw[this]<;>rfl
theorem sQ {t t':TypeId}{ks:List Nat}{neg:Bool}{op:BinOp}{x y:Operand}(ho:o.op= .binOp op t x y t')(hop:op=if neg then .neq else .eql)(hf:FK P t=some ks)(hx:bq x=true)(hy:bq y=true)(hr:(AOp.eqCells neg ks x y).run e σ=some (v,σ'))(he:cq μ N e a.tmps)(hR:R B μ σ w):cY P o a w B μ v σ':=by
 simp only[AOp.run]at hr;split at hr
 ·rename_i p q hp hq;obtain⟨b,hz,hr⟩:=Option.map_eq_some_iff.1 hr;simp only[Prod.mk.injEq]at hr;obtain⟨rfl,rfl⟩:=hr;have h1:=he.ev hx;have h2:=he.ev hy;rw[hp]at h1;rw[hq]at h2;obtain⟨p',e1,r1⟩:=h1.agg_inv;obtain⟨q',e2,r2⟩:=h2.agg_inv;obtain⟨k1,k2⟩:=C8 hf hz r1 r2 w;refine .same hR ?_ (.bool _);have k3:=fun ox oy=>run_eqGuard_agg (P:=P) w op t ox oy p' q' k2
  simp only[execOp,ho,e1,e2,Sem.run_bind,k3,aB];cases neg<;>simp[hop,binOp,k1]
 ·cases hr
theorem RM {t:TypeId}{op:UnOp}{x:Operand}(ho:o.op= .unOp op t x)(hx:bq x=true)(hr:(AOp.un op x).run e σ=some (v,σ'))(he:cq μ N e a.tmps)(hR:R B μ σ w):cY P o a w B μ v σ':=by
 simp only[AOp.run]at hr;obtain⟨z,hz,hr⟩:=Option.map_eq_some_iff.1 hr;simp only[Prod.mk.injEq]at hr;obtain⟨rfl,rfl⟩:=hr;have h:=he.ev hx;generalize e.ev x=u at*;cases u<;>cases op<;>simp[TN]at hz
 ·subst hz;have:=h.bool_inv;exact .same hR (by simp[execOp,ho,this,Op.unary]) (.bool _)
 ·subst hz;have:=h.int_inv;exact .same hR (by simp[execOp,ho,this,Op.unary,Op.intArith]) (.int _ _)
 ·subst hz;have:=h.int_inv;exact .same hR (by simp[execOp,ho,this,Op.unary,Op.intBits]) (.int _ _)
theorem OZ {s d:TypeId}{k k':IntKind}{x:Operand}(ho:o.op= .convert s d x)(hs:P.underlying s=some (.int k'))(hd:P.underlying d=some (.int k))(hx:bq x=true)(hr:(AOp.conv k x).run e σ=some (v,σ'))(he:cq μ N e a.tmps)(hR:R B μ σ w):cY P o a w B μ v σ':=by
 simp only[AOp.run]at hr;obtain⟨n,hn,hr⟩:=Option.map_eq_some_iff.1 hr;simp only[Prod.mk.injEq]at hr;obtain⟨rfl,rfl⟩:=hr;have h:=he.ev hx;generalize e.ev x=u at*;cases u<;>simp[Mt]at hn;subst hn;have:=h.int_inv;exact .same hR (by simp[execOp,ho,this,convert,bw hs,bw hd,Conv.intToInt]) (.int _ _)
theorem ym (he:cq μ N e a.tmps): ∀{xs ys:List Operand},Bk xs=some ys→F2 (VR μ) (ys.map e.ev) (xs.map a.eval)
 |[],ys,h=>by simp[Bk]at h;subst h;exact .nil
 |x::xs,ys,h=>by
  simp only[Bk]at h;split at h
  ·rename_i x' r h1 h2;injection h with h
   subst h;obtain⟨rfl,h3⟩:=aj h1;exact .cons (he.ev h3) (ym he h2)
  ·cases h
theorem La {f:FuncId}{first captured:Array Operand}{xs cs:List Operand}(ho:o.op= .makeFunc (.func f) first captured)(h0:Bk first.toList=some xs)(hc:Bk captured.toList=some cs)(hr:(AOp.mkFunc f xs cs).run e σ=some (v,σ'))(he:cq μ N e a.tmps)(hR:R B μ σ w):cY P o a w B μ v σ':=by
 simp only[AOp.run]at hr;split at hr
 ·cases hr
 rename_i hmp;simp only[Option.some.injEq,Prod.mk.injEq]at hr;obtain⟨rfl,rfl⟩:=hr;refine .same hR (v':= .func (.func f) (first.map a.eval) (captured.map a.eval)) (by simp[execOp,ho,Instr.makeFunc]) (.func (by simpa[yt]using hmp) ?_ ?_)
 ·simpa using ym he h0
 ·simpa using ym he hc
theorem QM {t:TypeId}{i n:Nat}{x:Operand}{fs:Array Field}{f:Field}(ho:o.op= .fieldAddr t x i)(hu:P.underlying t=some (.struct fs))(hi:fs[i]?=some f)(hn:eX P f.type=some n)(h0:n≠0)(hx:bq x=true)(hr:(AOp.off f.offset x).run e σ=some (v,σ'))(he:cq μ N e a.tmps)(hR:R B μ σ w):cY P o a w B μ v σ':=by
 have h:=he.ev hx;simp only[AOp.run]at hr;split at hr
 ·rename_i b off hb;simp only[Option.some.injEq,Prod.mk.injEq]at hr;obtain⟨rfl,rfl⟩:=hr;rw[hb]at h;obtain⟨g,hg,hv⟩:=h.ptr_inv;refine .same hR (v':= .pointer (some ⟨g.c,g.o+(off+f.offset),none⟩)) ?_ (.ptr hg);simp[execOp,ho,Instr.fieldAt,bw hu,hi,hv,Instr.sureAddr,fieldPlace,fF hn,h0,il,aA]
 ·cases hr
theorem VR.slice_inv {b n l c:Nat}{v':Value}(h:VR μ (.slice (some ⟨b,n,none⟩) l c) v'):
  (∃g c',μ.at b g∧l≤c∧c≤c'∧n+c'*g.es≤g.ext∧v'= .slice (some ⟨g.c,g.o+n,none⟩) l c')∨(l=0∧c=0∧∃A',v'= .slice (some A') 0 0∧∃g,μ.at b g):=by
 cases h with
 |slice h1 h2 h3 h4=>exact .inl ⟨_,_,h1,h2,h3,h4,rfl⟩
 |slice0 A' h=>exact .inr ⟨rfl,rfl,A',rfl,_,h⟩
theorem QK {t d:TypeId}{n:Nat}{x i:Operand}(ho:o.op= .indexAddr t x i)(hu:P.underlying t=some (.slice d))(hn:eX P d=some n)(hx:bq x=true)(hi:bq i=true)(hr:(AOp.idx n x i).run e σ=some (v,σ'))(he:cq μ N e a.tmps)(hR:R B μ σ w):cY P o a w B μ v σ':=by
 have h:=he.ev hx;have h':=he.ev hi;simp only[AOp.run]at hr;split at hr
 ·rename_i b off l c k j hb hj;split at hr
  ·rename_i hlt;simp only[Option.some.injEq,Prod.mk.injEq]at hr;obtain⟨rfl,rfl⟩:=hr;rw[hb]at h;rw[hj]at h';have hj':=h'.int_inv;rcases h.slice_inv with⟨g,c',hg,_,_,_,hv⟩|⟨rfl,_⟩
   ·refine .same hR (v':= .pointer (some ⟨g.c,g.o+(off+j.toNat*n),none⟩)) ?_ (.ptr hg);simp[execOp,ho,Instr.indexAt,bw hu,hv,hj',asIntOf,hlt,fF hn,il,aA]
   ·omega
  ·cases hr
 ·cases hr
theorem O2 {t d:TypeId}{m n:Nat}{x i:Operand}(ho:o.op= .indexAddr t x i)(hu:P.underlying t=some (.array m d))(hn:eX P d=some n)(hx:bq x=true)(hi:bq i=true)(hr:(AOp.idxA m n x i).run e σ=some (v,σ'))(he:cq μ N e a.tmps)(hR:R B μ σ w):cY P o a w B μ v σ':=by
 have h:=he.ev hx;have h':=he.ev hi;simp only[AOp.run]at hr;split at hr
 ·rename_i b off k j hb hj;split at hr
  ·rename_i hlt;simp only[Option.some.injEq,Prod.mk.injEq]at hr;obtain⟨rfl,rfl⟩:=hr;rw[hb]at h;rw[hj]at h';have hj':=h'.int_inv;obtain⟨g,hg,hv⟩:=h.ptr_inv;refine .same hR (v':= .pointer (some ⟨g.c,g.o+(off+j.toNat*n),none⟩)) ?_ (.ptr hg);simp[execOp,ho,Instr.indexAt,Instr.sureAddr,bw hu,hv,hj',asIntOf,hlt,fF hn,il,aA]
  ·cases hr
 ·cases hr
theorem HY {t:TypeId}{b:Bool}{n i:Nat}(hb:qh P t=some b)(hn:eX P t=some n){p q:Array Value}(hpq:F2 (VR μ) p.toList q.toList){u:Value}
  (hu:(if b then some (.agg (p.extract i (i+n)))else p[i]?)=some u) (w:World): ∃u',(part t q i).run P w= .ok u' w∧VR μ u u':=by
 cases b with
 |true=>
  simp at hu;subst hu;refine⟨.agg (q.extract i (i+n)),by simp[part,vS hb,fF hn], .agg ?_⟩;simpa[Array.toList_extract,List.extract_eq_take_drop]using(hpq.drop i).take n
 |false=>
  simp at hu;obtain⟨u',h1,h2⟩:=hpq.get i u (by simpa using hu);exact⟨u',lZ hb (by simpa using h1) w,h2⟩
theorem K7 {t:TypeId}{i n:Nat}{b:Bool}{x:Operand}{fs:Array Field}{f:Field}(ho:o.op= .field t x i)(hu:P.underlying t=some (.struct fs))(hi:fs[i]?=some f)(hn:eX P f.type=some n)(hb:qh P f.type=some b)(hx:bq x=true)(hr:(AOp.fieldV f.offset n b x).run e σ=some (v,σ'))(he:cq μ N e a.tmps)(hR:R B μ σ w):cY P o a w B μ v σ':=by
 have h:=he.ev hx;simp only[AOp.run]at hr;split at hr
 ·rename_i p hp;rw[hp]at h;obtain⟨q,hq,r⟩:=h.agg_inv
  have:σ'=σ∧(if b then some (.agg (p.extract f.offset (f.offset+n)))else p[f.offset]?)=some v:=by
   cases b
   ·simp at hr;obtain⟨_,h1,rfl,rfl⟩:=hr;exact⟨rfl,by simpa using h1⟩
   ·simp at hr;exact⟨hr.2.symm,by simp[hr.1]⟩
  obtain⟨rfl,h1⟩:=this;obtain⟨u',k1,k2⟩:=HY hb hn r h1 w;exact .same hR (by simp[execOp,ho,Instr.field,bw hu,hi,hq,asAgg,k1]) k2
 ·cases hr
theorem K9 {t d:TypeId}{m n:Nat}{b:Bool}{x i:Operand}(ho:o.op= .index t x i)(hu:P.underlying t=some (.array m d))(hn:eX P d=some n)(hb:qh P d=some b)(hx:bq x=true)(hi:bq i=true)(hr:(AOp.indexV m n b x i).run e σ=some (v,σ'))(he:cq μ N e a.tmps)(hR:R B μ σ w):cY P o a w B μ v σ':=by
 have h:=he.ev hx;have h':=he.ev hi;simp only[AOp.run]at hr;split at hr
 ·rename_i p k j hp hj;rw[hp]at h;rw[hj]at h';have hj':=h'.int_inv;obtain⟨q,hq,r⟩:=h.agg_inv;split at hr
  ·rename_i hlt
   have:σ'=σ∧(if b then some (.agg (p.extract (j.toNat*n) (j.toNat*n+n)))else p[j.toNat*n]?)=some v:=by
    cases b
    ·simp at hr;obtain⟨_,h1,rfl,rfl⟩:=hr;exact⟨rfl,by simpa using h1⟩
    ·simp at hr;exact⟨hr.2.symm,by simp[hr.1]⟩
   obtain⟨rfl,h1⟩:=this;obtain⟨u',k1,k2⟩:=HY hb hn r h1 w;exact .same hR (by simp[execOp,ho,Instr.index,bw hu,hq,hj',asIntOf,hlt,fF hn,k1]) k2
  ·cases hr
 ·cases hr
theorem K8 {t:TypeId}{x i:Operand}(ho:o.op= .index t x i)(hu:P.underlying t=some .string)(hx:bq x=true)(hi:bq i=true)(hr:(AOp.indexS x i).run e σ=some (v,σ'))(he:cq μ N e a.tmps)(hR:R B μ σ w):cY P o a w B μ v σ':=by
 have h:=he.ev hx;have h':=he.ev hi;simp only[AOp.run]at hr;split at hr
 ·rename_i s k j hs hj;rw[hs]at h;rw[hj]at h';have hj':=h'.int_inv;have hs':=h.string_inv;split at hr
  ·rename_i h0;obtain⟨c,hc,hr⟩:=Option.map_eq_some_iff.1 hr;simp only[Prod.mk.injEq]at hr;obtain⟨rfl,rfl⟩:=hr;exact .same hR (by simp[execOp,ho,Instr.index,bw hu,hs',hj',asIntOf,h0,hc]) (.int _ _)
  ·cases hr
 ·cases hr
theorem I8 {x:Operand}{i:Nat}(ho:o.op= .extract x i)(hx:bq x=true)(hr:(AOp.extract x i).run e σ=some (v,σ'))(he:cq μ N e a.tmps)(hR:R B μ σ w):cY P o a w B μ v σ':=by
 have h:=he.ev hx;simp only[AOp.run]at hr;split at hr
 ·rename_i p hp;rw[hp]at h;generalize hq:a.eval x=u at h;cases h with
  |tuple r=>
   obtain⟨c,hc,hr⟩:=Option.map_eq_some_iff.1 hr;simp only[Prod.mk.injEq]at hr;obtain⟨rfl,rfl⟩:=hr;obtain⟨c',h1,h2⟩:=r.get i c (by simpa using hc);have h1':_:=h1;rw[Array.getElem?_toList]at h1';exact .same hR (by simp[execOp,ho,Instr.extract,hq,h1']) h2
 ·cases hr
end
end
section
open List renaming getElem?_eq_none → aC, length_cons → aD
open Result renaming andThen_ok → aA
open Sem renaming run_bind → aB
open Go.RowKit
section
variable {P:Program} {o:Oper} {a:Act} {w:World} {B:Base P} {N:Nat} {μ:Mu} {e:br} {σ σ':Hp} {v:Value}
theorem yI (off:Nat): ∀(vs:List Value) (k:Nat) (cells:Array Value),off+k+vs.length≤cells.size→
  ((vs.zipIdx k).foldl (fun cs (p:Value×Nat)=>cs.setIfInBounds (off+p.2) p.1) cells).toList=cells.toList.take (off+k)++vs++cells.toList.drop (off+k+vs.length)
 |[],k,cells,_=>by simp
 |v::vs,k,cells,h=>by
  simp only[aD]at h;rw[List.zipIdx_cons,List.foldl_cons,yI off vs (k+1) _ (by simp;omega)];have hlt:off+k<cells.toList.length:=by simp;omega
  simp only[Array.toList_setIfInBounds,aD];rw[List.take_set,List.drop_set_of_lt (by omega)];rw[show off+(k+1)=off+k+1 from by omega,List.take_add_one,show off+k+1+vs.length=off+k+(vs.length+1)from by omega]
  have h2:(cells.toList.take (off+k)++(cells.toList[off+k]?).toList).set (off+k) v=cells.toList.take (off+k)++[v]:=by
   rw[List.getElem?_eq_getElem hlt];rw[List.set_append_right _ _ (by simp;omega)];have:off+k-(List.take (off+k) cells.toList).length=0:=by rw[List.length_take];omega
   rw[this];simp
  rw[h2];simp
theorem Ju (off:Nat)(vs:Array Value)(cells:Array Value)(h:off+vs.size≤cells.size):
  (vs.zipIdx.foldl (fun cs (c,j)=>cs.setIfInBounds (off+j) c) cells).toList=cells.toList.take off++vs.toList++cells.toList.drop (off+vs.size):=by
 have:=yI off vs.toList 0 cells (by simpa using h);rw[←Array.foldl_toList,Array.toList_zipIdx];simpa using this
theorem oD {place:Nat→Option (Nat×Nat)}(he:cq μ N e a.tmps): ∀(parts:List (Nat×Operand)) (parts':List (Nat×Nat×Operand)) (z:List Value) (z':Array Value) (cs:List Value),mq place parts=some parts'→
  uI z (parts'.map fun(o,s,x)=>(o,s,e.ev x))=some cs→F2 (VR μ) z z'.toList→∃cs',Instr.fill place z' (parts.map fun(i,x)=>(i,a.eval x))=some cs'∧F2 (VR μ) cs cs'.toList
 |[],parts',z,z',cs,hp,hf,hz=>by
  simp[mq]at hp;subst hp;simp[uI]at hf;subst hf;exact⟨z',rfl,hz⟩
 |(i,x)::r,parts',z,z',cs,hp,hf,hz=>by
  simp only[mq]at hp;split at hp
  ·rename_i off n x' r' h1 h2 h3;injection hp with hp
   subst hp;obtain⟨rfl,hx⟩:=aj h2;simp only[List.map_cons,uI]at hf;split at hf
   ·rename_i hc;have hv:=(he.ev hx).cells;have hlen:(a.eval x).cells.size=n:=by rw[←hc.1,hv.length];simp
    have hzl:z.length=z'.size:=by simpa using hz.length
    obtain⟨cs',h4,h5⟩:=oD he r r' _ ((a.eval x).cells.zipIdx.foldl (fun cs (c,j)=>cs.setIfInBounds (off+j) c) z') cs h3 hf (by
     rw[Ju _ _ _ (by omega),hlen]
     exact((hz.take _).append hv).append (hz.drop _))
    refine⟨cs', ?_,h5⟩;simp only[List.map_cons,Instr.fill,h1,hlen];rw[zF (by simp;omega)];exact h4
   ·cases hf
  ·cases hp
theorem HX {α β:Type}(P:Program)(w:World)(f:α→Sem β)(g:α→β): ∀(l:List α),(∀x∈l,(f x).run P w= .ok (g x) w)→(l.mapM f).run P w= .ok (l.map g) w
 |[],_=>by simp
 |x::l,h=>by
  have:=HX P w f g l (fun y hy=>h y (by simp[hy]));simp[List.mapM_cons,h x (by simp),this]
theorem Bj {t:TypeId}{parts:Array (Nat×Operand)}{fs:Array Field}{z:List Value}{ps:List (Nat×Nat×Operand)}(ho:o.op= .build t parts)(hu:P.underlying t=some (.struct fs))(hz:gz P t=some z)
  (hall:(fs.toList.all fun f=>(eX P f.type).isSome)=true) (hp:mq (yD P fs) parts.toList=some ps) (hr:(AOp.build z ps).run e σ=some (v,σ')) (he:cq μ N e a.tmps) (hR:R B μ σ w):cY P o a w B μ v σ':=by
 obtain⟨z',h1,h2,h3⟩:=fv hz;simp only[AOp.run]at hr;obtain⟨cs,hf,hr⟩:=Option.map_eq_some_iff.1 hr;simp only[Prod.mk.injEq]at hr;obtain⟨rfl,rfl⟩:=hr;obtain⟨cs',h4,h5⟩:=oD he parts.toList ps z z'.cells cs hp hf (h2▸VR.plainCells (h2▸h3))
 have hm:(fs.mapM fun f=>(do pure (f.offset,←sizeOf f.type):Sem (Nat×Nat))).run P w= .ok (fs.map fun f=>(f.offset,(eX P f.type).getD 0)) w:=by
  rw[Array.mapM_eq_mapM_toList]
  have:=HX P w (fun f:Field=>(do pure (f.offset,←sizeOf f.type):Sem (Nat×Nat))) (fun f=>(f.offset,(eX P f.type).getD 0)) fs.toList (fun f hf'=>by
   have:=List.all_eq_true.1 hall f hf';obtain⟨n,hn⟩:=Option.isSome_iff_exists.1 this
   simp[fF hn,hn])
  simp only[Sem.run_map,this,aA];rw[←Array.toList_map]
 have hpl:(fun i=>(fs.map fun f=>(f.offset,(eX P f.type).getD 0))[i]?)=yD P fs:=by
  funext i
  unfold yD;rw[Array.getElem?_map];cases hi:fs[i]? with
  |none=>rfl
  |some f=>
   have hmem:f∈fs.toList:=by
    have:=Array.mem_of_getElem? hi;simpa using this
   obtain⟨n,hn⟩:=Option.isSome_iff_exists.1 (List.all_eq_true.1 hall f hmem);simp[hn]
 refine .same hR (v':= .agg cs') ?_ (.agg (by simpa using h5));simp only[execOp,ho,Instr.build,aB,h1,aA,bw hu,hm,hpl];rw[Array.toList_map];simp only[h4];rfl
theorem CX {t d:TypeId}{m n:Nat}{parts:Array (Nat×Operand)}{z:List Value}{ps:List (Nat×Nat×Operand)}(ho:o.op= .build t parts)(hu:P.underlying t=some (.array m d))(hn:eX P d=some n)(hz:gz P t=some z)
  (hp:mq (fun i=>some (i*n,n)) parts.toList=some ps) (hr:(AOp.build z ps).run e σ=some (v,σ')) (he:cq μ N e a.tmps) (hR:R B μ σ w):cY P o a w B μ v σ':=by
 obtain⟨z',h1,h2,h3⟩:=fv hz;simp only[AOp.run]at hr;obtain⟨cs,hf,hr⟩:=Option.map_eq_some_iff.1 hr;simp only[Prod.mk.injEq]at hr;obtain⟨rfl,rfl⟩:=hr;obtain⟨cs',h4,h5⟩:=oD he parts.toList ps z z'.cells cs hp hf (h2▸VR.plainCells (h2▸h3));refine .same hR (v':= .agg cs') ?_ (.agg (by simpa using h5));simp only[execOp,ho,Instr.build,aB,h1,aA,bw hu,fF hn];rw[Array.toList_map];simp only[h4];rfl
theorem Dr (z:Array Value)(n:Nat)(hz:0<z.size):((Array.range (n*z.size)).map (fun i=>z[i % z.size]!)).toList=co z.toList n:=by
 unfold co;apply List.ext_getElem?;intro i;have hlen:(List.replicate n z.toList).flatten.length=n*z.size:=by simp
 by_cases hi:i<n*z.size
 ·have h1:((Array.range (n*z.size)).map (fun i=>z[i % z.size]!)).toList[i]?=some (z[i % z.size]'(Nat.mod_lt _ hz)):=by
   simp[hi,Nat.mod_lt _ hz]
  rw[h1];clear h1;induction n generalizing i with
  |zero=>simp at hi
  |succ n ih=>
   rw[List.replicate_succ,List.flatten_cons];by_cases h2:i<z.size
   ·rw[List.getElem?_append_left (by simpa using h2)];simp[Nat.mod_eq_of_lt h2,h2]
   ·rw[List.getElem?_append_right (by simpa using h2)];have h3:=ih (i-z.size) (by simp) (by rw[Nat.succ_mul]at hi;omega);rw[Array.length_toList,←h3];have h4:i % z.size=(i-z.size) % z.size:=by rw[Nat.mod_eq_sub_mod (by omega)]
    simp only[h4]
 ·rw[aC (by simp;omega),aC (by rw[hlen];omega)]
theorem oI (z:List Value)(n:Nat):(co z n).length=n*z.length:=by simp[co]
theorem vl {z:List Value}(h:z.all oS=true)(n:Nat):(co z n).all oS=true:=by
 unfold co;rw[List.all_eq_true]at*;intro x hx;simp only[List.mem_flatten,List.mem_replicate]at hx;obtain⟨l,⟨_,rfl⟩,hx⟩:=hx;exact h x hx
theorem Ed {t d:TypeId}{len n:Nat}{parts:Array (Nat×Operand)}{z:List Value}{ps:List (Nat×Nat×Operand)}(ho:o.op= .buildSlice t len parts)(hu:P.underlying t=some (.slice d))(hn:eX P d=some n)(hz:gz P d=some z)
  (hmax:len*n≤16777216) (hzn:z.length=n) (h0:0<n)
  (hp:mq (fun i=>some (i*n,n)) parts.toList=some ps) (hr:(AOp.buildSlice n len z ps).run e σ=some (v,σ')) (he:cq μ N e a.tmps) (hR:R B μ σ w):cY P o a w B μ v σ':=by
 obtain⟨z',h1,h2,h3⟩:=fv hz;simp only[AOp.run]at hr;split at hr
 ·rename_i cs hf;split at hr
  ·simp only[Option.some.injEq,Prod.mk.injEq]at hr;obtain⟨rfl,rfl⟩:=hr;have hzs:z'.cells.size=n:=by rw[←hzn,←h2];simp[cellsOf]
   have hzl:z'.cells.toList=z:=h2
   have hcells: ∀zz:Array Value,(len*n=0→zz= #[])→(len*n≠0→zz=z'.cells)→((Array.range (len*n)).map (fun i=>zz[i % zz.size]!)).toList=co z len:=by
    intro zz e1 e2;by_cases hl:len*n=0
    ·have:len=0:=by
      rcases Nat.mul_eq_zero.1 hl with h|h
      ·exact h
      ·omega
     subst this;simp[co]
    ·rw[e2 hl,←hzs,Dr _ _ (by omega),hzl]
   have hzt:F2 (VR μ) (co z len) (co z len):=VR.plainCells (vl h3 len);obtain⟨cs',h4,h5⟩:=oD he parts.toList ps (co z len) (co z len).toArray cs hp hf (by simpa using hzt)
   have hlen:cs'.size=len*n:=by
    have e1:cs.length=len*n:=by
     have: ∀(ps:List (Nat×Nat×Value)) (x y:List Value),uI x ps=some y→y.length=x.length:=by
      intro ps;induction ps with
      |nil=>intro x y h;simp[uI]at h;rw[h]
      |cons p ps ih=>
       obtain⟨p1,p2,p3⟩:=p;intro x y h;simp only[uI]at h;split at h
       ·rename_i hc;rw[ih _ _ h];simp;omega
       ·cases h
     rw[this _ _ _ hf,oI,hzn]
    have:=h5.length;simp at this;omega
   refine .new hR cs' d cs n (.slice (some ⟨w.heap.size,0,none⟩) len len) h5 ?_ (fun h=>VR.slice (o:=0) h (Nat.le_refl _) (Nat.le_refl _) (by simp[hlen]));simp only[execOp,ho,Instr.buildSlice,aB,bw hu,aA,fF hn];rw[zF (by omega)];by_cases hl:len*n=0
   ·have hc:=hcells #[] (fun _=>rfl) (fun h=>absurd hl h);have hc':(Array.range (len*n)).map (fun i=>(#[]:Array Value)[i % (#[]:Array Value).size]!)=(co z len).toArray:=by rw[←hc]
    rw[zE hl];simp only[aB,Sem.run_pure,aA,hc'];rw[Array.toList_map];simp[h4,newRow]
   ·have hc:=hcells z'.cells (fun h=>absurd h hl) (fun _=>rfl);have hc':(Array.range (len*n)).map (fun i=>z'.cells[i % z'.cells.size]!)=(co z len).toArray:=by rw[←hc]
    rw[zF hl];simp only[h1,aB,Sem.run_pure,aA,hc'];rw[Array.toList_map];simp[h4,newRow]
  ·cases hr
 ·cases hr
end
end
section
open Bool renaming false_eq_true → aJ, or_eq_true → aK
open Builtin renaming len_ → aG
open Nat renaming le_refl → aA, add_assoc → aH, add_mul → aI
open Option renaming map_some → aE, map_none → aF
open Result renaming andThen_ok → aB
open Sem renaming run_bind → aC, run_pure → aD
open Go.RowKit
section
variable {P:Program} {o:Oper} {a:Act} {w:World} {B:Base P} {N:Nat} {μ:Mu} {e:br} {σ σ':Hp} {v:Value}
theorem VR.nils_inv {n c:Nat}{v':Value}(h:VR μ (.slice none n c) v'):v'= .slice none 0 0∧n=0∧c=0:=by cases h;exact⟨rfl,rfl,rfl⟩
theorem J5 {x x':Value}{n:Nat}(h:tK x=some n)(hx:VR μ x x'):tK x'=some n:=by
 cases hx<;>simp_all [tK,LN]
theorem cB {c:Call}{b:Builtin}(ho:o.op= .call c)(hc:c.callee= .builtin b)(w:World):
  ∃cs,(execOp a.eval o).run P w=(builtin b c.argTypes o.type cs (c.args.map a.eval)).run P w:=by
 refine⟨c.args.map fun| .const _=>true|_=>false, ?_⟩;simp only[execOp,ho,resolve,hc,invoke,aC,aD,aB];rfl
theorem IE {α:Type}{c:Array α}{x:α}(h:c.toList=[x]):c= #[x]:=by rw[←Array.toList_inj];simpa using h
theorem Ca {α:Type}{c:Array α}{x y:α}(h:c.toList=[x,y]):c= #[x,y]:=by rw[←Array.toList_inj];simpa using h
theorem rh {α:Type}{c:Array α}{x:α}{r:List α}(h:c.toList=x::r):c[0]?=some x:=by rw[←Array.getElem?_toList,h];rfl
theorem QL {c:Call}{x:Operand}{t u:TypeId}{ts:List TypeId}(ho:o.op= .call c)(hc:c.callee= .builtin .len)(ha:c.args.toList=[x])(ht:c.argTypes.toList=t::ts)(hu:P.underlying t=some (.slice u))
  (hx:bq x=true) (hr:(AOp.len x).run e σ=some (v,σ')) (he:cq μ N e a.tmps) (hR:R B μ σ w):cY P o a w B μ v σ':=by
 have h:=he.ev hx;simp only[AOp.run]at hr;split at hr
 ·rename_i p n c' hp;simp only[Option.some.injEq,Prod.mk.injEq]at hr;obtain⟨rfl,rfl⟩:=hr;rw[hp]at h
  have: ∃p' c'',a.eval x= .slice p' n c'':=by
   generalize a.eval x=y at h;cases h<;>exact⟨_,_,rfl⟩
  obtain⟨p',c'',hy⟩:=this;obtain⟨cs,hrun⟩:=cB (P:=P) (a:=a) ho hc w;refine .same hR ?_ (.int .i64 n);simp[hrun,builtin,aG,IE ha,rh ht,hy,bw hu,goInt]
 ·cases hr
theorem OY {c:Call}{x:Operand}{t u:TypeId}(ho:o.op= .call c)(hc:c.callee= .builtin .cap)(ha:c.args.toList=[x])(ht:c.argTypes.toList=[t])(hu:P.underlying t=some (.slice u))
  (hx:bq x=true) (hr:(AOp.capN x).run e σ=some (v,σ')) (he:cq μ N e a.tmps) (hR:R B μ σ w):cY P o a w B μ v σ':=by
 have h:=he.ev hx;simp only[AOp.run]at hr;split at hr
 ·rename_i hp;simp only[Option.some.injEq,Prod.mk.injEq]at hr;obtain⟨rfl,rfl⟩:=hr;rw[hp]at h;obtain⟨hq,_,_⟩:=h.nils_inv;obtain⟨cs,hrun⟩:=cB (P:=P) (a:=a) ho hc w;refine .same hR ?_ (.int .i64 0);simp[hrun,builtin,Builtin.cap_,IE ha,IE ht,hq,bw hu,goInt]
 ·cases hr
theorem O4 {c:Call}{x:Operand}{t:TypeId}{ts:List TypeId}(ho:o.op= .call c)(hc:c.callee= .builtin .len)(ha:c.args.toList=[x])(ht:c.argTypes.toList=t::ts)(hu:P.underlying t=some .string)
  (hx:bq x=true) (hr:(AOp.lenS x).run e σ=some (v,σ')) (he:cq μ N e a.tmps) (hR:R B μ σ w):cY P o a w B μ v σ':=by
 have h:=he.ev hx;simp only[AOp.run]at hr;split at hr
 ·rename_i s hp;simp only[Option.some.injEq,Prod.mk.injEq]at hr;obtain⟨rfl,rfl⟩:=hr;rw[hp]at h;obtain⟨cs,hrun⟩:=cB (P:=P) (a:=a) ho hc w;refine .same hR ?_ (.int .i64 s.size);simp[hrun,builtin,aG,IE ha,rh ht,h.string_inv,bw hu,goInt]
 ·cases hr
theorem Kf {c:Call}{x:Operand}{t:TypeId}{ts:List TypeId}{m:Nat}(ho:o.op= .call c)(hc:c.callee= .builtin .len)(ha:c.args.toList=[x])(ht:c.argTypes.toList=t::ts)
  (hu:(∃u,P.underlying t=some (.array m u))∨∃p u,P.underlying t=some (.pointer p)∧P.underlying p=some (.array m u))
  (hr:(AOp.lenC m).run e σ=some (v,σ')) (hR:R B μ σ w):cY P o a w B μ v σ':=by
 simp only[AOp.run,Option.some.injEq,Prod.mk.injEq]at hr;obtain⟨rfl,rfl⟩:=hr;obtain⟨cs,hrun⟩:=cB (P:=P) (a:=a) ho hc w;refine .same hR ?_ (.int .i64 m);rcases hu with⟨u,hu⟩|⟨p,u,hu,hp⟩
 ·cases hv:a.eval x<;>simp[hrun,builtin,aG,IE ha,rh ht,bw hu,goInt,hv]
 ·cases hv:a.eval x<;>simp[hrun,builtin,aG,IE ha,rh ht,bw hu,bw hp,goInt,hv]
theorem O7 {c:Call}{x y:Operand}(ho:o.op= .call c)(hc:c.callee= .builtin .max)(ha:c.args.toList=[x,y])(hx:bq x=true)(hy:bq y=true)(hr:(AOp.most x y).run e σ=some (v,σ'))(he:cq μ N e a.tmps)(hR:R B μ σ w):cY P o a w B μ v σ':=by
 simp only[AOp.run]at hr;obtain⟨z,hz,hr⟩:=Option.map_eq_some_iff.1 hr;simp only[Prod.mk.injEq]at hr;obtain⟨rfl,rfl⟩:=hr;have h:=he.ev hx;have h':=he.ev hy;generalize e.ev x=p at*;generalize e.ev y=q at*;cases p<;>cases q<;>simp[JF]at hz;subst hz;have e1:=h.int_inv;have e2:=h'.int_inv;obtain⟨cs,hrun⟩:=cB (P:=P) (a:=a) ho hc w;exact .same hR (by simp[hrun,builtin,Builtin.max_,Ca ha,e1,e2,Builtin.max2]) (.int _ _)
theorem M0 {c:Call}{x y:Operand}(ho:o.op= .call c)(hc:c.callee= .builtin .min)(ha:c.args.toList=[x,y])(hx:bq x=true)(hy:bq y=true)(hr:(AOp.least x y).run e σ=some (v,σ'))(he:cq μ N e a.tmps)(hR:R B μ σ w):cY P o a w B μ v σ':=by
 simp only[AOp.run]at hr;obtain⟨z,hz,hr⟩:=Option.map_eq_some_iff.1 hr;simp only[Prod.mk.injEq]at hr;obtain⟨rfl,rfl⟩:=hr;have h:=he.ev hx;have h':=he.ev hy;generalize e.ev x=p at*;generalize e.ev y=q at*;cases p<;>cases q<;>simp[Gd]at hz;subst hz;have e1:=h.int_inv;have e2:=h'.int_inv;obtain⟨cs,hrun⟩:=cB (P:=P) (a:=a) ho hc w;exact .same hR (by simp[hrun,builtin,Builtin.min_,Ca ha,e1,e2,Builtin.min2]) (.int _ _)
theorem GP {y d:Nat}{x:Option Operand}{n:Nat}(hx: ∀u,x=some u→bq u=true)(h:ge y d (x.map e.ev)=some n)(he:cq μ N e a.tmps):
  match x with
  |none=>n=d
  |some u=> ∃k i,a.eval u= .int k i∧0≤i∧i≤y∧n=i.toNat:=by
 cases x with
 |none=>simp[ge]at h;exact h.symm
 |some u=>
  have hu:=he.ev (hx u rfl);simp only[aE]at h;unfold ge at h;split at h
  ·rename_i k i hk;simp only[Option.some.injEq]at hk;split at h
   ·rename_i hc;rw[hk]at hu;exact⟨k,i,hu.int_inv,hc.1,hc.2,by simpa using h.symm⟩
   ·cases h
  ·cases h
  ·rename_i hn;cases hn
theorem y7 {s:Bool}{ln cap cap':Nat}{lo hi:Option Operand}{h l:Nat}(hlo: ∀u,lo=some u→bq u=true)(hhi: ∀u,hi=some u→bq u=true)
  (hh:ge cap ln (hi.map e.ev)=some h) (hl:ge h 0 (lo.map e.ev)=some l) (hcap:cap≤cap') (he:cq μ N e a.tmps) (w:World):
  (Instr.sliceBounds s ln cap' (lo.map a.eval) (hi.map a.eval) none).run P w= .ok (l,h,cap') w:=by
 have b1:=GP hhi hh he;have b2:=GP hlo hl he;unfold Instr.sliceBounds;cases hi with
 |none=>
  simp only at b1;subst b1;cases lo with
  |none=>simp only at b2;subst b2;simp
  |some u=>
   obtain⟨k,i,e1,e2,e3,rfl⟩:=b2;simp[e1,Instr.sliceBound,asIntOf,e2,e3]
 |some uh=>
  obtain⟨kh,ih,f1,f2,f3,rfl⟩:=b1;have f4:ih≤(cap':Int):=by omega
  cases lo with
  |none=>simp only at b2;subst b2;simp[f1,Instr.sliceBound,asIntOf,f2,f4]
  |some u=>
   obtain⟨k,i,e1,e2,e3,rfl⟩:=b2;simp only[aE,e1,f1,Instr.sliceBound,asIntOf,aC,aD,aB];rw[zE ⟨f2,f4⟩];simp only[aD,aB];rw[zE ⟨e2,e3⟩];rfl
theorem Cg {y d n:Nat}{x:Option Value}(h:ge y d x=some n):n≤y∨(x=none∧n=d):=by
 unfold ge at h;split at h
 ·split at h
  ·rename_i hc;simp at h;left;omega
  ·cases h
 ·cases h
 ·right;exact⟨rfl,by simpa using h.symm⟩
theorem oM {ln cap:Nat}{lo hi:Option Operand}{h l:Nat}(hle:ln≤cap)(hh:ge cap ln (hi.map e.ev)=some h)(hl:ge h 0 (lo.map e.ev)=some l):l≤h∧h≤cap:=by
 rcases Cg hh with h1|⟨_,h1⟩
 ·rcases Cg hl with h2|⟨_,h2⟩<;>omega
 ·rcases Cg hl with h2|⟨_,h2⟩<;>omega
theorem M5 {t d:TypeId}{n:Nat}{x:Operand}{lo hi:Option Operand}(ho:o.op= .slice t x lo hi none)(hu:P.underlying t=some (.slice d))(hn:eX P d=some n)(hx:bq x=true)(hlo: ∀u,lo=some u→bq u=true)(hhi: ∀u,hi=some u→bq u=true)
  (hr:(AOp.slice n x lo hi).run e σ=some (v,σ')) (he:cq μ N e a.tmps) (hR:R B μ σ w):cY P o a w B μ v σ':=by
 have hv:=he.ev hx;simp only[AOp.run]at hr;split at hr
 ·rename_i p ln cap hp;split at hr
  ·rename_i hcut;split at hr
   ·rename_i h hh;split at hr
    ·rename_i l hl;simp only[Option.some.injEq,Prod.mk.injEq]at hr;obtain⟨rfl,rfl⟩:=hr;rw[hp]at hv
     have key: ∀(p':Option Addr) (cap':Nat),a.eval x= .slice p' ln cap'→cap≤cap'→
       (execOp a.eval o).run P w= .ok (.value (.slice (if cap'=l then p' else p'.map (·.add (l*n))) (h-l) (cap'-l))) w:=by
      intro p' cap' hy hle;have hb:=y7 (P:=P) (s:=true) hlo hhi hh hl hle he w;simp only[execOp,ho,Instr.sliceAt,aC,bw hu,aB,Instr.slice,hy,aF,hb,fF hn,aD]
     cases p with
     |none=>
      obtain⟨hq,rfl,rfl⟩:=hv.nils_inv;have:=oM (aA _) hh hl;refine .same hR (key _ _ hq (aA _)) ?_;have e1:h=0:=by omega
      subst e1;simp only[aF,ite_self];rw[show(0:Nat)-l=0 from by omega];exact .nils
     |some A=>
      generalize hq:a.eval x=q at hv;cases hv with
      |slice h1 h2 h3 h4=>
       rename_i b off cap' g;obtain⟨k1,k2⟩:=oM h2 hh hl;refine .same hR (key _ _ hq h3) ?_;by_cases hc:cap'=l
       ·rw[zE hc,hc];rw[show l-l=0 from by omega,show cap-l=0 from by omega,show h-l=0 from by omega];exact .slice0 _ h1
       ·rw[zF hc];simp only[aE,Ei,il];rw[aH];refine .slice h1 (by omega) (by omega) ?_;cases lo with
        |none=>
         have:l=0:=by simpa[ge]using hl.symm
         subst this;simpa using h4
        |some u=>
         rw[aK]at hcut;rcases hcut with hcut|hcut
         ·have:cap=0:=by simpa using hcut
          have:l=0:=by omega
          subst this;simpa using h4
         unfold qJ at hcut;simp only at hcut;split at hcut
         ·rename_i blk hblk;have e1:=(hR.get hblk h1.1).es;have e2:blk.es=n:=by simpa using hcut
          rw[e1,e2]at h4⊢;have:l*n+(cap'-l)*n=cap'*n:=by rw[←aI];congr 1;omega
          omega
         ·cases hcut
      |slice0 A' h1=>
       obtain⟨k1,k2⟩:=oM (aA _) hh hl;refine .same hR (key _ _ hq (aA _)) ?_;have e1:l=0:=by omega
       have e2:h=0:=by omega
       subst e1 e2;simp only[aE,if_true];exact .slice0 _ h1
      |sliceX h1 h4=>
       rename_i b off g;obtain⟨k1,k2⟩:=oM (aA _) hh hl;refine .same hR (key _ _ hq (aA _)) ?_;by_cases hc:ln=l
       ·rw[zE hc,hc];rw[show l-l=0 from by omega,show h-l=0 from by omega];exact .slice0 _ h1
       ·rw[zF hc];simp only[aE,Ei,il];rw[aH];refine .slice h1 (by omega) (by omega) ?_;cases lo with
        |none=>
         have:l=0:=by simpa[ge]using hl.symm
         subst this;simpa using h4
        |some u=>
         rw[aK]at hcut;rcases hcut with hcut|hcut
         ·have:ln=0:=by simpa using hcut
          omega
         unfold qJ at hcut;simp only at hcut;split at hcut
         ·rename_i blk hblk;have e1:=(hR.get hblk h1.1).es;have e2:blk.es=n:=by simpa using hcut
          rw[e1,e2]at h4⊢;have:l*n+(ln-l)*n=ln*n:=by rw[←aI];congr 1;omega
          omega
         ·cases hcut
      |sliceX0 A' h1=>
       obtain⟨k1,k2⟩:=oM (aA _) hh hl;refine .same hR (key _ _ hq (aA _)) ?_;have e1:l=0:=by omega
       have e2:h=0:=by omega
       subst e1 e2;simp only[aE,if_true];exact .slice0 _ h1
    ·cases hr
   ·cases hr
  ·cases hr
 ·cases hr
theorem Lb {t d:TypeId}{x hi mx:Operand}(ho:o.op= .slice t x none (some hi) (some mx))(hu:P.underlying t=some (.slice d)){n:Nat}(hn:eX P d=some n)(hx:bq x=true)(hhi:bq hi=true)(hmx:bq mx=true)
  (hr:(AOp.sliceX x hi mx).run e σ=some (v,σ')) (he:cq μ N e a.tmps) (hR:R B μ σ w):cY P o a w B μ v σ':=by
 have hv:=he.ev hx;have hvh:=he.ev hhi;have hvm:=he.ev hmx;simp only[AOp.run]at hr;split at hr
 ·rename_i p ln cap hp;split at hr
  ·rename_i m hm;split at hr
   ·rename_i h hh;split at hr
    ·rename_i heq;subst heq
     have hm': ∃km im,e.ev mx= .int km im∧0≤im∧im≤cap∧h=im.toNat:=by
      unfold ge at hm;split at hm
      ·rename_i km im hq;injection hq with hq
       split at hm
       ·rename_i hc;injection hm with hm
        exact⟨km,im,hq,hc.1,hc.2,hm.symm⟩
       ·cases hm
      ·cases hm
      ·rename_i hq;cases hq
     obtain⟨km,im,q1,q2,q3,q4⟩:=hm'
     have hh': ∃kh ih,e.ev hi= .int kh ih∧0≤ih∧ih≤h∧h=ih.toNat:=by
      unfold ge at hh;split at hh
      ·rename_i kh ih hq;injection hq with hq
       split at hh
       ·rename_i hc;injection hh with hh
        exact⟨kh,ih,hq,hc.1,hc.2,hh.symm⟩
       ·cases hh
      ·cases hh
      ·rename_i hq;cases hq
     obtain⟨kh,ih,r1,r2,r3,r4⟩:=hh';rw[q1]at hvm;rw[r1]at hvh;have v1:=hvm.int_inv;have v2:=hvh.int_inv;rw[hp]at hv
     have key: ∀(p':Option Addr) (cap':Nat),a.eval x= .slice p' ln cap'→cap≤cap'→
       (execOp a.eval o).run P w= .ok (.value (.slice p' h h)) w:=by
      intro p' cap' hy hle;have e1:ih=(h:Int):=by omega
      have e2:im=(h:Int):=by omega
      subst e1 e2;have hle':h≤cap':=by omega
      have hb:(Instr.sliceBounds true ln cap' none (some (a.eval hi)) (some (a.eval mx))).run P w= .ok (0,h,h) w:=by
       simp[Instr.sliceBounds,Instr.sliceBound,asIntOf,v1,v2,hle']
      simp only[execOp,ho,Instr.sliceAt,aC,bw hu,aB,Instr.slice,hy,aF,aE,hb,fF hn,aD,Nat.zero_mul,Nat.sub_zero]
      congr 3
      split
      ·rfl
      ·cases p' with
       |none=>rfl
       |some A=>simp[Addr.add]
     cases p with
     |none=>
      obtain⟨hq,rfl,rfl⟩:=hv.nils_inv;simp only[Option.some.injEq,Prod.mk.injEq]at hr;obtain⟨rfl,rfl⟩:=hr;have h0:h=0:=by omega
      refine .same hR (key _ _ hq (aA _)) ?_;rw[h0];exact .nils
     |some A=>
      obtain⟨b,off,s⟩:=A;cases s with
      |some _=>cases hr
      |none=>
       simp only[Option.some.injEq,Prod.mk.injEq]at hr;obtain⟨rfl,rfl⟩:=hr;generalize hq:a.eval x=q at hv;cases hv with
       |slice h1 h2 h3 h4=>
        rename_i cap' g;refine .same hR (key _ _ hq h3) (.sliceX h1 ?_);have:h*g.es≤cap'*g.es:=Nat.mul_le_mul_right _ (by omega);omega
       |slice0 A' h1=>
        have h0:h=0:=by omega
        refine .same hR (key _ _ hq (aA _)) ?_;rw[h0];exact .sliceX0 _ h1
    ·cases hr
   ·cases hr
  ·cases hr
 ·cases hr
theorem Hy {t:TypeId}{x:Operand}{lo hi:Option Operand}(ho:o.op= .slice t x lo hi none)(hu:P.underlying t=some .string)(hx:bq x=true)(hlo: ∀u,lo=some u→bq u=true)(hhi: ∀u,hi=some u→bq u=true)
  (hr:(AOp.sliceStr x lo hi).run e σ=some (v,σ')) (he:cq μ N e a.tmps) (hR:R B μ σ w):cY P o a w B μ v σ':=by
 have hv:=he.ev hx;simp only[AOp.run]at hr;split at hr
 ·rename_i s hp;split at hr
  ·rename_i h hh;split at hr
   ·rename_i l hl;simp only[Option.some.injEq,Prod.mk.injEq]at hr;obtain⟨rfl,rfl⟩:=hr;rw[hp]at hv;have hb:=y7 (P:=P) (s:=false) hlo hhi hh hl (aA _) he w;refine .same hR (v':= .string (s.extract l h)) ?_ (.string _);simp only[execOp,ho,Instr.sliceAt,aC,bw hu,aB,Instr.slice,hv.string_inv,aF,Option.isSome_none,aJ,if_false,hb,aD]
   ·cases hr
  ·cases hr
 ·cases hr
theorem Hx {t d:TypeId}{m n:Nat}{x:Operand}{lo hi:Option Operand}(ho:o.op= .slice t x lo hi none)(hu:P.underlying t=some (.array m d))(hn:eX P d=some n)(hx:bq x=true)(hlo: ∀u,lo=some u→bq u=true)(hhi: ∀u,hi=some u→bq u=true)
  (hr:(AOp.sliceArr n m x lo hi).run e σ=some (v,σ')) (he:cq μ N e a.tmps) (hR:R B μ σ w):cY P o a w B μ v σ':=by
 have hv:=he.ev hx;simp only[AOp.run]at hr;split at hr
 ·rename_i b off hp;split at hr
  ·rename_i blk hblk;split at hr
   ·rename_i hc;split at hr
    ·rename_i h hh;split at hr
     ·rename_i l hl;split at hr
      ·rename_i hlm;simp only[Option.some.injEq,Prod.mk.injEq]at hr;obtain⟨rfl,rfl⟩:=hr;rw[hp]at hv;obtain⟨g,hg,hy⟩:=hv.ptr_inv;obtain⟨k1,k2⟩:=oM (aA _) hh hl;have hb:=y7 (P:=P) (s:=false) hlo hhi hh hl (aA _) he w;have hlv:=hR.get hblk hg.1;obtain⟨_,o2,_⟩:=hlv.own hg.2 hc.1;refine .same hR (v':= .slice (some ⟨g.c,g.o+(off+l*n),none⟩) (h-l) (m-l)) ?_ (.slice hg (by omega) (aA _) ?_)
       ·simp only[execOp,ho,Instr.sliceAt,aC,bw hu,aB,hy,Instr.sureAddr,aF,hb,fF hn,aD];rw[zF (by omega),il,aH]
       ·rw[hlv.es,hc.2.1];have:l*n+(m-l)*n=m*n:=by rw[←aI];congr 1;omega
        omega
      ·cases hr
     ·cases hr
    ·cases hr
   ·cases hr
  ·cases hr
 ·cases hr
theorem FW {t d:TypeId}{n by_:Nat}{z:List Value}{x y:Operand}(ho:o.op= .makeSlice t x y)(hu:P.underlying t=some (.slice d))(hn:eX P d=some n)(hb:GQ P d=some by_)(hz:gz P d=some z)(hx:bq x=true)(hy:bq y=true)
  (hzn:z.length=n) (h0:0<n) (hr:(AOp.makeSlice n by_ z x y).run e σ=some (v,σ')) (he:cq μ N e a.tmps) (hR:R B μ σ w):cY P o a w B μ v σ':=by
 have h1:=he.ev hx;have h2:=he.ev hy;obtain⟨z',e1,e2,e3⟩:=fv hz;simp only[AOp.run]at hr;split at hr
 ·rename_i k l k' c hl hc;split at hr
  ·rename_i hcond;obtain⟨c1,c2,c3,c4⟩:=hcond;simp only[Option.some.injEq,Prod.mk.injEq]at hr;obtain⟨rfl,rfl⟩:=hr;rw[hl]at h1;rw[hc]at h2;have v1:=h1.int_inv;have v2:=h2.int_inv;obtain⟨i,hi,hib⟩:=Option.map_eq_some_iff.1 hb;have w1:IntKind.i64.wrap l=l:=IntWalk.i64_in _ (by omega);have w2:IntKind.i64.wrap c=c:=IntWalk.i64_in _ (by omega);have hzs:z'.cells.size=n:=by rw[←hzn,←e2];simp[cellsOf]
   have hzl:z'.cells.toList=z:=e2;have hlen:(co z c.toNat).toArray.size=c.toNat*n:=by simp[oI,hzn]
   refine .new hR (co z c.toNat).toArray d (co z c.toNat) n (.slice (some ⟨w.heap.size,0,none⟩) l.toNat c.toNat) ?_ ?_ (fun h=>VR.slice (o:=0) h (by omega) (aA _) (by rw[hlen];simp))
   ·simpa using VR.plainCells (vl e3 _)
   ·have ht: ¬((by_:Int)*c > 281474976710656):=by omega
    have hinfo: ∀w:World,(typeInfo d).run P w= .ok i w:=fun w=>by simp[typeInfo,hi]
    simp only[execOp,ho,Instr.makeSlice,aC,bw hu,aB,v1,v2,asInt,asIntOf,aD,hinfo,hib,w1,w2]
    have t1:(decide (c<0)||decide ((by_:Int)*c > 2 ^ 48))=false:=by
     simp;omega
    have t2:(decide (l<0))=false:=by simp;omega
    have t3:(decide (l > c))=false:=by simp;omega
    simp only[t1,t2,t3,Bool.or_false,aJ,if_false,aC,run_askRoom,aB,fF hn];by_cases hcn:c.toNat*n=0
    ·have hc0:c.toNat=0:=by
      rcases Nat.mul_eq_zero.1 hcn with h|h
      ·exact h
      ·omega
     have:(co z c.toNat)=[]:=by rw[hc0];rfl
     rw[zE hcn,this,hcn];simp[newRow,show Array.range 0= #[]from rfl]
    ·rw[zF hcn]
     have hcc:(Array.range (c.toNat*n)).map (fun i=>z'.cells[i % z'.cells.size]!)=(co z c.toNat).toArray:=by
      rw[←hzl,←Dr _ _ (by omega),hzs]
     simp only[aC,e1,aD,aB,hcc];simp[newRow]
  ·cases hr
 ·cases hr
end
end
end Go.Ab
