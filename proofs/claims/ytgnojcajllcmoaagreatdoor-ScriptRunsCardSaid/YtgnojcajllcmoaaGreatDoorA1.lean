/- A part of the proof. No condition. -/
import Derived.Calls
import Derived.RowKit
import Derived.WalkKit
import Derived.Lib.ItoaMem
import Derived.Lib.FrozenHead
set_option linter.all false
namespace Go.Ab
open Option renaming some->O,none->Y
open Bool renaming true->Za,false->Zb
open Decidable renaming decide->Zc
open List renaming all_eq_true->bo
open Option renaming isSome_iff_exists->eW
open Option renaming map_eq_some_iff->aw
open List renaming length->ft
open Option renaming bind->gn
open Option.some renaming injEq->ez
open Prod.mk renaming injEq->fq
theorem V1{p:Prop}(h:p:=by omega):p:=h
theorem V2{p:Prop}(h:p:=by simp):p:=h
theorem V3{p:Prop}(h:p:=by simp;omega):p:=h
theorem V4{p:Prop}(h:p:=by kernel_rfl):p:=h
theorem V5{p:Prop}(h:p:=by decide):p:=h
theorem V6{p:Prop}(h:p:=by rw[show c.sz 4=max c.R.toNat c.Q.toNat from rfl];omega):p:=h
theorem V7{p:Prop}(h:p:=by rw[Dz (by omega) (by omega)];simp):p:=h
theorem V8{p:Prop}(h:p:=by simpa using h):p:=h
theorem V9{p:Prop}(h:p:=by rw[aD];omega):p:=h
theorem Z2{p:Prop}(h:p:=by simpa using d):p:=h
theorem Z3{p:Prop}(h:p:=by rw[Dx (by omega) b.1];simp):p:=h
theorem Z4{p:Prop}(h:p:=by rw[aB];omega):p:=h
theorem Z5{p:Prop}(h:p:=by rw[cb];omega):p:=h
theorem Z6{p:Prop}(h:p:=by unfold lm;omega):p:=h
theorem Z7{p:Prop}(h:p:=by rw[cD,show c.sz 5=c.X.length from rfl];omega):p:=h
theorem Z8{p:Prop}(h:p:=by rw[show c.sz 1=c.X.length from rfl,g];have:=n.xtR;simp;omega):p:=h
theorem Z9{p:Prop}(h:p:=by rw[Cx.P_len];omega):p:=h
theorem ZA{p:Prop}(h:p:=by rw[g];rfl):p:=h
theorem ZB{p:Prop}(h:p:=by rw[cb];exact aB _):p:=h
theorem ZC{p:Prop}(h:p:=by simp[DSt.push]):p:=h
theorem ZD{p:Prop}(h:p:=by rw[q];exact g):p:=h
theorem ZE{p:Prop}(h:p:=by simp[enc]):p:=h
theorem ZF{p:Prop}(h:p:=by simp only;omega):p:=h
theorem ZG{p:Prop}(h:p:=by unfold jx;omega):p:=h
theorem ZH{p:Prop}(h:p:=by rw[d];simp[Fo.src]):p:=h
theorem ZI{p:Prop}(h:p:=by rw[g];simp[Fo.src]):p:=h
theorem ZJ{p:Prop}(h:p:=by rw[List.length_replicate];omega):p:=h
theorem ZK{p:Prop}(h:p:=by rw[r];rfl):p:=h
theorem ZL{p:Prop}(h:p:=by rw[show c.sz 2=c.R.toNat from rfl];exact aD v):p:=h
theorem ZM{p:Prop}(h:p:=by rw[show c.sz 3=c.Q.toNat from rfl];exact aD d):p:=h
theorem ZN{p:Prop}(h:p:=by rw[bD,show c.sz 1=c.X.length from rfl];omega):p:=h
theorem ZO{p:Prop}(h:p:=by have:c.off 0+c.sz 0=0+c.T.length:=rfl;omega):p:=h
theorem ZP{p:Prop}(h:p:=by simp[Mu.add]):p:=h
theorem ZQ{p:Prop}(h:p:=by simp[Fo.src]):p:=h
theorem ZR{p:Prop}(h:p:=by simp[List.getD,show 4<l.length by omega]):p:=h
theorem ZS{p:Prop}(h:p:=by have:=n.n;have:=n.m;omega):p:=h
theorem ZT{p:Prop}(h:p:=by rw[q];simp[Fo.src]):p:=h
theorem ZU{p:Prop}(h:p:=by split at p<;>omega):p:=h
theorem ZV{p:Prop}(h:p:=by rw[K];exact J):p:=h
theorem ZW{p:Prop}(h:p:=by assumption):p:=h
theorem ZX{p:Prop}(h:p:=by intro e;injection e with e;exact j e):p:=h
theorem ZY{p:Prop}(h:p:=by rw[wM];exact hd):p:=h
theorem ZZ{p:Prop}(h:p:=by unfold sp;omega):p:=h
theorem Zj{p:Prop}(h:p:=by rw[aB,bD];omega):p:=h
theorem Zm{p:Prop}(h:p:=by rw[aB,aD];omega):p:=h
theorem Zn{p:Prop}(h:p:=by have:=v u;omega):p:=h
theorem Zo{p:Prop}(h:p:=by simpa[HF,hx]using ht):p:=h
theorem Zr{p:Prop}(h:p:=by simp[AOper.looks,ht]):p:=h
theorem Zs{p:Prop}(h:p:=by rw[qz,A];exact aB _):p:=h
theorem Zt{p:Prop}(h:p:=by simp only[cB];omega):p:=h
theorem Zu{p:Prop}(h:p:=by rw[d];simp):p:=h
theorem Zv{p:Prop}(h:p:=by simp[isAgg,c]):p:=h
theorem Zw{p:Prop}(h:p:=by rw[d];simp[y]):p:=h
theorem Zx{p:Prop}(h:p:=by cases d):p:=h
theorem Zy{p:Prop}(h:p:=by simp[Hp.set]):p:=h
theorem Zz{p:Prop}(h:p:=by simp[hp]):p:=h
theorem ek{p:Prop}(h:p:=by rw[p];simp):p:=h
theorem eo{p:Prop}(h:p:=by cases J):p:=h
abbrev Zd:=List Int
universe uU
def zA {p:Prop}{i:Decidable p}(h:¬p):@decide p i=Zb:=decide_eq_false h
def Ze {p:Prop}{i:Decidable p}(h:¬p:=by omega):@decide p i=Zb:=zA h
def zB {p:Prop}{i:Decidable p}(h:p):@decide p i=Za:=decide_eq_true h
def Zf {p:Prop}{i:Decidable p}(h:p:=by omega):@decide p i=Za:=zB h
def zC {α:Sort uU}{a b:α}:cond Za a b=a:=rfl
def zD {α:Sort uU}{a b:α}:cond Zb a b=b:=rfl
def zE {c:Prop}{h:Decidable c}(d:c){α:Sort uU}{t e:α}:ite c t e=t:=if_pos d
def Zg {c:Prop}{h:Decidable c}(d:c:=by omega){α:Sort uU}{t e:α}:ite c t e=t:=zE d
def zF {c:Prop}{h:Decidable c}(d:¬c){α:Sort uU}{t e:α}:ite c t e=e:=if_neg d
def Zh {c:Prop}{h:Decidable c}(d:¬c:=by omega){α:Sort uU}{t e:α}:ite c t e=e:=zF d
def zG {α β:Type uU}{a:α}{f:α->Option β}:(O a).bind f=f a:=rfl
variable {i x y:Operand}{b:Bool}{v v':Value}{op:BinOp}{c:Call}{lo:Option Operand}{w:World}{N:Nat}{fs:Array Field}
section
open List renaming range->aB
structure Blk where
 cells:List Value
 own:Bool
 es:Nat
structure Hp where
 m:Nat->Option Blk
 n:Nat
def Hp.set (Z:Hp)(b:Nat)(x:Option Blk):Hp:={m:=λi=>if i=b then x else Z.m i,n:=Z.n}
def Hp.add (Z:Hp)(x:Blk):Hp:={m:=λi=>if i=Z.n then O x else Z.m i,n:=Z.n+1}
abbrev cx :=Nat->Value
def cx.put (e:cx)(d:Nat)(v:Value):cx:=λi=>if i=d then v else e i
def cx.putO (e:cx)(d:Option Nat)(v:Value):cx:=match d with
 |some d=>e.put d v
 |none=>e
def cx.of (args:List Value):cx:=λi=>(args[i]?).getD undef
def cx.ev (e:cx):Operand->Value
 | .tmp t=>e t
 | .const v=>v
 | .global _=>undef
 | .func f=> .func (.func f) #[] #[]
inductive AExit where
 |normal
 |exit (id:Nat)
 |ret
inductive AOp where
 |move (x:Operand)
 |pick (c a b:Operand)
 |alloc (es:Nat) (zero:List Value)
 |box (es:Nat) (x:Operand)
 |build (zero:List Value) (parts:List<|Nat×Nat×Operand)
 |buildSlice (es len:Nat) (zero:List Value) (parts:List<|Nat×Nat×Operand)
 |load (x:Operand)
 |loadN (n:Nat) (x:Operand)
 |store (n:Nat) (a x:Operand)
 |nilCheck (x:Operand)
 |bin (op:BinOp) (x y:Operand)
 |eqv (kd:Nat) (neg:Bool) (x y:Operand)
 |eqCells (neg:Bool) (ks:List Nat) (x y:Operand)
 |un (op:UnOp) (x:Operand)
 |conv (k:IntKind) (x:Operand)
 |mkFunc (f:FuncId) (first captured:List Operand)
 |makeSlice (es bytes:Nat) (zero:List Value) (l c:Operand)
 |slice (es:Nat) (x:Operand) (lo hi:Option Operand)
 |sliceStr (x:Operand) (lo hi:Option Operand)
 |sliceArr (es n:Nat) (x:Operand) (lo hi:Option Operand)
 |off (n:Nat) (x:Operand)
 |idx (es:Nat) (x i:Operand)
 |idxA (len es:Nat) (x i:Operand)
 |fieldV (off n:Nat) (agg:Bool) (x:Operand)
 |indexV (len es:Nat) (agg:Bool) (x i:Operand)
 |indexS (x i:Operand)
 |extract (x:Operand) (i:Nat)
 |call (f:FuncId) (args:List Operand)
 |callv (f:Operand) (args:List Operand)
 |append (es bytes:Nat) (s x:Operand)
 |appendZ (es bytes:Nat) (zero:List Value) (s x:Operand)
 |copy (es:Nat) (d s:Operand)
 |len (x:Operand)
 |most (x y:Operand)
 |least (x y:Operand)
 |stuck
 |capN (x:Operand)
 |sliceX (x hi mx:Operand)
 |strOf (x:Operand)
 |newB
structure AOper where
 dst:Option Nat
 op:AOp
 guard:Option<|Nat×Bool
structure SItem where
 idx:Nat
 o:AOper
 mover:Bool
 keep:Bool
 chks:List Nat
inductive AC where
 |skip
 |region (ops:List AOper)
 |draw (ops:List<|AOper×List Nat)
 |sched (its:List SItem)
 |seq (a b:AC)
 |cond (c:Operand) (thn els:AC)
 |block (id:Nat) (body:AC)
 |loop (body:AC)
 |exit (id:Nat)
 |ret
inductive ARes where
 |tmp (t:Nat)
 |cell (t:Nat)
 |cellN (t n:Nat)
structure AFn where
 ntmps:Nat
 results:List ARes
 body:AC
abbrev S6 :=List Value->Hp->(Value->Hp->Prop)->Prop
abbrev iX :=FuncId->S6
def one :Value->Bool
 | .agg _| .tuple _=>Zb
 |_=>Za
def cellsOf (v:Value):List Value:=v.cells.toList
def rz (x:Blk)(o n:Nat):Option<|List Value:=if o+n<=ft x.cells then O ((x.cells.drop o).take n)else Y
def lq (cells:List Value)(o:Nat):List Value->List Value
 |[]=>cells
 |v::d=>lq (cells.set o v) (o+1) d
def CU (x:Blk)(o:Nat)(vs:List Value):Option Blk:=
 if x.own=Za/\o+ft vs<=ft x.cells/\vs.all one=Za then O {cells:=lq x.cells o vs,own:=x.own,es:=x.es}else Y
def Hp.slice (Z:Hp)(es:Nat):Value->Nat->Option (List Value)
 | .slice (O ⟨b,o,Y⟩) _ _,n=>if n=0 then O []else match Z.m b with
  |some x=>rz x o (n*es)
  |none=>Y
 | .slice Y _ _,n=>if n=0 then O []else Y
 | .string s,n=>if es=1 then O (((s.extract 0 n).data.toList).map λb=> .int .u8 b.toNat)else Y
 |_,_=>Y
def GK :Value->Option Nat
 | .slice _ n _=>O n
 | .string s=>O s.size
 |_=>Y
def GD (cells:List Value):List (Nat×Nat×Value)->Option (List Value)
 |[]=>O cells
 |(f,d,v)::g=>
  if(ft<|cellsOf v)=d/\f+d<=ft cells then GD (cells.take f++cellsOf v++cells.drop (f+d)) g else Y
def ac4 (op:BinOp)(k:IntKind)(x y:Int):Option Value:=
 match op with
 | .add=>O (.int k<|k.wrap<|x+y)
 | .sub=>O (.int k<|k.wrap<|x-y)
 | .mul=>O (.int k<|k.wrap<|x*y)
 | .quo=>if y=0 then Y else O (.int k<|k.wrap<|x.tdiv y)
 | .rem=>if y=0 then Y else O (.int k<|x.tmod y)
 | .and=>O (.int k<|k.wrap (BitVec.ofInt k.bits x&&& BitVec.ofInt k.bits y).toNat)
 | .or=>O (.int k<|k.wrap (BitVec.ofInt k.bits x|||BitVec.ofInt k.bits y).toNat)
 | .xor=>O (.int k<|k.wrap (BitVec.ofInt k.bits x ^^^ BitVec.ofInt k.bits y).toNat)
 | .andNot=>O (.int k<|k.wrap (BitVec.ofInt k.bits x&&& ~~~BitVec.ofInt k.bits y).toNat)
 | .eql=>O (.bool<|x==y)
 | .neq=>O (.bool<|x !=y)
 | .lss=>O (.bool<|x<y)
 | .leq=>O (.bool<|x<=y)
 | .gtr=>O (.bool<|x > y)
 | .geq=>O (.bool<|x≥y)
 |_=>Y
def af8 (op:BinOp)(x y:ByteArray):Option Value:=
 match op with
 | .add=>if((x.size+y.size:Nat):Int) > IntKind.i64.max then Y else O (.string<|x++y)
 | .eql=>O (.bool<|x.toList==y.toList)
 | .neq=>O (.bool !(x.toList==y.toList))
 | .lss=>O (.bool<|Op.bytesLess x.toList y.toList)
 | .leq=>O (.bool<|Op.bytesLess x.toList y.toList||x.toList==y.toList)
 | .gtr=>O (.bool !(Op.bytesLess x.toList y.toList||x.toList==y.toList))
 | .geq=>O (.bool !Op.bytesLess x.toList y.toList)
 |_=>Y
def PM (op:BinOp)(k:IntKind)(x y:Int):Option Value:=
 if y<0 then Y else match op with
 | .shl=>O (.int k<|k.wrap<|x*2 ^ (min y.toNat k.bits))
 | .shr=>O (.int k<|x.fdiv<|2 ^ (min y.toNat k.bits))
 |_=>Y
def xy :BinOp->Bool
 | .shl| .shr=>Za
 |_=>Zb
def CN (op:BinOp):Value->Value->Option Value
 | .int k a, .int d b=>if xy op=Za then PM op k a b else if k=d then ac4 op k a b else Y
 | .string a, .string b=>if xy op=Za then Y else af8 op a b
 |_,_=>Y
def Vr :Nat->Value->Value->Option Bool
 |0, .bool a, .bool b=>O (a==b)
 |1, .pointer Y, .pointer b=>O b.isNone
 |1, .pointer<|O _, .pointer Y=>O Zb
 |2, .slice Y _ _, .slice b _ _=>O b.isNone
 |2, .slice (O _) _ _, .slice Y _ _=>O Zb
 |3, .nilFunc, .nilFunc=>O Za
 |3, .nilFunc, .func _ _ _=>O Zb
 |3, .func _ _ _, .nilFunc=>O Zb
 |_,_,_=>Y
def yh :Nat->Value->Value->Option Bool
 |0, .bool a, .bool b=>O (a==b)
 |1, .int k a, .int d b=>if k=d then O (a==b)else Y
 |2, .string a, .string b=>O (a.toList==b.toList)
 |_,_,_=>Y
def kc :List Nat->List Value->List Value->Option Bool
 |[],[],[]=>O Za
 |k::d,a::r,b::s=>match yh k a b with
  |some true=>kc d r s
  |some false=>O Zb
  |none=>Y
 |_,_,_=>Y
def un1 :UnOp->Value->Option Value
 | .neg, .int k n=>O (.int k<|k.wrap<|0-n)
 | .xor, .int k n=>O (.int k<|k.wrap (BitVec.ofInt k.bits (if k.signed then-1 else k.max) ^^^ BitVec.ofInt k.bits n).toNat)
 | .not, .bool b=>O (.bool !b)
 |_,_=>Y
def bv8 :Value->Option Int
 | .int _ n=>O n
 |_=>Y
def nH (y d:Nat):Option Value->Option Nat
 |some (.int _ i)=>if 0<=i/\i<=y then O i.toNat else Y
 |some _=>Y
 |none=>O d
def Um :Value->Value->Option Value
 | .int k x, .int _ y=>O (.int k (if y<x then y else x))
 |_,_=>Y
def YY :Value->Value->Option Value
 | .int k x, .int _ y=>O (.int k (if y > x then y else x))
 |_,_=>Y
def QX (a:Addr)(n:Nat):Addr:=⟨a.block,a.off+n,Y⟩
def EI (Z:Hp)(es:Nat)(a:Option Addr)(lo:Option Operand):Bool:=match lo,a with
 |none,_=>Za
 |_,Y=>Za
 |some _,O a=>match Z.m a.block with
  |some d=>d.es==es
  |none=>Zb
def fd (zero:List Value)(n:Nat):List Value:=(List.replicate n zero).flatten
def pF (es bytes:Nat)(Z:Hp)(a:Option Addr)(sl j n:Nat)(f:List Value):Option<|Value×Hp:=if sl+n<=j then(match a with
      |some ⟨b,o,Y⟩=>if f=[]then O (.slice (O ⟨b,o,Y⟩) (sl+n) j,Z)else match Z.m b with
       |some d=>match CU d (o+sl*es) f with
        |some h=>O (.slice (O ⟨b,o,Y⟩) (sl+n) j,Z.set b<|O h)
        |none=>Y
       |none=>Y
      |none=>if f=[]/\sl=0/\j=0/\n=0 then O (.slice Y 0 0,Z)else Y
      |_=>Y)
     else if(sl+n)*bytes<=140737488355328/\sl+n<=9223372036854775807/\f.all one=Za then(match a with
      |some ⟨b,o,Y⟩=>match Z.m b with
       |some d=>if d.own=Za/\d.es=es then match rz d o (sl*es)with
        |some g=>O (.slice (O ⟨Z.n,0,Y⟩) (sl+n)<|sl+n,(Z.set b Y).add ⟨g++f,Za,es⟩)
        |none=>Y
        else Y
       |none=>Y
      |none=>if sl=0 then O (.slice (O ⟨Z.n,0,Y⟩) n n,Z.add ⟨f,Za,es⟩)else Y
      |some ⟨b,o,O _⟩=>if sl=0 then O (.slice (O ⟨Z.n,0,Y⟩) n n,Z.add ⟨f,Za,es⟩)else match Z.m b with
       |some d=>if d.es=es then match rz d o (sl*es)with
        |some g=>O (.slice (O ⟨Z.n,0,Y⟩) (sl+n)<|sl+n,Z.add ⟨g++f,Za,es⟩)
        |none=>Y
        else Y
       |none=>Y)
     else Y
def CO :List Value->Option Zd
 |[]=>O []
 | .int .u8 n::r=>(CO r).map (n:: ·)
 |_=>Y
def YS (l:Zd):ByteArray:=l.foldl (λr n=>r.push<|UInt8.ofNat n.toNat) ByteArray.empty
def AOp.run (e:cx)(Z:Hp):AOp->Option (Value×Hp)
 | .move x=>O (e.ev x,Z)
 | .pick c a b=>match e.ev c with
  | .bool true=>O (e.ev a,Z)
  | .bool false=>O (e.ev b,Z)
  |_=>Y
 | .alloc es zero=>O (.pointer<|O ⟨Z.n,0,Y⟩,Z.add ⟨zero,Za,es⟩)
 | .box es x=>if(cellsOf<|e.ev x).all one then O (.pointer<|O ⟨Z.n,0,Y⟩,Z.add ⟨cellsOf<|e.ev x,Za,es⟩)else Y
 | .build zero q=>(GD zero<|q.map λ(o,s,x)=>(o,s,e.ev x)).map λr=>(.agg r.toArray,Z)
 | .buildSlice es z zero q=>match GD (fd zero z) (q.map λ(o,s,x)=>(o,s,e.ev x))with
  |some r=>if r.all one then O (.slice (O ⟨Z.n,0,Y⟩) z z,Z.add ⟨r,Za,es⟩)else Y
  |none=>Y
 | .load x=>match e.ev x with
  | .pointer (O ⟨b,o,Y⟩)=>match Z.m b with
   |some p=>(p.cells[o]?).map λv=>(v,Z)
   |none=>Y
  |_=>Y
 | .loadN n x=>match e.ev x with
  | .pointer (O ⟨b,o,Y⟩)=>match Z.m b with
   |some p=>(rz p o n).map λr=>(.agg r.toArray,Z)
   |none=>Y
  |_=>Y
 | .store n a x=>match e.ev a with
  | .pointer (O ⟨b,o,Y⟩)=>if(ft<|cellsOf<|e.ev x)=n then match Z.m b with
   |some p=>match CU p o (cellsOf<|e.ev x)with
    |some t=>O (undef,Z.set b<|O t)
    |none=>Y
   |none=>Y
   else Y
  |_=>Y
 | .nilCheck x=>match e.ev x with
  | .pointer (O a)=>O (.pointer<|O a,Z)
  | .func (.func f) first j=>O (.func (.func f) first j,Z)
  |_=>Y
 | .bin op x y=>(CN op (e.ev x)<|e.ev y).map λv=>(v,Z)
 | .eqv J D x y=>(Vr J (e.ev x)<|e.ev y).map λb=>(.bool<|b !=D,Z)
 | .eqCells D K x y=>match e.ev x,e.ev y with
  | .agg a, .agg b=>(kc K a.toList b.toList).map λb=>(.bool<|b !=D,Z)
  |_,_=>Y
 | .un op x=>(un1 op<|e.ev x).map λv=>(v,Z)
 | .conv k x=>(bv8<|e.ev x).map λn=>(.int k<|k.wrap n,Z)
 | .mkFunc f first j=>O (.func (.func f) (first.map e.ev).toArray (j.map e.ev).toArray,Z)
 | .makeSlice es g zero l c=>match e.ev l,e.ev c with
  | .int _ l, .int _ c=>if 0<=l/\l<=c/\g*c<=281474976710656/\c<=9223372036854775807 then
    O (.slice (O ⟨Z.n,0,Y⟩) l.toNat c.toNat,Z.add ⟨fd zero c.toNat,Za,es⟩)else Y
  |_,_=>Y
 | .slice es x lo C=>match e.ev x with
  | .slice a z u=>if(u==0||EI Z es a lo)=Za then match nH u z (C.map e.ev)with
   |some h=>match nH h 0 (lo.map e.ev)with
    |some l=>O (.slice (a.map (QX · (l*es))) (h-l)<|u-l,Z)
    |none=>Y
   |none=>Y else Y
  |_=>Y
 | .sliceStr x lo C=>match e.ev x with
  | .string s=>match nH s.size s.size (C.map e.ev)with
   |some h=>match nH h 0 (lo.map e.ev)with
    |some l=>O (.string<|s.extract l h,Z)
    |none=>Y
   |none=>Y
  |_=>Y
 | .sliceArr es n x lo C=>match e.ev x with
  | .pointer (O ⟨b,o,Y⟩)=>match Z.m b with
   |some p=>if p.own=Za/\p.es=es/\o+n*es<=ft p.cells then match nH n n (C.map e.ev)with
    |some h=>match nH h 0 (lo.map e.ev)with
     |some l=>if l<n then O (.slice (O ⟨b,o+l*es,Y⟩) (h-l)<|n-l,Z)else Y
     |none=>Y
    |none=>Y else Y
   |none=>Y
  |_=>Y
 | .off n x=>match e.ev x with
  | .pointer (O ⟨b,o,Y⟩)=>O (.pointer<|O ⟨b,o+n,Y⟩,Z)
  |_=>Y
 | .idx es x i=>match e.ev x,e.ev i with
  | .slice (O ⟨b,o,Y⟩) z _, .int _ i=>if 0<=i/\i<z then O (.pointer<|O ⟨b,o+i.toNat*es,Y⟩,Z)else Y
  |_,_=>Y
 | .idxA z es x i=>match e.ev x,e.ev i with
  | .pointer (O ⟨b,o,Y⟩), .int _ i=>if 0<=i/\i<z then O (.pointer<|O ⟨b,o+i.toNat*es,Y⟩,Z)else Y
  |_,_=>Y
 | .fieldV F n agg x=>match e.ev x with
  | .agg r=>if agg then O (.agg<|r.extract F<|F+n,Z)else(r[F]?).map λv=>(v,Z)
  |_=>Y
 | .indexV z es agg x i=>match e.ev x,e.ev i with
  | .agg r, .int _ i=>if 0<=i/\i<z then(if agg then O (.agg<|r.extract (i.toNat*es)<|i.toNat*es+es,Z)else(r[i.toNat*es]?).map λv=>(v,Z))else Y
  |_,_=>Y
 | .indexS x i=>match e.ev x,e.ev i with
  | .string s, .int _ i=>if 0<=i then(s[i.toNat]?).map λb=>(.int .u8 b.toNat,Z)else Y
  |_,_=>Y
 | .extract x i=>match e.ev x with
  | .tuple M=>(M[i]?).map λv=>(v,Z)
  |_=>Y
 | .call _ _| .callv _ _=>Y
 | .append es g s x=>match e.ev s with
  | .slice a I H=>match GK (e.ev x)with
   |some n=>match Z.slice es (e.ev x) n with
    |some A=>pF es g Z a I H n A
    |none=>Y
   |none=>Y
  |_=>Y
 | .appendZ es g zero s x=>match e.ev s,e.ev x with
  | .slice a I H, .int _ l=>if 0<=l/\l<=9223372036854775807/\l*g<=281474976710656 then pF es g Z a I H l.toNat (fd zero l.toNat)else Y
  |_,_=>Y
 | .copy es d s=>match e.ev d with
  | .slice a E _=>match GK (e.ev s)with
   |some n=>match Z.slice es (e.ev s) (min n E)with
    |some A=>(match a with
     |some ⟨b,o,Y⟩=>if A=[]then O (.int .i64 (min n E:Nat),Z)else match Z.m b with
      |some p=>match CU p o A with
       |some t=>O (.int .i64 (min n E:Nat),Z.set b<|O t)
       |none=>Y
      |none=>Y
     |none=>if A=[]then O (.int .i64 (min n E:Nat),Z)else Y
     |_=>Y)
    |none=>Y
   |none=>Y
  |_=>Y
 | .len x=>match e.ev x with
  | .slice _ n _=>O (.int .i64 n,Z)
  |_=>Y
 | .most x y=>(YY (e.ev x)<|e.ev y).map λv=>(v,Z)
 | .least x y=>(Um (e.ev x)<|e.ev y).map λv=>(v,Z)
 | .stuck=>Y
 | .capN x=>match e.ev x with
  | .slice Y 0 0=>O (.int .i64 0,Z)
  |_=>Y
 | .sliceX x C L=>match e.ev x with
  | .slice a _ u=>match nH u 0 (O<|e.ev L)with
   |some m=>match nH m 0 (O<|e.ev C)with
    |some h=>if h=m then match a with
     |none=>O (.slice Y 0 0,Z)
     |some ⟨b,o,Y⟩=>O (.slice (O ⟨b,o,O 0⟩) m m,Z)
     |_=>Y
     else Y
    |none=>Y
   |none=>Y
  |_=>Y
 | .newB=>O (.iface Z.n .nilFunc,Z.add ⟨[.string ByteArray.empty],Za,1⟩)
 | .strOf x=>match e.ev x with
  | .slice a n c=>match Z.slice 1 (.slice a n c) n with
   |some r=>(CO r).map λl=>(.string<|YS l,Z)
   |none=>Y
  |_=>Y
def cg (T:iX)(op:AOp)(e:cx)(Z:Hp)(k:Value->Hp->Prop):Prop:=
 match op with
 | .call f g=>T f (g.map e.ev) Z k
 | .callv x g=>match e.ev x with
  | .func (.func f) first d=>T f (first.toList++g.map e.ev++d.toList) Z k
  |_=>False
 |op=>match op.run e Z with
  |some (v,Z')=>k v Z'
  |none=>False
def wanted (o:AOper)(e:cx):Bool:=
 match o.guard with
 |some (t,d)=>match e t with
  | .bool b=>b==d
  |_=>Zb
 |none=>Za
def BE (T:iX)(Q:cx->Hp->Prop):List AOper->cx->Hp->Prop
 |[],e,Z=>Q e Z
 |o::d,e,Z=>if wanted o e then cg T o.op e Z λv Z'=>BE T Q d (e.putO o.dst v) Z' else BE T Q d (e.putO o.dst undef) Z
def AOp.still :AOp->Bool
 | .alloc .. | .box .. | .buildSlice .. | .store .. | .call .. | .callv .. | .makeSlice .. | .append .. | .appendZ .. | .copy .. | .strOf .. | .newB=>Zb
 |_=>Za
def jA (f:(AExit->cx->Hp->Prop)->cx->Hp->Prop)(Q:AExit->cx->Hp->Prop):Nat->cx->Hp->Prop
 |0,_,_=>False
 |n+1,e,Z=>f (λx d Z'=>match x with
  | .normal=>jA f Q n d Z'
  |x=>Q x d Z') e Z
def AOp.isLoad :AOp->Bool
 | .load _| .loadN _ _| .sliceArr _ _ _ _ _| .slice _ _ (O _) _=>Za
 |_=>Zb
def iz (d:List<|AOper×List Nat)(i:Nat):List Nat:=match d[i]? with
 |some (_,p)=>p
 |none=>[]
def Lv (acc:List Nat)(d:List Nat):Nat:=d.foldl (λm q=>m|||2 ^ q|||acc.getD q 0) 0
def VN (d:List Nat):List (AOper×List Nat)->List Nat
 |[]=>d
 |(_,f)::r=>VN (d++[Lv d f]) r
def vu (d:List<|AOper×List Nat)(p j:Nat):Bool:=((VN [] d).getD j 0).testBit p
def TT (d:List<|AOper×List Nat)(done:List Nat)(i:Nat):Bool:=
 !done.contains i&&(iz d i).all λq=>done.contains q
def EY (d:List<|AOper×List Nat)(i:Nat):Bool:=match d[i]? with
 |some (o,_)=>o.op.still
 |none=>Zb
def eV (d:List<|AOper×List Nat)(done:List Nat):Option Nat:=(aB<|ft d).find? λi=>TT d done i&&EY d i
def bw (d:List<|AOper×List Nat)(done:List Nat):List Nat:=(aB<|ft d).filter λi=>TT d done i&& !EY d i
def N8 (f:Nat->Prop):List Nat->Prop
 |[]=>True
 |[m]=>f m
 |m::r=>f m/\N8 f r
def Ds (d:List<|AOper×List Nat)(m:Nat)(Z:Hp):List (Nat×(Hp->Prop))->Prop
 |[]=>True
 |(i,c)::r=>if vu d i m then Ds d m Z r else c Z/\Ds d m Z r
def E3 (T:iX)(Q:cx->Hp->Prop)(d:List<|AOper×List Nat):Nat->List Nat->List (Nat×(Hp->Prop))->cx->Hp->Prop
 |0,_,_,e,Z=>Q e Z
 |f+1,done,g,e,Z=>match eV d done with
  |some i=>match d[i]? with
   |some (o,_)=>
    if wanted o e then match o.op.run e Z with
     |some (v,_)=>E3 T Q d f (i::done) (if o.op.isLoad then(i,λZ'=>o.op.run e Z'=O (v,Z'))::g else g) (e.putO o.dst v) Z
     |none=>False
    else E3 T Q d f (i::done) g (e.putO o.dst undef) Z
   |none=>False
  |none=>match bw d done with
   |[]=>Q e Z
   |ms=>N8 (λm=>match d[m]? with
    |some (o,_)=>
     if wanted o e then cg T o.op e Z λv Z'=>Ds d m Z' g/\E3 T Q d f (m::done) g (e.putO o.dst v) Z'
     else E3 T Q d f (m::done) g (e.putO o.dst undef) Z
    |none=>False) ms
def Ai (d:List Nat)(Z:Hp):List (Nat×(Hp->Prop))->Prop
 |[]=>True
 |(i,c)::r=>if d.contains i then c Z/\Ai d Z r else Ai d Z r
def Yg (d:List<|AOper×List Nat)(i:Nat):Bool:=match d[i]? with
 |some (o,_)=> !o.op.still
 |none=>Zb
def aB0 (d:List<|AOper×List Nat)(i:Nat):Bool:=(aB<|ft d).any λm=>Yg d m&& !vu d i m
def HG (g:List<|AOper×List Nat):Nat->List Nat->List Nat->Option (List SItem)
 |0,_,_=>O []
 |f+1,done,d=>match eV g done with
  |some i=>match g[i]? with
   |some (o,_)=>(HG g f (i::done) (if o.op.isLoad then i::d else d)).map (⟨i,o,Zb,o.op.isLoad&&aB0 g i,[]⟩:: ·)
   |none=>Y
  |none=>match bw g done with
   |[]=>O []
   |[m]=>match g[m]? with
    |some (o,_)=>(HG g f (m::done) d).map (⟨m,o,Za,Zb,d.filter λi=> !vu g i m⟩:: ·)
    |none=>Y
   |_=>Y
def Uv (T:iX)(Q:cx->Hp->Prop):List SItem->List (Nat×(Hp->Prop))->cx->Hp->Prop
 |[],_,e,Z=>Q e Z
 |it::r,d,e,Z=>
  if wanted it.o e then
   (if it.mover then cg T it.o.op e Z λv Z'=>Ai it.chks Z' d/\Uv T Q r d (e.putO it.o.dst v) Z'
    else match it.o.op.run e Z with
    |some (v,_)=>Uv T Q r (if it.keep then(it.idx,λZ'=>it.o.op.run e Z'=O (v,Z'))::d else d) (e.putO it.o.dst v) Z
    |none=>False)
  else Uv T Q r d (e.putO it.o.dst undef) Z
def yw (T:iX):AC->(AExit->cx->Hp->Prop)->cx->Hp->Prop
 | .skip,Q,e,Z=>Q .normal e Z
 | .region d,Q,e,Z=>BE T (Q .normal) d e Z
 | .draw d,Q,e,Z=>E3 T (Q .normal) d (ft d) [] [] e Z
 | .sched f,Q,e,Z=>Uv T (Q .normal) f [] e Z
 | .seq a b,Q,e,Z=>yw T a (λx e Z=>match x with
  | .normal=>yw T b Q e Z
  |x=>Q x e Z) e Z
 | .cond c a b,Q,e,Z=>match e.ev c with
  | .bool true=>yw T a Q e Z
  | .bool false=>yw T b Q e Z
  |_=>False
 | .block id b,Q,e,Z=>yw T b (λx e Z=>match x with
  | .exit i=>if i=id then Q .normal e Z else Q (.exit i) e Z
  |x=>Q x e Z) e Z
 | .loop b,Q,e,Z=> ∃n,jA (yw T b) Q n e Z
 | .exit id,Q,e,Z=>Q (.exit id) e Z
 | .ret,Q,e,Z=>Q .ret e Z
def Px (e:cx)(Z:Hp):ARes->Option Value
 | .tmp t=>O (e t)
 | .cell t=>match e t with
  | .pointer (O ⟨b,o,Y⟩)=>gn (Z.m b) λx=>x.cells[o]?
  |_=>Y
 | .cellN t n=>match e t with
  | .pointer (O ⟨b,o,Y⟩)=>gn (Z.m b) λx=>(rz x o n).map λd=> .agg d.toArray
  |_=>Y
def LH (e:cx)(Z:Hp):List ARes->Option (List Value)
 |[]=>O []
 |r::d=>match Px e Z r,LH e Z d with
  |some v,O f=>O (v::f)
  |_,_=>Y
def Cj :List Value->Value
 |[v]=>v
 |vs=> .tuple vs.toArray
def wpF (T:iX)(f:AFn):S6:=λd Z K=>ft d<=f.ntmps/\
 yw T f.body (λx e Z'=>match x with
  | .exit _=>False
  |_=>match LH e Z' f.results with
   |some g=>K (Cj g) Z'
   |none=>False) (cx.of d) Z
end
variable {e:cx}
section
open Nat renaming lt_of_lt_of_le->aB
open Go.RowKit
structure G where
 c:Nat
 o:Nat
 ext:Nat
 es:Nat
 ty:Nat
 it:Option Value
abbrev Mu :=Nat->Option G
def Mu.le (μ μ':Mu):Prop:= ∀b g,μ b=O g->μ' b=O g
def Mu.le_refl (μ:Mu):μ.le μ:=λ_ _ h=>h
def Mu.le_trans {a b c:Mu}(h:a.le b)(k:b.le c):a.le c:=λx g d=>k x g<|h x g d
def Mu.add (μ:Mu)(n:Nat)(g:G):Mu:=λb=>if b=n then O g else μ b
theorem Mu.le_add {μ:Mu}{n:Nat}{g:G}(h:μ n=Y):μ.le<|μ.add n g:=λb d f=>by
 unfold Mu.add
 grind
def Mu.at (μ:Mu)(b:Nat)(g:G):Prop:=μ b=O g/\g.it=Y
def Mu.at_le {μ μ':Mu}(h:μ.le μ'){b:Nat}{g:G}(k:μ.at b g):μ'.at b g:=⟨h _ _ k.1,k.2⟩
inductive F2 {α β:Type}(r:α->β->Prop):List α->List β->Prop where
 |nil:F2 r [] []
 |cons {a:α} {b:β} {l:List α} {m:List β}:r a b->F2 r l m->F2 r (a::l) (b::m)
inductive VR (μ:Mu):Value->Value->Prop where
 |bool (b:Bool):VR μ (.bool b) (.bool b)
 |int (k:IntKind) (n:Int):VR μ (.int k n) (.int k n)
 |string (s:ByteArray):VR μ (.string s) (.string s)
 |nilp:VR μ (.pointer Y) (.pointer Y)
 |ptr {b o:Nat} {g:G}:μ.at b g->VR μ (.pointer<|O ⟨b,o,Y⟩) (.pointer<|O ⟨g.c,g.o+o,Y⟩)
 |nils:VR μ (.slice Y 0 0) (.slice Y 0 0)
 |slice {b o l c c':Nat} {g:G}:μ.at b g->l<=c->c<=c'->o+c'*g.es<=g.ext->VR μ (.slice (O ⟨b,o,Y⟩) l c) (.slice (O ⟨g.c,g.o+o,Y⟩) l c')
 |slice0 {b o:Nat} {g:G} (A':Addr):μ.at b g->VR μ (.slice (O ⟨b,o,Y⟩) 0 0) (.slice (O A') 0 0)
 |sliceX {b o c:Nat} {g:G}:μ.at b g->o+c*g.es<=g.ext->VR μ (.slice (O ⟨b,o,O 0⟩) c c) (.slice (O ⟨g.c,g.o+o,Y⟩) c c)
 |sliceX0 {b o:Nat} {g:G} (A':Addr):μ.at b g->VR μ (.slice (O ⟨b,o,O 0⟩) 0 0) (.slice (O A') 0 0)
 |nilf:VR μ .nilFunc .nilFunc
 |func {f:Fn} {a a' c c':Array Value}:F2 (VR μ) a.toList a'.toList->F2 (VR μ) c.toList c'.toList->VR μ (.func f a c) (.func f a' c')
 |nili:VR μ .nilIface .nilIface
 |iter {b:Nat} {g:G} {v:Value}:μ b=O g->g.it=O v->VR μ (.iface b v) (.pointer<|O ⟨g.c,0,Y⟩)
 |agg {a a':Array Value}:F2 (VR μ) a.toList a'.toList->VR μ (.agg a) (.agg a')
 |tuple {a a':Array Value}:F2 (VR μ) a.toList a'.toList->VR μ (.tuple a) (.tuple a')
def F2.length {α β:Type}{r:α->β->Prop}{l:List α}{m:List β}(h:F2 r l m):l.length=m.length:=by
 induction h with
 |nil=>rfl
 |cons _ _ d=>simp[d]
theorem F2.get {α β:Type}{r:α->β->Prop}{l:List α}{m:List β}(h:F2 r l m): ∀(i:Nat) (a:α),l[i]?=O a->∃b,m[i]?=O b/\r a b:=by
 induction h with
 |nil=>intro i a h;simp at h
 |cons d _ f=>
  grind
def F2.of_get {α β:Type}{r:α->β->Prop}: ∀(l:List α) (m:List β),ft l=ft m->(∀(i:Nat) (a:α) (b:β),l[i]?=O a->m[i]?=O b->r a b)->F2 r l m
 |[],[],_,_=> .nil
 |[],_::_,h,_=>by simp at h
 |_::_,[],h,_=>by simp at h
 |a::l,b::m,h,d=> .cons (d 0 a b rfl rfl)<|F2.of_get l m V8 λi x y f g=>d (i+1) x y (by simpa using f) (by simpa using g)
def F2.append {α β:Type}{r:α->β->Prop}{l l':List α}{m m':List β}(h:F2 r l m)(d:F2 r l' m'):F2 r (l++l')<|m++m':=by
 induction h with
 |nil=>exact d
 |cons f _ g=>exact .cons f g
def F2.take {α β:Type}{r:α->β->Prop}{l:List α}{m:List β}(h:F2 r l m): ∀n,F2 r (l.take n)<|m.take n:=by
 induction h with
 |nil=>intro n;simp;exact .nil
 |cons d _ f=>
  intro n;cases n with
  |zero=>exact .nil
  |succ n=>exact .cons d<|f n
def F2.drop {α β:Type}{r:α->β->Prop}{l:List α}{m:List β}(h:F2 r l m): ∀n,F2 r (l.drop n)<|m.drop n:=by
 induction h with
 |nil=>intro n;simp;exact .nil
 |cons d f g=>
  intro n;cases n with
  |zero=>exact .cons d f
  |succ n=>exact g n
def F2.same {α:Type}{r:α->α->Prop}: ∀(l:List α),(∀a∈l,r a a)->F2 r l l
 |[],_=> .nil
 |a::l,h=> .cons (h a V2)<|F2.same l λb d=>h b (by simp[d])
def F2.imp {α β:Type}{r s:α->β->Prop}(d: ∀a b,r a b->s a b){l:List α}{m:List β}(h:F2 r l m):F2 s l m:=by
 induction h with
 |nil=>exact .nil
 |cons f _ g=>exact .cons (d _ _ f) g
def VR.mono {μ μ':Mu}(f:μ.le μ'): ∀{v v':Value},VR μ v v'->VR μ' v v'
 |_,_, .bool b=> .bool b
 |_,_, .int k n=> .int k n
 |_,_, .string s=> .string s
 |_,_, .nilp=> .nilp
 |_,_, .ptr h=> .ptr (Mu.at_le f h)
 |_,_, .nils=> .nils
 |_,_, .slice h d g j=> .slice (Mu.at_le f h) d g j
 |_,_, .slice0 A' h=> .slice0 A' (Mu.at_le f h)
 |_,_, .sliceX h d=> .sliceX (Mu.at_le f h) d
 |_,_, .sliceX0 A' h=> .sliceX0 A' (Mu.at_le f h)
 |_,_, .nilf=> .nilf
 |_,_, .func d g=> .func (go d) (go g)
 |_,_, .nili=> .nili
 |_,_, .iter h d=> .iter (f _ _ h) d
 |_,_, .agg h=> .agg (go h)
 |_,_, .tuple h=> .tuple<|go h
where
 go {l m:List Value}:F2 (VR μ) l m->F2 (VR μ') l m
 | .nil=> .nil
 | .cons h t=> .cons (VR.mono f h)<|go t
def VR.undef (μ:Mu):VR μ undef undef:= .tuple .nil
def VR.one_iff {μ:Mu}(h:VR μ v v'):one v=v'.oneCell':=by cases h<;>rfl
def VR.cells {μ:Mu}(h:VR μ v v'):F2 (VR μ) (cellsOf v) v'.cells.toList:=by
 cases h with
 |agg h=>exact h
 |bool b=>exact .cons (.bool b) .nil
 |int k n=>exact .cons (.int k n) .nil
 |string s=>exact .cons (.string s) .nil
 |nilp=>exact .cons .nilp .nil
 |ptr h=>exact .cons (.ptr h) .nil
 |nils=>exact .cons .nils .nil
 |slice h d f g=>exact .cons (.slice h d f g) .nil
 |slice0 A' h=>exact .cons (.slice0 A' h) .nil
 |sliceX h d=>exact .cons (.sliceX h d) .nil
 |sliceX0 A' h=>exact .cons (.sliceX0 A' h) .nil
 |nilf=>exact .cons .nilf .nil
 |func d f=>exact .cons (.func d f) .nil
 |nili=>exact .cons .nili .nil
 |iter h d=>exact .cons (.iter h d) .nil
 |tuple h=>exact .cons (.tuple h) .nil
def IS :Value->Bool
 | .bool _| .int _ _| .string _| .pointer Y| .slice Y 0 0| .nilFunc| .nilIface=>Za
 | .agg d=>d.toList.all λ
  | .bool _| .int _ _| .string _| .pointer Y| .slice Y 0 0| .nilFunc| .nilIface=>Za
  |_=>Zb
 | .tuple d=>d.size==0
 |_=>Zb
theorem VR.plain1 (μ:Mu): ∀v:Value,(match v with
  | .bool _| .int _ _| .string _| .pointer Y| .slice Y 0 0| .nilFunc| .nilIface=>Za
  |_=>Zb)=Za->VR μ v v:=by
 intro v h;cases v with
 |bool b=>exact .bool b
 |int k n=>exact .int k n
 |string s=>exact .string s
 |pointer a=>cases a with
  |none=>exact .nilp
  |some a=>simp at h
 |slice a n c=>
  split at h<;>first|(rename_i d;cases d;exact .nils)|simp_all
 |nilFunc=>exact .nilf
 |nilIface=>exact .nili
 |_=>simp at h
theorem VR.plain {μ:Mu}(h:IS v=Za):VR μ v v:=by
 cases v with
 |agg d=>
  refine .agg<|F2.same _ λa f=>VR.plain1 μ a ?_;simp only[IS,List.all_eq_true]at h;exact h a f
 |tuple d=>
  have:d= #[]:=by simpa[IS]using h
  subst this;exact .tuple .nil
 |bool b=>exact .bool b
 |int k n=>exact .int k n
 |string s=>exact .string s
 |pointer a=>cases a with
  |none=>exact .nilp
  |some a=>simp[IS]at h
 |slice a n c=>
  unfold IS at h;split at h<;>first|(rename_i g;cases g;exact .nils)|simp_all
 |nilFunc=>exact .nilf
 |nilIface=>exact .nili
 |_=>simp[IS]at h
structure Base (P:Program)where
 n:Nat
 h:Nat->Option Obj
 tab: ∀w:World,n<=w.heap.size->(∀b,b<n->w.heap[b]?=h b)->P.globalNamed "internal/strconv.uint64pow10" ≠Y->Lib.TabIs P w "internal/strconv.uint64pow10" .u64 Lib.pow10Tab
instance (P :Program):CoeHead (Base P) Nat:=⟨Base.n⟩
def JY (P:Program)(t:TypeId):Bool:=match P.types[t]? with
 |some i=>(match i.desc with
  | .named n _=>n== "strings.Builder"
  |_=>Zb)
 |none=>Zb
def jd (w:World)(c:Nat):Option Nat:=match w.heap[c]? with
 |some (.cells d _ _)=>(d[1]?).bind Value.ownBlock
 |_=>Y
def Uf (w:World)(g i:Nat)(cs:Array Value)(t:TypeId)(d:Nat×Nat)(v:Value)(f:w.heap[g]?=O (.cells cs t d)):(w.setCell ⟨g,i,Y⟩ v).heap[g]?=O (.cells (cs.setIfInBounds i v) t d):=by
 simp[World.setCell,Array.getElem?_modify,f]
def OU (w:World)(g j:Nat)(cs:Array Value)(t:TypeId)(d:Nat×Nat)(h:w.heap[g]?=O (.cells cs t d))(l:j<cs.size)(f:cs.size<=d.1∨d.1=d.2):w.frozen? ⟨g,j,Y⟩=Zb:=by
 have⟨lo,k⟩:=d;simp only at f;simp only[World.frozen?,h,Bool.and_eq_false_iff,decide_eq_false_iff_not];omega
structure Lives {P:Program}(B:Base P)(μ:Mu)(w:World)(x:Blk)(g:G):Prop where
 lt:g.c<w.heap.size
 es:g.es=x.es
 cell:g.it=Y->∀(i:Nat) (v:Value),x.cells[i]?=O v->∃v',w.cell? ⟨g.c,g.o+i,Y⟩=O v'/\VR μ v v'
 own:g.it=Y->x.own=Za->B.n<=g.c/\ft x.cells<=g.ext/\∃cur e fr,w.heap[g.c]?=O (.cells cur e fr)/\g.o+g.ext<=cur.size/\(cur.size<=fr.1∨fr.1=fr.2)
 iter: ∀s,g.it=O (.string s)->B.n<=g.c/\∃p:Nat,x.cells=[Value.int .i64 p].take (ft x.cells)/\w.heap[g.c]?=O (.stringIter s p)
 bld:g.it=O .nilFunc->JY P g.ty=Za/\∃p s,(p= .pointer Y∨p= .pointer (O ⟨g.c,0,Y⟩))/\x.cells=[Value.string s].take (ft x.cells)/\Lib.BuilderAtF g.ty P.rt.byte B.n g.c p (Lib.strCells s) w
def Sep (μ:Mu)(Z:Hp)(w:World):Prop:= ∀b x g,Z.m b=O x->μ b=O g->g.it=O .nilFunc->∀k,jd w g.c=O k->∀f h d,Z.m f=O h->μ f=O d->d.c≠k/\(f≠b->d.it=O .nilFunc->jd w d.c≠O k)
theorem Sep.of {μ μ':Mu}{Z Z':Hp}{w':World}(h:Sep μ Z w)(d: ∀b x g,Z'.m b=O x->μ' b=O g->(∃y,Z.m b=O y/\μ b=O g)∨(g.it≠O .nilFunc/\∀b1 F l k,Z.m b1=O F->μ b1=O l->l.it=O .nilFunc->jd w l.c=O k->g.c≠k))
  (C: ∀b x g,Z.m b=O x->μ b=O g->g.it=O .nilFunc->(∃y,Z'.m b=O y)->jd w' g.c=jd w g.c):Sep μ' Z' w':=by
 intro b x g u D f k t q E r p n;rcases d b x g u D with⟨y,j,s⟩|⟨j,_⟩
 .rw[C b y g j s f ⟨x,u⟩]at t;rcases d q E r p n with⟨H,z,A⟩|⟨z,A⟩
  .obtain⟨I,J⟩:=h b y g j s f k t q H r z A
   grind
  grind
 .exact(j f).elim
def XM {T e:TypeId}{n b:Nat}{p:Value}{bs:List Value}{w':World}(h:Lib.BuilderAtF T e n b p bs w)(z:w'.heap[b]?=w.heap[b]?)(C: ∀k,jd w b=O k->w'.heap[k]?=w.heap[k]?):Lib.BuilderAtF T e n b p bs w':=by
 have⟨u,v,f,d,r⟩:=h;refine⟨u,v,z.trans f,⟨d.1, ?_⟩,r⟩;rcases d.2 with D|⟨g,l,m,t,s,A,q,j⟩
 .exact .inl D
 exact .inr ⟨g,l,m,t,s,A,(C g (by subst s;simp[jd,f,Value.ownBlock])).trans q,j⟩
def aj5 {T e:TypeId}{n b:Nat}{p:Value}{bs:List Value}(h:Lib.BuilderAtF T e n b p bs w){k:Nat}(q:jd w b=O k):n<=k/\k<w.heap.size/\k≠b:=by
 have⟨r,v,f,d,g⟩:=h;have j:v.ownBlock=O k:=by simpa[jd,f]using q
 have⟨l,m⟩:=d.lt k j;exact⟨l,m,λe=>g<|e▸j⟩
structure R {P:Program}(B:Base P)(μ:Mu)(Z:Hp)(w:World):Prop where
 base:B.n<=w.heap.size
 old: ∀b,b<B.n->w.heap[b]?=B.h b
 fresh: ∀b,Z.n<=b->μ b=Y
 live: ∀b x,Z.m b=O x->∃g,μ b=O g/\Lives B μ w x g
 inj: ∀b b' x x' g g',Z.m b=O x->Z.m b'=O x'->b≠b'->x.own=Za->μ b=O g->μ b'=O g'->g.c≠g'.c
 sep:Sep μ Z w
section
variable {P:Program} {B:Base P} {μ μ':Mu} {Z:Hp} {w w':World}
def Lives.mono {x:Blk}{g:G}(h:Lives B μ w x g)(l:μ.le μ'):Lives B μ' w x g:=
 ⟨h.lt,h.es,λd i v k=>let⟨v',f,j⟩:=h.cell d i v k;⟨v',f,j.mono l⟩,h.own,h.iter,h.bld⟩
def Lives.kept {x:Blk}{g:G}(h:Lives B μ w x g)(t:w.heap.size<=w'.heap.size)(j:w'.heap[g.c]?=w.heap[g.c]?)(A:g.it=O .nilFunc->∀k,jd w g.c=O k->w'.heap[k]?=w.heap[k]?):Lives B μ w' x g:=
 ⟨aB h.lt t,h.es,λm i v D=>let⟨v',d,n⟩:=h.cell m i v D;⟨v',(World.cell?_of_block (w:=w) (w':=w') j).trans d,n⟩,λm C=>by
  have⟨d,n,l,e,z,f,r⟩:=h.own m C
  exact⟨d,n,l,e,z,j.trans f,r⟩,λs t=>let⟨d,p,q,f⟩:=h.iter s t;⟨d,p,q,j.trans f⟩,λu=>let⟨d,p,s,q,f,r⟩:=h.bld u;⟨d,p,s,q,f,XM r j<|A u⟩⟩
def R.same (h:R B μ Z w)(d:w'.heap=w.heap):R B μ Z w':=
 ⟨by rw[d];exact h.base,λb m=>by rw[d];exact h.old b m,h.fresh,λb x f=>let⟨g,j,l⟩:=h.live b x f;⟨g,j,l.kept (by rw[d];exact Nat.le_refl _) (by rw[d]) (λ_ k _=>by rw[d])⟩,h.inj,h.sep.of (λb x g f n=> .inl ⟨x,f,n⟩) (λb x g _ _ _ _=>by unfold jd;rw[d])⟩
theorem R.get (h:R B μ Z w){b:Nat}{x:Blk}{g:G}(d:Z.m b=O x)(l:μ b=O g):Lives B μ w x g:=by
 have⟨f,j,k⟩:=h.live b x d
 grind
def R.buf (h:R B μ Z w){b:Nat}{x:Blk}{g:G}(q:Z.m b=O x)(f:μ b=O g)(j:g.it=O .nilFunc){k:Nat}(l:jd w g.c=O k):B.n<=k/\k<w.heap.size/\k≠g.c:=by
 have⟨_,p,s,_,_,d⟩:=(h.get q f).bld j;exact aj5 d l
def R.stays (h:R B μ Z w){b:Nat}{x:Blk}{g:G}(l:Z.m b=O x)(f:μ b=O g)(r:w.heap.size<=w'.heap.size)(c:Nat)(d: ∀k,k≠c->k<w.heap.size->w'.heap[k]?=w.heap[k]?)(q:g.c≠c)(j:g.it=O .nilFunc->jd w g.c≠O c):Lives B μ w' x g:=
 (h.get l f).kept r (d _ q (h.get l f).lt) λn k p=>d k (λe=>j n<|e▸p) (h.buf l f n p).2.1
def R.kill (h:R B μ Z w)(b:Nat):R B μ (Z.set b Y) w:=by
 have j: ∀f x,(Z.set b Y).m f=O x->Z.m f=O x:=by
  intro f x d;simp only[Hp.set]at d;split at d
  .cases d
  exact d
 exact⟨h.base,h.old,h.fresh,λf x d=>h.live f x<|j _ _ d,λk l x s g n p q=>h.inj k l x s g n (j _ _ p)<|j _ _ q,h.sep.of (λf x g d r=> .inl ⟨x,j _ _ d,r⟩)<|λ_ _ _ _ _ _ _=>rfl⟩
theorem R.add (h:R B μ Z w)(d:Array Value)(e:TypeId)(cells:List Value)(es:Nat)(H:ft cells<=d.size)(S:F2 (VR μ) cells<|d.toList.take<|ft cells):
  R B (μ.add Z.n ⟨w.heap.size,0,d.size,es,e,Y⟩) (Z.add ⟨cells,Za,es⟩) (w.alloc<|.cells d e)/\μ.le (μ.add Z.n ⟨w.heap.size,0,d.size,es,e,Y⟩):=by
 have T:μ Z.n=Y:=h.fresh _<|Nat.le_refl _;have l:μ.le<|μ.add Z.n ⟨w.heap.size,0,d.size,es,e,Y⟩:=Mu.le_add T
 have old: ∀b x,b≠Z.n->(Z.add ⟨cells,Za,es⟩).m b=O x->Z.m b=O x:=by
  intro b x f j;simpa[Hp.add,f]using j
 have J: ∀x,(Z.add ⟨cells,Za,es⟩).m Z.n=O x->x=⟨cells,Za,es⟩:=by
  intro x j;simp[Hp.add]at j;exact j.symm
 have r: ∀b x g,Z.m b=O x->μ b=O g->g.c<w.heap.size:=λb x g j q=>(h.get j q).lt
 refine⟨⟨Nat.le_trans h.base V2,λb f=>(Below.heap_alloc w _ _<|aB f h.base).trans<|h.old b f,λb f=> ?_,λb x j=> ?_,λb A x X g E j u C V q t=> ?_, ?_⟩,l⟩
 .have:Z.n+1<=b:=f;unfold Mu.add;rw[Zh];exact h.fresh b V1
 .by_cases f:b=Z.n
  .subst f;obtain rfl:=J x j;refine⟨⟨w.heap.size,0,d.size,es,e,Y⟩,ZP,⟨V2,rfl,λ_ i v W=> ?_,λ_ _=>⟨h.base,H,d,e,(0,0),heap_alloc_new w _,V2, .inr rfl⟩,λ_ I=>(by cases I),λI=>by cases I⟩⟩;have⟨v',z,s⟩:=S.get i v W
   have F:i<ft cells:=by
    grind
   refine⟨v', ?_,s.mono l⟩;rw[Nat.zero_add,cell_of_row _ _ _ d e (0,0)<|heap_alloc_new w _]
   grind
  .have u:=old b x f j;have⟨g,z,s⟩:=h.live b x u;exact⟨g,l _ _ z,(s.mono l).kept V2 (Below.heap_alloc w _ _ s.lt)<|λF k U=>Below.heap_alloc w _ _ (h.buf u z F U).2.1⟩
 .by_cases f:b=Z.n
  .subst f;have p:A≠Z.n:=λe=>C e.symm
   have:g.c=w.heap.size:=by simp[Mu.add]at q;rw[<-q]
   have s:μ A=O E:=by simpa[Mu.add,p]using t
   grind
  .have z:μ b=O g:=by simpa[Mu.add,f]using q
   have D:=old b x f j;by_cases p:A=Z.n
   .subst p;have:E.c=w.heap.size:=by simp[Mu.add]at t;rw[<-t]
    have:=r b x g D z;omega
   .have s:μ A=O E:=by simpa[Mu.add,p]using t
    exact h.inj b A x X g E D (old _ _ p u) C V z s
 .refine h.sep.of (λb x g j q=> ?_) (λb x g j q F _=> ?_)
  .by_cases f:b=Z.n
   .subst f;have K:g=⟨w.heap.size,0,d.size,es,e,Y⟩:=by simp[Mu.add]at q;exact q.symm
    subst K;exact .inr ⟨λL=>(by cases L),λb1 x1 g1 k z s M Q e=>by have:=(h.buf z s M Q).2.1;simp only at e;omega⟩
   .exact .inl ⟨x,old b x f j,by simpa[Mu.add,f]using q⟩
  .unfold jd;rw[Below.heap_alloc w _ _<|r b x g j q]
theorem R.write1 (h:R B μ Z w){b:Nat}{x:Blk}{g:G}(U:Z.m b=O x)(X:x.own=Za)(F:μ b=O g)(r:g.it=Y)(i:Nat)(K:i<ft x.cells)(hv:VR μ v v'):
  R B μ (Z.set b<|O ⟨x.cells.set i v,x.own,x.es⟩) (w.setCell ⟨g.c,g.o+i,Y⟩ v'):=by
 have T:=h.get U F;have⟨o1,o2,H,e,I,o4,o5,o6⟩:=T.own r X;have n: ∀k,k≠g.c->(w.setCell ⟨g.c,g.o+i,Y⟩ v').heap[k]?=w.heap[k]?:=λk C=>heap_setCell_other w _ k v' (by simpa using C)
 have t:(w.setCell ⟨g.c,g.o+i,Y⟩ v').heap[g.c]?=O (.cells (H.setIfInBounds (g.o+i) v') e I):=Uf w g.c (g.o+i) H e I v' o4
 have old: ∀l f,l≠b->(Z.set b<|O ⟨x.cells.set i v,x.own,x.es⟩).m l=O f->Z.m l=O f:=by
  intro l f J d;simpa[Hp.set,J]using d
 have new: ∀f,(Z.set b<|O ⟨x.cells.set i v,x.own,x.es⟩).m b=O f->f=⟨x.cells.set i v,x.own,x.es⟩:=by
  intro f d;simp[Hp.set]at d;exact d.symm
 refine⟨by simpa using h.base,λk C=>(n k V1).trans<|h.old k C,h.fresh,λl f d=> ?_,λb1 b2 x1 x2 g1 g2 A S D L V W=> ?_, ?_⟩
 .by_cases J:l=b
  .subst J;obtain rfl:=new f d;refine⟨g,F,⟨by simpa using T.lt,T.es,λ_ j u hu=> ?_,λ_ _=>⟨o1,by simpa using o2,_,e,I,t,by simpa using o5,by simpa using o6⟩,λs M=>(by rw[r]at M;cases M),λM=>by rw[r]at M;cases M⟩⟩;rw[cell_of_row _ _ _ _ e I t];by_cases hj:j=i
   .subst hj
    grind
   .rw[List.getElem?_set_ne (λe=>hj e.symm)]at hu;have⟨u',A,S⟩:=T.cell r j u hu;refine⟨u', ?_,S⟩;rw[cell_of_row _ _ _ _ e I o4]at A
    grind
  .have z:=old l f J d;have⟨E,A,S⟩:=h.live l f z;refine⟨E,A,h.stays z A V2 g.c (λk C _=>n k C) (λe=>h.inj b l x f g E U z (λe=>J e.symm) X F A e.symm)<|λK C=>((h.sep l f E z A K _ C b x g U F).1 rfl)⟩
 .have q: ∀l f,(Z.set b<|O ⟨x.cells.set i v,x.own,x.es⟩).m l=O f->∃y,Z.m l=O y/\y.own=f.own:=by
   grind
  have⟨y1,hy1,e1⟩:=q _ _ A;have⟨y2,hy2,_⟩:=q _ _ S;exact h.inj b1 b2 y1 y2 g1 g2 hy1 hy2 D (e1.trans L) V W
 .have Q: ∀l f,(Z.set b<|O ⟨x.cells.set i v,x.own,x.es⟩).m l=O f->∃y,Z.m l=O y:=by
   grind
  refine h.sep.of (λl f E d p=> .inl (let⟨y,hy⟩:=Q l f d;⟨y,hy,p⟩))<|λl f E d p K _=> ?_;have D:l≠b:=λe=>by subst e;rw[F]at p;cases p;rw[r]at K;cases K
  unfold jd;rw[n _<|λe=>h.inj b l x f g E U d (λe=>D e.symm) X F p e.symm]
end
end
section
open List renaming getElem?_eq_getElem->aB
open Result renaming andThen_ok->aD
open Go.RowKit
def dw :Operand->Bool
 | .const v=>IS v
 | .global _=>Zb
 |_=>Za
def BG (x:Operand):Option Operand:=if dw x then O x else Y
def aV3 :Option Operand->Option (Option Operand)
 |some x=>(BG x).map O
 |none=>O Y
def lC (P:Program)(t:TypeId):Option Nat:=(P.info? t).map (·.size)
def Va (P:Program)(t:TypeId):Option Nat:=(P.info? t).map (·.bytes)
def Ax :Value->Bool
 | .bool _| .int _ _| .string _| .pointer Y| .slice Y 0 0| .nilFunc| .nilIface=>Za
 |_=>Zb
def oH (P:Program)(t:TypeId):Option<|List Value:=match(P.info? t).bind (·.zero)with
 |some z=>if(cellsOf z).all Ax then O (cellsOf z)else Y
 |none=>Y
def B4 (P:Program)(t:TypeId):Option Bool:=match P.underlying t with
 |some (.struct _)|some (.array _ _)=>O Za
 |some _=>O Zb
 |none=>Y
def bu7 (P:Program)(t:TypeId):Option Nat:=match P.underlying t with
 |some (.array _ e)=>lC P e
 |_=>O 1
def gp (μ:Mu)(N:Nat)(e:cx)(d:Array Value):Prop:=d.size=N/\∀t,VR μ (e t)<|d.getD t undef
def gp.mono {μ μ':Mu}{d:Array Value}(h:gp μ N e d)(f:μ.le μ'):gp μ' N e d:=⟨h.1,λt=>(h.2 t).mono f⟩
def gp.put {μ:Mu}{f:Array Value}(h:gp μ N e f)(d:Nat)(j:d<N)(k:VR μ v v'):gp μ N (e.put d v)<|f.setIfInBounds d v':=by
 refine⟨by simpa using h.1,λt=> ?_⟩;unfold cx.put;by_cases g:t=d
 .subst g;simp[h.1,j];exact k
 rw[zF g];have:=h.2 t;simpa[Array.getElem?_setIfInBounds_ne (λe=>g e.symm)]using this
def gp.ev {μ:Mu}{a:Act}(h:gp μ N e a.tmps)(d:dw x=Za):VR μ (e.ev x)<|a.eval x:=by
 cases x with
 |tmp t=>exact h.2 t
 |const v=>exact VR.plain d
 |global g=>simp[dw]at d
 |func f=>exact .func .nil .nil
def kA (P:Program)(o:Oper)(a:Act)(w:World)(B:Base P)(μ:Mu)(v:Value)(Z':Hp):Prop:=
 ∃d w' μ' v',(execOp a.eval o).run P w= .ok d w'/\(d= .value v'∨(d= .skip/\v'=undef))/\μ.le μ'/\R B μ' Z' w'/\VR μ' v v'/\Below B w w'
section
variable {P:Program} {o:Oper} {a:Act} {w:World} {B:Base P} {N:Nat} {μ:Mu} {e:cx} {Z Z':Hp} {v:Value}
def kA.same {v':Value}(f:R B μ Z w)(d:(execOp a.eval o).run P w= .ok (.value v') w)(g:VR μ v v'):kA P o a w B μ v Z:=
 ⟨_,w,μ,v',d, .inl rfl,μ.le_refl,f,g,Below.refl _ _⟩
theorem bc (h:BG x=O y):x=y/\dw x=Za:=by
 unfold BG at h
 grind
def fX {t:TypeId}{d:TypeDesc}(h:P.underlying t=O d)(w:World):(underlying t).run P w= .ok d w:=by simp[underlying,h]
def my {t:TypeId}{n:Nat}(h:lC P t=O n)(w:World):(sizeOf t).run P w= .ok n w:=by
 have⟨i,d,f⟩:=aw.1 h;simp[sizeOf,typeInfo,d,f]
def HL {t:TypeId}(h:B4 P t=O b)(w:World):(isAgg t).run P w= .ok b w:=by
 unfold B4 at h;unfold isAgg;cases f:P.underlying t with
 |none=>simp[f]at h
 |some d=>
  simp only[Sem.run_bind,fX f,aD];cases d<;>simp[f]at h<;>subst h<;>rfl
def mb {t:TypeId}{z:List Value}(h:oH P t=O z): ∃v,(∀w:World,(zeroValue t).run P w= .ok v w)/\cellsOf v=z/\z.all Ax=Za:=by
 unfold oH at h;cases d:P.info? t with
 |none=>simp[d]at h
 |some i=>
  cases f:i.zero with
  |none=>simp[d,f]at h
  |some v=>
   simp only[d,f,zG]at h;split at h
   .rename_i g;injection h with h
    exact⟨v,λw=>by simp[zeroValue,typeInfo,d,f],h,h▸g⟩
   cases h
def VR.plainCells {μ:Mu}{z:List Value}(h:z.all Ax=Za):F2 (VR μ) z z:=F2.same _ λv d=>VR.plain1 μ v (by
 have:=bo.1 h v d;unfold Ax at this
 exact this)
theorem qA (b o n:Nat):(⟨b,o,Y⟩:Addr).add n=⟨b,o+n,Y⟩:=by unfold Addr.add;split<;>simp_all
theorem R.reads {b o:Nat}{x:Blk}{g:G}(s:R B μ Z w)(D:Z.m b=O x)(p:μ.at b g){n:Nat}{cs:List Value}(h:rz x o n=O cs):
  ∃f,(∀(P:Program) (w':World),w'.heap=w.heap->(loadCells ⟨g.c,g.o+o,Y⟩ n).run P w'= .ok f.toArray w')/\F2 (VR μ) cs f:=by
 unfold rz at h;split at h
 .rename_i A;cases h;have z:=s.get D p.1
  have d: ∀j,j<n->∃v',w.cell? ⟨g.c,g.o+o+j,Y⟩=O v'/\VR μ (x.cells.getD (o+j) undef) v':=by
   intro j q;have⟨v',k,r⟩:=z.cell p.2 (o+j) (x.cells[o+j]' V1) (aB V1)
   grind
  refine⟨(List.range n).map λj=>(w.cell? ⟨g.c,g.o+o+j,Y⟩).getD undef,λP w' l=> ?_, ?_⟩
  .have:=run_loadCells (P:=P) w' ⟨g.c,g.o+o,Y⟩ n (λj=>(w.cell? ⟨g.c,g.o+o+j,Y⟩).getD undef) (λj q=>by
    rw[qA];have⟨v',k,_⟩:=d j q;have:w'.cell? ⟨g.c,g.o+o+j,Y⟩=w.cell? ⟨g.c,g.o+o+j,Y⟩:=by simp[World.cell?,l]
    rw[this]
    simp[k])
   rw[this]
  .refine F2.of_get _ _ V3 λi u F E C=> ?_
   have t:i<n:=by
    grind
   have⟨v',k,r⟩:=d i t
   simp_all
 .cases h
def R.writes : ∀(vs d:List Value),F2 (VR μ) vs d->(∀v∈vs,one v=Za)->∀(Z:Hp) (w:World) (b o i:Nat) (x:Blk) (g:G),R B μ Z w->Z.m b=O x->x.own=Za->μ.at b g->o+i+ft vs<=ft x.cells->
  ∃w',(∀P:Program,(storeCells ⟨g.c,g.o+o,Y⟩ d i).run P w= .ok () w')/\R B μ (Z.set b<|O ⟨lq x.cells (o+i) vs,x.own,x.es⟩) w'/\Below B w w'
 |[],_,h,_,Z,w,b,o,i,x,g,n,q,p,f,k=>by
  cases h;refine⟨w,λP=>by simp[storeCells], ?_,Below.refl _ _⟩
  have:Z.set b (O ⟨lq x.cells (o+i) [],x.own,x.es⟩)=Z:=by
   unfold Hp.set
   have:(λj=>if j=b then O (⟨lq x.cells (o+i) [],x.own,x.es⟩:Blk)else Z.m j)=Z.m:=by
    funext j
    split
    .rename_i e;subst e;rw[q];rfl
    .rfl
   rw[this]
  rw[this];exact n
 |v::vs,_,h,t,Z,w,b,o,i,x,g,n,q,p,f,k=>by
  cases h with
  |cons C L=>
   rename_i v' d;simp only[List.length_cons]at k;have A:=n.get q f.1;have⟨S,V,D,e,E,T,W,U⟩:=A.own f.2 p;have r:=n.write1 q p f.1 f.2 (o+i) V1 C;have l:v'.oneCell'=Za:=by rw[<-C.one_iff];exact t v V2
   have⟨u,M,_⟩:=A.cell f.2 (o+i) (x.cells[o+i]' V1)<|aB V1;have s:w.frozen? ⟨g.c,g.o+(o+i),Y⟩=Zb:=OU w _ _ _ _ E T V1 U;have J:(Z.set b<|O ⟨x.cells.set (o+i) v,x.own,x.es⟩).m b=O ⟨x.cells.set (o+i) v,x.own,x.es⟩:=by simp[Hp.set]
   have⟨w',F,z,H⟩:=R.writes vs d L (λy Q=>t y (by simp[Q])) _ _ b o (i+1) _ g r J p f V3;refine⟨w',λP=> ?_, ?_, ?_⟩
   .have I:(⟨g.c,g.o+o,Y⟩:Addr).add i=⟨g.c,g.o+(o+i),Y⟩:=by rw[qA,Nat.add_assoc]
    simp only[storeCells,Sem.run_bind,I,run_store P w _ v' .plain l,M,s,Bool.false_eq_true,if_false,aD];exact F P
   .have K:(Z.set b<|O ⟨x.cells.set (o+i) v,x.own,x.es⟩).set b (O ⟨lq (x.cells.set (o+i) v) (o+(i+1)) vs,x.own,x.es⟩)=Z.set b (O ⟨lq x.cells (o+i)<|v::vs,x.own,x.es⟩):=by
     unfold Hp.set
     have:(λj=>if j=b then O (⟨lq (x.cells.set (o+i) v) (o+(i+1)) vs,x.own,x.es⟩:Blk)else if j=b then O ⟨x.cells.set (o+i) v,x.own,x.es⟩else Z.m j)=
       (λj=>if j=b then O (⟨lq x.cells (o+i)<|v::vs,x.own,x.es⟩:Blk)else Z.m j):=by
      funext j
      split<;>simp[lq,Nat.add_assoc]
     simp only[this]
    rw[K]at z;exact z
   .exact((Below.refl B w).setCell S v').trans H
end
end
section
open Go.RowKit
def xz (d:Nat->Option (Nat×Nat)):List (Nat×Operand)->Option (List<|Nat×Nat×Operand)
 |[]=>O []
 |(i,x)::r=>match d i,BG x,xz d r with
  |some (f,n),O x,O r=>O ((f,n,x)::r)
  |_,_,_=>Y
def M4 :List Operand->Option (List Operand)
 |[]=>O []
 |x::r=>match BG x,M4 r with
  |some x,O r=>O (x::r)
  |_,_=>Y
def Ke (P:Program)(fs:Array Field)(i:Nat):Option<|Nat×Nat:=match fs[i]? with
 |some f=>(lC P f.type).map λn=>(f.offset,n)
 |none=>Y
def XW (P:Program)(f:FuncId):Bool:=match P.funcs[f]? with
 |some d=>d.body.isSome&& !(d.name== "runtime.NumGoroutine")
 |none=>Zb
def Bj (P:Program)(t:TypeId):Option Nat:=match P.underlying t with
 |some .bool=>O 0
 |some (.int _)=>O 1
 |some .string=>O 2
 |_=>Y
def Bk (P:Program):Nat->List Field->Option (List Nat)
 |_,[]=>O []
 |i,f::r=>if f.offset=i/\f.name≠ "_" then match Bj P f.type,Bk P (i+1) r with
  |some k,O d=>O (k::d)
  |_,_=>Y
  else Y
def Tu (P:Program)(t:TypeId):Option<|List Nat:=match P.underlying t with
 |some (.struct fs)=>if P.eqGuardType P.depth t=Zb/\P.stoodInHeld t=Zb then Bk P 0 fs.toList else Y
 |some (.array n e)=>if lC P e=O 1/\P.eqGuardType P.depth t=Zb then(Bj P e).map λk=>List.replicate n k else Y
 |_=>Y
def aS6 :TypeDesc->Option Nat
 | .bool=>O 0
 | .pointer _=>O 1
 | .slice _=>O 2
 | .func _ _ _=>O 3
 |_=>Y
def W9 (P:Program)(op:BinOp)(t:TypeId)(x y:Operand):Option AOp:=
 match P.underlying t with
 |some (.int _)|some .string=>match BG x,BG y with
  |some x,O y=>O (.bin op x y)
  |_,_=>Y
 |some (.struct _)|some (.array _ _)=>match op,Tu P t,BG x,BG y with
  | .eql,O n,O x,O y=>O (.eqCells Zb n x y)
  | .neq,O n,O x,O y=>O (.eqCells Za n x y)
  |_,_,_,_=>Y
 |some d=>match aS6 d,op,BG x,BG y with
  |some f, .eql,O x,O y=>O (.eqv f Zb x y)
  |some f, .neq,O x,O y=>O (.eqv f Za x y)
  |_,_,_,_=>Y
 |none=>Y
def E0 (P:Program)(c:Call):Option AOp:=
 match c.callee with
 | .value (.func f)=>if XW P f then(M4 c.args.toList).map (.call f ·)else Y
 | .value (.tmp t)=>(M4 c.args.toList).map (.callv (.tmp t) ·)
 | .builtin .append=>match c.args.toList,c.argTypes.toList with
  |[s,x],[k,l]=>match P.underlying k,P.underlying l,BG s,BG x with
   |some (.slice e),O<|.slice _,O s,O x|some (.slice e),O .string,O s,O x=>match lC P e,Va P e,oH P e with
    |some h,O g,O z=>if ft z=h then O (.append h g s x)else Y
    |_,_,_=>Y
   |some (.slice e),O<|.int _,O s,O x=>match lC P e,Va P e,oH P e with
    |some h,O g,O z=>if ft z=h/\0<h then O (.appendZ h g z s x)else Y
    |_,_,_=>Y
   |_,_,_,_=>Y
  |_,_=>Y
 | .builtin .copy=>match c.args.toList,c.argTypes.toList with
  |[d,s],j::_=>match P.underlying j,BG d,BG s with
   |some (.slice e),O d,O s=>match lC P e with
    |some h=>O (.copy h d s)
    |none=>Y
   |_,_,_=>Y
  |_,_=>Y
 | .builtin .len=>match c.args.toList,c.argTypes.toList with
  |[x],t::_=>match P.underlying t,BG x with
   |some (.slice _),O x=>O (.len x)
   |_,_=>Y
  |_,_=>Y
 | .builtin .cap=>match c.args.toList,c.argTypes.toList with
  |[x],[t]=>match P.underlying t,BG x with
   |some (.slice _),O x=>O (.capN x)
   |_,_=>Y
  |_,_=>Y
 | .builtin .max=>match c.args.toList with
  |[x,y]=>match BG x,BG y with
   |some x,O y=>O (.most x y)
   |_,_=>Y
  |_=>Y
 | .builtin .min=>match c.args.toList with
  |[x,y]=>match BG x,BG y with
   |some x,O y=>O (.least x y)
   |_,_=>Y
  |_=>Y
 |_=>Y
def Xb (P:Program)(o:Oper):Option AOp:=
 match o.op with
 | .move x| .assign x=>(BG x).map .move
 | .pick c a b=>match BG c,BG a,BG b with
  |some c,O a,O b=>O (.pick c a b)
  |_,_,_=>Y
 | .alloc t=>if JY P t=Za then(match oH P t with
   |some [.pointer Y, .slice Y 0 0]=>O .newB
   |_=>Y)
  else match bu7 P t,oH P t with
  |some q,O z=>O (.alloc q z)
  |_,_=>Y
 | .box t x=>match bu7 P t,BG x with
  |some q,O x=>O (.box q x)
  |_,_=>Y
 | .build t g=>match P.underlying t,oH P t with
  |some (.struct fs),O z=>if fs.toList.all λf=>(lC P f.type).isSome then(xz (Ke P fs) g.toList).map (.build z ·)else Y
  |some (.array _ e),O z=>match lC P e with
   |some n=>(xz (λi=>O (i*n,n)) g.toList).map (.build z ·)
   |none=>Y
  |_,_=>Y
 | .buildSlice t m g=>match P.underlying t with
  |some (.slice e)=>match lC P e,oH P e with
   |some n,O z=>if m*n<=16777216/\ft z=n/\0<n then(xz (λi=>O (i*n,n)) g.toList).map (.buildSlice n m z ·)else Y
   |_,_=>Y
  |_=>Y
 | .load _ (.global _)=>O .stuck
 | .load t x=>match B4 P t,BG x with
  |some Za,O x=>(lC P t).map (.loadN · x)
  |some Zb,O x=>O (.load x)
  |_,_=>Y
 | .store t x y=>match lC P t,BG x,BG y with
  |some n,O x,O y=>O (.store n x y)
  |_,_,_=>Y
 | .nilCheck x=>(BG x).map .nilCheck
 | .binOp op t x y _=>W9 P op t x y
 | .unOp op _ x=>(BG x).map (.un op ·)
 | .convert s d x=>match P.underlying s,P.underlying d,BG x with
  |some (.int _),O<|.int k,O x=>O (.conv k x)
  |some (.slice t),O .string,O x=>match P.underlying t with
   |some (.int .u8)=>O (.strOf x)
   |_=>Y
  |_,_,_=>Y
 | .makeFunc (.func f) first h=>match M4 first.toList,M4 h.toList with
  |some u,O A=>O (.mkFunc f u A)
  |_,_=>Y
 | .makeSlice t l c=>match P.underlying t with
  |some (.slice e)=>match lC P e,Va P e,oH P e,BG l,BG c with
   |some n,O p,O z,O l,O c=>if ft z=n/\0<n then O (.makeSlice n p z l c)else Y
   |_,_,_,_,_=>Y
  |_=>Y
 | .slice t x lo j Y=>match P.underlying t,BG x,aV3 lo,aV3 j with
  |some (.slice e),O x,O lo,O j=>(lC P e).map (.slice · x lo j)
  |some .string,O x,O lo,O j=>O (.sliceStr x lo j)
  |some (.array n e),O x,O lo,O j=>(lC P e).map (.sliceArr · n x lo j)
  |_,_,_,_=>Y
 | .fieldAddr s x i=>match P.underlying s,BG x with
  |some (.struct fs),O x=>match fs[i]? with
   |some f=>match lC P f.type with
    |some n=>if n=0 then Y else O (.off f.offset x)
    |none=>Y
   |none=>Y
  |_,_=>Y
 | .field t x i=>match P.underlying t,BG x with
  |some (.struct fs),O x=>match fs[i]? with
   |some f=>match lC P f.type,B4 P f.type with
    |some n,O b=>O (.fieldV f.offset n b x)
    |_,_=>Y
   |none=>Y
  |_,_=>Y
 | .indexAddr t x i=>match P.underlying t,BG x,BG i with
  |some (.slice e),O x,O i=>(lC P e).map (.idx · x i)
  |some (.array n e),O x,O i=>(lC P e).map (.idxA n · x i)
  |_,_,_=>Y
 | .index t x i=>match P.underlying t,BG x,BG i with
  |some (.array n e),O x,O i=>match lC P e,B4 P e with
   |some s,O b=>O (.indexV n s b x i)
   |_,_=>Y
  |some .string,O x,O i=>O (.indexS x i)
  |_,_,_=>Y
 | .slice t x Y (O j) (O r)=>match P.underlying t,BG x,BG j,BG r with
  |some (.slice d),O x,O j,O r=>if(lC P d).isSome then O (.sliceX x j r)else Y
  |_,_,_,_=>Y
 | .extract x i=>(BG x).map (.extract · i)
 | .call c=>E0 P c
 | .makeInterface _ _| .panic _=>O .stuck
 |_=>Y
section
variable {P:Program} {o:Oper} {a:Act} {w:World} {B:Base P} {N:Nat} {μ:Mu} {e:cx} {Z Z':Hp} {v:Value}
def ae0 (ho:o.op= .move x∨o.op= .assign x)(h:dw x=Za)(d:(AOp.move x).run e Z=O (v,Z'))(g:gp μ N e a.tmps)(f:R B μ Z w):kA P o a w B μ v Z':=by
 simp only[AOp.run,ez,fq]at d;obtain⟨rfl,rfl⟩:=d;rcases ho with ho|ho<;>exact .same f (by simp[execOp,ho])<|g.ev h
def VR.bool_inv {v':Value}(h:VR μ (.bool b) v'):v'= .bool b:=by cases h;rfl
def VR.int_inv {k:IntKind}{n:Int}{v':Value}(h:VR μ (.int k n) v'):v'= .int k n:=by cases h;rfl
def VR.string_inv {s:ByteArray}{v':Value}(h:VR μ (.string s) v'):v'= .string s:=by cases h;rfl
def aV1 {c:Operand}(l:o.op= .pick c x y)(m:dw c=Za)(n:dw x=Za)(p:dw y=Za)(f:(AOp.pick c x y).run e Z=O (v,Z'))(j:gp μ N e a.tmps)(k:R B μ Z w):kA P o a w B μ v Z':=by
 have h:=j.ev m;simp only[AOp.run]at f;split at f
 .rename_i g;rw[g]at h;have d:=h.bool_inv;cases f;exact .same k (by simp[execOp,l,d,asBool]) (j.ev n)
 .rename_i g;rw[g]at h;have d:=h.bool_inv;cases f;exact .same k (by simp[execOp,l,d,asBool]) (j.ev p)
 cases f
def kA.new (h:R B μ Z w)(d:Array Value)(t:TypeId)(cells:List Value)(es:Nat)(v':Value)(j:F2 (VR μ) cells d.toList)
  (g:(execOp a.eval o).run P w= .ok (.value v') (w.alloc<|.cells d t))
  (m:(μ.add Z.n ⟨w.heap.size,0,d.size,es,t,Y⟩).at Z.n ⟨w.heap.size,0,d.size,es,t,Y⟩->VR (μ.add Z.n ⟨w.heap.size,0,d.size,es,t,Y⟩) v v'):kA P o a w B μ v<|Z.add ⟨cells,Za,es⟩:=by
 have f:cells.length=d.size:=by simpa using j.length
 obtain⟨k,l⟩:=h.add d t cells es V1 (by rw[f,<-Array.length_toList,List.take_length];exact j);exact⟨_,_,_,v',g, .inl rfl,l,k,m ⟨ZP,rfl⟩,(Below.refl _ _).alloc h.base _⟩
def aE0 {t:TypeId}{es:Nat}{z:List Value}(m:o.op= .alloc t)(n:oH P t=O z)(f:(AOp.alloc es z).run e Z=O (v,Z'))(l:R B μ Z w):kA P o a w B μ v Z':=by
 have⟨g,j,k,d⟩:=mb n;simp only[AOp.run,ez,fq]at f;obtain⟨rfl,rfl⟩:=f;refine .new l g.cells t z es (.pointer<|O ⟨w.heap.size,0,Y⟩) ?_ ?_ (λh=> .ptr (o:=0) h)
 .have:z=g.cells.toList:=k.symm;rw[this];rw[this]at d;exact VR.plainCells d
 simp[execOp,m,Instr.alloc,j,newVar,newRow]
def bn8 {t:TypeId}{es:Nat}(j:o.op= .box t x)(k:dw x=Za)(d:(AOp.box es x).run e Z=O (v,Z'))(g:gp μ N e a.tmps)(f:R B μ Z w):kA P o a w B μ v Z':=by
 simp only[AOp.run]at d;split at d
 .cases d;refine .new f (a.eval x).cells t _ es (.pointer<|O ⟨w.heap.size,0,Y⟩) (g.ev k).cells ?_ (λh=> .ptr (o:=0) h);simp[execOp,j,Instr.box,newVar,newRow]
 cases d
def VR.ptr_inv {b n:Nat}{v':Value}(h:VR μ (.pointer<|O ⟨b,n,Y⟩) v'): ∃g,μ.at b g/\v'= .pointer (O ⟨g.c,g.o+n,Y⟩):=by
 cases h with
 |ptr h=>exact⟨_,h,rfl⟩
def aU8 {t:TypeId}(s:o.op= .load t x)(z:B4 P t=O Zb)(D:dw x=Za)(d:(AOp.load x).run e Z=O (v,Z'))(r:gp μ N e a.tmps)(j:R B μ Z w):kA P o a w B μ v Z':=by
 have h:=r.ev D;simp only[AOp.run]at d;split at d
 .rename_i b n q;rw[q]at h;have⟨g,k,C⟩:=h.ptr_inv;split at d
  .rename_i l f;obtain⟨u,A,d⟩:=aw.1 d;simp only[fq]at d;obtain⟨rfl,rfl⟩:=d;have⟨E,m,p⟩:=(j.get f k.1).cell k.2 n u A;refine .same j ?_ p;simp[execOp,s,Instr.loadAt,Instr.sureAddr,C,loadVar,HL z,m]
  cases d
 cases d
def aE4 {t:TypeId}{n:Nat}(A:o.op= .load t x)(C:B4 P t=O Za)(z:lC P t=O n)(E:dw x=Za)(d:(AOp.loadN n x).run e Z=O (v,Z'))(s:gp μ N e a.tmps)(k:R B μ Z w):kA P o a w B μ v Z':=by
 have h:=s.ev E;simp only[AOp.run]at d;split at d
 .rename_i b n r;rw[r]at h;have⟨g,u,D⟩:=h.ptr_inv;split at d
  .rename_i l f;obtain⟨F,j,d⟩:=aw.1 d;simp only[fq]at d;obtain⟨rfl,rfl⟩:=d;have⟨m,p,q⟩:=k.reads f u j;refine .same k ?_ (.agg q);simp[execOp,A,Instr.loadAt,Instr.sureAddr,D,loadVar,HL C,my z,p P w rfl]
  cases d
 cases d
def aE6 {t:TypeId}{n:Nat}(L:o.op= .store t x y)(K:lC P t=O n)(T:dw x=Za)(U:dw y=Za)(d:(AOp.store n x y).run e Z=O (v,Z'))(A:gp μ N e a.tmps)(F:R B μ Z w):kA P o a w B μ v Z':=by
 have h:=A.ev T;have k:=(A.ev U).cells;simp only[AOp.run]at d;split at d
 .rename_i b s H;rw[H]at h;obtain⟨g,J,S⟩:=h.ptr_inv;split at d
  .rename_i r;split at d
   .rename_i p j;unfold CU at d;split at d
    .rename_i z m;split at m
     .rename_i I;obtain⟨l,q,f⟩:=I;injection m with m
      subst m;cases d;obtain⟨w',C,D,E⟩:=R.writes _ _ k (λu Q=>bo.1 f u Q) Z w b s 0 p g F j l J q;refine⟨.skip,w',μ,undef, ?_, .inr ⟨rfl,rfl⟩,μ.le_refl,D,VR.undef μ,E⟩;have M:(a.eval y).cells.size=n:=by rw[<-r,k.length];simp
      simp[execOp,L,Instr.storeAt,Instr.sureAddr,S,storeVar,my K,M,C]
     cases m
    cases d
   cases d
  cases d
 cases d
def VY (l:o.op= .nilCheck x)(t:dw x=Za)(d:(AOp.nilCheck x).run e Z=O (v,Z'))(s:gp μ N e a.tmps)(k:R B μ Z w):kA P o a w B μ v Z':=by
 have h:=s.ev t;simp only[AOp.run]at d;split at d
 .rename_i b g;cases d;rw[g]at h;generalize j:a.eval x=u at h;cases h with
  |ptr m=>exact .same k (by simp[execOp,l,j]) (.ptr m)
 .rename_i f p q g;cases d;rw[g]at h;generalize j:a.eval x=u at h;cases h with
  |func n r=>exact .same k (by simp[execOp,l,j]) (.func n r)
 cases d
end
end
section
open List renaming getElem?_drop->aB
open Go.RowKit
section
variable {P:Program} {o:Oper} {a:Act} {w:World} {B:Base P} {N:Nat} {μ:Mu} {e:cx} {Z Z':Hp} {v:Value}
def aN8 (op:BinOp)(t:TypeId)(x y z:Value)(h:CN op x y=O z)(w:World)(p q:Operand):
  (eqGuard op t p q x y).run P w= .ok () w/\(binOp op t x y).run P w= .ok z w:=by
 cases x with
 |int k m=>cases y with
  |int r n=>
   simp only[CN]at h;by_cases d:xy op=Za
   .rw[zE d]at h;unfold PM at h;split at h
    .cases h
    .rename_i l;cases op<;>simp[xy]at d<;>simp at h<;>subst h<;>simp[eqGuard,binOp,Op.shift,l]
   .rw[zF d]at h;split at h
    .rename_i j;subst j;cases op<;>simp[xy]at d<;>simp[ac4]at h
     all_goals first
      |(have⟨g,f⟩:=h;subst f;simp[eqGuard,binOp,Op.intDiv,g])
      |(subst h;simp[eqGuard,binOp,Op.intArith,Op.intBits,Op.intCmp])
    .cases h
  |_=>simp[CN]at h
 |string s=>cases y with
  |string u=>
   simp only[CN]at h;split at h
   .cases h
   .rename_i d;cases op<;>simp[xy]at d<;>simp[af8]at h
    all_goals first
     |(have⟨g,f⟩:=h;subst f;simp[eqGuard,binOp,Op.stringOp];omega)
     |(subst h;simp[eqGuard,binOp,Op.stringOp])
  |_=>simp[CN]at h
 |_=>simp[CN]at h
def aN9 {x y g j z:Value}(h:CN op x y=O z)(d:VR μ x g)(f:VR μ y j):g=x/\j=y:=by
 cases x with
 |int k m=>cases y with
  |int l n=>exact⟨d.int_inv,f.int_inv⟩
  |_=>simp[CN]at h
 |string s=>cases y with
  |string p=>exact⟨d.string_inv,f.string_inv⟩
  |_=>simp[CN]at h
 |_=>simp[CN]at h
def XJ {x y z:Value}(h:CN op x y=O z):VR μ z z:=by
 cases x with
 |int k m=>cases y with
  |int f n=>
   simp only[CN]at h;split at h
   .unfold PM at h;split at h
    .cases h
    cases op<;>simp at h<;>subst h<;>exact .int _ _
   split at h
   .cases op<;>simp[ac4]at h
    all_goals first
     |(have⟨_,d⟩:=h;subst d;exact .int _ _)
     |(subst h;first|exact .int _ _|exact .bool _)
   cases h
  |_=>simp[CN]at h
 |string s=>cases y with
  |string g=>
   simp only[CN]at h;split at h
   .cases h
   cases op<;>simp[af8]at h
   all_goals first
    |(have⟨_,d⟩:=h;subst d;exact .string _)
    |(subst h;first|exact .string _|exact .bool _)
  |_=>simp[CN]at h
 |_=>simp[CN]at h
def aE1 {t r:TypeId}(l:o.op= .binOp op t x y r)(m:dw x=Za)(n:dw y=Za)(d:(AOp.bin op x y).run e Z=O (v,Z'))(g:gp μ N e a.tmps)(k:R B μ Z w):kA P o a w B μ v Z':=by
 simp only[AOp.run]at d;obtain⟨z,f,d⟩:=aw.1 d;simp only[fq]at d;obtain⟨rfl,rfl⟩:=d;have⟨h,j⟩:=aN9 f (g.ev m)<|g.ev n;refine .same k ?_ (XJ f);have⟨p,q⟩:=aN8 (P:=P) op t _ _ _ f w x y;simp[execOp,l,h,j,p,q]
theorem XY (op:BinOp)(t:TypeId)(d f:Operand)(x y:Value)(g: ¬(x= .nilIface/\y= .nilIface))(h: ∀a b,¬(x= .agg a/\y= .agg b))(w:World):(eqGuard op t d f x y).run P w= .ok () w:=by
 unfold eqGuard
 simp_all
set_option maxHeartbeats 1000000 in
def aQ1 {t:TypeId}{d:TypeDesc}{g:Nat}(l:P.underlying t=O d)(f:aS6 d=O g){x y j k:Value}(h:Vr g x y=O b)(m:VR μ x j)(n:VR μ y k)(w:World):
  (Op.equal t j k).run P w= .ok b w:=by
 unfold Op.equal Op.maxDepth;rw[show(10000:Nat)=9999+1 from rfl,Op.equalIn];simp only[Sem.run_bind,fX l,Result.andThen_ok];cases d<;>simp[aS6]at f<;>subst f
 all_goals (cases m<;>cases n<;>simp[Vr]at h<;>simp[<-h])
theorem aQ2 {r:Nat}{x y f g:Value}(h:Vr r x y=O b)(j:VR μ x f)(n:VR μ y g)(t:TypeId)(d:Bool)(w:World)(m:(Op.equal t f g).run P w= .ok b w):
  (binOp (if d then .neq else .eql) t f g).run P w= .ok (.bool<|b !=d) w/\(∀k l op,(eqGuard op t k l f g).run P w= .ok () w):=by
 refine⟨?_,λk l op=>XY op t k l f g ?_ ?_ w⟩
 .have:binOp (if d then .neq else .eql) t f g=(Op.equal t f g >>=λq=>pure<|.bool (if d then !q else q)):=by
   cases j<;>cases n<;>first
    |(cases d<;>rfl)
    |(unfold Vr at h;split at h<;>simp_all)
  rw[this];cases d<;>simp[m]
 .rintro⟨rfl,rfl⟩;cases j;unfold Vr at h;split at h<;>simp_all
 .rintro p q ⟨rfl,rfl⟩;cases j;unfold Vr at h;split at h<;>simp_all
def aE2 {t C:TypeId}{d:TypeDesc}{n:Nat}{f:Bool}(s:o.op= .binOp op t x y C)(j:op=if f then .neq else .eql)(q:P.underlying t=O d)(r:aS6 d=O n)(k:dw x=Za)(l:dw y=Za)(g:(AOp.eqv n f x y).run e Z=O (v,Z'))(h:gp μ N e a.tmps)(p:R B μ Z w):kA P o a w B μ v Z':=by
 simp only[AOp.run]at g;obtain⟨b,m,g⟩:=aw.1 g;simp only[fq]at g;obtain⟨rfl,rfl⟩:=g;have u:=aQ1 q r m (h.ev k) (h.ev l) w;have⟨z,A⟩:=aQ2 m (h.ev k) (h.ev l) t f w u;refine .same p ?_ (.bool _);simp[execOp,s,j,z,A]
def Mi {t:TypeId}{j:Nat}(g:Bj P t=O j){x y k l:Value}(h:yh j x y=O b)(n:VR μ x k)(p:VR μ y l)(d:Nat)(w:World):
  (Op.equalIn (d+1) t k l).run P w= .ok b w:=by
 unfold Bj at g;cases f:P.underlying t with
 |none=>simp[f]at g
 |some m=>
  cases m<;>simp[f]at g<;>subst g
  all_goals
   cases n<;>cases p<;>simp[yh]at h
  .simp[run_equalIn_bool _ _ _ _ _ f,<-h]
  .obtain⟨rfl,rfl⟩:=h;simp[run_equalIn_int _ _ _ _ _ _ _ f]
  .simp[run_equalIn_string _ _ _ _ _ f,<-h]
theorem Dq {t:TypeId}{f:Nat}(d:Bj P t=O f):B4 P t=O Zb:=by
 unfold Bj at d;unfold B4;split at d<;>simp_all
def wP {t:TypeId}(h:B4 P t=O Zb){cs:Array Value}{i:Nat}{v:Value}(d:cs[i]?=O v)(w:World):(part t cs i).run P w= .ok v w:=by
 simp[part,HL h,d]
theorem Mj (w:World)(d:Nat)(xs p:Array Value): ∀(fs:List Field) (i:Nat) (t:List Nat) (l m:List Value) (b:Bool),Bk P i fs=O t->kc t l m=O b->
  F2 (VR μ) l (xs.toList.drop i)->F2 (VR μ) m (p.toList.drop i)->(Op.eqFields (d+1) xs p fs).run P w= .ok b w
 |[],i,t,l,m,b,g,h,_,_=>by
  simp[Bk]at g;subst g;cases l<;>cases m<;>simp[kc]at h;subst h;simp[Op.eqFields]
 |f::fs,i,t,l,m,b,g,h,A,C=>by
  simp only[Bk]at g;split at g
  .rename_i r;split at g
   .rename_i k z u F;cases g;cases l with
    |nil=>simp[kc]at h
    |cons x l=>cases m with
     |nil=>simp[kc]at h
     |cons y m=>
      simp only[kc]at h;have⟨M,D,I⟩:=A.get 0 x rfl;have⟨Q,E,J⟩:=C.get 0 y rfl;rw[aB]at D E;have j:xs[i]?=O M:=by simpa using D
      have n:p[i]?=O Q:=by simpa using E
      have K:F2 (VR μ) l<|xs.toList.drop<|i+1:=by
       have:=A.drop 1
       simp_all
      have L:F2 (VR μ) m<|p.toList.drop<|i+1:=by
       have:=C.drop 1
       simp_all
      have H:=Mj w d xs p fs (i+1) z l m;cases s:yh k x y with
      |none=>simp[s]at h
      |some q=>
       have:=Mi (P:=P) u s I J d w;cases q with
       |true=>
        simp only[s]at h;simp[Op.eqFields,r.2,wP<|Dq u,r.1,j,n,this,H b F h K L]
       |false=>
        simp[s]at h;simp[Op.eqFields,r.2,wP<|Dq u,r.1,j,n,this,<-h]
   .cases g
  .cases g
theorem Vq (w:World)(d:Nat)(e:TypeId)(k:Nat)(f:Bj P e=O k)(xs r:Array Value): ∀(n i:Nat) (l m:List Value) (b:Bool),kc (List.replicate n k) l m=O b->
  F2 (VR μ) l (xs.toList.drop i)->F2 (VR μ) m (r.toList.drop i)->
  (forIn (List.range' i n) ((Y,()):Option Bool×Unit) λj (_:Option Bool×Unit)=>(do
    let a<-part e xs (j*1)
    let c<-part e r (j*1)
    let q<-Op.equalIn (d+1) e a c
    if(!q)=Za then pure (ForInStep.done (O Zb,()))else pure (ForInStep.yield (Y,())):Sem<|ForInStep<|Option Bool×Unit)).run P w= .ok (if b then Y else O Zb,()) w
 |0,i,l,m,b,h,_,_=>by
  cases l<;>cases m<;>simp[kc]at h;subst h;simp
 |n+1,i,l,m,b,h,z,A=>by
  rw[List.replicate_succ]at h;cases l with
  |nil=>simp[kc]at h
  |cons x l=>cases m with
   |nil=>simp[kc]at h
   |cons y m=>
    simp only[kc]at h;have⟨K,C,F⟩:=z.get 0 x rfl;have⟨L,D,H⟩:=A.get 0 y rfl;rw[aB]at C D;have g:xs[i]?=O K:=by simpa using C
    have p:r[i]?=O L:=by simpa using D
    have I:F2 (VR μ) l<|xs.toList.drop<|i+1:=by
     have:=z.drop 1
     simp_all
    have J:F2 (VR μ) m<|r.toList.drop<|i+1:=by
     have:=A.drop 1
     simp_all
    have E:=Vq w d e k f xs r n (i+1) l m;cases s:yh k x y with
    |none=>simp[s]at h
    |some q=>
     have t:=Mi (P:=P) f s F H d w;rw[List.range'_succ,List.forIn_cons];cases q with
     |true=>
      simp only[s]at h;have u:=E b h I J;simp only[Nat.mul_one]at u⊢;simp[wP (Dq f) g,wP (Dq f) p,t,Result.andThen];simpa using u
     |false=>
      simp[s]at h;simp[wP (Dq f) g,wP (Dq f) p,t,<-h]
end
end
section
open Nat renaming add_assoc->aB
open Result renaming andThen_ok->aD
open Go.RowKit
section
variable {P:Program} {o:Oper} {a:Act} {w:World} {B:Base P} {N:Nat} {μ:Mu} {e:cx} {Z Z':Hp} {v:Value}
def VR.agg_inv {p:Array Value}{v':Value}(h:VR μ (.agg p) v'): ∃q,v'= .agg q/\F2 (VR μ) p.toList q.toList:=by
 cases h with
 |agg h=>exact⟨_,rfl,h⟩
def PC {t:TypeId}{u:List Nat}(d:Tu P t=O u){p q j l:Array Value}(h:kc u p.toList q.toList=O b)(z:F2 (VR μ) p.toList j.toList)(A:F2 (VR μ) q.toList l.toList)(w:World):
  (Op.equal t (.agg j)<|.agg l).run P w= .ok b w/\P.eqGuardType P.depth t=Zb:=by
 unfold Tu at d;unfold Op.equal Op.maxDepth;rw[show(10000:Nat)=9998+1+1 from rfl];cases g:P.underlying t with
 |none=>simp[g]at d
 |some C=>
  cases C<;>simp[g]at d
  case struct fs=>
   have⟨⟨m,r⟩,s⟩:=d;have f:P.fieldsOf t=fs:=by simp[Program.fieldsOf,g]
   rw[run_equalIn_struct w _ t j l (by rw[f,g]) r,f];exact⟨Mj w 9998 j l fs.toList 0 u _ _ b s h (by simpa using z) (by simpa using A),m⟩
  case array n e=>
   have⟨⟨m,r⟩,k,s,D⟩:=d;subst D;refine⟨?_,r⟩;have:=Vq (P:=P) w 9998 e k s j l n 0 _ _ b h (by simpa using z) (by simpa using A);rw[Op.equalIn];simp only[Sem.run_bind,fX g,aD,my m];cases b<;>simp at this⊢ <;>rw[this]<;>rfl
def EL {t T:TypeId}{l:List Nat}{f:Bool}(u:o.op= .binOp op t x y T)(g:op=if f then .neq else .eql)(s:Tu P t=O l)(C:dw x=Za)(D:dw y=Za)(d:(AOp.eqCells f l x y).run e Z=O (v,Z'))(k:gp μ N e a.tmps)(r:R B μ Z w):kA P o a w B μ v Z':=by
 simp only[AOp.run]at d;split at d
 .rename_i p q z A;obtain⟨b,E,d⟩:=aw.1 d;simp only[fq]at d;obtain⟨rfl,rfl⟩:=d;have h:=k.ev C;have j:=k.ev D;rw[z]at h;rw[A]at j;have⟨L,m,Q⟩:=h.agg_inv;have⟨M,n,S⟩:=j.agg_inv;have⟨F,H⟩:=PC s E Q S w;refine .same r ?_ (.bool _);have I:=λJ K=>run_eqGuard_agg (P:=P) w op t J K L M H
  simp only[execOp,u,m,n,Sem.run_bind,I,aD];cases f<;>simp[g,binOp,F]
 cases d
def bx0 {t:TypeId}{op:UnOp}(j:o.op= .unOp op t x)(l:dw x=Za)(d:(AOp.un op x).run e Z=O (v,Z'))(k:gp μ N e a.tmps)(g:R B μ Z w):kA P o a w B μ v Z':=by
 simp only[AOp.run]at d;obtain⟨z,f,d⟩:=aw.1 d;simp only[fq]at d;obtain⟨rfl,rfl⟩:=d;have h:=k.ev l;generalize e.ev x=u at*;cases u<;>cases op<;>simp[un1]at f
 .subst f;have:=h.bool_inv;exact .same g (by simp[execOp,j,this,Op.unary]) (.bool _)
 .subst f;have:=h.int_inv;exact .same g (by simp[execOp,j,this,Op.unary,Op.intArith]) (.int _ _)
 subst f;have:=h.int_inv;exact .same g (by simp[execOp,j,this,Op.unary,Op.intBits])<|.int _ _
def aU5 {s d:TypeId}{k t:IntKind}(p:o.op= .convert s d x)(q:P.underlying s=O (.int t))(l:P.underlying d=O (.int k))(r:dw x=Za)(f:(AOp.conv k x).run e Z=O (v,Z'))(m:gp μ N e a.tmps)(j:R B μ Z w):kA P o a w B μ v Z':=by
 simp only[AOp.run]at f;obtain⟨n,g,f⟩:=aw.1 f;simp only[fq]at f;obtain⟨rfl,rfl⟩:=f;have h:=m.ev r;generalize e.ev x=u at*;cases u<;>simp[bv8]at g;subst g;have:=h.int_inv;exact .same j (by simp[execOp,p,this,convert,fX q,fX l,Conv.intToInt])<|.int _ _
def JT (f:gp μ N e a.tmps): ∀{xs d:List Operand},M4 xs=O d->F2 (VR μ) (d.map e.ev) (xs.map a.eval)
 |[],d,h=>by simp[M4]at h;subst h;exact .nil
 |x::xs,d,h=>by
  simp only[M4]at h;split at h
  .rename_i l r g j;cases h;obtain⟨rfl,k⟩:=bc g;exact .cons (f.ev k) (JT f j)
  .cases h
def ao5 {f:FuncId}{first d:Array Operand}{xs cs:List Operand}(m:o.op= .makeFunc (.func f) first d)(j:M4 first.toList=O xs)(l:M4 d.toList=O cs)(h:(AOp.mkFunc f xs cs).run e Z=O (v,Z'))(g:gp μ N e a.tmps)(k:R B μ Z w):kA P o a w B μ v Z':=by
 simp only[AOp.run,ez,fq]at h;obtain⟨rfl,rfl⟩:=h;refine .same k (v':= .func (.func f) (first.map a.eval)<|d.map a.eval) (by simp[execOp,m,Instr.makeFunc]) (.func ?_ ?_)
 .simpa using JT g j
 simpa using JT g l
def bo1 {t:TypeId}{i n:Nat}{f:Field}(s:o.op= .fieldAddr t x i)(u:P.underlying t=O (.struct fs))(q:fs[i]?=O f)(r:lC P f.type=O n)(j:n≠0)(A:dw x=Za)(d:(AOp.off f.offset x).run e Z=O (v,Z'))(m:gp μ N e a.tmps)(k:R B μ Z w):kA P o a w B μ v Z':=by
 have h:=m.ev A;simp only[AOp.run]at d;split at d
 .rename_i b off l;cases d;rw[l]at h;have⟨g,p,z⟩:=h.ptr_inv;refine .same k (v':= .pointer<|O ⟨g.c,g.o+(off+f.offset),Y⟩) ?_ (.ptr p);simp[execOp,s,Instr.fieldAt,fX u,q,z,Instr.sureAddr,fieldPlace,my r,j,qA,aB]
 cases d
def VR.slice_inv {b n l c:Nat}{v':Value}(h:VR μ (.slice (O ⟨b,n,Y⟩) l c) v'):
  (∃g d,μ.at b g/\l<=c/\c<=d/\n+d*g.es<=g.ext/\v'= .slice (O ⟨g.c,g.o+n,Y⟩) l d)∨(l=0/\c=0/\∃A',v'= .slice (O A') 0 0/\∃g,μ.at b g):=by
 cases h with
 |slice f j k m=>exact .inl ⟨_,_,f,j,k,m,rfl⟩
 |slice0 A' h=>exact .inr ⟨rfl,rfl,A',rfl,_,h⟩
def bn9 {t d:TypeId}{n:Nat}(F:o.op= .indexAddr t x i)(H:P.underlying t=O (.slice d))(E:lC P d=O n)(J:dw x=Za)(C:dw i=Za)(f:(AOp.idx n x i).run e Z=O (v,Z'))(s:gp μ N e a.tmps)(u:R B μ Z w):kA P o a w B μ v Z':=by
 have h:=s.ev J;have r:=s.ev C;simp only[AOp.run]at f;split at f
 .rename_i b q l c k j z D;split at f
  .rename_i p;cases f;rw[z]at h;rw[D]at r;have m:=r.int_inv;rcases h.slice_inv with⟨g,K,A,_,_,_,I⟩|⟨rfl,_⟩
   .refine .same u (v':= .pointer<|O ⟨g.c,g.o+(q+j.toNat*n),Y⟩) ?_ (.ptr A);simp[execOp,F,Instr.indexAt,fX H,I,m,asIntOf,p,my E,qA,aB]
   omega
  cases f
 cases f
def aU7 {t d:TypeId}{m n:Nat}(F:o.op= .indexAddr t x i)(H:P.underlying t=O (.array m d))(E:lC P d=O n)(J:dw x=Za)(C:dw i=Za)(f:(AOp.idxA m n x i).run e Z=O (v,Z'))(s:gp μ N e a.tmps)(u:R B μ Z w):kA P o a w B μ v Z':=by
 have h:=s.ev J;have r:=s.ev C;simp only[AOp.run]at f;split at f
 .rename_i b q k j z D;split at f
  .rename_i p;cases f;rw[z]at h;rw[D]at r;have l:=r.int_inv;have⟨g,A,I⟩:=h.ptr_inv;refine .same u (v':= .pointer<|O ⟨g.c,g.o+(q+j.toNat*n),Y⟩) ?_ (.ptr A);simp[execOp,F,Instr.indexAt,Instr.sureAddr,fX H,I,l,asIntOf,p,my E,qA,aB]
  cases f
 cases f
def WP {t:TypeId}{n i:Nat}(h:B4 P t=O b)(l:lC P t=O n){p q:Array Value}(d:F2 (VR μ) p.toList q.toList){u:Value}
  (f:(if b then O (.agg<|p.extract i<|i+n)else p[i]?)=O u) (w:World): ∃g,(part t q i).run P w= .ok g w/\VR μ u g:=by
 cases b with
 |true=>
  simp at f;subst f;refine⟨.agg<|q.extract i<|i+n,by simp[part,HL h,my l], .agg ?_⟩;simpa[Array.toList_extract,List.extract_eq_take_drop]using(d.drop i).take n
 |false=>
  simp at f;have⟨g,j,k⟩:=d.get i u (by simpa using f);exact⟨g,wP h (by simpa using j) w,k⟩
theorem ao2 {t:TypeId}{i n:Nat}{f:Field}(u:o.op= .field t x i)(C:P.underlying t=O (.struct fs))(m:fs[i]?=O f)(s:lC P f.type=O n)(k:B4 P f.type=O b)(D:dw x=Za)(d:(AOp.fieldV f.offset n b x).run e Z=O (v,Z'))(l:gp μ N e a.tmps)(j:R B μ Z w):kA P o a w B μ v Z':=by
 have h:=l.ev D;simp only[AOp.run]at d;split at d
 .rename_i p z;rw[z]at h;have⟨q,A,r⟩:=h.agg_inv
  have:Z'=Z/\(if b then O (.agg<|p.extract f.offset<|f.offset+n)else p[f.offset]?)=O v:=by
   grind
  obtain⟨rfl,g⟩:=this;have⟨H,E,F⟩:=WP k s r g w;exact .same j (by simp[execOp,u,Instr.field,fX C,m,A,asAgg,E]) F
 cases d
theorem ao4 {t d:TypeId}{m n:Nat}(H:o.op= .index t x i)(K:P.underlying t=O (.array m d))(z:lC P d=O n)(D:B4 P d=O b)(L:dw x=Za)(E:dw i=Za)(f:(AOp.indexV m n b x i).run e Z=O (v,Z'))(u:gp μ N e a.tmps)(C:R B μ Z w):kA P o a w B μ v Z':=by
 have h:=u.ev L;have s:=u.ev E;simp only[AOp.run]at f;split at f
 .rename_i p k j I F;rw[I]at h;rw[F]at s;have g:=s.int_inv;have⟨q,J,r⟩:=h.agg_inv;split at f
  .rename_i l
   have:Z'=Z/\(if b then O (.agg<|p.extract (j.toNat*n)<|j.toNat*n+n)else p[j.toNat*n]?)=O v:=by
    grind
   obtain⟨rfl,A⟩:=this;have⟨S,M,Q⟩:=WP D z r A w;exact .same C (by simp[execOp,H,Instr.index,fX K,J,g,asIntOf,l,my z,M]) Q
  cases f
 cases f
def ao3 {t:TypeId}(z:o.op= .index t x i)(C:P.underlying t=O .string)(D:dw x=Za)(r:dw i=Za)(d:(AOp.indexS x i).run e Z=O (v,Z'))(m:gp μ N e a.tmps)(p:R B μ Z w):kA P o a w B μ v Z':=by
 have h:=m.ev D;have l:=m.ev r;simp only[AOp.run]at d;split at d
 .rename_i s k j A u;rw[A]at h;rw[u]at l;have f:=l.int_inv;have g:=h.string_inv;split at d
  .rename_i n;obtain⟨c,q,d⟩:=aw.1 d;simp only[fq]at d;obtain⟨rfl,rfl⟩:=d;exact .same p (by simp[execOp,z,Instr.index,fX C,g,f,asIntOf,n,q]) (.int _ _)
  cases d
 cases d
def Yk {i:Nat}(n:o.op= .extract x i)(t:dw x=Za)(d:(AOp.extract x i).run e Z=O (v,Z'))(m:gp μ N e a.tmps)(k:R B μ Z w):kA P o a w B μ v Z':=by
 have h:=m.ev t;simp only[AOp.run]at d;split at d
 .rename_i p q;rw[q]at h;generalize s:a.eval x=u at h;cases h with
  |tuple r=>
   obtain⟨c,l,d⟩:=aw.1 d;simp only[fq]at d;obtain⟨rfl,rfl⟩:=d;have⟨z,g,j⟩:=r.get i c (by simpa using l);have f:_:=g;rw[Array.getElem?_toList]at f;exact .same k (by simp[execOp,n,Instr.extract,s,f]) j
 cases d
end
end
section
open List renaming length_cons->bB
open Result renaming andThen_ok->aB
open Sem renaming run_bind->aD
open Go.RowKit
section
variable {P:Program} {o:Oper} {a:Act} {w:World} {B:Base P} {N:Nat} {μ:Mu} {e:cx} {Z Z':Hp} {v:Value}
def Kv (d:Nat): ∀(vs:List Value) (k:Nat) (cells:Array Value),d+k+ft vs<=cells.size->
  ((vs.zipIdx k).foldl (λcs (p:Value×Nat)=>cs.setIfInBounds (d+p.2) p.1) cells).toList=cells.toList.take (d+k)++vs++cells.toList.drop (d+k+ft vs)
 |[],k,cells,_=>by simp
 |v::vs,k,cells,h=>by
  simp only[bB]at h;rw[List.zipIdx_cons,List.foldl_cons,Kv d vs (k+1) _ V3];have f:d+k<ft cells.toList:=by simp;omega
  simp only[Array.toList_setIfInBounds,bB];rw[List.take_set,List.drop_set_of_lt V1,show d+(k+1)=d+k+1 from by omega,List.take_add_one,show d+k+1+ft vs=d+k+(ft vs+1)from by omega]
  have g:(cells.toList.take (d+k)++(cells.toList[d+k]?).toList).set (d+k) v=cells.toList.take (d+k)++[v]:=by
   rw[List.getElem?_eq_getElem f,List.set_append_right _ _ V3];have:d+k-ft (List.take (d+k) cells.toList)=0:=by rw[List.length_take];omega
   rw[this];simp
  rw[g];simp
def YP (d:Nat)(vs:Array Value)(cells:Array Value)(h:d+vs.size<=cells.size):
  (vs.zipIdx.foldl (λcs (c,j)=>cs.setIfInBounds (d+j) c) cells).toList=cells.toList.take d++vs.toList++cells.toList.drop (d+vs.size):=by
 have:=Kv d vs.toList 0 cells V8;rw[<-Array.foldl_toList,Array.toList_zipIdx];simpa using this
def Ag {g:Nat->Option (Nat×Nat)}(u:gp μ N e a.tmps): ∀(f:List<|Nat×Operand) (d:List<|Nat×Nat×Operand) (z:List Value) (p:Array Value) (cs:List Value),xz g f=O d->
  GD z (d.map λ(o,s,x)=>(o,s,e.ev x))=O cs->F2 (VR μ) z p.toList->∃h,Instr.fill g p (f.map λ(i,x)=>(i,a.eval x))=O h/\F2 (VR μ) cs h.toList
 |[],d,z,p,cs,k,m,q=>by
  simp[xz]at k;subst k;simp[GD]at m;subst m;exact⟨p,rfl,q⟩
 |(i,x)::r,d,z,p,cs,k,m,q=>by
  simp only[xz]at k;split at k
  .rename_i t n M L C D E;injection k with k
   subst k;obtain⟨rfl,J⟩:=bc D;simp only[List.map_cons,GD]at m;split at m
   .rename_i I;have A:=(u.ev J).cells;have l:(a.eval x).cells.size=n:=by rw[<-I.1,A.length];simp
    have K:z.length=p.size:=by simpa using q.length
    obtain⟨h,F,H⟩:=Ag u r L _ ((a.eval x).cells.zipIdx.foldl (λcs (c,j)=>cs.setIfInBounds (t+j) c) p) cs E m (by
     rw[YP _ _ _ V1,l]
     exact((q.take _).append A).append<|q.drop _)
    refine⟨h, ?_,H⟩;simp only[List.map_cons,Instr.fill,C,l];rw[zF V3];exact F
   .cases m
  .cases k
theorem WO {α β:Type}(P:Program)(w:World)(f:α->Sem β)(g:α->β): ∀(l:List α),(∀x∈l,(f x).run P w= .ok (g x) w)->(l.mapM f).run P w= .ok (l.map g) w
 |[],_=>by simp
 |x::l,h=>by
  have:=WO P w f g l (λy d=>h y (by simp[d]))
  simp_all
theorem M2 {t:TypeId}{d:Array<|Nat×Operand}{z:List Value}{q:List<|Nat×Nat×Operand}(J:o.op= .build t d)(L:P.underlying t=O (.struct fs))(M:oH P t=O z)
  (g:(fs.toList.all λf=>(lC P f.type).isSome)=Za) (K:xz (Ke P fs) d.toList=O q) (j:(AOp.build z q).run e Z=O (v,Z')) (F:gp μ N e a.tmps) (E:R B μ Z w):kA P o a w B μ v Z':=by
 have⟨Q,u,r,A⟩:=mb M;simp only[AOp.run]at j;obtain⟨s,H,j⟩:=aw.1 j;simp only[fq]at j;obtain⟨rfl,rfl⟩:=j;have⟨l,C,D⟩:=Ag F d.toList q z Q.cells s K H (r▸VR.plainCells (r▸A))
 have I:(fs.mapM λf=>(do pure (f.offset,<-sizeOf f.type):Sem<|Nat×Nat)).run P w= .ok (fs.map λf=>(f.offset,(lC P f.type).getD 0)) w:=by
  rw[Array.mapM_eq_mapM_toList]
  have:=WO P w (λf:Field=>(do pure (f.offset,<-sizeOf f.type):Sem<|Nat×Nat)) (λf=>(f.offset,(lC P f.type).getD 0)) fs.toList (λf m=>by
   have:=bo.1 g f m;have⟨n,k⟩:=eW.1 this
   simp[my k,k])
  simp only[Sem.run_map,this,aB];rw[<-Array.toList_map]
 have p:(λi=>(fs.map λf=>(f.offset,(lC P f.type).getD 0))[i]?)=Ke P fs:=by
  funext i
  unfold Ke;rw[Array.getElem?_map];cases S:fs[i]? with
  |none=>rfl
  |some f=>
   have h:f∈fs.toList:=by
    grind
   have⟨n,k⟩:=eW.1<|bo.1 g f h;simp[k]
 refine .same E (v':= .agg l) ?_ (.agg (by simpa using D));simp only[execOp,J,Instr.build,aD,u,aB,fX L,I,p];rw[Array.toList_map];simp only[C];rfl
def Pm {t d:TypeId}{m n:Nat}{f:Array<|Nat×Operand}{z:List Value}{j:List<|Nat×Nat×Operand}(E:o.op= .build t f)(H:P.underlying t=O (.array m d))(D:lC P d=O n)(I:oH P t=O z)
  (F:xz (λi=>O (i*n,n)) f.toList=O j) (g:(AOp.build z j).run e Z=O (v,Z')) (A:gp μ N e a.tmps) (u:R B μ Z w):kA P o a w B μ v Z':=by
 have⟨J,p,k,q⟩:=mb I;simp only[AOp.run]at g;obtain⟨l,C,g⟩:=aw.1 g;simp only[fq]at g;obtain⟨rfl,rfl⟩:=g;have⟨h,r,s⟩:=Ag A f.toList j z J.cells l F C<|k▸VR.plainCells (k▸q);refine .same u (v':= .agg h) ?_ (.agg (by simpa using s));simp only[execOp,E,Instr.build,aD,p,aB,fX H,my D];rw[Array.toList_map];simp only[r];rfl
theorem PR (z:Array Value)(n:Nat)(j:0<z.size):((Array.range<|n*z.size).map<|λi=>z[i % z.size]!).toList=fd z.toList n:=by
 unfold fd;apply List.ext_getElem?;intro i;have h:ft (List.replicate n z.toList).flatten=n*z.size:=by simp
 by_cases f:i<n*z.size
 .have g:((Array.range<|n*z.size).map<|λi=>z[i % z.size]!).toList[i]?=O (z[i % z.size]'(Nat.mod_lt _ j)):=by
   simp[f,Nat.mod_lt _ j]
  rw[g];clear g;induction n generalizing i with
  |zero=>simp at f
  |succ n m=>
   rw[List.replicate_succ,List.flatten_cons];by_cases d:i<z.size
   .rw[List.getElem?_append_left Z2];simp[Nat.mod_eq_of_lt d,d]
   rw[List.getElem?_append_right Z2];have k:=m (i-z.size) V2 (by rw[Nat.succ_mul]at f;omega);rw[Array.length_toList,<-k];have l:i % z.size=(i-z.size) % z.size:=by rw[Nat.mod_eq_sub_mod V1]
   simp only[l]
 grind
def An (z:List Value)(n:Nat):ft (fd z n)=n*ft z:=by simp[fd]
theorem G8 {z:List Value}(h:z.all Ax=Za)(n:Nat):(fd z n).all Ax=Za:=by
 unfold fd
 grind
theorem QP {t d:TypeId}{f n:Nat}{g:Array<|Nat×Operand}{z:List Value}{k:List<|Nat×Nat×Operand}(ho:o.op= .buildSlice t f g)(hu:P.underlying t=O (.slice d))(hn:lC P d=O n)(hz:oH P d=O z)
  (Q:f*n<=16777216) (A:z.length=n) (h0:0<n)
  (hp:xz (λi=>O (i*n,n)) g.toList=O k) (q:(AOp.buildSlice n f z k).run e Z=O (v,Z')) (X:gp μ N e a.tmps) (W:R B μ Z w):kA P o a w B μ v Z':=by
 obtain⟨r,U,J,V⟩:=mb hz;simp only[AOp.run]at q;split at q
 .rename_i D M;split at q
  .cases q;have H:r.cells.size=n:=by rw[<-A,<-J];simp[cellsOf]
   have F:r.cells.toList=z:=J
   have j: ∀C:Array Value,(f*n=0->C= #[])->(f*n≠0->C=r.cells)->((Array.range<|f*n).map<|λi=>C[i % C.size]!).toList=fd z f:=by
    intro C S T;by_cases m:f*n=0
    .have:f=0:=by
      rcases Nat.mul_eq_zero.1 m with h|h
      .exact h
      .omega
     subst this;simp[fd]
    .rw[T m,<-H,PR _ _ V1,F]
   have I:F2 (VR μ) (fd z f)<|fd z f:=VR.plainCells<|G8 V f;obtain⟨s,K,L⟩:=Ag X g.toList k (fd z f) (fd z f).toArray D hp M (by simpa using I)
   have u:s.size=f*n:=by
    have S:D.length=f*n:=by
     have: ∀(k:List<|Nat×Nat×Value) (x y:List Value),GD x k=O y->y.length=x.length:=by
      intro k;induction k with
      |nil=>intro x y h;simp[GD]at h;rw[h]
      |cons p k ih=>
       obtain⟨p1,p2,p3⟩:=p;intro x y h;simp only[GD]at h
       grind
     rw[this _ _ _ M,An,A]
    have:=L.length;simp at this;omega
   refine .new W s d D n (.slice (O ⟨w.heap.size,0,Y⟩) f f) L ?_ (λh=>VR.slice (o:=0) h (Nat.le_refl _) (Nat.le_refl _) (by simp[u]));simp only[execOp,ho,Instr.buildSlice,aD,fX hu,aB,my hn];rw[Zh];by_cases m:f*n=0
   .have E:=j #[] (λ_=>rfl) (λh=>absurd m h);have l:(Array.range<|f*n).map (λi=>(#[]:Array Value)[i % (#[]:Array Value).size]!)=(fd z f).toArray:=by rw[<-E]
    rw[zE m];simp only[aD,Sem.run_pure,aB,l];rw[Array.toList_map];simp[K,newRow]
   .have E:=j r.cells (λh=>absurd h m)<|λ_=>rfl;have l:(Array.range<|f*n).map (λi=>r.cells[i % r.cells.size]!)=(fd z f).toArray:=by rw[<-E]
    rw[zF m];simp only[U,aD,Sem.run_pure,aB,l];rw[Array.toList_map];simp[K,newRow]
  .cases q
 .cases q
end
end
section
open Bool renaming false_eq_true->cM,or_eq_true->cN
open Nat renaming le_refl->aB,add_assoc->cK,add_mul->cL
open Option renaming map_some->cB,map_none->cD
open Result renaming andThen_ok->aD
open Sem renaming run_bind->bB,run_pure->bD
open Go.RowKit
section
variable {P:Program} {o:Oper} {a:Act} {w:World} {B:Base P} {N:Nat} {μ:Mu} {e:cx} {Z Z':Hp} {v:Value}
def VR.nils_inv {n c:Nat}{v':Value}(h:VR μ (.slice Y n c) v'):v'= .slice Y 0 0/\n=0/\c=0:=by cases h;exact⟨rfl,rfl,rfl⟩
theorem ac7 {x d:Value}{n:Nat}(h:GK x=O n)(f:VR μ x d):GK d=O n:=by
 cases f<;>simp_all [GK]
def jc {b:Builtin}(f:o.op= .call c)(d:c.callee= .builtin b)(w:World):
  ∃cs,(execOp a.eval o).run P w=(builtin b c.argTypes o.type cs<|c.args.map a.eval).run P w:=by
 refine⟨c.args.map λ| .const _=>Za|_=>Zb, ?_⟩;simp only[execOp,f,resolve,d,invoke,bB,bD,aD];rfl
def bi3 {α:Type}{c:Array α}{x:α}(h:c.toList=[x]):c= #[x]:=by rw[<-Array.toList_inj];simpa using h
def Oe {α:Type}{c:Array α}{x y:α}(h:c.toList=[x,y]):c= #[x,y]:=by rw[<-Array.toList_inj];simpa using h
def U4 {α:Type}{c:Array α}{x:α}{r:List α}(h:c.toList=x::r):c[0]?=O x:=by rw[<-Array.getElem?_toList,h];rfl
def bo0 {t u:TypeId}{ts:List TypeId}(r:o.op= .call c)(m:c.callee= .builtin .len)(l:c.args.toList=[x])(z:c.argTypes.toList=t::ts)(A:P.underlying t=O (.slice u))
  (C:dw x=Za) (f:(AOp.len x).run e Z=O (v,Z')) (q:gp μ N e a.tmps) (k:R B μ Z w):kA P o a w B μ v Z':=by
 have h:=q.ev C;simp only[AOp.run]at f;split at f
 .rename_i p n E s;cases f;rw[s]at h
  have: ∃j d,a.eval x= .slice j n d:=by
   generalize a.eval x=y at h;cases h<;>exact⟨_,_,rfl⟩
  have⟨j,d,D⟩:=this;have⟨F,g⟩:=jc (P:=P) (a:=a) r m w;refine .same k ?_ (.int .i64 n);simp[g,builtin,Builtin.len_,bi3 l,U4 z,D,fX A,goInt]
 .cases f
def aU4 {t u:TypeId}(m:o.op= .call c)(k:c.callee= .builtin .cap)(j:c.args.toList=[x])(q:c.argTypes.toList=[t])(r:P.underlying t=O (.slice u))
  (s:dw x=Za) (d:(AOp.capN x).run e Z=O (v,Z')) (l:gp μ N e a.tmps) (g:R B μ Z w):kA P o a w B μ v Z':=by
 have h:=l.ev s;simp only[AOp.run]at d;split at d
 .rename_i n;cases d;rw[n]at h;have⟨p,_,_⟩:=h.nils_inv;have⟨z,f⟩:=jc (P:=P) (a:=a) m k w;refine .same g ?_ (.int .i64 0);simp[f,builtin,Builtin.cap_,bi3 j,bi3 q,p,fX r,goInt]
 .cases d
def aU9 (t:o.op= .call c)(s:c.callee= .builtin .max)(r:c.args.toList=[x,y])(u:dw x=Za)(A:dw y=Za)(d:(AOp.most x y).run e Z=O (v,Z'))(g:gp μ N e a.tmps)(n:R B μ Z w):kA P o a w B μ v Z':=by
 simp only[AOp.run]at d;obtain⟨z,j,d⟩:=aw.1 d;simp only[fq]at d;obtain⟨rfl,rfl⟩:=d;have h:=g.ev u;have m:=g.ev A;generalize e.ev x=p at*;generalize e.ev y=q at*;cases p<;>cases q<;>simp[YY]at j;subst j;have k:=h.int_inv;have l:=m.int_inv;have⟨C,f⟩:=jc (P:=P) (a:=a) t s w;exact .same n (by simp[f,builtin,Builtin.max_,Oe r,k,l,Builtin.max2])<|.int _ _
def aE3 (t:o.op= .call c)(s:c.callee= .builtin .min)(r:c.args.toList=[x,y])(u:dw x=Za)(A:dw y=Za)(d:(AOp.least x y).run e Z=O (v,Z'))(g:gp μ N e a.tmps)(n:R B μ Z w):kA P o a w B μ v Z':=by
 simp only[AOp.run]at d;obtain⟨z,j,d⟩:=aw.1 d;simp only[fq]at d;obtain⟨rfl,rfl⟩:=d;have h:=g.ev u;have m:=g.ev A;generalize e.ev x=p at*;generalize e.ev y=q at*;cases p<;>cases q<;>simp[Um]at j;subst j;have k:=h.int_inv;have l:=m.int_inv;have⟨C,f⟩:=jc (P:=P) (a:=a) t s w;exact .same n (by simp[f,builtin,Builtin.min_,Oe r,k,l,Builtin.min2])<|.int _ _
def U9 {y d:Nat}{x:Option Operand}{n:Nat}(p: ∀u,x=O u->dw u=Za)(h:nH y d (x.map e.ev)=O n)(l:gp μ N e a.tmps):
  match x with
  |none=>n=d
  |some u=> ∃k i,a.eval u= .int k i/\0<=i/\i<=y/\n=i.toNat:=by
 cases x with
 |none=>simp[nH]at h;exact h.symm
 |some u=>
  have j:=l.ev<|p u rfl;simp only[cB]at h;unfold nH at h;split at h
  .rename_i k i g;simp only[ez]at g;split at h
   .rename_i f;rw[g]at j;exact⟨k,i,j.int_inv,f.1,f.2,by simpa using h.symm⟩
   .cases h
  .cases h
  .rename_i m;cases m
theorem K5 {s:Bool}{ln cap d:Nat}{g:Option Operand}{h l:Nat}(p: ∀u,lo=O u->dw u=Za)(n: ∀u,g=O u->dw u=Za)
  (E:nH cap ln (g.map e.ev)=O h) (F:nH h 0 (lo.map e.ev)=O l) (z:cap<=d) (A:gp μ N e a.tmps) (w:World):
  (Instr.sliceBounds s ln d (lo.map a.eval) (g.map a.eval) Y).run P w= .ok (l,h,d) w:=by
 have j:=U9 n E A;have f:=U9 p F A;unfold Instr.sliceBounds;cases g with
 |none=>
  simp only at j;subst j;cases lo with
  |none=>simp only at f;subst f;simp
  |some u=>
   obtain⟨k,i,m,q,r,rfl⟩:=f;simp[m,Instr.sliceBound,asIntOf,q,r]
 |some K=>
  obtain⟨J,H,t,C,I,rfl⟩:=j;have D:H<=(d:Int):=by omega
  cases lo with
  |none=>simp only at f;subst f;simp[t,Instr.sliceBound,asIntOf,C,D]
  |some u=>
   obtain⟨k,i,m,q,r,rfl⟩:=f;simp only[cB,m,t,Instr.sliceBound,asIntOf,bB,bD,aD]
   simp_all
theorem Ot {y d n:Nat}{x:Option Value}(h:nH y d x=O n):n<=y∨(x=Y/\n=d):=by
 unfold nH at h
 grind
def Ap {ln cap:Nat}{k:Option Operand}{h l:Nat}(m:ln<=cap)(j:nH cap ln (k.map e.ev)=O h)(f:nH h 0 (lo.map e.ev)=O l):l<=h/\h<=cap:=by
 rcases Ot j with g|⟨_,g⟩
 .rcases Ot f with d|⟨_,d⟩<;>omega
 rcases Ot f with d|⟨_,d⟩<;>omega
theorem aE5 {t d:TypeId}{n:Nat}{U:Option Operand}(ho:o.op= .slice t x lo U Y)(hu:P.underlying t=O (.slice d))(hn:lC P d=O n)(hx:dw x=Za)(W: ∀u,lo=O u->dw u=Za)(T: ∀u,U=O u->dw u=Za)
  (m:(AOp.slice n x lo U).run e Z=O (v,Z')) (he:gp μ N e a.tmps) (H:R B μ Z w):kA P o a w B μ v Z':=by
 have Q:=he.ev hx;simp only[AOp.run]at m;split at m
 .rename_i p M D hp;split at m
  .rename_i hcut;split at m
   .rename_i h J;split at m
    .rename_i l z;cases m;rw[hp]at Q
     have r: ∀(S:Option Addr) (f:Nat),a.eval x= .slice S M f->D<=f->
       (execOp a.eval o).run P w= .ok (.value (.slice (if f=l then S else S.map (·.add (l*n))) (h-l)<|f-l)) w:=by
      intro S f hy V;have hb:=K5 (P:=P) (s:=Za) W T J z V he w;simp only[execOp,ho,Instr.sliceAt,bB,fX hu,aD,Instr.slice,hy,cD,hb,my hn,bD]
     cases p with
     |none=>
      obtain⟨K,rfl,rfl⟩:=Q.nils_inv;have:=Ap (aB _) J z;refine .same H (r _ _ K<|aB _) ?_
      grind
     |some A=>
      generalize K:a.eval x=q at Q;cases Q with
      |slice j h2 h3 L=>
       rename_i b off f g;have⟨X,k2⟩:=Ap h2 J z;refine .same H (r _ _ K h3) ?_;by_cases I:f=l
       .rw[zE I,I,show l-l=0 from by omega,show D-l=0 from by omega,show h-l=0 from by omega];exact .slice0 _ j
       .rw[zF I];simp only[cB,QX,qA];rw[cK];refine .slice j V1 V1 ?_;cases lo with
        |none=>
         have:l=0:=by simpa[nH]using z.symm
         subst this;simpa using L
        |some u=>
         rw[cN]at hcut;rcases hcut with hcut|hcut
         .have:D=0:=by simpa using hcut
          grind
         unfold EI at hcut;simp only at hcut;split at hcut
         .rename_i C k;have E:=(H.get k j.1).es;have F:C.es=n:=by simpa using hcut
          rw[E,F]at L⊢;have:l*n+(f-l)*n=f*n:=by rw[<-cL];congr 1;omega
          omega
         .cases hcut
      |slice0 A' j=>
       have⟨X,k2⟩:=Ap (aB _) J z;refine .same H (r _ _ K<|aB _) ?_;have E:l=0:=by omega
       have F:h=0:=by omega
       subst E F;simp only[cB,if_true];exact .slice0 _ j
      |sliceX j L=>
       rename_i b off g;have⟨X,k2⟩:=Ap (aB _) J z;refine .same H (r _ _ K<|aB _) ?_;by_cases I:M=l
       .rw[zE I,I,show l-l=0 from by omega,show h-l=0 from by omega];exact .slice0 _ j
       .rw[zF I];simp only[cB,QX,qA];rw[cK];refine .slice j V1 V1 ?_;cases lo with
        |none=>
         have:l=0:=by simpa[nH]using z.symm
         subst this;simpa using L
        |some u=>
         rw[cN]at hcut;rcases hcut with hcut|hcut
         .have:M=0:=by simpa using hcut
          omega
         unfold EI at hcut;simp only at hcut;split at hcut
         .rename_i C k;have E:=(H.get k j.1).es;have F:C.es=n:=by simpa using hcut
          rw[E,F]at L⊢;have:l*n+(M-l)*n=M*n:=by rw[<-cL];congr 1;omega
          omega
         .cases hcut
      |sliceX0 A' j=>
       have⟨X,k2⟩:=Ap (aB _) J z;refine .same H (r _ _ K<|aB _) ?_;have E:l=0:=by omega
       have F:h=0:=by omega
       subst E F;simp only[cB,if_true];exact .slice0 _ j
    .cases m
   .cases m
  .cases m
 .cases m
theorem ao6 {t d:TypeId}{z F:Operand}(ho:o.op= .slice t x Y (O z) (O F))(hu:P.underlying t=O (.slice d)){n:Nat}(hn:lC P d=O n)(hx:dw x=Za)(U:dw z=Za)(W:dw F=Za)
  (j:(AOp.sliceX x z F).run e Z=O (v,Z')) (Q:gp μ N e a.tmps) (M:R B μ Z w):kA P o a w B μ v Z':=by
 have I:=Q.ev hx;have D:=Q.ev U;have E:=Q.ev W;simp only[AOp.run]at j;split at j
 .rename_i p ln u hp;split at j
  .rename_i m hm;split at j
   .rename_i h hh;split at j
    .rename_i S;subst S
     have V: ∃km r,e.ev F= .int km r/\0<=r/\r<=u/\h=r.toNat:=by
      unfold nH at hm
      grind
     have⟨km,r,q1,q2,q3,q4⟩:=V
     have T: ∃X l,e.ev z= .int X l/\0<=l/\l<=h/\h=l.toNat:=by
      unfold nH at hh
      grind
     have⟨X,l,r1,r2,r3,r4⟩:=T;rw[q1]at E;rw[r1]at D;have v1:=E.int_inv;have v2:=D.int_inv;rw[hp]at I
     have k: ∀(J:Option Addr) (f:Nat),a.eval x= .slice J ln f->u<=f->
       (execOp a.eval o).run P w= .ok (.value<|.slice J h h) w:=by
      intro J f hy hle;have e1:l=(h:Int):=by omega
      have e2:r=(h:Int):=by omega
      subst e1 e2;have C:h<=f:=by omega
      have hb:(Instr.sliceBounds Za ln f Y (O<|a.eval z)<|O<|a.eval F).run P w= .ok (0,h,h) w:=by
       simp[Instr.sliceBounds,Instr.sliceBound,asIntOf,v1,v2,C]
      simp only[execOp,ho,Instr.sliceAt,bB,fX hu,aD,Instr.slice,hy,cD,cB,hb,my hn,bD,Nat.zero_mul,Nat.sub_zero]
      congr 3
      split
      .rfl
      .cases J with
       |none=>rfl
       |some A=>simp[Addr.add]
     cases p with
     |none=>
      obtain⟨H,rfl,rfl⟩:=I.nils_inv;cases j;have K:h=0:=by omega
      refine .same M (k _ _ H<|aB _) ?_;rw[K];exact .nils
     |some A=>
      have⟨b,off,s⟩:=A;cases s with
      |some _=>cases j
      |none=>
       cases j;generalize H:a.eval x=q at I;cases I with
       |slice L h2 h3 h4=>
        rename_i f g;refine .same M (k _ _ H h3)<|.sliceX L ?_;have:h*g.es<=f*g.es:=Nat.mul_le_mul_right _ V1;omega
       |slice0 A' L=>
        have K:h=0:=by omega
        refine .same M (k _ _ H<|aB _) ?_;rw[K];exact .sliceX0 _ L
    .cases j
   .cases j
  .cases j
 .cases j
def V0 {t:TypeId}{g:Option Operand}(z:o.op= .slice t x lo g Y)(C:P.underlying t=O .string)(D:dw x=Za)(j: ∀u,lo=O u->dw u=Za)(f: ∀u,g=O u->dw u=Za)
  (d:(AOp.sliceStr x lo g).run e Z=O (v,Z')) (k:gp μ N e a.tmps) (n:R B μ Z w):kA P o a w B μ v Z':=by
 have m:=k.ev D;simp only[AOp.run]at d;split at d
 .rename_i s A;split at d
  .rename_i h q;split at d
   .rename_i l r;cases d;rw[A]at m;have p:=K5 (P:=P) (s:=Zb) j f q r (aB _) k w;refine .same n (v':= .string<|s.extract l h) ?_ (.string _);simp only[execOp,z,Instr.sliceAt,bB,fX C,aD,Instr.slice,m.string_inv,cD,Option.isSome_none,cM,if_false,p,bD]
   .cases d
  .cases d
 .cases d
def VZ {t d:TypeId}{m n:Nat}{r:Option Operand}(Q:o.op= .slice t x lo r Y)(T:P.underlying t=O (.array m d))(M:lC P d=O n)(U:dw x=Za)(z: ∀u,lo=O u->dw u=Za)(q: ∀u,r=O u->dw u=Za)
  (f:(AOp.sliceArr n m x lo r).run e Z=O (v,Z')) (E:gp μ N e a.tmps) (C:R B μ Z w):kA P o a w B μ v Z':=by
 have I:=E.ev U;simp only[AOp.run]at f;split at f
 .rename_i b A S;split at f
  .rename_i J j;split at f
   .rename_i D;split at f
    .rename_i h F;split at f
     .rename_i l H;split at f
      .rename_i L;cases f;rw[S]at I;have⟨g,p,V⟩:=I.ptr_inv;have⟨W,X⟩:=Ap (aB _) F H;have K:=K5 (P:=P) (s:=Zb) z q F H (aB _) E w;have k:=C.get j p.1;have⟨_,o2,_⟩:=k.own p.2 D.1;refine .same C (v':= .slice (O ⟨g.c,g.o+(A+l*n),Y⟩) (h-l)<|m-l) ?_ (.slice p V1 (aB _) ?_)
       .simp only[execOp,Q,Instr.sliceAt,bB,fX T,aD,V,Instr.sureAddr,cD,K,my M,bD];rw[Zh,qA,cK]
       .rw[k.es,D.2.1];have:l*n+(m-l)*n=m*n:=by rw[<-cL];congr 1;omega
        omega
      .cases f
     .cases f
    .cases f
   .cases f
  .cases f
 .cases f
def TK {t d:TypeId}{n f:Nat}{z:List Value}(W:o.op= .makeSlice t x y)(X:P.underlying t=O (.slice d))(V:lC P d=O n)(Q:Va P d=O f)(hz:oH P d=O z)(hx:dw x=Za)(hy:dw y=Za)
  (r:ft z=n) (h0:0<n) (p:(AOp.makeSlice n f z x y).run e Z=O (v,Z')) (J:gp μ N e a.tmps) (M:R B μ Z w):kA P o a w B μ v Z':=by
 have H:=J.ev hx;have I:=J.ev hy;have⟨s,K,F,L⟩:=mb hz;simp only[AOp.run]at p;split at p
 .rename_i k l k' c U S;split at p
  .rename_i j;have⟨c1,c2,c3,c4⟩:=j;cases p;rw[U]at H;rw[S]at I;have v1:=H.int_inv;have v2:=I.int_inv;have⟨i,T,C⟩:=aw.1 Q;have w1:IntKind.i64.wrap l=l:=IntWalk.i64_in _ V1;have w2:IntKind.i64.wrap c=c:=IntWalk.i64_in _ V1;have E:s.cells.size=n:=by rw[<-r,<-F];simp[cellsOf]
   have D:s.cells.toList=z:=F;have q:(fd z c.toNat).toArray.size=c.toNat*n:=by simp[An,r]
   refine .new M (fd z c.toNat).toArray d (fd z c.toNat) n (.slice (O ⟨w.heap.size,0,Y⟩) l.toNat c.toNat) ?_ ?_ (λh=>VR.slice (o:=0) h V1 (aB _) (by rw[q];simp))
   .simpa using VR.plainCells (G8 L _)
   .have ht: ¬((f:Int)*c > 281474976710656):=by omega
    have m: ∀w:World,(typeInfo d).run P w= .ok i w:=λw=>by simp[typeInfo,T]
    simp only[execOp,W,Instr.makeSlice,bB,fX X,aD,v1,v2,asInt,asIntOf,bD,m,C,w1,w2]
    have t1:(Zc (c<0)||Zc ((f:Int)*c > 2 ^ 48))=Zb:=by
     simp;omega
    have t2:(Zc<|l<0)=Zb:=by simp;omega
    have t3:(Zc<|l > c)=Zb:=by simp;omega
    simp only[t1,t2,t3,Bool.or_false,cM,if_false,bB,run_askRoom,aD,my V];by_cases g:c.toNat*n=0
    .have u:c.toNat=0:=by
      rcases Nat.mul_eq_zero.1 g with h|h
      .exact h
      .omega
     have:(fd z c.toNat)=[]:=by rw[u];rfl
     rw[zE g,this,g];simp[newRow,show Array.range 0= #[]from rfl]
    .rw[zF g]
     have A:(Array.range<|c.toNat*n).map (λi=>s.cells[i % s.cells.size]!)=(fd z c.toNat).toArray:=by
      rw[<-D,<-PR _ _ V1,E]
     simp only[bB,K,bD,aD,A];simp[newRow]
  .cases p
 .cases p
end
end
end Go.Ab
