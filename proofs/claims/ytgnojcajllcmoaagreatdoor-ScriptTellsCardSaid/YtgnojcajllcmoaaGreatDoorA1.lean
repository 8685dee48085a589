/- A part of the proof. No condition. -/
import Derived.Calls
import Derived.RowKit
import Derived.WalkKit
import Derived.Lib.ItoaMem
import Derived.Lib.FrozenHead
set_option linter.all false
namespace Go.Ab
open Option renaming some->O,none->Y
open Bool renaming true->Za,false->Zb
open Decidable renaming decide->Zc
open List renaming all_eq_true->bo
open Option renaming isSome_iff_exists->eL
open Option renaming map_eq_some_iff->aa
open List renaming length->hW
open Option renaming bind->im
open Option.some renaming injEq->hO
open Prod.mk renaming injEq->hU
theorem V1{p:Prop}(h:p:=by omega):p:=h
theorem V2{p:Prop}(h:p:=by simp):p:=h
theorem V3{p:Prop}(h:p:=by simp;omega):p:=h
theorem V4{p:Prop}(h:p:=by kernel_rfl):p:=h
theorem V5{p:Prop}(h:p:=by decide):p:=h
theorem V6{p:Prop}(h:p:=by rw[show c.sz 4=max c.R.toNat c.Q.toNat from rfl];omega):p:=h
theorem V7{p:Prop}(h:p:=by rw[Dx (by omega) (by omega)];simp):p:=h
theorem V8{p:Prop}(h:p:=by simpa using h):p:=h
theorem V9{p:Prop}(h:p:=by rw[aD];omega):p:=h
theorem Z2{p:Prop}(h:p:=by simp only[aD,aB];omega):p:=h
theorem Z3{p:Prop}(h:p:=by rw[Dw (by omega) b.1];simp):p:=h
theorem Z4{p:Prop}(h:p:=by rw[aB];omega):p:=h
theorem Z5{p:Prop}(h:p:=by simpa using f):p:=h
theorem Z6{p:Prop}(h:p:=by unfold seg;rw[aD];omega):p:=h
theorem Z7{p:Prop}(h:p:=by rw[cd];omega):p:=h
theorem Z8{p:Prop}(h:p:=by unfold nI;omega):p:=h
theorem Z9{p:Prop}(h:p:=by rw[cD,show c.sz 5=c.X.length from rfl];omega):p:=h
theorem ZA{p:Prop}(h:p:=by rw[show c.sz 1=c.X.length from rfl,u];have:=n.xtR;simp;omega):p:=h
theorem ZB{p:Prop}(h:p:=by rw[Cx.P_len];omega):p:=h
theorem ZC{p:Prop}(h:p:=by rw[cd];exact aB _):p:=h
theorem ZD{p:Prop}(h:p:=by simp[DSt.push]):p:=h
theorem ZE{p:Prop}(h:p:=by rw[r];exact p):p:=h
theorem ZF{p:Prop}(h:p:=by simp only[aB];omega):p:=h
theorem ZG{p:Prop}(h:p:=by simp[enc]):p:=h
theorem ZH{p:Prop}(h:p:=by simp only;omega):p:=h
theorem ZI{p:Prop}(h:p:=by unfold jC;omega):p:=h
theorem ZJ{p:Prop}(h:p:=by rw[d];simp[Fo.src]):p:=h
theorem ZK{p:Prop}(h:p:=by rw[g];simp[Fo.src]):p:=h
theorem ZL{p:Prop}(h:p:=by rw[r];rfl):p:=h
theorem ZM{p:Prop}(h:p:=by rw[show c.sz 2=c.R.toNat from rfl];exact aD y):p:=h
theorem ZN{p:Prop}(h:p:=by rw[show c.sz 3=c.Q.toNat from rfl];exact aD g):p:=h
theorem ZO{p:Prop}(h:p:=by rw[bD,show c.sz 1=c.X.length from rfl];omega):p:=h
theorem ZP{p:Prop}(h:p:=by have:c.off 0+c.sz 0=0+c.T.length:=rfl;omega):p:=h
theorem ZQ{p:Prop}(h:p:=by simp only[aD,aB];simp only[aD]at this;omega):p:=h
theorem ZR{p:Prop}(h:p:=by simp[Mu.add]):p:=h
theorem ZS{p:Prop}(h:p:=by simp[Fo.src]):p:=h
theorem ZT{p:Prop}(h:p:=by simp[List.getD,show 4<l.length by omega]):p:=h
theorem ZU{p:Prop}(h:p:=by have:=n.n;have:=n.m;omega):p:=h
theorem ZV{p:Prop}(h:p:=by rw[q];simp[Fo.src]):p:=h
theorem ZW{p:Prop}(h:p:=by split at p<;>omega):p:=h
theorem ZX{p:Prop}(h:p:=by simpa using g):p:=h
theorem ZY{p:Prop}(h:p:=by cases g):p:=h
theorem ZZ{p:Prop}(h:p:=by rw[L];exact K):p:=h
theorem Zl{p:Prop}(h:p:=by assumption):p:=h
theorem Zm{p:Prop}(h:p:=by intro e;injection e with e;exact j e):p:=h
theorem Zn{p:Prop}(h:p:=by rw[F.q];simp):p:=h
theorem Zq{p:Prop}(h:p:=by rw[wO];exact hd):p:=h
theorem Zr{p:Prop}(h:p:=by rw[f];rfl):p:=h
theorem Zs{p:Prop}(h:p:=by unfold sp;omega):p:=h
theorem Zt{p:Prop}(h:p:=by rw[aB,bD];omega):p:=h
theorem Zu{p:Prop}(h:p:=by rw[aB,aD];omega):p:=h
theorem Zv{p:Prop}(h:p:=by have:=A u;omega):p:=h
theorem Zw{p:Prop}(h:p:=by simpa[Hu,hx]using ht):p:=h
theorem Zx{p:Prop}(h:p:=by simp[AOper.looks,ht]):p:=h
theorem Zy{p:Prop}(h:p:=by rw[qT,A];exact aB _):p:=h
theorem Zz{p:Prop}(h:p:=by simp only[cB];omega):p:=h
theorem eW{p:Prop}(h:p:=by rw[p];simp):p:=h
theorem ek{p:Prop}(h:p:=by rw[d];simp):p:=h
theorem eo{p:Prop}(h:p:=by simpa using q):p:=h
theorem ep{p:Prop}(h:p:=by simpa using p):p:=h
theorem ez{p:Prop}(h:p:=by simp[isAgg,c]):p:=h
theorem fq{p:Prop}(h:p:=by rw[d];simp[y]):p:=h
theorem ft{p:Prop}(h:p:=by simp[Hp.set]):p:=h
theorem fu{p:Prop}(h:p:=by simp[g]):p:=h
theorem gn{p:Prop}(h:p:=by cases hi):p:=h
theorem gs{p:Prop}(h:p:=by simp[hp]):p:=h
theorem hD{p:Prop}(h:p:=by rw[g];rfl):p:=h
abbrev Zd:=List Int
universe uU
def zA {p:Prop}{i:Decidable p}(h:¬p):@decide p i=Zb:=decide_eq_false h
def Ze {p:Prop}{i:Decidable p}(h:¬p:=by omega):@decide p i=Zb:=zA h
def zB {p:Prop}{i:Decidable p}(h:p):@decide p i=Za:=decide_eq_true h
def Zf {p:Prop}{i:Decidable p}(h:p:=by omega):@decide p i=Za:=zB h
def zC {α:Sort uU}{a b:α}:cond Za a b=a:=rfl
def zD {α:Sort uU}{a b:α}:cond Zb a b=b:=rfl
def zE {c:Prop}{h:Decidable c}(d:c){α:Sort uU}{t e:α}:ite c t e=t:=if_pos d
def Zg {c:Prop}{h:Decidable c}(d:c:=by omega){α:Sort uU}{t e:α}:ite c t e=t:=zE d
def zF {c:Prop}{h:Decidable c}(d:¬c){α:Sort uU}{t e:α}:ite c t e=e:=if_neg d
def Zh {c:Prop}{h:Decidable c}(d:¬c:=by omega){α:Sort uU}{t e:α}:ite c t e=e:=zF d
def zG {α β:Type uU}{a:α}{f:α->Option β}:(O a).bind f=f a:=rfl
variable {i x y:Operand}{c:Call}{b:Bool}{v v':Value}{op:BinOp}{lo:Option Operand}{w:World}{N:Nat}{k:IntKind}{fs:Array Field}
section
open List renaming range->aB
structure Blk where
 cells:List Value
 own:Bool
 es:Nat
structure Hp where
 m:Nat->Option Blk
 n:Nat
def Hp.set (Z:Hp)(b:Nat)(x:Option Blk):Hp:={m:=λi=>if i=b then x else Z.m i,n:=Z.n}
def Hp.add (Z:Hp)(x:Blk):Hp:={m:=λi=>if i=Z.n then O x else Z.m i,n:=Z.n+1}
abbrev cy :=Nat->Value
def cy.put (e:cy)(d:Nat)(v:Value):cy:=λi=>if i=d then v else e i
def cy.putO (e:cy)(d:Option Nat)(v:Value):cy:=match d with
 |some d=>e.put d v
 |none=>e
def cy.of (args:List Value):cy:=λi=>(args[i]?).getD undef
def cy.ev (e:cy):Operand->Value
 | .tmp t=>e t
 | .const v=>v
 | .global _=>undef
 | .func f=> .func (.func f) #[] #[]
inductive AExit where
 |normal
 |exit (id:Nat)
 |ret
inductive AOp where
 |move (x:Operand)
 |pick (c a b:Operand)
 |alloc (es:Nat) (zero:List Value)
 |box (es:Nat) (x:Operand)
 |build (zero:List Value) (parts:List<|Nat×Nat×Operand)
 |buildSlice (es len:Nat) (zero:List Value) (parts:List<|Nat×Nat×Operand)
 |load (x:Operand)
 |loadN (n:Nat) (x:Operand)
 |store (n:Nat) (a x:Operand)
 |nilCheck (x:Operand)
 |bin (op:BinOp) (x y:Operand)
 |eqv (kd:Nat) (neg:Bool) (x y:Operand)
 |eqCells (neg:Bool) (ks:List Nat) (x y:Operand)
 |un (op:UnOp) (x:Operand)
 |conv (k:IntKind) (x:Operand)
 |mkFunc (f:FuncId) (first captured:List Operand)
 |makeSlice (es bytes:Nat) (zero:List Value) (l c:Operand)
 |slice (es:Nat) (x:Operand) (lo hi:Option Operand)
 |sliceStr (x:Operand) (lo hi:Option Operand)
 |sliceArr (es n:Nat) (x:Operand) (lo hi:Option Operand)
 |off (n:Nat) (x:Operand)
 |idx (es:Nat) (x i:Operand)
 |idxA (len es:Nat) (x i:Operand)
 |fieldV (off n:Nat) (agg:Bool) (x:Operand)
 |indexV (len es:Nat) (agg:Bool) (x i:Operand)
 |indexS (x i:Operand)
 |extract (x:Operand) (i:Nat)
 |call (f:FuncId) (args:List Operand)
 |callv (f:Operand) (args:List Operand)
 |append (es bytes:Nat) (s x:Operand)
 |appendZ (es bytes:Nat) (zero:List Value) (s x:Operand)
 |copy (es:Nat) (d s:Operand)
 |len (x:Operand)
 |most (x y:Operand)
 |least (x y:Operand)
 |stuck
 |capN (x:Operand)
 |sliceX (x hi mx:Operand)
 |strOf (x:Operand)
 |newB
structure AOper where
 dst:Option Nat
 op:AOp
 guard:Option<|Nat×Bool
structure SItem where
 idx:Nat
 o:AOper
 mover:Bool
 keep:Bool
 chks:List Nat
inductive AC where
 |skip
 |region (ops:List AOper)
 |draw (ops:List<|AOper×List Nat)
 |sched (its:List SItem)
 |seq (a b:AC)
 |cond (c:Operand) (thn els:AC)
 |block (id:Nat) (body:AC)
 |loop (body:AC)
 |exit (id:Nat)
 |ret
inductive ARes where
 |tmp (t:Nat)
 |cell (t:Nat)
 |cellN (t n:Nat)
structure AFn where
 ntmps:Nat
 results:List ARes
 body:AC
abbrev SN :=List Value->Hp->(Value->Hp->Prop)->Prop
abbrev i7 :=FuncId->SN
def one :Value->Bool
 | .agg _| .tuple _=>Zb
 |_=>Za
def cellsOf (v:Value):List Value:=v.cells.toList
def rQ (x:Blk)(o n:Nat):Option<|List Value:=if o+n<=hW x.cells then O ((x.cells.drop o).take n)else Y
def lN (cells:List Value)(o:Nat):List Value->List Value
 |[]=>cells
 |v::d=>lN (cells.set o v) (o+1) d
def CR (x:Blk)(o:Nat)(vs:List Value):Option Blk:=
 if x.own=Za/\o+hW vs<=hW x.cells/\vs.all one=Za then O {cells:=lN x.cells o vs,own:=x.own,es:=x.es}else Y
def Hp.slice (Z:Hp)(es:Nat):Value->Nat->Option (List Value)
 | .slice (O ⟨b,o,Y⟩) _ _,n=>if n=0 then O []else match Z.m b with
  |some x=>rQ x o (n*es)
  |none=>Y
 | .slice Y _ _,n=>if n=0 then O []else Y
 | .string s,n=>if es=1 then O (((s.extract 0 n).data.toList).map λb=> .int .u8 b.toNat)else Y
 |_,_=>Y
def GA :Value->Option Nat
 | .slice _ n _=>O n
 | .string s=>O s.size
 |_=>Y
def Gu (cells:List Value):List (Nat×Nat×Value)->Option (List Value)
 |[]=>O cells
 |(f,d,v)::g=>
  if(hW<|cellsOf v)=d/\f+d<=hW cells then Gu (cells.take f++cellsOf v++cells.drop (f+d)) g else Y
def aa4 (op:BinOp)(k:IntKind)(x y:Int):Option Value:=
 match op with
 | .add=>O (.int k<|k.wrap<|x+y)
 | .sub=>O (.int k<|k.wrap<|x-y)
 | .mul=>O (.int k<|k.wrap<|x*y)
 | .quo=>if y=0 then Y else O (.int k<|k.wrap<|x.tdiv y)
 | .rem=>if y=0 then Y else O (.int k<|x.tmod y)
 | .and=>O (.int k<|k.wrap (BitVec.ofInt k.bits x&&& BitVec.ofInt k.bits y).toNat)
 | .or=>O (.int k<|k.wrap (BitVec.ofInt k.bits x|||BitVec.ofInt k.bits y).toNat)
 | .xor=>O (.int k<|k.wrap (BitVec.ofInt k.bits x ^^^ BitVec.ofInt k.bits y).toNat)
 | .andNot=>O (.int k<|k.wrap (BitVec.ofInt k.bits x&&& ~~~BitVec.ofInt k.bits y).toNat)
 | .eql=>O (.bool<|x==y)
 | .neq=>O (.bool<|x !=y)
 | .lss=>O (.bool<|x<y)
 | .leq=>O (.bool<|x<=y)
 | .gtr=>O (.bool<|x > y)
 | .geq=>O (.bool<|x≥y)
 |_=>Y
def ad8 (op:BinOp)(x y:ByteArray):Option Value:=
 match op with
 | .add=>if((x.size+y.size:Nat):Int) > IntKind.i64.max then Y else O (.string<|x++y)
 | .eql=>O (.bool<|x.toList==y.toList)
 | .neq=>O (.bool !(x.toList==y.toList))
 | .lss=>O (.bool<|Op.bytesLess x.toList y.toList)
 | .leq=>O (.bool<|Op.bytesLess x.toList y.toList||x.toList==y.toList)
 | .gtr=>O (.bool !(Op.bytesLess x.toList y.toList||x.toList==y.toList))
 | .geq=>O (.bool !Op.bytesLess x.toList y.toList)
 |_=>Y
def PD (op:BinOp)(k:IntKind)(x y:Int):Option Value:=
 if y<0 then Y else match op with
 | .shl=>O (.int k<|k.wrap<|x*2 ^ (min y.toNat k.bits))
 | .shr=>O (.int k<|x.fdiv<|2 ^ (min y.toNat k.bits))
 |_=>Y
def xr :BinOp->Bool
 | .shl| .shr=>Za
 |_=>Zb
def CK (op:BinOp):Value->Value->Option Value
 | .int k a, .int d b=>if xr op=Za then PD op k a b else if k=d then aa4 op k a b else Y
 | .string a, .string b=>if xr op=Za then Y else ad8 op a b
 |_,_=>Y
def Vg :Nat->Value->Value->Option Bool
 |0, .bool a, .bool b=>O (a==b)
 |1, .pointer Y, .pointer b=>O b.isNone
 |1, .pointer<|O _, .pointer Y=>O Zb
 |2, .slice Y _ _, .slice b _ _=>O b.isNone
 |2, .slice (O _) _ _, .slice Y _ _=>O Zb
 |3, .nilFunc, .nilFunc=>O Za
 |3, .nilFunc, .func _ _ _=>O Zb
 |3, .func _ _ _, .nilFunc=>O Zb
 |_,_,_=>Y
def ye :Nat->Value->Value->Option Bool
 |0, .bool a, .bool b=>O (a==b)
 |1, .int k a, .int d b=>if k=d then O (a==b)else Y
 |2, .string a, .string b=>O (a.toList==b.toList)
 |_,_,_=>Y
def kn :List Nat->List Value->List Value->Option Bool
 |[],[],[]=>O Za
 |k::d,a::r,b::s=>match ye k a b with
  |some true=>kn d r s
  |some false=>O Zb
  |none=>Y
 |_,_,_=>Y
def un1 :UnOp->Value->Option Value
 | .neg, .int k n=>O (.int k<|k.wrap<|0-n)
 | .xor, .int k n=>O (.int k<|k.wrap (BitVec.ofInt k.bits (if k.signed then-1 else k.max) ^^^ BitVec.ofInt k.bits n).toNat)
 | .not, .bool b=>O (.bool !b)
 |_,_=>Y
def bs8 :Value->Option Int
 | .int _ n=>O n
 |_=>Y
def oh (y d:Nat):Option Value->Option Nat
 |some (.int _ i)=>if 0<=i/\i<=y then O i.toNat else Y
 |some _=>Y
 |none=>O d
def Uc :Value->Value->Option Value
 | .int k x, .int _ y=>O (.int k (if y<x then y else x))
 |_,_=>Y
def YG :Value->Value->Option Value
 | .int k x, .int _ y=>O (.int k (if y > x then y else x))
 |_,_=>Y
def QH (a:Addr)(n:Nat):Addr:=⟨a.block,a.off+n,Y⟩
def EE (Z:Hp)(es:Nat)(a:Option Addr)(lo:Option Operand):Bool:=match lo,a with
 |none,_=>Za
 |_,Y=>Za
 |some _,O a=>match Z.m a.block with
  |some d=>d.es==es
  |none=>Zb
def fh (zero:List Value)(n:Nat):List Value:=(List.replicate n zero).flatten
def qd (es bytes:Nat)(Z:Hp)(a:Option Addr)(g l n:Nat)(f:List Value):Option<|Value×Hp:=if g+n<=l then(match a with
      |some ⟨b,o,Y⟩=>if f=[]then O (.slice (O ⟨b,o,Y⟩) (g+n) l,Z)else match Z.m b with
       |some d=>match CR d (o+g*es) f with
        |some j=>O (.slice (O ⟨b,o,Y⟩) (g+n) l,Z.set b<|O j)
        |none=>Y
       |none=>Y
      |none=>if f=[]/\g=0/\l=0/\n=0 then O (.slice Y 0 0,Z)else Y
      |_=>Y)
     else if(g+n)*bytes<=140737488355328/\g+n<=9223372036854775807/\f.all one=Za then(match a with
      |some ⟨b,o,Y⟩=>match Z.m b with
       |some d=>if d.own=Za/\d.es=es then match rQ d o (g*es)with
        |some h=>O (.slice (O ⟨Z.n,0,Y⟩) (g+n)<|g+n,(Z.set b Y).add ⟨h++f,Za,es⟩)
        |none=>Y
        else Y
       |none=>Y
      |none=>if g=0 then O (.slice (O ⟨Z.n,0,Y⟩) n n,Z.add ⟨f,Za,es⟩)else Y
      |some ⟨b,o,O _⟩=>if g=0 then O (.slice (O ⟨Z.n,0,Y⟩) n n,Z.add ⟨f,Za,es⟩)else match Z.m b with
       |some d=>if d.es=es then match rQ d o (g*es)with
        |some h=>O (.slice (O ⟨Z.n,0,Y⟩) (g+n)<|g+n,Z.add ⟨h++f,Za,es⟩)
        |none=>Y
        else Y
       |none=>Y)
     else Y
def CL :List Value->Option Zd
 |[]=>O []
 | .int .u8 n::r=>(CL r).map (n:: ·)
 |_=>Y
def Yz (l:Zd):ByteArray:=l.foldl (λr n=>r.push<|UInt8.ofNat n.toNat) ByteArray.empty
def AOp.run (e:cy)(Z:Hp):AOp->Option (Value×Hp)
 | .move x=>O (e.ev x,Z)
 | .pick c a b=>match e.ev c with
  | .bool true=>O (e.ev a,Z)
  | .bool false=>O (e.ev b,Z)
  |_=>Y
 | .alloc es zero=>O (.pointer<|O ⟨Z.n,0,Y⟩,Z.add ⟨zero,Za,es⟩)
 | .box es x=>if(cellsOf<|e.ev x).all one then O (.pointer<|O ⟨Z.n,0,Y⟩,Z.add ⟨cellsOf<|e.ev x,Za,es⟩)else Y
 | .build zero q=>(Gu zero<|q.map λ(o,s,x)=>(o,s,e.ev x)).map λr=>(.agg r.toArray,Z)
 | .buildSlice es z zero q=>match Gu (fh zero z) (q.map λ(o,s,x)=>(o,s,e.ev x))with
  |some r=>if r.all one then O (.slice (O ⟨Z.n,0,Y⟩) z z,Z.add ⟨r,Za,es⟩)else Y
  |none=>Y
 | .load x=>match e.ev x with
  | .pointer (O ⟨b,o,Y⟩)=>match Z.m b with
   |some p=>(p.cells[o]?).map λv=>(v,Z)
   |none=>Y
  |_=>Y
 | .loadN n x=>match e.ev x with
  | .pointer (O ⟨b,o,Y⟩)=>match Z.m b with
   |some p=>(rQ p o n).map λr=>(.agg r.toArray,Z)
   |none=>Y
  |_=>Y
 | .store n a x=>match e.ev a with
  | .pointer (O ⟨b,o,Y⟩)=>if(hW<|cellsOf<|e.ev x)=n then match Z.m b with
   |some p=>match CR p o (cellsOf<|e.ev x)with
    |some t=>O (undef,Z.set b<|O t)
    |none=>Y
   |none=>Y
   else Y
  |_=>Y
 | .nilCheck x=>match e.ev x with
  | .pointer (O a)=>O (.pointer<|O a,Z)
  | .func (.func f) first j=>O (.func (.func f) first j,Z)
  |_=>Y
 | .bin op x y=>(CK op (e.ev x)<|e.ev y).map λv=>(v,Z)
 | .eqv J D x y=>(Vg J (e.ev x)<|e.ev y).map λb=>(.bool<|b !=D,Z)
 | .eqCells D K x y=>match e.ev x,e.ev y with
  | .agg a, .agg b=>(kn K a.toList b.toList).map λb=>(.bool<|b !=D,Z)
  |_,_=>Y
 | .un op x=>(un1 op<|e.ev x).map λv=>(v,Z)
 | .conv k x=>(bs8<|e.ev x).map λn=>(.int k<|k.wrap n,Z)
 | .mkFunc f first j=>O (.func (.func f) (first.map e.ev).toArray (j.map e.ev).toArray,Z)
 | .makeSlice es g zero l c=>match e.ev l,e.ev c with
  | .int _ l, .int _ c=>if 0<=l/\l<=c/\g*c<=281474976710656/\c<=9223372036854775807 then
    O (.slice (O ⟨Z.n,0,Y⟩) l.toNat c.toNat,Z.add ⟨fh zero c.toNat,Za,es⟩)else Y
  |_,_=>Y
 | .slice es x lo C=>match e.ev x with
  | .slice a z u=>if(u==0||EE Z es a lo)=Za then match oh u z (C.map e.ev)with
   |some h=>match oh h 0 (lo.map e.ev)with
    |some l=>O (.slice (a.map (QH · (l*es))) (h-l)<|u-l,Z)
    |none=>Y
   |none=>Y else Y
  |_=>Y
 | .sliceStr x lo C=>match e.ev x with
  | .string s=>match oh s.size s.size (C.map e.ev)with
   |some h=>match oh h 0 (lo.map e.ev)with
    |some l=>O (.string<|s.extract l h,Z)
    |none=>Y
   |none=>Y
  |_=>Y
 | .sliceArr es n x lo C=>match e.ev x with
  | .pointer (O ⟨b,o,Y⟩)=>match Z.m b with
   |some p=>if p.own=Za/\p.es=es/\o+n*es<=hW p.cells then match oh n n (C.map e.ev)with
    |some h=>match oh h 0 (lo.map e.ev)with
     |some l=>if l<n then O (.slice (O ⟨b,o+l*es,Y⟩) (h-l)<|n-l,Z)else Y
     |none=>Y
    |none=>Y else Y
   |none=>Y
  |_=>Y
 | .off n x=>match e.ev x with
  | .pointer (O ⟨b,o,Y⟩)=>O (.pointer<|O ⟨b,o+n,Y⟩,Z)
  |_=>Y
 | .idx es x i=>match e.ev x,e.ev i with
  | .slice (O ⟨b,o,Y⟩) z _, .int _ i=>if 0<=i/\i<z then O (.pointer<|O ⟨b,o+i.toNat*es,Y⟩,Z)else Y
  |_,_=>Y
 | .idxA z es x i=>match e.ev x,e.ev i with
  | .pointer (O ⟨b,o,Y⟩), .int _ i=>if 0<=i/\i<z then O (.pointer<|O ⟨b,o+i.toNat*es,Y⟩,Z)else Y
  |_,_=>Y
 | .fieldV F n agg x=>match e.ev x with
  | .agg r=>if agg then O (.agg<|r.extract F<|F+n,Z)else(r[F]?).map λv=>(v,Z)
  |_=>Y
 | .indexV z es agg x i=>match e.ev x,e.ev i with
  | .agg r, .int _ i=>if 0<=i/\i<z then(if agg then O (.agg<|r.extract (i.toNat*es)<|i.toNat*es+es,Z)else(r[i.toNat*es]?).map λv=>(v,Z))else Y
  |_,_=>Y
 | .indexS x i=>match e.ev x,e.ev i with
  | .string s, .int _ i=>if 0<=i then(s[i.toNat]?).map λb=>(.int .u8 b.toNat,Z)else Y
  |_,_=>Y
 | .extract x i=>match e.ev x with
  | .tuple M=>(M[i]?).map λv=>(v,Z)
  |_=>Y
 | .call _ _| .callv _ _=>Y
 | .append es g s x=>match e.ev s with
  | .slice a I H=>match GA (e.ev x)with
   |some n=>match Z.slice es (e.ev x) n with
    |some A=>qd es g Z a I H n A
    |none=>Y
   |none=>Y
  |_=>Y
 | .appendZ es g zero s x=>match e.ev s,e.ev x with
  | .slice a I H, .int _ l=>if 0<=l/\l<=9223372036854775807/\l*g<=281474976710656 then qd es g Z a I H l.toNat (fh zero l.toNat)else Y
  |_,_=>Y
 | .copy es d s=>match e.ev d with
  | .slice a E _=>match GA (e.ev s)with
   |some n=>match Z.slice es (e.ev s) (min n E)with
    |some A=>(match a with
     |some ⟨b,o,Y⟩=>if A=[]then O (.int .i64 (min n E:Nat),Z)else match Z.m b with
      |some p=>match CR p o A with
       |some t=>O (.int .i64 (min n E:Nat),Z.set b<|O t)
       |none=>Y
      |none=>Y
     |none=>if A=[]then O (.int .i64 (min n E:Nat),Z)else Y
     |_=>Y)
    |none=>Y
   |none=>Y
  |_=>Y
 | .len x=>match e.ev x with
  | .slice _ n _=>O (.int .i64 n,Z)
  |_=>Y
 | .most x y=>(YG (e.ev x)<|e.ev y).map λv=>(v,Z)
 | .least x y=>(Uc (e.ev x)<|e.ev y).map λv=>(v,Z)
 | .stuck=>Y
 | .capN x=>match e.ev x with
  | .slice Y 0 0=>O (.int .i64 0,Z)
  |_=>Y
 | .sliceX x C L=>match e.ev x with
  | .slice a _ u=>match oh u 0 (O<|e.ev L)with
   |some m=>match oh m 0 (O<|e.ev C)with
    |some h=>if h=m then match a with
     |none=>O (.slice Y 0 0,Z)
     |some ⟨b,o,Y⟩=>O (.slice (O ⟨b,o,O 0⟩) m m,Z)
     |_=>Y
     else Y
    |none=>Y
   |none=>Y
  |_=>Y
 | .newB=>O (.iface Z.n .nilFunc,Z.add ⟨[.string ByteArray.empty],Za,1⟩)
 | .strOf x=>match e.ev x with
  | .slice a n c=>match Z.slice 1 (.slice a n c) n with
   |some r=>(CL r).map λl=>(.string<|Yz l,Z)
   |none=>Y
  |_=>Y
def cj (T:i7)(op:AOp)(e:cy)(Z:Hp)(k:Value->Hp->Prop):Prop:=
 match op with
 | .call f g=>T f (g.map e.ev) Z k
 | .callv x g=>match e.ev x with
  | .func (.func f) first d=>T f (first.toList++g.map e.ev++d.toList) Z k
  |_=>False
 |op=>match op.run e Z with
  |some (v,Z')=>k v Z'
  |none=>False
def wanted (o:AOper)(e:cy):Bool:=
 match o.guard with
 |some (t,d)=>match e t with
  | .bool b=>b==d
  |_=>Zb
 |none=>Za
def BB (T:i7)(Q:cy->Hp->Prop):List AOper->cy->Hp->Prop
 |[],e,Z=>Q e Z
 |o::d,e,Z=>if wanted o e then cj T o.op e Z λv Z'=>BB T Q d (e.putO o.dst v) Z' else BB T Q d (e.putO o.dst undef) Z
def AOp.still :AOp->Bool
 | .alloc .. | .box .. | .buildSlice .. | .store .. | .call .. | .callv .. | .makeSlice .. | .append .. | .appendZ .. | .copy .. | .strOf .. | .newB=>Zb
 |_=>Za
def jE (f:(AExit->cy->Hp->Prop)->cy->Hp->Prop)(Q:AExit->cy->Hp->Prop):Nat->cy->Hp->Prop
 |0,_,_=>False
 |n+1,e,Z=>f (λx d Z'=>match x with
  | .normal=>jE f Q n d Z'
  |x=>Q x d Z') e Z
def AOp.isLoad :AOp->Bool
 | .load _| .loadN _ _| .sliceArr _ _ _ _ _| .slice _ _ (O _) _=>Za
 |_=>Zb
def iD (d:List<|AOper×List Nat)(i:Nat):List Nat:=match d[i]? with
 |some (_,p)=>p
 |none=>[]
def Lg (acc:List Nat)(d:List Nat):Nat:=d.foldl (λm q=>m|||2 ^ q|||acc.getD q 0) 0
def VC (d:List Nat):List (AOper×List Nat)->List Nat
 |[]=>d
 |(_,f)::r=>VC (d++[Lg d f]) r
def vx (d:List<|AOper×List Nat)(p j:Nat):Bool:=((VC [] d).getD j 0).testBit p
def TI (d:List<|AOper×List Nat)(done:List Nat)(i:Nat):Bool:=
 !done.contains i&&(iD d i).all λq=>done.contains q
def ES (d:List<|AOper×List Nat)(i:Nat):Bool:=match d[i]? with
 |some (o,_)=>o.op.still
 |none=>Zb
def eZ (d:List<|AOper×List Nat)(done:List Nat):Option Nat:=(aB<|hW d).find? λi=>TI d done i&&ES d i
def bw (d:List<|AOper×List Nat)(done:List Nat):List Nat:=(aB<|hW d).filter λi=>TI d done i&& !ES d i
def NX (f:Nat->Prop):List Nat->Prop
 |[]=>True
 |[m]=>f m
 |m::r=>f m/\NX f r
def Dr (d:List<|AOper×List Nat)(m:Nat)(Z:Hp):List (Nat×(Hp->Prop))->Prop
 |[]=>True
 |(i,c)::r=>if vx d i m then Dr d m Z r else c Z/\Dr d m Z r
def EX (T:i7)(Q:cy->Hp->Prop)(d:List<|AOper×List Nat):Nat->List Nat->List (Nat×(Hp->Prop))->cy->Hp->Prop
 |0,_,_,e,Z=>Q e Z
 |f+1,done,g,e,Z=>match eZ d done with
  |some i=>match d[i]? with
   |some (o,_)=>
    if wanted o e then match o.op.run e Z with
     |some (v,_)=>EX T Q d f (i::done) (if o.op.isLoad then(i,λZ'=>o.op.run e Z'=O (v,Z'))::g else g) (e.putO o.dst v) Z
     |none=>False
    else EX T Q d f (i::done) g (e.putO o.dst undef) Z
   |none=>False
  |none=>match bw d done with
   |[]=>Q e Z
   |ms=>NX (λm=>match d[m]? with
    |some (o,_)=>
     if wanted o e then cj T o.op e Z λv Z'=>Dr d m Z' g/\EX T Q d f (m::done) g (e.putO o.dst v) Z'
     else EX T Q d f (m::done) g (e.putO o.dst undef) Z
    |none=>False) ms
def Af (d:List Nat)(Z:Hp):List (Nat×(Hp->Prop))->Prop
 |[]=>True
 |(i,c)::r=>if d.contains i then c Z/\Af d Z r else Af d Z r
def XV (d:List<|AOper×List Nat)(i:Nat):Bool:=match d[i]? with
 |some (o,_)=> !o.op.still
 |none=>Zb
def aA3 (d:List<|AOper×List Nat)(i:Nat):Bool:=(aB<|hW d).any λm=>XV d m&& !vx d i m
def Hv (g:List<|AOper×List Nat):Nat->List Nat->List Nat->Option (List SItem)
 |0,_,_=>O []
 |f+1,done,d=>match eZ g done with
  |some i=>match g[i]? with
   |some (o,_)=>(Hv g f (i::done) (if o.op.isLoad then i::d else d)).map (⟨i,o,Zb,o.op.isLoad&&aA3 g i,[]⟩:: ·)
   |none=>Y
  |none=>match bw g done with
   |[]=>O []
   |[m]=>match g[m]? with
    |some (o,_)=>(Hv g f (m::done) d).map (⟨m,o,Za,Zb,d.filter λi=> !vx g i m⟩:: ·)
    |none=>Y
   |_=>Y
def Un (T:i7)(Q:cy->Hp->Prop):List SItem->List (Nat×(Hp->Prop))->cy->Hp->Prop
 |[],_,e,Z=>Q e Z
 |it::r,d,e,Z=>
  if wanted it.o e then
   (if it.mover then cj T it.o.op e Z λv Z'=>Af it.chks Z' d/\Un T Q r d (e.putO it.o.dst v) Z'
    else match it.o.op.run e Z with
    |some (v,_)=>Un T Q r (if it.keep then(it.idx,λZ'=>it.o.op.run e Z'=O (v,Z'))::d else d) (e.putO it.o.dst v) Z
    |none=>False)
  else Un T Q r d (e.putO it.o.dst undef) Z
def yu (T:i7):AC->(AExit->cy->Hp->Prop)->cy->Hp->Prop
 | .skip,Q,e,Z=>Q .normal e Z
 | .region d,Q,e,Z=>BB T (Q .normal) d e Z
 | .draw d,Q,e,Z=>EX T (Q .normal) d (hW d) [] [] e Z
 | .sched f,Q,e,Z=>Un T (Q .normal) f [] e Z
 | .seq a b,Q,e,Z=>yu T a (λx e Z=>match x with
  | .normal=>yu T b Q e Z
  |x=>Q x e Z) e Z
 | .cond c a b,Q,e,Z=>match e.ev c with
  | .bool true=>yu T a Q e Z
  | .bool false=>yu T b Q e Z
  |_=>False
 | .block id b,Q,e,Z=>yu T b (λx e Z=>match x with
  | .exit i=>if i=id then Q .normal e Z else Q (.exit i) e Z
  |x=>Q x e Z) e Z
 | .loop b,Q,e,Z=> ∃n,jE (yu T b) Q n e Z
 | .exit id,Q,e,Z=>Q (.exit id) e Z
 | .ret,Q,e,Z=>Q .ret e Z
def Pn (e:cy)(Z:Hp):ARes->Option Value
 | .tmp t=>O (e t)
 | .cell t=>match e t with
  | .pointer (O ⟨b,o,Y⟩)=>im (Z.m b) λx=>x.cells[o]?
  |_=>Y
 | .cellN t n=>match e t with
  | .pointer (O ⟨b,o,Y⟩)=>im (Z.m b) λx=>(rQ x o n).map λd=> .agg d.toArray
  |_=>Y
def Lr (e:cy)(Z:Hp):List ARes->Option (List Value)
 |[]=>O []
 |r::d=>match Pn e Z r,Lr e Z d with
  |some v,O f=>O (v::f)
  |_,_=>Y
def Cd :List Value->Value
 |[v]=>v
 |vs=> .tuple vs.toArray
def wpF (T:i7)(f:AFn):SN:=λd Z K=>hW d<=f.ntmps/\
 yu T f.body (λx e Z'=>match x with
  | .exit _=>False
  |_=>match Lr e Z' f.results with
   |some g=>K (Cd g) Z'
   |none=>False) (cy.of d) Z
end
variable {e:cy}
section
open Nat renaming lt_of_lt_of_le->aB
open Go.RowKit
structure G where
 c:Nat
 o:Nat
 ext:Nat
 es:Nat
 ty:Nat
 it:Option Value
abbrev Mu :=Nat->Option G
def Mu.le (μ μ':Mu):Prop:= ∀b g,μ b=O g->μ' b=O g
def Mu.le_refl (μ:Mu):μ.le μ:=λ_ _ h=>h
def Mu.le_trans {a b c:Mu}(h:a.le b)(k:b.le c):a.le c:=λx g d=>k x g<|h x g d
def Mu.add (μ:Mu)(n:Nat)(g:G):Mu:=λb=>if b=n then O g else μ b
theorem Mu.le_add {μ:Mu}{n:Nat}{g:G}(h:μ n=Y):μ.le<|μ.add n g:=λb d f=>by
 unfold Mu.add
 grind
def Mu.at (μ:Mu)(b:Nat)(g:G):Prop:=μ b=O g/\g.it=Y
def Mu.at_le {μ μ':Mu}(h:μ.le μ'){b:Nat}{g:G}(k:μ.at b g):μ'.at b g:=⟨h _ _ k.1,k.2⟩
inductive F2 {α β:Type}(r:α->β->Prop):List α->List β->Prop where
 |nil:F2 r [] []
 |cons {a:α} {b:β} {l:List α} {m:List β}:r a b->F2 r l m->F2 r (a::l) (b::m)
inductive VR (μ:Mu):Value->Value->Prop where
 |bool (b:Bool):VR μ (.bool b) (.bool b)
 |int (k:IntKind) (n:Int):VR μ (.int k n) (.int k n)
 |string (s:ByteArray):VR μ (.string s) (.string s)
 |nilp:VR μ (.pointer Y) (.pointer Y)
 |ptr {b o:Nat} {g:G}:μ.at b g->VR μ (.pointer<|O ⟨b,o,Y⟩) (.pointer<|O ⟨g.c,g.o+o,Y⟩)
 |nils:VR μ (.slice Y 0 0) (.slice Y 0 0)
 |slice {b o l c c':Nat} {g:G}:μ.at b g->l<=c->c<=c'->o+c'*g.es<=g.ext->VR μ (.slice (O ⟨b,o,Y⟩) l c) (.slice (O ⟨g.c,g.o+o,Y⟩) l c')
 |slice0 {b o:Nat} {g:G} (A':Addr):μ.at b g->VR μ (.slice (O ⟨b,o,Y⟩) 0 0) (.slice (O A') 0 0)
 |sliceX {b o c:Nat} {g:G}:μ.at b g->o+c*g.es<=g.ext->VR μ (.slice (O ⟨b,o,O 0⟩) c c) (.slice (O ⟨g.c,g.o+o,Y⟩) c c)
 |sliceX0 {b o:Nat} {g:G} (A':Addr):μ.at b g->VR μ (.slice (O ⟨b,o,O 0⟩) 0 0) (.slice (O A') 0 0)
 |nilf:VR μ .nilFunc .nilFunc
 |func {f:Fn} {a a' c c':Array Value}:F2 (VR μ) a.toList a'.toList->F2 (VR μ) c.toList c'.toList->VR μ (.func f a c) (.func f a' c')
 |nili:VR μ .nilIface .nilIface
 |iter {b:Nat} {g:G} {v:Value}:μ b=O g->g.it=O v->VR μ (.iface b v) (.pointer<|O ⟨g.c,0,Y⟩)
 |agg {a a':Array Value}:F2 (VR μ) a.toList a'.toList->VR μ (.agg a) (.agg a')
 |tuple {a a':Array Value}:F2 (VR μ) a.toList a'.toList->VR μ (.tuple a) (.tuple a')
def F2.length {α β:Type}{r:α->β->Prop}{l:List α}{m:List β}(h:F2 r l m):l.length=m.length:=by
 induction h with
 |nil=>rfl
 |cons _ _ d=>simp[d]
theorem F2.get {α β:Type}{r:α->β->Prop}{l:List α}{m:List β}(h:F2 r l m): ∀(i:Nat) (a:α),l[i]?=O a->∃b,m[i]?=O b/\r a b:=by
 induction h with
 |nil=>intro i a h;simp at h
 |cons d _ f=>
  grind
def F2.of_get {α β:Type}{r:α->β->Prop}: ∀(l:List α) (m:List β),hW l=hW m->(∀(i:Nat) (a:α) (b:β),l[i]?=O a->m[i]?=O b->r a b)->F2 r l m
 |[],[],_,_=> .nil
 |[],_::_,h,_=>by simp at h
 |_::_,[],h,_=>by simp at h
 |a::l,b::m,h,d=> .cons (d 0 a b rfl rfl)<|F2.of_get l m V8 λi x y f g=>d (i+1) x y Z5 ZX
def F2.append {α β:Type}{r:α->β->Prop}{l l':List α}{m m':List β}(h:F2 r l m)(d:F2 r l' m'):F2 r (l++l')<|m++m':=by
 induction h with
 |nil=>exact d
 |cons f _ g=>exact .cons f g
def F2.take {α β:Type}{r:α->β->Prop}{l:List α}{m:List β}(h:F2 r l m): ∀n,F2 r (l.take n)<|m.take n:=by
 induction h with
 |nil=>intro n;simp;exact .nil
 |cons d _ f=>
  intro n;cases n with
  |zero=>exact .nil
  |succ n=>exact .cons d<|f n
def F2.drop {α β:Type}{r:α->β->Prop}{l:List α}{m:List β}(h:F2 r l m): ∀n,F2 r (l.drop n)<|m.drop n:=by
 induction h with
 |nil=>intro n;simp;exact .nil
 |cons d f g=>
  intro n;cases n with
  |zero=>exact .cons d f
  |succ n=>exact g n
def F2.same {α:Type}{r:α->α->Prop}: ∀(l:List α),(∀a∈l,r a a)->F2 r l l
 |[],_=> .nil
 |a::l,h=> .cons (h a V2)<|F2.same l λb d=>h b (by simp[d])
def F2.imp {α β:Type}{r s:α->β->Prop}(d: ∀a b,r a b->s a b){l:List α}{m:List β}(h:F2 r l m):F2 s l m:=by
 induction h with
 |nil=>exact .nil
 |cons f _ g=>exact .cons (d _ _ f) g
def VR.mono {μ μ':Mu}(f:μ.le μ'): ∀{v v':Value},VR μ v v'->VR μ' v v'
 |_,_, .bool b=> .bool b
 |_,_, .int k n=> .int k n
 |_,_, .string s=> .string s
 |_,_, .nilp=> .nilp
 |_,_, .ptr h=> .ptr (Mu.at_le f h)
 |_,_, .nils=> .nils
 |_,_, .slice h d g j=> .slice (Mu.at_le f h) d g j
 |_,_, .slice0 A' h=> .slice0 A' (Mu.at_le f h)
 |_,_, .sliceX h d=> .sliceX (Mu.at_le f h) d
 |_,_, .sliceX0 A' h=> .sliceX0 A' (Mu.at_le f h)
 |_,_, .nilf=> .nilf
 |_,_, .func d g=> .func (go d) (go g)
 |_,_, .nili=> .nili
 |_,_, .iter h d=> .iter (f _ _ h) d
 |_,_, .agg h=> .agg (go h)
 |_,_, .tuple h=> .tuple<|go h
where
 go {l m:List Value}:F2 (VR μ) l m->F2 (VR μ') l m
 | .nil=> .nil
 | .cons h t=> .cons (VR.mono f h)<|go t
def VR.undef (μ:Mu):VR μ undef undef:= .tuple .nil
def VR.one_iff {μ:Mu}(h:VR μ v v'):one v=v'.oneCell':=by cases h<;>rfl
def VR.cells {μ:Mu}(h:VR μ v v'):F2 (VR μ) (cellsOf v) v'.cells.toList:=by
 cases h with
 |agg h=>exact h
 |bool b=>exact .cons (.bool b) .nil
 |int k n=>exact .cons (.int k n) .nil
 |string s=>exact .cons (.string s) .nil
 |nilp=>exact .cons .nilp .nil
 |ptr h=>exact .cons (.ptr h) .nil
 |nils=>exact .cons .nils .nil
 |slice h d f g=>exact .cons (.slice h d f g) .nil
 |slice0 A' h=>exact .cons (.slice0 A' h) .nil
 |sliceX h d=>exact .cons (.sliceX h d) .nil
 |sliceX0 A' h=>exact .cons (.sliceX0 A' h) .nil
 |nilf=>exact .cons .nilf .nil
 |func d f=>exact .cons (.func d f) .nil
 |nili=>exact .cons .nili .nil
 |iter h d=>exact .cons (.iter h d) .nil
 |tuple h=>exact .cons (.tuple h) .nil
def IE :Value->Bool
 | .bool _| .int _ _| .string _| .pointer Y| .slice Y 0 0| .nilFunc| .nilIface=>Za
 | .agg d=>d.toList.all λ
  | .bool _| .int _ _| .string _| .pointer Y| .slice Y 0 0| .nilFunc| .nilIface=>Za
  |_=>Zb
 | .tuple d=>d.size==0
 |_=>Zb
theorem VR.plain1 (μ:Mu): ∀v:Value,(match v with
  | .bool _| .int _ _| .string _| .pointer Y| .slice Y 0 0| .nilFunc| .nilIface=>Za
  |_=>Zb)=Za->VR μ v v:=by
 intro v h;cases v with
 |bool b=>exact .bool b
 |int k n=>exact .int k n
 |string s=>exact .string s
 |pointer a=>cases a with
  |none=>exact .nilp
  |some a=>simp at h
 |slice a n c=>
  split at h<;>first|(rename_i d;cases d;exact .nils)|simp_all
 |nilFunc=>exact .nilf
 |nilIface=>exact .nili
 |_=>simp at h
theorem VR.plain {μ:Mu}(h:IE v=Za):VR μ v v:=by
 cases v with
 |agg d=>
  refine .agg<|F2.same _ λa f=>VR.plain1 μ a ?_;simp only[IE,List.all_eq_true]at h;exact h a f
 |tuple d=>
  have:d= #[]:=by simpa[IE]using h
  subst this;exact .tuple .nil
 |bool b=>exact .bool b
 |int k n=>exact .int k n
 |string s=>exact .string s
 |pointer a=>cases a with
  |none=>exact .nilp
  |some a=>simp[IE]at h
 |slice a n c=>
  unfold IE at h;split at h<;>first|(rename_i g;cases g;exact .nils)|simp_all
 |nilFunc=>exact .nilf
 |nilIface=>exact .nili
 |_=>simp[IE]at h
structure Base (P:Program)where
 n:Nat
 h:Nat->Option Obj
 tab: ∀w:World,n<=w.heap.size->(∀b,b<n->w.heap[b]?=h b)->P.globalNamed "internal/strconv.uint64pow10" ≠Y->Lib.TabIs P w "internal/strconv.uint64pow10" .u64 Lib.pow10Tab
instance (P :Program):CoeHead (Base P) Nat:=⟨Base.n⟩
def JJ (P:Program)(t:TypeId):Bool:=match P.types[t]? with
 |some i=>(match i.desc with
  | .named n _=>n== "strings.Builder"
  |_=>Zb)
 |none=>Zb
def jj (w:World)(c:Nat):Option Nat:=match w.heap[c]? with
 |some (.cells d _ _)=>(d[1]?).bind Value.ownBlock
 |_=>Y
def TV (w:World)(g i:Nat)(cs:Array Value)(t:TypeId)(d:Nat×Nat)(v:Value)(f:w.heap[g]?=O (.cells cs t d)):(w.setCell ⟨g,i,Y⟩ v).heap[g]?=O (.cells (cs.setIfInBounds i v) t d):=by
 simp[World.setCell,Array.getElem?_modify,f]
def OI (w:World)(g j:Nat)(cs:Array Value)(t:TypeId)(d:Nat×Nat)(h:w.heap[g]?=O (.cells cs t d))(m:j<cs.size)(f:cs.size<=d.1∨d.1=d.2):w.frozen? ⟨g,j,Y⟩=Zb:=by
 have⟨lo,l⟩:=d;simp only at f;simp only[World.frozen?,h,Bool.and_eq_false_iff,decide_eq_false_iff_not];omega
structure Lives {P:Program}(B:Base P)(μ:Mu)(w:World)(x:Blk)(g:G):Prop where
 lt:g.c<w.heap.size
 es:g.es=x.es
 cell:g.it=Y->∀(i:Nat) (v:Value),x.cells[i]?=O v->∃v',w.cell? ⟨g.c,g.o+i,Y⟩=O v'/\VR μ v v'
 own:g.it=Y->x.own=Za->B.n<=g.c/\hW x.cells<=g.ext/\∃cur e fr,w.heap[g.c]?=O (.cells cur e fr)/\g.o+g.ext<=cur.size/\(cur.size<=fr.1∨fr.1=fr.2)
 iter: ∀s,g.it=O (.string s)->B.n<=g.c/\∃p:Nat,x.cells=[Value.int .i64 p].take (hW x.cells)/\w.heap[g.c]?=O (.stringIter s p)
 bld:g.it=O .nilFunc->JJ P g.ty=Za/\∃p s,(p= .pointer Y∨p= .pointer (O ⟨g.c,0,Y⟩))/\x.cells=[Value.string s].take (hW x.cells)/\Lib.BuilderAtF g.ty P.rt.byte B.n g.c p (Lib.strCells s) w
def Sep (μ:Mu)(Z:Hp)(w:World):Prop:= ∀b x g,Z.m b=O x->μ b=O g->g.it=O .nilFunc->∀k,jj w g.c=O k->∀f h d,Z.m f=O h->μ f=O d->d.c≠k/\(f≠b->d.it=O .nilFunc->jj w d.c≠O k)
theorem Sep.of {μ μ':Mu}{Z Z':Hp}{w':World}(h:Sep μ Z w)(d: ∀b x g,Z'.m b=O x->μ' b=O g->(∃y,Z.m b=O y/\μ b=O g)∨(g.it≠O .nilFunc/\∀b1 F l k,Z.m b1=O F->μ b1=O l->l.it=O .nilFunc->jj w l.c=O k->g.c≠k))
  (C: ∀b x g,Z.m b=O x->μ b=O g->g.it=O .nilFunc->(∃y,Z'.m b=O y)->jj w' g.c=jj w g.c):Sep μ' Z' w':=by
 intro b x g u D f k t q E r p n;rcases d b x g u D with⟨y,j,s⟩|⟨j,_⟩
 .rw[C b y g j s f ⟨x,u⟩]at t;rcases d q E r p n with⟨H,z,A⟩|⟨z,A⟩
  .obtain⟨I,J⟩:=h b y g j s f k t q H r z A
   grind
  grind
 .exact(j f).elim
def Xp {T e:TypeId}{n b:Nat}{p:Value}{bs:List Value}{w':World}(h:Lib.BuilderAtF T e n b p bs w)(z:w'.heap[b]?=w.heap[b]?)(C: ∀k,jj w b=O k->w'.heap[k]?=w.heap[k]?):Lib.BuilderAtF T e n b p bs w':=by
 have⟨u,v,f,d,r⟩:=h;refine⟨u,v,z.trans f,⟨d.1, ?_⟩,r⟩;rcases d.2 with D|⟨g,l,m,t,s,A,q,j⟩
 .exact .inl D
 exact .inr ⟨g,l,m,t,s,A,(C g (by subst s;simp[jj,f,Value.ownBlock])).trans q,j⟩
def ai2 {T e:TypeId}{n b:Nat}{p:Value}{bs:List Value}(h:Lib.BuilderAtF T e n b p bs w){k:Nat}(q:jj w b=O k):n<=k/\k<w.heap.size/\k≠b:=by
 have⟨r,v,f,d,g⟩:=h;have j:v.ownBlock=O k:=by simpa[jj,f]using q
 have⟨l,m⟩:=d.lt k j;exact⟨l,m,λe=>g<|e▸j⟩
structure R {P:Program}(B:Base P)(μ:Mu)(Z:Hp)(w:World):Prop where
 base:B.n<=w.heap.size
 old: ∀b,b<B.n->w.heap[b]?=B.h b
 fresh: ∀b,Z.n<=b->μ b=Y
 live: ∀b x,Z.m b=O x->∃g,μ b=O g/\Lives B μ w x g
 inj: ∀b b' x x' g g',Z.m b=O x->Z.m b'=O x'->b≠b'->x.own=Za->μ b=O g->μ b'=O g'->g.c≠g'.c
 sep:Sep μ Z w
section
variable {P:Program} {B:Base P} {μ μ':Mu} {Z:Hp} {w w':World}
def Lives.mono {x:Blk}{g:G}(h:Lives B μ w x g)(m:μ.le μ'):Lives B μ' w x g:=
 ⟨h.lt,h.es,λd i v l=>let⟨v',f,j⟩:=h.cell d i v l;⟨v',f,j.mono m⟩,h.own,h.iter,h.bld⟩
def Lives.kept {x:Blk}{g:G}(h:Lives B μ w x g)(t:w.heap.size<=w'.heap.size)(j:w'.heap[g.c]?=w.heap[g.c]?)(A:g.it=O .nilFunc->∀k,jj w g.c=O k->w'.heap[k]?=w.heap[k]?):Lives B μ w' x g:=
 ⟨aB h.lt t,h.es,λm i v D=>let⟨v',d,n⟩:=h.cell m i v D;⟨v',(World.cell?_of_block (w:=w) (w':=w') j).trans d,n⟩,λm C=>by
  have⟨d,n,l,e,z,f,r⟩:=h.own m C
  exact⟨d,n,l,e,z,j.trans f,r⟩,λs t=>let⟨d,p,q,f⟩:=h.iter s t;⟨d,p,q,j.trans f⟩,λu=>let⟨d,p,s,q,f,r⟩:=h.bld u;⟨d,p,s,q,f,Xp r j<|A u⟩⟩
def R.same (h:R B μ Z w)(d:w'.heap=w.heap):R B μ Z w':=
 ⟨by rw[d];exact h.base,λb m=>by rw[d];exact h.old b m,h.fresh,λb x f=>let⟨g,j,l⟩:=h.live b x f;⟨g,j,l.kept (by rw[d];exact Nat.le_refl _) (by rw[d]) (λ_ k _=>by rw[d])⟩,h.inj,h.sep.of (λb x g f n=> .inl ⟨x,f,n⟩) (λb x g _ _ _ _=>by unfold jj;rw[d])⟩
theorem R.get (h:R B μ Z w){b:Nat}{x:Blk}{g:G}(d:Z.m b=O x)(n:μ b=O g):Lives B μ w x g:=by
 have⟨f,j,l⟩:=h.live b x d
 grind
def R.buf (h:R B μ Z w){b:Nat}{x:Blk}{g:G}(q:Z.m b=O x)(f:μ b=O g)(j:g.it=O .nilFunc){k:Nat}(l:jj w g.c=O k):B.n<=k/\k<w.heap.size/\k≠g.c:=by
 have⟨_,p,s,_,_,d⟩:=(h.get q f).bld j;exact ai2 d l
def R.stays (h:R B μ Z w){b:Nat}{x:Blk}{g:G}(l:Z.m b=O x)(f:μ b=O g)(r:w.heap.size<=w'.heap.size)(c:Nat)(d: ∀k,k≠c->k<w.heap.size->w'.heap[k]?=w.heap[k]?)(q:g.c≠c)(j:g.it=O .nilFunc->jj w g.c≠O c):Lives B μ w' x g:=
 (h.get l f).kept r (d _ q (h.get l f).lt) λn k p=>d k (λe=>j n<|e▸p) (h.buf l f n p).2.1
def R.kill (h:R B μ Z w)(b:Nat):R B μ (Z.set b Y) w:=by
 have j: ∀f x,(Z.set b Y).m f=O x->Z.m f=O x:=by
  intro f x d;simp only[Hp.set]at d;split at d
  .cases d
  exact d
 exact⟨h.base,h.old,h.fresh,λf x d=>h.live f x<|j _ _ d,λl n x t g p q r=>h.inj l n x t g p (j _ _ q)<|j _ _ r,h.sep.of (λf x g d s=> .inl ⟨x,j _ _ d,s⟩)<|λ_ _ _ _ _ _ _=>rfl⟩
theorem R.add (h:R B μ Z w)(d:Array Value)(e:TypeId)(cells:List Value)(es:Nat)(H:hW cells<=d.size)(S:F2 (VR μ) cells<|d.toList.take<|hW cells):
  R B (μ.add Z.n ⟨w.heap.size,0,d.size,es,e,Y⟩) (Z.add ⟨cells,Za,es⟩) (w.alloc<|.cells d e)/\μ.le (μ.add Z.n ⟨w.heap.size,0,d.size,es,e,Y⟩):=by
 have T:μ Z.n=Y:=h.fresh _<|Nat.le_refl _;have l:μ.le<|μ.add Z.n ⟨w.heap.size,0,d.size,es,e,Y⟩:=Mu.le_add T
 have old: ∀b x,b≠Z.n->(Z.add ⟨cells,Za,es⟩).m b=O x->Z.m b=O x:=by
  intro b x f j;simpa[Hp.add,f]using j
 have J: ∀x,(Z.add ⟨cells,Za,es⟩).m Z.n=O x->x=⟨cells,Za,es⟩:=by
  intro x j;simp[Hp.add]at j;exact j.symm
 have r: ∀b x g,Z.m b=O x->μ b=O g->g.c<w.heap.size:=λb x g j q=>(h.get j q).lt
 refine⟨⟨Nat.le_trans h.base V2,λb f=>(Below.heap_alloc w _ _<|aB f h.base).trans<|h.old b f,λb f=> ?_,λb x j=> ?_,λb A x X g E j u C V q t=> ?_, ?_⟩,l⟩
 .have:Z.n+1<=b:=f;unfold Mu.add;rw[Zh];exact h.fresh b V1
 .by_cases f:b=Z.n
  .subst f;obtain rfl:=J x j;refine⟨⟨w.heap.size,0,d.size,es,e,Y⟩,ZR,⟨V2,rfl,λ_ i v W=> ?_,λ_ _=>⟨h.base,H,d,e,(0,0),heap_alloc_new w _,V2, .inr rfl⟩,λ_ I=>(by cases I),λI=>by cases I⟩⟩;have⟨v',z,s⟩:=S.get i v W
   have F:i<hW cells:=by
    grind
   refine⟨v', ?_,s.mono l⟩;rw[Nat.zero_add,cell_of_row _ _ _ d e (0,0)<|heap_alloc_new w _]
   grind
  .have u:=old b x f j;have⟨g,z,s⟩:=h.live b x u;exact⟨g,l _ _ z,(s.mono l).kept V2 (Below.heap_alloc w _ _ s.lt)<|λF k U=>Below.heap_alloc w _ _ (h.buf u z F U).2.1⟩
 .by_cases f:b=Z.n
  .subst f;have p:A≠Z.n:=λe=>C e.symm
   have:g.c=w.heap.size:=by simp[Mu.add]at q;rw[<-q]
   have s:μ A=O E:=by simpa[Mu.add,p]using t
   grind
  .have z:μ b=O g:=by simpa[Mu.add,f]using q
   have D:=old b x f j;by_cases p:A=Z.n
   .subst p;have:E.c=w.heap.size:=by simp[Mu.add]at t;rw[<-t]
    have:=r b x g D z;omega
   .have s:μ A=O E:=by simpa[Mu.add,p]using t
    exact h.inj b A x X g E D (old _ _ p u) C V z s
 .refine h.sep.of (λb x g j q=> ?_) (λb x g j q F _=> ?_)
  .by_cases f:b=Z.n
   .subst f;have K:g=⟨w.heap.size,0,d.size,es,e,Y⟩:=by simp[Mu.add]at q;exact q.symm
    subst K;exact .inr ⟨λL=>(by cases L),λb1 x1 g1 k z s M Q e=>by have:=(h.buf z s M Q).2.1;simp only at e;omega⟩
   .exact .inl ⟨x,old b x f j,by simpa[Mu.add,f]using q⟩
  .unfold jj;rw[Below.heap_alloc w _ _<|r b x g j q]
theorem R.write1 (h:R B μ Z w){b:Nat}{x:Blk}{g:G}(U:Z.m b=O x)(X:x.own=Za)(F:μ b=O g)(r:g.it=Y)(i:Nat)(K:i<hW x.cells)(hv:VR μ v v'):
  R B μ (Z.set b<|O ⟨x.cells.set i v,x.own,x.es⟩) (w.setCell ⟨g.c,g.o+i,Y⟩ v'):=by
 have T:=h.get U F;have⟨o1,o2,H,e,I,o4,o5,o6⟩:=T.own r X;have n: ∀k,k≠g.c->(w.setCell ⟨g.c,g.o+i,Y⟩ v').heap[k]?=w.heap[k]?:=λk C=>heap_setCell_other w _ k v' (by simpa using C)
 have t:(w.setCell ⟨g.c,g.o+i,Y⟩ v').heap[g.c]?=O (.cells (H.setIfInBounds (g.o+i) v') e I):=TV w g.c (g.o+i) H e I v' o4
 have old: ∀l f,l≠b->(Z.set b<|O ⟨x.cells.set i v,x.own,x.es⟩).m l=O f->Z.m l=O f:=by
  intro l f J d;simpa[Hp.set,J]using d
 have new: ∀f,(Z.set b<|O ⟨x.cells.set i v,x.own,x.es⟩).m b=O f->f=⟨x.cells.set i v,x.own,x.es⟩:=by
  intro f d;simp[Hp.set]at d;exact d.symm
 refine⟨by simpa using h.base,λk C=>(n k V1).trans<|h.old k C,h.fresh,λl f d=> ?_,λb1 b2 x1 x2 g1 g2 A S D L V W=> ?_, ?_⟩
 .by_cases J:l=b
  .subst J;obtain rfl:=new f d;refine⟨g,F,⟨by simpa using T.lt,T.es,λ_ j u hu=> ?_,λ_ _=>⟨o1,by simpa using o2,_,e,I,t,by simpa using o5,by simpa using o6⟩,λs M=>(by rw[r]at M;cases M),λM=>by rw[r]at M;cases M⟩⟩;rw[cell_of_row _ _ _ _ e I t];by_cases hj:j=i
   .subst hj
    grind
   .rw[List.getElem?_set_ne (λe=>hj e.symm)]at hu;have⟨u',A,S⟩:=T.cell r j u hu;refine⟨u', ?_,S⟩;rw[cell_of_row _ _ _ _ e I o4]at A
    grind
  .have z:=old l f J d;have⟨E,A,S⟩:=h.live l f z;refine⟨E,A,h.stays z A V2 g.c (λk C _=>n k C) (λe=>h.inj b l x f g E U z (λe=>J e.symm) X F A e.symm)<|λK C=>((h.sep l f E z A K _ C b x g U F).1 rfl)⟩
 .have q: ∀l f,(Z.set b<|O ⟨x.cells.set i v,x.own,x.es⟩).m l=O f->∃y,Z.m l=O y/\y.own=f.own:=by
   grind
  have⟨y1,hy1,e1⟩:=q _ _ A;have⟨y2,hy2,_⟩:=q _ _ S;exact h.inj b1 b2 y1 y2 g1 g2 hy1 hy2 D (e1.trans L) V W
 .have Q: ∀l f,(Z.set b<|O ⟨x.cells.set i v,x.own,x.es⟩).m l=O f->∃y,Z.m l=O y:=by
   grind
  refine h.sep.of (λl f E d p=> .inl (let⟨y,hy⟩:=Q l f d;⟨y,hy,p⟩))<|λl f E d p K _=> ?_;have D:l≠b:=λe=>by subst e;rw[F]at p;cases p;rw[r]at K;cases K
  unfold jj;rw[n _<|λe=>h.inj b l x f g E U d (λe=>D e.symm) X F p e.symm]
end
end
section
open List renaming getElem?_eq_getElem->aB
open Result renaming andThen_ok->aD
open Go.RowKit
def dw :Operand->Bool
 | .const v=>IE v
 | .global _=>Zb
 |_=>Za
def BD (x:Operand):Option Operand:=if dw x then O x else Y
def aT3 :Option Operand->Option (Option Operand)
 |some x=>(BD x).map O
 |none=>O Y
def lX (P:Program)(t:TypeId):Option Nat:=(P.info? t).map (·.size)
def U0 (P:Program)(t:TypeId):Option Nat:=(P.info? t).map (·.bytes)
def Av :Value->Bool
 | .bool _| .int _ _| .string _| .pointer Y| .slice Y 0 0| .nilFunc| .nilIface=>Za
 |_=>Zb
def pg (P:Program)(t:TypeId):Option<|List Value:=match(P.info? t).bind (·.zero)with
 |some z=>if(cellsOf z).all Av then O (cellsOf z)else Y
 |none=>Y
def B0 (P:Program)(t:TypeId):Option Bool:=match P.underlying t with
 |some (.struct _)|some (.array _ _)=>O Za
 |some _=>O Zb
 |none=>Y
def br5 (P:Program)(t:TypeId):Option Nat:=match P.underlying t with
 |some (.array _ e)=>lX P e
 |_=>O 1
def gq (μ:Mu)(N:Nat)(e:cy)(d:Array Value):Prop:=d.size=N/\∀t,VR μ (e t)<|d.getD t undef
def gq.mono {μ μ':Mu}{d:Array Value}(h:gq μ N e d)(f:μ.le μ'):gq μ' N e d:=⟨h.1,λt=>(h.2 t).mono f⟩
def gq.put {μ:Mu}{f:Array Value}(h:gq μ N e f)(d:Nat)(j:d<N)(l:VR μ v v'):gq μ N (e.put d v)<|f.setIfInBounds d v':=by
 refine⟨by simpa using h.1,λt=> ?_⟩;unfold cy.put;by_cases g:t=d
 .subst g;simp[h.1,j];exact l
 rw[zF g];have:=h.2 t;simpa[Array.getElem?_setIfInBounds_ne (λe=>g e.symm)]using this
def gq.ev {μ:Mu}{a:Act}(h:gq μ N e a.tmps)(d:dw x=Za):VR μ (e.ev x)<|a.eval x:=by
 cases x with
 |tmp t=>exact h.2 t
 |const v=>exact VR.plain d
 |global g=>simp[dw]at d
 |func f=>exact .func .nil .nil
def kO (P:Program)(o:Oper)(a:Act)(w:World)(B:Base P)(μ:Mu)(v:Value)(Z':Hp):Prop:=
 ∃d w' μ' v',(execOp a.eval o).run P w= .ok d w'/\(d= .value v'∨(d= .skip/\v'=undef))/\μ.le μ'/\R B μ' Z' w'/\VR μ' v v'/\Below B w w'
section
variable {P:Program} {o:Oper} {a:Act} {w:World} {B:Base P} {N:Nat} {μ:Mu} {e:cy} {Z Z':Hp} {v:Value}
def kO.same {v':Value}(f:R B μ Z w)(d:(execOp a.eval o).run P w= .ok (.value v') w)(g:VR μ v v'):kO P o a w B μ v Z:=
 ⟨_,w,μ,v',d, .inl rfl,μ.le_refl,f,g,Below.refl _ _⟩
theorem bc (h:BD x=O y):x=y/\dw x=Za:=by
 unfold BD at h
 grind
def gb {t:TypeId}{d:TypeDesc}(h:P.underlying t=O d)(w:World):(underlying t).run P w= .ok d w:=by simp[underlying,h]
def mV {t:TypeId}{n:Nat}(h:lX P t=O n)(w:World):(sizeOf t).run P w= .ok n w:=by
 have⟨i,d,f⟩:=aa.1 h;simp[sizeOf,typeInfo,d,f]
def HB {t:TypeId}(h:B0 P t=O b)(w:World):(isAgg t).run P w= .ok b w:=by
 unfold B0 at h;unfold isAgg;cases f:P.underlying t with
 |none=>simp[f]at h
 |some d=>
  simp only[Sem.run_bind,gb f,aD];cases d<;>simp[f]at h<;>subst h<;>rfl
def mI {t:TypeId}{z:List Value}(h:pg P t=O z): ∃v,(∀w:World,(zeroValue t).run P w= .ok v w)/\cellsOf v=z/\z.all Av=Za:=by
 unfold pg at h;cases d:P.info? t with
 |none=>simp[d]at h
 |some i=>
  cases f:i.zero with
  |none=>simp[d,f]at h
  |some v=>
   simp only[d,f,zG]at h;split at h
   .rename_i g;injection h with h
    exact⟨v,λw=>by simp[zeroValue,typeInfo,d,f],h,h▸g⟩
   cases h
def VR.plainCells {μ:Mu}{z:List Value}(h:z.all Av=Za):F2 (VR μ) z z:=F2.same _ λv d=>VR.plain1 μ v (by
 have:=bo.1 h v d;unfold Av at this
 exact this)
theorem qU (b o n:Nat):(⟨b,o,Y⟩:Addr).add n=⟨b,o+n,Y⟩:=by unfold Addr.add;split<;>simp_all
theorem R.reads {b o:Nat}{x:Blk}{g:G}(t:R B μ Z w)(E:Z.m b=O x)(q:μ.at b g){n:Nat}{cs:List Value}(h:rQ x o n=O cs):
  ∃f,(∀(P:Program) (w':World),w'.heap=w.heap->(loadCells ⟨g.c,g.o+o,Y⟩ n).run P w'= .ok f.toArray w')/\F2 (VR μ) cs f:=by
 unfold rQ at h;split at h
 .rename_i C;cases h;have A:=t.get E q.1
  have d: ∀j,j<n->∃v',w.cell? ⟨g.c,g.o+o+j,Y⟩=O v'/\VR μ (x.cells.getD (o+j) undef) v':=by
   intro j r;have⟨v',l,s⟩:=A.cell q.2 (o+j) (x.cells[o+j]' V1) (aB V1)
   grind
  refine⟨(List.range n).map λj=>(w.cell? ⟨g.c,g.o+o+j,Y⟩).getD undef,λP w' p=> ?_, ?_⟩
  .have:=run_loadCells (P:=P) w' ⟨g.c,g.o+o,Y⟩ n (λj=>(w.cell? ⟨g.c,g.o+o+j,Y⟩).getD undef) (λj r=>by
    rw[qU];have⟨v',l,_⟩:=d j r;have:w'.cell? ⟨g.c,g.o+o+j,Y⟩=w.cell? ⟨g.c,g.o+o+j,Y⟩:=by simp[World.cell?,p]
    rw[this]
    simp[l])
   rw[this]
  .refine F2.of_get _ _ V3 λi u H F D=> ?_
   have z:i<n:=by
    grind
   have⟨v',l,s⟩:=d i z
   simp_all
 .cases h
def R.writes : ∀(vs d:List Value),F2 (VR μ) vs d->(∀v∈vs,one v=Za)->∀(Z:Hp) (w:World) (b o i:Nat) (x:Blk) (g:G),R B μ Z w->Z.m b=O x->x.own=Za->μ.at b g->o+i+hW vs<=hW x.cells->
  ∃w',(∀P:Program,(storeCells ⟨g.c,g.o+o,Y⟩ d i).run P w= .ok () w')/\R B μ (Z.set b<|O ⟨lN x.cells (o+i) vs,x.own,x.es⟩) w'/\Below B w w'
 |[],_,h,_,Z,w,b,o,i,x,g,p,r,q,f,l=>by
  cases h;refine⟨w,λP=>by simp[storeCells], ?_,Below.refl _ _⟩
  have:Z.set b (O ⟨lN x.cells (o+i) [],x.own,x.es⟩)=Z:=by
   unfold Hp.set
   have:(λj=>if j=b then O (⟨lN x.cells (o+i) [],x.own,x.es⟩:Blk)else Z.m j)=Z.m:=by
    funext j
    split
    .rename_i e;subst e;rw[r];rfl
    .rfl
   rw[this]
  rw[this];exact p
 |v::vs,_,h,z,Z,w,b,o,i,x,g,p,r,q,f,l=>by
  cases h with
  |cons D M=>
   rename_i v' d;simp only[List.length_cons]at l;have C:=p.get r f.1;have⟨T,W,E,e,F,U,X,V⟩:=C.own f.2 q;have s:=p.write1 r q f.1 f.2 (o+i) V1 D;have n:v'.oneCell'=Za:=by rw[<-D.one_iff];exact z v V2
   have⟨u,Q,_⟩:=C.cell f.2 (o+i) (x.cells[o+i]' V1)<|aB V1;have t:w.frozen? ⟨g.c,g.o+(o+i),Y⟩=Zb:=OI w _ _ _ _ F U V1 V;have K:(Z.set b<|O ⟨x.cells.set (o+i) v,x.own,x.es⟩).m b=O ⟨x.cells.set (o+i) v,x.own,x.es⟩:=by simp[Hp.set]
   have⟨w',H,A,I⟩:=R.writes vs d M (λy S=>z y (by simp[S])) _ _ b o (i+1) _ g s K q f V3;refine⟨w',λP=> ?_, ?_, ?_⟩
   .have J:(⟨g.c,g.o+o,Y⟩:Addr).add i=⟨g.c,g.o+(o+i),Y⟩:=by rw[qU,Nat.add_assoc]
    simp only[storeCells,Sem.run_bind,J,run_store P w _ v' .plain n,Q,t,Bool.false_eq_true,if_false,aD];exact H P
   .have L:(Z.set b<|O ⟨x.cells.set (o+i) v,x.own,x.es⟩).set b (O ⟨lN (x.cells.set (o+i) v) (o+(i+1)) vs,x.own,x.es⟩)=Z.set b (O ⟨lN x.cells (o+i)<|v::vs,x.own,x.es⟩):=by
     unfold Hp.set
     have:(λj=>if j=b then O (⟨lN (x.cells.set (o+i) v) (o+(i+1)) vs,x.own,x.es⟩:Blk)else if j=b then O ⟨x.cells.set (o+i) v,x.own,x.es⟩else Z.m j)=
       (λj=>if j=b then O (⟨lN x.cells (o+i)<|v::vs,x.own,x.es⟩:Blk)else Z.m j):=by
      funext j
      split<;>simp[lN,Nat.add_assoc]
     simp only[this]
    rw[L]at A;exact A
   .exact((Below.refl B w).setCell T v').trans I
end
end
section
open Go.RowKit
def xu (d:Nat->Option (Nat×Nat)):List (Nat×Operand)->Option (List<|Nat×Nat×Operand)
 |[]=>O []
 |(i,x)::r=>match d i,BD x,xu d r with
  |some (f,n),O x,O r=>O ((f,n,x)::r)
  |_,_,_=>Y
def MR :List Operand->Option (List Operand)
 |[]=>O []
 |x::r=>match BD x,MR r with
  |some x,O r=>O (x::r)
  |_,_=>Y
def J0 (P:Program)(fs:Array Field)(i:Nat):Option<|Nat×Nat:=match fs[i]? with
 |some f=>(lX P f.type).map λn=>(f.offset,n)
 |none=>Y
def XB (P:Program)(f:FuncId):Bool:=match P.funcs[f]? with
 |some d=>d.body.isSome&& !(d.name== "runtime.NumGoroutine")
 |none=>Zb
def Bg (P:Program)(t:TypeId):Option Nat:=match P.underlying t with
 |some .bool=>O 0
 |some (.int _)=>O 1
 |some .string=>O 2
 |_=>Y
def Bh (P:Program):Nat->List Field->Option (List Nat)
 |_,[]=>O []
 |i,f::r=>if f.offset=i/\f.name≠ "_" then match Bg P f.type,Bh P (i+1) r with
  |some k,O d=>O (k::d)
  |_,_=>Y
  else Y
def Ti (P:Program)(t:TypeId):Option<|List Nat:=match P.underlying t with
 |some (.struct fs)=>if P.eqGuardType P.depth t=Zb/\P.stoodInHeld t=Zb then Bh P 0 fs.toList else Y
 |some (.array n e)=>if lX P e=O 1/\P.eqGuardType P.depth t=Zb then(Bg P e).map λk=>List.replicate n k else Y
 |_=>Y
def aQ5 :TypeDesc->Option Nat
 | .bool=>O 0
 | .pointer _=>O 1
 | .slice _=>O 2
 | .func _ _ _=>O 3
 |_=>Y
def WO (P:Program)(op:BinOp)(t:TypeId)(x y:Operand):Option AOp:=
 match P.underlying t with
 |some (.int _)|some .string=>match BD x,BD y with
  |some x,O y=>O (.bin op x y)
  |_,_=>Y
 |some (.struct _)|some (.array _ _)=>match op,Ti P t,BD x,BD y with
  | .eql,O n,O x,O y=>O (.eqCells Zb n x y)
  | .neq,O n,O x,O y=>O (.eqCells Za n x y)
  |_,_,_,_=>Y
 |some d=>match aQ5 d,op,BD x,BD y with
  |some f, .eql,O x,O y=>O (.eqv f Zb x y)
  |some f, .neq,O x,O y=>O (.eqv f Za x y)
  |_,_,_,_=>Y
 |none=>Y
def EU (P:Program)(c:Call):Option AOp:=
 match c.callee with
 | .value (.func f)=>if XB P f then(MR c.args.toList).map (.call f ·)else Y
 | .value (.tmp t)=>(MR c.args.toList).map (.callv (.tmp t) ·)
 | .builtin .append=>match c.args.toList,c.argTypes.toList with
  |[s,x],[l,m]=>match P.underlying l,P.underlying m,BD s,BD x with
   |some (.slice e),O<|.slice _,O s,O x|some (.slice e),O .string,O s,O x=>match lX P e,U0 P e,pg P e with
    |some h,O g,O z=>if hW z=h then O (.append h g s x)else Y
    |_,_,_=>Y
   |some (.slice e),O<|.int _,O s,O x=>match lX P e,U0 P e,pg P e with
    |some h,O g,O z=>if hW z=h/\0<h then O (.appendZ h g z s x)else Y
    |_,_,_=>Y
   |_,_,_,_=>Y
  |_,_=>Y
 | .builtin .copy=>match c.args.toList,c.argTypes.toList with
  |[d,s],j::_=>match P.underlying j,BD d,BD s with
   |some (.slice e),O d,O s=>match lX P e with
    |some h=>O (.copy h d s)
    |none=>Y
   |_,_,_=>Y
  |_,_=>Y
 | .builtin .len=>match c.args.toList,c.argTypes.toList with
  |[x],t::_=>match P.underlying t,BD x with
   |some (.slice _),O x=>O (.len x)
   |_,_=>Y
  |_,_=>Y
 | .builtin .cap=>match c.args.toList,c.argTypes.toList with
  |[x],[t]=>match P.underlying t,BD x with
   |some (.slice _),O x=>O (.capN x)
   |_,_=>Y
  |_,_=>Y
 | .builtin .max=>match c.args.toList with
  |[x,y]=>match BD x,BD y with
   |some x,O y=>O (.most x y)
   |_,_=>Y
  |_=>Y
 | .builtin .min=>match c.args.toList with
  |[x,y]=>match BD x,BD y with
   |some x,O y=>O (.least x y)
   |_,_=>Y
  |_=>Y
 |_=>Y
def WQ (P:Program)(o:Oper):Option AOp:=
 match o.op with
 | .move x| .assign x=>(BD x).map .move
 | .pick c a b=>match BD c,BD a,BD b with
  |some c,O a,O b=>O (.pick c a b)
  |_,_,_=>Y
 | .alloc t=>if JJ P t=Za then(match pg P t with
   |some [.pointer Y, .slice Y 0 0]=>O .newB
   |_=>Y)
  else match br5 P t,pg P t with
  |some q,O z=>O (.alloc q z)
  |_,_=>Y
 | .box t x=>match br5 P t,BD x with
  |some q,O x=>O (.box q x)
  |_,_=>Y
 | .build t g=>match P.underlying t,pg P t with
  |some (.struct fs),O z=>if fs.toList.all λf=>(lX P f.type).isSome then(xu (J0 P fs) g.toList).map (.build z ·)else Y
  |some (.array _ e),O z=>match lX P e with
   |some n=>(xu (λi=>O (i*n,n)) g.toList).map (.build z ·)
   |none=>Y
  |_,_=>Y
 | .buildSlice t m g=>match P.underlying t with
  |some (.slice e)=>match lX P e,pg P e with
   |some n,O z=>if m*n<=16777216/\hW z=n/\0<n then(xu (λi=>O (i*n,n)) g.toList).map (.buildSlice n m z ·)else Y
   |_,_=>Y
  |_=>Y
 | .load _ (.global _)=>O .stuck
 | .load t x=>match B0 P t,BD x with
  |some Za,O x=>(lX P t).map (.loadN · x)
  |some Zb,O x=>O (.load x)
  |_,_=>Y
 | .store t x y=>match lX P t,BD x,BD y with
  |some n,O x,O y=>O (.store n x y)
  |_,_,_=>Y
 | .nilCheck x=>(BD x).map .nilCheck
 | .binOp op t x y _=>WO P op t x y
 | .unOp op _ x=>(BD x).map (.un op ·)
 | .convert s d x=>match P.underlying s,P.underlying d,BD x with
  |some (.int _),O<|.int k,O x=>O (.conv k x)
  |some (.slice t),O .string,O x=>match P.underlying t with
   |some (.int .u8)=>O (.strOf x)
   |_=>Y
  |_,_,_=>Y
 | .makeFunc (.func f) first h=>match MR first.toList,MR h.toList with
  |some u,O A=>O (.mkFunc f u A)
  |_,_=>Y
 | .makeSlice t l c=>match P.underlying t with
  |some (.slice e)=>match lX P e,U0 P e,pg P e,BD l,BD c with
   |some n,O p,O z,O l,O c=>if hW z=n/\0<n then O (.makeSlice n p z l c)else Y
   |_,_,_,_,_=>Y
  |_=>Y
 | .slice t x lo j Y=>match P.underlying t,BD x,aT3 lo,aT3 j with
  |some (.slice e),O x,O lo,O j=>(lX P e).map (.slice · x lo j)
  |some .string,O x,O lo,O j=>O (.sliceStr x lo j)
  |some (.array n e),O x,O lo,O j=>(lX P e).map (.sliceArr · n x lo j)
  |_,_,_,_=>Y
 | .fieldAddr s x i=>match P.underlying s,BD x with
  |some (.struct fs),O x=>match fs[i]? with
   |some f=>match lX P f.type with
    |some n=>if n=0 then Y else O (.off f.offset x)
    |none=>Y
   |none=>Y
  |_,_=>Y
 | .field t x i=>match P.underlying t,BD x with
  |some (.struct fs),O x=>match fs[i]? with
   |some f=>match lX P f.type,B0 P f.type with
    |some n,O b=>O (.fieldV f.offset n b x)
    |_,_=>Y
   |none=>Y
  |_,_=>Y
 | .indexAddr t x i=>match P.underlying t,BD x,BD i with
  |some (.slice e),O x,O i=>(lX P e).map (.idx · x i)
  |some (.array n e),O x,O i=>(lX P e).map (.idxA n · x i)
  |_,_,_=>Y
 | .index t x i=>match P.underlying t,BD x,BD i with
  |some (.array n e),O x,O i=>match lX P e,B0 P e with
   |some s,O b=>O (.indexV n s b x i)
   |_,_=>Y
  |some .string,O x,O i=>O (.indexS x i)
  |_,_,_=>Y
 | .slice t x Y (O j) (O r)=>match P.underlying t,BD x,BD j,BD r with
  |some (.slice d),O x,O j,O r=>if(lX P d).isSome then O (.sliceX x j r)else Y
  |_,_,_,_=>Y
 | .extract x i=>(BD x).map (.extract · i)
 | .call c=>EU P c
 | .makeInterface _ _| .panic _=>O .stuck
 |_=>Y
section
variable {P:Program} {o:Oper} {a:Act} {w:World} {B:Base P} {N:Nat} {μ:Mu} {e:cy} {Z Z':Hp} {v:Value}
def ac0 (ho:o.op= .move x∨o.op= .assign x)(h:dw x=Za)(d:(AOp.move x).run e Z=O (v,Z'))(g:gq μ N e a.tmps)(f:R B μ Z w):kO P o a w B μ v Z':=by
 simp only[AOp.run,hO,hU]at d;obtain⟨rfl,rfl⟩:=d;rcases ho with ho|ho<;>exact .same f (by simp[execOp,ho])<|g.ev h
def VR.bool_inv {v':Value}(h:VR μ (.bool b) v'):v'= .bool b:=by cases h;rfl
def VR.int_inv {n:Int}{v':Value}(h:VR μ (.int k n) v'):v'= .int k n:=by cases h;rfl
def VR.string_inv {s:ByteArray}{v':Value}(h:VR μ (.string s) v'):v'= .string s:=by cases h;rfl
def aT1 {c:Operand}(m:o.op= .pick c x y)(n:dw c=Za)(p:dw x=Za)(q:dw y=Za)(f:(AOp.pick c x y).run e Z=O (v,Z'))(j:gq μ N e a.tmps)(l:R B μ Z w):kO P o a w B μ v Z':=by
 have h:=j.ev n;simp only[AOp.run]at f;split at f
 .rename_i g;rw[g]at h;have d:=h.bool_inv;cases f;exact .same l (by simp[execOp,m,d,asBool]) (j.ev p)
 .rename_i g;rw[g]at h;have d:=h.bool_inv;cases f;exact .same l (by simp[execOp,m,d,asBool]) (j.ev q)
 cases f
def kO.new (h:R B μ Z w)(d:Array Value)(t:TypeId)(cells:List Value)(es:Nat)(v':Value)(j:F2 (VR μ) cells d.toList)
  (g:(execOp a.eval o).run P w= .ok (.value v') (w.alloc<|.cells d t))
  (p:(μ.add Z.n ⟨w.heap.size,0,d.size,es,t,Y⟩).at Z.n ⟨w.heap.size,0,d.size,es,t,Y⟩->VR (μ.add Z.n ⟨w.heap.size,0,d.size,es,t,Y⟩) v v'):kO P o a w B μ v<|Z.add ⟨cells,Za,es⟩:=by
 have f:cells.length=d.size:=by simpa using j.length
 obtain⟨l,m⟩:=h.add d t cells es V1 (by rw[f,<-Array.length_toList,List.take_length];exact j);exact⟨_,_,_,v',g, .inl rfl,m,l,p ⟨ZR,rfl⟩,(Below.refl _ _).alloc h.base _⟩
def aD1 {t:TypeId}{es:Nat}{z:List Value}(n:o.op= .alloc t)(p:pg P t=O z)(f:(AOp.alloc es z).run e Z=O (v,Z'))(m:R B μ Z w):kO P o a w B μ v Z':=by
 have⟨g,j,l,d⟩:=mI p;simp only[AOp.run,hO,hU]at f;obtain⟨rfl,rfl⟩:=f;refine .new m g.cells t z es (.pointer<|O ⟨w.heap.size,0,Y⟩) ?_ ?_ (λh=> .ptr (o:=0) h)
 .have:z=g.cells.toList:=l.symm;rw[this];rw[this]at d;exact VR.plainCells d
 simp[execOp,n,Instr.alloc,j,newVar,newRow]
def bl2 {t:TypeId}{es:Nat}(j:o.op= .box t x)(l:dw x=Za)(d:(AOp.box es x).run e Z=O (v,Z'))(g:gq μ N e a.tmps)(f:R B μ Z w):kO P o a w B μ v Z':=by
 simp only[AOp.run]at d;split at d
 .cases d;refine .new f (a.eval x).cells t _ es (.pointer<|O ⟨w.heap.size,0,Y⟩) (g.ev l).cells ?_ (λh=> .ptr (o:=0) h);simp[execOp,j,Instr.box,newVar,newRow]
 cases d
def VR.ptr_inv {b n:Nat}{v':Value}(h:VR μ (.pointer<|O ⟨b,n,Y⟩) v'): ∃g,μ.at b g/\v'= .pointer (O ⟨g.c,g.o+n,Y⟩):=by
 cases h with
 |ptr h=>exact⟨_,h,rfl⟩
def aS8 {t:TypeId}(z:o.op= .load t x)(A:B0 P t=O Zb)(E:dw x=Za)(d:(AOp.load x).run e Z=O (v,Z'))(s:gq μ N e a.tmps)(j:R B μ Z w):kO P o a w B μ v Z':=by
 have h:=s.ev E;simp only[AOp.run]at d;split at d
 .rename_i b n r;rw[r]at h;have⟨g,l,D⟩:=h.ptr_inv;split at d
  .rename_i m f;obtain⟨u,C,d⟩:=aa.1 d;simp only[hU]at d;obtain⟨rfl,rfl⟩:=d;have⟨F,p,q⟩:=(j.get f l.1).cell l.2 n u C;refine .same j ?_ q;simp[execOp,z,Instr.loadAt,Instr.sureAddr,D,loadVar,HB A,p]
  cases d
 cases d
def aD5 {t:TypeId}{n:Nat}(C:o.op= .load t x)(D:B0 P t=O Za)(A:lX P t=O n)(F:dw x=Za)(d:(AOp.loadN n x).run e Z=O (v,Z'))(u:gq μ N e a.tmps)(l:R B μ Z w):kO P o a w B μ v Z':=by
 have h:=u.ev F;simp only[AOp.run]at d;split at d
 .rename_i b n s;rw[s]at h;have⟨g,z,E⟩:=h.ptr_inv;split at d
  .rename_i m f;obtain⟨H,j,d⟩:=aa.1 d;simp only[hU]at d;obtain⟨rfl,rfl⟩:=d;have⟨p,q,r⟩:=l.reads f z j;refine .same l ?_ (.agg r);simp[execOp,C,Instr.loadAt,Instr.sureAddr,E,loadVar,HB D,mV A,q P w rfl]
  cases d
 cases d
def aD7 {t:TypeId}{n:Nat}(M:o.op= .store t x y)(L:lX P t=O n)(U:dw x=Za)(V:dw y=Za)(d:(AOp.store n x y).run e Z=O (v,Z'))(C:gq μ N e a.tmps)(H:R B μ Z w):kO P o a w B μ v Z':=by
 have h:=C.ev U;have l:=(C.ev V).cells;simp only[AOp.run]at d;split at d
 .rename_i b z I;rw[I]at h;obtain⟨g,K,T⟩:=h.ptr_inv;split at d
  .rename_i s;split at d
   .rename_i q j;unfold CR at d;split at d
    .rename_i A p;split at p
     .rename_i J;obtain⟨m,r,f⟩:=J;injection p with p
      subst p;cases d;obtain⟨w',D,E,F⟩:=R.writes _ _ l (λu S=>bo.1 f u S) Z w b z 0 q g H j m K r;refine⟨.skip,w',μ,undef, ?_, .inr ⟨rfl,rfl⟩,μ.le_refl,E,VR.undef μ,F⟩;have Q:(a.eval y).cells.size=n:=by rw[<-s,l.length];simp
      simp[execOp,M,Instr.storeAt,Instr.sureAddr,T,storeVar,mV L,Q,D]
     cases p
    cases d
   cases d
  cases d
 cases d
def VL (m:o.op= .nilCheck x)(z:dw x=Za)(d:(AOp.nilCheck x).run e Z=O (v,Z'))(t:gq μ N e a.tmps)(l:R B μ Z w):kO P o a w B μ v Z':=by
 have h:=t.ev z;simp only[AOp.run]at d;split at d
 .rename_i b g;cases d;rw[g]at h;generalize j:a.eval x=u at h;cases h with
  |ptr n=>exact .same l (by simp[execOp,m,j]) (.ptr n)
 .rename_i f p q g;cases d;rw[g]at h;generalize j:a.eval x=u at h;cases h with
  |func r s=>exact .same l (by simp[execOp,m,j]) (.func r s)
 cases d
end
end
section
open List renaming getElem?_drop->aB
open Go.RowKit
section
variable {P:Program} {o:Oper} {a:Act} {w:World} {B:Base P} {N:Nat} {μ:Mu} {e:cy} {Z Z':Hp} {v:Value}
def aM4 (op:BinOp)(t:TypeId)(x y z:Value)(h:CK op x y=O z)(w:World)(p q:Operand):
  (eqGuard op t p q x y).run P w= .ok () w/\(binOp op t x y).run P w= .ok z w:=by
 cases x with
 |int k m=>cases y with
  |int r n=>
   simp only[CK]at h;by_cases d:xr op=Za
   .rw[zE d]at h;unfold PD at h;split at h
    .cases h
    .rename_i l;cases op<;>simp[xr]at d<;>simp at h<;>subst h<;>simp[eqGuard,binOp,Op.shift,l]
   .rw[zF d]at h;split at h
    .rename_i j;subst j;cases op<;>simp[xr]at d<;>simp[aa4]at h
     all_goals first
      |(have⟨g,f⟩:=h;subst f;simp[eqGuard,binOp,Op.intDiv,g])
      |(subst h;simp[eqGuard,binOp,Op.intArith,Op.intBits,Op.intCmp])
    .cases h
  |_=>simp[CK]at h
 |string s=>cases y with
  |string u=>
   simp only[CK]at h;split at h
   .cases h
   .rename_i d;cases op<;>simp[xr]at d<;>simp[ad8]at h
    all_goals first
     |(have⟨g,f⟩:=h;subst f;simp[eqGuard,binOp,Op.stringOp];omega)
     |(subst h;simp[eqGuard,binOp,Op.stringOp])
  |_=>simp[CK]at h
 |_=>simp[CK]at h
def aM5 {x y g j z:Value}(h:CK op x y=O z)(d:VR μ x g)(f:VR μ y j):g=x/\j=y:=by
 cases x with
 |int k m=>cases y with
  |int l n=>exact⟨d.int_inv,f.int_inv⟩
  |_=>simp[CK]at h
 |string s=>cases y with
  |string p=>exact⟨d.string_inv,f.string_inv⟩
  |_=>simp[CK]at h
 |_=>simp[CK]at h
def Xo {x y z:Value}(h:CK op x y=O z):VR μ z z:=by
 cases x with
 |int k m=>cases y with
  |int f n=>
   simp only[CK]at h;split at h
   .unfold PD at h;split at h
    .cases h
    cases op<;>simp at h<;>subst h<;>exact .int _ _
   split at h
   .cases op<;>simp[aa4]at h
    all_goals first
     |(have⟨_,d⟩:=h;subst d;exact .int _ _)
     |(subst h;first|exact .int _ _|exact .bool _)
   cases h
  |_=>simp[CK]at h
 |string s=>cases y with
  |string g=>
   simp only[CK]at h;split at h
   .cases h
   cases op<;>simp[ad8]at h
   all_goals first
    |(have⟨_,d⟩:=h;subst d;exact .string _)
    |(subst h;first|exact .string _|exact .bool _)
  |_=>simp[CK]at h
 |_=>simp[CK]at h
def aD2 {t s:TypeId}(m:o.op= .binOp op t x y s)(n:dw x=Za)(p:dw y=Za)(d:(AOp.bin op x y).run e Z=O (v,Z'))(g:gq μ N e a.tmps)(l:R B μ Z w):kO P o a w B μ v Z':=by
 simp only[AOp.run]at d;obtain⟨z,f,d⟩:=aa.1 d;simp only[hU]at d;obtain⟨rfl,rfl⟩:=d;have⟨h,j⟩:=aM5 f (g.ev n)<|g.ev p;refine .same l ?_ (Xo f);have⟨q,r⟩:=aM4 (P:=P) op t _ _ _ f w x y;simp[execOp,m,h,j,q,r]
theorem XD (op:BinOp)(t:TypeId)(d f:Operand)(x y:Value)(g: ¬(x= .nilIface/\y= .nilIface))(h: ∀a b,¬(x= .agg a/\y= .agg b))(w:World):(eqGuard op t d f x y).run P w= .ok () w:=by
 unfold eqGuard
 simp_all
set_option maxHeartbeats 1000000 in
def aO6 {t:TypeId}{d:TypeDesc}{g:Nat}(m:P.underlying t=O d)(f:aQ5 d=O g){x y j l:Value}(h:Vg g x y=O b)(n:VR μ x j)(p:VR μ y l)(w:World):
  (Op.equal t j l).run P w= .ok b w:=by
 unfold Op.equal Op.maxDepth;rw[show(10000:Nat)=9999+1 from rfl,Op.equalIn];simp only[Sem.run_bind,gb m,Result.andThen_ok];cases d<;>simp[aQ5]at f<;>subst f
 all_goals (cases n<;>cases p<;>simp[Vg]at h<;>simp[<-h])
theorem aO7 {s:Nat}{x y f g:Value}(h:Vg s x y=O b)(j:VR μ x f)(r:VR μ y g)(t:TypeId)(d:Bool)(w:World)(n:(Op.equal t f g).run P w= .ok b w):
  (binOp (if d then .neq else .eql) t f g).run P w= .ok (.bool<|b !=d) w/\(∀l m op,(eqGuard op t l m f g).run P w= .ok () w):=by
 refine⟨?_,λl m op=>XD op t l m f g ?_ ?_ w⟩
 .have:binOp (if d then .neq else .eql) t f g=(Op.equal t f g >>=λq=>pure<|.bool (if d then !q else q)):=by
   cases j<;>cases r<;>first
    |(cases d<;>rfl)
    |(unfold Vg at h;split at h<;>simp_all)
  rw[this];cases d<;>simp[n]
 .rintro⟨rfl,rfl⟩;cases j;unfold Vg at h;split at h<;>simp_all
 .rintro p q ⟨rfl,rfl⟩;cases j;unfold Vg at h;split at h<;>simp_all
def aD3 {t D:TypeId}{d:TypeDesc}{p:Nat}{f:Bool}(u:o.op= .binOp op t x y D)(j:op=if f then .neq else .eql)(r:P.underlying t=O d)(s:aQ5 d=O p)(l:dw x=Za)(m:dw y=Za)(g:(AOp.eqv p f x y).run e Z=O (v,Z'))(h:gq μ N e a.tmps)(q:R B μ Z w):kO P o a w B μ v Z':=by
 simp only[AOp.run]at g;obtain⟨b,n,g⟩:=aa.1 g;simp only[hU]at g;obtain⟨rfl,rfl⟩:=g;have z:=aO6 r s n (h.ev l) (h.ev m) w;have⟨A,C⟩:=aO7 n (h.ev l) (h.ev m) t f w z;refine .same q ?_ (.bool _);simp[execOp,u,j,A,C]
def L0 {t:TypeId}{j:Nat}(g:Bg P t=O j){x y l m:Value}(h:ye j x y=O b)(p:VR μ x l)(q:VR μ y m)(d:Nat)(w:World):
  (Op.equalIn (d+1) t l m).run P w= .ok b w:=by
 unfold Bg at g;cases f:P.underlying t with
 |none=>simp[f]at g
 |some n=>
  cases n<;>simp[f]at g<;>subst g
  all_goals
   cases p<;>cases q<;>simp[ye]at h
  .simp[run_equalIn_bool _ _ _ _ _ f,<-h]
  .obtain⟨rfl,rfl⟩:=h;simp[run_equalIn_int _ _ _ _ _ _ _ f]
  .simp[run_equalIn_string _ _ _ _ _ f,<-h]
theorem Dn {t:TypeId}{f:Nat}(d:Bg P t=O f):B0 P t=O Zb:=by
 unfold Bg at d;unfold B0;split at d<;>simp_all
def wR {t:TypeId}(h:B0 P t=O Zb){cs:Array Value}{i:Nat}{v:Value}(d:cs[i]?=O v)(w:World):(part t cs i).run P w= .ok v w:=by
 simp[part,HB h,d]
theorem L3 (w:World)(d:Nat)(xs p:Array Value): ∀(fs:List Field) (i:Nat) (t:List Nat) (l m:List Value) (b:Bool),Bh P i fs=O t->kn t l m=O b->
  F2 (VR μ) l (xs.toList.drop i)->F2 (VR μ) m (p.toList.drop i)->(Op.eqFields (d+1) xs p fs).run P w= .ok b w
 |[],i,t,l,m,b,g,h,_,_=>by
  simp[Bh]at g;subst g;cases l<;>cases m<;>simp[kn]at h;subst h;simp[Op.eqFields]
 |f::fs,i,t,l,m,b,g,h,A,C=>by
  simp only[Bh]at g;split at g
  .rename_i r;split at g
   .rename_i k z u F;cases g;cases l with
    |nil=>simp[kn]at h
    |cons x l=>cases m with
     |nil=>simp[kn]at h
     |cons y m=>
      simp only[kn]at h;have⟨M,D,I⟩:=A.get 0 x rfl;have⟨Q,E,J⟩:=C.get 0 y rfl;rw[aB]at D E;have j:xs[i]?=O M:=by simpa using D
      have n:p[i]?=O Q:=by simpa using E
      have K:F2 (VR μ) l<|xs.toList.drop<|i+1:=by
       have:=A.drop 1
       simp_all
      have L:F2 (VR μ) m<|p.toList.drop<|i+1:=by
       have:=C.drop 1
       simp_all
      have H:=L3 w d xs p fs (i+1) z l m;cases s:ye k x y with
      |none=>simp[s]at h
      |some q=>
       have:=L0 (P:=P) u s I J d w;cases q with
       |true=>
        simp only[s]at h;simp[Op.eqFields,r.2,wR<|Dn u,r.1,j,n,this,H b F h K L]
       |false=>
        simp[s]at h;simp[Op.eqFields,r.2,wR<|Dn u,r.1,j,n,this,<-h]
   .cases g
  .cases g
theorem Vf (w:World)(d:Nat)(e:TypeId)(k:Nat)(f:Bg P e=O k)(xs r:Array Value): ∀(n i:Nat) (l m:List Value) (b:Bool),kn (List.replicate n k) l m=O b->
  F2 (VR μ) l (xs.toList.drop i)->F2 (VR μ) m (r.toList.drop i)->
  (forIn (List.range' i n) ((Y,()):Option Bool×Unit) λj (_:Option Bool×Unit)=>(do
    let a<-part e xs (j*1)
    let c<-part e r (j*1)
    let q<-Op.equalIn (d+1) e a c
    if(!q)=Za then pure (ForInStep.done (O Zb,()))else pure (ForInStep.yield (Y,())):Sem<|ForInStep<|Option Bool×Unit)).run P w= .ok (if b then Y else O Zb,()) w
 |0,i,l,m,b,h,_,_=>by
  cases l<;>cases m<;>simp[kn]at h;subst h;simp
 |n+1,i,l,m,b,h,z,A=>by
  rw[List.replicate_succ]at h;cases l with
  |nil=>simp[kn]at h
  |cons x l=>cases m with
   |nil=>simp[kn]at h
   |cons y m=>
    simp only[kn]at h;have⟨K,C,F⟩:=z.get 0 x rfl;have⟨L,D,H⟩:=A.get 0 y rfl;rw[aB]at C D;have g:xs[i]?=O K:=by simpa using C
    have p:r[i]?=O L:=by simpa using D
    have I:F2 (VR μ) l<|xs.toList.drop<|i+1:=by
     have:=z.drop 1
     simp_all
    have J:F2 (VR μ) m<|r.toList.drop<|i+1:=by
     have:=A.drop 1
     simp_all
    have E:=Vf w d e k f xs r n (i+1) l m;cases s:ye k x y with
    |none=>simp[s]at h
    |some q=>
     have t:=L0 (P:=P) f s F H d w;rw[List.range'_succ,List.forIn_cons];cases q with
     |true=>
      simp only[s]at h;have u:=E b h I J;simp only[Nat.mul_one]at u⊢;simp[wR (Dn f) g,wR (Dn f) p,t,Result.andThen];simpa using u
     |false=>
      simp[s]at h;simp[wR (Dn f) g,wR (Dn f) p,t,<-h]
end
end
section
open Nat renaming add_assoc->aB
open Result renaming andThen_ok->aD
open Go.RowKit
section
variable {P:Program} {o:Oper} {a:Act} {w:World} {B:Base P} {N:Nat} {μ:Mu} {e:cy} {Z Z':Hp} {v:Value}
def VR.agg_inv {p:Array Value}{v':Value}(h:VR μ (.agg p) v'): ∃q,v'= .agg q/\F2 (VR μ) p.toList q.toList:=by
 cases h with
 |agg h=>exact⟨_,rfl,h⟩
def Pt {t:TypeId}{u:List Nat}(d:Ti P t=O u){p q j l:Array Value}(h:kn u p.toList q.toList=O b)(z:F2 (VR μ) p.toList j.toList)(A:F2 (VR μ) q.toList l.toList)(w:World):
  (Op.equal t (.agg j)<|.agg l).run P w= .ok b w/\P.eqGuardType P.depth t=Zb:=by
 unfold Ti at d;unfold Op.equal Op.maxDepth;rw[show(10000:Nat)=9998+1+1 from rfl];cases g:P.underlying t with
 |none=>simp[g]at d
 |some C=>
  cases C<;>simp[g]at d
  case struct fs=>
   have⟨⟨m,r⟩,s⟩:=d;have f:P.fieldsOf t=fs:=by simp[Program.fieldsOf,g]
   rw[run_equalIn_struct w _ t j l (by rw[f,g]) r,f];exact⟨L3 w 9998 j l fs.toList 0 u _ _ b s h (by simpa using z) (by simpa using A),m⟩
  case array n e=>
   have⟨⟨m,r⟩,k,s,D⟩:=d;subst D;refine⟨?_,r⟩;have:=Vf (P:=P) w 9998 e k s j l n 0 _ _ b h (by simpa using z) (by simpa using A);rw[Op.equalIn];simp only[Sem.run_bind,gb g,aD,mV m];cases b<;>simp at this⊢ <;>rw[this]<;>rfl
def EH {t U:TypeId}{m:List Nat}{f:Bool}(z:o.op= .binOp op t x y U)(g:op=if f then .neq else .eql)(u:Ti P t=O m)(D:dw x=Za)(E:dw y=Za)(d:(AOp.eqCells f m x y).run e Z=O (v,Z'))(l:gq μ N e a.tmps)(s:R B μ Z w):kO P o a w B μ v Z':=by
 simp only[AOp.run]at d;split at d
 .rename_i p q A C;obtain⟨b,F,d⟩:=aa.1 d;simp only[hU]at d;obtain⟨rfl,rfl⟩:=d;have h:=l.ev D;have j:=l.ev E;rw[A]at h;rw[C]at j;have⟨M,n,S⟩:=h.agg_inv;have⟨Q,r,T⟩:=j.agg_inv;have⟨H,I⟩:=Pt u F S T w;refine .same s ?_ (.bool _);have J:=λK L=>run_eqGuard_agg (P:=P) w op t K L M Q I
  simp only[execOp,z,n,r,Sem.run_bind,J,aD];cases f<;>simp[g,binOp,H]
 cases d
def bt8 {t:TypeId}{op:UnOp}(j:o.op= .unOp op t x)(m:dw x=Za)(d:(AOp.un op x).run e Z=O (v,Z'))(l:gq μ N e a.tmps)(g:R B μ Z w):kO P o a w B μ v Z':=by
 simp only[AOp.run]at d;obtain⟨z,f,d⟩:=aa.1 d;simp only[hU]at d;obtain⟨rfl,rfl⟩:=d;have h:=l.ev m;generalize e.ev x=u at*;cases u<;>cases op<;>simp[un1]at f
 .subst f;have:=h.bool_inv;exact .same g (by simp[execOp,j,this,Op.unary]) (.bool _)
 .subst f;have:=h.int_inv;exact .same g (by simp[execOp,j,this,Op.unary,Op.intArith]) (.int _ _)
 subst f;have:=h.int_inv;exact .same g (by simp[execOp,j,this,Op.unary,Op.intBits])<|.int _ _
def aS5 {s d:TypeId}{t:IntKind}(p:o.op= .convert s d x)(q:P.underlying s=O (.int t))(l:P.underlying d=O (.int k))(r:dw x=Za)(f:(AOp.conv k x).run e Z=O (v,Z'))(m:gq μ N e a.tmps)(j:R B μ Z w):kO P o a w B μ v Z':=by
 simp only[AOp.run]at f;obtain⟨n,g,f⟩:=aa.1 f;simp only[hU]at f;obtain⟨rfl,rfl⟩:=f;have h:=m.ev r;generalize e.ev x=u at*;cases u<;>simp[bs8]at g;subst g;have:=h.int_inv;exact .same j (by simp[execOp,p,this,convert,gb q,gb l,Conv.intToInt])<|.int _ _
def JD (f:gq μ N e a.tmps): ∀{xs d:List Operand},MR xs=O d->F2 (VR μ) (d.map e.ev) (xs.map a.eval)
 |[],d,h=>by simp[MR]at h;subst h;exact .nil
 |x::xs,d,h=>by
  simp only[MR]at h;split at h
  .rename_i m r g j;cases h;obtain⟨rfl,l⟩:=bc g;exact .cons (f.ev l) (JD f j)
  .cases h
def an6 {f:FuncId}{first d:Array Operand}{xs cs:List Operand}(n:o.op= .makeFunc (.func f) first d)(j:MR first.toList=O xs)(m:MR d.toList=O cs)(h:(AOp.mkFunc f xs cs).run e Z=O (v,Z'))(g:gq μ N e a.tmps)(l:R B μ Z w):kO P o a w B μ v Z':=by
 simp only[AOp.run,hO,hU]at h;obtain⟨rfl,rfl⟩:=h;refine .same l (v':= .func (.func f) (first.map a.eval)<|d.map a.eval) (by simp[execOp,n,Instr.makeFunc]) (.func ?_ ?_)
 .simpa using JD g j
 simpa using JD g m
def bl5 {t:TypeId}{i n:Nat}{f:Field}(u:o.op= .fieldAddr t x i)(z:P.underlying t=O (.struct fs))(r:fs[i]?=O f)(s:lX P f.type=O n)(j:n≠0)(C:dw x=Za)(d:(AOp.off f.offset x).run e Z=O (v,Z'))(p:gq μ N e a.tmps)(l:R B μ Z w):kO P o a w B μ v Z':=by
 have h:=p.ev C;simp only[AOp.run]at d;split at d
 .rename_i b off m;cases d;rw[m]at h;have⟨g,q,A⟩:=h.ptr_inv;refine .same l (v':= .pointer<|O ⟨g.c,g.o+(off+f.offset),Y⟩) ?_ (.ptr q);simp[execOp,u,Instr.fieldAt,gb z,r,A,Instr.sureAddr,fieldPlace,mV s,j,qU,aB]
 cases d
def VR.slice_inv {b n l c:Nat}{v':Value}(h:VR μ (.slice (O ⟨b,n,Y⟩) l c) v'):
  (∃g d,μ.at b g/\l<=c/\c<=d/\n+d*g.es<=g.ext/\v'= .slice (O ⟨g.c,g.o+n,Y⟩) l d)∨(l=0/\c=0/\∃A',v'= .slice (O A') 0 0/\∃g,μ.at b g):=by
 cases h with
 |slice f j m p=>exact .inl ⟨_,_,f,j,m,p,rfl⟩
 |slice0 A' h=>exact .inr ⟨rfl,rfl,A',rfl,_,h⟩
def bl3 {t d:TypeId}{n:Nat}(F:o.op= .indexAddr t x i)(H:P.underlying t=O (.slice d))(E:lX P d=O n)(J:dw x=Za)(C:dw i=Za)(f:(AOp.idx n x i).run e Z=O (v,Z'))(s:gq μ N e a.tmps)(u:R B μ Z w):kO P o a w B μ v Z':=by
 have h:=s.ev J;have r:=s.ev C;simp only[AOp.run]at f;split at f
 .rename_i b q l c k j z D;split at f
  .rename_i p;cases f;rw[z]at h;rw[D]at r;have m:=r.int_inv;rcases h.slice_inv with⟨g,K,A,_,_,_,I⟩|⟨rfl,_⟩
   .refine .same u (v':= .pointer<|O ⟨g.c,g.o+(q+j.toNat*n),Y⟩) ?_ (.ptr A);simp[execOp,F,Instr.indexAt,gb H,I,m,asIntOf,p,mV E,qU,aB]
   omega
  cases f
 cases f
def aS7 {t d:TypeId}{m n:Nat}(F:o.op= .indexAddr t x i)(H:P.underlying t=O (.array m d))(E:lX P d=O n)(J:dw x=Za)(C:dw i=Za)(f:(AOp.idxA m n x i).run e Z=O (v,Z'))(s:gq μ N e a.tmps)(u:R B μ Z w):kO P o a w B μ v Z':=by
 have h:=s.ev J;have r:=s.ev C;simp only[AOp.run]at f;split at f
 .rename_i b q k j z D;split at f
  .rename_i p;cases f;rw[z]at h;rw[D]at r;have l:=r.int_inv;have⟨g,A,I⟩:=h.ptr_inv;refine .same u (v':= .pointer<|O ⟨g.c,g.o+(q+j.toNat*n),Y⟩) ?_ (.ptr A);simp[execOp,F,Instr.indexAt,Instr.sureAddr,gb H,I,l,asIntOf,p,mV E,qU,aB]
  cases f
 cases f
def Wx {t:TypeId}{n i:Nat}(h:B0 P t=O b)(m:lX P t=O n){p q:Array Value}(d:F2 (VR μ) p.toList q.toList){u:Value}
  (f:(if b then O (.agg<|p.extract i<|i+n)else p[i]?)=O u) (w:World): ∃g,(part t q i).run P w= .ok g w/\VR μ u g:=by
 cases b with
 |true=>
  simp at f;subst f;refine⟨.agg<|q.extract i<|i+n,by simp[part,HB h,mV m], .agg ?_⟩;simpa[Array.toList_extract,List.extract_eq_take_drop]using(d.drop i).take n
 |false=>
  simp at f;have⟨g,j,l⟩:=d.get i u Z5;exact⟨g,wR h (by simpa using j) w,l⟩
theorem an3 {t:TypeId}{i n:Nat}{f:Field}(z:o.op= .field t x i)(D:P.underlying t=O (.struct fs))(s:fs[i]?=O f)(u:lX P f.type=O n)(l:B0 P f.type=O b)(E:dw x=Za)(d:(AOp.fieldV f.offset n b x).run e Z=O (v,Z'))(m:gq μ N e a.tmps)(j:R B μ Z w):kO P o a w B μ v Z':=by
 have h:=m.ev E;simp only[AOp.run]at d;split at d
 .rename_i p A;rw[A]at h;have⟨q,C,r⟩:=h.agg_inv
  have:Z'=Z/\(if b then O (.agg<|p.extract f.offset<|f.offset+n)else p[f.offset]?)=O v:=by
   grind
  obtain⟨rfl,g⟩:=this;have⟨I,F,H⟩:=Wx l u r g w;exact .same j (by simp[execOp,z,Instr.field,gb D,s,C,asAgg,F]) H
 cases d
theorem an5 {t d:TypeId}{m n:Nat}(H:o.op= .index t x i)(K:P.underlying t=O (.array m d))(z:lX P d=O n)(D:B0 P d=O b)(L:dw x=Za)(E:dw i=Za)(f:(AOp.indexV m n b x i).run e Z=O (v,Z'))(u:gq μ N e a.tmps)(C:R B μ Z w):kO P o a w B μ v Z':=by
 have h:=u.ev L;have s:=u.ev E;simp only[AOp.run]at f;split at f
 .rename_i p k j I F;rw[I]at h;rw[F]at s;have g:=s.int_inv;have⟨q,J,r⟩:=h.agg_inv;split at f
  .rename_i l
   have:Z'=Z/\(if b then O (.agg<|p.extract (j.toNat*n)<|j.toNat*n+n)else p[j.toNat*n]?)=O v:=by
    grind
   obtain⟨rfl,A⟩:=this;have⟨S,M,Q⟩:=Wx D z r A w;exact .same C (by simp[execOp,H,Instr.index,gb K,J,g,asIntOf,l,mV z,M]) Q
  cases f
 cases f
def an4 {t:TypeId}(z:o.op= .index t x i)(C:P.underlying t=O .string)(D:dw x=Za)(r:dw i=Za)(d:(AOp.indexS x i).run e Z=O (v,Z'))(m:gq μ N e a.tmps)(p:R B μ Z w):kO P o a w B μ v Z':=by
 have h:=m.ev D;have l:=m.ev r;simp only[AOp.run]at d;split at d
 .rename_i s k j A u;rw[A]at h;rw[u]at l;have f:=l.int_inv;have g:=h.string_inv;split at d
  .rename_i n;obtain⟨c,q,d⟩:=aa.1 d;simp only[hU]at d;obtain⟨rfl,rfl⟩:=d;exact .same p (by simp[execOp,z,Instr.index,gb C,g,f,asIntOf,n,q]) (.int _ _)
  cases d
 cases d
def X1 {i:Nat}(q:o.op= .extract x i)(z:dw x=Za)(d:(AOp.extract x i).run e Z=O (v,Z'))(n:gq μ N e a.tmps)(l:R B μ Z w):kO P o a w B μ v Z':=by
 have h:=n.ev z;simp only[AOp.run]at d;split at d
 .rename_i p s;rw[s]at h;generalize t:a.eval x=u at h;cases h with
  |tuple r=>
   obtain⟨c,m,d⟩:=aa.1 d;simp only[hU]at d;obtain⟨rfl,rfl⟩:=d;have⟨A,g,j⟩:=r.get i c (by simpa using m);have f:_:=g;rw[Array.getElem?_toList]at f;exact .same l (by simp[execOp,q,Instr.extract,t,f]) j
 cases d
end
end
section
open List renaming length_cons->bB
open Result renaming andThen_ok->aB
open Sem renaming run_bind->aD
open Go.RowKit
section
variable {P:Program} {o:Oper} {a:Act} {w:World} {B:Base P} {N:Nat} {μ:Mu} {e:cy} {Z Z':Hp} {v:Value}
def Kg (d:Nat): ∀(vs:List Value) (k:Nat) (cells:Array Value),d+k+hW vs<=cells.size->
  ((vs.zipIdx k).foldl (λcs (p:Value×Nat)=>cs.setIfInBounds (d+p.2) p.1) cells).toList=cells.toList.take (d+k)++vs++cells.toList.drop (d+k+hW vs)
 |[],k,cells,_=>by simp
 |v::vs,k,cells,h=>by
  simp only[bB]at h;rw[List.zipIdx_cons,List.foldl_cons,Kg d vs (k+1) _ V3];have f:d+k<hW cells.toList:=by simp;omega
  simp only[Array.toList_setIfInBounds,bB];rw[List.take_set,List.drop_set_of_lt V1,show d+(k+1)=d+k+1 from by omega,List.take_add_one,show d+k+1+hW vs=d+k+(hW vs+1)from by omega]
  have g:(cells.toList.take (d+k)++(cells.toList[d+k]?).toList).set (d+k) v=cells.toList.take (d+k)++[v]:=by
   rw[List.getElem?_eq_getElem f,List.set_append_right _ _ V3];have:d+k-hW (List.take (d+k) cells.toList)=0:=by rw[List.length_take];omega
   rw[this];simp
  rw[g];simp
def Yw (d:Nat)(vs:Array Value)(cells:Array Value)(h:d+vs.size<=cells.size):
  (vs.zipIdx.foldl (λcs (c,j)=>cs.setIfInBounds (d+j) c) cells).toList=cells.toList.take d++vs.toList++cells.toList.drop (d+vs.size):=by
 have:=Kg d vs.toList 0 cells V8;rw[<-Array.foldl_toList,Array.toList_zipIdx];simpa using this
def Ad {g:Nat->Option (Nat×Nat)}(A:gq μ N e a.tmps): ∀(f:List<|Nat×Operand) (d:List<|Nat×Nat×Operand) (z:List Value) (q:Array Value) (cs:List Value),xu g f=O d->
  Gu z (d.map λ(o,s,x)=>(o,s,e.ev x))=O cs->F2 (VR μ) z q.toList->∃h,Instr.fill g q (f.map λ(i,x)=>(i,a.eval x))=O h/\F2 (VR μ) cs h.toList
 |[],d,z,q,cs,l,p,t=>by
  simp[xu]at l;subst l;simp[Gu]at p;subst p;exact⟨q,rfl,t⟩
 |(i,x)::r,d,z,q,cs,l,p,t=>by
  simp only[xu]at l;split at l
  .rename_i u n Q M D E F;injection l with l
   subst l;obtain⟨rfl,K⟩:=bc E;simp only[List.map_cons,Gu]at p;split at p
   .rename_i J;have C:=(A.ev K).cells;have m:(a.eval x).cells.size=n:=by rw[<-J.1,C.length];simp
    have L:z.length=q.size:=by simpa using t.length
    obtain⟨h,H,I⟩:=Ad A r M _ ((a.eval x).cells.zipIdx.foldl (λcs (c,j)=>cs.setIfInBounds (u+j) c) q) cs F p (by
     rw[Yw _ _ _ V1,m]
     exact((t.take _).append C).append<|t.drop _)
    refine⟨h, ?_,I⟩;simp only[List.map_cons,Instr.fill,D,m];rw[zF V3];exact H
   .cases p
  .cases l
theorem Ww {α β:Type}(P:Program)(w:World)(f:α->Sem β)(g:α->β): ∀(l:List α),(∀x∈l,(f x).run P w= .ok (g x) w)->(l.mapM f).run P w= .ok (l.map g) w
 |[],_=>by simp
 |x::l,h=>by
  have:=Ww P w f g l (λy d=>h y (by simp[d]))
  simp_all
theorem MP {t:TypeId}{d:Array<|Nat×Operand}{z:List Value}{r:List<|Nat×Nat×Operand}(K:o.op= .build t d)(M:P.underlying t=O (.struct fs))(Q:pg P t=O z)
  (g:(fs.toList.all λf=>(lX P f.type).isSome)=Za) (L:xu (J0 P fs) d.toList=O r) (j:(AOp.build z r).run e Z=O (v,Z')) (H:gq μ N e a.tmps) (F:R B μ Z w):kO P o a w B μ v Z':=by
 have⟨S,A,s,C⟩:=mI Q;simp only[AOp.run]at j;obtain⟨u,I,j⟩:=aa.1 j;simp only[hU]at j;obtain⟨rfl,rfl⟩:=j;have⟨m,D,E⟩:=Ad H d.toList r z S.cells u L I (s▸VR.plainCells (s▸C))
 have J:(fs.mapM λf=>(do pure (f.offset,<-sizeOf f.type):Sem<|Nat×Nat)).run P w= .ok (fs.map λf=>(f.offset,(lX P f.type).getD 0)) w:=by
  rw[Array.mapM_eq_mapM_toList]
  have:=Ww P w (λf:Field=>(do pure (f.offset,<-sizeOf f.type):Sem<|Nat×Nat)) (λf=>(f.offset,(lX P f.type).getD 0)) fs.toList (λf p=>by
   have:=bo.1 g f p;have⟨n,l⟩:=eL.1 this
   simp[mV l,l])
  simp only[Sem.run_map,this,aB];rw[<-Array.toList_map]
 have q:(λi=>(fs.map λf=>(f.offset,(lX P f.type).getD 0))[i]?)=J0 P fs:=by
  funext i
  unfold J0;rw[Array.getElem?_map];cases T:fs[i]? with
  |none=>rfl
  |some f=>
   have h:f∈fs.toList:=by
    grind
   have⟨n,l⟩:=eL.1<|bo.1 g f h;simp[l]
 refine .same F (v':= .agg m) ?_ (.agg (by simpa using E));simp only[execOp,K,Instr.build,aD,A,aB,gb M,J,q];rw[Array.toList_map];simp only[D];rfl
def O8 {t d:TypeId}{m n:Nat}{f:Array<|Nat×Operand}{z:List Value}{j:List<|Nat×Nat×Operand}(F:o.op= .build t f)(I:P.underlying t=O (.array m d))(E:lX P d=O n)(J:pg P t=O z)
  (H:xu (λi=>O (i*n,n)) f.toList=O j) (g:(AOp.build z j).run e Z=O (v,Z')) (C:gq μ N e a.tmps) (A:R B μ Z w):kO P o a w B μ v Z':=by
 have⟨K,q,l,r⟩:=mI J;simp only[AOp.run]at g;obtain⟨p,D,g⟩:=aa.1 g;simp only[hU]at g;obtain⟨rfl,rfl⟩:=g;have⟨h,s,u⟩:=Ad C f.toList j z K.cells p H D<|l▸VR.plainCells (l▸r);refine .same A (v':= .agg h) ?_ (.agg (by simpa using u));simp only[execOp,F,Instr.build,aD,q,aB,gb I,mV E];rw[Array.toList_map];simp only[s];rfl
theorem PH (z:Array Value)(n:Nat)(j:0<z.size):((Array.range<|n*z.size).map<|λi=>z[i % z.size]!).toList=fh z.toList n:=by
 unfold fh;apply List.ext_getElem?;intro i;have h:hW (List.replicate n z.toList).flatten=n*z.size:=by simp
 by_cases f:i<n*z.size
 .have g:((Array.range<|n*z.size).map<|λi=>z[i % z.size]!).toList[i]?=O (z[i % z.size]'(Nat.mod_lt _ j)):=by
   simp[f,Nat.mod_lt _ j]
  rw[g];clear g;induction n generalizing i with
  |zero=>simp at f
  |succ n p=>
   rw[List.replicate_succ,List.flatten_cons];by_cases d:i<z.size
   .rw[List.getElem?_append_left (by simpa using d)];simp[Nat.mod_eq_of_lt d,d]
   rw[List.getElem?_append_right (by simpa using d)];have l:=p (i-z.size) V2 (by rw[Nat.succ_mul]at f;omega);rw[Array.length_toList,<-l];have m:i % z.size=(i-z.size) % z.size:=by rw[Nat.mod_eq_sub_mod V1]
   simp only[m]
 grind
def Al (z:List Value)(n:Nat):hW (fh z n)=n*hW z:=by simp[fh]
theorem GW {z:List Value}(h:z.all Av=Za)(n:Nat):(fh z n).all Av=Za:=by
 unfold fh
 grind
theorem Qx {t d:TypeId}{f n:Nat}{g:Array<|Nat×Operand}{z:List Value}{l:List<|Nat×Nat×Operand}(ho:o.op= .buildSlice t f g)(hu:P.underlying t=O (.slice d))(hn:lX P d=O n)(hz:pg P d=O z)
  (S:f*n<=16777216) (C:z.length=n) (h0:0<n)
  (hp:xu (λi=>O (i*n,n)) g.toList=O l) (r:(AOp.buildSlice n f z l).run e Z=O (v,Z')) (he:gq μ N e a.tmps) (X:R B μ Z w):kO P o a w B μ v Z':=by
 obtain⟨s,V,K,W⟩:=mI hz;simp only[AOp.run]at r;split at r
 .rename_i E Q;split at r
  .cases r;have I:s.cells.size=n:=by rw[<-C,<-K];simp[cellsOf]
   have H:s.cells.toList=z:=K
   have j: ∀D:Array Value,(f*n=0->D= #[])->(f*n≠0->D=s.cells)->((Array.range<|f*n).map<|λi=>D[i % D.size]!).toList=fh z f:=by
    intro D T U;by_cases q:f*n=0
    .have:f=0:=by
      rcases Nat.mul_eq_zero.1 q with h|h
      .exact h
      .omega
     subst this;simp[fh]
    .rw[U q,<-I,PH _ _ V1,H]
   have J:F2 (VR μ) (fh z f)<|fh z f:=VR.plainCells<|GW W f;obtain⟨u,L,M⟩:=Ad he g.toList l (fh z f) (fh z f).toArray E hp Q (by simpa using J)
   have A:u.size=f*n:=by
    have T:E.length=f*n:=by
     have: ∀(l:List<|Nat×Nat×Value) (x y:List Value),Gu x l=O y->y.length=x.length:=by
      intro l;induction l with
      |nil=>intro x y h;simp[Gu]at h;rw[h]
      |cons p l ih=>
       obtain⟨p1,p2,p3⟩:=p;intro x y h;simp only[Gu]at h
       grind
     rw[this _ _ _ Q,Al,C]
    have:=M.length;simp at this;omega
   refine .new X u d E n (.slice (O ⟨w.heap.size,0,Y⟩) f f) M ?_ (λh=>VR.slice (o:=0) h (Nat.le_refl _) (Nat.le_refl _) (by simp[A]));simp only[execOp,ho,Instr.buildSlice,aD,gb hu,aB,mV hn];rw[Zh];by_cases q:f*n=0
   .have F:=j #[] (λ_=>rfl) (λh=>absurd q h);have m:(Array.range<|f*n).map (λi=>(#[]:Array Value)[i % (#[]:Array Value).size]!)=(fh z f).toArray:=by rw[<-F]
    rw[zE q];simp only[aD,Sem.run_pure,aB,m];rw[Array.toList_map];simp[L,newRow]
   .have F:=j s.cells (λh=>absurd h q)<|λ_=>rfl;have m:(Array.range<|f*n).map (λi=>s.cells[i % s.cells.size]!)=(fh z f).toArray:=by rw[<-F]
    rw[zF q];simp only[V,aD,Sem.run_pure,aB,m];rw[Array.toList_map];simp[L,newRow]
  .cases r
 .cases r
end
end
section
open Bool renaming false_eq_true->cM,or_eq_true->cN
open Nat renaming le_refl->aB,add_assoc->cK,add_mul->cL
open Option renaming map_some->cB,map_none->cD
open Result renaming andThen_ok->aD
open Sem renaming run_bind->bB,run_pure->bD
open Go.RowKit
section
variable {P:Program} {o:Oper} {a:Act} {w:World} {B:Base P} {N:Nat} {μ:Mu} {e:cy} {Z Z':Hp} {v:Value}
def VR.nils_inv {n c:Nat}{v':Value}(h:VR μ (.slice Y n c) v'):v'= .slice Y 0 0/\n=0/\c=0:=by cases h;exact⟨rfl,rfl,rfl⟩
theorem aa6 {x d:Value}{n:Nat}(h:GA x=O n)(f:VR μ x d):GA d=O n:=by
 cases f<;>simp_all [GA]
def ji {b:Builtin}(f:o.op= .call c)(d:c.callee= .builtin b)(w:World):
  ∃cs,(execOp a.eval o).run P w=(builtin b c.argTypes o.type cs<|c.args.map a.eval).run P w:=by
 refine⟨c.args.map λ| .const _=>Za|_=>Zb, ?_⟩;simp only[execOp,f,resolve,d,invoke,bB,bD,aD];rfl
def bf7 {α:Type}{c:Array α}{x:α}(h:c.toList=[x]):c= #[x]:=by rw[<-Array.toList_inj];simpa using h
def N3 {α:Type}{c:Array α}{x y:α}(h:c.toList=[x,y]):c= #[x,y]:=by rw[<-Array.toList_inj];simpa using h
def UU {α:Type}{c:Array α}{x:α}{r:List α}(h:c.toList=x::r):c[0]?=O x:=by rw[<-Array.getElem?_toList,h];rfl
def bl4 {t u:TypeId}{ts:List TypeId}(s:o.op= .call c)(q:c.callee= .builtin .len)(m:c.args.toList=[x])(A:c.argTypes.toList=t::ts)(C:P.underlying t=O (.slice u))
  (D:dw x=Za) (f:(AOp.len x).run e Z=O (v,Z')) (r:gq μ N e a.tmps) (l:R B μ Z w):kO P o a w B μ v Z':=by
 have h:=r.ev D;simp only[AOp.run]at f;split at f
 .rename_i p n F z;cases f;rw[z]at h
  have: ∃j d,a.eval x= .slice j n d:=by
   generalize a.eval x=y at h;cases h<;>exact⟨_,_,rfl⟩
  have⟨j,d,E⟩:=this;have⟨H,g⟩:=ji (P:=P) (a:=a) s q w;refine .same l ?_ (.int .i64 n);simp[g,builtin,Builtin.len_,bf7 m,UU A,E,gb C,goInt]
 .cases f
def aS4 {t u:TypeId}(n:o.op= .call c)(l:c.callee= .builtin .cap)(j:c.args.toList=[x])(r:c.argTypes.toList=[t])(s:P.underlying t=O (.slice u))
  (z:dw x=Za) (d:(AOp.capN x).run e Z=O (v,Z')) (m:gq μ N e a.tmps) (g:R B μ Z w):kO P o a w B μ v Z':=by
 have h:=m.ev z;simp only[AOp.run]at d;split at d
 .rename_i p;cases d;rw[p]at h;have⟨q,_,_⟩:=h.nils_inv;have⟨A,f⟩:=ji (P:=P) (a:=a) n l w;refine .same g ?_ (.int .i64 0);simp[f,builtin,Builtin.cap_,bf7 j,bf7 r,q,gb s,goInt]
 .cases d
def aS9 (u:o.op= .call c)(t:c.callee= .builtin .max)(s:c.args.toList=[x,y])(A:dw x=Za)(C:dw y=Za)(d:(AOp.most x y).run e Z=O (v,Z'))(g:gq μ N e a.tmps)(r:R B μ Z w):kO P o a w B μ v Z':=by
 simp only[AOp.run]at d;obtain⟨z,j,d⟩:=aa.1 d;simp only[hU]at d;obtain⟨rfl,rfl⟩:=d;have h:=g.ev A;have n:=g.ev C;generalize e.ev x=p at*;generalize e.ev y=q at*;cases p<;>cases q<;>simp[YG]at j;subst j;have l:=h.int_inv;have m:=n.int_inv;have⟨D,f⟩:=ji (P:=P) (a:=a) u t w;exact .same r (by simp[f,builtin,Builtin.max_,N3 s,l,m,Builtin.max2])<|.int _ _
def aD4 (u:o.op= .call c)(t:c.callee= .builtin .min)(s:c.args.toList=[x,y])(A:dw x=Za)(C:dw y=Za)(d:(AOp.least x y).run e Z=O (v,Z'))(g:gq μ N e a.tmps)(r:R B μ Z w):kO P o a w B μ v Z':=by
 simp only[AOp.run]at d;obtain⟨z,j,d⟩:=aa.1 d;simp only[hU]at d;obtain⟨rfl,rfl⟩:=d;have h:=g.ev A;have n:=g.ev C;generalize e.ev x=p at*;generalize e.ev y=q at*;cases p<;>cases q<;>simp[Uc]at j;subst j;have l:=h.int_inv;have m:=n.int_inv;have⟨D,f⟩:=ji (P:=P) (a:=a) u t w;exact .same r (by simp[f,builtin,Builtin.min_,N3 s,l,m,Builtin.min2])<|.int _ _
def UZ {y d:Nat}{x:Option Operand}{n:Nat}(p: ∀u,x=O u->dw u=Za)(h:oh y d (x.map e.ev)=O n)(l:gq μ N e a.tmps):
  match x with
  |none=>n=d
  |some u=> ∃k i,a.eval u= .int k i/\0<=i/\i<=y/\n=i.toNat:=by
 cases x with
 |none=>simp[oh]at h;exact h.symm
 |some u=>
  have j:=l.ev<|p u rfl;simp only[cB]at h;unfold oh at h;split at h
  .rename_i k i g;simp only[hO]at g;split at h
   .rename_i f;rw[g]at j;exact⟨k,i,j.int_inv,f.1,f.2,by simpa using h.symm⟩
   .cases h
  .cases h
  .rename_i m;cases m
theorem KP {s:Bool}{ln cap d:Nat}{g:Option Operand}{h l:Nat}(p: ∀u,lo=O u->dw u=Za)(n: ∀u,g=O u->dw u=Za)
  (E:oh cap ln (g.map e.ev)=O h) (F:oh h 0 (lo.map e.ev)=O l) (z:cap<=d) (A:gq μ N e a.tmps) (w:World):
  (Instr.sliceBounds s ln d (lo.map a.eval) (g.map a.eval) Y).run P w= .ok (l,h,d) w:=by
 have j:=UZ n E A;have f:=UZ p F A;unfold Instr.sliceBounds;cases g with
 |none=>
  simp only at j;subst j;cases lo with
  |none=>simp only at f;subst f;simp
  |some u=>
   obtain⟨k,i,m,q,r,rfl⟩:=f;simp[m,Instr.sliceBound,asIntOf,q,r]
 |some K=>
  obtain⟨J,H,t,C,I,rfl⟩:=j;have D:H<=(d:Int):=by omega
  cases lo with
  |none=>simp only at f;subst f;simp[t,Instr.sliceBound,asIntOf,C,D]
  |some u=>
   obtain⟨k,i,m,q,r,rfl⟩:=f;simp only[cB,m,t,Instr.sliceBound,asIntOf,bB,bD,aD]
   simp_all
theorem Oe {y d n:Nat}{x:Option Value}(h:oh y d x=O n):n<=y∨(x=Y/\n=d):=by
 unfold oh at h
 grind
def An {ln cap:Nat}{m:Option Operand}{h l:Nat}(n:ln<=cap)(j:oh cap ln (m.map e.ev)=O h)(f:oh h 0 (lo.map e.ev)=O l):l<=h/\h<=cap:=by
 rcases Oe j with g|⟨_,g⟩
 .rcases Oe f with d|⟨_,d⟩<;>omega
 rcases Oe f with d|⟨_,d⟩<;>omega
theorem aD6 {t d:TypeId}{n:Nat}{V:Option Operand}(ho:o.op= .slice t x lo V Y)(hu:P.underlying t=O (.slice d))(hn:lX P d=O n)(hx:dw x=Za)(X: ∀u,lo=O u->dw u=Za)(U: ∀u,V=O u->dw u=Za)
  (r:(AOp.slice n x lo V).run e Z=O (v,Z')) (he:gq μ N e a.tmps) (I:R B μ Z w):kO P o a w B μ v Z':=by
 have S:=he.ev hx;simp only[AOp.run]at r;split at r
 .rename_i p Q E hp;split at r
  .rename_i hcut;split at r
   .rename_i h K;split at r
    .rename_i l C;cases r;rw[hp]at S
     have z: ∀(T:Option Addr) (f:Nat),a.eval x= .slice T Q f->E<=f->
       (execOp a.eval o).run P w= .ok (.value (.slice (if f=l then T else T.map (·.add (l*n))) (h-l)<|f-l)) w:=by
      intro T f hy W;have hb:=KP (P:=P) (s:=Za) X U K C W he w;simp only[execOp,ho,Instr.sliceAt,bB,gb hu,aD,Instr.slice,hy,cD,hb,mV hn,bD]
     cases p with
     |none=>
      obtain⟨L,rfl,rfl⟩:=S.nils_inv;have:=An (aB _) K C;refine .same I (z _ _ L<|aB _) ?_
      grind
     |some A=>
      generalize L:a.eval x=q at S;cases S with
      |slice j h2 h3 M=>
       rename_i b off f g;have⟨k1,k2⟩:=An h2 K C;refine .same I (z _ _ L h3) ?_;by_cases J:f=l
       .rw[zE J,J,show l-l=0 from by omega,show E-l=0 from by omega,show h-l=0 from by omega];exact .slice0 _ j
       .rw[zF J];simp only[cB,QH,qU];rw[cK];refine .slice j V1 V1 ?_;cases lo with
        |none=>
         have:l=0:=by simpa[oh]using C.symm
         subst this;simpa using M
        |some u=>
         rw[cN]at hcut;rcases hcut with hcut|hcut
         .have:E=0:=by simpa using hcut
          grind
         unfold EE at hcut;simp only at hcut;split at hcut
         .rename_i D m;have F:=(I.get m j.1).es;have H:D.es=n:=by simpa using hcut
          rw[F,H]at M⊢;have:l*n+(f-l)*n=f*n:=by rw[<-cL];congr 1;omega
          omega
         .cases hcut
      |slice0 A' j=>
       have⟨k1,k2⟩:=An (aB _) K C;refine .same I (z _ _ L<|aB _) ?_;have F:l=0:=by omega
       have H:h=0:=by omega
       subst F H;simp only[cB,if_true];exact .slice0 _ j
      |sliceX j M=>
       rename_i b off g;have⟨k1,k2⟩:=An (aB _) K C;refine .same I (z _ _ L<|aB _) ?_;by_cases J:Q=l
       .rw[zE J,J,show l-l=0 from by omega,show h-l=0 from by omega];exact .slice0 _ j
       .rw[zF J];simp only[cB,QH,qU];rw[cK];refine .slice j V1 V1 ?_;cases lo with
        |none=>
         have:l=0:=by simpa[oh]using C.symm
         subst this;simpa using M
        |some u=>
         rw[cN]at hcut;rcases hcut with hcut|hcut
         .have:Q=0:=by simpa using hcut
          omega
         unfold EE at hcut;simp only at hcut;split at hcut
         .rename_i D m;have F:=(I.get m j.1).es;have H:D.es=n:=by simpa using hcut
          rw[F,H]at M⊢;have:l*n+(Q-l)*n=Q*n:=by rw[<-cL];congr 1;omega
          omega
         .cases hcut
      |sliceX0 A' j=>
       have⟨k1,k2⟩:=An (aB _) K C;refine .same I (z _ _ L<|aB _) ?_;have F:l=0:=by omega
       have H:h=0:=by omega
       subst F H;simp only[cB,if_true];exact .slice0 _ j
    .cases r
   .cases r
  .cases r
 .cases r
theorem an7 {t d:TypeId}{C H:Operand}(ho:o.op= .slice t x Y (O C) (O H))(hu:P.underlying t=O (.slice d)){n:Nat}(hn:lX P d=O n)(hx:dw x=Za)(V:dw C=Za)(X:dw H=Za)
  (j:(AOp.sliceX x C H).run e Z=O (v,Z')) (S:gq μ N e a.tmps) (Q:R B μ Z w):kO P o a w B μ v Z':=by
 have J:=S.ev hx;have E:=S.ev V;have F:=S.ev X;simp only[AOp.run]at j;split at j
 .rename_i p ln z hp;split at j
  .rename_i m hm;split at j
   .rename_i h hh;split at j
    .rename_i T;subst T
     have W: ∃km u,e.ev H= .int km u/\0<=u/\u<=z/\h=u.toNat:=by
      unfold oh at hm
      grind
     have⟨km,u,q1,q2,q3,q4⟩:=W
     have U: ∃kh r,e.ev C= .int kh r/\0<=r/\r<=h/\h=r.toNat:=by
      unfold oh at hh
      grind
     have⟨kh,r,r1,r2,r3,r4⟩:=U;rw[q1]at F;rw[r1]at E;have v1:=F.int_inv;have v2:=E.int_inv;rw[hp]at J
     have l: ∀(K:Option Addr) (f:Nat),a.eval x= .slice K ln f->z<=f->
       (execOp a.eval o).run P w= .ok (.value<|.slice K h h) w:=by
      intro K f hy hle;have e1:r=(h:Int):=by omega
      have e2:u=(h:Int):=by omega
      subst e1 e2;have D:h<=f:=by omega
      have hb:(Instr.sliceBounds Za ln f Y (O<|a.eval C)<|O<|a.eval H).run P w= .ok (0,h,h) w:=by
       simp[Instr.sliceBounds,Instr.sliceBound,asIntOf,v1,v2,D]
      simp only[execOp,ho,Instr.sliceAt,bB,gb hu,aD,Instr.slice,hy,cD,cB,hb,mV hn,bD,Nat.zero_mul,Nat.sub_zero]
      congr 3
      split
      .rfl
      .cases K with
       |none=>rfl
       |some A=>simp[Addr.add]
     cases p with
     |none=>
      obtain⟨I,rfl,rfl⟩:=J.nils_inv;cases j;have L:h=0:=by omega
      refine .same Q (l _ _ I<|aB _) ?_;rw[L];exact .nils
     |some A=>
      have⟨b,off,s⟩:=A;cases s with
      |some _=>cases j
      |none=>
       cases j;generalize I:a.eval x=q at J;cases J with
       |slice M h2 h3 h4=>
        rename_i f g;refine .same Q (l _ _ I h3)<|.sliceX M ?_;have:h*g.es<=f*g.es:=Nat.mul_le_mul_right _ V1;omega
       |slice0 A' M=>
        have L:h=0:=by omega
        refine .same Q (l _ _ I<|aB _) ?_;rw[L];exact .sliceX0 _ M
    .cases j
   .cases j
  .cases j
 .cases j
def VN {t:TypeId}{g:Option Operand}(A:o.op= .slice t x lo g Y)(D:P.underlying t=O .string)(E:dw x=Za)(j: ∀u,lo=O u->dw u=Za)(f: ∀u,g=O u->dw u=Za)
  (d:(AOp.sliceStr x lo g).run e Z=O (v,Z')) (m:gq μ N e a.tmps) (p:R B μ Z w):kO P o a w B μ v Z':=by
 have n:=m.ev E;simp only[AOp.run]at d;split at d
 .rename_i s C;split at d
  .rename_i h r;split at d
   .rename_i l z;cases d;rw[C]at n;have q:=KP (P:=P) (s:=Zb) j f r z (aB _) m w;refine .same p (v':= .string<|s.extract l h) ?_ (.string _);simp only[execOp,A,Instr.sliceAt,bB,gb D,aD,Instr.slice,n.string_inv,cD,Option.isSome_none,cM,if_false,q,bD]
   .cases d
  .cases d
 .cases d
def VM {t d:TypeId}{m n:Nat}{z:Option Operand}(S:o.op= .slice t x lo z Y)(U:P.underlying t=O (.array m d))(Q:lX P d=O n)(V:dw x=Za)(A: ∀u,lo=O u->dw u=Za)(r: ∀u,z=O u->dw u=Za)
  (f:(AOp.sliceArr n m x lo z).run e Z=O (v,Z')) (F:gq μ N e a.tmps) (D:R B μ Z w):kO P o a w B μ v Z':=by
 have J:=F.ev V;simp only[AOp.run]at f;split at f
 .rename_i b C T;split at f
  .rename_i K j;split at f
   .rename_i E;split at f
    .rename_i h H;split at f
     .rename_i l I;split at f
      .rename_i M;cases f;rw[T]at J;have⟨g,q,W⟩:=J.ptr_inv;have⟨X,k2⟩:=An (aB _) H I;have L:=KP (P:=P) (s:=Zb) A r H I (aB _) F w;have p:=D.get j q.1;have⟨_,o2,_⟩:=p.own q.2 E.1;refine .same D (v':= .slice (O ⟨g.c,g.o+(C+l*n),Y⟩) (h-l)<|m-l) ?_ (.slice q V1 (aB _) ?_)
       .simp only[execOp,S,Instr.sliceAt,bB,gb U,aD,W,Instr.sureAddr,cD,L,mV Q,bD];rw[Zh,qU,cK]
       .rw[p.es,E.2.1];have:l*n+(m-l)*n=m*n:=by rw[<-cL];congr 1;omega
        omega
      .cases f
     .cases f
    .cases f
   .cases f
  .cases f
 .cases f
def TA {t d:TypeId}{n f:Nat}{z:List Value}(W:o.op= .makeSlice t x y)(X:P.underlying t=O (.slice d))(V:lX P d=O n)(Q:U0 P d=O f)(hz:pg P d=O z)(hx:dw x=Za)(hy:dw y=Za)
  (r:hW z=n) (h0:0<n) (p:(AOp.makeSlice n f z x y).run e Z=O (v,Z')) (J:gq μ N e a.tmps) (M:R B μ Z w):kO P o a w B μ v Z':=by
 have H:=J.ev hx;have I:=J.ev hy;have⟨s,K,F,L⟩:=mI hz;simp only[AOp.run]at p;split at p
 .rename_i k l k' c U S;split at p
  .rename_i j;have⟨c1,c2,c3,c4⟩:=j;cases p;rw[U]at H;rw[S]at I;have v1:=H.int_inv;have v2:=I.int_inv;have⟨i,T,C⟩:=aa.1 Q;have w1:IntKind.i64.wrap l=l:=IntWalk.i64_in _ V1;have w2:IntKind.i64.wrap c=c:=IntWalk.i64_in _ V1;have E:s.cells.size=n:=by rw[<-r,<-F];simp[cellsOf]
   have D:s.cells.toList=z:=F;have q:(fh z c.toNat).toArray.size=c.toNat*n:=by simp[Al,r]
   refine .new M (fh z c.toNat).toArray d (fh z c.toNat) n (.slice (O ⟨w.heap.size,0,Y⟩) l.toNat c.toNat) ?_ ?_ (λh=>VR.slice (o:=0) h V1 (aB _) (by rw[q];simp))
   .simpa using VR.plainCells (GW L _)
   .have ht: ¬((f:Int)*c > 281474976710656):=by omega
    have m: ∀w:World,(typeInfo d).run P w= .ok i w:=λw=>by simp[typeInfo,T]
    simp only[execOp,W,Instr.makeSlice,bB,gb X,aD,v1,v2,asInt,asIntOf,bD,m,C,w1,w2]
    have t1:(Zc (c<0)||Zc ((f:Int)*c > 2 ^ 48))=Zb:=by
     simp;omega
    have t2:(Zc<|l<0)=Zb:=by simp;omega
    have t3:(Zc<|l > c)=Zb:=by simp;omega
    simp only[t1,t2,t3,Bool.or_false,cM,if_false,bB,run_askRoom,aD,mV V];by_cases g:c.toNat*n=0
    .have u:c.toNat=0:=by
      rcases Nat.mul_eq_zero.1 g with h|h
      .exact h
      .omega
     have:(fh z c.toNat)=[]:=by rw[u];rfl
     rw[zE g,this,g];simp[newRow,show Array.range 0= #[]from rfl]
    .rw[zF g]
     have A:(Array.range<|c.toNat*n).map (λi=>s.cells[i % s.cells.size]!)=(fh z c.toNat).toArray:=by
      rw[<-D,<-PH _ _ V1,E]
     simp only[bB,K,bD,aD,A];simp[newRow]
  .cases p
 .cases p
end
end
section
open Bool renaming false_eq_true->cK
open Builtin renaming firstCells->bB,zeroCells->bD,append_->cO,lenOf->cP
open List renaming map_cons->cL,map_nil->cM,map_toArray->cN,length_append->cR,getElem?_eq_getElem->cS
open Nat renaming le_refl->cD,add_mul->cQ,mul_le_mul_right->cT
open Result renaming andThen_ok->aB
open Sem renaming run_bind->aD,run_pure->cB
open Go.RowKit
section
variable {P:Program} {o:Oper} {a:Act} {w w':World} {B:Base P} {N:Nat} {μ:Mu} {e:cy} {Z Z':Hp} {v:Value}
theorem X9 {x:Blk}{o:Nat}{cs:List Value}(h:rQ x o 0=O cs):cs=[]:=by
 unfold rQ at h
 grind
def CN {es n ln:Nat}{x z:Value}{cs:List Value}(r:GA x=O ln)(H:n<=ln)(h:Z.slice es x n=O cs)(F:R B μ Z w)(f:VR μ x z):
  ∃arr:Array Value,(∀w':World,w'.heap=w.heap->(bB es n z).run P w'= .ok arr w')/\F2 (VR μ) cs arr.toList:=by
 unfold Hp.slice at h;split at h
 .rename_i b I l c;simp[GA]at r;subst r;split at h
  .rename_i m;cases h;subst m;rcases f.slice_inv with⟨g,C,q,_,_,_,rfl⟩|⟨rfl,rfl,A',rfl,_⟩
   .exact⟨#[],λ_ _=>by simp[bB,loadCells,loadCellsFrom], .nil⟩
   .exact⟨#[],λ_ _=>by simp[bB,loadCells,loadCellsFrom], .nil⟩
  split at h
  .rename_i A d;rcases f.slice_inv with⟨g,C,q,_,_,_,rfl⟩|⟨rfl,rfl,A',rfl,_⟩
   .obtain⟨j,D,E⟩:=F.reads d q h;exact⟨j.toArray,λw' p=>by simp[bB,D P w' p],E⟩
   omega
  .cases h
 .obtain⟨rfl,_,_⟩:=f.nils_inv;split at h
  .injection h with h
   subst h;exact⟨#[],λ_ _=>by simp[bB], .nil⟩
  .cases h
 .rename_i s;split at h
  case isFalse=>cases h
  cases h;obtain rfl:=f.string_inv;refine⟨_,λ_ _=>by simp only[bB];rfl, ?_⟩;simp only[Array.toList_map]
  exact F2.same _ λu t=>by
   simp only[List.mem_map]at t;obtain⟨c,_,rfl⟩:=t;exact .int _ _
 .cases h
theorem Mm {x y:Blk}{d:Nat}{vs:List Value}(h:CR x d vs=O y):x.own=Za/\d+hW vs<=hW x.cells/\(∀v∈vs,one v=Za)/\y=⟨lN x.cells d vs,x.own,x.es⟩:=by
 unfold CR at h
 grind
theorem aS6 {t d:TypeId}{ts:List TypeId}{n:Nat}(ho:o.op= .call c)(hc:c.callee= .builtin .copy)(ha:c.args.toList=[x,y])(ht:c.argTypes.toList=t::ts)(hu:P.underlying t=O (.slice d))(hn:lX P d=O n)
  (hx:dw x=Za) (hy:dw y=Za) (h:(AOp.copy n x y).run e Z=O (v,Z')) (X:gq μ N e a.tmps) (M:R B μ Z w):kO P o a w B μ v Z':=by
 have m:=X.ev hx;have F:=X.ev hy;have⟨cst,E⟩:=ji (P:=P) (a:=a) ho hc w;simp only[AOp.run]at h;split at h
 .rename_i p s dc hp;rw[hp]at m
  have S: ∃z l,a.eval x= .slice z s l:=by
   generalize a.eval x=q at m;cases m<;>exact⟨_,_,rfl⟩
  have⟨z,l,hq⟩:=S;split at h
  .rename_i H D;have u:=aa6 D F
   have Q:(cP<|a.eval y).run P w= .ok H w:=by
    generalize a.eval y=q at*;cases q<;>simp[GA]at u<;>simp[cP,u]
   split at h
   .rename_i U f;have⟨r,f1,L⟩:=CN (P:=P) D (Nat.min_le_left _ _) f M F
    have head:(execOp a.eval o).run P w=((do
      if let O a:=z then storeCells a r.toList
      pure (goInt<|Nat.min H s):Sem Value).run P w).andThen λv w=> .ok (.value v) w:=by
     simp only[E,builtin,Builtin.copy_,N3 ha,cN,cL,cM,UU ht,hq,aD];have e1:(#[Value.slice z s l,a.eval y]:Array Value)[0]?=O (.slice z s l):=rfl;have e2:(#[Value.slice z s l,a.eval y]:Array Value)[1]?=O (a.eval y):=rfl;simp only[e1,e2,aD,gb hu,aB,Q,mV hn];have K:(bB n (H.min s)<|a.eval y).run P w= .ok r w:=f1 w rfl;simp only[K,aB];rfl
    have I:U=[]->kO P o a w B μ (.int .i64 (min H s:Nat)) Z:=by
     intro j;subst j
     have:r= #[]:=by
      cases A:r.toList with
      |nil=>simpa using A
      |cons _ _=>rw[A]at L;cases L
     subst this;refine .same M ?_ (.int _ _);rw[head];cases z<;>simp[storeCells,goInt]<;>rfl
    split at h
    .rename_i b V;split at h
     .rename_i j
      grind
     .rename_i j;split at h
      .rename_i J C;split at h
       .rename_i W hw;cases h;obtain⟨k1,k2,k3,rfl⟩:=Mm hw;rw[hq]at m;rcases m.slice_inv with⟨g,c',hg,_,_,_,hv⟩|⟨rfl,_⟩
        .injection hv with T hv2 hv3
         subst T;have⟨w',g1,g2,g3⟩:=R.writes _ _ L k3 Z w b V 0 J g M C k1 hg V1;refine⟨_,w',μ, .int .i64 (min H s:Nat), ?_, .inl rfl,μ.le_refl,g2, .int _ _,g3⟩;rw[head];simp[g1,goInt]
        .exfalso;rw[Nat.min_zero]at f;unfold Hp.slice at f;split at f
         .simp at f;exact j f
         .simp at f;exact j f
         .simp at f;exact j f.2
         .cases f
       .cases h
      .cases h
    .split at h
     .rename_i j
      grind
     .cases h
    .cases h
   .cases h
  .cases h
 .cases h
def Jp {arr:Array Value}(h:F2 (VR μ) [] arr.toList):arr= #[]:=by
 cases d:arr.toList with
 |nil=>simpa using d
 |cons _ _=>rw[d]at h;cases h
def UT {st s d:TypeId}{n m:Nat}{z:List Value}(ho:o.op= .call c)(hc:c.callee= .builtin .append)(T:c.args.toList=[x,y])(X:c.argTypes.toList=[st,s])(hu:P.underlying st=O (.slice d))
  (H:(∃q,P.underlying s=O (.slice q))∨P.underlying s=O .string) (V:lX P d=O n) (hb:U0 P d=O m) (hz:pg P d=O z)
  {r:Option Addr} {f j ln:Nat} (W:a.eval x= .slice r f j) (C:GA (a.eval y)=O ln) {arr:Array Value} (t:(bB n ln<|a.eval y).run P w= .ok arr w):
  (f+ln<=j->(execOp a.eval o).run P w=((do
    if let O a:=r then storeCells (a.add<|f*n) arr.toList
    pure (.slice r (f+ln) j):Sem Value).run P w).andThen λv w=> .ok (.value v) w)/\
  (j<f+ln->(f+ln)*m<=140737488355328->f+ln<=9223372036854775807->∀old:Array Value,(bB n f<|.slice r f j).run P w.drew= .ok old w.drew->(bB n ln<|a.eval y).run P w.drew= .ok arr w.drew->
   ∃cap,f+ln<=cap/\∃I:Value,cellsOf I=z/\(execOp a.eval o).run P w= .ok (.value<|.slice (O ⟨w.heap.size,0,Y⟩) (f+ln) cap) (w.drew.alloc<|.cells (old++arr++bD I.cells (cap-(f+ln))) d)):=by
 have⟨cst,l⟩:=ji (P:=P) (a:=a) ho hc w
 have D:(cP<|a.eval y).run P w= .ok ln w:=by
  generalize a.eval y=q at*;cases q<;>simp[GA]at C<;>simp[cP,C]
 have⟨i,hi,A⟩:=aa.1 hb;have g: ∀w:World,(typeInfo d).run P w= .ok i w:=λw=>by simp[typeInfo,hi]
 have L:(#[Value.slice r f j,a.eval y]:Array Value)[0]?=O (.slice r f j):=rfl;have M:(#[Value.slice r f j,a.eval y]:Array Value)[1]?=O (a.eval y):=rfl;have Q:(#[st,s]:Array TypeId)[0]?=O st:=rfl;have S:(#[st,s]:Array TypeId)[1]?=O s:=rfl;refine⟨λu=> ?_,λp h U old F E=> ?_⟩
 .rw[l];rcases H with⟨q,hdd⟩|hdd
  all_goals
   simp only[builtin,cO,N3 T,N3 X,cN,cL,cM,W,L,M,Q,S,aD,gb hu,gb hdd,aB,mV V,cB,cK,if_false,D,Bool.not_false,if_true];rw[zE u];simp only[aD,t,aB];rfl
 .obtain⟨I,z1,z2,z3⟩:=mI hz;refine⟨grownCap w (f+ln) j d,grownCap_ge _ _ _ _,I,z2, ?_⟩;have K:=growslice_fits p h;rw[l];rcases H with⟨q,hdd⟩|hdd
  all_goals
   simp only[builtin,cO,N3 T,N3 X,cN,cL,cM,W,L,M,Q,S,aD,gb hu,gb hdd,aB,mV V,cB,cK,if_false,D,Bool.not_false,if_true];rw[Zh];simp only[aD,g,aB,A,false_or]
   have J: ¬(((f+ln:Nat):Int) > IntKind.i64.max/\m=0):=by
    have:IntKind.i64.max=9223372036854775807:=by decide
    omega
   rw[zF J];simp only[aD,g,aB,A];rw[Zh];simp only[aD,run_choose,Question.forced,cK,if_false,World.drew_eq,aB,g,run_askRoom,F,E,z1,newRow,run_newObj,cB,World.alloc_eq];rfl
def PN (z:Array Value)(n:Nat):(bD z n).size=n*z.size:=by simp[bD]
def EP (Z:Hp)(d:R B μ Z w):R B μ Z w.drew:=d.same rfl
theorem Lq {x:Blk}{o n:Nat}{cs:List Value}(h:rQ x o n=O cs):hW cs=n:=by
 unfold rQ at h
 grind
theorem ap8 {es n:Nat}{x:Value}{cs:List Value}(h:Z.slice es x n=O cs)(g: ∀s,x= .string s->n<=s.size):hW cs=n*es:=by
 unfold Hp.slice at h;split at h
 .split at h
  .rename_i d;injection h with h;subst h d;simp
  split at h
  .exact Lq h
  cases h
 .split at h
  .rename_i d;injection h with h;subst h d;simp
  cases h
 .rename_i s;split at h
  case isFalse=>cases h
  rename_i f;injection h with h
  subst h
  simp_all
 cases h
def GS (g o:Nat)(t:TypeId)(f:Nat×Nat): ∀(vs:List Value) (i:Nat) (d:Array Value) (w:World),w.heap[g]?=O (.cells d t f)->(d.size<=f.1∨f.1=f.2)->o+i+hW vs<=d.size->(∀v∈vs,v.oneCell'=Za)->
  (storeCells ⟨g,o,Y⟩ vs i).run P w= .ok () (w.setRow g (d.toList.take (o+i)++vs++d.toList.drop (o+i+hW vs)).toArray)
 |[],i,d,w,l,_,_,_=>by
  simp only[storeCells,List.append_nil,List.length_nil,Nat.add_zero,List.take_append_drop,Array.toArray_toList];rw[setRow_self w g d t f l];rfl
 |v::h,i,d,w,l,q,m,p=>by
  have r:o+i<d.size:=by simp at m;omega
  have j:w.cell? ⟨g,o+i,Y⟩=O d[o+i]:=by simp[World.cell?,l,r]
  have n:(store ((⟨g,o,Y⟩:Addr).add i) v).run P w= .ok () (w.setRow g<|d.setIfInBounds (o+i) v):=by
   rw[qU,run_store P w _ v _<|p v V2,j];simp[OI w g (o+i) d t f l r q,setCell_eq_setRow w g (o+i) d t f v l]
  have u:=GS g o t f h (i+1) (d.setIfInBounds (o+i) v) (w.setRow g<|d.setIfInBounds (o+i) v) (setRow_heap w g d _ t _ l) eo (by simp at m⊢;omega)<|λx s=>p x (by simp[s]);simp only[storeCells,aD,n,aB,u,setRow_setRow]
  congr 3
  have e:=list_seg_step d.toList (o+i) v h (by simp at m⊢;omega);simpa[Array.toList_setIfInBounds,Nat.add_assoc]using e
theorem R.moved (p:R B μ Z w){b:Nat}{blk:Blk}{g:G}(f:Z.m b=O blk)(l:blk.own=Za)(D:μ.at b g){d n:Nat}{cells:List Value}{z:Array Value}{t:TypeId}{V:Nat×Nat}(hfr:z.size<=V.1∨V.1=V.2)
  (U:w.heap.size=w'.heap.size) (L:w'.heap[g.c]?=O (.cells z t V)) (E: ∀k,k≠g.c->w'.heap[k]?=w.heap[k]?) (hsz:g.o+g.ext<=z.size) (hfit:d+hW cells<=g.ext)
  (hc:F2 (VR μ) cells<|(z.toList.drop<|g.o+d).take<|hW cells):
  R B (μ.add Z.n ⟨g.c,g.o+d,g.ext-d,n,t,Y⟩) ((Z.set b Y).add ⟨cells,Za,n⟩) w'/\μ.le (μ.add Z.n ⟨g.c,g.o+d,g.ext-d,n,t,Y⟩):=by
 have hf:μ Z.n=Y:=p.fresh _<|cD _;have s:μ.le<|μ.add Z.n ⟨g.c,g.o+d,g.ext-d,n,t,Y⟩:=Mu.le_add hf;have hl:=p.get f D.1;have⟨o1,o2,_⟩:=hl.own D.2 l;have hbn:b≠Z.n:=λe=>by have:=D.1;rw[e,hf]at this;cases this
 have old: ∀h x,h≠Z.n->((Z.set b Y).add ⟨cells,Za,n⟩).m h=O x->Z.m h=O x/\h≠b:=by
  intro h x r u;have C:h≠(Z.set b Y).n:=r;simp only[Hp.add,zF C]at u;simp only[Hp.set]at u
  grind
 have new: ∀x,((Z.set b Y).add ⟨cells,Za,n⟩).m Z.n=O x->x=⟨cells,Za,n⟩:=by
  intro x u;have C:Z.n=(Z.set b Y).n:=rfl;simp only[Hp.add,zE C]at u;exact(Option.some.inj u).symm
 refine⟨⟨by rw[<-U];exact p.base,λk hk=>(E k V1).trans<|p.old k hk,λh r=> ?_,λh x u=> ?_,λM Q x x' W g2 u q I ho T H=> ?_, ?_⟩,s⟩
 .have:Z.n+1<=h:=r;unfold Mu.add;rw[Zh];exact p.fresh h V1
 .by_cases r:h=Z.n
  .subst r;obtain rfl:=new x u;refine⟨⟨g.c,g.o+d,g.ext-d,n,t,Y⟩,ZR,⟨by rw[<-U];exact hl.lt,rfl,λ_ i v hv=> ?_,λ_ _=>⟨o1,by simp;omega,z,t,V,L,by simp;omega,hfr⟩,λ_ hs=>(by cases hs),λhs=>by cases hs⟩⟩;have⟨v',F,K⟩:=hc.get i v hv
   have hi:i<hW cells:=by
    grind
   refine⟨v', ?_,K.mono s⟩;rw[cell_of_row _ _ _ z t V L]
   grind
  .obtain⟨q,S⟩:=old h x r u;have⟨J,F,K⟩:=p.live h x q;have I:J.c≠g.c:=λe=>p.inj b h blk x g J f q (λe=>S e.symm) l D.1 F e.symm
   exact⟨J,s _ _ F,(p.stays q F (by rw[U];exact cD _) g.c (λk hk _=>E k hk) I<|λhi hk=>(p.sep h x J q F hi _ hk b blk g f D.1).1 rfl).mono s⟩
 .by_cases r:M=Z.n
  .subst r;have A:Q≠Z.n:=λe=>I e.symm
   have X:W.c=g.c:=by simp[Mu.add]at T;rw[<-T]
   have K:μ Q=O g2:=by simpa[Mu.add,A]using H
   have⟨hx2,C⟩:=old Q x' A q;rw[X];exact p.inj b Q blk x' g g2 f hx2 (λe=>C e.symm) l D.1 K
  .have F:μ M=O W:=by simpa[Mu.add,r]using T
   have⟨hx1,hb1⟩:=old M x r u;by_cases A:Q=Z.n
   .subst A;have X:g2.c=g.c:=by simp[Mu.add]at H;rw[<-H]
    rw[X];exact λe=>p.inj b M blk x g W f hx1 (λe=>hb1 e.symm) l D.1 F e.symm
   .have K:μ Q=O g2:=by simpa[Mu.add,A]using H
    exact p.inj M Q x x' W g2 hx1 (old _ _ A q).1 I ho F K
 .refine p.sep.of (λh x J u j=> ?_) (λh x J u j hi hl'=> ?_)
  .by_cases r:h=Z.n
   .subst r;have X:J=⟨g.c,g.o+d,g.ext-d,n,t,Y⟩:=by simp[Mu.add]at j;exact j.symm
    subst X;exact .inr ⟨λh0=>(by cases h0),λM x1 W k F K h3 h4=>(p.sep M x1 W F K h3 k h4 b blk g f D.1).1⟩
   .exact .inl ⟨x,(old h x r u).1,by simpa[Mu.add,r]using j⟩
  .have S:h≠b:=λe=>by subst e;rw[D.1]at j;cases j;rw[D.2]at hi;cases hi
   unfold jj;rw[E _<|λe=>p.inj b h blk x g J f u (λe=>S e.symm) l D.1 j e.symm]
theorem Mb {d:TypeId}{n by_:Nat}{z:List Value}{p:Option Addr}{f sc ln:Nat}{D:List Value}{arr:Array Value}(hzn:z.length=n)(f2:F2 (VR μ) D arr.toList)(I:D.length=ln*n)
  (hp:e.ev x= .slice p f sc) (hx:dw x=Za) (s:qd n by_ Z p f sc ln D=O (v,Z')) (he:gq μ N e a.tmps) (hR:R B μ Z w)
  (J: ∀{E:Option Addr} {l:Nat},a.eval x= .slice E f l->(f+ln<=l->(execOp a.eval o).run P w=((do
    if let O a:=E then storeCells (a.add<|f*n) arr.toList
    pure (.slice E (f+ln) l):Sem Value).run P w).andThen λv w=> .ok (.value v) w)/\
   (l<f+ln->(f+ln)*by_<=140737488355328->f+ln<=9223372036854775807->∀old:Array Value,(bB n f<|.slice E f l).run P w.drew= .ok old w.drew->
    ∃cap,f+ln<=cap/\∃zz:Value,cellsOf zz=z/\(execOp a.eval o).run P w= .ok (.value<|.slice (O ⟨w.heap.size,0,Y⟩) (f+ln) cap) (w.drew.alloc<|.cells (old++arr++bD zz.cells (cap-(f+ln))) d))):kO P o a w B μ v Z':=by
 have T: ∀{E:Option Addr} {l:Nat} {τ:Hp} {old:List Value} {oa:Array Value},a.eval x= .slice E f l->l<f+ln->(f+ln)*by_<=140737488355328->f+ln<=9223372036854775807->R B μ τ w.drew->old.length=f*n->(bB n f<|.slice E f l).run P w.drew= .ok oa w.drew->F2 (VR μ) old oa.toList->
   kO P o a w B μ (.slice (O ⟨τ.n,0,Y⟩) (f+ln)<|f+ln) (τ.add ⟨old++D,Za,n⟩):=by
  intro E l τ old oa V hlt W X H m q1 q2;obtain⟨_,head⟩:=J V;obtain⟨cap,hcap,zz,hzz,hrun⟩:=head hlt W X oa q1;have hzs:zz.cells.size=n:=by rw[<-hzn,<-hzz];simp[cellsOf]
  have hoal:oa.toList.length=f*n:=by rw[<-q2.length,m]
  have harl:arr.toList.length=ln*n:=by rw[<-f2.length,I]
  have hcs:(oa++arr++bD zz.cells (cap-(f+ln))).size=cap*n:=by
   have hoas:oa.size=f*n:=by simpa using hoal
   have hars:arr.size=ln*n:=by simpa using harl
   rw[Array.size_append,Array.size_append,PN,hzs,hoas,hars,<-cQ,<-cQ]
   congr 1
   omega
  obtain⟨m1,m2⟩:=H.add (oa++arr++bD zz.cells (cap-(f+ln))) d (old++D) n (by rw[cR,m,I,hcs,<-cQ];exact cT _ hcap) (by
   have:((oa++arr++bD zz.cells (cap-(f+ln))).toList).take (old++D).length=oa.toList++arr.toList:=by
    grind
   rw[this]
   exact q2.append f2)
  refine⟨_,_,_,_,hrun, .inl rfl,m2,m1, .slice (o:=0) (g:=⟨w.drew.heap.size,0,_,n,_,Y⟩) ⟨by unfold Mu.add;exact zE rfl,rfl⟩ (cD _) hcap (by simp only[Nat.zero_add];rw[hcs];exact cD _), ?_⟩;exact((Below.refl _ _).drew).alloc hR.base _
 have Q:=he.ev hx;rw[hp]at Q;unfold qd at s;split at s
 .rename_i hfit;split at s
  .rename_i b j
   have F: ∃E l,a.eval x= .slice E f l/\sc<=l/\VR μ (.slice (O ⟨b,j,Y⟩) (f+ln) sc) (.slice E (f+ln) l)/\(D≠[]->∃g,μ.at b g/\E=O ⟨g.c,g.o+j,Y⟩):=by
    rcases Q.slice_inv with⟨g,c',L,K,S,h3,hv⟩|⟨K,S,A',hv,g0,hg0⟩
    .exact⟨_,c',hv,S, .slice L hfit S h3,λ_=>⟨g,L,rfl⟩⟩
    .subst K S;have:ln=0:=by omega
     subst this
     grind
   obtain⟨E,l,V,hle,hvr,hwhere⟩:=F;obtain⟨head,_⟩:=J V;have head:=head V1;split at s
   .rename_i M;cases s;subst M;have:=Jp f2;subst this;refine .same hR ?_ hvr;rw[head];cases E<;>simp[storeCells]
   .rename_i M;split at s
    .rename_i blk C;split at s
     .rename_i blk' hw;cases s;obtain⟨k1,k2,k3,rfl⟩:=Mm hw;obtain⟨g,L,rfl⟩:=hwhere M;obtain⟨w',g1,g2,g3⟩:=R.writes _ _ f2 k3 Z w b (j+f*n) 0 blk g hR C k1 L V1;refine⟨_,w',μ,_, ?_, .inl rfl,μ.le_refl,g2,hvr,g3⟩;rw[head];simp[qU,Nat.add_assoc];simp[g1]
     .cases s
    .cases s
  .split at s
   .rename_i M;obtain⟨M,K,S,h3⟩:=M;cases s;subst K S h3 M;obtain⟨V,_,_⟩:=Q.nils_inv;have:=Jp f2;subst this;obtain⟨head,_⟩:=J V;refine .same hR ?_ .nils;rw[head V1];simp
   .cases s
  .cases s
 .rename_i hfit;split at s
  .rename_i hbig;obtain⟨W,X,hall⟩:=hbig;have hone: ∀u∈D,one u=Za:=λu hu=>bo.1 hall u hu
   split at s
   .rename_i b j;split at s
    .rename_i blk C;split at s
     .rename_i hown;split at s
      .rename_i old r;cases s;have m:=Lq r
       have F: ∃E l,a.eval x= .slice E f l/\sc<=l/\(∃oa:Array Value,(bB n f<|.slice E f l).run P w.drew= .ok oa w.drew/\F2 (VR μ) old oa.toList)/\
         (f+ln<=l->∃g,μ.at b g/\E=O ⟨g.c,g.o+j,Y⟩/\j+l*g.es<=g.ext):=by
        rcases Q.slice_inv with⟨g,c',L,K,S,h3,hv⟩|⟨K,S,A',hv,g0,hg0⟩
        .obtain⟨cs',r1,r2⟩:=(EP Z hR).reads C L r;exact⟨_,c',hv,S,⟨cs'.toArray,by simp[bB,r1 P w.drew rfl],r2⟩,λ_=>⟨g,L,rfl,h3⟩⟩
        .subst K S;rw[Nat.zero_mul]at r;have:=X9 r;subst this;exact⟨_,0,hv,cD _,⟨#[],by simp[bB,loadCells,loadCellsFrom], .nil⟩,λh=>absurd h V1⟩
       obtain⟨E,l,V,hle,⟨oa,q1,q2⟩,hin⟩:=F;by_cases U:f+ln<=l
       .
        obtain⟨head,_⟩:=J V;have head:=head U;obtain⟨g,L,rfl,hext⟩:=hin U;have hlv:=hR.get C L.1;obtain⟨o1,o2,A,t,fr,o3,o4,o5⟩:=hlv.own L.2 hown.1;have hes:g.es=n:=hlv.es.trans hown.2;rw[hes]at hext;have hsum:(f+ln)*n<=l*n:=cT _ U;rw[cQ]at hsum;have harl:arr.toList.length=ln*n:=by rw[<-f2.length,I]
        have hone': ∀u∈arr.toList,u.oneCell'=Za:=by
         intro u hu;obtain⟨i,hi,he'⟩:=List.getElem_of_mem hu;obtain⟨u',K,S⟩:=f2.get i (D[i]'(by rw[I,<-harl];exact hi))<|cS _;rw[cS hi]at K;injection K with K
         rw[<-he',K,<-S.one_iff];exact hone _ (List.getElem_mem _)
        have hst:=GS (P:=P) g.c (g.o+j+f*n) t fr arr.toList 0 A w o3 o5 V1 hone';rw[Nat.add_zero]at hst;have hrow:=setRow_heap w g.c A (A.toList.take (g.o+j+f*n)++arr.toList++A.toList.drop (g.o+j+f*n+arr.toList.length)).toArray t fr o3
        have hold':F2 (VR μ) old<|(A.toList.drop<|g.o+j).take<|f*n:=by
         obtain⟨cs',r1,r2⟩:=hR.reads C L r;refine F2.of_get _ _ (by rw[m];simp;omega) λi u u' hu hu'=> ?_
         have hi:i<f*n:=by
          grind
         unfold rQ at r;split at r
         .injection r with r
          rw[<-r,List.getElem?_take,zE hi,List.getElem?_drop]at hu;obtain⟨u'',K,S⟩:=hlv.cell L.2 (j+i) u hu;rw[cell_of_row _ _ _ A t fr o3]at K
          grind
         .cases r
        have hcells:F2 (VR μ) (old++D)<|((A.toList.take (g.o+j+f*n)++arr.toList++A.toList.drop (g.o+j+f*n+arr.toList.length)).toArray.toList.drop<|g.o+j).take (old++D).length:=by
         have:((A.toList.take (g.o+j+f*n)++arr.toList++A.toList.drop (g.o+j+f*n+arr.toList.length)).toArray.toList.drop<|g.o+j).take (old++D).length=((A.toList.drop<|g.o+j).take<|f*n)++arr.toList:=by
          rw[cR,m,I,List.append_assoc];rw[List.drop_append_of_le_length V3];rw[List.drop_take,show g.o+j+f*n-(g.o+j)=f*n from by omega];have e1:((A.toList.drop<|g.o+j).take<|f*n).length=f*n:=by simp;omega
          grind
         rw[this];exact hold'.append f2
        obtain⟨m1,m2⟩:=R.moved (w':=w.setRow g.c (A.toList.take (g.o+j+f*n)++arr.toList++A.toList.drop (g.o+j+f*n+arr.toList.length)).toArray) (n:=n) hR C hown.1 L (o5.imp (λo5=>by have h9:g.o+j+f*n+arr.toList.length<=A.size:=V1;rw[Array.length_toList]at h9;simp;omega) id) V2 hrow (λk hk=>setRow_other _ _ _ _ hk) V3 (by rw[cR,m,I];omega) hcells;refine⟨_,_,_,_, ?_, .inl rfl,m2,m1, .slice (o:=0) (g:=⟨g.c,g.o+j,g.ext-j,n,t,Y⟩) ⟨ZR,rfl⟩ (cD _) U V3, ?_⟩
        .rw[head];simp only[qU];simp only[aD,hst,aB,cB];rfl
        .refine⟨rfl,rfl,rfl,V2,λk hk=>setRow_other _ _ _ _ V1⟩
       .exact T V V1 W X ((EP Z hR).kill b) m q1 q2
      .cases s
     .cases s
    .cases s
   .split at s
    .rename_i hsl;subst hsl;cases s;obtain⟨V,_,hsc⟩:=Q.nils_inv;subst hsc;have:=T (old:=[]) (oa:= #[]) V V1 W X (EP Z hR) V2 (by simp[bB]) .nil;rw[Nat.zero_add]at this;exact this
    .cases s
   .
    rename_i b j q
    have F: ∃E,a.eval x= .slice E f sc/\f=sc/\(f≠0->∃g,μ.at b g/\E=O ⟨g.c,g.o+j,Y⟩):=by
     generalize V:a.eval x=q' at Q;cases Q with
     |sliceX K S=>exact⟨_,rfl,rfl,λ_=>⟨_,K,rfl⟩⟩
     |sliceX0 A' K=>exact⟨_,rfl,rfl,λh=>(h rfl).elim⟩
    obtain⟨E,V,hsc,hgo⟩:=F;have H:=EP Z hR;split at s
    .rename_i hsl;cases s;have:=T (old:=[]) (oa:= #[]) V V1 W X H (by rw[hsl];simp) (by rw[hsl];cases E<;>simp[bB,loadCells,loadCellsFrom]) .nil
     grind
    .rename_i hsl;split at s
     .rename_i blk C;split at s
      .split at s
       .rename_i old r;cases s;obtain⟨g,L,rfl⟩:=hgo hsl;obtain⟨cs',r1,r2⟩:=H.reads C L r;exact T (oa:=cs'.toArray) V V1 W X H (Lq r) (by simp[bB,r1 P w.drew rfl]) r2
       .cases s
      .cases s
     .cases s
  .cases s
def Rn {st F d:TypeId}{n j:Nat}{z:List Value}(X:o.op= .call c)(V:c.callee= .builtin .append)(T:c.args.toList=[x,y])(ht:c.argTypes.toList=[st,F])(hu:P.underlying st=O (.slice d))
  (A:(∃q,P.underlying F=O (.slice q))∨P.underlying F=O .string) (W:lX P d=O n) (U:U0 P d=O j) (hz:pg P d=O z) (C:hW z=n)
  (hx:dw x=Za) (hy:dw y=Za) (h:(AOp.append n j x y).run e Z=O (v,Z')) (J:gq μ N e a.tmps) (I:R B μ Z w):kO P o a w B μ v Z':=by
 have r:=J.ev hy;simp only[AOp.run]at h;split at h
 .rename_i p sl sc hp;split at h
  .rename_i ln f;have m:=aa6 f r;split at h
   .rename_i D g;have⟨K,H,M⟩:=CN (P:=P) f (cD _) g I r;have L:=H w rfl;have u:=H w.drew rfl;have t:=A
    have l:hW D=ln*n:=ap8 g λs hs=>by
     rw[hs]at f;simp[GA]at f;omega
    exact Mb C M l hp hx h J I λhq=>by
     have⟨Q,S⟩:=UT X V T ht hu t W U hz hq m L;exact⟨Q,λq1 q2 q3 E q4=>S q1 q2 q3 E q4 u⟩
   .cases h
  .cases h
 .cases h
theorem SY {st I d:TypeId}{n s:Nat}{z:List Value}(ho:o.op= .call c)(hc:c.callee= .builtin .append)(ha:c.args.toList=[x,y])(ht:c.argTypes.toList=[st,I])(hu:P.underlying st=O (.slice d))
  (M: ∃q,P.underlying I=O (.int q)) (hn:lX P d=O n) (hb:U0 P d=O s) (hz:pg P d=O z) (S:hW z=n) (h0:0<n)
  {C:Option Addr} {g m:Nat}  {l:Int} (hq:a.eval x= .slice C g m) (hl:a.eval y= .int k l) (l0:0<=l) (l1:l<=9223372036854775807) (l2:l*s<=281474976710656):
  (g+l.toNat<=m->(execOp a.eval o).run P w=((do
    if let O a:=C then storeCells (a.add<|g*n) (fh z l.toNat).toArray.toList
    pure (.slice C (g+l.toNat) m):Sem Value).run P w).andThen λv w=> .ok (.value v) w)/\
  (m<g+l.toNat->(g+l.toNat)*s<=140737488355328->g+l.toNat<=9223372036854775807->∀old:Array Value,(bB n g<|.slice C g m).run P w.drew= .ok old w.drew->
   ∃cap,g+l.toNat<=cap/\∃D:Value,cellsOf D=z/\(execOp a.eval o).run P w= .ok (.value<|.slice (O ⟨w.heap.size,0,Y⟩) (g+l.toNat) cap) (w.drew.alloc<|.cells (old++(fh z l.toNat).toArray++bD D.cells (cap-(g+l.toNat))) d)):=by
 have⟨cst,r⟩:=ji (P:=P) (a:=a) ho hc w;have⟨i,hi,A⟩:=aa.1 hb;have f: ∀w:World,(typeInfo d).run P w= .ok i w:=λw=>by simp[typeInfo,hi]
 have U:(#[Value.slice C g m,Value.int k l]:Array Value)[0]?=O (.slice C g m):=rfl;have V:(#[Value.slice C g m,Value.int k l]:Array Value)[1]?=O (.int k l):=rfl;have W:(#[st,I]:Array TypeId)[0]?=O st:=rfl;have X:(#[st,I]:Array TypeId)[1]?=O I:=rfl;have⟨D,z1,T,z3⟩:=mI hz;have⟨q,E⟩:=M;have w1:IntKind.i64.wrap l=l:=IntWalk.i64_in _ V1;have hzs:D.cells.size=n:=by rw[<-S,<-T];simp[cellsOf]
 have Q:D.cells.toList=z:=T
 have p: ∀w:World,((if l.toNat*n=0 then pure #[]else do pure (bD (<-zeroValue d).cells l.toNat)):Sem<|Array Value).run P w= .ok (fh z l.toNat).toArray w:=by
  intro w;by_cases t:l.toNat*n=0
  .have K:l.toNat=0:=by
    rcases Nat.mul_eq_zero.1 t with h|h
    .exact h
    .omega
   have:(fh z l.toNat)=[]:=by rw[K];rfl
   rw[zE t,this];simp
  .rw[zF t]
   have hcc:bD D.cells l.toNat=(fh z l.toNat).toArray:=by
    unfold bD;rw[<-Q,<-PH _ _ V1]
   simp_all
 refine⟨λF=> ?_,λu j hmax old H=> ?_⟩
 .rw[r];simp only[builtin,cO,N3 ha,N3 ht,cN,cL,cM,hq,hl,U,V,W,X,aD,gb hu,gb E,aB,mV hn,cB,cK,if_false,asInt,asIntOf,w1,Bool.not_true,if_true];rw[Zh];simp only[aD,f,aB,A];rw[Zh];simp only[aD,cB,aB];rw[zE F];simp only[aD,p,aB];rfl
 .refine⟨grownCap w (g+l.toNat) m d,grownCap_ge _ _ _ _,D,T, ?_⟩;have L:=growslice_fits u j;rw[r];simp only[builtin,cO,N3 ha,N3 ht,cN,cL,cM,hq,hl,U,V,W,X,aD,gb hu,gb E,aB,mV hn,cB,cK,if_false,asInt,asIntOf,w1,Bool.not_true,if_true];rw[Zh];simp only[aD,f,aB,A];rw[Zh];simp only[aD,cB,aB];rw[Zh];simp only[aD,f,aB,true_or,and_true]
  have J: ¬((g+l.toNat:Nat):Int) > IntKind.i64.max:=by
   have:IntKind.i64.max=9223372036854775807:=by decide
   omega
  rw[zF J];simp only[aD,f,aB,A];rw[Zh];simp only[aD,run_choose,Question.forced,cK,if_false,World.drew_eq,aB,f,run_askRoom,H,p,z1,newRow,run_newObj,cB,World.alloc_eq];rfl
def X0 {st A d:TypeId}{n j:Nat}{z:List Value}(J:o.op= .call c)(H:c.callee= .builtin .append)(E:c.args.toList=[x,y])(M:c.argTypes.toList=[st,A])(Q:P.underlying st=O (.slice d))
  (s: ∃q,P.underlying A=O (.int q)) (I:lX P d=O n) (F:U0 P d=O j) (u:pg P d=O z) (g:hW z=n) (C:0<n)
  (S:dw x=Za) (T:dw y=Za) (h:(AOp.appendZ n j z x y).run e Z=O (v,Z')) (t:gq μ N e a.tmps) (D:R B μ Z w):kO P o a w B μ v Z':=by
 have m:=t.ev T;have⟨zz,z1,z2,V⟩:=mI u;simp only[AOp.run]at h;split at h
 .rename_i p X W k l K L;split at h
  .rename_i f;rw[L]at m;have U:=m.int_inv;refine Mb (d:=d) (arr:=(fh z l.toNat).toArray) g (by simpa using VR.plainCells (GW V _)) (by simp[Al,g]) K S h t D λr=> ?_
   exact SY J H E M Q s I F u g C r U f.1 f.2.1 f.2.2
  .cases h
 .cases h
end
end
end Go.Ab
