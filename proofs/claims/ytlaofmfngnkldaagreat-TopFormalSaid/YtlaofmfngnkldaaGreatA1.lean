/- A part of the proof. No condition. -/
import Derived.Calls
import Derived.RowKit
import Derived.WalkKit
import Derived.Lib.ItoaMem
import Derived.Lib.FrozenHead
import Derived.DeepKeys3
set_option linter.all false
namespace Go.Ab
open Option renaming some->O,none->Z
open Bool renaming true->Za,false->Zb
open Decidable renaming decide->Zc
open List renaming all_eq_true->aG
open Option renaming map_eq_some_iff->aC
open List renaming length->b8
open Option renaming bind->bA
open Option.some renaming injEq->aZ
open Prod.mk renaming injEq->b7
theorem V1{p:Prop}(h:p:=by omega):p:=h
theorem V2{p:Prop}(h:p:=by simp):p:=h
theorem V3{p:Prop}(h:p:=by kernel_rfl):p:=h
theorem V4{p:Prop}(h:p:=by simp;omega):p:=h
theorem V5{p:Prop}(h:p:=by decide):p:=h
theorem V6{p:Prop}(h:p:=by simpa using h):p:=h
theorem V7{p:Prop}(h:p:=by simpa using d):p:=h
theorem V8{p:Prop}(h:p:=by rw[show c.sz 4=max c.R.toNat c.Q.toNat from rfl];omega):p:=h
theorem V9{p:Prop}(h:p:=by rw[Bk (by omega) (by omega)];simp):p:=h
theorem Z0{p:Prop}(h:p:=by simp[Mu.add]):p:=h
theorem Z1{p:Prop}(h:p:=by rw[h];decide):p:=h
theorem Z2{p:Prop}(h:p:=by injection d with d;cases d):p:=h
theorem Z3{p:Prop}(h:p:=by rw[Bj (by omega) f.1];simp):p:=h
theorem Z4{p:Prop}(h:p:=by rw[f]at d;injection d with d;cases d):p:=h
theorem Z5{p:Prop}(h:p:=by rw[bw];omega):p:=h
theorem Z6{p:Prop}(h:p:=by rw[cD,show c.sz 5=c.X.length from rfl];omega):p:=h
theorem Z7{p:Prop}(h:p:=by cases u):p:=h
theorem Z8{p:Prop}(h:p:=by simp[DSt.push]):p:=h
theorem Z9{p:Prop}(h:p:=by rw[aD];omega):p:=h
theorem ZA{p:Prop}(h:p:=by rw[show c.sz 1=c.X.length from rfl,g];have:=n.xtR;simp;omega):p:=h
theorem ZB{p:Prop}(h:p:=by rw[bw];exact aB _):p:=h
theorem ZC{p:Prop}(h:p:=by rw[t]at j;injection j with j;cases j):p:=h
theorem ZD{p:Prop}(h:p:=by rw[q]at r;injection r with r;cases r):p:=h
theorem ZE{p:Prop}(h:p:=by injection e with e;simpa using congrArg Array.toList e):p:=h
theorem ZF{p:Prop}(h:p:=by rw[q];exact g):p:=h
theorem ZG{p:Prop}(h:p:=by simp[enc]):p:=h
theorem ZH{p:Prop}(h:p:=by unfold jL;omega):p:=h
theorem ZI{p:Prop}(h:p:=by rw[d];simp[Fo.src]):p:=h
theorem ZJ{p:Prop}(h:p:=by simp[kM,wanted,bp,AOp.run,bj.ev,bj.putO,bj.put]):p:=h
theorem ZK{p:Prop}(h:p:=by rw[A]at u;cases u):p:=h
theorem ZL{p:Prop}(h:p:=by simp only[jz,iI];grind):p:=h
theorem ZM{p:Prop}(h:p:=by rw[r];rfl):p:=h
theorem ZN{p:Prop}(h:p:=by rw[show c.sz 2=c.R.toNat from rfl];exact aD v):p:=h
theorem ZO{p:Prop}(h:p:=by rw[show c.sz 3=c.Q.toNat from rfl];exact aD d):p:=h
theorem ZP{p:Prop}(h:p:=by rw[bD,show c.sz 1=c.X.length from rfl];omega):p:=h
theorem ZQ{p:Prop}(h:p:=by have:c.off 0+c.sz 0=0+c.T.length:=rfl;omega):p:=h
theorem ZR{p:Prop}(h:p:=by cases D):p:=h
theorem ZS{p:Prop}(h:p:=by simp only[jz];grind):p:=h
theorem ZT{p:Prop}(h:p:=by simp only[iI];omega):p:=h
theorem ZU{p:Prop}(h:p:=by have:=n.n;have:=n.m;omega):p:=h
theorem ZV{p:Prop}(h:p:=by split at o<;>omega):p:=h
theorem ZW{p:Prop}(h:p:=by rw[q]at t;cases t):p:=h
theorem ZX{p:Prop}(h:p:=by rw[L];exact J):p:=h
theorem ZY{p:Prop}(h:p:=by rw[u]at A;injection A with A;cases A):p:=h
theorem ZZ{p:Prop}(h:p:=by assumption):p:=h
theorem Zl{p:Prop}(h:p:=by intro e;injection e with e;exact j e):p:=h
theorem Zm{p:Prop}(h:p:=by show next<=next+1;omega):p:=h
theorem Zn{p:Prop}(h:p:=by simp[Fo.src]):p:=h
theorem Zo{p:Prop}(h:p:=by rw[jq];exact hd):p:=h
theorem Zp{p:Prop}(h:p:=by rw[f];rfl):p:=h
theorem Zq{p:Prop}(h:p:=by rw[g];rfl):p:=h
theorem Zr{p:Prop}(h:p:=by rw[Fo.code_len];omega):p:=h
theorem Zs{p:Prop}(h:p:=by unfold sp;omega):p:=h
theorem Zt{p:Prop}(h:p:=by simp[isAgg,hu]):p:=h
theorem Zu{p:Prop}(h:p:=by rw[pJ,A];exact aB _):p:=h
theorem Zv{p:Prop}(h:p:=by simp only[aD];omega):p:=h
theorem Zw{p:Prop}(h:p:=by simp[AU]):p:=h
theorem Zx{p:Prop}(h:p:=by rw[p];simp):p:=h
theorem Zy{p:Prop}(h:p:=by rw[d];simp):p:=h
theorem Zz{p:Prop}(h:p:=by simpa using u):p:=h
theorem aO{p:Prop}(h:p:=by rw[d];simp[y]):p:=h
theorem aP{p:Prop}(h:p:=by rw[Cx.P_len];omega):p:=h
theorem aQ{p:Prop}(h:p:=by simp[d]):p:=h
theorem aR{p:Prop}(h:p:=by cases d):p:=h
theorem aS{p:Prop}(h:p:=by cases X):p:=h
theorem aT{p:Prop}(h:p:=by simp[Hp.set]):p:=h
theorem aU{p:Prop}(h:p:=by simp[ou,jz]):p:=h
theorem aV{p:Prop}(h:p:=by simp[mb]):p:=h
theorem aW{p:Prop}(h:p:=by simp[hp]):p:=h
theorem aX{p:Prop}(h:p:=by cases h):p:=h
theorem aY{p:Prop}(h:p:=by simp[g]):p:=h
abbrev Zd:=List Int
universe uU
def zA {p:Prop}{i:Decidable p}(h:¬p):@decide p i=Zb:=decide_eq_false h
def Ze {p:Prop}{i:Decidable p}(h:¬p:=by omega):@decide p i=Zb:=zA h
def zB {p:Prop}{i:Decidable p}(h:p):@decide p i=Za:=decide_eq_true h
def Zf {p:Prop}{i:Decidable p}(h:p:=by omega):@decide p i=Za:=zB h
def zC {α:Sort uU}{a b:α}:cond Za a b=a:=rfl
def zD {α:Sort uU}{a b:α}:cond Zb a b=b:=rfl
def zE {c:Prop}{h:Decidable c}(d:c){α:Sort uU}{t e:α}:ite c t e=t:=if_pos d
def Zg {c:Prop}{h:Decidable c}(d:c:=by omega){α:Sort uU}{t e:α}:ite c t e=t:=zE d
def zF {c:Prop}{h:Decidable c}(d:¬c){α:Sort uU}{t e:α}:ite c t e=e:=if_neg d
def Zh {c:Prop}{h:Decidable c}(d:¬c:=by omega){α:Sort uU}{t e:α}:ite c t e=e:=zF d
def zG {α β:Type uU}{a:α}{f:α->Option β}:(O a).bind f=f a:=rfl
variable {N b vn:Nat}{x y:Operand}{v v':Value}{k:IntKind}{ks:List IntKind}{w:World}
section
open List renaming range->aB,replicate->aD
structure Blk where
 cells:List Value
 own:Bool
 es:Nat
structure Hp where
 m:Nat->Option Blk
 n:Nat
def Hp.set (σ:Hp)(b:Nat)(x:Option Blk):Hp:={m:=λi=>if i=b then x else σ.m i,n:=σ.n}
def Hp.add (σ:Hp)(x:Blk):Hp:={m:=λi=>if i=σ.n then O x else σ.m i,n:=σ.n+1}
abbrev bj :=Nat->Value
def bj.put (e:bj)(d:Nat)(v:Value):bj:=λi=>if i=d then v else e i
def bj.putO (e:bj)(d:Option Nat)(v:Value):bj:=match d with
 |some d=>e.put d v
 |none=>e
def bj.of (args:List Value):bj:=λi=>(args[i]?).getD undef
def bj.ev (e:bj):Operand->Value
 | .tmp t=>e t
 | .const v=>v
 | .global _=>undef
 | .func f=> .func (.func f) #[] #[]
inductive AExit where
 |normal
 |exit (id:Nat)
 |ret
inductive AOp where
 |move (x:Operand)
 |pick (c a b:Operand)
 |alloc (es:Nat) (zero:List Value)
 |box (es:Nat) (x:Operand)
 |build (zero:List Value) (parts:List<|Nat×Nat×Operand)
 |buildSlice (es len:Nat) (zero:List Value) (parts:List<|Nat×Nat×Operand)
 |load (x:Operand)
 |loadN (n:Nat) (x:Operand)
 |store (n:Nat) (a x:Operand)
 |nilCheck (x:Operand)
 |bin (op:BinOp) (x y:Operand)
 |eqv (kd:Nat) (neg:Bool) (x y:Operand)
 |eqCells (neg:Bool) (ks:List Nat) (x y:Operand)
 |un (op:UnOp) (x:Operand)
 |conv (k:IntKind) (x:Operand)
 |mkFunc (f:FuncId) (first captured:List Operand)
 |makeSlice (es bytes:Nat) (zero:List Value) (l c:Operand)
 |slice (es:Nat) (x:Operand) (lo hi:Option Operand)
 |sliceArr (es n:Nat) (x:Operand) (lo hi:Option Operand)
 |off (n:Nat) (x:Operand)
 |idx (es:Nat) (x i:Operand)
 |idxA (len es:Nat) (x i:Operand)
 |fieldV (off n:Nat) (agg:Bool) (x:Operand)
 |indexV (len es:Nat) (agg:Bool) (x i:Operand)
 |indexS (x i:Operand)
 |extract (x:Operand) (i:Nat)
 |call (f:FuncId) (args:List Operand)
 |callv (f:Operand) (args:List Operand)
 |append (es bytes:Nat) (s x:Operand)
 |appendZ (es bytes:Nat) (zero:List Value) (s x:Operand)
 |copy (es:Nat) (d s:Operand)
 |len (x:Operand)
 |lenS (x:Operand)
 |most (x y:Operand)
 |least (x y:Operand)
 |stuck
 |capN (x:Operand)
 |sliceX (ti:Bool) (x hi mx:Operand)
 |strOf (x:Operand)
 |makeM (k:IntKind)
 |lookM (k:IntKind) (ok:Bool) (x i:Operand)
 |updM (k:IntKind) (x i v:Operand)
 |makeG (ks:List IntKind) (vn:Nat)
 |lookG (ks:List IntKind) (vz:List Value) (ok:Bool) (x i:Operand)
 |updG (ks:List IntKind) (vn:Nat) (x i v:Operand)
 |rangeF (f n:Nat) (x:Operand)
structure AOper where
 dst:Option Nat
 op:AOp
 guard:Option<|Nat×Bool
structure SItem where
 idx:Nat
 o:AOper
 mover:Bool
 keep:Bool
 chks:List Nat
inductive AC where
 |skip
 |region (ops:List AOper)
 |draw (ops:List<|AOper×List Nat)
 |sched (its:List SItem)
 |seq (a b:AC)
 |cond (c:Operand) (thn els:AC)
 |block (id:Nat) (body:AC)
 |loop (body:AC)
 |exit (id:Nat)
 |ret
inductive ARes where
 |tmp (t:Nat)
 |cell (t:Nat)
 |cellN (t n:Nat)
structure AFn where
 ntmps:Nat
 results:List ARes
 body:AC
def UE :IntKind->Nat
 | .i8=>1000000| .i16=>1000001| .i32=>1000002| .i64=>1000003| .u8=>1000004| .u16=>1000005| .u32=>1000006| .u64=>1000007
def yR (f:Nat):Bool:=Nat.ble 1000000 f
def C3 :Fn->Bool
 | .func f=>yR f
 |_=>Zb
def TB (k:IntKind)(b:Nat):Value:= .func (.func<|UE k) #[] #[.pointer<|O ⟨b,0,Z⟩]
def QR (f:Nat):Nat:=2000000+f
def Cl (f:Nat):Bool:=Nat.ble 2000000 f
def aQ2 (f:Nat):Bool:= !yR f||Cl f
def Ii (b:Bool):Value:=cond b .nilFunc<|.pointer Z
def VI {a b:Bool}(h:Ii a=Ii b):a=b:=by cases a<;>cases b<;>first|rfl|cases h
def YB (f b:Nat):Value:= .func (.func<|QR f) #[] #[.pointer<|O ⟨b,0,Z⟩]
def Hd (k:IntKind):Value->Option Nat
 | .func (.func f) a c=>if f=UE k/\a.toList=[]then(match c.toList with
  |[.pointer<|O ⟨b,0,Z⟩]=>O b
  |_=>Z)else Z
 |_=>Z
def mgN :Nat:=1500000
def LX (ks:List IntKind)(vn:Nat):List Value:= .int .i64 vn::ks.map λk=> .int k 0
def TA (ks:List IntKind)(vn b:Nat):Value:= .func (.func mgN) (LX ks vn).toArray #[.pointer<|O ⟨b,0,Z⟩]
def oC :List Value->List Value->Bool
 |[],[]=>Za
 | .int k a::r, .int c b::s=>Zc (k=c)&&(Zc (a=b)&&oC r s)
 |_,_=>Zb
def Dj :List IntKind->List Value->Bool
 |[],[]=>Za
 |k::r, .int c n::s=>Zc (c=k)&&(Zc (k.min<=n)&&(Zc (n<=k.max)&&Dj r s))
 |_,_=>Zb
def wN (c vn:Nat)(k:List Value):Nat->List Value->Option (List Value)
 |0,_=>Z
 |_+1,[]=>Z
 |n+1,x::l=>if oC k ((x::l).take c)then O (((x::l).drop c).take vn)else wN c vn k n<|(x::l).drop<|c+vn
def Ho (c vn:Nat)(k v:List Value):Nat->List Value->List Value
 |0,_=>k++v
 |_+1,[]=>k++v
 |n+1,x::l=>if oC k ((x::l).take c)then k++v++(x::l).drop (c+vn)else(x::l).take (c+vn)++Ho c vn k v n ((x::l).drop<|c+vn)
def Uz (ks:List IntKind)(vn:Nat):Value->Option Nat
 | .func (.func f) a c=>if f=mgN/\oC a.toList (LX ks vn)=Za then(match c.toList with
  |[.pointer<|O ⟨b,0,Z⟩]=>O b
  |_=>Z)else Z
 |_=>Z
def au (s:ByteArray):Zd:=s.data.toList.map λb=>(b.toNat:Int)
def zy :List (Zd×Int)->Zd
 |[]=>[]
 |(k,v)::r=>k.flatMap (λb=>[1,b])++0::(aD v.toNat 1++0::(aD (-v).toNat 1++0::zy r))
def zK :Zd->Zd×Zd
 |x::b::r=>if x=1 then(b::(zK r).1,(zK r).2)else([],b::r)
 |[_]=>([],[])
 |[]=>([],[])
def uC :Zd->Nat×Zd
 |x::r=>if x=1 then((uC r).1+1,(uC r).2)else(0,r)
 |[]=>(0,[])
def On :Nat->Zd->List (Zd×Int)
 |0,_=>[]
 |_+1,[]=>[]
 |n+1,x::l=>((zK<|x::l).1,((uC (zK<|x::l).2).1:Int)-((uC (uC (zK<|x::l).2).2).1:Int))::On n (uC (uC (zK<|x::l).2).2).2
def lC (k:Zd)(v:Int):List (Zd×Int)->List (Zd×Int)
 |[]=>[(k,v)]
 |p::r=>if p.1=k then(p.1,v)::r else p::lC k v r
def gZ (l:Zd):List<|Zd×Int:=On (b8 l) l
def Bb (l k:Zd):Option Int:=((gZ l).find? λp=>Zc<|p.1=k).map (·.2)
def yz (l k:Zd)(v:Int):Zd:=zy<|lC k v<|gZ l
def Ot (l:Zd):Nat:=b8<|gZ l
abbrev HU :=List Value->Hp->(Value->Hp->Prop)->Prop
abbrev gw :=FuncId->HU
def one :Value->Bool
 | .agg _| .tuple _=>Zb
 |_=>Za
def cellsOf (v:Value):List Value:=v.cells.toList
def oB (x:Blk)(o n:Nat):Option<|List Value:=if o+n<=b8 x.cells then O ((x.cells.drop o).take n)else Z
def lm (cells:List Value)(o:Nat):List Value->List Value
 |[]=>cells
 |v::c=>lm (cells.set o v) (o+1) c
def AF (x:Blk)(o:Nat)(vs:List Value):Option Blk:=
 if x.own=Za/\o+b8 vs<=b8 x.cells/\vs.all one=Za then O {cells:=lm x.cells o vs,own:=x.own,es:=x.es}else Z
def Hp.slice (σ:Hp)(es:Nat):Value->Nat->Option (List Value)
 | .slice (O ⟨b,o,Z⟩) _ _,n=>if n=0 then O []else match σ.m b with
  |some x=>oB x o (n*es)
  |none=>Z
 | .slice Z _ _,n=>if n=0 then O []else Z
 | .string s,n=>if es=1 then O (((s.extract 0 n).data.toList).map λb=> .int .u8 b.toNat)else Z
 |_,_=>Z
def Cn :Value->Option Nat
 | .slice _ n _=>O n
 | .string s=>O s.size
 |_=>Z
def CY (cells:List Value):List (Nat×Nat×Value)->Option (List Value)
 |[]=>O cells
 |(d,c,v)::f=>
  if(b8<|cellsOf v)=c/\d+c<=b8 cells then CY (cells.take d++cellsOf v++cells.drop (d+c)) f else Z
def N7 (op:BinOp)(k:IntKind)(x y:Int):Option Value:=
 match op with
 | .add=>O (.int k<|k.wrap<|x+y)
 | .sub=>O (.int k<|k.wrap<|x-y)
 | .mul=>O (.int k<|k.wrap<|x*y)
 | .quo=>if y=0 then Z else O (.int k<|k.wrap<|x.tdiv y)
 | .rem=>if y=0 then Z else O (.int k<|x.tmod y)
 | .and=>O (.int k<|k.wrap (BitVec.ofInt k.bits x&&& BitVec.ofInt k.bits y).toNat)
 | .or=>O (.int k<|k.wrap (BitVec.ofInt k.bits x|||BitVec.ofInt k.bits y).toNat)
 | .xor=>O (.int k<|k.wrap (BitVec.ofInt k.bits x ^^^ BitVec.ofInt k.bits y).toNat)
 | .andNot=>O (.int k<|k.wrap (BitVec.ofInt k.bits x&&& ~~~BitVec.ofInt k.bits y).toNat)
 | .eql=>O (.bool<|x==y)
 | .neq=>O (.bool<|x !=y)
 | .lss=>O (.bool<|x<y)
 | .leq=>O (.bool<|x<=y)
 | .gtr=>O (.bool<|x > y)
 | .geq=>O (.bool<|x≥y)
 |_=>Z
def WP (op:BinOp)(x y:ByteArray):Option Value:=
 match op with
 | .add=>if((x.size+y.size:Nat):Int) > IntKind.i64.max then Z else O (.string<|x++y)
 | .eql=>O (.bool<|x.toList==y.toList)
 | .neq=>O (.bool !(x.toList==y.toList))
 | .lss=>O (.bool<|Op.bytesLess x.toList y.toList)
 | .leq=>O (.bool<|Op.bytesLess x.toList y.toList||x.toList==y.toList)
 | .gtr=>O (.bool !(Op.bytesLess x.toList y.toList||x.toList==y.toList))
 | .geq=>O (.bool !Op.bytesLess x.toList y.toList)
 |_=>Z
def Mz (op:BinOp)(k:IntKind)(x y:Int):Option Value:=
 if y<0 then Z else match op with
 | .shl=>O (.int k<|k.wrap<|x*2 ^ (min y.toNat k.bits))
 | .shr=>O (.int k<|x.fdiv<|2 ^ (min y.toNat k.bits))
 |_=>Z
def ri :BinOp->Bool
 | .shl| .shr=>Za
 |_=>Zb
def yf (op:BinOp):Value->Value->Option Value
 | .int k a, .int c b=>if ri op=Za then Mz op k a b else if k=c then N7 op k a b else Z
 | .string a, .string b=>if ri op=Za then Z else WP op a b
 |_,_=>Z
def RH :Nat->Value->Value->Option Bool
 |0, .bool a, .bool b=>O (a==b)
 |1, .pointer Z, .pointer b=>O b.isNone
 |1, .pointer<|O _, .pointer Z=>O Zb
 |2, .slice Z _ _, .slice b _ _=>O b.isNone
 |2, .slice (O _) _ _, .slice Z _ _=>O Zb
 |3, .nilFunc, .nilFunc=>O Za
 |3, .nilFunc, .func f _ _=>if C3 f then Z else O Zb
 |3, .func f _ _, .nilFunc=>if C3 f then Z else O Zb
 |_,_,_=>Z
def vL :Nat->Value->Value->Option Bool
 |0, .bool a, .bool b=>O (a==b)
 |1, .int k a, .int c b=>if k=c then O (a==b)else Z
 |2, .string a, .string b=>O (a.toList==b.toList)
 |_,_,_=>Z
def kw :List Nat->List Value->List Value->Option Bool
 |[],[],[]=>O Za
 |k::ks,a::r,b::s=>match vL k a b with
  |some true=>kw ks r s
  |some false=>O Zb
  |none=>Z
 |_,_,_=>Z
def un1 :UnOp->Value->Option Value
 | .neg, .int k n=>O (.int k<|k.wrap<|0-n)
 | .xor, .int k n=>O (.int k<|k.wrap (BitVec.ofInt k.bits (if k.signed then-1 else k.max) ^^^ BitVec.ofInt k.bits n).toNat)
 | .not, .bool b=>O (.bool !b)
 |_,_=>Z
def ba4 :Value->Option Int
 | .int _ n=>O n
 |_=>Z
def pj (y d:Nat):Option Value->Option Nat
 |some (.int _ i)=>if 0<=i/\i<=y then O i.toNat else Z
 |some _=>Z
 |none=>O d
def Qw :Value->Value->Option Value
 | .int k x, .int _ y=>O (.int k (if y<x then y else x))
 |_,_=>Z
def Va :Value->Value->Option Value
 | .int k x, .int _ y=>O (.int k (if y > x then y else x))
 |_,_=>Z
def Nz (a:Addr)(n:Nat):Addr:=⟨a.block,a.off+n,Z⟩
def Cq (σ:Hp)(es:Nat)(a:Option Addr)(d:Option Operand):Bool:=match d,a with
 |none,_=>Za
 |_,Z=>Za
 |some _,O a=>match σ.m a.block with
  |some c=>c.es==es
  |none=>Zb
def fp (zero:List Value)(n:Nat):List Value:=(aD n zero).flatten
def mP (es bytes:Nat)(σ:Hp)(a:Option Addr)(f i n:Nat)(d:List Value):Option<|Value×Hp:=if f+n<=i then(match a with
      |some ⟨b,o,Z⟩=>if d=[]then O (.slice (O ⟨b,o,Z⟩) (f+n) i,σ)else match σ.m b with
       |some c=>match AF c (o+f*es) d with
        |some h=>O (.slice (O ⟨b,o,Z⟩) (f+n) i,σ.set b<|O h)
        |none=>Z
       |none=>Z
      |none=>if d=[]/\f=0/\i=0/\n=0 then O (.slice Z 0 0,σ)else Z
      |_=>Z)
     else if(f+n)*bytes<=140737488355328/\f+n<=9223372036854775807/\d.all one=Za then(match a with
      |some ⟨b,o,Z⟩=>match σ.m b with
       |some c=>if c.own=Za/\c.es=es then match oB c o (f*es)with
        |some g=>O (.slice (O ⟨σ.n,0,Z⟩) (f+n)<|f+n,(σ.set b Z).add ⟨g++d,Za,es⟩)
        |none=>Z
        else Z
       |none=>Z
      |none=>if f=0 then O (.slice (O ⟨σ.n,0,Z⟩) n n,σ.add ⟨d,Za,es⟩)else Z
      |some ⟨b,o,O _⟩=>if f=0 then O (.slice (O ⟨σ.n,0,Z⟩) n n,σ.add ⟨d,Za,es⟩)else match σ.m b with
       |some c=>if c.es=es then match oB c o (f*es)with
        |some g=>O (.slice (O ⟨σ.n,0,Z⟩) (f+n)<|f+n,σ.add ⟨g++d,Za,es⟩)
        |none=>Z
        else Z
       |none=>Z)
     else Z
def Au :List Value->Option Zd
 |[]=>O []
 | .int .u8 n::r=>(Au r).map (n:: ·)
 |_=>Z
def xo (l:Zd):ByteArray:=l.foldl (λr n=>r.push<|UInt8.ofNat n.toNat) ByteArray.empty
def Wf (k:IntKind)(c:Bool)(s key:ByteArray):Value:=if c then .tuple #[.int k<|(Bb (au s)<|au key).getD 0, .bool (Bb (au s)<|au key).isSome]else .int k<|(Bb (au s)<|au key).getD 0
def P3 (ks:List IntKind)(c:List Value)(d:Bool)(kc es:List Value):Value:=if d then .tuple #[.agg ((wN (b8 ks) (b8 c) kc (b8 es) es).getD c).toArray, .bool (wN (b8 ks) (b8 c) kc (b8 es) es).isSome]else .agg ((wN (b8 ks) (b8 c) kc (b8 es) es).getD c).toArray
def AOp.run (e:bj)(σ:Hp):AOp->Option (Value×Hp)
 | .move x=>O (e.ev x,σ)
 | .pick c a b=>match e.ev c with
  | .bool true=>O (e.ev a,σ)
  | .bool false=>O (e.ev b,σ)
  |_=>Z
 | .alloc es zero=>O (.pointer<|O ⟨σ.n,0,Z⟩,σ.add ⟨zero,Za,es⟩)
 | .box es x=>if(cellsOf<|e.ev x).all one then O (.pointer<|O ⟨σ.n,0,Z⟩,σ.add ⟨cellsOf<|e.ev x,Za,es⟩)else Z
 | .build zero q=>(CY zero<|q.map λ(o,s,x)=>(o,s,e.ev x)).map λt=>(.agg t.toArray,σ)
 | .buildSlice es A zero q=>match CY (fp zero A) (q.map λ(o,s,x)=>(o,s,e.ev x))with
  |some t=>if t.all one then O (.slice (O ⟨σ.n,0,Z⟩) A A,σ.add ⟨t,Za,es⟩)else Z
  |none=>Z
 | .load x=>match e.ev x with
  | .pointer (O ⟨b,o,Z⟩)=>match σ.m b with
   |some g=>(g.cells[o]?).map λv=>(v,σ)
   |none=>Z
  |_=>Z
 | .loadN n x=>match e.ev x with
  | .pointer (O ⟨b,o,Z⟩)=>match σ.m b with
   |some g=>(oB g o n).map λt=>(.agg t.toArray,σ)
   |none=>Z
  |_=>Z
 | .store n a x=>match e.ev a with
  | .pointer (O ⟨b,o,Z⟩)=>if(b8<|cellsOf<|e.ev x)=n then match σ.m b with
   |some g=>match AF g o (cellsOf<|e.ev x)with
    |some u=>O (undef,σ.set b<|O u)
    |none=>Z
   |none=>Z
   else Z
  |_=>Z
 | .nilCheck x=>match e.ev x with
  | .pointer (O a)=>O (.pointer<|O a,σ)
  | .func (.func f) first p=>if yR f then Z else O (.func (.func f) first p,σ)
  |_=>Z
 | .bin M x y=>(yf M (e.ev x)<|e.ev y).map λv=>(v,σ)
 | .eqv W E x y=>(RH W (e.ev x)<|e.ev y).map λb=>(.bool<|b !=E,σ)
 | .eqCells E ks x y=>match e.ev x,e.ev y with
  | .agg a, .agg b=>(kw ks a.toList b.toList).map λb=>(.bool<|b !=E,σ)
  |_,_=>Z
 | .un M x=>(un1 M<|e.ev x).map λv=>(v,σ)
 | .conv k x=>(ba4<|e.ev x).map λn=>(.int k<|k.wrap n,σ)
 | .mkFunc f first p=>if yR f then Z else O (.func (.func f) (first.map e.ev).toArray (p.map e.ev).toArray,σ)
 | .makeSlice es j zero l c=>match e.ev l,e.ev c with
  | .int _ l, .int _ c=>if 0<=l/\l<=c/\j*c<=281474976710656/\c<=9223372036854775807 then
    O (.slice (O ⟨σ.n,0,Z⟩) l.toNat c.toNat,σ.add ⟨fp zero c.toNat,Za,es⟩)else Z
  |_,_=>Z
 | .slice es x J F=>match e.ev x with
  | .slice a A z=>if(z==0||Cq σ es a J)=Za then match pj z A (F.map e.ev)with
   |some h=>match pj h 0 (J.map e.ev)with
    |some l=>O (.slice (a.map (Nz · (l*es))) (h-l)<|z-l,σ)
    |none=>Z
   |none=>Z else Z
  |_=>Z
 | .sliceArr es n x J F=>match e.ev x with
  | .pointer (O ⟨b,o,Z⟩)=>match σ.m b with
   |some g=>if g.own=Za/\g.es=es/\o+n*es<=b8 g.cells then match pj n n (F.map e.ev)with
    |some h=>match pj h 0 (J.map e.ev)with
     |some l=>if l<n then O (.slice (O ⟨b,o+l*es,Z⟩) (h-l)<|n-l,σ)else Z
     |none=>Z
    |none=>Z else Z
   |none=>Z
  |_=>Z
 | .off n x=>match e.ev x with
  | .pointer (O ⟨b,o,Z⟩)=>O (.pointer<|O ⟨b,o+n,Z⟩,σ)
  |_=>Z
 | .idx es x i=>match e.ev x,e.ev i with
  | .slice (O ⟨b,o,Z⟩) A _, .int _ i=>if 0<=i/\i<A then O (.pointer<|O ⟨b,o+i.toNat*es,Z⟩,σ)else Z
  |_,_=>Z
 | .idxA A es x i=>match e.ev x,e.ev i with
  | .pointer (O ⟨b,o,Z⟩), .int _ i=>if 0<=i/\i<A then O (.pointer<|O ⟨b,o+i.toNat*es,Z⟩,σ)else Z
  |_,_=>Z
 | .fieldV K n agg x=>match e.ev x with
  | .agg t=>if agg then O (.agg<|t.extract K<|K+n,σ)else(t[K]?).map λv=>(v,σ)
  |_=>Z
 | .indexV A es agg x i=>match e.ev x,e.ev i with
  | .agg t, .int _ i=>if 0<=i/\i<A then(if agg then O (.agg<|t.extract (i.toNat*es)<|i.toNat*es+es,σ)else(t[i.toNat*es]?).map λv=>(v,σ))else Z
  |_,_=>Z
 | .indexS x i=>match e.ev x,e.ev i with
  | .string s, .int _ i=>if 0<=i then(s[i.toNat]?).map λb=>(.int .u8 b.toNat,σ)else Z
  |_,_=>Z
 | .extract x i=>match e.ev x with
  | .tuple vs=>(vs[i]?).map λv=>(v,σ)
  |_=>Z
 | .call _ _| .callv _ _| .rangeF _ _ _=>Z
 | .append es j s x=>match e.ev s with
  | .slice a S Q=>match Cn (e.ev x)with
   |some n=>match σ.slice es (e.ev x) n with
    |some C=>mP es j σ a S Q n C
    |none=>Z
   |none=>Z
  |_=>Z
 | .appendZ es j zero s x=>match e.ev s,e.ev x with
  | .slice a S Q, .int _ l=>if 0<=l/\l<=9223372036854775807/\l*j<=281474976710656 then mP es j σ a S Q l.toNat (fp zero l.toNat)else Z
  |_,_=>Z
 | .copy es d s=>match e.ev d with
  | .slice a I _=>match Cn (e.ev s)with
   |some n=>match σ.slice es (e.ev s) (min n I)with
    |some C=>(match a with
     |some ⟨b,o,Z⟩=>if C=[]then O (.int .i64 (min n I:Nat),σ)else match σ.m b with
      |some g=>match AF g o C with
       |some u=>O (.int .i64 (min n I:Nat),σ.set b<|O u)
       |none=>Z
      |none=>Z
     |none=>if C=[]then O (.int .i64 (min n I:Nat),σ)else Z
     |_=>Z)
    |none=>Z
   |none=>Z
  |_=>Z
 | .len x=>match e.ev x with
  | .slice _ n _=>O (.int .i64 n,σ)
  |_=>Z
 | .lenS x=>match e.ev x with
  | .string s=>O (.int .i64 s.size,σ)
  |_=>Z
 | .most x y=>(Va (e.ev x)<|e.ev y).map λv=>(v,σ)
 | .least x y=>(Qw (e.ev x)<|e.ev y).map λv=>(v,σ)
 | .stuck=>Z
 | .capN x=>match e.ev x with
  | .slice Z 0 0=>O (.int .i64 0,σ)
  |_=>Z
 | .sliceX Y x F X=>match e.ev x with
  | .slice a _ z=>match pj z 0 (O<|e.ev X)with
   |some m=>match pj m 0 (O<|e.ev F)with
    |some h=>if h=m then match a with
     |none=>O (.slice Z 0 0,σ)
     |some ⟨b,o,Z⟩=>O (.slice (O ⟨b,o,cond Y (O 0) Z⟩) m m,σ)
     |_=>Z
     else Z
    |none=>Z
   |none=>Z
  |_=>Z
 | .makeM k=>O (TB k σ.n,σ.add ⟨[.string ByteArray.empty],Za,1⟩)
 | .lookM k L x i=>match Hd k (e.ev x),e.ev i with
  |some b, .string D=>match σ.m b with
   |some g=>(match g.cells with
    | .string s::_=>O (Wf k L s D,σ)
    |_=>Z)
   |none=>Z
  |_,_=>Z
 | .updM k x i v=>match Hd k (e.ev x),e.ev i,e.ev v with
  |some b, .string D, .int V n=>if V=k then(match σ.m b with
   |some g=>if g.own=Za then(match g.cells with
    | .string s::r=>O (undef,σ.set b<|O ⟨.string (xo<|yz (au s) (au D) n)::r,Za,g.es⟩)
    |_=>Z)else Z
   |none=>Z)else Z
  |_,_,_=>Z
 | .makeG ks vn=>O (TA ks vn σ.n,σ.add ⟨[.agg #[]],Za,1⟩)
 | .lookG ks U L x i=>match Uz ks (b8 U) (e.ev x),e.ev i with
  |some b, .agg H=>if Dj ks H.toList=Za then(match σ.m b with
   |some g=>(match g.cells with
    | .agg es::_=>O (P3 ks U L H.toList es.toList,σ)
    |_=>Z)
   |none=>Z)else Z
  |_,_=>Z
 | .updG ks vn x i v=>match Uz ks vn (e.ev x),e.ev i,e.ev v with
  |some b, .agg H, .agg T=>if Dj ks H.toList=Za/\b8 T.toList=vn/\T.toList.all one=Za then(match σ.m b with
   |some g=>if g.own=Za then(match g.cells with
    | .agg es::r=>O (undef,σ.set b<|O ⟨.agg (Ho (b8 ks) vn H.toList T.toList (b8 es.toList) es.toList).toArray::r,Za,g.es⟩)
    |_=>Z)else Z
   |none=>Z)else Z
  |_,_,_=>Z
 | .strOf x=>match e.ev x with
  | .slice a n c=>match σ.slice 1 (.slice a n c) n with
   |some t=>(Au t).map λl=>(.string<|xo l,σ)
   |none=>Z
  |_=>Z
def bp (T:gw)(op:AOp)(e:bj)(σ:Hp)(k:Value->Hp->Prop):Prop:=
 match op with
 | .call f d=>T f (d.map e.ev) σ k
 | .callv x d=>match e.ev x with
  | .func (.func f) first c=>aQ2 f=Za/\T f (first.toList++d.map e.ev++c.toList) σ k
  |_=>False
 | .rangeF f n x=>match e.ev x with
  | .func (.func g) first c=>yR g=Zb/\first.toList=[]/\T g (YB f σ.n::c.toList) (σ.add ⟨Ii Za::(aB n).map e,Za,1⟩) λ_ σ'=>(∃x,σ'.m σ.n=O x/\x.own=Za/\x.cells.head?=O (Ii Za))/\k undef (σ'.set σ.n Z)
  |_=>False
 |op=>match op.run e σ with
  |some (v,σ')=>k v σ'
  |none=>False
def wanted (o:AOper)(e:bj):Bool:=
 match o.guard with
 |some (t,c)=>match e t with
  | .bool b=>b==c
  |_=>Zb
 |none=>Za
def kM (T:gw)(Q:bj->Hp->Prop):List AOper->bj->Hp->Prop
 |[],e,σ=>Q e σ
 |o::c,e,σ=>if wanted o e then bp T o.op e σ λv σ'=>kM T Q c (e.putO o.dst v) σ' else kM T Q c (e.putO o.dst undef) σ
def AOp.still :AOp->Bool
 | .alloc .. | .box .. | .buildSlice .. | .store .. | .call .. | .callv .. | .rangeF .. | .makeSlice .. | .append .. | .appendZ .. | .copy .. | .strOf .. | .makeM .. | .updM .. | .makeG .. | .lookG .. | .updG .. =>Zb
 |_=>Za
def jN (f:(AExit->bj->Hp->Prop)->bj->Hp->Prop)(Q:AExit->bj->Hp->Prop):Nat->bj->Hp->Prop
 |0,_,_=>False
 |n+1,e,σ=>f (λx c σ'=>match x with
  | .normal=>jN f Q n c σ'
  |x=>Q x c σ') e σ
def AOp.isLoad :AOp->Bool
 | .load _| .loadN _ _| .sliceArr _ _ _ _ _| .slice _ _ (O _) _| .lookM _ _ _ _=>Za
 |_=>Zb
def iH (ops:List<|AOper×List Nat)(i:Nat):List Nat:=match ops[i]? with
 |some (_,p)=>p
 |none=>[]
def Iw (acc:List Nat)(c:List Nat):Nat:=c.foldl (λm q=>m|||2 ^ q|||acc.getD q 0) 0
def Sn (c:List Nat):List (AOper×List Nat)->List Nat
 |[]=>c
 |(_,d)::r=>Sn (c++[Iw c d]) r
def tw (ops:List<|AOper×List Nat)(p j:Nat):Bool:=((Sn [] ops).getD j 0).testBit p
def Qg (ops:List<|AOper×List Nat)(done:List Nat)(i:Nat):Bool:=
 !done.contains i&&(iH ops i).all λq=>done.contains q
def CG (ops:List<|AOper×List Nat)(i:Nat):Bool:=match ops[i]? with
 |some (o,_)=>o.op.still
 |none=>Zb
def fG (ops:List<|AOper×List Nat)(done:List Nat):Option Nat:=(aB<|b8 ops).find? λi=>Qg ops done i&&CG ops i
def br (ops:List<|AOper×List Nat)(done:List Nat):List Nat:=(aB<|b8 ops).filter λi=>Qg ops done i&& !CG ops i
def KV (f:Nat->Prop):List Nat->Prop
 |[]=>True
 |[m]=>f m
 |m::r=>f m/\KV f r
def A6 (ops:List<|AOper×List Nat)(m:Nat)(σ:Hp):List (Nat×(Hp->Prop))->Prop
 |[]=>True
 |(i,c)::r=>if tw ops i m then A6 ops m σ r else c σ/\A6 ops m σ r
def CK (T:gw)(Q:bj->Hp->Prop)(ops:List<|AOper×List Nat):Nat->List Nat->List (Nat×(Hp->Prop))->bj->Hp->Prop
 |0,_,_,e,σ=>Q e σ
 |f+1,done,c,e,σ=>match fG ops done with
  |some i=>match ops[i]? with
   |some (o,_)=>
    if wanted o e then match o.op.run e σ with
     |some (v,_)=>CK T Q ops f (i::done) (if o.op.isLoad then(i,λσ'=>o.op.run e σ'=O (v,σ'))::c else c) (e.putO o.dst v) σ
     |none=>False
    else CK T Q ops f (i::done) c (e.putO o.dst undef) σ
   |none=>False
  |none=>match br ops done with
   |[]=>Q e σ
   |ms=>KV (λm=>match ops[m]? with
    |some (o,_)=>
     if wanted o e then bp T o.op e σ λv σ'=>A6 ops m σ' c/\CK T Q ops f (m::done) c (e.putO o.dst v) σ'
     else CK T Q ops f (m::done) c (e.putO o.dst undef) σ
    |none=>False) ms
def xl (d:List Nat)(σ:Hp):List (Nat×(Hp->Prop))->Prop
 |[]=>True
 |(i,c)::r=>if d.contains i then c σ/\xl d σ r else xl d σ r
def UC (ops:List<|AOper×List Nat)(i:Nat):Bool:=match ops[i]? with
 |some (o,_)=> !o.op.still
 |none=>Zb
def ad6 (ops:List<|AOper×List Nat)(i:Nat):Bool:=(aB<|b8 ops).any λm=>UC ops m&& !tw ops i m
def ET (ops:List<|AOper×List Nat):Nat->List Nat->List Nat->Option (List SItem)
 |0,_,_=>O []
 |f+1,done,c=>match fG ops done with
  |some i=>match ops[i]? with
   |some (o,_)=>(ET ops f (i::done) (if o.op.isLoad then i::c else c)).map (⟨i,o,Zb,o.op.isLoad&&ad6 ops i,[]⟩:: ·)
   |none=>Z
  |none=>match br ops done with
   |[]=>O []
   |[m]=>match ops[m]? with
    |some (o,_)=>(ET ops f (m::done) c).map (⟨m,o,Za,Zb,c.filter λi=> !tw ops i m⟩:: ·)
    |none=>Z
   |_=>Z
def QH (T:gw)(Q:bj->Hp->Prop):List SItem->List (Nat×(Hp->Prop))->bj->Hp->Prop
 |[],_,e,σ=>Q e σ
 |it::r,c,e,σ=>
  if wanted it.o e then
   (if it.mover then bp T it.o.op e σ λv σ'=>xl it.chks σ' c/\QH T Q r c (e.putO it.o.dst v) σ'
    else match it.o.op.run e σ with
    |some (v,_)=>QH T Q r (if it.keep then(it.idx,λσ'=>it.o.op.run e σ'=O (v,σ'))::c else c) (e.putO it.o.dst v) σ
    |none=>False)
  else QH T Q r c (e.putO it.o.dst undef) σ
def rD (T:gw):AC->(AExit->bj->Hp->Prop)->bj->Hp->Prop
 | .skip,Q,e,σ=>Q .normal e σ
 | .region d,Q,e,σ=>kM T (Q .normal) d e σ
 | .draw d,Q,e,σ=>CK T (Q .normal) d (b8 d) [] [] e σ
 | .sched f,Q,e,σ=>QH T (Q .normal) f [] e σ
 | .seq a b,Q,e,σ=>rD T a (λx e σ=>match x with
  | .normal=>rD T b Q e σ
  |x=>Q x e σ) e σ
 | .cond c a b,Q,e,σ=>match e.ev c with
  | .bool true=>rD T a Q e σ
  | .bool false=>rD T b Q e σ
  |_=>False
 | .block id b,Q,e,σ=>rD T b (λx e σ=>match x with
  | .exit i=>if i=id then Q .normal e σ else Q (.exit i) e σ
  |x=>Q x e σ) e σ
 | .loop b,Q,e,σ=> ∃n,jN (rD T b) Q n e σ
 | .exit id,Q,e,σ=>Q (.exit id) e σ
 | .ret,Q,e,σ=>Q .ret e σ
def Mk (e:bj)(σ:Hp):ARes->Option Value
 | .tmp t=>O (e t)
 | .cell t=>match e t with
  | .pointer (O ⟨b,o,Z⟩)=>bA (σ.m b) λx=>x.cells[o]?
  |_=>Z
 | .cellN t n=>match e t with
  | .pointer (O ⟨b,o,Z⟩)=>bA (σ.m b) λx=>(oB x o n).map λc=> .agg c.toArray
  |_=>Z
def Fq (e:bj)(σ:Hp):List ARes->Option (List Value)
 |[]=>O []
 |r::c=>match Mk e σ r,Fq e σ c with
  |some v,O d=>O (v::d)
  |_,_=>Z
def tO :List Value->Value
 |[v]=>v
 |vs=> .tuple vs.toArray
def wpF (T:gw)(f:AFn):HU:=λc σ K=>b8 c<=f.ntmps/\
 rD T f.body (λx e σ'=>match x with
  | .exit _=>False
  |_=>match Fq e σ' f.results with
   |some d=>K (tO d) σ'
   |none=>False) (bj.of c) σ
end
variable {e:bj}
section
open Bool renaming and_eq_true->bB
open List renaming length_cons->bD
open Nat renaming ble_eq->aB,le_refl->aD,lt_of_lt_of_le->cB
open Go.RowKit
structure G where
 c:Nat
 o:Nat
 ext:Nat
 es:Nat
 ty:Nat
 it:Option Value
abbrev Mu :=Nat->Option G
def Mu.le (μ μ':Mu):Prop:= ∀b g,μ b=O g->μ' b=O g
def Mu.le_refl (μ:Mu):μ.le μ:=λ_ _ h=>h
def Mu.le_trans {a b c:Mu}(h:a.le b)(k:b.le c):a.le c:=λx g d=>k x g<|h x g d
def Mu.add (μ:Mu)(n:Nat)(g:G):Mu:=λb=>if b=n then O g else μ b
theorem Mu.le_add {μ:Mu}{n:Nat}{g:G}(h:μ n=Z):μ.le<|μ.add n g:=λb c d=>by
 unfold Mu.add
 grind
def Mu.at (μ:Mu)(b:Nat)(g:G):Prop:=μ b=O g/\g.it=Z
def Mu.at_le {μ μ':Mu}(h:μ.le μ'){g:G}(k:μ.at b g):μ'.at b g:=⟨h _ _ k.1,k.2⟩
inductive F2 {α β:Type}(r:α->β->Prop):List α->List β->Prop where
 |nil:F2 r [] []
 |cons {a:α} {b:β} {l:List α} {m:List β}:r a b->F2 r l m->F2 r (a::l) (b::m)
def bb7 :Value->Bool
 | .pointer _| .slice _ _ _=>Za
 |_=>Zb
abbrev R3 :Value:= .map<|O 0
inductive VR (μ:Mu):Value->Value->Prop where
 |bool (b:Bool):VR μ (.bool b) (.bool b)
 |int (k:IntKind) (n:Int):VR μ (.int k n) (.int k n)
 |string (s:ByteArray):VR μ (.string s) (.string s)
 |nilp:VR μ (.pointer Z) (.pointer Z)
 |ptr {b o:Nat} {g:G}:μ.at b g->VR μ (.pointer<|O ⟨b,o,Z⟩) (.pointer<|O ⟨g.c,g.o+o,Z⟩)
 |nils:VR μ (.slice Z 0 0) (.slice Z 0 0)
 |slice {b o l c c':Nat} {g:G}:μ.at b g->l<=c->c<=c'->o+c'*g.es<=g.ext->VR μ (.slice (O ⟨b,o,Z⟩) l c) (.slice (O ⟨g.c,g.o+o,Z⟩) l c')
 |slice0 {b o:Nat} {g:G} (A':Addr):μ.at b g->VR μ (.slice (O ⟨b,o,Z⟩) 0 0) (.slice (O A') 0 0)
 |sliceX {b o c:Nat} {g:G}:μ.at b g->o+c*g.es<=g.ext->VR μ (.slice (O ⟨b,o,O 0⟩) c c) (.slice (O ⟨g.c,g.o+o,Z⟩) c c)
 |sliceX0 {b o:Nat} {g:G} (A':Addr):μ.at b g->VR μ (.slice (O ⟨b,o,O 0⟩) 0 0) (.slice (O A') 0 0)
 |nilf:VR μ .nilFunc .nilFunc
 |nilm:VR μ (.map Z) (.map Z)
 |mp {b:Nat} {g:G} {k:IntKind}:μ b=O g->g.it=O (.int k 0)->VR μ (TB k b) (.map<|O g.c)
 |mg {b:Nat} {g:G} {ks:List IntKind} {vn:Nat}:μ b=O g->g.it=O (.tuple (LX ks vn).toArray)->VR μ (TA ks vn b) (.map<|O g.c)
 |yl {b:Nat} {g:G}:μ b=O g->g.it=O (.bool Za)->VR μ (YB g.ty b) (.func (.yield g.c) #[] #[])
 |func {f:Fn} {a a' c c':Array Value}:C3 f=Zb->F2 (VR μ) a.toList a'.toList->F2 (VR μ) c.toList c'.toList->VR μ (.func f a c) (.func f a' c')
 |nili:VR μ .nilIface .nilIface
 |iter {b:Nat} {g:G} {v:Value}:μ b=O g->g.it=O v->VR μ (.iface b v) (.pointer<|O ⟨g.c,0,Z⟩)
 |agg {a a':Array Value}:F2 (VR μ) a.toList a'.toList->VR μ (.agg a) (.agg a')
 |junk {v:Value}:bb7 v=Za->VR μ (.map<|O 0) v
 |tuple {a a':Array Value}:F2 (VR μ) a.toList a'.toList->VR μ (.tuple a) (.tuple a')
def F2.length {α β:Type}{r:α->β->Prop}{l:List α}{m:List β}(h:F2 r l m):l.length=m.length:=by
 induction h with
 |nil=>rfl
 |cons _ _ c=>simp[c]
theorem F2.get {α β:Type}{r:α->β->Prop}{l:List α}{m:List β}(h:F2 r l m): ∀(i:Nat) (a:α),l[i]?=O a->∃b,m[i]?=O b/\r a b:=by
 induction h with
 |nil=>intro i a h;simp at h
 |cons c _ d=>
  grind
def F2.of_get {α β:Type}{r:α->β->Prop}: ∀(l:List α) (m:List β),b8 l=b8 m->(∀(i:Nat) (a:α) (b:β),l[i]?=O a->m[i]?=O b->r a b)->F2 r l m
 |[],[],_,_=> .nil
 |[],_::_,h,_=>by simp at h
 |_::_,[],h,_=>by simp at h
 |a::l,b::m,h,c=> .cons (c 0 a b rfl rfl)<|F2.of_get l m V6 λi x y d f=>c (i+1) x y V7 (by simpa using f)
def F2.append {α β:Type}{r:α->β->Prop}{l l':List α}{m m':List β}(h:F2 r l m)(c:F2 r l' m'):F2 r (l++l')<|m++m':=by
 induction h with
 |nil=>exact c
 |cons d _ f=>exact .cons d f
def F2.take {α β:Type}{r:α->β->Prop}{l:List α}{m:List β}(h:F2 r l m): ∀n,F2 r (l.take n)<|m.take n:=by
 induction h with
 |nil=>intro n;simp;exact .nil
 |cons c _ d=>
  intro n;cases n with
  |zero=>exact .nil
  |succ n=>exact .cons c<|d n
def F2.drop {α β:Type}{r:α->β->Prop}{l:List α}{m:List β}(h:F2 r l m): ∀n,F2 r (l.drop n)<|m.drop n:=by
 induction h with
 |nil=>intro n;simp;exact .nil
 |cons c d f=>
  intro n;cases n with
  |zero=>exact .cons c d
  |succ n=>exact f n
def F2.same {α:Type}{r:α->α->Prop}: ∀(l:List α),(∀a∈l,r a a)->F2 r l l
 |[],_=> .nil
 |a::l,h=> .cons (h a V2)<|F2.same l λb c=>h b (by simp[c])
def F2.imp {α β:Type}{r s:α->β->Prop}(c: ∀a b,r a b->s a b){l:List α}{m:List β}(h:F2 r l m):F2 s l m:=by
 induction h with
 |nil=>exact .nil
 |cons d _ f=>exact .cons (c _ _ d) f
def VR.mono {μ μ':Mu}(d:μ.le μ'): ∀{v v':Value},VR μ v v'->VR μ' v v'
 |_,_, .bool b=> .bool b
 |_,_, .int k n=> .int k n
 |_,_, .string s=> .string s
 |_,_, .nilp=> .nilp
 |_,_, .ptr h=> .ptr (Mu.at_le d h)
 |_,_, .nils=> .nils
 |_,_, .slice h c f i=> .slice (Mu.at_le d h) c f i
 |_,_, .slice0 A' h=> .slice0 A' (Mu.at_le d h)
 |_,_, .sliceX h c=> .sliceX (Mu.at_le d h) c
 |_,_, .sliceX0 A' h=> .sliceX0 A' (Mu.at_le d h)
 |_,_, .nilf=> .nilf
 |_,_, .nilm=> .nilm
 |_,_, .mp h c=> .mp (d _ _ h) c
 |_,_, .mg h c=> .mg (d _ _ h) c
 |_,_, .yl h c=> .yl (d _ _ h) c
 |_,_, .func g c f=> .func g (go c) (go f)
 |_,_, .nili=> .nili
 |_,_, .iter h c=> .iter (d _ _ h) c
 |_,_, .agg h=> .agg (go h)
 |_,_, .junk h=> .junk h
 |_,_, .tuple h=> .tuple<|go h
where
 go {l m:List Value}:F2 (VR μ) l m->F2 (VR μ') l m
 | .nil=> .nil
 | .cons h t=> .cons (VR.mono d h)<|go t
def VR.undef (μ:Mu):VR μ undef undef:= .tuple .nil
def VR.one_iff {μ:Mu}(h:VR μ v v'):one v=v'.oneCell':=by
 cases h with
 | @junk v' h=>cases v'<;>first|rfl|cases h
 |_=>rfl
def VR.cells {μ:Mu}(h:VR μ v v'):F2 (VR μ) (cellsOf v) v'.cells.toList:=by
 cases h with
 |agg h=>exact h
 |bool b=>exact .cons (.bool b) .nil
 |int k n=>exact .cons (.int k n) .nil
 |string s=>exact .cons (.string s) .nil
 |nilp=>exact .cons .nilp .nil
 |ptr h=>exact .cons (.ptr h) .nil
 |nils=>exact .cons .nils .nil
 |slice h c d g=>exact .cons (.slice h c d g) .nil
 |slice0 A' h=>exact .cons (.slice0 A' h) .nil
 |sliceX h c=>exact .cons (.sliceX h c) .nil
 |sliceX0 A' h=>exact .cons (.sliceX0 A' h) .nil
 |nilf=>exact .cons .nilf .nil
 |nilm=>exact .cons .nilm .nil
 |mp h c=>exact .cons (.mp h c) .nil
 |mg h c=>exact .cons (.mg h c) .nil
 |yl h c=>exact .cons (.yl h c) .nil
 |func f c d=>exact .cons (.func f c d) .nil
 |nili=>exact .cons .nili .nil
 |iter h c=>exact .cons (.iter h c) .nil
 |tuple h=>exact .cons (.tuple h) .nil
 |junk h=>
  have:v'.cells= #[v']:=by cases v'<;>first|rfl|cases h
  rw[this];exact .cons (.junk h) .nil
def VW (f:Nat):yR (QR f)=Za:=by
 unfold yR QR;rw[aB];omega
def RZ (f:Nat):C3 (.func<|QR f)=Za:=VW f
def ad5 (f:Nat):Cl (QR f)=Za:=by
 unfold Cl QR;rw[aB];omega
def Ou (k:IntKind):UE k<2000000:=by cases k<;>decide
def VR.func_inv {μ:Mu}{f:Nat}{a c:Array Value}(h:VR μ (.func (.func f) a c) v')(p:yR f=Zb): ∃a' q,v'= .func (.func f) a' q/\F2 (VR μ) a.toList a'.toList/\F2 (VR μ) c.toList q.toList:=by
 generalize i:Value.func (.func f) a c=v at h;cases h with
 |func r m n=>
  injection i with d j l
  subst d j l;exact⟨_,_,rfl,m,n⟩
 | @mp b g k m n=>
  injection i with d j l
  cases d;cases k<;>cases p
 | @mg b g ks vn m n=>
  injection i with d j l
  cases d;cases p
 | @yl b g m n=>
  injection i with d j l
  cases d;rw[VW]at p;cases p
 |_=>cases i
def aA4 : ∀{k c:IntKind},UE k=UE c->k=c:=by
 intro k c h;cases k<;>cases c<;>first|rfl|cases h
def ad4 (k:IntKind):yR (UE k)=Za:=by cases k<;>rfl
def VU (k:IntKind):C3 (.func<|UE k)=Za:=ad4 k
def ad3 :C3 (.func mgN)=Za:=rfl
def ag3 (k:IntKind):UE k≠mgN:=by cases k<;>decide
def VR.mp_inv {μ:Mu}(h:VR μ (TB k b) v'): ∃g,μ b=O g/\g.it=O (.int k 0)/\v'= .map (O g.c):=by
 generalize f:TB k b=v at h;cases h with
 |func n j l=>
  injection f with d m i
  subst d;unfold C3 at n;simp only[ad4]at n;cases n
 | @yl p g j l=>
  unfold TB YB QR at f;injection f with d m i
  injection d with d
  have d:UE k=2000000+g.ty:=d;have:=Ou k;omega
 | @mp p g q j l=>
  unfold TB at f;injection f with d m i
  injection d with d
  have:=aA4 d;subst this;simp at i;subst i;exact⟨g,j,l,rfl⟩
 | @mg p g ks vn j l=>
  unfold TB TA at f;injection f with d m i
  injection d with d
  exact(ag3 _ d).elim
 |_=>cases f
def VR.yl_inv {μ:Mu}{f:Nat}{a c:Array Value}(h:VR μ (.func (.func f) a c) v')(q:Cl f=Za): ∃b g,μ b=O g/\g.it=O (.bool Za)/\f=QR g.ty/\a= #[]/\c= #[.pointer<|O ⟨b,0,Z⟩]/\v'= .func (.yield g.c) #[] #[]:=by
 have r:2000000<=f:=by
  unfold Cl at q;rw[aB]at q;exact q
 generalize i:Value.func (.func f) a c=v at h;cases h with
 |func p m n=>
  injection i with d j l
  subst d;unfold C3 yR at p
  have:Nat.ble 1000000 f=Za:=by
   rw[aB];omega
  simp only[this]at p;cases p
 | @yl b g m n=>
  unfold YB at i;injection i with d j l
  injection d with d
  exact⟨b,g,m,n,d,j,l,rfl⟩
 | @mp b g k m n=>
  unfold TB at i;injection i with d j l
  injection d with d
  have d:f=UE k:=d;have:=Ou k;omega
 | @mg b g ks vn m n=>
  unfold TA at i;injection i with d j l
  injection d with d
  have d:f=1500000:=d;omega
 |_=>cases i
def Ob : ∀{ks ks':List IntKind},ks.map (λk=>Value.int k 0)=ks'.map (λk=>Value.int k 0)->ks=ks'
 |[],[],_=>rfl
 |[],_::_,h=>by cases h
 |_::_,[],h=>by cases h
 |k::ks,c::ks',h=>by
  simp only[List.map_cons,List.cons.injEq,Value.int.injEq]at h;rw[h.1.1,Ob h.2]
def Wm {ks':List IntKind}{c:Nat}(h:LX ks vn=LX ks' c):ks=ks'/\vn=c:=by
 unfold LX at h;simp only[List.cons.injEq,Value.int.injEq]at h;exact⟨Ob h.2,V1⟩
def Hy : ∀{a b:List Value},oC a b=Za->a=b
 |[],[],_=>rfl
 | .int k x::r, .int c y::s,h=>by
  simp only[oC,bB,decide_eq_true_eq]at h;rw[h.1,h.2.1,Hy h.2.2]
def Ip : ∀{ks:List IntKind} {a:List Value},Dj ks a=Za->oC a a=Za
 |[],[],_=>rfl
 |k::r, .int c n::s,h=>by
  simp only[Dj,bB,decide_eq_true_eq]at h;simp only[oC,decide_true,Bool.true_and];exact Ip h.2.2.2
def A8 : ∀{ks:List IntKind} {a:List Value},Dj ks a=Za->b8 a=b8 ks
 |[],[],_=>rfl
 |k::r, .int c n::s,h=>by
  simp only[Dj,bB,decide_eq_true_eq]at h;rw[bD,bD,A8 h.2.2.2]
def VR.mg_inv {μ:Mu}(h:VR μ (TA ks vn b) v'): ∃g,μ b=O g/\g.it=O (.tuple (LX ks vn).toArray)/\v'= .map (O g.c):=by
 generalize f:TA ks vn b=v at h;cases h with
 |func p l m=>
  injection f with d i j
  subst d;cases p
 | @yl n g l m=>
  unfold TA YB QR at f;injection f with d i j
  injection d with d
  have d:1500000=2000000+g.ty:=d;omega
 | @mp n g s l m=>
  unfold TB TA at f;injection f with d i j
  injection d with d
  exact(ag3 _ d.symm).elim
 | @mg n g q r l m=>
  unfold TA at f;injection f with d i j
  have i:=congrArg Array.toList i;simp only at i;obtain⟨rfl,rfl⟩:=Wm i;simp at j;subst j;exact⟨g,l,m,rfl⟩
 |_=>cases f
def Oi (h:Uz ks vn v=O b):v=TA ks vn b:=by
 unfold Uz at h;split at h
 .rename_i f a c;split at h
  .rename_i hf;obtain⟨rfl,i⟩:=hf;split at h
   .rename_i hc;cases h;have d:a=(LX ks vn).toArray:=Array.toList_inj.1 (by rw[Hy i]);have g:c= #[.pointer<|O ⟨_,0,Z⟩]:=Array.toList_inj.1 (by rw[hc]);rw[d,g];rfl
   cases h
  cases h
 cases h
def Cp (h:Hd k v=O b):v=TB k b:=by
 unfold Hd at h;split at h
 .rename_i f a c;split at h
  .rename_i hf;obtain⟨rfl,i⟩:=hf;split at h
   .rename_i hc;cases h;have d:a= #[]:=Array.toList_inj.1 (by rw[i]);have g:c= #[.pointer<|O ⟨_,0,Z⟩]:=Array.toList_inj.1 (by rw[hc]);rw[d,g];rfl
   cases h
  cases h
 cases h
def Ec :Value->Bool
 | .bool _| .int _ _| .string _| .pointer Z| .slice Z 0 0| .nilFunc| .nilIface| .map Z=>Za
 | .agg c=>c.toList.all λ
  | .bool _| .int _ _| .string _| .pointer Z| .slice Z 0 0| .nilFunc| .nilIface| .map Z=>Za
  |_=>Zb
 | .tuple c=>c.size==0
 |_=>Zb
theorem VR.plain1 (μ:Mu): ∀v:Value,(match v with
  | .bool _| .int _ _| .string _| .pointer Z| .slice Z 0 0| .nilFunc| .nilIface| .map Z=>Za
  |_=>Zb)=Za->VR μ v v:=by
 intro v h;cases v with
 |bool b=>exact .bool b
 |int k n=>exact .int k n
 |string s=>exact .string s
 |pointer a=>cases a with
  |none=>exact .nilp
  |some a=>simp at h
 |slice a n c=>
  split at h<;>first|(rename_i d;cases d;exact .nils)|simp_all
 |nilFunc=>exact .nilf
 |nilIface=>exact .nili
 |map a=>cases a with
  |none=>exact .nilm
  |some a=>simp at h
 |_=>simp at h
theorem VR.plain {μ:Mu}(h:Ec v=Za):VR μ v v:=by
 cases v with
 |agg d=>
  refine .agg<|F2.same _ λa f=>VR.plain1 μ a ?_;simp only[Ec,List.all_eq_true]at h;exact h a f
 |tuple d=>
  have:d= #[]:=by simpa[Ec]using h
  subst this;exact .tuple .nil
 |bool b=>exact .bool b
 |int k n=>exact .int k n
 |string s=>exact .string s
 |pointer a=>cases a with
  |none=>exact .nilp
  |some a=>simp[Ec]at h
 |slice a n c=>
  unfold Ec at h;split at h<;>first|(rename_i g;cases g;exact .nils)|simp_all
 |nilFunc=>exact .nilf
 |nilIface=>exact .nili
 |map a=>cases a with
  |none=>exact .nilm
  |some a=>simp[Ec]at h
 |_=>simp[Ec]at h
structure Base (P:Program)where
 n:Nat
 h:Nat->Option Obj
 ds:List Nat:=[]
 mi:List<|Nat×Obj:=[]
 small:P.funcs.size<=2000000
 tab: ∀w:World,n<=w.heap.size->(∀b,b<n->w.heap[b]?=h b)->P.globalNamed "internal/strconv.uint64pow10" ≠Z->Lib.TabIs P w "internal/strconv.uint64pow10" .u64 Lib.pow10Tab
instance (P :Program):CoeHead (Base P) Nat:=⟨Base.n⟩
def ba5 (P:Program)(t:TypeId):Bool:=match P.types[t]? with
 |some i=>(match i.desc with
  | .named n _=>n== "strings.Builder"
  |_=>Zb)
 |none=>Zb
def jW (w:World)(c:Nat):Option Nat:=match w.heap[c]? with
 |some (.cells d _ _)=>(d[1]?).bind Value.ownBlock
 |_=>Z
def Qn (w:World)(g i:Nat)(cs:Array Value)(t:TypeId)(c:Nat×Nat)(v:Value)(d:w.heap[g]?=O (.cells cs t c)):(w.setCell ⟨g,i,Z⟩ v).heap[g]?=O (.cells (cs.setIfInBounds i v) t c):=by
 simp[World.setCell,Array.getElem?_modify,d]
def F1 (w:World)(g j:Nat)(cs:Array Value)(t:TypeId)(c:Nat×Nat)(f:w.heap[g]?=O (.cells cs t c))(i:j<cs.size)(d:cs.size<=c.1∨c.1=c.2):w.frozen? ⟨g,j,Z⟩=Zb:=by
 have⟨l,h⟩:=c;simp only at d;simp only[World.frozen?,f,Bool.and_eq_false_iff,decide_eq_false_iff_not];omega
def ve (es:List MapEntry)(cl:Nat):Prop:=(es.map (·.born)).Nodup/\∀e∈es,e.born<cl
def CN (k:IntKind)(es:Array MapEntry)(cl:Nat)(s:ByteArray):Prop:=ve es.toList cl/\∃l:List<|ByteArray×Int,es.toList.map (λe=>(e.key,e.val))=l.map (λp=>(Value.string p.1,Value.int k p.2))/\au s=zy (l.map λp=>(au p.1,p.2))
inductive EntG (μ:Mu)(ks:List IntKind)(vn:Nat):List Value->List MapEntry->Prop where
 |nil:EntG μ ks vn [] []
 |cons {kc vc l:List Value} {va:Array Value} {n:Nat} {es:List MapEntry}:Dj ks kc=Za->b8 vc=vn->F2 (VR μ) vc va.toList->(∀e∈es,e.key≠ .agg kc.toArray)->EntG μ ks vn l es->EntG μ ks vn (kc++vc++l) (⟨.agg kc.toArray, .agg va,n⟩::es)
def EntG.imp {μ μ':Mu}(h: ∀a b,VR μ a b->VR μ' a b){l:List Value}{es:List MapEntry}(k:EntG μ ks vn l es):EntG μ' ks vn l es:=by
 induction k with
 |nil=>exact .nil
 |cons c d f g _ i=>exact .cons c d (f.imp h) g i
def jf :Code->List (Array Tmp×Code×Code)
 | .seq a b| .cond _ a b=>jf a++jf b
 | .block _ b| .loop b| .scope b=>jf b
 | .rangeFunc _ c a b=>(c,a,b)::(jf a++jf b)
 |_=>[]
def yE (P:Program)(f:FuncId):Option<|Nat×Array Tmp×Code×Code:=match P.funcs[f]? with
 |some c=>(match c.body.map jf with
  |some [s]=>O (c.ntmps,s)
  |_=>Z)
 |none=>Z
structure Lives {P:Program}(B:Base P)(μ:Mu)(w:World)(x:Blk)(g:G):Prop where
 lt:g.c<w.heap.size
 es:g.es=x.es
 cell:g.it=Z->∀(i:Nat) (v:Value),x.cells[i]?=O v->∃v',w.cell? ⟨g.c,g.o+i,Z⟩=O v'/\VR μ v v'
 own:g.it=Z->x.own=Za->B.n<=g.c/\b8 x.cells<=g.ext/\∃cur e fr,w.heap[g.c]?=O (.cells cur e fr)/\g.o+g.ext<=cur.size/\(cur.size<=fr.1∨fr.1=fr.2)
 iter: ∀s,g.it=O (.string s)->B.n<=g.c/\∃p:Nat,x.cells=[Value.int .i64 p].take (b8 x.cells)/\w.heap[g.c]?=O (.stringIter s p)
 bld:g.it=O .nilFunc->ba5 P g.ty=Za/\∃p s,(p= .pointer Z∨p= .pointer (O ⟨g.c,0,Z⟩))/\x.cells=[Value.string s].take (b8 x.cells)/\Lib.BuilderAtF g.ty P.rt.byte B.n g.c p (Lib.strCells s) w
 mp: ∀k,g.it=O (.int k 0)->B.n<=g.c/\∃es clock s,x.cells=[Value.string s].take (b8 x.cells)/\w.heap[g.c]?=O (.map es clock)/\CN k es clock s
 mg: ∀ks vn,g.it=O (.tuple (LX ks vn).toArray)->B.n<=g.c/\∃es clock,w.heap[g.c]?=O (.map es clock)/\∀arr r,x.cells=Value.agg arr::r->EntG μ ks vn arr.toList es.toList
 lp:g.it=O (.bool Za)->B.n<=g.c/\∃r:Loop,w.heap[g.c]?=O (.loop r)/\yE P g.ty=O (r.tmps.size,r.params,r.assign,r.body)/\r.pending=Z/\r.tmps.size=g.ext/\∀fl vals,x.cells=Ii fl::vals->r.state=(if fl then LoopState.ready else LoopState.busy)/\(g.ext<=b8 vals->F2 (VR μ) (vals.take g.ext) r.tmps.toList)
def Sep (μ:Mu)(σ:Hp)(w:World):Prop:= ∀b x g,σ.m b=O x->μ b=O g->g.it=O .nilFunc->∀k,jW w g.c=O k->∀f h d,σ.m f=O h->μ f=O d->d.c≠k/\(f≠b->d.it=O .nilFunc->jW w d.c≠O k)
theorem Sep.of {μ μ':Mu}{σ σ':Hp}{w':World}(h:Sep μ σ w)(d: ∀b x g,σ'.m b=O x->μ' b=O g->(∃y,σ.m b=O y/\μ b=O g)∨(g.it≠O .nilFunc/\∀b1 E j k,σ.m b1=O E->μ b1=O j->j.it=O .nilFunc->jW w j.c=O k->g.c≠k))
  (A: ∀b x g,σ.m b=O x->μ b=O g->g.it=O .nilFunc->(∃y,σ'.m b=O y)->jW w' g.c=jW w g.c):Sep μ' σ' w':=by
 intro b x g t C f k s p D q n l;rcases d b x g t C with⟨y,i,r⟩|⟨i,_⟩
 .rw[A b y g i r f ⟨x,t⟩]at s;rcases d p D q n l with⟨F,u,z⟩|⟨u,z⟩
  .obtain⟨H,I⟩:=h b y g i r f k s p F q u z
   grind
  grind
 .exact(i f).elim
def Ub {T e:TypeId}{n:Nat}{p:Value}{bs:List Value}{w':World}(h:Lib.BuilderAtF T e n b p bs w)(t:w'.heap[b]?=w.heap[b]?)(z: ∀k,jW w b=O k->w'.heap[k]?=w.heap[k]?):Lib.BuilderAtF T e n b p bs w':=by
 have⟨s,v,d,c,m⟩:=h;refine⟨s,v,t.trans d,⟨c.1, ?_⟩,m⟩;rcases c.2 with A|⟨g,i,j,r,q,u,l,f⟩
 .exact .inl A
 exact .inr ⟨g,i,j,r,q,u,(z g (by subst q;simp[jW,d,Value.ownBlock])).trans l,f⟩
def Xd {T e:TypeId}{n:Nat}{p:Value}{bs:List Value}(h:Lib.BuilderAtF T e n b p bs w){k:Nat}(l:jW w b=O k):n<=k/\k<w.heap.size/\k≠b:=by
 have⟨m,v,d,c,f⟩:=h;have g:v.ownBlock=O k:=by simpa[jW,d]using l
 have⟨i,j⟩:=c.lt k g;exact⟨i,j,λe=>f<|e▸g⟩
def RY :Obj->Bool
 | .mapIter .. =>Za
 |_=>Zb
structure R {P:Program}(B:Base P)(μ:Mu)(σ:Hp)(w:World):Prop where
 base:B.n<=w.heap.size
 old: ∀b,b<B.n->w.heap[b]?=B.h b
 fresh: ∀b,σ.n<=b->μ b=Z
 live: ∀b x,σ.m b=O x->∃g,μ b=O g/\Lives B μ w x g
 inj: ∀b b' x x' g g',σ.m b=O x->σ.m b'=O x'->b≠b'->x.own=Za->μ b=O g->μ b'=O g'->g.c≠g'.c
 sep:Sep μ σ w
 dfr:(B.ds.Nodup/\∀k∈B.ds,B.n<=k)/\∀k∈B.ds,w.heap[k]?=O (.deferred<|O [])
 mit: ∀p∈B.mi,RY p.2=Za/\B.n<=p.1/\w.heap[p.1]?=O p.2
section
variable {P:Program} {B:Base P} {μ μ':Mu} {σ:Hp} {w w':World}
def Lives.mono {x:Blk}{g:G}(h:Lives B μ w x g)(n:μ.le μ'):Lives B μ' w x g:=
 ⟨h.lt,h.es,λu i v D=>let⟨v',d,j⟩:=h.cell u i v D;⟨v',d,j.mono n⟩,h.own,h.iter,h.bld,h.mp,λks vn m=>let⟨d,es,t,z,l⟩:=h.mg ks vn m;⟨d,es,t,z,λf r e=>(l f r e).imp λ_ _ k=>k.mono n⟩,λm=>let⟨d,r,j,l,A,C,s⟩:=h.lp m;⟨d,r,j,l,A,C,λp c e=>⟨(s p c e).1,λq=>((s p c e).2 q).imp λ_ _ k=>k.mono n⟩⟩⟩
def Lives.kept {x:Blk}{g:G}(h:Lives B μ w x g)(j:w.heap.size<=w'.heap.size)(n:w'.heap[g.c]?=w.heap[g.c]?)(D:g.it=O .nilFunc->∀k,jW w g.c=O k->w'.heap[k]?=w.heap[k]?):Lives B μ w' x g:=
 ⟨cB h.lt j,h.es,λz i v F=>let⟨v',d,q⟩:=h.cell z i v F;⟨v',(World.cell?_of_block (w:=w) (w':=w') n).trans d,q⟩,λz E=>by
  have⟨d,q,u,e,C,f,m⟩:=h.own z E
  exact⟨d,q,u,e,C,n.trans f,m⟩,λs j=>let⟨d,p,l,f⟩:=h.iter s j;⟨d,p,l,n.trans f⟩,λA=>let⟨d,p,s,l,f,m⟩:=h.bld A;⟨d,p,s,l,f,Ub m n<|D A⟩,λk j=>let⟨d,es,t,s,l,f,m⟩:=h.mp k j;⟨d,es,t,s,l,n.trans f,m⟩,λks vn j=>let⟨d,es,t,f,m⟩:=h.mg ks vn j;⟨d,es,t,n.trans f,m⟩,λj=>let⟨d,r,q,l⟩:=h.lp j;⟨d,r,n.trans q,l⟩⟩
def R.dfr_but (h:R B μ σ w){c:Nat}(j: ∀d,w.heap[c]?≠O (.deferred d))(f: ∀k,k≠c->k<w.heap.size->w'.heap[k]?=w.heap[k]?):(B.ds.Nodup/\∀k∈B.ds,B.n<=k)/\∀k∈B.ds,w'.heap[k]?=O (.deferred<|O []):=⟨h.dfr.1,λk l=>by
 have g:=h.dfr.2 k l;have i:k<w.heap.size:=(Array.getElem?_eq_some_iff.1 g).1;rw[f k (λe=>j _<|e▸g) i]
 exact g⟩
def R.dfr_alloc (h:R B μ σ w)(o:Obj):(B.ds.Nodup/\∀k∈B.ds,B.n<=k)/\∀k∈B.ds,(w.alloc o).heap[k]?=O (.deferred<|O []):=
 h.dfr_but (c:=w.heap.size) (λd=>by rw[Array.getElem?_eq_none (aD _)];simp) λk _ f=>Below.heap_alloc w _ _ f
def R.mit_but (h:R B μ σ w){c:Nat}(l: ∀o,RY o=Za->w.heap[c]?≠O o)(d: ∀k,k≠c->k<w.heap.size->w'.heap[k]?=w.heap[k]?): ∀p∈B.mi,RY p.2=Za/\B.n<=p.1/\w'.heap[p.1]?=O p.2:=λp m=>by
 have⟨i,j,f⟩:=h.mit p m;have g:p.1<w.heap.size:=(Array.getElem?_eq_some_iff.1 f).1;exact⟨i,j,by rw[d p.1 (λe=>l _ i<|e▸f) g];exact f⟩
def R.mit_alloc (h:R B μ σ w)(o:Obj): ∀p∈B.mi,RY p.2=Za/\B.n<=p.1/\(w.alloc o).heap[p.1]?=O p.2:=
 h.mit_but (c:=w.heap.size) (λd _=>by rw[Array.getElem?_eq_none (aD _)];simp) λk _ f=>Below.heap_alloc w _ _ f
def R.same (h:R B μ σ w)(c:w'.heap=w.heap):R B μ σ w':=
 ⟨by rw[c];exact h.base,λb j=>by rw[c];exact h.old b j,h.fresh,λb x d=>let⟨g,f,i⟩:=h.live b x d;⟨g,f,i.kept (by rw[c];exact aD _) (by rw[c]) (λ_ k _=>by rw[c])⟩,h.inj,h.sep.of (λb x g d l=> .inl ⟨x,d,l⟩) (λb x g _ _ _ _=>by unfold jW;rw[c]),⟨h.dfr.1,λk m=>by rw[c];exact h.dfr.2 k m⟩,λp n=>by rw[c];exact h.mit p n⟩
theorem R.get (h:R B μ σ w){x:Blk}{g:G}(c:σ.m b=O x)(j:μ b=O g):Lives B μ w x g:=by
 have⟨d,f,i⟩:=h.live b x c
 grind
def R.buf (h:R B μ σ w){x:Blk}{g:G}(l:σ.m b=O x)(f:μ b=O g)(i:g.it=O .nilFunc){k:Nat}(j:jW w g.c=O k):B.n<=k/\k<w.heap.size/\k≠g.c:=by
 have⟨_,p,s,_,_,d⟩:=(h.get l f).bld i;exact Xd d j
def R.stays (h:R B μ σ w){x:Blk}{g:G}(j:σ.m b=O x)(f:μ b=O g)(q:w.heap.size<=w'.heap.size)(c:Nat)(d: ∀k,k≠c->k<w.heap.size->w'.heap[k]?=w.heap[k]?)(p:g.c≠c)(i:g.it=O .nilFunc->jW w g.c≠O c):Lives B μ w' x g:=
 (h.get j f).kept q (d _ p (h.get j f).lt) λl k n=>d k (λe=>i l<|e▸n) (h.buf j f l n).2.1
def R.kill (h:R B μ σ w)(b:Nat):R B μ (σ.set b Z) w:=by
 have f: ∀d x,(σ.set b Z).m d=O x->σ.m d=O x:=by
  intro d x c;simp only[Hp.set]at c;split at c
  .cases c
  exact c
 exact⟨h.base,h.old,h.fresh,λd x c=>h.live d x<|f _ _ c,λi j x r g l n p=>h.inj i j x r g l (f _ _ n)<|f _ _ p,h.sep.of (λd x g c q=> .inl ⟨x,f _ _ c,q⟩) (λ_ _ _ _ _ _ _=>rfl),h.dfr,h.mit⟩
theorem R.add (h:R B μ σ w)(d:Array Value)(e:TypeId)(cells:List Value)(es:Nat)(I:b8 cells<=d.size)(S:F2 (VR μ) cells<|d.toList.take<|b8 cells):
  R B (μ.add σ.n ⟨w.heap.size,0,d.size,es,e,Z⟩) (σ.add ⟨cells,Za,es⟩) (w.alloc<|.cells d e)/\μ.le (μ.add σ.n ⟨w.heap.size,0,d.size,es,e,Z⟩):=by
 have T:μ σ.n=Z:=h.fresh _<|aD _;have l:μ.le<|μ.add σ.n ⟨w.heap.size,0,d.size,es,e,Z⟩:=Mu.le_add T
 have old: ∀b x,b≠σ.n->(σ.add ⟨cells,Za,es⟩).m b=O x->σ.m b=O x:=by
  intro b x f j;simpa[Hp.add,f]using j
 have J: ∀x,(σ.add ⟨cells,Za,es⟩).m σ.n=O x->x=⟨cells,Za,es⟩:=by
  intro x j;simp[Hp.add]at j;exact j.symm
 have r: ∀b x g,σ.m b=O x->μ b=O g->g.c<w.heap.size:=λb x g j q=>(h.get j q).lt
 refine⟨⟨Nat.le_trans h.base V2,λb f=>(Below.heap_alloc w _ _<|cB f h.base).trans<|h.old b f,λb f=> ?_,λb x j=> ?_,λb C x X g F j z D V q t=> ?_, ?_,h.dfr_alloc _,h.mit_alloc _⟩,l⟩
 .have:σ.n+1<=b:=f;unfold Mu.add;rw[Zh];exact h.fresh b V1
 .by_cases f:b=σ.n
  .subst f;obtain rfl:=J x j;refine⟨⟨w.heap.size,0,d.size,es,e,Z⟩,Z0,⟨V2,rfl,λ_ i v W=> ?_,λ_ _=>⟨h.base,I,d,e,(0,0),heap_alloc_new w _,V2, .inr rfl⟩,λ_ u=>Z7,λu=>Z7,λ_ u=>Z7,λ_ _ u=>Z7,λu=>by cases u⟩⟩;have⟨v',A,s⟩:=S.get i v W
   have H:i<b8 cells:=by
    grind
   refine⟨v', ?_,s.mono l⟩;rw[Nat.zero_add,cell_of_row _ _ _ d e (0,0)<|heap_alloc_new w _]
   grind
  .have z:=old b x f j;have⟨g,A,s⟩:=h.live b x z;exact⟨g,l _ _ A,(s.mono l).kept V2 (Below.heap_alloc w _ _ s.lt)<|λH k U=>Below.heap_alloc w _ _ (h.buf z A H U).2.1⟩
 .by_cases f:b=σ.n
  .subst f;have p:C≠σ.n:=λe=>D e.symm
   have:g.c=w.heap.size:=by simp[Mu.add]at q;rw[<-q]
   have s:μ C=O F:=by simpa[Mu.add,p]using t
   grind
  .have A:μ b=O g:=by simpa[Mu.add,f]using q
   have E:=old b x f j;by_cases p:C=σ.n
   .subst p;have:F.c=w.heap.size:=by simp[Mu.add]at t;rw[<-t]
    have:=r b x g E A;omega
   .have s:μ C=O F:=by simpa[Mu.add,p]using t
    exact h.inj b C x X g F E (old _ _ p z) D V A s
 .refine h.sep.of (λb x g j q=> ?_) (λb x g j q H _=> ?_)
  .by_cases f:b=σ.n
   .subst f;have K:g=⟨w.heap.size,0,d.size,es,e,Z⟩:=by simp[Mu.add]at q;exact q.symm
    subst K;exact .inr ⟨λL=>(by cases L),λY x1 g1 k A s M Q e=>by have:=(h.buf A s M Q).2.1;simp only at e;omega⟩
   .exact .inl ⟨x,old b x f j,by simpa[Mu.add,f]using q⟩
  .unfold jW;rw[Below.heap_alloc w _ _<|r b x g j q]
theorem R.write1 (h:R B μ σ w){x:Blk}{g:G}(W:σ.m b=O x)(Q:x.own=Za)(I:μ b=O g)(q:g.it=Z)(i:Nat)(M:i<b8 x.cells)(hv:VR μ v v'):
  R B μ (σ.set b<|O ⟨x.cells.set i v,x.own,x.es⟩) (w.setCell ⟨g.c,g.o+i,Z⟩ v'):=by
 have V:=h.get W I;have⟨o1,o2,J,e,K,X,o5,o6⟩:=V.own q Q;have f: ∀k,k≠g.c->(w.setCell ⟨g.c,g.o+i,Z⟩ v').heap[k]?=w.heap[k]?:=λk A=>heap_setCell_other w _ k v' (by simpa using A)
 have C:(w.setCell ⟨g.c,g.o+i,Z⟩ v').heap[g.c]?=O (.cells (J.setIfInBounds (g.o+i) v') e K):=Qn w g.c (g.o+i) J e K v' X
 have old: ∀p n,p≠b->(σ.set b<|O ⟨x.cells.set i v,x.own,x.es⟩).m p=O n->σ.m p=O n:=by
  intro p n L l;simpa[Hp.set,L]using l
 have new: ∀n,(σ.set b<|O ⟨x.cells.set i v,x.own,x.es⟩).m b=O n->n=⟨x.cells.set i v,x.own,x.es⟩:=by
  intro n l;simp[Hp.set]at l;exact l.symm
 refine⟨by simpa using h.base,λk A=>(f k V1).trans<|h.old k A,h.fresh,λp n l=> ?_,λb1 b2 x1 x2 g1 g2 E U F S Y hg2=> ?_, ?_,h.dfr_but (c:=g.c) (λd=>by rw[X];simp) (λk A _=>f k A),h.mit_but (c:=g.c) (λo Q e=>by rw[X]at e;cases e;cases Q) λk A _=>f k A⟩
 .by_cases L:p=b
  .subst L;obtain rfl:=new n l;refine⟨g,I,⟨by simpa using V.lt,V.es,λ_ j u hu=> ?_,λ_ _=>⟨o1,by simpa using o2,_,e,K,C,by simpa using o5,by simpa using o6⟩,λs t=>ZW,λt=>ZW,λ_ t=>ZW,λ_ _ t=>ZW,λt=>by rw[q]at t;cases t⟩⟩;rw[cell_of_row _ _ _ _ e K C];by_cases hj:j=i
   .subst hj
    grind
   .rw[List.getElem?_set_ne (λe=>hj e.symm)]at hu;have⟨u',E,U⟩:=V.cell q j u hu;refine⟨u', ?_,U⟩;rw[cell_of_row _ _ _ _ e K X]at E
    grind
  .have D:=old p n L l;have⟨H,E,U⟩:=h.live p n D;refine⟨H,E,h.stays D E V2 g.c (λk A _=>f k A) (λe=>h.inj b p x n g H W D (λe=>L e.symm) Q I E e.symm)<|λM A=>((h.sep p n H D E M _ A b x g W I).1 rfl)⟩
 .have z: ∀p n,(σ.set b<|O ⟨x.cells.set i v,x.own,x.es⟩).m p=O n->∃y,σ.m p=O y/\y.own=n.own:=by
   grind
  have⟨y1,hy1,e1⟩:=z _ _ E;have⟨y2,hy2,_⟩:=z _ _ U;exact h.inj b1 b2 y1 y2 g1 g2 hy1 hy2 F (e1.trans S) Y hg2
 .have T: ∀p n,(σ.set b<|O ⟨x.cells.set i v,x.own,x.es⟩).m p=O n->∃y,σ.m p=O y:=by
   grind
  refine h.sep.of (λp n H l r=> .inl (let⟨y,hy⟩:=T p n l;⟨y,hy,r⟩))<|λp n H l r M _=> ?_;have F:p≠b:=λe=>by subst e;rw[I]at r;cases r;rw[q]at M;cases M
  unfold jW;rw[f _<|λe=>h.inj b p x n g H W l (λe=>F e.symm) Q I r e.symm]
end
end
section
open List renaming getElem?_eq_getElem->aB
open Result renaming andThen_ok->aD
open Go.RowKit
def db :Operand->Bool
 | .const v=>Ec v
 | .global _=>Zb
 | .func f=> !yR f
 |_=>Za
def vh (x:Operand):Option Operand:=if db x then O x else Z
def aC5 :Option Operand->Option (Option Operand)
 |some x=>(vh x).map O
 |none=>O Z
def lE (P:Program)(t:TypeId):Option Nat:=(P.info? t).map (·.size)
def Rq (P:Program)(t:TypeId):Option Nat:=(P.info? t).map (·.bytes)
def rX :Value->Bool
 | .bool _| .int _ _| .string _| .pointer Z| .slice Z 0 0| .nilFunc| .nilIface| .map Z=>Za
 |_=>Zb
def pY (P:Program)(t:TypeId):Option<|List Value:=match(P.info? t).bind (·.zero)with
 |some z=>if(cellsOf z).all rX then O (cellsOf z)else Z
 |none=>Z
def zn (P:Program)(t:TypeId):Option Bool:=match P.underlying t with
 |some (.struct _)|some (.array _ _)=>O Za
 |some _=>O Zb
 |none=>Z
def aZ6 (P:Program)(t:TypeId):Option Nat:=match P.underlying t with
 |some (.array _ e)=>lE P e
 |_=>O 1
def dk (μ:Mu)(N:Nat)(e:bj)(tmps:Array Value):Prop:=tmps.size=N/\∀t,VR μ (e t)<|tmps.getD t undef
def dk.mono {μ μ':Mu}{tmps:Array Value}(h:dk μ N e tmps)(c:μ.le μ'):dk μ' N e tmps:=⟨h.1,λt=>(h.2 t).mono c⟩
def dk.put {μ:Mu}{tmps:Array Value}(h:dk μ N e tmps)(d:Nat)(f:d<N)(g:VR μ v v'):dk μ N (e.put d v)<|tmps.setIfInBounds d v':=by
 refine⟨by simpa using h.1,λt=> ?_⟩;unfold bj.put;by_cases c:t=d
 .subst c;simp[h.1,f];exact g
 rw[zF c];have:=h.2 t;simpa[Array.getElem?_setIfInBounds_ne (λe=>c e.symm)]using this
def dk.ev {μ:Mu}{a:Act}(h:dk μ N e a.tmps)(c:db x=Za):VR μ (e.ev x)<|a.eval x:=by
 cases x with
 |tmp t=>exact h.2 t
 |const v=>exact VR.plain c
 |global g=>simp[db]at c
 |func f=>exact .func (by simpa[db,C3]using c) .nil .nil
def jK (P:Program)(o:Oper)(a:Act)(w:World)(B:Base P)(μ:Mu)(v:Value)(σ':Hp):Prop:=
 ∃c w' μ' v',(execOp a.eval o).run P w= .ok c w'/\(c= .value v'∨(c= .skip/\v'=undef))/\μ.le μ'/\R B μ' σ' w'/\VR μ' v v'/\Below B w w'
section
variable {P:Program} {o:Oper} {a:Act} {w:World} {B:Base P} {N:Nat} {μ:Mu} {e:bj} {σ σ':Hp} {v:Value}
def jK.same {v':Value}(d:R B μ σ w)(c:(execOp a.eval o).run P w= .ok (.value v') w)(f:VR μ v v'):jK P o a w B μ v σ:=
 ⟨_,w,μ,v',c, .inl rfl,μ.le_refl,d,f,Below.refl _ _⟩
theorem az (h:vh x=O y):x=y/\db x=Za:=by
 unfold vh at h
 grind
def dz {t:TypeId}{d:TypeDesc}(h:P.underlying t=O d)(w:World):(underlying t).run P w= .ok d w:=by simp[underlying,h]
def my {t:TypeId}{n:Nat}(h:lE P t=O n)(w:World):(sizeOf t).run P w= .ok n w:=by
 have⟨i,c,d⟩:=aC.1 h;simp[sizeOf,typeInfo,c,d]
def E5 {t:TypeId}{b:Bool}(h:zn P t=O b)(w:World):(isAgg t).run P w= .ok b w:=by
 unfold zn at h;unfold isAgg;cases c:P.underlying t with
 |none=>simp[c]at h
 |some d=>
  simp only[Sem.run_bind,dz c,aD];cases d<;>simp[c]at h<;>subst h<;>rfl
def nh {t:TypeId}{z:List Value}(h:pY P t=O z): ∃v,(∀w:World,(zeroValue t).run P w= .ok v w)/\cellsOf v=z/\z.all rX=Za:=by
 unfold pY at h;cases c:P.info? t with
 |none=>simp[c]at h
 |some i=>
  cases d:i.zero with
  |none=>simp[c,d]at h
  |some v=>
   simp only[c,d,zG]at h;split at h
   .rename_i hp;injection h with h
    exact⟨v,λw=>by simp[zeroValue,typeInfo,c,d],h,h▸hp⟩
   cases h
def WT (P:Program)(t:TypeId):Option IntKind:=match(P.info? t).bind (·.zero)with
 |some (.int k 0)=>O k
 |_=>Z
def Vi {t:TypeId}(h:WT P t=O k)(w:World):(zeroValue t).run P w= .ok (.int k 0) w:=by
 unfold WT at h;cases c:P.info? t with
 |none=>simp[c]at h
 |some i=>
  cases f:i.zero with
  |none=>simp[c,f]at h
  |some v=>
   simp only[c,f,zG]at h;split at h
   .rename_i d;injection d with d
    injection h with h
    subst d h;simp[zeroValue,typeInfo,c,f]
   cases h
def O3 (P:Program)(t:TypeId):Option<|List Value:=match(P.info? t).bind (·.zero)with
 |some (.agg c)=>if c.toList.all rX then O c.toList else Z
 |_=>Z
def Vh {t:TypeId}{z:List Value}(h:O3 P t=O z):(∀w:World,(zeroValue t).run P w= .ok (.agg z.toArray) w)/\z.all rX=Za:=by
 unfold O3 at h;cases c:P.info? t with
 |none=>simp[c]at h
 |some i=>
  cases f:i.zero with
  |none=>simp[c,f]at h
  |some v=>
   simp only[c,f,zG]at h;split at h
   .rename_i cs d;cases d;split at h
    .rename_i hp;cases h;exact⟨λw=>by simp[zeroValue,typeInfo,c,f],hp⟩
    cases h
   cases h
def VR.plainCells {μ:Mu}{z:List Value}(h:z.all rX=Za):F2 (VR μ) z z:=F2.same _ λv c=>VR.plain1 μ v (by
 have:=aG.1 h v c;unfold rX at this
 exact this)
theorem pK (b o n:Nat):(⟨b,o,Z⟩:Addr).add n=⟨b,o+n,Z⟩:=by unfold Addr.add;split<;>simp_all
theorem R.reads {b o:Nat}{x:Blk}{g:G}(t:R B μ σ w)(D:σ.m b=O x)(q:μ.at b g){n:Nat}{cs:List Value}(h:oB x o n=O cs):
  ∃f,(∀(P:Program) (w':World),w'.heap=w.heap->(loadCells ⟨g.c,g.o+o,Z⟩ n).run P w'= .ok f.toArray w')/\F2 (VR μ) cs f:=by
 unfold oB at h;split at h
 .rename_i hle;cases h;have A:=t.get D q.1
  have d: ∀j,j<n->∃v',w.cell? ⟨g.c,g.o+o+j,Z⟩=O v'/\VR μ (x.cells.getD (o+j) undef) v':=by
   intro j r;have⟨v',l,s⟩:=A.cell q.2 (o+j) (x.cells[o+j]' V1) (aB V1)
   grind
  refine⟨(List.range n).map λj=>(w.cell? ⟨g.c,g.o+o+j,Z⟩).getD undef,λP w' p=> ?_, ?_⟩
  .have:=run_loadCells (P:=P) w' ⟨g.c,g.o+o,Z⟩ n (λj=>(w.cell? ⟨g.c,g.o+o+j,Z⟩).getD undef) (λj r=>by
    rw[pK];have⟨v',l,_⟩:=d j r;have:w'.cell? ⟨g.c,g.o+o+j,Z⟩=w.cell? ⟨g.c,g.o+o+j,Z⟩:=by simp[World.cell?,p]
    rw[this]
    simp[l])
   rw[this]
  .refine F2.of_get _ _ V4 λi u F E C=> ?_
   have z:i<n:=by
    grind
   have⟨v',l,s⟩:=d i z
   simp_all
 .cases h
def R.writes : ∀(vs d:List Value),F2 (VR μ) vs d->(∀v∈vs,one v=Za)->∀(σ:Hp) (w:World) (b o i:Nat) (x:Blk) (g:G),R B μ σ w->σ.m b=O x->x.own=Za->μ.at b g->o+i+b8 vs<=b8 x.cells->
  ∃w',(∀P:Program,(storeCells ⟨g.c,g.o+o,Z⟩ d i).run P w= .ok () w')/\R B μ (σ.set b<|O ⟨lm x.cells (o+i) vs,x.own,x.es⟩) w'/\Below B w w'
 |[],_,h,_,σ,w,b,o,i,x,g,p,r,q,f,l=>by
  cases h;refine⟨w,λP=>by simp[storeCells], ?_,Below.refl _ _⟩
  have:σ.set b (O ⟨lm x.cells (o+i) [],x.own,x.es⟩)=σ:=by
   unfold Hp.set
   have:(λj=>if j=b then O (⟨lm x.cells (o+i) [],x.own,x.es⟩:Blk)else σ.m j)=σ.m:=by
    funext j
    split
    .rename_i e;subst e;rw[r];rfl
    .rfl
   rw[this]
  rw[this];exact p
 |v::vs,_,h,z,σ,w,b,o,i,x,g,p,r,q,f,l=>by
  cases h with
  |cons D M=>
   rename_i v' d;simp only[List.length_cons]at l;have C:=p.get r f.1;have⟨T,W,E,e,F,U,X,V⟩:=C.own f.2 q;have s:=p.write1 r q f.1 f.2 (o+i) V1 D;have n:v'.oneCell'=Za:=by rw[<-D.one_iff];exact z v V2
   have⟨u,Q,_⟩:=C.cell f.2 (o+i) (x.cells[o+i]' V1)<|aB V1;have t:w.frozen? ⟨g.c,g.o+(o+i),Z⟩=Zb:=F1 w _ _ _ _ F U V1 V;have K:(σ.set b<|O ⟨x.cells.set (o+i) v,x.own,x.es⟩).m b=O ⟨x.cells.set (o+i) v,x.own,x.es⟩:=by simp[Hp.set]
   have⟨w',H,A,I⟩:=R.writes vs d M (λy S=>z y (by simp[S])) _ _ b o (i+1) _ g s K q f V4;refine⟨w',λP=> ?_, ?_, ?_⟩
   .have J:(⟨g.c,g.o+o,Z⟩:Addr).add i=⟨g.c,g.o+(o+i),Z⟩:=by rw[pK,Nat.add_assoc]
    simp only[storeCells,Sem.run_bind,J,run_store P w _ v' .plain n,Q,t,Bool.false_eq_true,if_false,aD];exact H P
   .have L:(σ.set b<|O ⟨x.cells.set (o+i) v,x.own,x.es⟩).set b (O ⟨lm (x.cells.set (o+i) v) (o+(i+1)) vs,x.own,x.es⟩)=σ.set b (O ⟨lm x.cells (o+i)<|v::vs,x.own,x.es⟩):=by
     unfold Hp.set
     have:(λj=>if j=b then O (⟨lm (x.cells.set (o+i) v) (o+(i+1)) vs,x.own,x.es⟩:Blk)else if j=b then O ⟨x.cells.set (o+i) v,x.own,x.es⟩else σ.m j)=
       (λj=>if j=b then O (⟨lm x.cells (o+i)<|v::vs,x.own,x.es⟩:Blk)else σ.m j):=by
      funext j
      split<;>simp[lm,Nat.add_assoc]
     simp only[this]
    rw[L]at A;exact A
   .exact((Below.refl B w).setCell T v').trans I
end
end
section
open Go.RowKit
def vi (c:Nat->Option (Nat×Nat)):List (Nat×Operand)->Option (List<|Nat×Nat×Operand)
 |[]=>O []
 |(i,x)::r=>match c i,vh x,vi c r with
  |some (d,n),O x,O r=>O ((d,n,x)::r)
  |_,_,_=>Z
def F9 :List Operand->Option (List Operand)
 |[]=>O []
 |x::r=>match vh x,F9 r with
  |some x,O r=>O (x::r)
  |_,_=>Z
def Hm (P:Program)(c:Array Field)(i:Nat):Option<|Nat×Nat:=match c[i]? with
 |some f=>(lE P f.type).map λn=>(f.offset,n)
 |none=>Z
def Ie (P:Program)(f:FuncId):Bool:=match P.funcs[f]? with
 |some c=>c.body.isSome&& !(c.name== "runtime.NumGoroutine")
 |none=>Zb
def yo (P:Program)(t:TypeId):Option Nat:=match P.underlying t with
 |some .bool=>O 0
 |some (.int _)=>O 1
 |some .string=>O 2
 |_=>Z
def yp (P:Program):Nat->List Field->Option (List Nat)
 |_,[]=>O []
 |i,f::r=>if f.offset=i/\f.name≠ "_" then match yo P f.type,yp P (i+1) r with
  |some k,O ks=>O (k::ks)
  |_,_=>Z
  else Z
def PT (P:Program)(t:TypeId):Option<|List Nat:=match P.underlying t with
 |some (.struct c)=>if P.eqGuardType P.depth t=Zb/\P.stoodInHeld t=Zb then yp P 0 c.toList else Z
 |some (.array n e)=>if lE P e=O 1/\P.eqGuardType P.depth t=Zb then(yo P e).map λk=>List.replicate n k else Z
 |_=>Z
def ay9 :TypeDesc->Option Nat
 | .bool=>O 0
 | .pointer _=>O 1
 | .slice _=>O 2
 | .func _ _ _=>O 3
 |_=>Z
def OZ (P:Program)(op:BinOp)(t:TypeId)(x y:Operand):Option AOp:=
 match P.underlying t with
 |some (.int _)|some .string=>match vh x,vh y with
  |some x,O y=>O (.bin op x y)
  |_,_=>Z
 |some (.struct _)|some (.array _ _)=>match op,PT P t,vh x,vh y with
  | .eql,O n,O x,O y=>O (.eqCells Zb n x y)
  | .neq,O n,O x,O y=>O (.eqCells Za n x y)
  |_,_,_,_=>Z
 |some d=>match ay9 d,op,vh x,vh y with
  |some c, .eql,O x,O y=>O (.eqv c Zb x y)
  |some c, .neq,O x,O y=>O (.eqv c Za x y)
  |_,_,_,_=>Z
 |none=>Z
def tN (P:Program)(c:Call):Option AOp:=
 match c.callee with
 | .value (.func f)=>if Ie P f then(F9 c.args.toList).map (.call f ·)else Z
 | .value (.tmp t)=>(F9 c.args.toList).map (.callv (.tmp t) ·)
 | .builtin .append=>match c.args.toList,c.argTypes.toList with
  |[s,x],[j,l]=>match P.underlying j,P.underlying l,vh s,vh x with
   |some (.slice e),O<|.slice _,O s,O x|some (.slice e),O .string,O s,O x=>match lE P e,Rq P e,pY P e with
    |some h,O g,O z=>if b8 z=h then O (.append h g s x)else Z
    |_,_,_=>Z
   |some (.slice e),O<|.int _,O s,O x=>match lE P e,Rq P e,pY P e with
    |some h,O g,O z=>if b8 z=h/\0<h then O (.appendZ h g z s x)else Z
    |_,_,_=>Z
   |_,_,_,_=>Z
  |_,_=>Z
 | .builtin .copy=>match c.args.toList,c.argTypes.toList with
  |[d,s],i::_=>match P.underlying i,vh d,vh s with
   |some (.slice e),O d,O s=>match lE P e with
    |some h=>O (.copy h d s)
    |none=>Z
   |_,_,_=>Z
  |_,_=>Z
 | .builtin .len=>match c.args.toList,c.argTypes.toList with
  |[x],t::_=>match P.underlying t,vh x with
   |some .string,O x=>O (.lenS x)
   |some (.slice _),O x=>O (.len x)
   |_,_=>Z
  |_,_=>Z
 | .builtin .cap=>match c.args.toList,c.argTypes.toList with
  |[x],[t]=>match P.underlying t,vh x with
   |some (.slice _),O x=>O (.capN x)
   |_,_=>Z
  |_,_=>Z
 | .builtin .max=>match c.args.toList with
  |[x,y]=>match vh x,vh y with
   |some x,O y=>O (.most x y)
   |_,_=>Z
  |_=>Z
 | .builtin .min=>match c.args.toList with
  |[x,y]=>match vh x,vh y with
   |some x,O y=>O (.least x y)
   |_,_=>Z
  |_=>Z
 |_=>Z
def VY (P:Program)(t:TypeId):Option IntKind:=match P.underlying t with
 |some (.int k)=>O k
 |_=>Z
def vP (P:Program)(c:TypeId):Option<|List IntKind:=match P.underlying c with
 |some (.struct d)=>if P.keyType c=Za/\P.keyTypeAt 2 c=Za/\P.tiled 2 c=Za/\P.cellsOf c=b8 d.toList/\1<=P.types.size/\0<b8 d.toList/\(d.toList.all λf=>Zc<|P.cellsOf f.type=1)=Za then d.toList.mapM λf=>VY P f.type else Z
 |_=>Z
def JU (P:Program)(o:Oper):Option AOp:=
 match o.op with
 | .move x| .assign x=>(vh x).map .move
 | .pick c a b=>match vh c,vh a,vh b with
  |some c,O a,O b=>O (.pick c a b)
  |_,_,_=>Z
 | .alloc t=>match aZ6 P t,pY P t with
  |some E,O z=>O (.alloc E z)
  |_,_=>Z
 | .box t x=>match aZ6 P t,vh x with
  |some E,O x=>O (.box E x)
  |_,_=>Z
 | .build t g=>match P.underlying t,pY P t with
  |some (.struct q),O z=>if q.toList.all λf=>(lE P f.type).isSome then(vi (Hm P q) g.toList).map (.build z ·)else Z
  |some (.array _ e),O z=>match lE P e with
   |some n=>(vi (λi=>O (i*n,n)) g.toList).map (.build z ·)
   |none=>Z
  |_,_=>Z
 | .buildSlice t u g=>match P.underlying t with
  |some (.slice e)=>match lE P e,pY P e with
   |some n,O z=>if u*n<=16777216/\b8 z=n/\0<n then(vi (λi=>O (i*n,n)) g.toList).map (.buildSlice n u z ·)else Z
   |_,_=>Z
  |_=>Z
 | .load _ (.global _)=>O .stuck
 | .load t x=>match zn P t,vh x with
  |some Za,O x=>(lE P t).map (.loadN · x)
  |some Zb,O x=>O (.load x)
  |_,_=>Z
 | .store t x y=>match lE P t,vh x,vh y with
  |some n,O x,O y=>O (.store n x y)
  |_,_,_=>Z
 | .nilCheck x=>(vh x).map .nilCheck
 | .binOp op t x y _=>OZ P op t x y
 | .unOp op _ x=>(vh x).map (.un op ·)
 | .convert s d x=>match P.underlying s,P.underlying d,vh x with
  |some (.int _),O<|.int k,O x=>O (.conv k x)
  |some (.slice t),O .string,O x=>match P.underlying t with
   |some (.int .u8)=>O (.strOf x)
   |_=>Z
  |_,_,_=>Z
 | .makeMap t Z=>match P.underlying t with
  |some (.map p m)=>match P.underlying p,P.underlying m with
   |some .string,O (.int r)=>O (.makeM r)
   |_,_=>match vP P p,O3 P m with
    |some ks,O C=>O (.makeG ks<|b8 C)
    |_,_=>Z
  |_=>Z
 | .lookup t x i H=>match P.underlying t,vh x,vh i with
  |some (.map p m),O x,O i=>match P.underlying p,WT P m with
   |some .string,O r=>O (.lookM r H x i)
   |_,_=>match vP P p,O3 P m with
    |some ks,O C=>O (.lookG ks C H x i)
    |_,_=>Z
  |_,_,_=>Z
 | .mapUpdate t x i v=>match P.underlying t,vh x,vh i,vh v with
  |some (.map p m),O x,O i,O v=>match P.underlying p,P.underlying m with
   |some .string,O (.int r)=>O (.updM r x i v)
   |_,_=>match vP P p,O3 P m with
    |some ks,O C=>O (.updG ks (b8 C) x i v)
    |_,_=>Z
  |_,_,_,_=>Z
 | .makeFunc (.func f) first h=>match F9 first.toList,F9 h.toList with
  |some I,O J=>O (.mkFunc f I J)
  |_,_=>Z
 | .makeSlice t l c=>match P.underlying t with
  |some (.slice e)=>match lE P e,Rq P e,pY P e,vh l,vh c with
   |some n,O D,O z,O l,O c=>if b8 z=n/\0<n then O (.makeSlice n D z l c)else Z
   |_,_,_,_,_=>Z
  |_=>Z
 | .slice t x A j Z=>match P.underlying t,vh x,aC5 A,aC5 j with
  |some (.slice e),O x,O A,O j=>(lE P e).map (.slice · x A j)
  |some (.array n e),O x,O A,O j=>(lE P e).map (.sliceArr · n x A j)
  |_,_,_,_=>Z
 | .fieldAddr s x i=>match P.underlying s,vh x with
  |some (.struct q),O x=>match q[i]? with
   |some f=>match lE P f.type with
    |some n=>if n=0 then Z else O (.off f.offset x)
    |none=>Z
   |none=>Z
  |_,_=>Z
 | .field t x i=>match P.underlying t,vh x with
  |some (.struct q),O x=>match q[i]? with
   |some f=>match lE P f.type,zn P f.type with
    |some n,O b=>O (.fieldV f.offset n b x)
    |_,_=>Z
   |none=>Z
  |_,_=>Z
 | .indexAddr t x i=>match P.underlying t,vh x,vh i with
  |some (.slice e),O x,O i=>(lE P e).map (.idx · x i)
  |some (.array n e),O x,O i=>(lE P e).map (.idxA n · x i)
  |_,_,_=>Z
 | .index t x i=>match P.underlying t,vh x,vh i with
  |some (.array n e),O x,O i=>match lE P e,zn P e with
   |some s,O b=>O (.indexV n s b x i)
   |_,_=>Z
  |some .string,O x,O i=>O (.indexS x i)
  |_,_,_=>Z
 | .slice t x Z (O j) (O F)=>match P.underlying t,vh x,vh j,vh F with
  |some (.slice d),O x,O j,O F=>if(lE P d).isSome then O (.sliceX (match P.underlying d with
   |some (.int _)=>Za
   |_=>Zb) x j F)else Z
  |_,_,_,_=>Z
 | .extract x i=>(vh x).map (.extract · i)
 | .call c=>tN P c
 | .makeInterface _ _| .panic _=>O .stuck
 |_=>Z
section
variable {P:Program} {o:Oper} {a:Act} {w:World} {B:Base P} {N:Nat} {μ:Mu} {e:bj} {σ σ':Hp} {v:Value}
def Ww (ho:o.op= .move x∨o.op= .assign x)(g:db x=Za)(c:(AOp.move x).run e σ=O (v,σ'))(f:dk μ N e a.tmps)(d:R B μ σ w):jK P o a w B μ v σ':=by
 simp only[AOp.run,aZ,b7]at c;obtain⟨rfl,rfl⟩:=c;rcases ho with ho|ho<;>exact .same d (by simp[execOp,ho])<|f.ev g
def VR.bool_inv {b:Bool}{v':Value}(h:VR μ (.bool b) v'):v'= .bool b:=by cases h;rfl
def VR.int_inv {n:Int}{v':Value}(h:VR μ (.int k n) v'):v'= .int k n:=by cases h;rfl
def VR.string_inv {s:ByteArray}{v':Value}(h:VR μ (.string s) v'):v'= .string s:=by cases h;rfl
def aC1 {c:Operand}(j:o.op= .pick c x y)(l:db c=Za)(m:db x=Za)(n:db y=Za)(f:(AOp.pick c x y).run e σ=O (v,σ'))(g:dk μ N e a.tmps)(i:R B μ σ w):jK P o a w B μ v σ':=by
 have h:=g.ev l;simp only[AOp.run]at f;split at f
 .rename_i hb;rw[hb]at h;have d:=h.bool_inv;cases f;exact .same i (by simp[execOp,j,d,asBool]) (g.ev m)
 .rename_i hb;rw[hb]at h;have d:=h.bool_inv;cases f;exact .same i (by simp[execOp,j,d,asBool]) (g.ev n)
 cases f
def jK.new (g:R B μ σ w)(c:Array Value)(t:TypeId)(cells:List Value)(es:Nat)(v':Value)(h:F2 (VR μ) cells c.toList)
  (f:(execOp a.eval o).run P w= .ok (.value v') (w.alloc<|.cells c t))
  (l:(μ.add σ.n ⟨w.heap.size,0,c.size,es,t,Z⟩).at σ.n ⟨w.heap.size,0,c.size,es,t,Z⟩->VR (μ.add σ.n ⟨w.heap.size,0,c.size,es,t,Z⟩) v v'):jK P o a w B μ v<|σ.add ⟨cells,Za,es⟩:=by
 have d:cells.length=c.size:=by simpa using h.length
 obtain⟨i,j⟩:=g.add c t cells es V1 (by rw[d,<-Array.length_toList,List.take_length];exact h);exact⟨_,_,_,v',f, .inl rfl,j,i,l ⟨Z0,rfl⟩,(Below.refl _ _).alloc g.base _⟩
def ah4 {t:TypeId}{es:Nat}{z:List Value}(l:o.op= .alloc t)(m:pY P t=O z)(d:(AOp.alloc es z).run e σ=O (v,σ'))(j:R B μ σ w):jK P o a w B μ v σ':=by
 have⟨f,g,i,c⟩:=nh m;simp only[AOp.run,aZ,b7]at d;obtain⟨rfl,rfl⟩:=d;refine .new j f.cells t z es (.pointer<|O ⟨w.heap.size,0,Z⟩) ?_ ?_ (λh=> .ptr (o:=0) h)
 .have:z=f.cells.toList:=i.symm;rw[this];rw[this]at c;exact VR.plainCells c
 simp[execOp,l,Instr.alloc,g,newVar,newRow]
def aR5 {t:TypeId}{es:Nat}(g:o.op= .box t x)(i:db x=Za)(c:(AOp.box es x).run e σ=O (v,σ'))(f:dk μ N e a.tmps)(d:R B μ σ w):jK P o a w B μ v σ':=by
 simp only[AOp.run]at c;split at c
 .cases c;refine .new d (a.eval x).cells t _ es (.pointer<|O ⟨w.heap.size,0,Z⟩) (f.ev i).cells ?_ (λh=> .ptr (o:=0) h);simp[execOp,g,Instr.box,newVar,newRow]
 cases c
def VR.ptr_inv {b n:Nat}{v':Value}(h:VR μ (.pointer<|O ⟨b,n,Z⟩) v'): ∃g,μ.at b g/\v'= .pointer (O ⟨g.c,g.o+n,Z⟩):=by
 cases h with
 |ptr h=>exact⟨_,h,rfl⟩
def aB9 {t:TypeId}(m:o.op= .load t x)(p:zn P t=O Zb)(s:db x=Za)(c:(AOp.load x).run e σ=O (v,σ'))(l:dk μ N e a.tmps)(d:R B μ σ w):jK P o a w B μ v σ':=by
 have h:=l.ev s;simp only[AOp.run]at c;split at c
 .rename_i b n hb;rw[hb]at h;have⟨g,f,r⟩:=h.ptr_inv;split at c
  .rename_i blk hblk;obtain⟨u,q,c⟩:=aC.1 c;simp only[b7]at c;obtain⟨rfl,rfl⟩:=c;have⟨z,i,j⟩:=(d.get hblk f.1).cell f.2 n u q;refine .same d ?_ j;simp[execOp,m,Instr.loadAt,Instr.sureAddr,r,loadVar,E5 p,i]
  cases c
 cases c
def ah8 {t:TypeId}{n:Nat}(r:o.op= .load t x)(s:zn P t=O Za)(q:lE P t=O n)(z:db x=Za)(c:(AOp.loadN n x).run e σ=O (v,σ'))(m:dk μ N e a.tmps)(f:R B μ σ w):jK P o a w B μ v σ':=by
 have h:=m.ev z;simp only[AOp.run]at c;split at c
 .rename_i b n hb;rw[hb]at h;have⟨g,p,u⟩:=h.ptr_inv;split at c
  .rename_i blk hblk;obtain⟨A,d,c⟩:=aC.1 c;simp only[b7]at c;obtain⟨rfl,rfl⟩:=c;have⟨i,j,l⟩:=f.reads hblk p d;refine .same f ?_ (.agg l);simp[execOp,r,Instr.loadAt,Instr.sureAddr,u,loadVar,E5 s,my q,j P w rfl]
  cases c
 cases c
def ai4 {t:TypeId}{n:Nat}(C:o.op= .store t x y)(A:lE P t=O n)(H:db x=Za)(I:db y=Za)(c:(AOp.store n x y).run e σ=O (v,σ'))(m:dk μ N e a.tmps)(s:R B μ σ w):jK P o a w B μ v σ':=by
 have h:=m.ev H;have f:=(m.ev I).cells;simp only[AOp.run]at c;split at c
 .rename_i b off hb;rw[hb]at h;obtain⟨g,z,F⟩:=h.ptr_inv;split at c
  .rename_i hsz;split at c
   .rename_i blk hblk;unfold AF at c;split at c
    .rename_i blk' j;split at j
     .rename_i hc;obtain⟨i,l,d⟩:=hc;injection j with j
      subst j;cases c;obtain⟨w',p,q,r⟩:=R.writes _ _ f (λu E=>aG.1 d u E) σ w b off 0 blk g s hblk i z l;refine⟨.skip,w',μ,undef, ?_, .inr ⟨rfl,rfl⟩,μ.le_refl,q,VR.undef μ,r⟩;have D:(a.eval y).cells.size=n:=by rw[<-hsz,f.length];simp
      simp[execOp,C,Instr.storeAt,Instr.sureAddr,F,storeVar,my A,D,p]
     cases j
    cases c
   cases c
  cases c
 cases c
def Su (j:o.op= .nilCheck x)(s:db x=Za)(c:(AOp.nilCheck x).run e σ=O (v,σ'))(r:dk μ N e a.tmps)(i:R B μ σ w):jK P o a w B μ v σ':=by
 have h:=r.ev s;simp only[AOp.run]at c;split at c
 .rename_i b hb;cases c;rw[hb]at h;generalize g:a.eval x=u at h;cases h with
  |ptr l=>exact .same i (by simp[execOp,j,g]) (.ptr l)
 .rename_i f p q hb;split at c
  .cases c
  rename_i d;cases c;rw[hb]at h;have⟨t,z,g,m,n⟩:=h.func_inv (by simpa[C3]using d);exact .same i (by simp[execOp,j,g]) (.func (by simpa[C3]using d) m n)
 cases c
end
end
end Go.Ab
