/- A part of the proof. No condition. -/
import Derived.Calls
import Derived.RowKit
import Derived.WalkKit
import Derived.Lib.ItoaMem
import Derived.Lib.FrozenHead
set_option linter.all false
namespace Go.Ab
open Option renaming some->O,none->Y
open Bool renaming true->Za,false->Zb
open Decidable renaming decide->Zc
open List renaming length->dt
open Option renaming bind->ek
open Option.some renaming injEq->cc
open Prod.mk renaming injEq->dl
theorem V1{p:Prop}(h:p:=by omega):p:=h
theorem V2{p:Prop}(h:p:=by simp):p:=h
theorem V3{p:Prop}(h:p:=by simp;omega):p:=h
theorem V4{p:Prop}(h:p:=by decide):p:=h
theorem V5{p:Prop}(h:p:=by kernel_rfl):p:=h
theorem V6{p:Prop}(h:p:=by rw[show c.sz 4=max c.R.toNat c.Q.toNat from rfl];omega):p:=h
theorem V7{p:Prop}(h:p:=by simpa using f):p:=h
theorem V8{p:Prop}(h:p:=by unfold seg;rw[aB];omega):p:=h
theorem V9{p:Prop}(h:p:=by simpa using h):p:=h
theorem Z2{p:Prop}(h:p:=by rw[aB];omega):p:=h
theorem Z3{p:Prop}(h:p:=by simpa using g):p:=h
theorem Z4{p:Prop}(h:p:=by have:=u o;omega):p:=h
theorem Z5{p:Prop}(h:p:=by rw[cK,show c.sz 5=c.X.length from rfl];omega):p:=h
theorem Z6{p:Prop}(h:p:=by rw[dg];omega):p:=h
theorem Z7{p:Prop}(h:p:=by simp only[cK];omega):p:=h
theorem Z8{p:Prop}(h:p:=by rw[show c.sz 1=c.X.length from rfl,u];have:=n.xtR;simp;omega):p:=h
theorem Z9{p:Prop}(h:p:=by rw[Cx.P_len];omega):p:=h
theorem ZA{p:Prop}(h:p:=by simp only[aB,aD];omega):p:=h
theorem ZB{p:Prop}(h:p:=by rw[dg];exact aB _):p:=h
theorem ZC{p:Prop}(h:p:=by simp[DSt.push]):p:=h
theorem ZD{p:Prop}(h:p:=by rw[r];exact p):p:=h
theorem ZE{p:Prop}(h:p:=by simp[enc]):p:=h
theorem ZF{p:Prop}(h:p:=by rw[MF (by omega) (by omega)];simp):p:=h
theorem ZG{p:Prop}(h:p:=by simp[Mu.add]):p:=h
theorem ZH{p:Prop}(h:p:=by rw[d];simp[Fo.src]):p:=h
theorem ZI{p:Prop}(h:p:=by assumption):p:=h
theorem ZJ{p:Prop}(h:p:=by rw[r];rfl):p:=h
theorem ZK{p:Prop}(h:p:=by rw[show c.sz 2=c.R.toNat from rfl];exact aD y):p:=h
theorem ZL{p:Prop}(h:p:=by rw[show c.sz 3=c.Q.toNat from rfl];exact aD g):p:=h
theorem ZM{p:Prop}(h:p:=by rw[bB];simp only[cB,cD];omega):p:=h
theorem ZN{p:Prop}(h:p:=by rw[cB,show c.sz 1=c.X.length from rfl];omega):p:=h
theorem ZO{p:Prop}(h:p:=by have:c.off 0+c.sz 0=0+c.T.length:=rfl;omega):p:=h
theorem ZP{p:Prop}(h:p:=by rw[F.q];simp):p:=h
theorem ZQ{p:Prop}(h:p:=by rw[ME (by omega) g.1];simp):p:=h
theorem ZR{p:Prop}(h:p:=by simp[List.getD,show 4<l.length by omega]):p:=h
theorem ZS{p:Prop}(h:p:=by have:=n.n;have:=n.m;omega):p:=h
theorem ZT{p:Prop}(h:p:=by split at p<;>omega):p:=h
theorem ZU{p:Prop}(h:p:=by rw[L];exact K):p:=h
theorem ZV{p:Prop}(h:p:=by rw[cB];exact⟨f.1,f.2,q⟩):p:=h
theorem ZW{p:Prop}(h:p:=by intro e;injection e with e;exact j e):p:=h
theorem ZX{p:Prop}(h:p:=by simp[Fo.src]):p:=h
theorem ZY{p:Prop}(h:p:=by rw[vF];exact hd):p:=h
theorem ZZ{p:Prop}(h:p:=by rw[f];rfl):p:=h
theorem Zj{p:Prop}(h:p:=by rw[g];rfl):p:=h
theorem Zm{p:Prop}(h:p:=by unfold cv;omega):p:=h
theorem Zn{p:Prop}(h:p:=by simp only;omega):p:=h
theorem Zo{p:Prop}(h:p:=by cases g):p:=h
theorem Zp{p:Prop}(h:p:=by simpa[FM,hx]using ht):p:=h
theorem Zq{p:Prop}(h:p:=by simp[AOper.looks,ht]):p:=h
theorem Zr{p:Prop}(h:p:=by rw[BT,A];exact aB _):p:=h
theorem Zs{p:Prop}(h:p:=by simp only[aD];omega):p:=h
theorem Zt{p:Prop}(h:p:=by rw[d];simp):p:=h
theorem Zu{p:Prop}(h:p:=by simpa using p):p:=h
theorem Zv{p:Prop}(h:p:=by simp[isAgg,c]):p:=h
theorem Zw{p:Prop}(h:p:=by rw[d];simp[y]):p:=h
theorem Zx{p:Prop}(h:p:=by simp[Hp.set]):p:=h
theorem Zy{p:Prop}(h:p:=by rw[aD];omega):p:=h
theorem Zz{p:Prop}(h:p:=by cases hi):p:=h
theorem aw{p:Prop}(h:p:=by simp[hp]):p:=h
theorem bk{p:Prop}(h:p:=by intro h;cases h):p:=h
theorem bo{p:Prop}(h:p:=by rw[p];simp):p:=h
theorem cI{p:Prop}(h:p:=by simp[g]):p:=h
theorem cJ{p:Prop}(h:p:=by simp[e]):p:=h
abbrev Zd:=List Int
universe uU
def zA {p:Prop}{i:Decidable p}(h:¬p):@decide p i=Zb:=decide_eq_false h
def Ze {p:Prop}{i:Decidable p}(h:¬p:=by omega):@decide p i=Zb:=zA h
def zB {p:Prop}{i:Decidable p}(h:p):@decide p i=Za:=decide_eq_true h
def Zf {p:Prop}{i:Decidable p}(h:p:=by omega):@decide p i=Za:=zB h
def zC {α:Sort uU}{a b:α}:cond Za a b=a:=rfl
def zD {α:Sort uU}{a b:α}:cond Zb a b=b:=rfl
def zE {c:Prop}{h:Decidable c}(d:c){α:Sort uU}{t e:α}:ite c t e=t:=if_pos d
def Zg {c:Prop}{h:Decidable c}(d:c:=by omega){α:Sort uU}{t e:α}:ite c t e=t:=zE d
def zF {c:Prop}{h:Decidable c}(d:¬c){α:Sort uU}{t e:α}:ite c t e=e:=if_neg d
def Zh {c:Prop}{h:Decidable c}(d:¬c:=by omega){α:Sort uU}{t e:α}:ite c t e=e:=zF d
def zG {α β:Type uU}{a:α}{f:α->Option β}:(O a).bind f=f a:=rfl
variable {i x y:Operand}{c:Call}{b:Bool}{v v':Value}{op:BinOp}{lo:Option Operand}{w:World}{N:Nat}{k:IntKind}{fs:Array Field}
section
open List renaming range -> aB
structure Blk where
 cells:List Value
 own:Bool
 es:Nat
structure Hp where
 m:Nat->Option Blk
 n:Nat
def Hp.set (Z:Hp)(b:Nat)(x:Option Blk):Hp:={m:=λi=>if i=b then x else Z.m i,n:=Z.n}
def Hp.add (Z:Hp)(x:Blk):Hp:={m:=λi=>if i=Z.n then O x else Z.m i,n:=Z.n+1}
abbrev cm :=Nat->Value
def cm.put (e:cm)(d:Nat)(v:Value):cm:=λi=>if i=d then v else e i
def cm.putO (e:cm)(d:Option Nat)(v:Value):cm:=match d with
 |some d=>e.put d v
 |none=>e
def cm.of (args:List Value):cm:=λi=>(args[i]?).getD undef
def cm.ev (e:cm):Operand->Value
 | .tmp t=>e t
 | .const v=>v
 | .global _=>undef
 | .func f=> .func (.func f) #[] #[]
inductive AExit where
 |normal
 |exit (id:Nat)
 |ret
inductive AOp where
 |move (x:Operand)
 |pick (c a b:Operand)
 |alloc (es:Nat) (zero:List Value)
 |box (es:Nat) (x:Operand)
 |build (zero:List Value) (parts:List (Nat×Nat×Operand))
 |buildSlice (es len:Nat) (zero:List Value) (parts:List (Nat×Nat×Operand))
 |load (x:Operand)
 |loadN (n:Nat) (x:Operand)
 |store (n:Nat) (a x:Operand)
 |nilCheck (x:Operand)
 |bin (op:BinOp) (x y:Operand)
 |eqv (kd:Nat) (neg:Bool) (x y:Operand)
 |eqCells (neg:Bool) (ks:List Nat) (x y:Operand)
 |un (op:UnOp) (x:Operand)
 |conv (k:IntKind) (x:Operand)
 |mkFunc (f:FuncId) (first captured:List Operand)
 |makeSlice (es bytes:Nat) (zero:List Value) (l c:Operand)
 |slice (es:Nat) (x:Operand) (lo hi:Option Operand)
 |sliceStr (x:Operand) (lo hi:Option Operand)
 |sliceArr (es n:Nat) (x:Operand) (lo hi:Option Operand)
 |off (n:Nat) (x:Operand)
 |idx (es:Nat) (x i:Operand)
 |idxA (len es:Nat) (x i:Operand)
 |fieldV (off n:Nat) (agg:Bool) (x:Operand)
 |indexV (len es:Nat) (agg:Bool) (x i:Operand)
 |indexS (x i:Operand)
 |extract (x:Operand) (i:Nat)
 |call (f:FuncId) (args:List Operand)
 |callv (f:Operand) (args:List Operand)
 |append (es bytes:Nat) (s x:Operand)
 |appendZ (es bytes:Nat) (zero:List Value) (s x:Operand)
 |copy (es:Nat) (d s:Operand)
 |len (x:Operand)
 |most (x y:Operand)
 |least (x y:Operand)
 |stuck
 |capN (x:Operand)
 |strOf (x:Operand)
 |newB
structure AOper where
 dst:Option Nat
 op:AOp
 guard:Option (Nat×Bool)
structure SItem where
 idx:Nat
 o:AOper
 mover:Bool
 keep:Bool
 chks:List Nat
inductive AC where
 |skip
 |region (ops:List AOper)
 |draw (ops:List (AOper×List Nat))
 |sched (its:List SItem)
 |seq (a b:AC)
 |cond (c:Operand) (thn els:AC)
 |block (id:Nat) (body:AC)
 |loop (body:AC)
 |exit (id:Nat)
 |ret
inductive ARes where
 |tmp (t:Nat)
 |cell (t:Nat)
 |cellN (t n:Nat)
structure AFn where
 ntmps:Nat
 results:List ARes
 body:AC
abbrev Px :=List Value->Hp->(Value->Hp->Prop)->Prop
abbrev iU :=FuncId->Px
def one :Value->Bool
 | .agg _| .tuple _=>Zb
 |_=>Za
def cellsOf (v:Value):List Value:=v.cells.toList
def rf (x:Blk)(o n:Nat):Option (List Value):=if o+n<=dt x.cells then O ((x.cells.drop o).take n)else Y
def lg (cells:List Value)(o:Nat):List Value->List Value
 |[]=>cells
 |v::d=>lg (cells.set o v) (o+1) d
def Bx (x:Blk)(o:Nat)(vs:List Value):Option Blk:=
 if x.own=Za/\o+dt vs<=dt x.cells/\vs.all one=Za then O {cells:=lg x.cells o vs,own:=x.own,es:=x.es}else Y
def Hp.slice (Z:Hp)(es:Nat):Value->Nat->Option (List Value)
 | .slice (O ⟨b,o,Y⟩) _ _,n=>if n=0 then O []else match Z.m b with
  |some x=>rf x o (n*es)
  |none=>Y
 | .slice Y _ _,n=>if n=0 then O []else Y
 | .string s,n=>if es=1 then O (((s.extract 0 n).data.toList).map λb=> .int .u8 b.toNat)else Y
 |_,_=>Y
def E0 :Value->Option Nat
 | .slice _ n _=>O n
 | .string s=>O s.size
 |_=>Y
def EU (cells:List Value):List (Nat×Nat×Value)->Option (List Value)
 |[]=>O cells
 |(f,d,v)::g=>
  if(dt (cellsOf v))=d/\f+d<=dt cells then EU (cells.take f++cellsOf v++cells.drop (f+d)) g else Y
def VL (op:BinOp)(k:IntKind)(x y:Int):Option Value:=
 match op with
 | .add=>O (.int k (k.wrap (x+y)))
 | .sub=>O (.int k (k.wrap (x-y)))
 | .mul=>O (.int k (k.wrap (x*y)))
 | .quo=>if y=0 then Y else O (.int k (k.wrap (x.tdiv y)))
 | .rem=>if y=0 then Y else O (.int k (x.tmod y))
 | .and=>O (.int k (k.wrap (BitVec.ofInt k.bits x&&& BitVec.ofInt k.bits y).toNat))
 | .or=>O (.int k (k.wrap (BitVec.ofInt k.bits x|||BitVec.ofInt k.bits y).toNat))
 | .xor=>O (.int k (k.wrap (BitVec.ofInt k.bits x ^^^ BitVec.ofInt k.bits y).toNat))
 | .andNot=>O (.int k (k.wrap (BitVec.ofInt k.bits x&&& ~~~BitVec.ofInt k.bits y).toNat))
 | .eql=>O (.bool (x==y))
 | .neq=>O (.bool (x !=y))
 | .lss=>O (.bool (x<y))
 | .leq=>O (.bool (x<=y))
 | .gtr=>O (.bool (x > y))
 | .geq=>O (.bool (x≥y))
 |_=>Y
def Ws (op:BinOp)(x y:ByteArray):Option Value:=
 match op with
 | .add=>if((x.size+y.size:Nat):Int) > IntKind.i64.max then Y else O (.string (x++y))
 | .eql=>O (.bool (x.toList==y.toList))
 | .neq=>O (.bool !(x.toList==y.toList))
 | .lss=>O (.bool (Op.bytesLess x.toList y.toList))
 | .leq=>O (.bool (Op.bytesLess x.toList y.toList||x.toList==y.toList))
 | .gtr=>O (.bool !(Op.bytesLess x.toList y.toList||x.toList==y.toList))
 | .geq=>O (.bool !(Op.bytesLess x.toList y.toList))
 |_=>Y
def MT (op:BinOp)(k:IntKind)(x y:Int):Option Value:=
 if y<0 then Y else match op with
 | .shl=>O (.int k (k.wrap (x*2 ^ (min y.toNat k.bits))))
 | .shr=>O (.int k (x.fdiv (2 ^ (min y.toNat k.bits))))
 |_=>Y
def vY :BinOp->Bool
 | .shl| .shr=>Za
 |_=>Zb
def Bo (op:BinOp):Value->Value->Option Value
 | .int k a, .int d b=>if vY op=Za then MT op k a b else if k=d then VL op k a b else Y
 | .string a, .string b=>if vY op=Za then Y else Ws op a b
 |_,_=>Y
def RI :Nat->Value->Value->Option Bool
 |0, .bool a, .bool b=>O (a==b)
 |1, .pointer Y, .pointer b=>O b.isNone
 |1, .pointer (O _), .pointer Y=>O Zb
 |2, .slice Y _ _, .slice b _ _=>O b.isNone
 |2, .slice (O _) _ _, .slice Y _ _=>O Zb
 |3, .nilFunc, .nilFunc=>O Za
 |3, .nilFunc, .func _ _ _=>O Zb
 |3, .func _ _ _, .nilFunc=>O Zb
 |_,_,_=>Y
def wM :Nat->Value->Value->Option Bool
 |0, .bool a, .bool b=>O (a==b)
 |1, .int k a, .int d b=>if k=d then O (a==b)else Y
 |2, .string a, .string b=>O (a.toList==b.toList)
 |_,_,_=>Y
def kc :List Nat->List Value->List Value->Option Bool
 |[],[],[]=>O Za
 |k::d,a::r,b::s=>match wM k a b with
  |some true=>kc d r s
  |some false=>O Zb
  |none=>Y
 |_,_,_=>Y
def un1 :UnOp->Value->Option Value
 | .neg, .int k n=>O (.int k (k.wrap (0-n)))
 | .xor, .int k n=>O (.int k (k.wrap (BitVec.ofInt k.bits (if k.signed then-1 else k.max) ^^^ BitVec.ofInt k.bits n).toNat))
 | .not, .bool b=>O (.bool !b)
 |_,_=>Y
def aW4 :Value->Option Int
 | .int _ n=>O n
 |_=>Y
def tc (y:Nat)(d:Nat):Option Value->Option Nat
 |some (.int _ i)=>if 0<=i/\i<=y then O i.toNat else Y
 |some _=>Y
 |none=>O d
def QM :Value->Value->Option Value
 | .int k x, .int _ y=>O (.int k (if y<x then y else x))
 |_,_=>Y
def U7 :Value->Value->Option Value
 | .int k x, .int _ y=>O (.int k (if y > x then y else x))
 |_,_=>Y
def NP (a:Addr)(n:Nat):Addr:=⟨a.block,a.off+n,Y⟩
def Bt (Z:Hp)(es:Nat)(a:Option Addr)(lo:Option Operand):Bool:=match lo,a with
 |none,_=>Za
 |_,Y=>Za
 |some _,O a=>match Z.m a.block with
  |some d=>d.es==es
  |none=>Zb
def ei (zero:List Value)(n:Nat):List Value:=(List.replicate n zero).flatten
def nr (es bytes:Nat)(Z:Hp)(a:Option Addr)(g l n:Nat)(f:List Value):Option (Value×Hp):=if g+n<=l then(match a with
      |some ⟨b,o,Y⟩=>if f=[]then O (.slice (O ⟨b,o,Y⟩) (g+n) l,Z)else match Z.m b with
       |some d=>match Bx d (o+g*es) f with
        |some j=>O (.slice (O ⟨b,o,Y⟩) (g+n) l,Z.set b (O j))
        |none=>Y
       |none=>Y
      |none=>if f=[]/\g=0/\l=0/\n=0 then O (.slice Y 0 0,Z)else Y
      |_=>Y)
     else if(g+n)*bytes<=140737488355328/\g+n<=9223372036854775807/\f.all one=Za then(match a with
      |some ⟨b,o,Y⟩=>match Z.m b with
       |some d=>if d.own=Za/\d.es=es then match rf d o (g*es)with
        |some h=>O (.slice (O ⟨Z.n,0,Y⟩) (g+n) (g+n),(Z.set b Y).add ⟨h++f,Za,es⟩)
        |none=>Y
        else Y
       |none=>Y
      |none=>if g=0 then O (.slice (O ⟨Z.n,0,Y⟩) n n,Z.add ⟨f,Za,es⟩)else Y
      |some ⟨b,o,O _⟩=>if g=0 then O (.slice (O ⟨Z.n,0,Y⟩) n n,Z.add ⟨f,Za,es⟩)else match Z.m b with
       |some d=>if d.es=es then match rf d o (g*es)with
        |some h=>O (.slice (O ⟨Z.n,0,Y⟩) (g+n) (g+n),Z.add ⟨h++f,Za,es⟩)
        |none=>Y
        else Y
       |none=>Y)
     else Y
def Bp :List Value->Option (Zd)
 |[]=>O []
 | .int .u8 n::r=>(Bp r).map (n:: ·)
 |_=>Y
def U1 (l:Zd):ByteArray:=l.foldl (λr n=>r.push (UInt8.ofNat n.toNat)) ByteArray.empty
def AOp.run (e:cm)(Z:Hp):AOp->Option (Value×Hp)
 | .move x=>O (e.ev x,Z)
 | .pick c a b=>match e.ev c with
  | .bool true=>O (e.ev a,Z)
  | .bool false=>O (e.ev b,Z)
  |_=>Y
 | .alloc es zero=>O (.pointer (O ⟨Z.n,0,Y⟩),Z.add ⟨zero,Za,es⟩)
 | .box es x=>if(cellsOf (e.ev x)).all one then O (.pointer (O ⟨Z.n,0,Y⟩),Z.add ⟨cellsOf (e.ev x),Za,es⟩)else Y
 | .build zero q=>(EU zero (q.map λ(o,s,x)=>(o,s,e.ev x))).map λr=>(.agg r.toArray,Z)
 | .buildSlice es u zero q=>match EU (ei zero u) (q.map λ(o,s,x)=>(o,s,e.ev x))with
  |some r=>if r.all one then O (.slice (O ⟨Z.n,0,Y⟩) u u,Z.add ⟨r,Za,es⟩)else Y
  |none=>Y
 | .load x=>match e.ev x with
  | .pointer (O ⟨b,o,Y⟩)=>match Z.m b with
   |some p=>(p.cells[o]?).map λv=>(v,Z)
   |none=>Y
  |_=>Y
 | .loadN n x=>match e.ev x with
  | .pointer (O ⟨b,o,Y⟩)=>match Z.m b with
   |some p=>(rf p o n).map λr=>(.agg r.toArray,Z)
   |none=>Y
  |_=>Y
 | .store n a x=>match e.ev a with
  | .pointer (O ⟨b,o,Y⟩)=>if(dt (cellsOf (e.ev x)))=n then match Z.m b with
   |some p=>match Bx p o (cellsOf (e.ev x))with
    |some t=>O (undef,Z.set b (O t))
    |none=>Y
   |none=>Y
   else Y
  |_=>Y
 | .nilCheck x=>match e.ev x with
  | .pointer (O a)=>O (.pointer (O a),Z)
  | .func (.func f) first j=>O (.func (.func f) first j,Z)
  |_=>Y
 | .bin op x y=>(Bo op (e.ev x) (e.ev y)).map λv=>(v,Z)
 | .eqv J C x y=>(RI J (e.ev x) (e.ev y)).map λb=>(.bool (b !=C),Z)
 | .eqCells C K x y=>match e.ev x,e.ev y with
  | .agg a, .agg b=>(kc K a.toList b.toList).map λb=>(.bool (b !=C),Z)
  |_,_=>Y
 | .un op x=>(un1 op (e.ev x)).map λv=>(v,Z)
 | .conv k x=>(aW4 (e.ev x)).map λn=>(.int k (k.wrap n),Z)
 | .mkFunc f first j=>O (.func (.func f) (first.map e.ev).toArray (j.map e.ev).toArray,Z)
 | .makeSlice es g zero l c=>match e.ev l,e.ev c with
  | .int _ l, .int _ c=>if 0<=l/\l<=c/\g*c<=281474976710656/\c<=9223372036854775807 then
    O (.slice (O ⟨Z.n,0,Y⟩) l.toNat c.toNat,Z.add ⟨ei zero c.toNat,Za,es⟩)else Y
  |_,_=>Y
 | .slice es x lo D=>match e.ev x with
  | .slice a u A=>if(A==0||Bt Z es a lo)=Za then match tc A u (D.map e.ev)with
   |some h=>match tc h 0 (lo.map e.ev)with
    |some l=>O (.slice (a.map (NP · (l*es))) (h-l) (A-l),Z)
    |none=>Y
   |none=>Y else Y
  |_=>Y
 | .sliceStr x lo D=>match e.ev x with
  | .string s=>match tc s.size s.size (D.map e.ev)with
   |some h=>match tc h 0 (lo.map e.ev)with
    |some l=>O (.string (s.extract l h),Z)
    |none=>Y
   |none=>Y
  |_=>Y
 | .sliceArr es n x lo D=>match e.ev x with
  | .pointer (O ⟨b,o,Y⟩)=>match Z.m b with
   |some p=>if p.own=Za/\p.es=es/\o+n*es<=dt p.cells then match tc n n (D.map e.ev)with
    |some h=>match tc h 0 (lo.map e.ev)with
     |some l=>if l<n then O (.slice (O ⟨b,o+l*es,Y⟩) (h-l) (n-l),Z)else Y
     |none=>Y
    |none=>Y else Y
   |none=>Y
  |_=>Y
 | .off n x=>match e.ev x with
  | .pointer (O ⟨b,o,Y⟩)=>O (.pointer (O ⟨b,o+n,Y⟩),Z)
  |_=>Y
 | .idx es x i=>match e.ev x,e.ev i with
  | .slice (O ⟨b,o,Y⟩) u _, .int _ i=>if 0<=i/\i<u then O (.pointer (O ⟨b,o+i.toNat*es,Y⟩),Z)else Y
  |_,_=>Y
 | .idxA u es x i=>match e.ev x,e.ev i with
  | .pointer (O ⟨b,o,Y⟩), .int _ i=>if 0<=i/\i<u then O (.pointer (O ⟨b,o+i.toNat*es,Y⟩),Z)else Y
  |_,_=>Y
 | .fieldV F n agg x=>match e.ev x with
  | .agg r=>if agg then O (.agg (r.extract F (F+n)),Z)else(r[F]?).map λv=>(v,Z)
  |_=>Y
 | .indexV u es agg x i=>match e.ev x,e.ev i with
  | .agg r, .int _ i=>if 0<=i/\i<u then(if agg then O (.agg (r.extract (i.toNat*es) (i.toNat*es+es)),Z)else(r[i.toNat*es]?).map λv=>(v,Z))else Y
  |_,_=>Y
 | .indexS x i=>match e.ev x,e.ev i with
  | .string s, .int _ i=>if 0<=i then(s[i.toNat]?).map λb=>(.int .u8 b.toNat,Z)else Y
  |_,_=>Y
 | .extract x i=>match e.ev x with
  | .tuple L=>(L[i]?).map λv=>(v,Z)
  |_=>Y
 | .call _ _| .callv _ _=>Y
 | .append es g s x=>match e.ev s with
  | .slice a I H=>match E0 (e.ev x)with
   |some n=>match Z.slice es (e.ev x) n with
    |some z=>nr es g Z a I H n z
    |none=>Y
   |none=>Y
  |_=>Y
 | .appendZ es g zero s x=>match e.ev s,e.ev x with
  | .slice a I H, .int _ l=>if 0<=l/\l<=9223372036854775807/\l*g<=281474976710656 then nr es g Z a I H l.toNat (ei zero l.toNat)else Y
  |_,_=>Y
 | .copy es d s=>match e.ev d with
  | .slice a E _=>match E0 (e.ev s)with
   |some n=>match Z.slice es (e.ev s) (min n E)with
    |some z=>(match a with
     |some ⟨b,o,Y⟩=>if z=[]then O (.int .i64 (min n E:Nat),Z)else match Z.m b with
      |some p=>match Bx p o z with
       |some t=>O (.int .i64 (min n E:Nat),Z.set b (O t))
       |none=>Y
      |none=>Y
     |none=>if z=[]then O (.int .i64 (min n E:Nat),Z)else Y
     |_=>Y)
    |none=>Y
   |none=>Y
  |_=>Y
 | .len x=>match e.ev x with
  | .slice _ n _=>O (.int .i64 n,Z)
  |_=>Y
 | .most x y=>(U7 (e.ev x) (e.ev y)).map λv=>(v,Z)
 | .least x y=>(QM (e.ev x) (e.ev y)).map λv=>(v,Z)
 | .stuck=>Y
 | .capN x=>match e.ev x with
  | .slice Y 0 0=>O (.int .i64 0,Z)
  |_=>Y
 | .newB=>O (.iface Z.n .nilFunc,Z.add ⟨[.string ByteArray.empty],Za,1⟩)
 | .strOf x=>match e.ev x with
  | .slice a n c=>match Z.slice 1 (.slice a n c) n with
   |some r=>(Bp r).map λl=>(.string (U1 l),Z)
   |none=>Y
  |_=>Y
def ci (T:iU)(op:AOp)(e:cm)(Z:Hp)(k:Value->Hp->Prop):Prop:=
 match op with
 | .call f g=>T f (g.map e.ev) Z k
 | .callv x g=>match e.ev x with
  | .func (.func f) first d=>T f (first.toList++g.map e.ev++d.toList) Z k
  |_=>False
 |op=>match op.run e Z with
  |some (v,Z')=>k v Z'
  |none=>False
def wanted (o:AOper)(e:cm):Bool:=
 match o.guard with
 |some (t,d)=>match e t with
  | .bool b=>b==d
  |_=>Zb
 |none=>Za
def zZ (T:iU)(Q:cm->Hp->Prop):List AOper->cm->Hp->Prop
 |[],e,Z=>Q e Z
 |o::d,e,Z=>if wanted o e then ci T o.op e Z λv Z'=>zZ T Q d (e.putO o.dst v) Z' else zZ T Q d (e.putO o.dst undef) Z
def AOp.still :AOp->Bool
 | .alloc .. | .box .. | .buildSlice .. | .store .. | .call .. | .callv .. | .makeSlice .. | .append .. | .appendZ .. | .copy .. | .strOf .. | .newB=>Zb
 |_=>Za
def ju (f:(AExit->cm->Hp->Prop)->cm->Hp->Prop)(Q:AExit->cm->Hp->Prop):Nat->cm->Hp->Prop
 |0,_,_=>False
 |n+1,e,Z=>f (λx d Z'=>match x with
  | .normal=>ju f Q n d Z'
  |x=>Q x d Z') e Z
def AOp.isLoad :AOp->Bool
 | .load _| .loadN _ _| .sliceArr _ _ _ _ _| .slice _ _ (O _) _=>Za
 |_=>Zb
def iq (d:List (AOper×List Nat))(i:Nat):List Nat:=match d[i]? with
 |some (_,p)=>p
 |none=>[]
def GX (acc:List Nat)(d:List Nat):Nat:=d.foldl (λm q=>m|||2 ^ q|||acc.getD q 0) 0
def R5 (d:List Nat):List (AOper×List Nat)->List Nat
 |[]=>d
 |(_,f)::r=>R5 (d++[GX d f]) r
def uA (d:List (AOper×List Nat))(p j:Nat):Bool:=((R5 [] d).getD j 0).testBit p
def Qt (d:List (AOper×List Nat))(done:List Nat)(i:Nat):Bool:=
 !done.contains i&&(iq d i).all λq=>done.contains q
def Dk (d:List (AOper×List Nat))(i:Nat):Bool:=match d[i]? with
 |some (o,_)=>o.op.still
 |none=>Zb
def eb (d:List (AOper×List Nat))(done:List Nat):Option Nat:=(aB (dt d)).find? λi=>Qt d done i&&Dk d i
def bv (d:List (AOper×List Nat))(done:List Nat):List Nat:=(aB (dt d)).filter λi=>Qt d done i&& !Dk d i
def Lf (f:Nat->Prop):List Nat->Prop
 |[]=>True
 |[m]=>f m
 |m::r=>f m/\Lf f r
def B5 (d:List (AOper×List Nat))(m:Nat)(Z:Hp):List (Nat×(Hp->Prop))->Prop
 |[]=>True
 |(i,c)::r=>if uA d i m then B5 d m Z r else c Z/\B5 d m Z r
def Dr (T:iU)(Q:cm->Hp->Prop)(d:List (AOper×List Nat)):Nat->List Nat->List (Nat×(Hp->Prop))->cm->Hp->Prop
 |0,_,_,e,Z=>Q e Z
 |f+1,done,g,e,Z=>match eb d done with
  |some i=>match d[i]? with
   |some (o,_)=>
    if wanted o e then match o.op.run e Z with
     |some (v,_)=>Dr T Q d f (i::done) (if o.op.isLoad then(i,λZ'=>o.op.run e Z'=O (v,Z'))::g else g) (e.putO o.dst v) Z
     |none=>False
    else Dr T Q d f (i::done) g (e.putO o.dst undef) Z
   |none=>False
  |none=>match bv d done with
   |[]=>Q e Z
   |ms=>Lf (λm=>match d[m]? with
    |some (o,_)=>
     if wanted o e then ci T o.op e Z λv Z'=>B5 d m Z' g/\Dr T Q d f (m::done) g (e.putO o.dst v) Z'
     else Dr T Q d f (m::done) g (e.putO o.dst undef) Z
    |none=>False) ms
def yp (d:List Nat)(Z:Hp):List (Nat×(Hp->Prop))->Prop
 |[]=>True
 |(i,c)::r=>if d.contains i then c Z/\yp d Z r else yp d Z r
def Uu (d:List (AOper×List Nat))(i:Nat):Bool:=match d[i]? with
 |some (o,_)=> !o.op.still
 |none=>Zb
def ad7 (d:List (AOper×List Nat))(i:Nat):Bool:=(aB (dt d)).any λm=>Uu d m&& !uA d i m
def FN (g:List (AOper×List Nat)):Nat->List Nat->List Nat->Option (List SItem)
 |0,_,_=>O []
 |f+1,done,d=>match eb g done with
  |some i=>match g[i]? with
   |some (o,_)=>(FN g f (i::done) (if o.op.isLoad then i::d else d)).map (⟨i,o,Zb,o.op.isLoad&&ad7 g i,[]⟩:: ·)
   |none=>Y
  |none=>match bv g done with
   |[]=>O []
   |[m]=>match g[m]? with
    |some (o,_)=>(FN g f (m::done) d).map (⟨m,o,Za,Zb,d.filter λi=> !uA g i m⟩:: ·)
    |none=>Y
   |_=>Y
def QU (T:iU)(Q:cm->Hp->Prop):List SItem->List (Nat×(Hp->Prop))->cm->Hp->Prop
 |[],_,e,Z=>Q e Z
 |it::r,d,e,Z=>
  if wanted it.o e then
   (if it.mover then ci T it.o.op e Z λv Z'=>yp it.chks Z' d/\QU T Q r d (e.putO it.o.dst v) Z'
    else match it.o.op.run e Z with
    |some (v,_)=>QU T Q r (if it.keep then(it.idx,λZ'=>it.o.op.run e Z'=O (v,Z'))::d else d) (e.putO it.o.dst v) Z
    |none=>False)
  else QU T Q r d (e.putO it.o.dst undef) Z
def w8 (T:iU):AC->(AExit->cm->Hp->Prop)->cm->Hp->Prop
 | .skip,Q,e,Z=>Q .normal e Z
 | .region d,Q,e,Z=>zZ T (Q .normal) d e Z
 | .draw d,Q,e,Z=>Dr T (Q .normal) d (dt d) [] [] e Z
 | .sched f,Q,e,Z=>QU T (Q .normal) f [] e Z
 | .seq a b,Q,e,Z=>w8 T a (λx e Z=>match x with
  | .normal=>w8 T b Q e Z
  |x=>Q x e Z) e Z
 | .cond c a b,Q,e,Z=>match e.ev c with
  | .bool true=>w8 T a Q e Z
  | .bool false=>w8 T b Q e Z
  |_=>False
 | .block id b,Q,e,Z=>w8 T b (λx e Z=>match x with
  | .exit i=>if i=id then Q .normal e Z else Q (.exit i) e Z
  |x=>Q x e Z) e Z
 | .loop b,Q,e,Z=> ∃n,ju (w8 T b) Q n e Z
 | .exit id,Q,e,Z=>Q (.exit id) e Z
 | .ret,Q,e,Z=>Q .ret e Z
def MA (e:cm)(Z:Hp):ARes->Option Value
 | .tmp t=>O (e t)
 | .cell t=>match e t with
  | .pointer (O ⟨b,o,Y⟩)=>ek (Z.m b) λx=>x.cells[o]?
  |_=>Y
 | .cellN t n=>match e t with
  | .pointer (O ⟨b,o,Y⟩)=>ek (Z.m b) λx=>(rf x o n).map λd=> .agg d.toArray
  |_=>Y
def I9 (e:cm)(Z:Hp):List ARes->Option (List Value)
 |[]=>O []
 |r::d=>match MA e Z r,I9 e Z d with
  |some v,O f=>O (v::f)
  |_,_=>Y
def AU :List Value->Value
 |[v]=>v
 |vs=> .tuple vs.toArray
def wpF (T:iU)(f:AFn):Px:=λd Z K=>dt d<=f.ntmps/\
 w8 T f.body (λx e Z'=>match x with
  | .exit _=>False
  |_=>match I9 e Z' f.results with
   |some g=>K (AU g) Z'
   |none=>False) (cm.of d) Z
end
variable {e:cm}
section
open Nat renaming lt_of_lt_of_le -> aB
open Go.RowKit
structure G where
 c:Nat
 o:Nat
 ext:Nat
 es:Nat
 ty:Nat
 it:Option Value
abbrev Mu :=Nat->Option G
def Mu.le (μ μ':Mu):Prop:= ∀b g,μ b=O g->μ' b=O g
def Mu.le_refl (μ:Mu):μ.le μ:=λ_ _ h=>h
def Mu.le_trans {a b c:Mu}(h:a.le b)(k:b.le c):a.le c:=λx g d=>k x g (h x g d)
def Mu.add (μ:Mu)(n:Nat)(g:G):Mu:=λb=>if b=n then O g else μ b
def Mu.le_add {μ:Mu}{n:Nat}{g:G}(h:μ n=Y):μ.le (μ.add n g):=λb f d=>by
 unfold Mu.add;by_cases e:b=n
 .subst e;rw[h]at d;cases d
 .rw[zF e];exact d
def Mu.at (μ:Mu)(b:Nat)(g:G):Prop:=μ b=O g/\g.it=Y
def Mu.at_le {μ μ':Mu}(h:μ.le μ'){b:Nat}{g:G}(k:μ.at b g):μ'.at b g:=⟨h _ _ k.1,k.2⟩
inductive F2 {α β:Type}(r:α->β->Prop):List α->List β->Prop where
 |nil:F2 r [] []
 |cons {a:α} {b:β} {l:List α} {m:List β}:r a b->F2 r l m->F2 r (a::l) (b::m)
inductive VR (μ:Mu):Value->Value->Prop where
 |bool (b:Bool):VR μ (.bool b) (.bool b)
 |int (k:IntKind) (n:Int):VR μ (.int k n) (.int k n)
 |string (s:ByteArray):VR μ (.string s) (.string s)
 |nilp:VR μ (.pointer Y) (.pointer Y)
 |ptr {b o:Nat} {g:G}:μ.at b g->VR μ (.pointer (O ⟨b,o,Y⟩)) (.pointer (O ⟨g.c,g.o+o,Y⟩))
 |nils:VR μ (.slice Y 0 0) (.slice Y 0 0)
 |slice {b o l c c':Nat} {g:G}:μ.at b g->l<=c->c<=c'->o+c'*g.es<=g.ext->VR μ (.slice (O ⟨b,o,Y⟩) l c) (.slice (O ⟨g.c,g.o+o,Y⟩) l c')
 |slice0 {b o:Nat} {g:G} (A':Addr):μ.at b g->VR μ (.slice (O ⟨b,o,Y⟩) 0 0) (.slice (O A') 0 0)
 |sliceX {b o c:Nat} {g:G}:μ.at b g->o+c*g.es<=g.ext->VR μ (.slice (O ⟨b,o,O 0⟩) c c) (.slice (O ⟨g.c,g.o+o,Y⟩) c c)
 |sliceX0 {b o:Nat} {g:G} (A':Addr):μ.at b g->VR μ (.slice (O ⟨b,o,O 0⟩) 0 0) (.slice (O A') 0 0)
 |nilf:VR μ .nilFunc .nilFunc
 |func {f:Fn} {a a' c c':Array Value}:F2 (VR μ) a.toList a'.toList->F2 (VR μ) c.toList c'.toList->VR μ (.func f a c) (.func f a' c')
 |nili:VR μ .nilIface .nilIface
 |iter {b:Nat} {g:G} {v:Value}:μ b=O g->g.it=O v->VR μ (.iface b v) (.pointer (O ⟨g.c,0,Y⟩))
 |agg {a a':Array Value}:F2 (VR μ) a.toList a'.toList->VR μ (.agg a) (.agg a')
 |tuple {a a':Array Value}:F2 (VR μ) a.toList a'.toList->VR μ (.tuple a) (.tuple a')
def F2.length {α β:Type}{r:α->β->Prop}{l:List α}{m:List β}(h:F2 r l m):l.length=m.length:=by
 induction h with
 |nil=>rfl
 |cons _ _ d=>simp[d]
def F2.get {α β:Type}{r:α->β->Prop}{l:List α}{m:List β}(h:F2 r l m): ∀(i:Nat) (a:α),l[i]?=O a->∃b,m[i]?=O b/\r a b:=by
 induction h with
 |nil=>intro i a h;simp at h
 |cons d _ f=>
  intro i a h;cases i with
  |zero=>simp at h;subst h;exact⟨_,V2,d⟩
  |succ i=>simp at h;simpa using f i a h
def F2.of_get {α β:Type}{r:α->β->Prop}: ∀(l:List α) (m:List β),dt l=dt m->(∀(i:Nat) (a:α) (b:β),l[i]?=O a->m[i]?=O b->r a b)->F2 r l m
 |[],[],_,_=> .nil
 |[],_::_,h,_=>by simp at h
 |_::_,[],h,_=>by simp at h
 |a::l,b::m,h,d=> .cons (d 0 a b rfl rfl) (F2.of_get l m V9 λi x y f g=>d (i+1) x y V7 Z3)
def F2.append {α β:Type}{r:α->β->Prop}{l l':List α}{m m':List β}(h:F2 r l m)(d:F2 r l' m'):F2 r (l++l') (m++m'):=by
 induction h with
 |nil=>exact d
 |cons f _ g=>exact .cons f g
def F2.take {α β:Type}{r:α->β->Prop}{l:List α}{m:List β}(h:F2 r l m): ∀n,F2 r (l.take n) (m.take n):=by
 induction h with
 |nil=>intro n;simp;exact .nil
 |cons d _ f=>
  intro n;cases n with
  |zero=>exact .nil
  |succ n=>exact .cons d (f n)
def F2.drop {α β:Type}{r:α->β->Prop}{l:List α}{m:List β}(h:F2 r l m): ∀n,F2 r (l.drop n) (m.drop n):=by
 induction h with
 |nil=>intro n;simp;exact .nil
 |cons d f g=>
  intro n;cases n with
  |zero=>exact .cons d f
  |succ n=>exact g n
def F2.same {α:Type}{r:α->α->Prop}: ∀(l:List α),(∀a∈l,r a a)->F2 r l l
 |[],_=> .nil
 |a::l,h=> .cons (h a V2) (F2.same l λb d=>h b (by simp[d]))
def F2.imp {α β:Type}{r s:α->β->Prop}(d: ∀a b,r a b->s a b){l:List α}{m:List β}(h:F2 r l m):F2 s l m:=by
 induction h with
 |nil=>exact .nil
 |cons f _ g=>exact .cons (d _ _ f) g
def VR.mono {μ μ':Mu}(f:μ.le μ'): ∀{v v':Value},VR μ v v'->VR μ' v v'
 |_,_, .bool b=> .bool b
 |_,_, .int k n=> .int k n
 |_,_, .string s=> .string s
 |_,_, .nilp=> .nilp
 |_,_, .ptr h=> .ptr (Mu.at_le f h)
 |_,_, .nils=> .nils
 |_,_, .slice h d g j=> .slice (Mu.at_le f h) d g j
 |_,_, .slice0 A' h=> .slice0 A' (Mu.at_le f h)
 |_,_, .sliceX h d=> .sliceX (Mu.at_le f h) d
 |_,_, .sliceX0 A' h=> .sliceX0 A' (Mu.at_le f h)
 |_,_, .nilf=> .nilf
 |_,_, .func d g=> .func (go d) (go g)
 |_,_, .nili=> .nili
 |_,_, .iter h d=> .iter (f _ _ h) d
 |_,_, .agg h=> .agg (go h)
 |_,_, .tuple h=> .tuple (go h)
where
 go {l m:List Value}:F2 (VR μ) l m->F2 (VR μ') l m
 | .nil=> .nil
 | .cons h t=> .cons (VR.mono f h) (go t)
def VR.undef (μ:Mu):VR μ undef undef:= .tuple .nil
def VR.one_iff {μ:Mu}(h:VR μ v v'):one v=v'.oneCell':=by cases h<;>rfl
def VR.cells {μ:Mu}(h:VR μ v v'):F2 (VR μ) (cellsOf v) v'.cells.toList:=by
 cases h with
 |agg h=>exact h
 |bool b=>exact .cons (.bool b) .nil
 |int k n=>exact .cons (.int k n) .nil
 |string s=>exact .cons (.string s) .nil
 |nilp=>exact .cons .nilp .nil
 |ptr h=>exact .cons (.ptr h) .nil
 |nils=>exact .cons .nils .nil
 |slice h d f g=>exact .cons (.slice h d f g) .nil
 |slice0 A' h=>exact .cons (.slice0 A' h) .nil
 |sliceX h d=>exact .cons (.sliceX h d) .nil
 |sliceX0 A' h=>exact .cons (.sliceX0 A' h) .nil
 |nilf=>exact .cons .nilf .nil
 |func d f=>exact .cons (.func d f) .nil
 |nili=>exact .cons .nili .nil
 |iter h d=>exact .cons (.iter h d) .nil
 |tuple h=>exact .cons (.tuple h) .nil
def GY :Value->Bool
 | .bool _| .int _ _| .string _| .pointer Y| .slice Y 0 0| .nilFunc| .nilIface=>Za
 | .agg d=>d.toList.all λ
  | .bool _| .int _ _| .string _| .pointer Y| .slice Y 0 0| .nilFunc| .nilIface=>Za
  |_=>Zb
 | .tuple d=>d.size==0
 |_=>Zb
def VR.plain1 (μ:Mu): ∀v:Value,(match v with
  | .bool _| .int _ _| .string _| .pointer Y| .slice Y 0 0| .nilFunc| .nilIface=>Za
  |_=>Zb)=Za->VR μ v v:=by
 intro v h;cases v with
 |bool b=>exact .bool b
 |int k n=>exact .int k n
 |string s=>exact .string s
 |pointer a=>cases a with
  |none=>exact .nilp
  |some a=>simp at h
 |slice a n c=>
  split at h<;>first|(rename_i d;cases d;exact .nils)|simp_all
 |nilFunc=>exact .nilf
 |nilIface=>exact .nili
 |_=>simp at h
def VR.plain {μ:Mu}(h:GY v=Za):VR μ v v:=by
 cases v with
 |agg d=>
  refine .agg (F2.same _ λa f=>VR.plain1 μ a ?_);simp only[GY,List.all_eq_true]at h;exact h a f
 |tuple d=>
  have:d= #[]:=by simpa[GY]using h
  subst this;exact .tuple .nil
 |bool b=>exact .bool b
 |int k n=>exact .int k n
 |string s=>exact .string s
 |pointer a=>cases a with
  |none=>exact .nilp
  |some a=>simp[GY]at h
 |slice a n c=>
  unfold GY at h;split at h<;>first|(rename_i g;cases g;exact .nils)|simp_all
 |nilFunc=>exact .nilf
 |nilIface=>exact .nili
 |_=>simp[GY]at h
structure Base (P:Program)where
 n:Nat
 h:Nat->Option Obj
 tab: ∀w:World,n<=w.heap.size->(∀b,b<n->w.heap[b]?=h b)->P.globalNamed "internal/strconv.uint64pow10" ≠Y->Lib.TabIs P w "internal/strconv.uint64pow10" .u64 Lib.pow10Tab
instance (P :Program):CoeHead (Base P) Nat:=⟨Base.n⟩
def HL (P:Program)(t:TypeId):Bool:=match P.types[t]? with
 |some i=>(match i.desc with
  | .named n _=>n== "strings.Builder"
  |_=>Zb)
 |none=>Zb
def iK (w:World)(c:Nat):Option Nat:=match w.heap[c]? with
 |some (.cells d _ _)=>(d[1]?).bind Value.ownBlock
 |_=>Y
def QF (w:World)(g i:Nat)(cs:Array Value)(t:TypeId)(d:Nat×Nat)(v:Value)(f:w.heap[g]?=O (.cells cs t d)):(w.setCell ⟨g,i,Y⟩ v).heap[g]?=O (.cells (cs.setIfInBounds i v) t d):=by
 simp[World.setCell,Array.getElem?_modify,f]
def LX (w:World)(g j:Nat)(cs:Array Value)(t:TypeId)(d:Nat×Nat)(h:w.heap[g]?=O (.cells cs t d))(m:j<cs.size)(f:cs.size<=d.1∨d.1=d.2):w.frozen? ⟨g,j,Y⟩=Zb:=by
 have⟨lo,l⟩:=d;simp only at f;simp only[World.frozen?,h,Bool.and_eq_false_iff,decide_eq_false_iff_not];omega
structure Lives {P:Program}(B:Base P)(μ:Mu)(w:World)(x:Blk)(g:G):Prop where
 lt:g.c<w.heap.size
 es:g.es=x.es
 cell:g.it=Y->∀(i:Nat) (v:Value),x.cells[i]?=O v->∃v',w.cell? ⟨g.c,g.o+i,Y⟩=O v'/\VR μ v v'
 own:g.it=Y->x.own=Za->B.n<=g.c/\(dt x.cells)<=g.ext/\∃cur e fr,w.heap[g.c]?=O (.cells cur e fr)/\g.o+g.ext<=cur.size/\(cur.size<=fr.1∨fr.1=fr.2)
 iter: ∀s,g.it=O (.string s)->B.n<=g.c/\∃p:Nat,x.cells=[Value.int .i64 p].take (dt x.cells)/\w.heap[g.c]?=O (.stringIter s p)
 bld:g.it=O .nilFunc->HL P g.ty=Za/\∃p s,(p= .pointer Y∨p= .pointer (O ⟨g.c,0,Y⟩))/\x.cells=[Value.string s].take (dt x.cells)/\Lib.BuilderAtF g.ty P.rt.byte B.n g.c p (Lib.strCells s) w
def Sep (μ:Mu)(Z:Hp)(w:World):Prop:= ∀b x g,Z.m b=O x->μ b=O g->g.it=O .nilFunc->∀k,iK w g.c=O k->∀f h d,Z.m f=O h->μ f=O d->d.c≠k/\(f≠b->d.it=O .nilFunc->iK w d.c≠O k)
def Sep.of {μ μ':Mu}{Z Z':Hp}{w':World}(h:Sep μ Z w)(j: ∀b x g,Z'.m b=O x->μ' b=O g->(∃y,Z.m b=O y/\μ b=O g)∨(g.it≠O .nilFunc/\∀b1 L t k,Z.m b1=O L->μ b1=O t->t.it=O .nilFunc->iK w t.c=O k->g.c≠k))
  (D: ∀b x g,Z.m b=O x->μ b=O g->g.it=O .nilFunc->(∃y,Z'.m b=O y)->iK w' g.c=iK w g.c):Sep μ' Z' w':=by
 intro b x g E I f k A r F s n z;rcases j b x g E I with⟨y,l,u⟩|⟨l,_⟩
 .rw[D b y g l u f ⟨x,E⟩]at A;rcases j r F s n z with⟨H,p,q⟩|⟨p,q⟩
  .obtain⟨J,K⟩:=h b y g l u f k A r H s p q;exact⟨J,λC d=>by rw[D r H s p q d ⟨F,n⟩];exact K C d⟩
  .exact⟨q b y g k l u f A,λ_ d=>(p d).elim⟩
 .exact(l f).elim
def TJ {T e:TypeId}{n b:Nat}{p:Value}{bs:List Value}{w':World}(h:Lib.BuilderAtF T e n b p bs w)(z:w'.heap[b]?=w.heap[b]?)(C: ∀k,iK w b=O k->w'.heap[k]?=w.heap[k]?):Lib.BuilderAtF T e n b p bs w':=by
 have⟨u,v,f,d,r⟩:=h;refine⟨u,v,z.trans f,⟨d.1, ?_⟩,r⟩;rcases d.2 with D|⟨g,l,m,t,s,A,q,j⟩
 .exact .inl D
 .exact .inr ⟨g,l,m,t,s,A,(C g (by subst s;simp[iK,f,Value.ownBlock])).trans q,j⟩
def W7 {T e:TypeId}{n b:Nat}{p:Value}{bs:List Value}(h:Lib.BuilderAtF T e n b p bs w){k:Nat}(q:iK w b=O k):n<=k/\k<w.heap.size/\k≠b:=by
 have⟨r,v,f,d,g⟩:=h;have j:v.ownBlock=O k:=by simpa[iK,f]using q
 have⟨l,m⟩:=d.lt k j;exact⟨l,m,λe=>g (e▸j)⟩
structure R {P:Program}(B:Base P)(μ:Mu)(Z:Hp)(w:World):Prop where
 base:B.n<=w.heap.size
 old: ∀b,b<B.n->w.heap[b]?=B.h b
 fresh: ∀b,Z.n<=b->μ b=Y
 live: ∀b x,Z.m b=O x->∃g,μ b=O g/\Lives B μ w x g
 inj: ∀b b' x x' g g',Z.m b=O x->Z.m b'=O x'->b≠b'->x.own=Za->μ b=O g->μ b'=O g'->g.c≠g'.c
 sep:Sep μ Z w
section
variable {P:Program} {B:Base P} {μ μ':Mu} {Z:Hp} {w w':World}
def Lives.mono {x:Blk}{g:G}(h:Lives B μ w x g)(m:μ.le μ'):Lives B μ' w x g:=
 ⟨h.lt,h.es,λd i v l=>let⟨v',f,j⟩:=h.cell d i v l;⟨v',f,j.mono m⟩,h.own,h.iter,h.bld⟩
def Lives.kept {x:Blk}{g:G}(h:Lives B μ w x g)(t:w.heap.size<=w'.heap.size)(j:w'.heap[g.c]?=w.heap[g.c]?)(A:g.it=O .nilFunc->∀k,iK w g.c=O k->w'.heap[k]?=w.heap[k]?):Lives B μ w' x g:=
 ⟨aB h.lt t,h.es,λm i v D=>let⟨v',d,n⟩:=h.cell m i v D;⟨v',(World.cell?_of_block (w:=w) (w':=w') j).trans d,n⟩,λm C=>by
  have⟨d,n,l,e,z,f,r⟩:=h.own m C
  exact⟨d,n,l,e,z,j.trans f,r⟩,λs t=>let⟨d,p,q,f⟩:=h.iter s t;⟨d,p,q,j.trans f⟩,λu=>let⟨d,p,s,q,f,r⟩:=h.bld u;⟨d,p,s,q,f,TJ r j (A u)⟩⟩
def R.same (h:R B μ Z w)(d:w'.heap=w.heap):R B μ Z w':=
 ⟨by rw[d];exact h.base,λb m=>by rw[d];exact h.old b m,h.fresh,λb x f=>let⟨g,j,l⟩:=h.live b x f;⟨g,j,l.kept (by rw[d];exact Nat.le_refl _) (by rw[d]) (λ_ k _=>by rw[d])⟩,h.inj,h.sep.of (λb x g f n=> .inl ⟨x,f,n⟩) (λb x g _ _ _ _=>by unfold iK;rw[d])⟩
def R.get (h:R B μ Z w){b:Nat}{x:Blk}{g:G}(l:Z.m b=O x)(j:μ b=O g):Lives B μ w x g:=by
 have⟨n,d,f⟩:=h.live b x l;rw[j]at d;injection d with d
 exact d▸f
def R.buf (h:R B μ Z w){b:Nat}{x:Blk}{g:G}(q:Z.m b=O x)(f:μ b=O g)(j:g.it=O .nilFunc){k:Nat}(l:iK w g.c=O k):B.n<=k/\k<w.heap.size/\k≠g.c:=by
 have⟨_,p,s,_,_,d⟩:=(h.get q f).bld j;exact W7 d l
def R.stays (h:R B μ Z w){b:Nat}{x:Blk}{g:G}(l:Z.m b=O x)(f:μ b=O g)(r:w.heap.size<=w'.heap.size)(c:Nat)(d: ∀k,k≠c->k<w.heap.size->w'.heap[k]?=w.heap[k]?)(q:g.c≠c)(j:g.it=O .nilFunc->iK w g.c≠O c):Lives B μ w' x g:=
 (h.get l f).kept r (d _ q (h.get l f).lt) λn k p=>d k (λe=>j n (e▸p)) (h.buf l f n p).2.1
def R.kill (h:R B μ Z w)(b:Nat):R B μ (Z.set b Y) w:=by
 have j: ∀f x,(Z.set b Y).m f=O x->Z.m f=O x:=by
  intro f x d;simp only[Hp.set]at d;split at d
  .cases d
  .exact d
 exact⟨h.base,h.old,h.fresh,λf x d=>h.live f x (j _ _ d),λl n x t g p q r=>h.inj l n x t g p (j _ _ q) (j _ _ r),h.sep.of (λf x g d s=> .inl ⟨x,j _ _ d,s⟩) (λ_ _ _ _ _ _ _=>rfl)⟩
def R.add (h:R B μ Z w)(d:Array Value)(e:TypeId)(cells:List Value)(es:Nat)(H:dt cells<=d.size)(T:F2 (VR μ) cells (d.toList.take (dt cells))):
  R B (μ.add Z.n ⟨w.heap.size,0,d.size,es,e,Y⟩) (Z.add ⟨cells,Za,es⟩) (w.alloc (.cells d e))/\μ.le (μ.add Z.n ⟨w.heap.size,0,d.size,es,e,Y⟩):=by
 have U:μ Z.n=Y:=h.fresh _ (Nat.le_refl _);have p:μ.le (μ.add Z.n ⟨w.heap.size,0,d.size,es,e,Y⟩):=Mu.le_add U
 have old: ∀b x,b≠Z.n->(Z.add ⟨cells,Za,es⟩).m b=O x->Z.m b=O x:=by
  intro b x f j;simpa[Hp.add,f]using j
 have J: ∀x,(Z.add ⟨cells,Za,es⟩).m Z.n=O x->x=⟨cells,Za,es⟩:=by
  intro x j;simp[Hp.add]at j;exact j.symm
 have l: ∀b x g,Z.m b=O x->μ b=O g->g.c<w.heap.size:=λb x g j r=>(h.get j r).lt
 refine⟨⟨Nat.le_trans h.base V2,λb f=>(Below.heap_alloc w _ _ (aB f h.base)).trans (h.old b f),λb f=> ?_,λb x j=> ?_,λb A x L g C j s D W r z=> ?_, ?_⟩,p⟩
 .have:Z.n+1<=b:=f;unfold Mu.add;rw[Zh];exact h.fresh b V1
 .by_cases f:b=Z.n
  .subst f;obtain rfl:=J x j;refine⟨⟨w.heap.size,0,d.size,es,e,Y⟩,ZG,⟨V2,rfl,λ_ i v K=> ?_,λ_ _=>⟨h.base,H,d,e,(0,0),heap_alloc_new w _,V2, .inr rfl⟩,λ_ I=>(by cases I),λI=>by cases I⟩⟩;have⟨v',t,u⟩:=T.get i v K
   have F:i<dt cells:=by
    rcases Nat.lt_or_ge i (dt cells) with h3|h3
    .exact h3
    .simp[List.getElem?_eq_none h3]at K
   refine⟨v', ?_,u.mono p⟩;rw[Nat.zero_add,cell_of_row _ _ _ d e (0,0) (heap_alloc_new w _)];rw[List.getElem?_take,zE F]at t;simpa using t
  .have s:=old b x f j;have⟨g,t,u⟩:=h.live b x s;exact⟨g,p _ _ t,(u.mono p).kept V2 (Below.heap_alloc w _ _ u.lt) (λF k V=>Below.heap_alloc w _ _ (h.buf s t F V).2.1)⟩
 .by_cases f:b=Z.n
  .subst f;have q:A≠Z.n:=λe=>D e.symm
   have:g.c=w.heap.size:=by simp[Mu.add]at r;rw[<-r]
   have u:μ A=O C:=by simpa[Mu.add,q]using z
   have:=l A L C (old _ _ q s) u;omega
  .have t:μ b=O g:=by simpa[Mu.add,f]using r
   have E:=old b x f j;by_cases q:A=Z.n
   .subst q;have:C.c=w.heap.size:=by simp[Mu.add]at z;rw[<-z]
    have:=l b x g E t;omega
   .have u:μ A=O C:=by simpa[Mu.add,q]using z
    exact h.inj b A x L g C E (old _ _ q s) D W t u
 .refine h.sep.of (λb x g j r=> ?_) (λb x g j r F _=> ?_)
  .by_cases f:b=Z.n
   .subst f;have M:g=⟨w.heap.size,0,d.size,es,e,Y⟩:=by simp[Mu.add]at r;exact r.symm
    subst M;exact .inr ⟨λQ=>(by cases Q),λX x1 g1 k t u h3 S e=>by have:=(h.buf t u h3 S).2.1;simp only at e;omega⟩
   .exact .inl ⟨x,old b x f j,by simpa[Mu.add,f]using r⟩
  .unfold iK;rw[Below.heap_alloc w _ _ (l b x g j r)]
def R.write1 (h:R B μ Z w){b:Nat}{x:Blk}{g:G}(J:Z.m b=O x)(ho:x.own=Za)(H:μ b=O g)(t:g.it=Y)(i:Nat)(I:i<dt x.cells)(hv:VR μ v v'):
  R B μ (Z.set b (O ⟨x.cells.set i v,x.own,x.es⟩)) (w.setCell ⟨g.c,g.o+i,Y⟩ v'):=by
 have V:=h.get J H;have⟨o1,o2,K,e,L,o4,o5,o6⟩:=V.own t ho;have n: ∀k,k≠g.c->(w.setCell ⟨g.c,g.o+i,Y⟩ v').heap[k]?=w.heap[k]?:=λk D=>heap_setCell_other w _ k v' (by simpa using D)
 have z:(w.setCell ⟨g.c,g.o+i,Y⟩ v').heap[g.c]?=O (.cells (K.setIfInBounds (g.o+i) v') e L):=QF w g.c (g.o+i) K e L v' o4
 have old: ∀l f,l≠b->(Z.set b (O ⟨x.cells.set i v,x.own,x.es⟩)).m l=O f->Z.m l=O f:=by
  intro l f r d;simpa[Hp.set,r]using d
 have S: ∀f,(Z.set b (O ⟨x.cells.set i v,x.own,x.es⟩)).m b=O f->f=⟨x.cells.set i v,x.own,x.es⟩:=by
  intro f d;simp[Hp.set]at d;exact d.symm
 refine⟨by simpa using h.base,λk D=>(n k V1).trans (h.old k D),h.fresh,λl f d=> ?_,λb1 b2 x1 x2 g1 g2 A U E M X hg2=> ?_, ?_⟩
 .by_cases r:l=b
  .subst r;obtain rfl:=S f d;refine⟨g,H,⟨by simpa using V.lt,V.es,λ_ j u W=> ?_,λ_ _=>⟨o1,by simpa using o2,_,e,L,z,by simpa using o5,by simpa using o6⟩,λs Q=>(by rw[t]at Q;cases Q),λQ=>by rw[t]at Q;cases Q⟩⟩;rw[cell_of_row _ _ _ _ e L z];by_cases hj:j=i
   .subst hj;simp[I]at W;subst W;refine⟨v', ?_,hv⟩;rw[Array.getElem?_setIfInBounds_self_of_lt V1]
   .rw[List.getElem?_set_ne (λe=>hj e.symm)]at W;have⟨u',A,U⟩:=V.cell t j u W;refine⟨u', ?_,U⟩;rw[cell_of_row _ _ _ _ e L o4]at A;rw[Array.getElem?_setIfInBounds_ne V1];exact A
  .have C:=old l f r d;have⟨F,A,U⟩:=h.live l f C;refine⟨F,A,h.stays C A V2 g.c (λk D _=>n k D) (λe=>h.inj b l x f g F J C (λe=>r e.symm) ho H A e.symm) (λI D=>((h.sep l f F C A I _ D b x g J H).1 rfl))⟩
 .have q: ∀l f,(Z.set b (O ⟨x.cells.set i v,x.own,x.es⟩)).m l=O f->∃y,Z.m l=O y/\y.own=f.own:=by
   intro l f d;by_cases r:l=b
   .subst r;obtain rfl:=S f d;exact⟨x,J,rfl⟩
   .exact⟨f,old l f r d,rfl⟩
  have⟨y1,hy1,e1⟩:=q _ _ A;have⟨y2,hy2,_⟩:=q _ _ U;exact h.inj b1 b2 y1 y2 g1 g2 hy1 hy2 E (e1.trans M) X hg2
 .have T: ∀l f,(Z.set b (O ⟨x.cells.set i v,x.own,x.es⟩)).m l=O f->∃y,Z.m l=O y:=by
   intro l f d;by_cases r:l=b
   .subst r;exact⟨x,J⟩
   .exact⟨f,old l f r d⟩
  refine h.sep.of (λl f F d p=> .inl (let⟨y,hy⟩:=T l f d;⟨y,hy,p⟩)) (λl f F d p I _=> ?_);have E:l≠b:=λe=>by subst e;rw[H]at p;cases p;rw[t]at I;cases I
  unfold iK;rw[n _ (λe=>h.inj b l x f g F J d (λe=>E e.symm) ho H p e.symm)]
end
end
section
open List renaming getElem?_eq_getElem -> aB
open Nat renaming add_assoc -> aD
open Result renaming andThen_ok -> bB
open Go.RowKit
def dq :Operand->Bool
 | .const v=>GY v
 | .global _=>Zb
 |_=>Za
def Bu (x:Operand):Option Operand:=if dq x then O x else Y
def ay9 :Option Operand->Option (Option Operand)
 |some x=>(Bu x).map O
 |none=>O Y
def mK (P:Program)(t:TypeId):Option Nat:=(P.info? t).map (·.size)
def Ru (P:Program)(t:TypeId):Option Nat:=(P.info? t).map (·.bytes)
def yE :Value->Bool
 | .bool _| .int _ _| .string _| .pointer Y| .slice Y 0 0| .nilFunc| .nilIface=>Za
 |_=>Zb
def oP (P:Program)(t:TypeId):Option (List Value):=match(P.info? t).bind (·.zero)with
 |some z=>if(cellsOf z).all yE then O (cellsOf z)else Y
 |none=>Y
def AI (P:Program)(t:TypeId):Option Bool:=match P.underlying t with
 |some (.struct _)|some (.array _ _)=>O Za
 |some _=>O Zb
 |none=>Y
def aV3 (P:Program)(t:TypeId):Option Nat:=match P.underlying t with
 |some (.array _ e)=>mK P e
 |_=>O 1
def ga (μ:Mu)(N:Nat)(e:cm)(d:Array Value):Prop:=d.size=N/\∀t,VR μ (e t) (d.getD t undef)
def ga.mono {μ μ':Mu}{d:Array Value}(h:ga μ N e d)(f:μ.le μ'):ga μ' N e d:=⟨h.1,λt=>(h.2 t).mono f⟩
def ga.put {μ:Mu}{f:Array Value}(h:ga μ N e f)(d:Nat)(j:d<N)(l:VR μ v v'):ga μ N (e.put d v) (f.setIfInBounds d v'):=by
 refine⟨by simpa using h.1,λt=> ?_⟩;unfold cm.put;by_cases g:t=d
 .subst g;simp[h.1,j];exact l
 .rw[zF g];have:=h.2 t;simpa[Array.getElem?_setIfInBounds_ne (λe=>g e.symm)]using this
def ga.ev {μ:Mu}{a:Act}(h:ga μ N e a.tmps)(d:dq x=Za):VR μ (e.ev x) (a.eval x):=by
 cases x with
 |tmp t=>exact h.2 t
 |const v=>exact VR.plain d
 |global g=>simp[dq]at d
 |func f=>exact .func .nil .nil
def kU (P:Program)(o:Oper)(a:Act)(w:World)(B:Base P)(μ:Mu)(v:Value)(Z':Hp):Prop:=
 ∃d w' μ' v',(execOp a.eval o).run P w= .ok d w'/\(d= .value v'∨(d= .skip/\v'=undef))/\μ.le μ'/\R B μ' Z' w'/\VR μ' v v'/\Below B w w'
section
variable {P:Program} {o:Oper} {a:Act} {w:World} {B:Base P} {N:Nat} {μ:Mu} {e:cm} {Z Z':Hp} {v:Value}
def kU.same {v':Value}(f:R B μ Z w)(d:(execOp a.eval o).run P w= .ok (.value v') w)(g:VR μ v v'):kU P o a w B μ v Z:=
 ⟨_,w,μ,v',d, .inl rfl,μ.le_refl,f,g,Below.refl _ _⟩
def bc (h:Bu x=O y):x=y/\dq x=Za:=by
 unfold Bu at h;split at h
 .rename_i d;exact⟨V9,d⟩
 .cases h
def fX {t:TypeId}{d:TypeDesc}(h:P.underlying t=O d)(w:World):(underlying t).run P w= .ok d w:=by simp[underlying,h]
def nC {t:TypeId}{n:Nat}(h:mK P t=O n)(w:World):(sizeOf t).run P w= .ok n w:=by
 have⟨i,d,f⟩:=Option.map_eq_some_iff.1 h;simp[sizeOf,typeInfo,d,f]
def FU {t:TypeId}(h:AI P t=O b)(w:World):(isAgg t).run P w= .ok b w:=by
 unfold AI at h;unfold isAgg;cases f:P.underlying t with
 |none=>simp[f]at h
 |some d=>
  simp only[Sem.run_bind,fX f,bB];cases d<;>simp[f]at h<;>subst h<;>rfl
def mz {t:TypeId}{z:List Value}(h:oP P t=O z): ∃v,(∀w:World,(zeroValue t).run P w= .ok v w)/\cellsOf v=z/\z.all yE=Za:=by
 unfold oP at h;cases d:P.info? t with
 |none=>simp[d]at h
 |some i=>
  cases f:i.zero with
  |none=>simp[d,f]at h
  |some v=>
   simp only[d,f,zG]at h;split at h
   .rename_i g;injection h with h
    exact⟨v,λw=>by simp[zeroValue,typeInfo,d,f],h,h▸g⟩
   .cases h
def VR.plainCells {μ:Mu}{z:List Value}(h:z.all yE=Za):F2 (VR μ) z z:=F2.same _ λv d=>VR.plain1 μ v (by
 have:=List.all_eq_true.1 h v d;unfold yE at this
 exact this)
def qv (b o n:Nat):(⟨b,o,Y⟩:Addr).add n=⟨b,o+n,Y⟩:=by unfold Addr.add;split<;>simp_all
def R.reads {b o:Nat}{x:Blk}{g:G}(E:R B μ Z w)(I:Z.m b=O x)(z:μ.at b g){n:Nat}{cs:List Value}(h:rf x o n=O cs):
  ∃f,(∀(P:Program) (w':World),w'.heap=w.heap->(loadCells ⟨g.c,g.o+o,Y⟩ n).run P w'= .ok f.toArray w')/\F2 (VR μ) cs f:=by
 unfold rf at h;split at h
 .rename_i H;cases h;have F:=E.get I z.1
  have d: ∀j,j<n->∃v',w.cell? ⟨g.c,g.o+o+j,Y⟩=O v'/\VR μ (x.cells.getD (o+j) undef) v':=by
   intro j A;have⟨v',l,r⟩:=F.cell z.2 (o+j) (x.cells[o+j]' V1) (aB V1);refine⟨v',by rw[aD];exact l, ?_⟩;simp[List.getD,aB (show o+j<(dt x.cells) by omega)];exact r
  refine⟨(List.range n).map λj=>(w.cell? ⟨g.c,g.o+o+j,Y⟩).getD undef,λP w' t=> ?_, ?_⟩
  .have:=run_loadCells (P:=P) w' ⟨g.c,g.o+o,Y⟩ n (λj=>(w.cell? ⟨g.c,g.o+o+j,Y⟩).getD undef) (λj A=>by
    rw[qv];have⟨v',l,_⟩:=d j A;have:w'.cell? ⟨g.c,g.o+o+j,Y⟩=w.cell? ⟨g.c,g.o+o+j,Y⟩:=by simp[World.cell?,t]
    rw[this]
    simp[l])
   rw[this]
  .refine F2.of_get _ _ V3 λi u J q p=> ?_
   have s:i<n:=by
    rcases Nat.lt_or_ge i n with h3|h3
    .exact h3
    .rw[List.getElem?_eq_none V3]at q;cases q
   have⟨v',l,r⟩:=d i s
   have C:J=v':=by
    simp[s,l]at p;exact p.symm
   have D:u=x.cells.getD (o+i) undef:=by
    rw[List.getElem?_take,zE s,List.getElem?_drop]at q;simp[List.getD,q]
   rw[C,D];exact r
 .cases h
def R.writes : ∀(vs d:List Value),F2 (VR μ) vs d->(∀v∈vs,one v=Za)->∀(Z:Hp) (w:World) (b o i:Nat) (x:Blk) (g:G),R B μ Z w->Z.m b=O x->x.own=Za->μ.at b g->o+i+dt vs<=dt x.cells->
  ∃w',(∀P:Program,(storeCells ⟨g.c,g.o+o,Y⟩ d i).run P w= .ok () w')/\R B μ (Z.set b (O ⟨lg x.cells (o+i) vs,x.own,x.es⟩)) w'/\Below B w w'
 |[],_,h,_,Z,w,b,o,i,x,g,p,r,q,f,l=>by
  cases h;refine⟨w,λP=>by simp[storeCells], ?_,Below.refl _ _⟩
  have:Z.set b (O ⟨lg x.cells (o+i) [],x.own,x.es⟩)=Z:=by
   unfold Hp.set
   have:(λj=>if j=b then O (⟨lg x.cells (o+i) [],x.own,x.es⟩:Blk)else Z.m j)=Z.m:=by
    funext j
    split
    .rename_i e;subst e;rw[r];rfl
    .rfl
   rw[this]
  rw[this];exact p
 |v::vs,_,h,z,Z,w,b,o,i,x,g,p,r,q,f,l=>by
  cases h with
  |cons D M=>
   rename_i v' d;simp only[List.length_cons]at l;have C:=p.get r f.1;have⟨T,W,E,e,F,U,X,V⟩:=C.own f.2 q;have s:=p.write1 r q f.1 f.2 (o+i) V1 D;have n:v'.oneCell'=Za:=by rw[<-D.one_iff];exact z v V2
   have⟨u,Q,_⟩:=C.cell f.2 (o+i) (x.cells[o+i]' V1) (aB V1);have t:w.frozen? ⟨g.c,g.o+(o+i),Y⟩=Zb:=LX w _ _ _ _ F U V1 V;have K:(Z.set b (O ⟨x.cells.set (o+i) v,x.own,x.es⟩)).m b=O ⟨x.cells.set (o+i) v,x.own,x.es⟩:=by simp[Hp.set]
   have⟨w',H,A,I⟩:=R.writes vs d M (λy S=>z y (by simp[S])) _ _ b o (i+1) _ g s K q f V3;refine⟨w',λP=> ?_, ?_, ?_⟩
   .have J:(⟨g.c,g.o+o,Y⟩:Addr).add i=⟨g.c,g.o+(o+i),Y⟩:=by rw[qv,aD]
    simp only[storeCells,Sem.run_bind,J,run_store P w _ v' .plain n,Q,t,Bool.false_eq_true,if_false,bB];exact H P
   .have L:(Z.set b (O ⟨x.cells.set (o+i) v,x.own,x.es⟩)).set b (O ⟨lg (x.cells.set (o+i) v) (o+(i+1)) vs,x.own,x.es⟩)=Z.set b (O ⟨lg x.cells (o+i) (v::vs),x.own,x.es⟩):=by
     unfold Hp.set
     have:(λj=>if j=b then O (⟨lg (x.cells.set (o+i) v) (o+(i+1)) vs,x.own,x.es⟩:Blk)else if j=b then O ⟨x.cells.set (o+i) v,x.own,x.es⟩else Z.m j)=
       (λj=>if j=b then O (⟨lg x.cells (o+i) (v::vs),x.own,x.es⟩:Blk)else Z.m j):=by
      funext j
      split<;>simp[lg,aD]
     simp only[this]
    rw[L]at A;exact A
   .exact((Below.refl B w).setCell T v').trans I
end
end
section
open Go.RowKit
def vZ (d:Nat->Option (Nat×Nat)):List (Nat×Operand)->Option (List (Nat×Nat×Operand))
 |[]=>O []
 |(i,x)::r=>match d i,Bu x,vZ d r with
  |some (f,n),O x,O r=>O ((f,n,x)::r)
  |_,_,_=>Y
def Km :List Operand->Option (List Operand)
 |[]=>O []
 |x::r=>match Bu x,Km r with
  |some x,O r=>O (x::r)
  |_,_=>Y
def H0 (P:Program)(fs:Array Field)(i:Nat):Option (Nat×Nat):=match fs[i]? with
 |some f=>(mK P f.type).map λn=>(f.offset,n)
 |none=>Y
def TW (P:Program)(f:FuncId):Bool:=match P.funcs[f]? with
 |some d=>d.body.isSome&& !(d.name== "runtime.NumGoroutine")
 |none=>Zb
def zy (P:Program)(t:TypeId):Option Nat:=match P.underlying t with
 |some .bool=>O 0
 |some (.int _)=>O 1
 |some .string=>O 2
 |_=>Y
def zK (P:Program):Nat->List Field->Option (List Nat)
 |_,[]=>O []
 |i,f::r=>if f.offset=i/\f.name≠ "_" then match zy P f.type,zK P (i+1) r with
  |some k,O d=>O (k::d)
  |_,_=>Y
  else Y
def P2 (P:Program)(t:TypeId):Option (List Nat):=match P.underlying t with
 |some (.struct fs)=>if P.eqGuardType P.depth t=Zb/\P.stoodInHeld t=Zb then zK P 0 fs.toList else Y
 |some (.array n e)=>if mK P e=O 1/\P.eqGuardType P.depth t=Zb then(zy P e).map λk=>List.replicate n k else Y
 |_=>Y
def aw2 :TypeDesc->Option Nat
 | .bool=>O 0
 | .pointer _=>O 1
 | .slice _=>O 2
 | .func _ _ _=>O 3
 |_=>Y
def Ta (P:Program)(op:BinOp)(t:TypeId)(x y:Operand):Option AOp:=
 match P.underlying t with
 |some (.int _)|some .string=>match Bu x,Bu y with
  |some x,O y=>O (.bin op x y)
  |_,_=>Y
 |some (.struct _)|some (.array _ _)=>match op,P2 P t,Bu x,Bu y with
  | .eql,O n,O x,O y=>O (.eqCells Zb n x y)
  | .neq,O n,O x,O y=>O (.eqCells Za n x y)
  |_,_,_,_=>Y
 |some d=>match aw2 d,op,Bu x,Bu y with
  |some f, .eql,O x,O y=>O (.eqv f Zb x y)
  |some f, .neq,O x,O y=>O (.eqv f Za x y)
  |_,_,_,_=>Y
 |none=>Y
def Dn (P:Program)(c:Call):Option AOp:=
 match c.callee with
 | .value (.func f)=>if TW P f then(Km c.args.toList).map (.call f ·)else Y
 | .value (.tmp t)=>(Km c.args.toList).map (.callv (.tmp t) ·)
 | .builtin .append=>match c.args.toList,c.argTypes.toList with
  |[s,x],[l,m]=>match P.underlying l,P.underlying m,Bu s,Bu x with
   |some (.slice e),O (.slice _),O s,O x|some (.slice e),O .string,O s,O x=>match mK P e,Ru P e,oP P e with
    |some h,O g,O z=>if dt z=h then O (.append h g s x)else Y
    |_,_,_=>Y
   |some (.slice e),O (.int _),O s,O x=>match mK P e,Ru P e,oP P e with
    |some h,O g,O z=>if dt z=h/\0<h then O (.appendZ h g z s x)else Y
    |_,_,_=>Y
   |_,_,_,_=>Y
  |_,_=>Y
 | .builtin .copy=>match c.args.toList,c.argTypes.toList with
  |[d,s],j::_=>match P.underlying j,Bu d,Bu s with
   |some (.slice e),O d,O s=>match mK P e with
    |some h=>O (.copy h d s)
    |none=>Y
   |_,_,_=>Y
  |_,_=>Y
 | .builtin .len=>match c.args.toList,c.argTypes.toList with
  |[x],t::_=>match P.underlying t,Bu x with
   |some (.slice _),O x=>O (.len x)
   |_,_=>Y
  |_,_=>Y
 | .builtin .cap=>match c.args.toList,c.argTypes.toList with
  |[x],[t]=>match P.underlying t,Bu x with
   |some (.slice _),O x=>O (.capN x)
   |_,_=>Y
  |_,_=>Y
 | .builtin .max=>match c.args.toList with
  |[x,y]=>match Bu x,Bu y with
   |some x,O y=>O (.most x y)
   |_,_=>Y
  |_=>Y
 | .builtin .min=>match c.args.toList with
  |[x,y]=>match Bu x,Bu y with
   |some x,O y=>O (.least x y)
   |_,_=>Y
  |_=>Y
 |_=>Y
def Tc (P:Program)(o:Oper):Option AOp:=
 match o.op with
 | .move x| .assign x=>(Bu x).map .move
 | .pick c a b=>match Bu c,Bu a,Bu b with
  |some c,O a,O b=>O (.pick c a b)
  |_,_,_=>Y
 | .alloc t=>if HL P t=Za then(match oP P t with
   |some [.pointer Y, .slice Y 0 0]=>O .newB
   |_=>Y)
  else match aV3 P t,oP P t with
  |some q,O z=>O (.alloc q z)
  |_,_=>Y
 | .box t x=>match aV3 P t,Bu x with
  |some q,O x=>O (.box q x)
  |_,_=>Y
 | .build t g=>match P.underlying t,oP P t with
  |some (.struct fs),O z=>if fs.toList.all λf=>(mK P f.type).isSome then(vZ (H0 P fs) g.toList).map (.build z ·)else Y
  |some (.array _ e),O z=>match mK P e with
   |some n=>(vZ (λi=>O (i*n,n)) g.toList).map (.build z ·)
   |none=>Y
  |_,_=>Y
 | .buildSlice t m g=>match P.underlying t with
  |some (.slice e)=>match mK P e,oP P e with
   |some n,O z=>if m*n<=16777216/\(dt z)=n/\0<n then(vZ (λi=>O (i*n,n)) g.toList).map (.buildSlice n m z ·)else Y
   |_,_=>Y
  |_=>Y
 | .load _ (.global _)=>O .stuck
 | .load t x=>match AI P t,Bu x with
  |some Za,O x=>(mK P t).map (.loadN · x)
  |some Zb,O x=>O (.load x)
  |_,_=>Y
 | .store t x y=>match mK P t,Bu x,Bu y with
  |some n,O x,O y=>O (.store n x y)
  |_,_,_=>Y
 | .nilCheck x=>(Bu x).map .nilCheck
 | .binOp op t x y _=>Ta P op t x y
 | .unOp op _ x=>(Bu x).map (.un op ·)
 | .convert s d x=>match P.underlying s,P.underlying d,Bu x with
  |some (.int _),O (.int k),O x=>O (.conv k x)
  |some (.slice t),O .string,O x=>match P.underlying t with
   |some (.int .u8)=>O (.strOf x)
   |_=>Y
  |_,_,_=>Y
 | .makeFunc (.func f) first h=>match Km first.toList,Km h.toList with
  |some r,O u=>O (.mkFunc f r u)
  |_,_=>Y
 | .makeSlice t l c=>match P.underlying t with
  |some (.slice e)=>match mK P e,Ru P e,oP P e,Bu l,Bu c with
   |some n,O p,O z,O l,O c=>if dt z=n/\0<n then O (.makeSlice n p z l c)else Y
   |_,_,_,_,_=>Y
  |_=>Y
 | .slice t x lo j Y=>match P.underlying t,Bu x,ay9 lo,ay9 j with
  |some (.slice e),O x,O lo,O j=>(mK P e).map (.slice · x lo j)
  |some .string,O x,O lo,O j=>O (.sliceStr x lo j)
  |some (.array n e),O x,O lo,O j=>(mK P e).map (.sliceArr · n x lo j)
  |_,_,_,_=>Y
 | .fieldAddr s x i=>match P.underlying s,Bu x with
  |some (.struct fs),O x=>match fs[i]? with
   |some f=>match mK P f.type with
    |some n=>if n=0 then Y else O (.off f.offset x)
    |none=>Y
   |none=>Y
  |_,_=>Y
 | .field t x i=>match P.underlying t,Bu x with
  |some (.struct fs),O x=>match fs[i]? with
   |some f=>match mK P f.type,AI P f.type with
    |some n,O b=>O (.fieldV f.offset n b x)
    |_,_=>Y
   |none=>Y
  |_,_=>Y
 | .indexAddr t x i=>match P.underlying t,Bu x,Bu i with
  |some (.slice e),O x,O i=>(mK P e).map (.idx · x i)
  |some (.array n e),O x,O i=>(mK P e).map (.idxA n · x i)
  |_,_,_=>Y
 | .index t x i=>match P.underlying t,Bu x,Bu i with
  |some (.array n e),O x,O i=>match mK P e,AI P e with
   |some s,O b=>O (.indexV n s b x i)
   |_,_=>Y
  |some .string,O x,O i=>O (.indexS x i)
  |_,_,_=>Y
 | .extract x i=>(Bu x).map (.extract · i)
 | .call c=>Dn P c
 | .makeInterface _ _| .panic _=>O .stuck
 |_=>Y
section
variable {P:Program} {o:Oper} {a:Act} {w:World} {B:Base P} {N:Nat} {μ:Mu} {e:cm} {Z Z':Hp} {v:Value}
def Wc (ho:o.op= .move x∨o.op= .assign x)(h:dq x=Za)(d:(AOp.move x).run e Z=O (v,Z'))(g:ga μ N e a.tmps)(f:R B μ Z w):kU P o a w B μ v Z':=by
 simp only[AOp.run,cc,dl]at d;obtain⟨rfl,rfl⟩:=d;rcases ho with ho|ho<;>exact .same f (by simp[execOp,ho]) (g.ev h)
def VR.bool_inv {v':Value}(h:VR μ (.bool b) v'):v'= .bool b:=by cases h;rfl
def VR.int_inv {n:Int}{v':Value}(h:VR μ (.int k n) v'):v'= .int k n:=by cases h;rfl
def VR.string_inv {s:ByteArray}{v':Value}(h:VR μ (.string s) v'):v'= .string s:=by cases h;rfl
def ay7 {c:Operand}(m:o.op= .pick c x y)(n:dq c=Za)(p:dq x=Za)(q:dq y=Za)(f:(AOp.pick c x y).run e Z=O (v,Z'))(j:ga μ N e a.tmps)(l:R B μ Z w):kU P o a w B μ v Z':=by
 have h:=j.ev n;simp only[AOp.run]at f;split at f
 .rename_i g;rw[g]at h;have d:=h.bool_inv;simp only[cc,dl]at f;obtain⟨rfl,rfl⟩:=f;exact .same l (by simp[execOp,m,d,asBool]) (j.ev p)
 .rename_i g;rw[g]at h;have d:=h.bool_inv;simp only[cc,dl]at f;obtain⟨rfl,rfl⟩:=f;exact .same l (by simp[execOp,m,d,asBool]) (j.ev q)
 .cases f
def kU.new (h:R B μ Z w)(d:Array Value)(t:TypeId)(cells:List Value)(es:Nat)(v':Value)(j:F2 (VR μ) cells d.toList)
  (g:(execOp a.eval o).run P w= .ok (.value v') (w.alloc (.cells d t)))
  (p:(μ.add Z.n ⟨w.heap.size,0,d.size,es,t,Y⟩).at Z.n ⟨w.heap.size,0,d.size,es,t,Y⟩->VR (μ.add Z.n ⟨w.heap.size,0,d.size,es,t,Y⟩) v v'):kU P o a w B μ v (Z.add ⟨cells,Za,es⟩):=by
 have f:cells.length=d.size:=by simpa using j.length
 obtain⟨l,m⟩:=h.add d t cells es V1 (by rw[f,<-Array.length_toList,List.take_length];exact j);exact⟨_,_,_,v',g, .inl rfl,m,l,p ⟨ZG,rfl⟩,(Below.refl _ _).alloc h.base _⟩
def ag8 {t:TypeId}{es:Nat}{z:List Value}(n:o.op= .alloc t)(p:oP P t=O z)(f:(AOp.alloc es z).run e Z=O (v,Z'))(m:R B μ Z w):kU P o a w B μ v Z':=by
 have⟨g,j,l,d⟩:=mz p;simp only[AOp.run,cc,dl]at f;obtain⟨rfl,rfl⟩:=f;refine .new m g.cells t z es (.pointer (O ⟨w.heap.size,0,Y⟩)) ?_ ?_ (λh=> .ptr (o:=0) h)
 .have:z=g.cells.toList:=l.symm;rw[this];rw[this]at d;exact VR.plainCells d
 .simp[execOp,n,Instr.alloc,j,newVar,newRow]
def aP5 {t:TypeId}{es:Nat}(j:o.op= .box t x)(l:dq x=Za)(d:(AOp.box es x).run e Z=O (v,Z'))(g:ga μ N e a.tmps)(f:R B μ Z w):kU P o a w B μ v Z':=by
 simp only[AOp.run]at d;split at d
 .simp only[cc,dl]at d;obtain⟨rfl,rfl⟩:=d;refine .new f (a.eval x).cells t _ es (.pointer (O ⟨w.heap.size,0,Y⟩)) (g.ev l).cells ?_ (λh=> .ptr (o:=0) h);simp[execOp,j,Instr.box,newVar,newRow]
 .cases d
def VR.ptr_inv {b n:Nat}{v':Value}(h:VR μ (.pointer (O ⟨b,n,Y⟩)) v'): ∃g,μ.at b g/\v'= .pointer (O ⟨g.c,g.o+n,Y⟩):=by
 cases h with
 |ptr h=>exact⟨_,h,rfl⟩
def ay4 {t:TypeId}(z:o.op= .load t x)(A:AI P t=O Zb)(E:dq x=Za)(d:(AOp.load x).run e Z=O (v,Z'))(s:ga μ N e a.tmps)(j:R B μ Z w):kU P o a w B μ v Z':=by
 have h:=s.ev E;simp only[AOp.run]at d;split at d
 .rename_i b n r;rw[r]at h;have⟨g,l,D⟩:=h.ptr_inv;split at d
  .rename_i m f;obtain⟨u,C,d⟩:=Option.map_eq_some_iff.1 d;simp only[dl]at d;obtain⟨rfl,rfl⟩:=d;have⟨F,p,q⟩:=(j.get f l.1).cell l.2 n u C;refine .same j ?_ q;simp[execOp,z,Instr.loadAt,Instr.sureAddr,D,loadVar,FU A,p]
  .cases d
 .cases d
def ah2 {t:TypeId}{n:Nat}(C:o.op= .load t x)(D:AI P t=O Za)(A:mK P t=O n)(F:dq x=Za)(d:(AOp.loadN n x).run e Z=O (v,Z'))(u:ga μ N e a.tmps)(l:R B μ Z w):kU P o a w B μ v Z':=by
 have h:=u.ev F;simp only[AOp.run]at d;split at d
 .rename_i b n s;rw[s]at h;have⟨g,z,E⟩:=h.ptr_inv;split at d
  .rename_i m f;obtain⟨H,j,d⟩:=Option.map_eq_some_iff.1 d;simp only[dl]at d;obtain⟨rfl,rfl⟩:=d;have⟨p,q,r⟩:=l.reads f z j;refine .same l ?_ (.agg r);simp[execOp,C,Instr.loadAt,Instr.sureAddr,E,loadVar,FU D,nC A,q P w rfl]
  .cases d
 .cases d
def ah4 {t:TypeId}{n:Nat}(M:o.op= .store t x y)(L:mK P t=O n)(U:dq x=Za)(V:dq y=Za)(d:(AOp.store n x y).run e Z=O (v,Z'))(C:ga μ N e a.tmps)(H:R B μ Z w):kU P o a w B μ v Z':=by
 have h:=C.ev U;have l:=(C.ev V).cells;simp only[AOp.run]at d;split at d
 .rename_i b z I;rw[I]at h;obtain⟨g,K,T⟩:=h.ptr_inv;split at d
  .rename_i s;split at d
   .rename_i q j;unfold Bx at d;split at d
    .rename_i A p;split at p
     .rename_i J;obtain⟨m,r,f⟩:=J;injection p with p
      subst p;simp only[cc,dl]at d;obtain⟨rfl,rfl⟩:=d;obtain⟨w',D,E,F⟩:=R.writes _ _ l (λu S=>List.all_eq_true.1 f u S) Z w b z 0 q g H j m K r;refine⟨.skip,w',μ,undef, ?_, .inr ⟨rfl,rfl⟩,μ.le_refl,E,VR.undef μ,F⟩;have Q:(a.eval y).cells.size=n:=by rw[<-s,l.length];simp
      simp[execOp,M,Instr.storeAt,Instr.sureAddr,T,storeVar,nC L,Q,D]
     .cases p
    .cases d
   .cases d
  .cases d
 .cases d
def Sl (m:o.op= .nilCheck x)(z:dq x=Za)(d:(AOp.nilCheck x).run e Z=O (v,Z'))(t:ga μ N e a.tmps)(l:R B μ Z w):kU P o a w B μ v Z':=by
 have h:=t.ev z;simp only[AOp.run]at d;split at d
 .rename_i b g;simp only[cc,dl]at d;obtain⟨rfl,rfl⟩:=d;rw[g]at h;generalize j:a.eval x=u at h;cases h with
  |ptr n=>exact .same l (by simp[execOp,m,j]) (.ptr n)
 .rename_i f p q g;simp only[cc,dl]at d;obtain⟨rfl,rfl⟩:=d;rw[g]at h;generalize j:a.eval x=u at h;cases h with
  |func r s=>exact .same l (by simp[execOp,m,j]) (.func r s)
 .cases d
end
end
section
open List renaming drop_drop -> aB, getElem?_drop -> bB
open Nat renaming add_comm -> aD
open Go.RowKit
section
variable {P:Program} {o:Oper} {a:Act} {w:World} {B:Base P} {N:Nat} {μ:Mu} {e:cm} {Z Z':Hp} {v:Value}
def ar6 (op:BinOp)(t:TypeId)(x y z:Value)(h:Bo op x y=O z)(w:World)(p q:Operand):
  (eqGuard op t p q x y).run P w= .ok () w/\(binOp op t x y).run P w= .ok z w:=by
 cases x with
 |int k m=>cases y with
  |int r n=>
   simp only[Bo]at h;by_cases d:vY op=Za
   .rw[zE d]at h;unfold MT at h;split at h
    .cases h
    .rename_i l;cases op<;>simp[vY]at d<;>simp at h<;>subst h<;>simp[eqGuard,binOp,Op.shift,l]
   .rw[zF d]at h;split at h
    .rename_i j;subst j;cases op<;>simp[vY]at d<;>simp[VL]at h
     all_goals first
      |(have⟨g,f⟩:=h;subst f;simp[eqGuard,binOp,Op.intDiv,g])
      |(subst h;simp[eqGuard,binOp,Op.intArith,Op.intBits,Op.intCmp])
    .cases h
  |_=>simp[Bo]at h
 |string s=>cases y with
  |string u=>
   simp only[Bo]at h;split at h
   .cases h
   .rename_i d;cases op<;>simp[vY]at d<;>simp[Ws]at h
    all_goals first
     |(have⟨g,f⟩:=h;subst f;simp[eqGuard,binOp,Op.stringOp];omega)
     |(subst h;simp[eqGuard,binOp,Op.stringOp])
  |_=>simp[Bo]at h
 |_=>simp[Bo]at h
def ar7 {x y g j z:Value}(h:Bo op x y=O z)(d:VR μ x g)(f:VR μ y j):g=x/\j=y:=by
 cases x with
 |int k m=>cases y with
  |int l n=>exact⟨d.int_inv,f.int_inv⟩
  |_=>simp[Bo]at h
 |string s=>cases y with
  |string p=>exact⟨d.string_inv,f.string_inv⟩
  |_=>simp[Bo]at h
 |_=>simp[Bo]at h
def TI {x y z:Value}(h:Bo op x y=O z):VR μ z z:=by
 cases x with
 |int k m=>cases y with
  |int f n=>
   simp only[Bo]at h;split at h
   .unfold MT at h;split at h
    .cases h
    .cases op<;>simp at h<;>subst h<;>exact .int _ _
   .split at h
    .cases op<;>simp[VL]at h
     all_goals first
      |(have⟨_,d⟩:=h;subst d;exact .int _ _)
      |(subst h;first|exact .int _ _|exact .bool _)
    .cases h
  |_=>simp[Bo]at h
 |string s=>cases y with
  |string g=>
   simp only[Bo]at h;split at h
   .cases h
   .cases op<;>simp[Ws]at h
    all_goals first
     |(have⟨_,d⟩:=h;subst d;exact .string _)
     |(subst h;first|exact .string _|exact .bool _)
  |_=>simp[Bo]at h
 |_=>simp[Bo]at h
def ag9 {t s:TypeId}(m:o.op= .binOp op t x y s)(n:dq x=Za)(p:dq y=Za)(d:(AOp.bin op x y).run e Z=O (v,Z'))(g:ga μ N e a.tmps)(l:R B μ Z w):kU P o a w B μ v Z':=by
 simp only[AOp.run]at d;obtain⟨z,f,d⟩:=Option.map_eq_some_iff.1 d;simp only[dl]at d;obtain⟨rfl,rfl⟩:=d;have⟨h,j⟩:=ar7 f (g.ev n) (g.ev p);refine .same l ?_ (TI f);have⟨q,r⟩:=ar6 (P:=P) op t _ _ _ f w x y;simp[execOp,m,h,j,q,r]
def TY (op:BinOp)(t:TypeId)(g h:Operand)(x y:Value)(d: ¬(x= .nilIface/\y= .nilIface))(f: ∀a b,¬(x= .agg a/\y= .agg b))(w:World):(eqGuard op t g h x y).run P w= .ok () w:=by
 unfold eqGuard
 cases op<;>first
  |rfl
  |(cases x<;>cases y<;>first
    |rfl
    |exact absurd ⟨rfl,rfl⟩ d
    |exact absurd ⟨rfl,rfl⟩ (f _ _))
set_option maxHeartbeats 1000000 in
def au3 {t:TypeId}{d:TypeDesc}{g:Nat}(m:P.underlying t=O d)(f:aw2 d=O g){x y j l:Value}(h:RI g x y=O b)(n:VR μ x j)(p:VR μ y l)(w:World):
  (Op.equal t j l).run P w= .ok b w:=by
 unfold Op.equal Op.maxDepth;rw[show(10000:Nat)=9999+1 from rfl,Op.equalIn];simp only[Sem.run_bind,fX m,Result.andThen_ok];cases d<;>simp[aw2]at f<;>subst f
 all_goals (cases n<;>cases p<;>simp[RI]at h<;>simp[<-h])
def au4 {s:Nat}{x y f g:Value}(h:RI s x y=O b)(j:VR μ x f)(r:VR μ y g)(t:TypeId)(d:Bool)(w:World)(n:(Op.equal t f g).run P w= .ok b w):
  (binOp (if d then .neq else .eql) t f g).run P w= .ok (.bool (b !=d)) w/\(∀l m op,(eqGuard op t l m f g).run P w= .ok () w):=by
 refine⟨?_,λl m op=>TY op t l m f g ?_ ?_ w⟩
 .have:binOp (if d then .neq else .eql) t f g=(Op.equal t f g >>=λq=>pure (.bool (if d then !q else q))):=by
   cases j<;>cases r<;>first
    |(cases d<;>rfl)
    |(unfold RI at h;split at h<;>simp_all)
  rw[this];cases d<;>simp[n]
 .rintro⟨rfl,rfl⟩;cases j;unfold RI at h;split at h<;>simp_all
 .rintro p q ⟨rfl,rfl⟩;cases j;unfold RI at h;split at h<;>simp_all
def ah0 {t D:TypeId}{d:TypeDesc}{p:Nat}{f:Bool}(u:o.op= .binOp op t x y D)(j:op=if f then .neq else .eql)(r:P.underlying t=O d)(s:aw2 d=O p)(l:dq x=Za)(m:dq y=Za)(g:(AOp.eqv p f x y).run e Z=O (v,Z'))(h:ga μ N e a.tmps)(q:R B μ Z w):kU P o a w B μ v Z':=by
 simp only[AOp.run]at g;obtain⟨b,n,g⟩:=Option.map_eq_some_iff.1 g;simp only[dl]at g;obtain⟨rfl,rfl⟩:=g;have z:=au3 r s n (h.ev l) (h.ev m) w;have⟨A,C⟩:=au4 n (h.ev l) (h.ev m) t f w z;refine .same q ?_ (.bool _);simp[execOp,u,j,A,C]
def JC {t:TypeId}{j:Nat}(g:zy P t=O j){x y l m:Value}(h:wM j x y=O b)(p:VR μ x l)(q:VR μ y m)(d:Nat)(w:World):
  (Op.equalIn (d+1) t l m).run P w= .ok b w:=by
 unfold zy at g;cases f:P.underlying t with
 |none=>simp[f]at g
 |some n=>
  cases n<;>simp[f]at g<;>subst g
  all_goals
   cases p<;>cases q<;>simp[wM]at h
  .simp[run_equalIn_bool _ _ _ _ _ f,<-h]
  .obtain⟨rfl,rfl⟩:=h;simp[run_equalIn_int _ _ _ _ _ _ _ f]
  .simp[run_equalIn_string _ _ _ _ _ f,<-h]
def B0 {t:TypeId}{f:Nat}(d:zy P t=O f):AI P t=O Zb:=by
 unfold zy at d;unfold AI;split at d<;>simp_all
def vG {t:TypeId}(h:AI P t=O Zb){cs:Array Value}{i:Nat}{v:Value}(d:cs[i]?=O v)(w:World):(part t cs i).run P w= .ok v w:=by
 simp[part,FU h,d]
def JD (w:World)(d:Nat)(p r:Array Value): ∀(fs:List Field) (i:Nat) (u:List Nat) (l m:List Value) (b:Bool),zK P i fs=O u->kc u l m=O b->
  F2 (VR μ) l (p.toList.drop i)->F2 (VR μ) m (r.toList.drop i)->(Op.eqFields (d+1) p r fs).run P w= .ok b w
 |[],i,u,l,m,b,g,h,_,_=>by
  simp[zK]at g;subst g;cases l<;>cases m<;>simp[kc]at h;subst h;simp[Op.eqFields]
 |f::fs,i,u,l,m,b,g,h,C,D=>by
  simp only[zK]at g;split at g
  .rename_i s;split at g
   .rename_i k A z H;cases g;cases l with
    |nil=>simp[kc]at h
    |cons x l=>cases m with
     |nil=>simp[kc]at h
     |cons y m=>
      simp only[kc]at h;have⟨Q,E,J⟩:=C.get 0 x rfl;have⟨S,F,K⟩:=D.get 0 y rfl;rw[bB]at E F;have j:p[i]?=O Q:=by simpa using E
      have n:r[i]?=O S:=by simpa using F
      have L:F2 (VR μ) l (p.toList.drop (i+1)):=by
       have:=C.drop 1;simpa[aB,aD]using this
      have M:F2 (VR μ) m (r.toList.drop (i+1)):=by
       have:=D.drop 1;simpa[aB,aD]using this
      have I:=JD w d p r fs (i+1) A l m;cases t:wM k x y with
      |none=>simp[t]at h
      |some q=>
       have:=JC (P:=P) z t J K d w;cases q with
       |true=>
        simp only[t]at h;simp[Op.eqFields,s.2,vG (B0 z),s.1,j,n,this,I b H h L M]
       |false=>
        simp[t]at h;simp[Op.eqFields,s.2,vG (B0 z),s.1,j,n,this,<-h]
   .cases g
  .cases g
def RH (w:World)(d:Nat)(e:TypeId)(k:Nat)(f:zy P e=O k)(r s:Array Value): ∀(n i:Nat) (l m:List Value) (b:Bool),kc (List.replicate n k) l m=O b->
  F2 (VR μ) l (r.toList.drop i)->F2 (VR μ) m (s.toList.drop i)->
  (forIn (List.range' i n) ((Y,()):Option Bool×Unit) λj (_:Option Bool×Unit)=>(do
    let a<-part e r (j*1)
    let c<-part e s (j*1)
    let q<-Op.equalIn (d+1) e a c
    if(!q)=Za then pure (ForInStep.done (O Zb,()))else pure (ForInStep.yield (Y,())):Sem (ForInStep (Option Bool×Unit)))).run P w= .ok (if b then Y else O Zb,()) w
 |0,i,l,m,b,h,_,_=>by
  cases l<;>cases m<;>simp[kc]at h;subst h;simp
 |n+1,i,l,m,b,h,A,C=>by
  rw[List.replicate_succ]at h;cases l with
  |nil=>simp[kc]at h
  |cons x l=>cases m with
   |nil=>simp[kc]at h
   |cons y m=>
    simp only[kc]at h;have⟨L,D,H⟩:=A.get 0 x rfl;have⟨M,E,I⟩:=C.get 0 y rfl;rw[bB]at D E;have g:r[i]?=O L:=by simpa using D
    have p:s[i]?=O M:=by simpa using E
    have J:F2 (VR μ) l (r.toList.drop (i+1)):=by
     have:=A.drop 1;simpa[aB,aD]using this
    have K:F2 (VR μ) m (s.toList.drop (i+1)):=by
     have:=C.drop 1;simpa[aB,aD]using this
    have F:=RH w d e k f r s n (i+1) l m;cases t:wM k x y with
    |none=>simp[t]at h
    |some q=>
     have u:=JC (P:=P) f t H I d w;rw[List.range'_succ,List.forIn_cons];cases q with
     |true=>
      simp only[t]at h;have z:=F b h J K;simp only[Nat.mul_one]at z⊢;simp[vG (B0 f) g,vG (B0 f) p,u,Result.andThen];simpa using z
     |false=>
      simp[t]at h;simp[vG (B0 f) g,vG (B0 f) p,u,<-h]
end
end
section
open Nat renaming add_assoc -> aB
open Result renaming andThen_ok -> aD
open Go.RowKit
section
variable {P:Program} {o:Oper} {a:Act} {w:World} {B:Base P} {N:Nat} {μ:Mu} {e:cm} {Z Z':Hp} {v:Value}
def VR.agg_inv {p:Array Value}{v':Value}(h:VR μ (.agg p) v'): ∃q,v'= .agg q/\F2 (VR μ) p.toList q.toList:=by
 cases h with
 |agg h=>exact⟨_,rfl,h⟩
def MJ {t:TypeId}{u:List Nat}(d:P2 P t=O u){p q j l:Array Value}(h:kc u p.toList q.toList=O b)(z:F2 (VR μ) p.toList j.toList)(A:F2 (VR μ) q.toList l.toList)(w:World):
  (Op.equal t (.agg j) (.agg l)).run P w= .ok b w/\P.eqGuardType P.depth t=Zb:=by
 unfold P2 at d;unfold Op.equal Op.maxDepth;rw[show(10000:Nat)=9998+1+1 from rfl];cases g:P.underlying t with
 |none=>simp[g]at d
 |some C=>
  cases C<;>simp[g]at d
  case struct fs=>
   have⟨⟨m,r⟩,s⟩:=d;have f:P.fieldsOf t=fs:=by simp[Program.fieldsOf,g]
   rw[run_equalIn_struct w _ t j l (by rw[f,g]) r,f];exact⟨JD w 9998 j l fs.toList 0 u _ _ b s h (by simpa using z) (by simpa using A),m⟩
  case array n e=>
   have⟨⟨m,r⟩,k,s,D⟩:=d;subst D;refine⟨?_,r⟩;have:=RH (P:=P) w 9998 e k s j l n 0 _ _ b h (by simpa using z) (by simpa using A);rw[Op.equalIn];simp only[Sem.run_bind,fX g,aD,nC m];cases b<;>simp at this⊢ <;>rw[this]<;>rfl
def C7 {t U:TypeId}{m:List Nat}{f:Bool}(z:o.op= .binOp op t x y U)(g:op=if f then .neq else .eql)(u:P2 P t=O m)(D:dq x=Za)(E:dq y=Za)(d:(AOp.eqCells f m x y).run e Z=O (v,Z'))(l:ga μ N e a.tmps)(s:R B μ Z w):kU P o a w B μ v Z':=by
 simp only[AOp.run]at d;split at d
 .rename_i p q A C;obtain⟨b,F,d⟩:=Option.map_eq_some_iff.1 d;simp only[dl]at d;obtain⟨rfl,rfl⟩:=d;have h:=l.ev D;have j:=l.ev E;rw[A]at h;rw[C]at j;have⟨M,n,S⟩:=h.agg_inv;have⟨Q,r,T⟩:=j.agg_inv;have⟨H,I⟩:=MJ u F S T w;refine .same s ?_ (.bool _);have J:=λK L=>run_eqGuard_agg (P:=P) w op t K L M Q I
  simp only[execOp,z,n,r,Sem.run_bind,J,aD];cases f<;>simp[g,binOp,H]
 .cases d
def aX3 {t:TypeId}{op:UnOp}(j:o.op= .unOp op t x)(m:dq x=Za)(d:(AOp.un op x).run e Z=O (v,Z'))(l:ga μ N e a.tmps)(g:R B μ Z w):kU P o a w B μ v Z':=by
 simp only[AOp.run]at d;obtain⟨z,f,d⟩:=Option.map_eq_some_iff.1 d;simp only[dl]at d;obtain⟨rfl,rfl⟩:=d;have h:=l.ev m;generalize e.ev x=u at*;cases u<;>cases op<;>simp[un1]at f
 .subst f;have:=h.bool_inv;exact .same g (by simp[execOp,j,this,Op.unary]) (.bool _)
 .subst f;have:=h.int_inv;exact .same g (by simp[execOp,j,this,Op.unary,Op.intArith]) (.int _ _)
 .subst f;have:=h.int_inv;exact .same g (by simp[execOp,j,this,Op.unary,Op.intBits]) (.int _ _)
def ay1 {s d:TypeId}{t:IntKind}(p:o.op= .convert s d x)(q:P.underlying s=O (.int t))(l:P.underlying d=O (.int k))(r:dq x=Za)(f:(AOp.conv k x).run e Z=O (v,Z'))(m:ga μ N e a.tmps)(j:R B μ Z w):kU P o a w B μ v Z':=by
 simp only[AOp.run]at f;obtain⟨n,g,f⟩:=Option.map_eq_some_iff.1 f;simp only[dl]at f;obtain⟨rfl,rfl⟩:=f;have h:=m.ev r;generalize e.ev x=u at*;cases u<;>simp[aW4]at g;subst g;have:=h.int_inv;exact .same j (by simp[execOp,p,this,convert,fX q,fX l,Conv.intToInt]) (.int _ _)
def HH (g:ga μ N e a.tmps): ∀{f d:List Operand},Km f=O d->F2 (VR μ) (d.map e.ev) (f.map a.eval)
 |[],d,h=>by simp[Km]at h;subst h;exact .nil
 |x::f,d,h=>by
  simp only[Km]at h;split at h
  .rename_i n r j l;cases h;obtain⟨rfl,m⟩:=bc j;exact .cons (g.ev m) (HH g l)
  .cases h
def XS {f:FuncId}{first d:Array Operand}{j cs:List Operand}(p:o.op= .makeFunc (.func f) first d)(l:Km first.toList=O j)(n:Km d.toList=O cs)(h:(AOp.mkFunc f j cs).run e Z=O (v,Z'))(g:ga μ N e a.tmps)(m:R B μ Z w):kU P o a w B μ v Z':=by
 simp only[AOp.run,cc,dl]at h;obtain⟨rfl,rfl⟩:=h;refine .same m (v':= .func (.func f) (first.map a.eval) (d.map a.eval)) (by simp[execOp,p,Instr.makeFunc]) (.func ?_ ?_)
 .simpa using HH g l
 .simpa using HH g n
def aP8 {t:TypeId}{i n:Nat}{f:Field}(u:o.op= .fieldAddr t x i)(z:P.underlying t=O (.struct fs))(r:fs[i]?=O f)(s:mK P f.type=O n)(j:n≠0)(C:dq x=Za)(d:(AOp.off f.offset x).run e Z=O (v,Z'))(p:ga μ N e a.tmps)(l:R B μ Z w):kU P o a w B μ v Z':=by
 have h:=p.ev C;simp only[AOp.run]at d;split at d
 .rename_i b off m;simp only[cc,dl]at d;obtain⟨rfl,rfl⟩:=d;rw[m]at h;have⟨g,q,A⟩:=h.ptr_inv;refine .same l (v':= .pointer (O ⟨g.c,g.o+(off+f.offset),Y⟩)) ?_ (.ptr q);simp[execOp,u,Instr.fieldAt,fX z,r,A,Instr.sureAddr,fieldPlace,nC s,j,qv,aB]
 .cases d
def VR.slice_inv {b n l c:Nat}{v':Value}(h:VR μ (.slice (O ⟨b,n,Y⟩) l c) v'):
  (∃g d,μ.at b g/\l<=c/\c<=d/\n+d*g.es<=g.ext/\v'= .slice (O ⟨g.c,g.o+n,Y⟩) l d)∨(l=0/\c=0/\∃A',v'= .slice (O A') 0 0/\∃g,μ.at b g):=by
 cases h with
 |slice f j m p=>exact .inl ⟨_,_,f,j,m,p,rfl⟩
 |slice0 A' h=>exact .inr ⟨rfl,rfl,A',rfl,_,h⟩
def aP6 {t d:TypeId}{n:Nat}(F:o.op= .indexAddr t x i)(H:P.underlying t=O (.slice d))(E:mK P d=O n)(J:dq x=Za)(C:dq i=Za)(f:(AOp.idx n x i).run e Z=O (v,Z'))(s:ga μ N e a.tmps)(u:R B μ Z w):kU P o a w B μ v Z':=by
 have h:=s.ev J;have r:=s.ev C;simp only[AOp.run]at f;split at f
 .rename_i b q l c k j z D;split at f
  .rename_i p;simp only[cc,dl]at f;obtain⟨rfl,rfl⟩:=f;rw[z]at h;rw[D]at r;have m:=r.int_inv;rcases h.slice_inv with⟨g,K,A,_,_,_,I⟩|⟨rfl,_⟩
   .refine .same u (v':= .pointer (O ⟨g.c,g.o+(q+j.toNat*n),Y⟩)) ?_ (.ptr A);simp[execOp,F,Instr.indexAt,fX H,I,m,asIntOf,p,nC E,qv,aB]
   .omega
  .cases f
 .cases f
def ay3 {t d:TypeId}{m n:Nat}(F:o.op= .indexAddr t x i)(H:P.underlying t=O (.array m d))(E:mK P d=O n)(J:dq x=Za)(C:dq i=Za)(f:(AOp.idxA m n x i).run e Z=O (v,Z'))(s:ga μ N e a.tmps)(u:R B μ Z w):kU P o a w B μ v Z':=by
 have h:=s.ev J;have r:=s.ev C;simp only[AOp.run]at f;split at f
 .rename_i b q k j z D;split at f
  .rename_i p;simp only[cc,dl]at f;obtain⟨rfl,rfl⟩:=f;rw[z]at h;rw[D]at r;have l:=r.int_inv;have⟨g,A,I⟩:=h.ptr_inv;refine .same u (v':= .pointer (O ⟨g.c,g.o+(q+j.toNat*n),Y⟩)) ?_ (.ptr A);simp[execOp,F,Instr.indexAt,Instr.sureAddr,fX H,I,l,asIntOf,p,nC E,qv,aB]
  .cases f
 .cases f
def SR {t:TypeId}{n i:Nat}(h:AI P t=O b)(m:mK P t=O n){p q:Array Value}(d:F2 (VR μ) p.toList q.toList){u:Value}
  (f:(if b then O (.agg (p.extract i (i+n)))else p[i]?)=O u) (w:World): ∃g,(part t q i).run P w= .ok g w/\VR μ u g:=by
 cases b with
 |true=>
  simp at f;subst f;refine⟨.agg (q.extract i (i+n)),by simp[part,FU h,nC m], .agg ?_⟩;simpa[Array.toList_extract,List.extract_eq_take_drop]using(d.drop i).take n
 |false=>
  simp at f;have⟨g,j,l⟩:=d.get i u V7;exact⟨g,vG h (by simpa using j) w,l⟩
def XP {t:TypeId}{i n:Nat}{f:Field}(z:o.op= .field t x i)(D:P.underlying t=O (.struct fs))(s:fs[i]?=O f)(u:mK P f.type=O n)(l:AI P f.type=O b)(E:dq x=Za)(d:(AOp.fieldV f.offset n b x).run e Z=O (v,Z'))(m:ga μ N e a.tmps)(j:R B μ Z w):kU P o a w B μ v Z':=by
 have h:=m.ev E;simp only[AOp.run]at d;split at d
 .rename_i p A;rw[A]at h;have⟨q,C,r⟩:=h.agg_inv
  have:Z'=Z/\(if b then O (.agg (p.extract f.offset (f.offset+n)))else p[f.offset]?)=O v:=by
   cases b
   .simp at d;obtain⟨_,g,rfl,rfl⟩:=d;exact⟨rfl,Z3⟩
   .simp at d;exact⟨d.2.symm,by simp[d.1]⟩
  obtain⟨rfl,g⟩:=this;have⟨I,F,H⟩:=SR l u r g w;exact .same j (by simp[execOp,z,Instr.field,fX D,s,C,asAgg,F]) H
 .cases d
def XR {t d:TypeId}{m n:Nat}(H:o.op= .index t x i)(K:P.underlying t=O (.array m d))(A:mK P d=O n)(D:AI P d=O b)(L:dq x=Za)(E:dq i=Za)(f:(AOp.indexV m n b x i).run e Z=O (v,Z'))(z:ga μ N e a.tmps)(C:R B μ Z w):kU P o a w B μ v Z':=by
 have h:=z.ev L;have u:=z.ev E;simp only[AOp.run]at f;split at f
 .rename_i p k j I F;rw[I]at h;rw[F]at u;have l:=u.int_inv;have⟨q,J,r⟩:=h.agg_inv;split at f
  .rename_i s
   have:Z'=Z/\(if b then O (.agg (p.extract (j.toNat*n) (j.toNat*n+n)))else p[j.toNat*n]?)=O v:=by
    cases b
    .simp at f;obtain⟨_,g,rfl,rfl⟩:=f;exact⟨rfl,Z3⟩
    .simp at f;exact⟨f.2.symm,by simp[f.1]⟩
   obtain⟨rfl,g⟩:=this;have⟨S,M,Q⟩:=SR D A r g w;exact .same C (by simp[execOp,H,Instr.index,fX K,J,l,asIntOf,s,nC A,M]) Q
  .cases f
 .cases f
def XQ {t:TypeId}(z:o.op= .index t x i)(C:P.underlying t=O .string)(D:dq x=Za)(r:dq i=Za)(d:(AOp.indexS x i).run e Z=O (v,Z'))(m:ga μ N e a.tmps)(p:R B μ Z w):kU P o a w B μ v Z':=by
 have h:=m.ev D;have l:=m.ev r;simp only[AOp.run]at d;split at d
 .rename_i s k j A u;rw[A]at h;rw[u]at l;have f:=l.int_inv;have g:=h.string_inv;split at d
  .rename_i n;obtain⟨c,q,d⟩:=Option.map_eq_some_iff.1 d;simp only[dl]at d;obtain⟨rfl,rfl⟩:=d;exact .same p (by simp[execOp,z,Instr.index,fX C,g,f,asIntOf,n,q]) (.int _ _)
  .cases d
 .cases d
def Uy {i:Nat}(q:o.op= .extract x i)(z:dq x=Za)(d:(AOp.extract x i).run e Z=O (v,Z'))(n:ga μ N e a.tmps)(l:R B μ Z w):kU P o a w B μ v Z':=by
 have h:=n.ev z;simp only[AOp.run]at d;split at d
 .rename_i p s;rw[s]at h;generalize t:a.eval x=u at h;cases h with
  |tuple r=>
   obtain⟨c,m,d⟩:=Option.map_eq_some_iff.1 d;simp only[dl]at d;obtain⟨rfl,rfl⟩:=d;have⟨A,g,j⟩:=r.get i c (by simpa using m);have f:_:=g;rw[Array.getElem?_toList]at f;exact .same l (by simp[execOp,q,Instr.extract,t,f]) j
 .cases d
end
end
section
open List renaming getElem?_eq_none -> bB, length_cons -> bD
open Result renaming andThen_ok -> aB
open Sem renaming run_bind -> aD
open Go.RowKit
section
variable {P:Program} {o:Oper} {a:Act} {w:World} {B:Base P} {N:Nat} {μ:Mu} {e:cm} {Z Z':Hp} {v:Value}
def Ia (d:Nat): ∀(vs:List Value) (k:Nat) (cells:Array Value),d+k+dt vs<=cells.size->
  ((vs.zipIdx k).foldl (λcs (p:Value×Nat)=>cs.setIfInBounds (d+p.2) p.1) cells).toList=cells.toList.take (d+k)++vs++cells.toList.drop (d+k+dt vs)
 |[],k,cells,_=>by simp
 |v::vs,k,cells,h=>by
  simp only[bD]at h;rw[List.zipIdx_cons,List.foldl_cons,Ia d vs (k+1) _ V3];have f:d+k<dt cells.toList:=by simp;omega
  simp only[Array.toList_setIfInBounds,bD];rw[List.take_set,List.drop_set_of_lt V1,show d+(k+1)=d+k+1 from by omega,List.take_add_one,show d+k+1+dt vs=d+k+(dt vs+1)from by omega]
  have g:(cells.toList.take (d+k)++(cells.toList[d+k]?).toList).set (d+k) v=cells.toList.take (d+k)++[v]:=by
   rw[List.getElem?_eq_getElem f,List.set_append_right _ _ V3];have:d+k-dt (List.take (d+k) cells.toList)=0:=by rw[List.length_take];omega
   rw[this];simp
  rw[g];simp
def UY (d:Nat)(vs:Array Value)(cells:Array Value)(h:d+vs.size<=cells.size):
  (vs.zipIdx.foldl (λcs (c,j)=>cs.setIfInBounds (d+j) c) cells).toList=cells.toList.take d++vs.toList++cells.toList.drop (d+vs.size):=by
 have:=Ia d vs.toList 0 cells V9;rw[<-Array.foldl_toList,Array.toList_zipIdx];simpa using this
def yn {g:Nat->Option (Nat×Nat)}(A:ga μ N e a.tmps): ∀(f:List (Nat×Operand)) (d:List (Nat×Nat×Operand)) (z:List Value) (q:Array Value) (cs:List Value),vZ g f=O d->
  EU z (d.map λ(o,s,x)=>(o,s,e.ev x))=O cs->F2 (VR μ) z q.toList->∃h,Instr.fill g q (f.map λ(i,x)=>(i,a.eval x))=O h/\F2 (VR μ) cs h.toList
 |[],d,z,q,cs,l,p,t=>by
  simp[vZ]at l;subst l;simp[EU]at p;subst p;exact⟨q,rfl,t⟩
 |(i,x)::r,d,z,q,cs,l,p,t=>by
  simp only[vZ]at l;split at l
  .rename_i u n Q M D E F;injection l with l
   subst l;obtain⟨rfl,K⟩:=bc E;simp only[List.map_cons,EU]at p;split at p
   .rename_i J;have C:=(A.ev K).cells;have m:(a.eval x).cells.size=n:=by rw[<-J.1,C.length];simp
    have L:z.length=q.size:=by simpa using t.length
    obtain⟨h,H,I⟩:=yn A r M _ ((a.eval x).cells.zipIdx.foldl (λcs (c,j)=>cs.setIfInBounds (u+j) c) q) cs F p (by
     rw[UY _ _ _ V1,m]
     exact((t.take _).append C).append (t.drop _))
    refine⟨h, ?_,I⟩;simp only[List.map_cons,Instr.fill,D,m];rw[zF V3];exact H
   .cases p
  .cases l
def SQ {α β:Type}(P:Program)(w:World)(f:α->Sem β)(g:α->β): ∀(l:List α),(∀x∈l,(f x).run P w= .ok (g x) w)->(l.mapM f).run P w= .ok (l.map g) w
 |[],_=>by simp
 |x::l,h=>by
  have:=SQ P w f g l (λy d=>h y (by simp[d]));simp[List.mapM_cons,h x V2,this]
def Kk {t:TypeId}{d:Array (Nat×Operand)}{z:List Value}{r:List (Nat×Nat×Operand)}(L:o.op= .build t d)(Q:P.underlying t=O (.struct fs))(S:oP P t=O z)
  (g:(fs.toList.all λf=>(mK P f.type).isSome)=Za) (M:vZ (H0 P fs) d.toList=O r) (j:(AOp.build z r).run e Z=O (v,Z')) (H:ga μ N e a.tmps) (F:R B μ Z w):kU P o a w B μ v Z':=by
 have⟨T,A,s,C⟩:=mz S;simp only[AOp.run]at j;obtain⟨u,I,j⟩:=Option.map_eq_some_iff.1 j;simp only[dl]at j;obtain⟨rfl,rfl⟩:=j;have⟨m,D,E⟩:=yn H d.toList r z T.cells u M I (s▸VR.plainCells (s▸C))
 have K:(fs.mapM λf=>(do pure (f.offset,<-sizeOf f.type):Sem (Nat×Nat))).run P w= .ok (fs.map λf=>(f.offset,(mK P f.type).getD 0)) w:=by
  rw[Array.mapM_eq_mapM_toList]
  have:=SQ P w (λf:Field=>(do pure (f.offset,<-sizeOf f.type):Sem (Nat×Nat))) (λf=>(f.offset,(mK P f.type).getD 0)) fs.toList (λf p=>by
   have:=List.all_eq_true.1 g f p;have⟨n,l⟩:=Option.isSome_iff_exists.1 this
   simp[nC l,l])
  simp only[Sem.run_map,this,aB];rw[<-Array.toList_map]
 have q:(λi=>(fs.map λf=>(f.offset,(mK P f.type).getD 0))[i]?)=H0 P fs:=by
  funext i
  unfold H0;rw[Array.getElem?_map];cases J:fs[i]? with
  |none=>rfl
  |some f=>
   have h:f∈fs.toList:=by
    have:=Array.mem_of_getElem? J;simpa using this
   have⟨n,l⟩:=Option.isSome_iff_exists.1 (List.all_eq_true.1 g f h);simp[l]
 refine .same F (v':= .agg m) ?_ (.agg (by simpa using E));simp only[execOp,L,Instr.build,aD,A,aB,fX Q,K,q];rw[Array.toList_map];simp only[D];rfl
def Mn {t d:TypeId}{m n:Nat}{f:Array (Nat×Operand)}{z:List Value}{j:List (Nat×Nat×Operand)}(F:o.op= .build t f)(I:P.underlying t=O (.array m d))(E:mK P d=O n)(J:oP P t=O z)
  (H:vZ (λi=>O (i*n,n)) f.toList=O j) (g:(AOp.build z j).run e Z=O (v,Z')) (C:ga μ N e a.tmps) (A:R B μ Z w):kU P o a w B μ v Z':=by
 have⟨K,q,l,r⟩:=mz J;simp only[AOp.run]at g;obtain⟨p,D,g⟩:=Option.map_eq_some_iff.1 g;simp only[dl]at g;obtain⟨rfl,rfl⟩:=g;have⟨h,s,u⟩:=yn C f.toList j z K.cells p H D (l▸VR.plainCells (l▸r));refine .same A (v':= .agg h) ?_ (.agg (by simpa using u));simp only[execOp,F,Instr.build,aD,q,aB,fX I,nC E];rw[Array.toList_map];simp only[s];rfl
def MX (z:Array Value)(n:Nat)(j:0<z.size):((Array.range (n*z.size)).map (λi=>z[i % z.size]!)).toList=ei z.toList n:=by
 unfold ei;apply List.ext_getElem?;intro i;have d:dt (List.replicate n z.toList).flatten=n*z.size:=by simp
 by_cases g:i<n*z.size
 .have h:((Array.range (n*z.size)).map (λi=>z[i % z.size]!)).toList[i]?=O (z[i % z.size]'(Nat.mod_lt _ j)):=by
   simp[g,Nat.mod_lt _ j]
  rw[h];clear h;induction n generalizing i with
  |zero=>simp at g
  |succ n p=>
   rw[List.replicate_succ,List.flatten_cons];by_cases f:i<z.size
   .rw[List.getElem?_append_left V7];simp[Nat.mod_eq_of_lt f,f]
   .rw[List.getElem?_append_right V7];have l:=p (i-z.size) V2 (by rw[Nat.succ_mul]at g;omega);rw[Array.length_toList,<-l];have m:i % z.size=(i-z.size) % z.size:=by rw[Nat.mod_eq_sub_mod V1]
    simp only[m]
 .rw[bB V3,bB (by rw[d];omega)]
def yt (z:List Value)(n:Nat):dt (ei z n)=n*dt z:=by simp[ei]
def Fj {z:List Value}(h:z.all yE=Za)(n:Nat):(ei z n).all yE=Za:=by
 unfold ei;rw[List.all_eq_true]at*;intro x d;simp only[List.mem_flatten,List.mem_replicate]at d;obtain⟨l,⟨_,rfl⟩,d⟩:=d;exact h x d
def NH {t d:TypeId}{f n:Nat}{g:Array (Nat×Operand)}{z:List Value}{l:List (Nat×Nat×Operand)}(ho:o.op= .buildSlice t f g)(hu:P.underlying t=O (.slice d))(hn:mK P d=O n)(hz:oP P d=O z)
  (S:f*n<=16777216) (C:z.length=n) (h0:0<n)
  (hp:vZ (λi=>O (i*n,n)) g.toList=O l) (r:(AOp.buildSlice n f z l).run e Z=O (v,Z')) (he:ga μ N e a.tmps) (X:R B μ Z w):kU P o a w B μ v Z':=by
 obtain⟨s,V,K,W⟩:=mz hz;simp only[AOp.run]at r;split at r
 .rename_i F Q;split at r
  .simp only[cc,dl]at r;obtain⟨rfl,rfl⟩:=r;have I:s.cells.size=n:=by rw[<-C,<-K];simp[cellsOf]
   have H:s.cells.toList=z:=K
   have j: ∀D:Array Value,(f*n=0->D= #[])->(f*n≠0->D=s.cells)->((Array.range (f*n)).map (λi=>D[i % D.size]!)).toList=ei z f:=by
    intro D T U;by_cases q:f*n=0
    .have:f=0:=by
      rcases Nat.mul_eq_zero.1 q with h|h
      .exact h
      .omega
     subst this;simp[ei]
    .rw[U q,<-I,MX _ _ V1,H]
   have J:F2 (VR μ) (ei z f) (ei z f):=VR.plainCells (Fj W f);obtain⟨u,L,M⟩:=yn he g.toList l (ei z f) (ei z f).toArray F hp Q (by simpa using J)
   have A:u.size=f*n:=by
    have T:F.length=f*n:=by
     have: ∀(l:List (Nat×Nat×Value)) (x y:List Value),EU x l=O y->y.length=x.length:=by
      intro l;induction l with
      |nil=>intro x y h;simp[EU]at h;rw[h]
      |cons p l ih=>
       obtain⟨p1,p2,p3⟩:=p;intro x y h;simp only[EU]at h;split at h
       .rename_i E;rw[ih _ _ h];simp;omega
       .cases h
     rw[this _ _ _ Q,yt,C]
    have:=M.length;simp at this;omega
   refine .new X u d F n (.slice (O ⟨w.heap.size,0,Y⟩) f f) M ?_ (λh=>VR.slice (o:=0) h (Nat.le_refl _) (Nat.le_refl _) (by simp[A]));simp only[execOp,ho,Instr.buildSlice,aD,fX hu,aB,nC hn];rw[Zh];by_cases q:f*n=0
   .have E:=j #[] (λ_=>rfl) (λh=>absurd q h);have m:(Array.range (f*n)).map (λi=>(#[]:Array Value)[i % (#[]:Array Value).size]!)=(ei z f).toArray:=by rw[<-E]
    rw[zE q];simp only[aD,Sem.run_pure,aB,m];rw[Array.toList_map];simp[L,newRow]
   .have E:=j s.cells (λh=>absurd h q) (λ_=>rfl);have m:(Array.range (f*n)).map (λi=>s.cells[i % s.cells.size]!)=(ei z f).toArray:=by rw[<-E]
    rw[zF q];simp only[V,aD,Sem.run_pure,aB,m];rw[Array.toList_map];simp[L,newRow]
  .cases r
 .cases r
end
end
section
open Bool renaming false_eq_true -> cM, or_eq_true -> cN
open Nat renaming le_refl -> aB, add_assoc -> cK, add_mul -> cL
open Option renaming map_some -> cB, map_none -> cD
open Result renaming andThen_ok -> aD
open Sem renaming run_bind -> bB, run_pure -> bD
open Go.RowKit
section
variable {P:Program} {o:Oper} {a:Act} {w:World} {B:Base P} {N:Nat} {μ:Mu} {e:cm} {Z Z':Hp} {v:Value}
def VR.nils_inv {n c:Nat}{v':Value}(h:VR μ (.slice Y n c) v'):v'= .slice Y 0 0/\n=0/\c=0:=by cases h;exact⟨rfl,rfl,rfl⟩
def VN {x d:Value}{n:Nat}(h:E0 x=O n)(f:VR μ x d):E0 d=O n:=by
 cases f<;>simp_all [E0]
def iZ {b:Builtin}(f:o.op= .call c)(d:c.callee= .builtin b)(w:World):
  ∃cs,(execOp a.eval o).run P w=(builtin b c.argTypes o.type cs (c.args.map a.eval)).run P w:=by
 refine⟨c.args.map λ| .const _=>Za|_=>Zb, ?_⟩;simp only[execOp,f,resolve,d,invoke,bB,bD,aD];rfl
def aK3 {α:Type}{c:Array α}{x:α}(h:c.toList=[x]):c= #[x]:=by rw[<-Array.toList_inj];simpa using h
def Lm {α:Type}{c:Array α}{x y:α}(h:c.toList=[x,y]):c= #[x,y]:=by rw[<-Array.toList_inj];simpa using h
def Rn {α:Type}{c:Array α}{x:α}{r:List α}(h:c.toList=x::r):c[0]?=O x:=by rw[<-Array.getElem?_toList,h];rfl
def aP7 {t u:TypeId}{ts:List TypeId}(s:o.op= .call c)(q:c.callee= .builtin .len)(m:c.args.toList=[x])(A:c.argTypes.toList=t::ts)(C:P.underlying t=O (.slice u))
  (D:dq x=Za) (f:(AOp.len x).run e Z=O (v,Z')) (r:ga μ N e a.tmps) (l:R B μ Z w):kU P o a w B μ v Z':=by
 have h:=r.ev D;simp only[AOp.run]at f;split at f
 .rename_i p n F z;simp only[cc,dl]at f;obtain⟨rfl,rfl⟩:=f;rw[z]at h
  have: ∃j d,a.eval x= .slice j n d:=by
   generalize a.eval x=y at h;cases h<;>exact⟨_,_,rfl⟩
  have⟨j,d,E⟩:=this;have⟨H,g⟩:=iZ (P:=P) (a:=a) s q w;refine .same l ?_ (.int .i64 n);simp[g,builtin,Builtin.len_,aK3 m,Rn A,E,fX C,goInt]
 .cases f
def ay0 {t u:TypeId}(n:o.op= .call c)(l:c.callee= .builtin .cap)(j:c.args.toList=[x])(r:c.argTypes.toList=[t])(s:P.underlying t=O (.slice u))
  (z:dq x=Za) (d:(AOp.capN x).run e Z=O (v,Z')) (m:ga μ N e a.tmps) (g:R B μ Z w):kU P o a w B μ v Z':=by
 have h:=m.ev z;simp only[AOp.run]at d;split at d
 .rename_i p;simp only[cc,dl]at d;obtain⟨rfl,rfl⟩:=d;rw[p]at h;have⟨q,_,_⟩:=h.nils_inv;have⟨A,f⟩:=iZ (P:=P) (a:=a) n l w;refine .same g ?_ (.int .i64 0);simp[f,builtin,Builtin.cap_,aK3 j,aK3 r,q,fX s,goInt]
 .cases d
def ay5 (u:o.op= .call c)(t:c.callee= .builtin .max)(s:c.args.toList=[x,y])(A:dq x=Za)(C:dq y=Za)(d:(AOp.most x y).run e Z=O (v,Z'))(g:ga μ N e a.tmps)(r:R B μ Z w):kU P o a w B μ v Z':=by
 simp only[AOp.run]at d;obtain⟨z,j,d⟩:=Option.map_eq_some_iff.1 d;simp only[dl]at d;obtain⟨rfl,rfl⟩:=d;have h:=g.ev A;have n:=g.ev C;generalize e.ev x=p at*;generalize e.ev y=q at*;cases p<;>cases q<;>simp[U7]at j;subst j;have l:=h.int_inv;have m:=n.int_inv;have⟨D,f⟩:=iZ (P:=P) (a:=a) u t w;exact .same r (by simp[f,builtin,Builtin.max_,Lm s,l,m,Builtin.max2]) (.int _ _)
def ah1 (u:o.op= .call c)(t:c.callee= .builtin .min)(s:c.args.toList=[x,y])(A:dq x=Za)(C:dq y=Za)(d:(AOp.least x y).run e Z=O (v,Z'))(g:ga μ N e a.tmps)(r:R B μ Z w):kU P o a w B μ v Z':=by
 simp only[AOp.run]at d;obtain⟨z,j,d⟩:=Option.map_eq_some_iff.1 d;simp only[dl]at d;obtain⟨rfl,rfl⟩:=d;have h:=g.ev A;have n:=g.ev C;generalize e.ev x=p at*;generalize e.ev y=q at*;cases p<;>cases q<;>simp[QM]at j;subst j;have l:=h.int_inv;have m:=n.int_inv;have⟨D,f⟩:=iZ (P:=P) (a:=a) u t w;exact .same r (by simp[f,builtin,Builtin.min_,Lm s,l,m,Builtin.min2]) (.int _ _)
def Rs {y d:Nat}{x:Option Operand}{n:Nat}(p: ∀u,x=O u->dq u=Za)(h:tc y d (x.map e.ev)=O n)(l:ga μ N e a.tmps):
  match x with
  |none=>n=d
  |some u=> ∃k i,a.eval u= .int k i/\0<=i/\i<=y/\n=i.toNat:=by
 cases x with
 |none=>simp[tc]at h;exact h.symm
 |some u=>
  have j:=l.ev (p u rfl);simp only[cB]at h;unfold tc at h;split at h
  .rename_i k i g;simp only[cc]at g;split at h
   .rename_i f;rw[g]at j;exact⟨k,i,j.int_inv,f.1,f.2,by simpa using h.symm⟩
   .cases h
  .cases h
  .rename_i m;cases m
def IB {s:Bool}{ln cap d:Nat}{g:Option Operand}{h l:Nat}(r: ∀u,lo=O u->dq u=Za)(q: ∀u,g=O u->dq u=Za)
  (E:tc cap ln (g.map e.ev)=O h) (F:tc h 0 (lo.map e.ev)=O l) (C:cap<=d) (D:ga μ N e a.tmps) (w:World):
  (Instr.sliceBounds s ln d (lo.map a.eval) (g.map a.eval) Y).run P w= .ok (l,h,d) w:=by
 have j:=Rs q E D;have f:=Rs r F D;unfold Instr.sliceBounds;cases g with
 |none=>
  simp only at j;subst j;cases lo with
  |none=>simp only at f;subst f;simp
  |some u=>
   obtain⟨k,i,m,n,p,rfl⟩:=f;simp[m,Instr.sliceBound,asIntOf,n,p]
 |some K=>
  obtain⟨J,H,t,z,I,rfl⟩:=j;have A:H<=(d:Int):=by omega
  cases lo with
  |none=>simp only at f;subst f;simp[t,Instr.sliceBound,asIntOf,z,A]
  |some u=>
   obtain⟨k,i,m,n,p,rfl⟩:=f;simp only[cB,m,t,Instr.sliceBound,asIntOf,bB,bD,aD];rw[zE ⟨z,A⟩];simp only[bD,aD];rw[zE ⟨n,p⟩];rfl
def Lx {y d n:Nat}{x:Option Value}(h:tc y d x=O n):n<=y∨(x=Y/\n=d):=by
 unfold tc at h;split at h
 .split at h
  .rename_i f;simp at h;left;omega
  .cases h
 .cases h
 .right;exact⟨rfl,by simpa using h.symm⟩
def yw {ln cap:Nat}{m:Option Operand}{h l:Nat}(n:ln<=cap)(j:tc cap ln (m.map e.ev)=O h)(f:tc h 0 (lo.map e.ev)=O l):l<=h/\h<=cap:=by
 rcases Lx j with g|⟨_,g⟩
 .rcases Lx f with d|⟨_,d⟩<;>omega
 .rcases Lx f with d|⟨_,d⟩<;>omega
def ah3 {t d:TypeId}{n:Nat}{V:Option Operand}(ho:o.op= .slice t x lo V Y)(hu:P.underlying t=O (.slice d))(hn:mK P d=O n)(hx:dq x=Za)(X: ∀u,lo=O u->dq u=Za)(U: ∀u,V=O u->dq u=Za)
  (r:(AOp.slice n x lo V).run e Z=O (v,Z')) (he:ga μ N e a.tmps) (I:R B μ Z w):kU P o a w B μ v Z':=by
 have S:=he.ev hx;simp only[AOp.run]at r;split at r
 .rename_i p Q F hp;split at r
  .rename_i hcut;split at r
   .rename_i h L;split at r
    .rename_i l D;simp only[cc,dl]at r;obtain⟨rfl,rfl⟩:=r;rw[hp]at S
     have z: ∀(T:Option Addr) (f:Nat),a.eval x= .slice T Q f->F<=f->
       (execOp a.eval o).run P w= .ok (.value (.slice (if f=l then T else T.map (·.add (l*n))) (h-l) (f-l))) w:=by
      intro T f hy W;have hb:=IB (P:=P) (s:=Za) X U L D W he w;simp only[execOp,ho,Instr.sliceAt,bB,fX hu,aD,Instr.slice,hy,cD,hb,nC hn,bD]
     cases p with
     |none=>
      obtain⟨M,rfl,rfl⟩:=S.nils_inv;have:=yw (aB _) L D;refine .same I (z _ _ M (aB _)) ?_;have C:h=0:=by omega
      subst C;simp only[cD,ite_self];rw[show(0:Nat)-l=0 from by omega];exact .nils
     |some A=>
      generalize M:a.eval x=q at S;cases S with
      |slice j h2 h3 K=>
       rename_i b off f g;have⟨k1,k2⟩:=yw h2 L D;refine .same I (z _ _ M h3) ?_;by_cases J:f=l
       .rw[zE J,J,show l-l=0 from by omega,show F-l=0 from by omega,show h-l=0 from by omega];exact .slice0 _ j
       .rw[zF J];simp only[cB,NP,qv];rw[cK];refine .slice j V1 V1 ?_;cases lo with
        |none=>
         have:l=0:=by simpa[tc]using D.symm
         subst this;simpa using K
        |some u=>
         rw[cN]at hcut;rcases hcut with hcut|hcut
         .have:F=0:=by simpa using hcut
          have:l=0:=by omega
          subst this;simpa using K
         unfold Bt at hcut;simp only at hcut;split at hcut
         .rename_i E m;have C:=(I.get m j.1).es;have H:E.es=n:=by simpa using hcut
          rw[C,H]at K⊢;have:l*n+(f-l)*n=f*n:=by rw[<-cL];congr 1;omega
          omega
         .cases hcut
      |slice0 A' j=>
       have⟨k1,k2⟩:=yw (aB _) L D;refine .same I (z _ _ M (aB _)) ?_;have C:l=0:=by omega
       have H:h=0:=by omega
       subst C H;simp only[cB,if_true];exact .slice0 _ j
      |sliceX j K=>
       rename_i b off g;have⟨k1,k2⟩:=yw (aB _) L D;refine .same I (z _ _ M (aB _)) ?_;by_cases J:Q=l
       .rw[zE J,J,show l-l=0 from by omega,show h-l=0 from by omega];exact .slice0 _ j
       .rw[zF J];simp only[cB,NP,qv];rw[cK];refine .slice j V1 V1 ?_;cases lo with
        |none=>
         have:l=0:=by simpa[tc]using D.symm
         subst this;simpa using K
        |some u=>
         rw[cN]at hcut;rcases hcut with hcut|hcut
         .have:Q=0:=by simpa using hcut
          omega
         unfold Bt at hcut;simp only at hcut;split at hcut
         .rename_i E m;have C:=(I.get m j.1).es;have H:E.es=n:=by simpa using hcut
          rw[C,H]at K⊢;have:l*n+(Q-l)*n=Q*n:=by rw[<-cL];congr 1;omega
          omega
         .cases hcut
      |sliceX0 A' j=>
       have⟨k1,k2⟩:=yw (aB _) L D;refine .same I (z _ _ M (aB _)) ?_;have C:l=0:=by omega
       have H:h=0:=by omega
       subst C H;simp only[cB,if_true];exact .slice0 _ j
    .cases r
   .cases r
  .cases r
 .cases r
def Sn {t:TypeId}{g:Option Operand}(A:o.op= .slice t x lo g Y)(D:P.underlying t=O .string)(E:dq x=Za)(j: ∀u,lo=O u->dq u=Za)(f: ∀u,g=O u->dq u=Za)
  (d:(AOp.sliceStr x lo g).run e Z=O (v,Z')) (m:ga μ N e a.tmps) (p:R B μ Z w):kU P o a w B μ v Z':=by
 have n:=m.ev E;simp only[AOp.run]at d;split at d
 .rename_i s C;split at d
  .rename_i h r;split at d
   .rename_i l z;simp only[cc,dl]at d;obtain⟨rfl,rfl⟩:=d;rw[C]at n;have q:=IB (P:=P) (s:=Zb) j f r z (aB _) m w;refine .same p (v':= .string (s.extract l h)) ?_ (.string _);simp only[execOp,A,Instr.sliceAt,bB,fX D,aD,Instr.slice,n.string_inv,cD,Option.isSome_none,cM,if_false,q,bD]
   .cases d
  .cases d
 .cases d
def Sm {t d:TypeId}{m n:Nat}{z:Option Operand}(S:o.op= .slice t x lo z Y)(U:P.underlying t=O (.array m d))(Q:mK P d=O n)(V:dq x=Za)(A: ∀u,lo=O u->dq u=Za)(r: ∀u,z=O u->dq u=Za)
  (f:(AOp.sliceArr n m x lo z).run e Z=O (v,Z')) (F:ga μ N e a.tmps) (D:R B μ Z w):kU P o a w B μ v Z':=by
 have J:=F.ev V;simp only[AOp.run]at f;split at f
 .rename_i b C T;split at f
  .rename_i K j;split at f
   .rename_i E;split at f
    .rename_i h H;split at f
     .rename_i l I;split at f
      .rename_i M;simp only[cc,dl]at f;obtain⟨rfl,rfl⟩:=f;rw[T]at J;have⟨g,q,W⟩:=J.ptr_inv;have⟨X,k2⟩:=yw (aB _) H I;have L:=IB (P:=P) (s:=Zb) A r H I (aB _) F w;have p:=D.get j q.1;have⟨_,o2,_⟩:=p.own q.2 E.1;refine .same D (v':= .slice (O ⟨g.c,g.o+(C+l*n),Y⟩) (h-l) (m-l)) ?_ (.slice q V1 (aB _) ?_)
       .simp only[execOp,S,Instr.sliceAt,bB,fX U,aD,W,Instr.sureAddr,cD,L,nC Q,bD];rw[Zh,qv,cK]
       .rw[p.es,E.2.1];have:l*n+(m-l)*n=m*n:=by rw[<-cL];congr 1;omega
        omega
      .cases f
     .cases f
    .cases f
   .cases f
  .cases f
 .cases f
def Qm {t d:TypeId}{n f:Nat}{z:List Value}(W:o.op= .makeSlice t x y)(X:P.underlying t=O (.slice d))(V:mK P d=O n)(Q:Ru P d=O f)(hz:oP P d=O z)(hx:dq x=Za)(hy:dq y=Za)
  (r:dt z=n) (h0:0<n) (p:(AOp.makeSlice n f z x y).run e Z=O (v,Z')) (J:ga μ N e a.tmps) (M:R B μ Z w):kU P o a w B μ v Z':=by
 have H:=J.ev hx;have I:=J.ev hy;have⟨s,K,F,L⟩:=mz hz;simp only[AOp.run]at p;split at p
 .rename_i k l k' c U S;split at p
  .rename_i j;have⟨c1,c2,c3,c4⟩:=j;simp only[cc,dl]at p;obtain⟨rfl,rfl⟩:=p;rw[U]at H;rw[S]at I;have v1:=H.int_inv;have v2:=I.int_inv;have⟨i,T,C⟩:=Option.map_eq_some_iff.1 Q;have w1:IntKind.i64.wrap l=l:=IntWalk.i64_in _ V1;have w2:IntKind.i64.wrap c=c:=IntWalk.i64_in _ V1;have E:s.cells.size=n:=by rw[<-r,<-F];simp[cellsOf]
   have D:s.cells.toList=z:=F;have q:(ei z c.toNat).toArray.size=c.toNat*n:=by simp[yt,r]
   refine .new M (ei z c.toNat).toArray d (ei z c.toNat) n (.slice (O ⟨w.heap.size,0,Y⟩) l.toNat c.toNat) ?_ ?_ (λh=>VR.slice (o:=0) h V1 (aB _) (by rw[q];simp))
   .simpa using VR.plainCells (Fj L _)
   .have ht: ¬((f:Int)*c > 281474976710656):=by omega
    have m: ∀w:World,(typeInfo d).run P w= .ok i w:=λw=>by simp[typeInfo,T]
    simp only[execOp,W,Instr.makeSlice,bB,fX X,aD,v1,v2,asInt,asIntOf,bD,m,C,w1,w2]
    have t1:(Zc (c<0)||Zc ((f:Int)*c > 2 ^ 48))=Zb:=by
     simp;omega
    have t2:(Zc (l<0))=Zb:=by simp;omega
    have t3:(Zc (l > c))=Zb:=by simp;omega
    simp only[t1,t2,t3,Bool.or_false,cM,if_false,bB,run_askRoom,aD,nC V];by_cases g:c.toNat*n=0
    .have u:c.toNat=0:=by
      rcases Nat.mul_eq_zero.1 g with h|h
      .exact h
      .omega
     have:(ei z c.toNat)=[]:=by rw[u];rfl
     rw[zE g,this,g];simp[newRow,show Array.range 0= #[]from rfl]
    .rw[zF g]
     have A:(Array.range (c.toNat*n)).map (λi=>s.cells[i % s.cells.size]!)=(ei z c.toNat).toArray:=by
      rw[<-D,<-MX _ _ V1,E]
     simp only[bB,K,bD,aD,A];simp[newRow]
  .cases p
 .cases p
end
end
section
open Bool renaming false_eq_true -> cM
open Builtin renaming firstCells -> bB, zeroCells -> bD, append_ -> cR, lenOf -> cS
open List renaming length_append -> cK, map_cons -> cN, map_nil -> cO, map_toArray -> cP, take_left -> cT, getElem?_drop -> cV, getElem?_take -> cW, append_assoc -> cY, getElem?_eq_getElem -> cZ, getElem?_eq_none -> dA
open Nat renaming le_refl -> cB, add_mul -> cL, zero_add -> cQ, mul_le_mul_right -> cU, add_assoc -> cX
open Result renaming andThen_ok -> aB
open Sem renaming run_bind -> aD, run_pure -> cD
open Go.RowKit
section
variable {P:Program} {o:Oper} {a:Act} {w w':World} {B:Base P} {N:Nat} {μ:Mu} {e:cm} {Z Z':Hp} {v:Value}
def Mv {x:Blk}{o:Nat}{cs:List Value}(h:rf x o 0=O cs):cs=[]:=by
 unfold rf at h;split at h
 .simpa using h.symm
 .cases h
def Br {es n ln:Nat}{x z:Value}{cs:List Value}(r:E0 x=O ln)(H:n<=ln)(h:Z.slice es x n=O cs)(F:R B μ Z w)(f:VR μ x z):
  ∃arr:Array Value,(∀w':World,w'.heap=w.heap->(bB es n z).run P w'= .ok arr w')/\F2 (VR μ) cs arr.toList:=by
 unfold Hp.slice at h;split at h
 .rename_i b I l c;simp[E0]at r;subst r;split at h
  .rename_i m;cases h;subst m;rcases f.slice_inv with⟨g,C,q,_,_,_,rfl⟩|⟨rfl,rfl,A',rfl,_⟩
   .exact⟨#[],λ_ _=>by simp[bB,loadCells,loadCellsFrom], .nil⟩
   .exact⟨#[],λ_ _=>by simp[bB,loadCells,loadCellsFrom], .nil⟩
  split at h
  .rename_i A d;rcases f.slice_inv with⟨g,C,q,_,_,_,rfl⟩|⟨rfl,rfl,A',rfl,_⟩
   .obtain⟨j,D,E⟩:=F.reads d q h;exact⟨j.toArray,λw' p=>by simp[bB,D P w' p],E⟩
   .have:n=0:=by omega
    subst this;rw[Nat.zero_mul]at h;rw[Mv h];exact⟨#[],λ_ _=>by simp[bB,loadCells,loadCellsFrom], .nil⟩
  .cases h
 .obtain⟨rfl,_,_⟩:=f.nils_inv;split at h
  .injection h with h
   subst h;exact⟨#[],λ_ _=>by simp[bB], .nil⟩
  .cases h
 .rename_i s;split at h
  case isFalse=>cases h
  cases h;obtain rfl:=f.string_inv;refine⟨_,λ_ _=>by simp only[bB];rfl, ?_⟩;simp only[Array.toList_map]
  exact F2.same _ λu t=>by
   simp only[List.mem_map]at t;obtain⟨c,_,rfl⟩:=t;exact .int _ _
 .cases h
def JS {x y:Blk}{d:Nat}{vs:List Value}(h:Bx x d vs=O y):x.own=Za/\d+dt vs<=dt x.cells/\(∀v∈vs,one v=Za)/\y=⟨lg x.cells d vs,x.own,x.es⟩:=by
 unfold Bx at h;split at h
 .rename_i f;injection h with h
  exact⟨f.1,f.2.1,λv g=>List.all_eq_true.1 f.2.2 v g,h.symm⟩
 .cases h
def ay2 {t d:TypeId}{ts:List TypeId}{n:Nat}(ho:o.op= .call c)(hc:c.callee= .builtin .copy)(ha:c.args.toList=[x,y])(ht:c.argTypes.toList=t::ts)(hu:P.underlying t=O (.slice d))(hn:mK P d=O n)
  (hx:dq x=Za) (hy:dq y=Za) (h:(AOp.copy n x y).run e Z=O (v,Z')) (X:ga μ N e a.tmps) (M:R B μ Z w):kU P o a w B μ v Z':=by
 have r:=X.ev hx;have H:=X.ev hy;have⟨cst,F⟩:=iZ (P:=P) (a:=a) ho hc w;simp only[AOp.run]at h;split at h
 .rename_i p u dc hp;rw[hp]at r
  have S: ∃A m,a.eval x= .slice A u m:=by
   generalize a.eval x=q at r;cases r<;>exact⟨_,_,rfl⟩
  have⟨A,m,hq⟩:=S;split at h
  .rename_i I E;have z:=VN E H
   have Q:(cS (a.eval y)).run P w= .ok I w:=by
    generalize a.eval y=q at*;cases q<;>simp[E0]at z<;>simp[cS,z]
   split at h
   .rename_i U f;have⟨s,f1,L⟩:=Br (P:=P) E (Nat.min_le_left _ _) f M H
    have head:(execOp a.eval o).run P w=((do
      if let O a:=A then storeCells a s.toList
      pure (goInt (Nat.min I u)):Sem Value).run P w).andThen λv w=> .ok (.value v) w:=by
     simp only[F,builtin,Builtin.copy_,Lm ha,cP,cN,cO,Rn ht,hq,aD];have e1:(#[Value.slice A u m,a.eval y]:Array Value)[0]?=O (.slice A u m):=rfl;have e2:(#[Value.slice A u m,a.eval y]:Array Value)[1]?=O (a.eval y):=rfl;simp only[e1,e2,aD,fX hu,aB,Q,nC hn];have K:(bB n (I.min u) (a.eval y)).run P w= .ok s w:=f1 w rfl;simp only[K,aB];rfl
    have l:U=[]->kU P o a w B μ (.int .i64 (min I u:Nat)) Z:=by
     intro j;subst j
     have:s= #[]:=by
      cases C:s.toList with
      |nil=>simpa using C
      |cons _ _=>rw[C]at L;cases L
     subst this;refine .same M ?_ (.int _ _);rw[head];cases A<;>simp[storeCells,goInt]<;>rfl
    split at h
    .rename_i b V;split at h
     .rename_i j;simp only[cc,dl]at h;obtain⟨rfl,rfl⟩:=h;exact l j
     .rename_i j;split at h
      .rename_i J D;split at h
       .rename_i W hw;simp only[cc,dl]at h;obtain⟨rfl,rfl⟩:=h;obtain⟨k1,k2,k3,rfl⟩:=JS hw;rw[hq]at r;rcases r.slice_inv with⟨g,c',hg,_,_,_,hv⟩|⟨rfl,_⟩
        .injection hv with T hv2 hv3
         subst T;have⟨w',g1,g2,g3⟩:=R.writes _ _ L k3 Z w b V 0 J g M D k1 hg V1;refine⟨_,w',μ, .int .i64 (min I u:Nat), ?_, .inl rfl,μ.le_refl,g2, .int _ _,g3⟩;rw[head];simp[g1,goInt]
        .exfalso;rw[Nat.min_zero]at f;unfold Hp.slice at f;split at f
         .simp at f;exact j f
         .simp at f;exact j f
         .simp at f;exact j f.2
         .cases f
       .cases h
      .cases h
    .split at h
     .rename_i j;simp only[cc,dl]at h;obtain⟨rfl,rfl⟩:=h;exact l j
     .cases h
    .cases h
   .cases h
  .cases h
 .cases h
def Hw {arr:Array Value}(h:F2 (VR μ) [] arr.toList):arr= #[]:=by
 cases d:arr.toList with
 |nil=>simpa using d
 |cons _ _=>rw[d]at h;cases h
def Rm {st t d:TypeId}{n m:Nat}{z:List Value}(ho:o.op= .call c)(hc:c.callee= .builtin .append)(U:c.args.toList=[x,y])(ht:c.argTypes.toList=[st,t])(hu:P.underlying st=O (.slice d))
  (I:(∃q,P.underlying t=O (.slice q))∨P.underlying t=O .string) (W:mK P d=O n) (hb:Ru P d=O m) (hz:oP P d=O z)
  {s:Option Addr} {f j ln:Nat} (X:a.eval x= .slice s f j) (D:E0 (a.eval y)=O ln) {arr:Array Value} (u:(bB n ln (a.eval y)).run P w= .ok arr w):
  (f+ln<=j->(execOp a.eval o).run P w=((do
    if let O a:=s then storeCells (a.add (f*n)) arr.toList
    pure (.slice s (f+ln) j):Sem Value).run P w).andThen λv w=> .ok (.value v) w)/\
  (j<f+ln->(f+ln)*m<=140737488355328->f+ln<=9223372036854775807->∀r:Array Value,(bB n f (.slice s f j)).run P w.drew= .ok r w.drew->(bB n ln (a.eval y)).run P w.drew= .ok arr w.drew->
   ∃cap,f+ln<=cap/\∃J:Value,cellsOf J=z/\(execOp a.eval o).run P w= .ok (.value (.slice (O ⟨w.heap.size,0,Y⟩) (f+ln) cap)) (w.drew.alloc (.cells (r++arr++bD J.cells (cap-(f+ln))) d))):=by
 have⟨cst,l⟩:=iZ (P:=P) (a:=a) ho hc w
 have E:(cS (a.eval y)).run P w= .ok ln w:=by
  generalize a.eval y=q at*;cases q<;>simp[E0]at D<;>simp[cS,D]
 have⟨i,hi,C⟩:=Option.map_eq_some_iff.1 hb;have g: ∀w:World,(typeInfo d).run P w= .ok i w:=λw=>by simp[typeInfo,hi]
 have M:(#[Value.slice s f j,a.eval y]:Array Value)[0]?=O (.slice s f j):=rfl;have Q:(#[Value.slice s f j,a.eval y]:Array Value)[1]?=O (a.eval y):=rfl;have S:(#[st,t]:Array TypeId)[0]?=O st:=rfl;have T:(#[st,t]:Array TypeId)[1]?=O t:=rfl;refine⟨λA=> ?_,λp h V r H F=> ?_⟩
 .rw[l];rcases I with⟨q,hdd⟩|hdd
  all_goals
   simp only[builtin,cR,Lm U,Lm ht,cP,cN,cO,X,M,Q,S,T,aD,fX hu,fX hdd,aB,nC W,cD,cM,if_false,E,Bool.not_false,if_true];rw[zE A];simp only[aD,u,aB];rfl
 .obtain⟨J,z1,z2,z3⟩:=mz hz;refine⟨grownCap w (f+ln) j d,grownCap_ge _ _ _ _,J,z2, ?_⟩;have L:=growslice_fits p h;rw[l];rcases I with⟨q,hdd⟩|hdd
  all_goals
   simp only[builtin,cR,Lm U,Lm ht,cP,cN,cO,X,M,Q,S,T,aD,fX hu,fX hdd,aB,nC W,cD,cM,if_false,E,Bool.not_false,if_true];rw[Zh];simp only[aD,g,aB,C,false_or]
   have K: ¬(((f+ln:Nat):Int) > IntKind.i64.max/\m=0):=by
    have:IntKind.i64.max=9223372036854775807:=by decide
    omega
   rw[zF K];simp only[aD,g,aB,C];rw[Zh];simp only[aD,run_choose,Question.forced,cM,if_false,World.drew_eq,aB,g,run_askRoom,H,F,z1,newRow,run_newObj,cD,World.alloc_eq];rfl
def Aa (z:Array Value)(n:Nat):(bD z n).size=n*z.size:=by simp[bD]
def Di (Z:Hp)(d:R B μ Z w):R B μ Z w.drew:=d.same rfl
def am5 {α:Type}(A M T:List α):(A++(M++T)).take (dt A+dt M)=A++M:=by
 rw[<-cY,<-cK,cT]
def I8 {x:Blk}{o n:Nat}{cs:List Value}(h:rf x o n=O cs):dt cs=n:=by
 unfold rf at h;split at h
 .injection h with h
  subst h;simp;omega
 .cases h
def X7 {es n:Nat}{x:Value}{cs:List Value}(h:Z.slice es x n=O cs)(g: ∀s,x= .string s->n<=s.size):dt cs=n*es:=by
 unfold Hp.slice at h;split at h
 .split at h
  .rename_i d;injection h with h;subst h d;simp
  split at h
  .exact I8 h
  .cases h
 .split at h
  .rename_i d;injection h with h;subst h d;simp
  .cases h
 .rename_i s;split at h
  case isFalse=>cases h
  rename_i f;injection h with h
  subst h;have j:=g s rfl;subst f;simp;omega
 .cases h
def Ff (g o:Nat)(t:TypeId)(f:Nat×Nat): ∀(vs:List Value) (i:Nat) (d:Array Value) (w:World),w.heap[g]?=O (.cells d t f)->(d.size<=f.1∨f.1=f.2)->o+i+dt vs<=d.size->(∀v∈vs,v.oneCell'=Za)->
  (storeCells ⟨g,o,Y⟩ vs i).run P w= .ok () (w.setRow g (d.toList.take (o+i)++vs++d.toList.drop (o+i+dt vs)).toArray)
 |[],i,d,w,l,_,_,_=>by
  simp only[storeCells,List.append_nil,List.length_nil,Nat.add_zero,List.take_append_drop,Array.toArray_toList];rw[setRow_self w g d t f l];rfl
 |v::h,i,d,w,l,q,m,p=>by
  have r:o+i<d.size:=by simp at m;omega
  have j:w.cell? ⟨g,o+i,Y⟩=O d[o+i]:=by simp[World.cell?,l,r]
  have n:(store ((⟨g,o,Y⟩:Addr).add i) v).run P w= .ok () (w.setRow g (d.setIfInBounds (o+i) v)):=by
   rw[qv,run_store P w _ v _ (p v V2),j];simp[LX w g (o+i) d t f l r q,setCell_eq_setRow w g (o+i) d t f v l]
  have u:=Ff g o t f h (i+1) (d.setIfInBounds (o+i) v) (w.setRow g (d.setIfInBounds (o+i) v)) (setRow_heap w g d _ t _ l) (by simpa using q) (by simp at m⊢;omega) (λx s=>p x (by simp[s]));simp only[storeCells,aD,n,aB,u,setRow_setRow]
  congr 3
  have e:=list_seg_step d.toList (o+i) v h (by simp at m⊢;omega);simpa[Array.toList_setIfInBounds,cX]using e
def R.moved (r:R B μ Z w){b:Nat}{blk:Blk}{g:G}(f:Z.m b=O blk)(p:blk.own=Za)(F:μ.at b g){d n:Nat}{cells:List Value}{A:Array Value}{t:TypeId}{W:Nat×Nat}(hfr:A.size<=W.1∨W.1=W.2)
  (V:w.heap.size=w'.heap.size) (M:w'.heap[g.c]?=O (.cells A t W)) (H: ∀k,k≠g.c->w'.heap[k]?=w.heap[k]?) (hsz:g.o+g.ext<=A.size) (hfit:d+dt cells<=g.ext)
  (hc:F2 (VR μ) cells ((A.toList.drop (g.o+d)).take (dt cells))):
  R B (μ.add Z.n ⟨g.c,g.o+d,g.ext-d,n,t,Y⟩) ((Z.set b Y).add ⟨cells,Za,n⟩) w'/\μ.le (μ.add Z.n ⟨g.c,g.o+d,g.ext-d,n,t,Y⟩):=by
 have hf:μ Z.n=Y:=r.fresh _ (cB _);have z:μ.le (μ.add Z.n ⟨g.c,g.o+d,g.ext-d,n,t,Y⟩):=Mu.le_add hf;have hl:=r.get f F.1;have⟨o1,o2,_⟩:=hl.own F.2 p;have hbn:b≠Z.n:=λe=>by have:=F.1;rw[e,hf]at this;cases this
 have old: ∀j x,j≠Z.n->((Z.set b Y).add ⟨cells,Za,n⟩).m j=O x->Z.m j=O x/\j≠b:=by
  intro j x u q;have E:j≠(Z.set b Y).n:=u;simp only[Hp.add,zF E]at q;simp only[Hp.set]at q;split at q
  .cases q
  .rename_i h;exact⟨q,h⟩
 have new: ∀x,((Z.set b Y).add ⟨cells,Za,n⟩).m Z.n=O x->x=⟨cells,Za,n⟩:=by
  intro x q;have E:Z.n=(Z.set b Y).n:=rfl;simp only[Hp.add,zE E]at q;exact(Option.some.inj q).symm
 refine⟨⟨by rw[<-V];exact r.base,λk hk=>(H k V1).trans (r.old k hk),λj u=> ?_,λj x q=> ?_,λQ S x x' X g2 q s J ho U I=> ?_, ?_⟩,z⟩
 .have:Z.n+1<=j:=u;unfold Mu.add;rw[Zh];exact r.fresh j V1
 .by_cases u:j=Z.n
  .subst u;obtain rfl:=new x q;refine⟨⟨g.c,g.o+d,g.ext-d,n,t,Y⟩,ZG,⟨by rw[<-V];exact hl.lt,rfl,λ_ i v hv=> ?_,λ_ _=>⟨o1,by simp;omega,A,t,W,M,by simp;omega,hfr⟩,λ_ hs=>(by cases hs),λhs=>by cases hs⟩⟩;have⟨v',D,L⟩:=hc.get i v hv
   have hi:i<dt cells:=by
    rcases Nat.lt_or_ge i (dt cells) with h3|h3
    .exact h3
    .simp[dA h3]at hv
   refine⟨v', ?_,L.mono z⟩;rw[cell_of_row _ _ _ A t W M];rw[cW,zE hi,cV]at D;simpa using D
  .obtain⟨s,T⟩:=old j x u q;have⟨K,D,L⟩:=r.live j x s;have J:K.c≠g.c:=λe=>r.inj b j blk x g K f s (λe=>T e.symm) p F.1 D e.symm
   exact⟨K,z _ _ D,(r.stays s D (by rw[V];exact cB _) g.c (λk hk _=>H k hk) J (λhi hk=>(r.sep j x K s D hi _ hk b blk g f F.1).1 rfl)).mono z⟩
 .by_cases u:Q=Z.n
  .subst u;have C:S≠Z.n:=λe=>J e.symm
   have e1:X.c=g.c:=by simp[Mu.add]at U;rw[<-U]
   have L:μ S=O g2:=by simpa[Mu.add,C]using I
   have⟨hx2,E⟩:=old S x' C s;rw[e1];exact r.inj b S blk x' g g2 f hx2 (λe=>E e.symm) p F.1 L
  .have D:μ Q=O X:=by simpa[Mu.add,u]using U
   have⟨hx1,hb1⟩:=old Q x u q;by_cases C:S=Z.n
   .subst C;have e1:g2.c=g.c:=by simp[Mu.add]at I;rw[<-I]
    rw[e1];exact λe=>r.inj b Q blk x g X f hx1 (λe=>hb1 e.symm) p F.1 D e.symm
   .have L:μ S=O g2:=by simpa[Mu.add,C]using I
    exact r.inj Q S x x' X g2 hx1 (old _ _ C s).1 J ho D L
 .refine r.sep.of (λj x K q l=> ?_) (λj x K q l hi hl'=> ?_)
  .by_cases u:j=Z.n
   .subst u;have e1:K=⟨g.c,g.o+d,g.ext-d,n,t,Y⟩:=by simp[Mu.add]at l;exact l.symm
    subst e1;exact .inr ⟨λh0=>(by cases h0),λQ x1 X k D L h3 h4=>(r.sep Q x1 X D L h3 k h4 b blk g f F.1).1⟩
   .exact .inl ⟨x,(old j x u q).1,by simpa[Mu.add,u]using l⟩
  .have T:j≠b:=λe=>by subst e;rw[F.1]at l;cases l;rw[F.2]at hi;cases hi
   unfold iK;rw[H _ (λe=>r.inj b j blk x g K f q (λe=>T e.symm) p F.1 l e.symm)]
def JJ {d:TypeId}{n by_:Nat}{z:List Value}{p:Option Addr}{l sc ln:Nat}{F:List Value}{arr:Array Value}(hzn:z.length=n)(f2:F2 (VR μ) F arr.toList)(m:F.length=ln*n)
  (hp:e.ev x= .slice p l sc) (hx:dq x=Za) (s:nr n by_ Z p l sc ln F=O (v,Z')) (he:ga μ N e a.tmps) (hR:R B μ Z w)
  (J: ∀{Q:Option Addr} {C:Nat},a.eval x= .slice Q l C->(l+ln<=C->(execOp a.eval o).run P w=((do
    if let O a:=Q then storeCells (a.add (l*n)) arr.toList
    pure (.slice Q (l+ln) C):Sem Value).run P w).andThen λv w=> .ok (.value v) w)/\
   (C<l+ln->(l+ln)*by_<=140737488355328->l+ln<=9223372036854775807->∀A:Array Value,(bB n l (.slice Q l C)).run P w.drew= .ok A w.drew->
    ∃cap,l+ln<=cap/\∃X:Value,cellsOf X=z/\(execOp a.eval o).run P w= .ok (.value (.slice (O ⟨w.heap.size,0,Y⟩) (l+ln) cap)) (w.drew.alloc (.cells (A++arr++bD X.cells (cap-(l+ln))) d)))):kU P o a w B μ v Z':=by
 have hvx:=he.ev hx;rw[hp]at hvx;unfold nr at s;split at s
 .rename_i hfit;split at s
  .rename_i b j
   have L: ∃Q C,a.eval x= .slice Q l C/\sc<=C/\VR μ (.slice (O ⟨b,j,Y⟩) (l+ln) sc) (.slice Q (l+ln) C)/\(F≠[]->∃g,μ.at b g/\Q=O ⟨g.c,g.o+j,Y⟩):=by
    rcases hvx.slice_inv with⟨g,c',hg,T,h2,h3,hv⟩|⟨T,h2,A',hv,g0,hg0⟩
    .exact⟨_,c',hv,h2, .slice hg hfit h2 h3,λ_=>⟨g,hg,rfl⟩⟩
    .subst T h2;have:ln=0:=by omega
     subst this;exact⟨_,0,hv,cB _, .slice0 _ hg0,λhne=>absurd (List.eq_nil_of_length_eq_zero (by simpa using m)) hne⟩
   obtain⟨Q,C,hq,hle,hvr,hwhere⟩:=L;obtain⟨head,_⟩:=J hq;have head:=head V1;split at s
   .rename_i hn0;simp only[cc,dl]at s;obtain⟨rfl,rfl⟩:=s;subst hn0;have:=Hw f2;subst this;refine .same hR ?_ hvr;rw[head];cases Q<;>simp[storeCells]
   .rename_i hn0;split at s
    .rename_i blk K;split at s
     .rename_i blk' hw;simp only[cc,dl]at s;obtain⟨rfl,rfl⟩:=s;obtain⟨k1,k2,k3,rfl⟩:=JS hw;obtain⟨g,hg,rfl⟩:=hwhere hn0;obtain⟨w',g1,g2,g3⟩:=R.writes _ _ f2 k3 Z w b (j+l*n) 0 blk g hR K k1 hg V1;refine⟨_,w',μ,_, ?_, .inl rfl,μ.le_refl,g2,hvr,g3⟩;rw[head];simp[qv,cX];simp[g1]
     .cases s
    .cases s
  .split at s
   .rename_i hn0;obtain⟨hn0,T,h2,h3⟩:=hn0;simp only[cc,dl]at s;obtain⟨rfl,rfl⟩:=s;subst T h2 h3 hn0;obtain⟨hq,_,_⟩:=hvx.nils_inv;have:=Hw f2;subst this;obtain⟨head,_⟩:=J hq;refine .same hR ?_ .nils;rw[head V1];simp
   .cases s
  .cases s
 .rename_i hfit;split at s
  .rename_i hbig;obtain⟨hb1,hb2,hall⟩:=hbig;have hone: ∀u∈F,one u=Za:=λu hu=>List.all_eq_true.1 hall u hu
   split at s
   .rename_i b j;split at s
    .rename_i blk K;split at s
     .rename_i hown;split at s
      .rename_i A r;simp only[cc,dl]at s;obtain⟨rfl,rfl⟩:=s;have f:=I8 r
       have L: ∃Q C,a.eval x= .slice Q l C/\sc<=C/\(∃M:Array Value,(bB n l (.slice Q l C)).run P w.drew= .ok M w.drew/\F2 (VR μ) A M.toList)/\
         (l+ln<=C->∃g,μ.at b g/\Q=O ⟨g.c,g.o+j,Y⟩/\j+C*g.es<=g.ext):=by
        rcases hvx.slice_inv with⟨g,c',hg,T,h2,h3,hv⟩|⟨T,h2,A',hv,g0,hg0⟩
        .obtain⟨cs',r1,r2⟩:=(Di Z hR).reads K hg r;exact⟨_,c',hv,h2,⟨cs'.toArray,by simp[bB,r1 P w.drew rfl],r2⟩,λ_=>⟨g,hg,rfl,h3⟩⟩
        .subst T h2;rw[Nat.zero_mul]at r;have:=Mv r;subst this;exact⟨_,0,hv,cB _,⟨#[],by simp[bB,loadCells,loadCellsFrom], .nil⟩,λh=>absurd h V1⟩
       obtain⟨Q,C,hq,hle,⟨M,q1,q2⟩,hin⟩:=L;by_cases hin':l+ln<=C
       .
        obtain⟨head,_⟩:=J hq;have head:=head hin';obtain⟨g,hg,rfl,hext⟩:=hin hin';have hlv:=hR.get K hg.1;obtain⟨o1,o2,E,t,fr,o3,o4,o5⟩:=hlv.own hg.2 hown.1;have hes:g.es=n:=hlv.es.trans hown.2;rw[hes]at hext;have hsum:(l+ln)*n<=C*n:=cU _ hin';rw[cL]at hsum;have D:arr.toList.length=ln*n:=by rw[<-f2.length,m]
        have hone': ∀u∈arr.toList,u.oneCell'=Za:=by
         intro u hu;obtain⟨i,hi,he'⟩:=List.getElem_of_mem hu;obtain⟨u',T,h2⟩:=f2.get i (F[i]'(by rw[m,<-D];exact hi)) (cZ _);rw[cZ hi]at T;injection T with T
         rw[<-he',T,<-h2.one_iff];exact hone _ (List.getElem_mem _)
        have hst:=Ff (P:=P) g.c (g.o+j+l*n) t fr arr.toList 0 E w o3 o5 V1 hone';rw[Nat.add_zero]at hst;have hrow:=setRow_heap w g.c E (E.toList.take (g.o+j+l*n)++arr.toList++E.toList.drop (g.o+j+l*n+arr.toList.length)).toArray t fr o3
        have hold':F2 (VR μ) A ((E.toList.drop (g.o+j)).take (l*n)):=by
         obtain⟨cs',r1,r2⟩:=hR.reads K hg r;refine F2.of_get _ _ (by rw[f];simp;omega) λi u u' hu hu'=> ?_
         have hi:i<l*n:=by
          rcases Nat.lt_or_ge i (l*n)with h3|h3
          .exact h3
          .rw[dA V1]at hu;cases hu
         unfold rf at r;split at r
         .injection r with r
          rw[<-r,cW,zE hi,cV]at hu;obtain⟨u'',T,h2⟩:=hlv.cell hg.2 (j+i) u hu;rw[cell_of_row _ _ _ E t fr o3]at T;rw[cW,zE hi,cV]at hu'
          have:u'=u'':=by
           have e1:E[g.o+(j+i)]?=O u':=by rw[<-Array.getElem?_toList,<-cX];exact hu'
           rw[e1]at T;exact Option.some.inj T
          rw[this];exact h2
         .cases r
        have hcells:F2 (VR μ) (A++F) (((E.toList.take (g.o+j+l*n)++arr.toList++E.toList.drop (g.o+j+l*n+arr.toList.length)).toArray.toList.drop (g.o+j)).take (A++F).length):=by
         have:((E.toList.take (g.o+j+l*n)++arr.toList++E.toList.drop (g.o+j+l*n+arr.toList.length)).toArray.toList.drop (g.o+j)).take (A++F).length=((E.toList.drop (g.o+j)).take (l*n))++arr.toList:=by
          rw[cK,f,m,cY];rw[List.drop_append_of_le_length V3];rw[List.drop_take,show g.o+j+l*n-(g.o+j)=l*n from by omega];have e1:((E.toList.drop (g.o+j)).take (l*n)).length=l*n:=by simp;omega
          have e2:=am5 ((E.toList.drop (g.o+j)).take (l*n)) arr.toList (E.toList.drop (g.o+j+l*n+arr.toList.length));rw[e1,D]at e2;rw[D];exact e2
         rw[this];exact hold'.append f2
        obtain⟨m1,m2⟩:=R.moved (w':=w.setRow g.c (E.toList.take (g.o+j+l*n)++arr.toList++E.toList.drop (g.o+j+l*n+arr.toList.length)).toArray) (n:=n) hR K hown.1 hg (o5.imp (λo5=>by have h9:g.o+j+l*n+arr.toList.length<=E.size:=V1;rw[Array.length_toList]at h9;simp;omega) id) V2 hrow (λk hk=>setRow_other _ _ _ _ hk) V3 (by rw[cK,f,m];omega) hcells;refine⟨_,_,_,_, ?_, .inl rfl,m2,m1, .slice (o:=0) (g:=⟨g.c,g.o+j,g.ext-j,n,t,Y⟩) ⟨ZG,rfl⟩ (cB _) hin' V3, ?_⟩
        .rw[head];simp only[qv];simp only[aD,hst,aB,cD];rfl
        .refine⟨rfl,rfl,rfl,V2,λk hk=>setRow_other _ _ _ _ V1⟩
       .
        obtain⟨_,head⟩:=J hq;obtain⟨cap,H,X,hzz,S⟩:=head V1 hb1 hb2 M q1;have I:=Di Z hR;have hzs:X.cells.size=n:=by rw[<-hzn,<-hzz];simp[cellsOf]
        have W:M.toList.length=l*n:=by rw[<-q2.length,f]
        have D:arr.toList.length=ln*n:=by rw[<-f2.length,m]
        have V:(M++arr++bD X.cells (cap-(l+ln))).size=cap*n:=by
         have hoas:M.size=l*n:=by simpa using W
         have U:arr.size=ln*n:=by simpa using D
         rw[Array.size_append,Array.size_append,Aa,hzs,hoas,U,<-cL,<-cL]
         congr 1
         omega
        have hk:=I.kill b
        obtain⟨m1,m2⟩:=hk.add (M++arr++bD X.cells (cap-(l+ln))) d (A++F) n (by rw[cK,f,m,V,<-cL];exact cU _ H) (by
         have:((M++arr++bD X.cells (cap-(l+ln))).toList).take (A++F).length=M.toList++arr.toList:=by
          rw[cK,f,m,<-W,<-D,<-cK];simp only[Array.toList_append];exact cT
         rw[this]
         exact q2.append f2)
        refine⟨_,_,_,_,S, .inl rfl,m2,m1, .slice (o:=0) (g:=⟨w.drew.heap.size,0,_,n,_,Y⟩) ⟨by unfold Mu.add;exact zE rfl,rfl⟩ (cB _) H (by simp only[cQ];rw[V];exact cB _), ?_⟩;exact((Below.refl _ _).drew).alloc hR.base _
      .cases s
     .cases s
    .cases s
   .split at s
    .rename_i hsl;subst hsl;simp only[cc,dl]at s;obtain⟨rfl,rfl⟩:=s;obtain⟨hq,_,hsc⟩:=hvx.nils_inv;subst hsc;obtain⟨_,head⟩:=J hq;obtain⟨cap,H,X,hzz,S⟩:=head V1 hb1 hb2 #[] (by simp[bB]);rw[cQ]at H S;have I:=Di Z hR;have hzs:X.cells.size=n:=by rw[<-hzn,<-hzz];simp[cellsOf]
     have D:arr.toList.length=ln*n:=by rw[<-f2.length,m]
     have V:((#[]:Array Value)++arr++bD X.cells (cap-ln)).size=cap*n:=by
      have U:arr.size=ln*n:=by simpa using D
      rw[Array.size_append,Array.size_append,Aa,hzs,U,Array.size_empty,cQ,<-cL]
      congr 1
      omega
     obtain⟨m1,m2⟩:=I.add ((#[]:Array Value)++arr++bD X.cells (cap-ln)) d F n (by rw[m,V];exact cU _ H) (by
      have:(((#[]:Array Value)++arr++bD X.cells (cap-ln)).toList).take F.length=arr.toList:=by
       rw[m,<-D];simp only[Array.toList_append,List.nil_append];exact cT
      rw[this]
      exact f2)
     refine⟨_,_,_,_,S, .inl rfl,m2,m1, ?_,((Below.refl _ _).drew).alloc hR.base _⟩;exact .slice (o:=0) (g:=⟨w.drew.heap.size,0,_,n,_,Y⟩) ⟨by unfold Mu.add;exact zE rfl,rfl⟩ (cB _) H (by rw[V];show 0+cap*n<=cap*n;omega)
    .cases s
   .
    rename_i b j q
    have L: ∃Q,a.eval x= .slice Q l sc/\l=sc/\(l≠0->∃g,μ.at b g/\Q=O ⟨g.c,g.o+j,Y⟩):=by
     generalize hq:a.eval x=q' at hvx;cases hvx with
     |sliceX T h2=>exact⟨_,rfl,rfl,λ_=>⟨_,T,rfl⟩⟩
     |sliceX0 A' T=>exact⟨_,rfl,rfl,λh=>(h rfl).elim⟩
    obtain⟨Q,hq,hsc,hgo⟩:=L;have I:=Di Z hR
    have hfin: ∀(A:List Value) (M:Array Value),A.length=l*n->(bB n l (.slice Q l sc)).run P w.drew= .ok M w.drew->F2 (VR μ) A M.toList->
      kU P o a w B μ (.slice (O ⟨Z.n,0,Y⟩) (l+ln) (l+ln)) (Z.add ⟨A++F,Za,n⟩):=by
     intro A M f q1 q2;obtain⟨_,head⟩:=J hq;obtain⟨cap,H,X,hzz,S⟩:=head V1 hb1 hb2 M q1;have hzs:X.cells.size=n:=by rw[<-hzn,<-hzz];simp[cellsOf]
     have W:M.toList.length=l*n:=by rw[<-q2.length,f]
     have D:arr.toList.length=ln*n:=by rw[<-f2.length,m]
     have V:(M++arr++bD X.cells (cap-(l+ln))).size=cap*n:=by
      have hoas:M.size=l*n:=by simpa using W
      have U:arr.size=ln*n:=by simpa using D
      rw[Array.size_append,Array.size_append,Aa,hzs,hoas,U,<-cL,<-cL]
      congr 1
      omega
     obtain⟨m1,m2⟩:=I.add (M++arr++bD X.cells (cap-(l+ln))) d (A++F) n (by rw[cK,f,m,V,<-cL];exact cU _ H) (by
      have:((M++arr++bD X.cells (cap-(l+ln))).toList).take (A++F).length=M.toList++arr.toList:=by
       rw[cK,f,m,<-W,<-D,<-cK];simp only[Array.toList_append];exact cT
      rw[this]
      exact q2.append f2)
     refine⟨_,_,_,_,S, .inl rfl,m2,m1, .slice (o:=0) (g:=⟨w.drew.heap.size,0,_,n,_,Y⟩) ⟨by unfold Mu.add;exact zE rfl,rfl⟩ (cB _) H (by simp only[cQ];rw[V];exact cB _), ?_⟩;exact((Below.refl _ _).drew).alloc hR.base _
    split at s
    .rename_i hsl;simp only[cc,dl]at s;obtain⟨rfl,rfl⟩:=s;have:=hfin [] #[] (by rw[hsl];simp) (by rw[hsl];cases Q<;>simp[bB,loadCells,loadCellsFrom]) .nil;rw[hsl,cQ]at this;exact this
    .rename_i hsl;split at s
     .rename_i blk K;split at s
      .split at s
       .rename_i A r;simp only[cc,dl]at s;obtain⟨rfl,rfl⟩:=s;obtain⟨g,hg,rfl⟩:=hgo hsl;obtain⟨cs',r1,r2⟩:=I.reads K hg r;exact hfin A cs'.toArray (I8 r) (by simp[bB,r1 P w.drew rfl]) r2
       .cases s
      .cases s
     .cases s
  .cases s
def Oy {st F d:TypeId}{n j:Nat}{z:List Value}(X:o.op= .call c)(V:c.callee= .builtin .append)(T:c.args.toList=[x,y])(ht:c.argTypes.toList=[st,F])(hu:P.underlying st=O (.slice d))
  (A:(∃q,P.underlying F=O (.slice q))∨P.underlying F=O .string) (W:mK P d=O n) (U:Ru P d=O j) (hz:oP P d=O z) (C:dt z=n)
  (hx:dq x=Za) (hy:dq y=Za) (h:(AOp.append n j x y).run e Z=O (v,Z')) (J:ga μ N e a.tmps) (I:R B μ Z w):kU P o a w B μ v Z':=by
 have r:=J.ev hy;simp only[AOp.run]at h;split at h
 .rename_i p sl sc hp;split at h
  .rename_i ln f;have m:=VN f r;split at h
   .rename_i D g;have⟨K,H,M⟩:=Br (P:=P) f (cB _) g I r;have L:=H w rfl;have u:=H w.drew rfl;have t:=A
    have l:dt D=ln*n:=X7 g λs hs=>by
     rw[hs]at f;simp[E0]at f;omega
    exact JJ C M l hp hx h J I λhq=>by
     have⟨Q,S⟩:=Rm X V T ht hu t W U hz hq m L;exact⟨Q,λq1 q2 q3 E q4=>S q1 q2 q3 E q4 u⟩
   .cases h
  .cases h
 .cases h
def PI {st J d:TypeId}{n s:Nat}{z:List Value}(ho:o.op= .call c)(hc:c.callee= .builtin .append)(ha:c.args.toList=[x,y])(ht:c.argTypes.toList=[st,J])(hu:P.underlying st=O (.slice d))
  (S: ∃q,P.underlying J=O (.int q)) (hn:mK P d=O n) (hb:Ru P d=O s) (hz:oP P d=O z) (U:dt z=n) (h0:0<n)
  {D:Option Addr} {g m:Nat}  {l:Int} (hq:a.eval x= .slice D g m) (hl:a.eval y= .int k l) (l0:0<=l) (l1:l<=9223372036854775807) (l2:l*s<=281474976710656):
  (g+l.toNat<=m->(execOp a.eval o).run P w=((do
    if let O a:=D then storeCells (a.add (g*n)) (ei z l.toNat).toArray.toList
    pure (.slice D (g+l.toNat) m):Sem Value).run P w).andThen λv w=> .ok (.value v) w)/\
  (m<g+l.toNat->(g+l.toNat)*s<=140737488355328->g+l.toNat<=9223372036854775807->∀C:Array Value,(bB n g (.slice D g m)).run P w.drew= .ok C w.drew->
   ∃cap,g+l.toNat<=cap/\∃E:Value,cellsOf E=z/\(execOp a.eval o).run P w= .ok (.value (.slice (O ⟨w.heap.size,0,Y⟩) (g+l.toNat) cap)) (w.drew.alloc (.cells (C++(ei z l.toNat).toArray++bD E.cells (cap-(g+l.toNat))) d))):=by
 have⟨cst,r⟩:=iZ (P:=P) (a:=a) ho hc w;have⟨i,hi,A⟩:=Option.map_eq_some_iff.1 hb;have f: ∀w:World,(typeInfo d).run P w= .ok i w:=λw=>by simp[typeInfo,hi]
 have W:(#[Value.slice D g m,Value.int k l]:Array Value)[0]?=O (.slice D g m):=rfl;have X:(#[Value.slice D g m,Value.int k l]:Array Value)[1]?=O (.int k l):=rfl;have e3:(#[st,J]:Array TypeId)[0]?=O st:=rfl;have e4:(#[st,J]:Array TypeId)[1]?=O J:=rfl;have⟨E,z1,V,z3⟩:=mz hz;have⟨q,F⟩:=S;have w1:IntKind.i64.wrap l=l:=IntWalk.i64_in _ V1;have hzs:E.cells.size=n:=by rw[<-U,<-V];simp[cellsOf]
 have T:E.cells.toList=z:=V
 have p: ∀w:World,((if l.toNat*n=0 then pure #[]else do pure (bD (<-zeroValue d).cells l.toNat)):Sem (Array Value)).run P w= .ok (ei z l.toNat).toArray w:=by
  intro w;by_cases t:l.toNat*n=0
  .have L:l.toNat=0:=by
    rcases Nat.mul_eq_zero.1 t with h|h
    .exact h
    .omega
   have:(ei z l.toNat)=[]:=by rw[L];rfl
   rw[zE t,this];simp
  .rw[zF t]
   have M:bD E.cells l.toNat=(ei z l.toNat).toArray:=by
    unfold bD;rw[<-T,<-MX _ _ V1]
   simp only[aD,z1,cD,aB,M]
 refine⟨λH=> ?_,λu j hmax C I=> ?_⟩
 .rw[r];simp only[builtin,cR,Lm ha,Lm ht,cP,cN,cO,hq,hl,W,X,e3,e4,aD,fX hu,fX F,aB,nC hn,cD,cM,if_false,asInt,asIntOf,w1,Bool.not_true,if_true];rw[Zh];simp only[aD,f,aB,A];rw[Zh];simp only[aD,cD,aB];rw[zE H];simp only[aD,p,aB];rfl
 .refine⟨grownCap w (g+l.toNat) m d,grownCap_ge _ _ _ _,E,V, ?_⟩;have Q:=growslice_fits u j;rw[r];simp only[builtin,cR,Lm ha,Lm ht,cP,cN,cO,hq,hl,W,X,e3,e4,aD,fX hu,fX F,aB,nC hn,cD,cM,if_false,asInt,asIntOf,w1,Bool.not_true,if_true];rw[Zh];simp only[aD,f,aB,A];rw[Zh];simp only[aD,cD,aB];rw[Zh];simp only[aD,f,aB,true_or,and_true]
  have K: ¬((g+l.toNat:Nat):Int) > IntKind.i64.max:=by
   have:IntKind.i64.max=9223372036854775807:=by decide
   omega
  rw[zF K];simp only[aD,f,aB,A];rw[Zh];simp only[aD,run_choose,Question.forced,cM,if_false,World.drew_eq,aB,f,run_askRoom,I,p,z1,newRow,run_newObj,cD,World.alloc_eq];rfl
def Ux {st A d:TypeId}{n j:Nat}{z:List Value}(J:o.op= .call c)(H:c.callee= .builtin .append)(E:c.args.toList=[x,y])(M:c.argTypes.toList=[st,A])(Q:P.underlying st=O (.slice d))
  (s: ∃q,P.underlying A=O (.int q)) (I:mK P d=O n) (F:Ru P d=O j) (u:oP P d=O z) (g:dt z=n) (C:0<n)
  (S:dq x=Za) (T:dq y=Za) (h:(AOp.appendZ n j z x y).run e Z=O (v,Z')) (t:ga μ N e a.tmps) (D:R B μ Z w):kU P o a w B μ v Z':=by
 have m:=t.ev T;have⟨zz,z1,z2,V⟩:=mz u;simp only[AOp.run]at h;split at h
 .rename_i p X W k l K L;split at h
  .rename_i f;rw[L]at m;have U:=m.int_inv;refine JJ (d:=d) (arr:=(ei z l.toNat).toArray) g (by simpa using VR.plainCells (Fj V _)) (by simp[yt,g]) K S h t D λr=> ?_
   exact PI J H E M Q s I F u g C r U f.1 f.2.1 f.2.2
  .cases h
 .cases h
end
end
end Go.Ab
