/- A part of the proofs of this claim: what functions of the program answer on an abstract machine, and plain laws. No condition. -/
import Derived.Test.YtgigjokffalgkaaGreatA2
set_option linter.unusedVariables false
set_option linter.unusedSimpArgs false
set_option linter.unusedSectionVars false
namespace Go.V
open Go.Ab
open Option renaming some->C,none->O
open Bool renaming true->Za,false->Zb
open Decidable renaming decide->Zc
section
open List renaming replicate -> bD
open Nat renaming beq -> aB, ble -> aD
open Option renaming none -> bB
inductive Sh where
 |int (k:IntKind)
 |bool
 |str
 |list (s:Sh)
 |pair (a b:Sh)
 deriving DecidableEq
@[reducible] def El :Sh->Type
 | .int _=>Int
 | .bool=>Bool
 | .str=>Zd
 | .list s=>List (El s)
 | .pair a b=>El a×El b
def Sh.w :Sh->Nat
 | .pair a b=>a.w+b.w
 |_=>1
inductive VV where
 |undef
 |bool (b:Bool)
 |int (k:IntKind) (n:Int)
 |str (l:Zd)
 |nilp
 |nils
 |nilf
 |ptr (k o:Nat)
 |pix (k o n i:Nat)
 |pel (k i o:Nat)
 |pin (s:Sh) (x:El s) (o:Nat)
 |lst (s:Sh) (l:List (El s))
 |tgt (s:Sh) (l:List (El s))
 |full (k:Nat)
 |part (k lo n:Nat)
 |it (k:Nat) (l:Zd)
 |bld (k:Nat)
 |fn (f:Nat) (a c:List VV)
 |agg (l:List VV)
 |tup (l:List VV)
inductive Blk where
 |dead
 |cells (es:Nat) (fz:Bool) (l:List VV)
 |arr (s:Sh) (fz:Bool) (l:List (El s))
abbrev bz :=List Blk
abbrev eo :=List VV
def mC :eo->Nat->VV
 |[],_=> .undef
 |v::_,0=>v
 |_::r,n+1=>mC r n
def pT :eo->Nat->VV->eo
 |[],0,v=>[v]
 |[],n+1,v=> .undef::pT [] n v
 |_::r,0,v=>v::r
 |a::r,n+1,v=>a::pT r n v
def putO (e:eo)(d:Option Nat)(v:VV):eo:=match d with
 |some d=>pT e d v
 |none=>e
def bu :bz->Nat->Blk
 |[],_=> .dead
 |b::_,0=>b
 |_::r,n+1=>bu r n
def lH :bz->Nat->Blk->bz
 |[],_,_=>[]
 |_::r,0,b=>b::r
 |a::r,n+1,b=>a::lH r n b
def nth {α:Type}:List α->Nat->Option α
 |[],_=>O
 |v::_,0=>C v
 |_::r,n+1=>nth r n
def jN (s:ByteArray):Zd:=s.data.toList.map λb=>(b.toNat:Int)
def bj9 :Value->VV
 | .bool b=> .bool b
 | .int k n=> .int k n
 | .string s=> .str (jN s)
 | .pointer O=> .nilp
 | .slice O 0 0=> .nils
 | .nilFunc=> .nilf
 |_=> .undef
def ofC :Value->VV
 | .agg cs=> .agg (cs.toList.map bj9)
 |v=>bj9 v
def ev (e:eo):Operand->VV
 | .tmp t=>mC e t
 | .const v=>ofC v
 | .func f=> .fn f [] []
 | .global _=> .undef
def dh4 :VV->Bool
 | .undef| .agg _| .tup _=>Zb
 |_=>Za
def mW :VV->List VV
 | .agg l=>l
 |v=>[v]
def et :(s:Sh)->El s->List VV
 | .int k,n=>[.int k n]
 | .bool,b=>[.bool b]
 | .str,l=>[.str l]
 | .list s,l=>[.lst s l]
 | .pair a b,x=>et a x.1++et b x.2
def gu (s:Sh)(l:List (El s)):List VV:=l.flatMap (et s)
def oB (s' s:Sh)(x:El s'):Option (El s):=if h:s'=s then C (h▸x)else O
def be2 {α:Type}(f:List VV->Option (α×List VV)):Nat->List VV->Option (List α)
 |_,[]=>C []
 |0,_::_=>O
 |n+1,v::l=>(f (v::l)).bind λp=>(be2 f n p.2).bind λr=>C (p.1::r)
def Blk.frozen :Blk->Bool
 | .dead=>Za
 | .cells _ z _=>z
 | .arr _ z _=>z
def xn (s:Sh)(f:List VV->Option (El s×List VV)):Blk->Option (List (El s))
 | .dead=>O
 | .arr s' _ l=>oB (.list s') (.list s) l
 | .cells es _ l=>bif aB es s.w then be2 f l.length l else O
def az1 (S:bz)(s:Sh)(f:List VV->Option (El s×List VV)):VV->Option (List (El s))
 | .nils=>C []
 | .lst s' l=>oB (.list s') (.list s) l
 | .full k=>xn s f (bu S k)
 | .part k lo n=>(xn s f (bu S k)).bind λl=>C ((l.drop lo).take n)
 |_=>O
def cb2 (S:bz)(s:Sh)(f:List VV->Option (El s×List VV)):VV->Option (List (El s))
 | .full k=>bif (bu S k).frozen then az1 S s f (.full k)else O
 | .part k lo n=>bif (bu S k).frozen then az1 S s f (.part k lo n)else O
 |v=>az1 S s f v
def kL (S:bz):(s:Sh)->List VV->Option (El s×List VV)
 | .int k, .int k' n::r=>bif Zc (k'=k)then C (n,r)else O
 | .bool, .bool b::r=>C (b,r)
 | .str, .str l::r=>C (l,r)
 | .list s,v::r=>(cb2 S s (kL S s) v).bind λl=>C (l,r)
 | .pair a b,l=>(kL S a l).bind λp=>(kL S b p.2).bind λq=>C ((p.1,q.1),q.2)
 |_,_=>O
def cD9 (S:bz)(s:Sh)(v:VV):Option (List (El s)):=az1 S s (kL S s) v
def Blk.freeze :Blk->Blk
 | .dead=> .dead
 | .cells es _ l=> .cells es Za l
 | .arr s _ l=> .arr s Za l
def fzv :Nat->bz->VV->bz
 |0,S,_=>S
 |n+1,S,v=>match v with
  | .full k=>(match bu S k with
   | .cells es _ l=>l.foldl (fzv n) (lH S k (.cells es Za l))
   |b=>lH S k b.freeze)
  | .part k _ _=>(match bu S k with
   | .cells es _ l=>l.foldl (fzv n) (lH S k (.cells es Za l))
   |b=>lH S k b.freeze)
  |_=>S
def fzL (S:bz)(l:List VV):bz:=l.foldl (fzv 3) S
def dr1 (S:bz):VV->bz
 | .full k=>(match bu S k with
  | .cells _ _ l=>fzL S l
  |_=>S)
 | .part k _ _=>(match bu S k with
  | .cells _ _ l=>fzL S l
  |_=>S)
 |_=>S
section
variable {β:Type}
def gd (b:Bool)(x:Option β):Option β:=cond b x O
def ix (i:Int)(n:Nat):Option Nat:=cond (Zc (0<=i)&&Zc (i<n)) (C i.toNat) O
def rd {α:Type}(l:List α)(i:Int):Option α:=cond (Zc (0<=i)) l[i.toNat]? O
def cY7 (p:Bool):VV->VV->Option VV
 | .int k x, .int k' y=>cond (Zc (k=k')) (C (.int k (cond p x y))) O
 | .bool x, .bool y=>C (.bool (cond p x y))
 | .str x, .str y=>C (.str (cond p x y))
 |_,_=>O
def cW8 (p:Bool)(x y:VV)(S:bz)(k:VV->bz->Option β):Option β:=match cY7 p x y with
 |some v=>k v S
 |none=>cond p (k x S) (k y S)
def bu6 :IntKind->List VV->Option (Zd)
 |_,[]=>C []
 |k, .int k' n::r=>cond (Zc (k'=k)) ((bu6 k r).bind λl=>C (n::l)) O
 |_,_=>O
def br8 :List VV->Option (List Bool)
 |[]=>C []
 | .bool b::r=>(br8 r).bind λl=>C (b::l)
 |_=>O
def cr1 :List VV->Option (List (Zd))
 |[]=>C []
 | .str b::r=>(cr1 r).bind λl=>C (b::l)
 |_=>O
def cE9 (S:bz)(k:VV->bz->Option β):List VV->Nat->Option β
 |[],_=>O
 |v::r,i=>cond (aB i 0) (k v S) (cE9 S k r (i-1))
def cj1 (cs:List VV)(i:Nat)(S:bz)(k:VV->bz->Option β):Option β:=match cs with
 | .int kd n::r=>(match bu6 kd r with
  |some l=>k (.int kd ((n::l).getD i 0)) S
  |none=>O)
 | .bool b::r=>(match br8 r with
  |some l=>k (.bool ((b::l).getD i Zb)) S
  |none=>O)
 | .str b::r=>(match cr1 r with
  |some l=>k (.str ((b::l).getD i [])) S
  |none=>O)
 |cs=>cE9 S k cs i
def by5 (v:VV):List VV->Nat->Nat->Option (List VV)
 |[],_,_=>C []
 |c::r,i,j=>(cY7 (aB i j) v c).bind λx=>(by5 v r i (j+1)).bind λl=>C (x::l)
def di7 (cells:List VV)(o:Nat):List VV->List VV
 |[]=>cells
 |v::vs=>di7 (cells.set o v) (o+1) vs
def be7 (cells:List VV):List (Nat×Nat×VV)->Option (List VV)
 |[]=>C cells
 |(off,size,v)::rest=>
  cond (aB (mW v).length size&&aD (off+size) cells.length&&(mW v).all dh4) (be7 (cells.take off++mW v++cells.drop (off+size)) rest) O
def ac2 (e:eo)(l:List (Nat×Nat×Operand)):List (Nat×Nat×VV):=l.map λ(o,s,x)=>(o,s,ev e x)
def oA (l:List VV):Bool:=l.all dh4
def bM0 (S:bz)(n:Nat)(agg:Bool)(a:VV)(k:VV->bz->Option β):Option β:=
 let out (cs:List VV) (o:Nat):Option β:=cond agg (gd (aD (o+n) cs.length) (k (.agg ((cs.drop o).take n)) S)) (match nth cs o with
  |some v=>k v S
  |none=>O)
 match a with
 | .ptr b o=>(match bu S b with
  | .cells _ _ l=>out l o
  |_=>O)
 | .pix b o m i=>(match bu S b with
  | .cells _ _ l=>gd (!agg&&aD (o+m) l.length) (cj1 ((l.drop o).take m) i S k)
  |_=>O)
 | .pel b i o=>(match bu S b with
  | .arr s _ l=>(l[i]?).bind λx=>out (et s x) o
  |_=>O)
 | .pin s x o=>out (et s x) o
 |_=>O
def cA5 (S:bz)(a:VV)(cs:List VV)(k:bz->Option β):Option β:=match a with
 | .ptr b o=>(match bu S b with
  | .cells es Zb l=>gd (aD (o+cs.length) l.length) (k (lH S b (.cells es Zb (di7 l o cs))))
  |_=>O)
 | .pix b o m i=>(match bu S b,cs with
  | .cells es Zb l,[v]=>gd (aD (o+m) l.length) (match by5 v ((l.drop o).take m) i 0 with
   |some l'=>k (lH S b (.cells es Zb (l.take o++l'++l.drop (o+m))))
   |none=>O)
  |_,_=>O)
 | .pel b i o=>(match bu (fzL S cs) b with
  | .arr s Zb l=>(l[i]?).bind λx=>(match kL (fzL S cs) s (di7 (et s x) o cs)with
   |some (y,[])=>gd (aD (o+cs.length) s.w) (k (lH (fzL S cs) b (.arr s Zb (l.set i y))))
   |_=>O)
  |_=>O)
 |_=>O
def yk (k:IntKind)(f:BitVec k.bits->BitVec k.bits->BitVec k.bits)(x y:Int):Int:=k.wrap (f (BitVec.ofInt k.bits x) (BitVec.ofInt k.bits y)).toNat
def cu2 (op:BinOp)(kd:IntKind)(x y:Int)(k:VV->Option β):Option β:=match op with
 | .add=>k (.int kd (kd.wrap (x+y)))
 | .sub=>k (.int kd (kd.wrap (x-y)))
 | .mul=>k (.int kd (kd.wrap (x*y)))
 | .quo=>gd (Zc (y≠0)) (k (.int kd (kd.wrap (x.tdiv y))))
 | .rem=>gd (Zc (y≠0)) (k (.int kd (x.tmod y)))
 | .and=>k (.int kd (yk kd (· &&& ·) x y))
 | .or=>k (.int kd (yk kd (· ||| ·) x y))
 | .xor=>k (.int kd (yk kd (· ^^^ ·) x y))
 | .andNot=>k (.int kd (yk kd (λa b=>a&&& ~~~b) x y))
 | .eql=>k (.bool (Zc (x=y)))
 | .neq=>k (.bool (Zc (x≠y)))
 | .lss=>k (.bool (Zc (x<y)))
 | .leq=>k (.bool (Zc (x<=y)))
 | .gtr=>k (.bool (Zc (y<x)))
 | .geq=>k (.bool (Zc (y<=x)))
 |_=>O
def cZ0 (op:BinOp)(kd:IntKind)(x y:Int)(k:VV->Option β):Option β:=match op with
 | .shl=>gd (Zc (0<=y)) (k (.int kd (kd.wrap (x*2 ^ (min y.toNat kd.bits)))))
 | .shr=>gd (Zc (0<=y)) (k (.int kd (x.fdiv (2 ^ (min y.toNat kd.bits)))))
 |_=>O
def dC1 (a b:Nat):Bool:=aD (a+b) 9223372036854775807
def dC2 (op:BinOp)(x y:Zd)(k:VV->Option β):Option β:=match op with
 | .add=>gd (dC1 x.length y.length) (k (.str (x++y)))
 | .eql=>k (.bool (Zc (x=y)))
 | .neq=>k (.bool (Zc (x≠y)))
 |_=>O
def dq5 (op:BinOp)(x y:VV)(k:VV->Option β):Option β:=match x,y with
 | .int kx a, .int ky b=>cond (uD op) (cZ0 op kx a b k) (cond (Zc (kx=ky)) (cu2 op kx a b k) O)
 | .str a, .str b=>cond (uD op) O (dC2 op a b k)
 |_,_=>O
def cU8 (neg p:Bool):Bool:=cond neg (!p) p
def Blk.live :Blk->Bool
 | .dead=>Zb
 |_=>Za
def bu7 (S:bz):VV->Bool
 | .ptr k _=>(bu S k).live
 | .pix k _ _ _=>(bu S k).live
 | .pel k _ _=>(bu S k).live
 | .pin _ _ _=>Za
 |_=>Zb
def dq8 (S:bz):Nat->VV->VV->Option Bool
 |0, .bool a, .bool b=>C (a==b)
 |1, .nilp, .nilp=>C Za
 |1, .nilp,v=>cond (bu7 S v) (C Zb) O
 |1,v, .nilp=>cond (bu7 S v) (C Zb) O
 |2, .nils, .nils=>C Za
 |3, .nilf, .nilf=>C Za
 |3, .nilf, .fn _ _ _=>C Zb
 |3, .fn _ _ _, .nilf=>C Zb
 |_,_,_=>O
def cJ0 :Nat->VV->VV->Option Bool
 |0, .bool a, .bool b=>C (a==b)
 |1, .int k a, .int k' b=>cond (Zc (k=k')) (C (Zc (a=b))) O
 |2, .str a, .str b=>C (Zc (a=b))
 |_,_,_=>O
def bH7 :List Nat->List VV->List VV->Option Bool
 |[],[],[]=>C Za
 |[k],[a],[b]=>cJ0 k a b
 |k::ks,a::r,b::s=>(cJ0 k a b).bind λp=>(bH7 ks r s).bind λq=>C (p&&q)
 |_,_,_=>O
def unK (op:UnOp)(x:VV)(k:VV->Option β):Option β:=match op,x with
 | .neg, .int kd n=>k (.int kd (kd.wrap (0-n)))
 | .xor, .int kd n=>k (.int kd (kd.wrap (BitVec.ofInt kd.bits (if kd.signed then-1 else kd.max) ^^^ BitVec.ofInt kd.bits n).toNat))
 | .not, .bool b=>k (.bool !b)
 |_,_=>O
def bK6 :VV->Option Int
 | .int _ n=>C n
 |_=>O
def lenOf (S:bz):VV->Option Nat
 | .nils=>C 0
 | .lst _ l=>C l.length
 | .full b=>(match bu S b with
  | .arr _ _ l=>C l.length
  | .cells es _ l=>C (l.length / es)
  | .dead=>O)
 | .part b _ n=>cond (bu S b).live (C n) O
 | .str l=>C l.length
 |_=>O
def ae4 {α:Type}(l:List α)(lo hi:Int):List α:=(l.take hi.toNat).drop lo.toNat
def az2 :Option VV->Option Int
 |none=>C 0
 |some v=>bK6 v
def yu (n:Nat):Option VV->Option Int
 |none=>C n
 |some v=>bK6 v
def lq (lo hi:Int)(n:Nat):Bool:=Zc (0<=lo)&&Zc (lo<=hi)&&Zc (hi<=n)
def cA2 (S:bz)(es:Nat)(x:VV)(lo hi:Option VV)(k:VV->bz->Option β):Option β:=
 match lenOf S x with
 |none=>O
 |some n=>match az2 lo,yu n hi with
  |some a,C b=>(match x with
   | .nils=>gd (lq a b n) (k .nils S)
   | .lst s l=>gd (aB es s.w) (match lo,hi with
    |none,O=>k (.lst s l) S
    |_,_=>gd (lq a b n) (k (.lst s (ae4 l a b)) S))
   | .full q=>(match bu S q with
    | .arr s _ _=>gd (aB es s.w) (gd (lq a b n) (k (.part q a.toNat (b.toNat-a.toNat)) S))
    | .cells es' _ _=>gd (aB es es'&&aD 1 es) (gd (lq a b n) (k (.part q a.toNat (b.toNat-a.toNat)) S))
    | .dead=>O)
   | .part q o _=>(match bu S q with
    | .arr s _ _=>gd (aB es s.w) (gd (lq a b n) (k (.part q (o+a.toNat) (b.toNat-a.toNat)) S))
    | .cells es' _ _=>gd (aB es es'&&aD 1 es) (gd (lq a b n) (k (.part q (o+a.toNat) (b.toNat-a.toNat)) S))
    | .dead=>O)
   |_=>O)
  |_,_=>O
def bb3 (S:bz)(es n:Nat)(x:VV)(lo hi:Option VV)(k:VV->bz->Option β):Option β:=match x with
 | .ptr b o=>(match bu S b with
  | .cells es' Zb l=>(match az2 lo,yu n hi with
   |some a,C c=>gd (aB es es'&&aD 1 es&&aB (o % es) 0&&aD (o+n*es) l.length&&lq a c n&&Zc (a<n)) (k (.part b (o / es+a.toNat) (c.toNat-a.toNat)) S)
   |_,_=>O)
  | .arr s Zb l=>(match az2 lo,yu n hi with
   |some a,C c=>gd (aB es s.w&&aB o 0&&aD n l.length&&lq a c n&&Zc (a<n)) (k (.part b a.toNat (c.toNat-a.toNat)) S)
   |_,_=>O)
  |_=>O)
 |_=>O
def ds4 :Value->Bool
 | .int .u8 n=>Zc (n=0)
 |_=>Zb
def cu8 (es:Nat)(z:List Value):Bool:=aB es 1&&aD 20 z.length&&z.all ds4
def ax6 (es:Nat)(z:List Value):Blk:=cond (cu8 es z) (.arr (.int .u8) Zb (bD z.length (0:Int))) (.cells es Zb (z.map bj9))
def dg5 (S:bz)(n:Nat):VV->Option VV
 | .ptr b o=>cond (bu S b).live (C (.ptr b (o+n))) O
 | .pel b i o=>cond (bu S b).live (C (.pel b i (o+n))) O
 | .pin s x o=>C (.pin s x (o+n))
 | .pix b o m i=>cond (bu S b).live (cond (aB n 0) (C (.pix b o m i)) O) O
 |_=>O
def de4 (S:bz)(es:Nat)(x i:VV)(k:VV->bz->Option β):Option β:=match i with
 | .int _ i=>(match x with
  | .lst s l=>gd (aB es s.w) ((rd l i).bind λy=>k (.pin s y 0) S)
  | .full b=>(match bu S b with
   | .arr s _ l=>gd (aB es s.w) ((ix i l.length).bind λj=>k (.pel b j 0) S)
   | .cells es' _ l=>gd (aB es es'&&aD 1 es) ((ix i (l.length / es)).bind λj=>cond (aB es 1) (k (.pix b 0 l.length j) S) (k (.ptr b (j*es)) S))
   | .dead=>O)
  | .part b o n=>(match bu S b with
   | .arr s _ _=>gd (aB es s.w) ((ix i n).bind λj=>k (.pel b (o+j) 0) S)
   | .cells es' _ _=>gd (aB es es'&&aD 1 es) ((ix i n).bind λj=>cond (aB es 1) (k (.pix b o n j) S) (k (.ptr b ((o+j)*es)) S))
   | .dead=>O)
  |_=>O)
 |_=>O
def cD3 (S:bz)(ln es:Nat)(x i:VV)(k:VV->bz->Option β):Option β:=match x,i with
 | .ptr b o, .int _ i=>gd (bu S b).live ((ix i ln).bind λj=>cond (aB es 1) (k (.pix b o ln j) S) (k (.ptr b (o+j*es)) S))
 |_,_=>O
def ae8 (l:List VV)(a n:Nat):List VV:=(l.drop a).take n
def ie (n bytes:Nat):Bool:=Zc (n*bytes<=140737488355328)&&aD 1 bytes
inductive Base where
 |none
 |cells (es:Nat) (l:List VV)
 |arr (s:Sh) (l:List (El s))
def ab8 (S:bz)(es:Nat):VV->Option (Base×Option Nat)
 | .nils=>C (.none,O)
 | .full b=>(match bu S b with
  | .arr s Zb l=>cond (aB es s.w) (C (.arr s l,C b)) bB
  | .cells es' Zb l=>cond (aB es es'&&aD 1 es) (C (.cells es l,C b)) bB
  |_=>bB)
 | .part b 0 n=>(match bu S b with
  | .arr s Zb l=>cond (aB es s.w) (C (.arr s (l.take n),C b)) bB
  | .cells es' Zb l=>cond (aB es es'&&aD 1 es) (C (.cells es (l.take (n*es)),C b)) bB
  |_=>bB)
 |_=>bB
inductive More where
 |cells (l:List VV)
 |lst (s:Sh) (l:List (El s))
def aZ9 (S:bz)(es:Nat):VV->Option More
 | .nils=>C (.cells [])
 | .lst s l=>cond (aB es s.w) (C (.lst s l)) O
 | .str l=>cond (aB es 1) (C (.lst (.int .u8) l)) O
 | .full b=>(match bu S b with
  | .arr s _ l=>cond (aB es s.w) (C (.lst s l)) O
  | .cells es' _ l=>cond (aB es es'&&aD 1 es) (C (.cells l)) O
  |_=>O)
 | .part b o n=>(match bu S b with
  | .arr s _ l=>cond (aB es s.w) (C (.lst s ((l.drop o).take n))) O
  | .cells es' _ l=>cond (aB es es'&&aD 1 es) (C (.cells ((l.drop (o*es)).take (n*es)))) O
  |_=>O)
 |_=>O
def qI (S:bz):Option Nat->bz
 |none=>S
 |some b=>lH S b .dead
def cG5 (S:bz)(s:Sh)(l:List VV):Option (List (El s)):=be2 (kL S s) l.length l
def cl7 (S:bz)(bytes:Nat)(s:Sh)(kill:Option Nat)(a b:List (El s))(k:VV->bz->Option β):Option β:=
 gd (ie (a.length+b.length) bytes) (k (.full S.length) (qI S kill++[.arr s Zb (a++b)]))
def bk9 (S:bz)(es bytes:Nat)(bo:Option (Base×Option Nat))(mo:Option More)(k:VV->bz->Option β):Option β:=
 match bo,mo with
 |some (.arr s l,kill),C (.lst s' l')=>(oB (.list s') (.list s) l').bind λl2=>cl7 S bytes s kill l l2 k
 |some (.arr s l,kill),C (.cells cs)=>(match bu (fzL S cs) (kill.getD 0)with
  | .arr _ Zb _=>(cG5 (fzL S cs) s cs).bind λl2=>cl7 (fzL S cs) bytes s kill l l2 k
  |_=>O)
 |some (.cells _ l,kill),C (.lst s l')=>(match bu (fzL S l) (kill.getD 0)with
  | .cells _ Zb _=>(cG5 (fzL S l) s l).bind λl1=>cl7 (fzL S l) bytes s kill l1 l' k
  |_=>O)
 |some (.none,kill),C (.lst s l')=>cl7 S bytes s kill [] l' k
 |some (.cells es l,kill),C (.cells cs)=>gd (ie ((l.length+cs.length) / es) bytes&&oA cs) (k (.full S.length) (qI S kill++[.cells es Zb (l++cs)]))
 |some (.none,kill),C (.cells cs)=>gd (ie (cs.length / es) bytes&&aD 1 es&&oA cs) (k (.full S.length) (qI S kill++[.cells es Zb cs]))
 |_,_=>O
def bY8 (S:bz)(es bytes:Nat)(x y:VV)(k:VV->bz->Option β):Option β:=bk9 S es bytes (ab8 S es x) (aZ9 S es y) k
def bz5 (S:bz):VV->Option (bz×Base)
 | .lst s l=>C (S, .arr s l)
 | .full q=>(match bu S q with
  | .arr s _ l=>C (lH S q (bu S q).freeze, .arr s l)
  |_=>O)
 |_=>O
def cd7 (S:bz)(x hi mx:VV)(k:VV->bz->Option β):Option β:=match hi,mx with
 | .int _ h, .int _ m=>gd (Zc (h=m)) (match x with
  | .nils=>gd (Zc (h=0)) (k .nils S)
  |v=>(match bz5 S v with
   |some (S1, .arr s l)=>gd (lq 0 h l.length) (k (.tgt s (l.take h.toNat)) S1)
   |_=>O))
 |_,_=>O
def cA9 (S:bz)(es bytes:Nat)(s:Sh)(l:List (El s))(mo:Option More)(k:VV->bz->Option β):Option β:=match mo with
 |some (.lst s' l')=>(oB (.list s') (.list s) l').bind λl2=>gd (aB es s.w&&aD 1 l2.length) (cl7 S bytes s O l l2 k)
 |some (.cells cs)=>(cG5 (fzL S cs) s cs).bind λl2=>gd (aB es s.w&&aD 1 l2.length) (cl7 (fzL S cs) bytes s O l l2 k)
 |none=>O
def bq8 (S:bz)(es bytes:Nat)(x y:VV)(k:VV->bz->Option β):Option β:=match x with
 | .tgt s l=>cA9 S es bytes s l (aZ9 S es y) k
 |x=>bY8 S es bytes x y k
def ae3 {α:Type}(l:List α)(o n:Nat)(m:List α):List α:=l.take o++(m.take n++l.drop (o+min n m.length))
def aU2 (kd:IntKind)(m:Zd):Nat->List VV->Option (List VV)
 |_,[]=>C []
 |j, .int k n::r=>cond (Zc (k=kd)) ((aU2 kd m (j+1) r).bind λl=>C (.int k (m.getD j n)::l)) O
 |_,_=>O
def cR6 (S:bz)(es:Nat)(d y:VV)(k:VV->bz->Option β):Option β:=
 let go (b o n:Nat):Option β:=match bu S b,aZ9 S es y with
  | .arr s Zb l,C (.lst s' l')=>(oB (.list s') (.list s) l').bind λl2=>gd (aB es s.w) (k (.int .i64 (min l2.length n:Nat)) (lH S b (.arr s Zb (ae3 l o n l2))))
  | .arr s Zb l,C (.cells cs)=>(bu6 .u64 cs).bind λm=>(oB (.list (.int .u64)) (.list s) m).bind λl2=>gd (aB es s.w) (k (.int .i64 (min l2.length n:Nat)) (lH S b (.arr s Zb (ae3 l o n l2))))
  | .cells 1 Zb l,C (.lst (.int kd) m)=>gd (aB es 1&&aD (o+n) l.length) (match aU2 kd m 0 ((l.drop o).take n)with
   |some c=>k (.int .i64 (min m.length n:Nat)) (lH S b (.cells 1 Zb (l.take o++c++l.drop (o+n))))
   |none=>O)
  |_,_=>O
 match d with
 | .full b=>(match lenOf S d with
  |some n=>go b 0 n
  |none=>O)
 | .part b o n=>go b o n
 |_=>O
def bg0 :List Value->Option Sh
 |[.int k 0]=>C (.int k)
 |[.bool Zb]=>C .bool
 | .int k 0::r=>(bg0 r).bind λs=>C (.pair (.int k) s)
 | .bool Zb::r=>(bg0 r).bind λs=>C (.pair .bool s)
 |_=>O
def tG :(s:Sh)->El s
 | .int _=>(0:Int)
 | .bool=>Zb
 | .str=>[]
 | .list _=>[]
 | .pair a b=>(tG a,tG b)
def cU5 (S:bz)(es bytes:Nat)(z:List Value)(l c:VV)(k:VV->bz->Option β):Option β:=match l,c,bg0 z with
 | .int _ l, .int _ c,C s=>gd (aB es s.w&&Zc (0<=l)&&Zc (l<=c)&&Zc (bytes*c<=140737488355328)&&aD 1 bytes) (k (.full S.length) (S++[.arr s Zb (bD l.toNat (tG s))]))
 |_,_,_=>O
def cs2 (es:Nat)(z:List Value)(l:Int):Option More:=match bg0 z with
 |some s=>cond (aB es s.w) (C (.lst s (bD l.toNat (tG s)))) O
 |none=>O
def aB9 (bytes:Nat)(l:Int):Bool:=Zc (0<=l)&&(Zc (l<=9223372036854775807)&&Zc (l*(bytes:Int)<=281474976710656))
def bq9 (S:bz)(es bytes:Nat)(z:List Value)(x l:VV)(k:VV->bz->Option β):Option β:=match l with
 | .int _ l=>gd (aB9 bytes l) (bk9 S es bytes (ab8 S es x) (cs2 es z l) k)
 |_=>O
end
end
section
open List renaming replicate -> bB
open Nat renaming beq -> aB, ble -> aD
inductive Sk where
 |undef
 |leaf (s:Sh)
 |cint (k:IntKind) (n:Int)
 |nilp
 |nils
 |nilf
 |ptr (j o:Nat)
 |full (j:Nat)
 |pin (s:Sh) (o:Nat)
 |fn (f:Nat) (a c:List Sk)
 |agg (l:List Sk)
 |tup (l:List Sk)
inductive OSk where
 |dead
 |cells (es:Nat) (ro:Bool) (l:List Sk)
 |arr (ro:Bool) (s:Sh)
structure Leaf where
 s:Sh
 v:El s
structure Src where
 k:Nat
 cut:Option Nat
structure DSt where
 m:List (Option Src)
 ls:List Leaf
 lent:List Nat
def DSt.push (st:DSt)(s:Sh)(v:El s):DSt:={st with ls:=st.ls++[⟨s,v⟩]}
def DSt.lend (st:DSt):VV->DSt
 | .full k=>{st with lent:=k::st.lent}
 | .part k _ _=>{st with lent:=k::st.lent}
 |_=>st
def DSt.link (N:Nat)(st:DSt)(j:Nat)(x:Option Src):Option DSt:=
 cond (Nat.blt j N) (match x with
  |some ⟨k,O⟩=>cond (aB k j) (C st) O
  |_=>O)
 (match nth st.m (j-N)with
 |some (C ⟨k,O⟩)=>(match x with
  |some ⟨k',O⟩=>cond (aB k k') (C st) O
  |_=>O)
 |some _=>O
 |none=>cond (aB (j-N) st.m.length) (C {st with m:=st.m++[x]}) O)
mutual
def dec (S:bz)(N:Nat):Sk->VV->DSt->Option DSt
 | .undef,_,st=>C st
 | .leaf s,v,st=>(match s,v with
  | .int k, .int k' n=>cond (Zc (k'=k)) (C (st.push (.int k) n)) O
  | .bool, .bool b=>C (st.push .bool b)
  | .str, .str l=>C (st.push .str l)
  | .list s,v=>(cD9 S s v).bind λl=>C ((st.lend v).push (.list s) l)
  |_,_=>O)
 | .cint k n, .int k' n',st=>cond (Zc (k'=k)&&Zc (n'=n)) (C st) O
 | .nilp, .nilp,st=>C st
 | .nils, .nils,st=>C st
 | .nilf, .nilf,st=>C st
 | .ptr j o, .ptr k o',st=>cond (aB o o') (st.link N j (C ⟨k,O⟩)) O
 | .full j,v,st=>(match v with
  | .full k=>st.link N j (C ⟨k,O⟩)
  | .part k 0 n=>st.link N j (C ⟨k,C n⟩)
  | .nils=>st.link N j O
  |_=>O)
 | .pin s o, .pin s' x o',st=>cond (aB o o') ((oB s' s x).bind λy=>C (st.push s y)) O
 | .fn f a c, .fn f' a' c',st=>cond (aB f f') ((aL3 S N a a' st).bind λst1=>aL3 S N c c' st1) O
 | .agg l, .agg l',st=>aL3 S N l l' st
 | .tup l, .tup l',st=>aL3 S N l l' st
 |_,_,_=>O
def aL3 (S:bz)(N:Nat):List Sk->List VV->DSt->Option DSt
 |[],[],st=>C st
 |k::r,v::r',st=>(dec S N k v st).bind λst1=>aL3 S N r r' st1
 |_,_,_=>O
end
def bt1 {α:Type}:Option Nat->List α->List α
 |none,l=>l
 |some n,l=>l.take n
def cv2 (S:bz)(N:Nat):OSk->Option Src->DSt->Option DSt
 | .dead,_,st=>C st
 | .cells es ro l,C ⟨k,O⟩,st=>(match bu S k with
  | .cells es' fz cs=>cond (aB es es'&&(ro|| !fz)) (aL3 S N l cs (cond ro {st with lent:=k::st.lent} st)) O
  |_=>O)
 | .arr ro s,O,st=>cond ro O (C (st.push (.list s) []))
 | .arr ro s,C ⟨k,cut⟩,st=>cond (ro|| !(bu S k).frozen) ((cD9 S s (.full k)).bind λl=>C ((cond ro {st with lent:=k::st.lent} st).push (.list s) (bt1 cut l))) O
 |_,_,_=>O
def aY3 (S:bz)(N:Nat):List OSk->List Nat->DSt->Option DSt
 |[],[],st=>C st
 |o::r,j::js,st=>(cv2 S N o (C ⟨j,O⟩) st).bind λst1=>aY3 S N r js st1
 |_,_,_=>O
def tz (S:bz)(N:Nat):List OSk->Nat->DSt->Option DSt
 |[],i,st=>cond (aB i st.m.length) (C st) O
 |o::r,i,st=>(match nth st.m i with
  |some x=>(cv2 S N o x st).bind λst1=>tz S N r (i+1) st1
  |none=>O)
def OSk.ro :OSk->Bool
 | .cells _ ro _=>ro
 | .arr ro _=>ro
 | .dead=>Zb
def mG (k:Nat):List Nat->Bool
 |[]=>Zb
 |a::r=>cond (aB a k) Za (mG k r)
def aI7 :List Nat->Bool
 |[]=>Za
 |a::r=>cond (mG a r) Zb (aI7 r)
def nX :List (Option Src)->List Nat
 |[]=>[]
 |none::r=>nX r
 |some x::r=>x.k::nX r
def kF :List OSk->List (Option Src)->List Nat
 |o::r,C x::s=>cond o.ro (kF r s) (x.k::kF r s)
 |_::r,O::s=>kF r s
 |_,_=>[]
def al8 (w:List Nat)(l:List Nat):Bool:=w.all λk=> !mG k l
structure yj where
 vals:List Sk
 fix:List OSk
 free:List OSk
def nW (S:bz)(N:Nat)(fx:List Nat)(sk:yj)(vals:List VV):Option DSt:=
 (aL3 S N sk.vals vals ⟨[],[],[]⟩).bind λst=>(aY3 S N sk.fix fx st).bind λst1=>(tz S N sk.free 0 st1).bind λst2=>
  cond (aI7 (fx++nX st2.m)&&al8 (fx++kF sk.free st2.m) st2.lent) (C st2) O
mutual
def enc (f:Nat->Nat):Sk->List Leaf->Option (VV×List Leaf)
 | .undef,ls=>C (.undef,ls)
 | .leaf s,x::ls=>(oB x.s s x.v).bind λ(y:El s)=>C ((match s,y with
  | .int k,n=> .int k n
  | .bool,b=> .bool b
  | .str,l=> .str l
  | .list s,l=> .lst s l
  | .pair _ _,_=> .undef),ls)
 | .cint k n,ls=>C (.int k n,ls)
 | .nilp,ls=>C (.nilp,ls)
 | .nils,ls=>C (.nils,ls)
 | .nilf,ls=>C (.nilf,ls)
 | .ptr j o,ls=>C (.ptr (f j) o,ls)
 | .full j,ls=>C (.full (f j),ls)
 | .pin s o,x::ls=>(oB x.s s x.v).bind λ(y:El s)=>C (.pin s y o,ls)
 | .fn g a c,ls=>(bH5 f a ls).bind λp=>(bH5 f c p.2).bind λq=>C (.fn g p.1 q.1,q.2)
 | .agg l,ls=>(bH5 f l ls).bind λp=>C (.agg p.1,p.2)
 | .tup l,ls=>(bH5 f l ls).bind λp=>C (.tup p.1,p.2)
 |_,_=>O
def bH5 (f:Nat->Nat):List Sk->List Leaf->Option (List VV×List Leaf)
 |[],ls=>C ([],ls)
 |k::r,ls=>(enc f k ls).bind λp=>(bH5 f r p.2).bind λq=>C (p.1::q.1,q.2)
end
def bH6 (f:Nat->Nat):OSk->List Leaf->Option (Blk×List Leaf)
 | .dead,ls=>C (.dead,ls)
 | .cells es ro l,ls=>(bH5 f l ls).bind λp=>C (.cells es ro p.1,p.2)
 | .arr ro s,x::ls=>(oB x.s (.list s) x.v).bind λl=>C (.arr s ro l,ls)
 | .arr _ _,[]=>O
def ao9 (f:Nat->Nat):List OSk->List Leaf->Option (List Blk×List Leaf)
 |[],ls=>C ([],ls)
 |o::r,ls=>(bH6 f o ls).bind λp=>(ao9 f r p.2).bind λq=>C (p.1::q.1,q.2)
def pj (f:Nat->Nat)(sk:yj)(ls:List Leaf):Option (List VV×List Blk×List Blk):=
 (bH5 f sk.vals ls).bind λp=>(ao9 f sk.fix p.2).bind λq=>(ao9 f sk.free q.2).bind λr=>match r.2 with
  |[]=>C (p.1,q.1,r.1)
  |_::_=>O
mutual
def Sk.shs :Sk->List Sh
 | .leaf s=>[s]
 | .pin s _=>[s]
 | .fn _ a c=>cA1 a++cA1 c
 | .agg l=>cA1 l
 | .tup l=>cA1 l
 |_=>[]
def cA1 :List Sk->List Sh
 |[]=>[]
 |k::r=>k.shs++cA1 r
end
def OSk.shs :OSk->List Sh
 | .dead=>[]
 | .cells _ _ l=>cA1 l
 | .arr _ s=>[.list s]
def du2 :List OSk->List Sh
 |[]=>[]
 |o::r=>o.shs++du2 r
def yj.shs (sk:yj):List Sh:=cA1 sk.vals++(du2 sk.fix++du2 sk.free)
@[reducible] def Tup :List Sh->Type
 |[]=>Unit
 |[s]=>El s
 |s::s'::r=>El s×Tup (s'::r)
def toL :(ss:List Sh)->Tup ss->List Leaf
 |[],_=>[]
 |[s],x=>[⟨s,x⟩]
 |s::s'::r,x=>⟨s,x.1⟩::toL (s'::r) x.2
def ofL :(ss:List Sh)->List Leaf->Option (Tup ss)
 |[],[]=>C ()
 |[s],[x]=>oB x.s s x.v
 |s::s'::r,x::ls=>(oB x.s s x.v).bind λa=>(ofL (s'::r) ls).bind λb=>C (a,b)
 |_,_=>O
inductive XK where
 |normal
 |exit (id:Nat)
 |ret
structure Alt where
 x:XK
 ts:List Nat
 sk:yj
@[reducible] def Alt.Ty (a:Alt):Type:=Tup a.sk.shs
@[reducible] def vk :List Alt->Type
 |[]=>Empty
 |[a]=>a.Ty
 |a::b::r=>a.Ty⊕vk (b::r)
def ck {α γ β:Type}(s:α⊕γ)(f:α->Option β)(g:γ->Option β):Option β:=match s with
 | .inl a=>f a
 | .inr b=>g b
def cQ2 {β:Type}:(l:List Alt)->vk l->((a:Alt)->a.Ty->Option β)->Option β
 |[],_,_=>O
 |[a],t,k=>k a t
 |a::b::r,s,k=>ck s (λt=>k a t) λs'=>cQ2 (b::r) s' k
def yj.noRo (sk:yj):Bool:=sk.fix.all (λo=> !o.ro)&&sk.free.all λo=> !o.ro
def aL4 (S:bz)(N:Nat)(fx:List Nat)(sk:yj)(vals:List VV):Option (Tup sk.shs):=
 gd sk.noRo ((nW S N fx sk vals).bind λst=>ofL sk.shs st.ls)
def vP (S:bz)(N:Nat)(fx:List Nat)(vals:List Nat->List VV)(hit:XK->Bool):(l:List Alt)->Option (vk l)
 |[]=>O
 |[a]=>cond (hit a.x) (aL4 S N fx a.sk (vals a.ts)) O
 |a::b::r=>match cond (hit a.x) (aL4 S N fx a.sk (vals a.ts)) O with
  |some t=>C (.inl t)
  |none=>(vP S N fx vals hit (b::r)).bind λs=>C (.inr s)
def Sh.al :Sh->Bool
 | .list _=>Za
 | .pair a b=>a.al||b.al
 |_=>Zb
mutual
def alV :VV->Bool
 | .lst _ _=>Za
 | .tgt _ _=>Za
 | .pin _ _ _=>Za
 | .fn _ a c=>alL a||alL c
 | .agg l=>alL l
 | .tup l=>alL l
 |_=>Zb
def alL :List VV->Bool
 |[]=>Zb
 |v::r=>alV v||alL r
end
def alB :Blk->Bool
 | .dead=>Zb
 | .cells _ _ l=>alL l
 | .arr s _ _=>s.al
def ao8 (vs:List VV)(fs bs:List Blk):Bool:=alL vs||fs.any alB||bs.any alB
def Blk.may :Blk->Bool
 | .dead=>Za
 | .cells _ z _=> !z
 | .arr _ z _=> !z
def bk0 (S:bz)(fx:List Nat):Bool:=fx.all λj=>Nat.blt j S.length&&(bu S j).may
structure FSum where
 f:Nat
 vals:List Sk
 objs:List OSk
 outs:List Alt
 run:Tup (yj.shs ⟨vals,[],objs⟩)->Option (vk outs)
def FSum.ins (F:FSum):yj:=⟨F.vals,[],F.objs⟩
def tC :List OSk->Nat->List Nat
 |[],_=>[]
 |o::r,i=>cond o.ro (tC r (i+1)) (i::tC r (i+1))
def vM (m:List (Option Src))(n size j:Nat):Nat:=cond (Nat.blt j n) (match nth m j with
 |some (C x)=>x.k
 |_=>size) (size+(j-n))
def vy :List Nat->List Blk->bz->Option bz
 |[],[],S=>C S
 |j::js,b::bs,S=>vy js bs (lH S j b)
 |_,_,_=>O
def cS6 :Sk->VV->bz->bz
 | .leaf (.list (.list _)),v,S=>dr1 S v
 |_,_,S=>S
def ay6 :List Sk->List VV->bz->bz
 |k::r,v::vs,S=>ay6 r vs (cS6 k v S)
 |_,_,S=>S
def ap0 :List Nat->bz->bz
 |[],S=>S
 |k::r,S=>ap0 r (lH S k (bu S k).freeze)
def dn7 {β:Type}(F:FSum)(t:Tup F.ins.shs)(st:DSt)(S:bz)(k:VV->bz->Option β):Option β:=
 (F.run t).bind λo=>cQ2 F.outs o λa u=>match pj (vM st.m F.objs.length S.length) a.sk (toL a.sk.shs u)with
  |some ([v],fs,bs)=>(match vy (kF F.objs st.m) fs (cond (ao8 [v] fs bs) (ap0 st.lent S) S)with
   |some S'=>k v (S'++bs)
   |none=>O)
  |_=>O
def bL3 :List (Option Src)->Bool
 |[]=>Za
 |some ⟨_,O⟩::r=>bL3 r
 |_=>Zb
def bs8 {β:Type}:List FSum->Nat->List VV->bz->(VV->bz->Option β)->Option β
 |[],_,_,_,_=>O
 |F::r,f,args,S,k=>cond (aB F.f f) (match nW (ay6 F.vals args S) 0 [] F.ins args with
  |some st=>(match ofL F.ins.shs st.ls with
   |some t=>gd (bL3 st.m&&bk0 (ay6 F.vals args S) (kF F.objs st.m)) (dn7 F t st (ay6 F.vals args S) k)
   |none=>bs8 r f args S k)
  |none=>bs8 r f args S k) (bs8 r f args S k)
structure Inl where
 f:Nat
 run:(β:Type)->List VV->bz->(VV->bz->Option β)->Option β
structure Tab where
 fs:List FSum
 is:List Inl
def de1 :List Inl->Nat->Bool
 |[],_=>Zb
 |I::r,f=>cond (aB I.f f) Za (de1 r f)
def cC4 {β:Type}:List Inl->Nat->List VV->bz->(VV->bz->Option β)->Option β
 |[],_,_,_,_=>O
 |I::r,f,args,S,k=>cond (aB I.f f) (I.run β args S k) (cC4 r f args S k)
def cC5 {β:Type}(tab:Tab)(f:Nat)(args:List VV)(S:bz)(k:VV->bz->Option β):Option β:=
 cond (de1 tab.is f) (cC4 tab.is f args S k) (bs8 tab.fs f args S k)
def br5 :Nat->List Nat
 |0=>[]
 |n+1=>n::br5 n
def cL5 {β:Type}(S:bz)(x:Option VV)(k:VV->bz->Option β):Option β:=match x with
 |some v=>k v S
 |none=>O
def bt8 {β:Type}(tab:Tab)(op:AOp)(e:eo)(S:bz)(k:VV->bz->Option β):Option β:=match op with
 | .move x=>k (ev e x) S
 | .pick c a b=>(match ev e c with
  | .bool p=>cW8 p (ev e a) (ev e b) S k
  |_=>O)
 | .alloc es z=>gd (aD 1 es) (k (.ptr S.length 0) (S++[ax6 es z]))
 | .box es x=>gd (aD 1 es&&oA (mW (ev e x))) (k (.ptr S.length 0) (S++[.cells es Zb (mW (ev e x))]))
 | .build z ps=>(match be7 (z.map bj9) (ac2 e ps)with
  |some cs=>k (.agg cs) S
  |none=>O)
 | .buildSlice es ln z ps=>(match be7 ((bB ln (z.map bj9)).flatten) (ac2 e ps)with
  |some cs=>gd (oA cs&&aB (ln*es) cs.length&&aD 1 es) (k (.full S.length) (S++[.cells es Zb cs]))
  |none=>O)
 | .load x=>bM0 S 1 Zb (ev e x) k
 | .loadN n x=>bM0 S n Za (ev e x) k
 | .store n a x=>gd (aB (mW (ev e x)).length n&&oA (mW (ev e x))) (cA5 S (ev e a) (mW (ev e x)) λS'=>k .undef S')
 | .nilCheck x=>(match ev e x with
  | .fn f a c=>k (.fn f a c) S
  |v=>gd (bu7 S v) (k v S))
 | .bin op x y=>dq5 op (ev e x) (ev e y) λv=>k v S
 | .eqv kd neg x y=>(match dq8 S kd (ev e x) (ev e y)with
  |some b=>k (.bool (cU8 neg b)) S
  |none=>O)
 | .eqCells neg ks x y=>(match ev e x,ev e y with
  | .agg a, .agg b=>(match bH7 ks a b with
   |some p=>k (.bool (cU8 neg p)) S
   |none=>O)
  |_,_=>O)
 | .un op x=>unK op (ev e x) λv=>k v S
 | .conv kd x=>(match bK6 (ev e x)with
  |some n=>k (.int kd (kd.wrap n)) S
  |none=>O)
 | .mkFunc f a c=>k (.fn f (a.map (ev e)) (c.map (ev e))) S
 | .makeSlice es bytes z l c=>cU5 S es bytes z (ev e l) (ev e c) k
 | .slice es x lo hi=>cA2 S es (ev e x) (lo.map (ev e)) (hi.map (ev e)) k
 | .sliceArr es n x lo hi=>bb3 S es n (ev e x) (lo.map (ev e)) (hi.map (ev e)) k
 | .off n x=>cL5 S (dg5 S n (ev e x)) k
 | .idx es x i=>de4 S es (ev e x) (ev e i) k
 | .idxA ln es x i=>cD3 S ln es (ev e x) (ev e i) k
 | .fieldV o n agg x=>(match ev e x with
  | .agg cs=>cond agg (k (.agg (ae8 cs o n)) S) (cL5 S (nth cs o) k)
  |_=>O)
 | .indexV ln es agg x i=>(match ev e x,ev e i with
  | .agg cs, .int _ i=>(ix i ln).bind λj=>cond agg (k (.agg (ae8 cs (j*es) es)) S) (gd (aB es 1&&aB cs.length ln) (cj1 cs j S k))
  |_,_=>O)
 | .indexS x i=>(match ev e x,ev e i with
  | .str l, .int _ i=>(rd l i).bind λb=>k (.int .u8 b) S
  |_,_=>O)
 | .extract x i=>(match ev e x with
  | .tup vs=>cL5 S (nth vs i) k
  |_=>O)
 | .call f xs=>cC5 tab f (xs.map (ev e)) S k
 | .callv x xs=>(match ev e x with
  | .fn f a c=>cC5 tab f (a++xs.map (ev e)++c) S k
  |_=>O)
 | .append es bytes s x=>bq8 S es bytes (ev e s) (ev e x) k
 | .stuck=>O
 | .capN x=>(match ev e x with
  | .nils=>k (.int .i64 0) S
  |_=>O)
 | .sliceX x hi mx=>cd7 S (ev e x) (ev e hi) (ev e mx) k
 | .appendZ es bytes z s x=>bq9 S es bytes z (ev e s) (ev e x) k
 | .copy es d s=>cR6 S es (ev e d) (ev e s) k
 | .len x=>(match ev e x with
  | .str _=>O
  |v=>(match lenOf S v with
   |some n=>k (.int .i64 n) S
   |none=>O))
 | .lenC n=>k (.int .i64 n) S
 | .most x y=>(match ev e x,ev e y with
  | .int kd a, .int _ b=>k (.int kd (max a b)) S
  |_,_=>O)
 | .least x y=>(match ev e x,ev e y with
  | .int kd a, .int _ b=>k (.int kd (min a b)) S
  |_,_=>O)
section
variable (tab:Tab)
def ay2 {β:Type}:List AOper->eo->bz->(eo->bz->Option β)->Option β
 |[],e,S,k=>k e S
 |o::r,e,S,k=>match o.guard with
  |none=>bt8 tab o.op e S λv S'=>ay2 r (putO e o.dst v) S' k
  |some (t,w)=>match mC e t with
   | .bool p=>cond p
    (cond w (bt8 tab o.op (pT e t (.bool Za)) S λv S'=>ay2 r (putO (pT e t (.bool Za)) o.dst v) S' k) (ay2 r (putO (pT e t (.bool Za)) o.dst (.tup [])) S k))
    (cond w (ay2 r (putO (pT e t (.bool Zb)) o.dst (.tup [])) S k) (bt8 tab o.op (pT e t (.bool Zb)) S λv S'=>ay2 r (putO (pT e t (.bool Zb)) o.dst v) S' k))
   | .tup []=>ay2 r (putO e o.dst (.tup [])) S k
   |_=>O
def yl :VV->Option Nat
 | .ptr b _=>C b
 | .it b _=>C b
 | .bld b=>C b
 | .pix b _ _ _=>C b
 | .pel b _ _=>C b
 | .full b=>C b
 | .part b _ _=>C b
 |_=>O
def cQ6 (S:bz)(v:VV):Option (Option Nat):=match v with
 | .pin _ _ _| .lst _ _| .nils=>C O
 |v=>(match yl v with
  |some b=>cond (bu S b).live (C (C b)) O
  |none=>O)
def db4 (S:bz)(op:AOp)(e:eo):Option (Option Nat):=match op with
 | .load x| .loadN _ x| .sliceArr _ _ x _ _| .slice _ x _ _=>cQ6 S (ev e x)
 |_=>O
def cW5 :Option Nat->List Nat
 |some b=>[b]
 |none=>[]
def uc :List FSum->Nat->List VV->bz->List Nat
 |[],_,_,_=>[]
 |F::r,f,args,S=>cond (aB F.f f) (match nW (ay6 F.vals args S) 0 [] F.ins args with
  |some st=>(match ofL F.ins.shs st.ls with
   |some _=>kF F.objs st.m
   |none=>uc r f args S)
  |none=>uc r f args S) (uc r f args S)
def bZ7 (f:Nat)(args:List VV)(S:bz):List Nat:=cond (de1 tab.is f) (br5 S.length) (uc tab.fs f args S)
def aS5 (op:AOp)(e:eo)(S:bz):List Nat:=match op with
 | .store _ a _=>cW5 (yl (ev e a))
 | .append _ _ s _=>cW5 (yl (ev e s))
 | .appendZ _ _ _ s _=>cW5 (yl (ev e s))
 | .copy _ d _=>cW5 (yl (ev e d))
 | .call f xs=>bZ7 tab f (xs.map (ev e)) S
 | .callv x xs=>(match ev e x with
  | .fn f a c=>bZ7 tab f (a++xs.map (ev e)++c) S
  |_=>[])
 |_=>[]
abbrev Chk :=List (Nat×Option (Option Nat))
def bk8 (d:List Nat):Chk->Chk
 |[]=>[]
 |(i,C (C b))::r=>(i,cond (mG b d) O (C (C b)))::bk8 d r
 |x::r=>x::bk8 d r
def mj (is:List Nat):Chk->Bool
 |[]=>Za
 |(i,b)::r=>cond (mG i is) (match b with
  |some _=>mj is r
  |none=>Zb) (mj is r)
def aY5 {β:Type}(it:SItem)(chk:Chk)(e:eo)(S:bz)(k:Chk->eo->bz->Option β):Option β:=
 cond it.mover (gd (mj it.chks (bk8 (aS5 tab it.o.op e S) chk)) (bt8 tab it.o.op e S λv S'=>k (bk8 (aS5 tab it.o.op e S) chk) (putO e it.o.dst v) S'))
  (gd (it.o.op.still&&(!it.keep||it.o.op.isLoad)) (bt8 tab it.o.op e S λv S'=>k (cond it.keep ((it.idx,db4 S it.o.op e)::chk) chk) (putO e it.o.dst v) S'))
def tB {β:Type}:List SItem->Chk->eo->bz->(eo->bz->Option β)->Option β
 |[],_,e,S,k=>k e S
 |it::r,chk,e,S,k=>match it.o.guard with
  |none=>aY5 tab it chk e S λchk' e' S'=>tB r chk' e' S' k
  |some (t,w)=>match mC e t with
   | .bool p=>cond p
    (cond w (aY5 tab it chk (pT e t (.bool Za)) S λchk' e' S'=>tB r chk' e' S' k) (tB r chk (putO (pT e t (.bool Za)) it.o.dst (.tup [])) S k))
    (cond w (tB r chk (putO (pT e t (.bool Zb)) it.o.dst (.tup [])) S k) (aY5 tab it chk (pT e t (.bool Zb)) S λchk' e' S'=>tB r chk' e' S' k))
   | .tup []=>tB r chk (putO e it.o.dst (.tup [])) S k
   |_=>O
end
structure LItem where
 i:Nat
 kind:Nat
 chks:List Nat
 need:List Nat
def dx (ops:List (AOper×List Nat))(i:Nat):AOper:=match ops[i]? with
 |some (o,_)=>o
 |none=>⟨O, .lenC 0,O⟩
def cF6 :VV->Bool
 | .int _ _| .bool _| .str _=>Za
 |_=>Zb
def cF5 :Value->Bool
 | .int _ _| .bool _| .string _=>Za
 |_=>Zb
def am0 {β:Type}(op:AOp)(e:eo)(k:Blk->Bool->Option β):Option β:=match op with
 | .alloc es z=>gd (aD 1 es) (k (ax6 es z) Zb)
 | .makeSlice es bytes z l c=>(match ev e l,ev e c,bg0 z with
  | .int _ l, .int _ c,C s=>gd (aB es s.w&&Zc (0<=l)&&Zc (l<=c)&&Zc (bytes*c<=140737488355328)&&aD 1 bytes) (k (.arr s Zb (bB l.toNat (tG s))) Za)
  |_,_,_=>O)
 | .buildSlice es ln z ps=>(match be7 ((bB ln (z.map bj9)).flatten) (ac2 e ps)with
  |some cs=>gd (oA cs&&aB (ln*es) cs.length&&aD 1 es&&cs.all cF6&&z.all cF5) (k (.cells es Zb cs) Za)
  |none=>O)
 |_=>O
def vvF (w:Bool)(k:Nat):VV:=cond w (.full k) (.ptr k 0)
section
variable (tab:Tab)
def evL {β:Type}(ops:List (AOper×List Nat)):List LItem->Chk->eo->bz->(eo->bz->Option β)->Option β
 |[],_,e,S,k=>k e S
 |it::r,chk,e,S,k=>
  cond (aB it.kind 3) (am0 (dx ops it.i).op e λ_ _=>evL ops r chk e S k)<|
  cond (aB it.kind 2) (am0 (dx ops it.i).op e λblk w=>evL ops r chk (putO e (dx ops it.i).dst (vvF w S.length)) (S++[blk]) k)
  (cond (aB it.kind 1)
   (bt8 tab (dx ops it.i).op e S λv S'=>gd (mj it.chks (bk8 (aS5 tab (dx ops it.i).op e S) chk)&&mj it.need (bk8 (aS5 tab (dx ops it.i).op e S) chk)) (evL ops r (bk8 (aS5 tab (dx ops it.i).op e S) chk) (putO e (dx ops it.i).dst v) S' k))
   (gd (dx ops it.i).op.still (bt8 tab (dx ops it.i).op e S λv S'=>gd (mj it.need (cond (dx ops it.i).op.isLoad ((it.i,db4 S (dx ops it.i).op e)::chk) chk)) (evL ops r (cond (dx ops it.i).op.isLoad ((it.i,db4 S (dx ops it.i).op e)::chk) chk) (putO e (dx ops it.i).dst v) S' k))))
end
def cn6 :Operand->List Nat
 | .tmp t=>[t]
 |_=>[]
def zU :AOp->List Nat
 | .makeSlice _ _ _ l c=>cn6 l++cn6 c
 | .buildSlice _ _ _ ps=>ps.flatMap λp=>cn6 p.2.2
 |_=>[]
def cm0 :AOp->Bool
 | .alloc es _=>aD 1 es
 |_=>Zb
def yt :AOp->Bool
 | .alloc _ _| .makeSlice _ _ _ _ _=>Za
 | .buildSlice _ _ z _=>z.all cF5
 |_=>Zb
def aT7 (d:Option Nat)(l:List Nat):Bool:=match d with
 |some t=> !mG t l
 |none=>Za
def neO (d d':Option Nat):Bool:=match d,d' with
 |some t,C t'=> !Nat.beq t t'
 |_,_=>Za
def aI8 (i:Nat):List Nat->List Nat
 |[]=>[]
 |a::r=>cond (aB a i) r (a::aI8 i r)
def an7 :List LItem->List Nat->Nat->Option (List Nat×LItem×List LItem)
 |[],_,_=>O
 |it::r,P,i=>cond (aB it.kind 3) (an7 r P i)<|cond (aB it.kind 2) (cond (mG it.i P) (an7 r (aI8 it.i P) i) O) (cond (aB it.i i) (C (P,it,r)) O)
def cw0 :List LItem->List Nat->Bool
 |[],P=>P.isEmpty
 |it::r,P=>cond (aB it.kind 3) (cw0 r P) (aB it.kind 2&&mG it.i P&&cw0 r (aI8 it.i P))
def dr9 :AOp->Bool
 | .move _=>Za
 |_=>Zb
def bu4 (ops:List (AOper×List Nat)):List LItem->Nat->Bool
 |[],_=>Zb
 |it::r,m=>cond (aB it.kind 3) (aB it.i m||bu4 ops r m)<|(aB it.kind 2&&(aB it.i m||(aT7 (dx ops it.i).dst (zU (dx ops m).op)&&bu4 ops r m)))||(aB it.kind 0&&dr9 (dx ops it.i).op&&aT7 (dx ops it.i).dst (zU (dx ops m).op)&&bu4 ops r m)
def aJ0 (ops:List (AOper×List Nat))(self:Nat)(ex:Bool)(P:List Nat)(r:List LItem):Bool:=
 P.all (λq=>neO (dx ops self).dst (dx ops q).dst&&aT7 (dx ops self).dst (zU (dx ops q).op))&&
 r.all λit=> !Nat.beq it.kind 2||(ex&&aB it.i self)||neO (dx ops self).dst (dx ops it.i).dst
def bZ3 (ops:List (AOper×List Nat)):Nat->List Nat->List Nat->List Nat->List Nat->List LItem->Bool
 |0,_,P,_,_,r=>cw0 r P
 |f+1,D,P,ls,nd,r=>match jO ops D with
  |some i=>(dx ops i).guard.isNone&&(match an7 r P i with
   |some (P',it,r')=>aB it.kind 0&&aJ0 ops i Zb P' r'&&bZ3 ops f (i::D) P' (cond (dx ops i).op.isLoad (i::ls) ls) it.need r'
   |none=>Zb)
  |none=>match ej ops D with
   |[]=>cw0 r P
   |ms=>ms.all λm=>(dx ops m).guard.isNone&&cond (yt (dx ops m).op)
    (!mG m P&&r.any (λit=>aB it.kind 2&&aB it.i m)&&(cm0 (dx ops m).op||bu4 ops r m)&&aJ0 ops m Za P r&&aT7 (dx ops m).dst (zU (dx ops m).op)&&ls.all (λi=>vN ops i m||mG i nd)&&bZ3 ops f (m::D) (m::P) ls nd r)
    (match an7 r P m with
    |some (P',it,r')=>aB it.kind 1&&aJ0 ops m Zb P' r'&&ls.all (λi=>vN ops i m||mG i it.chks)&&bZ3 ops f (m::D) P' ls it.need r'
    |none=>Zb)
def am2 (ops:List (AOper×List Nat))(all:List Nat):List Nat->List Nat->List LItem
 |[],_=>[]
 |i::r,ls=>
  cond (aD 1000 i) (⟨i-1000,3,[],[]⟩::am2 ops all r ls)<|
  let o:=(dx ops i).op
  let ls':=cond o.isLoad (i::ls) ls
  let fr:=r.filter λm=>yt (dx ops m).op
  ⟨i,cond (yt o) 2 (cond o.still 0 1),ls.filter λj=> !vN ops j i,ls'.filter λj=>fr.any λm=> !vN ops j m⟩::am2 ops all r ls'
def bJ9 (ops:List (AOper×List Nat)):List LItem->Bool
 |[]=>Za
 |it::r=>r.all (λj=> !Nat.beq it.kind 2|| !Nat.beq j.kind 2||neO (dx ops it.i).dst (dx ops j.i).dst)&&bJ9 ops r
def aD1 (ops:List (AOper×List Nat)):List LItem->List Nat
 |[]=>[]
 |it::r=>cond (aB it.kind 2) ((match(dx ops it.i).dst with
  |some d=>[d]
  |none=>[])++aD1 ops r) (aD1 ops r)
inductive AT where
 |no
 |n (l r:AT)
 |lp (fx:List Nat) (head:Alt) (exits:List Alt) (b:AT)
 |jn (fx mov:List Nat) (exits:List Alt) (l r:AT)
 |sz (n:Nat) (l r:AT)
 |dr (L:List Nat)
def dt1 :List VV->Nat
 |[]=>0
 | .nilp::r=>dt1 r+1
 |_::r=>dt1 r
def ds5 :Nat->bz->Nat
 |_,[]=>0
 |k, .cells _ _ l::r=>k*dt1 l+ds5 (k+1) r
 |k,_::r=>ds5 (k+1) r
def cT4 (S:bz):Nat:=S.length+1000*ds5 1 S
def AT.at (n:Nat):AT->AT
 | .sz m l r=>cond (aB m n) l (r.at n)
 |t=>t
def co5 (e:eo):List Nat->List VV->eo
 |t::ts,v::vs=>pT (co5 e ts vs) t v
 |_,_=>e
def ax9 (e:eo):List Nat->eo
 |[]=>e
 |t::ts=>pT (ax9 e ts) t .undef
def bZ8 :Option Nat->List Nat
 |some d=>[d]
 |none=>[]
def ll :AC->List Nat
 | .region ops=>ops.flatMap λo=>bZ8 o.dst
 | .draw ops=>ops.flatMap λo=>bZ8 o.1.dst
 | .sched its=>its.flatMap λi=>bZ8 i.o.dst
 | .seq a b| .cond _ a b=>ll a++ll b
 | .block _ b| .loop b=>ll b
 |_=>[]
def XK.is :XK->AExit->Bool
 | .normal, .normal=>Za
 | .exit i, .exit j=>aB i j
 | .ret, .ret=>Za
 |_,_=>Zb
def XK.out :XK->AExit
 | .normal=> .normal
 | .exit i=> .exit i
 | .ret=> .ret
def ku (fx mov:List Nat)(fz:Bool):Nat->bz->bz
 |_,[]=>[]
 |i,b::r=>cond (mG i mov) (cond b.frozen b .dead) (cond (mG i fx) b (cond fz b.freeze b))::ku fx mov fz (i+1) r
def az4 :AC->Bool
 | .seq a b| .cond _ a b=>az4 a&&az4 b
 | .block _ b| .loop b=>az4 b
 |_=>Za
def ca {α γ:Type}(f:α->Option (α⊕γ))(n:Nat):α->Option γ:=
 Nat.rec (λ_=>O) (λ_ ih a=>(f a).bind λs=>ck s ih C) n
def dq :Nat:=18446744073709551616
def aA4 (e0:eo)(S:bz)(fx mov asg:List Nat)(fz:Bool)(ts:List Nat)(sk:yj)(t:Tup sk.shs):Option (eo×bz):=
 match pj id sk (toL sk.shs t)with
 |some (vals,fs,bs)=>(match vy fx fs (ku fx mov (fz||ao8 vals fs bs) 0 S)with
  |some S'=>C (co5 (ax9 e0 asg) ts vals,S'++bs)
  |none=>O)
 |none=>O
def dd9 {β:Type}(e0:eo)(S:bz)(fx mov asg:List Nat)(exits:List Alt)(s:vk exits)(k:AExit->eo->bz->Option β):Option β:=
 cQ2 exits s λa t=>match aA4 e0 S fx mov asg Zb a.ts a.sk t with
  |some (e,S')=>k a.x.out e S'
  |none=>O
def bv4 (F:AT->(β:Type)->eo->bz->(AExit->eo->bz->Option β)->Option β):AT->(β:Type)->eo->bz->(AExit->eo->bz->Option β)->Option β
 | .n l r,β,e,S,k=>F l β e S λx e' S'=>match x with
  | .normal=>bv4 F r β e' S' k
  |x=>k x e' S'
 | .sz m l r,β,e,S,k=>cond (aB m S.length) (bv4 F l β e S k) (bv4 F r β e S k)
 |_,_,_,_,_=>O
def AT.rounds :AT->Nat
 | .n _ r=>r.rounds+1
 | .sz _ l r=>l.rounds+r.rounds
 |_=>0
def eval (tab:Tab):AC->AT->(β:Type)->eo->bz->(AExit->eo->bz->Option β)->Option β
 | .skip,_,_,e,S,k=>k .normal e S
 | .exit i,_,_,e,S,k=>k (.exit i) e S
 | .ret,_,_,e,S,k=>k .ret e S
 | .region ops,_,_,e,S,k=>ay2 tab ops e S λe' S'=>k .normal e' S'
 | .sched its,_,_,e,S,k=>tB tab its [] e S λe' S'=>k .normal e' S'
 | .draw ops,at',_,e,S,k=>(match at'.at (cT4 S)with
  | .dr L=>gd (bZ3 ops ops.length [] [] [] [] (am2 ops L L [])&&bJ9 ops (am2 ops L L [])) (evL tab ops (am2 ops L L []) [] (ax9 e (aD1 ops (am2 ops L L []))) S λe' S'=>k .normal e' S')
  |_=>O)
 | .seq a b,at',β,e,S,k=>
  (match at'.at (cT4 S)with
  | .jn fx mov exits l r=>gd (bk0 S fx&&az4 a) ((eval tab a l (vk exits) e (ku (fx++mov) [] Za 0 S) λx e' S'=>vP S' S.length fx (λts=>ts.map (mC e')) (λy=>y.is x) exits).bind λs=>
    dd9 e S fx mov (ll a) exits s λx e' S'=>match x with
     | .normal=>eval tab b r β e' S' k
     |x=>k x e' S')
  | .n l r=>eval tab a l β e S λx e' S'=>match x with
   | .normal=>eval tab b r β e' S' k
   |x=>k x e' S'
  |_=>eval tab a .no β e S λx e' S'=>match x with
   | .normal=>eval tab b .no β e' S' k
   |x=>k x e' S')
 | .cond c a b,at',β,e,S,k=>
  (match ev e c with
  | .bool p=>(match c,at'.at (cT4 S)with
   | .tmp t, .n l r=>cond p (eval tab a l β (pT e t (.bool Za)) S k) (eval tab b r β (pT e t (.bool Zb)) S k)
   | .tmp t,_=>cond p (eval tab a .no β (pT e t (.bool Za)) S k) (eval tab b .no β (pT e t (.bool Zb)) S k)
   |_, .n l r=>cond p (eval tab a l β e S k) (eval tab b r β e S k)
   |_,_=>cond p (eval tab a .no β e S k) (eval tab b .no β e S k))
  |_=>O)
 | .block id b,at',β,e,S,k=>
  eval tab b (match at'.at (cT4 S)with
   | .n l _=>l
   |_=> .no) β e S λx e' S'=>match x with
   | .exit i=>cond (aB i id) (k .normal e' S') (k (.exit i) e' S')
   |x=>k x e' S'
 | .loop b,at',_,e,S,k=>
  (match at'.at (cT4 S)with
  | .lp fx head exits l=>gd (head.sk.noRo&&bk0 S fx&&az4 b) (match nW S S.length fx head.sk (head.ts.map (mC e))with
   |some st=>(ofL head.sk.shs st.ls).bind λt0=>
    (ca (λt=>match aA4 e S fx (nX st.m) (ll b) Za head.ts head.sk t with
     |some (e1,S1)=>eval tab b l (Tup head.sk.shs⊕vk exits) e1 S1 λx e' S'=>(match x with
      | .normal=>(aL4 S' S.length fx head.sk (head.ts.map (mC e'))).bind λt=>C (.inl t)
      |x=>(vP S' S.length fx (λts=>ts.map (mC e')) (λy=>y.is x) exits).bind λs=>C (.inr s))
     |none=>O) dq t0).bind λs=>dd9 e S fx (nX st.m) (ll b) exits s k
   |none=>O)
  |_=>bv4 (eval tab b) at' _ e S k)
def di2 (e:eo)(S:bz):ARes->Option VV
 | .tmp t=>C (mC e t)
 | .cell t=>(match mC e t with
  | .ptr b o=>(match bu S b with
   | .cells _ _ l=>nth l o
   |_=>O)
  |_=>O)
 | .cellN t n=>(match mC e t with
  | .ptr b o=>(match bu S b with
   | .cells _ _ l=>cond (aD (o+n) l.length) (C (.agg ((l.drop o).take n))) O
   |_=>O)
  |_=>O)
def aV1 (e:eo)(S:bz):List ARes->Option (List VV)
 |[]=>C []
 |r::rs=>(di2 e S r).bind λv=>(aV1 e S rs).bind λvs=>C (v::vs)
def cr9 :List VV->VV
 |[v]=>v
 |vs=> .tup vs
def cx (P:Program)(f:FuncId)(tab:Tab)(at':AT):(β:Type)->List VV->bz->(VV->bz->Option β)->Option β:=λβ args S k=>
 match cr7 P f with
 |some a=>gd (aD args.length a.ntmps) (eval tab a.body at' β args S λx e S'=>match x with
  | .exit _=>O
  |_=>(match aV1 e S' a.results with
   |some rs=>k (cr9 rs) S'
   |none=>O))
 |none=>O
def bu0 (P:Program)(f:FuncId)(tab:Tab)(vals:List Sk)(objs:List OSk)(outs:List Alt)(at':AT)(t:Tup (yj.shs ⟨vals,[],objs⟩)):Option (vk outs):=
 match cr7 P f,pj id ⟨vals,[],objs⟩ (toL _ t)with
 |some a,C (vs,_,S)=>gd (aD vs.length a.ntmps) (eval tab a.body at' (vk outs) vs S λx e S'=>match x with
  | .exit _=>O
  |_=>(match aV1 e S' a.results with
   |some rs=>vP S' S.length (tC objs 0) (λ_=>[cr9 rs]) (λ_=>Za) outs
   |none=>O))
 |_,_=>O
end
section
open Nat renaming lt_of_lt_of_le -> aB
structure Ctx where
 Z:Nat->Option Nat
 S:bz
 Y:Hp
 fb:Nat->Prop
def Blk.dim :Blk->Option (Nat×Nat)
 | .dead=>O
 | .cells es _ l=>C (es,l.length)
 | .arr s _ l=>C (s.w,l.length*s.w)
def Blk.vals :Blk->List VV
 | .dead=>[]
 | .cells _ _ l=>l
 | .arr s _ l=>gu s l
def Ctx.own (c:Ctx)(b:Nat):Prop:= ∃k,(bu c.S k).frozen=Zb/\c.Z k=C b
def Ctx.mut (c:Ctx)(b:Nat):Prop:=c.own b∨c.fb b
def SlR (c:Ctx)(k lo n:Nat)(d:Nat×Nat)(a:Value):Prop:=
 (a= .slice O 0 0/\lo=0/\n=0/\c.Z k=O/\d.2=0)∨
 ∃b cp y,a= .slice (C ⟨b,lo*d.1,O⟩) n cp/\c.Z k=C b/\(lo+n)*d.1<=d.2/\n<=cp/\c.Y.m b=C y/\(lo+cp)*d.1<=y.cells.length
inductive VRel (c:Ctx):VV->Value->Prop where
 |undef (a:Value):VRel c .undef a
 |bool (b:Bool):VRel c (.bool b) (.bool b)
 |int (k:IntKind) (n:Int):VRel c (.int k n) (.int k n)
 |str {l:Zd} {s:ByteArray}:jN s=l->VRel c (.str l) (.string s)
 |nilp:VRel c .nilp (.pointer O)
 |nils:VRel c .nils (.slice O 0 0)
 |nilf:VRel c .nilf .nilFunc
 |ptr {k o:Nat} {a:Value}:k<c.S.length->one a=Za->(∀d,(bu c.S k).dim=C d->∃b,c.Z k=C b/\a= .pointer (C ⟨b,o,O⟩))->VRel c (.ptr k o) a
 |it {k:Nat} {l:Zd} {s:ByteArray} {a:Value}:k<c.S.length->one a=Za->jN s=l->(∀d,(bu c.S k).dim=C d->∃b,c.Z k=C b/\a= .iface b (.string s))->VRel c (.it k l) a
 |bld {k:Nat} {a:Value}:k<c.S.length->one a=Za->(∀d,(bu c.S k).dim=C d->∃b,c.Z k=C b/\a= .iface b .nilFunc)->VRel c (.bld k) a
 |pix {k o n i:Nat} {a:Value}:k<c.S.length->one a=Za->i<n->(∀d,(bu c.S k).dim=C d->∃b,c.Z k=C b/\a= .pointer (C ⟨b,o+i,O⟩))->VRel c (.pix k o n i) a
 |pel {k i o:Nat} {a:Value}:k<c.S.length->one a=Za->(∀d,(bu c.S k).dim=C d->∃b,c.Z k=C b/\a= .pointer (C ⟨b,i*d.1+o,O⟩))->VRel c (.pel k i o) a
 |pin {s:Sh} {x:El s} {o b p:Nat} {y:Ab.Blk}: ¬c.mut b->c.Y.m b=C y->p+s.w<=y.cells.length->F2 (VRel c) (et s x) ((y.cells.drop p).take s.w)->VRel c (.pin s x o) (.pointer (C ⟨b,p+o,O⟩))
 |lstn {s:Sh} {q:Option Addr}:(∀z,q=C z->z.spot=O)->VRel c (.lst s []) (.slice q 0 0)
 |lst {s:Sh} {l:List (El s)} {b p n cp:Nat} {y:Ab.Blk}: ¬c.mut b->c.Y.m b=C y->y.es=s.w->n=l.length->n<=cp->p+n*s.w<=y.cells.length->
   F2 (VRel c) (gu s l) ((y.cells.drop p).take (n*s.w))->VRel c (.lst s l) (.slice (C ⟨b,p,O⟩) n cp)
 |tgtn {s:Sh} {a:Value}:(a= .slice O 0 0∨∃b o,a= .slice (C ⟨b,o,C 0⟩) 0 0)->VRel c (.tgt s []) a
 |tgt {s:Sh} {l:List (El s)} {b p:Nat} {y:Ab.Blk}: ¬c.mut b->c.Y.m b=C y->y.es=s.w->p+l.length*s.w<=y.cells.length->
   F2 (VRel c) (gu s l) ((y.cells.drop p).take (l.length*s.w))->VRel c (.tgt s l) (.slice (C ⟨b,p,C 0⟩) l.length l.length)
 |full {k:Nat} {a:Value}:k<c.S.length->one a=Za->(∀d,(bu c.S k).dim=C d->∃n,n*d.1=d.2/\SlR c k 0 n d a)->VRel c (.full k) a
 |part {k lo n:Nat} {a:Value}:k<c.S.length->one a=Za->(∀d,(bu c.S k).dim=C d->SlR c k lo n d a)->VRel c (.part k lo n) a
 |fn {f:Nat} {a b:List VV} {a' b':Array Value}:F2 (VRel c) a a'.toList->F2 (VRel c) b b'.toList->VRel c (.fn f a b) (.func (.func f) a' b')
 |agg {l:List VV} {l':Array Value}:F2 (VRel c) l l'.toList->VRel c (.agg l) (.agg l')
 |tup {l:List VV} {l':Array Value}:F2 (VRel c) l l'.toList->VRel c (.tup l) (.tuple l')
def bm3 (c:Ctx)(k:Nat):Prop:= ∀d,(bu c.S k).dim=C d->1<=d.1/\
 ((d.2=0/\c.Z k=O)∨∃b y cs rest,c.Z k=C b/\c.Y.m b=C y/\y.es=d.1/\((bu c.S k).frozen=Zb->y.own=Za)/\y.cells=cs++rest/\F2 (VRel c) (bu c.S k).vals cs)
structure ga (c:Ctx):Prop where
 ok:c.Y.Ok
 inj: ∀k k' b,(bu c.S k).frozen=Zb->(bu c.S k').dim≠O->c.Z k=C b->c.Z k'=C b->k=k'
 blk: ∀k,bm3 c k
 fbk: ∀k b,(bu c.S k).dim≠O->c.Z k=C b->¬c.fb b
 fbl: ∀b,c.fb b->b<c.Y.n
structure Le (c c':Ctx):Prop where
 len:c.S.length<=c'.S.length
 al: ∀k d,k<c.S.length->(bu c'.S k).dim=C d->(bu c.S k).dim=C d/\c'.Z k=c.Z k
 fz: ∀k,(bu c.S k).frozen=Za->(bu c.S k).dim≠O->bu c'.S k=bu c.S k
 ln: ∀k d b y,k<c.S.length->(bu c'.S k).dim=C d->c.Z k=C b->c.Y.m b=C y->∃y',c'.Y.m b=C y'/\y'.cells.length=y.cells.length
 un: ∀b y,c.Y.m b=C y->¬c.own b->c'.Y.m b=C y
 ow: ∀b y,c.Y.m b=C y->¬c.own b->¬c'.own b
 n:c.Y.n<=c'.Y.n
 fb:c'.fb=c.fb
theorem Le.rd {c c':Ctx}(h:Le c c')(b:Nat)(y:Ab.Blk)(hy:c.Y.m b=C y)(hn: ¬c.mut b):c'.Y.m b=C y/\¬c'.mut b:=by
 have h1: ¬c.own b:=λe=>hn (.inl e)
 refine⟨h.un b y hy h1,λe=> ?_⟩;rcases e with e|e
 .exact h.ow b y hy h1 e
 .rw[h.fb]at e;exact hn (.inr e)
def uG (d:List Nat)(c c':Ctx):Prop:= ∀k,k<c.S.length->k∉d->(bu c.S k).dim≠O->(bu c'.S k).dim≠O/\∀b,c.Z k=C b->c'.Y.m b=c.Y.m b
theorem mJ {S:bz}{k:Nat}(h:(bu S k).dim≠O):k<S.length:=by
 induction S generalizing k with
 |nil=>exact(h rfl).elim
 |cons b r ih=>
  cases k with
  |zero=>exact Nat.zero_lt_succ _
  |succ k=>exact Nat.succ_lt_succ (ih h)
theorem vw {S:bz}{k:Nat}(h:S.length<=k):bu S k= .dead:=by
 induction S generalizing k with
 |nil=>rfl
 |cons b r ih=>
  cases k with
  |zero=>simp at h
  |succ k=>exact ih (by simpa using h)
theorem aA7 {S:bz}{k:Nat}{b:Blk}:(lH S k b).length=S.length:=by
 induction S generalizing k with
 |nil=>rfl
 |cons a r ih=>cases k<;>simp[lH,ih]
theorem xF {S:bz}{k i:Nat}{b:Blk}:bu (lH S k b) i=if i=k/\k<S.length then b else bu S i:=by
 induction S generalizing k i with
 |nil=>simp[lH]
 |cons a r ih=>
  cases k with
  |zero=>cases i<;>simp[lH,bu]
  |succ k=>
   cases i with
   |zero=>simp[lH,bu]
   |succ i=>simp[lH,bu,ih]
theorem cF7 {S:bz}{k:Nat}{b:Blk}(h:k<S.length):bu (lH S k b) k=b:=by rw[xF,zE ⟨rfl,h⟩]
theorem di8 {S:bz}{k i:Nat}{b:Blk}(h:i≠k):bu (lH S k b) i=bu S i:=by rw[xF,zF (λe=>h e.1)]
theorem na {S:bz}{l:List Blk}{k:Nat}(h:k<S.length):bu (S++l) k=bu S k:=by
 induction S generalizing k with
 |nil=>simp at h
 |cons a r ih=>
  cases k with
  |zero=>rfl
  |succ k=>exact ih (by simpa using h)
theorem rW {S:bz}{l:List Blk}{k:Nat}:bu (S++l) (S.length+k)=bu l k:=by
 induction S with
 |nil=>simp
 |cons a r ih=>
  have:(a::r).length+k=(r.length+k)+1:=by simp;omega
  rw[this];exact ih
theorem cq6 {S:bz}{b:Blk}:bu (S++[b]) S.length=b:=by
 exact @rW S [b] 0
theorem mB {b:Blk}(h:b.frozen=Zb):b.dim≠O:=by cases b<;>simp[Blk.frozen,Blk.dim]at*
theorem gp {b:Blk}:b.freeze.dim=b.dim:=by cases b<;>rfl
theorem bg6 {b:Blk}:b.freeze.vals=b.vals:=by cases b<;>rfl
theorem mY {b:Blk}:b.freeze.frozen=Za:=by cases b<;>rfl
theorem af1 {b:Blk}(h:b.frozen=Za):b.freeze=b:=by cases b<;>simp[Blk.frozen,Blk.freeze]at* <;>simp[h]
theorem Le.refl (c:Ctx):Le c c:=⟨Nat.le_refl _,λ_ _ _ h=>⟨h,rfl⟩,λ_ _ _=>rfl,λ_ _ _ y _ _ _ hy=>⟨y,hy,rfl⟩,λ_ _ h _=>h,λ_ _ _ h=>h,Nat.le_refl _,rfl⟩
theorem Le.trans {a b c:Ctx}(h:Le a b)(k:Le b c):Le a c:=by
 refine⟨Nat.le_trans h.len k.len,λi d hi hd=> ?_,λi hf hd=> ?_,λi d x y hi hd hm hy=> ?_,λx y hy hn=>k.un x y (h.un x y hy hn) (h.ow x y hy hn),λx y hy hn=>k.ow x y (h.un x y hy hn) (h.ow x y hy hn),Nat.le_trans h.n k.n,k.fb.trans h.fb⟩
 .obtain⟨h1,h2⟩:=k.al i d (aB hi h.len) hd;obtain⟨h3,h4⟩:=h.al i d hi h1;exact⟨h3,h2.trans h4⟩
 .have h1:=h.fz i hf hd;rw[k.fz i (by rw[h1];exact hf) (by rw[h1];exact hd),h1]
 .obtain⟨h1,h2⟩:=k.al i d (aB hi h.len) hd;obtain⟨y1,h3,h4⟩:=h.ln i d x y hi h1 hm hy;obtain⟨_,h6⟩:=h.al i d hi h1;obtain⟨y2,h5,h7⟩:=k.ln i d x y1 (aB hi h.len) hd (h6.trans hm) h3;exact⟨y2,h5,h7.trans h4⟩
theorem uG.refl (d:List Nat)(c:Ctx):uG d c c:=λ_ _ _ h=>⟨h,λ_ _=>rfl⟩
theorem SlR.frame {c c':Ctx}(h:Le c c'){k lo n:Nat}{d:Nat×Nat}{a:Value}(hk:k<c.S.length)(hd:(bu c'.S k).dim=C d)(hs:SlR c k lo n d a):SlR c' k lo n d a:=by
 obtain⟨h1,h2⟩:=h.al k d hk hd;rcases hs with⟨rfl,rfl,rfl,hm,hz⟩|⟨b,cp,y,rfl,hm,h3,h4,hy,h5⟩
 .exact .inl ⟨rfl,rfl,rfl,h2.trans hm,hz⟩
 .obtain⟨y',hy',hl⟩:=h.ln k d b y hk hd hm hy;exact .inr ⟨b,cp,y',rfl,h2.trans hm,h3,h4,hy',by rw[hl];exact h5⟩
theorem VRel.frame {c c':Ctx}(h:Le c c'): ∀{v:VV} {a:Value},VRel c v a->VRel c' v a
 |_,_, .undef a=> .undef a
 |_,_, .bool b=> .bool b
 |_,_, .int k n=> .int k n
 |_,_, .str hs=> .str hs
 |_,_, .nilp=> .nilp
 |_,_, .nils=> .nils
 |_,_, .nilf=> .nilf
 |_,_, .ptr hk h1 hd=> .ptr (aB hk h.len) h1 λd hd'=>by
  obtain⟨h1,h2⟩:=h.al _ d hk hd';obtain⟨b,h3,h4⟩:=hd d h1;exact⟨b,h2.trans h3,h4⟩
 |_,_, .it hk h1 hs hd=> .it (aB hk h.len) h1 hs λd hd'=>by
  obtain⟨h1,h2⟩:=h.al _ d hk hd';obtain⟨b,h3,h4⟩:=hd d h1;exact⟨b,h2.trans h3,h4⟩
 |_,_, .bld hk h1 hd=> .bld (aB hk h.len) h1 λd hd'=>by
  obtain⟨h1,h2⟩:=h.al _ d hk hd';obtain⟨b,h3,h4⟩:=hd d h1;exact⟨b,h2.trans h3,h4⟩
 |_,_, .pix hk h1 hi hd=> .pix (aB hk h.len) h1 hi λd hd'=>by
  obtain⟨h1,h2⟩:=h.al _ d hk hd';obtain⟨b,h3,h4⟩:=hd d h1;exact⟨b,h2.trans h3,h4⟩
 |_,_, .pel hk h1 hd=> .pel (aB hk h.len) h1 λd hd'=>by
  obtain⟨h1,h2⟩:=h.al _ d hk hd';obtain⟨b,h3,h4⟩:=hd d h1;exact⟨b,h2.trans h3,h4⟩
 |_,_, .pin hn hy hl hf=> .pin (h.rd _ _ hy hn).2 (h.rd _ _ hy hn).1 hl (go hf)
 |_,_, .lstn hq=> .lstn hq
 |_,_, .lst hn hy he h1 h2 h3 hf=> .lst (h.rd _ _ hy hn).2 (h.rd _ _ hy hn).1 he h1 h2 h3 (go hf)
 |_,_, .tgtn hq=> .tgtn hq
 |_,_, .tgt hn hy he h3 hf=> .tgt (h.rd _ _ hy hn).2 (h.rd _ _ hy hn).1 he h3 (go hf)
 |_,_, .full hk h1 hd=> .full (aB hk h.len) h1 λd hd'=>by
  obtain⟨h1,h2⟩:=h.al _ d hk hd';obtain⟨n,h3,h4⟩:=hd d h1;exact⟨n,h3,h4.frame h hk hd'⟩
 |_,_, .part hk h1 hd=> .part (aB hk h.len) h1 λd hd'=>by
  obtain⟨h1,h2⟩:=h.al _ d hk hd';exact(hd d h1).frame h hk hd'
 |_,_, .fn h1 h2=> .fn (go h1) (go h2)
 |_,_, .agg h1=> .agg (go h1)
 |_,_, .tup h1=> .tup (go h1)
where
 go: ∀{l:List VV} {m:List Value},F2 (VRel c) l m->F2 (VRel c') l m
  |_,_, .nil=> .nil
  |_,_, .cons h1 h2=> .cons (VRel.frame h h1) (go h2)
theorem VRel.frames {c c':Ctx}(h:Le c c'){l:List VV}{m:List Value}(hf:F2 (VRel c) l m):F2 (VRel c') l m:=hf.imp λ_ _ hv=>hv.frame h
def kg {β:Type}(c:Ctx)(d:List Nat)(k:VV->bz->Option β)(y:β)(v:Value)(Y':Hp):Prop:=
 ∃vv c',c'.Y=Y'/\Le c c'/\ga c'/\uG d c c'/\VRel c' vv v/\k vv c'.S=C y
theorem kg.same {β:Type}{c:Ctx}{d:List Nat}{k:VV->bz->Option β}{y:β}{v:Value}{vv:VV}(hR:ga c)(hv:VRel c vv v)(hk:k vv c.S=C y):kg c d k y v c.Y:=
 ⟨vv,c,rfl,Le.refl c,hR,uG.refl d c,hv,hk⟩
end
section
open List renaming length_append -> bB, take_of_length_le -> bD, length_cons -> cD, length_drop -> dB, take_append -> dD
open Nat renaming succ_mul -> aB, le_refl -> aD, mul_le_mul_right -> cB
theorem ng : ∀s:Sh,1<=s.w
 | .int _=>aD _
 | .bool=>aD _
 | .str=>aD _
 | .list _=>aD _
 | .pair a _=>Nat.le_trans (ng a) (Nat.le_add_right _ _)
theorem fc : ∀(s:Sh) (x:El s),(et s x).length=s.w
 | .int _,_=>rfl
 | .bool,_=>rfl
 | .str,_=>rfl
 | .list _,_=>rfl
 | .pair a b,x=>by
  simp only[et,bB,Sh.w];rw[fc a,fc b]
theorem aD0 {s:Sh}:gu s []=[]:=rfl
theorem iq {s:Sh}{x:El s}{l:List (El s)}:gu s (x::l)=et s x++gu s l:=rfl
theorem iw {s:Sh}{l:List (El s)}:(gu s l).length=l.length*s.w:=by
 induction l with
 |nil=>simp[aD0]
 |cons x l ih=>rw[iq,bB,fc,ih,cD,aB,Nat.add_comm]
theorem xC {s:Sh}{l m:List (El s)}:gu s (l++m)=gu s l++gu s m:=List.flatMap_append
theorem lr {s:Sh}{l:List (El s)}{n:Nat}:gu s (l.take n)=(gu s l).take (n*s.w):=by
 induction l generalizing n with
 |nil=>simp[aD0]
 |cons x l ih=>
  cases n with
  |zero=>simp[aD0]
  |succ n=>
   rw[List.take_succ_cons,iq,iq,ih,dD,fc];have h1:(n+1)*s.w-s.w=n*s.w:=by rw[aB];omega
   rw[h1,bD (l:=et s x) (by rw[fc,aB];omega)]
theorem yr {s:Sh}{l:List (El s)}{n:Nat}:gu s (l.drop n)=(gu s l).drop (n*s.w):=by
 induction l generalizing n with
 |nil=>simp[aD0]
 |cons x l ih=>
  cases n with
  |zero=>simp
  |succ n=>
   rw[List.drop_succ_cons,iq,ih,List.drop_append,fc];have h1:(n+1)*s.w-s.w=n*s.w:=by rw[aB];omega
   rw[h1,List.drop_of_length_le (l:=et s x) (by rw[fc,aB];omega),List.nil_append]
theorem aY7 {s:Sh}{l:List (El s)}{i:Nat}{x:El s}(h:l[i]?=C x):((gu s l).drop (i*s.w)).take s.w=et s x:=by
 rw[<-yr]
 have hi:i<l.length:=by
  rcases Nat.lt_or_ge i l.length with h1|h1
  .exact h1
  .rw[List.getElem?_eq_none h1]at h;cases h
 have h2:l.drop i=x::l.drop (i+1):=by
  rw[List.drop_eq_getElem_cons hi];rw[List.getElem?_eq_getElem hi]at h;injection h with h
  rw[h]
 rw[h2,iq,dD,fc,Nat.sub_self,List.take_zero,List.append_nil,bD (by rw[fc];exact aD _)]
theorem me {s' s:Sh}{x:El s'}{y:El s}(h:oB s' s x=C y): ∃e:s'=s,y=e▸x:=by
 unfold oB at h;split at h
 .rename_i e;injection h with h
  exact⟨e,h.symm⟩
 .cases h
theorem np {s:Sh}{x:El s}:oB s s x=C x:=by
 unfold oB;rw[dif_pos rfl]
theorem F2.app_left {α β:Type}{r:α->β->Prop}{l l':List α}{m:List β}(h:F2 r (l++l') m): ∃m1 m2,m=m1++m2/\F2 r l m1/\F2 r l' m2:=by
 induction l generalizing m with
 |nil=>exact⟨[],m,rfl, .nil,h⟩
 |cons a l ih=>
  cases h with
  |cons h1 h2=>
   obtain⟨m1,m2,rfl,h3,h4⟩:=ih h2;exact⟨_::m1,m2,rfl, .cons h1 h3,h4⟩
def xU (c:Ctx)(s:Sh)(l:List (El s))(a:Value):Prop:=
 (∃q:Option Addr,a= .slice q 0 0/\l=[]/\∀z,q=C z->z.spot=O)∨∃b p cp y,a= .slice (C ⟨b,p,O⟩) l.length cp/\c.Y.m b=C y/\y.es=s.w/\l.length<=cp/\p+l.length*s.w<=y.cells.length/\F2 (VRel c) (gu s l) ((y.cells.drop p).take (l.length*s.w))
theorem xU.rel {c:Ctx}{s:Sh}{l:List (El s)}{a:Value}(h:xU c s l a)(hn: ∀b p n cp,a= .slice (C ⟨b,p,O⟩) n cp->cp≠0->¬c.mut b):VRel c (.lst s l) a:=by
 rcases h with⟨q,rfl,rfl,hq⟩|⟨b,p,cp,y,rfl,h1,h2,h3,h4,h5⟩
 .exact .lstn hq
 .by_cases hc:cp=0
  .subst hc;have:l=[]:=List.length_eq_zero_iff.1 (by omega);subst this;exact .lstn λz hz=>by injection hz with hz;rw[<-hz]
  .exact .lst (hn _ _ _ _ rfl hc) h1 h2 rfl h3 h4 h5
theorem VRel.listAt {c:Ctx}{s:Sh}{l:List (El s)}{a:Value}(h:VRel c (.lst s l) a):xU c s l a:=by
 cases h with
 |lstn hq=>exact .inl ⟨_,rfl,rfl,hq⟩
 |lst hn hy he h1 h2 h3 h4=>subst h1;exact .inr ⟨_,_,_,_,rfl,hy,he,h2,h3,h4⟩
theorem VRel.lst_mut {c:Ctx}{s:Sh}{l:List (El s)}{b p n cp:Nat}(h:VRel c (.lst s l) (.slice (C ⟨b,p,O⟩) n cp))(hc:cp≠0): ¬c.mut b:=by
 cases h with
 |lstn=>exact(hc rfl).elim
 |lst hn=>exact hn
theorem ga.fz_mut {c:Ctx}(hR:ga c){k b:Nat}(hk:(bu c.S k).frozen=Za)(hd:(bu c.S k).dim≠O)(hm:c.Z k=C b): ¬c.mut b:=by
 rintro(⟨k',h1,h2⟩|h)
 .have:=hR.inj k' k b h1 hd h2 hm;subst this;rw[h1]at hk;cases hk
 .exact hR.fbk k b hd hm h
def bd9 (c:Ctx)(s:Sh)(f:List VV->Option (El s×List VV)):Prop:= ∀cells x rest,f cells=C (x,rest)->
 ∃pre,cells=pre++rest/\pre.length=s.w/\∀as,F2 (VRel c) pre as->F2 (VRel c) (et s x) as
theorem aY0 {c:Ctx}{s:Sh}{f:List VV->Option (El s×List VV)}(hf:bd9 c s f): ∀(n:Nat) (cells:List VV) (l:List (El s)),be2 f n cells=C l->
  cells.length=l.length*s.w/\∀as,F2 (VRel c) cells as->F2 (VRel c) (gu s l) as
 |n,[],l,h=>by
  have:l=[]:=by cases n<;>simpa[be2]using h.symm
  subst this;exact⟨by simp,λas ha=>ha⟩
 |0,_::_,_,h=>by simp[be2]at h
 |n+1,v::r,l,h=>by
  simp only[be2]at h;cases h1:f (v::r)with
  |none=>rw[h1]at h;cases h
  |some p=>
   obtain⟨x,rest⟩:=p;rw[h1]at h;simp only[zG]at h;cases h2:be2 f n rest with
   |none=>rw[h2]at h;cases h
   |some l'=>
    rw[h2]at h;injection h with h
    subst h;obtain⟨pre,h3,h4,h5⟩:=hf _ _ _ h1;obtain⟨h6,h7⟩:=aY0 hf n rest l' h2;refine⟨by rw[h3,bB,h4,h6,cD,aB,Nat.add_comm],λas ha=> ?_⟩;rw[h3]at ha;obtain⟨m1,m2,rfl,h8,h9⟩:=F2.app_left ha;exact(h5 _ h8).append (h7 _ h9)
theorem rT {c:Ctx}{s:Sh}{f:List VV->Option (El s×List VV)}(hf:bd9 c s f){k:Nat}{l:List (El s)}(h:xn s f (bu c.S k)=C l):
  ∃d,(bu c.S k).dim=C d/\d.1=s.w/\d.2=l.length*s.w/\∀as,F2 (VRel c) (bu c.S k).vals as->F2 (VRel c) (gu s l) as:=by
 generalize bu c.S k=b at h;cases b with
 |dead=>cases h
 |arr s' z m=>
  obtain⟨e,h1⟩:=me h;cases e;subst h1;exact⟨_,rfl,rfl,rfl,λ_ h=>h⟩
 |cells es z m=>
  simp only[xn]at h;cases he:Nat.beq es s.w with
  |false=>rw[he]at h;cases h
  |true=>
   rw[he,zC]at h;obtain⟨h1,h2⟩:=aY0 hf _ _ _ h;exact⟨_,rfl,Nat.eq_of_beq_eq_true he,h1,h2⟩
theorem br7 {c:Ctx}(hR:ga c){s:Sh}{f:List VV->Option (El s×List VV)}(hf:bd9 c s f){k lo n:Nat}{l:List (El s)}{d:Nat×Nat}{a:Value}(h:xn s f (bu c.S k)=C l)
  (hd:(bu c.S k).dim=C d) (hs:SlR c k lo n d a):xU c s ((l.drop lo).take n) a/\((l.drop lo).take n).length=n:=by
 obtain⟨d',h1,h2,h3,h4⟩:=rT hf h;rw[hd]at h1;injection h1 with h1
 subst h1;obtain⟨h0,hb⟩:=hR.blk k d hd;have hw:=ng s;rcases hs with⟨rfl,rfl,rfl,hm,hz⟩|⟨b,cp,y,rfl,hm,h5,h6,hy,h7⟩
 .have:l.length=0:=by
   rw[hz]at h3;rcases Nat.eq_zero_or_pos l.length with h|h
   .exact h
   .have:=Nat.mul_pos h hw;omega
  rw[List.length_eq_zero_iff]at this;subst this;exact⟨.inl ⟨O,rfl,by simp,λz hz=>by cases hz⟩,by simp⟩
 .have hln:lo+n<=l.length:=by
   rw[h2,h3]at h5;exact Nat.le_of_mul_le_mul_right h5 hw
  have hlen:((l.drop lo).take n).length=n:=by rw[List.length_take,dB];omega
  refine⟨.inr ⟨b,lo*d.1,cp,y,by rw[hlen],hy, ?_,by rw[hlen];exact h6, ?_, ?_⟩,hlen⟩
  .rcases hb with⟨h8,h9⟩|⟨b',y',cs,rest,h8,h9,h10,_⟩
   .rw[h9]at hm;cases hm
   .rw[hm]at h8;injection h8 with h8
    subst h8;rw[hy]at h9;injection h9 with h9
    subst h9;rw[h10,h2]
  .rw[hlen];have:=cB d.1 h6;rw[Nat.add_mul]at h7;rw[<-h2];omega
  .rcases hb with⟨h8,h9⟩|⟨b',y',cs,rest,h8,h9,h10,_,h12,h13⟩
   .rw[h9]at hm;cases hm
   .rw[hm]at h8;injection h8 with h8
    subst h8;rw[hy]at h9;injection h9 with h9
    subst h9;have h14:=h4 _ h13;have h15:cs.length=l.length*s.w:=by rw[<-h14.length,iw]
    rw[hlen,lr,yr,h2,h12,List.drop_append_of_le_length (by rw[h15];exact cB _ (by omega)),List.take_append_of_le_length]
    .exact(h14.drop _).take _
    .rw[dB,h15,<-Nat.sub_mul];exact cB _ (by omega)
theorem cl5 {c:Ctx}(hR:ga c){s:Sh}{f:List VV->Option (El s×List VV)}(hf:bd9 c s f){k:Nat}{l:List (El s)}{a:Value}(h:xn s f (bu c.S k)=C l)(hv:VRel c (.full k) a):xU c s l a:=by
 obtain⟨d,h1,h2,h3,h4⟩:=rT hf h;cases hv with
 |full hk _ hd=>
  obtain⟨n,h5,h6⟩:=hd d h1
  have hn:n=l.length:=by
   rw[h2,h3]at h5;exact Nat.eq_of_mul_eq_mul_right (ng s) h5
  have:=(br7 hR hf h h1 h6).1
  rwa [List.drop_zero,bD (by omega)]at this
theorem cn8 {c:Ctx}(hR:ga c){s:Sh}{f:List VV->Option (El s×List VV)}(hf:bd9 c s f){k lo n:Nat}{l:List (El s)}{a:Value}(h:xn s f (bu c.S k)=C l)(hv:VRel c (.part k lo n) a):
  xU c s ((l.drop lo).take n) a/\((l.drop lo).take n).length=n:=by
 obtain⟨d,h1,h2,h3,h4⟩:=rT hf h;cases hv with
 |part hk _ hd=>exact br7 hR hf h h1 (hd d h1)
def aY9 :VV->Option Nat
 | .full k=>C k
 | .part k _ _=>C k
 |_=>O
theorem SlR.addr {c:Ctx}{k lo n:Nat}{d:Nat×Nat}{b p m cp:Nat}(h:SlR c k lo n d (.slice (C ⟨b,p,O⟩) m cp)):c.Z k=C b:=by
 rcases h with⟨h,_⟩|⟨b',cp',y,h,hm,_⟩
 .cases h
 .injection h with h1 h2 h3
  injection h1 with h1
  injection h1 with h1
  subst h1;exact hm
theorem bL0 {c:Ctx}(hR:ga c){s:Sh}{f:List VV->Option (El s×List VV)}(hf:bd9 c s f){v:VV}{l:List (El s)}{a:Value}(h:az1 c.S s f v=C l)(hv:VRel c v a):
  xU c s l a/\∀b p n cp,a= .slice (C ⟨b,p,O⟩) n cp->cp≠0->¬c.mut b∨∃k,aY9 v=C k/\(bu c.S k).dim≠O/\c.Z k=C b:=by
 cases v<;>simp only[az1]at h<;>try(cases h;done)
 case nils=>
  injection h with h
  subst h;cases hv;exact⟨.inl ⟨O,rfl,rfl,λz hz=>by cases hz⟩,λb p n cp e=>by cases e⟩
 case lst s' l'=>
  obtain⟨e,h1⟩:=me h;cases e;subst h1;refine⟨hv.listAt,λb p n cp e hc=> .inl ?_⟩;subst e;exact hv.lst_mut hc
 case full k=>
  refine⟨cl5 hR hf h hv,λb p n cp e _=> .inr ⟨k,rfl, ?_⟩⟩;obtain⟨d,h1,_⟩:=rT hf h;subst e;cases hv with
  |full hk _ hd=>
   obtain⟨_,_,h6⟩:=hd d h1;exact⟨by rw[h1];simp,h6.addr⟩
 case part k lo m=>
  cases h0:xn s f (bu c.S k)with
  |none=>rw[h0]at h;cases h
  |some l0=>
   rw[h0]at h;injection h with h
   subst h;refine⟨(cn8 hR hf h0 hv).1,λb p n cp e _=> .inr ⟨k,rfl, ?_⟩⟩;obtain⟨d,h1,_⟩:=rT hf h0;subst e;cases hv with
   |part hk _ hd=>exact⟨by rw[h1];simp,(hd d h1).addr⟩
theorem bv2 {c:Ctx}(hR:ga c){s:Sh}{f:List VV->Option (El s×List VV)}(hf:bd9 c s f){v:VV}{l:List (El s)}{a:Value}(h:cb2 c.S s f v=C l)(hv:VRel c v a):VRel c (.lst s l) a:=by
 have key:az1 c.S s f v=C l/\∀k,aY9 v=C k->(bu c.S k).frozen=Za:=by
  unfold cb2 at h;split at h
  .rename_i k;cases hz:(bu c.S k).frozen with
   |false=>rw[hz]at h;cases h
   |true=>
    rw[hz]at h;exact⟨h,λk' e=>by cases e;exact hz⟩
  .rename_i k lo n;cases hz:(bu c.S k).frozen with
   |false=>rw[hz]at h;cases h
   |true=>
    rw[hz]at h;exact⟨h,λk' e=>by cases e;exact hz⟩
  .rename_i h1 h2;refine⟨h,λk e=> ?_⟩;cases v<;>simp only[aY9]at e<;>try(cases e;done)
   .exact(h1 _ rfl).elim
   .exact(h2 _ _ _ rfl).elim
 obtain⟨h1,h2⟩:=bL0 hR hf key.1 hv;refine h1.rel λb p n cp e hc=> ?_
 rcases h2 b p n cp e hc with h3|⟨k,h3,h4,h5⟩
 .exact h3
 .exact hR.fz_mut (key.2 k h3) h4 h5
theorem kQ {c:Ctx}(hR:ga c): ∀s:Sh,bd9 c s (kL c.S s)
 | .int k,cells,x,rest,h=>by
  cases cells with
  |nil=>simp[kL]at h
  |cons v r=>
   cases v<;>simp only[kL]at h<;>try(cases h;done)
   rename_i k' n;cases hk:Zc (k'=k)with
   |false=>rw[hk]at h;cases h
   |true=>
    rw[hk]at h;injection h with h
    injection h with h1 h2
    subst h1;subst h2;have:=of_decide_eq_true hk;subst this;exact⟨[_],rfl,rfl,λ_ h=>h⟩
 | .bool,cells,x,rest,h=>by
  cases cells with
  |nil=>simp[kL]at h
  |cons v r=>
   cases v<;>simp only[kL]at h<;>try(cases h;done)
   injection h with h
   injection h with h1 h2
   subst h1;subst h2;exact⟨[_],rfl,rfl,λ_ h=>h⟩
 | .str,cells,x,rest,h=>by
  cases cells with
  |nil=>simp[kL]at h
  |cons v r=>
   cases v<;>simp only[kL]at h<;>try(cases h;done)
   injection h with h
   injection h with h1 h2
   subst h1;subst h2;exact⟨[_],rfl,rfl,λ_ h=>h⟩
 | .list s,cells,x,rest,h=>by
  cases cells with
  |nil=>simp[kL]at h
  |cons v r=>
   simp only[kL]at h;cases h1:cb2 c.S s (kL c.S s) v with
   |none=>rw[h1]at h;cases h
   |some l=>
    rw[h1]at h;injection h with h
    injection h with h2 h3
    subst h2;subst h3;refine⟨[v],rfl,rfl,λas ha=> ?_⟩;cases ha with
    |cons ha hn=>
     cases hn;exact .cons (bv2 hR (kQ hR s) h1 ha) .nil
 | .pair a b,cells,x,rest,h=>by
  simp only[kL]at h;cases h1:kL c.S a cells with
  |none=>rw[h1]at h;cases h
  |some p=>
   obtain⟨y,r1⟩:=p;rw[h1]at h;simp only[zG]at h;cases h2:kL c.S b r1 with
   |none=>rw[h2]at h;cases h
   |some q=>
    obtain⟨z,r2⟩:=q;rw[h2]at h;injection h with h
    injection h with h3 h4
    subst h3;subst h4;obtain⟨p1,rfl,hl1,hf1⟩:=kQ hR a _ _ _ h1;obtain⟨p2,rfl,hl2,hf2⟩:=kQ hR b _ _ _ h2;refine⟨p1++p2,by rw[List.append_assoc],by rw[bB,hl1,hl2];rfl,λas ha=> ?_⟩;obtain⟨m1,m2,rfl,h5,h6⟩:=F2.app_left ha;exact(hf1 _ h5).append (hf2 _ h6)
theorem cU0 {c:Ctx}(hR:ga c){s:Sh}{v:VV}{l:List (El s)}{a:Value}(h:cD9 c.S s v=C l)(hv:VRel c v a):
  xU c s l a/\∀b p n cp,a= .slice (C ⟨b,p,O⟩) n cp->cp≠0->¬c.mut b∨∃k,aY9 v=C k/\(bu c.S k).dim≠O/\c.Z k=C b:=
 bL0 hR (kQ hR s) h hv
end
section
open Bool renaming and_eq_true -> aD
open List renaming getElem?_eq_getElem -> aB, getD_eq_getElem?_getD -> bB, getElem?_map -> bD, all_append -> cD, getElem?_eq_none -> dB, length_drop -> dD, length_take -> eB
open Nat renaming zero_add -> cB, le_of_ble_eq_true -> eD
def cf (c:Ctx)(e:eo)(ea:dn):Prop:= ∀t,VRel c (mC e t) (ea t)
theorem cf.frame {c c':Ctx}{e:eo}{ea:dn}(h:cf c e ea)(hl:Le c c'):cf c' e ea:=λt=>(h t).frame hl
theorem vp {e:eo}{d t:Nat}{v:VV}:mC (pT e d v) t=if t=d then v else mC e t:=by
 induction d generalizing e t with
 |zero=>cases e<;>cases t<;>simp[pT,mC]
 |succ d ih=>
  cases e with
  |nil=>
   cases t with
   |zero=>simp[pT,mC]
   |succ t=>simp[pT,mC,ih]
  |cons a r=>
   cases t with
   |zero=>simp[pT,mC]
   |succ t=>simp[pT,mC,ih]
theorem cf.put {c:Ctx}{e:eo}{ea:dn}(h:cf c e ea){d:Nat}{v:VV}{a:Value}(hv:VRel c v a):cf c (pT e d v) (ea.put d a):=by
 intro t;rw[vp];unfold dn.put;by_cases ht:t=d
 .rw[zE ht,zE ht];exact hv
 .rw[zF ht,zF ht];exact h t
theorem cf.putO {c:Ctx}{e:eo}{ea:dn}(h:cf c e ea){d:Option Nat}{v:VV}{a:Value}(hv:VRel c v a):cf c (putO e d v) (ea.putO d a):=by
 cases d with
 |none=>exact h
 |some d=>exact h.put hv
theorem cn1 (c:Ctx)(v:Value):VRel c (bj9 v) v:=by
 unfold bj9;split
 .exact .bool _
 .exact .int _ _
 .exact .str rfl
 .exact .nilp
 .exact .nils
 .exact .nilf
 .exact .undef _
theorem aD9 (c:Ctx)(l:List Value):F2 (VRel c) (l.map bj9) l:=by
 induction l with
 |nil=>exact .nil
 |cons v l ih=>exact .cons (cn1 c v) ih
theorem dg4 (c:Ctx)(v:Value):VRel c (ofC v) v:=by
 unfold ofC;split
 .rename_i cs;exact .agg (by simpa using aD9 c cs.toList)
 .exact cn1 c _
theorem da {c:Ctx}{e:eo}{ea:dn}(h:cf c e ea)(x:Operand):VRel c (ev e x) (ea.ev x):=by
 cases x with
 |tmp t=>exact h t
 |const v=>exact dg4 c v
 |global _=>exact .undef _
 |func f=>exact .fn .nil .nil
theorem bl3 {c:Ctx}{e:eo}{ea:dn}(h:cf c e ea)(xs:List Operand):F2 (VRel c) (xs.map (ev e)) (xs.map ea.ev):=by
 induction xs with
 |nil=>exact .nil
 |cons x xs ih=>exact .cons (da h x) ih
theorem ce {β:Type}{b:Bool}{x:Option β}{y:β}(h:gd b x=C y):b=Za/\x=C y:=by
 cases b with
 |false=>cases h
 |true=>exact⟨rfl,h⟩
theorem cn5 {c:Ctx}{v:VV}{a:Value}(h:VRel c v a)(h1:dh4 v=Za):one a=Za:=by
 cases h<;>first|rfl|assumption|(cases h1;done)|(rename_i h;rcases h with rfl|⟨_,_,rfl⟩<;>rfl)
theorem lj {c:Ctx}: ∀{l:List VV} {m:List Value},F2 (VRel c) l m->oA l=Za->m.all one=Za
 |_,_, .nil,_=>rfl
 |_,_, .cons h1 h2,h=>by
  simp only[oA,List.all_cons,aD]at h⊢;exact⟨cn5 h1 h.1,lj h2 h.2⟩
theorem aB0 : ∀(s:Sh) (x:El s),oA (et s x)=Za
 | .int _,_=>rfl
 | .bool,_=>rfl
 | .str,_=>rfl
 | .list _,_=>rfl
 | .pair a b,x=>by
  have h1:=aB0 a x.1;have h2:=aB0 b x.2;simp only[oA,et,cD,aD]at*;exact⟨h1,h2⟩
theorem rU (s:Sh)(l:List (El s)):oA (gu s l)=Za:=by
 induction l with
 |nil=>rfl
 |cons x l ih=>
  have h1:=aB0 s x;rw[iq];simp only[oA,cD,aD]at*;exact⟨h1,ih⟩
theorem aX9 {c:Ctx}{v:VV}{a:Value}(h:VRel c v a)(hv:oA (mW v)=Za):F2 (VRel c) (mW v) (cellsOf a):=by
 have hone:one a=Za->cellsOf a=[a]:=λh=>by cases a<;>first|rfl|(cases h;done)
 cases v with
 |agg l=>
  cases h with
  |agg h=>exact h
 |undef=>cases hv
 |tup l=>cases hv
 |_=>
  rw[hone (cn5 h rfl)];exact .cons h .nil
theorem dj {T:gz}{op:AOp}{e:dn}{Y Y':Hp}{v:Value}{K:Value->Hp->Prop}(h:op.run e Y=C (v,Y'))(hk:K v Y'):cz T op e Y K:=by
 unfold cz;split
 .cases h
 .cases h
 .rw[h];exact hk
theorem vR {α:Type}: ∀(l:List α) (i:Nat),nth l i=l[i]?
 |[],_=>rfl
 |_::_,0=>rfl
 |_::l,i+1=>by
  rw[show nth (_::l) (i+1)=nth l i from rfl,vR l i];rfl
theorem F2.nth {c:Ctx}{l:List VV}{m:List Value}(h:F2 (VRel c) l m){i:Nat}{v:VV}(hv:nth l i=C v): ∃a,m[i]?=C a/\VRel c v a:=by
 rw[vR]at hv;exact h.get i v hv
theorem aZ1 {k:IntKind}: ∀{cs:List VV} {l:Zd},bu6 k cs=C l->cs=l.map (.int k)
 |[],l,h=>by cases h;rfl
 |v::r,l,h=>by
  cases v<;>simp only[bu6]at h<;>try(cases h;done)
  rename_i k' n;cases hk:Zc (k'=k)with
  |false=>rw[hk]at h;cases h
  |true=>
   rw[hk,zC]at h;cases h1:bu6 k r with
   |none=>rw[h1]at h;cases h
   |some m=>
    rw[h1]at h;injection h with h
    subst h;rw[aZ1 h1,of_decide_eq_true hk];rfl
theorem br9 : ∀{cs:List VV} {l:List Bool},br8 cs=C l->cs=l.map .bool
 |[],l,h=>by cases h;rfl
 |v::r,l,h=>by
  cases v<;>simp only[br8]at h<;>try(cases h;done)
  cases h1:br8 r with
  |none=>rw[h1]at h;cases h
  |some m=>
   rw[h1]at h;injection h with h
   subst h;rw[br9 h1];rfl
theorem bM7 : ∀{cs:List VV} {l:List (Zd)},cr1 cs=C l->cs=l.map .str
 |[],l,h=>by cases h;rfl
 |v::r,l,h=>by
  cases v<;>simp only[cr1]at h<;>try(cases h;done)
  cases h1:cr1 r with
  |none=>rw[h1]at h;cases h
  |some m=>
   rw[h1]at h;injection h with h
   subst h;rw[bM7 h1];rfl
theorem cn9 {β:Type}{S:bz}{k:VV->bz->Option β}{y:β}: ∀{cs:List VV} {i:Nat},cE9 S k cs i=C y->∃v,cs[i]?=C v/\k v S=C y
 |[],_,h=>by cases h
 |v::r,i,h=>by
  simp only[cE9]at h;cases hi:Nat.beq i 0 with
  |true=>
   rw[hi]at h;have:=Nat.eq_of_beq_eq_true hi;subst this;exact⟨v,rfl,h⟩
  |false=>
   rw[hi]at h;obtain⟨w,h1,h2⟩:=cn9 h;have:i≠0:=λe=>by subst e;cases hi
   obtain⟨j,rfl⟩:=Nat.exists_eq_succ_of_ne_zero this;exact⟨w,h1,h2⟩
theorem cj2 {β:Type}{S:bz}{k:VV->bz->Option β}{y:β}{cs:List VV}{i:Nat}(hi:i<cs.length)(h:cj1 cs i S k=C y): ∃v,cs[i]?=C v/\k v S=C y:=by
 unfold cj1 at h;split at h
 .rename_i kd n r;split at h
  .rename_i l hl;have:=aZ1 hl;subst this;refine⟨_, ?_,h⟩;rw[show(VV.int kd n::l.map (VV.int kd))=(n::l).map (VV.int kd)from rfl,bD];have hi':i<(n::l).length:=by simpa using hi
   rw[aB hi',bB,aB hi'];rfl
  .cases h
 .rename_i b r;split at h
  .rename_i l hl;have:=br9 hl;subst this;refine⟨_, ?_,h⟩;rw[show(VV.bool b::l.map VV.bool)=(b::l).map VV.bool from rfl,bD];have hi':i<(b::l).length:=by simpa using hi
   rw[aB hi',bB,aB hi'];rfl
  .cases h
 .rename_i b r;split at h
  .rename_i l hl;have:=bM7 hl;subst this;refine⟨_, ?_,h⟩;rw[show(VV.str b::l.map VV.str)=(b::l).map VV.str from rfl,bD];have hi':i<(b::l).length:=by simpa using hi
   rw[aB hi',bB,aB hi'];rfl
  .cases h
 .exact cn9 h
theorem ga.block {c:Ctx}(hR:ga c){k b:Nat}{d:Nat×Nat}(hd:(bu c.S k).dim=C d)(hm:c.Z k=C b):
  ∃y cs rest,c.Y.m b=C y/\y.es=d.1/\((bu c.S k).frozen=Zb->y.own=Za)/\y.cells=cs++rest/\F2 (VRel c) (bu c.S k).vals cs:=by
 obtain⟨_,h⟩:=hR.blk k d hd;rcases h with⟨_,h⟩|⟨b',y,cs,rest,h,h'⟩
 .rw[h]at hm;cases hm
 .rw[hm]at h;injection h with h
  subst h;exact⟨y,cs,rest,h'⟩
def ua (c:Ctx)(cs:List VV)(b p:Nat):Prop:= ∃y,c.Y.m b=C y/\p+cs.length<=y.cells.length/\F2 (VRel c) cs ((y.cells.drop p).take cs.length)
theorem ua.get {c:Ctx}{cs:List VV}{b p:Nat}(h:ua c cs b p){o:Nat}{v:VV}(hv:nth cs o=C v): ∃y a,c.Y.m b=C y/\y.cells[p+o]?=C a/\VRel c v a:=by
 obtain⟨y,h1,h2,h3⟩:=h;obtain⟨a,h4,h5⟩:=F2.nth h3 hv;refine⟨y,a,h1, ?_,h5⟩;rw[vR]at hv
 have ho:o<cs.length:=by
  rcases Nat.lt_or_ge o cs.length with h|h
  .exact h
  .rw[dB h]at hv;cases hv
 rwa [List.getElem?_take,zE ho,List.getElem?_drop]at h4
theorem ua.read {c:Ctx}{cs:List VV}{b p:Nat}(h:ua c cs b p){o n:Nat}(hn:o+n<=cs.length): ∃y as,c.Y.m b=C y/\pm y (p+o) n=C as/\F2 (VRel c) ((cs.drop o).take n) as:=by
 obtain⟨y,h1,h2,h3⟩:=h;refine⟨y,(y.cells.drop (p+o)).take n,h1,zE (by omega), ?_⟩;have h4:=(h3.drop o).take n;rw[List.drop_take,List.drop_drop,List.take_take,Nat.min_eq_left (by omega)]at h4;exact h4
theorem ga.stands {c:Ctx}(hR:ga c){k b:Nat}{d:Nat×Nat}(hd:(bu c.S k).dim=C d)(hm:c.Z k=C b):ua c (bu c.S k).vals b 0:=by
 obtain⟨y,cs,rest,h1,_,_,h2,h3⟩:=hR.block hd hm;have hl:=h3.length;refine⟨y,h1,by rw[h2,List.length_append];omega, ?_⟩;rw[List.drop_zero,h2,List.take_append_of_le_length (by omega),List.take_of_length_le (by omega)];exact h3
theorem ua.part {c:Ctx}{cs:List VV}{b p:Nat}(h:ua c cs b p){o n:Nat}(hn:o+n<=cs.length):ua c ((cs.drop o).take n) b (p+o):=by
 obtain⟨y,h1,h2,h3⟩:=h;have hl:((cs.drop o).take n).length=n:=by rw[eB,dD];omega
 refine⟨y,h1,by rw[hl];omega, ?_⟩;have h4:=(h3.drop o).take n;rw[List.drop_take,List.drop_drop,List.take_take,Nat.min_eq_left (by omega)]at h4
 rwa [hl]
theorem co6 {β:Type}{c:Ctx}(hR:ga c){n:Nat}{agg:Bool}{v:VV}{a:Value}{k:VV->bz->Option β}{y:β}(h:bM0 c.S n agg v k=C y)(hv:VRel c v a):
  ∃b o x,a= .pointer (C ⟨b,o,O⟩)/\c.Y.m b=C x/\
   (agg=Zb->∃u w,x.cells[o]?=C u/\VRel c w u/\k w c.S=C y)/\
   (agg=Za->∃us ws,pm x o n=C us/\F2 (VRel c) ws us/\k (.agg ws) c.S=C y):=by
 have out: ∀(cs:List VV) (b p o:Nat),ua c cs b p->a= .pointer (C ⟨b,p+o,O⟩)->
   cond agg (gd (Nat.ble (o+n) cs.length) (k (.agg ((cs.drop o).take n)) c.S)) (match nth cs o with
    |some v=>k v c.S
    |none=>O)=C y->
   ∃b o x,a= .pointer (C ⟨b,o,O⟩)/\c.Y.m b=C x/\
   (agg=Zb->∃u w,x.cells[o]?=C u/\VRel c w u/\k w c.S=C y)/\
   (agg=Za->∃us ws,pm x o n=C us/\F2 (VRel c) ws us/\k (.agg ws) c.S=C y):=by
  intro cs b p o hs ha h;cases agg with
  |true=>
   obtain⟨h1,h2⟩:=ce h;obtain⟨x,as,h3,h4,h5⟩:=hs.read (eD h1);exact⟨b,p+o,x,ha,h3,(by intro h;cases h),λ_=>⟨as,_,h4,h5,h2⟩⟩
  |false=>
   rw[zD]at h;split at h
   .rename_i w hw;obtain⟨x,u,h3,h4,h5⟩:=hs.get hw;exact⟨b,p+o,x,ha,h3,(λ_=>⟨u,w,h4,h5,h⟩),(by intro h;cases h)⟩
   .cases h
 unfold bM0 at h;cases v with
 |ptr q o=>
  simp only at h;cases hb:bu c.S q with
  |dead=>rw[hb]at h;cases h
  |arr s z l=>rw[hb]at h;cases h
  |cells es z l=>
   rw[hb]at h;cases hv with
   |ptr hk _ hd=>
    obtain⟨b,hm,ha⟩:=hd (es,l.length) (by rw[hb];rfl);have hs:=hR.stands (k:=q) (d:=(es,l.length)) (by rw[hb];rfl) hm;rw[hb]at hs;exact out l b 0 o hs (by rw[ha,cB]) h
 |pix q o m i=>
  simp only at h;cases hb:bu c.S q with
  |dead=>rw[hb]at h;cases h
  |arr s z l=>rw[hb]at h;cases h
  |cells es z l=>
   rw[hb]at h;obtain⟨h1,h2⟩:=ce h;rw[aD]at h1;have h3:=eD h1.2;have hagg:agg=Zb:=by simpa using h1.1
   subst hagg;cases hv with
   |pix hk _ hi hd=>
    obtain⟨b,hm,ha⟩:=hd (es,l.length) (by rw[hb];rfl);have hs:=hR.stands (k:=q) (d:=(es,l.length)) (by rw[hb];rfl) hm;rw[hb]at hs;have hlen:((l.drop o).take m).length=m:=by rw[eB,dD];omega
    obtain⟨w,h4,h5⟩:=cj2 (by omega) h2;have hs':ua c ((l.drop o).take m) b (0+o):=ua.part (cs:=l) hs h3;rw[<-vR]at h4;obtain⟨x,u,h6,h7,h8⟩:=hs'.get h4;exact⟨b,o+i,x,ha,h6,(λ_=>⟨u,w,by rwa [cB]at h7,h8,h5⟩),(by intro h;cases h)⟩
 |pel q i o=>
  simp only at h;cases hb:bu c.S q with
  |dead=>rw[hb]at h;cases h
  |cells es z l=>rw[hb]at h;cases h
  |arr s z l=>
   rw[hb]at h;simp only at h;cases hx:l[i]? with
   |none=>rw[hx]at h;cases h
   |some x=>
    rw[hx]at h;cases hv with
    |pel hk _ hd=>
     obtain⟨b,hm,ha⟩:=hd (s.w,l.length*s.w) (by rw[hb];rfl);have hs:=hR.stands (k:=q) (d:=(s.w,l.length*s.w)) (by rw[hb];rfl) hm;rw[hb]at hs
     have hi:i<l.length:=by
      rcases Nat.lt_or_ge i l.length with h|h
      .exact h
      .rw[dB h]at hx;cases hx
     have hle:i*s.w+s.w<=(gu s l).length:=by
      rw[iw,<-Nat.succ_mul];exact Nat.mul_le_mul_right _ hi
     have hs':ua c (((gu s l).drop (i*s.w)).take s.w) b (0+i*s.w):=ua.part (cs:=gu s l) hs hle;rw[aY7 hx,cB]at hs';exact out (et s x) b (i*s.w) o hs' ha h
 |pin s x o=>
  simp only at h;cases hv with
  |pin hn hy hl hf=>
   exact out (et s x) _ _ o ⟨_,hy,by rw[fc];exact hl,by rw[fc];exact hf⟩ rfl h
 |_=>cases h
end
section
open Nat renaming lt_of_lt_of_le -> aB
theorem bm3.frame {c c':Ctx}(hl:Le c c'){k:Nat}(h:bm3 c k)(hS:bu c'.S k=bu c.S k)(hZ:(bu c.S k).dim≠O->c'.Z k=c.Z k)(hY: ∀b y,(bu c.S k).dim≠O->c.Z k=C b->c.Y.m b=C y->c'.Y.m b=C y):bm3 c' k:=by
 intro d hd;rw[hS]at hd;obtain⟨h1,h2⟩:=h d hd;have hm:=hZ (by rw[hd];simp);refine⟨h1, ?_⟩;rcases h2 with⟨h3,h4⟩|⟨b,y,cs,rest,h3,h4,h5,h6,h7,h8⟩
 .exact .inl ⟨h3,hm.trans h4⟩
 .exact .inr ⟨b,y,cs,rest,hm.trans h3,hY b y (by rw[hd];simp) h3 h4,h5,by rw[hS];exact h6,h7,by rw[hS];exact VRel.frames hl h8⟩
def tI (S S':bz):Prop:=S'.length=S.length/\∀k,bu S' k=bu S k∨bu S' k=(bu S k).freeze
theorem tI.refl (S:bz):tI S S:=⟨rfl,λ_=> .inl rfl⟩
theorem bH8 {b:Blk}:b.freeze.freeze=b.freeze:=by cases b<;>rfl
theorem tI.trans {a b c:bz}(h:tI a b)(k:tI b c):tI a c:=by
 refine⟨k.1.trans h.1,λi=> ?_⟩;rcases h.2 i with h1|h1<;>rcases k.2 i with h2|h2
 .exact .inl (h2.trans h1)
 .exact .inr (by rw[h2,h1])
 .exact .inr (h2.trans h1)
 .exact .inr (by rw[h2,h1,bH8])
theorem tI.put {S:bz}{k:Nat}:tI S (lH S k (bu S k).freeze):=by
 refine⟨aA7,λi=> ?_⟩;rw[xF];split
 .rename_i h;rw[h.1];exact .inr rfl
 .exact .inl rfl
theorem tI.fold {f:bz->VV->bz}(hf: ∀S v,tI S (f S v)): ∀(l:List VV) (S:bz),tI S (l.foldl f S)
 |[],S=>tI.refl S
 |v::l,S=>(hf S v).trans (tI.fold hf l _)
theorem cD0 : ∀(n:Nat) (S:bz) (v:VV),tI S (fzv n S v)
 |0,S,_=>tI.refl S
 |n+1,S,v=>by
  have key: ∀k,tI S (match bu S k with
    | .cells es _ l=>l.foldl (fzv n) (lH S k (.cells es Za l))
    |b=>lH S k b.freeze):=by
   intro k;have hp:=tI.put (S:=S) (k:=k);split
   .rename_i es z l h;rw[h]at hp;exact tI.trans hp (tI.fold (cD0 n) l _)
   .exact hp
  unfold fzv;split
  .exact key _
  .exact key _
  .exact tI.refl S
theorem aD2 (S:bz)(l:List VV):tI S (fzL S l):=tI.fold (cD0 3) l S
theorem cS7 (S:bz)(v:VV):tI S (dr1 S v):=by
 unfold dr1;split
 .split
  .exact aD2 S _
  .exact tI.refl S
 .split
  .exact aD2 S _
  .exact tI.refl S
 .exact tI.refl S
theorem cJ7 (k:Sk)(v:VV)(S:bz):tI S (cS6 k v S):=by
 unfold cS6;split
 .exact cS7 S v
 .exact tI.refl S
theorem bu3 : ∀(l:List Sk) (vs:List VV) (S:bz),tI S (ay6 l vs S)
 |[],_,S=>tI.refl S
 |_::_,[],S=>tI.refl S
 |k::r,v::vs,S=>(cJ7 k v S).trans (bu3 r vs _)
theorem ue : ∀(l:List Nat) (S:bz),tI S (ap0 l S)
 |[],S=>tI.refl S
 |_::l,S=>tI.put.trans (ue l _)
theorem tI.dim {S S':bz}(h:tI S S')(k:Nat):(bu S' k).dim=(bu S k).dim:=by
 rcases h.2 k with h|h<;>rw[h]
 exact gp
theorem tI.vals {S S':bz}(h:tI S S')(k:Nat):(bu S' k).vals=(bu S k).vals:=by
 rcases h.2 k with h|h<;>rw[h]
 exact bg6
theorem tI.fz {S S':bz}(h:tI S S'){k:Nat}(hz:(bu S' k).frozen=Zb):bu S' k=bu S k:=by
 rcases h.2 k with h|h
 .exact h
 .rw[h,mY]at hz;cases hz
theorem tI.le {c:Ctx}{S':bz}(h:tI c.S S'):Le c ⟨c.Z,S',c.Y,c.fb⟩:=by
 refine⟨Nat.le_of_eq h.1.symm,λk d _ hd=>⟨(h.dim k)▸hd,rfl⟩,λk hk _=> ?_,λ_ _ _ y _ _ _ hy=>⟨y,hy,rfl⟩,λb y hy _=>hy,λb y hy hn=> ?_,Nat.le_refl _,rfl⟩
 .rcases h.2 k with h|h
  .exact h
  .exact h.trans (af1 hk)
 .rintro⟨k,h1,h2⟩;exact hn ⟨k,by rw[<-h.fz h1];exact h1,h2⟩
theorem tI.rel {c:Ctx}(hR:ga c){S':bz}(h:tI c.S S'):ga ⟨c.Z,S',c.Y,c.fb⟩:=by
 refine⟨hR.ok,λk k' b hk hk' hm hm'=>hR.inj k k' b (by rw[<-h.fz hk];exact hk) (by rw[<-h.dim];exact hk') hm hm',λk d hd=> ?_,λk b hk hm=>hR.fbk k b (by rw[<-h.dim];exact hk) hm,hR.fbl⟩;have hd':(bu c.S k).dim=C d:=(h.dim k)▸hd;obtain⟨h1,h2⟩:=hR.blk k d hd';refine⟨h1, ?_⟩;rcases h2 with h2|⟨b,y,cs,rest,h3,h4,h5,h6,h7,h8⟩
 .exact .inl h2
 .exact .inr ⟨b,y,cs,rest,h3,h4,h5,λhz=>h6 (by rw[<-h.fz hz];exact hz),h7,by rw[h.vals k];exact VRel.frames h.le h8⟩
theorem tI.calm {c:Ctx}{S':bz}(d:List Nat)(h:tI c.S S'):uG d c ⟨c.Z,S',c.Y,c.fb⟩:=λk _ _ hk=>⟨by rw[h.dim];exact hk,λ_ _=>rfl⟩
theorem uG.trans {a b c:Ctx}{d:List Nat}(h:uG d a b)(k:uG d b c)(hl:Le a b):uG d a c:=by
 intro i hi hd hn;obtain⟨h1,h2⟩:=h i hi hd hn;obtain⟨h3,h4⟩:=k i (aB hi hl.len) hd h1;refine⟨h3,λx hx=> ?_⟩
 have hx':b.Z i=C x:=by
  cases hb:(bu b.S i).dim with
  |none=>exact(h1 hb).elim
  |some z=>exact(hl.al i z hi hb).2.trans hx
 exact(h4 x hx').trans (h2 x hx)
def cB4 (c:Ctx)(kill:Option Nat)(b:Nat):Prop:= ∃k,kill=C k/\c.Z k=C b
def wy (c:Ctx)(b1:Option Nat):Nat->Option Nat:=λi=>if i=c.S.length then b1 else c.Z i
theorem xD {S:bz}{kill:Option Nat}:(qI S kill).length=S.length:=by cases kill<;>simp[qI,aA7]
theorem cK2 {S:bz}{kill:Option Nat}{i:Nat}:bu (qI S kill) i=if kill=C i then .dead else bu S i:=by
 cases kill with
 |none=>simp[qI]
 |some k=>
  simp only[qI,xF,Option.some.injEq];by_cases h:i=k
  .subst h;by_cases h1:i<S.length
   .simp[h1]
   .simp[h1,vw (Nat.le_of_not_lt h1)]
  .simp[h,Ne.symm h]
structure Moves (c:Ctx)(kill:Option Nat)(b1:Option Nat)(blk:Blk)(Y':Hp):Prop where
 fr: ∀b,b1=C b->(∀z,c.Y.m b≠C z)->¬c.fb b
 kz: ∀k,kill=C k->(bu c.S k).frozen=Zb
 ok:Y'.Ok
 n:c.Y.n<=Y'.n
 old: ∀i y,c.Y.m i=C y->¬cB4 c kill i->Y'.m i=C y
 one: ∃d,blk.dim=C d/\1<=d.1/\((b1=O/\d.2=0)∨∃b y cs rest,b1=C b/\Y'.m b=C y/\y.es=d.1/\(blk.frozen=Zb->y.own=Za)/\y.cells=cs++rest/\F2 (VRel c) blk.vals cs/\((∀z,c.Y.m b≠C z)∨cB4 c kill b))
section
variable {c:Ctx} {kill b1:Option Nat} {blk:Blk} {Y':Hp}
theorem kR (i:Nat):bu (qI c.S kill++[blk]) i=if i=c.S.length then blk else if kill=C i then .dead else bu c.S i:=by
 by_cases h:i=c.S.length
 .subst h;rw[zE rfl,<-xD (S:=c.S) (kill:=kill),cq6]
 .rw[zF h];by_cases h1:i<c.S.length
  .rw[na (by rw[xD];exact h1),cK2]
  .have h2:c.S.length<i:=by omega
   rw[vw (by rw[List.length_append,xD];simp;omega),vw (k:=i) (S:=c.S) (by omega)];split<;>rfl
theorem Moves.low (hR:ga c)(h:Moves c kill b1 blk Y'){i b:Nat}(_:i≠c.S.length)(hk:kill≠C i)(hd:(bu c.S i).dim≠O)(hm:c.Z i=C b): ¬cB4 c kill b:=by
 rintro⟨k,rfl,h1⟩;exact hk (congrArg C (hR.inj k i b (h.kz k rfl) hd h1 hm))
theorem Moves.le (hR:ga c)(h:Moves c kill b1 blk Y'):Le c ⟨wy c b1,qI c.S kill++[blk],Y',c.fb⟩:=by
 have hlt: ∀k,k<c.S.length->k≠c.S.length:=λk hk=>by omega
 refine⟨by simp[xD],λk d hk hd=> ?_,λk hz hd=> ?_,λk d b y hk hd hm hy=> ?_,λb y hy hn=>h.old b y hy λ⟨k,e,hm⟩=>hn ⟨k,h.kz k e,hm⟩,λb y hy hn=> ?_,h.n,rfl⟩
 .simp only[kR,zF (hlt k hk)]at hd;split at hd
  .cases hd
  .exact⟨hd,zF (hlt k hk)⟩
 .have hk:=mJ hd;simp only[kR,zF (hlt k hk)];rw[zF];intro e;have:=h.kz k e;rw[hz]at this;cases this
 .simp only[kR,zF (hlt k hk)]at hd;split at hd
  .cases hd
  .rename_i hne;exact⟨y,h.old b y hy (h.low hR (hlt k hk) hne (by rw[hd];simp) hm),rfl⟩
 .have hnk: ¬cB4 c kill b:=λ⟨k,e,hm⟩=>hn ⟨k,h.kz k e,hm⟩
  rintro⟨k,h1,h2⟩;simp only[kR]at h1;simp only[wy]at h2;by_cases hk:k=c.S.length
  .rw[zE hk]at h1 h2;obtain⟨d,_,_,h3⟩:=h.one;rcases h3 with⟨h3,_⟩|⟨b',y',cs,rest,h3,_,_,_,_,_,h4⟩
   .rw[h3]at h2;cases h2
   .rw[h3]at h2;injection h2 with h2
    subst h2;rcases h4 with h4|h4
    .exact h4 y hy
    .exact hnk h4
  .rw[zF hk]at h1 h2;split at h1
   .cases h1
   .exact hn ⟨k,h1,h2⟩
theorem Moves.rel (hR:ga c)(h:Moves c kill b1 blk Y'):ga ⟨wy c b1,qI c.S kill++[blk],Y',c.fb⟩:=by
 have hle:=h.le hR
 have hnew: ∀i b,i≠c.S.length->kill≠C i->(bu c.S i).dim≠O->c.Z i=C b->b1≠C b:=by
  intro i b hi hk hd hm e;obtain⟨d,_,_,h3⟩:=h.one;rcases h3 with⟨h3,_⟩|⟨b',y',cs,rest,h3,_,_,_,_,_,h4⟩
  .rw[h3]at e;cases e
  .rw[h3]at e;injection e with e
   subst e;rcases h4 with h4|h4
   .cases hdd:(bu c.S i).dim with
    |none=>exact hd hdd
    |some dd=>
     obtain⟨y,_,_,hy,_⟩:=hR.block hdd hm;exact h4 y hy
   .exact h.low hR hi hk hd hm h4
 have hfb: ∀b,c.fb b->b1≠C b:=by
  intro b hb e;obtain⟨d,_,_,h3⟩:=h.one;rcases h3 with⟨h3,_⟩|⟨b',y',cs,rest,h3,_,_,_,_,_,h4⟩
  .rw[h3]at e;cases e
  .rw[h3]at e;injection e with e
   subst e;rcases h4 with h4|⟨k,h4,h5⟩
   .exact h.fr _ h3 h4 hb
   .exact hR.fbk k _ (mB (h.kz k h4)) h5 hb
 refine⟨h.ok,λk k' b hk hk' hm hm'=> ?_,λk=> ?_,λk b hk hm hb=> ?_,λb hb=>aB (hR.fbl b hb) h.n⟩
 rotate_left 2
 .simp only[kR]at hk;simp only[wy]at hm;by_cases h1:k=c.S.length
  .rw[zE h1]at hm;exact hfb b hb hm
  .rw[zF h1]at hm hk;split at hk
   .exact hk rfl
   .exact hR.fbk k b hk hm hb
 .simp only[kR]at hk hk';simp only[wy]at hm hm';by_cases h1:k=c.S.length<;>by_cases h2:k'=c.S.length
  .omega
  .rw[zE h1]at hm;rw[zF h2]at hm' hk';split at hk'
   .exact(hk' rfl).elim
   .rename_i hne;exact(hnew k' b h2 hne hk' hm' hm).elim
  .rw[zF h1]at hm hk;rw[zE h2]at hm';split at hk
   .cases hk
   .rename_i hne;exact(hnew k b h1 hne (mB hk) hm hm').elim
  .rw[zF h1]at hm hk;rw[zF h2]at hm' hk';split at hk
   .cases hk
   .split at hk'
    .exact(hk' rfl).elim
    .exact hR.inj k k' b hk hk' hm hm'
 .by_cases hk:k=c.S.length
  .subst hk;intro d hd;simp only[kR,if_true]at hd⊢;obtain⟨d',h1,h2,h3⟩:=h.one;rw[hd]at h1;injection h1 with h1
   subst h1;refine⟨h2, ?_⟩;simp only[wy,if_true];rcases h3 with⟨h3,h4⟩|⟨b',y',cs,rest,h3,h4,h5,h6,h7,h8,_⟩
   .exact .inl ⟨h4,h3⟩
   .exact .inr ⟨b',y',cs,rest,h3,h4,h5,h6,h7,VRel.frames hle h8⟩
  .by_cases hne:kill=C k
   .intro d hd;simp only[kR,zF hk,zE hne]at hd;cases hd
   .refine(hR.blk k).frame hle ?_ (λ_=>zF hk) λb y hd hm hy=> ?_
    .simp only[kR,zF hk,zF hne]
    .exact h.old b y hy (h.low hR hk hne hd hm)
theorem Moves.calm (hR:ga c)(h:Moves c kill b1 blk Y'){d:List Nat}(hd: ∀k,kill=C k->k∈d):uG d c ⟨wy c b1,qI c.S kill++[blk],Y',c.fb⟩:=by
 intro k hk hn hdim;have h1:k≠c.S.length:=by omega
 have h2:kill≠C k:=λe=>hn (hd k e)
 simp only[kR,zF h1,zF h2];refine⟨hdim,λb hm=> ?_⟩;cases hdd:(bu c.S k).dim with
 |none=>exact(hdim hdd).elim
 |some dd=>
  obtain⟨y,_,_,hy,_⟩:=hR.block hdd hm;rw[hy];exact h.old b y hy (h.low hR h1 h2 hdim hm)
end
theorem cH2 {c:Ctx}(hR:ga c){blk:Blk}{x:Ab.Blk}{d:Nat×Nat}(hd:blk.dim=C d)(h1:1<=d.1)(he:x.es=d.1)(ho:x.own=Za)(hf:F2 (VRel c) blk.vals x.cells):
  Moves c O (C c.Y.n) blk (c.Y.add x):=by
 refine⟨(λb h _ hb=>by injection h with h;subst h;exact Nat.lt_irrefl _ (hR.fbl _ hb)),(λ_ h=>by cases h),λb y hy=> ?_,Nat.le_succ _,λi y hy _=> ?_,d,hd,h1, .inr ⟨c.Y.n,x,x.cells,[],rfl,zE rfl,he,λ_=>ho,by simp,hf, .inl λz hz=> ?_⟩⟩
 .simp only[Hp.add]at hy⊢;split at hy
  .omega
  .have:=hR.ok b y hy;omega
 .have:=hR.ok i y hy;simp only[Hp.add];rw[zF (by omega)];exact hy
 .have:=hR.ok _ _ hz;omega
structure Writes (c:Ctx)(k b:Nat)(blk:Blk)(y':Ab.Blk):Prop where
 kz:(bu c.S k).frozen=Zb
 mu:c.Z k=C b
 dim:blk.dim=(bu c.S k).dim
 fz:blk.frozen=Zb
 one: ∃y cs rest d,c.Y.m b=C y/\(bu c.S k).dim=C d/\y'.es=d.1/\y'.own=Za/\y'.cells.length=y.cells.length/\y'.cells=cs++rest/\F2 (VRel c) blk.vals cs
section
variable {c:Ctx} {k b:Nat} {blk:Blk} {y':Ab.Blk}
theorem Writes.get (h:Writes c k b blk y')(i:Nat):bu (lH c.S k blk) i=if i=k then blk else bu c.S i:=by
 rw[xF];have:=mJ (mB h.kz);by_cases hi:i=k
 .rw[zE ⟨hi,this⟩,zE hi]
 .rw[zF (λe=>hi e.1),zF hi]
theorem Writes.low (hR:ga c)(h:Writes c k b blk y'){i b':Nat}(hi:i≠k)(hd:(bu c.S i).dim≠O)(hm:c.Z i=C b'):b'≠b:=by
 rintro rfl;exact hi (hR.inj k i b' h.kz hd h.mu hm).symm
theorem Writes.le (hR:ga c)(h:Writes c k b blk y'):Le c ⟨c.Z,lH c.S k blk,c.Y.set b (C y'),c.fb⟩:=by
 refine⟨by simp[aA7],λi d _ hd=> ?_,λi hz hd=> ?_,λi d x y _ hd hm hy=> ?_,λx y hy hn=> ?_,λx y hy hn=> ?_,Nat.le_refl _,rfl⟩
 .simp only[h.get]at hd;split at hd
  .rename_i e;subst e;exact⟨h.dim▸hd,rfl⟩
  .exact⟨hd,rfl⟩
 .simp only[h.get];rw[zF];rintro rfl;rw[h.kz]at hz;cases hz
 .by_cases e:x=b
  .subst e;obtain⟨y0,_,_,_,h1,_,_,_,h2,_⟩:=h.one;rw[hy]at h1;injection h1 with h1
   subst h1;exact⟨y',by simp[Hp.set],h2⟩
  .exact⟨y,by simp[Hp.set,e,hy],rfl⟩
 .have hne:x≠b:=by rintro rfl;exact hn ⟨k,h.kz,h.mu⟩
  simp[Hp.set,hne,hy]
 .rintro⟨i,h1,h2⟩;simp only[h.get]at h1;split at h1
  .rename_i e;subst e;exact hn ⟨i,h.kz,h2⟩
  .exact hn ⟨i,h1,h2⟩
theorem Writes.rel (hR:ga c)(h:Writes c k b blk y'):ga ⟨c.Z,lH c.S k blk,c.Y.set b (C y'),c.fb⟩:=by
 have hle:=h.le hR
 have hfz: ∀i,(bu (lH c.S k blk) i).frozen=Zb->(bu c.S i).frozen=Zb:=by
  intro i hi;rw[h.get]at hi;split at hi
  .rename_i e;subst e;exact h.kz
  .exact hi
 have hdm: ∀i,(bu (lH c.S k blk) i).dim=(bu c.S i).dim:=by
  intro i;rw[h.get];split
  .rename_i e;subst e;exact h.dim
  .rfl
 refine⟨λx z hz=> ?_,λi j x hi hj hm hm'=>hR.inj i j x (hfz i hi) (by rw[<-hdm];exact hj) hm hm',λi=> ?_,λi x hi hm=>hR.fbk i x (by rw[<-hdm];exact hi) hm,hR.fbl⟩
 .simp only[Hp.set]at hz;split at hz
  .rename_i e;subst e;obtain⟨y,_,_,_,h1,_⟩:=h.one;exact hR.ok _ _ h1
  .exact hR.ok _ _ hz
 .by_cases e:i=k
  .subst e;intro d hd;obtain⟨y,cs,rest,d',h1,h2,h3,h4,h5,h6,h7⟩:=h.one;have hd':(bu c.S i).dim=C d:=by rw[<-hdm];exact hd
   rw[hd']at h2;injection h2 with h2
   subst h2;refine⟨(hR.blk i d hd').1, .inr ⟨b,y',cs,rest,h.mu,by simp[Hp.set],h3,λ_=>h4,h6, ?_⟩⟩;simp only[h.get,if_true];exact VRel.frames hle h7
  .refine(hR.blk i).frame hle (by simp only[h.get,zF e]) (λ_=>rfl) λx z hd hm hz=> ?_
   have:=h.low hR e hd hm;simp[Hp.set,this,hz]
theorem Writes.calm (hR:ga c)(h:Writes c k b blk y'){d:List Nat}(hd:k∈d):uG d c ⟨c.Z,lH c.S k blk,c.Y.set b (C y'),c.fb⟩:=by
 intro i _ hn hdim;have hne:i≠k:=by rintro rfl;exact hn hd
 simp only[h.get,zF hne];refine⟨hdim,λx hm=> ?_⟩;have:=h.low hR hne hdim hm;simp[Hp.set,this]
end
end
section
open Bool renaming and_eq_true -> aB
open List renaming replicate -> bD, nil_append -> dD, append_assoc -> eD, drop_append -> fB, drop_of_length_le -> fD, length_append -> gB, length_cons -> gD, length_take -> gO, replicate_succ -> gP, take_append_drop -> gQ
open Nat renaming beq -> aD, le_of_ble_eq_true -> bB, eq_of_beq_eq_true -> cB, ble -> cD, le_refl -> dB, zero_add -> eB
section
variable {β:Type} {T:gz} {c:Ctx} {e:eo} {ea:dn} {k:VV->bz->Option β} {y:β} {d:List Nat}
theorem VRel.bool_inv {b:Bool}{a:Value}(h:VRel c (.bool b) a):a= .bool b:=by cases h;rfl
theorem VRel.int_inv {kd:IntKind}{n:Int}{a:Value}(h:VRel c (.int kd n) a):a= .int kd n:=by cases h;rfl
theorem VRel.str_inv {l:Zd}{a:Value}(h:VRel c (.str l) a): ∃s,a= .string s/\jN s=l:=by cases h;exact⟨_,rfl,by assumption⟩
theorem VRel.agg_inv {l:List VV}{a:Value}(h:VRel c (.agg l) a): ∃as:Array Value,a= .agg as/\F2 (VRel c) l as.toList:=by cases h;exact⟨_,rfl,by assumption⟩
theorem VRel.tup_inv {l:List VV}{a:Value}(h:VRel c (.tup l) a): ∃as:Array Value,a= .tuple as/\F2 (VRel c) l as.toList:=by cases h;exact⟨_,rfl,by assumption⟩
theorem cq4 {p:Bool}{x z v:VV}{xa za:Value}(h:cY7 p x z=C v)(hx:VRel c x xa)(hz:VRel c z za):VRel c v (cond p xa za):=by
 unfold cY7 at h;split at h
 .rename_i k1 n1 k2 n2;cases hk:Zc (k1=k2)with
  |false=>rw[hk]at h;cases h
  |true=>
   rw[hk]at h;injection h with h
   subst h;have:=of_decide_eq_true hk;subst this;rw[hx.int_inv,hz.int_inv];cases p<;>exact .int _ _
 .injection h with h
  subst h;rw[hx.bool_inv,hz.bool_inv];cases p<;>exact .bool _
 .injection h with h
  subst h;cases p<;>assumption
 .cases h
theorem df8 (hR:ga c)(he:cf c e ea){x:Operand}(h:k (ev e x) c.S=C y):cz T (.move x) ea c.Y (kg c d k y):=
 dj rfl (kg.same hR (da he x) h)
theorem dh6 (hR:ga c)(he:cf c e ea){t a b:Operand}{p:Bool}(hp:ev e t= .bool p)(h:cW8 p (ev e a) (ev e b) c.S k=C y):cz T (.pick t a b) ea c.Y (kg c d k y):=by
 have ht:=da he t;rw[hp]at ht;have ht:=ht.bool_inv
 have key: ∀v,VRel c v (cond p (ea.ev a) (ea.ev b))->k v c.S=C y->cz T (.pick t a b) ea c.Y (kg c d k y):=by
  intro v hv hk;refine dj (v:=cond p (ea.ev a) (ea.ev b)) (Y':=c.Y) ?_ (kg.same hR hv hk);simp only[AOp.run,ht];cases p<;>rfl
 unfold cW8 at h;split at h
 .rename_i v hs;exact key v (cq4 hs (da he a) (da he b)) h
 .cases p with
  |true=>exact key _ (da he a) h
  |false=>exact key _ (da he b) h
theorem kg.new {v:Value}{vv:VV}{b1:Option Nat}{blk:Blk}{Y':Hp}{kill:Option Nat}(hR:ga c)(h:Moves c kill b1 blk Y')(hd: ∀q,kill=C q->q∈d)(hv:VRel ⟨wy c b1,qI c.S kill++[blk],Y',c.fb⟩ vv v)(hk:k vv (qI c.S kill++[blk])=C y):kg c d k y v Y':=
 ⟨vv,_,rfl,h.le hR,h.rel hR,h.calm hR hd,hv,hk⟩
theorem cE3 {blk:Blk}{x:Ab.Blk}{dm:Nat×Nat}(_:blk.dim=C dm):VRel ⟨wy c (C c.Y.n),qI c.S O++[blk],c.Y.add x,c.fb⟩ (.ptr c.S.length 0) (.pointer (C ⟨c.Y.n,0,O⟩)):=by
 refine .ptr (by simp[qI]) rfl λd' _=>⟨c.Y.n, ?_,rfl⟩
 simp[wy]
theorem da6 : ∀{z:List Value},z.all ds4=Za->z=bD z.length (.int .u8 0)
 |[],_=>rfl
 |v::z,h=>by
  rw[List.all_cons,aB]at h
  have h1:v= .int .u8 0:=by
   have h0:=h.1;unfold ds4 at h0;split at h0
   .rw[of_decide_eq_true h0]
   .cases h0
  rw[gD,gP,<-da6 h.2,h1]
theorem xk (es:Nat)(z:List Value):(ax6 es z).dim=C (es,z.length)/\(ax6 es z).frozen=Zb/\∀c:Ctx,F2 (VRel c) (ax6 es z).vals z:=by
 unfold ax6;cases hb:cu8 es z with
 |false=>
  rw[zD];exact⟨by simp[Blk.dim],rfl,λc=>aD9 c z⟩
 |true=>
  rw[zC];unfold cu8 at hb;rw[aB,aB]at hb;have he:=cB hb.1.1;subst he;refine⟨by simp[Blk.dim,Sh.w],rfl,λc=> ?_⟩;have hz:=da6 hb.2
  have key: ∀n,F2 (VRel c) (gu (.int .u8) (bD n (0:Int))) (bD n (.int .u8 0)):=by
   intro n;induction n with
   |zero=>exact .nil
   |succ n ih=>exact .cons (.int _ _) ih
  have h1:=key z.length;rw[<-hz]at h1;exact h1
theorem cQ1 (hR:ga c){es:Nat}{z:List Value}(h:gd (cD 1 es) (k (.ptr c.S.length 0) (c.S++[ax6 es z]))=C y):cz T (.alloc es z) ea c.Y (kg c d k y):=by
 obtain⟨h1,h2⟩:=ce h;obtain⟨h3,h4,h5⟩:=xk es z;exact dj rfl (kg.new (kill:=O) hR (cH2 hR (blk:=ax6 es z) (x:=⟨z,Za,es⟩) (d:=(es,z.length)) h3 (bB h1) rfl rfl (h5 c)) (λ_ h=>by cases h) (cE3 (dm:=(es,z.length)) h3) h2)
theorem dq7 (hR:ga c)(he:cf c e ea){es:Nat}{x:Operand}(h:gd (cD 1 es&&oA (mW (ev e x))) (k (.ptr c.S.length 0) (c.S++[.cells es Zb (mW (ev e x))]))=C y):cz T (.box es x) ea c.Y (kg c d k y):=by
 obtain⟨h1,h2⟩:=ce h;rw[aB]at h1;have hf:=aX9 (da he x) h1.2;refine dj (by simp only[AOp.run];rw[zE (lj hf h1.2)]) (kg.new (kill:=O) hR (cH2 hR (blk:= .cells es Zb (mW (ev e x))) (x:=⟨cellsOf (ea.ev x),Za,es⟩) (d:=(es,(mW (ev e x)).length)) rfl (bB h1.1) rfl rfl hf) (λ_ h=>by cases h) (cE3 (dm:=(es,_)) rfl) h2)
theorem xp (he:cf c e ea): ∀(ps:List (Nat×Nat×Operand)) {cs r:List VV} {as:List Value},be7 cs (ac2 e ps)=C r->F2 (VRel c) cs as->∃ra,ay4 as (ps.map λ(o,s,x)=>(o,s,ea.ev x))=C ra/\F2 (VRel c) r ra
 |[],cs,r,as,h,hf=>by
  injection h with h
  subst h;exact⟨as,rfl,hf⟩
 |(o,s,x)::ps,cs,r,as,h,hf=>by
  simp only[ac2,List.map_cons,be7]at h;cases hb:(aD (mW (ev e x)).length s&&cD (o+s) cs.length&&(mW (ev e x)).all dh4)with
  |false=>rw[hb]at h;cases h
  |true=>
   rw[hb,zC]at h;rw[aB,aB]at hb;have h1:=cB hb.1.1;have h2:=bB hb.1.2;have hx:=aX9 (da he x) hb.2;have h3:(cellsOf (ea.ev x)).length=s:=by rw[<-hx.length];exact h1
   have h4:as.length=cs.length:=hf.length.symm;obtain⟨ra,h5,h6⟩:=xp he ps h (((hf.take o).append hx).append (hf.drop (o+s)));refine⟨ra, ?_,h6⟩;simp only[List.map_cons,ay4];rw[zE ⟨h3,by omega⟩];exact h5
theorem cR1 (hR:ga c)(he:cf c e ea){z:List Value}{ps:List (Nat×Nat×Operand)}{cs:List VV}(hf:be7 (z.map bj9) (ac2 e ps)=C cs)(h:k (.agg cs) c.S=C y):cz T (.build z ps) ea c.Y (kg c d k y):=by
 obtain⟨ra,h1,h2⟩:=xp he ps hf (aD9 c z);exact dj (by simp only[AOp.run,h1];rfl) (kg.same hR (.agg (by simpa using h2)) h)
theorem yy {blk:Blk}{dm:Nat×Nat}{n m:Nat}{b:Nat}{yb:Ab.Blk}{Y':Hp}{kill:Option Nat}(hd:blk.dim=C dm)(hn:n*dm.1=dm.2)(hm:n<=m)(hy:Y'.m b=C yb)(hl:m*dm.1<=yb.cells.length):
  VRel ⟨wy c (C b),qI c.S kill++[blk],Y',c.fb⟩ (.full c.S.length) (.slice (C ⟨b,0,O⟩) n m):=by
 refine .full (by simp[xD]) rfl λd' hd'=> ?_
 simp only[kR,if_true]at hd';rw[hd]at hd';injection hd' with hd'
 subst hd';exact⟨n,hn, .inr ⟨b,m,yb,by simp,by simp[wy],by rw[eB,hn];exact dB _,hm,hy,by rw[eB];exact hl⟩⟩
theorem bb6 : ∀(n:Nat) (z:List Value),F2 (VRel c) ((bD n (z.map bj9)).flatten) (fg z n)
 |0,_=> .nil
 |n+1,z=>by
  simp only[fg,gP,List.flatten_cons];exact(aD9 c z).append (bb6 n z)
theorem bH2 (hR:ga c)(he:cf c e ea){es ln:Nat}{z:List Value}{ps:List (Nat×Nat×Operand)}{cs:List VV}(hf:be7 ((bD ln (z.map bj9)).flatten) (ac2 e ps)=C cs)
  (h:gd (oA cs&&aD (ln*es) cs.length&&cD 1 es) (k (.full c.S.length) (c.S++[.cells es Zb cs]))=C y):cz T (.buildSlice es ln z ps) ea c.Y (kg c d k y):=by
 obtain⟨h1,h2⟩:=ce h;rw[aB,aB]at h1;obtain⟨ra,h3,h4⟩:=xp he ps hf (bb6 ln z);have h5:=cB h1.1.2;refine dj (by simp only[AOp.run,h3];rw[zE (lj h4 h1.1.1)]) (kg.new (kill:=O) hR (cH2 hR (blk:= .cells es Zb cs) (x:=⟨ra,Za,es⟩) (d:=(es,cs.length)) rfl (bB h1.2) rfl rfl h4) (λ_ h=>by cases h) ?_ h2);exact yy (dm:=(es,cs.length)) (yb:=⟨ra,Za,es⟩) rfl h5 (dB _) (zE rfl) (by rw[<-h4.length];exact Nat.le_of_eq h5)
theorem df0 (hR:ga c)(he:cf c e ea){x:Operand}(h:bM0 c.S 1 Zb (ev e x) k=C y):cz T (.load x) ea c.Y (kg c d k y):=by
 obtain⟨b,o,blk,h1,h2,h3,_⟩:=co6 hR h (da he x);obtain⟨u,w,h4,h5,h6⟩:=h3 rfl;exact dj (by simp only[AOp.run,h1,h2,h4];rfl) (kg.same hR h5 h6)
theorem cU2 (hR:ga c)(he:cf c e ea){n:Nat}{x:Operand}(h:bM0 c.S n Za (ev e x) k=C y):cz T (.loadN n x) ea c.Y (kg c d k y):=by
 obtain⟨b,o,blk,h1,h2,_,h3⟩:=co6 hR h (da he x);obtain⟨us,ws,h4,h5,h6⟩:=h3 rfl;exact dj (by simp only[AOp.run,h1,h2,h4];rfl) (kg.same hR (.agg (by simpa using h5)) h6)
theorem af5 : ∀(vs cells:List Value) (o:Nat),(lz cells o vs).length=cells.length
 |[],_,_=>rfl
 |v::vs,cells,o=>by simp only[lz];rw[af5 vs];simp
theorem F2.set {l:List VV}{m:List Value}(h:F2 (VRel c) l m){v:VV}{a:Value}(hv:VRel c v a): ∀i,F2 (VRel c) (l.set i v) (m.set i a):=by
 induction h with
 |nil=>intro i;simp;exact .nil
 |cons h1 h2 ih=>
  intro i;cases i with
  |zero=>exact .cons hv h2
  |succ i=>exact .cons h1 (ih i)
theorem by7 : ∀{vs:List VV} {as:List Value},F2 (VRel c) vs as->∀{l:List VV} {m:List Value} (o:Nat),F2 (VRel c) l m->F2 (VRel c) (di7 l o vs) (lz m o as)
 |_,_, .nil,_,_,_,h=>h
 |_,_, .cons h1 h2,_,_,o,h=>by7 h2 (o+1) (F2.set h h1 o)
theorem aA3 : ∀(vs:List Value) (cs rest:List Value) (o:Nat),o+vs.length<=cs.length->lz (cs++rest) o vs=lz cs o vs++rest
 |[],_,_,_,_=>rfl
 |v::vs,cs,rest,o,h=>by
  simp only[gD]at h;simp only[lz];rw[List.set_append_left _ _ (by omega),aA3 vs _ _ _ (by simp;omega)]
theorem yF : ∀(vs:List Value) (pre cs:List Value) (o:Nat),lz (pre++cs) (pre.length+o) vs=pre++lz cs o vs
 |[],_,_,_=>rfl
 |v::vs,pre,cs,o=>by
  simp only[lz];rw[List.set_append_right _ _ (by omega),Nat.add_sub_cancel_left,Nat.add_assoc,yF vs]
theorem aE5 {blk:Ab.Blk}{o:Nat}{vs:List Value}(h1:blk.own=Za)(h2:o+vs.length<=blk.cells.length)(h3:vs.all one=Za):vT blk o vs=C ⟨lz blk.cells o vs,Za,blk.es⟩:=by
 unfold vT;rw[zE ⟨h1,h2,h3⟩,h1]
theorem aW4 (hR:ga c){q es o b:Nat}{l l' vs:List VV}{as:List Value}(hb:bu c.S q= .cells es Zb l)(hm:c.Z q=C b)(hf:F2 (VRel c) vs as)(h1:oA vs=Za)(ho:o+vs.length<=l.length)
  (hl': ∀cs,F2 (VRel c) l cs->F2 (VRel c) l' (lz cs o as)): ∃blk,c.Y.m b=C blk/\∃blk',vT blk o as=C blk'/\Writes c q b (.cells es Zb l') blk':=by
 obtain⟨y0,cs,rest,h2,h3,h4,h5,h6⟩:=hR.block (k:=q) (d:=(es,l.length)) (by rw[hb];rfl) hm;rw[hb]at h4 h6;have hl:=F2.length h6;simp only[Blk.vals]at hl;have ha:=F2.length hf;refine⟨y0,h2,_,aE5 (h4 rfl) (by rw[h5,gB];omega) (lj hf h1),⟨by rw[hb];rfl,hm, ?_,rfl,y0,lz cs o as,rest,(es,l.length),h2,by rw[hb];rfl,h3,rfl,af5 _ _ _, ?_,hl' cs h6⟩⟩
 .have:=F2.length (hl' cs h6);rw[af5]at this;simp only[hb,Blk.dim];rw[this,<-hl]
 .show lz y0.cells o as=_;rw[h5,aA3 _ _ _ _ (by omega)]
theorem by6 {v:VV}{va:Value}(hv:VRel c v va): ∀{cs:List VV} {as:List Value} {i j:Nat} {r:List VV},by5 v cs i j=C r->F2 (VRel c) cs as->F2 (VRel c) r (if j<=i then as.set (i-j) va else as)
 |[],_,i,j,r,h,hf=>by
  cases hf;injection h with h
  subst h;simp;exact .nil
 |w::cs,_,i,j,r,h,hf=>by
  cases hf with
  |cons h1 h2=>
   rename_i a as;simp only[by5]at h;cases hs:cY7 (aD i j) v w with
   |none=>rw[hs]at h;cases h
   |some x=>
    rw[hs]at h;simp only[zG]at h;cases hr:by5 v cs i (j+1)with
    |none=>rw[hr]at h;cases h
    |some r'=>
     rw[hr]at h;injection h with h
     subst h;have h3:=by6 hv hr h2;have h4:=cq4 hs hv h1;by_cases hij:i=j
     .subst hij;rw[zF (by omega)]at h3;rw[zE (dB _),Nat.sub_self];have:aD i i=Za:=Nat.beq_refl i;rw[this]at h4;exact .cons h4 h3
     .have hb:aD i j=Zb:=by
       cases hh:aD i j with
       |false=>rfl
       |true=>exact(hij (cB hh)).elim
      rw[hb]at h4;by_cases hlt:j+1<=i
      .rw[zE hlt]at h3;rw[zE (by omega),show i-j=(i-(j+1))+1 by omega];exact .cons h4 h3
      .rw[zF hlt]at h3;rw[zF (by omega)];exact .cons h4 h3
theorem bK3 {s:Sh}{x:El s}: ∀{l:List (El s)} {i:Nat},i<l.length->gu s (l.set i x)=(gu s l).take (i*s.w)++(et s x++(gu s l).drop (i*s.w+s.w))
 |[],_,h=>by simp at h
 |a::l,0,_=>by
  rw[List.set_cons_zero,iq,iq,Nat.zero_mul,List.take_zero,dD,eB,fB,fc,Nat.sub_self,List.drop_zero,fD (by rw[fc];exact dB _),dD]
 |a::l,i+1,h=>by
  have h1:(i+1)*s.w=s.w+i*s.w:=by rw[Nat.succ_mul];omega
  rw[List.set_cons_succ,iq,iq,bK3 (by simpa using h),h1,List.take_append,fB,fc,List.take_of_length_le (l:=et s a) (by rw[fc];omega),fD (l:=et s a) (by rw[fc];omega),dD,eD];rw[show s.w+i*s.w-s.w=i*s.w by omega,show s.w+i*s.w+s.w-s.w=i*s.w+s.w by omega]
theorem bt4 (v:VV){q:Nat}(h:yl v=C q):q∈cW5 (yl v):=by rw[h];exact List.mem_singleton.2 rfl
theorem by8 {vs cs:List Value}{p o w:Nat}(h1:o+vs.length<=w)(h2:p+w<=cs.length):lz cs (p+o) vs=cs.take p++(lz ((cs.drop p).take w) o vs++cs.drop (p+w)):=by
 have e1:cs=cs.take p++((cs.drop p).take w++cs.drop (p+w)):=by
  rw[<-List.drop_drop,gQ,gQ]
 have hp:(cs.take p).length=p:=by rw[gO];omega
 have hw:((cs.drop p).take w).length=w:=by rw[gO,List.length_drop];omega
 conv=>lhs;rw[e1]
 have:=yF vs (cs.take p) ((cs.drop p).take w++cs.drop (p+w)) o;rw[hp]at this;rw[this,aA3 _ _ _ _ (by rw[hw];exact h1)]
theorem cZ4 (hR:ga c)(he:cf c e ea){n:Nat}{a x:Operand}(hd: ∀q,yl (ev e a)=C q->q∈d)
  (h:gd (aD (mW (ev e x)).length n&&oA (mW (ev e x))) (cA5 c.S (ev e a) (mW (ev e x)) λS'=>k .undef S')=C y):cz T (.store n a x) ea c.Y (kg c d k y):=by
 obtain⟨h1,h2⟩:=ce h;rw[aB]at h1;have hn:=cB h1.1;have hx:=aX9 (da he x) h1.2;have hlen:(cellsOf (ea.ev x)).length=n:=by rw[<-hx.length];exact hn
 have ha:=da he a
 have key: ∀(c1:Ctx) (q b o:Nat) (blk0:Ab.Blk) (blk:Blk) (blk':Ab.Blk),c1.Y=c.Y->Le c c1->uG d c c1->ga c1->q∈d->ea.ev a= .pointer (C ⟨b,o,O⟩)->c.Y.m b=C blk0->vT blk0 o (cellsOf (ea.ev x))=C blk'->Writes c1 q b blk blk'->
   k .undef (lH c1.S q blk)=C y->cz T (.store n a x) ea c.Y (kg c d k y):=by
  intro c1 q b o blk0 blk blk' hY hle hcalm hR1 hq h3 h4 h5 h6 h7;refine dj (v:=undef) (Y':=c.Y.set b (C blk')) ?_ ?_
  .simp only[AOp.run,h3,hlen,if_true,h4,h5]
  .rw[<-hY];exact⟨.undef,_,rfl,hle.trans (h6.le hR1),h6.rel hR1,hcalm.trans (h6.calm hR1 hq) hle, .undef _,h7⟩
 generalize cellsOf (ea.ev x)=as at*;generalize ev e a=av at*;generalize mW (ev e x)=vs at*;unfold cA5 at h2;cases av with
 |ptr q o=>
  simp only at h2;cases hb:bu c.S q with
  |dead=>rw[hb]at h2;cases h2
  |arr s z l=>rw[hb]at h2;cases h2
  |cells es z l=>
   rw[hb]at h2;cases z with
   |true=>cases h2
   |false=>
    obtain⟨h3,h4⟩:=ce h2;cases ha with
    |ptr hk _ hd'=>
     obtain⟨b,hm,hav⟩:=hd' (es,l.length) (by rw[hb];rfl);obtain⟨blk0,h5,blk',h6,h7⟩:=aW4 hR hb hm hx h1.2 (bB h3) λcs hcs=>by7 hx o hcs
     exact key c q b o blk0 _ blk' rfl (Le.refl c) (uG.refl d c) hR (hd q rfl) hav h5 h6 h7 h4
 |pix q o m i=>
  simp only at h2;split at h2
  .rename_i es l v hb;obtain⟨h3,h4⟩:=ce h2;have h3:=bB h3;split at h4
   .rename_i l' hs;cases hx with
    |cons hv hnil=>
     rename_i va as';cases hnil;cases ha with
     |pix hk _ hi hd'=>
      obtain⟨b,hm,hav⟩:=hd' (es,l.length) (by rw[hb];rfl)
      obtain⟨blk0,h5,blk',h6,h7⟩:=aW4 (l':=l.take o++l'++l.drop (o+m)) (o:=o+i) hR hb hm (.cons hv .nil) h1.2 (by simp;omega) λcs hcs=>by
       have hl:=hcs.length;rw[by8 (w:=m) (by simp;omega) (by omega),eD];have h8:=by6 hv hs ((hcs.drop o).take m);rw[zE (Nat.zero_le _),Nat.sub_zero]at h8;exact(hcs.take o).append (h8.append (hcs.drop _))
      exact key c q b (o+i) blk0 _ blk' rfl (Le.refl c) (uG.refl d c) hR (hd q rfl) hav h5 h6 h7 h4
   .cases h4
  .cases h2
 |pel q i o=>
  simp only at h2;cases hb:bu (fzL c.S vs) q with
  |dead=>rw[hb]at h2;cases h2
  |cells es z l=>rw[hb]at h2;cases h2
  |arr s z l=>
   rw[hb]at h2;cases z with
   |true=>cases h2
   |false=>
    simp only at h2;cases hx':l[i]? with
    |none=>rw[hx']at h2;cases h2
    |some x'=>
     rw[hx']at h2;simp only[zG]at h2;split at h2
     .rename_i z hof;obtain⟨h3,h4⟩:=ce h2;have h3:=bB h3;have hfz:=aD2 c.S vs;have hR1:ga ⟨c.Z,fzL c.S vs,c.Y,c.fb⟩:=hfz.rel hR
      have hi:i<l.length:=by
       rcases Nat.lt_or_ge i l.length with h|h
       .exact h
       .rw[List.getElem?_eq_none h]at hx';cases hx'
      have hx1:F2 (VRel ⟨c.Z,fzL c.S vs,c.Y,c.fb⟩) vs as:=VRel.frames hfz.le hx;cases ha with
      |pel hk _ hd'=>
       have hdim:(bu (fzL c.S vs) q).dim=C (s.w,l.length*s.w):=by rw[hb];rfl
       obtain⟨b,hm,hav⟩:=hd' (s.w,l.length*s.w) (by rw[<-hfz.dim];exact hdim);obtain⟨y0,cs,rest,h5,h6,h7,h8,h9⟩:=hR1.block (k:=q) hdim hm;rw[hb]at h7 h9;have hl:=h9.length;simp only[Blk.vals,iw]at hl;have hle:i*s.w+s.w<=l.length*s.w:=by rw[<-Nat.succ_mul];exact Nat.mul_le_mul_right _ hi
       have hlen':vs.length=as.length:=hx.length;refine key ⟨c.Z,fzL c.S vs,c.Y,c.fb⟩ q b (i*s.w+o) y0 (.arr s Zb (l.set i z)) _ rfl hfz.le (hfz.calm d) hR1 (hd q rfl) hav h5 (aE5 (h7 rfl) (by rw[h8,gB];omega) (lj hx h1.2)) ⟨by rw[hb];rfl,hm,by rw[hdim];simp[Blk.dim],rfl,y0,lz cs (i*s.w+o) as,rest,_,h5,hdim,h6,rfl,af5 _ _ _,by rw[h8,aA3 _ _ _ _ (by omega)], ?_⟩ h4;obtain⟨pre,h10,h11,h12⟩:=kQ hR1 s _ _ _ hof;rw[List.append_nil]at h10;subst h10;simp only[Blk.vals];rw[bK3 hi,by8 (w:=s.w) (by omega) (by omega)];refine(h9.take _).append (F2.append (h12 _ (by7 hx1 o ?_)) (h9.drop _));have h13:=(h9.drop (i*s.w)).take s.w;simp only[Blk.vals]at h13
       rwa [aY7 hx']at h13
     .cases h2
 |_=>cases h2
end
end
section
open Bool renaming and_eq_true -> aD, false_eq_true -> bB
open List renaming extract_eq_take_drop -> bD
open Nat renaming eq_of_beq_eq_true -> cB
open Option renaming map_some -> aB
section
variable {β:Type} {T:gz} {c:Ctx} {e:eo} {ea:dn} {k:VV->bz->Option β} {y:β} {d:List Nat}
theorem zL (s:ByteArray):(jN s).length=s.size:=by simp[jN]
theorem cu7 (s t:ByteArray):jN (s++t)=jN s++jN t:=by
 simp[jN,ByteArray.data_append]
theorem aB1 : ∀{l m:List UInt8},(l.map λb=>(b.toNat:Int))=m.map (λb=>(b.toNat:Int))->l=m
 |[],[],_=>rfl
 |[],_::_,h=>by simp at h
 |_::_,[],h=>by simp at h
 |a::l,b::m,h=>by
  simp only[List.map_cons,List.cons.injEq]at h;rw[aB1 h.2,UInt8.toNat_inj.1 (Int.ofNat.inj h.1)]
theorem bg4 (s:ByteArray):s.toList=s.data.toList:=by
 rw[ByteArray.toList_eq]
theorem aX8 (s t:ByteArray):(s.toList==t.toList)=Zc (jN s=jN t):=by
 rw[bg4,bg4];by_cases h:s.data.toList=t.data.toList
 .simp[jN,h]
 .have:jN s≠jN t:=λe=>h (aB1 e)
  have h': ¬s.data=t.data:=λe=>h (by rw[e])
  simp[this,h']
theorem cH8 {op:BinOp}{kd:IntKind}{a b:Int}{kk:VV->Option β}(h:cu2 op kd a b kk=C y): ∃v va,cD5 op kd a b=C va/\VRel c v va/\kk v=C y:=by
 cases op<;>simp only[cu2]at h<;>try(cases h;done)
 case add=>exact⟨_,_,rfl, .int _ _,h⟩
 case sub=>exact⟨_,_,rfl, .int _ _,h⟩
 case mul=>exact⟨_,_,rfl, .int _ _,h⟩
 case quo=>
  obtain⟨h1,h2⟩:=ce h;exact⟨_,_,zF (of_decide_eq_true h1), .int _ _,h2⟩
 case rem=>
  obtain⟨h1,h2⟩:=ce h;exact⟨_,_,zF (of_decide_eq_true h1), .int _ _,h2⟩
 case and=>exact⟨_,_,rfl, .int _ _,h⟩
 case or=>exact⟨_,_,rfl, .int _ _,h⟩
 case xor=>exact⟨_,_,rfl, .int _ _,h⟩
 case andNot=>exact⟨_,_,rfl, .int _ _,h⟩
 case eql=>
  refine⟨_,_,rfl, ?_,h⟩;have:(a==b)=Zc (a=b):=by by_cases h:a=b<;>simp[h]
  rw[this];exact .bool _
 case neq=>
  refine⟨_,_,rfl, ?_,h⟩;have:(a !=b)=Zc (a≠b):=by by_cases h:a=b<;>simp[h]
  rw[this];exact .bool _
 case lss=>exact⟨_,_,rfl, .bool _,h⟩
 case leq=>exact⟨_,_,rfl, .bool _,h⟩
 case gtr=>exact⟨_,_,rfl, .bool _,h⟩
 case geq=>exact⟨_,_,rfl, .bool _,h⟩
theorem dq6 (hR:ga c)(he:cf c e ea){op:BinOp}{x z:Operand}(h:dq5 op (ev e x) (ev e z) (λv=>k v c.S)=C y):cz T (.bin op x z) ea c.Y (kg c d k y):=by
 have hx:=da he x;have hz:=da he z
 have key: ∀v va,ab9 op (ea.ev x) (ea.ev z)=C va->VRel c v va->k v c.S=C y->cz T (.bin op x z) ea c.Y (kg c d k y):=λv va h1 h2 h3=>
  dj (by simp only[AOp.run,h1];rfl) (kg.same hR h2 h3)
 generalize ev e x=xv at*;generalize ev e z=zv at*;unfold dq5 at h;split at h
 .rename_i kx a kz b;rw[hx.int_inv,hz.int_inv]at key;cases hs:uD op with
  |true=>
   rw[hs,zC]at h;simp only[ab9,hs,if_true]at key;cases op<;>simp only[cZ0]at h<;>try(cases h;done)
   .obtain⟨h1,h2⟩:=ce h;have h1:=of_decide_eq_true h1;refine key _ _ ?_ (.int _ _) h2;simp only[bz0];rw[zF (by omega)]
   .obtain⟨h1,h2⟩:=ce h;have h1:=of_decide_eq_true h1;refine key _ _ ?_ (.int _ _) h2;simp only[bz0];rw[zF (by omega)]
  |false=>
   rw[hs,zD]at h;cases hk:Zc (kx=kz)with
   |false=>rw[hk]at h;cases h
   |true=>
    rw[hk,zC]at h;have hk:=of_decide_eq_true hk;subst hk;obtain⟨v,va,h1,h2,h3⟩:=cH8 (c:=c) h;refine key v va ?_ h2 h3;simp only[ab9,hs,bB,if_false,if_true,h1]
 .rename_i a b;obtain⟨s,e1,rfl⟩:=hx.str_inv;obtain⟨t,e2,rfl⟩:=hz.str_inv;rw[e1,e2]at key;cases hs:uD op with
  |true=>rw[hs]at h;cases h
  |false=>
   rw[hs,zD]at h;simp only[ab9,hs,bB,if_false]at key;cases op<;>simp only[dC2]at h<;>try(cases h;done)
   .obtain⟨h1,h2⟩:=ce h;have h1:(jN s).length+(jN t).length<=9223372036854775807:=Nat.le_of_ble_eq_true h1;rw[zL,zL]at h1;refine key _ _ ?_ (.str (cu7 s t)) h2;simp only[cF9];rw[zF];show¬(((s.size+t.size:Nat):Int) > 9223372036854775807);omega
   .refine key _ _ rfl ?_ h;rw[aX8];exact .bool _
   .refine key _ _ rfl ?_ h;rw[aX8];have:(!Zc (jN s=jN t))=Zc (jN s≠jN t):=by simp
    rw[this];exact .bool _
 .cases h
theorem tD {b:Blk}(h:b.live=Za): ∃dm,b.dim=C dm:=by cases b<;>first|(cases h;done)|exact⟨_,rfl⟩
theorem aL7 {v:VV}{a:Value}(h:VRel c v a)(hp:bu7 c.S v=Za): ∃x,a= .pointer (C x):=by
 cases v<;>try(cases hp;done)
 case ptr q o=>
  obtain⟨dd,hh⟩:=tD hp;cases h with
  |ptr hk _ hd=>obtain⟨b,_,h⟩:=hd dd hh;exact⟨_,h⟩
 case pix q o n i=>
  obtain⟨dd,hh⟩:=tD hp;cases h with
  |pix hk _ _ hd=>obtain⟨b,_,h⟩:=hd dd hh;exact⟨_,h⟩
 case pel q i o=>
  obtain⟨dd,hh⟩:=tD hp;cases h with
  |pel hk _ hd=>obtain⟨b,_,h⟩:=hd dd hh;exact⟨_,h⟩
 case pin s x o=>cases h;exact⟨_,rfl⟩
theorem cn0 (hR:ga c)(he:cf c e ea){x:Operand}(h:(match ev e x with
  | .fn f a b=>k (.fn f a b) c.S
  |v=>gd (bu7 c.S v) (k v c.S))=C y):cz T (.nilCheck x) ea c.Y (kg c d k y):=by
 have hx:=da he x;split at h
 .rename_i f a b hv;rw[hv]at hx
  have: ∃a' b',ea.ev x= .func (.func f) a' b':=by
   generalize ea.ev x=xa at hx;cases hx;exact⟨_,_,rfl⟩
  obtain⟨a',b',h1⟩:=this;rw[h1]at hx;exact dj (by simp only[AOp.run,h1]) (kg.same hR hx h)
 .obtain⟨h1,h2⟩:=ce h;obtain⟨p,h3⟩:=aL7 hx h1;rw[h3]at hx;exact dj (by simp only[AOp.run,h3]) (kg.same hR hx h2)
theorem cU9 {neg b:Bool}:(b !=neg)=cU8 neg b:=by cases neg<;>cases b<;>rfl
theorem dq9 (hR:ga c)(he:cf c e ea){kd:Nat}{neg:Bool}{x z:Operand}{p:Bool}(hp:dq8 c.S kd (ev e x) (ev e z)=C p)(h:k (.bool (cU8 neg p)) c.S=C y):cz T (.eqv kd neg x z) ea c.Y (kg c d k y):=by
 have hx:=da he x;have hz:=da he z
 have key:cl3 kd (ea.ev x) (ea.ev z)=C p->cz T (.eqv kd neg x z) ea c.Y (kg c d k y):=λh1=>
  dj (v:= .bool (p !=neg)) (by simp only[AOp.run,h1];rfl) (kg.same hR (by rw[cU9];exact .bool _) h)
 generalize ev e x=xv at*;generalize ev e z=zv at*;unfold dq8 at hp;split at hp
 .injection hp with hp;subst hp
  rw[hx.bool_inv,hz.bool_inv]at key;exact key rfl
 .injection hp with hp;subst hp
  refine key ?_;generalize ea.ev x=xa at*;generalize ea.ev z=za at*;cases hx;cases hz;rfl
 .cases hi:bu7 c.S zv with
  |false=>rw[hi]at hp;cases hp
  |true=>
   rw[hi]at hp;injection hp with hp;subst hp
   refine key ?_;obtain⟨q,h1⟩:=aL7 hz hi;rw[h1];generalize ea.ev x=xa at*;cases hx;rfl
 .cases hi:bu7 c.S xv with
  |false=>rw[hi]at hp;cases hp
  |true=>
   rw[hi]at hp;injection hp with hp;subst hp
   refine key ?_;obtain⟨q,h1⟩:=aL7 hx hi;rw[h1];generalize ea.ev z=za at*;cases hz;rfl
 .injection hp with hp;subst hp
  refine key ?_;generalize ea.ev x=xa at*;generalize ea.ev z=za at*;cases hx;cases hz;rfl
 .injection hp with hp;subst hp
  refine key ?_;generalize ea.ev x=xa at*;generalize ea.ev z=za at*;cases hx;cases hz;rfl
 .injection hp with hp;subst hp
  refine key ?_;generalize ea.ev x=xa at*;generalize ea.ev z=za at*;cases hx;cases hz;rfl
 .injection hp with hp;subst hp
  refine key ?_;generalize ea.ev x=xa at*;generalize ea.ev z=za at*;cases hx;cases hz;rfl
 .cases hp
theorem dc9 {kd:Nat}{v w:VV}{va wa:Value}{p:Bool}(h:cJ0 kd v w=C p)(hv:VRel c v va)(hw:VRel c w wa):vo kd va wa=C p:=by
 unfold cJ0 at h;split at h
 .injection h with h;subst h
  rw[hv.bool_inv,hw.bool_inv];rfl
 .rename_i k1 a k2 b;cases hk:Zc (k1=k2)with
  |false=>rw[hk]at h;cases h
  |true=>
   rw[hk]at h;injection h with h;subst h
   rw[hv.int_inv,hw.int_inv];simp only[vo,of_decide_eq_true hk,if_true];by_cases e:a=b<;>simp[e]
 .injection h with h;subst h
  obtain⟨s,e1,rfl⟩:=hv.str_inv;obtain⟨t,e2,rfl⟩:=hw.str_inv;rw[e1,e2];simp only[vo];rw[aX8]
 .cases h
theorem dd0 : ∀{ks:List Nat} {l m:List VV} {la ma:List Value} {p:Bool},bH7 ks l m=C p->F2 (VRel c) l la->F2 (VRel c) m ma->kD ks la ma=C p:=by
 intro ks;induction ks with
 |nil=>
  intro l m la ma p h hl hm;cases hl<;>cases hm<;>simp only[bH7]at h<;>try(cases h;done)
  exact h
 |cons kd ks ih=>
  intro l m la ma p h hl hm;cases hl with
  |nil=>cases m<;>simp[bH7]at h
  |cons h1 h2=>
   cases hm with
   |nil=>cases ks<;>simp[bH7]at h
   |cons h3 h4=>
    rename_i v va l' la' w wa m' ma'
    have key: ∀q r,cJ0 kd v w=C q->bH7 ks l' m'=C r->p=(q&&r)->kD (kd::ks) (va::la') (wa::ma')=C p:=by
     intro q r e1 e2 e3;simp only[kD,dc9 e1 h1 h3];cases q with
     |false=>simp[e3]
     |true=>rw[ih e2 h2 h4,e3];simp
    unfold bH7 at h;split at h
    .rename_i e1 e2 e3;cases e1
    .rename_i e1 e2 e3;cases e1;cases e2;cases e3;cases h2;cases h4;exact key p Za h rfl (by simp)
    .rename_i e1 e2 e3;cases e1;cases e2;cases e3;cases hq:cJ0 kd v w with
     |none=>rw[hq]at h;cases h
     |some q=>
      rw[hq]at h;simp only[zG]at h;cases hr:bH7 ks l' m' with
      |none=>rw[hr]at h;cases h
      |some r=>
       rw[hr]at h;injection h with h
       exact key q r hq hr h.symm
    .cases h
theorem cv7 (hR:ga c)(he:cf c e ea){ks:List Nat}{neg:Bool}{x z:Operand}{a b:List VV}{p:Bool}(h1:ev e x= .agg a)(h2:ev e z= .agg b)(hp:bH7 ks a b=C p)(h:k (.bool (cU8 neg p)) c.S=C y):
  cz T (.eqCells neg ks x z) ea c.Y (kg c d k y):=by
 have hx:=da he x;have hz:=da he z;rw[h1]at hx;rw[h2]at hz;obtain⟨as,e1,f1⟩:=hx.agg_inv;obtain⟨bs,e2,f2⟩:=hz.agg_inv;exact dj (v:= .bool (p !=neg)) (by simp only[AOp.run,e1,e2,dd0 hp f1 f2];rfl) (kg.same hR (by rw[cU9];exact .bool _) h)
theorem dC5 (hR:ga c)(he:cf c e ea){op:UnOp}{x:Operand}(h:unK op (ev e x) (λv=>k v c.S)=C y):cz T (.un op x) ea c.Y (kg c d k y):=by
 have hx:=da he x;unfold unK at h;split at h
 .rename_i kd n hv;rw[hv]at hx;exact dj (by simp only[AOp.run,hx.int_inv];rfl) (kg.same hR (.int _ _) h)
 .rename_i kd n hv;rw[hv]at hx;exact dj (by simp only[AOp.run,hx.int_inv];rfl) (kg.same hR (.int _ _) h)
 .rename_i b hv;rw[hv]at hx;exact dj (by simp only[AOp.run,hx.bool_inv];rfl) (kg.same hR (.bool _) h)
 .cases h
theorem bu5 {v:VV}{n:Int}{a:Value}(h:bK6 v=C n)(hv:VRel c v a): ∃kd,a= .int kd n:=by
 cases v<;>simp only[bK6]at h<;>try(cases h;done)
 injection h with h;subst h
 exact⟨_,hv.int_inv⟩
theorem dc1 (hR:ga c)(he:cf c e ea){kd:IntKind}{x:Operand}{n:Int}(hn:bK6 (ev e x)=C n)(h:k (.int kd (kd.wrap n)) c.S=C y):cz T (.conv kd x) ea c.Y (kg c d k y):=by
 obtain⟨kd',hx⟩:=bu5 hn (da he x);exact dj (by simp only[AOp.run,hx];rfl) (kg.same hR (.int _ _) h)
theorem cK7 (hR:ga c)(he:cf c e ea){f:Nat}{a b:List Operand}(h:k (.fn f (a.map (ev e)) (b.map (ev e))) c.S=C y):cz T (.mkFunc f a b) ea c.Y (kg c d k y):=
 dj rfl (kg.same hR (.fn (by simpa using bl3 he a) (by simpa using bl3 he b)) h)
theorem cJ2 (hR:ga c)(he:cf c e ea){o n:Nat}{agg:Bool}{x:Operand}{cs:List VV}(hx:ev e x= .agg cs)(h:cond agg (k (.agg (ae8 cs o n)) c.S) (cL5 c.S (nth cs o) k)=C y):cz T (.fieldV o n agg x) ea c.Y (kg c d k y):=by
 have hv:=da he x;rw[hx]at hv;obtain⟨as,e1,f1⟩:=hv.agg_inv;cases agg with
 |true=>
  refine dj (v:= .agg (as.extract o (o+n))) (by simp only[AOp.run,e1];rfl) (kg.same hR (.agg ?_) h);have:=(f1.drop o).take n;simpa[ae8,Array.toList_extract,bD]using this
 |false=>
  rw[zD]at h;cases hn:nth cs o with
  |none=>rw[hn]at h;cases h
  |some w=>
   rw[hn]at h;obtain⟨u,h1,h2⟩:=F2.nth f1 hn;have h1':as[o]?=C u:=by simpa using h1
   exact dj (by simp only[AOp.run,e1,h1'];rfl) (kg.same hR h2 h)
theorem cv9 (hR:ga c)(he:cf c e ea){i:Nat}{x:Operand}{cs:List VV}(hx:ev e x= .tup cs)(h:cL5 c.S (nth cs i) k=C y):cz T (.extract x i) ea c.Y (kg c d k y):=by
 have hv:=da he x;rw[hx]at hv;obtain⟨as,e1,f1⟩:=hv.tup_inv;cases hn:nth cs i with
 |none=>rw[hn]at h;cases h
 |some w=>
  rw[hn]at h;obtain⟨u,h1,h2⟩:=F2.nth f1 hn;have h1':as[i]?=C u:=by simpa using h1
  exact dj (by simp only[AOp.run,e1,h1'];rfl) (kg.same hR h2 h)
theorem aD4 {i:Int}{n j:Nat}(h:ix i n=C j):0<=i/\i<n/\j=i.toNat/\j<n:=by
 unfold ix at h;cases hb:(Zc (0<=i)&&Zc (i<n))with
 |false=>rw[hb]at h;cases h
 |true=>
  rw[hb]at h;injection h with h
  rw[aD]at hb;have h1:=of_decide_eq_true hb.1;have h2:=of_decide_eq_true hb.2;exact⟨h1,h2,h.symm,by omega⟩
theorem cF2 {α:Type}{l:List α}{i:Int}{x:α}(h:rd l i=C x):0<=i/\i<l.length/\l[i.toNat]?=C x:=by
 unfold rd at h;cases hb:Zc (0<=i)with
 |false=>rw[hb]at h;cases h
 |true=>
  rw[hb]at h;have h1:=of_decide_eq_true hb
  have h2:i.toNat<l.length:=by
   rcases Nat.lt_or_ge i.toNat l.length with h3|h3
   .exact h3
   .rw[zC,List.getElem?_eq_none h3]at h;cases h
  exact⟨h1,by omega,h⟩
theorem bx {α γ:Type}{x:Option α}{f:α->Option γ}{z:γ}(h:x.bind f=C z): ∃a,x=C a/\f a=C z:=by
 cases x with
 |none=>cases h
 |some a=>exact⟨a,rfl,h⟩
theorem cK0 (hR:ga c)(he:cf c e ea){ln es:Nat}{agg:Bool}{x z:Operand}{cs:List VV}{kd:IntKind}{i:Int}(hx:ev e x= .agg cs)(hz:ev e z= .int kd i)
  (h:((ix i ln).bind λj=>cond agg (k (.agg (ae8 cs (j*es) es)) c.S) (gd (Nat.beq es 1&&Nat.beq cs.length ln) (cj1 cs j c.S k)))=C y):cz T (.indexV ln es agg x z) ea c.Y (kg c d k y):=by
 have hv:=da he x;have hw:=da he z;rw[hx]at hv;rw[hz]at hw;obtain⟨as,e1,f1⟩:=hv.agg_inv;have e2:=hw.int_inv;obtain⟨j,h1,h2⟩:=bx h;obtain⟨h3,h4,rfl,h5⟩:=aD4 h1;cases agg with
 |true=>
  refine dj (v:= .agg (as.extract (i.toNat*es) (i.toNat*es+es))) (by simp only[AOp.run,e1,e2];rw[zE ⟨h3,h4⟩];rfl) (kg.same hR (.agg ?_) h2);have:=(f1.drop (i.toNat*es)).take es;simpa[ae8,Array.toList_extract,bD]using this
 |false=>
  rw[zD]at h2;obtain⟨h6,h7⟩:=ce h2;rw[aD]at h6;have h8:=cB h6.1;have h9:=cB h6.2;subst h8;obtain⟨w,h10,h11⟩:=cj2 (by omega) h7;obtain⟨u,h12,h13⟩:=f1.get _ _ h10;have h14:as[i.toNat*1]?=C u:=by rw[Nat.mul_one];simpa using h12
  exact dj (by simp only[AOp.run,e1,e2,h14];rw[zE ⟨h3,h4⟩];rfl) (kg.same hR h13 h11)
theorem cJ9 (hR:ga c)(he:cf c e ea){x z:Operand}{l:Zd}{kd:IntKind}{i:Int}(hx:ev e x= .str l)(hz:ev e z= .int kd i)(h:((rd l i).bind λb=>k (.int .u8 b) c.S)=C y):cz T (.indexS x z) ea c.Y (kg c d k y):=by
 have hv:=da he x;have hw:=da he z;rw[hx]at hv;rw[hz]at hw;obtain⟨s,e1,rfl⟩:=hv.str_inv;have e2:=hw.int_inv;obtain⟨b,h1,h2⟩:=bx h;obtain⟨h3,h4,h5⟩:=cF2 h1;simp only[jN,List.getElem?_map]at h5;cases hb:s.data.toList[i.toNat]? with
 |none=>rw[hb]at h5;cases h5
 |some u=>
  rw[hb,aB]at h5;injection h5 with h5
  subst h5
  have h6:s[i.toNat]?=C u:=by
   have:i.toNat<s.size:=by rw[zL]at h4;omega
   rw[getElem?_pos s i.toNat this];rw[<-hb,Array.getElem?_toList,getElem?_pos s.data i.toNat this];rfl
  exact dj (v:= .int .u8 u.toNat) (by simp only[AOp.run,e1,e2,h6];rw[zE h3];rfl) (kg.same hR (.int _ _) h2)
theorem df7 (hR:ga c)(he:cf c e ea){x z:Operand}{kd kd':IntKind}{a b:Int}(hx:ev e x= .int kd a)(hz:ev e z= .int kd' b)(h:k (.int kd (max a b)) c.S=C y):cz T (.most x z) ea c.Y (kg c d k y):=by
 have hv:=da he x;have hw:=da he z;rw[hx]at hv;rw[hz]at hw;refine dj (v:= .int kd (max a b)) ?_ (kg.same hR (.int _ _) h);simp only[AOp.run,hv.int_inv,hw.int_inv,cB0,aB]
 congr 3
 split<;>omega
theorem cT7 (hR:ga c)(he:cf c e ea){x z:Operand}{kd kd':IntKind}{a b:Int}(hx:ev e x= .int kd a)(hz:ev e z= .int kd' b)(h:k (.int kd (min a b)) c.S=C y):cz T (.least x z) ea c.Y (kg c d k y):=by
 have hv:=da he x;have hw:=da he z;rw[hx]at hv;rw[hz]at hw;refine dj (v:= .int kd (min a b)) ?_ (kg.same hR (.int _ _) h);simp only[AOp.run,hv.int_inv,hw.int_inv,ce1,aB]
 congr 3
 split<;>omega
end
end
end Go.V
