/- A part of the proofs of this claim: what functions of the program answer on an abstract machine, and plain laws. No condition. -/
import Derived.Test.YtabdgoepkddlbaaGreatA2
set_option linter.unusedVariables false
set_option linter.unusedSimpArgs false
set_option linter.unusedSectionVars false
namespace Go.V
open Go.Ab
open Option renaming some->Y,none->Z
open Bool renaming true->Za,false->Zb
open Decidable renaming decide->Zc
section
open List renaming replicate -> bD
open Nat renaming beq -> aB, ble -> aD
open Option renaming none -> bB
inductive Sh where
 |int (k:IntKind)
 |bool
 |str
 |list (s:Sh)
 |pair (a b:Sh)
 deriving DecidableEq
@[reducible] def El :Sh->Type
 | .int _=>Int
 | .bool=>Bool
 | .str=>Zd
 | .list s=>List (El s)
 | .pair a b=>El a×El b
def Sh.w :Sh->Nat
 | .pair a b=>a.w+b.w
 |_=>1
inductive VV where
 |undef
 |bool (b:Bool)
 |int (k:IntKind) (n:Int)
 |str (l:Zd)
 |nilp
 |nils
 |nilf
 |ptr (k o:Nat)
 |pix (k o n i:Nat)
 |pel (k i o:Nat)
 |pin (s:Sh) (x:El s) (o:Nat)
 |lst (s:Sh) (l:List (El s))
 |tgt (s:Sh) (l:List (El s))
 |full (k:Nat)
 |part (k lo n:Nat)
 |it (k:Nat) (l:Zd)
 |bld (k:Nat)
 |fn (f:Nat) (a c:List VV)
 |agg (l:List VV)
 |tup (l:List VV)
inductive Blk where
 |dead
 |cells (es:Nat) (fz:Bool) (l:List VV)
 |arr (s:Sh) (fz:Bool) (l:List (El s))
abbrev ai :=List Blk
abbrev cz :=List VV
def sr :cz->Nat->VV
 |[],_=> .undef
 |v::_,0=>v
 |_::r,n+1=>sr r n
def vI :cz->Nat->VV->cz
 |[],0,v=>[v]
 |[],n+1,v=> .undef::vI [] n v
 |_::r,0,v=>v::r
 |a::r,n+1,v=>a::vI r n v
def putO (e:cz)(d:Option Nat)(v:VV):cz:=match d with
 |some d=>vI e d v
 |none=>e
def ae :ai->Nat->Blk
 |[],_=> .dead
 |b::_,0=>b
 |_::r,n+1=>ae r n
def qj :ai->Nat->Blk->ai
 |[],_,_=>[]
 |_::r,0,b=>b::r
 |a::r,n+1,b=>a::qj r n b
def nth {α:Type}:List α->Nat->Option α
 |[],_=>Z
 |v::_,0=>Y v
 |_::r,n+1=>nth r n
def lh (s:ByteArray):Zd:=s.data.toList.map λb=>(b.toNat:Int)
def bI2 :Value->VV
 | .bool b=> .bool b
 | .int k n=> .int k n
 | .string s=> .str (lh s)
 | .pointer Z=> .nilp
 | .slice Z 0 0=> .nils
 | .nilFunc=> .nilf
 |_=> .undef
def ofC :Value->VV
 | .agg cs=> .agg (cs.toList.map bI2)
 |v=>bI2 v
def ev (e:cz):Operand->VV
 | .tmp t=>sr e t
 | .const v=>ofC v
 | .func f=> .fn f [] []
 | .global _=> .undef
def dF8 :VV->Bool
 | .undef| .agg _| .tup _=>Zb
 |_=>Za
def sT :VV->List VV
 | .agg l=>l
 |v=>[v]
def db :(s:Sh)->El s->List VV
 | .int k,n=>[.int k n]
 | .bool,b=>[.bool b]
 | .str,l=>[.str l]
 | .list s,l=>[.lst s l]
 | .pair a b,x=>db a x.1++db b x.2
def gh (s:Sh)(l:List (El s)):List VV:=l.flatMap (db s)
def uy (s' s:Sh)(x:El s'):Option (El s):=if h:s'=s then Y (h▸x)else Z
def bD4 {α:Type}(f:List VV->Option (α×List VV)):Nat->List VV->Option (List α)
 |_,[]=>Y []
 |0,_::_=>Z
 |n+1,v::l=>(f (v::l)).bind λp=>(bD4 f n p.2).bind λr=>Y (p.1::r)
def Blk.frozen :Blk->Bool
 | .dead=>Za
 | .cells _ z _=>z
 | .arr _ z _=>z
def ai8 (s:Sh)(f:List VV->Option (El s×List VV)):Blk->Option (List (El s))
 | .dead=>Z
 | .arr s' _ l=>uy (.list s') (.list s) l
 | .cells es _ l=>bif aB es s.w then bD4 f l.length l else Z
def ba1 (S:ai)(s:Sh)(f:List VV->Option (El s×List VV)):VV->Option (List (El s))
 | .nils=>Y []
 | .lst s' l=>uy (.list s') (.list s) l
 | .full k=>ai8 s f (ae S k)
 | .part k lo n=>(ai8 s f (ae S k)).bind λl=>Y ((l.drop lo).take n)
 |_=>Z
def cs2 (S:ai)(s:Sh)(f:List VV->Option (El s×List VV)):VV->Option (List (El s))
 | .full k=>bif (ae S k).frozen then ba1 S s f (.full k)else Z
 | .part k lo n=>bif (ae S k).frozen then ba1 S s f (.part k lo n)else Z
 |v=>ba1 S s f v
def oj (S:ai):(s:Sh)->List VV->Option (El s×List VV)
 | .int k, .int k' n::r=>bif Zc (k'=k)then Y (n,r)else Z
 | .bool, .bool b::r=>Y (b,r)
 | .str, .str l::r=>Y (l,r)
 | .list s,v::r=>(cs2 S s (oj S s) v).bind λl=>Y (l,r)
 | .pair a b,l=>(oj S a l).bind λp=>(oj S b p.2).bind λq=>Y ((p.1,q.1),q.2)
 |_,_=>Z
def cV2 (S:ai)(s:Sh)(v:VV):Option (List (El s)):=ba1 S s (oj S s) v
def Blk.freeze :Blk->Blk
 | .dead=> .dead
 | .cells es _ l=> .cells es Za l
 | .arr s _ l=> .arr s Za l
def fzv :Nat->ai->VV->ai
 |0,S,_=>S
 |n+1,S,v=>match v with
  | .full k=>(match ae S k with
   | .cells es _ l=>l.foldl (fzv n) (qj S k (.cells es Za l))
   |b=>qj S k b.freeze)
  | .part k _ _=>(match ae S k with
   | .cells es _ l=>l.foldl (fzv n) (qj S k (.cells es Za l))
   |b=>qj S k b.freeze)
  |_=>S
def fzL (S:ai)(l:List VV):ai:=l.foldl (fzv 3) S
def dQ1 (S:ai):VV->ai
 | .full k=>(match ae S k with
  | .cells _ _ l=>fzL S l
  |_=>S)
 | .part k _ _=>(match ae S k with
  | .cells _ _ l=>fzL S l
  |_=>S)
 |_=>S
section
variable {β:Type}
def gd (b:Bool)(x:Option β):Option β:=cond b x Z
def ix (i:Int)(n:Nat):Option Nat:=cond (Zc (0<=i)&&Zc (i<n)) (Y i.toNat) Z
def rd {α:Type}(l:List α)(i:Int):Option α:=cond (Zc (0<=i)) l[i.toNat]? Z
def du4 (p:Bool):VV->VV->Option VV
 | .int k x, .int k' y=>cond (Zc (k=k')) (Y (.int k (cond p x y))) Z
 | .bool x, .bool y=>Y (.bool (cond p x y))
 | .str x, .str y=>Y (.str (cond p x y))
 |_,_=>Z
def dr7 (p:Bool)(x y:VV)(S:ai)(k:VV->ai->Option β):Option β:=match du4 p x y with
 |some v=>k v S
 |none=>cond p (k x S) (k y S)
def bS6 :IntKind->List VV->Option (Zd)
 |_,[]=>Y []
 |k, .int k' n::r=>cond (Zc (k'=k)) ((bS6 k r).bind λl=>Y (n::l)) Z
 |_,_=>Z
def bQ2 :List VV->Option (List Bool)
 |[]=>Y []
 | .bool b::r=>(bQ2 r).bind λl=>Y (b::l)
 |_=>Z
def cG7 :List VV->Option (List (Zd))
 |[]=>Y []
 | .str b::r=>(cG7 r).bind λl=>Y (b::l)
 |_=>Z
def cW4 (S:ai)(k:VV->ai->Option β):List VV->Nat->Option β
 |[],_=>Z
 |v::r,i=>cond (aB i 0) (k v S) (cW4 S k r (i-1))
def cy9 (cs:List VV)(i:Nat)(S:ai)(k:VV->ai->Option β):Option β:=match cs with
 | .int kd n::r=>(match bS6 kd r with
  |some l=>k (.int kd ((n::l).getD i 0)) S
  |none=>Z)
 | .bool b::r=>(match bQ2 r with
  |some l=>k (.bool ((b::l).getD i Zb)) S
  |none=>Z)
 | .str b::r=>(match cG7 r with
  |some l=>k (.str ((b::l).getD i [])) S
  |none=>Z)
 |cs=>cW4 S k cs i
def bW3 (v:VV):List VV->Nat->Nat->Option (List VV)
 |[],_,_=>Y []
 |c::r,i,j=>(du4 (aB i j) v c).bind λx=>(bW3 v r i (j+1)).bind λl=>Y (x::l)
def dH3 (cells:List VV)(o:Nat):List VV->List VV
 |[]=>cells
 |v::vs=>dH3 (cells.set o v) (o+1) vs
def bD9 (cells:List VV):List (Nat×Nat×VV)->Option (List VV)
 |[]=>Y cells
 |(off,size,v)::rest=>
  cond (aB (sT v).length size&&aD (off+size) cells.length&&(sT v).all dF8) (bD9 (cells.take off++sT v++cells.drop (off+size)) rest) Z
def az3 (e:cz)(l:List (Nat×Nat×Operand)):List (Nat×Nat×VV):=l.map λ(o,s,x)=>(o,s,ev e x)
def ux (l:List VV):Bool:=l.all dF8
def ch9 (S:ai)(n:Nat)(agg:Bool)(a:VV)(k:VV->ai->Option β):Option β:=
 let out (cs:List VV) (o:Nat):Option β:=cond agg (gd (aD (o+n) cs.length) (k (.agg ((cs.drop o).take n)) S)) (match nth cs o with
  |some v=>k v S
  |none=>Z)
 match a with
 | .ptr b o=>(match ae S b with
  | .cells _ _ l=>out l o
  |_=>Z)
 | .pix b o m i=>(match ae S b with
  | .cells _ _ l=>gd (!agg&&aD (o+m) l.length) (cy9 ((l.drop o).take m) i S k)
  |_=>Z)
 | .pel b i o=>(match ae S b with
  | .arr s _ l=>(l[i]?).bind λx=>out (db s x) o
  |_=>Z)
 | .pin s x o=>out (db s x) o
 |_=>Z
def cQ8 (S:ai)(a:VV)(cs:List VV)(k:ai->Option β):Option β:=match a with
 | .ptr b o=>(match ae S b with
  | .cells es Zb l=>gd (aD (o+cs.length) l.length) (k (qj S b (.cells es Zb (dH3 l o cs))))
  |_=>Z)
 | .pix b o m i=>(match ae S b,cs with
  | .cells es Zb l,[v]=>gd (aD (o+m) l.length) (match bW3 v ((l.drop o).take m) i 0 with
   |some l'=>k (qj S b (.cells es Zb (l.take o++l'++l.drop (o+m))))
   |none=>Z)
  |_,_=>Z)
 | .pel b i o=>(match ae (fzL S cs) b with
  | .arr s Zb l=>(l[i]?).bind λx=>(match oj (fzL S cs) s (dH3 (db s x) o cs)with
   |some (y,[])=>gd (aD (o+cs.length) s.w) (k (qj (fzL S cs) b (.arr s Zb (l.set i y))))
   |_=>Z)
  |_=>Z)
 |_=>Z
def ae8 (k:IntKind)(f:BitVec k.bits->BitVec k.bits->BitVec k.bits)(x y:Int):Int:=k.wrap (f (BitVec.ofInt k.bits x) (BitVec.ofInt k.bits y)).toNat
def cK8 (op:BinOp)(kd:IntKind)(x y:Int)(k:VV->Option β):Option β:=match op with
 | .add=>k (.int kd (kd.wrap (x+y)))
 | .sub=>k (.int kd (kd.wrap (x-y)))
 | .mul=>k (.int kd (kd.wrap (x*y)))
 | .quo=>gd (Zc (y≠0)) (k (.int kd (kd.wrap (x.tdiv y))))
 | .rem=>gd (Zc (y≠0)) (k (.int kd (x.tmod y)))
 | .and=>k (.int kd (ae8 kd (· &&& ·) x y))
 | .or=>k (.int kd (ae8 kd (· ||| ·) x y))
 | .xor=>k (.int kd (ae8 kd (· ^^^ ·) x y))
 | .andNot=>k (.int kd (ae8 kd (λa b=>a&&& ~~~b) x y))
 | .eql=>k (.bool (Zc (x=y)))
 | .neq=>k (.bool (Zc (x≠y)))
 | .lss=>k (.bool (Zc (x<y)))
 | .leq=>k (.bool (Zc (x<=y)))
 | .gtr=>k (.bool (Zc (y<x)))
 | .geq=>k (.bool (Zc (y<=x)))
 |_=>Z
def du7 (op:BinOp)(kd:IntKind)(x y:Int)(k:VV->Option β):Option β:=match op with
 | .shl=>gd (Zc (0<=y)) (k (.int kd (kd.wrap (x*2 ^ (min y.toNat kd.bits)))))
 | .shr=>gd (Zc (0<=y)) (k (.int kd (x.fdiv (2 ^ (min y.toNat kd.bits)))))
 |_=>Z
def ea7 (a b:Nat):Bool:=aD (a+b) 9223372036854775807
def eb4 (op:BinOp)(x y:Zd)(k:VV->Option β):Option β:=match op with
 | .add=>gd (ea7 x.length y.length) (k (.str (x++y)))
 | .eql=>k (.bool (Zc (x=y)))
 | .neq=>k (.bool (Zc (x≠y)))
 |_=>Z
def dO8 (op:BinOp)(x y:VV)(k:VV->Option β):Option β:=match x,y with
 | .int kx a, .int ky b=>cond (zV op) (du7 op kx a b k) (cond (Zc (kx=ky)) (cK8 op kx a b k) Z)
 | .str a, .str b=>cond (zV op) Z (eb4 op a b k)
 |_,_=>Z
def dp4 (neg p:Bool):Bool:=cond neg (!p) p
def Blk.live :Blk->Bool
 | .dead=>Zb
 |_=>Za
def bS7 (S:ai):VV->Bool
 | .ptr k _=>(ae S k).live
 | .pix k _ _ _=>(ae S k).live
 | .pel k _ _=>(ae S k).live
 | .pin _ _ _=>Za
 |_=>Zb
def dP7 (S:ai):Nat->VV->VV->Option Bool
 |0, .bool a, .bool b=>Y (a==b)
 |1, .nilp, .nilp=>Y Za
 |1, .nilp,v=>cond (bS7 S v) (Y Zb) Z
 |1,v, .nilp=>cond (bS7 S v) (Y Zb) Z
 |2, .nils, .nils=>Y Za
 |3, .nilf, .nilf=>Y Za
 |3, .nilf, .fn _ _ _=>Y Zb
 |3, .fn _ _ _, .nilf=>Y Zb
 |_,_,_=>Z
def dc0 :Nat->VV->VV->Option Bool
 |0, .bool a, .bool b=>Y (a==b)
 |1, .int k a, .int k' b=>cond (Zc (k=k')) (Y (Zc (a=b))) Z
 |2, .str a, .str b=>Y (Zc (a=b))
 |_,_,_=>Z
def cc9 :List Nat->List VV->List VV->Option Bool
 |[],[],[]=>Y Za
 |[k],[a],[b]=>dc0 k a b
 |k::ks,a::r,b::s=>(dc0 k a b).bind λp=>(cc9 ks r s).bind λq=>Y (p&&q)
 |_,_,_=>Z
def unK (op:UnOp)(x:VV)(k:VV->Option β):Option β:=match op,x with
 | .neg, .int kd n=>k (.int kd (kd.wrap (0-n)))
 | .xor, .int kd n=>k (.int kd (kd.wrap (BitVec.ofInt kd.bits (if kd.signed then-1 else kd.max) ^^^ BitVec.ofInt kd.bits n).toNat))
 | .not, .bool b=>k (.bool !b)
 |_,_=>Z
def cg4 :VV->Option Int
 | .int _ n=>Y n
 |_=>Z
def lenOf (S:ai):VV->Option Nat
 | .nils=>Y 0
 | .lst _ l=>Y l.length
 | .full b=>(match ae S b with
  | .arr _ _ l=>Y l.length
  | .cells es _ l=>Y (l.length / es)
  | .dead=>Z)
 | .part b _ n=>cond (ae S b).live (Y n) Z
 | .str l=>Y l.length
 |_=>Z
def cA1 {α:Type}(l:List α)(lo hi:Int):List α:=(l.take hi.toNat).drop lo.toNat
def ba2 :Option VV->Option Int
 |none=>Y 0
 |some v=>cg4 v
def ao9 (n:Nat):Option VV->Option Int
 |none=>Y n
 |some v=>cg4 v
def i5 (lo hi:Int)(n:Nat):Bool:=Zc (0<=lo)&&Zc (lo<=hi)&&Zc (hi<=n)
def cQ4 (S:ai)(es:Nat)(x:VV)(lo hi:Option VV)(k:VV->ai->Option β):Option β:=
 match lenOf S x with
 |none=>Z
 |some n=>match ba2 lo,ao9 n hi with
  |some a,Y b=>(match x with
   | .nils=>gd (i5 a b n) (k .nils S)
   | .lst s l=>gd (aB es s.w) (match lo,hi with
    |none,Z=>k (.lst s l) S
    |_,_=>gd (i5 a b n) (k (.lst s (cA1 l a b)) S))
   | .full q=>(match ae S q with
    | .arr s _ _=>gd (aB es s.w) (gd (i5 a b n) (k (.part q a.toNat (b.toNat-a.toNat)) S))
    | .cells es' _ _=>gd (aB es es'&&aD 1 es) (gd (i5 a b n) (k (.part q a.toNat (b.toNat-a.toNat)) S))
    | .dead=>Z)
   | .part q o _=>(match ae S q with
    | .arr s _ _=>gd (aB es s.w) (gd (i5 a b n) (k (.part q (o+a.toNat) (b.toNat-a.toNat)) S))
    | .cells es' _ _=>gd (aB es es'&&aD 1 es) (gd (i5 a b n) (k (.part q (o+a.toNat) (b.toNat-a.toNat)) S))
    | .dead=>Z)
   |_=>Z)
  |_,_=>Z
def bB0 (S:ai)(es n:Nat)(x:VV)(lo hi:Option VV)(k:VV->ai->Option β):Option β:=match x with
 | .ptr b o=>(match ae S b with
  | .cells es' Zb l=>(match ba2 lo,ao9 n hi with
   |some a,Y c=>gd (aB es es'&&aD 1 es&&aB (o % es) 0&&aD (o+n*es) l.length&&i5 a c n&&Zc (a<n)) (k (.part b (o / es+a.toNat) (c.toNat-a.toNat)) S)
   |_,_=>Z)
  | .arr s Zb l=>(match ba2 lo,ao9 n hi with
   |some a,Y c=>gd (aB es s.w&&aB o 0&&aD n l.length&&i5 a c n&&Zc (a<n)) (k (.part b a.toNat (c.toNat-a.toNat)) S)
   |_,_=>Z)
  |_=>Z)
 |_=>Z
def dQ8 :Value->Bool
 | .int .u8 n=>Zc (n=0)
 |_=>Zb
def cL5 (es:Nat)(z:List Value):Bool:=aB es 1&&aD 20 z.length&&z.all dQ8
def aY7 (es:Nat)(z:List Value):Blk:=cond (cL5 es z) (.arr (.int .u8) Zb (bD z.length (0:Int))) (.cells es Zb (z.map bI2))
def dE8 (S:ai)(n:Nat):VV->Option VV
 | .ptr b o=>cond (ae S b).live (Y (.ptr b (o+n))) Z
 | .pel b i o=>cond (ae S b).live (Y (.pel b i (o+n))) Z
 | .pin s x o=>Y (.pin s x (o+n))
 | .pix b o m i=>cond (ae S b).live (cond (aB n 0) (Y (.pix b o m i)) Z) Z
 |_=>Z
def dD2 (S:ai)(es:Nat)(x i:VV)(k:VV->ai->Option β):Option β:=match i with
 | .int _ i=>(match x with
  | .lst s l=>gd (aB es s.w) ((rd l i).bind λy=>k (.pin s y 0) S)
  | .full b=>(match ae S b with
   | .arr s _ l=>gd (aB es s.w) ((ix i l.length).bind λj=>k (.pel b j 0) S)
   | .cells es' _ l=>gd (aB es es'&&aD 1 es) ((ix i (l.length / es)).bind λj=>cond (aB es 1) (k (.pix b 0 l.length j) S) (k (.ptr b (j*es)) S))
   | .dead=>Z)
  | .part b o n=>(match ae S b with
   | .arr s _ _=>gd (aB es s.w) ((ix i n).bind λj=>k (.pel b (o+j) 0) S)
   | .cells es' _ _=>gd (aB es es'&&aD 1 es) ((ix i n).bind λj=>cond (aB es 1) (k (.pix b o n j) S) (k (.ptr b ((o+j)*es)) S))
   | .dead=>Z)
  |_=>Z)
 |_=>Z
def cU5 (S:ai)(ln es:Nat)(x i:VV)(k:VV->ai->Option β):Option β:=match x,i with
 | .ptr b o, .int _ i=>gd (ae S b).live ((ix i ln).bind λj=>cond (aB es 1) (k (.pix b o ln j) S) (k (.ptr b (o+j*es)) S))
 |_,_=>Z
def aC6 (l:List VV)(a n:Nat):List VV:=(l.drop a).take n
def mj (n bytes:Nat):Bool:=Zc (n*bytes<=140737488355328)&&aD 1 bytes
inductive Base where
 |none
 |cells (es:Nat) (l:List VV)
 |arr (s:Sh) (l:List (El s))
def ay8 (S:ai)(es:Nat):VV->Option (Base×Option Nat)
 | .nils=>Y (.none,Z)
 | .full b=>(match ae S b with
  | .arr s Zb l=>cond (aB es s.w) (Y (.arr s l,Y b)) bB
  | .cells es' Zb l=>cond (aB es es'&&aD 1 es) (Y (.cells es l,Y b)) bB
  |_=>bB)
 | .part b 0 n=>(match ae S b with
  | .arr s Zb l=>cond (aB es s.w) (Y (.arr s (l.take n),Y b)) bB
  | .cells es' Zb l=>cond (aB es es'&&aD 1 es) (Y (.cells es (l.take (n*es)),Y b)) bB
  |_=>bB)
 |_=>bB
inductive More where
 |cells (l:List VV)
 |lst (s:Sh) (l:List (El s))
def bA1 (S:ai)(es:Nat):VV->Option More
 | .nils=>Y (.cells [])
 | .lst s l=>cond (aB es s.w) (Y (.lst s l)) Z
 | .str l=>cond (aB es 1) (Y (.lst (.int .u8) l)) Z
 | .full b=>(match ae S b with
  | .arr s _ l=>cond (aB es s.w) (Y (.lst s l)) Z
  | .cells es' _ l=>cond (aB es es'&&aD 1 es) (Y (.cells l)) Z
  |_=>Z)
 | .part b o n=>(match ae S b with
  | .arr s _ l=>cond (aB es s.w) (Y (.lst s ((l.drop o).take n))) Z
  | .cells es' _ l=>cond (aB es es'&&aD 1 es) (Y (.cells ((l.drop (o*es)).take (n*es)))) Z
  |_=>Z)
 |_=>Z
def wy (S:ai):Option Nat->ai
 |none=>S
 |some b=>qj S b .dead
def cY1 (S:ai)(s:Sh)(l:List VV):Option (List (El s)):=bD4 (oj S s) l.length l
def cB6 (S:ai)(bytes:Nat)(s:Sh)(kill:Option Nat)(a b:List (El s))(k:VV->ai->Option β):Option β:=
 gd (mj (a.length+b.length) bytes) (k (.full S.length) (wy S kill++[.arr s Zb (a++b)]))
def bJ2 (S:ai)(es bytes:Nat)(bo:Option (Base×Option Nat))(mo:Option More)(k:VV->ai->Option β):Option β:=
 match bo,mo with
 |some (.arr s l,kill),Y (.lst s' l')=>(uy (.list s') (.list s) l').bind λl2=>cB6 S bytes s kill l l2 k
 |some (.arr s l,kill),Y (.cells cs)=>(match ae (fzL S cs) (kill.getD 0)with
  | .arr _ Zb _=>(cY1 (fzL S cs) s cs).bind λl2=>cB6 (fzL S cs) bytes s kill l l2 k
  |_=>Z)
 |some (.cells _ l,kill),Y (.lst s l')=>(match ae (fzL S l) (kill.getD 0)with
  | .cells _ Zb _=>(cY1 (fzL S l) s l).bind λl1=>cB6 (fzL S l) bytes s kill l1 l' k
  |_=>Z)
 |some (.none,kill),Y (.lst s l')=>cB6 S bytes s kill [] l' k
 |some (.cells es l,kill),Y (.cells cs)=>gd (mj ((l.length+cs.length) / es) bytes&&ux cs) (k (.full S.length) (wy S kill++[.cells es Zb (l++cs)]))
 |some (.none,kill),Y (.cells cs)=>gd (mj (cs.length / es) bytes&&aD 1 es&&ux cs) (k (.full S.length) (wy S kill++[.cells es Zb cs]))
 |_,_=>Z
def cp3 (S:ai)(es bytes:Nat)(x y:VV)(k:VV->ai->Option β):Option β:=bJ2 S es bytes (ay8 S es x) (bA1 S es y) k
def bX0 (S:ai):VV->Option (ai×Base)
 | .lst s l=>Y (S, .arr s l)
 | .full q=>(match ae S q with
  | .arr s _ l=>Y (qj S q (ae S q).freeze, .arr s l)
  |_=>Z)
 |_=>Z
def cu3 (S:ai)(x hi mx:VV)(k:VV->ai->Option β):Option β:=match hi,mx with
 | .int _ h, .int _ m=>gd (Zc (h=m)) (match x with
  | .nils=>gd (Zc (h=0)) (k .nils S)
  |v=>(match bX0 S v with
   |some (S1, .arr s l)=>gd (i5 0 h l.length) (k (.tgt s (l.take h.toNat)) S1)
   |_=>Z))
 |_,_=>Z
def cR2 (S:ai)(es bytes:Nat)(s:Sh)(l:List (El s))(mo:Option More)(k:VV->ai->Option β):Option β:=match mo with
 |some (.lst s' l')=>(uy (.list s') (.list s) l').bind λl2=>gd (aB es s.w&&aD 1 l2.length) (cB6 S bytes s Z l l2 k)
 |some (.cells cs)=>(cY1 (fzL S cs) s cs).bind λl2=>gd (aB es s.w&&aD 1 l2.length) (cB6 (fzL S cs) bytes s Z l l2 k)
 |none=>Z
def bP1 (S:ai)(es bytes:Nat)(x y:VV)(k:VV->ai->Option β):Option β:=match x with
 | .tgt s l=>cR2 S es bytes s l (bA1 S es y) k
 |x=>cp3 S es bytes x y k
def aC3 {α:Type}(l:List α)(o n:Nat)(m:List α):List α:=l.take o++(m.take n++l.drop (o+min n m.length))
def bt9 (kd:IntKind)(m:Zd):Nat->List VV->Option (List VV)
 |_,[]=>Y []
 |j, .int k n::r=>cond (Zc (k=kd)) ((bt9 kd m (j+1) r).bind λl=>Y (.int k (m.getD j n)::l)) Z
 |_,_=>Z
def dk6 (S:ai)(es:Nat)(d y:VV)(k:VV->ai->Option β):Option β:=
 let go (b o n:Nat):Option β:=match ae S b,bA1 S es y with
  | .arr s Zb l,Y (.lst s' l')=>(uy (.list s') (.list s) l').bind λl2=>gd (aB es s.w) (k (.int .i64 (min l2.length n:Nat)) (qj S b (.arr s Zb (aC3 l o n l2))))
  | .arr s Zb l,Y (.cells cs)=>(bS6 .u64 cs).bind λm=>(uy (.list (.int .u64)) (.list s) m).bind λl2=>gd (aB es s.w) (k (.int .i64 (min l2.length n:Nat)) (qj S b (.arr s Zb (aC3 l o n l2))))
  | .cells 1 Zb l,Y (.lst (.int kd) m)=>gd (aB es 1&&aD (o+n) l.length) (match bt9 kd m 0 ((l.drop o).take n)with
   |some c=>k (.int .i64 (min m.length n:Nat)) (qj S b (.cells 1 Zb (l.take o++c++l.drop (o+n))))
   |none=>Z)
  |_,_=>Z
 match d with
 | .full b=>(match lenOf S d with
  |some n=>go b 0 n
  |none=>Z)
 | .part b o n=>go b o n
 |_=>Z
def bE6 :List Value->Option Sh
 |[.int k 0]=>Y (.int k)
 |[.bool Zb]=>Y .bool
 | .int k 0::r=>(bE6 r).bind λs=>Y (.pair (.int k) s)
 | .bool Zb::r=>(bE6 r).bind λs=>Y (.pair .bool s)
 |_=>Z
def yC :(s:Sh)->El s
 | .int _=>(0:Int)
 | .bool=>Zb
 | .str=>[]
 | .list _=>[]
 | .pair a b=>(yC a,yC b)
def do9 (S:ai)(es bytes:Nat)(z:List Value)(l c:VV)(k:VV->ai->Option β):Option β:=match l,c,bE6 z with
 | .int _ l, .int _ c,Y s=>gd (aB es s.w&&Zc (0<=l)&&Zc (l<=c)&&Zc (bytes*c<=140737488355328)&&aD 1 bytes) (k (.full S.length) (S++[.arr s Zb (bD l.toNat (yC s))]))
 |_,_,_=>Z
def cI3 (es:Nat)(z:List Value)(l:Int):Option More:=match bE6 z with
 |some s=>cond (aB es s.w) (Y (.lst s (bD l.toNat (yC s)))) Z
 |none=>Z
def rZ (bytes:Nat)(l:Int):Bool:=Zc (0<=l)&&(Zc (l<=9223372036854775807)&&Zc (l*(bytes:Int)<=281474976710656))
def bP2 (S:ai)(es bytes:Nat)(z:List Value)(x l:VV)(k:VV->ai->Option β):Option β:=match l with
 | .int _ l=>gd (rZ bytes l) (bJ2 S es bytes (ay8 S es x) (cI3 es z l) k)
 |_=>Z
end
end
section
open List renaming replicate -> bB
open Nat renaming beq -> aB, ble -> aD
inductive Sk where
 |undef
 |leaf (s:Sh)
 |cint (k:IntKind) (n:Int)
 |nilp
 |nils
 |nilf
 |ptr (j o:Nat)
 |full (j:Nat)
 |pin (s:Sh) (o:Nat)
 |fn (f:Nat) (a c:List Sk)
 |agg (l:List Sk)
 |tup (l:List Sk)
inductive OSk where
 |dead
 |cells (es:Nat) (ro:Bool) (l:List Sk)
 |arr (ro:Bool) (s:Sh)
structure Leaf where
 s:Sh
 v:El s
structure Src where
 k:Nat
 cut:Option Nat
structure DSt where
 m:List (Option Src)
 ls:List Leaf
 lent:List Nat
def DSt.push (st:DSt)(s:Sh)(v:El s):DSt:={st with ls:=st.ls++[⟨s,v⟩]}
def DSt.lend (st:DSt):VV->DSt
 | .full k=>{st with lent:=k::st.lent}
 | .part k _ _=>{st with lent:=k::st.lent}
 |_=>st
def DSt.link (N:Nat)(st:DSt)(j:Nat)(x:Option Src):Option DSt:=
 cond (Nat.blt j N) (match x with
  |some ⟨k,Z⟩=>cond (aB k j) (Y st) Z
  |_=>Z)
 (match nth st.m (j-N)with
 |some (Y ⟨k,Z⟩)=>(match x with
  |some ⟨k',Z⟩=>cond (aB k k') (Y st) Z
  |_=>Z)
 |some _=>Z
 |none=>cond (aB (j-N) st.m.length) (Y {st with m:=st.m++[x]}) Z)
mutual
def dec (S:ai)(N:Nat):Sk->VV->DSt->Option DSt
 | .undef,_,st=>Y st
 | .leaf s,v,st=>(match s,v with
  | .int k, .int k' n=>cond (Zc (k'=k)) (Y (st.push (.int k) n)) Z
  | .bool, .bool b=>Y (st.push .bool b)
  | .str, .str l=>Y (st.push .str l)
  | .list s,v=>(cV2 S s v).bind λl=>Y ((st.lend v).push (.list s) l)
  |_,_=>Z)
 | .cint k n, .int k' n',st=>cond (Zc (k'=k)&&Zc (n'=n)) (Y st) Z
 | .nilp, .nilp,st=>Y st
 | .nils, .nils,st=>Y st
 | .nilf, .nilf,st=>Y st
 | .ptr j o, .ptr k o',st=>cond (aB o o') (st.link N j (Y ⟨k,Z⟩)) Z
 | .full j,v,st=>(match v with
  | .full k=>st.link N j (Y ⟨k,Z⟩)
  | .part k 0 n=>st.link N j (Y ⟨k,Y n⟩)
  | .nils=>st.link N j Z
  |_=>Z)
 | .pin s o, .pin s' x o',st=>cond (aB o o') ((uy s' s x).bind λy=>Y (st.push s y)) Z
 | .fn f a c, .fn f' a' c',st=>cond (aB f f') ((bm6 S N a a' st).bind λst1=>bm6 S N c c' st1) Z
 | .agg l, .agg l',st=>bm6 S N l l' st
 | .tup l, .tup l',st=>bm6 S N l l' st
 |_,_,_=>Z
def bm6 (S:ai)(N:Nat):List Sk->List VV->DSt->Option DSt
 |[],[],st=>Y st
 |k::r,v::r',st=>(dec S N k v st).bind λst1=>bm6 S N r r' st1
 |_,_,_=>Z
end
def bR0 {α:Type}:Option Nat->List α->List α
 |none,l=>l
 |some n,l=>l.take n
def cM1 (S:ai)(N:Nat):OSk->Option Src->DSt->Option DSt
 | .dead,_,st=>Y st
 | .cells es ro l,Y ⟨k,Z⟩,st=>(match ae S k with
  | .cells es' fz cs=>cond (aB es es'&&(ro|| !fz)) (bm6 S N l cs (cond ro {st with lent:=k::st.lent} st)) Z
  |_=>Z)
 | .arr ro s,Z,st=>cond ro Z (Y (st.push (.list s) []))
 | .arr ro s,Y ⟨k,cut⟩,st=>cond (ro|| !(ae S k).frozen) ((cV2 S s (.full k)).bind λl=>Y ((cond ro {st with lent:=k::st.lent} st).push (.list s) (bR0 cut l))) Z
 |_,_,_=>Z
def by8 (S:ai)(N:Nat):List OSk->List Nat->DSt->Option DSt
 |[],[],st=>Y st
 |o::r,j::js,st=>(cM1 S N o (Y ⟨j,Z⟩) st).bind λst1=>by8 S N r js st1
 |_,_,_=>Z
def yv (S:ai)(N:Nat):List OSk->Nat->DSt->Option DSt
 |[],i,st=>cond (aB i st.m.length) (Y st) Z
 |o::r,i,st=>(match nth st.m i with
  |some x=>(cM1 S N o x st).bind λst1=>yv S N r (i+1) st1
  |none=>Z)
def OSk.ro :OSk->Bool
 | .cells _ ro _=>ro
 | .arr ro _=>ro
 | .dead=>Zb
def sA (k:Nat):List Nat->Bool
 |[]=>Zb
 |a::r=>cond (aB a k) Za (sA k r)
def bk1 :List Nat->Bool
 |[]=>Za
 |a::r=>cond (sA a r) Zb (bk1 r)
def ud :List (Option Src)->List Nat
 |[]=>[]
 |none::r=>ud r
 |some x::r=>x.k::ud r
def oc :List OSk->List (Option Src)->List Nat
 |o::r,Y x::s=>cond o.ro (oc r s) (x.k::oc r s)
 |_::r,Z::s=>oc r s
 |_,_=>[]
def aL2 (w:List Nat)(l:List Nat):Bool:=w.all λk=> !sA k l
structure SSk where
 vals:List Sk
 fix:List OSk
 free:List OSk
def uc (S:ai)(N:Nat)(fx:List Nat)(sk:SSk)(vals:List VV):Option DSt:=
 (bm6 S N sk.vals vals ⟨[],[],[]⟩).bind λst=>(by8 S N sk.fix fx st).bind λst1=>(yv S N sk.free 0 st1).bind λst2=>
  cond (bk1 (fx++ud st2.m)&&aL2 (fx++oc sk.free st2.m) st2.lent) (Y st2) Z
mutual
def enc (f:Nat->Nat):Sk->List Leaf->Option (VV×List Leaf)
 | .undef,ls=>Y (.undef,ls)
 | .leaf s,x::ls=>(uy x.s s x.v).bind λ(y:El s)=>Y ((match s,y with
  | .int k,n=> .int k n
  | .bool,b=> .bool b
  | .str,l=> .str l
  | .list s,l=> .lst s l
  | .pair _ _,_=> .undef),ls)
 | .cint k n,ls=>Y (.int k n,ls)
 | .nilp,ls=>Y (.nilp,ls)
 | .nils,ls=>Y (.nils,ls)
 | .nilf,ls=>Y (.nilf,ls)
 | .ptr j o,ls=>Y (.ptr (f j) o,ls)
 | .full j,ls=>Y (.full (f j),ls)
 | .pin s o,x::ls=>(uy x.s s x.v).bind λ(y:El s)=>Y (.pin s y o,ls)
 | .fn g a c,ls=>(cc7 f a ls).bind λp=>(cc7 f c p.2).bind λq=>Y (.fn g p.1 q.1,q.2)
 | .agg l,ls=>(cc7 f l ls).bind λp=>Y (.agg p.1,p.2)
 | .tup l,ls=>(cc7 f l ls).bind λp=>Y (.tup p.1,p.2)
 |_,_=>Z
def cc7 (f:Nat->Nat):List Sk->List Leaf->Option (List VV×List Leaf)
 |[],ls=>Y ([],ls)
 |k::r,ls=>(enc f k ls).bind λp=>(cc7 f r p.2).bind λq=>Y (p.1::q.1,q.2)
end
def cc8 (f:Nat->Nat):OSk->List Leaf->Option (Blk×List Leaf)
 | .dead,ls=>Y (.dead,ls)
 | .cells es ro l,ls=>(cc7 f l ls).bind λp=>Y (.cells es ro p.1,p.2)
 | .arr ro s,x::ls=>(uy x.s (.list s) x.v).bind λl=>Y (.arr s ro l,ls)
 | .arr _ _,[]=>Z
def aO2 (f:Nat->Nat):List OSk->List Leaf->Option (List Blk×List Leaf)
 |[],ls=>Y ([],ls)
 |o::r,ls=>(cc8 f o ls).bind λp=>(aO2 f r p.2).bind λq=>Y (p.1::q.1,q.2)
def vh (f:Nat->Nat)(sk:SSk)(ls:List Leaf):Option (List VV×List Blk×List Blk):=
 (cc7 f sk.vals ls).bind λp=>(aO2 f sk.fix p.2).bind λq=>(aO2 f sk.free q.2).bind λr=>match r.2 with
  |[]=>Y (p.1,q.1,r.1)
  |_::_=>Z
mutual
def Sk.shs :Sk->List Sh
 | .leaf s=>[s]
 | .pin s _=>[s]
 | .fn _ a c=>cQ3 a++cQ3 c
 | .agg l=>cQ3 l
 | .tup l=>cQ3 l
 |_=>[]
def cQ3 :List Sk->List Sh
 |[]=>[]
 |k::r=>k.shs++cQ3 r
end
def OSk.shs :OSk->List Sh
 | .dead=>[]
 | .cells _ _ l=>cQ3 l
 | .arr _ s=>[.list s]
def dT1 :List OSk->List Sh
 |[]=>[]
 |o::r=>o.shs++dT1 r
def SSk.shs (sk:SSk):List Sh:=cQ3 sk.vals++(dT1 sk.fix++dT1 sk.free)
@[reducible] def Tup :List Sh->Type
 |[]=>Unit
 |[s]=>El s
 |s::s'::r=>El s×Tup (s'::r)
def toL :(ss:List Sh)->Tup ss->List Leaf
 |[],_=>[]
 |[s],x=>[⟨s,x⟩]
 |s::s'::r,x=>⟨s,x.1⟩::toL (s'::r) x.2
def ofL :(ss:List Sh)->List Leaf->Option (Tup ss)
 |[],[]=>Y ()
 |[s],[x]=>uy x.s s x.v
 |s::s'::r,x::ls=>(uy x.s s x.v).bind λa=>(ofL (s'::r) ls).bind λb=>Y (a,b)
 |_,_=>Z
inductive XK where
 |normal
 |exit (id:Nat)
 |ret
structure Alt where
 x:XK
 ts:List Nat
 sk:SSk
@[reducible] def Alt.Ty (a:Alt):Type:=Tup a.sk.shs
@[reducible] def ac1 :List Alt->Type
 |[]=>Empty
 |[a]=>a.Ty
 |a::b::r=>a.Ty⊕ac1 (b::r)
def aw {α γ β:Type}(s:α⊕γ)(f:α->Option β)(g:γ->Option β):Option β:=match s with
 | .inl a=>f a
 | .inr b=>g b
def di5 {β:Type}:(l:List Alt)->ac1 l->((a:Alt)->a.Ty->Option β)->Option β
 |[],_,_=>Z
 |[a],t,k=>k a t
 |a::b::r,s,k=>aw s (λt=>k a t) λs'=>di5 (b::r) s' k
def SSk.noRo (sk:SSk):Bool:=sk.fix.all (λo=> !o.ro)&&sk.free.all λo=> !o.ro
def bm7 (S:ai)(N:Nat)(fx:List Nat)(sk:SSk)(vals:List VV):Option (Tup sk.shs):=
 gd sk.noRo ((uc S N fx sk vals).bind λst=>ofL sk.shs st.ls)
def af0 (S:ai)(N:Nat)(fx:List Nat)(vals:List Nat->List VV)(hit:XK->Bool):(l:List Alt)->Option (ac1 l)
 |[]=>Z
 |[a]=>cond (hit a.x) (bm7 S N fx a.sk (vals a.ts)) Z
 |a::b::r=>match cond (hit a.x) (bm7 S N fx a.sk (vals a.ts)) Z with
  |some t=>Y (.inl t)
  |none=>(af0 S N fx vals hit (b::r)).bind λs=>Y (.inr s)
def Sh.al :Sh->Bool
 | .list _=>Za
 | .pair a b=>a.al||b.al
 |_=>Zb
mutual
def alV :VV->Bool
 | .lst _ _=>Za
 | .tgt _ _=>Za
 | .pin _ _ _=>Za
 | .fn _ a c=>alL a||alL c
 | .agg l=>alL l
 | .tup l=>alL l
 |_=>Zb
def alL :List VV->Bool
 |[]=>Zb
 |v::r=>alV v||alL r
end
def alB :Blk->Bool
 | .dead=>Zb
 | .cells _ _ l=>alL l
 | .arr s _ _=>s.al
def aO1 (vs:List VV)(fs bs:List Blk):Bool:=alL vs||fs.any alB||bs.any alB
def Blk.may :Blk->Bool
 | .dead=>Za
 | .cells _ z _=> !z
 | .arr _ z _=> !z
def bI3 (S:ai)(fx:List Nat):Bool:=fx.all λj=>Nat.blt j S.length&&(ae S j).may
structure FSum where
 f:Nat
 vals:List Sk
 objs:List OSk
 outs:List Alt
 run:Tup (SSk.shs ⟨vals,[],objs⟩)->Option (ac1 outs)
def FSum.ins (F:FSum):SSk:=⟨F.vals,[],F.objs⟩
def yy :List OSk->Nat->List Nat
 |[],_=>[]
 |o::r,i=>cond o.ro (yy r (i+1)) (i::yy r (i+1))
def ae6 (m:List (Option Src))(n size j:Nat):Nat:=cond (Nat.blt j n) (match nth m j with
 |some (Y x)=>x.k
 |_=>size) (size+(j-n))
def ad2 :List Nat->List Blk->ai->Option ai
 |[],[],S=>Y S
 |j::js,b::bs,S=>ad2 js bs (qj S j b)
 |_,_,_=>Z
def dm8 :Sk->VV->ai->ai
 | .leaf (.list (.list _)),v,S=>dQ1 S v
 |_,_,S=>S
def aZ7 :List Sk->List VV->ai->ai
 |k::r,v::vs,S=>aZ7 r vs (dm8 k v S)
 |_,_,S=>S
def aO4 :List Nat->ai->ai
 |[],S=>S
 |k::r,S=>aO4 r (qj S k (ae S k).freeze)
def dK8 {β:Type}(F:FSum)(t:Tup F.ins.shs)(st:DSt)(S:ai)(k:VV->ai->Option β):Option β:=
 (F.run t).bind λo=>di5 F.outs o λa u=>match vh (ae6 st.m F.objs.length S.length) a.sk (toL a.sk.shs u)with
  |some ([v],fs,bs)=>(match ad2 (oc F.objs st.m) fs (cond (aO1 [v] fs bs) (aO4 st.lent S) S)with
   |some S'=>k v (S'++bs)
   |none=>Z)
  |_=>Z
def ch2 :List (Option Src)->Bool
 |[]=>Za
 |some ⟨_,Z⟩::r=>ch2 r
 |_=>Zb
def bQ9 {β:Type}:List FSum->Nat->List VV->ai->(VV->ai->Option β)->Option β
 |[],_,_,_,_=>Z
 |F::r,f,args,S,k=>cond (aB F.f f) (match uc (aZ7 F.vals args S) 0 [] F.ins args with
  |some st=>(match ofL F.ins.shs st.ls with
   |some t=>gd (ch2 st.m&&bI3 (aZ7 F.vals args S) (oc F.objs st.m)) (dK8 F t st (aZ7 F.vals args S) k)
   |none=>bQ9 r f args S k)
  |none=>bQ9 r f args S k) (bQ9 r f args S k)
structure Inl where
 f:Nat
 run:(β:Type)->List VV->ai->(VV->ai->Option β)->Option β
structure Tab where
 fs:List FSum
 is:List Inl
def dC7 :List Inl->Nat->Bool
 |[],_=>Zb
 |I::r,f=>cond (aB I.f f) Za (dC7 r f)
def cT0 {β:Type}:List Inl->Nat->List VV->ai->(VV->ai->Option β)->Option β
 |[],_,_,_,_=>Z
 |I::r,f,args,S,k=>cond (aB I.f f) (I.run β args S k) (cT0 r f args S k)
def cT1 {β:Type}(tab:Tab)(f:Nat)(args:List VV)(S:ai)(k:VV->ai->Option β):Option β:=
 cond (dC7 tab.is f) (cT0 tab.is f args S k) (bQ9 tab.fs f args S k)
def bP9 :Nat->List Nat
 |0=>[]
 |n+1=>n::bP9 n
def de5 {β:Type}(S:ai)(x:Option VV)(k:VV->ai->Option β):Option β:=match x with
 |some v=>k v S
 |none=>Z
def bR6 {β:Type}(tab:Tab)(op:AOp)(e:cz)(S:ai)(k:VV->ai->Option β):Option β:=match op with
 | .move x=>k (ev e x) S
 | .pick c a b=>(match ev e c with
  | .bool p=>dr7 p (ev e a) (ev e b) S k
  |_=>Z)
 | .alloc es z=>gd (aD 1 es) (k (.ptr S.length 0) (S++[aY7 es z]))
 | .box es x=>gd (aD 1 es&&ux (sT (ev e x))) (k (.ptr S.length 0) (S++[.cells es Zb (sT (ev e x))]))
 | .build z ps=>(match bD9 (z.map bI2) (az3 e ps)with
  |some cs=>k (.agg cs) S
  |none=>Z)
 | .buildSlice es ln z ps=>(match bD9 ((bB ln (z.map bI2)).flatten) (az3 e ps)with
  |some cs=>gd (ux cs&&aB (ln*es) cs.length&&aD 1 es) (k (.full S.length) (S++[.cells es Zb cs]))
  |none=>Z)
 | .load x=>ch9 S 1 Zb (ev e x) k
 | .loadN n x=>ch9 S n Za (ev e x) k
 | .store n a x=>gd (aB (sT (ev e x)).length n&&ux (sT (ev e x))) (cQ8 S (ev e a) (sT (ev e x)) λS'=>k .undef S')
 | .nilCheck x=>(match ev e x with
  | .fn f a c=>k (.fn f a c) S
  |v=>gd (bS7 S v) (k v S))
 | .bin op x y=>dO8 op (ev e x) (ev e y) λv=>k v S
 | .eqv kd neg x y=>(match dP7 S kd (ev e x) (ev e y)with
  |some b=>k (.bool (dp4 neg b)) S
  |none=>Z)
 | .eqCells neg ks x y=>(match ev e x,ev e y with
  | .agg a, .agg b=>(match cc9 ks a b with
   |some p=>k (.bool (dp4 neg p)) S
   |none=>Z)
  |_,_=>Z)
 | .un op x=>unK op (ev e x) λv=>k v S
 | .conv kd x=>(match cg4 (ev e x)with
  |some n=>k (.int kd (kd.wrap n)) S
  |none=>Z)
 | .mkFunc f a c=>k (.fn f (a.map (ev e)) (c.map (ev e))) S
 | .makeSlice es bytes z l c=>do9 S es bytes z (ev e l) (ev e c) k
 | .slice es x lo hi=>cQ4 S es (ev e x) (lo.map (ev e)) (hi.map (ev e)) k
 | .sliceArr es n x lo hi=>bB0 S es n (ev e x) (lo.map (ev e)) (hi.map (ev e)) k
 | .off n x=>de5 S (dE8 S n (ev e x)) k
 | .idx es x i=>dD2 S es (ev e x) (ev e i) k
 | .idxA ln es x i=>cU5 S ln es (ev e x) (ev e i) k
 | .fieldV o n agg x=>(match ev e x with
  | .agg cs=>cond agg (k (.agg (aC6 cs o n)) S) (de5 S (nth cs o) k)
  |_=>Z)
 | .indexV ln es agg x i=>(match ev e x,ev e i with
  | .agg cs, .int _ i=>(ix i ln).bind λj=>cond agg (k (.agg (aC6 cs (j*es) es)) S) (gd (aB es 1&&aB cs.length ln) (cy9 cs j S k))
  |_,_=>Z)
 | .indexS x i=>(match ev e x,ev e i with
  | .str l, .int _ i=>(rd l i).bind λb=>k (.int .u8 b) S
  |_,_=>Z)
 | .extract x i=>(match ev e x with
  | .tup vs=>de5 S (nth vs i) k
  |_=>Z)
 | .call f xs=>cT1 tab f (xs.map (ev e)) S k
 | .callv x xs=>(match ev e x with
  | .fn f a c=>cT1 tab f (a++xs.map (ev e)++c) S k
  |_=>Z)
 | .append es bytes s x=>bP1 S es bytes (ev e s) (ev e x) k
 | .stuck=>Z
 | .capN x=>(match ev e x with
  | .nils=>k (.int .i64 0) S
  |_=>Z)
 | .sliceX x hi mx=>cu3 S (ev e x) (ev e hi) (ev e mx) k
 | .appendZ es bytes z s x=>bP2 S es bytes z (ev e s) (ev e x) k
 | .copy es d s=>dk6 S es (ev e d) (ev e s) k
 | .len x=>(match ev e x with
  | .str _=>Z
  |v=>(match lenOf S v with
   |some n=>k (.int .i64 n) S
   |none=>Z))
 | .lenC n=>k (.int .i64 n) S
 | .most x y=>(match ev e x,ev e y with
  | .int kd a, .int _ b=>k (.int kd (max a b)) S
  |_,_=>Z)
 | .least x y=>(match ev e x,ev e y with
  | .int kd a, .int _ b=>k (.int kd (min a b)) S
  |_,_=>Z)
section
variable (tab:Tab)
def aZ3 {β:Type}:List AOper->cz->ai->(cz->ai->Option β)->Option β
 |[],e,S,k=>k e S
 |o::r,e,S,k=>match o.guard with
  |none=>bR6 tab o.op e S λv S'=>aZ3 r (putO e o.dst v) S' k
  |some (t,w)=>match sr e t with
   | .bool p=>cond p
    (cond w (bR6 tab o.op (vI e t (.bool Za)) S λv S'=>aZ3 r (putO (vI e t (.bool Za)) o.dst v) S' k) (aZ3 r (putO (vI e t (.bool Za)) o.dst (.tup [])) S k))
    (cond w (aZ3 r (putO (vI e t (.bool Zb)) o.dst (.tup [])) S k) (bR6 tab o.op (vI e t (.bool Zb)) S λv S'=>aZ3 r (putO (vI e t (.bool Zb)) o.dst v) S' k))
   | .tup []=>aZ3 r (putO e o.dst (.tup [])) S k
   |_=>Z
def ao0 :VV->Option Nat
 | .ptr b _=>Y b
 | .it b _=>Y b
 | .bld b=>Y b
 | .pix b _ _ _=>Y b
 | .pel b _ _=>Y b
 | .full b=>Y b
 | .part b _ _=>Y b
 |_=>Z
def di9 (S:ai)(v:VV):Option (Option Nat):=match v with
 | .pin _ _ _| .lst _ _| .nils=>Y Z
 |v=>(match ao0 v with
  |some b=>cond (ae S b).live (Y (Y b)) Z
  |none=>Z)
def dz7 (S:ai)(op:AOp)(e:cz):Option (Option Nat):=match op with
 | .load x| .loadN _ x| .sliceArr _ _ x _ _| .slice _ x _ _=>di9 S (ev e x)
 |_=>Z
def dr4 :Option Nat->List Nat
 |some b=>[b]
 |none=>[]
def zr :List FSum->Nat->List VV->ai->List Nat
 |[],_,_,_=>[]
 |F::r,f,args,S=>cond (aB F.f f) (match uc (aZ7 F.vals args S) 0 [] F.ins args with
  |some st=>(match ofL F.ins.shs st.ls with
   |some _=>oc F.objs st.m
   |none=>zr r f args S)
  |none=>zr r f args S) (zr r f args S)
def cq5 (f:Nat)(args:List VV)(S:ai):List Nat:=cond (dC7 tab.is f) (bP9 S.length) (zr tab.fs f args S)
def bs2 (op:AOp)(e:cz)(S:ai):List Nat:=match op with
 | .store _ a _=>dr4 (ao0 (ev e a))
 | .append _ _ s _=>dr4 (ao0 (ev e s))
 | .appendZ _ _ _ s _=>dr4 (ao0 (ev e s))
 | .copy _ d _=>dr4 (ao0 (ev e d))
 | .call f xs=>cq5 tab f (xs.map (ev e)) S
 | .callv x xs=>(match ev e x with
  | .fn f a c=>cq5 tab f (a++xs.map (ev e)++c) S
  |_=>[])
 |_=>[]
abbrev Chk :=List (Nat×Option (Option Nat))
def bI9 (d:List Nat):Chk->Chk
 |[]=>[]
 |(i,Y (Y b))::r=>(i,cond (sA b d) Z (Y (Y b)))::bI9 d r
 |x::r=>x::bI9 d r
def rY (is:List Nat):Chk->Bool
 |[]=>Za
 |(i,b)::r=>cond (sA i is) (match b with
  |some _=>rY is r
  |none=>Zb) (rY is r)
def bz1 {β:Type}(it:SItem)(chk:Chk)(e:cz)(S:ai)(k:Chk->cz->ai->Option β):Option β:=
 cond it.mover (gd (rY it.chks (bI9 (bs2 tab it.o.op e S) chk)) (bR6 tab it.o.op e S λv S'=>k (bI9 (bs2 tab it.o.op e S) chk) (putO e it.o.dst v) S'))
  (gd (it.o.op.still&&(!it.keep||it.o.op.isLoad)) (bR6 tab it.o.op e S λv S'=>k (cond it.keep ((it.idx,dz7 S it.o.op e)::chk) chk) (putO e it.o.dst v) S'))
def yx {β:Type}:List SItem->Chk->cz->ai->(cz->ai->Option β)->Option β
 |[],_,e,S,k=>k e S
 |it::r,chk,e,S,k=>match it.o.guard with
  |none=>bz1 tab it chk e S λchk' e' S'=>yx r chk' e' S' k
  |some (t,w)=>match sr e t with
   | .bool p=>cond p
    (cond w (bz1 tab it chk (vI e t (.bool Za)) S λchk' e' S'=>yx r chk' e' S' k) (yx r chk (putO (vI e t (.bool Za)) it.o.dst (.tup [])) S k))
    (cond w (yx r chk (putO (vI e t (.bool Zb)) it.o.dst (.tup [])) S k) (bz1 tab it chk (vI e t (.bool Zb)) S λchk' e' S'=>yx r chk' e' S' k))
   | .tup []=>yx r chk (putO e it.o.dst (.tup [])) S k
   |_=>Z
end
structure LItem where
 i:Nat
 kind:Nat
 chks:List Nat
 need:List Nat
def cl (ops:List (AOper×List Nat))(i:Nat):AOper:=match ops[i]? with
 |some (o,_)=>o
 |none=>⟨Z, .lenC 0,Z⟩
def cX3 :VV->Bool
 | .int _ _| .bool _| .str _=>Za
 |_=>Zb
def cX2 :Value->Bool
 | .int _ _| .bool _| .string _=>Za
 |_=>Zb
def aL4 {β:Type}(op:AOp)(e:cz)(k:Blk->Bool->Option β):Option β:=match op with
 | .alloc es z=>gd (aD 1 es) (k (aY7 es z) Zb)
 | .makeSlice es bytes z l c=>(match ev e l,ev e c,bE6 z with
  | .int _ l, .int _ c,Y s=>gd (aB es s.w&&Zc (0<=l)&&Zc (l<=c)&&Zc (bytes*c<=140737488355328)&&aD 1 bytes) (k (.arr s Zb (bB l.toNat (yC s))) Za)
  |_,_,_=>Z)
 | .buildSlice es ln z ps=>(match bD9 ((bB ln (z.map bI2)).flatten) (az3 e ps)with
  |some cs=>gd (ux cs&&aB (ln*es) cs.length&&aD 1 es&&cs.all cX3&&z.all cX2) (k (.cells es Zb cs) Za)
  |none=>Z)
 |_=>Z
def vvF (w:Bool)(k:Nat):VV:=cond w (.full k) (.ptr k 0)
section
variable (tab:Tab)
def evL {β:Type}(ops:List (AOper×List Nat)):List LItem->Chk->cz->ai->(cz->ai->Option β)->Option β
 |[],_,e,S,k=>k e S
 |it::r,chk,e,S,k=>
  cond (aB it.kind 3) (aL4 (cl ops it.i).op e λ_ _=>evL ops r chk e S k)<|
  cond (aB it.kind 2) (aL4 (cl ops it.i).op e λblk w=>evL ops r chk (putO e (cl ops it.i).dst (vvF w S.length)) (S++[blk]) k)
  (cond (aB it.kind 1)
   (bR6 tab (cl ops it.i).op e S λv S'=>gd (rY it.chks (bI9 (bs2 tab (cl ops it.i).op e S) chk)&&rY it.need (bI9 (bs2 tab (cl ops it.i).op e S) chk)) (evL ops r (bI9 (bs2 tab (cl ops it.i).op e S) chk) (putO e (cl ops it.i).dst v) S' k))
   (gd (cl ops it.i).op.still (bR6 tab (cl ops it.i).op e S λv S'=>gd (rY it.need (cond (cl ops it.i).op.isLoad ((it.i,dz7 S (cl ops it.i).op e)::chk) chk)) (evL ops r (cond (cl ops it.i).op.isLoad ((it.i,dz7 S (cl ops it.i).op e)::chk) chk) (putO e (cl ops it.i).dst v) S' k))))
end
def cD6 :Operand->List Nat
 | .tmp t=>[t]
 |_=>[]
def av0 :AOp->List Nat
 | .makeSlice _ _ _ l c=>cD6 l++cD6 c
 | .buildSlice _ _ _ ps=>ps.flatMap λp=>cD6 p.2.2
 |_=>[]
def cB7 :AOp->Bool
 | .alloc es _=>aD 1 es
 |_=>Zb
def ao8 :AOp->Bool
 | .alloc _ _| .makeSlice _ _ _ _ _=>Za
 | .buildSlice _ _ z _=>z.all cX2
 |_=>Zb
def bt5 (d:Option Nat)(l:List Nat):Bool:=match d with
 |some t=> !sA t l
 |none=>Za
def neO (d d':Option Nat):Bool:=match d,d' with
 |some t,Y t'=> !Nat.beq t t'
 |_,_=>Za
def bk2 (i:Nat):List Nat->List Nat
 |[]=>[]
 |a::r=>cond (aB a i) r (a::bk2 i r)
def aM9 :List LItem->List Nat->Nat->Option (List Nat×LItem×List LItem)
 |[],_,_=>Z
 |it::r,P,i=>cond (aB it.kind 3) (aM9 r P i)<|cond (aB it.kind 2) (cond (sA it.i P) (aM9 r (bk2 it.i P) i) Z) (cond (aB it.i i) (Y (P,it,r)) Z)
def cN2 :List LItem->List Nat->Bool
 |[],P=>P.isEmpty
 |it::r,P=>cond (aB it.kind 3) (cN2 r P) (aB it.kind 2&&sA it.i P&&cN2 r (bk2 it.i P))
def dQ7 :AOp->Bool
 | .move _=>Za
 |_=>Zb
def bS3 (ops:List (AOper×List Nat)):List LItem->Nat->Bool
 |[],_=>Zb
 |it::r,m=>cond (aB it.kind 3) (aB it.i m||bS3 ops r m)<|(aB it.kind 2&&(aB it.i m||(bt5 (cl ops it.i).dst (av0 (cl ops m).op)&&bS3 ops r m)))||(aB it.kind 0&&dQ7 (cl ops it.i).op&&bt5 (cl ops it.i).dst (av0 (cl ops m).op)&&bS3 ops r m)
def bk4 (ops:List (AOper×List Nat))(self:Nat)(ex:Bool)(P:List Nat)(r:List LItem):Bool:=
 P.all (λq=>neO (cl ops self).dst (cl ops q).dst&&bt5 (cl ops self).dst (av0 (cl ops q).op))&&
 r.all λit=> !Nat.beq it.kind 2||(ex&&aB it.i self)||neO (cl ops self).dst (cl ops it.i).dst
def cq1 (ops:List (AOper×List Nat)):Nat->List Nat->List Nat->List Nat->List Nat->List LItem->Bool
 |0,_,P,_,_,r=>cN2 r P
 |f+1,D,P,ls,nd,r=>match li ops D with
  |some i=>(cl ops i).guard.isNone&&(match aM9 r P i with
   |some (P',it,r')=>aB it.kind 0&&bk4 ops i Zb P' r'&&cq1 ops f (i::D) P' (cond (cl ops i).op.isLoad (i::ls) ls) it.need r'
   |none=>Zb)
  |none=>match cy ops D with
   |[]=>cN2 r P
   |ms=>ms.all λm=>(cl ops m).guard.isNone&&cond (ao8 (cl ops m).op)
    (!sA m P&&r.any (λit=>aB it.kind 2&&aB it.i m)&&(cB7 (cl ops m).op||bS3 ops r m)&&bk4 ops m Za P r&&bt5 (cl ops m).dst (av0 (cl ops m).op)&&ls.all (λi=>ae7 ops i m||sA i nd)&&cq1 ops f (m::D) (m::P) ls nd r)
    (match aM9 r P m with
    |some (P',it,r')=>aB it.kind 1&&bk4 ops m Zb P' r'&&ls.all (λi=>ae7 ops i m||sA i it.chks)&&cq1 ops f (m::D) P' ls it.need r'
    |none=>Zb)
def aL5 (ops:List (AOper×List Nat))(all:List Nat):List Nat->List Nat->List LItem
 |[],_=>[]
 |i::r,ls=>
  cond (aD 1000 i) (⟨i-1000,3,[],[]⟩::aL5 ops all r ls)<|
  let o:=(cl ops i).op
  let ls':=cond o.isLoad (i::ls) ls
  let fr:=r.filter λm=>ao8 (cl ops m).op
  ⟨i,cond (ao8 o) 2 (cond o.still 0 1),ls.filter λj=> !ae7 ops j i,ls'.filter λj=>fr.any λm=> !ae7 ops j m⟩::aL5 ops all r ls'
def cf4 (ops:List (AOper×List Nat)):List LItem->Bool
 |[]=>Za
 |it::r=>r.all (λj=> !Nat.beq it.kind 2|| !Nat.beq j.kind 2||neO (cl ops it.i).dst (cl ops j.i).dst)&&cf4 ops r
def be5 (ops:List (AOper×List Nat)):List LItem->List Nat
 |[]=>[]
 |it::r=>cond (aB it.kind 2) ((match(cl ops it.i).dst with
  |some d=>[d]
  |none=>[])++be5 ops r) (be5 ops r)
inductive AT where
 |no
 |n (l r:AT)
 |lp (fx:List Nat) (head:Alt) (exits:List Alt) (b:AT)
 |jn (fx mov:List Nat) (exits:List Alt) (l r:AT)
 |sz (n:Nat) (l r:AT)
 |dr (L:List Nat)
def dE4 :List VV->Nat
 |[]=>0
 | .nilp::r=>dE4 r+1
 | .fn f _ _::r=>dE4 r+10*f
 |_::r=>dE4 r
def dQ9 :Nat->ai->Nat
 |_,[]=>0
 |k, .cells _ _ l::r=>k*dE4 l+dQ9 (k+1) r
 |k,_::r=>dQ9 (k+1) r
def dn6 (S:ai):Nat:=S.length+1000*dQ9 1 S
def AT.at (n:Nat):AT->AT
 | .sz m l r=>cond (aB m n) l (r.at n)
 |t=>t
def cE5 (e:cz):List Nat->List VV->cz
 |t::ts,v::vs=>vI (cE5 e ts vs) t v
 |_,_=>e
def aZ0 (e:cz):List Nat->cz
 |[]=>e
 |t::ts=>vI (aZ0 e ts) t .undef
def cq6 :Option Nat->List Nat
 |some d=>[d]
 |none=>[]
def po :AC->List Nat
 | .region ops=>ops.flatMap λo=>cq6 o.dst
 | .draw ops=>ops.flatMap λo=>cq6 o.1.dst
 | .sched its=>its.flatMap λi=>cq6 i.o.dst
 | .seq a b| .cond _ a b=>po a++po b
 | .block _ b| .loop b=>po b
 |_=>[]
def XK.is :XK->AExit->Bool
 | .normal, .normal=>Za
 | .exit i, .exit j=>aB i j
 | .ret, .ret=>Za
 |_,_=>Zb
def XK.out :XK->AExit
 | .normal=> .normal
 | .exit i=> .exit i
 | .ret=> .ret
def nj (fx mov:List Nat)(fz:Bool):Nat->ai->ai
 |_,[]=>[]
 |i,b::r=>cond (sA i mov) (cond b.frozen b .dead) (cond (sA i fx) b (cond fz b.freeze b))::nj fx mov fz (i+1) r
def ba3 :AC->Bool
 | .seq a b| .cond _ a b=>ba3 a&&ba3 b
 | .block _ b| .loop b=>ba3 b
 |_=>Za
def ap {α γ:Type}(f:α->Option (α⊕γ))(n:Nat):α->Option γ:=
 Nat.rec (λ_=>Z) (λ_ ih a=>(f a).bind λs=>aw s ih Y) n
def fy :Nat:=18446744073709551616
def bb0 (e0:cz)(S:ai)(fx mov asg:List Nat)(fz:Bool)(ts:List Nat)(sk:SSk)(t:Tup sk.shs):Option (cz×ai):=
 match vh id sk (toL sk.shs t)with
 |some (vals,fs,bs)=>(match ad2 fx fs (nj fx mov (fz||aO1 vals fs bs) 0 S)with
  |some S'=>Y (cE5 (aZ0 e0 asg) ts vals,S'++bs)
  |none=>Z)
 |none=>Z
def dC5 {β:Type}(e0:cz)(S:ai)(fx mov asg:List Nat)(exits:List Alt)(s:ac1 exits)(k:AExit->cz->ai->Option β):Option β:=
 di5 exits s λa t=>match bb0 e0 S fx mov asg Zb a.ts a.sk t with
  |some (e,S')=>k a.x.out e S'
  |none=>Z
def bT3 (F:AT->(β:Type)->cz->ai->(AExit->cz->ai->Option β)->Option β):AT->(β:Type)->cz->ai->(AExit->cz->ai->Option β)->Option β
 | .n l r,β,e,S,k=>F l β e S λx e' S'=>match x with
  | .normal=>bT3 F r β e' S' k
  |x=>k x e' S'
 | .sz m l r,β,e,S,k=>cond (aB m S.length) (bT3 F l β e S k) (bT3 F r β e S k)
 |_,_,_,_,_=>Z
def AT.rounds :AT->Nat
 | .n _ r=>r.rounds+1
 | .sz _ l r=>l.rounds+r.rounds
 |_=>0
def eval (tab:Tab):AC->AT->(β:Type)->cz->ai->(AExit->cz->ai->Option β)->Option β
 | .skip,_,_,e,S,k=>k .normal e S
 | .exit i,_,_,e,S,k=>k (.exit i) e S
 | .ret,_,_,e,S,k=>k .ret e S
 | .region ops,_,_,e,S,k=>aZ3 tab ops e S λe' S'=>k .normal e' S'
 | .sched its,_,_,e,S,k=>yx tab its [] e S λe' S'=>k .normal e' S'
 | .draw ops,at',_,e,S,k=>(match at'.at (dn6 S)with
  | .dr L=>gd (cq1 ops ops.length [] [] [] [] (aL5 ops L L [])&&cf4 ops (aL5 ops L L [])) (evL tab ops (aL5 ops L L []) [] (aZ0 e (be5 ops (aL5 ops L L []))) S λe' S'=>k .normal e' S')
  |_=>Z)
 | .seq a b,at',β,e,S,k=>
  (match at'.at (dn6 S)with
  | .jn fx mov exits l r=>gd (bI3 S fx&&ba3 a) ((eval tab a l (ac1 exits) e (nj (fx++mov) [] Za 0 S) λx e' S'=>af0 S' S.length fx (λts=>ts.map (sr e')) (λy=>y.is x) exits).bind λs=>
    dC5 e S fx mov (po a) exits s λx e' S'=>match x with
     | .normal=>eval tab b r β e' S' k
     |x=>k x e' S')
  | .n l r=>eval tab a l β e S λx e' S'=>match x with
   | .normal=>eval tab b r β e' S' k
   |x=>k x e' S'
  |_=>eval tab a .no β e S λx e' S'=>match x with
   | .normal=>eval tab b .no β e' S' k
   |x=>k x e' S')
 | .cond c a b,at',β,e,S,k=>
  (match ev e c with
  | .bool p=>(match c,at'.at (dn6 S)with
   | .tmp t, .n l r=>cond p (eval tab a l β (vI e t (.bool Za)) S k) (eval tab b r β (vI e t (.bool Zb)) S k)
   | .tmp t,_=>cond p (eval tab a .no β (vI e t (.bool Za)) S k) (eval tab b .no β (vI e t (.bool Zb)) S k)
   |_, .n l r=>cond p (eval tab a l β e S k) (eval tab b r β e S k)
   |_,_=>cond p (eval tab a .no β e S k) (eval tab b .no β e S k))
  |_=>Z)
 | .block id b,at',β,e,S,k=>
  eval tab b (match at'.at (dn6 S)with
   | .n l _=>l
   |_=> .no) β e S λx e' S'=>match x with
   | .exit i=>cond (aB i id) (k .normal e' S') (k (.exit i) e' S')
   |x=>k x e' S'
 | .loop b,at',_,e,S,k=>
  (match at'.at (dn6 S)with
  | .lp fx head exits l=>gd (head.sk.noRo&&bI3 S fx&&ba3 b) (match uc S S.length fx head.sk (head.ts.map (sr e))with
   |some st=>(ofL head.sk.shs st.ls).bind λt0=>
    (ap (λt=>match bb0 e S fx (ud st.m) (po b) Za head.ts head.sk t with
     |some (e1,S1)=>eval tab b l (Tup head.sk.shs⊕ac1 exits) e1 S1 λx e' S'=>(match x with
      | .normal=>(bm7 S' S.length fx head.sk (head.ts.map (sr e'))).bind λt=>Y (.inl t)
      |x=>(af0 S' S.length fx (λts=>ts.map (sr e')) (λy=>y.is x) exits).bind λs=>Y (.inr s))
     |none=>Z) fy t0).bind λs=>dC5 e S fx (ud st.m) (po b) exits s k
   |none=>Z)
  |_=>bT3 (eval tab b) at' _ e S k)
def dG6 (e:cz)(S:ai):ARes->Option VV
 | .tmp t=>Y (sr e t)
 | .cell t=>(match sr e t with
  | .ptr b o=>(match ae S b with
   | .cells _ _ l=>nth l o
   |_=>Z)
  |_=>Z)
 | .cellN t n=>(match sr e t with
  | .ptr b o=>(match ae S b with
   | .cells _ _ l=>cond (aD (o+n) l.length) (Y (.agg ((l.drop o).take n))) Z
   |_=>Z)
  |_=>Z)
def bu8 (e:cz)(S:ai):List ARes->Option (List VV)
 |[]=>Y []
 |r::rs=>(dG6 e S r).bind λv=>(bu8 e S rs).bind λvs=>Y (v::vs)
def cH4 :List VV->VV
 |[v]=>v
 |vs=> .tup vs
def bl (P:Program)(f:FuncId)(tab:Tab)(at':AT):(β:Type)->List VV->ai->(VV->ai->Option β)->Option β:=λβ args S k=>
 match cH2 P f with
 |some a=>gd (aD args.length a.ntmps) (eval tab a.body at' β args S λx e S'=>match x with
  | .exit _=>Z
  |_=>(match bu8 e S' a.results with
   |some rs=>k (cH4 rs) S'
   |none=>Z))
 |none=>Z
def bR8 (P:Program)(f:FuncId)(tab:Tab)(vals:List Sk)(objs:List OSk)(outs:List Alt)(at':AT)(t:Tup (SSk.shs ⟨vals,[],objs⟩)):Option (ac1 outs):=
 match cH2 P f,vh id ⟨vals,[],objs⟩ (toL _ t)with
 |some a,Y (vs,_,S)=>gd (aD vs.length a.ntmps) (eval tab a.body at' (ac1 outs) vs S λx e S'=>match x with
  | .exit _=>Z
  |_=>(match bu8 e S' a.results with
   |some rs=>af0 S' S.length (yy objs 0) (λ_=>[cH4 rs]) (λ_=>Za) outs
   |none=>Z))
 |_,_=>Z
end
section
open Nat renaming lt_of_lt_of_le -> aB
structure Ctx where
 μ:Nat->Option Nat
 S:ai
 σ:Hp
 fb:Nat->Prop
def Blk.dim :Blk->Option (Nat×Nat)
 | .dead=>Z
 | .cells es _ l=>Y (es,l.length)
 | .arr s _ l=>Y (s.w,l.length*s.w)
def Blk.vals :Blk->List VV
 | .dead=>[]
 | .cells _ _ l=>l
 | .arr s _ l=>gh s l
def Ctx.own (c:Ctx)(b:Nat):Prop:= ∃k,(ae c.S k).frozen=Zb/\c.μ k=Y b
def Ctx.mut (c:Ctx)(b:Nat):Prop:=c.own b∨c.fb b
def SlR (c:Ctx)(k lo n:Nat)(d:Nat×Nat)(a:Value):Prop:=
 (a= .slice Z 0 0/\lo=0/\n=0/\c.μ k=Z/\d.2=0)∨
 ∃b cp y,a= .slice (Y ⟨b,lo*d.1,Z⟩) n cp/\c.μ k=Y b/\(lo+n)*d.1<=d.2/\n<=cp/\c.σ.m b=Y y/\(lo+cp)*d.1<=y.cells.length
inductive VRel (c:Ctx):VV->Value->Prop where
 |undef (a:Value):VRel c .undef a
 |bool (b:Bool):VRel c (.bool b) (.bool b)
 |int (k:IntKind) (n:Int):VRel c (.int k n) (.int k n)
 |str {l:Zd} {s:ByteArray}:lh s=l->VRel c (.str l) (.string s)
 |nilp:VRel c .nilp (.pointer Z)
 |nils:VRel c .nils (.slice Z 0 0)
 |nilf:VRel c .nilf .nilFunc
 |ptr {k o:Nat} {a:Value}:k<c.S.length->one a=Za->(∀d,(ae c.S k).dim=Y d->∃b,c.μ k=Y b/\a= .pointer (Y ⟨b,o,Z⟩))->VRel c (.ptr k o) a
 |it {k:Nat} {l:Zd} {s:ByteArray} {a:Value}:k<c.S.length->one a=Za->lh s=l->(∀d,(ae c.S k).dim=Y d->∃b,c.μ k=Y b/\a= .iface b (.string s))->VRel c (.it k l) a
 |bld {k:Nat} {a:Value}:k<c.S.length->one a=Za->(∀d,(ae c.S k).dim=Y d->∃b,c.μ k=Y b/\a= .iface b .nilFunc)->VRel c (.bld k) a
 |pix {k o n i:Nat} {a:Value}:k<c.S.length->one a=Za->i<n->(∀d,(ae c.S k).dim=Y d->∃b,c.μ k=Y b/\a= .pointer (Y ⟨b,o+i,Z⟩))->VRel c (.pix k o n i) a
 |pel {k i o:Nat} {a:Value}:k<c.S.length->one a=Za->(∀d,(ae c.S k).dim=Y d->∃b,c.μ k=Y b/\a= .pointer (Y ⟨b,i*d.1+o,Z⟩))->VRel c (.pel k i o) a
 |pin {s:Sh} {x:El s} {o b p:Nat} {y:Ab.Blk}: ¬c.mut b->c.σ.m b=Y y->p+s.w<=y.cells.length->F2 (VRel c) (db s x) ((y.cells.drop p).take s.w)->VRel c (.pin s x o) (.pointer (Y ⟨b,p+o,Z⟩))
 |lstn {s:Sh} {q:Option Addr}:(∀z,q=Y z->z.spot=Z)->VRel c (.lst s []) (.slice q 0 0)
 |lst {s:Sh} {l:List (El s)} {b p n cp:Nat} {y:Ab.Blk}: ¬c.mut b->c.σ.m b=Y y->y.es=s.w->n=l.length->n<=cp->p+n*s.w<=y.cells.length->
   F2 (VRel c) (gh s l) ((y.cells.drop p).take (n*s.w))->VRel c (.lst s l) (.slice (Y ⟨b,p,Z⟩) n cp)
 |tgtn {s:Sh} {a:Value}:(a= .slice Z 0 0∨∃b o,a= .slice (Y ⟨b,o,Y 0⟩) 0 0)->VRel c (.tgt s []) a
 |tgt {s:Sh} {l:List (El s)} {b p:Nat} {y:Ab.Blk}: ¬c.mut b->c.σ.m b=Y y->y.es=s.w->p+l.length*s.w<=y.cells.length->
   F2 (VRel c) (gh s l) ((y.cells.drop p).take (l.length*s.w))->VRel c (.tgt s l) (.slice (Y ⟨b,p,Y 0⟩) l.length l.length)
 |full {k:Nat} {a:Value}:k<c.S.length->one a=Za->(∀d,(ae c.S k).dim=Y d->∃n,n*d.1=d.2/\SlR c k 0 n d a)->VRel c (.full k) a
 |part {k lo n:Nat} {a:Value}:k<c.S.length->one a=Za->(∀d,(ae c.S k).dim=Y d->SlR c k lo n d a)->VRel c (.part k lo n) a
 |fn {f:Nat} {a b:List VV} {a' b':Array Value}:F2 (VRel c) a a'.toList->F2 (VRel c) b b'.toList->VRel c (.fn f a b) (.func (.func f) a' b')
 |agg {l:List VV} {l':Array Value}:F2 (VRel c) l l'.toList->VRel c (.agg l) (.agg l')
 |tup {l:List VV} {l':Array Value}:F2 (VRel c) l l'.toList->VRel c (.tup l) (.tuple l')
def bL0 (c:Ctx)(k:Nat):Prop:= ∀d,(ae c.S k).dim=Y d->1<=d.1/\
 ((d.2=0/\c.μ k=Z)∨∃b y cs rest,c.μ k=Y b/\c.σ.m b=Y y/\y.es=d.1/\((ae c.S k).frozen=Zb->y.own=Za)/\y.cells=cs++rest/\F2 (VRel c) (ae c.S k).vals cs)
structure ec (c:Ctx):Prop where
 ok:c.σ.Ok
 inj: ∀k k' b,(ae c.S k).frozen=Zb->(ae c.S k').dim≠Z->c.μ k=Y b->c.μ k'=Y b->k=k'
 blk: ∀k,bL0 c k
 fbk: ∀k b,(ae c.S k).dim≠Z->c.μ k=Y b->¬c.fb b
 fbl: ∀b,c.fb b->b<c.σ.n
structure Le (c c':Ctx):Prop where
 len:c.S.length<=c'.S.length
 al: ∀k d,k<c.S.length->(ae c'.S k).dim=Y d->(ae c.S k).dim=Y d/\c'.μ k=c.μ k
 fz: ∀k,(ae c.S k).frozen=Za->(ae c.S k).dim≠Z->ae c'.S k=ae c.S k
 ln: ∀k d b y,k<c.S.length->(ae c'.S k).dim=Y d->c.μ k=Y b->c.σ.m b=Y y->∃y',c'.σ.m b=Y y'/\y'.cells.length=y.cells.length
 un: ∀b y,c.σ.m b=Y y->¬c.own b->c'.σ.m b=Y y
 ow: ∀b y,c.σ.m b=Y y->¬c.own b->¬c'.own b
 n:c.σ.n<=c'.σ.n
 fb:c'.fb=c.fb
theorem Le.rd {c c':Ctx}(h:Le c c')(b:Nat)(y:Ab.Blk)(hy:c.σ.m b=Y y)(hn: ¬c.mut b):c'.σ.m b=Y y/\¬c'.mut b:=by
 have h1: ¬c.own b:=λe=>hn (.inl e)
 refine⟨h.un b y hy h1,λe=> ?_⟩;rcases e with e|e
 .exact h.ow b y hy h1 e
 .rw[h.fb]at e;exact hn (.inr e)
def zY (d:List Nat)(c c':Ctx):Prop:= ∀k,k<c.S.length->k∉d->(ae c.S k).dim≠Z->(ae c'.S k).dim≠Z/\∀b,c.μ k=Y b->c'.σ.m b=c.σ.m b
theorem sC {S:ai}{k:Nat}(h:(ae S k).dim≠Z):k<S.length:=by
 induction S generalizing k with
 |nil=>exact(h rfl).elim
 |cons b r ih=>
  cases k with
  |zero=>exact Nat.zero_lt_succ _
  |succ k=>exact Nat.succ_lt_succ (ih h)
theorem ad0 {S:ai}{k:Nat}(h:S.length<=k):ae S k= .dead:=by
 induction S generalizing k with
 |nil=>rfl
 |cons b r ih=>
  cases k with
  |zero=>simp at h
  |succ k=>exact ih (by simpa using h)
theorem bb4 {S:ai}{k:Nat}{b:Blk}:(qj S k b).length=S.length:=by
 induction S generalizing k with
 |nil=>rfl
 |cons a r ih=>cases k<;>simp[qj,ih]
theorem ak2 {S:ai}{k i:Nat}{b:Blk}:ae (qj S k b) i=if i=k/\k<S.length then b else ae S i:=by
 induction S generalizing k i with
 |nil=>simp[qj]
 |cons a r ih=>
  cases k with
  |zero=>cases i<;>simp[qj,ae]
  |succ k=>
   cases i with
   |zero=>simp[qj,ae]
   |succ i=>simp[qj,ae,ih]
theorem cX4 {S:ai}{k:Nat}{b:Blk}(h:k<S.length):ae (qj S k b) k=b:=by rw[ak2,zE ⟨rfl,h⟩]
theorem dH4 {S:ai}{k i:Nat}{b:Blk}(h:i≠k):ae (qj S k b) i=ae S i:=by rw[ak2,zF (λe=>h e.1)]
theorem sX {S:ai}{l:List Blk}{k:Nat}(h:k<S.length):ae (S++l) k=ae S k:=by
 induction S generalizing k with
 |nil=>simp at h
 |cons a r ih=>
  cases k with
  |zero=>rfl
  |succ k=>exact ih (by simpa using h)
theorem xx {S:ai}{l:List Blk}{k:Nat}:ae (S++l) (S.length+k)=ae l k:=by
 induction S with
 |nil=>simp
 |cons a r ih=>
  have:(a::r).length+k=(r.length+k)+1:=by simp;omega
  rw[this];exact ih
theorem cG1 {S:ai}{b:Blk}:ae (S++[b]) S.length=b:=by
 exact @xx S [b] 0
theorem sq {b:Blk}(h:b.frozen=Zb):b.dim≠Z:=by cases b<;>simp[Blk.frozen,Blk.dim]at*
theorem gb {b:Blk}:b.freeze.dim=b.dim:=by cases b<;>rfl
theorem bF0 {b:Blk}:b.freeze.vals=b.vals:=by cases b<;>rfl
theorem sV {b:Blk}:b.freeze.frozen=Za:=by cases b<;>rfl
theorem aC8 {b:Blk}(h:b.frozen=Za):b.freeze=b:=by cases b<;>simp[Blk.frozen,Blk.freeze]at* <;>simp[h]
theorem Le.refl (c:Ctx):Le c c:=⟨Nat.le_refl _,λ_ _ _ h=>⟨h,rfl⟩,λ_ _ _=>rfl,λ_ _ _ y _ _ _ hy=>⟨y,hy,rfl⟩,λ_ _ h _=>h,λ_ _ _ h=>h,Nat.le_refl _,rfl⟩
theorem Le.trans {a b c:Ctx}(h:Le a b)(k:Le b c):Le a c:=by
 refine⟨Nat.le_trans h.len k.len,λi d hi hd=> ?_,λi hf hd=> ?_,λi d x y hi hd hm hy=> ?_,λx y hy hn=>k.un x y (h.un x y hy hn) (h.ow x y hy hn),λx y hy hn=>k.ow x y (h.un x y hy hn) (h.ow x y hy hn),Nat.le_trans h.n k.n,k.fb.trans h.fb⟩
 .obtain⟨h1,h2⟩:=k.al i d (aB hi h.len) hd;obtain⟨h3,h4⟩:=h.al i d hi h1;exact⟨h3,h2.trans h4⟩
 .have h1:=h.fz i hf hd;rw[k.fz i (by rw[h1];exact hf) (by rw[h1];exact hd),h1]
 .obtain⟨h1,h2⟩:=k.al i d (aB hi h.len) hd;obtain⟨y1,h3,h4⟩:=h.ln i d x y hi h1 hm hy;obtain⟨_,h6⟩:=h.al i d hi h1;obtain⟨y2,h5,h7⟩:=k.ln i d x y1 (aB hi h.len) hd (h6.trans hm) h3;exact⟨y2,h5,h7.trans h4⟩
theorem zY.refl (d:List Nat)(c:Ctx):zY d c c:=λ_ _ _ h=>⟨h,λ_ _=>rfl⟩
theorem SlR.frame {c c':Ctx}(h:Le c c'){k lo n:Nat}{d:Nat×Nat}{a:Value}(hk:k<c.S.length)(hd:(ae c'.S k).dim=Y d)(hs:SlR c k lo n d a):SlR c' k lo n d a:=by
 obtain⟨h1,h2⟩:=h.al k d hk hd;rcases hs with⟨rfl,rfl,rfl,hm,hz⟩|⟨b,cp,y,rfl,hm,h3,h4,hy,h5⟩
 .exact .inl ⟨rfl,rfl,rfl,h2.trans hm,hz⟩
 .obtain⟨y',hy',hl⟩:=h.ln k d b y hk hd hm hy;exact .inr ⟨b,cp,y',rfl,h2.trans hm,h3,h4,hy',by rw[hl];exact h5⟩
theorem VRel.frame {c c':Ctx}(h:Le c c'): ∀{v:VV} {a:Value},VRel c v a->VRel c' v a
 |_,_, .undef a=> .undef a
 |_,_, .bool b=> .bool b
 |_,_, .int k n=> .int k n
 |_,_, .str hs=> .str hs
 |_,_, .nilp=> .nilp
 |_,_, .nils=> .nils
 |_,_, .nilf=> .nilf
 |_,_, .ptr hk h1 hd=> .ptr (aB hk h.len) h1 λd hd'=>by
  obtain⟨h1,h2⟩:=h.al _ d hk hd';obtain⟨b,h3,h4⟩:=hd d h1;exact⟨b,h2.trans h3,h4⟩
 |_,_, .it hk h1 hs hd=> .it (aB hk h.len) h1 hs λd hd'=>by
  obtain⟨h1,h2⟩:=h.al _ d hk hd';obtain⟨b,h3,h4⟩:=hd d h1;exact⟨b,h2.trans h3,h4⟩
 |_,_, .bld hk h1 hd=> .bld (aB hk h.len) h1 λd hd'=>by
  obtain⟨h1,h2⟩:=h.al _ d hk hd';obtain⟨b,h3,h4⟩:=hd d h1;exact⟨b,h2.trans h3,h4⟩
 |_,_, .pix hk h1 hi hd=> .pix (aB hk h.len) h1 hi λd hd'=>by
  obtain⟨h1,h2⟩:=h.al _ d hk hd';obtain⟨b,h3,h4⟩:=hd d h1;exact⟨b,h2.trans h3,h4⟩
 |_,_, .pel hk h1 hd=> .pel (aB hk h.len) h1 λd hd'=>by
  obtain⟨h1,h2⟩:=h.al _ d hk hd';obtain⟨b,h3,h4⟩:=hd d h1;exact⟨b,h2.trans h3,h4⟩
 |_,_, .pin hn hy hl hf=> .pin (h.rd _ _ hy hn).2 (h.rd _ _ hy hn).1 hl (go hf)
 |_,_, .lstn hq=> .lstn hq
 |_,_, .lst hn hy he h1 h2 h3 hf=> .lst (h.rd _ _ hy hn).2 (h.rd _ _ hy hn).1 he h1 h2 h3 (go hf)
 |_,_, .tgtn hq=> .tgtn hq
 |_,_, .tgt hn hy he h3 hf=> .tgt (h.rd _ _ hy hn).2 (h.rd _ _ hy hn).1 he h3 (go hf)
 |_,_, .full hk h1 hd=> .full (aB hk h.len) h1 λd hd'=>by
  obtain⟨h1,h2⟩:=h.al _ d hk hd';obtain⟨n,h3,h4⟩:=hd d h1;exact⟨n,h3,h4.frame h hk hd'⟩
 |_,_, .part hk h1 hd=> .part (aB hk h.len) h1 λd hd'=>by
  obtain⟨h1,h2⟩:=h.al _ d hk hd';exact(hd d h1).frame h hk hd'
 |_,_, .fn h1 h2=> .fn (go h1) (go h2)
 |_,_, .agg h1=> .agg (go h1)
 |_,_, .tup h1=> .tup (go h1)
where
 go: ∀{l:List VV} {m:List Value},F2 (VRel c) l m->F2 (VRel c') l m
  |_,_, .nil=> .nil
  |_,_, .cons h1 h2=> .cons (VRel.frame h h1) (go h2)
theorem VRel.frames {c c':Ctx}(h:Le c c'){l:List VV}{m:List Value}(hf:F2 (VRel c) l m):F2 (VRel c') l m:=hf.imp λ_ _ hv=>hv.frame h
def mp {β:Type}(c:Ctx)(d:List Nat)(k:VV->ai->Option β)(y:β)(v:Value)(σ':Hp):Prop:=
 ∃vv c',c'.σ=σ'/\Le c c'/\ec c'/\zY d c c'/\VRel c' vv v/\k vv c'.S=Y y
theorem mp.same {β:Type}{c:Ctx}{d:List Nat}{k:VV->ai->Option β}{y:β}{v:Value}{vv:VV}(hR:ec c)(hv:VRel c vv v)(hk:k vv c.S=Y y):mp c d k y v c.σ:=
 ⟨vv,c,rfl,Le.refl c,hR,zY.refl d c,hv,hk⟩
end
section
open List renaming length_append -> bB, take_of_length_le -> bD, length_cons -> cD, length_drop -> dB, take_append -> dD
open Nat renaming succ_mul -> aB, le_refl -> aD, mul_le_mul_right -> cB
theorem sZ : ∀s:Sh,1<=s.w
 | .int _=>aD _
 | .bool=>aD _
 | .str=>aD _
 | .list _=>aD _
 | .pair a _=>Nat.le_trans (sZ a) (Nat.le_add_right _ _)
theorem dj : ∀(s:Sh) (x:El s),(db s x).length=s.w
 | .int _,_=>rfl
 | .bool,_=>rfl
 | .str,_=>rfl
 | .list _,_=>rfl
 | .pair a b,x=>by
  simp only[db,bB,Sh.w];rw[dj a,dj b]
theorem be3 {s:Sh}:gh s []=[]:=rfl
theorem il {s:Sh}{x:El s}{l:List (El s)}:gh s (x::l)=db s x++gh s l:=rfl
theorem iv {s:Sh}{l:List (El s)}:(gh s l).length=l.length*s.w:=by
 induction l with
 |nil=>simp[be3]
 |cons x l ih=>rw[il,bB,dj,ih,cD,aB,Nat.add_comm]
theorem aj8 {s:Sh}{l m:List (El s)}:gh s (l++m)=gh s l++gh s m:=List.flatMap_append
theorem pq {s:Sh}{l:List (El s)}{n:Nat}:gh s (l.take n)=(gh s l).take (n*s.w):=by
 induction l generalizing n with
 |nil=>simp[be3]
 |cons x l ih=>
  cases n with
  |zero=>simp[be3]
  |succ n=>
   rw[List.take_succ_cons,il,il,ih,dD,dj];have h1:(n+1)*s.w-s.w=n*s.w:=by rw[aB];omega
   rw[h1,bD (l:=db s x) (by rw[dj,aB];omega)]
theorem ao7 {s:Sh}{l:List (El s)}{n:Nat}:gh s (l.drop n)=(gh s l).drop (n*s.w):=by
 induction l generalizing n with
 |nil=>simp[be3]
 |cons x l ih=>
  cases n with
  |zero=>simp
  |succ n=>
   rw[List.drop_succ_cons,il,ih,List.drop_append,dj];have h1:(n+1)*s.w-s.w=n*s.w:=by rw[aB];omega
   rw[h1,List.drop_of_length_le (l:=db s x) (by rw[dj,aB];omega),List.nil_append]
theorem bz3 {s:Sh}{l:List (El s)}{i:Nat}{x:El s}(h:l[i]?=Y x):((gh s l).drop (i*s.w)).take s.w=db s x:=by
 rw[<-ao7]
 have hi:i<l.length:=by
  rcases Nat.lt_or_ge i l.length with h1|h1
  .exact h1
  .rw[List.getElem?_eq_none h1]at h;cases h
 have h2:l.drop i=x::l.drop (i+1):=by
  rw[List.drop_eq_getElem_cons hi];rw[List.getElem?_eq_getElem hi]at h;injection h with h
  rw[h]
 rw[h2,il,dD,dj,Nat.sub_self,List.take_zero,List.append_nil,bD (by rw[dj];exact aD _)]
theorem ru {s' s:Sh}{x:El s'}{y:El s}(h:uy s' s x=Y y): ∃e:s'=s,y=e▸x:=by
 unfold uy at h;split at h
 .rename_i e;injection h with h
  exact⟨e,h.symm⟩
 .cases h
theorem te {s:Sh}{x:El s}:uy s s x=Y x:=by
 unfold uy;rw[dif_pos rfl]
theorem F2.app_left {α β:Type}{r:α->β->Prop}{l l':List α}{m:List β}(h:F2 r (l++l') m): ∃m1 m2,m=m1++m2/\F2 r l m1/\F2 r l' m2:=by
 induction l generalizing m with
 |nil=>exact⟨[],m,rfl, .nil,h⟩
 |cons a l ih=>
  cases h with
  |cons h1 h2=>
   obtain⟨m1,m2,rfl,h3,h4⟩:=ih h2;exact⟨_::m1,m2,rfl, .cons h1 h3,h4⟩
def am8 (c:Ctx)(s:Sh)(l:List (El s))(a:Value):Prop:=
 (∃q:Option Addr,a= .slice q 0 0/\l=[]/\∀z,q=Y z->z.spot=Z)∨∃b p cp y,a= .slice (Y ⟨b,p,Z⟩) l.length cp/\c.σ.m b=Y y/\y.es=s.w/\l.length<=cp/\p+l.length*s.w<=y.cells.length/\F2 (VRel c) (gh s l) ((y.cells.drop p).take (l.length*s.w))
theorem am8.rel {c:Ctx}{s:Sh}{l:List (El s)}{a:Value}(h:am8 c s l a)(hn: ∀b p n cp,a= .slice (Y ⟨b,p,Z⟩) n cp->cp≠0->¬c.mut b):VRel c (.lst s l) a:=by
 rcases h with⟨q,rfl,rfl,hq⟩|⟨b,p,cp,y,rfl,h1,h2,h3,h4,h5⟩
 .exact .lstn hq
 .by_cases hc:cp=0
  .subst hc;have:l=[]:=List.length_eq_zero_iff.1 (by omega);subst this;exact .lstn λz hz=>by injection hz with hz;rw[<-hz]
  .exact .lst (hn _ _ _ _ rfl hc) h1 h2 rfl h3 h4 h5
theorem VRel.listAt {c:Ctx}{s:Sh}{l:List (El s)}{a:Value}(h:VRel c (.lst s l) a):am8 c s l a:=by
 cases h with
 |lstn hq=>exact .inl ⟨_,rfl,rfl,hq⟩
 |lst hn hy he h1 h2 h3 h4=>subst h1;exact .inr ⟨_,_,_,_,rfl,hy,he,h2,h3,h4⟩
theorem VRel.lst_mut {c:Ctx}{s:Sh}{l:List (El s)}{b p n cp:Nat}(h:VRel c (.lst s l) (.slice (Y ⟨b,p,Z⟩) n cp))(hc:cp≠0): ¬c.mut b:=by
 cases h with
 |lstn=>exact(hc rfl).elim
 |lst hn=>exact hn
theorem ec.fz_mut {c:Ctx}(hR:ec c){k b:Nat}(hk:(ae c.S k).frozen=Za)(hd:(ae c.S k).dim≠Z)(hm:c.μ k=Y b): ¬c.mut b:=by
 rintro(⟨k',h1,h2⟩|h)
 .have:=hR.inj k' k b h1 hd h2 hm;subst this;rw[h1]at hk;cases hk
 .exact hR.fbk k b hd hm h
def bD1 (c:Ctx)(s:Sh)(f:List VV->Option (El s×List VV)):Prop:= ∀cells x rest,f cells=Y (x,rest)->
 ∃pre,cells=pre++rest/\pre.length=s.w/\∀as,F2 (VRel c) pre as->F2 (VRel c) (db s x) as
theorem by5 {c:Ctx}{s:Sh}{f:List VV->Option (El s×List VV)}(hf:bD1 c s f): ∀(n:Nat) (cells:List VV) (l:List (El s)),bD4 f n cells=Y l->
  cells.length=l.length*s.w/\∀as,F2 (VRel c) cells as->F2 (VRel c) (gh s l) as
 |n,[],l,h=>by
  have:l=[]:=by cases n<;>simpa[bD4]using h.symm
  subst this;exact⟨by simp,λas ha=>ha⟩
 |0,_::_,_,h=>by simp[bD4]at h
 |n+1,v::r,l,h=>by
  simp only[bD4]at h;cases h1:f (v::r)with
  |none=>rw[h1]at h;cases h
  |some p=>
   obtain⟨x,rest⟩:=p;rw[h1]at h;simp only[zG]at h;cases h2:bD4 f n rest with
   |none=>rw[h2]at h;cases h
   |some l'=>
    rw[h2]at h;injection h with h
    subst h;obtain⟨pre,h3,h4,h5⟩:=hf _ _ _ h1;obtain⟨h6,h7⟩:=by5 hf n rest l' h2;refine⟨by rw[h3,bB,h4,h6,cD,aB,Nat.add_comm],λas ha=> ?_⟩;rw[h3]at ha;obtain⟨m1,m2,rfl,h8,h9⟩:=F2.app_left ha;exact(h5 _ h8).append (h7 _ h9)
theorem xo {c:Ctx}{s:Sh}{f:List VV->Option (El s×List VV)}(hf:bD1 c s f){k:Nat}{l:List (El s)}(h:ai8 s f (ae c.S k)=Y l):
  ∃d,(ae c.S k).dim=Y d/\d.1=s.w/\d.2=l.length*s.w/\∀as,F2 (VRel c) (ae c.S k).vals as->F2 (VRel c) (gh s l) as:=by
 generalize ae c.S k=b at h;cases b with
 |dead=>cases h
 |arr s' z m=>
  obtain⟨e,h1⟩:=ru h;cases e;subst h1;exact⟨_,rfl,rfl,rfl,λ_ h=>h⟩
 |cells es z m=>
  simp only[ai8]at h;cases he:Nat.beq es s.w with
  |false=>rw[he]at h;cases h
  |true=>
   rw[he,zC]at h;obtain⟨h1,h2⟩:=by5 hf _ _ _ h;exact⟨_,rfl,Nat.eq_of_beq_eq_true he,h1,h2⟩
theorem bQ1 {c:Ctx}(hR:ec c){s:Sh}{f:List VV->Option (El s×List VV)}(hf:bD1 c s f){k lo n:Nat}{l:List (El s)}{d:Nat×Nat}{a:Value}(h:ai8 s f (ae c.S k)=Y l)
  (hd:(ae c.S k).dim=Y d) (hs:SlR c k lo n d a):am8 c s ((l.drop lo).take n) a/\((l.drop lo).take n).length=n:=by
 obtain⟨d',h1,h2,h3,h4⟩:=xo hf h;rw[hd]at h1;injection h1 with h1
 subst h1;obtain⟨h0,hb⟩:=hR.blk k d hd;have hw:=sZ s;rcases hs with⟨rfl,rfl,rfl,hm,hz⟩|⟨b,cp,y,rfl,hm,h5,h6,hy,h7⟩
 .have:l.length=0:=by
   rw[hz]at h3;rcases Nat.eq_zero_or_pos l.length with h|h
   .exact h
   .have:=Nat.mul_pos h hw;omega
  rw[List.length_eq_zero_iff]at this;subst this;exact⟨.inl ⟨Z,rfl,by simp,λz hz=>by cases hz⟩,by simp⟩
 .have hln:lo+n<=l.length:=by
   rw[h2,h3]at h5;exact Nat.le_of_mul_le_mul_right h5 hw
  have hlen:((l.drop lo).take n).length=n:=by rw[List.length_take,dB];omega
  refine⟨.inr ⟨b,lo*d.1,cp,y,by rw[hlen],hy, ?_,by rw[hlen];exact h6, ?_, ?_⟩,hlen⟩
  .rcases hb with⟨h8,h9⟩|⟨b',y',cs,rest,h8,h9,h10,_⟩
   .rw[h9]at hm;cases hm
   .rw[hm]at h8;injection h8 with h8
    subst h8;rw[hy]at h9;injection h9 with h9
    subst h9;rw[h10,h2]
  .rw[hlen];have:=cB d.1 h6;rw[Nat.add_mul]at h7;rw[<-h2];omega
  .rcases hb with⟨h8,h9⟩|⟨b',y',cs,rest,h8,h9,h10,_,h12,h13⟩
   .rw[h9]at hm;cases hm
   .rw[hm]at h8;injection h8 with h8
    subst h8;rw[hy]at h9;injection h9 with h9
    subst h9;have h14:=h4 _ h13;have h15:cs.length=l.length*s.w:=by rw[<-h14.length,iv]
    rw[hlen,pq,ao7,h2,h12,List.drop_append_of_le_length (by rw[h15];exact cB _ (by omega)),List.take_append_of_le_length]
    .exact(h14.drop _).take _
    .rw[dB,h15,<-Nat.sub_mul];exact cB _ (by omega)
theorem cB3 {c:Ctx}(hR:ec c){s:Sh}{f:List VV->Option (El s×List VV)}(hf:bD1 c s f){k:Nat}{l:List (El s)}{a:Value}(h:ai8 s f (ae c.S k)=Y l)(hv:VRel c (.full k) a):am8 c s l a:=by
 obtain⟨d,h1,h2,h3,h4⟩:=xo hf h;cases hv with
 |full hk _ hd=>
  obtain⟨n,h5,h6⟩:=hd d h1
  have hn:n=l.length:=by
   rw[h2,h3]at h5;exact Nat.eq_of_mul_eq_mul_right (sZ s) h5
  have:=(bQ1 hR hf h h1 h6).1
  rwa [List.drop_zero,bD (by omega)]at this
theorem cD8 {c:Ctx}(hR:ec c){s:Sh}{f:List VV->Option (El s×List VV)}(hf:bD1 c s f){k lo n:Nat}{l:List (El s)}{a:Value}(h:ai8 s f (ae c.S k)=Y l)(hv:VRel c (.part k lo n) a):
  am8 c s ((l.drop lo).take n) a/\((l.drop lo).take n).length=n:=by
 obtain⟨d,h1,h2,h3,h4⟩:=xo hf h;cases hv with
 |part hk _ hd=>exact bQ1 hR hf h h1 (hd d h1)
def bz4 :VV->Option Nat
 | .full k=>Y k
 | .part k _ _=>Y k
 |_=>Z
theorem SlR.addr {c:Ctx}{k lo n:Nat}{d:Nat×Nat}{b p m cp:Nat}(h:SlR c k lo n d (.slice (Y ⟨b,p,Z⟩) m cp)):c.μ k=Y b:=by
 rcases h with⟨h,_⟩|⟨b',cp',y,h,hm,_⟩
 .cases h
 .injection h with h1 h2 h3
  injection h1 with h1
  injection h1 with h1
  subst h1;exact hm
theorem cg8 {c:Ctx}(hR:ec c){s:Sh}{f:List VV->Option (El s×List VV)}(hf:bD1 c s f){v:VV}{l:List (El s)}{a:Value}(h:ba1 c.S s f v=Y l)(hv:VRel c v a):
  am8 c s l a/\∀b p n cp,a= .slice (Y ⟨b,p,Z⟩) n cp->cp≠0->¬c.mut b∨∃k,bz4 v=Y k/\(ae c.S k).dim≠Z/\c.μ k=Y b:=by
 cases v<;>simp only[ba1]at h<;>try(cases h;done)
 case nils=>
  injection h with h
  subst h;cases hv;exact⟨.inl ⟨Z,rfl,rfl,λz hz=>by cases hz⟩,λb p n cp e=>by cases e⟩
 case lst s' l'=>
  obtain⟨e,h1⟩:=ru h;cases e;subst h1;refine⟨hv.listAt,λb p n cp e hc=> .inl ?_⟩;subst e;exact hv.lst_mut hc
 case full k=>
  refine⟨cB3 hR hf h hv,λb p n cp e _=> .inr ⟨k,rfl, ?_⟩⟩;obtain⟨d,h1,_⟩:=xo hf h;subst e;cases hv with
  |full hk _ hd=>
   obtain⟨_,_,h6⟩:=hd d h1;exact⟨by rw[h1];simp,h6.addr⟩
 case part k lo m=>
  cases h0:ai8 s f (ae c.S k)with
  |none=>rw[h0]at h;cases h
  |some l0=>
   rw[h0]at h;injection h with h
   subst h;refine⟨(cD8 hR hf h0 hv).1,λb p n cp e _=> .inr ⟨k,rfl, ?_⟩⟩;obtain⟨d,h1,_⟩:=xo hf h0;subst e;cases hv with
   |part hk _ hd=>exact⟨by rw[h1];simp,(hd d h1).addr⟩
theorem bT1 {c:Ctx}(hR:ec c){s:Sh}{f:List VV->Option (El s×List VV)}(hf:bD1 c s f){v:VV}{l:List (El s)}{a:Value}(h:cs2 c.S s f v=Y l)(hv:VRel c v a):VRel c (.lst s l) a:=by
 have key:ba1 c.S s f v=Y l/\∀k,bz4 v=Y k->(ae c.S k).frozen=Za:=by
  unfold cs2 at h;split at h
  .rename_i k;cases hz:(ae c.S k).frozen with
   |false=>rw[hz]at h;cases h
   |true=>
    rw[hz]at h;exact⟨h,λk' e=>by cases e;exact hz⟩
  .rename_i k lo n;cases hz:(ae c.S k).frozen with
   |false=>rw[hz]at h;cases h
   |true=>
    rw[hz]at h;exact⟨h,λk' e=>by cases e;exact hz⟩
  .rename_i h1 h2;refine⟨h,λk e=> ?_⟩;cases v<;>simp only[bz4]at e<;>try(cases e;done)
   .exact(h1 _ rfl).elim
   .exact(h2 _ _ _ rfl).elim
 obtain⟨h1,h2⟩:=cg8 hR hf key.1 hv;refine h1.rel λb p n cp e hc=> ?_
 rcases h2 b p n cp e hc with h3|⟨k,h3,h4,h5⟩
 .exact h3
 .exact hR.fz_mut (key.2 k h3) h4 h5
theorem ov {c:Ctx}(hR:ec c): ∀s:Sh,bD1 c s (oj c.S s)
 | .int k,cells,x,rest,h=>by
  cases cells with
  |nil=>simp[oj]at h
  |cons v r=>
   cases v<;>simp only[oj]at h<;>try(cases h;done)
   rename_i k' n;cases hk:Zc (k'=k)with
   |false=>rw[hk]at h;cases h
   |true=>
    rw[hk]at h;injection h with h
    injection h with h1 h2
    subst h1;subst h2;have:=of_decide_eq_true hk;subst this;exact⟨[_],rfl,rfl,λ_ h=>h⟩
 | .bool,cells,x,rest,h=>by
  cases cells with
  |nil=>simp[oj]at h
  |cons v r=>
   cases v<;>simp only[oj]at h<;>try(cases h;done)
   injection h with h
   injection h with h1 h2
   subst h1;subst h2;exact⟨[_],rfl,rfl,λ_ h=>h⟩
 | .str,cells,x,rest,h=>by
  cases cells with
  |nil=>simp[oj]at h
  |cons v r=>
   cases v<;>simp only[oj]at h<;>try(cases h;done)
   injection h with h
   injection h with h1 h2
   subst h1;subst h2;exact⟨[_],rfl,rfl,λ_ h=>h⟩
 | .list s,cells,x,rest,h=>by
  cases cells with
  |nil=>simp[oj]at h
  |cons v r=>
   simp only[oj]at h;cases h1:cs2 c.S s (oj c.S s) v with
   |none=>rw[h1]at h;cases h
   |some l=>
    rw[h1]at h;injection h with h
    injection h with h2 h3
    subst h2;subst h3;refine⟨[v],rfl,rfl,λas ha=> ?_⟩;cases ha with
    |cons ha hn=>
     cases hn;exact .cons (bT1 hR (ov hR s) h1 ha) .nil
 | .pair a b,cells,x,rest,h=>by
  simp only[oj]at h;cases h1:oj c.S a cells with
  |none=>rw[h1]at h;cases h
  |some p=>
   obtain⟨y,r1⟩:=p;rw[h1]at h;simp only[zG]at h;cases h2:oj c.S b r1 with
   |none=>rw[h2]at h;cases h
   |some q=>
    obtain⟨z,r2⟩:=q;rw[h2]at h;injection h with h
    injection h with h3 h4
    subst h3;subst h4;obtain⟨p1,rfl,hl1,hf1⟩:=ov hR a _ _ _ h1;obtain⟨p2,rfl,hl2,hf2⟩:=ov hR b _ _ _ h2;refine⟨p1++p2,by rw[List.append_assoc],by rw[bB,hl1,hl2];rfl,λas ha=> ?_⟩;obtain⟨m1,m2,rfl,h5,h6⟩:=F2.app_left ha;exact(hf1 _ h5).append (hf2 _ h6)
theorem do4 {c:Ctx}(hR:ec c){s:Sh}{v:VV}{l:List (El s)}{a:Value}(h:cV2 c.S s v=Y l)(hv:VRel c v a):
  am8 c s l a/\∀b p n cp,a= .slice (Y ⟨b,p,Z⟩) n cp->cp≠0->¬c.mut b∨∃k,bz4 v=Y k/\(ae c.S k).dim≠Z/\c.μ k=Y b:=
 cg8 hR (ov hR s) h hv
end
section
open Bool renaming and_eq_true -> aD
open List renaming getElem?_eq_getElem -> aB, getD_eq_getElem?_getD -> bB, getElem?_map -> bD, all_append -> cD, getElem?_eq_none -> dB, length_drop -> dD, length_take -> eD
open Nat renaming zero_add -> cB, le_of_ble_eq_true -> fB
def az (c:Ctx)(e:cz)(ea:cb):Prop:= ∀t,VRel c (sr e t) (ea t)
theorem az.frame {c c':Ctx}{e:cz}{ea:cb}(h:az c e ea)(hl:Le c c'):az c' e ea:=λt=>(h t).frame hl
theorem ac7 {e:cz}{d t:Nat}{v:VV}:sr (vI e d v) t=if t=d then v else sr e t:=by
 induction d generalizing e t with
 |zero=>cases e<;>cases t<;>simp[vI,sr]
 |succ d ih=>
  cases e with
  |nil=>
   cases t with
   |zero=>simp[vI,sr]
   |succ t=>simp[vI,sr,ih]
  |cons a r=>
   cases t with
   |zero=>simp[vI,sr]
   |succ t=>simp[vI,sr,ih]
theorem az.put {c:Ctx}{e:cz}{ea:cb}(h:az c e ea){d:Nat}{v:VV}{a:Value}(hv:VRel c v a):az c (vI e d v) (ea.put d a):=by
 intro t;rw[ac7];unfold cb.put;by_cases ht:t=d
 .rw[zE ht,zE ht];exact hv
 .rw[zF ht,zF ht];exact h t
theorem az.putO {c:Ctx}{e:cz}{ea:cb}(h:az c e ea){d:Option Nat}{v:VV}{a:Value}(hv:VRel c v a):az c (putO e d v) (ea.putO d a):=by
 cases d with
 |none=>exact h
 |some d=>exact h.put hv
theorem cC9 (c:Ctx)(v:Value):VRel c (bI2 v) v:=by
 unfold bI2;split
 .exact .bool _
 .exact .int _ _
 .exact .str rfl
 .exact .nilp
 .exact .nils
 .exact .nilf
 .exact .undef _
theorem bf1 (c:Ctx)(l:List Value):F2 (VRel c) (l.map bI2) l:=by
 induction l with
 |nil=>exact .nil
 |cons v l ih=>exact .cons (cC9 c v) ih
theorem dE7 (c:Ctx)(v:Value):VRel c (ofC v) v:=by
 unfold ofC;split
 .rename_i cs;exact .agg (by simpa using bf1 c cs.toList)
 .exact cC9 c _
theorem bt {c:Ctx}{e:cz}{ea:cb}(h:az c e ea)(x:Operand):VRel c (ev e x) (ea.ev x):=by
 cases x with
 |tmp t=>exact h t
 |const v=>exact dE7 c v
 |global _=>exact .undef _
 |func f=>exact .fn .nil .nil
theorem bJ6 {c:Ctx}{e:cz}{ea:cb}(h:az c e ea)(xs:List Operand):F2 (VRel c) (xs.map (ev e)) (xs.map ea.ev):=by
 induction xs with
 |nil=>exact .nil
 |cons x xs ih=>exact .cons (bt h x) ih
theorem au {β:Type}{b:Bool}{x:Option β}{y:β}(h:gd b x=Y y):b=Za/\x=Y y:=by
 cases b with
 |false=>cases h
 |true=>exact⟨rfl,h⟩
theorem cD5 {c:Ctx}{v:VV}{a:Value}(h:VRel c v a)(h1:dF8 v=Za):one a=Za:=by
 cases h<;>first|rfl|assumption|(cases h1;done)|(rename_i h;rcases h with rfl|⟨_,_,rfl⟩<;>rfl)
theorem pn {c:Ctx}: ∀{l:List VV} {m:List Value},F2 (VRel c) l m->ux l=Za->m.all one=Za
 |_,_, .nil,_=>rfl
 |_,_, .cons h1 h2,h=>by
  simp only[ux,List.all_cons,aD]at h⊢;exact⟨cD5 h1 h.1,pn h2 h.2⟩
theorem bb9 : ∀(s:Sh) (x:El s),ux (db s x)=Za
 | .int _,_=>rfl
 | .bool,_=>rfl
 | .str,_=>rfl
 | .list _,_=>rfl
 | .pair a b,x=>by
  have h1:=bb9 a x.1;have h2:=bb9 b x.2;simp only[ux,db,cD,aD]at*;exact⟨h1,h2⟩
theorem xq (s:Sh)(l:List (El s)):ux (gh s l)=Za:=by
 induction l with
 |nil=>rfl
 |cons x l ih=>
  have h1:=bb9 s x;rw[il];simp only[ux,cD,aD]at*;exact⟨h1,ih⟩
theorem by4 {c:Ctx}{v:VV}{a:Value}(h:VRel c v a)(hv:ux (sT v)=Za):F2 (VRel c) (sT v) (cellsOf a):=by
 have hone:one a=Za->cellsOf a=[a]:=λh=>by cases a<;>first|rfl|(cases h;done)
 cases v with
 |agg l=>
  cases h with
  |agg h=>exact h
 |undef=>cases hv
 |tup l=>cases hv
 |_=>
  rw[hone (cD5 h rfl)];exact .cons h .nil
theorem bz {T:gr}{op:AOp}{e:cb}{σ σ':Hp}{v:Value}{K:Value->Hp->Prop}(h:op.run e σ=Y (v,σ'))(hk:K v σ'):br T op e σ K:=by
 unfold br;split
 .cases h
 .cases h
 .rw[h];exact hk
theorem af1 {α:Type}: ∀(l:List α) (i:Nat),nth l i=l[i]?
 |[],_=>rfl
 |_::_,0=>rfl
 |_::l,i+1=>by
  rw[show nth (_::l) (i+1)=nth l i from rfl,af1 l i];rfl
theorem F2.nth {c:Ctx}{l:List VV}{m:List Value}(h:F2 (VRel c) l m){i:Nat}{v:VV}(hv:nth l i=Y v): ∃a,m[i]?=Y a/\VRel c v a:=by
 rw[af1]at hv;exact h.get i v hv
theorem bz6 {k:IntKind}: ∀{cs:List VV} {l:Zd},bS6 k cs=Y l->cs=l.map (.int k)
 |[],l,h=>by cases h;rfl
 |v::r,l,h=>by
  cases v<;>simp only[bS6]at h<;>try(cases h;done)
  rename_i k' n;cases hk:Zc (k'=k)with
  |false=>rw[hk]at h;cases h
  |true=>
   rw[hk,zC]at h;cases h1:bS6 k r with
   |none=>rw[h1]at h;cases h
   |some m=>
    rw[h1]at h;injection h with h
    subst h;rw[bz6 h1,of_decide_eq_true hk];rfl
theorem bQ3 : ∀{cs:List VV} {l:List Bool},bQ2 cs=Y l->cs=l.map .bool
 |[],l,h=>by cases h;rfl
 |v::r,l,h=>by
  cases v<;>simp only[bQ2]at h<;>try(cases h;done)
  cases h1:bQ2 r with
  |none=>rw[h1]at h;cases h
  |some m=>
   rw[h1]at h;injection h with h
   subst h;rw[bQ3 h1];rfl
theorem ci2 : ∀{cs:List VV} {l:List (Zd)},cG7 cs=Y l->cs=l.map .str
 |[],l,h=>by cases h;rfl
 |v::r,l,h=>by
  cases v<;>simp only[cG7]at h<;>try(cases h;done)
  cases h1:cG7 r with
  |none=>rw[h1]at h;cases h
  |some m=>
   rw[h1]at h;injection h with h
   subst h;rw[ci2 h1];rfl
theorem cD9 {β:Type}{S:ai}{k:VV->ai->Option β}{y:β}: ∀{cs:List VV} {i:Nat},cW4 S k cs i=Y y->∃v,cs[i]?=Y v/\k v S=Y y
 |[],_,h=>by cases h
 |v::r,i,h=>by
  simp only[cW4]at h;cases hi:Nat.beq i 0 with
  |true=>
   rw[hi]at h;have:=Nat.eq_of_beq_eq_true hi;subst this;exact⟨v,rfl,h⟩
  |false=>
   rw[hi]at h;obtain⟨w,h1,h2⟩:=cD9 h;have:i≠0:=λe=>by subst e;cases hi
   obtain⟨j,rfl⟩:=Nat.exists_eq_succ_of_ne_zero this;exact⟨w,h1,h2⟩
theorem cz0 {β:Type}{S:ai}{k:VV->ai->Option β}{y:β}{cs:List VV}{i:Nat}(hi:i<cs.length)(h:cy9 cs i S k=Y y): ∃v,cs[i]?=Y v/\k v S=Y y:=by
 unfold cy9 at h;split at h
 .rename_i kd n r;split at h
  .rename_i l hl;have:=bz6 hl;subst this;refine⟨_, ?_,h⟩;rw[show(VV.int kd n::l.map (VV.int kd))=(n::l).map (VV.int kd)from rfl,bD];have hi':i<(n::l).length:=by simpa using hi
   rw[aB hi',bB,aB hi'];rfl
  .cases h
 .rename_i b r;split at h
  .rename_i l hl;have:=bQ3 hl;subst this;refine⟨_, ?_,h⟩;rw[show(VV.bool b::l.map VV.bool)=(b::l).map VV.bool from rfl,bD];have hi':i<(b::l).length:=by simpa using hi
   rw[aB hi',bB,aB hi'];rfl
  .cases h
 .rename_i b r;split at h
  .rename_i l hl;have:=ci2 hl;subst this;refine⟨_, ?_,h⟩;rw[show(VV.str b::l.map VV.str)=(b::l).map VV.str from rfl,bD];have hi':i<(b::l).length:=by simpa using hi
   rw[aB hi',bB,aB hi'];rfl
  .cases h
 .exact cD9 h
theorem ec.block {c:Ctx}(hR:ec c){k b:Nat}{d:Nat×Nat}(hd:(ae c.S k).dim=Y d)(hm:c.μ k=Y b):
  ∃y cs rest,c.σ.m b=Y y/\y.es=d.1/\((ae c.S k).frozen=Zb->y.own=Za)/\y.cells=cs++rest/\F2 (VRel c) (ae c.S k).vals cs:=by
 obtain⟨_,h⟩:=hR.blk k d hd;rcases h with⟨_,h⟩|⟨b',y,cs,rest,h,h'⟩
 .rw[h]at hm;cases hm
 .rw[hm]at h;injection h with h
  subst h;exact⟨y,cs,rest,h'⟩
def zp (c:Ctx)(cs:List VV)(b p:Nat):Prop:= ∃y,c.σ.m b=Y y/\p+cs.length<=y.cells.length/\F2 (VRel c) cs ((y.cells.drop p).take cs.length)
theorem zp.get {c:Ctx}{cs:List VV}{b p:Nat}(h:zp c cs b p){o:Nat}{v:VV}(hv:nth cs o=Y v): ∃y a,c.σ.m b=Y y/\y.cells[p+o]?=Y a/\VRel c v a:=by
 obtain⟨y,h1,h2,h3⟩:=h;obtain⟨a,h4,h5⟩:=F2.nth h3 hv;refine⟨y,a,h1, ?_,h5⟩;rw[af1]at hv
 have ho:o<cs.length:=by
  rcases Nat.lt_or_ge o cs.length with h|h
  .exact h
  .rw[dB h]at hv;cases hv
 rwa [List.getElem?_take,zE ho,List.getElem?_drop]at h4
theorem zp.read {c:Ctx}{cs:List VV}{b p:Nat}(h:zp c cs b p){o n:Nat}(hn:o+n<=cs.length): ∃y as,c.σ.m b=Y y/\vk y (p+o) n=Y as/\F2 (VRel c) ((cs.drop o).take n) as:=by
 obtain⟨y,h1,h2,h3⟩:=h;refine⟨y,(y.cells.drop (p+o)).take n,h1,zE (by omega), ?_⟩;have h4:=(h3.drop o).take n;rw[List.drop_take,List.drop_drop,List.take_take,Nat.min_eq_left (by omega)]at h4;exact h4
theorem ec.stands {c:Ctx}(hR:ec c){k b:Nat}{d:Nat×Nat}(hd:(ae c.S k).dim=Y d)(hm:c.μ k=Y b):zp c (ae c.S k).vals b 0:=by
 obtain⟨y,cs,rest,h1,_,_,h2,h3⟩:=hR.block hd hm;have hl:=h3.length;refine⟨y,h1,by rw[h2,List.length_append];omega, ?_⟩;rw[List.drop_zero,h2,List.take_append_of_le_length (by omega),List.take_of_length_le (by omega)];exact h3
theorem zp.part {c:Ctx}{cs:List VV}{b p:Nat}(h:zp c cs b p){o n:Nat}(hn:o+n<=cs.length):zp c ((cs.drop o).take n) b (p+o):=by
 obtain⟨y,h1,h2,h3⟩:=h;have hl:((cs.drop o).take n).length=n:=by rw[eD,dD];omega
 refine⟨y,h1,by rw[hl];omega, ?_⟩;have h4:=(h3.drop o).take n;rw[List.drop_take,List.drop_drop,List.take_take,Nat.min_eq_left (by omega)]at h4
 rwa [hl]
theorem cE6 {β:Type}{c:Ctx}(hR:ec c){n:Nat}{agg:Bool}{v:VV}{a:Value}{k:VV->ai->Option β}{y:β}(h:ch9 c.S n agg v k=Y y)(hv:VRel c v a):
  ∃b o x,a= .pointer (Y ⟨b,o,Z⟩)/\c.σ.m b=Y x/\
   (agg=Zb->∃u w,x.cells[o]?=Y u/\VRel c w u/\k w c.S=Y y)/\
   (agg=Za->∃us ws,vk x o n=Y us/\F2 (VRel c) ws us/\k (.agg ws) c.S=Y y):=by
 have out: ∀(cs:List VV) (b p o:Nat),zp c cs b p->a= .pointer (Y ⟨b,p+o,Z⟩)->
   cond agg (gd (Nat.ble (o+n) cs.length) (k (.agg ((cs.drop o).take n)) c.S)) (match nth cs o with
    |some v=>k v c.S
    |none=>Z)=Y y->
   ∃b o x,a= .pointer (Y ⟨b,o,Z⟩)/\c.σ.m b=Y x/\
   (agg=Zb->∃u w,x.cells[o]?=Y u/\VRel c w u/\k w c.S=Y y)/\
   (agg=Za->∃us ws,vk x o n=Y us/\F2 (VRel c) ws us/\k (.agg ws) c.S=Y y):=by
  intro cs b p o hs ha h;cases agg with
  |true=>
   obtain⟨h1,h2⟩:=au h;obtain⟨x,as,h3,h4,h5⟩:=hs.read (fB h1);exact⟨b,p+o,x,ha,h3,(by intro h;cases h),λ_=>⟨as,_,h4,h5,h2⟩⟩
  |false=>
   rw[zD]at h;split at h
   .rename_i w hw;obtain⟨x,u,h3,h4,h5⟩:=hs.get hw;exact⟨b,p+o,x,ha,h3,(λ_=>⟨u,w,h4,h5,h⟩),(by intro h;cases h)⟩
   .cases h
 unfold ch9 at h;cases v with
 |ptr q o=>
  simp only at h;cases hb:ae c.S q with
  |dead=>rw[hb]at h;cases h
  |arr s z l=>rw[hb]at h;cases h
  |cells es z l=>
   rw[hb]at h;cases hv with
   |ptr hk _ hd=>
    obtain⟨b,hm,ha⟩:=hd (es,l.length) (by rw[hb];rfl);have hs:=hR.stands (k:=q) (d:=(es,l.length)) (by rw[hb];rfl) hm;rw[hb]at hs;exact out l b 0 o hs (by rw[ha,cB]) h
 |pix q o m i=>
  simp only at h;cases hb:ae c.S q with
  |dead=>rw[hb]at h;cases h
  |arr s z l=>rw[hb]at h;cases h
  |cells es z l=>
   rw[hb]at h;obtain⟨h1,h2⟩:=au h;rw[aD]at h1;have h3:=fB h1.2;have hagg:agg=Zb:=by simpa using h1.1
   subst hagg;cases hv with
   |pix hk _ hi hd=>
    obtain⟨b,hm,ha⟩:=hd (es,l.length) (by rw[hb];rfl);have hs:=hR.stands (k:=q) (d:=(es,l.length)) (by rw[hb];rfl) hm;rw[hb]at hs;have hlen:((l.drop o).take m).length=m:=by rw[eD,dD];omega
    obtain⟨w,h4,h5⟩:=cz0 (by omega) h2;have hs':zp c ((l.drop o).take m) b (0+o):=zp.part (cs:=l) hs h3;rw[<-af1]at h4;obtain⟨x,u,h6,h7,h8⟩:=hs'.get h4;exact⟨b,o+i,x,ha,h6,(λ_=>⟨u,w,by rwa [cB]at h7,h8,h5⟩),(by intro h;cases h)⟩
 |pel q i o=>
  simp only at h;cases hb:ae c.S q with
  |dead=>rw[hb]at h;cases h
  |cells es z l=>rw[hb]at h;cases h
  |arr s z l=>
   rw[hb]at h;simp only at h;cases hx:l[i]? with
   |none=>rw[hx]at h;cases h
   |some x=>
    rw[hx]at h;cases hv with
    |pel hk _ hd=>
     obtain⟨b,hm,ha⟩:=hd (s.w,l.length*s.w) (by rw[hb];rfl);have hs:=hR.stands (k:=q) (d:=(s.w,l.length*s.w)) (by rw[hb];rfl) hm;rw[hb]at hs
     have hi:i<l.length:=by
      rcases Nat.lt_or_ge i l.length with h|h
      .exact h
      .rw[dB h]at hx;cases hx
     have hle:i*s.w+s.w<=(gh s l).length:=by
      rw[iv,<-Nat.succ_mul];exact Nat.mul_le_mul_right _ hi
     have hs':zp c (((gh s l).drop (i*s.w)).take s.w) b (0+i*s.w):=zp.part (cs:=gh s l) hs hle;rw[bz3 hx,cB]at hs';exact out (db s x) b (i*s.w) o hs' ha h
 |pin s x o=>
  simp only at h;cases hv with
  |pin hn hy hl hf=>
   exact out (db s x) _ _ o ⟨_,hy,by rw[dj];exact hl,by rw[dj];exact hf⟩ rfl h
 |_=>cases h
end
section
open Nat renaming lt_of_lt_of_le -> aB
theorem bL0.frame {c c':Ctx}(hl:Le c c'){k:Nat}(h:bL0 c k)(hS:ae c'.S k=ae c.S k)(hμ:(ae c.S k).dim≠Z->c'.μ k=c.μ k)(hσ: ∀b y,(ae c.S k).dim≠Z->c.μ k=Y b->c.σ.m b=Y y->c'.σ.m b=Y y):bL0 c' k:=by
 intro d hd;rw[hS]at hd;obtain⟨h1,h2⟩:=h d hd;have hm:=hμ (by rw[hd];simp);refine⟨h1, ?_⟩;rcases h2 with⟨h3,h4⟩|⟨b,y,cs,rest,h3,h4,h5,h6,h7,h8⟩
 .exact .inl ⟨h3,hm.trans h4⟩
 .exact .inr ⟨b,y,cs,rest,hm.trans h3,hσ b y (by rw[hd];simp) h3 h4,h5,by rw[hS];exact h6,h7,by rw[hS];exact VRel.frames hl h8⟩
def yH (S S':ai):Prop:=S'.length=S.length/\∀k,ae S' k=ae S k∨ae S' k=(ae S k).freeze
theorem yH.refl (S:ai):yH S S:=⟨rfl,λ_=> .inl rfl⟩
theorem cd0 {b:Blk}:b.freeze.freeze=b.freeze:=by cases b<;>rfl
theorem yH.trans {a b c:ai}(h:yH a b)(k:yH b c):yH a c:=by
 refine⟨k.1.trans h.1,λi=> ?_⟩;rcases h.2 i with h1|h1<;>rcases k.2 i with h2|h2
 .exact .inl (h2.trans h1)
 .exact .inr (by rw[h2,h1])
 .exact .inr (h2.trans h1)
 .exact .inr (by rw[h2,h1,cd0])
theorem yH.put {S:ai}{k:Nat}:yH S (qj S k (ae S k).freeze):=by
 refine⟨bb4,λi=> ?_⟩;rw[ak2];split
 .rename_i h;rw[h.1];exact .inr rfl
 .exact .inl rfl
theorem yH.fold {f:ai->VV->ai}(hf: ∀S v,yH S (f S v)): ∀(l:List VV) (S:ai),yH S (l.foldl f S)
 |[],S=>yH.refl S
 |v::l,S=>(hf S v).trans (yH.fold hf l _)
theorem cU3 : ∀(n:Nat) (S:ai) (v:VV),yH S (fzv n S v)
 |0,S,_=>yH.refl S
 |n+1,S,v=>by
  have key: ∀k,yH S (match ae S k with
    | .cells es _ l=>l.foldl (fzv n) (qj S k (.cells es Za l))
    |b=>qj S k b.freeze):=by
   intro k;have hp:=yH.put (S:=S) (k:=k);split
   .rename_i es z l h;rw[h]at hp;exact yH.trans hp (yH.fold (cU3 n) l _)
   .exact hp
  unfold fzv;split
  .exact key _
  .exact key _
  .exact yH.refl S
theorem be6 (S:ai)(l:List VV):yH S (fzL S l):=yH.fold (cU3 3) l S
theorem dm9 (S:ai)(v:VV):yH S (dQ1 S v):=by
 unfold dQ1;split
 .split
  .exact be6 S _
  .exact yH.refl S
 .split
  .exact be6 S _
  .exact yH.refl S
 .exact yH.refl S
theorem dc7 (k:Sk)(v:VV)(S:ai):yH S (dm8 k v S):=by
 unfold dm8;split
 .exact dm9 S v
 .exact yH.refl S
theorem bS2 : ∀(l:List Sk) (vs:List VV) (S:ai),yH S (aZ7 l vs S)
 |[],_,S=>yH.refl S
 |_::_,[],S=>yH.refl S
 |k::r,v::vs,S=>(dc7 k v S).trans (bS2 r vs _)
theorem zu : ∀(l:List Nat) (S:ai),yH S (aO4 l S)
 |[],S=>yH.refl S
 |_::l,S=>yH.put.trans (zu l _)
theorem yH.dim {S S':ai}(h:yH S S')(k:Nat):(ae S' k).dim=(ae S k).dim:=by
 rcases h.2 k with h|h<;>rw[h]
 exact gb
theorem yH.vals {S S':ai}(h:yH S S')(k:Nat):(ae S' k).vals=(ae S k).vals:=by
 rcases h.2 k with h|h<;>rw[h]
 exact bF0
theorem yH.fz {S S':ai}(h:yH S S'){k:Nat}(hz:(ae S' k).frozen=Zb):ae S' k=ae S k:=by
 rcases h.2 k with h|h
 .exact h
 .rw[h,sV]at hz;cases hz
theorem yH.le {c:Ctx}{S':ai}(h:yH c.S S'):Le c ⟨c.μ,S',c.σ,c.fb⟩:=by
 refine⟨Nat.le_of_eq h.1.symm,λk d _ hd=>⟨(h.dim k)▸hd,rfl⟩,λk hk _=> ?_,λ_ _ _ y _ _ _ hy=>⟨y,hy,rfl⟩,λb y hy _=>hy,λb y hy hn=> ?_,Nat.le_refl _,rfl⟩
 .rcases h.2 k with h|h
  .exact h
  .exact h.trans (aC8 hk)
 .rintro⟨k,h1,h2⟩;exact hn ⟨k,by rw[<-h.fz h1];exact h1,h2⟩
theorem yH.rel {c:Ctx}(hR:ec c){S':ai}(h:yH c.S S'):ec ⟨c.μ,S',c.σ,c.fb⟩:=by
 refine⟨hR.ok,λk k' b hk hk' hm hm'=>hR.inj k k' b (by rw[<-h.fz hk];exact hk) (by rw[<-h.dim];exact hk') hm hm',λk d hd=> ?_,λk b hk hm=>hR.fbk k b (by rw[<-h.dim];exact hk) hm,hR.fbl⟩;have hd':(ae c.S k).dim=Y d:=(h.dim k)▸hd;obtain⟨h1,h2⟩:=hR.blk k d hd';refine⟨h1, ?_⟩;rcases h2 with h2|⟨b,y,cs,rest,h3,h4,h5,h6,h7,h8⟩
 .exact .inl h2
 .exact .inr ⟨b,y,cs,rest,h3,h4,h5,λhz=>h6 (by rw[<-h.fz hz];exact hz),h7,by rw[h.vals k];exact VRel.frames h.le h8⟩
theorem yH.calm {c:Ctx}{S':ai}(d:List Nat)(h:yH c.S S'):zY d c ⟨c.μ,S',c.σ,c.fb⟩:=λk _ _ hk=>⟨by rw[h.dim];exact hk,λ_ _=>rfl⟩
theorem zY.trans {a b c:Ctx}{d:List Nat}(h:zY d a b)(k:zY d b c)(hl:Le a b):zY d a c:=by
 intro i hi hd hn;obtain⟨h1,h2⟩:=h i hi hd hn;obtain⟨h3,h4⟩:=k i (aB hi hl.len) hd h1;refine⟨h3,λx hx=> ?_⟩
 have hx':b.μ i=Y x:=by
  cases hb:(ae b.S i).dim with
  |none=>exact(h1 hb).elim
  |some z=>exact(hl.al i z hi hb).2.trans hx
 exact(h4 x hx').trans (h2 x hx)
def cS0 (c:Ctx)(kill:Option Nat)(b:Nat):Prop:= ∃k,kill=Y k/\c.μ k=Y b
def ah2 (c:Ctx)(b1:Option Nat):Nat->Option Nat:=λi=>if i=c.S.length then b1 else c.μ i
theorem aj9 {S:ai}{kill:Option Nat}:(wy S kill).length=S.length:=by cases kill<;>simp[wy,bb4]
theorem dd3 {S:ai}{kill:Option Nat}{i:Nat}:ae (wy S kill) i=if kill=Y i then .dead else ae S i:=by
 cases kill with
 |none=>simp[wy]
 |some k=>
  simp only[wy,ak2,Option.some.injEq];by_cases h:i=k
  .subst h;by_cases h1:i<S.length
   .simp[h1]
   .simp[h1,ad0 (Nat.le_of_not_lt h1)]
  .simp[h,Ne.symm h]
structure Moves (c:Ctx)(kill:Option Nat)(b1:Option Nat)(blk:Blk)(σ':Hp):Prop where
 fr: ∀b,b1=Y b->(∀z,c.σ.m b≠Y z)->¬c.fb b
 kz: ∀k,kill=Y k->(ae c.S k).frozen=Zb
 ok:σ'.Ok
 n:c.σ.n<=σ'.n
 old: ∀i y,c.σ.m i=Y y->¬cS0 c kill i->σ'.m i=Y y
 one: ∃d,blk.dim=Y d/\1<=d.1/\((b1=Z/\d.2=0)∨∃b y cs rest,b1=Y b/\σ'.m b=Y y/\y.es=d.1/\(blk.frozen=Zb->y.own=Za)/\y.cells=cs++rest/\F2 (VRel c) blk.vals cs/\((∀z,c.σ.m b≠Y z)∨cS0 c kill b))
section
variable {c:Ctx} {kill b1:Option Nat} {blk:Blk} {σ':Hp}
theorem pa (i:Nat):ae (wy c.S kill++[blk]) i=if i=c.S.length then blk else if kill=Y i then .dead else ae c.S i:=by
 by_cases h:i=c.S.length
 .subst h;rw[zE rfl,<-aj9 (S:=c.S) (kill:=kill),cG1]
 .rw[zF h];by_cases h1:i<c.S.length
  .rw[sX (by rw[aj9];exact h1),dd3]
  .have h2:c.S.length<i:=by omega
   rw[ad0 (by rw[List.length_append,aj9];simp;omega),ad0 (k:=i) (S:=c.S) (by omega)];split<;>rfl
theorem Moves.low (hR:ec c)(h:Moves c kill b1 blk σ'){i b:Nat}(_:i≠c.S.length)(hk:kill≠Y i)(hd:(ae c.S i).dim≠Z)(hm:c.μ i=Y b): ¬cS0 c kill b:=by
 rintro⟨k,rfl,h1⟩;exact hk (congrArg Y (hR.inj k i b (h.kz k rfl) hd h1 hm))
theorem Moves.le (hR:ec c)(h:Moves c kill b1 blk σ'):Le c ⟨ah2 c b1,wy c.S kill++[blk],σ',c.fb⟩:=by
 have hlt: ∀k,k<c.S.length->k≠c.S.length:=λk hk=>by omega
 refine⟨by simp[aj9],λk d hk hd=> ?_,λk hz hd=> ?_,λk d b y hk hd hm hy=> ?_,λb y hy hn=>h.old b y hy λ⟨k,e,hm⟩=>hn ⟨k,h.kz k e,hm⟩,λb y hy hn=> ?_,h.n,rfl⟩
 .simp only[pa,zF (hlt k hk)]at hd;split at hd
  .cases hd
  .exact⟨hd,zF (hlt k hk)⟩
 .have hk:=sC hd;simp only[pa,zF (hlt k hk)];rw[zF];intro e;have:=h.kz k e;rw[hz]at this;cases this
 .simp only[pa,zF (hlt k hk)]at hd;split at hd
  .cases hd
  .rename_i hne;exact⟨y,h.old b y hy (h.low hR (hlt k hk) hne (by rw[hd];simp) hm),rfl⟩
 .have hnk: ¬cS0 c kill b:=λ⟨k,e,hm⟩=>hn ⟨k,h.kz k e,hm⟩
  rintro⟨k,h1,h2⟩;simp only[pa]at h1;simp only[ah2]at h2;by_cases hk:k=c.S.length
  .rw[zE hk]at h1 h2;obtain⟨d,_,_,h3⟩:=h.one;rcases h3 with⟨h3,_⟩|⟨b',y',cs,rest,h3,_,_,_,_,_,h4⟩
   .rw[h3]at h2;cases h2
   .rw[h3]at h2;injection h2 with h2
    subst h2;rcases h4 with h4|h4
    .exact h4 y hy
    .exact hnk h4
  .rw[zF hk]at h1 h2;split at h1
   .cases h1
   .exact hn ⟨k,h1,h2⟩
theorem Moves.rel (hR:ec c)(h:Moves c kill b1 blk σ'):ec ⟨ah2 c b1,wy c.S kill++[blk],σ',c.fb⟩:=by
 have hle:=h.le hR
 have hnew: ∀i b,i≠c.S.length->kill≠Y i->(ae c.S i).dim≠Z->c.μ i=Y b->b1≠Y b:=by
  intro i b hi hk hd hm e;obtain⟨d,_,_,h3⟩:=h.one;rcases h3 with⟨h3,_⟩|⟨b',y',cs,rest,h3,_,_,_,_,_,h4⟩
  .rw[h3]at e;cases e
  .rw[h3]at e;injection e with e
   subst e;rcases h4 with h4|h4
   .cases hdd:(ae c.S i).dim with
    |none=>exact hd hdd
    |some dd=>
     obtain⟨y,_,_,hy,_⟩:=hR.block hdd hm;exact h4 y hy
   .exact h.low hR hi hk hd hm h4
 have hfb: ∀b,c.fb b->b1≠Y b:=by
  intro b hb e;obtain⟨d,_,_,h3⟩:=h.one;rcases h3 with⟨h3,_⟩|⟨b',y',cs,rest,h3,_,_,_,_,_,h4⟩
  .rw[h3]at e;cases e
  .rw[h3]at e;injection e with e
   subst e;rcases h4 with h4|⟨k,h4,h5⟩
   .exact h.fr _ h3 h4 hb
   .exact hR.fbk k _ (sq (h.kz k h4)) h5 hb
 refine⟨h.ok,λk k' b hk hk' hm hm'=> ?_,λk=> ?_,λk b hk hm hb=> ?_,λb hb=>aB (hR.fbl b hb) h.n⟩
 rotate_left 2
 .simp only[pa]at hk;simp only[ah2]at hm;by_cases h1:k=c.S.length
  .rw[zE h1]at hm;exact hfb b hb hm
  .rw[zF h1]at hm hk;split at hk
   .exact hk rfl
   .exact hR.fbk k b hk hm hb
 .simp only[pa]at hk hk';simp only[ah2]at hm hm';by_cases h1:k=c.S.length<;>by_cases h2:k'=c.S.length
  .omega
  .rw[zE h1]at hm;rw[zF h2]at hm' hk';split at hk'
   .exact(hk' rfl).elim
   .rename_i hne;exact(hnew k' b h2 hne hk' hm' hm).elim
  .rw[zF h1]at hm hk;rw[zE h2]at hm';split at hk
   .cases hk
   .rename_i hne;exact(hnew k b h1 hne (sq hk) hm hm').elim
  .rw[zF h1]at hm hk;rw[zF h2]at hm' hk';split at hk
   .cases hk
   .split at hk'
    .exact(hk' rfl).elim
    .exact hR.inj k k' b hk hk' hm hm'
 .by_cases hk:k=c.S.length
  .subst hk;intro d hd;simp only[pa,if_true]at hd⊢;obtain⟨d',h1,h2,h3⟩:=h.one;rw[hd]at h1;injection h1 with h1
   subst h1;refine⟨h2, ?_⟩;simp only[ah2,if_true];rcases h3 with⟨h3,h4⟩|⟨b',y',cs,rest,h3,h4,h5,h6,h7,h8,_⟩
   .exact .inl ⟨h4,h3⟩
   .exact .inr ⟨b',y',cs,rest,h3,h4,h5,h6,h7,VRel.frames hle h8⟩
  .by_cases hne:kill=Y k
   .intro d hd;simp only[pa,zF hk,zE hne]at hd;cases hd
   .refine(hR.blk k).frame hle ?_ (λ_=>zF hk) λb y hd hm hy=> ?_
    .simp only[pa,zF hk,zF hne]
    .exact h.old b y hy (h.low hR hk hne hd hm)
theorem Moves.calm (hR:ec c)(h:Moves c kill b1 blk σ'){d:List Nat}(hd: ∀k,kill=Y k->k∈d):zY d c ⟨ah2 c b1,wy c.S kill++[blk],σ',c.fb⟩:=by
 intro k hk hn hdim;have h1:k≠c.S.length:=by omega
 have h2:kill≠Y k:=λe=>hn (hd k e)
 simp only[pa,zF h1,zF h2];refine⟨hdim,λb hm=> ?_⟩;cases hdd:(ae c.S k).dim with
 |none=>exact(hdim hdd).elim
 |some dd=>
  obtain⟨y,_,_,hy,_⟩:=hR.block hdd hm;rw[hy];exact h.old b y hy (h.low hR h1 h2 hdim hm)
end
theorem da1 {c:Ctx}(hR:ec c){blk:Blk}{x:Ab.Blk}{d:Nat×Nat}(hd:blk.dim=Y d)(h1:1<=d.1)(he:x.es=d.1)(ho:x.own=Za)(hf:F2 (VRel c) blk.vals x.cells):
  Moves c Z (Y c.σ.n) blk (c.σ.add x):=by
 refine⟨(λb h _ hb=>by injection h with h;subst h;exact Nat.lt_irrefl _ (hR.fbl _ hb)),(λ_ h=>by cases h),λb y hy=> ?_,Nat.le_succ _,λi y hy _=> ?_,d,hd,h1, .inr ⟨c.σ.n,x,x.cells,[],rfl,zE rfl,he,λ_=>ho,by simp,hf, .inl λz hz=> ?_⟩⟩
 .simp only[Hp.add]at hy⊢;split at hy
  .omega
  .have:=hR.ok b y hy;omega
 .have:=hR.ok i y hy;simp only[Hp.add];rw[zF (by omega)];exact hy
 .have:=hR.ok _ _ hz;omega
structure Writes (c:Ctx)(k b:Nat)(blk:Blk)(y':Ab.Blk):Prop where
 kz:(ae c.S k).frozen=Zb
 mu:c.μ k=Y b
 dim:blk.dim=(ae c.S k).dim
 fz:blk.frozen=Zb
 one: ∃y cs rest d,c.σ.m b=Y y/\(ae c.S k).dim=Y d/\y'.es=d.1/\y'.own=Za/\y'.cells.length=y.cells.length/\y'.cells=cs++rest/\F2 (VRel c) blk.vals cs
section
variable {c:Ctx} {k b:Nat} {blk:Blk} {y':Ab.Blk}
theorem Writes.get (h:Writes c k b blk y')(i:Nat):ae (qj c.S k blk) i=if i=k then blk else ae c.S i:=by
 rw[ak2];have:=sC (sq h.kz);by_cases hi:i=k
 .rw[zE ⟨hi,this⟩,zE hi]
 .rw[zF (λe=>hi e.1),zF hi]
theorem Writes.low (hR:ec c)(h:Writes c k b blk y'){i b':Nat}(hi:i≠k)(hd:(ae c.S i).dim≠Z)(hm:c.μ i=Y b'):b'≠b:=by
 rintro rfl;exact hi (hR.inj k i b' h.kz hd h.mu hm).symm
theorem Writes.le (hR:ec c)(h:Writes c k b blk y'):Le c ⟨c.μ,qj c.S k blk,c.σ.set b (Y y'),c.fb⟩:=by
 refine⟨by simp[bb4],λi d _ hd=> ?_,λi hz hd=> ?_,λi d x y _ hd hm hy=> ?_,λx y hy hn=> ?_,λx y hy hn=> ?_,Nat.le_refl _,rfl⟩
 .simp only[h.get]at hd;split at hd
  .rename_i e;subst e;exact⟨h.dim▸hd,rfl⟩
  .exact⟨hd,rfl⟩
 .simp only[h.get];rw[zF];rintro rfl;rw[h.kz]at hz;cases hz
 .by_cases e:x=b
  .subst e;obtain⟨y0,_,_,_,h1,_,_,_,h2,_⟩:=h.one;rw[hy]at h1;injection h1 with h1
   subst h1;exact⟨y',by simp[Hp.set],h2⟩
  .exact⟨y,by simp[Hp.set,e,hy],rfl⟩
 .have hne:x≠b:=by rintro rfl;exact hn ⟨k,h.kz,h.mu⟩
  simp[Hp.set,hne,hy]
 .rintro⟨i,h1,h2⟩;simp only[h.get]at h1;split at h1
  .rename_i e;subst e;exact hn ⟨i,h.kz,h2⟩
  .exact hn ⟨i,h1,h2⟩
theorem Writes.rel (hR:ec c)(h:Writes c k b blk y'):ec ⟨c.μ,qj c.S k blk,c.σ.set b (Y y'),c.fb⟩:=by
 have hle:=h.le hR
 have hfz: ∀i,(ae (qj c.S k blk) i).frozen=Zb->(ae c.S i).frozen=Zb:=by
  intro i hi;rw[h.get]at hi;split at hi
  .rename_i e;subst e;exact h.kz
  .exact hi
 have hdm: ∀i,(ae (qj c.S k blk) i).dim=(ae c.S i).dim:=by
  intro i;rw[h.get];split
  .rename_i e;subst e;exact h.dim
  .rfl
 refine⟨λx z hz=> ?_,λi j x hi hj hm hm'=>hR.inj i j x (hfz i hi) (by rw[<-hdm];exact hj) hm hm',λi=> ?_,λi x hi hm=>hR.fbk i x (by rw[<-hdm];exact hi) hm,hR.fbl⟩
 .simp only[Hp.set]at hz;split at hz
  .rename_i e;subst e;obtain⟨y,_,_,_,h1,_⟩:=h.one;exact hR.ok _ _ h1
  .exact hR.ok _ _ hz
 .by_cases e:i=k
  .subst e;intro d hd;obtain⟨y,cs,rest,d',h1,h2,h3,h4,h5,h6,h7⟩:=h.one;have hd':(ae c.S i).dim=Y d:=by rw[<-hdm];exact hd
   rw[hd']at h2;injection h2 with h2
   subst h2;refine⟨(hR.blk i d hd').1, .inr ⟨b,y',cs,rest,h.mu,by simp[Hp.set],h3,λ_=>h4,h6, ?_⟩⟩;simp only[h.get,if_true];exact VRel.frames hle h7
  .refine(hR.blk i).frame hle (by simp only[h.get,zF e]) (λ_=>rfl) λx z hd hm hz=> ?_
   have:=h.low hR e hd hm;simp[Hp.set,this,hz]
theorem Writes.calm (hR:ec c)(h:Writes c k b blk y'){d:List Nat}(hd:k∈d):zY d c ⟨c.μ,qj c.S k blk,c.σ.set b (Y y'),c.fb⟩:=by
 intro i _ hn hdim;have hne:i≠k:=by rintro rfl;exact hn hd
 simp only[h.get,zF hne];refine⟨hdim,λx hm=> ?_⟩;have:=h.low hR hne hdim hm;simp[Hp.set,this]
end
end
section
open Bool renaming and_eq_true -> aB
open List renaming replicate -> bD, nil_append -> dD, append_assoc -> fB, drop_append -> fD, drop_of_length_le -> gB, length_append -> gD, length_cons -> iA, length_take -> iB, replicate_succ -> iC, take_append_drop -> iD
open Nat renaming beq -> aD, le_of_ble_eq_true -> bB, eq_of_beq_eq_true -> cB, ble -> cD, le_refl -> dB, zero_add -> eD
section
variable {β:Type} {T:gr} {c:Ctx} {e:cz} {ea:cb} {k:VV->ai->Option β} {y:β} {d:List Nat}
theorem VRel.bool_inv {b:Bool}{a:Value}(h:VRel c (.bool b) a):a= .bool b:=by cases h;rfl
theorem VRel.int_inv {kd:IntKind}{n:Int}{a:Value}(h:VRel c (.int kd n) a):a= .int kd n:=by cases h;rfl
theorem VRel.str_inv {l:Zd}{a:Value}(h:VRel c (.str l) a): ∃s,a= .string s/\lh s=l:=by cases h;exact⟨_,rfl,by assumption⟩
theorem VRel.agg_inv {l:List VV}{a:Value}(h:VRel c (.agg l) a): ∃as:Array Value,a= .agg as/\F2 (VRel c) l as.toList:=by cases h;exact⟨_,rfl,by assumption⟩
theorem VRel.tup_inv {l:List VV}{a:Value}(h:VRel c (.tup l) a): ∃as:Array Value,a= .tuple as/\F2 (VRel c) l as.toList:=by cases h;exact⟨_,rfl,by assumption⟩
theorem cF9 {p:Bool}{x z v:VV}{xa za:Value}(h:du4 p x z=Y v)(hx:VRel c x xa)(hz:VRel c z za):VRel c v (cond p xa za):=by
 unfold du4 at h;split at h
 .rename_i k1 n1 k2 n2;cases hk:Zc (k1=k2)with
  |false=>rw[hk]at h;cases h
  |true=>
   rw[hk]at h;injection h with h
   subst h;have:=of_decide_eq_true hk;subst this;rw[hx.int_inv,hz.int_inv];cases p<;>exact .int _ _
 .injection h with h
  subst h;rw[hx.bool_inv,hz.bool_inv];cases p<;>exact .bool _
 .injection h with h
  subst h;cases p<;>assumption
 .cases h
theorem dE2 (hR:ec c)(he:az c e ea){x:Operand}(h:k (ev e x) c.S=Y y):br T (.move x) ea c.σ (mp c d k y):=
 bz rfl (mp.same hR (bt he x) h)
theorem dG0 (hR:ec c)(he:az c e ea){t a b:Operand}{p:Bool}(hp:ev e t= .bool p)(h:dr7 p (ev e a) (ev e b) c.S k=Y y):br T (.pick t a b) ea c.σ (mp c d k y):=by
 have ht:=bt he t;rw[hp]at ht;have ht:=ht.bool_inv
 have key: ∀v,VRel c v (cond p (ea.ev a) (ea.ev b))->k v c.S=Y y->br T (.pick t a b) ea c.σ (mp c d k y):=by
  intro v hv hk;refine bz (v:=cond p (ea.ev a) (ea.ev b)) (σ':=c.σ) ?_ (mp.same hR hv hk);simp only[AOp.run,ht];cases p<;>rfl
 unfold dr7 at h;split at h
 .rename_i v hs;exact key v (cF9 hs (bt he a) (bt he b)) h
 .cases p with
  |true=>exact key _ (bt he a) h
  |false=>exact key _ (bt he b) h
theorem mp.new {v:Value}{vv:VV}{b1:Option Nat}{blk:Blk}{σ':Hp}{kill:Option Nat}(hR:ec c)(h:Moves c kill b1 blk σ')(hd: ∀q,kill=Y q->q∈d)(hv:VRel ⟨ah2 c b1,wy c.S kill++[blk],σ',c.fb⟩ vv v)(hk:k vv (wy c.S kill++[blk])=Y y):mp c d k y v σ':=
 ⟨vv,_,rfl,h.le hR,h.rel hR,h.calm hR hd,hv,hk⟩
theorem cW0 {blk:Blk}{x:Ab.Blk}{dm:Nat×Nat}(_:blk.dim=Y dm):VRel ⟨ah2 c (Y c.σ.n),wy c.S Z++[blk],c.σ.add x,c.fb⟩ (.ptr c.S.length 0) (.pointer (Y ⟨c.σ.n,0,Z⟩)):=by
 refine .ptr (by simp[wy]) rfl λd' _=>⟨c.σ.n, ?_,rfl⟩
 simp[ah2]
theorem dx5 : ∀{z:List Value},z.all dQ8=Za->z=bD z.length (.int .u8 0)
 |[],_=>rfl
 |v::z,h=>by
  rw[List.all_cons,aB]at h
  have h1:v= .int .u8 0:=by
   have h0:=h.1;unfold dQ8 at h0;split at h0
   .rw[of_decide_eq_true h0]
   .cases h0
  rw[iA,iC,<-dx5 h.2,h1]
theorem ai6 (es:Nat)(z:List Value):(aY7 es z).dim=Y (es,z.length)/\(aY7 es z).frozen=Zb/\∀c:Ctx,F2 (VRel c) (aY7 es z).vals z:=by
 unfold aY7;cases hb:cL5 es z with
 |false=>
  rw[zD];exact⟨by simp[Blk.dim],rfl,λc=>bf1 c z⟩
 |true=>
  rw[zC];unfold cL5 at hb;rw[aB,aB]at hb;have he:=cB hb.1.1;subst he;refine⟨by simp[Blk.dim,Sh.w],rfl,λc=> ?_⟩;have hz:=dx5 hb.2
  have key: ∀n,F2 (VRel c) (gh (.int .u8) (bD n (0:Int))) (bD n (.int .u8 0)):=by
   intro n;induction n with
   |zero=>exact .nil
   |succ n ih=>exact .cons (.int _ _) ih
  have h1:=key z.length;rw[<-hz]at h1;exact h1
theorem di4 (hR:ec c){es:Nat}{z:List Value}(h:gd (cD 1 es) (k (.ptr c.S.length 0) (c.S++[aY7 es z]))=Y y):br T (.alloc es z) ea c.σ (mp c d k y):=by
 obtain⟨h1,h2⟩:=au h;obtain⟨h3,h4,h5⟩:=ai6 es z;exact bz rfl (mp.new (kill:=Z) hR (da1 hR (blk:=aY7 es z) (x:=⟨z,Za,es⟩) (d:=(es,z.length)) h3 (bB h1) rfl rfl (h5 c)) (λ_ h=>by cases h) (cW0 (dm:=(es,z.length)) h3) h2)
theorem dP1 (hR:ec c)(he:az c e ea){es:Nat}{x:Operand}(h:gd (cD 1 es&&ux (sT (ev e x))) (k (.ptr c.S.length 0) (c.S++[.cells es Zb (sT (ev e x))]))=Y y):br T (.box es x) ea c.σ (mp c d k y):=by
 obtain⟨h1,h2⟩:=au h;rw[aB]at h1;have hf:=by4 (bt he x) h1.2;refine bz (by simp only[AOp.run];rw[zE (pn hf h1.2)]) (mp.new (kill:=Z) hR (da1 hR (blk:= .cells es Zb (sT (ev e x))) (x:=⟨cellsOf (ea.ev x),Za,es⟩) (d:=(es,(sT (ev e x)).length)) rfl (bB h1.1) rfl rfl hf) (λ_ h=>by cases h) (cW0 (dm:=(es,_)) rfl) h2)
theorem aj0 (he:az c e ea): ∀(ps:List (Nat×Nat×Operand)) {cs r:List VV} {as:List Value},bD9 cs (az3 e ps)=Y r->F2 (VRel c) cs as->∃ra,aZ5 as (ps.map λ(o,s,x)=>(o,s,ea.ev x))=Y ra/\F2 (VRel c) r ra
 |[],cs,r,as,h,hf=>by
  injection h with h
  subst h;exact⟨as,rfl,hf⟩
 |(o,s,x)::ps,cs,r,as,h,hf=>by
  simp only[az3,List.map_cons,bD9]at h;cases hb:(aD (sT (ev e x)).length s&&cD (o+s) cs.length&&(sT (ev e x)).all dF8)with
  |false=>rw[hb]at h;cases h
  |true=>
   rw[hb,zC]at h;rw[aB,aB]at hb;have h1:=cB hb.1.1;have h2:=bB hb.1.2;have hx:=by4 (bt he x) hb.2;have h3:(cellsOf (ea.ev x)).length=s:=by rw[<-hx.length];exact h1
   have h4:as.length=cs.length:=hf.length.symm;obtain⟨ra,h5,h6⟩:=aj0 he ps h (((hf.take o).append hx).append (hf.drop (o+s)));refine⟨ra, ?_,h6⟩;simp only[List.map_cons,aZ5];rw[zE ⟨h3,by omega⟩];exact h5
theorem dk0 (hR:ec c)(he:az c e ea){z:List Value}{ps:List (Nat×Nat×Operand)}{cs:List VV}(hf:bD9 (z.map bI2) (az3 e ps)=Y cs)(h:k (.agg cs) c.S=Y y):br T (.build z ps) ea c.σ (mp c d k y):=by
 obtain⟨ra,h1,h2⟩:=aj0 he ps hf (bf1 c z);exact bz (by simp only[AOp.run,h1];rfl) (mp.same hR (.agg (by simpa using h2)) h)
theorem ap6 {blk:Blk}{dm:Nat×Nat}{n m:Nat}{b:Nat}{yb:Ab.Blk}{σ':Hp}{kill:Option Nat}(hd:blk.dim=Y dm)(hn:n*dm.1=dm.2)(hm:n<=m)(hy:σ'.m b=Y yb)(hl:m*dm.1<=yb.cells.length):
  VRel ⟨ah2 c (Y b),wy c.S kill++[blk],σ',c.fb⟩ (.full c.S.length) (.slice (Y ⟨b,0,Z⟩) n m):=by
 refine .full (by simp[aj9]) rfl λd' hd'=> ?_
 simp only[pa,if_true]at hd';rw[hd]at hd';injection hd' with hd'
 subst hd';exact⟨n,hn, .inr ⟨b,m,yb,by simp,by simp[ah2],by rw[eD,hn];exact dB _,hm,hy,by rw[eD];exact hl⟩⟩
theorem bB5 : ∀(n:Nat) (z:List Value),F2 (VRel c) ((bD n (z.map bI2)).flatten) (di z n)
 |0,_=> .nil
 |n+1,z=>by
  simp only[di,iC,List.flatten_cons];exact(bf1 c z).append (bB5 n z)
theorem cc4 (hR:ec c)(he:az c e ea){es ln:Nat}{z:List Value}{ps:List (Nat×Nat×Operand)}{cs:List VV}(hf:bD9 ((bD ln (z.map bI2)).flatten) (az3 e ps)=Y cs)
  (h:gd (ux cs&&aD (ln*es) cs.length&&cD 1 es) (k (.full c.S.length) (c.S++[.cells es Zb cs]))=Y y):br T (.buildSlice es ln z ps) ea c.σ (mp c d k y):=by
 obtain⟨h1,h2⟩:=au h;rw[aB,aB]at h1;obtain⟨ra,h3,h4⟩:=aj0 he ps hf (bB5 ln z);have h5:=cB h1.1.2;refine bz (by simp only[AOp.run,h3];rw[zE (pn h4 h1.1.1)]) (mp.new (kill:=Z) hR (da1 hR (blk:= .cells es Zb cs) (x:=⟨ra,Za,es⟩) (d:=(es,cs.length)) rfl (bB h1.2) rfl rfl h4) (λ_ h=>by cases h) ?_ h2);exact ap6 (dm:=(es,cs.length)) (yb:=⟨ra,Za,es⟩) rfl h5 (dB _) (zE rfl) (by rw[<-h4.length];exact Nat.le_of_eq h5)
theorem dD5 (hR:ec c)(he:az c e ea){x:Operand}(h:ch9 c.S 1 Zb (ev e x) k=Y y):br T (.load x) ea c.σ (mp c d k y):=by
 obtain⟨b,o,blk,h1,h2,h3,_⟩:=cE6 hR h (bt he x);obtain⟨u,w,h4,h5,h6⟩:=h3 rfl;exact bz (by simp only[AOp.run,h1,h2,h4];rfl) (mp.same hR h5 h6)
theorem do6 (hR:ec c)(he:az c e ea){n:Nat}{x:Operand}(h:ch9 c.S n Za (ev e x) k=Y y):br T (.loadN n x) ea c.σ (mp c d k y):=by
 obtain⟨b,o,blk,h1,h2,_,h3⟩:=cE6 hR h (bt he x);obtain⟨us,ws,h4,h5,h6⟩:=h3 rfl;exact bz (by simp only[AOp.run,h1,h2,h4];rfl) (mp.same hR (.agg (by simpa using h5)) h6)
theorem aD5 : ∀(vs cells:List Value) (o:Nat),(px cells o vs).length=cells.length
 |[],_,_=>rfl
 |v::vs,cells,o=>by simp only[px];rw[aD5 vs];simp
theorem F2.set {l:List VV}{m:List Value}(h:F2 (VRel c) l m){v:VV}{a:Value}(hv:VRel c v a): ∀i,F2 (VRel c) (l.set i v) (m.set i a):=by
 induction h with
 |nil=>intro i;simp;exact .nil
 |cons h1 h2 ih=>
  intro i;cases i with
  |zero=>exact .cons hv h2
  |succ i=>exact .cons h1 (ih i)
theorem bW5 : ∀{vs:List VV} {as:List Value},F2 (VRel c) vs as->∀{l:List VV} {m:List Value} (o:Nat),F2 (VRel c) l m->F2 (VRel c) (dH3 l o vs) (px m o as)
 |_,_, .nil,_,_,_,h=>h
 |_,_, .cons h1 h2,_,_,o,h=>bW5 h2 (o+1) (F2.set h h1 o)
theorem ba9 : ∀(vs:List Value) (cs rest:List Value) (o:Nat),o+vs.length<=cs.length->px (cs++rest) o vs=px cs o vs++rest
 |[],_,_,_,_=>rfl
 |v::vs,cs,rest,o,h=>by
  simp only[iA]at h;simp only[px];rw[List.set_append_left _ _ (by omega),ba9 vs _ _ _ (by simp;omega)]
theorem ap9 : ∀(vs:List Value) (pre cs:List Value) (o:Nat),px (pre++cs) (pre.length+o) vs=pre++px cs o vs
 |[],_,_,_=>rfl
 |v::vs,pre,cs,o=>by
  simp only[px];rw[List.set_append_right _ _ (by omega),Nat.add_sub_cancel_left,Nat.add_assoc,ap9 vs]
theorem bg0 {blk:Ab.Blk}{o:Nat}{vs:List Value}(h1:blk.own=Za)(h2:o+vs.length<=blk.cells.length)(h3:vs.all one=Za):af2 blk o vs=Y ⟨px blk.cells o vs,Za,blk.es⟩:=by
 unfold af2;rw[zE ⟨h1,h2,h3⟩,h1]
theorem bw2 (hR:ec c){q es o b:Nat}{l l' vs:List VV}{as:List Value}(hb:ae c.S q= .cells es Zb l)(hm:c.μ q=Y b)(hf:F2 (VRel c) vs as)(h1:ux vs=Za)(ho:o+vs.length<=l.length)
  (hl': ∀cs,F2 (VRel c) l cs->F2 (VRel c) l' (px cs o as)): ∃blk,c.σ.m b=Y blk/\∃blk',af2 blk o as=Y blk'/\Writes c q b (.cells es Zb l') blk':=by
 obtain⟨y0,cs,rest,h2,h3,h4,h5,h6⟩:=hR.block (k:=q) (d:=(es,l.length)) (by rw[hb];rfl) hm;rw[hb]at h4 h6;have hl:=F2.length h6;simp only[Blk.vals]at hl;have ha:=F2.length hf;refine⟨y0,h2,_,bg0 (h4 rfl) (by rw[h5,gD];omega) (pn hf h1),⟨by rw[hb];rfl,hm, ?_,rfl,y0,px cs o as,rest,(es,l.length),h2,by rw[hb];rfl,h3,rfl,aD5 _ _ _, ?_,hl' cs h6⟩⟩
 .have:=F2.length (hl' cs h6);rw[aD5]at this;simp only[hb,Blk.dim];rw[this,<-hl]
 .show px y0.cells o as=_;rw[h5,ba9 _ _ _ _ (by omega)]
theorem bW4 {v:VV}{va:Value}(hv:VRel c v va): ∀{cs:List VV} {as:List Value} {i j:Nat} {r:List VV},bW3 v cs i j=Y r->F2 (VRel c) cs as->F2 (VRel c) r (if j<=i then as.set (i-j) va else as)
 |[],_,i,j,r,h,hf=>by
  cases hf;injection h with h
  subst h;simp;exact .nil
 |w::cs,_,i,j,r,h,hf=>by
  cases hf with
  |cons h1 h2=>
   rename_i a as;simp only[bW3]at h;cases hs:du4 (aD i j) v w with
   |none=>rw[hs]at h;cases h
   |some x=>
    rw[hs]at h;simp only[zG]at h;cases hr:bW3 v cs i (j+1)with
    |none=>rw[hr]at h;cases h
    |some r'=>
     rw[hr]at h;injection h with h
     subst h;have h3:=bW4 hv hr h2;have h4:=cF9 hs hv h1;by_cases hij:i=j
     .subst hij;rw[zF (by omega)]at h3;rw[zE (dB _),Nat.sub_self];have:aD i i=Za:=Nat.beq_refl i;rw[this]at h4;exact .cons h4 h3
     .have hb:aD i j=Zb:=by
       cases hh:aD i j with
       |false=>rfl
       |true=>exact(hij (cB hh)).elim
      rw[hb]at h4;by_cases hlt:j+1<=i
      .rw[zE hlt]at h3;rw[zE (by omega),show i-j=(i-(j+1))+1 by omega];exact .cons h4 h3
      .rw[zF hlt]at h3;rw[zF (by omega)];exact .cons h4 h3
theorem cf9 {s:Sh}{x:El s}: ∀{l:List (El s)} {i:Nat},i<l.length->gh s (l.set i x)=(gh s l).take (i*s.w)++(db s x++(gh s l).drop (i*s.w+s.w))
 |[],_,h=>by simp at h
 |a::l,0,_=>by
  rw[List.set_cons_zero,il,il,Nat.zero_mul,List.take_zero,dD,eD,fD,dj,Nat.sub_self,List.drop_zero,gB (by rw[dj];exact dB _),dD]
 |a::l,i+1,h=>by
  have h1:(i+1)*s.w=s.w+i*s.w:=by rw[Nat.succ_mul];omega
  rw[List.set_cons_succ,il,il,cf9 (by simpa using h),h1,List.take_append,fD,dj,List.take_of_length_le (l:=db s a) (by rw[dj];omega),gB (l:=db s a) (by rw[dj];omega),dD,fB];rw[show s.w+i*s.w-s.w=i*s.w by omega,show s.w+i*s.w+s.w-s.w=i*s.w+s.w by omega]
theorem bR3 (v:VV){q:Nat}(h:ao0 v=Y q):q∈dr4 (ao0 v):=by rw[h];exact List.mem_singleton.2 rfl
theorem bW6 {vs cs:List Value}{p o w:Nat}(h1:o+vs.length<=w)(h2:p+w<=cs.length):px cs (p+o) vs=cs.take p++(px ((cs.drop p).take w) o vs++cs.drop (p+w)):=by
 have e1:cs=cs.take p++((cs.drop p).take w++cs.drop (p+w)):=by
  rw[<-List.drop_drop,iD,iD]
 have hp:(cs.take p).length=p:=by rw[iB];omega
 have hw:((cs.drop p).take w).length=w:=by rw[iB,List.length_drop];omega
 conv=>lhs;rw[e1]
 have:=ap9 vs (cs.take p) ((cs.drop p).take w++cs.drop (p+w)) o;rw[hp]at this;rw[this,ba9 _ _ _ _ (by rw[hw];exact h1)]
theorem dv3 (hR:ec c)(he:az c e ea){n:Nat}{a x:Operand}(hd: ∀q,ao0 (ev e a)=Y q->q∈d)
  (h:gd (aD (sT (ev e x)).length n&&ux (sT (ev e x))) (cQ8 c.S (ev e a) (sT (ev e x)) λS'=>k .undef S')=Y y):br T (.store n a x) ea c.σ (mp c d k y):=by
 obtain⟨h1,h2⟩:=au h;rw[aB]at h1;have hn:=cB h1.1;have hx:=by4 (bt he x) h1.2;have hlen:(cellsOf (ea.ev x)).length=n:=by rw[<-hx.length];exact hn
 have ha:=bt he a
 have key: ∀(c1:Ctx) (q b o:Nat) (blk0:Ab.Blk) (blk:Blk) (blk':Ab.Blk),c1.σ=c.σ->Le c c1->zY d c c1->ec c1->q∈d->ea.ev a= .pointer (Y ⟨b,o,Z⟩)->c.σ.m b=Y blk0->af2 blk0 o (cellsOf (ea.ev x))=Y blk'->Writes c1 q b blk blk'->
   k .undef (qj c1.S q blk)=Y y->br T (.store n a x) ea c.σ (mp c d k y):=by
  intro c1 q b o blk0 blk blk' hσ hle hcalm hR1 hq h3 h4 h5 h6 h7;refine bz (v:=undef) (σ':=c.σ.set b (Y blk')) ?_ ?_
  .simp only[AOp.run,h3,hlen,if_true,h4,h5]
  .rw[<-hσ];exact⟨.undef,_,rfl,hle.trans (h6.le hR1),h6.rel hR1,hcalm.trans (h6.calm hR1 hq) hle, .undef _,h7⟩
 generalize cellsOf (ea.ev x)=as at*;generalize ev e a=av at*;generalize sT (ev e x)=vs at*;unfold cQ8 at h2;cases av with
 |ptr q o=>
  simp only at h2;cases hb:ae c.S q with
  |dead=>rw[hb]at h2;cases h2
  |arr s z l=>rw[hb]at h2;cases h2
  |cells es z l=>
   rw[hb]at h2;cases z with
   |true=>cases h2
   |false=>
    obtain⟨h3,h4⟩:=au h2;cases ha with
    |ptr hk _ hd'=>
     obtain⟨b,hm,hav⟩:=hd' (es,l.length) (by rw[hb];rfl);obtain⟨blk0,h5,blk',h6,h7⟩:=bw2 hR hb hm hx h1.2 (bB h3) λcs hcs=>bW5 hx o hcs
     exact key c q b o blk0 _ blk' rfl (Le.refl c) (zY.refl d c) hR (hd q rfl) hav h5 h6 h7 h4
 |pix q o m i=>
  simp only at h2;split at h2
  .rename_i es l v hb;obtain⟨h3,h4⟩:=au h2;have h3:=bB h3;split at h4
   .rename_i l' hs;cases hx with
    |cons hv hnil=>
     rename_i va as';cases hnil;cases ha with
     |pix hk _ hi hd'=>
      obtain⟨b,hm,hav⟩:=hd' (es,l.length) (by rw[hb];rfl)
      obtain⟨blk0,h5,blk',h6,h7⟩:=bw2 (l':=l.take o++l'++l.drop (o+m)) (o:=o+i) hR hb hm (.cons hv .nil) h1.2 (by simp;omega) λcs hcs=>by
       have hl:=hcs.length;rw[bW6 (w:=m) (by simp;omega) (by omega),fB];have h8:=bW4 hv hs ((hcs.drop o).take m);rw[zE (Nat.zero_le _),Nat.sub_zero]at h8;exact(hcs.take o).append (h8.append (hcs.drop _))
      exact key c q b (o+i) blk0 _ blk' rfl (Le.refl c) (zY.refl d c) hR (hd q rfl) hav h5 h6 h7 h4
   .cases h4
  .cases h2
 |pel q i o=>
  simp only at h2;cases hb:ae (fzL c.S vs) q with
  |dead=>rw[hb]at h2;cases h2
  |cells es z l=>rw[hb]at h2;cases h2
  |arr s z l=>
   rw[hb]at h2;cases z with
   |true=>cases h2
   |false=>
    simp only at h2;cases hx':l[i]? with
    |none=>rw[hx']at h2;cases h2
    |some x'=>
     rw[hx']at h2;simp only[zG]at h2;split at h2
     .rename_i z hof;obtain⟨h3,h4⟩:=au h2;have h3:=bB h3;have hfz:=be6 c.S vs;have hR1:ec ⟨c.μ,fzL c.S vs,c.σ,c.fb⟩:=hfz.rel hR
      have hi:i<l.length:=by
       rcases Nat.lt_or_ge i l.length with h|h
       .exact h
       .rw[List.getElem?_eq_none h]at hx';cases hx'
      have hx1:F2 (VRel ⟨c.μ,fzL c.S vs,c.σ,c.fb⟩) vs as:=VRel.frames hfz.le hx;cases ha with
      |pel hk _ hd'=>
       have hdim:(ae (fzL c.S vs) q).dim=Y (s.w,l.length*s.w):=by rw[hb];rfl
       obtain⟨b,hm,hav⟩:=hd' (s.w,l.length*s.w) (by rw[<-hfz.dim];exact hdim);obtain⟨y0,cs,rest,h5,h6,h7,h8,h9⟩:=hR1.block (k:=q) hdim hm;rw[hb]at h7 h9;have hl:=h9.length;simp only[Blk.vals,iv]at hl;have hle:i*s.w+s.w<=l.length*s.w:=by rw[<-Nat.succ_mul];exact Nat.mul_le_mul_right _ hi
       have hlen':vs.length=as.length:=hx.length;refine key ⟨c.μ,fzL c.S vs,c.σ,c.fb⟩ q b (i*s.w+o) y0 (.arr s Zb (l.set i z)) _ rfl hfz.le (hfz.calm d) hR1 (hd q rfl) hav h5 (bg0 (h7 rfl) (by rw[h8,gD];omega) (pn hx h1.2)) ⟨by rw[hb];rfl,hm,by rw[hdim];simp[Blk.dim],rfl,y0,px cs (i*s.w+o) as,rest,_,h5,hdim,h6,rfl,aD5 _ _ _,by rw[h8,ba9 _ _ _ _ (by omega)], ?_⟩ h4;obtain⟨pre,h10,h11,h12⟩:=ov hR1 s _ _ _ hof;rw[List.append_nil]at h10;subst h10;simp only[Blk.vals];rw[cf9 hi,bW6 (w:=s.w) (by omega) (by omega)];refine(h9.take _).append (F2.append (h12 _ (bW5 hx1 o ?_)) (h9.drop _));have h13:=(h9.drop (i*s.w)).take s.w;simp only[Blk.vals]at h13
       rwa [bz3 hx']at h13
     .cases h2
 |_=>cases h2
end
end
section
open Bool renaming and_eq_true -> aD, false_eq_true -> bB
open List renaming extract_eq_take_drop -> bD
open Nat renaming eq_of_beq_eq_true -> cB
open Option renaming map_some -> aB
section
variable {β:Type} {T:gr} {c:Ctx} {e:cz} {ea:cb} {k:VV->ai->Option β} {y:β} {d:List Nat}
theorem au2 (s:ByteArray):(lh s).length=s.size:=by simp[lh]
theorem cL4 (s t:ByteArray):lh (s++t)=lh s++lh t:=by
 simp[lh,ByteArray.data_append]
theorem bc0 : ∀{l m:List UInt8},(l.map λb=>(b.toNat:Int))=m.map (λb=>(b.toNat:Int))->l=m
 |[],[],_=>rfl
 |[],_::_,h=>by simp at h
 |_::_,[],h=>by simp at h
 |a::l,b::m,h=>by
  simp only[List.map_cons,List.cons.injEq]at h;rw[bc0 h.2,UInt8.toNat_inj.1 (Int.ofNat.inj h.1)]
theorem bE8 (s:ByteArray):s.toList=s.data.toList:=by
 rw[ByteArray.toList_eq]
theorem by3 (s t:ByteArray):(s.toList==t.toList)=Zc (lh s=lh t):=by
 rw[bE8,bE8];by_cases h:s.data.toList=t.data.toList
 .simp[lh,h]
 .have:lh s≠lh t:=λe=>h (bc0 e)
  have h': ¬s.data=t.data:=λe=>h (by rw[e])
  simp[this,h']
theorem da6 {op:BinOp}{kd:IntKind}{a b:Int}{kk:VV->Option β}(h:cK8 op kd a b kk=Y y): ∃v va,cU8 op kd a b=Y va/\VRel c v va/\kk v=Y y:=by
 cases op<;>simp only[cK8]at h<;>try(cases h;done)
 case add=>exact⟨_,_,rfl, .int _ _,h⟩
 case sub=>exact⟨_,_,rfl, .int _ _,h⟩
 case mul=>exact⟨_,_,rfl, .int _ _,h⟩
 case quo=>
  obtain⟨h1,h2⟩:=au h;exact⟨_,_,zF (of_decide_eq_true h1), .int _ _,h2⟩
 case rem=>
  obtain⟨h1,h2⟩:=au h;exact⟨_,_,zF (of_decide_eq_true h1), .int _ _,h2⟩
 case and=>exact⟨_,_,rfl, .int _ _,h⟩
 case or=>exact⟨_,_,rfl, .int _ _,h⟩
 case xor=>exact⟨_,_,rfl, .int _ _,h⟩
 case andNot=>exact⟨_,_,rfl, .int _ _,h⟩
 case eql=>
  refine⟨_,_,rfl, ?_,h⟩;have:(a==b)=Zc (a=b):=by by_cases h:a=b<;>simp[h]
  rw[this];exact .bool _
 case neq=>
  refine⟨_,_,rfl, ?_,h⟩;have:(a !=b)=Zc (a≠b):=by by_cases h:a=b<;>simp[h]
  rw[this];exact .bool _
 case lss=>exact⟨_,_,rfl, .bool _,h⟩
 case leq=>exact⟨_,_,rfl, .bool _,h⟩
 case gtr=>exact⟨_,_,rfl, .bool _,h⟩
 case geq=>exact⟨_,_,rfl, .bool _,h⟩
theorem dO9 (hR:ec c)(he:az c e ea){op:BinOp}{x z:Operand}(h:dO8 op (ev e x) (ev e z) (λv=>k v c.S)=Y y):br T (.bin op x z) ea c.σ (mp c d k y):=by
 have hx:=bt he x;have hz:=bt he z
 have key: ∀v va,ay9 op (ea.ev x) (ea.ev z)=Y va->VRel c v va->k v c.S=Y y->br T (.bin op x z) ea c.σ (mp c d k y):=λv va h1 h2 h3=>
  bz (by simp only[AOp.run,h1];rfl) (mp.same hR h2 h3)
 generalize ev e x=xv at*;generalize ev e z=zv at*;unfold dO8 at h;split at h
 .rename_i kx a kz b;rw[hx.int_inv,hz.int_inv]at key;cases hs:zV op with
  |true=>
   rw[hs,zC]at h;simp only[ay9,hs,if_true]at key;cases op<;>simp only[du7]at h<;>try(cases h;done)
   .obtain⟨h1,h2⟩:=au h;have h1:=of_decide_eq_true h1;refine key _ _ ?_ (.int _ _) h2;simp only[bW8];rw[zF (by omega)]
   .obtain⟨h1,h2⟩:=au h;have h1:=of_decide_eq_true h1;refine key _ _ ?_ (.int _ _) h2;simp only[bW8];rw[zF (by omega)]
  |false=>
   rw[hs,zD]at h;cases hk:Zc (kx=kz)with
   |false=>rw[hk]at h;cases h
   |true=>
    rw[hk,zC]at h;have hk:=of_decide_eq_true hk;subst hk;obtain⟨v,va,h1,h2,h3⟩:=da6 (c:=c) h;refine key v va ?_ h2 h3;simp only[ay9,hs,bB,if_false,if_true,h1]
 .rename_i a b;obtain⟨s,e1,rfl⟩:=hx.str_inv;obtain⟨t,e2,rfl⟩:=hz.str_inv;rw[e1,e2]at key;cases hs:zV op with
  |true=>rw[hs]at h;cases h
  |false=>
   rw[hs,zD]at h;simp only[ay9,hs,bB,if_false]at key;cases op<;>simp only[eb4]at h<;>try(cases h;done)
   .obtain⟨h1,h2⟩:=au h;have h1:(lh s).length+(lh t).length<=9223372036854775807:=Nat.le_of_ble_eq_true h1;rw[au2,au2]at h1;refine key _ _ ?_ (.str (cL4 s t)) h2;simp only[cX8];rw[zF];show¬(((s.size+t.size:Nat):Int) > 9223372036854775807);omega
   .refine key _ _ rfl ?_ h;rw[by3];exact .bool _
   .refine key _ _ rfl ?_ h;rw[by3];have:(!Zc (lh s=lh t))=Zc (lh s≠lh t):=by simp
    rw[this];exact .bool _
 .cases h
theorem yz {b:Blk}(h:b.live=Za): ∃dm,b.dim=Y dm:=by cases b<;>first|(cases h;done)|exact⟨_,rfl⟩
theorem bn0 {v:VV}{a:Value}(h:VRel c v a)(hp:bS7 c.S v=Za): ∃x,a= .pointer (Y x):=by
 cases v<;>try(cases hp;done)
 case ptr q o=>
  obtain⟨dd,hh⟩:=yz hp;cases h with
  |ptr hk _ hd=>obtain⟨b,_,h⟩:=hd dd hh;exact⟨_,h⟩
 case pix q o n i=>
  obtain⟨dd,hh⟩:=yz hp;cases h with
  |pix hk _ _ hd=>obtain⟨b,_,h⟩:=hd dd hh;exact⟨_,h⟩
 case pel q i o=>
  obtain⟨dd,hh⟩:=yz hp;cases h with
  |pel hk _ hd=>obtain⟨b,_,h⟩:=hd dd hh;exact⟨_,h⟩
 case pin s x o=>cases h;exact⟨_,rfl⟩
theorem cC8 (hR:ec c)(he:az c e ea){x:Operand}(h:(match ev e x with
  | .fn f a b=>k (.fn f a b) c.S
  |v=>gd (bS7 c.S v) (k v c.S))=Y y):br T (.nilCheck x) ea c.σ (mp c d k y):=by
 have hx:=bt he x;split at h
 .rename_i f a b hv;rw[hv]at hx
  have: ∃a' b',ea.ev x= .func (.func f) a' b':=by
   generalize ea.ev x=xa at hx;cases hx;exact⟨_,_,rfl⟩
  obtain⟨a',b',h1⟩:=this;rw[h1]at hx;exact bz (by simp only[AOp.run,h1]) (mp.same hR hx h)
 .obtain⟨h1,h2⟩:=au h;obtain⟨p,h3⟩:=bn0 hx h1;rw[h3]at hx;exact bz (by simp only[AOp.run,h3]) (mp.same hR hx h2)
theorem dp5 {neg b:Bool}:(b !=neg)=dp4 neg b:=by cases neg<;>cases b<;>rfl
theorem dP8 (hR:ec c)(he:az c e ea){kd:Nat}{neg:Bool}{x z:Operand}{p:Bool}(hp:dP7 c.S kd (ev e x) (ev e z)=Y p)(h:k (.bool (dp4 neg p)) c.S=Y y):br T (.eqv kd neg x z) ea c.σ (mp c d k y):=by
 have hx:=bt he x;have hz:=bt he z
 have key:cA7 kd (ea.ev x) (ea.ev z)=Y p->br T (.eqv kd neg x z) ea c.σ (mp c d k y):=λh1=>
  bz (v:= .bool (p !=neg)) (by simp only[AOp.run,h1];rfl) (mp.same hR (by rw[dp5];exact .bool _) h)
 generalize ev e x=xv at*;generalize ev e z=zv at*;unfold dP7 at hp;split at hp
 .injection hp with hp;subst hp
  rw[hx.bool_inv,hz.bool_inv]at key;exact key rfl
 .injection hp with hp;subst hp
  refine key ?_;generalize ea.ev x=xa at*;generalize ea.ev z=za at*;cases hx;cases hz;rfl
 .cases hi:bS7 c.S zv with
  |false=>rw[hi]at hp;cases hp
  |true=>
   rw[hi]at hp;injection hp with hp;subst hp
   refine key ?_;obtain⟨q,h1⟩:=bn0 hz hi;rw[h1];generalize ea.ev x=xa at*;cases hx;rfl
 .cases hi:bS7 c.S xv with
  |false=>rw[hi]at hp;cases hp
  |true=>
   rw[hi]at hp;injection hp with hp;subst hp
   refine key ?_;obtain⟨q,h1⟩:=bn0 hx hi;rw[h1];generalize ea.ev z=za at*;cases hz;rfl
 .injection hp with hp;subst hp
  refine key ?_;generalize ea.ev x=xa at*;generalize ea.ev z=za at*;cases hx;cases hz;rfl
 .injection hp with hp;subst hp
  refine key ?_;generalize ea.ev x=xa at*;generalize ea.ev z=za at*;cases hx;cases hz;rfl
 .injection hp with hp;subst hp
  refine key ?_;generalize ea.ev x=xa at*;generalize ea.ev z=za at*;cases hx;cases hz;rfl
 .injection hp with hp;subst hp
  refine key ?_;generalize ea.ev x=xa at*;generalize ea.ev z=za at*;cases hx;cases hz;rfl
 .cases hp
theorem dB5 {kd:Nat}{v w:VV}{va wa:Value}{p:Bool}(h:dc0 kd v w=Y p)(hv:VRel c v va)(hw:VRel c w wa):ac4 kd va wa=Y p:=by
 unfold dc0 at h;split at h
 .injection h with h;subst h
  rw[hv.bool_inv,hw.bool_inv];rfl
 .rename_i k1 a k2 b;cases hk:Zc (k1=k2)with
  |false=>rw[hk]at h;cases h
  |true=>
   rw[hk]at h;injection h with h;subst h
   rw[hv.int_inv,hw.int_inv];simp only[ac4,of_decide_eq_true hk,if_true];by_cases e:a=b<;>simp[e]
 .injection h with h;subst h
  obtain⟨s,e1,rfl⟩:=hv.str_inv;obtain⟨t,e2,rfl⟩:=hw.str_inv;rw[e1,e2];simp only[ac4];rw[by3]
 .cases h
theorem dB6 : ∀{ks:List Nat} {l m:List VV} {la ma:List Value} {p:Bool},cc9 ks l m=Y p->F2 (VRel c) l la->F2 (VRel c) m ma->ny ks la ma=Y p:=by
 intro ks;induction ks with
 |nil=>
  intro l m la ma p h hl hm;cases hl<;>cases hm<;>simp only[cc9]at h<;>try(cases h;done)
  exact h
 |cons kd ks ih=>
  intro l m la ma p h hl hm;cases hl with
  |nil=>cases m<;>simp[cc9]at h
  |cons h1 h2=>
   cases hm with
   |nil=>cases ks<;>simp[cc9]at h
   |cons h3 h4=>
    rename_i v va l' la' w wa m' ma'
    have key: ∀q r,dc0 kd v w=Y q->cc9 ks l' m'=Y r->p=(q&&r)->ny (kd::ks) (va::la') (wa::ma')=Y p:=by
     intro q r e1 e2 e3;simp only[ny,dB5 e1 h1 h3];cases q with
     |false=>simp[e3]
     |true=>rw[ih e2 h2 h4,e3];simp
    unfold cc9 at h;split at h
    .rename_i e1 e2 e3;cases e1
    .rename_i e1 e2 e3;cases e1;cases e2;cases e3;cases h2;cases h4;exact key p Za h rfl (by simp)
    .rename_i e1 e2 e3;cases e1;cases e2;cases e3;cases hq:dc0 kd v w with
     |none=>rw[hq]at h;cases h
     |some q=>
      rw[hq]at h;simp only[zG]at h;cases hr:cc9 ks l' m' with
      |none=>rw[hr]at h;cases h
      |some r=>
       rw[hr]at h;injection h with h
       exact key q r hq hr h.symm
    .cases h
theorem cM9 (hR:ec c)(he:az c e ea){ks:List Nat}{neg:Bool}{x z:Operand}{a b:List VV}{p:Bool}(h1:ev e x= .agg a)(h2:ev e z= .agg b)(hp:cc9 ks a b=Y p)(h:k (.bool (dp4 neg p)) c.S=Y y):
  br T (.eqCells neg ks x z) ea c.σ (mp c d k y):=by
 have hx:=bt he x;have hz:=bt he z;rw[h1]at hx;rw[h2]at hz;obtain⟨as,e1,f1⟩:=hx.agg_inv;obtain⟨bs,e2,f2⟩:=hz.agg_inv;exact bz (v:= .bool (p !=neg)) (by simp only[AOp.run,e1,e2,dB6 hp f1 f2];rfl) (mp.same hR (by rw[dp5];exact .bool _) h)
theorem eb7 (hR:ec c)(he:az c e ea){op:UnOp}{x:Operand}(h:unK op (ev e x) (λv=>k v c.S)=Y y):br T (.un op x) ea c.σ (mp c d k y):=by
 have hx:=bt he x;unfold unK at h;split at h
 .rename_i kd n hv;rw[hv]at hx;exact bz (by simp only[AOp.run,hx.int_inv];rfl) (mp.same hR (.int _ _) h)
 .rename_i kd n hv;rw[hv]at hx;exact bz (by simp only[AOp.run,hx.int_inv];rfl) (mp.same hR (.int _ _) h)
 .rename_i b hv;rw[hv]at hx;exact bz (by simp only[AOp.run,hx.bool_inv];rfl) (mp.same hR (.bool _) h)
 .cases h
theorem bS5 {v:VV}{n:Int}{a:Value}(h:cg4 v=Y n)(hv:VRel c v a): ∃kd,a= .int kd n:=by
 cases v<;>simp only[cg4]at h<;>try(cases h;done)
 injection h with h;subst h
 exact⟨_,hv.int_inv⟩
theorem dA5 (hR:ec c)(he:az c e ea){kd:IntKind}{x:Operand}{n:Int}(hn:cg4 (ev e x)=Y n)(h:k (.int kd (kd.wrap n)) c.S=Y y):br T (.conv kd x) ea c.σ (mp c d k y):=by
 obtain⟨kd',hx⟩:=bS5 hn (bt he x);exact bz (by simp only[AOp.run,hx];rfl) (mp.same hR (.int _ _) h)
theorem dd7 (hR:ec c)(he:az c e ea){f:Nat}{a b:List Operand}(h:k (.fn f (a.map (ev e)) (b.map (ev e))) c.S=Y y):br T (.mkFunc f a b) ea c.σ (mp c d k y):=
 bz rfl (mp.same hR (.fn (by simpa using bJ6 he a) (by simpa using bJ6 he b)) h)
theorem dc2 (hR:ec c)(he:az c e ea){o n:Nat}{agg:Bool}{x:Operand}{cs:List VV}(hx:ev e x= .agg cs)(h:cond agg (k (.agg (aC6 cs o n)) c.S) (de5 c.S (nth cs o) k)=Y y):br T (.fieldV o n agg x) ea c.σ (mp c d k y):=by
 have hv:=bt he x;rw[hx]at hv;obtain⟨as,e1,f1⟩:=hv.agg_inv;cases agg with
 |true=>
  refine bz (v:= .agg (as.extract o (o+n))) (by simp only[AOp.run,e1];rfl) (mp.same hR (.agg ?_) h);have:=(f1.drop o).take n;simpa[aC6,Array.toList_extract,bD]using this
 |false=>
  rw[zD]at h;cases hn:nth cs o with
  |none=>rw[hn]at h;cases h
  |some w=>
   rw[hn]at h;obtain⟨u,h1,h2⟩:=F2.nth f1 hn;have h1':as[o]?=Y u:=by simpa using h1
   exact bz (by simp only[AOp.run,e1,h1'];rfl) (mp.same hR h2 h)
theorem cN1 (hR:ec c)(he:az c e ea){i:Nat}{x:Operand}{cs:List VV}(hx:ev e x= .tup cs)(h:de5 c.S (nth cs i) k=Y y):br T (.extract x i) ea c.σ (mp c d k y):=by
 have hv:=bt he x;rw[hx]at hv;obtain⟨as,e1,f1⟩:=hv.tup_inv;cases hn:nth cs i with
 |none=>rw[hn]at h;cases h
 |some w=>
  rw[hn]at h;obtain⟨u,h1,h2⟩:=F2.nth f1 hn;have h1':as[i]?=Y u:=by simpa using h1
  exact bz (by simp only[AOp.run,e1,h1'];rfl) (mp.same hR h2 h)
theorem be8 {i:Int}{n j:Nat}(h:ix i n=Y j):0<=i/\i<n/\j=i.toNat/\j<n:=by
 unfold ix at h;cases hb:(Zc (0<=i)&&Zc (i<n))with
 |false=>rw[hb]at h;cases h
 |true=>
  rw[hb]at h;injection h with h
  rw[aD]at hb;have h1:=of_decide_eq_true hb.1;have h2:=of_decide_eq_true hb.2;exact⟨h1,h2,h.symm,by omega⟩
theorem cW7 {α:Type}{l:List α}{i:Int}{x:α}(h:rd l i=Y x):0<=i/\i<l.length/\l[i.toNat]?=Y x:=by
 unfold rd at h;cases hb:Zc (0<=i)with
 |false=>rw[hb]at h;cases h
 |true=>
  rw[hb]at h;have h1:=of_decide_eq_true hb
  have h2:i.toNat<l.length:=by
   rcases Nat.lt_or_ge i.toNat l.length with h3|h3
   .exact h3
   .rw[zC,List.getElem?_eq_none h3]at h;cases h
  exact⟨h1,by omega,h⟩
theorem ag {α γ:Type}{x:Option α}{f:α->Option γ}{z:γ}(h:x.bind f=Y z): ∃a,x=Y a/\f a=Y z:=by
 cases x with
 |none=>cases h
 |some a=>exact⟨a,rfl,h⟩
theorem dd2 (hR:ec c)(he:az c e ea){ln es:Nat}{agg:Bool}{x z:Operand}{cs:List VV}{kd:IntKind}{i:Int}(hx:ev e x= .agg cs)(hz:ev e z= .int kd i)
  (h:((ix i ln).bind λj=>cond agg (k (.agg (aC6 cs (j*es) es)) c.S) (gd (Nat.beq es 1&&Nat.beq cs.length ln) (cy9 cs j c.S k)))=Y y):br T (.indexV ln es agg x z) ea c.σ (mp c d k y):=by
 have hv:=bt he x;have hw:=bt he z;rw[hx]at hv;rw[hz]at hw;obtain⟨as,e1,f1⟩:=hv.agg_inv;have e2:=hw.int_inv;obtain⟨j,h1,h2⟩:=ag h;obtain⟨h3,h4,rfl,h5⟩:=be8 h1;cases agg with
 |true=>
  refine bz (v:= .agg (as.extract (i.toNat*es) (i.toNat*es+es))) (by simp only[AOp.run,e1,e2];rw[zE ⟨h3,h4⟩];rfl) (mp.same hR (.agg ?_) h2);have:=(f1.drop (i.toNat*es)).take es;simpa[aC6,Array.toList_extract,bD]using this
 |false=>
  rw[zD]at h2;obtain⟨h6,h7⟩:=au h2;rw[aD]at h6;have h8:=cB h6.1;have h9:=cB h6.2;subst h8;obtain⟨w,h10,h11⟩:=cz0 (by omega) h7;obtain⟨u,h12,h13⟩:=f1.get _ _ h10;have h14:as[i.toNat*1]?=Y u:=by rw[Nat.mul_one];simpa using h12
  exact bz (by simp only[AOp.run,e1,e2,h14];rw[zE ⟨h3,h4⟩];rfl) (mp.same hR h13 h11)
theorem dd1 (hR:ec c)(he:az c e ea){x z:Operand}{l:Zd}{kd:IntKind}{i:Int}(hx:ev e x= .str l)(hz:ev e z= .int kd i)(h:((rd l i).bind λb=>k (.int .u8 b) c.S)=Y y):br T (.indexS x z) ea c.σ (mp c d k y):=by
 have hv:=bt he x;have hw:=bt he z;rw[hx]at hv;rw[hz]at hw;obtain⟨s,e1,rfl⟩:=hv.str_inv;have e2:=hw.int_inv;obtain⟨b,h1,h2⟩:=ag h;obtain⟨h3,h4,h5⟩:=cW7 h1;simp only[lh,List.getElem?_map]at h5;cases hb:s.data.toList[i.toNat]? with
 |none=>rw[hb]at h5;cases h5
 |some u=>
  rw[hb,aB]at h5;injection h5 with h5
  subst h5
  have h6:s[i.toNat]?=Y u:=by
   have:i.toNat<s.size:=by rw[au2]at h4;omega
   rw[getElem?_pos s i.toNat this];rw[<-hb,Array.getElem?_toList,getElem?_pos s.data i.toNat this];rfl
  exact bz (v:= .int .u8 u.toNat) (by simp only[AOp.run,e1,e2,h6];rw[zE h3];rfl) (mp.same hR (.int _ _) h2)
theorem dE1 (hR:ec c)(he:az c e ea){x z:Operand}{kd kd':IntKind}{a b:Int}(hx:ev e x= .int kd a)(hz:ev e z= .int kd' b)(h:k (.int kd (max a b)) c.S=Y y):br T (.most x z) ea c.σ (mp c d k y):=by
 have hv:=bt he x;have hw:=bt he z;rw[hx]at hv;rw[hz]at hw;refine bz (v:= .int kd (max a b)) ?_ (mp.same hR (.int _ _) h);simp only[AOp.run,hv.int_inv,hw.int_inv,cR3,aB]
 congr 3
 split<;>omega
theorem dn9 (hR:ec c)(he:az c e ea){x z:Operand}{kd kd':IntKind}{a b:Int}(hx:ev e x= .int kd a)(hz:ev e z= .int kd' b)(h:k (.int kd (min a b)) c.S=Y y):br T (.least x z) ea c.σ (mp c d k y):=by
 have hv:=bt he x;have hw:=bt he z;rw[hx]at hv;rw[hz]at hw;refine bz (v:= .int kd (min a b)) ?_ (mp.same hR (.int _ _) h);simp only[AOp.run,hv.int_inv,hw.int_inv,cu5,aB]
 congr 3
 split<;>omega
end
end
end Go.V
