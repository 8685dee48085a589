/- A part of the proof. No condition. -/
import Derived.Test.YtknphpcjacoaeaaGreatA3
set_option linter.unusedVariables false
set_option linter.unusedSimpArgs false
set_option linter.unusedSectionVars false
namespace Go.V
open Go.Ab
open Option renaming some->O,none->Y
open Bool renaming true->Za,false->Zb
open Decidable renaming decide->Zc
variable {i k lo o p:Nat}{a:Value}{d:Nat×Nat}{ea:cm}
section
open List renaming replicate -> bD
open Nat renaming beq -> aB, ble -> aD
open Option renaming none -> bB
inductive Sh where
 |int (k:IntKind)
 |bool
 |str
 |list (s:Sh)
 |pair (a b:Sh)
 deriving DecidableEq
@[reducible] def El :Sh->Type
 | .int _=>Int
 | .bool=>Bool
 | .str=>Zd
 | .list s=>List (El s)
 | .pair a b=>El a×El b
def Sh.w :Sh->Nat
 | .pair a b=>a.w+b.w
 |_=>1
inductive VV where
 |undef
 |bool (b:Bool)
 |int (k:IntKind) (n:Int)
 |str (l:Zd)
 |nilp
 |nils
 |nilf
 |ptr (k o:Nat)
 |pix (k o n i:Nat)
 |pel (k i o:Nat)
 |pin (s:Sh) (x:El s) (o:Nat)
 |lst (s:Sh) (l:List (El s))
 |tgt (s:Sh) (l:List (El s))
 |full (k:Nat)
 |part (k lo n:Nat)
 |it (k:Nat) (l:Zd)
 |bld (k:Nat)
 |fn (f:Nat) (a c:List VV)
 |agg (l:List VV)
 |tup (l:List VV)
inductive Blk where
 |dead
 |cells (es:Nat) (fz:Bool) (l:List VV)
 |arr (s:Sh) (fz:Bool) (l:List (El s))
abbrev ak :=List Blk
abbrev dk :=List VV
def qe :dk->Nat->VV
 |[],_=> .undef
 |v::_,0=>v
 |_::r,n+1=>qe r n
def uz :dk->Nat->VV->dk
 |[],0,v=>[v]
 |[],n+1,v=> .undef::uz [] n v
 |_::r,0,v=>v::r
 |a::r,n+1,v=>a::uz r n v
def putO (e:dk)(d:Option Nat)(v:VV):dk:=match d with
 |some d=>uz e d v
 |none=>e
def ae :ak->Nat->Blk
 |[],_=> .dead
 |b::_,0=>b
 |_::r,n+1=>ae r n
def oW :ak->Nat->Blk->ak
 |[],_,_=>[]
 |_::r,0,b=>b::r
 |a::r,n+1,b=>a::oW r n b
def nth {α:Type}:List α->Nat->Option α
 |[],_=>Y
 |v::_,0=>O v
 |_::r,n+1=>nth r n
def nF (s:ByteArray):Zd:=s.data.toList.map λb=>(b.toNat:Int)
def N3 :Value->VV
 | .bool b=> .bool b
 | .int k n=> .int k n
 | .string s=> .str (nF s)
 | .pointer Y=> .nilp
 | .slice Y 0 0=> .nils
 | .nilFunc=> .nilf
 |_=> .undef
def ofC :Value->VV
 | .agg cs=> .agg (cs.toList.map N3)
 |v=>N3 v
def ev (e:dk):Operand->VV
 | .tmp t=>qe e t
 | .const v=>ofC v
 | .func f=> .fn f [] []
 | .global _=> .undef
def aL7 :VV->Bool
 | .undef| .agg _| .tup _=>Zb
 |_=>Za
def qN :VV->List VV
 | .agg l=>l
 |v=>[v]
def du :(s:Sh)->El s->List VV
 | .int k,n=>[.int k n]
 | .bool,b=>[.bool b]
 | .str,l=>[.str l]
 | .list s,l=>[.lst s l]
 | .pair a b,x=>du a x.1++du b x.2
def ib (s:Sh)(l:List (El s)):List VV:=l.flatMap (du s)
def sW (c s:Sh)(x:El c):Option (El s):=if h:c=s then O (h▸x)else Y
def Nm {α:Type}(f:List VV->Option (α×List VV)):Nat->List VV->Option (List α)
 |_,[]=>O []
 |0,_::_=>Y
 |n+1,v::l=>(f (v::l)).bind λp=>(Nm f n p.2).bind λr=>O (p.1::r)
def Blk.frozen :Blk->Bool
 | .dead=>Za
 | .cells _ z _=>z
 | .arr _ z _=>z
def BZ (s:Sh)(f:List VV->Option (El s×List VV)):Blk->Option (List (El s))
 | .dead=>Y
 | .arr g _ l=>sW (.list g) (.list s) l
 | .cells c _ l=>bif aB c s.w then Nm f l.length l else Y
def Iu (S:ak)(s:Sh)(f:List VV->Option (El s×List VV)):VV->Option (List (El s))
 | .nils=>O []
 | .lst c l=>sW (.list c) (.list s) l
 | .full k=>BZ s f (ae S k)
 | .part k lo n=>(BZ s f (ae S k)).bind λl=>O ((l.drop lo).take n)
 |_=>Y
def Ug (S:ak)(s:Sh)(f:List VV->Option (El s×List VV)):VV->Option (List (El s))
 | .full k=>bif (ae S k).frozen then Iu S s f (.full k)else Y
 | .part k lo n=>bif (ae S k).frozen then Iu S s f (.part k lo n)else Y
 |v=>Iu S s f v
def nY (S:ak):(s:Sh)->List VV->Option (El s×List VV)
 | .int k, .int c n::r=>bif Zc (c=k)then O (n,r)else Y
 | .bool, .bool b::r=>O (b,r)
 | .str, .str l::r=>O (l,r)
 | .list s,v::r=>(Ug S s (nY S s) v).bind λl=>O (l,r)
 | .pair a b,l=>(nY S a l).bind λp=>(nY S b p.2).bind λq=>O ((p.1,q.1),q.2)
 |_,_=>Y
def aa2 (S:ak)(s:Sh)(v:VV):Option (List (El s)):=Iu S s (nY S s) v
def Blk.freeze :Blk->Blk
 | .dead=> .dead
 | .cells c _ l=> .cells c Za l
 | .arr s _ l=> .arr s Za l
def fzv :Nat->ak->VV->ak
 |0,S,_=>S
 |n+1,S,v=>match v with
  | .full k=>(match ae S k with
   | .cells c _ l=>l.foldl (fzv n) (oW S k (.cells c Za l))
   |b=>oW S k b.freeze)
  | .part k _ _=>(match ae S k with
   | .cells c _ l=>l.foldl (fzv n) (oW S k (.cells c Za l))
   |b=>oW S k b.freeze)
  |_=>S
def KJ (S:ak)(l:List VV):ak:=l.foldl (fzv 3) S
def ba5 (S:ak):VV->ak
 | .full k=>(match ae S k with
  | .cells _ _ l=>KJ S l
  |_=>S)
 | .part k _ _=>(match ae S k with
  | .cells _ _ l=>KJ S l
  |_=>S)
 |_=>S
section
variable {β:Type}
def gd (b:Bool)(x:Option β):Option β:=cond b x Y
def ix (i:Int)(n:Nat):Option Nat:=cond (Zc (0<=i)&&Zc (i<n)) (O i.toNat) Y
def rd {α:Type}(l:List α)(i:Int):Option α:=cond (Zc (0<=i)) l[i.toNat]? Y
def aA0 (p:Bool):VV->VV->Option VV
 | .int k x, .int c y=>cond (Zc (k=c)) (O (.int k (cond p x y))) Y
 | .bool x, .bool y=>O (.bool (cond p x y))
 | .str x, .str y=>O (.str (cond p x y))
 |_,_=>Y
def ay2 (p:Bool)(x y:VV)(S:ak)(k:VV->ak->Option β):Option β:=match aA0 p x y with
 |some v=>k v S
 |none=>cond p (k x S) (k y S)
def PI :IntKind->List VV->Option (Zd)
 |_,[]=>O []
 |k, .int c n::r=>cond (Zc (c=k)) ((PI k r).bind λl=>O (n::l)) Y
 |_,_=>Y
def Pe :List VV->Option (List Bool)
 |[]=>O []
 | .bool b::r=>(Pe r).bind λl=>O (b::l)
 |_=>Y
def WR :List VV->Option (List (Zd))
 |[]=>O []
 | .str b::r=>(WR r).bind λl=>O (b::l)
 |_=>Y
def ab3 (S:ak)(k:VV->ak->Option β):List VV->Nat->Option β
 |[],_=>Y
 |v::r,i=>cond (aB i 0) (k v S) (ab3 S k r (i-1))
def Vm (cs:List VV)(i:Nat)(S:ak)(k:VV->ak->Option β):Option β:=match cs with
 | .int c n::r=>(match PI c r with
  |some l=>k (.int c ((n::l).getD i 0)) S
  |none=>Y)
 | .bool b::r=>(match Pe r with
  |some l=>k (.bool ((b::l).getD i Zb)) S
  |none=>Y)
 | .str b::r=>(match WR r with
  |some l=>k (.str ((b::l).getD i [])) S
  |none=>Y)
 |cs=>ab3 S k cs i
def Qs (v:VV):List VV->Nat->Nat->Option (List VV)
 |[],_,_=>O []
 |c::r,i,j=>(aA0 (aB i j) v c).bind λx=>(Qs v r i (j+1)).bind λl=>O (x::l)
def aN1 (cells:List VV)(o:Nat):List VV->List VV
 |[]=>cells
 |v::c=>aN1 (cells.set o v) (o+1) c
def Nr (cells:List VV):List (Nat×Nat×VV)->Option (List VV)
 |[]=>O cells
 |(f,c,v)::g=>
  cond (aB (qN v).length c&&aD (f+c) cells.length&&(qN v).all aL7) (Nr (cells.take f++qN v++cells.drop (f+c)) g) Y
def EH (e:dk)(l:List (Nat×Nat×Operand)):List (Nat×Nat×VV):=l.map λ(o,s,x)=>(o,s,ev e x)
def sV (l:List VV):Bool:=l.all aL7
def Sd (S:ak)(n:Nat)(agg:Bool)(a:VV)(k:VV->ak->Option β):Option β:=
 let c (cs:List VV) (o:Nat):Option β:=cond agg (gd (aD (o+n) cs.length) (k (.agg ((cs.drop o).take n)) S)) (match nth cs o with
  |some v=>k v S
  |none=>Y)
 match a with
 | .ptr b o=>(match ae S b with
  | .cells _ _ l=>c l o
  |_=>Y)
 | .pix b o m i=>(match ae S b with
  | .cells _ _ l=>gd (!agg&&aD (o+m) l.length) (Vm ((l.drop o).take m) i S k)
  |_=>Y)
 | .pel b i o=>(match ae S b with
  | .arr s _ l=>(l[i]?).bind λx=>c (du s x) o
  |_=>Y)
 | .pin s x o=>c (du s x) o
 |_=>Y
def YB (S:ak)(a:VV)(cs:List VV)(k:ak->Option β):Option β:=match a with
 | .ptr b o=>(match ae S b with
  | .cells c Zb l=>gd (aD (o+cs.length) l.length) (k (oW S b (.cells c Zb (aN1 l o cs))))
  |_=>Y)
 | .pix b o m i=>(match ae S b,cs with
  | .cells c Zb l,[v]=>gd (aD (o+m) l.length) (match Qs v ((l.drop o).take m) i 0 with
   |some f=>k (oW S b (.cells c Zb (l.take o++f++l.drop (o+m))))
   |none=>Y)
  |_,_=>Y)
 | .pel b i o=>(match ae (KJ S cs) b with
  | .arr s Zb l=>(l[i]?).bind λx=>(match nY (KJ S cs) s (aN1 (du s x) o cs)with
   |some (y,[])=>gd (aD (o+cs.length) s.w) (k (oW (KJ S cs) b (.arr s Zb (l.set i y))))
   |_=>Y)
  |_=>Y)
 |_=>Y
def A0 (k:IntKind)(f:BitVec k.bits->BitVec k.bits->BitVec k.bits)(x y:Int):Int:=k.wrap (f (BitVec.ofInt k.bits x) (BitVec.ofInt k.bits y)).toNat
def Xp (op:BinOp)(c:IntKind)(x y:Int)(k:VV->Option β):Option β:=match op with
 | .add=>k (.int c (c.wrap (x+y)))
 | .sub=>k (.int c (c.wrap (x-y)))
 | .mul=>k (.int c (c.wrap (x*y)))
 | .quo=>gd (Zc (y≠0)) (k (.int c (c.wrap (x.tdiv y))))
 | .rem=>gd (Zc (y≠0)) (k (.int c (x.tmod y)))
 | .and=>k (.int c (A0 c (· &&& ·) x y))
 | .or=>k (.int c (A0 c (· ||| ·) x y))
 | .xor=>k (.int c (A0 c (· ^^^ ·) x y))
 | .andNot=>k (.int c (A0 c (λa b=>a&&& ~~~b) x y))
 | .eql=>k (.bool (Zc (x=y)))
 | .neq=>k (.bool (Zc (x≠y)))
 | .lss=>k (.bool (Zc (x<y)))
 | .leq=>k (.bool (Zc (x<=y)))
 | .gtr=>k (.bool (Zc (y<x)))
 | .geq=>k (.bool (Zc (y<=x)))
 |_=>Y
def aA3 (op:BinOp)(c:IntKind)(x y:Int)(k:VV->Option β):Option β:=match op with
 | .shl=>gd (Zc (0<=y)) (k (.int c (c.wrap (x*2 ^ (min y.toNat c.bits)))))
 | .shr=>gd (Zc (0<=y)) (k (.int c (x.fdiv (2 ^ (min y.toNat c.bits)))))
 |_=>Y
def bp1 (a b:Nat):Bool:=aD (a+b) 9223372036854775807
def bp5 (op:BinOp)(x y:Zd)(k:VV->Option β):Option β:=match op with
 | .add=>gd (bp1 x.length y.length) (k (.str (x++y)))
 | .eql=>k (.bool (Zc (x=y)))
 | .neq=>k (.bool (Zc (x≠y)))
 |_=>Y
def aZ6 (op:BinOp)(x y:VV)(k:VV->Option β):Option β:=match x,y with
 | .int c a, .int f b=>cond (zV op) (aA3 op c a b k) (cond (Zc (c=f)) (Xp op c a b k) Y)
 | .str a, .str b=>cond (zV op) Y (bp5 op a b k)
 |_,_=>Y
def av4 (c p:Bool):Bool:=cond c (!p) p
def Blk.live :Blk->Bool
 | .dead=>Zb
 |_=>Za
def PJ (S:ak):VV->Bool
 | .ptr k _=>(ae S k).live
 | .pix k _ _ _=>(ae S k).live
 | .pel k _ _=>(ae S k).live
 | .pin _ _ _=>Za
 |_=>Zb
def ba1 (S:ak):Nat->VV->VV->Option Bool
 |0, .bool a, .bool b=>O (a==b)
 |1, .nilp, .nilp=>O Za
 |1, .nilp,v=>cond (PJ S v) (O Zb) Y
 |1,v, .nilp=>cond (PJ S v) (O Zb) Y
 |2, .nils, .nils=>O Za
 |3, .nilf, .nilf=>O Za
 |3, .nilf, .fn _ _ _=>O Zb
 |3, .fn _ _ _, .nilf=>O Zb
 |_,_,_=>Y
def ag4 :Nat->VV->VV->Option Bool
 |0, .bool a, .bool b=>O (a==b)
 |1, .int k a, .int c b=>cond (Zc (k=c)) (O (Zc (a=b))) Y
 |2, .str a, .str b=>O (Zc (a=b))
 |_,_,_=>Y
def Rk :List Nat->List VV->List VV->Option Bool
 |[],[],[]=>O Za
 |[k],[a],[b]=>ag4 k a b
 |k::c,a::r,b::s=>(ag4 k a b).bind λp=>(Rk c r s).bind λq=>O (p&&q)
 |_,_,_=>Y
def unK (op:UnOp)(x:VV)(k:VV->Option β):Option β:=match op,x with
 | .neg, .int c n=>k (.int c (c.wrap (0-n)))
 | .xor, .int c n=>k (.int c (c.wrap (BitVec.ofInt c.bits (if c.signed then-1 else c.max) ^^^ BitVec.ofInt c.bits n).toNat))
 | .not, .bool b=>k (.bool !b)
 |_,_=>Y
def RT :VV->Option Int
 | .int _ n=>O n
 |_=>Y
def lenOf (S:ak):VV->Option Nat
 | .nils=>O 0
 | .lst _ l=>O l.length
 | .full b=>(match ae S b with
  | .arr _ _ l=>O l.length
  | .cells c _ l=>O (l.length / c)
  | .dead=>Y)
 | .part b _ n=>cond (ae S b).live (O n) Y
 | .str l=>O l.length
 |_=>Y
def Il {α:Type}(l:List α)(lo c:Int):List α:=(l.take c.toNat).drop lo.toNat
def Iv :Option VV->Option Int
 |none=>O 0
 |some v=>RT v
def CY (n:Nat):Option VV->Option Int
 |none=>O n
 |some v=>RT v
def gy (lo c:Int)(n:Nat):Bool:=Zc (0<=lo)&&Zc (lo<=c)&&Zc (c<=n)
def Yx (S:ak)(es:Nat)(x:VV)(lo f:Option VV)(k:VV->ak->Option β):Option β:=
 match lenOf S x with
 |none=>Y
 |some n=>match Iv lo,CY n f with
  |some a,O b=>(match x with
   | .nils=>gd (gy a b n) (k .nils S)
   | .lst s l=>gd (aB es s.w) (match lo,f with
    |none,Y=>k (.lst s l) S
    |_,_=>gd (gy a b n) (k (.lst s (Il l a b)) S))
   | .full q=>(match ae S q with
    | .arr s _ _=>gd (aB es s.w) (gd (gy a b n) (k (.part q a.toNat (b.toNat-a.toNat)) S))
    | .cells c _ _=>gd (aB es c&&aD 1 es) (gd (gy a b n) (k (.part q a.toNat (b.toNat-a.toNat)) S))
    | .dead=>Y)
   | .part q o _=>(match ae S q with
    | .arr s _ _=>gd (aB es s.w) (gd (gy a b n) (k (.part q (o+a.toNat) (b.toNat-a.toNat)) S))
    | .cells c _ _=>gd (aB es c&&aD 1 es) (gd (gy a b n) (k (.part q (o+a.toNat) (b.toNat-a.toNat)) S))
    | .dead=>Y)
   |_=>Y)
  |_,_=>Y
def MU (S:ak)(es n:Nat)(x:VV)(lo g:Option VV)(k:VV->ak->Option β):Option β:=match x with
 | .ptr b o=>(match ae S b with
  | .cells f Zb l=>(match Iv lo,CY n g with
   |some a,O c=>gd (aB es f&&aD 1 es&&aB (o % es) 0&&aD (o+n*es) l.length&&gy a c n&&Zc (a<n)) (k (.part b (o / es+a.toNat) (c.toNat-a.toNat)) S)
   |_,_=>Y)
  | .arr s Zb l=>(match Iv lo,CY n g with
   |some a,O c=>gd (aB es s.w&&aB o 0&&aD n l.length&&gy a c n&&Zc (a<n)) (k (.part b a.toNat (c.toNat-a.toNat)) S)
   |_,_=>Y)
  |_=>Y)
 |_=>Y
def bb2 :Value->Bool
 | .int .u8 n=>Zc (n=0)
 |_=>Zb
def Xw (es:Nat)(z:List Value):Bool:=aB es 1&&aD 20 z.length&&z.all bb2
def If (es:Nat)(z:List Value):Blk:=cond (Xw es z) (.arr (.int .u8) Zb (bD z.length (0:Int))) (.cells es Zb (z.map N3))
def bc0 (S:ak)(n:Nat):VV->Option VV
 | .ptr b o=>cond (ae S b).live (O (.ptr b (o+n))) Y
 | .pel b i o=>cond (ae S b).live (O (.pel b i (o+n))) Y
 | .pin s x o=>O (.pin s x (o+n))
 | .pix b o m i=>cond (ae S b).live (cond (aB n 0) (O (.pix b o m i)) Y) Y
 |_=>Y
def ba9 (S:ak)(es:Nat)(x i:VV)(k:VV->ak->Option β):Option β:=match i with
 | .int _ i=>(match x with
  | .lst s l=>gd (aB es s.w) ((rd l i).bind λy=>k (.pin s y 0) S)
  | .full b=>(match ae S b with
   | .arr s _ l=>gd (aB es s.w) ((ix i l.length).bind λj=>k (.pel b j 0) S)
   | .cells c _ l=>gd (aB es c&&aD 1 es) ((ix i (l.length / es)).bind λj=>cond (aB es 1) (k (.pix b 0 l.length j) S) (k (.ptr b (j*es)) S))
   | .dead=>Y)
  | .part b o n=>(match ae S b with
   | .arr s _ _=>gd (aB es s.w) ((ix i n).bind λj=>k (.pel b (o+j) 0) S)
   | .cells c _ _=>gd (aB es c&&aD 1 es) ((ix i n).bind λj=>cond (aB es 1) (k (.pix b o n j) S) (k (.ptr b ((o+j)*es)) S))
   | .dead=>Y)
  |_=>Y)
 |_=>Y
def at5 (S:ak)(c es:Nat)(x i:VV)(k:VV->ak->Option β):Option β:=match x,i with
 | .ptr b o, .int _ i=>gd (ae S b).live ((ix i c).bind λj=>cond (aB es 1) (k (.pix b o c j) S) (k (.ptr b (o+j*es)) S))
 |_,_=>Y
def E7 (l:List VV)(a n:Nat):List VV:=(l.drop a).take n
def ip (n bytes:Nat):Bool:=Zc (n*bytes<=140737488355328)&&aD 1 bytes
inductive Base where
 |none
 |cells (es:Nat) (l:List VV)
 |arr (s:Sh) (l:List (El s))
def EC (S:ak)(es:Nat):VV->Option (Base×Option Nat)
 | .nils=>O (.none,Y)
 | .full b=>(match ae S b with
  | .arr s Zb l=>cond (aB es s.w) (O (.arr s l,O b)) bB
  | .cells c Zb l=>cond (aB es c&&aD 1 es) (O (.cells es l,O b)) bB
  |_=>bB)
 | .part b 0 n=>(match ae S b with
  | .arr s Zb l=>cond (aB es s.w) (O (.arr s (l.take n),O b)) bB
  | .cells c Zb l=>cond (aB es c&&aD 1 es) (O (.cells es (l.take (n*es)),O b)) bB
  |_=>bB)
 |_=>bB
inductive More where
 |cells (l:List VV)
 |lst (s:Sh) (l:List (El s))
def MF (S:ak)(es:Nat):VV->Option More
 | .nils=>O (.cells [])
 | .lst s l=>cond (aB es s.w) (O (.lst s l)) Y
 | .str l=>cond (aB es 1) (O (.lst (.int .u8) l)) Y
 | .full b=>(match ae S b with
  | .arr s _ l=>cond (aB es s.w) (O (.lst s l)) Y
  | .cells c _ l=>cond (aB es c&&aD 1 es) (O (.cells l)) Y
  |_=>Y)
 | .part b o n=>(match ae S b with
  | .arr s _ l=>cond (aB es s.w) (O (.lst s ((l.drop o).take n))) Y
  | .cells c _ l=>cond (aB es c&&aD 1 es) (O (.cells ((l.drop (o*es)).take (n*es)))) Y
  |_=>Y)
 |_=>Y
def vx (S:ak):Option Nat->ak
 |none=>S
 |some b=>oW S b .dead
def ac9 (S:ak)(s:Sh)(l:List VV):Option (List (El s)):=Nm (nY S s) l.length l
def VJ (S:ak)(bytes:Nat)(s:Sh)(kill:Option Nat)(a b:List (El s))(k:VV->ak->Option β):Option β:=
 gd (ip (a.length+b.length) bytes) (k (.full S.length) (vx S kill++[.arr s Zb (a++b)]))
def Of (S:ak)(es bytes:Nat)(h:Option (Base×Option Nat))(m:Option More)(k:VV->ak->Option β):Option β:=
 match h,m with
 |some (.arr s l,c),O (.lst n f)=>(sW (.list n) (.list s) f).bind λg=>VJ S bytes s c l g k
 |some (.arr s l,c),O (.cells cs)=>(match ae (KJ S cs) (c.getD 0)with
  | .arr _ Zb _=>(ac9 (KJ S cs) s cs).bind λg=>VJ (KJ S cs) bytes s c l g k
  |_=>Y)
 |some (.cells _ l,c),O (.lst s f)=>(match ae (KJ S l) (c.getD 0)with
  | .cells _ Zb _=>(ac9 (KJ S l) s l).bind λj=>VJ (KJ S l) bytes s c j f k
  |_=>Y)
 |some (.none,c),O (.lst s f)=>VJ S bytes s c [] f k
 |some (.cells es l,c),O (.cells cs)=>gd (ip ((l.length+cs.length) / es) bytes&&sV cs) (k (.full S.length) (vx S c++[.cells es Zb (l++cs)]))
 |some (.none,c),O (.cells cs)=>gd (ip (cs.length / es) bytes&&aD 1 es&&sV cs) (k (.full S.length) (vx S c++[.cells es Zb cs]))
 |_,_=>Y
def TD (S:ak)(es bytes:Nat)(x y:VV)(k:VV->ak->Option β):Option β:=Of S es bytes (EC S es x) (MF S es y) k
def QB (S:ak):VV->Option (ak×Base)
 | .lst s l=>O (S, .arr s l)
 | .full q=>(match ae S q with
  | .arr s _ l=>O (oW S q (ae S q).freeze, .arr s l)
  |_=>Y)
 |_=>Y
def UJ (S:ak)(x c f:VV)(k:VV->ak->Option β):Option β:=match c,f with
 | .int _ h, .int _ m=>gd (Zc (h=m)) (match x with
  | .nils=>gd (Zc (h=0)) (k .nils S)
  |v=>(match QB S v with
   |some (S1, .arr s l)=>gd (gy 0 h l.length) (k (.tgt s (l.take h.toNat)) S1)
   |_=>Y))
 |_,_=>Y
def YE (S:ak)(es bytes:Nat)(s:Sh)(l:List (El s))(g:Option More)(k:VV->ak->Option β):Option β:=match g with
 |some (.lst h f)=>(sW (.list h) (.list s) f).bind λc=>gd (aB es s.w&&aD 1 c.length) (VJ S bytes s Y l c k)
 |some (.cells cs)=>(ac9 (KJ S cs) s cs).bind λc=>gd (aB es s.w&&aD 1 c.length) (VJ (KJ S cs) bytes s Y l c k)
 |none=>Y
def O4 (S:ak)(es bytes:Nat)(x y:VV)(k:VV->ak->Option β):Option β:=match x with
 | .tgt s l=>YE S es bytes s l (MF S es y) k
 |x=>TD S es bytes x y k
def E3 {α:Type}(l:List α)(o n:Nat)(m:List α):List α:=l.take o++(m.take n++l.drop (o+min n m.length))
def Ly (c:IntKind)(m:Zd):Nat->List VV->Option (List VV)
 |_,[]=>O []
 |j, .int k n::r=>cond (Zc (k=c)) ((Ly c m (j+1) r).bind λl=>O (.int k (m.getD j n)::l)) Y
 |_,_=>Y
def ar2 (S:ak)(es:Nat)(d y:VV)(k:VV->ak->Option β):Option β:=
 let g (b o n:Nat):Option β:=match ae S b,MF S es y with
  | .arr s Zb l,O (.lst q j)=>(sW (.list q) (.list s) j).bind λf=>gd (aB es s.w) (k (.int .i64 (min f.length n:Nat)) (oW S b (.arr s Zb (E3 l o n f))))
  | .arr s Zb l,O (.cells cs)=>(PI .u64 cs).bind λm=>(sW (.list (.int .u64)) (.list s) m).bind λf=>gd (aB es s.w) (k (.int .i64 (min f.length n:Nat)) (oW S b (.arr s Zb (E3 l o n f))))
  | .cells 1 Zb l,O (.lst (.int h) m)=>gd (aB es 1&&aD (o+n) l.length) (match Ly h m 0 ((l.drop o).take n)with
   |some c=>k (.int .i64 (min m.length n:Nat)) (oW S b (.cells 1 Zb (l.take o++c++l.drop (o+n))))
   |none=>Y)
  |_,_=>Y
 match d with
 | .full b=>(match lenOf S d with
  |some n=>g b 0 n
  |none=>Y)
 | .part b o n=>g b o n
 |_=>Y
def ND :List Value->Option Sh
 |[.int k 0]=>O (.int k)
 |[.bool Zb]=>O .bool
 | .int k 0::r=>(ND r).bind λs=>O (.pair (.int k) s)
 | .bool Zb::r=>(ND r).bind λs=>O (.pair .bool s)
 |_=>Y
def yy :(s:Sh)->El s
 | .int _=>(0:Int)
 | .bool=>Zb
 | .str=>[]
 | .list _=>[]
 | .pair a b=>(yy a,yy b)
def av2 (S:ak)(es bytes:Nat)(z:List Value)(l c:VV)(k:VV->ak->Option β):Option β:=match l,c,ND z with
 | .int _ l, .int _ c,O s=>gd (aB es s.w&&Zc (0<=l)&&Zc (l<=c)&&Zc (bytes*c<=140737488355328)&&aD 1 bytes) (k (.full S.length) (S++[.arr s Zb (bD l.toNat (yy s))]))
 |_,_,_=>Y
def W7 (es:Nat)(z:List Value)(l:Int):Option More:=match ND z with
 |some s=>cond (aB es s.w) (O (.lst s (bD l.toNat (yy s)))) Y
 |none=>Y
def pR (bytes:Nat)(l:Int):Bool:=Zc (0<=l)&&(Zc (l<=9223372036854775807)&&Zc (l*(bytes:Int)<=281474976710656))
def O5 (S:ak)(es bytes:Nat)(z:List Value)(x l:VV)(k:VV->ak->Option β):Option β:=match l with
 | .int _ l=>gd (pR bytes l) (Of S es bytes (EC S es x) (W7 es z l) k)
 |_=>Y
end
end
variable {s:Sh}{v:VV}{b:Blk}{S:ak}{e:dk}{cs:List VV}
section
open List renaming replicate -> bB
open Nat renaming beq -> aB, ble -> aD
inductive Sk where
 |undef
 |leaf (s:Sh)
 |cint (k:IntKind) (n:Int)
 |nilp
 |nils
 |nilf
 |ptr (j o:Nat)
 |full (j:Nat)
 |pin (s:Sh) (o:Nat)
 |fn (f:Nat) (a c:List Sk)
 |agg (l:List Sk)
 |tup (l:List Sk)
inductive OSk where
 |dead
 |cells (es:Nat) (ro:Bool) (l:List Sk)
 |arr (ro:Bool) (s:Sh)
structure Leaf where
 s:Sh
 v:El s
structure Src where
 k:Nat
 cut:Option Nat
structure DSt where
 m:List (Option Src)
 ls:List Leaf
 lent:List Nat
def DSt.push (st:DSt)(s:Sh)(v:El s):DSt:={st with ls:=st.ls++[⟨s,v⟩]}
def DSt.lend (st:DSt):VV->DSt
 | .full k=>{st with lent:=k::st.lent}
 | .part k _ _=>{st with lent:=k::st.lent}
 |_=>st
def DSt.link (N:Nat)(st:DSt)(j:Nat)(x:Option Src):Option DSt:=
 cond (Nat.blt j N) (match x with
  |some ⟨k,Y⟩=>cond (aB k j) (O st) Y
  |_=>Y)
 (match nth st.m (j-N)with
 |some (O ⟨k,Y⟩)=>(match x with
  |some ⟨c,Y⟩=>cond (aB k c) (O st) Y
  |_=>Y)
 |some _=>Y
 |none=>cond (aB (j-N) st.m.length) (O {st with m:=st.m++[x]}) Y)
mutual
def Mm (S:ak)(N:Nat):Sk->VV->DSt->Option DSt
 | .undef,_,st=>O st
 | .leaf s,v,st=>(match s,v with
  | .int k, .int k' n=>cond (Zc (k'=k)) (O (st.push (.int k) n)) Y
  | .bool, .bool b=>O (st.push .bool b)
  | .str, .str l=>O (st.push .str l)
  | .list s,v=>(aa2 S s v).bind λl=>O ((st.lend v).push (.list s) l)
  |_,_=>Y)
 | .cint k n, .int k' n',st=>cond (Zc (k'=k)&&Zc (n'=n)) (O st) Y
 | .nilp, .nilp,st=>O st
 | .nils, .nils,st=>O st
 | .nilf, .nilf,st=>O st
 | .ptr j o, .ptr k o',st=>cond (aB o o') (st.link N j (O ⟨k,Y⟩)) Y
 | .full j,v,st=>(match v with
  | .full k=>st.link N j (O ⟨k,Y⟩)
  | .part k 0 n=>st.link N j (O ⟨k,O n⟩)
  | .nils=>st.link N j Y
  |_=>Y)
 | .pin s o, .pin s' x o',st=>cond (aB o o') ((sW s' s x).bind λy=>O (st.push s y)) Y
 | .fn f a c, .fn f' a' c',st=>cond (aB f f') ((Kj S N a a' st).bind λst1=>Kj S N c c' st1) Y
 | .agg l, .agg l',st=>Kj S N l l' st
 | .tup l, .tup l',st=>Kj S N l l' st
 |_,_,_=>Y
def Kj (S:ak)(N:Nat):List Sk->List VV->DSt->Option DSt
 |[],[],st=>O st
 |k::r,v::r',st=>(Mm S N k v st).bind λst1=>Kj S N r r' st1
 |_,_,_=>Y
end
def Pp {α:Type}:Option Nat->List α->List α
 |none,l=>l
 |some n,l=>l.take n
def XD (S:ak)(N:Nat):OSk->Option Src->DSt->Option DSt
 | .dead,_,c=>O c
 | .cells j f l,O ⟨k,Y⟩,c=>(match ae S k with
  | .cells h m cs=>cond (aB j h&&(f|| !m)) (Kj S N l cs (cond f {c with lent:=k::c.lent} c)) Y
  |_=>Y)
 | .arr f s,Y,c=>cond f Y (O (c.push (.list s) []))
 | .arr f s,O ⟨k,g⟩,c=>cond (f|| !(ae S k).frozen) ((aa2 S s (.full k)).bind λl=>O ((cond f {c with lent:=k::c.lent} c).push (.list s) (Pp g l))) Y
 |_,_,_=>Y
def Mn (S:ak)(N:Nat):List OSk->List Nat->DSt->Option DSt
 |[],[],c=>O c
 |o::r,j::g,c=>(XD S N o (O ⟨j,Y⟩) c).bind λf=>Mn S N r g f
 |_,_,_=>Y
def ym (S:ak)(N:Nat):List OSk->Nat->DSt->Option DSt
 |[],i,c=>cond (aB i c.m.length) (O c) Y
 |o::r,i,c=>(match nth c.m i with
  |some x=>(XD S N o x c).bind λf=>ym S N r (i+1) f
  |none=>Y)
def OSk.ro :OSk->Bool
 | .cells _ ro _=>ro
 | .arr ro _=>ro
 | .dead=>Zb
def qj (k:Nat):List Nat->Bool
 |[]=>Zb
 |a::r=>cond (aB a k) Za (qj k r)
def JX :List Nat->Bool
 |[]=>Za
 |a::r=>cond (qj a r) Zb (JX r)
def sB :List (Option Src)->List Nat
 |[]=>[]
 |none::r=>sB r
 |some x::r=>x.k::sB r
def nN :List OSk->List (Option Src)->List Nat
 |o::r,O x::s=>cond o.ro (nN r s) (x.k::nN r s)
 |_::r,Y::s=>nN r s
 |_,_=>[]
def Gm (w:List Nat)(l:List Nat):Bool:=w.all λk=> !qj k l
structure zd where
 vals:List Sk
 fix:List OSk
 free:List OSk
def qO (S:ak)(N:Nat)(fx:List Nat)(f:zd)(vals:List VV):Option DSt:=
 (Kj S N f.vals vals ⟨[],[],[]⟩).bind λh=>(Mn S N f.fix fx h).bind λg=>(ym S N f.free 0 g).bind λc=>
  cond (JX (fx++sB c.m)&&Gm (fx++nN f.free c.m) c.lent) (O c) Y
mutual
def enc (f:Nat->Nat):Sk->List Leaf->Option (VV×List Leaf)
 | .undef,ls=>O (.undef,ls)
 | .leaf s,x::ls=>(sW x.s s x.v).bind λ(y:El s)=>O ((match s,y with
  | .int k,n=> .int k n
  | .bool,b=> .bool b
  | .str,l=> .str l
  | .list s,l=> .lst s l
  | .pair _ _,_=> .undef),ls)
 | .cint k n,ls=>O (.int k n,ls)
 | .nilp,ls=>O (.nilp,ls)
 | .nils,ls=>O (.nils,ls)
 | .nilf,ls=>O (.nilf,ls)
 | .ptr j o,ls=>O (.ptr (f j) o,ls)
 | .full j,ls=>O (.full (f j),ls)
 | .pin s o,x::ls=>(sW x.s s x.v).bind λ(y:El s)=>O (.pin s y o,ls)
 | .fn g a c,ls=>(Ri f a ls).bind λp=>(Ri f c p.2).bind λq=>O (.fn g p.1 q.1,q.2)
 | .agg l,ls=>(Ri f l ls).bind λp=>O (.agg p.1,p.2)
 | .tup l,ls=>(Ri f l ls).bind λp=>O (.tup p.1,p.2)
 |_,_=>Y
def Ri (f:Nat->Nat):List Sk->List Leaf->Option (List VV×List Leaf)
 |[],ls=>O ([],ls)
 |k::r,ls=>(enc f k ls).bind λp=>(Ri f r p.2).bind λq=>O (p.1::q.1,q.2)
end
def Rj (f:Nat->Nat):OSk->List Leaf->Option (Blk×List Leaf)
 | .dead,c=>O (.dead,c)
 | .cells h g l,c=>(Ri f l c).bind λp=>O (.cells h g p.1,p.2)
 | .arr g s,x::c=>(sW x.s (.list s) x.v).bind λl=>O (.arr s g l,c)
 | .arr _ _,[]=>Y
def G2 (f:Nat->Nat):List OSk->List Leaf->Option (List Blk×List Leaf)
 |[],c=>O ([],c)
 |o::r,c=>(Rj f o c).bind λp=>(G2 f r p.2).bind λq=>O (p.1::q.1,q.2)
def tT (f:Nat->Nat)(c:zd)(ls:List Leaf):Option (List VV×List Blk×List Blk):=
 (Ri f c.vals ls).bind λp=>(G2 f c.fix p.2).bind λq=>(G2 f c.free q.2).bind λr=>match r.2 with
  |[]=>O (p.1,q.1,r.1)
  |_::_=>Y
mutual
def Sk.shs :Sk->List Sh
 | .leaf s=>[s]
 | .pin s _=>[s]
 | .fn _ a c=>Yw a++Yw c
 | .agg l=>Yw l
 | .tup l=>Yw l
 |_=>[]
def Yw :List Sk->List Sh
 |[]=>[]
 |k::r=>k.shs++Yw r
end
def OSk.shs :OSk->List Sh
 | .dead=>[]
 | .cells _ _ l=>Yw l
 | .arr _ s=>[.list s]
def bd8 :List OSk->List Sh
 |[]=>[]
 |o::r=>o.shs++bd8 r
def zd.shs (c:zd):List Sh:=Yw c.vals++(bd8 c.fix++bd8 c.free)
@[reducible] def HE :List Sh->Type
 |[]=>Unit
 |[s]=>El s
 |s::c::r=>El s×HE (c::r)
def WU :(f:List Sh)->HE f->List Leaf
 |[],_=>[]
 |[s],x=>[⟨s,x⟩]
 |s::c::r,x=>⟨s,x.1⟩::WU (c::r) x.2
def UZ :(g:List Sh)->List Leaf->Option (HE g)
 |[],[]=>O ()
 |[s],[x]=>sW x.s s x.v
 |s::f::r,x::c=>(sW x.s s x.v).bind λa=>(UZ (f::r) c).bind λb=>O (a,b)
 |_,_=>Y
inductive XK where
 |normal
 |exit (id:Nat)
 |ret
structure Alt where
 x:XK
 ts:List Nat
 sk:zd
@[reducible] def Alt.Ty (a:Alt):Type:=HE a.sk.shs
@[reducible] def zf :List Alt->Type
 |[]=>Empty
 |[a]=>a.Ty
 |a::b::r=>a.Ty⊕zf (b::r)
def bc {α γ β:Type}(s:α⊕γ)(f:α->Option β)(g:γ->Option β):Option β:=match s with
 | .inl a=>f a
 | .inr b=>g b
def ao9 {β:Type}:(l:List Alt)->zf l->((a:Alt)->a.Ty->Option β)->Option β
 |[],_,_=>Y
 |[a],t,k=>k a t
 |a::b::r,s,k=>bc s (λt=>k a t) λc=>ao9 (b::r) c k
def zd.noRo (c:zd):Bool:=c.fix.all (λo=> !o.ro)&&c.free.all λo=> !o.ro
def Pr (S:ak)(N:Nat)(fx:List Nat)(f:zd)(c:List VV):Option (HE f.shs):=
 gd f.noRo ((qO S N fx f c).bind λg=>UZ f.shs g.ls)
def zd.fxRo (c:zd):Bool:=c.fix.all λo=> !o.ro
def YZ (S:ak)(N:Nat)(fx:List Nat)(f:zd)(c:List VV):Option (HE f.shs):=
 gd f.fxRo ((qO S N fx f c).bind λg=>UZ f.shs g.ls)
def A3 (S:ak)(N:Nat)(fx:List Nat)(c:List Nat->List VV)(f:XK->Bool):(l:List Alt)->Option (zf l)
 |[]=>Y
 |[a]=>cond (f a.x) (Pr S N fx a.sk (c a.ts)) Y
 |a::b::r=>match cond (f a.x) (Pr S N fx a.sk (c a.ts)) Y with
  |some t=>O (.inl t)
  |none=>(A3 S N fx c f (b::r)).bind λs=>O (.inr s)
def Sh.al :Sh->Bool
 | .list _=>Za
 | .pair a b=>a.al||b.al
 |_=>Zb
mutual
def alV :VV->Bool
 | .lst _ _=>Za
 | .tgt _ _=>Za
 | .pin _ _ _=>Za
 | .fn _ a c=>TB a||TB c
 | .agg l=>TB l
 | .tup l=>TB l
 |_=>Zb
def TB :List VV->Bool
 |[]=>Zb
 |v::r=>alV v||TB r
end
def alB :Blk->Bool
 | .dead=>Zb
 | .cells _ _ l=>TB l
 | .arr s _ _=>s.al
def G1 (vs:List VV)(fs bs:List Blk):Bool:=TB vs||fs.any alB||bs.any alB
def Blk.may :Blk->Bool
 | .dead=>Za
 | .cells _ z _=> !z
 | .arr _ z _=> !z
def N4 (S:ak)(fx:List Nat):Bool:=fx.all λj=>Nat.blt j S.length&&(ae S j).may
structure FSum where
 f:Nat
 vals:List Sk
 objs:List OSk
 outs:List Alt
 run:HE (zd.shs ⟨vals,[],objs⟩)->Option (zf outs)
def FSum.ins (F:FSum):zd:=⟨F.vals,[],F.objs⟩
def yp :List OSk->Nat->List Nat
 |[],_=>[]
 |o::r,i=>cond o.ro (yp r (i+1)) (i::yp r (i+1))
def AY (m:List (Option Src))(n c j:Nat):Nat:=cond (Nat.blt j n) (match nth m j with
 |some (O x)=>x.k
 |_=>c) (c+(j-n))
def AJ :List Nat->List Blk->ak->Option ak
 |[],[],S=>O S
 |j::f,b::c,S=>AJ f c (oW S j b)
 |_,_,_=>Y
def at0 :Sk->VV->ak->ak
 | .leaf (.list (.list _)),v,S=>ba5 S v
 |_,_,S=>S
def Iq :List Sk->List VV->ak->ak
 |k::r,v::c,S=>Iq r c (at0 k v S)
 |_,_,S=>S
def G3 :List Nat->ak->ak
 |[],S=>S
 |k::r,S=>G3 r (oW S k (ae S k).freeze)
def aT6 {β:Type}(F:FSum)(t:HE F.ins.shs)(st:DSt)(S:ak)(k:VV->ak->Option β):Option β:=
 (F.run t).bind λo=>ao9 F.outs o λa u=>match tT (AY st.m F.objs.length S.length) a.sk (WU a.sk.shs u)with
  |some ([v],f,c)=>(match AJ (nN F.objs st.m) f (cond (G1 [v] f c) (G3 st.lent S) S)with
   |some S'=>k v (S'++c)
   |none=>Y)
  |_=>Y
def R4 :List (Option Src)->Bool
 |[]=>Za
 |some ⟨_,Y⟩::r=>R4 r
 |_=>Zb
def Pm {β:Type}:List FSum->Nat->List VV->ak->(VV->ak->Option β)->Option β
 |[],_,_,_,_=>Y
 |F::r,f,c,S,k=>cond (aB F.f f) (match qO (Iq F.vals c S) 0 [] F.ins c with
  |some g=>(match UZ F.ins.shs g.ls with
   |some t=>gd (R4 g.m&&N4 (Iq F.vals c S) (nN F.objs g.m)) (aT6 F t g (Iq F.vals c S) k)
   |none=>Pm r f c S k)
  |none=>Pm r f c S k) (Pm r f c S k)
structure Inl where
 f:Nat
 run:(β:Type)->List VV->ak->(VV->ak->Option β)->Option β
structure Tab where
 fs:List FSum
 is:List Inl
def aI9 :List Inl->Nat->Bool
 |[],_=>Zb
 |I::r,f=>cond (aB I.f f) Za (aI9 r f)
def YU {β:Type}:List Inl->Nat->List VV->ak->(VV->ak->Option β)->Option β
 |[],_,_,_,_=>Y
 |I::r,f,c,S,k=>cond (aB I.f f) (I.run β c S k) (YU r f c S k)
def YV {β:Type}(tab:Tab)(f:Nat)(c:List VV)(S:ak)(k:VV->ak->Option β):Option β:=
 cond (aI9 tab.is f) (YU tab.is f c S k) (Pm tab.fs f c S k)
def Pb :Nat->List Nat
 |0=>[]
 |n+1=>n::Pb n
def ai9 {β:Type}(S:ak)(x:Option VV)(k:VV->ak->Option β):Option β:=match x with
 |some v=>k v S
 |none=>Y
def Py {β:Type}(tab:Tab)(op:AOp)(e:dk)(S:ak)(k:VV->ak->Option β):Option β:=match op with
 | .move x=>k (ev e x) S
 | .pick c a b=>(match ev e c with
  | .bool p=>ay2 p (ev e a) (ev e b) S k
  |_=>Y)
 | .alloc g z=>gd (aD 1 g) (k (.ptr S.length 0) (S++[If g z]))
 | .box g x=>gd (aD 1 g&&sV (qN (ev e x))) (k (.ptr S.length 0) (S++[.cells g Zb (qN (ev e x))]))
 | .build z u=>(match Nr (z.map N3) (EH e u)with
  |some cs=>k (.agg cs) S
  |none=>Y)
 | .buildSlice g q z u=>(match Nr ((bB q (z.map N3)).flatten) (EH e u)with
  |some cs=>gd (sV cs&&aB (q*g) cs.length&&aD 1 g) (k (.full S.length) (S++[.cells g Zb cs]))
  |none=>Y)
 | .load x=>Sd S 1 Zb (ev e x) k
 | .loadN n x=>Sd S n Za (ev e x) k
 | .store n a x=>gd (aB (qN (ev e x)).length n&&sV (qN (ev e x))) (YB S (ev e a) (qN (ev e x)) λS'=>k .undef S')
 | .nilCheck x=>(match ev e x with
  | .fn f a c=>k (.fn f a c) S
  |v=>gd (PJ S v) (k v S))
 | .bin op x y=>aZ6 op (ev e x) (ev e y) λv=>k v S
 | .eqv m r x y=>(match ba1 S m (ev e x) (ev e y)with
  |some b=>k (.bool (av4 r b)) S
  |none=>Y)
 | .eqCells r A x y=>(match ev e x,ev e y with
  | .agg a, .agg b=>(match Rk A a b with
   |some p=>k (.bool (av4 r p)) S
   |none=>Y)
  |_,_=>Y)
 | .un op x=>unK op (ev e x) λv=>k v S
 | .conv m x=>(match RT (ev e x)with
  |some n=>k (.int m (m.wrap n)) S
  |none=>Y)
 | .mkFunc f a c=>k (.fn f (a.map (ev e)) (c.map (ev e))) S
 | .makeSlice g h z l c=>av2 S g h z (ev e l) (ev e c) k
 | .slice g x lo t=>Yx S g (ev e x) (lo.map (ev e)) (t.map (ev e)) k
 | .sliceArr g n x lo t=>MU S g n (ev e x) (lo.map (ev e)) (t.map (ev e)) k
 | .off n x=>ai9 S (bc0 S n (ev e x)) k
 | .idx g x i=>ba9 S g (ev e x) (ev e i) k
 | .idxA q g x i=>at5 S q g (ev e x) (ev e i) k
 | .fieldV o n agg x=>(match ev e x with
  | .agg cs=>cond agg (k (.agg (E7 cs o n)) S) (ai9 S (nth cs o) k)
  |_=>Y)
 | .indexV q g agg x i=>(match ev e x,ev e i with
  | .agg cs, .int _ i=>(ix i q).bind λj=>cond agg (k (.agg (E7 cs (j*g) g)) S) (gd (aB g 1&&aB cs.length q) (Vm cs j S k))
  |_,_=>Y)
 | .indexS x i=>(match ev e x,ev e i with
  | .str l, .int _ i=>(rd l i).bind λb=>k (.int .u8 b) S
  |_,_=>Y)
 | .extract x i=>(match ev e x with
  | .tup C=>ai9 S (nth C i) k
  |_=>Y)
 | .call f w=>YV tab f (w.map (ev e)) S k
 | .callv x w=>(match ev e x with
  | .fn f a c=>YV tab f (a++w.map (ev e)++c) S k
  |_=>Y)
 | .append g h s x=>O4 S g h (ev e s) (ev e x) k
 | .stuck=>Y
 | .capN x=>(match ev e x with
  | .nils=>k (.int .i64 0) S
  |_=>Y)
 | .sliceX x t B=>UJ S (ev e x) (ev e t) (ev e B) k
 | .appendZ g h z s x=>O5 S g h z (ev e s) (ev e x) k
 | .copy g d s=>ar2 S g (ev e d) (ev e s) k
 | .len x=>(match ev e x with
  | .str _=>Y
  |v=>(match lenOf S v with
   |some n=>k (.int .i64 n) S
   |none=>Y))
 | .lenC n=>k (.int .i64 n) S
 | .most x y=>(match ev e x,ev e y with
  | .int m a, .int _ b=>k (.int m (max a b)) S
  |_,_=>Y)
 | .least x y=>(match ev e x,ev e y with
  | .int m a, .int _ b=>k (.int m (min a b)) S
  |_,_=>Y)
section
variable (tab:Tab)
def Im {β:Type}:List AOper->dk->ak->(dk->ak->Option β)->Option β
 |[],e,S,k=>k e S
 |o::r,e,S,k=>match o.guard with
  |none=>Py tab o.op e S λv S'=>Im r (putO e o.dst v) S' k
  |some (t,w)=>match qe e t with
   | .bool p=>cond p
    (cond w (Py tab o.op (uz e t (.bool Za)) S λv S'=>Im r (putO (uz e t (.bool Za)) o.dst v) S' k) (Im r (putO (uz e t (.bool Za)) o.dst (.tup [])) S k))
    (cond w (Im r (putO (uz e t (.bool Zb)) o.dst (.tup [])) S k) (Py tab o.op (uz e t (.bool Zb)) S λv S'=>Im r (putO (uz e t (.bool Zb)) o.dst v) S' k))
   | .tup []=>Im r (putO e o.dst (.tup [])) S k
   |_=>Y
def CR :VV->Option Nat
 | .ptr b _=>O b
 | .it b _=>O b
 | .bld b=>O b
 | .pix b _ _ _=>O b
 | .pel b _ _=>O b
 | .full b=>O b
 | .part b _ _=>O b
 |_=>Y
def ap6 (S:ak)(v:VV):Option (Option Nat):=match v with
 | .pin _ _ _| .lst _ _| .nils=>O Y
 |v=>(match CR v with
  |some b=>cond (ae S b).live (O (O b)) Y
  |none=>Y)
def aG1 (S:ak)(op:AOp)(e:dk):Option (Option Nat):=match op with
 | .load x| .loadN _ x| .sliceArr _ _ x _ _| .slice _ x _ _=>ap6 S (ev e x)
 |_=>Y
def ax7 :Option Nat->List Nat
 |some b=>[b]
 |none=>[]
def zj :List FSum->Nat->List VV->ak->List Nat
 |[],_,_,_=>[]
 |F::r,f,c,S=>cond (aB F.f f) (match qO (Iq F.vals c S) 0 [] F.ins c with
  |some g=>(match UZ F.ins.shs g.ls with
   |some _=>nN F.objs g.m
   |none=>zj r f c S)
  |none=>zj r f c S) (zj r f c S)
def TO (f:Nat)(c:List VV)(S:ak):List Nat:=cond (aI9 tab.is f) (Pb S.length) (zj tab.fs f c S)
def Lg (op:AOp)(e:dk)(S:ak):List Nat:=match op with
 | .store _ a _=>ax7 (CR (ev e a))
 | .append _ _ s _=>ax7 (CR (ev e s))
 | .appendZ _ _ _ s _=>ax7 (CR (ev e s))
 | .copy _ d _=>ax7 (CR (ev e d))
 | .call f g=>TO tab f (g.map (ev e)) S
 | .callv x g=>(match ev e x with
  | .fn f a c=>TO tab f (a++g.map (ev e)++c) S
  |_=>[])
 |_=>[]
abbrev M9 :=List (Nat×Option (Option Nat))
def Oa (d:List Nat):M9->M9
 |[]=>[]
 |(i,O (O b))::r=>(i,cond (qj b d) Y (O (O b)))::Oa d r
 |x::r=>x::Oa d r
def pP (c:List Nat):M9->Bool
 |[]=>Za
 |(i,b)::r=>cond (qj i c) (match b with
  |some _=>pP c r
  |none=>Zb) (pP c r)
def Mq {β:Type}(it:SItem)(c:M9)(e:dk)(S:ak)(k:M9->dk->ak->Option β):Option β:=
 cond it.mover (gd (pP it.chks (Oa (Lg tab it.o.op e S) c)) (Py tab it.o.op e S λv S'=>k (Oa (Lg tab it.o.op e S) c) (putO e it.o.dst v) S'))
  (gd (it.o.op.still&&(!it.keep||it.o.op.isLoad)) (Py tab it.o.op e S λv S'=>k (cond it.keep ((it.idx,aG1 S it.o.op e)::c) c) (putO e it.o.dst v) S'))
def yo {β:Type}:List SItem->M9->dk->ak->(dk->ak->Option β)->Option β
 |[],_,e,S,k=>k e S
 |it::r,f,e,S,k=>match it.o.guard with
  |none=>Mq tab it f e S λc g S'=>yo r c g S' k
  |some (t,w)=>match qe e t with
   | .bool p=>cond p
    (cond w (Mq tab it f (uz e t (.bool Za)) S λc g S'=>yo r c g S' k) (yo r f (putO (uz e t (.bool Za)) it.o.dst (.tup [])) S k))
    (cond w (yo r f (putO (uz e t (.bool Zb)) it.o.dst (.tup [])) S k) (Mq tab it f (uz e t (.bool Zb)) S λc g S'=>yo r c g S' k))
   | .tup []=>yo r f (putO e it.o.dst (.tup [])) S k
   |_=>Y
end
structure LItem where
 i:Nat
 kind:Nat
 chks:List Nat
 need:List Nat
def cw (c:List (AOper×List Nat))(i:Nat):AOper:=match c[i]? with
 |some (o,_)=>o
 |none=>⟨Y, .lenC 0,Y⟩
def ac3 :VV->Bool
 | .int _ _| .bool _| .str _=>Za
 |_=>Zb
def ac2 :Value->Bool
 | .int _ _| .bool _| .string _=>Za
 |_=>Zb
def Gp {β:Type}(op:AOp)(e:dk)(k:Blk->Bool->Option β):Option β:=match op with
 | .alloc g z=>gd (aD 1 g) (k (If g z) Zb)
 | .makeSlice g f z l c=>(match ev e l,ev e c,ND z with
  | .int _ l, .int _ c,O s=>gd (aB g s.w&&Zc (0<=l)&&Zc (l<=c)&&Zc (f*c<=140737488355328)&&aD 1 f) (k (.arr s Zb (bB l.toNat (yy s))) Za)
  |_,_,_=>Y)
 | .buildSlice g h z j=>(match Nr ((bB h (z.map N3)).flatten) (EH e j)with
  |some cs=>gd (sV cs&&aB (h*g) cs.length&&aD 1 g&&cs.all ac3&&z.all ac2) (k (.cells g Zb cs) Za)
  |none=>Y)
 |_=>Y
def vvF (w:Bool)(k:Nat):VV:=cond w (.full k) (.ptr k 0)
section
variable (tab:Tab)
def Oh {β:Type}(c:List (AOper×List Nat)):List LItem->M9->dk->ak->(dk->ak->Option β)->Option β
 |[],_,e,S,k=>k e S
 |it::r,f,e,S,k=>
  cond (aB it.kind 3) (Gp (cw c it.i).op e λ_ _=>Oh c r f e S k)<|
  cond (aB it.kind 2) (Gp (cw c it.i).op e λg w=>Oh c r f (putO e (cw c it.i).dst (vvF w S.length)) (S++[g]) k)
  (cond (aB it.kind 1)
   (Py tab (cw c it.i).op e S λv S'=>gd (pP it.chks (Oa (Lg tab (cw c it.i).op e S) f)&&pP it.need (Oa (Lg tab (cw c it.i).op e S) f)) (Oh c r (Oa (Lg tab (cw c it.i).op e S) f) (putO e (cw c it.i).dst v) S' k))
   (gd (cw c it.i).op.still (Py tab (cw c it.i).op e S λv S'=>gd (pP it.need (cond (cw c it.i).op.isLoad ((it.i,aG1 S (cw c it.i).op e)::f) f)) (Oh c r (cond (cw c it.i).op.isLoad ((it.i,aG1 S (cw c it.i).op e)::f) f) (putO e (cw c it.i).dst v) S' k))))
end
def Wf :Operand->List Nat
 | .tmp t=>[t]
 |_=>[]
def D3 :AOp->List Nat
 | .makeSlice _ _ _ l c=>Wf l++Wf c
 | .buildSlice _ _ _ f=>f.flatMap λp=>Wf p.2.2
 |_=>[]
def VL :AOp->Bool
 | .alloc c _=>aD 1 c
 |_=>Zb
def CX :AOp->Bool
 | .alloc _ _| .makeSlice _ _ _ _ _=>Za
 | .buildSlice _ _ z _=>z.all ac2
 |_=>Zb
def Lv (d:Option Nat)(l:List Nat):Bool:=match d with
 |some t=> !qj t l
 |none=>Za
def neO (d c:Option Nat):Bool:=match d,c with
 |some t,O f=> !Nat.beq t f
 |_,_=>Za
def JZ (i:Nat):List Nat->List Nat
 |[]=>[]
 |a::r=>cond (aB a i) r (a::JZ i r)
def GI :List LItem->List Nat->Nat->Option (List Nat×LItem×List LItem)
 |[],_,_=>Y
 |it::r,P,i=>cond (aB it.kind 3) (GI r P i)<|cond (aB it.kind 2) (cond (qj it.i P) (GI r (JZ it.i P) i) Y) (cond (aB it.i i) (O (P,it,r)) Y)
def XQ :List LItem->List Nat->Bool
 |[],P=>P.isEmpty
 |it::r,P=>cond (aB it.kind 3) (XQ r P) (aB it.kind 2&&qj it.i P&&XQ r (JZ it.i P))
def bb1 :AOp->Bool
 | .move _=>Za
 |_=>Zb
def PG (c:List (AOper×List Nat)):List LItem->Nat->Bool
 |[],_=>Zb
 |it::r,m=>cond (aB it.kind 3) (aB it.i m||PG c r m)<|(aB it.kind 2&&(aB it.i m||(Lv (cw c it.i).dst (D3 (cw c m).op)&&PG c r m)))||(aB it.kind 0&&bb1 (cw c it.i).op&&Lv (cw c it.i).dst (D3 (cw c m).op)&&PG c r m)
def J1 (f:List (AOper×List Nat))(c:Nat)(h:Bool)(P:List Nat)(r:List LItem):Bool:=
 P.all (λq=>neO (cw f c).dst (cw f q).dst&&Lv (cw f c).dst (D3 (cw f q).op))&&
 r.all λg=> !Nat.beq g.kind 2||(h&&aB g.i c)||neO (cw f c).dst (cw f g.i).dst
def TL (c:List (AOper×List Nat)):Nat->List Nat->List Nat->List Nat->List Nat->List LItem->Bool
 |0,_,P,_,_,r=>XQ r P
 |f+1,D,P,h,l,r=>match mD c D with
  |some i=>(cw c i).guard.isNone&&(match GI r P i with
   |some (P',g,j)=>aB g.kind 0&&J1 c i Zb P' j&&TL c f (i::D) P' (cond (cw c i).op.isLoad (i::h) h) g.need j
   |none=>Zb)
  |none=>match dj c D with
   |[]=>XQ r P
   |ms=>ms.all λm=>(cw c m).guard.isNone&&cond (CX (cw c m).op)
    (!qj m P&&r.any (λg=>aB g.kind 2&&aB g.i m)&&(VL (cw c m).op||PG c r m)&&J1 c m Za P r&&Lv (cw c m).dst (D3 (cw c m).op)&&h.all (λi=>AZ c i m||qj i l)&&TL c f (m::D) (m::P) h l r)
    (match GI r P m with
    |some (P',g,j)=>aB g.kind 1&&J1 c m Zb P' j&&h.all (λi=>AZ c i m||qj i g.chks)&&TL c f (m::D) P' h g.need j
    |none=>Zb)
def Gr (c:List (AOper×List Nat))(f:List Nat):List Nat->List Nat->List LItem
 |[],_=>[]
 |i::r,h=>
  cond (aD 1000 i) (⟨i-1000,3,[],[]⟩::Gr c f r h)<|
  let o:=(cw c i).op
  let g:=cond o.isLoad (i::h) h
  let l:=r.filter λm=>CX (cw c m).op
  ⟨i,cond (CX o) 2 (cond o.still 0 1),h.filter λj=> !AZ c j i,g.filter λj=>l.any λm=> !AZ c j m⟩::Gr c f r g
def RJ (c:List (AOper×List Nat)):List LItem->Bool
 |[]=>Za
 |it::r=>r.all (λj=> !Nat.beq it.kind 2|| !Nat.beq j.kind 2||neO (cw c it.i).dst (cw c j.i).dst)&&RJ c r
def Jd (c:List (AOper×List Nat)):List LItem->List Nat
 |[]=>[]
 |it::r=>cond (aB it.kind 2) ((match(cw c it.i).dst with
  |some d=>[d]
  |none=>[])++Jd c r) (Jd c r)
inductive AT where
 |no
 |n (l r:AT)
 |lp (fx:List Nat) (head:Alt) (exits:List Alt) (b:AT)
 |jn (fx mov:List Nat) (exits:List Alt) (l r:AT)
 |sz (n:Nat) (l r:AT)
 |dr (L:List Nat)
def aK4 :List VV->Nat
 |[]=>0
 | .nilp::r=>aK4 r+1
 | .fn f _ _::r=>aK4 r+10*f
 |_::r=>aK4 r
def bb3 :Nat->ak->Nat
 |_,[]=>0
 |k, .cells _ _ l::r=>k*aK4 l+bb3 (k+1) r
 |k,_::r=>bb3 (k+1) r
def at9 (S:ak):Nat:=S.length+1000*bb3 1 S
def AT.at (n:Nat):AT->AT
 | .sz m l r=>cond (aB m n) l (r.at n)
 |t=>t
def Wn (e:dk):List Nat->List VV->dk
 |t::c,v::f=>uz (Wn e c f) t v
 |_,_=>e
def Ii (e:dk):List Nat->dk
 |[]=>e
 |t::c=>uz (Ii e c) t .undef
def TQ :Option Nat->List Nat
 |some d=>[d]
 |none=>[]
def oF :AC->List Nat
 | .region c=>c.flatMap λo=>TQ o.dst
 | .draw c=>c.flatMap λo=>TQ o.1.dst
 | .sched f=>f.flatMap λi=>TQ i.o.dst
 | .seq a b| .cond _ a b=>oF a++oF b
 | .block _ b| .loop b=>oF b
 |_=>[]
def XK.is :XK->AExit->Bool
 | .normal, .normal=>Za
 | .exit i, .exit j=>aB i j
 | .ret, .ret=>Za
 |_,_=>Zb
def XK.out :XK->AExit
 | .normal=> .normal
 | .exit i=> .exit i
 | .ret=> .ret
def nE (fx mov:List Nat)(fz:Bool):Nat->ak->ak
 |_,[]=>[]
 |i,b::r=>cond (qj i mov) (cond b.frozen b .dead) (cond (qj i fx) b (cond fz b.freeze b))::nE fx mov fz (i+1) r
def Iw :AC->Bool
 | .seq a b| .cond _ a b=>Iw a&&Iw b
 | .block _ b| .loop b=>Iw b
 |_=>Za
def am {α γ:Type}(f:α->Option (α⊕γ))(n:Nat):α->Option γ:=
 Nat.rec (λ_=>Y) (λ_ c a=>(f a).bind λs=>bc s c O) n
def cj :Nat:=18446744073709551616
def IH (e0:dk)(S:ak)(fx mov f:List Nat)(fz:Bool)(ts:List Nat)(g:zd)(t:HE g.shs):Option (dk×ak):=
 match tT id g (WU g.shs t)with
 |some (c,j,h)=>(match AJ fx j (nE fx mov (fz||G1 c j h) 0 S)with
  |some S'=>O (Wn (Ii e0 f) ts c,S'++h)
  |none=>Y)
 |none=>Y
def aI7 {β:Type}(e0:dk)(S:ak)(fx mov f:List Nat)(c:List Alt)(s:zf c)(k:AExit->dk->ak->Option β):Option β:=
 ao9 c s λa t=>match IH e0 S fx mov f Zb a.ts a.sk t with
  |some (e,S')=>k a.x.out e S'
  |none=>Y
def PQ (F:AT->(β:Type)->dk->ak->(AExit->dk->ak->Option β)->Option β):AT->(β:Type)->dk->ak->(AExit->dk->ak->Option β)->Option β
 | .n l r,β,e,S,k=>F l β e S λx c S'=>match x with
  | .normal=>PQ F r β c S' k
  |x=>k x c S'
 | .sz m l r,β,e,S,k=>cond (aB m S.length) (PQ F l β e S k) (PQ F r β e S k)
 |_,_,_,_,_=>Y
def AT.rounds :AT->Nat
 | .n _ r=>r.rounds+1
 | .sz _ l r=>l.rounds+r.rounds
 |_=>0
def eval (tab:Tab):AC->AT->(β:Type)->dk->ak->(AExit->dk->ak->Option β)->Option β
 | .skip,_,_,e,S,k=>k .normal e S
 | .exit i,_,_,e,S,k=>k (.exit i) e S
 | .ret,_,_,e,S,k=>k .ret e S
 | .region h,_,_,e,S,k=>Im tab h e S λg S'=>k .normal g S'
 | .sched w,_,_,e,S,k=>yo tab w [] e S λg S'=>k .normal g S'
 | .draw h,j,_,e,S,k=>(match j.at (at9 S)with
  | .dr L=>gd (TL h h.length [] [] [] [] (Gr h L L [])&&RJ h (Gr h L L [])) (Oh tab h (Gr h L L []) [] (Ii e (Jd h (Gr h L L []))) S λg S'=>k .normal g S')
  |_=>Y)
 | .seq a b,j,β,e,S,k=>
  (match j.at (at9 S)with
  | .jn q u f l r=>gd (N4 S q&&Iw a) ((eval tab a l (zf f) e (nE (q++u) [] Za 0 S) λx g S'=>A3 S' S.length q (λts=>ts.map (qe g)) (λy=>y.is x) f).bind λs=>
    aI7 e S q u (oF a) f s λx g S'=>match x with
     | .normal=>eval tab b r β g S' k
     |x=>k x g S')
  | .n l r=>eval tab a l β e S λx g S'=>match x with
   | .normal=>eval tab b r β g S' k
   |x=>k x g S'
  |_=>eval tab a .no β e S λx g S'=>match x with
   | .normal=>eval tab b .no β g S' k
   |x=>k x g S')
 | .cond c a b,j,β,e,S,k=>
  (match ev e c with
  | .bool p=>(match c,j.at (at9 S)with
   | .tmp t, .n l r=>cond p (eval tab a l β (uz e t (.bool Za)) S k) (eval tab b r β (uz e t (.bool Zb)) S k)
   | .tmp t,_=>cond p (eval tab a .no β (uz e t (.bool Za)) S k) (eval tab b .no β (uz e t (.bool Zb)) S k)
   |_, .n l r=>cond p (eval tab a l β e S k) (eval tab b r β e S k)
   |_,_=>cond p (eval tab a .no β e S k) (eval tab b .no β e S k))
  |_=>Y)
 | .block id b,j,β,e,S,k=>
  eval tab b (match j.at (at9 S)with
   | .n l _=>l
   |_=> .no) β e S λx g S'=>match x with
   | .exit i=>cond (aB i id) (k .normal g S') (k (.exit i) g S')
   |x=>k x g S'
 | .loop b,j,_,e,S,k=>
  (match j.at (at9 S)with
  | .lp q head f l=>gd (head.sk.fxRo&&N4 S q&&Iw b) (match qO S S.length q head.sk (head.ts.map (qe e))with
   |some z=>(UZ head.sk.shs z.ls).bind λB=>
    (am (λt=>match IH e S q (sB z.m) (oF b) Za head.ts head.sk t with
     |some (A,S1)=>eval tab b l (HE head.sk.shs⊕zf f) A S1 λx g S'=>(match x with
      | .normal=>(YZ S' S.length q head.sk (head.ts.map (qe g))).bind λt=>O (.inl t)
      |x=>(A3 S' S.length q (λts=>ts.map (qe g)) (λy=>y.is x) f).bind λs=>O (.inr s))
     |none=>Y) cj B).bind λs=>aI7 e S q (sB z.m) (oF b) f s k
   |none=>Y)
  |_=>PQ (eval tab b) j _ e S k)
def aM6 (e:dk)(S:ak):ARes->Option VV
 | .tmp t=>O (qe e t)
 | .cell t=>(match qe e t with
  | .ptr b o=>(match ae S b with
   | .cells _ _ l=>nth l o
   |_=>Y)
  |_=>Y)
 | .cellN t n=>(match qe e t with
  | .ptr b o=>(match ae S b with
   | .cells _ _ l=>cond (aD (o+n) l.length) (O (.agg ((l.drop o).take n))) Y
   |_=>Y)
  |_=>Y)
def LI (e:dk)(S:ak):List ARes->Option (List VV)
 |[]=>O []
 |r::c=>(aM6 e S r).bind λv=>(LI e S c).bind λf=>O (v::f)
def WY :List VV->VV
 |[v]=>v
 |vs=> .tup vs
def bl (P:Program)(f:FuncId)(tab:Tab)(at':AT):(β:Type)->List VV->ak->(VV->ak->Option β)->Option β:=λβ c S k=>
 match am8 P f with
 |some a=>gd (aD c.length a.ntmps) (eval tab a.body at' β c S λx e S'=>match x with
  | .exit _=>Y
  |_=>(match LI e S' a.results with
   |some g=>k (WY g) S'
   |none=>Y))
 |none=>Y
def Mr (P:Program)(f:FuncId)(tab:Tab)(h:List Sk)(c:List OSk)(g:List Alt)(at':AT)(t:HE (zd.shs ⟨h,[],c⟩)):Option (zf g):=
 match am8 P f,tT id ⟨h,[],c⟩ (WU _ t)with
 |some a,O (j,_,S)=>gd (aD j.length a.ntmps) (eval tab a.body at' (zf g) j S λx e S'=>match x with
  | .exit _=>Y
  |_=>(match LI e S' a.results with
   |some l=>A3 S' S.length (yp c 0) (λ_=>[WY l]) (λ_=>Za) g
   |none=>Y))
 |_,_=>Y
end
section
open Nat renaming lt_of_lt_of_le -> aB
structure Ctx where
 μ:Nat->Option Nat
 S:ak
 Z:Hp
 fb:Nat->Prop
def Blk.dim :Blk->Option (Nat×Nat)
 | .dead=>Y
 | .cells c _ l=>O (c,l.length)
 | .arr s _ l=>O (s.w,l.length*s.w)
def Blk.vals :Blk->List VV
 | .dead=>[]
 | .cells _ _ l=>l
 | .arr s _ l=>ib s l
def Ctx.own (c:Ctx)(b:Nat):Prop:= ∃k,(ae c.S k).frozen=Zb/\c.μ k=O b
def Ctx.mut (c:Ctx)(b:Nat):Prop:=c.own b∨c.fb b
def KH (c:Ctx)(k lo n:Nat)(d:Nat×Nat)(a:Value):Prop:=
 (a= .slice Y 0 0/\lo=0/\n=0/\c.μ k=Y/\d.2=0)∨
 ∃b f y,a= .slice (O ⟨b,lo*d.1,Y⟩) n f/\c.μ k=O b/\(lo+n)*d.1<=d.2/\n<=f/\c.Z.m b=O y/\(lo+f)*d.1<=y.cells.length
inductive VRel (c:Ctx):VV->Value->Prop where
 |undef (a:Value):VRel c .undef a
 |bool (b:Bool):VRel c (.bool b) (.bool b)
 |int (k:IntKind) (n:Int):VRel c (.int k n) (.int k n)
 |str {l:Zd} {s:ByteArray}:nF s=l->VRel c (.str l) (.string s)
 |nilp:VRel c .nilp (.pointer Y)
 |nils:VRel c .nils (.slice Y 0 0)
 |nilf:VRel c .nilf .nilFunc
 |ptr {k o:Nat} {a:Value}:k<c.S.length->one a=Za->(∀d,(ae c.S k).dim=O d->∃b,c.μ k=O b/\a= .pointer (O ⟨b,o,Y⟩))->VRel c (.ptr k o) a
 |it {k:Nat} {l:Zd} {s:ByteArray} {a:Value}:k<c.S.length->one a=Za->nF s=l->(∀d,(ae c.S k).dim=O d->∃b,c.μ k=O b/\a= .iface b (.string s))->VRel c (.it k l) a
 |bld {k:Nat} {a:Value}:k<c.S.length->one a=Za->(∀d,(ae c.S k).dim=O d->∃b,c.μ k=O b/\a= .iface b .nilFunc)->VRel c (.bld k) a
 |pix {k o n i:Nat} {a:Value}:k<c.S.length->one a=Za->i<n->(∀d,(ae c.S k).dim=O d->∃b,c.μ k=O b/\a= .pointer (O ⟨b,o+i,Y⟩))->VRel c (.pix k o n i) a
 |pel {k i o:Nat} {a:Value}:k<c.S.length->one a=Za->(∀d,(ae c.S k).dim=O d->∃b,c.μ k=O b/\a= .pointer (O ⟨b,i*d.1+o,Y⟩))->VRel c (.pel k i o) a
 |pin {s:Sh} {x:El s} {o b p:Nat} {y:Ab.Blk}: ¬c.mut b->c.Z.m b=O y->p+s.w<=y.cells.length->F2 (VRel c) (du s x) ((y.cells.drop p).take s.w)->VRel c (.pin s x o) (.pointer (O ⟨b,p+o,Y⟩))
 |lstn {s:Sh} {q:Option Addr}:(∀z,q=O z->z.spot=Y)->VRel c (.lst s []) (.slice q 0 0)
 |lst {s:Sh} {l:List (El s)} {b p n cp:Nat} {y:Ab.Blk}: ¬c.mut b->c.Z.m b=O y->y.es=s.w->n=l.length->n<=cp->p+n*s.w<=y.cells.length->
   F2 (VRel c) (ib s l) ((y.cells.drop p).take (n*s.w))->VRel c (.lst s l) (.slice (O ⟨b,p,Y⟩) n cp)
 |tgtn {s:Sh} {a:Value}:(a= .slice Y 0 0∨∃b o,a= .slice (O ⟨b,o,O 0⟩) 0 0)->VRel c (.tgt s []) a
 |tgt {s:Sh} {l:List (El s)} {b p:Nat} {y:Ab.Blk}: ¬c.mut b->c.Z.m b=O y->y.es=s.w->p+l.length*s.w<=y.cells.length->
   F2 (VRel c) (ib s l) ((y.cells.drop p).take (l.length*s.w))->VRel c (.tgt s l) (.slice (O ⟨b,p,O 0⟩) l.length l.length)
 |full {k:Nat} {a:Value}:k<c.S.length->one a=Za->(∀d,(ae c.S k).dim=O d->∃n,n*d.1=d.2/\KH c k 0 n d a)->VRel c (.full k) a
 |part {k lo n:Nat} {a:Value}:k<c.S.length->one a=Za->(∀d,(ae c.S k).dim=O d->KH c k lo n d a)->VRel c (.part k lo n) a
 |fn {f:Nat} {a b:List VV} {a' b':Array Value}:F2 (VRel c) a a'.toList->F2 (VRel c) b b'.toList->VRel c (.fn f a b) (.func (.func f) a' b')
 |agg {l:List VV} {l':Array Value}:F2 (VRel c) l l'.toList->VRel c (.agg l) (.agg l')
 |tup {l:List VV} {l':Array Value}:F2 (VRel c) l l'.toList->VRel c (.tup l) (.tuple l')
def Oy (c:Ctx)(k:Nat):Prop:= ∀d,(ae c.S k).dim=O d->1<=d.1/\
 ((d.2=0/\c.μ k=Y)∨∃b y cs f,c.μ k=O b/\c.Z.m b=O y/\y.es=d.1/\((ae c.S k).frozen=Zb->y.own=Za)/\y.cells=cs++f/\F2 (VRel c) (ae c.S k).vals cs)
structure Rel (c:Ctx):Prop where
 ok:c.Z.Ok
 inj: ∀k k' b,(ae c.S k).frozen=Zb->(ae c.S k').dim≠Y->c.μ k=O b->c.μ k'=O b->k=k'
 blk: ∀k,Oy c k
 fbk: ∀k b,(ae c.S k).dim≠Y->c.μ k=O b->¬c.fb b
 fbl: ∀b,c.fb b->b<c.Z.n
structure Le (c c':Ctx):Prop where
 len:c.S.length<=c'.S.length
 al: ∀k d,k<c.S.length->(ae c'.S k).dim=O d->(ae c.S k).dim=O d/\c'.μ k=c.μ k
 fz: ∀k,(ae c.S k).frozen=Za->(ae c.S k).dim≠Y->ae c'.S k=ae c.S k
 ln: ∀k d b y,k<c.S.length->(ae c'.S k).dim=O d->c.μ k=O b->c.Z.m b=O y->∃y',c'.Z.m b=O y'/\y'.cells.length=y.cells.length
 un: ∀b y,c.Z.m b=O y->¬c.own b->c'.Z.m b=O y
 ow: ∀b y,c.Z.m b=O y->¬c.own b->¬c'.own b
 n:c.Z.n<=c'.Z.n
 fb:c'.fb=c.fb
theorem Le.rd {c f:Ctx}(h:Le c f)(b:Nat)(y:Ab.Blk)(l:c.Z.m b=O y)(j: ¬c.mut b):f.Z.m b=O y/\¬f.mut b:=by
 have g: ¬c.own b:=λe=>j (.inl e)
 refine⟨h.un b y l g,λe=> ?_⟩;rcases e with e|e
 .exact h.ow b y l g e
 .rw[h.fb]at e;exact j (.inr e)
def zX (d:List Nat)(c f:Ctx):Prop:= ∀k,k<c.S.length->k∉d->(ae c.S k).dim≠Y->(ae f.S k).dim≠Y/\∀b,c.μ k=O b->f.Z.m b=c.Z.m b
theorem qu (h:(ae S k).dim≠Y):k<S.length:=by
 induction S generalizing k with
 |nil=>exact(h rfl).elim
 |cons b r c=>
  cases k with
  |zero=>exact Nat.zero_lt_succ _
  |succ k=>exact Nat.succ_lt_succ (c h)
theorem AG (h:S.length<=k):ae S k= .dead:=by
 induction S generalizing k with
 |nil=>rfl
 |cons b r c=>
  cases k with
  |zero=>simp at h
  |succ k=>exact c (by simpa using h)
theorem IJ :(oW S k b).length=S.length:=by
 induction S generalizing k with
 |nil=>rfl
 |cons a r c=>cases k<;>simp[oW,c]
theorem Cf :ae (oW S k b) i=if i=k/\k<S.length then b else ae S i:=by
 induction S generalizing k i with
 |nil=>simp[oW]
 |cons a r c=>
  cases k with
  |zero=>cases i<;>simp[oW,ae]
  |succ k=>
   cases i with
   |zero=>simp[oW,ae]
   |succ i=>simp[oW,ae,c]
theorem ac4 (h:k<S.length):ae (oW S k b) k=b:=by rw[Cf,zE ⟨rfl,h⟩]
theorem aN2 (h:i≠k):ae (oW S k b) i=ae S i:=by rw[Cf,zF (λe=>h e.1)]
theorem qS {l:List Blk}(h:k<S.length):ae (S++l) k=ae S k:=by
 induction S generalizing k with
 |nil=>simp at h
 |cons a r c=>
  cases k with
  |zero=>rfl
  |succ k=>exact c (by simpa using h)
theorem wS {S:ak}{l:List Blk}{k:Nat}:ae (S++l) (S.length+k)=ae l k:=by
 induction S with
 |nil=>simp
 |cons a r c=>
  have:(a::r).length+k=(r.length+k)+1:=by simp;omega
  rw[this];exact c
theorem WM :ae (S++[b]) S.length=b:=by
 exact @wS S [b] 0
theorem qP (h:b.frozen=Zb):b.dim≠Y:=by cases b<;>simp[Blk.frozen,Blk.dim]at*
theorem gp :b.freeze.dim=b.dim:=by cases b<;>rfl
theorem NH :b.freeze.vals=b.vals:=by cases b<;>rfl
theorem oh :b.freeze.frozen=Za:=by cases b<;>rfl
theorem E9 (h:b.frozen=Za):b.freeze=b:=by cases b<;>simp[Blk.frozen,Blk.freeze]at* <;>simp[h]
theorem Le.refl (c:Ctx):Le c c:=⟨Nat.le_refl _,λ_ _ _ h=>⟨h,rfl⟩,λ_ _ _=>rfl,λ_ _ _ y _ _ _ f=>⟨y,f,rfl⟩,λ_ _ h _=>h,λ_ _ _ h=>h,Nat.le_refl _,rfl⟩
theorem Le.trans {a b c:Ctx}(h:Le a b)(k:Le b c):Le a c:=by
 refine⟨Nat.le_trans h.len k.len,λi d j g=> ?_,λi u g=> ?_,λi d x y j g w l=> ?_,λx y l m=>k.un x y (h.un x y l m) (h.ow x y l m),λx y l m=>k.ow x y (h.un x y l m) (h.ow x y l m),Nat.le_trans h.n k.n,k.fb.trans h.fb⟩
 .obtain⟨f,t⟩:=k.al i d (aB j h.len) g;obtain⟨q,r⟩:=h.al i d j f;exact⟨q,t.trans r⟩
 .have f:=h.fz i u g;rw[k.fz i (by rw[f];exact u) (by rw[f];exact g),f]
 .obtain⟨f,t⟩:=k.al i d (aB j h.len) g;obtain⟨C,q,r⟩:=h.ln i d x y j f w l;obtain⟨_,A⟩:=h.al i d j f;obtain⟨D,z,B⟩:=k.ln i d x C (aB j h.len) g (A.trans w) q;exact⟨D,z,B.trans r⟩
theorem zX.refl (d:List Nat)(c:Ctx):zX d c c:=λ_ _ _ h=>⟨h,λ_ _=>rfl⟩
theorem KH.frame {c g:Ctx}(h:Le c g){n:Nat}(q:k<c.S.length)(m:(ae g.S k).dim=O d)(z:KH c k lo n d a):KH g k lo n d a:=by
 obtain⟨D,l⟩:=h.al k d q m;rcases z with⟨rfl,rfl,rfl,f,B⟩|⟨b,r,y,rfl,f,t,u,A,w⟩
 .exact .inl ⟨rfl,rfl,rfl,l.trans f,B⟩
 .obtain⟨C,j,x⟩:=h.ln k d b y q m f A;exact .inr ⟨b,r,C,rfl,l.trans f,t,u,j,by rw[x];exact w⟩
theorem VRel.frame {c z:Ctx}(h:Le c z): ∀{v:VV} {a:Value},VRel c v a->VRel z v a
 |_,_, .undef a=> .undef a
 |_,_, .bool b=> .bool b
 |_,_, .int k n=> .int k n
 |_,_, .str C=> .str C
 |_,_, .nilp=> .nilp
 |_,_, .nils=> .nils
 |_,_, .nilf=> .nilf
 |_,_, .ptr j f t=> .ptr (aB j h.len) f λd g=>by
  obtain⟨f,q⟩:=h.al _ d j g;obtain⟨b,r,u⟩:=t d f;exact⟨b,q.trans r,u⟩
 |_,_, .it j f C t=> .it (aB j h.len) f C λd g=>by
  obtain⟨f,q⟩:=h.al _ d j g;obtain⟨b,r,u⟩:=t d f;exact⟨b,q.trans r,u⟩
 |_,_, .bld j f t=> .bld (aB j h.len) f λd g=>by
  obtain⟨f,q⟩:=h.al _ d j g;obtain⟨b,r,u⟩:=t d f;exact⟨b,q.trans r,u⟩
 |_,_, .pix j f D t=> .pix (aB j h.len) f D λd g=>by
  obtain⟨f,q⟩:=h.al _ d j g;obtain⟨b,r,u⟩:=t d f;exact⟨b,q.trans r,u⟩
 |_,_, .pel j f t=> .pel (aB j h.len) f λd g=>by
  obtain⟨f,q⟩:=h.al _ d j g;obtain⟨b,r,u⟩:=t d f;exact⟨b,q.trans r,u⟩
 |_,_, .pin w x E y=> .pin (h.rd _ _ x w).2 (h.rd _ _ x w).1 E (go y)
 |_,_, .lstn B=> .lstn B
 |_,_, .lst w x A f q r y=> .lst (h.rd _ _ x w).2 (h.rd _ _ x w).1 A f q r (go y)
 |_,_, .tgtn B=> .tgtn B
 |_,_, .tgt w x A r y=> .tgt (h.rd _ _ x w).2 (h.rd _ _ x w).1 A r (go y)
 |_,_, .full j f t=> .full (aB j h.len) f λd g=>by
  obtain⟨f,q⟩:=h.al _ d j g;obtain⟨n,r,u⟩:=t d f;exact⟨n,r,u.frame h j g⟩
 |_,_, .part j f t=> .part (aB j h.len) f λd g=>by
  obtain⟨f,q⟩:=h.al _ d j g;exact(t d f).frame h j g
 |_,_, .fn f q=> .fn (go f) (go q)
 |_,_, .agg f=> .agg (go f)
 |_,_, .tup f=> .tup (go f)
where
 go: ∀{l:List VV} {m:List Value},F2 (VRel c) l m->F2 (VRel z) l m
  |_,_, .nil=> .nil
  |_,_, .cons f q=> .cons (VRel.frame h f) (go q)
theorem VRel.frames {c f:Ctx}(h:Le c f){l:List VV}{m:List Value}(g:F2 (VRel c) l m):F2 (VRel f) l m:=g.imp λ_ _ j=>j.frame h
def ng {β:Type}(c:Ctx)(d:List Nat)(k:VV->ak->Option β)(y:β)(v:Value)(Z':Hp):Prop:=
 ∃g f,f.Z=Z'/\Le c f/\Rel f/\zX d c f/\VRel f g v/\k g f.S=O y
theorem ng.same {β:Type}{c:Ctx}{d:List Nat}{k:VV->ak->Option β}{y:β}{v:Value}{f:VV}(g:Rel c)(j:VRel c f v)(h:k f c.S=O y):ng c d k y v c.Z:=
 ⟨f,c,rfl,Le.refl c,g,zX.refl d c,j,h⟩
end
section
open List renaming length_append -> bB, take_of_length_le -> bD, length_cons -> cD, length_drop -> dB, take_append -> dD
open Nat renaming succ_mul -> aB, le_refl -> aD, mul_le_mul_right -> cB
theorem qU : ∀s:Sh,1<=s.w
 | .int _=>aD _
 | .bool=>aD _
 | .str=>aD _
 | .list _=>aD _
 | .pair a _=>Nat.le_trans (qU a) (Nat.le_add_right _ _)
theorem er : ∀(s:Sh) (x:El s),(du s x).length=s.w
 | .int _,_=>rfl
 | .bool,_=>rfl
 | .str,_=>rfl
 | .list _,_=>rfl
 | .pair a b,x=>by
  simp only[du,bB,Sh.w];rw[er a,er b]
theorem Jb :ib s []=[]:=rfl
theorem jc {x:El s}{l:List (El s)}:ib s (x::l)=du s x++ib s l:=rfl
theorem jh {l:List (El s)}:(ib s l).length=l.length*s.w:=by
 induction l with
 |nil=>simp[Jb]
 |cons x l c=>rw[jc,bB,er,c,cD,aB,Nat.add_comm]
theorem Cc {l m:List (El s)}:ib s (l++m)=ib s l++ib s m:=List.flatMap_append
theorem oG {l:List (El s)}{n:Nat}:ib s (l.take n)=(ib s l).take (n*s.w):=by
 induction l generalizing n with
 |nil=>simp[Jb]
 |cons x l f=>
  cases n with
  |zero=>simp[Jb]
  |succ n=>
   rw[List.take_succ_cons,jc,jc,f,dD,er];have c:(n+1)*s.w-s.w=n*s.w:=by rw[aB];omega
   rw[c,bD (l:=du s x) (by rw[er,aB];omega)]
theorem CW {l:List (El s)}{n:Nat}:ib s (l.drop n)=(ib s l).drop (n*s.w):=by
 induction l generalizing n with
 |nil=>simp[Jb]
 |cons x l f=>
  cases n with
  |zero=>simp
  |succ n=>
   rw[List.drop_succ_cons,jc,f,List.drop_append,er];have c:(n+1)*s.w-s.w=n*s.w:=by rw[aB];omega
   rw[c,List.drop_of_length_le (l:=du s x) (by rw[er,aB];omega),List.nil_append]
theorem Mt {l:List (El s)}{x:El s}(h:l[i]?=O x):((ib s l).drop (i*s.w)).take s.w=du s x:=by
 rw[<-CW]
 have c:i<l.length:=by
  rcases Nat.lt_or_ge i l.length with h1|h1
  .exact h1
  .rw[List.getElem?_eq_none h1]at h;cases h
 have f:l.drop i=x::l.drop (i+1):=by
  rw[List.drop_eq_getElem_cons c];rw[List.getElem?_eq_getElem c]at h;injection h with h
  rw[h]
 rw[f,jc,dD,er,Nat.sub_self,List.take_zero,List.append_nil,bD (by rw[er];exact aD _)]
theorem pM {c:Sh}{x:El c}{y:El s}(h:sW c s x=O y): ∃e:c=s,y=e▸x:=by
 unfold sW at h;split at h
 .rename_i e;injection h with h
  exact⟨e,h.symm⟩
 .cases h
theorem rf {x:El s}:sW s s x=O x:=by
 unfold sW;rw[dif_pos rfl]
theorem F2.app_left {α β:Type}{r:α->β->Prop}{l l':List α}{m:List β}(h:F2 r (l++l') m): ∃c f,m=c++f/\F2 r l c/\F2 r l' f:=by
 induction l generalizing m with
 |nil=>exact⟨[],m,rfl, .nil,h⟩
 |cons a l t=>
  cases h with
  |cons g j=>
   obtain⟨c,f,rfl,n,q⟩:=t j;exact⟨_::c,f,rfl, .cons g n,q⟩
def CC (c:Ctx)(s:Sh)(l:List (El s))(a:Value):Prop:=
 (∃q:Option Addr,a= .slice q 0 0/\l=[]/\∀z,q=O z->z.spot=Y)∨∃b p f y,a= .slice (O ⟨b,p,Y⟩) l.length f/\c.Z.m b=O y/\y.es=s.w/\l.length<=f/\p+l.length*s.w<=y.cells.length/\F2 (VRel c) (ib s l) ((y.cells.drop p).take (l.length*s.w))
theorem CC.rel {c:Ctx}{l:List (El s)}(h:CC c s l a)(x: ∀b p n f,a= .slice (O ⟨b,p,Y⟩) n f->f≠0->¬c.mut b):VRel c (.lst s l) a:=by
 rcases h with⟨q,rfl,rfl,A⟩|⟨b,p,f,y,rfl,m,r,t,u,w⟩
 .exact .lstn A
 .by_cases j:f=0
  .subst j;have:l=[]:=List.length_eq_zero_iff.1 (by omega);subst this;exact .lstn λz g=>by injection g with g;rw[<-g]
  .exact .lst (x _ _ _ _ rfl j) m r rfl t u w
theorem VRel.listAt {c:Ctx}{l:List (El s)}(h:VRel c (.lst s l) a):CC c s l a:=by
 cases h with
 |lstn q=>exact .inl ⟨_,rfl,rfl,q⟩
 |lst t r n f g j m=>subst f;exact .inr ⟨_,_,_,_,rfl,r,n,g,j,m⟩
theorem VRel.lst_mut {c:Ctx}{l:List (El s)}{b n f:Nat}(h:VRel c (.lst s l) (.slice (O ⟨b,p,Y⟩) n f))(g:f≠0): ¬c.mut b:=by
 cases h with
 |lstn=>exact(g rfl).elim
 |lst j=>exact j
theorem Rel.fz_mut {c:Ctx}(g:Rel c){b:Nat}(l:(ae c.S k).frozen=Za)(j:(ae c.S k).dim≠Y)(m:c.μ k=O b): ¬c.mut b:=by
 rintro(⟨q,f,n⟩|h)
 .have:=g.inj q k b f j n m;subst this;rw[f]at l;cases l
 .exact g.fbk k b j m h
def Nj (c:Ctx)(s:Sh)(f:List VV->Option (El s×List VV)):Prop:= ∀g x h,f g=O (x,h)->
 ∃j,g=j++h/\j.length=s.w/\∀l,F2 (VRel c) j l->F2 (VRel c) (du s x) l
theorem Mk {c:Ctx}{s:Sh}{f:List VV->Option (El s×List VV)}(u:Nj c s f): ∀(n:Nat) (cells:List VV) (l:List (El s)),Nm f n cells=O l->
  cells.length=l.length*s.w/\∀as,F2 (VRel c) cells as->F2 (VRel c) (ib s l) as
 |n,[],l,h=>by
  have:l=[]:=by cases n<;>simpa[Nm]using h.symm
  subst this;exact⟨by simp,λas j=>j⟩
 |0,_::_,_,h=>by simp[Nm]at h
 |n+1,v::r,l,h=>by
  simp only[Nm]at h;cases m:f (v::r)with
  |none=>rw[m]at h;cases h
  |some p=>
   obtain⟨x,g⟩:=p;rw[m]at h;simp only[zG]at h;cases q:Nm f n g with
   |none=>rw[q]at h;cases h
   |some E=>
    rw[q]at h;injection h with h
    subst h;obtain⟨F,t,y,z⟩:=u _ _ _ m;obtain⟨A,B⟩:=Mk u n g E q;refine⟨by rw[t,bB,y,A,cD,aB,Nat.add_comm],λas j=> ?_⟩;rw[t]at j;obtain⟨H,I,rfl,C,D⟩:=F2.app_left j;exact(z _ C).append (B _ D)
theorem wO {c:Ctx}{f:List VV->Option (El s×List VV)}(r:Nj c s f){l:List (El s)}(h:BZ s f (ae c.S k)=O l):
  ∃d,(ae c.S k).dim=O d/\d.1=s.w/\d.2=l.length*s.w/\∀as,F2 (VRel c) (ae c.S k).vals as->F2 (VRel c) (ib s l) as:=by
 generalize ae c.S k=b at h;cases b with
 |dead=>cases h
 |arr t z m=>
  obtain⟨e,g⟩:=pM h;cases e;subst g;exact⟨_,rfl,rfl,rfl,λ_ h=>h⟩
 |cells n z m=>
  simp only[BZ]at h;cases j:Nat.beq n s.w with
  |false=>rw[j]at h;cases h
  |true=>
   rw[j,zC]at h;obtain⟨g,q⟩:=Mk r _ _ _ h;exact⟨_,rfl,Nat.eq_of_beq_eq_true j,g,q⟩
theorem Pd {c:Ctx}(U:Rel c){f:List VV->Option (El s×List VV)}(V:Nj c s f){n:Nat}{l:List (El s)}(h:BZ s f (ae c.S k)=O l)
  (L:(ae c.S k).dim=O d) (X:KH c k lo n d a):CC c s ((l.drop lo).take n) a/\((l.drop lo).take n).length=n:=by
 obtain⟨d',A,B,H,Q⟩:=wO V h;rw[L]at A;injection A with A
 subst A;obtain⟨h0,K⟩:=U.blk k d L;have M:=qU s;rcases X with⟨rfl,rfl,rfl,q,F⟩|⟨b,P,y,rfl,q,I,J,E,T⟩
 .have:l.length=0:=by
   rw[F]at H;rcases Nat.eq_zero_or_pos l.length with h|h
   .exact h
   .have:=Nat.mul_pos h M;omega
  rw[List.length_eq_zero_iff]at this;subst this;exact⟨.inl ⟨Y,rfl,by simp,λz F=>by cases F⟩,by simp⟩
 .have W:lo+n<=l.length:=by
   rw[B,H]at I;exact Nat.le_of_mul_le_mul_right I M
  have g:((l.drop lo).take n).length=n:=by rw[List.length_take,dB];omega
  refine⟨.inr ⟨b,lo*d.1,P,y,by rw[g],E, ?_,by rw[g];exact J, ?_, ?_⟩,g⟩
  .rcases K with⟨m,j⟩|⟨N,Z,cs,x,m,j,r,_⟩
   .rw[j]at q;cases q
   .rw[q]at m;injection m with m
    subst m;rw[E]at j;injection j with j
    subst j;rw[r,B]
  .rw[g];have:=cB d.1 J;rw[Nat.add_mul]at T;rw[<-B];omega
  .rcases K with⟨m,j⟩|⟨N,Z,cs,x,m,j,r,_,C,D⟩
   .rw[j]at q;cases q
   .rw[q]at m;injection m with m
    subst m;rw[E]at j;injection j with j
    subst j;have t:=Q _ D;have u:cs.length=l.length*s.w:=by rw[<-t.length,jh]
    rw[g,oG,CW,B,C,List.drop_append_of_le_length (by rw[u];exact cB _ (by omega)),List.take_append_of_le_length]
    .exact(t.drop _).take _
    .rw[dB,u,<-Nat.sub_mul];exact cB _ (by omega)
theorem VH {c:Ctx}(u:Rel c){f:List VV->Option (El s×List VV)}(m:Nj c s f){l:List (El s)}(h:BZ s f (ae c.S k)=O l)(x:VRel c (.full k) a):CC c s l a:=by
 obtain⟨d,g,q,r,y⟩:=wO m h;cases x with
 |full z _ w=>
  obtain⟨n,j,t⟩:=w d g
  have A:n=l.length:=by
   rw[q,r]at j;exact Nat.eq_of_mul_eq_mul_right (qU s) j
  have:=(Pd u m h g t).1
  rwa [List.drop_zero,bD (by omega)]at this
theorem Wi {c:Ctx}(m:Rel c){f:List VV->Option (El s×List VV)}(j:Nj c s f){n:Nat}{l:List (El s)}(h:BZ s f (ae c.S k)=O l)(r:VRel c (.part k lo n) a):
  CC c s ((l.drop lo).take n) a/\((l.drop lo).take n).length=n:=by
 obtain⟨d,g,t,u,w⟩:=wO j h;cases r with
 |part x _ q=>exact Pd m j h g (q d g)
def Mw :VV->Option Nat
 | .full k=>O k
 | .part k _ _=>O k
 |_=>Y
theorem KH.addr {c:Ctx}{n:Nat}{b m g:Nat}(h:KH c k lo n d (.slice (O ⟨b,p,Y⟩) m g)):c.μ k=O b:=by
 rcases h with⟨h,_⟩|⟨q,j,y,h,l,_⟩
 .cases h
 .injection h with f r t
  injection f with f
  injection f with f
  subst f;exact l
theorem RX {c:Ctx}(w:Rel c){f:List VV->Option (El s×List VV)}(t:Nj c s f){l:List (El s)}(h:Iu c.S s f v=O l)(j:VRel c v a):
  CC c s l a/\∀b p n q,a= .slice (O ⟨b,p,Y⟩) n q->q≠0->¬c.mut b∨∃k,Mw v=O k/\(ae c.S k).dim≠Y/\c.μ k=O b:=by
 cases v<;>simp only[Iu]at h<;>try(cases h;done)
 case nils=>
  injection h with h
  subst h;cases j;exact⟨.inl ⟨Y,rfl,rfl,λz B=>by cases B⟩,λb p n q e=>by cases e⟩
 case lst s' l'=>
  obtain⟨e,g⟩:=pM h;cases e;subst g;refine⟨j.listAt,λb p n q e y=> .inl ?_⟩;subst e;exact j.lst_mut y
 case full k=>
  refine⟨VH w t h j,λb p n q e _=> .inr ⟨k,rfl, ?_⟩⟩;obtain⟨d,g,_⟩:=wO t h;subst e;cases j with
  |full A _ u=>
   obtain⟨_,_,x⟩:=u d g;exact⟨by rw[g];simp,x.addr⟩
 case part k lo m=>
  cases r:BZ s f (ae c.S k)with
  |none=>rw[r]at h;cases h
  |some C=>
   rw[r]at h;injection h with h
   subst h;refine⟨(Wi w t r j).1,λb p n q e _=> .inr ⟨k,rfl, ?_⟩⟩;obtain⟨d,g,_⟩:=wO t r;subst e;cases j with
   |part A _ u=>exact⟨by rw[g];simp,(u d g).addr⟩
theorem PO {c:Ctx}(t:Rel c){f:List VV->Option (El s×List VV)}(z:Nj c s f){l:List (El s)}(h:Ug c.S s f v=O l)(A:VRel c v a):VRel c (.lst s l) a:=by
 have j:Iu c.S s f v=O l/\∀k,Mw v=O k->(ae c.S k).frozen=Za:=by
  unfold Ug at h;split at h
  .rename_i k;cases g:(ae c.S k).frozen with
   |false=>rw[g]at h;cases h
   |true=>
    rw[g]at h;exact⟨h,λB e=>by cases e;exact g⟩
  .rename_i k lo n;cases g:(ae c.S k).frozen with
   |false=>rw[g]at h;cases h
   |true=>
    rw[g]at h;exact⟨h,λB e=>by cases e;exact g⟩
  .rename_i m q;refine⟨h,λk e=> ?_⟩;cases v<;>simp only[Mw]at e<;>try(cases e;done)
   .exact(m _ rfl).elim
   .exact(q _ _ _ rfl).elim
 obtain⟨m,q⟩:=RX t z j.1 A;refine m.rel λb p n u e y=> ?_
 rcases q b p n u e y with r|⟨k,r,w,x⟩
 .exact r
 .exact t.fz_mut (j.2 k r) w x
theorem og {c:Ctx}(u:Rel c): ∀s:Sh,Nj c s (nY c.S s)
 | .int k,f,x,g,h=>by
  cases f with
  |nil=>simp[nY]at h
  |cons v r=>
   cases v<;>simp only[nY]at h<;>try(cases h;done)
   rename_i L n;cases C:Zc (L=k)with
   |false=>rw[C]at h;cases h
   |true=>
    rw[C]at h;injection h with h
    injection h with j m
    subst j;subst m;have:=of_decide_eq_true C;subst this;exact⟨[_],rfl,rfl,λ_ h=>h⟩
 | .bool,f,x,g,h=>by
  cases f with
  |nil=>simp[nY]at h
  |cons v r=>
   cases v<;>simp only[nY]at h<;>try(cases h;done)
   injection h with h
   injection h with j m
   subst j;subst m;exact⟨[_],rfl,rfl,λ_ h=>h⟩
 | .str,f,x,g,h=>by
  cases f with
  |nil=>simp[nY]at h
  |cons v r=>
   cases v<;>simp only[nY]at h<;>try(cases h;done)
   injection h with h
   injection h with j m
   subst j;subst m;exact⟨[_],rfl,rfl,λ_ h=>h⟩
 | .list s,f,x,g,h=>by
  cases f with
  |nil=>simp[nY]at h
  |cons v r=>
   simp only[nY]at h;cases j:Ug c.S s (nY c.S s) v with
   |none=>rw[j]at h;cases h
   |some l=>
    rw[j]at h;injection h with h
    injection h with m w
    subst m;subst w;refine⟨[v],rfl,rfl,λF t=> ?_⟩;cases t with
    |cons t K=>
     cases K;exact .cons (PO u (og u s) j t) .nil
 | .pair a b,f,x,g,h=>by
  simp only[nY]at h;cases j:nY c.S a f with
  |none=>rw[j]at h;cases h
  |some p=>
   obtain⟨y,P⟩:=p;rw[j]at h;simp only[zG]at h;cases m:nY c.S b P with
   |none=>rw[m]at h;cases h
   |some q=>
    obtain⟨z,U⟩:=q;rw[m]at h;injection h with h
    injection h with w H
    subst w;subst H;obtain⟨M,rfl,D,A⟩:=og u a _ _ _ j;obtain⟨N,rfl,E,B⟩:=og u b _ _ _ m;refine⟨M++N,by rw[List.append_assoc],by rw[bB,D,E];rfl,λF t=> ?_⟩;obtain⟨Q,T,rfl,I,J⟩:=F2.app_left t;exact(A _ I).append (B _ J)
theorem au5 {c:Ctx}(g:Rel c){l:List (El s)}(h:aa2 c.S s v=O l)(j:VRel c v a):
  CC c s l a/\∀b p n f,a= .slice (O ⟨b,p,Y⟩) n f->f≠0->¬c.mut b∨∃k,Mw v=O k/\(ae c.S k).dim≠Y/\c.μ k=O b:=
 RX g (og g s) h j
end
section
open Bool renaming and_eq_true -> aD
open List renaming getElem?_eq_getElem -> aB, getD_eq_getElem?_getD -> bB, getElem?_map -> bD, all_append -> cD, getElem?_eq_none -> dB, length_drop -> dD, length_take -> eD
open Nat renaming zero_add -> cB, le_of_ble_eq_true -> fB
def ba (c:Ctx)(e:dk)(ea:cm):Prop:= ∀t,VRel c (qe e t) (ea t)
theorem ba.frame {c f:Ctx}(h:ba c e ea)(g:Le c f):ba f e ea:=λt=>(h t).frame g
theorem AA {d t:Nat}:qe (uz e d v) t=if t=d then v else qe e t:=by
 induction d generalizing e t with
 |zero=>cases e<;>cases t<;>simp[uz,qe]
 |succ d c=>
  cases e with
  |nil=>
   cases t with
   |zero=>simp[uz,qe]
   |succ t=>simp[uz,qe,c]
  |cons a r=>
   cases t with
   |zero=>simp[uz,qe]
   |succ t=>simp[uz,qe,c]
theorem ba.put {c:Ctx}(h:ba c e ea){d:Nat}(g:VRel c v a):ba c (uz e d v) (ea.put d a):=by
 intro t;rw[AA];unfold cm.put;by_cases f:t=d
 .rw[zE f,zE f];exact g
 .rw[zF f,zF f];exact h t
theorem ba.putO {c:Ctx}(h:ba c e ea){d:Option Nat}(f:VRel c v a):ba c (putO e d v) (ea.putO d a):=by
 cases d with
 |none=>exact h
 |some d=>exact h.put f
theorem Wa (c:Ctx)(v:Value):VRel c (N3 v) v:=by
 unfold N3;split
 .exact .bool _
 .exact .int _ _
 .exact .str rfl
 .exact .nilp
 .exact .nils
 .exact .nilf
 .exact .undef _
theorem Jm (c:Ctx)(l:List Value):F2 (VRel c) (l.map N3) l:=by
 induction l with
 |nil=>exact .nil
 |cons v l f=>exact .cons (Wa c v) f
theorem aK8 (c:Ctx)(v:Value):VRel c (ofC v) v:=by
 unfold ofC;split
 .rename_i cs;exact .agg (by simpa using Jm c cs.toList)
 .exact Wa c _
theorem cd {c:Ctx}(h:ba c e ea)(x:Operand):VRel c (ev e x) (ea.ev x):=by
 cases x with
 |tmp t=>exact h t
 |const v=>exact aK8 c v
 |global _=>exact .undef _
 |func f=>exact .fn .nil .nil
theorem Oi {c:Ctx}(h:ba c e ea)(f:List Operand):F2 (VRel c) (f.map (ev e)) (f.map ea.ev):=by
 induction f with
 |nil=>exact .nil
 |cons x f g=>exact .cons (cd h x) g
theorem aw {β:Type}{b:Bool}{x:Option β}{y:β}(h:gd b x=O y):b=Za/\x=O y:=by
 cases b with
 |false=>cases h
 |true=>exact⟨rfl,h⟩
theorem We {c:Ctx}(h:VRel c v a)(f:aL7 v=Za):one a=Za:=by
 cases h<;>first|rfl|assumption|(cases f;done)|(rename_i h;rcases h with rfl|⟨_,_,rfl⟩<;>rfl)
theorem oE {c:Ctx}: ∀{l:List VV} {m:List Value},F2 (VRel c) l m->sV l=Za->m.all one=Za
 |_,_, .nil,_=>rfl
 |_,_, .cons f g,h=>by
  simp only[sV,List.all_cons,aD]at h⊢;exact⟨We f h.1,oE g h.2⟩
theorem IP : ∀(s:Sh) (x:El s),sV (du s x)=Za
 | .int _,_=>rfl
 | .bool,_=>rfl
 | .str,_=>rfl
 | .list _,_=>rfl
 | .pair a b,x=>by
  have c:=IP a x.1;have f:=IP b x.2;simp only[sV,du,cD,aD]at*;exact⟨c,f⟩
theorem wP (s:Sh)(l:List (El s)):sV (ib s l)=Za:=by
 induction l with
 |nil=>rfl
 |cons x l f=>
  have c:=IP s x;rw[jc];simp only[sV,cD,aD]at*;exact⟨c,f⟩
theorem Mi {c:Ctx}(h:VRel c v a)(g:sV (qN v)=Za):F2 (VRel c) (qN v) (cellsOf a):=by
 have f:one a=Za->cellsOf a=[a]:=λh=>by cases a<;>first|rfl|(cases h;done)
 cases v with
 |agg l=>
  cases h with
  |agg h=>exact h
 |undef=>cases g
 |tup l=>cases g
 |_=>
  rw[f (We h rfl)];exact .cons h .nil
theorem ck {T:mE}{op:AOp}{e:cm}{Z Z':Hp}{v:Value}{K:Value->Hp->Prop}(h:op.run e Z=O (v,Z'))(c:K v Z'):cc T op e Z K:=by
 unfold cc;split
 .cases h
 .cases h
 .rw[h];exact c
theorem A7 {α:Type}: ∀(l:List α) (i:Nat),nth l i=l[i]?
 |[],_=>rfl
 |_::_,0=>rfl
 |_::l,i+1=>by
  rw[show nth (_::l) (i+1)=nth l i from rfl,A7 l i];rfl
theorem F2.nth {c:Ctx}{l:List VV}{m:List Value}(h:F2 (VRel c) l m)(f:nth l i=O v): ∃a,m[i]?=O a/\VRel c v a:=by
 rw[A7]at f;exact h.get i v f
theorem My {k:IntKind}: ∀{cs:List VV} {l:Zd},PI k cs=O l->cs=l.map (.int k)
 |[],l,h=>by cases h;rfl
 |v::r,l,h=>by
  cases v<;>simp only[PI]at h<;>try(cases h;done)
  rename_i g n;cases f:Zc (g=k)with
  |false=>rw[f]at h;cases h
  |true=>
   rw[f,zC]at h;cases c:PI k r with
   |none=>rw[c]at h;cases h
   |some m=>
    rw[c]at h;injection h with h
    subst h;rw[My c,of_decide_eq_true f];rfl
theorem Pf : ∀{cs:List VV} {l:List Bool},Pe cs=O l->cs=l.map .bool
 |[],l,h=>by cases h;rfl
 |v::r,l,h=>by
  cases v<;>simp only[Pe]at h<;>try(cases h;done)
  cases c:Pe r with
  |none=>rw[c]at h;cases h
  |some m=>
   rw[c]at h;injection h with h
   subst h;rw[Pf c];rfl
theorem Sq : ∀{cs:List VV} {l:List (Zd)},WR cs=O l->cs=l.map .str
 |[],l,h=>by cases h;rfl
 |v::r,l,h=>by
  cases v<;>simp only[WR]at h<;>try(cases h;done)
  cases c:WR r with
  |none=>rw[c]at h;cases h
  |some m=>
   rw[c]at h;injection h with h
   subst h;rw[Sq c];rfl
theorem Wj {β:Type}{S:ak}{k:VV->ak->Option β}{y:β}: ∀{cs:List VV} {i:Nat},ab3 S k cs i=O y->∃v,cs[i]?=O v/\k v S=O y
 |[],_,h=>by cases h
 |v::r,i,h=>by
  simp only[ab3]at h;cases c:Nat.beq i 0 with
  |true=>
   rw[c]at h;have:=Nat.eq_of_beq_eq_true c;subst this;exact⟨v,rfl,h⟩
  |false=>
   rw[c]at h;obtain⟨w,f,g⟩:=Wj h;have:i≠0:=λe=>by subst e;cases c
   obtain⟨j,rfl⟩:=Nat.exists_eq_succ_of_ne_zero this;exact⟨w,f,g⟩
theorem Vn {β:Type}{k:VV->ak->Option β}{y:β}(g:i<cs.length)(h:Vm cs i S k=O y): ∃v,cs[i]?=O v/\k v S=O y:=by
 unfold Vm at h;split at h
 .rename_i j n r;split at h
  .rename_i l f;have:=My f;subst this;refine⟨_, ?_,h⟩;rw[show(VV.int j n::l.map (VV.int j))=(n::l).map (VV.int j)from rfl,bD];have c:i<(n::l).length:=by simpa using g
   rw[aB c,bB,aB c];rfl
  .cases h
 .rename_i b r;split at h
  .rename_i l f;have:=Pf f;subst this;refine⟨_, ?_,h⟩;rw[show(VV.bool b::l.map VV.bool)=(b::l).map VV.bool from rfl,bD];have c:i<(b::l).length:=by simpa using g
   rw[aB c,bB,aB c];rfl
  .cases h
 .rename_i b r;split at h
  .rename_i l f;have:=Sq f;subst this;refine⟨_, ?_,h⟩;rw[show(VV.str b::l.map VV.str)=(b::l).map VV.str from rfl,bD];have c:i<(b::l).length:=by simpa using g
   rw[aB c,bB,aB c];rfl
  .cases h
 .exact Wj h
theorem Rel.block {c:Ctx}(j:Rel c){b:Nat}(l:(ae c.S k).dim=O d)(f:c.μ k=O b):
  ∃y cs rest,c.Z.m b=O y/\y.es=d.1/\((ae c.S k).frozen=Zb->y.own=Za)/\y.cells=cs++rest/\F2 (VRel c) (ae c.S k).vals cs:=by
 obtain⟨_,h⟩:=j.blk k d l;rcases h with⟨_,h⟩|⟨n,y,cs,rest,h,g⟩
 .rw[h]at f;cases f
 .rw[f]at h;injection h with h
  subst h;exact⟨y,cs,rest,g⟩
def ze (c:Ctx)(cs:List VV)(b p:Nat):Prop:= ∃y,c.Z.m b=O y/\p+cs.length<=y.cells.length/\F2 (VRel c) cs ((y.cells.drop p).take cs.length)
theorem ze.get {c:Ctx}{b:Nat}(h:ze c cs b p)(f:nth cs o=O v): ∃y a,c.Z.m b=O y/\y.cells[p+o]?=O a/\VRel c v a:=by
 obtain⟨y,g,r,j⟩:=h;obtain⟨a,l,n⟩:=F2.nth j f;refine⟨y,a,g, ?_,n⟩;rw[A7]at f
 have q:o<cs.length:=by
  rcases Nat.lt_or_ge o cs.length with h|h
  .exact h
  .rw[dB h]at f;cases f
 rwa [List.getElem?_take,zE q,List.getElem?_drop]at l
theorem ze.read {c:Ctx}{b:Nat}(h:ze c cs b p){n:Nat}(q:o+n<=cs.length): ∃y as,c.Z.m b=O y/\uK y (p+o) n=O as/\F2 (VRel c) ((cs.drop o).take n) as:=by
 obtain⟨y,g,l,j⟩:=h;refine⟨y,(y.cells.drop (p+o)).take n,g,Zg, ?_⟩;have f:=(j.drop o).take n;rw[List.drop_take,List.drop_drop,List.take_take,Nat.min_eq_left (by omega)]at f;exact f
theorem Rel.stands {c:Ctx}(l:Rel c){b:Nat}(m:(ae c.S k).dim=O d)(n:c.μ k=O b):ze c (ae c.S k).vals b 0:=by
 obtain⟨y,cs,h,j,_,_,f,g⟩:=l.block m n;have q:=g.length;refine⟨y,j,by rw[f,List.length_append];omega, ?_⟩;rw[List.drop_zero,f,List.take_append_of_le_length (by omega),List.take_of_length_le (by omega)];exact g
theorem ze.part {c:Ctx}{b:Nat}(h:ze c cs b p){n:Nat}(q:o+n<=cs.length):ze c ((cs.drop o).take n) b (p+o):=by
 obtain⟨y,g,m,j⟩:=h;have f:((cs.drop o).take n).length=n:=by rw[eD,dD];omega
 refine⟨y,g,by rw[f];omega, ?_⟩;have l:=(j.drop o).take n;rw[List.drop_take,List.drop_drop,List.take_take,Nat.min_eq_left (by omega)]at l
 rwa [f]
theorem Wo {β:Type}{c:Ctx}(P:Rel c){n:Nat}{agg:Bool}{k:VV->ak->Option β}{y:β}(h:Sd c.S n agg v k=O y)(M:VRel c v a):
  ∃b o x,a= .pointer (O ⟨b,o,Y⟩)/\c.Z.m b=O x/\
   (agg=Zb->∃u w,x.cells[o]?=O u/\VRel c w u/\k w c.S=O y)/\
   (agg=Za->∃K L,uK x o n=O K/\F2 (VRel c) L K/\k (.agg L) c.S=O y):=by
 have t: ∀(cs:List VV) (b p o:Nat),ze c cs b p->a= .pointer (O ⟨b,p+o,Y⟩)->
   cond agg (gd (Nat.ble (o+n) cs.length) (k (.agg ((cs.drop o).take n)) c.S)) (match nth cs o with
    |some v=>k v c.S
    |none=>Y)=O y->
   ∃b o x,a= .pointer (O ⟨b,o,Y⟩)/\c.Z.m b=O x/\
   (agg=Zb->∃u w,x.cells[o]?=O u/\VRel c w u/\k w c.S=O y)/\
   (agg=Za->∃K L,uK x o n=O K/\F2 (VRel c) L K/\k (.agg L) c.S=O y):=by
  intro cs b p o g r h;cases agg with
  |true=>
   obtain⟨C,N⟩:=aw h;obtain⟨x,W,D,B,E⟩:=g.read (fB C);exact⟨b,p+o,x,r,D,(by intro h;cases h),λ_=>⟨W,_,B,E,N⟩⟩
  |false=>
   rw[zD]at h;split at h
   .rename_i w hw;obtain⟨x,u,D,B,E⟩:=g.get hw;exact⟨b,p+o,x,r,D,(λ_=>⟨u,w,B,E,h⟩),(by intro h;cases h)⟩
   .cases h
 unfold Sd at h;cases v with
 |ptr q o=>
  simp only at h;cases f:ae c.S q with
  |dead=>rw[f]at h;cases h
  |arr s z l=>rw[f]at h;cases h
  |cells A z l=>
   rw[f]at h;cases M with
   |ptr U _ H=>
    obtain⟨b,I,r⟩:=H (A,l.length) (by rw[f];rfl);have g:=P.stands (k:=q) (d:=(A,l.length)) (by rw[f];rfl) I;rw[f]at g;exact t l b 0 o g (by rw[r,cB]) h
 |pix q o m i=>
  simp only at h;cases f:ae c.S q with
  |dead=>rw[f]at h;cases h
  |arr s z l=>rw[f]at h;cases h
  |cells A z l=>
   rw[f]at h;obtain⟨C,N⟩:=aw h;rw[aD]at C;have D:=fB C.2;have F:agg=Zb:=by simpa using C.1
   subst F;cases M with
   |pix U _ T H=>
    obtain⟨b,I,r⟩:=H (A,l.length) (by rw[f];rfl);have g:=P.stands (k:=q) (d:=(A,l.length)) (by rw[f];rfl) I;rw[f]at g;have V:((l.drop o).take m).length=m:=by rw[eD,dD];omega
    obtain⟨w,B,E⟩:=Vn (by omega) N;have j:ze c ((l.drop o).take m) b (0+o):=ze.part (cs:=l) g D;rw[<-A7]at B;obtain⟨x,u,X,h7,h8⟩:=j.get B;exact⟨b,o+i,x,r,X,(λ_=>⟨u,w,by rwa [cB]at h7,h8,E⟩),(by intro h;cases h)⟩
 |pel q i o=>
  simp only at h;cases f:ae c.S q with
  |dead=>rw[f]at h;cases h
  |cells A z l=>rw[f]at h;cases h
  |arr s z l=>
   rw[f]at h;simp only at h;cases J:l[i]? with
   |none=>rw[J]at h;cases h
   |some x=>
    rw[J]at h;cases M with
    |pel U _ H=>
     obtain⟨b,I,r⟩:=H (s.w,l.length*s.w) (by rw[f];rfl);have g:=P.stands (k:=q) (d:=(s.w,l.length*s.w)) (by rw[f];rfl) I;rw[f]at g
     have T:i<l.length:=by
      rcases Nat.lt_or_ge i l.length with h|h
      .exact h
      .rw[dB h]at J;cases J
     have Q:i*s.w+s.w<=(ib s l).length:=by
      rw[jh,<-Nat.succ_mul];exact Nat.mul_le_mul_right _ T
     have j:ze c (((ib s l).drop (i*s.w)).take s.w) b (0+i*s.w):=ze.part (cs:=ib s l) g Q;rw[Mt J,cB]at j;exact t (du s x) b (i*s.w) o j r h
 |pin s x o=>
  simp only at h;cases M with
  |pin hn hy hl hf=>
   exact t (du s x) _ _ o ⟨_,hy,by rw[er];exact hl,by rw[er];exact hf⟩ rfl h
 |_=>cases h
end
end Go.V
