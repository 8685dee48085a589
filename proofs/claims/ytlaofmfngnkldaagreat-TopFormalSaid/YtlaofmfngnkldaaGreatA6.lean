/- A part of the proof. No condition. -/
import Derived.Test.YtlaofmfngnkldaaGreatA5
set_option linter.all false
namespace Go.V
open Go.Ab
open Option renaming some->O,none->Z
open Bool renaming true->Za,false->Zb
open Decidable renaming decide->Zc
open List renaming length_eq_zero_iff->aK
open List renaming length->b8
open Option renaming bind->bA
variable {i k lo:Nat}{a:Value}{d:Nat×Nat}
section
open List renaming replicate->bD
open Nat renaming beq->aB,ble->aD
open Option renaming none->bB
inductive Sh where
 |int (k:IntKind)
 |bool
 |str
 |list (s:Sh)
 |pair (a b:Sh)
 deriving DecidableEq
@[reducible] def El :Sh->Type
 | .int _=>Int
 | .bool=>Bool
 | .str=>Zd
 | .list s=>List (El s)
 | .pair a b=>El a×El b
def Sh.w :Sh->Nat
 | .pair a b=>a.w+b.w
 |_=>1
inductive VV where
 |undef
 |bool (b:Bool)
 |int (k:IntKind) (n:Int)
 |str (l:Zd)
 |nilp
 |nils
 |nilf
 |ptr (k o:Nat)
 |pix (k o n i:Nat)
 |pel (k i o:Nat)
 |pin (s:Sh) (x:El s) (o:Nat)
 |lst (s:Sh) (l:List<|El s)
 |tgt (s:Sh) (l:List<|El s)
 |full (k:Nat)
 |part (k lo n:Nat)
 |it (k:Nat) (l:Zd)
 |bld (k:Nat)
 |fn (f:Nat) (a c:List VV)
 |bag (s:Sh) (l:List<|El s)
 |agg (l:List VV)
 |tup (l:List VV)
inductive Blk where
 |dead
 |cells (es:Nat) (fz:Bool) (l:List VV)
 |arr (s:Sh) (fz:Bool) (l:List<|El s)
abbrev ah :=List Blk
abbrev cn :=List VV
def iZ :cn->Nat->VV
 |[],_=> .undef
 |v::_,0=>v
 |_::r,n+1=>iZ r n
def oA :cn->Nat->VV->cn
 |[],0,v=>[v]
 |[],n+1,v=> .undef::oA [] n v
 |_::r,0,v=>v::r
 |a::r,n+1,v=>a::oA r n v
def putO (e:cn)(d:Option Nat)(v:VV):cn:=match d with
 |some d=>oA e d v
 |none=>e
def ae :ah->Nat->Blk
 |[],_=> .dead
 |b::_,0=>b
 |_::r,n+1=>ae r n
def gJ :ah->Nat->Blk->ah
 |[],_,_=>[]
 |_::r,0,b=>b::r
 |a::r,n+1,b=>a::gJ r n b
def nth {α:Type}:List α->Nat->Option α
 |[],_=>Z
 |v::_,0=>O v
 |_::r,n+1=>nth r n
def D9 :Value->VV
 | .bool b=> .bool b
 | .int k n=> .int k n
 | .string s=> .str (au s)
 | .pointer Z=> .nilp
 | .slice Z 0 0=> .nils
 | .nilFunc=> .nilf
 |_=> .undef
def ofC :Value->VV
 | .agg c=> .agg (c.toList.map D9)
 |v=>D9 v
def ev (e:cn):Operand->VV
 | .tmp t=>iZ e t
 | .const v=>ofC v
 | .func f=> .fn f [] []
 | .global _=> .undef
def aC4 :VV->Bool
 | .undef| .bag _ _| .agg _| .tup _=>Zb
 |_=>Za
def mR :VV->List VV
 | .agg l=>l
 |v=>[v]
def bn :(s:Sh)->El s->List VV
 | .int k,n=>[.int k n]
 | .bool,b=>[.bool b]
 | .str,l=>[.str l]
 | .list s,l=>[.lst s l]
 | .pair a b,x=>bn a x.1++bn b x.2
def fh (s:Sh)(l:List<|El s):List VV:=l.flatMap<|bn s
def lA (c s:Sh)(x:El c):Option<|El s:=if h:c=s then O (h▸x)else Z
def I9 {α:Type}(f:List VV->Option (α×List VV)):Nat->List VV->Option (List α)
 |_,[]=>O []
 |0,_::_=>Z
 |n+1,v::l=>bA (f<|v::l) λp=>bA (I9 f n p.2) λr=>O<|p.1::r
def Blk.frozen :Blk->Bool
 | .dead=>Za
 | .cells _ z _=>z
 | .arr _ z _=>z
def xg (s:Sh)(f:List VV->Option (El s×List VV)):Blk->Option (List<|El s)
 | .dead=>Z
 | .arr e _ l=>lA (.list e) (.list s) l
 | .cells c _ l=>bif aB c s.w then I9 f (b8 l) l else Z
def D6 (S:ah)(s:Sh)(f:List VV->Option (El s×List VV)):VV->Option (List<|El s)
 | .nils=>O []
 | .lst c l=>lA (.list c) (.list s) l
 | .full k=>xg s f (ae S k)
 | .part k lo n=>bA (xg s f<|ae S k) λl=>O ((l.drop lo).take n)
 |_=>Z
def P2 (S:ah)(s:Sh)(f:List VV->Option (El s×List VV)):VV->Option (List<|El s)
 | .full k=>bif (ae S k).frozen then D6 S s f (.full k)else Z
 | .part k lo n=>bif (ae S k).frozen then D6 S s f (.part k lo n)else Z
 |v=>D6 S s f v
def hC (S:ah):(s:Sh)->List VV->Option (El s×List VV)
 | .int k, .int c n::r=>bif Zc (c=k)then O (n,r)else Z
 | .bool, .bool b::r=>O (b,r)
 | .str, .str l::r=>O (l,r)
 | .list s,v::r=>bA (P2 S s (hC S s) v) λl=>O (l,r)
 | .pair a b,l=>bA (hC S a l) λp=>bA (hC S b p.2) λq=>O ((p.1,q.1),q.2)
 |_,_=>Z
def Wb (S:ah)(s:Sh)(v:VV):Option<|List<|El s:=D6 S s (hC S s) v
def Blk.freeze :Blk->Blk
 | .dead=> .dead
 | .cells c _ l=> .cells c Za l
 | .arr s _ l=> .arr s Za l
def fzv :Nat->ah->VV->ah
 |0,S,_=>S
 |n+1,S,v=>match v with
  | .full k=>(match ae S k with
   | .cells c _ l=>l.foldl (fzv n) (gJ S k<|.cells c Za l)
   |b=>gJ S k b.freeze)
  | .part k _ _=>(match ae S k with
   | .cells c _ l=>l.foldl (fzv n) (gJ S k<|.cells c Za l)
   |b=>gJ S k b.freeze)
  |_=>S
def C0 (S:ah)(l:List VV):ah:=l.foldl (fzv 3) S
def ax7 (S:ah):VV->ah
 | .full k=>(match ae S k with
  | .cells _ _ l=>C0 S l
  |_=>S)
 | .part k _ _=>(match ae S k with
  | .cells _ _ l=>C0 S l
  |_=>S)
 |_=>S
section
variable {β:Type}
def gd (b:Bool)(x:Option β):Option β:=cond b x Z
def ix (i:Int)(n:Nat):Option Nat:=cond (Zc (0<=i)&&Zc (i<n)) (O i.toNat) Z
def rd {α:Type}(l:List α)(i:Int):Option α:=cond (Zc<|0<=i) l[i.toNat]? Z
def an5 (p:Bool):VV->VV->Option VV
 | .int k x, .int c y=>cond (Zc<|k=c) (O<|.int k<|cond p x y) Z
 | .bool x, .bool y=>O (.bool<|cond p x y)
 | .str x, .str y=>O (.str<|cond p x y)
 |_,_=>Z
def aj1 (p:Bool)(x y:VV)(S:ah)(k:VV->ah->Option β):Option β:=match an5 p x y with
 |some v=>k v S
 |none=>cond p (k x S)<|k y S
def C1 :IntKind->List VV->Option Zd
 |_,[]=>O []
 |k, .int c n::r=>cond (Zc<|c=k) (bA (C1 k r) λl=>O<|n::l) Z
 |_,_=>Z
def K4 :List VV->Option (List Bool)
 |[]=>O []
 | .bool b::r=>bA (K4 r) λl=>O (b::l)
 |_=>Z
def Tj :List VV->Option (List Zd)
 |[]=>O []
 | .str b::r=>bA (Tj r) λl=>O (b::l)
 |_=>Z
def Wz (S:ah)(k:VV->ah->Option β):List VV->Nat->Option β
 |[],_=>Z
 |v::r,i=>cond (aB i 0) (k v S)<|Wz S k r<|i-1
def Rj (cs:List VV)(i:Nat)(S:ah)(k:VV->ah->Option β):Option β:=match cs with
 | .int c n::r=>(match C1 c r with
  |some l=>k (.int c<|(n::l).getD i 0) S
  |none=>Z)
 | .bool b::r=>(match K4 r with
  |some l=>k (.bool<|(b::l).getD i Zb) S
  |none=>Z)
 | .str b::r=>(match Tj r with
  |some l=>k (.str<|(b::l).getD i []) S
  |none=>Z)
 |cs=>Wz S k cs i
def Ms (v:VV):List VV->Nat->Nat->Option (List VV)
 |[],_,_=>O []
 |c::r,i,j=>bA (an5 (aB i j) v c) λx=>bA (Ms v r i<|j+1) λl=>O<|x::l
def aE5 (cells:List VV)(o:Nat):List VV->List VV
 |[]=>cells
 |v::c=>aE5 (cells.set o v) (o+1) c
def Jf (cells:List VV):List (Nat×Nat×VV)->Option (List VV)
 |[]=>O cells
 |(e,c,v)::f=>
  cond (aB (b8<|mR v) c&&aD (e+c) (b8 cells)&&(mR v).all aC4) (Jf (cells.take e++mR v++cells.drop (e+c)) f) Z
def AB (e:cn)(l:List<|Nat×Nat×Operand):List<|Nat×Nat×VV:=l.map λ(o,s,x)=>(o,s,ev e x)
def nX (l:List VV):Bool:=l.all aC4
def OI (S:ah)(n:Nat)(agg:Bool)(a:VV)(k:VV->ah->Option β):Option β:=
 let c (e:List VV) (o:Nat):Option β:=cond agg (gd (aD (o+n)<|b8 e)<|k (.agg<|(e.drop o).take n) S) (match nth e o with
  |some v=>k v S
  |none=>Z)
 match a with
 | .ptr b o=>(match ae S b with
  | .cells _ _ l=>c l o
  |_=>Z)
 | .pix b o m i=>(match ae S b with
  | .cells _ _ l=>gd (!agg&&aD (o+m) (b8 l)) (Rj ((l.drop o).take m) i S k)
  |_=>Z)
 | .pel b i o=>(match ae S b with
  | .arr s _ l=>bA (l[i]?) λx=>c (bn s x) o
  |_=>Z)
 | .pin s x o=>c (bn s x) o
 |_=>Z
def U4 (S:ah)(a:VV)(cs:List VV)(k:ah->Option β):Option β:=match a with
 | .ptr b o=>(match ae S b with
  | .cells c Zb l=>gd (aD (o+b8 cs)<|b8 l) (k<|gJ S b<|.cells c Zb<|aE5 l o cs)
  |_=>Z)
 | .pix b o m i=>(match ae S b,cs with
  | .cells c Zb l,[v]=>gd (aD (o+m)<|b8 l) (match Ms v ((l.drop o).take m) i 0 with
   |some e=>k (gJ S b<|.cells c Zb<|l.take o++e++l.drop (o+m))
   |none=>Z)
  |_,_=>Z)
 | .pel b i o=>(match ae (C0 S cs) b with
  | .arr s Zb l=>bA (l[i]?) λx=>(match hC (C0 S cs) s (aE5 (bn s x) o cs)with
   |some (y,[])=>gd (aD (o+b8 cs) s.w) (k<|gJ (C0 S cs) b<|.arr s Zb<|l.set i y)
   |_=>Z)
  |_=>Z)
 |_=>Z
def ru (k:IntKind)(f:BitVec k.bits->BitVec k.bits->BitVec k.bits)(x y:Int):Int:=k.wrap (f (BitVec.ofInt k.bits x)<|BitVec.ofInt k.bits y).toNat
def TU (op:BinOp)(kd:IntKind)(x y:Int)(k:VV->Option β):Option β:=match op with
 | .add=>k (.int kd<|kd.wrap<|x+y)
 | .sub=>k (.int kd<|kd.wrap<|x-y)
 | .mul=>k (.int kd<|kd.wrap<|x*y)
 | .quo=>gd (Zc<|y≠0) (k<|.int kd<|kd.wrap<|x.tdiv y)
 | .rem=>gd (Zc<|y≠0) (k<|.int kd<|x.tmod y)
 | .and=>k (.int kd (ru kd (· &&& ·) x y))
 | .or=>k (.int kd (ru kd (· ||| ·) x y))
 | .xor=>k (.int kd (ru kd (· ^^^ ·) x y))
 | .andNot=>k (.int kd<|ru kd (λa b=>a&&& ~~~b) x y)
 | .eql=>k (.bool<|Zc<|x=y)
 | .neq=>k (.bool<|Zc<|x≠y)
 | .lss=>k (.bool<|Zc<|x<y)
 | .leq=>k (.bool<|Zc<|x<=y)
 | .gtr=>k (.bool<|Zc<|y<x)
 | .geq=>k (.bool<|Zc<|y<=x)
 |_=>Z
def an9 (op:BinOp)(kd:IntKind)(x y:Int)(k:VV->Option β):Option β:=match op with
 | .shl=>gd (Zc<|0<=y) (k<|.int kd<|kd.wrap<|x*2 ^ (min y.toNat kd.bits))
 | .shr=>gd (Zc<|0<=y) (k<|.int kd<|x.fdiv<|2 ^ (min y.toNat kd.bits))
 |_=>Z
def bc3 (a b:Nat):Bool:=aD (a+b) 9223372036854775807
def bc7 (op:BinOp)(x y:Zd)(k:VV->Option β):Option β:=match op with
 | .add=>gd (bc3 (b8 x)<|b8 y) (k<|.str<|x++y)
 | .eql=>k (.bool<|Zc<|x=y)
 | .neq=>k (.bool<|Zc<|x≠y)
 |_=>Z
def aM0 (op:BinOp)(x y:VV)(k:VV->Option β):Option β:=match x,y with
 | .int c a, .int e b=>cond (ri op) (an9 op c a b k) (cond (Zc<|c=e) (TU op c a b k) Z)
 | .str a, .str b=>cond (ri op) Z (bc7 op a b k)
 |_,_=>Z
def ag5 (c p:Bool):Bool:=cond c (!p) p
def Blk.live :Blk->Bool
 | .dead=>Zb
 |_=>Za
def LI (S:ah):VV->Bool
 | .ptr k _=>(ae S k).live
 | .pix k _ _ _=>(ae S k).live
 | .pel k _ _=>(ae S k).live
 | .pin _ _ _=>Za
 |_=>Zb
def aN3 (S:ah):Nat->VV->VV->Option Bool
 |0, .bool a, .bool b=>O (a==b)
 |1, .nilp, .nilp=>O Za
 |1, .nilp,v=>cond (LI S v) (O Zb) Z
 |1,v, .nilp=>cond (LI S v) (O Zb) Z
 |2, .nils, .nils=>O Za
 |3, .nilf, .nilf=>O Za
 |3, .nilf, .fn f _ _=>gd (!yR f) (O Zb)
 |3, .fn f _ _, .nilf=>gd (!yR f) (O Zb)
 |_,_,_=>Z
def Xu :Nat->VV->VV->Option Bool
 |0, .bool a, .bool b=>O (a==b)
 |1, .int k a, .int c b=>cond (Zc<|k=c) (O<|Zc<|a=b) Z
 |2, .str a, .str b=>O (Zc<|a=b)
 |_,_,_=>Z
def Nm :List Nat->List VV->List VV->Option Bool
 |[],[],[]=>O Za
 |[k],[a],[b]=>Xu k a b
 |k::c,a::r,b::s=>bA (Xu k a b) λp=>bA (Nm c r s) λq=>O (p&&q)
 |_,_,_=>Z
def unK (op:UnOp)(x:VV)(k:VV->Option β):Option β:=match op,x with
 | .neg, .int c n=>k (.int c<|c.wrap<|0-n)
 | .xor, .int c n=>k (.int c<|c.wrap (BitVec.ofInt c.bits (if c.signed then-1 else c.max) ^^^ BitVec.ofInt c.bits n).toNat)
 | .not, .bool b=>k (.bool !b)
 |_,_=>Z
def N6 :VV->Option Int
 | .int _ n=>O n
 |_=>Z
def lenOf (S:ah):VV->Option Nat
 | .nils=>O 0
 | .lst _ l=>O (b8 l)
 | .full b=>(match ae S b with
  | .arr _ _ l=>O (b8 l)
  | .cells c _ l=>O (b8 l / c)
  | .dead=>Z)
 | .part b _ n=>cond (ae S b).live (O n) Z
 | .str l=>O (b8 l)
 |_=>Z
def Xo {α:Type}(l:List α)(lo c:Int):List α:=(l.take c.toNat).drop lo.toNat
def D7 :Option VV->Option Int
 |none=>O 0
 |some v=>N6 v
def yu (n:Nat):Option VV->Option Int
 |none=>O n
 |some v=>N6 v
def gT (lo c:Int)(n:Nat):Bool:=Zc (0<=lo)&&Zc (lo<=c)&&Zc (c<=n)
def UZ (S:ah)(es:Nat)(x:VV)(lo e:Option VV)(k:VV->ah->Option β):Option β:=
 match lenOf S x with
 |none=>Z
 |some n=>match D7 lo,yu n e with
  |some a,O b=>(match x with
   | .nils=>gd (gT a b n) (k .nils S)
   | .lst s l=>gd (aB es s.w) (match lo,e with
    |none,Z=>k (.lst s l) S
    |_,_=>gd (gT a b n)<|k (.lst s<|Xo l a b) S)
   | .full q=>(match ae S q with
    | .arr s _ _=>gd (aB es s.w) (gd (gT a b n)<|k (.part q a.toNat<|b.toNat-a.toNat) S)
    | .cells c _ _=>gd (aB es c&&aD 1 es) (gd (gT a b n)<|k (.part q a.toNat<|b.toNat-a.toNat) S)
    | .dead=>Z)
   | .part q o _=>(match ae S q with
    | .arr s _ _=>gd (aB es s.w) (gd (gT a b n)<|k (.part q (o+a.toNat)<|b.toNat-a.toNat) S)
    | .cells c _ _=>gd (aB es c&&aD 1 es) (gd (gT a b n)<|k (.part q (o+a.toNat)<|b.toNat-a.toNat) S)
    | .dead=>Z)
   |_=>Z)
  |_,_=>Z
def IL (S:ah)(es n:Nat)(x:VV)(lo f:Option VV)(k:VV->ah->Option β):Option β:=match x with
 | .ptr b o=>(match ae S b with
  | .cells e Zb l=>(match D7 lo,yu n f with
   |some a,O c=>gd (aB es e&&aD 1 es&&aB (o % es) 0&&aD (o+n*es) (b8 l)&&gT a c n&&Zc (a<n)) (k (.part b (o / es+a.toNat)<|c.toNat-a.toNat) S)
   |_,_=>Z)
  | .arr s Zb l=>(match D7 lo,yu n f with
   |some a,O c=>gd (aB es s.w&&aB o 0&&aD n (b8 l)&&gT a c n&&Zc (a<n)) (k (.part b a.toNat<|c.toNat-a.toNat) S)
   |_,_=>Z)
  |_=>Z)
 |_=>Z
def aP2 :Value->Bool
 | .int .u8 n=>Zc (n=0)
 |_=>Zb
def Ud (es:Nat)(z:List Value):Bool:=aB es 1&&aD 20 (b8 z)&&z.all aP2
def DR (es:Nat)(z:List Value):Blk:=cond (Ud es z) (.arr (.int .u8) Zb<|bD (b8 z) (0:Int))<|.cells es Zb<|z.map D9
def aR1 (S:ah)(n:Nat):VV->Option VV
 | .ptr b o=>cond (ae S b).live (O<|.ptr b<|o+n) Z
 | .pel b i o=>cond (ae S b).live (O<|.pel b i<|o+n) Z
 | .pin s x o=>O (.pin s x<|o+n)
 | .pix b o m i=>cond (ae S b).live (cond (aB n 0) (O<|.pix b o m i) Z) Z
 |_=>Z
def aO8 (S:ah)(es:Nat)(x i:VV)(k:VV->ah->Option β):Option β:=match i with
 | .int _ i=>(match x with
  | .lst s l=>gd (aB es s.w) (bA (rd l i) λy=>k (.pin s y 0) S)
  | .full b=>(match ae S b with
   | .arr s _ l=>gd (aB es s.w) (bA (ix i<|b8 l) λj=>k (.pel b j 0) S)
   | .cells c _ l=>gd (aB es c&&aD 1 es) (bA (ix i<|b8 l / es) λj=>cond (aB es 1) (k (.pix b 0 (b8 l) j) S)<|k (.ptr b<|j*es) S)
   | .dead=>Z)
  | .part b o n=>(match ae S b with
   | .arr s _ _=>gd (aB es s.w) (bA (ix i n) λj=>k (.pel b (o+j) 0) S)
   | .cells c _ _=>gd (aB es c&&aD 1 es) (bA (ix i n) λj=>cond (aB es 1) (k (.pix b o n j) S)<|k (.ptr b<|(o+j)*es) S)
   | .dead=>Z)
  |_=>Z)
 |_=>Z
def ad2 (S:ah)(ln es:Nat)(x i:VV)(k:VV->ah->Option β):Option β:=match x,i with
 | .ptr b o, .int _ i=>gd (ae S b).live (bA (ix i ln) λj=>cond (aB es 1) (k (.pix b o ln j) S)<|k (.ptr b<|o+j*es) S)
 |_,_=>Z
def AW (l:List VV)(a n:Nat):List VV:=(l.drop a).take n
def fS (n bytes:Nat):Bool:=Zc (n*bytes<=140737488355328)&&aD 1 bytes
inductive Base where
 |none
 |cells (es:Nat) (l:List VV)
 |arr (s:Sh) (l:List<|El s)
def At (S:ah)(es:Nat):VV->Option (Base×Option Nat)
 | .nils=>O (.none,Z)
 | .full b=>(match ae S b with
  | .arr s Zb l=>cond (aB es s.w) (O (.arr s l,O b)) bB
  | .cells c Zb l=>cond (aB es c&&aD 1 es) (O (.cells es l,O b)) bB
  |_=>bB)
 | .part b 0 n=>(match ae S b with
  | .arr s Zb l=>cond (aB es s.w) (O (.arr s<|l.take n,O b)) bB
  | .cells c Zb l=>cond (aB es c&&aD 1 es) (O (.cells es<|l.take<|n*es,O b)) bB
  |_=>bB)
 |_=>bB
inductive More where
 |cells (l:List VV)
 |lst (s:Sh) (l:List<|El s)
def oR (S:ah)(es:Nat):VV->Option More
 | .nils=>O (.cells [])
 | .lst s l=>cond (aB es s.w) (O<|.lst s l) Z
 | .str l=>cond (aB es 1) (O<|.lst (.int .u8) l) Z
 | .full b=>(match ae S b with
  | .arr s _ l=>cond (aB es s.w) (O<|.lst s l) Z
  | .cells c _ l=>cond (aB es c&&aD 1 es) (O<|.cells l) Z
  |_=>Z)
 | .part b o n=>(match ae S b with
  | .arr s _ l=>cond (aB es s.w) (O<|.lst s<|(l.drop o).take n) Z
  | .cells c _ l=>cond (aB es c&&aD 1 es) (O<|.cells<|(l.drop<|o*es).take<|n*es) Z
  |_=>Z)
 |_=>Z
def mb (S:ah):Option Nat->ah
 |none=>S
 |some b=>gJ S b .dead
def WR (S:ah)(s:Sh)(l:List VV):Option<|List<|El s:=I9 (hC S s) (b8 l) l
def grow (S:ah)(bytes:Nat)(s:Sh)(kill:Option Nat)(a b:List<|El s)(k:VV->ah->Option β):Option β:=
 gd (fS (b8 a+b8 b) bytes) (k (.full<|b8 S)<|mb S kill++[.arr s Zb<|a++b])
def J0 (S:ah)(es bytes:Nat)(h:Option<|Base×Option Nat)(m:Option More)(k:VV->ah->Option β):Option β:=
 match h,m with
 |some (.arr s l,c),O (.lst n f)=>bA (lA (.list n) (.list s) f) λg=>grow S bytes s c l g k
 |some (.arr s l,c),O (.cells e)=>(match ae (C0 S e) (c.getD 0)with
  | .arr _ Zb _=>bA (WR (C0 S e) s e) λg=>grow (C0 S e) bytes s c l g k
  |_=>Z)
 |some (.cells _ l,c),O (.lst s f)=>(match ae (C0 S l) (c.getD 0)with
  | .cells _ Zb _=>bA (WR (C0 S l) s l) λj=>grow (C0 S l) bytes s c j f k
  |_=>Z)
 |some (.none,c),O (.lst s f)=>grow S bytes s c [] f k
 |some (.cells es l,c),O (.cells e)=>gd (fS ((b8 l+b8 e) / es) bytes&&nX e) (k (.full<|b8 S)<|mb S c++[.cells es Zb<|l++e])
 |some (.none,c),O (.cells e)=>gd (fS (b8 e / es) bytes&&aD 1 es&&nX e) (k (.full<|b8 S)<|mb S c++[.cells es Zb e])
 |_,_=>Z
def Py (S:ah)(es bytes:Nat)(x y:VV)(k:VV->ah->Option β):Option β:=J0 S es bytes (At S es x) (oR S es y) k
def ME (S:ah):VV->Option (ah×Base)
 | .lst s l=>O (S, .arr s l)
 | .full q=>(match ae S q with
  | .arr s _ l=>O (gJ S q (ae S q).freeze, .arr s l)
  |_=>Z)
 |_=>Z
def Qr (f:Bool)(S:ah)(x c e:VV)(k:VV->ah->Option β):Option β:=match c,e with
 | .int _ h, .int _ m=>gd (Zc<|h=m) (match x with
  | .nils=>gd (Zc<|h=0) (k .nils S)
  |v=>(match ME S v with
   |some (S1, .arr s l)=>gd (gT 0 h<|b8 l) (k (cond f (.tgt s<|l.take h.toNat)<|.lst s<|l.take h.toNat) S1)
   |_=>Z))
 |_,_=>Z
def U9 (S:ah)(es bytes:Nat)(s:Sh)(l:List<|El s)(g:Option More)(k:VV->ah->Option β):Option β:=match g with
 |some (.lst h f)=>bA (lA (.list h) (.list s) f) λc=>gd (aB es s.w&&aD 1 (b8 c)) (grow S bytes s Z l c k)
 |some (.cells e)=>bA (WR (C0 S e) s e) λc=>gd (aB es s.w&&aD 1 (b8 c)) (grow (C0 S e) bytes s Z l c k)
 |none=>Z
def KX (S:ah)(es bytes:Nat)(x y:VV)(k:VV->ah->Option β):Option β:=match x with
 | .tgt s l=>U9 S es bytes s l (oR S es y) k
 |x=>Py S es bytes x y k
def yg (n:Int):Int:=((UInt8.ofNat n.toNat).toNat:Nat)
def Uw (S:ah)(kd:IntKind)(v:VV)(k:Nat->Nat->Bool->Zd->List VV->Option β):Option β:=match v with
 | .fn f [] [.ptr q 0]=>gd (aB f<|UE kd) (match ae S q with
  | .cells c e (.str l::r)=>k q c e l r
  |_=>Z)
 |_=>Z
def Hg :VV->Option Nat
 | .fn _ _ [.ptr q 0]=>O q
 |_=>Z
def Xv :(s:Sh)->El s->El s->Bool
 | .int _,a,b=>Zc (a=b)
 | .pair s t,x,y=>Xv s x.1 y.1&&Xv t x.2 y.2
 |_,_,_=>Zb
def Ga {γ:Type}(f:γ->Bool)(p:γ):List γ->List γ
 |[]=>[p]
 |q::r=>cond (f q) (p::r)<|q::Ga f p r
def aC6 {γ:Type}(o:Option γ)(f:γ->Option β)(g:Option β):Option β:=match o with
 |some a=>f a
 |none=>g
def OO :List VV->List Value->Bool
 |[],[]=>Za
 | .int k a::r, .int c b::s=>Zc (k=c)&&(Zc (a=b)&&OO r s)
 |_,_=>Zb
def JM :List IntKind->List VV->Bool
 |[],[]=>Za
 |k::r, .int c n::s=>Zc (c=k)&&(Zc (k.min<=n)&&(Zc (n<=k.max)&&JM r s))
 |_,_=>Zb
def Yd (c:Bool)(cs:List VV)(b:Bool):VV:=cond c (.tup [.agg cs, .bool b])<|.agg cs
def TX (S:ah)(ks:List IntKind)(vn:Nat)(v:VV)(k:Nat->Nat->Bool->VV->List VV->Option β):Option β:=match v with
 | .fn f a [.ptr q 0]=>gd (aB f mgN&&OO a (LX ks vn)) (match ae S q with
  | .cells c e (b::r)=>k q c e b r
  |_=>Z)
 |_=>Z
def af0 (S:ah)(ks:List IntKind)(g:List Value)(e:Bool)(kc:List VV)(k:VV->ah->Option β):(s:Sh)->List (El s)->Option β
 | .pair c f,l=>gd (JM ks kc&&aB f.w (b8 g)) (bA (hC S c kc) λp=>match p.2 with
  |[]=>aC6 (List.find? (λq=>Xv c q.1 p.1) l) (λq=>k (Yd e (bn f q.2) Za) S) (k (Yd e (g.map D9) Zb) S)
  |_=>Z)
 |_,_=>Z
def aG0 (S:ah)(ks:List IntKind)(vn:Nat)(kc vc:List VV)(k:VV->Option β):(s:Sh)->List (El s)->Option β
 | .pair c e,l=>gd (JM ks kc&&aB e.w vn&&nX vc) (bA (hC S c kc) λp=>bA (hC S e vc) λy=>match p.2,y.2 with
  |[],[]=>k (.bag (.pair c e)<|Ga (λq=>Xv c q.1 p.1) (p.1,y.1) l)
  |_,_=>Z)
 |_,_=>Z
def U5 (S:ah)(v:VV)(k:VV->ah->Option β):Option β:=match v with
 | .str _=>Z
 |v=>(match oR S 1 v with
  |some (.lst s l)=>bA (lA (.list s) (.list<|.int .u8) l) λe=>k (.str<|e.map yg) S
  |some (.cells c)=>bA (C1 .u8 c) λl=>k (.str<|l.map yg) S
  |none=>Z)
def GP {α:Type}(l:List α)(o n:Nat)(m:List α):List α:=l.take o++(m.take n++l.drop (o+min n (b8 m)))
def Jl (kd:IntKind)(m:Zd):Nat->List VV->Option (List VV)
 |_,[]=>O []
 |j, .int k n::r=>cond (Zc<|k=kd) (bA (Jl kd m (j+1) r) λl=>O<|.int k (m.getD j n)::l) Z
 |_,_=>Z
def aa3 (S:ah)(es:Nat)(d y:VV)(k:VV->ah->Option β):Option β:=
 let f (b o n:Nat):Option β:=match ae S b,oR S es y with
  | .arr s Zb l,O (.lst p j)=>bA (lA (.list p) (.list s) j) λe=>gd (aB es s.w) (k (.int .i64 (min (b8 e) n:Nat))<|gJ S b<|.arr s Zb<|GP l o n e)
  | .arr s Zb l,O (.cells g)=>bA (C1 .u64 g) λm=>bA (lA (.list<|.int .u64) (.list s) m) λe=>gd (aB es s.w) (k (.int .i64 (min (b8 e) n:Nat))<|gJ S b<|.arr s Zb<|GP l o n e)
  | .cells 1 Zb l,O (.lst (.int h) m)=>gd (aB es 1&&aD (o+n) (b8 l)) (match Jl h m 0 ((l.drop o).take n)with
   |some c=>k (.int .i64 (min (b8 m) n:Nat)) (gJ S b<|.cells 1 Zb<|l.take o++c++l.drop (o+n))
   |none=>Z)
  |_,_=>Z
 match d with
 | .full b=>(match lenOf S d with
  |some n=>f b 0 n
  |none=>Z)
 | .part b o n=>f b o n
 |_=>Z
def HB :List Value->Option Sh
 |[.int k 0]=>O (.int k)
 |[.bool Zb]=>O .bool
 | .int k 0::r=>bA (HB r) λs=>O (.pair (.int k) s)
 | .bool Zb::r=>bA (HB r) λs=>O (.pair .bool s)
 |[.slice Z 0 0]=>O (.list<|.int .i64)
 | .slice Z 0 0::r=>bA (HB r) λs=>O (.pair (.list<|.int .i64) s)
 |_=>Z
def tQ :(s:Sh)->El s
 | .int _=>(0:Int)
 | .bool=>Zb
 | .str=>[]
 | .list _=>[]
 | .pair a b=>(tQ a,tQ b)
def af8 (S:ah)(es bytes:Nat)(z:List Value)(l c:VV)(k:VV->ah->Option β):Option β:=match l,c,HB z with
 | .int _ l, .int _ c,O s=>gd (aB es s.w&&Zc (0<=l)&&Zc (l<=c)&&Zc (bytes*c<=140737488355328)&&aD 1 bytes) (k (.full<|b8 S)<|S++[.arr s Zb<|bD l.toNat<|tQ s])
 |_,_,_=>Z
def Tv (es:Nat)(z:List Value)(l:Int):Option More:=match HB z with
 |some s=>cond (aB es s.w) (O<|.lst s<|bD l.toNat<|tQ s) Z
 |none=>Z
def jO (bytes:Nat)(l:Int):Bool:=Zc (0<=l)&&(Zc (l<=9223372036854775807)&&Zc (l*(bytes:Int)<=281474976710656))
def KY (S:ah)(es bytes:Nat)(z:List Value)(x l:VV)(k:VV->ah->Option β):Option β:=match l with
 | .int _ l=>gd (jO bytes l) (J0 S es bytes (At S es x) (Tv es z l) k)
 |_=>Z
end
end
variable {s:Sh}{b:Blk}{S:ah}{v:VV}
section
open List renaming replicate->bB
open Nat renaming beq->aB,ble->aD
inductive Sk where
 |undef
 |leaf (s:Sh)
 |cint (k:IntKind) (n:Int)
 |nilp
 |nils
 |nilf
 |ptr (j o:Nat)
 |full (j:Nat)
 |pin (s:Sh) (o:Nat)
 |fn (f:Nat) (a c:List Sk)
 |bag (s:Sh)
 |agg (l:List Sk)
 |tup (l:List Sk)
inductive OSk where
 |dead
 |cells (es:Nat) (ro:Bool) (l:List Sk)
 |arr (ro:Bool) (s:Sh)
structure Leaf where
 s:Sh
 v:El s
structure Src where
 k:Nat
 cut:Option Nat
structure DSt where
 m:List (Option Src)
 ls:List Leaf
 lent:List Nat
def DSt.push (st:DSt)(s:Sh)(v:El s):DSt:={st with ls:=st.ls++[⟨s,v⟩]}
def DSt.lend (st:DSt):VV->DSt
 | .full k=>{st with lent:=k::st.lent}
 | .part k _ _=>{st with lent:=k::st.lent}
 |_=>st
def DSt.link (N:Nat)(st:DSt)(j:Nat)(x:Option Src):Option DSt:=
 cond (Nat.blt j N) (match x with
  |some ⟨k,Z⟩=>cond (aB k j) (O st) Z
  |_=>Z)
 (match nth st.m (j-N)with
 |some (O ⟨k,Z⟩)=>(match x with
  |some ⟨c,Z⟩=>cond (aB k c) (O st) Z
  |_=>Z)
 |some _=>Z
 |none=>cond (aB (j-N)<|b8 st.m) (O {st with m:=st.m++[x]}) Z)
mutual
def dec (S:ah)(N:Nat):Sk->VV->DSt->Option DSt
 | .undef,_,st=>O st
 | .leaf s,v,st=>(match s,v with
  | .int k, .int k' n=>cond (Zc<|k'=k) (O<|st.push (.int k) n) Z
  | .bool, .bool b=>O (st.push .bool b)
  | .str, .str l=>O (st.push .str l)
  | .list s,v=>bA (Wb S s v) λl=>O ((st.lend v).push (.list s) l)
  |_,_=>Z)
 | .cint k n, .int k' n',st=>cond (Zc (k'=k)&&Zc (n'=n)) (O st) Z
 | .nilp, .nilp,st=>O st
 | .nils, .nils,st=>O st
 | .nilf, .nilf,st=>O st
 | .ptr j o, .ptr k o',st=>cond (aB o o') (st.link N j<|O ⟨k,Z⟩) Z
 | .full j,v,st=>(match v with
  | .full k=>st.link N j (O ⟨k,Z⟩)
  | .part k 0 n=>st.link N j (O ⟨k,O n⟩)
  | .nils=>st.link N j Z
  |_=>Z)
 | .pin s o, .pin s' x o',st=>cond (aB o o') (bA (lA s' s x) λy=>O<|st.push s y) Z
 | .bag s,v,st=>(match v with
  | .bag s' l=>bA (lA (.list s') (.list s) l) λ(l:List<|El s)=>O (st.push (.list s) l)
  | .agg l=>cond l.isEmpty (O<|st.push (.list s) []) Z
  |_=>Z)
 | .fn f a c, .fn f' a' c',st=>cond (aB f f') (bA (FX S N a a' st) λst1=>FX S N c c' st1) Z
 | .agg l, .agg l',st=>FX S N l l' st
 | .tup l, .tup l',st=>FX S N l l' st
 |_,_,_=>Z
def FX (S:ah)(N:Nat):List Sk->List VV->DSt->Option DSt
 |[],[],st=>O st
 |k::r,v::r',st=>bA (dec S N k v st) λst1=>FX S N r r' st1
 |_,_,_=>Z
end
def Lh {α:Type}:Option Nat->List α->List α
 |none,l=>l
 |some n,l=>l.take n
def Ui (S:ah)(N:Nat):OSk->Option Src->DSt->Option DSt
 | .dead,_,c=>O c
 | .cells j e l,O ⟨k,Z⟩,c=>(match ae S k with
  | .cells g m h=>cond (aB j g&&(e|| !m)) (FX S N l h<|cond e {c with lent:=k::c.lent} c) Z
  |_=>Z)
 | .arr e s,Z,c=>cond e Z (O<|c.push (.list s) [])
 | .arr e s,O ⟨k,f⟩,c=>cond (e|| !(ae S k).frozen) (bA (Wb S s<|.full k) λl=>O<|(cond e {c with lent:=k::c.lent} c).push (.list s)<|Lh f l) Z
 |_,_,_=>Z
def H9 (S:ah)(N:Nat):List OSk->List Nat->DSt->Option DSt
 |[],[],c=>O c
 |o::r,j::f,c=>bA (Ui S N o (O ⟨j,Z⟩) c) λe=>H9 S N r f e
 |_,_,_=>Z
def tz (S:ah)(N:Nat):List OSk->Nat->DSt->Option DSt
 |[],i,c=>cond (aB i<|b8 c.m) (O c) Z
 |o::r,i,c=>(match nth c.m i with
  |some x=>bA (Ui S N o x c) λe=>tz S N r (i+1) e
  |none=>Z)
def OSk.ro :OSk->Bool
 | .cells _ ro _=>ro
 | .arr ro _=>ro
 | .dead=>Zb
def lB (k:Nat):List Nat->Bool
 |[]=>Zb
 |a::r=>cond (aB a k) Za<|lB k r
def NC :List Nat->Bool
 |[]=>Za
 |a::r=>cond (lB a r) Zb<|NC r
def rB :List (Option Src)->List Nat
 |[]=>[]
 |none::r=>rB r
 |some x::r=>x.k::rB r
def lq :List OSk->List (Option Src)->List Nat
 |o::r,O x::s=>cond o.ro (lq r s) (x.k::lq r s)
 |_::r,Z::s=>lq r s
 |_,_=>[]
def Lx (w:List Nat)(l:List Nat):Bool:=w.all λk=> !lB k l
structure tR where
 vals:List Sk
 fix:List OSk
 free:List OSk
def mS (S:ah)(N:Nat)(fx:List Nat)(e:tR)(vals:List VV):Option DSt:=
 bA (FX S N e.vals vals ⟨[],[],[]⟩) λg=>bA (H9 S N e.fix fx g) λf=>bA (tz S N e.free 0 f) λc=>
  cond (NC (fx++rB c.m)&&Lx (fx++lq e.free c.m) c.lent) (O c) Z
mutual
def enc (f:Nat->Nat):Sk->List Leaf->Option (VV×List Leaf)
 | .undef,ls=>O (.undef,ls)
 | .leaf s,x::ls=>bA (lA x.s s x.v) λ(y:El s)=>O ((match s,y with
  | .int k,n=> .int k n
  | .bool,b=> .bool b
  | .str,l=> .str l
  | .list s,l=> .lst s l
  | .pair _ _,_=> .undef),ls)
 | .cint k n,ls=>O (.int k n,ls)
 | .nilp,ls=>O (.nilp,ls)
 | .nils,ls=>O (.nils,ls)
 | .nilf,ls=>O (.nilf,ls)
 | .ptr j o,ls=>O (.ptr (f j) o,ls)
 | .full j,ls=>O (.full<|f j,ls)
 | .pin s o,x::ls=>bA (lA x.s s x.v) λ(y:El s)=>O (.pin s y o,ls)
 | .bag s,x::ls=>bA (lA x.s (.list s) x.v) λ(l:List<|El s)=>O (.bag s l,ls)
 | .fn g a c,ls=>bA (Nk f a ls) λp=>bA (Nk f c p.2) λq=>O (.fn g p.1 q.1,q.2)
 | .agg l,ls=>bA (Nk f l ls) λp=>O (.agg p.1,p.2)
 | .tup l,ls=>bA (Nk f l ls) λp=>O (.tup p.1,p.2)
 |_,_=>Z
def Nk (f:Nat->Nat):List Sk->List Leaf->Option (List VV×List Leaf)
 |[],ls=>O ([],ls)
 |k::r,ls=>bA (enc f k ls) λp=>bA (Nk f r p.2) λq=>O (p.1::q.1,q.2)
end
def Nl (f:Nat->Nat):OSk->List Leaf->Option (Blk×List Leaf)
 | .dead,c=>O (.dead,c)
 | .cells g e l,c=>bA (Nk f l c) λp=>O (.cells g e p.1,p.2)
 | .arr e s,x::c=>bA (lA x.s (.list s) x.v) λl=>O (.arr s e l,c)
 | .arr _ _,[]=>Z
def CV (f:Nat->Nat):List OSk->List Leaf->Option (List Blk×List Leaf)
 |[],c=>O ([],c)
 |o::r,c=>bA (Nl f o c) λp=>bA (CV f r p.2) λq=>O (p.1::q.1,q.2)
def ot (f:Nat->Nat)(c:tR)(ls:List Leaf):Option<|List VV×List Blk×List Blk:=
 bA (Nk f c.vals ls) λp=>bA (CV f c.fix p.2) λq=>bA (CV f c.free q.2) λr=>match r.2 with
  |[]=>O (p.1,q.1,r.1)
  |_::_=>Z
mutual
def Sk.shs :Sk->List Sh
 | .leaf s=>[s]
 | .pin s _=>[s]
 | .bag s=>[.list s]
 | .fn _ a c=>UY a++UY c
 | .agg l=>UY l
 | .tup l=>UY l
 |_=>[]
def UY :List Sk->List Sh
 |[]=>[]
 |k::r=>k.shs++UY r
end
def OSk.shs :OSk->List Sh
 | .dead=>[]
 | .cells _ _ l=>UY l
 | .arr _ s=>[.list s]
def aT3 :List OSk->List Sh
 |[]=>[]
 |o::r=>o.shs++aT3 r
def tR.shs (c:tR):List Sh:=UY c.vals++(aT3 c.fix++aT3 c.free)
@[reducible] def B8 :List Sh->Type
 |[]=>Unit
 |[s]=>El s
 |s::c::r=>El s×B8 (c::r)
def Qv :(e:List Sh)->B8 e->List Leaf
 |[],_=>[]
 |[s],x=>[⟨s,x⟩]
 |s::c::r,x=>⟨s,x.1⟩::Qv (c::r) x.2
def QO :(f:List Sh)->List Leaf->Option (B8 f)
 |[],[]=>O ()
 |[s],[x]=>lA x.s s x.v
 |s::e::r,x::c=>bA (lA x.s s x.v) λa=>bA (QO (e::r) c) λb=>O (a,b)
 |_,_=>Z
inductive XK where
 |normal
 |exit (id:Nat)
 |ret
structure Alt where
 x:XK
 ts:List Nat
 sk:tR
@[reducible] def Alt.Ty (a:Alt):Type:=B8 a.sk.shs
@[reducible] def pI :List Alt->Type
 |[]=>Empty
 |[a]=>a.Ty
 |a::b::r=>a.Ty⊕pI (b::r)
def bz {α γ β:Type}(s:α⊕γ)(f:α->Option β)(g:γ->Option β):Option β:=match s with
 | .inl a=>f a
 | .inr b=>g b
def YP {β:Type}:(l:List Alt)->pI l->((a:Alt)->a.Ty->Option β)->Option β
 |[],_,_=>Z
 |[a],t,k=>k a t
 |a::b::r,s,k=>bz s (λt=>k a t) λc=>YP (b::r) c k
def tR.noRo (c:tR):Bool:=c.fix.all (λo=> !o.ro)&&c.free.all λo=> !o.ro
def Lj (S:ah)(N:Nat)(fx:List Nat)(e:tR)(c:List VV):Option<|B8 e.shs:=
 gd e.noRo (bA (mS S N fx e c) λf=>QO e.shs f.ls)
def tR.fxRo (c:tR):Bool:=c.fix.all λo=> !o.ro
def VA (S:ah)(N:Nat)(fx:List Nat)(e:tR)(c:List VV):Option<|B8 e.shs:=
 gd e.fxRo (bA (mS S N fx e c) λf=>QO e.shs f.ls)
def tx (S:ah)(N:Nat)(fx:List Nat)(c:List Nat->List VV)(e:XK->Bool):(l:List Alt)->Option (pI l)
 |[]=>Z
 |[a]=>cond (e a.x) (Lj S N fx a.sk<|c a.ts) Z
 |a::b::r=>match cond (e a.x) (Lj S N fx a.sk<|c a.ts) Z with
  |some t=>O (.inl t)
  |none=>bA (tx S N fx c e<|b::r) λs=>O<|.inr s
def Sh.al :Sh->Bool
 | .list _=>Za
 | .pair a b=>a.al||b.al
 |_=>Zb
mutual
def alV :VV->Bool
 | .lst _ _=>Za
 | .tgt _ _=>Za
 | .pin _ _ _=>Za
 | .bag _ _=>Za
 | .fn _ a c=>Pu a||Pu c
 | .agg l=>Pu l
 | .tup l=>Pu l
 |_=>Zb
def Pu :List VV->Bool
 |[]=>Zb
 |v::r=>alV v||Pu r
end
def alB :Blk->Bool
 | .dead=>Zb
 | .cells _ _ l=>Pu l
 | .arr s _ _=>s.al
def CR (vs:List VV)(fs bs:List Blk):Bool:=Pu vs||fs.any alB||bs.any alB
def Blk.may :Blk->Bool
 | .dead=>Za
 | .cells _ z _=> !z
 | .arr _ z _=> !z
def JO (S:ah)(fx:List Nat):Bool:=fx.all λj=>Nat.blt j (b8 S)&&(ae S j).may
structure FSum where
 f:Nat
 vals:List Sk
 objs:List OSk
 outs:List Alt
 run:B8 (tR.shs ⟨vals,[],objs⟩)->Option (pI outs)
def FSum.ins (F:FSum):tR:=⟨F.vals,[],F.objs⟩
def qR :List OSk->Nat->List Nat
 |[],_=>[]
 |o::r,i=>cond o.ro (qR r<|i+1)<|i::qR r (i+1)
def wu (m:List<|Option Src)(n c j:Nat):Nat:=cond (Nat.blt j n) (match nth m j with
 |some (O x)=>x.k
 |_=>c) (c+(j-n))
def vX :List Nat->List Blk->ah->Option ah
 |[],[],S=>O S
 |j::e,b::c,S=>vX e c (gJ S j b)
 |_,_,_=>Z
def ax6 (N:Nat)(c:List OSk):List Sk->List VV->ah->ah
 |k::r,v::e,S=>ax6 N c r e (match k with
  | .full j=>(match nth c (j-N)with
   |some (.arr _ s)=>cond (s.al&&aD N j) (ax7 S v) S
   |_=>S)
  |_=>S)
 |_,_,S=>S
def ac8 :Sk->VV->ah->ah
 | .leaf (.list s),v,S=>cond s.al (ax7 S v) S
 |_,_,S=>S
def D0 :List Sk->List VV->ah->ah
 |k::r,v::c,S=>D0 r c (ac8 k v S)
 |_,_,S=>S
def CZ :List Nat->ah->ah
 |[],S=>S
 |k::r,S=>CZ r<|gJ S k (ae S k).freeze
def aI8 {β:Type}(F:FSum)(t:B8 F.ins.shs)(st:DSt)(S:ah)(k:VV->ah->Option β):Option β:=
 bA (F.run t) λo=>YP F.outs o λa u=>match ot (wu st.m (b8 F.objs)<|b8 S) a.sk (Qv a.sk.shs u)with
  |some ([v],e,c)=>(match vX (lq F.objs st.m) e (cond (CR [v] e c) (CZ st.lent S) S)with
   |some S'=>k v (S'++c)
   |none=>Z)
  |_=>Z
def Ow :List (Option Src)->Bool
 |[]=>Za
 |some ⟨_,Z⟩::r=>Ow r
 |_=>Zb
def Lb {β:Type}:List FSum->Nat->List VV->ah->(VV->ah->Option β)->Option β
 |[],_,_,_,_=>Z
 |F::r,f,c,S,k=>cond (aB F.f f) (match mS (D0 F.vals c S) 0 [] F.ins c with
  |some e=>(match QO F.ins.shs e.ls with
   |some t=>gd (Ow e.m&&JO (D0 F.vals c S) (lq F.objs e.m)) (aI8 F t e (D0 F.vals c S) k)
   |none=>Lb r f c S k)
  |none=>Lb r f c S k) (Lb r f c S k)
structure Inl where
 f:Nat
 run:(β:Type)->List VV->ah->(VV->ah->Option β)->Option β
structure Tab where
 fs:List FSum
 is:List Inl
def ay2 :List Inl->Nat->Bool
 |[],_=>Zb
 |I::r,f=>cond (aB I.f f) Za<|ay2 r f
def Vv {β:Type}:List Inl->Nat->List VV->ah->(VV->ah->Option β)->Option β
 |[],_,_,_,_=>Z
 |I::r,f,c,S,k=>cond (aB I.f f) (I.run β c S k)<|Vv r f c S k
def Ru {β:Type}(tab:Tab)(f:Nat)(args:List VV)(S:ah)(k:VV->ah->Option β):Option β:=
 cond (ay2 tab.is f) (Vv tab.is f args S k) (Lb tab.fs f args S k)
def HZ :Nat->List Nat
 |0=>[]
 |n+1=>n::HZ n
def X5 {β:Type}(S:ah)(x:Option VV)(k:VV->ah->Option β):Option β:=match x with
 |some v=>k v S
 |none=>Z
def Ig {β:Type}(tab:Tab)(op:AOp)(e:cn)(S:ah)(k:VV->ah->Option β):Option β:=match op with
 | .move x=>k (ev e x) S
 | .pick c a b=>(match ev e c with
  | .bool p=>aj1 p (ev e a) (ev e b) S k
  |_=>Z)
 | .alloc h z=>gd (aD 1 h) (k (.ptr (b8 S) 0)<|S++[DR h z])
 | .box h x=>gd (aD 1 h&&nX (mR<|ev e x)) (k (.ptr (b8 S) 0)<|S++[.cells h Zb<|mR<|ev e x])
 | .build z K=>(match Jf (z.map D9) (AB e K)with
  |some u=>k (.agg u) S
  |none=>Z)
 | .buildSlice h B z K=>(match Jf ((bB B<|z.map D9).flatten) (AB e K)with
  |some u=>gd (nX u&&aB (B*h) (b8 u)&&aD 1 h) (k (.full<|b8 S)<|S++[.cells h Zb u])
  |none=>Z)
 | .load x=>OI S 1 Zb (ev e x) k
 | .loadN n x=>OI S n Za (ev e x) k
 | .store n a x=>gd (aB (b8<|mR<|ev e x) n&&nX (mR<|ev e x)) (U4 S (ev e a) (mR<|ev e x) λS'=>k .undef S')
 | .nilCheck x=>(match ev e x with
  | .fn f a c=>gd (!yR f) (k (.fn f a c) S)
  |v=>gd (LI S v)<|k v S)
 | .bin op x y=>aM0 op (ev e x) (ev e y) λv=>k v S
 | .eqv t C x y=>(match aN3 S t (ev e x) (ev e y)with
  |some b=>k (.bool<|ag5 C b) S
  |none=>Z)
 | .eqCells C A x y=>(match ev e x,ev e y with
  | .agg a, .agg b=>(match Nm A a b with
   |some p=>k (.bool<|ag5 C p) S
   |none=>Z)
  |_,_=>Z)
 | .un op x=>unK op (ev e x) λv=>k v S
 | .conv t x=>(match N6 (ev e x)with
  |some n=>k (.int t<|t.wrap n) S
  |none=>Z)
 | .mkFunc f a c=>gd (!yR f) (k (.fn f (a.map<|ev e)<|c.map<|ev e) S)
 | .makeSlice h m z l c=>af8 S h m z (ev e l) (ev e c) k
 | .slice h x lo D=>UZ S h (ev e x) (lo.map<|ev e) (D.map<|ev e) k
 | .sliceArr h n x lo D=>IL S h n (ev e x) (lo.map<|ev e) (D.map<|ev e) k
 | .off n x=>X5 S (aR1 S n<|ev e x) k
 | .idx h x i=>aO8 S h (ev e x) (ev e i) k
 | .idxA B h x i=>ad2 S B h (ev e x) (ev e i) k
 | .fieldV o n agg x=>(match ev e x with
  | .agg u=>cond agg (k (.agg<|AW u o n) S) (X5 S (nth u o) k)
  |_=>Z)
 | .indexV B h agg x i=>(match ev e x,ev e i with
  | .agg u, .int _ i=>bA (ix i B) λj=>cond agg (k (.agg<|AW u (j*h) h) S) (gd (aB h 1&&aB (b8 u) B)<|Rj u j S k)
  |_,_=>Z)
 | .indexS x i=>(match ev e x,ev e i with
  | .str l, .int _ i=>bA (rd l i) λb=>k (.int .u8 b) S
  |_,_=>Z)
 | .extract x i=>(match ev e x with
  | .tup U=>X5 S (nth U i) k
  |_=>Z)
 | .call f M=>Ru tab f (M.map<|ev e) S k
 | .callv x M=>(match ev e x with
  | .fn f a c=>gd (aQ2 f) (Ru tab f (a++M.map (ev e)++c) S k)
  |_=>Z)
 | .rangeF f n x=>(match ev e x with
  | .fn g [] c=>gd (!yR g) (Ru tab g (.fn (QR f) [] [.ptr (b8 S) 0]::c) (S++[.cells 1 Zb<|.nilf::(List.range n).map (iZ e)]) λ_ S'=>match ae S' (b8 S) with
   | .cells _ Zb (.nilf::_)=>k .undef (gJ S' (b8 S) .dead)
   |_=>Z)
  |_=>Z)
 | .append h m s x=>KX S h m (ev e s) (ev e x) k
 | .stuck=>Z
 | .makeM t=>k (.fn (UE t) [] [.ptr (b8 S) 0]) (S++[.cells 1 Zb [.str []]])
 | .lookM t F x i=>(match ev e i with
  | .str w=>Uw S t (ev e x) λ_ _ _ l _=>k (cond F (.tup [.int t<|(Bb l w).getD 0, .bool (Bb l w).isSome])<|.int t<|(Bb l w).getD 0) S
  |_=>Z)
 | .updM t x i v=>(match ev e i,ev e v with
  | .str w, .int P n=>Uw S t (ev e x) λq h J l r=>gd (Zc (P=t)&& !J) (k .undef<|gJ S q<|.cells h Zb<|.str (yz l w n)::r)
  |_,_=>Z)
 | .makeG A I=>k (.fn mgN ((LX A I).map D9) [.ptr (b8 S) 0]) (S++[.cells 1 Zb [.agg []]])
 | .lookG A L F x i=>(match ev e i with
  | .agg E=>TX S A (b8 L) (ev e x) λ_ _ _ b _=>(match b with
   | .bag s l=>af0 S A L F E k s l
   | .agg []=>gd (JM A E) (k (Yd F (L.map D9) Zb) S)
   |_=>Z)
  |_=>Z)
 | .updG A I x i v=>(match ev e i,ev e v with
  | .agg E, .agg H=>TX (C0 S H) A I (ev e x) λq h J b r=>(match b with
   | .bag s l=>gd (!J) (aG0 (C0 S H) A I E H (λN=>k .undef<|gJ (C0 S H) q<|.cells h Zb<|N::r) s l)
   |_=>Z)
  |_,_=>Z)
 | .strOf x=>U5 S (ev e x) k
 | .capN x=>(match ev e x with
  | .nils=>k (.int .i64 0) S
  |_=>Z)
 | .sliceX T x D Q=>Qr T S (ev e x) (ev e D) (ev e Q) k
 | .appendZ h m z s x=>KY S h m z (ev e s) (ev e x) k
 | .copy h d s=>aa3 S h (ev e d) (ev e s) k
 | .len x=>(match ev e x with
  | .str _=>Z
  |v=>(match lenOf S v with
   |some n=>k (.int .i64 n) S
   |none=>Z))
 | .lenS x=>(match ev e x with
  | .str l=>k (.int .i64<|b8 l) S
  |_=>Z)
 | .most x y=>(match ev e x,ev e y with
  | .int t a, .int _ b=>k (.int t<|max a b) S
  |_,_=>Z)
 | .least x y=>(match ev e x,ev e y with
  | .int t a, .int _ b=>k (.int t<|min a b) S
  |_,_=>Z)
section
variable (tab:Tab)
def CX {β:Type}:List AOper->cn->ah->(cn->ah->Option β)->Option β
 |[],e,S,k=>k e S
 |o::r,e,S,k=>match o.guard with
  |none=>Ig tab o.op e S λv S'=>CX r (putO e o.dst v) S' k
  |some (t,w)=>match iZ e t with
   | .bool p=>cond p
    (cond w (Ig tab o.op (oA e t<|.bool Za) S λv S'=>CX r (putO (oA e t<|.bool Za) o.dst v) S' k)<|CX r (putO (oA e t<|.bool Za) o.dst<|.tup []) S k)
    (cond w (CX r (putO (oA e t<|.bool Zb) o.dst<|.tup []) S k)<|Ig tab o.op (oA e t<|.bool Zb) S λv S'=>CX r (putO (oA e t<|.bool Zb) o.dst v) S' k)
   | .tup []=>CX r (putO e o.dst<|.tup []) S k
   |_=>Z
def zp :VV->Option Nat
 | .ptr b _=>O b
 | .it b _=>O b
 | .bld b=>O b
 | .pix b _ _ _=>O b
 | .pel b _ _=>O b
 | .full b=>O b
 | .part b _ _=>O b
 |_=>Z
def YT (S:ah)(v:VV):Option<|Option Nat:=match v with
 | .pin _ _ _| .lst _ _| .nils=>O Z
 |v=>(match zp v with
  |some b=>cond (ae S b).live (O<|O b) Z
  |none=>Z)
def YS (S:ah)(v:VV):Option<|Option Nat:=match Hg v with
 |some q=>cond (ae S q).live (O<|O q) Z
 |none=>Z
def W9 (S:ah)(op:AOp)(e:cn):Option<|Option Nat:=match op with
 | .lookM _ _ x _=>YS S (ev e x)
 | .load x| .loadN _ x| .sliceArr _ _ x _ _| .slice _ x _ _=>YT S (ev e x)
 |_=>Z
def Qb :Option Nat->List Nat
 |some b=>[b]
 |none=>[]
def ux :List FSum->Nat->List VV->ah->List Nat
 |[],_,_,_=>[]
 |F::r,f,c,S=>cond (aB F.f f) (match mS (D0 F.vals c S) 0 [] F.ins c with
  |some e=>(match QO F.ins.shs e.ls with
   |some _=>lq F.objs e.m
   |none=>ux r f c S)
  |none=>ux r f c S) (ux r f c S)
def PJ (f:Nat)(args:List VV)(S:ah):List Nat:=cond (ay2 tab.is f) (HZ<|b8 S)<|ux tab.fs f args S
def CT (op:AOp)(e:cn)(S:ah):List Nat:=match op with
 | .store _ a _=>Qb (zp<|ev e a)
 | .append _ _ s _=>Qb (zp<|ev e s)
 | .appendZ _ _ _ s _=>Qb (zp<|ev e s)
 | .copy _ d _=>Qb (zp<|ev e d)
 | .updM _ x _ _=>Qb (Hg<|ev e x)
 | .updG _ _ x _ _=>Qb (Hg<|ev e x)
 | .call f g=>PJ tab f (g.map<|ev e) S
 | .callv x g=>(match ev e x with
  | .fn f a c=>PJ tab f (a++g.map (ev e)++c) S
  |_=>[])
 | .rangeF _ _ _=>HZ (b8 S)
 |_=>[]
abbrev Fw :=List<|Nat×Option (Option Nat)×(ah->Bool)
def JV (d:List Nat):Fw->Fw
 |[]=>[]
 |(i,O<|O b,f)::r=>(i,cond (lB b d) Z<|O<|O b,f)::JV d r
 |x::r=>x::JV d r
def pU (c:List Nat):Fw->Bool
 |[]=>Za
 |(i,b,_)::r=>cond (lB i c) (match b with
  |some _=>pU c r
  |none=>Zb) (pU c r)
def Bh (S:ah)(c:List Nat):Fw->Bool
 |[]=>Za
 |(i,b,f)::r=>cond (lB i c) (match b with
  |some _=>Bh S c r
  |none=>cond (f S) (Bh S c r) Zb) (Bh S c r)
def aN2 :VV->VV->Bool
 | .int k n, .int c e=>Zc (k=c)&&Zc (n=e)
 | .bool a, .bool b=>Zc (a=b)
 | .str a, .str b=>Zc (a=b)
 | .nilp, .nilp=>Za
 | .nils, .nils=>Za
 |_,_=>Zb
def Qf (tab:Tab)(op:AOp)(e:cn)(v:VV)(S:ah):Bool:=match Ig tab op e S λc _=>O (aN2 v c)with
 |some b=>b
 |none=>Zb
def If {β:Type}(it:SItem)(c:Fw)(e:cn)(S:ah)(k:Fw->cn->ah->Option β):Option β:=
 cond it.mover (Ig tab it.o.op e S λv S'=>gd (Bh S' it.chks<|JV (CT tab it.o.op e S) c)<|k (JV (CT tab it.o.op e S) c) (putO e it.o.dst v) S')
  (gd (it.o.op.still&&(!it.keep||it.o.op.isLoad))<|Ig tab it.o.op e S λv S'=>k (cond it.keep ((it.idx,W9 S it.o.op e,Qf tab it.o.op e v)::c) c) (putO e it.o.dst v) S')
def tB {β:Type}:List SItem->Fw->cn->ah->(cn->ah->Option β)->Option β
 |[],_,e,S,k=>k e S
 |it::r,f,e,S,k=>match it.o.guard with
  |none=>If tab it f e S λc g S'=>tB r c g S' k
  |some (t,w)=>match iZ e t with
   | .bool p=>cond p
    (cond w (If tab it f (oA e t<|.bool Za) S λc g S'=>tB r c g S' k)<|tB r f (putO (oA e t<|.bool Za) it.o.dst<|.tup []) S k)
    (cond w (tB r f (putO (oA e t<|.bool Zb) it.o.dst<|.tup []) S k)<|If tab it f (oA e t<|.bool Zb) S λc g S'=>tB r c g S' k)
   | .tup []=>tB r f (putO e it.o.dst<|.tup []) S k
   |_=>Z
end
structure LItem where
 i:Nat
 kind:Nat
 chks:List Nat
 need:List Nat
def be (ops:List<|AOper×List Nat)(i:Nat):AOper:=match ops[i]? with
 |some (o,_)=>o
 |none=>⟨Z, .stuck,Z⟩
def WJ :VV->Bool
 | .int _ _| .bool _| .str _=>Za
 |_=>Zb
def WI :Value->Bool
 | .int _ _| .bool _| .string _=>Za
 |_=>Zb
def yr {β:Type}(op:AOp)(e:cn)(k:Blk->Bool->Option β):Option β:=match op with
 | .alloc g z=>gd (aD 1 g) (k (DR g z) Zb)
 | .makeSlice g f z l c=>(match ev e l,ev e c,HB z with
  | .int _ l, .int _ c,O s=>gd (aB g s.w&&Zc (0<=l)&&Zc (l<=c)&&Zc (f*c<=140737488355328)&&aD 1 f) (k (.arr s Zb<|bB l.toNat<|tQ s) Za)
  |_,_,_=>Z)
 | .buildSlice g j z m=>(match Jf ((bB j<|z.map D9).flatten) (AB e m)with
  |some h=>gd (nX h&&aB (j*g) (b8 h)&&aD 1 g&&h.all WJ&&z.all WI) (k (.cells g Zb h) Za)
  |none=>Z)
 |_=>Z
def vvF (w:Bool)(k:Nat):VV:=cond w (.full k)<|.ptr k 0
def mv (e:cn):List Nat->cn
 |[]=>e
 |t::c=>oA (mv e c) t .undef
def tE (ops:List<|AOper×List Nat):List Nat->List Nat
 |[]=>[]
 |i::r=>(match(be ops i).dst with
  |some d=>[d]
  |none=>[])++tE ops r
def aI7 (n:Nat):Option (Option Nat)->Bool
 |some (O q)=>aB q n
 |_=>Zb
section
variable (tab:Tab)
def evG {β:Type}(ops:List<|AOper×List Nat)(n:Nat):List Nat->cn->ah->Option β->Option β
 |[],_,_,z=>z
 |i::g,e,S,z=>gd ((be ops i).op.still&&(!(be ops i).op.isLoad||aI7 n (W9 S (be ops i).op e)))<|Ig tab (be ops i).op e S λv S'=>evG ops n g (putO e (be ops i).dst v) S' z
def CW {β:Type}(ops:List<|AOper×List Nat):List LItem->Fw->cn->ah->(cn->ah->Option β)->Option β
 |[],_,e,S,k=>k e S
 |it::r,c,e,S,k=>
  cond (aB it.kind 3) (yr (be ops it.i).op e λ_ _=>CW ops r c e S k)<|
  cond (aB it.kind 2) (yr (be ops it.i).op e λf w=>CW ops r c (putO e (be ops it.i).dst<|vvF w<|b8 S) (S++[f]) k)
  (cond (aB it.kind 1)
   (Ig tab (be ops it.i).op e S λv S'=>gd (pU it.chks (JV (CT tab (be ops it.i).op e S) c)&&pU it.need (JV (CT tab (be ops it.i).op e S) c))<|CW ops r (JV (CT tab (be ops it.i).op e S) c) (putO e (be ops it.i).dst v) S' k)
   (cond (aB it.kind 5) (yr (be ops it.i).op (mv e<|tE ops it.chks) λf w=>evG tab ops (b8 S) it.chks (putO (mv e<|tE ops it.chks) (be ops it.i).dst<|vvF w<|b8 S) (S++[f])<|CW ops r c (mv e<|tE ops it.chks) S k)<|
   gd (be ops it.i).op.still (Ig tab (be ops it.i).op e S λv S'=>gd (pU it.need<|cond (be ops it.i).op.isLoad ((it.i,W9 S (be ops it.i).op e,λ_=>Zb)::c) c)<|CW ops r (cond (be ops it.i).op.isLoad ((it.i,W9 S (be ops it.i).op e,λ_=>Zb)::c) c) (putO e (be ops it.i).dst v) S' k)))
end
def Sz :Operand->List Nat
 | .tmp t=>[t]
 |_=>[]
def tP :AOp->List Nat
 | .makeSlice _ _ _ l c=>Sz l++Sz c
 | .buildSlice _ _ _ e=>e.flatMap λp=>Sz p.2.2
 |_=>[]
def LH :AOp->Bool
 | .alloc c _=>aD 1 c
 |_=>Zb
def pO :AOp->Bool
 | .alloc _ _| .makeSlice _ _ _ _ _=>Za
 | .buildSlice _ _ z _=>z.all WI
 |_=>Zb
def rW (d:Option Nat)(l:List Nat):Bool:=match d with
 |some t=> !lB t l
 |none=>Za
def Ws (d c:Option Nat):Bool:=match d,c with
 |some t,O e=> !Nat.beq t e
 |_,_=>Za
def AS (i:Nat):List Nat->List Nat
 |[]=>[]
 |a::r=>cond (aB a i) r<|a::AS i r
def CH :List LItem->List Nat->Nat->Option (List Nat×LItem×List LItem)
 |[],_,_=>Z
 |it::r,P,i=>cond (aB it.kind 3) (CH r P i)<|cond (aB it.kind 2) (cond (lB it.i P) (CH r (AS it.i P) i) Z)<|cond (aB it.i i) (O (P,it,r)) Z
def Up :List LItem->List Nat->Bool
 |[],P=>P.isEmpty
 |it::r,P=>cond (aB it.kind 3) (Up r P)<|aB it.kind 2&&lB it.i P&&Up r (AS it.i P)
def aP1 :AOp->Bool
 | .move _=>Za
 |_=>Zb
def LC (ops:List<|AOper×List Nat):List LItem->Nat->Bool
 |[],_=>Zb
 |it::r,m=>cond (aB it.kind 3) (aB it.i m||LC ops r m)<|(aB it.kind 2&&(aB it.i m||(rW (be ops it.i).dst (tP (be ops m).op)&&LC ops r m)))||(aB it.kind 0&&aP1 (be ops it.i).op&&rW (be ops it.i).dst (tP (be ops m).op)&&LC ops r m)
def tJ (ops:List<|AOper×List Nat)(c:Nat)(f:Bool)(P:List Nat)(r:List LItem):Bool:=
 P.all (λq=>Ws (be ops c).dst (be ops q).dst&&rW (be ops c).dst (tP (be ops q).op))&&
 r.all λe=> !Nat.beq e.kind 2||(f&&aB e.i c)||Ws (be ops c).dst (be ops e.i).dst
def aJ2 :List LItem->Bool
 |it::_=>aB it.kind 5
 |[]=>Zb
def aw4 :Option Nat->Nat->Bool
 |some a,b=>aB a b
 |none,_=>Zb
def Xk (ops:List<|AOper×List Nat):List Nat->Nat->List Nat->Option (Nat×List Nat)
 |[],f,D=>O (f,D)
 |i::g,f+1,D=>cond (aw4 (fG ops D) i&&(be ops i).guard.isNone) (Xk ops g f<|i::D) Z
 |_::_,0,_=>Z
def Xl (ops:List<|AOper×List Nat):List LItem->Nat->List Nat->Bool
 |[],0,_=>Za
 |[],_+1,D=>(fG ops D).isNone&&(br ops D).isEmpty
 |it::r,f+1,D=>aB it.kind 0&&aw4 (fG ops D) it.i&&(be ops it.i).guard.isNone&&Xl ops r f (it.i::D)
 |_::_,0,_=>Zb
def Sc :List Nat->List LItem->Option (List LItem)
 |[],r=>O r
 |i::g,c::r=>cond (aB c.kind 0&&aB c.i i) (Sc g r) Z
 |_::_,[]=>Z
def okG (ops:List<|AOper×List Nat)(m c:Nat):List Nat->List Nat->Bool
 |_,[]=>Za
 |pre,i::g=>(be ops i).dst.isSome&&rW (be ops i).dst (tP (be ops m).op)&&Ws (be ops i).dst (be ops m).dst&&rW (be ops c).dst (be ops i).op.reads&&Ws (be ops c).dst (be ops i).dst&&(i::pre).all (λj=>rW (be ops i).dst (be ops j).op.reads)&&pre.all (λj=>Ws (be ops i).dst (be ops j).dst)&&okG ops m c (i::pre) g
def Y9 (ops:List<|AOper×List Nat)(f:Nat)(D P ls h:List Nat):List LItem->Bool
 |it::c::e::r=>P.isEmpty&&aB c.kind 1&&aB e.kind 2&&aB e.i it.i&&pO (be ops it.i).op&& !pO (be ops c.i).op&&(be ops it.i).guard.isNone&&(be ops c.i).guard.isNone&&rW (be ops it.i).dst (tP (be ops it.i).op)&&
  !(br ops D).isEmpty&&(br ops D).all (λx=>aB x it.i||aB x c.i)&&ls.all (λi=>tw ops i it.i||lB i h)&&ls.all (λi=>tw ops i c.i||lB i c.chks)&&tJ ops c.i Zb [it.i] (e::r)&&okG ops it.i c.i [] it.chks&&
  (match Xk ops it.chks f (it.i::D),Sc it.chks r with
  |some (g+1,D1),O j=>(fG ops D1).isNone&&(match br ops D1 with
   |[x]=>aB x c.i
   |_=>Zb)&&Xl ops j g (c.i::D1)
  |_,_=>Zb)
 |_=>Zb
def ba3 (ops:List<|AOper×List Nat)(e:List Nat->List Nat->List LItem->Bool)(D:List Nat):List LItem->Bool
 |_::c::r=>e (c.i::D) c.need r
 |_=>Zb
def Nh (ops:List<|AOper×List Nat):Nat->List Nat->List Nat->List Nat->List Nat->List LItem->Bool
 |0,_,P,_,_,r=>Up r P
 |f+1,D,P,e,h,r=>match fG ops D with
  |some i=>(be ops i).guard.isNone&&(match CH r P i with
   |some (P',c,g)=>aB c.kind 0&&tJ ops i Zb P' g&&Nh ops f (i::D) P' (cond (be ops i).op.isLoad (i::e) e) c.need g
   |none=>Zb)
  |none=>cond (aJ2 r) (Y9 ops f D P e h r&&ba3 ops (λD' j g=>Nh ops f D' [] e j g) D r)<|match br ops D with
   |[]=>Up r P
   |ms=>ms.all λm=>(be ops m).guard.isNone&&cond (pO (be ops m).op)
    (!lB m P&&r.any (λc=>aB c.kind 2&&aB c.i m)&&(LH (be ops m).op||LC ops r m)&&tJ ops m Za P r&&rW (be ops m).dst (tP (be ops m).op)&&e.all (λi=>tw ops i m||lB i h)&&Nh ops f (m::D) (m::P) e h r)
    (match CH r P m with
    |some (P',c,g)=>aB c.kind 1&&tJ ops m Zb P' g&&e.all (λi=>tw ops i m||lB i c.chks)&&Nh ops f (m::D) P' e c.need g
    |none=>Zb)
def YK (i:Nat):List Nat->List Nat
 |[]=>[]
 |a::r=>cond (aB a i) r<|YK i r
def zu (ops:List<|AOper×List Nat)(c:List Nat):List Nat->List Nat->List LItem
 |[],_=>[]
 |i::r,e=>
  cond (aD 2000 i) (⟨i % 1000,5,(YK (i % 1000) r).take<|i / 10000,[]⟩::zu ops c r e)<|
  cond (aD 1000 i) (⟨i-1000,3,[],[]⟩::zu ops c r e)<|
  let o:=(be ops i).op
  let f:=cond o.isLoad (i::e) e
  let g:=r.filter λm=>pO (be ops m).op
  ⟨i,cond (pO o) 2<|cond o.still 0 1,e.filter λj=> !tw ops j i,f.filter λj=>g.any λm=> !tw ops j m⟩::zu ops c r f
def FC (ops:List<|AOper×List Nat):List LItem->Bool
 |[]=>Za
 |it::r=>r.all (λj=> !Nat.beq it.kind 2|| !Nat.beq j.kind 2||Ws (be ops it.i).dst (be ops j.i).dst)&&FC ops r
def EM (ops:List<|AOper×List Nat):List LItem->List Nat
 |[]=>[]
 |it::r=>cond (aB it.kind 2) ((match(be ops it.i).dst with
  |some d=>[d]
  |none=>[])++EM ops r) (EM ops r)
inductive AT where
 |no
 |n (l r:AT)
 |lp (fx:List Nat) (head:Alt) (exits:List Alt) (b:AT)
 |jn (fx mov:List Nat) (exits:List Alt) (l r:AT)
 |sz (n:Nat) (l r:AT)
 |dr (L:List Nat)
 |all
def AT.sub :AT->AT
 | .all=> .all
 |_=> .no
def Vr (ops:List<|AOper×List Nat):Nat->List Nat->List Nat
 |0,_=>[]
 |f+1,D=>match fG ops D with
  |some i=>i::Vr ops f (i::D)
  |none=>match(br ops D).filter (λm=> !pO (be ops m).op),br ops D with
   |m::_,c=>(c.filter λx=>pO (be ops x).op&& !LH (be ops x).op).map (1000+ ·)++m::Vr ops f (m::D)
   |[],m::_=>m::Vr ops f (m::D)
   |[],[]=>[]
def drL (ops:List<|AOper×List Nat):AT->Option (List Nat)
 | .dr L=>O L
 | .all=>O (Vr ops (b8 ops) [])
 |_=>Z
def aA7 :List VV->Nat
 |[]=>0
 | .nilp::r=>aA7 r+1
 | .fn f _ _::r=>aA7 r+10*f
 |_::r=>aA7 r
def aP5 :Nat->ah->Nat
 |_,[]=>0
 |k, .cells _ _ l::r=>k*aA7 l+aP5 (k+1) r
 |k,_::r=>aP5 (k+1) r
def ad9 (S:ah):Nat:=b8 S+1000*aP5 1 S
def AT.at (n:Nat):AT->AT
 | .sz m l r=>cond (aB m n) l (r.at n)
 |t=>t
def SS (e:cn):List Nat->List VV->cn
 |t::c,v::f=>oA (SS e c f) t v
 |_,_=>e
def PL :Option Nat->List Nat
 |some d=>[d]
 |none=>[]
def mQ :AC->List Nat
 | .region c=>c.flatMap λo=>PL o.dst
 | .draw c=>c.flatMap λo=>PL o.1.dst
 | .sched e=>e.flatMap λi=>PL i.o.dst
 | .seq a b| .cond _ a b=>mQ a++mQ b
 | .block _ b| .loop b=>mQ b
 |_=>[]
def XK.is :XK->AExit->Bool
 | .normal, .normal=>Za
 | .exit i, .exit j=>aB i j
 | .ret, .ret=>Za
 |_,_=>Zb
def XK.out :XK->AExit
 | .normal=> .normal
 | .exit i=> .exit i
 | .ret=> .ret
def kl (fx mov:List Nat)(fz:Bool):Nat->ah->ah
 |_,[]=>[]
 |i,b::r=>cond (lB i mov) (cond b.frozen b .dead) (cond (lB i fx) b<|cond fz b.freeze b)::kl fx mov fz (i+1) r
def D8 :AC->Bool
 | .seq a b| .cond _ a b=>D8 a&&D8 b
 | .block _ b| .loop b=>D8 b
 |_=>Za
def aq {α γ:Type}(f:α->Option (α⊕γ))(n:Nat):α->Option γ:=
 Nat.rec (λ_=>Z) (λ_ c a=>bA (f a) λs=>bz s c O) n
def fy :Nat:=18446744073709551616
def HA (e0:cn)(S:ah)(fx mov e:List Nat)(fz:Bool)(ts:List Nat)(f:tR)(t:B8 f.shs):Option<|cn×ah:=
 match ot id f (Qv f.shs t)with
 |some (c,h,g)=>(match vX fx h (kl fx mov (fz||CR c h g) 0 S)with
  |some S'=>O (SS (mv e0 e) ts c,S'++g)
  |none=>Z)
 |none=>Z
def ax9 {β:Type}(e0:cn)(S:ah)(fx mov f:List Nat)(c:List Alt)(s:pI c)(k:AExit->cn->ah->Option β):Option β:=
 YP c s λa t=>match HA e0 S fx mov f Zb a.ts a.sk t with
  |some (e,S')=>k a.x.out e S'
  |none=>Z
def LU (F:AT->(β:Type)->cn->ah->(AExit->cn->ah->Option β)->Option β):AT->(β:Type)->cn->ah->(AExit->cn->ah->Option β)->Option β
 | .n l r,β,e,S,k=>F l β e S λx c S'=>match x with
  | .normal=>LU F r β c S' k
  |x=>k x c S'
 | .sz m l r,β,e,S,k=>cond (aB m<|b8 S) (LU F l β e S k) (LU F r β e S k)
 |_,_,_,_,_=>Z
def af3 (F:(β:Type)->cn->ah->(AExit->cn->ah->Option β)->Option β)(n:Nat):(β:Type)->cn->ah->(AExit->cn->ah->Option β)->Option β:=
 Nat.rec (λ_ _ _ _=>Z) (λ_ f β e S k=>F β e S λx c S'=>match x with
  | .normal=>f β c S' k
  |x=>k x c S') n
def AT.rounds :AT->Nat
 | .n _ r=>r.rounds+1
 | .sz _ l r=>l.rounds+r.rounds
 |_=>0
def eval (tab:Tab):AC->AT->(β:Type)->cn->ah->(AExit->cn->ah->Option β)->Option β
 | .skip,_,_,e,S,k=>k .normal e S
 | .exit i,_,_,e,S,k=>k (.exit i) e S
 | .ret,_,_,e,S,k=>k .ret e S
 | .region g,_,_,e,S,k=>CX tab g e S λh S'=>k .normal h S'
 | .sched w,_,_,e,S,k=>tB tab w [] e S λh S'=>k .normal h S'
 | .draw g,j,_,e,S,k=>(match drL g (j.at<|ad9 S)with
  |some L=>gd (Nh g (b8 g) [] [] [] [] (zu g L L [])&&FC g (zu g L L [])) (CW tab g (zu g L L []) [] (mv e<|EM g<|zu g L L []) S λh S'=>k .normal h S')
  |none=>Z)
 | .seq a b,j,β,e,S,k=>
  (match j.at (ad9 S)with
  | .jn o q f l r=>gd (JO S o&&D8 a) (bA (eval tab a l (pI f) e (kl (o++q) [] Za 0 S) λx h S'=>tx S' (b8 S) o (λts=>ts.map<|iZ h) (λy=>y.is x) f) λs=>
    ax9 e S o q (mQ a) f s λx h S'=>match x with
     | .normal=>eval tab b r β h S' k
     |x=>k x h S')
  | .n l r=>eval tab a l β e S λx h S'=>match x with
   | .normal=>eval tab b r β h S' k
   |x=>k x h S'
  |u=>eval tab a u.sub β e S λx h S'=>match x with
   | .normal=>eval tab b u.sub β h S' k
   |x=>k x h S')
 | .cond c a b,j,β,e,S,k=>
  (match ev e c with
  | .bool p=>(match c,j.at (ad9 S)with
   | .tmp t, .n l r=>cond p (eval tab a l β (oA e t<|.bool Za) S k) (eval tab b r β (oA e t<|.bool Zb) S k)
   | .tmp t,u=>cond p (eval tab a u.sub β (oA e t<|.bool Za) S k) (eval tab b u.sub β (oA e t<|.bool Zb) S k)
   |_, .n l r=>cond p (eval tab a l β e S k) (eval tab b r β e S k)
   |_,u=>cond p (eval tab a u.sub β e S k)<|eval tab b u.sub β e S k)
  |_=>Z)
 | .block id b,j,β,e,S,k=>
  eval tab b (match j.at (ad9 S)with
   | .n l _=>l
   |u=>u.sub) β e S λx h S'=>match x with
   | .exit i=>cond (aB i id) (k .normal h S') (k (.exit i) h S')
   |x=>k x h S'
 | .loop b,j,_,e,S,k=>
  (match j.at (ad9 S)with
  | .lp o head f l=>(λS=>gd (head.sk.fxRo&&JO S o&&D8 b) (match mS S (b8 S) o head.sk (head.ts.map<|iZ e)with
   |some z=>bA (QO head.sk.shs z.ls) λB=>
    (aq (λt=>match HA e S o (rB z.m) (mQ b) Za head.ts head.sk t with
     |some (A,S1)=>eval tab b l (B8 head.sk.shs⊕pI f) A S1 λx h S'=>(match x with
      | .normal=>bA (VA S' (b8 S) o head.sk<|head.ts.map<|iZ h) λt=>O (.inl t)
      |x=>bA (tx S' (b8 S) o (λts=>ts.map<|iZ h) (λy=>y.is x) f) λs=>O<|.inr s)
     |none=>Z) fy B).bind λs=>ax9 e S o (rB z.m) (mQ b) f s k
   |none=>Z)) (ax6 (b8 S) head.sk.free head.sk.vals (head.ts.map<|iZ e) S)
  | .all=>af3 (eval tab b .all) 1000000 _ e S k
  |_=>LU (eval tab b) j _ e S k)
def aD8 (e:cn)(S:ah):ARes->Option VV
 | .tmp t=>O (iZ e t)
 | .cell t=>(match iZ e t with
  | .ptr b o=>(match ae S b with
   | .cells _ _ l=>nth l o
   |_=>Z)
  |_=>Z)
 | .cellN t n=>(match iZ e t with
  | .ptr b o=>(match ae S b with
   | .cells _ _ l=>cond (aD (o+n)<|b8 l) (O<|.agg<|(l.drop o).take n) Z
   |_=>Z)
  |_=>Z)
def Ef (e:cn)(S:ah):List ARes->Option (List VV)
 |[]=>O []
 |r::c=>bA (aD8 e S r) λv=>bA (Ef e S c) λf=>O<|v::f
def Nw :List VV->VV
 |[v]=>v
 |vs=> .tup vs
def ce (P:Program)(f:FuncId)(tab:Tab)(at':AT):(β:Type)->List VV->ah->(VV->ah->Option β)->Option β:=λβ c S k=>
 match Vc P f with
 |some a=>gd (aD (b8 c) a.ntmps) (eval tab a.body at' β c S λx e S'=>match x with
  | .exit _=>Z
  |_=>(match Ef e S' a.results with
   |some g=>k (Nw g) S'
   |none=>Z))
 |none=>Z
def F0 (P:Program)(f:FuncId)(tab:Tab)(h:List Sk)(c:List OSk)(g:List Alt)(at':AT)(t:B8<|tR.shs ⟨h,[],c⟩):Option<|pI g:=
 match Vc P f,ot id ⟨h,[],c⟩ (Qv _ t)with
 |some a,O (j,_,S)=>gd (aD (b8 j) a.ntmps) (eval tab a.body at' (pI g) j S λx e S'=>match x with
  | .exit _=>Z
  |_=>(match Ef e S' a.results with
   |some l=>tx S' (b8 S) (qR c 0) (λ_=>[Nw l]) (λ_=>Za) g
   |none=>Z))
 |_,_=>Z
end
section
open Nat renaming lt_of_lt_of_le->aB
structure Ctx where
 μ:Nat->Option Nat
 S:ah
 σ:Hp
 fb:Nat->Prop
def Blk.dim :Blk->Option (Nat×Nat)
 | .dead=>Z
 | .cells c _ l=>O (c,b8 l)
 | .arr s _ l=>O (s.w,b8 l*s.w)
def Blk.vals :Blk->List VV
 | .dead=>[]
 | .cells _ _ l=>l
 | .arr s _ l=>fh s l
def Ctx.own (c:Ctx)(b:Nat):Prop:= ∃k,(ae c.S k).frozen=Zb/\c.μ k=O b
def Ctx.mut (c:Ctx)(b:Nat):Prop:=c.own b∨c.fb b
def Gn (c:Ctx)(k lo n:Nat)(d:Nat×Nat)(a:Value):Prop:=
 (a= .slice Z 0 0/\lo=0/\n=0/\c.μ k=Z/\d.2=0)∨
 ∃b e y,a= .slice (O ⟨b,lo*d.1,Z⟩) n e/\c.μ k=O b/\(lo+n)*d.1<=d.2/\n<=e/\c.σ.m b=O y/\(lo+e)*d.1<=b8 y.cells
inductive VRel (c:Ctx):VV->Value->Prop where
 |undef (a:Value):VRel c .undef a
 |bool (b:Bool):VRel c (.bool b) (.bool b)
 |int (k:IntKind) (n:Int):VRel c (.int k n) (.int k n)
 |str {l:Zd} {s:ByteArray}:au s=l->VRel c (.str l) (.string s)
 |nilp:VRel c .nilp (.pointer Z)
 |nils:VRel c .nils (.slice Z 0 0)
 |nilf:VRel c .nilf .nilFunc
 |ptr {k o:Nat} {a:Value}:k<b8 c.S->one a=Za->(∀d,(ae c.S k).dim=O d->∃b,c.μ k=O b/\a= .pointer (O ⟨b,o,Z⟩))->VRel c (.ptr k o) a
 |it {k:Nat} {l:Zd} {s:ByteArray} {a:Value}:k<b8 c.S->one a=Za->au s=l->(∀d,(ae c.S k).dim=O d->∃b,c.μ k=O b/\a= .iface b (.string s))->VRel c (.it k l) a
 |bld {k:Nat} {a:Value}:k<b8 c.S->one a=Za->(∀d,(ae c.S k).dim=O d->∃b,c.μ k=O b/\a= .iface b .nilFunc)->VRel c (.bld k) a
 |pix {k o n i:Nat} {a:Value}:k<b8 c.S->one a=Za->i<n->(∀d,(ae c.S k).dim=O d->∃b,c.μ k=O b/\a= .pointer (O ⟨b,o+i,Z⟩))->VRel c (.pix k o n i) a
 |pel {k i o:Nat} {a:Value}:k<b8 c.S->one a=Za->(∀d,(ae c.S k).dim=O d->∃b,c.μ k=O b/\a= .pointer (O ⟨b,i*d.1+o,Z⟩))->VRel c (.pel k i o) a
 |pin {s:Sh} {x:El s} {o b p:Nat} {y:Ab.Blk}: ¬c.mut b->c.σ.m b=O y->p+s.w<=b8 y.cells->F2 (VRel c) (bn s x) ((y.cells.drop p).take s.w)->VRel c (.pin s x o) (.pointer<|O ⟨b,p+o,Z⟩)
 |lstn {s:Sh} {q:Option Addr}:(∀z,q=O z->z.spot=Z)->VRel c (.lst s []) (.slice q 0 0)
 |lst {s:Sh} {l:List<|El s} {b p n cp:Nat} {y:Ab.Blk}: ¬c.mut b->c.σ.m b=O y->y.es=s.w->n=b8 l->n<=cp->p+n*s.w<=b8 y.cells->
   F2 (VRel c) (fh s l) ((y.cells.drop p).take<|n*s.w)->VRel c (.lst s l) (.slice (O ⟨b,p,Z⟩) n cp)
 |tgtn {s:Sh} {a:Value}:(a= .slice Z 0 0∨∃b o,a= .slice (O ⟨b,o,O 0⟩) 0 0)->VRel c (.tgt s []) a
 |tgt {s:Sh} {l:List<|El s} {b p:Nat} {y:Ab.Blk}: ¬c.mut b->c.σ.m b=O y->y.es=s.w->p+b8 l*s.w<=b8 y.cells->
   F2 (VRel c) (fh s l) ((y.cells.drop p).take<|b8 l*s.w)->VRel c (.tgt s l) (.slice (O ⟨b,p,O 0⟩) (b8 l)<|b8 l)
 |full {k:Nat} {a:Value}:k<b8 c.S->one a=Za->(∀d,(ae c.S k).dim=O d->∃n,n*d.1=d.2/\Gn c k 0 n d a)->VRel c (.full k) a
 |part {k lo n:Nat} {a:Value}:k<b8 c.S->one a=Za->(∀d,(ae c.S k).dim=O d->Gn c k lo n d a)->VRel c (.part k lo n) a
 |fn {f:Nat} {a b:List VV} {a' b':Array Value}:F2 (VRel c) a a'.toList->F2 (VRel c) b b'.toList->VRel c (.fn f a b) (.func (.func f) a' b')
 |bag {s:Sh} {l:List<|El s} {l':Array Value}:F2 (VRel c) (fh s l) l'.toList->VRel c (.bag s l) (.agg l')
 |agg {l:List VV} {l':Array Value}:F2 (VRel c) l l'.toList->VRel c (.agg l) (.agg l')
 |tup {l:List VV} {l':Array Value}:F2 (VRel c) l l'.toList->VRel c (.tup l) (.tuple l')
def Ks (c:Ctx)(k:Nat):Prop:= ∀d,(ae c.S k).dim=O d->1<=d.1/\
 ((d.2=0/\c.μ k=Z)∨∃b y f e,c.μ k=O b/\c.σ.m b=O y/\y.es=d.1/\((ae c.S k).frozen=Zb->y.own=Za)/\y.cells=f++e/\F2 (VRel c) (ae c.S k).vals f)
structure Rel (c:Ctx):Prop where
 ok:c.σ.Ok
 inj: ∀k k' b,(ae c.S k).frozen=Zb->(ae c.S k').dim≠Z->c.μ k=O b->c.μ k'=O b->k=k'
 blk: ∀k,Ks c k
 fbk: ∀k b,(ae c.S k).dim≠Z->c.μ k=O b->¬c.fb b
 fbl: ∀b,c.fb b->b<c.σ.n
structure Le (c c':Ctx):Prop where
 len:b8 c.S<=b8 c'.S
 al: ∀k d,k<b8 c.S->(ae c'.S k).dim=O d->(ae c.S k).dim=O d/\c'.μ k=c.μ k
 fz: ∀k,(ae c.S k).frozen=Za->(ae c.S k).dim≠Z->ae c'.S k=ae c.S k
 ln: ∀k d b y,k<b8 c.S->(ae c'.S k).dim=O d->c.μ k=O b->c.σ.m b=O y->∃y',c'.σ.m b=O y'/\b8 y'.cells=b8 y.cells
 un: ∀b y,c.σ.m b=O y->¬c.own b->c'.σ.m b=O y
 ow: ∀b y,c.σ.m b=O y->¬c.own b->¬c'.own b
 n:c.σ.n<=c'.σ.n
 fb:c'.fb=c.fb
def Le.rd {c f:Ctx}(h:Le c f)(b:Nat)(y:Ab.Blk)(l:c.σ.m b=O y)(j: ¬c.mut b):f.σ.m b=O y/\¬f.mut b:=by
 have g: ¬c.own b:=λe=>j (.inl e)
 refine⟨h.un b y l g,λe=> ?_⟩;rcases e with e|e
 .exact h.ow b y l g e
 rw[h.fb]at e;exact j<|.inr e
def vk (d:List Nat)(c e:Ctx):Prop:= ∀k,k<b8 c.S->k∉d->(ae c.S k).dim≠Z->(ae e.S k).dim≠Z/\∀b,c.μ k=O b->e.σ.m b=c.σ.m b
def kG (h:(ae S k).dim≠Z):k<b8 S:=by
 induction S generalizing k with
 |nil=>exact(h rfl).elim
 |cons b r c=>
  cases k with
  |zero=>exact Nat.zero_lt_succ _
  |succ k=>exact Nat.succ_lt_succ<|c h
def vV (h:b8 S<=k):ae S k= .dead:=by
 induction S generalizing k with
 |nil=>rfl
 |cons b r c=>
  cases k with
  |zero=>simp at h
  |succ k=>exact c V6
def yF :b8 (gJ S k b)=b8 S:=by
 induction S generalizing k with
 |nil=>rfl
 |cons a r c=>cases k<;>simp[gJ,c]
def uG :ae (gJ S k b) i=if i=k/\k<b8 S then b else ae S i:=by
 induction S generalizing k i with
 |nil=>simp[gJ]
 |cons a r c=>
  cases k with
  |zero=>cases i<;>simp[gJ,ae]
  |succ k=>
   cases i with
   |zero=>simp[gJ,ae]
   |succ i=>simp[gJ,ae,c]
def WK (h:k<b8 S):ae (gJ S k b) k=b:=by rw[uG,zE ⟨rfl,h⟩]
def aE6 (h:i≠k):ae (gJ S k b) i=ae S i:=by rw[uG,zF<|λe=>h e.1]
def mV {l:List Blk}(h:k<b8 S):ae (S++l) k=ae S k:=by
 induction S generalizing k with
 |nil=>simp at h
 |cons a r c=>
  cases k with
  |zero=>rfl
  |succ k=>exact c V6
def rZ {S:ah}{l:List Blk}{k:Nat}:ae (S++l) (b8 S+k)=ae l k:=by
 induction S with
 |nil=>simp
 |cons a r c=>
  have:b8 (a::r)+k=(b8 r+k)+1:=by simp;omega
  rw[this];exact c
def Tf :ae (S++[b]) (b8 S)=b:=by
 exact @rZ S [b] 0
def mw (h:b.frozen=Zb):b.dim≠Z:=by cases b<;>simp[Blk.frozen,Blk.dim]at*
def gy :b.freeze.dim=b.dim:=by cases b<;>rfl
def Js :b.freeze.vals=b.vals:=by cases b<;>rfl
def kN :b.freeze.frozen=Za:=by cases b<;>rfl
def AZ (h:b.frozen=Za):b.freeze=b:=by cases b<;>simp[Blk.frozen,Blk.freeze]at* <;>simp[h]
def Le.refl (c:Ctx):Le c c:=⟨Nat.le_refl _,λ_ _ _ h=>⟨h,rfl⟩,λ_ _ _=>rfl,λ_ _ _ y _ _ _ e=>⟨y,e,rfl⟩,λ_ _ h _=>h,λ_ _ _ h=>h,Nat.le_refl _,rfl⟩
def Le.trans {a b c:Ctx}(h:Le a b)(k:Le b c):Le a c:=by
 refine⟨Nat.le_trans h.len k.len,λi d g f=> ?_,λi q f=> ?_,λi d x y g f r j=> ?_,λx y j l=>k.un x y (h.un x y j l)<|h.ow x y j l,λx y j l=>k.ow x y (h.un x y j l)<|h.ow x y j l,Nat.le_trans h.n k.n,k.fb.trans h.fb⟩
 .obtain⟨e,p⟩:=k.al i d (aB g h.len) f;have⟨m,o⟩:=h.al i d g e;exact⟨m,p.trans o⟩
 .have e:=h.fz i q f;rw[k.fz i (by rw[e];exact q) (by rw[e];exact f),e]
 have⟨e,p⟩:=k.al i d (aB g h.len) f;have⟨z,m,o⟩:=h.ln i d x y g e r j;have⟨_,u⟩:=h.al i d g e;have⟨A,t,w⟩:=k.ln i d x z (aB g h.len) f (u.trans r) m;exact⟨A,t,w.trans o⟩
def vk.refl (d:List Nat)(c:Ctx):vk d c c:=λ_ _ _ h=>⟨h,λ_ _=>rfl⟩
def Gn.frame {c f:Ctx}(h:Le c f){n:Nat}(m:k<b8 c.S)(l:(ae f.S k).dim=O d)(u:Gn c k lo n d a):Gn f k lo n d a:=by
 have⟨A,j⟩:=h.al k d m l;rcases u with⟨rfl,rfl,rfl,e,x⟩|⟨b,o,y,rfl,e,p,q,w,r⟩
 .exact .inl ⟨rfl,rfl,rfl,j.trans e,x⟩
 have⟨z,g,t⟩:=h.ln k d b y m l e w;exact .inr ⟨b,o,z,rfl,j.trans e,p,q,g,by rw[t];exact r⟩
theorem VRel.frame {c u:Ctx}(h:Le c u): ∀{v:VV} {a:Value},VRel c v a->VRel u v a
 |_,_, .undef a=> .undef a
 |_,_, .bool b=> .bool b
 |_,_, .int k n=> .int k n
 |_,_, .str y=> .str y
 |_,_, .nilp=> .nilp
 |_,_, .nils=> .nils
 |_,_, .nilf=> .nilf
 |_,_, .ptr g e o=> .ptr (aB g h.len) e λd f=>by
  have⟨e,j⟩:=h.al _ d g f
  grind
 |_,_, .it g e y o=> .it (aB g h.len) e y λd f=>by
  have⟨e,j⟩:=h.al _ d g f
  grind
 |_,_, .bld g e o=> .bld (aB g h.len) e λd f=>by
  have⟨e,j⟩:=h.al _ d g f
  grind
 |_,_, .pix g e A o=> .pix (aB g h.len) e A λd f=>by
  have⟨e,j⟩:=h.al _ d g f
  grind
 |_,_, .pel g e o=> .pel (aB g h.len) e λd f=>by
  have⟨e,j⟩:=h.al _ d g f
  grind
 |_,_, .pin p q B t=> .pin (h.rd _ _ q p).2 (h.rd _ _ q p).1 B (go t)
 |_,_, .lstn x=> .lstn x
 |_,_, .lst p q w e j r t=> .lst (h.rd _ _ q p).2 (h.rd _ _ q p).1 w e j r (go t)
 |_,_, .tgtn x=> .tgtn x
 |_,_, .tgt p q w r t=> .tgt (h.rd _ _ q p).2 (h.rd _ _ q p).1 w r (go t)
 |_,_, .full g e o=> .full (aB g h.len) e λd f=>by
  have⟨e,j⟩:=h.al _ d g f;have⟨n,r,z⟩:=o d e;exact⟨n,r,z.frame h g f⟩
 |_,_, .part g e o=> .part (aB g h.len) e λd f=>by
  have⟨e,j⟩:=h.al _ d g f;exact(o d e).frame h g f
 |_,_, .fn e j=> .fn (go e) (go j)
 |_,_, .bag e=> .bag (go e)
 |_,_, .agg e=> .agg (go e)
 |_,_, .tup e=> .tup<|go e
where
 go: ∀{l:List VV} {m:List Value},F2 (VRel c) l m->F2 (VRel u) l m
  |_,_, .nil=> .nil
  |_,_, .cons e j=> .cons (VRel.frame h e)<|go j
def VRel.frames {c e:Ctx}(h:Le c e){l:List VV}{m:List Value}(f:F2 (VRel c) l m):F2 (VRel e) l m:=f.imp λ_ _ g=>g.frame h
def iG {β:Type}(c:Ctx)(d:List Nat)(k:VV->ah->Option β)(y:β)(v:Value)(σ':Hp):Prop:=
 ∃f e,e.σ=σ'/\Le c e/\Rel e/\vk d c e/\VRel e f v/\k f e.S=O y
def iG.same {β:Type}{c:Ctx}{d:List Nat}{k:VV->ah->Option β}{y:β}{v:Value}{e:VV}(f:Rel c)(h:VRel c e v)(g:k e c.S=O y):iG c d k y v c.σ:=
 ⟨e,c,rfl,Le.refl c,f,vk.refl d c,h,g⟩
end
section
open List renaming length_append->bB,length_cons->bD,take_append->cB,take_of_length_le->cD
open Nat renaming succ_mul->aB,le_refl->aD,mul_le_mul_right->cV
def mX : ∀s:Sh,1<=s.w
 | .int _=>aD _
 | .bool=>aD _
 | .str=>aD _
 | .list _=>aD _
 | .pair a _=>Nat.le_trans (mX a)<|Nat.le_add_right _ _
def cu : ∀(s:Sh) (x:El s),b8 (bn s x)=s.w
 | .int _,_=>rfl
 | .bool,_=>rfl
 | .str,_=>rfl
 | .list _,_=>rfl
 | .pair a b,x=>by
  simp only[bn,bB,Sh.w];rw[cu a,cu b]
def EL :fh s []=[]:=rfl
def fO {x:El s}{l:List<|El s}:fh s (x::l)=bn s x++fh s l:=rfl
def gR {l:List<|El s}:b8 (fh s l)=b8 l*s.w:=by
 induction l with
 |nil=>simp[EL]
 |cons x l c=>rw[fO,bB,cu,c,bD,aB,Nat.add_comm]
def xx {l m:List<|El s}:fh s (l++m)=fh s l++fh s m:=List.flatMap_append
def kU {l:List<|El s}{n:Nat}:fh s (l.take n)=(fh s l).take (n*s.w):=by
 induction l generalizing n with
 |nil=>simp[EL]
 |cons x l e=>
  cases n with
  |zero=>simp[EL]
  |succ n=>
   rw[List.take_succ_cons,fO,fO,e,cB,cu];have c:(n+1)*s.w-s.w=n*s.w:=by rw[aB];omega
   rw[c,cD (l:=bn s x) (by rw[cu,aB];omega)]
def yq {l:List<|El s}{n:Nat}:fh s (l.drop n)=(fh s l).drop (n*s.w):=by
 induction l generalizing n with
 |nil=>simp[EL]
 |cons x l e=>
  cases n with
  |zero=>simp
  |succ n=>
   rw[List.drop_succ_cons,fO,e,List.drop_append,cu];have c:(n+1)*s.w-s.w=n*s.w:=by rw[aB];omega
   rw[c,List.drop_of_length_le (l:=bn s x) (by rw[cu,aB];omega),List.nil_append]
theorem Ij {l:List<|El s}{x:El s}(h:l[i]?=O x):((fh s l).drop<|i*s.w).take s.w=bn s x:=by
 rw[<-yq]
 have e:i<b8 l:=by
  grind
 have c:l.drop i=x::l.drop (i+1):=by
  rw[List.drop_eq_getElem_cons e]
  grind
 rw[c,fO,cB,cu,Nat.sub_self,List.take_zero,List.append_nil,cD (by rw[cu];exact aD _)]
theorem kL {c:Sh}{x:El c}{y:El s}(h:lA c s x=O y): ∃e:c=s,y=e▸x:=by
 unfold lA at h
 grind
def kJ {x:El s}:lA s s x=O x:=by
 unfold lA;rw[dif_pos rfl]
def F2.app_left {α β:Type}{r:α->β->Prop}{l l':List α}{m:List β}(h:F2 r (l++l') m): ∃c e,m=c++e/\F2 r l c/\F2 r l' e:=by
 induction l generalizing m with
 |nil=>exact⟨[],m,rfl, .nil,h⟩
 |cons a l o=>
  cases h with
  |cons f g=>
   obtain⟨c,e,rfl,j,n⟩:=o g;exact⟨_::c,e,rfl, .cons f j,n⟩
def xV (c:Ctx)(s:Sh)(l:List<|El s)(a:Value):Prop:=
 (∃q:Option Addr,a= .slice q 0 0/\l=[]/\∀z,q=O z->z.spot=Z)∨∃b p e y,a= .slice (O ⟨b,p,Z⟩) (b8 l) e/\c.σ.m b=O y/\y.es=s.w/\b8 l<=e/\p+b8 l*s.w<=b8 y.cells/\F2 (VRel c) (fh s l) ((y.cells.drop p).take<|b8 l*s.w)
def xV.rel {c:Ctx}{l:List<|El s}(h:xV c s l a)(u: ∀b p n e,a= .slice (O ⟨b,p,Z⟩) n e->e≠0->¬c.mut b):VRel c (.lst s l) a:=by
 rcases h with⟨q,rfl,rfl,w⟩|⟨b,p,e,y,rfl,j,m,o,r,t⟩
 .exact .lstn w
 by_cases g:e=0
 .subst g;have:l=[]:=aK.1 V1;subst this;exact .lstn λz f=>by injection f with f;rw[<-f]
 exact .lst (u _ _ _ _ rfl g) j m rfl o r t
def VRel.listAt {c:Ctx}{l:List<|El s}(h:VRel c (.lst s l) a):xV c s l a:=by
 cases h with
 |lstn n=>exact .inl ⟨_,rfl,rfl,n⟩
 |lst p o m e f g j=>subst e;exact .inr ⟨_,_,_,_,rfl,o,m,f,g,j⟩
def VRel.lst_mut {c:Ctx}{l:List<|El s}{b p n e:Nat}(h:VRel c (.lst s l)<|.slice (O ⟨b,p,Z⟩) n e)(f:e≠0): ¬c.mut b:=by
 cases h with
 |lstn=>exact(f rfl).elim
 |lst g=>exact g
def Rel.fz_mut {c:Ctx}(f:Rel c){b:Nat}(j:(ae c.S k).frozen=Za)(g:(ae c.S k).dim≠Z)(l:c.μ k=O b): ¬c.mut b:=by
 rintro(⟨n,e,m⟩|h)
 .have:=f.inj n k b e g m l;subst this;rw[e]at j;cases j
 exact f.fbk k b g l h
def I4 (c:Ctx)(s:Sh)(f:List VV->Option (El s×List VV)):Prop:= ∀e x g,f e=O (x,g)->
 ∃h,e=h++g/\b8 h=s.w/\∀j,F2 (VRel c) h j->F2 (VRel c) (bn s x) j
def H8 {c:Ctx}{s:Sh}{f:List VV->Option (El s×List VV)}(q:I4 c s f): ∀(n:Nat) (cells:List VV) (l:List<|El s),I9 f n cells=O l->
  (b8 cells)=b8 l*s.w/\∀as,F2 (VRel c) cells as->F2 (VRel c) (fh s l) as
 |n,[],l,h=>by
  have:l=[]:=by cases n<;>simpa[I9]using h.symm
  subst this;exact⟨V2,λas g=>g⟩
 |0,_::_,_,h=>by simp[I9]at h
 |n+1,v::r,l,h=>by
  simp only[I9]at h;cases j:f (v::r)with
  |none=>rw[j]at h;cases h
  |some p=>
   have⟨x,e⟩:=p;rw[j]at h;simp only[zG]at h;cases m:I9 f n e with
   |none=>rw[m]at h;cases h
   |some C=>
    rw[m]at h;cases h;have⟨D,o,t,u⟩:=q _ _ _ j;have⟨y,z⟩:=H8 q n e C m;refine⟨by rw[o,bB,t,y,bD,aB,Nat.add_comm],λas g=> ?_⟩;rw[o]at g;obtain⟨E,F,rfl,A,B⟩:=F2.app_left g;exact(u _ A).append<|z _ B
def rR {c:Ctx}{f:List VV->Option (El s×List VV)}(p:I4 c s f){l:List<|El s}(h:xg s f (ae c.S k)=O l):
  ∃d,(ae c.S k).dim=O d/\d.1=s.w/\d.2=b8 l*s.w/\∀as,F2 (VRel c) (ae c.S k).vals as->F2 (VRel c) (fh s l) as:=by
 generalize ae c.S k=b at h;cases b with
 |dead=>cases h
 |arr q z m=>
  have⟨e,g⟩:=kL h;cases e;subst g;exact⟨_,rfl,rfl,rfl,λ_ h=>h⟩
 |cells n z m=>
  simp only[xg]at h;cases j:Nat.beq n s.w with
  |false=>rw[j]at h;cases h
  |true=>
   rw[j,zC]at h;have⟨g,o⟩:=H8 p _ _ _ h;exact⟨_,rfl,Nat.eq_of_beq_eq_true j,g,o⟩
theorem K3 {c:Ctx}(Q:Rel c){f:List VV->Option (El s×List VV)}(T:I4 c s f){n:Nat}{l:List<|El s}(h:xg s f (ae c.S k)=O l)
  (I:(ae c.S k).dim=O d) (V:Gn c k lo n d a):xV c s ((l.drop lo).take n) a/\((l.drop lo).take n).length=n:=by
 obtain⟨X,q,A,D,N⟩:=rR T h;rw[I]at q;injection q with q
 subst q;obtain⟨Y,H⟩:=Q.blk k d I;have J:=mX s;rcases V with⟨rfl,rfl,rfl,m,B⟩|⟨b,M,y,rfl,m,E,F,K,P⟩
 .have:l.length=0:=by
   rw[B]at D;rcases Nat.eq_zero_or_pos l.length with h|h
   .exact h
   .have:=Nat.mul_pos h J;omega
  rw[List.length_eq_zero_iff]at this;subst this;exact⟨.inl ⟨Z,rfl,V2,λz B=>by cases B⟩,V2⟩
 .have U:lo+n<=l.length:=by
   rw[A,D]at E;exact Nat.le_of_mul_le_mul_right E J
  have e:((l.drop lo).take n).length=n:=by rw[List.length_take,List.length_drop];omega
  refine⟨.inr ⟨b,lo*d.1,M,y,by rw[e],K, ?_,by rw[e];exact F, ?_, ?_⟩,e⟩
  .rcases H with⟨j,g⟩|⟨L,W,C,p,j,g,r,_⟩
   .rw[g]at m;cases m
   grind
  .rw[e];have:=cV d.1 F;rw[Nat.add_mul]at P;rw[<-A];omega
  .rcases H with⟨j,g⟩|⟨L,W,C,p,j,g,r,_,t,u⟩
   .rw[g]at m;cases m
   .rw[m]at j;injection j with j
    subst j;rw[K]at g;injection g with g
    subst g;have o:=N _ u;have x:C.length=l.length*s.w:=by rw[<-o.length,gR]
    rw[e,kU,yq,A,t,List.drop_append_of_le_length (by rw[x];exact cV _ V1),List.take_append_of_le_length]
    .exact(o.drop _).take _
    grind
theorem RR {c:Ctx}(q:Rel c){f:List VV->Option (El s×List VV)}(j:I4 c s f){l:List<|El s}(h:xg s f (ae c.S k)=O l)(t:VRel c (.full k) a):xV c s l a:=by
 have⟨d,e,m,o,u⟩:=rR j h;cases t with
 |full w _ r=>
  have⟨n,g,p⟩:=r d e
  have x:n=b8 l:=by
   rw[m,o]at g;exact Nat.eq_of_mul_eq_mul_right (mX s) g
  have:=(K3 q j h e p).1
  grind
def SC {c:Ctx}(j:Rel c){f:List VV->Option (El s×List VV)}(g:I4 c s f){n:Nat}{l:List<|El s}(h:xg s f (ae c.S k)=O l)(o:VRel c (.part k lo n) a):
  xV c s ((l.drop lo).take n) a/\b8 ((l.drop lo).take n)=n:=by
 have⟨d,e,p,q,r⟩:=rR g h;cases o with
 |part t _ m=>exact K3 j g h e<|m d e
def Im :VV->Option Nat
 | .full k=>O k
 | .part k _ _=>O k
 |_=>Z
theorem Gn.addr {c:Ctx}{n:Nat}{b p m e:Nat}(h:Gn c k lo n d<|.slice (O ⟨b,p,Z⟩) m e):c.μ k=O b:=by
 rcases h with⟨h,_⟩|⟨g,f,y,h,j,_⟩
 .cases h
 grind
def Of {c:Ctx}(u:Rel c){f:List VV->Option (El s×List VV)}(r:I4 c s f){l:List<|El s}(h:D6 c.S s f v=O l)(j:VRel c v a):
  xV c s l a/\∀b p n o,a= .slice (O ⟨b,p,Z⟩) n o->o≠0->¬c.mut b∨∃k,Im v=O k/\(ae c.S k).dim≠Z/\c.μ k=O b:=by
 cases v<;>simp only[D6]at h<;>try(cases h;done)
 case nils=>
  cases h;cases j;exact⟨.inl ⟨Z,rfl,rfl,λz A=>by cases A⟩,λb p n o e=>by cases e⟩
 case lst s' l'=>
  have⟨e,g⟩:=kL h;cases e;subst g;refine⟨j.listAt,λb p n o e x=> .inl ?_⟩;subst e;exact j.lst_mut x
 case full k=>
  refine⟨RR u r h j,λb p n o e _=> .inr ⟨k,rfl, ?_⟩⟩;have⟨d,g,_⟩:=rR r h;subst e;cases j with
  |full y _ t=>
   have⟨_,_,w⟩:=t d g;exact⟨by rw[g];simp,w.addr⟩
 case part k lo m=>
  cases q:xg s f (ae c.S k)with
  |none=>rw[q]at h;cases h
  |some B=>
   rw[q]at h;cases h;refine⟨(SC u r q j).1,λb p n o e _=> .inr ⟨k,rfl, ?_⟩⟩;have⟨d,g,_⟩:=rR r q;subst e;cases j with
   |part y _ t=>exact⟨by rw[g];simp,(t d g).addr⟩
def LR {c:Ctx}(r:Rel c){f:List VV->Option (El s×List VV)}(y:I4 c s f){l:List<|El s}(h:P2 c.S s f v=O l)(z:VRel c v a):VRel c (.lst s l) a:=by
 have j:D6 c.S s f v=O l/\∀k,Im v=O k->(ae c.S k).frozen=Za:=by
  unfold P2 at h;split at h
  .rename_i k;cases g:(ae c.S k).frozen with
   |false=>rw[g]at h;cases h
   |true=>
    rw[g]at h;exact⟨h,λA e=>by cases e;exact g⟩
  .rename_i k lo n;cases g:(ae c.S k).frozen with
   |false=>rw[g]at h;cases h
   |true=>
    rw[g]at h;exact⟨h,λA e=>by cases e;exact g⟩
  rename_i m o;refine⟨h,λk e=> ?_⟩;cases v<;>simp only[Im]at e<;>try(cases e;done)
  .exact(m _ rfl).elim
  exact(o _ _ _ rfl).elim
 have⟨m,o⟩:=Of r y j.1 z;refine m.rel λb p n t e x=> ?_
 rcases o b p n t e x with q|⟨k,q,u,w⟩
 .exact q
 exact r.fz_mut (j.2 k q) u w
def jA {c:Ctx}(o:Rel c): ∀s:Sh,I4 c s (hC c.S s)
 | .int k,e,x,f,h=>by
  cases e with
  |nil=>simp[hC]at h
  |cons v r=>
   cases v<;>simp only[hC]at h<;>try(cases h;done)
   rename_i J n;cases A:Zc (J=k)with
   |false=>rw[A]at h;cases h
   |true=>
    rw[A]at h;injection h with h
    injection h with g j
    subst g;subst j;have:=of_decide_eq_true A;subst this;exact⟨[_],rfl,rfl,λ_ h=>h⟩
 | .bool,e,x,f,h=>by
  cases e with
  |nil=>simp[hC]at h
  |cons v r=>
   cases v<;>simp only[hC]at h<;>try(cases h;done)
   injection h with h
   injection h with g j
   subst g;subst j;exact⟨[_],rfl,rfl,λ_ h=>h⟩
 | .str,e,x,f,h=>by
  cases e with
  |nil=>simp[hC]at h
  |cons v r=>
   cases v<;>simp only[hC]at h<;>try(cases h;done)
   injection h with h
   injection h with g j
   subst g;subst j;exact⟨[_],rfl,rfl,λ_ h=>h⟩
 | .list s,e,x,f,h=>by
  cases e with
  |nil=>simp[hC]at h
  |cons v r=>
   simp only[hC]at h;cases g:P2 c.S s (hC c.S s) v with
   |none=>rw[g]at h;cases h
   |some l=>
    rw[g]at h;injection h with h
    injection h with j t
    subst j;subst t;refine⟨[v],rfl,rfl,λD m=> ?_⟩;cases m with
    |cons m I=>
     cases I;exact .cons (LR o (jA o s) g m) .nil
 | .pair a b,e,x,f,h=>by
  simp only[hC]at h;cases g:hC c.S a e with
  |none=>rw[g]at h;cases h
  |some p=>
   have⟨y,M⟩:=p;rw[g]at h;simp only[zG]at h;cases j:hC c.S b M with
   |none=>rw[j]at h;cases h
   |some q=>
    have⟨z,Q⟩:=q;rw[j]at h;injection h with h
    injection h with t E
    subst t;subst E;obtain⟨K,rfl,B,u⟩:=jA o a _ _ _ g;obtain⟨L,rfl,C,w⟩:=jA o b _ _ _ j;refine⟨K++L,by rw[List.append_assoc],by rw[bB,B,C];rfl,λD m=> ?_⟩;obtain⟨N,P,rfl,F,H⟩:=F2.app_left m;exact(u _ F).append<|w _ H
def ae6 {c:Ctx}(f:Rel c){l:List<|El s}(h:Wb c.S s v=O l)(g:VRel c v a):
  xV c s l a/\∀b p n e,a= .slice (O ⟨b,p,Z⟩) n e->e≠0->¬c.mut b∨∃k,Im v=O k/\(ae c.S k).dim≠Z/\c.μ k=O b:=
 Of f (jA f s) h g
end
end Go.V
