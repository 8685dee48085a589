/- A part of the proofs of this claim: what functions of the program answer on an abstract machine, and plain laws. No condition. -/
import Derived.Test.YtpipfcfblmfnjaaGreatA2
set_option linter.unusedVariables false
set_option linter.unusedSimpArgs false
set_option linter.unusedSectionVars false
namespace Go.V
open Go.Ab
section
open List renaming replicate → aX
open Nat renaming beq → aB, ble → aD
open Option renaming none → aW
inductive Sh where
 |int (k:IntKind)
 |bool
 |str
 |list (s:Sh)
 |pair (a b:Sh)
 deriving DecidableEq
@[reducible] def El :Sh→Type
 | .int _=>Int
 | .bool=>Bool
 | .str=>List Int
 | .list s=>List (El s)
 | .pair a b=>El a×El b
def Sh.w :Sh→Nat
 | .pair a b=>a.w+b.w
 |_=>1
inductive VV where
 |undef
 |bool (b:Bool)
 |int (k:IntKind) (n:Int)
 |str (l:List Int)
 |nilp
 |nils
 |nilf
 |ptr (k o:Nat)
 |pix (k o n i:Nat)
 |pel (k i o:Nat)
 |pin (s:Sh) (x:El s) (o:Nat)
 |lst (s:Sh) (l:List (El s))
 |tgt (s:Sh) (l:List (El s))
 |full (k:Nat)
 |part (k lo n:Nat)
 |it (k:Nat) (l:List Int)
 |bld (k:Nat)
 |fn (f:Nat) (a c:List VV)
 |agg (l:List VV)
 |tup (l:List VV)
inductive Blk where
 |dead
 |cells (es:Nat) (fz:Bool) (l:List VV)
 |arr (s:Sh) (fz:Bool) (l:List (El s))
abbrev co :=List Blk
abbrev ed :=List VV
def jI :ed→Nat→VV
 |[],_=> .undef
 |v::_,0=>v
 |_::r,n+1=>jI r n
def na :ed→Nat→VV→ed
 |[],0,v=>[v]
 |[],n+1,v=> .undef::na [] n v
 |_::r,0,v=>v::r
 |a::r,n+1,v=>a::na r n v
def putO (e:ed)(d:Option Nat)(v:VV):ed:=match d with
 |some d=>na e d v
 |none=>e
def cl :co→Nat→Blk
 |[],_=> .dead
 |b::_,0=>b
 |_::r,n+1=>cl r n
def ja :co→Nat→Blk→co
 |[],_,_=>[]
 |_::r,0,b=>b::r
 |a::r,n+1,b=>a::ja r n b
def nth {α:Type}:List α→Nat→Option α
 |[],_=>none
 |v::_,0=>some v
 |_::r,n+1=>nth r n
def gM (s:ByteArray):List Int:=s.data.toList.map fun b=>(b.toNat:Int)
def aK4 :Value→VV
 | .bool b=> .bool b
 | .int k n=> .int k n
 | .string s=> .str (gM s)
 | .pointer none=> .nilp
 | .slice none 0 0=> .nils
 | .nilFunc=> .nilf
 |_=> .undef
def ofC :Value→VV
 | .agg cs=> .agg (cs.toList.map aK4)
 |v=>aK4 v
def ev (e:ed):Operand→VV
 | .tmp t=>jI e t
 | .const v=>ofC v
 | .func f=> .fn f [] []
 | .global _=> .undef
def cw0 :VV→Bool
 | .undef| .agg _| .tup _=>false
 |_=>true
def kl :VV→List VV
 | .agg l=>l
 |v=>[v]
def ei :(s:Sh)→El s→List VV
 | .int k,n=>[.int k n]
 | .bool,b=>[.bool b]
 | .str,l=>[.str l]
 | .list s,l=>[.lst s l]
 | .pair a b,x=>ei a x.1++ei b x.2
def fg (s:Sh)(l:List (El s)):List VV:=l.flatMap (ei s)
def lU (s' s:Sh)(x:El s'):Option (El s):=if h:s'=s then some (h▸x)else none
def aF5 {α:Type}(f:List VV→Option (α×List VV)):Nat→List VV→Option (List α)
 |_,[]=>some []
 |0,_::_=>none
 |n+1,v::l=>(f (v::l)).bind fun p=>(aF5 f n p.2).bind fun r=>some (p.1::r)
def Blk.frozen :Blk→Bool
 | .dead=>true
 | .cells _ z _=>z
 | .arr _ z _=>z
def te (s:Sh)(f:List VV→Option (El s×List VV)):Blk→Option (List (El s))
 | .dead=>none
 | .arr s' _ l=>lU (.list s') (.list s) l
 | .cells es _ l=>bif aB es s.w then aF5 f l.length l else none
def af0 (S:co)(s:Sh)(f:List VV→Option (El s×List VV)):VV→Option (List (El s))
 | .nils=>some []
 | .lst s' l=>lU (.list s') (.list s) l
 | .full k=>te s f (cl S k)
 | .part k lo n=>(te s f (cl S k)).bind fun l=>some ((l.drop lo).take n)
 |_=>none
def bt6 (S:co)(s:Sh)(f:List VV→Option (El s×List VV)):VV→Option (List (El s))
 | .full k=>bif (cl S k).frozen then af0 S s f (.full k)else none
 | .part k lo n=>bif (cl S k).frozen then af0 S s f (.part k lo n)else none
 |v=>af0 S s f v
def iH (S:co):(s:Sh)→List VV→Option (El s×List VV)
 | .int k, .int k' n::r=>bif decide (k'=k)then some (n,r)else none
 | .bool, .bool b::r=>some (b,r)
 | .str, .str l::r=>some (l,r)
 | .list s,v::r=>(bt6 S s (iH S s) v).bind fun l=>some (l,r)
 | .pair a b,l=>(iH S a l).bind fun p=>(iH S b p.2).bind fun q=>some ((p.1,q.1),q.2)
 |_,_=>none
def bT9 (S:co)(s:Sh)(v:VV):Option (List (El s)):=af0 S s (iH S s) v
def Blk.freeze :Blk→Blk
 | .dead=> .dead
 | .cells es _ l=> .cells es true l
 | .arr s _ l=> .arr s true l
def fzv :Nat→co→VV→co
 |0,S,_=>S
 |n+1,S,v=>match v with
  | .full k=>(match cl S k with
   | .cells es _ l=>l.foldl (fzv n) (ja S k (.cells es true l))
   |b=>ja S k b.freeze)
  | .part k _ _=>(match cl S k with
   | .cells es _ l=>l.foldl (fzv n) (ja S k (.cells es true l))
   |b=>ja S k b.freeze)
  |_=>S
def fzL (S:co)(l:List VV):co:=l.foldl (fzv 3) S
def cD1 (S:co):VV→co
 | .full k=>(match cl S k with
  | .cells _ _ l=>fzL S l
  |_=>S)
 | .part k _ _=>(match cl S k with
  | .cells _ _ l=>fzL S l
  |_=>S)
 |_=>S
section
variable {β:Type}
def gd (b:Bool)(x:Option β):Option β:=cond b x none
def ix (i:Int)(n:Nat):Option Nat:=cond (decide (0≤i)&&decide (i<n)) (some i.toNat) none
def rd {α:Type}(l:List α)(i:Int):Option α:=cond (decide (0≤i)) l[i.toNat]? none
def cn8 (p:Bool):VV→VV→Option VV
 | .int k x, .int k' y=>cond (decide (k=k')) (some (.int k (cond p x y))) none
 | .bool x, .bool y=>some (.bool (cond p x y))
 | .str x, .str y=>some (.str (cond p x y))
 |_,_=>none
def cm0 (p:Bool)(x y:VV)(S:co)(k:VV→co→Option β):Option β:=match cn8 p x y with
 |some v=>k v S
 |none=>cond p (k x S) (k y S)
def aU5 :IntKind→List VV→Option (List Int)
 |_,[]=>some []
 |k, .int k' n::r=>cond (decide (k'=k)) ((aU5 k r).bind fun l=>some (n::l)) none
 |_,_=>none
def aS0 :List VV→Option (List Bool)
 |[]=>some []
 | .bool b::r=>(aS0 r).bind fun l=>some (b::l)
 |_=>none
def bH0 :List VV→Option (List (List Int))
 |[]=>some []
 | .str b::r=>(bH0 r).bind fun l=>some (b::l)
 |_=>none
def bU9 (S:co)(k:VV→co→Option β):List VV→Nat→Option β
 |[],_=>none
 |v::r,i=>cond (aB i 0) (k v S) (bU9 S k r (i-1))
def bz3 (cs:List VV)(i:Nat)(S:co)(k:VV→co→Option β):Option β:=match cs with
 | .int kd n::r=>(match aU5 kd r with
  |some l=>k (.int kd ((n::l).getD i 0)) S
  |none=>none)
 | .bool b::r=>(match aS0 r with
  |some l=>k (.bool ((b::l).getD i false)) S
  |none=>none)
 | .str b::r=>(match bH0 r with
  |some l=>k (.str ((b::l).getD i [])) S
  |none=>none)
 |cs=>bU9 S k cs i
def aX5 (v:VV):List VV→Nat→Nat→Option (List VV)
 |[],_,_=>some []
 |c::r,i,j=>(cn8 (aB i j) v c).bind fun x=>(aX5 v r i (j+1)).bind fun l=>some (x::l)
def cx5 (cells:List VV)(o:Nat):List VV→List VV
 |[]=>cells
 |v::vs=>cx5 (cells.set o v) (o+1) vs
def aG1 (cells:List VV):List (Nat×Nat×VV)→Option (List VV)
 |[]=>some cells
 |(off,size,v)::rest=>
  cond (aB (kl v).length size&&aD (off+size) cells.length&&(kl v).all cw0) (aG1 (cells.take off++kl v++cells.drop (off+size)) rest) none
def wb (e:ed)(l:List (Nat×Nat×Operand)):List (Nat×Nat×VV):=l.map fun(o,s,x)=>(o,s,ev e x)
def lT (l:List VV):Bool:=l.all cw0
def bi7 (S:co)(n:Nat)(agg:Bool)(a:VV)(k:VV→co→Option β):Option β:=
 let out (cs:List VV) (o:Nat):Option β:=cond agg (gd (aD (o+n) cs.length) (k (.agg ((cs.drop o).take n)) S)) (match nth cs o with
  |some v=>k v S
  |none=>none)
 match a with
 | .ptr b o=>(match cl S b with
  | .cells _ _ l=>out l o
  |_=>none)
 | .pix b o m i=>(match cl S b with
  | .cells _ _ l=>gd (!agg&&aD (o+m) l.length) (bz3 ((l.drop o).take m) i S k)
  |_=>none)
 | .pel b i o=>(match cl S b with
  | .arr s _ l=>(l[i]?).bind fun x=>out (ei s x) o
  |_=>none)
 | .pin s x o=>out (ei s x) o
 |_=>none
def bP9 (S:co)(a:VV)(cs:List VV)(k:co→Option β):Option β:=match a with
 | .ptr b o=>(match cl S b with
  | .cells es false l=>gd (aD (o+cs.length) l.length) (k (ja S b (.cells es false (cx5 l o cs))))
  |_=>none)
 | .pix b o m i=>(match cl S b,cs with
  | .cells es false l,[v]=>gd (aD (o+m) l.length) (match aX5 v ((l.drop o).take m) i 0 with
   |some l'=>k (ja S b (.cells es false (l.take o++l'++l.drop (o+m))))
   |none=>none)
  |_,_=>none)
 | .pel b i o=>(match cl (fzL S cs) b with
  | .arr s false l=>(l[i]?).bind fun x=>(match iH (fzL S cs) s (cx5 (ei s x) o cs)with
   |some (y,[])=>gd (aD (o+cs.length) s.w) (k (ja (fzL S cs) b (.arr s false (l.set i y))))
   |_=>none)
  |_=>none)
 |_=>none
def sg (k:IntKind)(f:BitVec k.bits→BitVec k.bits→BitVec k.bits)(x y:Int):Int:=k.wrap (f (BitVec.ofInt k.bits x) (BitVec.ofInt k.bits y)).toNat
def bK2 (op:BinOp)(kd:IntKind)(x y:Int)(k:VV→Option β):Option β:=match op with
 | .add=>k (.int kd (kd.wrap (x+y)))
 | .sub=>k (.int kd (kd.wrap (x-y)))
 | .mul=>k (.int kd (kd.wrap (x*y)))
 | .quo=>gd (decide (y≠0)) (k (.int kd (kd.wrap (x.tdiv y))))
 | .rem=>gd (decide (y≠0)) (k (.int kd (x.tmod y)))
 | .and=>k (.int kd (sg kd (· &&& ·) x y))
 | .or=>k (.int kd (sg kd (· ||| ·) x y))
 | .xor=>k (.int kd (sg kd (· ^^^ ·) x y))
 | .andNot=>k (.int kd (sg kd (fun a b=>a&&& ~~~b) x y))
 | .eql=>k (.bool (decide (x=y)))
 | .neq=>k (.bool (decide (x≠y)))
 | .lss=>k (.bool (decide (x<y)))
 | .leq=>k (.bool (decide (x≤y)))
 | .gtr=>k (.bool (decide (y<x)))
 | .geq=>k (.bool (decide (y≤x)))
 |_=>none
def co1 (op:BinOp)(kd:IntKind)(x y:Int)(k:VV→Option β):Option β:=match op with
 | .shl=>gd (decide (0≤y)) (k (.int kd (kd.wrap (x*2 ^ (min y.toNat kd.bits)))))
 | .shr=>gd (decide (0≤y)) (k (.int kd (x.fdiv (2 ^ (min y.toNat kd.bits)))))
 |_=>none
def cL7 (a b:Nat):Bool:=aD (a+b) 9223372036854775807
def cL8 (op:BinOp)(x y:List Int)(k:VV→Option β):Option β:=match op with
 | .add=>gd (cL7 x.length y.length) (k (.str (x++y)))
 | .eql=>k (.bool (decide (x=y)))
 | .neq=>k (.bool (decide (x≠y)))
 |_=>none
def cC3 (op:BinOp)(x y:VV)(k:VV→Option β):Option β:=match x,y with
 | .int kx a, .int ky b=>cond (qU op) (co1 op kx a b k) (cond (decide (kx=ky)) (bK2 op kx a b k) none)
 | .str a, .str b=>cond (qU op) none (cL8 op a b k)
 |_,_=>none
def ck1 (neg p:Bool):Bool:=cond neg (!p) p
def Blk.live :Blk→Bool
 | .dead=>false
 |_=>true
def aU6 (S:co):VV→Bool
 | .ptr k _=>(cl S k).live
 | .pix k _ _ _=>(cl S k).live
 | .pel k _ _=>(cl S k).live
 | .pin _ _ _=>true
 |_=>false
def cC8 (S:co):Nat→VV→VV→Option Bool
 |0, .bool a, .bool b=>some (a==b)
 |1, .nilp, .nilp=>some true
 |1, .nilp,v=>cond (aU6 S v) (some false) none
 |1,v, .nilp=>cond (aU6 S v) (some false) none
 |2, .nils, .nils=>some true
 |3, .nilf, .nilf=>some true
 |3, .nilf, .fn _ _ _=>some false
 |3, .fn _ _ _, .nilf=>some false
 |_,_,_=>none
def bZ0 :Nat→VV→VV→Option Bool
 |0, .bool a, .bool b=>some (a==b)
 |1, .int k a, .int k' b=>cond (decide (k=k')) (some (decide (a=b))) none
 |2, .str a, .str b=>some (decide (a=b))
 |_,_,_=>none
def be4 :List Nat→List VV→List VV→Option Bool
 |[],[],[]=>some true
 |[k],[a],[b]=>bZ0 k a b
 |k::ks,a::r,b::s=>(bZ0 k a b).bind fun p=>(be4 ks r s).bind fun q=>some (p&&q)
 |_,_,_=>none
def unK (op:UnOp)(x:VV)(k:VV→Option β):Option β:=match op,x with
 | .neg, .int kd n=>k (.int kd (kd.wrap (0-n)))
 | .xor, .int kd n=>k (.int kd (kd.wrap (BitVec.ofInt kd.bits (if kd.signed then-1 else kd.max) ^^^ BitVec.ofInt kd.bits n).toNat))
 | .not, .bool b=>k (.bool !b)
 |_,_=>none
def bh0 :VV→Option Int
 | .int _ n=>some n
 |_=>none
def lenOf (S:co):VV→Option Nat
 | .nils=>some 0
 | .lst _ l=>some l.length
 | .full b=>(match cl S b with
  | .arr _ _ l=>some l.length
  | .cells es _ l=>some (l.length / es)
  | .dead=>none)
 | .part b _ n=>cond (cl S b).live (some n) none
 | .str l=>some l.length
 |_=>none
def bY4 {α:Type}(l:List α)(lo hi:Int):List α:=(l.take hi.toNat).drop lo.toNat
def af1 :Option VV→Option Int
 |none=>some 0
 |some v=>bh0 v
def ul (n:Nat):Option VV→Option Int
 |none=>some n
 |some v=>bh0 v
def gp (lo hi:Int)(n:Nat):Bool:=decide (0≤lo)&&decide (lo≤hi)&&decide (hi≤n)
def bP3 (S:co)(es:Nat)(x:VV)(lo hi:Option VV)(k:VV→co→Option β):Option β:=
 match lenOf S x with
 |none=>none
 |some n=>match af1 lo,ul n hi with
  |some a,some b=>(match x with
   | .nils=>gd (gp a b n) (k .nils S)
   | .lst s l=>gd (aB es s.w) (match lo,hi with
    |none,none=>k (.lst s l) S
    |_,_=>gd (gp a b n) (k (.lst s (bY4 l a b)) S))
   | .full q=>(match cl S q with
    | .arr s _ _=>gd (aB es s.w) (gd (gp a b n) (k (.part q a.toNat (b.toNat-a.toNat)) S))
    | .cells es' _ _=>gd (aB es es'&&aD 1 es) (gd (gp a b n) (k (.part q a.toNat (b.toNat-a.toNat)) S))
    | .dead=>none)
   | .part q o _=>(match cl S q with
    | .arr s _ _=>gd (aB es s.w) (gd (gp a b n) (k (.part q (o+a.toNat) (b.toNat-a.toNat)) S))
    | .cells es' _ _=>gd (aB es es'&&aD 1 es) (gd (gp a b n) (k (.part q (o+a.toNat) (b.toNat-a.toNat)) S))
    | .dead=>none)
   |_=>none)
  |_,_=>none
def aD3 (S:co)(es n:Nat)(x:VV)(lo hi:Option VV)(k:VV→co→Option β):Option β:=match x with
 | .ptr b o=>(match cl S b with
  | .cells es' false l=>(match af1 lo,ul n hi with
   |some a,some c=>gd (aB es es'&&aD 1 es&&aB (o % es) 0&&aD (o+n*es) l.length&&gp a c n&&decide (a<n)) (k (.part b (o / es+a.toNat) (c.toNat-a.toNat)) S)
   |_,_=>none)
  | .arr s false l=>(match af1 lo,ul n hi with
   |some a,some c=>gd (aB es s.w&&aB o 0&&aD n l.length&&gp a c n&&decide (a<n)) (k (.part b a.toNat (c.toNat-a.toNat)) S)
   |_,_=>none)
  |_=>none)
 |_=>none
def cD8 :Value→Bool
 | .int .u8 n=>decide (n=0)
 |_=>false
def bK8 (es:Nat)(z:List Value):Bool:=aB es 1&&aD 20 z.length&&z.all cD8
def ad6 (es:Nat)(z:List Value):Blk:=cond (bK8 es z) (.arr (.int .u8) false (aX z.length (0:Int))) (.cells es false (z.map aK4))
def cv0 (S:co)(n:Nat):VV→Option VV
 | .ptr b o=>cond (cl S b).live (some (.ptr b (o+n))) none
 | .pel b i o=>cond (cl S b).live (some (.pel b i (o+n))) none
 | .pin s x o=>some (.pin s x (o+n))
 | .pix b o m i=>cond (cl S b).live (cond (aB n 0) (some (.pix b o m i)) none) none
 |_=>none
def ct3 (S:co)(es:Nat)(x i:VV)(k:VV→co→Option β):Option β:=match i with
 | .int _ i=>(match x with
  | .lst s l=>gd (aB es s.w) ((rd l i).bind fun y=>k (.pin s y 0) S)
  | .full b=>(match cl S b with
   | .arr s _ l=>gd (aB es s.w) ((ix i l.length).bind fun j=>k (.pel b j 0) S)
   | .cells es' _ l=>gd (aB es es'&&aD 1 es) ((ix i (l.length / es)).bind fun j=>cond (aB es 1) (k (.pix b 0 l.length j) S) (k (.ptr b (j*es)) S))
   | .dead=>none)
  | .part b o n=>(match cl S b with
   | .arr s _ _=>gd (aB es s.w) ((ix i n).bind fun j=>k (.pel b (o+j) 0) S)
   | .cells es' _ _=>gd (aB es es'&&aD 1 es) ((ix i n).bind fun j=>cond (aB es 1) (k (.pix b o n j) S) (k (.ptr b ((o+j)*es)) S))
   | .dead=>none)
  |_=>none)
 |_=>none
def bT2 (S:co)(ln es:Nat)(x i:VV)(k:VV→co→Option β):Option β:=match x,i with
 | .ptr b o, .int _ i=>gd (cl S b).live ((ix i ln).bind fun j=>cond (aB es 1) (k (.pix b o ln j) S) (k (.ptr b (o+j*es)) S))
 |_,_=>none
def wH (l:List VV)(a n:Nat):List VV:=(l.drop a).take n
def fU (n bytes:Nat):Bool:=decide (n*bytes≤140737488355328)&&aD 1 bytes
inductive Base where
 |none
 |cells (es:Nat) (l:List VV)
 |arr (s:Sh) (l:List (El s))
def vV (S:co)(es:Nat):VV→Option (Base×Option Nat)
 | .nils=>some (.none,none)
 | .full b=>(match cl S b with
  | .arr s false l=>cond (aB es s.w) (some (.arr s l,some b)) aW
  | .cells es' false l=>cond (aB es es'&&aD 1 es) (some (.cells es l,some b)) aW
  |_=>aW)
 | .part b 0 n=>(match cl S b with
  | .arr s false l=>cond (aB es s.w) (some (.arr s (l.take n),some b)) aW
  | .cells es' false l=>cond (aB es es'&&aD 1 es) (some (.cells es (l.take (n*es)),some b)) aW
  |_=>aW)
 |_=>aW
inductive More where
 |cells (l:List VV)
 |lst (s:Sh) (l:List (El s))
def aC5 (S:co)(es:Nat):VV→Option More
 | .nils=>some (.cells [])
 | .lst s l=>cond (aB es s.w) (some (.lst s l)) none
 | .str l=>cond (aB es 1) (some (.lst (.int .u8) l)) none
 | .full b=>(match cl S b with
  | .arr s _ l=>cond (aB es s.w) (some (.lst s l)) none
  | .cells es' _ l=>cond (aB es es'&&aD 1 es) (some (.cells l)) none
  |_=>none)
 | .part b o n=>(match cl S b with
  | .arr s _ l=>cond (aB es s.w) (some (.lst s ((l.drop o).take n))) none
  | .cells es' _ l=>cond (aB es es'&&aD 1 es) (some (.cells ((l.drop (o*es)).take (n*es)))) none
  |_=>none)
 |_=>none
def nI (S:co):Option Nat→co
 |none=>S
 |some b=>ja S b .dead
def bW3 (S:co)(s:Sh)(l:List VV):Option (List (El s)):=aF5 (iH S s) l.length l
def bB7 (S:co)(bytes:Nat)(s:Sh)(kill:Option Nat)(a b:List (El s))(k:VV→co→Option β):Option β:=
 gd (fU (a.length+b.length) bytes) (k (.full S.length) (nI S kill++[.arr s false (a++b)]))
def aL3 (S:co)(es bytes:Nat)(bo:Option (Base×Option Nat))(mo:Option More)(k:VV→co→Option β):Option β:=
 match bo,mo with
 |some (.arr s l,kill),some (.lst s' l')=>(lU (.list s') (.list s) l').bind fun l2=>bB7 S bytes s kill l l2 k
 |some (.arr s l,kill),some (.cells cs)=>(match cl (fzL S cs) (kill.getD 0)with
  | .arr _ false _=>(bW3 (fzL S cs) s cs).bind fun l2=>bB7 (fzL S cs) bytes s kill l l2 k
  |_=>none)
 |some (.cells _ l,kill),some (.lst s l')=>(match cl (fzL S l) (kill.getD 0)with
  | .cells _ false _=>(bW3 (fzL S l) s l).bind fun l1=>bB7 (fzL S l) bytes s kill l1 l' k
  |_=>none)
 |some (.none,kill),some (.lst s l')=>bB7 S bytes s kill [] l' k
 |some (.cells es l,kill),some (.cells cs)=>gd (fU ((l.length+cs.length) / es) bytes&&lT cs) (k (.full S.length) (nI S kill++[.cells es false (l++cs)]))
 |some (.none,kill),some (.cells cs)=>gd (fU (cs.length / es) bytes&&aD 1 es&&lT cs) (k (.full S.length) (nI S kill++[.cells es false cs]))
 |_,_=>none
def bq5 (S:co)(es bytes:Nat)(x y:VV)(k:VV→co→Option β):Option β:=aL3 S es bytes (vV S es x) (aC5 S es y) k
def aY5 (S:co):VV→Option (co×Base)
 | .lst s l=>some (S, .arr s l)
 | .full q=>(match cl S q with
  | .arr s _ l=>some (ja S q (cl S q).freeze, .arr s l)
  |_=>none)
 |_=>none
def bv4 (S:co)(x hi mx:VV)(k:VV→co→Option β):Option β:=match hi,mx with
 | .int _ h, .int _ m=>gd (decide (h=m)) (match x with
  | .nils=>gd (decide (h=0)) (k .nils S)
  |v=>(match aY5 S v with
   |some (S1, .arr s l)=>gd (gp 0 h l.length) (k (.tgt s (l.take h.toNat)) S1)
   |_=>none))
 |_,_=>none
def bQ3 (S:co)(es bytes:Nat)(s:Sh)(l:List (El s))(mo:Option More)(k:VV→co→Option β):Option β:=match mo with
 |some (.lst s' l')=>(lU (.list s') (.list s) l').bind fun l2=>gd (aB es s.w&&aD 1 l2.length) (bB7 S bytes s none l l2 k)
 |some (.cells cs)=>(bW3 (fzL S cs) s cs).bind fun l2=>gd (aB es s.w&&aD 1 l2.length) (bB7 (fzL S cs) bytes s none l l2 k)
 |none=>none
def aR0 (S:co)(es bytes:Nat)(x y:VV)(k:VV→co→Option β):Option β:=match x with
 | .tgt s l=>bQ3 S es bytes s l (aC5 S es y) k
 |x=>bq5 S es bytes x y k
def au8 {α:Type}(l:List α)(o n:Nat)(m:List α):List α:=l.take o++(m.take n++l.drop (o+min n m.length))
def ax0 (kd:IntKind)(m:List Int):Nat→List VV→Option (List VV)
 |_,[]=>some []
 |j, .int k n::r=>cond (decide (k=kd)) ((ax0 kd m (j+1) r).bind fun l=>some (.int k (m.getD j n)::l)) none
 |_,_=>none
def cg8 (S:co)(es:Nat)(d y:VV)(k:VV→co→Option β):Option β:=
 let go (b o n:Nat):Option β:=match cl S b,aC5 S es y with
  | .arr s false l,some (.lst s' l')=>(lU (.list s') (.list s) l').bind fun l2=>gd (aB es s.w) (k (.int .i64 (min l2.length n:Nat)) (ja S b (.arr s false (au8 l o n l2))))
  | .arr s false l,some (.cells cs)=>(aU5 .u64 cs).bind fun m=>(lU (.list (.int .u64)) (.list s) m).bind fun l2=>gd (aB es s.w) (k (.int .i64 (min l2.length n:Nat)) (ja S b (.arr s false (au8 l o n l2))))
  | .cells 1 false l,some (.lst (.int kd) m)=>gd (aB es 1&&aD (o+n) l.length) (match ax0 kd m 0 ((l.drop o).take n)with
   |some c=>k (.int .i64 (min m.length n:Nat)) (ja S b (.cells 1 false (l.take o++c++l.drop (o+n))))
   |none=>none)
  |_,_=>none
 match d with
 | .full b=>(match lenOf S d with
  |some n=>go b 0 n
  |none=>none)
 | .part b o n=>go b o n
 |_=>none
def aG8 :List Value→Option Sh
 |[.int k 0]=>some (.int k)
 |[.bool false]=>some .bool
 | .int k 0::r=>(aG8 r).bind fun s=>some (.pair (.int k) s)
 | .bool false::r=>(aG8 r).bind fun s=>some (.pair .bool s)
 |_=>none
def pZ :(s:Sh)→El s
 | .int _=>(0:Int)
 | .bool=>false
 | .str=>[]
 | .list _=>[]
 | .pair a b=>(pZ a,pZ b)
def cj7 (S:co)(es bytes:Nat)(z:List Value)(l c:VV)(k:VV→co→Option β):Option β:=match l,c,aG8 z with
 | .int _ l, .int _ c,some s=>gd (aB es s.w&&decide (0≤l)&&decide (l≤c)&&decide (bytes*c≤140737488355328)&&aD 1 bytes) (k (.full S.length) (S++[.arr s false (aX l.toNat (pZ s))]))
 |_,_,_=>none
def bI6 (es:Nat)(z:List Value)(l:Int):Option More:=match aG8 z with
 |some s=>cond (aB es s.w) (some (.lst s (aX l.toNat (pZ s)))) none
 |none=>none
def jB (bytes:Nat)(l:Int):Bool:=decide (0≤l)&&(decide (l≤9223372036854775807)&&decide (l*(bytes:Int)≤281474976710656))
def aR1 (S:co)(es bytes:Nat)(z:List Value)(x l:VV)(k:VV→co→Option β):Option β:=match l with
 | .int _ l=>gd (jB bytes l) (aL3 S es bytes (vV S es x) (bI6 es z l) k)
 |_=>none
end
end
section
open List renaming replicate → aW
open Nat renaming beq → aB, ble → aD
inductive Sk where
 |undef
 |leaf (s:Sh)
 |cint (k:IntKind) (n:Int)
 |nilp
 |nils
 |nilf
 |ptr (j o:Nat)
 |full (j:Nat)
 |pin (s:Sh) (o:Nat)
 |fn (f:Nat) (a c:List Sk)
 |agg (l:List Sk)
 |tup (l:List Sk)
inductive OSk where
 |dead
 |cells (es:Nat) (ro:Bool) (l:List Sk)
 |arr (ro:Bool) (s:Sh)
structure Leaf where
 s:Sh
 v:El s
structure Src where
 k:Nat
 cut:Option Nat
structure DSt where
 m:List (Option Src)
 ls:List Leaf
 lent:List Nat
def DSt.push (st:DSt)(s:Sh)(v:El s):DSt:={st with ls:=st.ls++[⟨s,v⟩]}
def DSt.lend (st:DSt):VV→DSt
 | .full k=>{st with lent:=k::st.lent}
 | .part k _ _=>{st with lent:=k::st.lent}
 |_=>st
def DSt.link (N:Nat)(st:DSt)(j:Nat)(x:Option Src):Option DSt:=
 cond (Nat.blt j N) (match x with
  |some ⟨k,none⟩=>cond (aB k j) (some st) none
  |_=>none)
 (match nth st.m (j-N)with
 |some (some ⟨k,none⟩)=>(match x with
  |some ⟨k',none⟩=>cond (aB k k') (some st) none
  |_=>none)
 |some _=>none
 |none=>cond (aB (j-N) st.m.length) (some {st with m:=st.m++[x]}) none)
mutual
def dec (S:co)(N:Nat):Sk→VV→DSt→Option DSt
 | .undef,_,st=>some st
 | .leaf s,v,st=>(match s,v with
  | .int k, .int k' n=>cond (decide (k'=k)) (some (st.push (.int k) n)) none
  | .bool, .bool b=>some (st.push .bool b)
  | .str, .str l=>some (st.push .str l)
  | .list s,v=>(bT9 S s v).bind fun l=>some ((st.lend v).push (.list s) l)
  |_,_=>none)
 | .cint k n, .int k' n',st=>cond (decide (k'=k)&&decide (n'=n)) (some st) none
 | .nilp, .nilp,st=>some st
 | .nils, .nils,st=>some st
 | .nilf, .nilf,st=>some st
 | .ptr j o, .ptr k o',st=>cond (aB o o') (st.link N j (some ⟨k,none⟩)) none
 | .full j,v,st=>(match v with
  | .full k=>st.link N j (some ⟨k,none⟩)
  | .part k 0 n=>st.link N j (some ⟨k,some n⟩)
  | .nils=>st.link N j none
  |_=>none)
 | .pin s o, .pin s' x o',st=>cond (aB o o') ((lU s' s x).bind fun y=>some (st.push s y)) none
 | .fn f a c, .fn f' a' c',st=>cond (aB f f') ((ap8 S N a a' st).bind fun st1=>ap8 S N c c' st1) none
 | .agg l, .agg l',st=>ap8 S N l l' st
 | .tup l, .tup l',st=>ap8 S N l l' st
 |_,_,_=>none
def ap8 (S:co)(N:Nat):List Sk→List VV→DSt→Option DSt
 |[],[],st=>some st
 |k::r,v::r',st=>(dec S N k v st).bind fun st1=>ap8 S N r r' st1
 |_,_,_=>none
end
def aS9 {α:Type}:Option Nat→List α→List α
 |none,l=>l
 |some n,l=>l.take n
def bL5 (S:co)(N:Nat):OSk→Option Src→DSt→Option DSt
 | .dead,_,st=>some st
 | .cells es ro l,some ⟨k,none⟩,st=>(match cl S k with
  | .cells es' fz cs=>cond (aB es es'&&(ro|| !fz)) (ap8 S N l cs (cond ro {st with lent:=k::st.lent} st)) none
  |_=>none)
 | .arr ro s,none,st=>cond ro none (some (st.push (.list s) []))
 | .arr ro s,some ⟨k,cut⟩,st=>cond (ro|| !(cl S k).frozen) ((bT9 S s (.full k)).bind fun l=>some ((cond ro {st with lent:=k::st.lent} st).push (.list s) (aS9 cut l))) none
 |_,_,_=>none
def aB3 (S:co)(N:Nat):List OSk→List Nat→DSt→Option DSt
 |[],[],st=>some st
 |o::r,j::js,st=>(bL5 S N o (some ⟨j,none⟩) st).bind fun st1=>aB3 S N r js st1
 |_,_,_=>none
def pP (S:co)(N:Nat):List OSk→Nat→DSt→Option DSt
 |[],i,st=>cond (aB i st.m.length) (some st) none
 |o::r,i,st=>(match nth st.m i with
  |some x=>(bL5 S N o x st).bind fun st1=>pP S N r (i+1) st1
  |none=>none)
def OSk.ro :OSk→Bool
 | .cells _ ro _=>ro
 | .arr ro _=>ro
 | .dead=>false
def jN (k:Nat):List Nat→Bool
 |[]=>false
 |a::r=>cond (aB a k) true (jN k r)
def an0 :List Nat→Bool
 |[]=>true
 |a::r=>cond (jN a r) false (an0 r)
def lC :List (Option Src)→List Nat
 |[]=>[]
 |none::r=>lC r
 |some x::r=>x.k::lC r
def iE :List OSk→List (Option Src)→List Nat
 |o::r,some x::s=>cond o.ro (iE r s) (x.k::iE r s)
 |_::r,none::s=>iE r s
 |_,_=>[]
def yo (w:List Nat)(l:List Nat):Bool:=w.all fun k=> !jN k l
structure tZ where
 vals:List Sk
 fix:List OSk
 free:List OSk
def lB (S:co)(N:Nat)(fx:List Nat)(sk:tZ)(vals:List VV):Option DSt:=
 (ap8 S N sk.vals vals ⟨[],[],[]⟩).bind fun st=>(aB3 S N sk.fix fx st).bind fun st1=>(pP S N sk.free 0 st1).bind fun st2=>
  cond (an0 (fx++lC st2.m)&&yo (fx++iE sk.free st2.m) st2.lent) (some st2) none
mutual
def enc (f:Nat→Nat):Sk→List Leaf→Option (VV×List Leaf)
 | .undef,ls=>some (.undef,ls)
 | .leaf s,x::ls=>(lU x.s s x.v).bind fun(y:El s)=>some ((match s,y with
  | .int k,n=> .int k n
  | .bool,b=> .bool b
  | .str,l=> .str l
  | .list s,l=> .lst s l
  | .pair _ _,_=> .undef),ls)
 | .cint k n,ls=>some (.int k n,ls)
 | .nilp,ls=>some (.nilp,ls)
 | .nils,ls=>some (.nils,ls)
 | .nilf,ls=>some (.nilf,ls)
 | .ptr j o,ls=>some (.ptr (f j) o,ls)
 | .full j,ls=>some (.full (f j),ls)
 | .pin s o,x::ls=>(lU x.s s x.v).bind fun(y:El s)=>some (.pin s y o,ls)
 | .fn g a c,ls=>(be2 f a ls).bind fun p=>(be2 f c p.2).bind fun q=>some (.fn g p.1 q.1,q.2)
 | .agg l,ls=>(be2 f l ls).bind fun p=>some (.agg p.1,p.2)
 | .tup l,ls=>(be2 f l ls).bind fun p=>some (.tup p.1,p.2)
 |_,_=>none
def be2 (f:Nat→Nat):List Sk→List Leaf→Option (List VV×List Leaf)
 |[],ls=>some ([],ls)
 |k::r,ls=>(enc f k ls).bind fun p=>(be2 f r p.2).bind fun q=>some (p.1::q.1,q.2)
end
def be3 (f:Nat→Nat):OSk→List Leaf→Option (Blk×List Leaf)
 | .dead,ls=>some (.dead,ls)
 | .cells es ro l,ls=>(be2 f l ls).bind fun p=>some (.cells es ro p.1,p.2)
 | .arr ro s,x::ls=>(lU x.s (.list s) x.v).bind fun l=>some (.arr s ro l,ls)
 | .arr _ _,[]=>none
def yS (f:Nat→Nat):List OSk→List Leaf→Option (List Blk×List Leaf)
 |[],ls=>some ([],ls)
 |o::r,ls=>(be3 f o ls).bind fun p=>(yS f r p.2).bind fun q=>some (p.1::q.1,q.2)
def mG (f:Nat→Nat)(sk:tZ)(ls:List Leaf):Option (List VV×List Blk×List Blk):=
 (be2 f sk.vals ls).bind fun p=>(yS f sk.fix p.2).bind fun q=>(yS f sk.free q.2).bind fun r=>match r.2 with
  |[]=>some (p.1,q.1,r.1)
  |_::_=>none
mutual
def Sk.shs :Sk→List Sh
 | .leaf s=>[s]
 | .pin s _=>[s]
 | .fn _ a c=>bP2 a++bP2 c
 | .agg l=>bP2 l
 | .tup l=>bP2 l
 |_=>[]
def bP2 :List Sk→List Sh
 |[]=>[]
 |k::r=>k.shs++bP2 r
end
def OSk.shs :OSk→List Sh
 | .dead=>[]
 | .cells _ _ l=>bP2 l
 | .arr _ s=>[.list s]
def cF7 :List OSk→List Sh
 |[]=>[]
 |o::r=>o.shs++cF7 r
def tZ.shs (sk:tZ):List Sh:=bP2 sk.vals++(cF7 sk.fix++cF7 sk.free)
@[reducible] def Tup :List Sh→Type
 |[]=>Unit
 |[s]=>El s
 |s::s'::r=>El s×Tup (s'::r)
def toL :(ss:List Sh)→Tup ss→List Leaf
 |[],_=>[]
 |[s],x=>[⟨s,x⟩]
 |s::s'::r,x=>⟨s,x.1⟩::toL (s'::r) x.2
def ofL :(ss:List Sh)→List Leaf→Option (Tup ss)
 |[],[]=>some ()
 |[s],[x]=>lU x.s s x.v
 |s::s'::r,x::ls=>(lU x.s s x.v).bind fun a=>(ofL (s'::r) ls).bind fun b=>some (a,b)
 |_,_=>none
inductive XK where
 |normal
 |exit (id:Nat)
 |ret
structure Alt where
 x:XK
 ts:List Nat
 sk:tZ
@[reducible] def Alt.Ty (a:Alt):Type:=Tup a.sk.shs
@[reducible] def rG :List Alt→Type
 |[]=>Empty
 |[a]=>a.Ty
 |a::b::r=>a.Ty⊕rG (b::r)
def dJ {α γ β:Type}(s:α⊕γ)(f:α→Option β)(g:γ→Option β):Option β:=match s with
 | .inl a=>f a
 | .inr b=>g b
def ce8 {β:Type}:(l:List Alt)→rG l→((a:Alt)→a.Ty→Option β)→Option β
 |[],_,_=>none
 |[a],t,k=>k a t
 |a::b::r,s,k=>dJ s (fun t=>k a t) fun s'=>ce8 (b::r) s' k
def tZ.noRo (sk:tZ):Bool:=sk.fix.all (fun o=> !o.ro)&&sk.free.all fun o=> !o.ro
def ap9 (S:co)(N:Nat)(fx:List Nat)(sk:tZ)(vals:List VV):Option (Tup sk.shs):=
 gd sk.noRo ((lB S N fx sk vals).bind fun st=>ofL sk.shs st.ls)
def sj (S:co)(N:Nat)(fx:List Nat)(vals:List Nat→List VV)(hit:XK→Bool):(l:List Alt)→Option (rG l)
 |[]=>none
 |[a]=>cond (hit a.x) (ap9 S N fx a.sk (vals a.ts)) none
 |a::b::r=>match cond (hit a.x) (ap9 S N fx a.sk (vals a.ts)) none with
  |some t=>some (.inl t)
  |none=>(sj S N fx vals hit (b::r)).bind fun s=>some (.inr s)
def Sh.al :Sh→Bool
 | .list _=>true
 | .pair a b=>a.al||b.al
 |_=>false
mutual
def alV :VV→Bool
 | .lst _ _=>true
 | .tgt _ _=>true
 | .pin _ _ _=>true
 | .fn _ a c=>alL a||alL c
 | .agg l=>alL l
 | .tup l=>alL l
 |_=>false
def alL :List VV→Bool
 |[]=>false
 |v::r=>alV v||alL r
end
def alB :Blk→Bool
 | .dead=>false
 | .cells _ _ l=>alL l
 | .arr s _ _=>s.al
def yR (vs:List VV)(fs bs:List Blk):Bool:=alL vs||fs.any alB||bs.any alB
def Blk.may :Blk→Bool
 | .dead=>true
 | .cells _ z _=> !z
 | .arr _ z _=> !z
def aK5 (S:co)(fx:List Nat):Bool:=fx.all fun j=>Nat.blt j S.length&&(cl S j).may
structure FSum where
 f:Nat
 vals:List Sk
 objs:List OSk
 outs:List Alt
 run:Tup (tZ.shs ⟨vals,[],objs⟩)→Option (rG outs)
def FSum.ins (F:FSum):tZ:=⟨F.vals,[],F.objs⟩
def pT :List OSk→Nat→List Nat
 |[],_=>[]
 |o::r,i=>cond o.ro (pT r (i+1)) (i::pT r (i+1))
def se (m:List (Option Src))(n size j:Nat):Nat:=cond (Nat.blt j n) (match nth m j with
 |some (some x)=>x.k
 |_=>size) (size+(j-n))
def rO :List Nat→List Blk→co→Option co
 |[],[],S=>some S
 |j::js,b::bs,S=>rO js bs (ja S j b)
 |_,_,_=>none
def ch7 :Sk→VV→co→co
 | .leaf (.list (.list _)),v,S=>cD1 S v
 |_,_,S=>S
def ae6 :List Sk→List VV→co→co
 |k::r,v::vs,S=>ae6 r vs (ch7 k v S)
 |_,_,S=>S
def yU :List Nat→co→co
 |[],S=>S
 |k::r,S=>yU r (ja S k (cl S k).freeze)
def cz8 {β:Type}(F:FSum)(t:Tup F.ins.shs)(st:DSt)(S:co)(k:VV→co→Option β):Option β:=
 (F.run t).bind fun o=>ce8 F.outs o fun a u=>match mG (se st.m F.objs.length S.length) a.sk (toL a.sk.shs u)with
  |some ([v],fs,bs)=>(match rO (iE F.objs st.m) fs (cond (yR [v] fs bs) (yU st.lent S) S)with
   |some S'=>k v (S'++bs)
   |none=>none)
  |_=>none
def bh8 :List (Option Src)→Bool
 |[]=>true
 |some ⟨_,none⟩::r=>bh8 r
 |_=>false
def aS7 {β:Type}:List FSum→Nat→List VV→co→(VV→co→Option β)→Option β
 |[],_,_,_,_=>none
 |F::r,f,args,S,k=>cond (aB F.f f) (match lB (ae6 F.vals args S) 0 [] F.ins args with
  |some st=>(match ofL F.ins.shs st.ls with
   |some t=>gd (bh8 st.m&&aK5 (ae6 F.vals args S) (iE F.objs st.m)) (cz8 F t st (ae6 F.vals args S) k)
   |none=>aS7 r f args S k)
  |none=>aS7 r f args S k) (aS7 r f args S k)
structure Inl where
 f:Nat
 run:(β:Type)→List VV→co→(VV→co→Option β)→Option β
structure Tab where
 fs:List FSum
 is:List Inl
def cs7 :List Inl→Nat→Bool
 |[],_=>false
 |I::r,f=>cond (aB I.f f) true (cs7 r f)
def bR6 {β:Type}:List Inl→Nat→List VV→co→(VV→co→Option β)→Option β
 |[],_,_,_,_=>none
 |I::r,f,args,S,k=>cond (aB I.f f) (I.run β args S k) (bR6 r f args S k)
def bR7 {β:Type}(tab:Tab)(f:Nat)(args:List VV)(S:co)(k:VV→co→Option β):Option β:=
 cond (cs7 tab.is f) (bR6 tab.is f args S k) (aS7 tab.fs f args S k)
def aR7 :Nat→List Nat
 |0=>[]
 |n+1=>n::aR7 n
def cb7 {β:Type}(S:co)(x:Option VV)(k:VV→co→Option β):Option β:=match x with
 |some v=>k v S
 |none=>none
def aT5 {β:Type}(tab:Tab)(op:AOp)(e:ed)(S:co)(k:VV→co→Option β):Option β:=match op with
 | .move x=>k (ev e x) S
 | .pick c a b=>(match ev e c with
  | .bool p=>cm0 p (ev e a) (ev e b) S k
  |_=>none)
 | .alloc es z=>gd (aD 1 es) (k (.ptr S.length 0) (S++[ad6 es z]))
 | .box es x=>gd (aD 1 es&&lT (kl (ev e x))) (k (.ptr S.length 0) (S++[.cells es false (kl (ev e x))]))
 | .build z ps=>(match aG1 (z.map aK4) (wb e ps)with
  |some cs=>k (.agg cs) S
  |none=>none)
 | .buildSlice es ln z ps=>(match aG1 ((aW ln (z.map aK4)).flatten) (wb e ps)with
  |some cs=>gd (lT cs&&aB (ln*es) cs.length&&aD 1 es) (k (.full S.length) (S++[.cells es false cs]))
  |none=>none)
 | .load x=>bi7 S 1 false (ev e x) k
 | .loadN n x=>bi7 S n true (ev e x) k
 | .store n a x=>gd (aB (kl (ev e x)).length n&&lT (kl (ev e x))) (bP9 S (ev e a) (kl (ev e x)) fun S'=>k .undef S')
 | .nilCheck x=>(match ev e x with
  | .fn f a c=>k (.fn f a c) S
  |v=>gd (aU6 S v) (k v S))
 | .bin op x y=>cC3 op (ev e x) (ev e y) fun v=>k v S
 | .eqv kd neg x y=>(match cC8 S kd (ev e x) (ev e y)with
  |some b=>k (.bool (ck1 neg b)) S
  |none=>none)
 | .eqCells neg ks x y=>(match ev e x,ev e y with
  | .agg a, .agg b=>(match be4 ks a b with
   |some p=>k (.bool (ck1 neg p)) S
   |none=>none)
  |_,_=>none)
 | .un op x=>unK op (ev e x) fun v=>k v S
 | .conv kd x=>(match bh0 (ev e x)with
  |some n=>k (.int kd (kd.wrap n)) S
  |none=>none)
 | .mkFunc f a c=>k (.fn f (a.map (ev e)) (c.map (ev e))) S
 | .makeSlice es bytes z l c=>cj7 S es bytes z (ev e l) (ev e c) k
 | .slice es x lo hi=>bP3 S es (ev e x) (lo.map (ev e)) (hi.map (ev e)) k
 | .sliceArr es n x lo hi=>aD3 S es n (ev e x) (lo.map (ev e)) (hi.map (ev e)) k
 | .off n x=>cb7 S (cv0 S n (ev e x)) k
 | .idx es x i=>ct3 S es (ev e x) (ev e i) k
 | .idxA ln es x i=>bT2 S ln es (ev e x) (ev e i) k
 | .fieldV o n agg x=>(match ev e x with
  | .agg cs=>cond agg (k (.agg (wH cs o n)) S) (cb7 S (nth cs o) k)
  |_=>none)
 | .indexV ln es agg x i=>(match ev e x,ev e i with
  | .agg cs, .int _ i=>(ix i ln).bind fun j=>cond agg (k (.agg (wH cs (j*es) es)) S) (gd (aB es 1&&aB cs.length ln) (bz3 cs j S k))
  |_,_=>none)
 | .indexS x i=>(match ev e x,ev e i with
  | .str l, .int _ i=>(rd l i).bind fun b=>k (.int .u8 b) S
  |_,_=>none)
 | .extract x i=>(match ev e x with
  | .tup vs=>cb7 S (nth vs i) k
  |_=>none)
 | .call f xs=>bR7 tab f (xs.map (ev e)) S k
 | .callv x xs=>(match ev e x with
  | .fn f a c=>bR7 tab f (a++xs.map (ev e)++c) S k
  |_=>none)
 | .append es bytes s x=>aR0 S es bytes (ev e s) (ev e x) k
 | .stuck=>none
 | .capN x=>(match ev e x with
  | .nils=>k (.int .i64 0) S
  |_=>none)
 | .sliceX x hi mx=>bv4 S (ev e x) (ev e hi) (ev e mx) k
 | .appendZ es bytes z s x=>aR1 S es bytes z (ev e s) (ev e x) k
 | .copy es d s=>cg8 S es (ev e d) (ev e s) k
 | .len x=>(match ev e x with
  | .str _=>none
  |v=>(match lenOf S v with
   |some n=>k (.int .i64 n) S
   |none=>none))
 | .lenC n=>k (.int .i64 n) S
 | .most x y=>(match ev e x,ev e y with
  | .int kd a, .int _ b=>k (.int kd (max a b)) S
  |_,_=>none)
 | .least x y=>(match ev e x,ev e y with
  | .int kd a, .int _ b=>k (.int kd (min a b)) S
  |_,_=>none)
section
variable (tab:Tab)
def ae2 {β:Type}:List AOper→ed→co→(ed→co→Option β)→Option β
 |[],e,S,k=>k e S
 |o::r,e,S,k=>match o.guard with
  |none=>aT5 tab o.op e S fun v S'=>ae2 r (putO e o.dst v) S' k
  |some (t,w)=>match jI e t with
   | .bool p=>cond p
    (cond w (aT5 tab o.op (na e t (.bool true)) S fun v S'=>ae2 r (putO (na e t (.bool true)) o.dst v) S' k) (ae2 r (putO (na e t (.bool true)) o.dst (.tup [])) S k))
    (cond w (ae2 r (putO (na e t (.bool false)) o.dst (.tup [])) S k) (aT5 tab o.op (na e t (.bool false)) S fun v S'=>ae2 r (putO (na e t (.bool false)) o.dst v) S' k))
   | .tup []=>ae2 r (putO e o.dst (.tup [])) S k
   |_=>none
def ua :VV→Option Nat
 | .ptr b _=>some b
 | .it b _=>some b
 | .bld b=>some b
 | .pix b _ _ _=>some b
 | .pel b _ _=>some b
 | .full b=>some b
 | .part b _ _=>some b
 |_=>none
def cf2 (S:co)(v:VV):Option (Option Nat):=match v with
 | .pin _ _ _| .lst _ _| .nils=>some none
 |v=>(match ua v with
  |some b=>cond (cl S b).live (some (some b)) none
  |none=>none)
def cp9 (S:co)(op:AOp)(e:ed):Option (Option Nat):=match op with
 | .load x| .loadN _ x| .sliceArr _ _ x _ _| .slice _ x _ _=>cf2 S (ev e x)
 |_=>none
def cl7 :Option Nat→List Nat
 |some b=>[b]
 |none=>[]
def qA :List FSum→Nat→List VV→co→List Nat
 |[],_,_,_=>[]
 |F::r,f,args,S=>cond (aB F.f f) (match lB (ae6 F.vals args S) 0 [] F.ins args with
  |some st=>(match ofL F.ins.shs st.ls with
   |some _=>iE F.objs st.m
   |none=>qA r f args S)
  |none=>qA r f args S) (qA r f args S)
def br8 (f:Nat)(args:List VV)(S:co):List Nat:=cond (cs7 tab.is f) (aR7 S.length) (qA tab.fs f args S)
def av4 (op:AOp)(e:ed)(S:co):List Nat:=match op with
 | .store _ a _=>cl7 (ua (ev e a))
 | .append _ _ s _=>cl7 (ua (ev e s))
 | .appendZ _ _ _ s _=>cl7 (ua (ev e s))
 | .copy _ d _=>cl7 (ua (ev e d))
 | .call f xs=>br8 tab f (xs.map (ev e)) S
 | .callv x xs=>(match ev e x with
  | .fn f a c=>br8 tab f (a++xs.map (ev e)++c) S
  |_=>[])
 |_=>[]
abbrev Chk :=List (Nat×Option (Option Nat))
def aL1 (d:List Nat):Chk→Chk
 |[]=>[]
 |(i,some (some b))::r=>(i,cond (jN b d) none (some (some b)))::aL1 d r
 |x::r=>x::aL1 d r
def jz (is:List Nat):Chk→Bool
 |[]=>true
 |(i,b)::r=>cond (jN i is) (match b with
  |some _=>jz is r
  |none=>false) (jz is r)
def aB5 {β:Type}(it:SItem)(chk:Chk)(e:ed)(S:co)(k:Chk→ed→co→Option β):Option β:=
 cond it.mover (gd (jz it.chks (aL1 (av4 tab it.o.op e S) chk)) (aT5 tab it.o.op e S fun v S'=>k (aL1 (av4 tab it.o.op e S) chk) (putO e it.o.dst v) S'))
  (gd (it.o.op.still&&(!it.keep||it.o.op.isLoad)) (aT5 tab it.o.op e S fun v S'=>k (cond it.keep ((it.idx,cp9 S it.o.op e)::chk) chk) (putO e it.o.dst v) S'))
def pR {β:Type}:List SItem→Chk→ed→co→(ed→co→Option β)→Option β
 |[],_,e,S,k=>k e S
 |it::r,chk,e,S,k=>match it.o.guard with
  |none=>aB5 tab it chk e S fun chk' e' S'=>pR r chk' e' S' k
  |some (t,w)=>match jI e t with
   | .bool p=>cond p
    (cond w (aB5 tab it chk (na e t (.bool true)) S fun chk' e' S'=>pR r chk' e' S' k) (pR r chk (putO (na e t (.bool true)) it.o.dst (.tup [])) S k))
    (cond w (pR r chk (putO (na e t (.bool false)) it.o.dst (.tup [])) S k) (aB5 tab it chk (na e t (.bool false)) S fun chk' e' S'=>pR r chk' e' S' k))
   | .tup []=>pR r chk (putO e it.o.dst (.tup [])) S k
   |_=>none
end
structure LItem where
 i:Nat
 kind:Nat
 chks:List Nat
 need:List Nat
def dU (ops:List (AOper×List Nat))(i:Nat):AOper:=match ops[i]? with
 |some (o,_)=>o
 |none=>⟨none, .lenC 0,none⟩
def bV6 :VV→Bool
 | .int _ _| .bool _| .str _=>true
 |_=>false
def bV5 :Value→Bool
 | .int _ _| .bool _| .string _=>true
 |_=>false
def yp {β:Type}(op:AOp)(e:ed)(k:Blk→Bool→Option β):Option β:=match op with
 | .alloc es z=>gd (aD 1 es) (k (ad6 es z) false)
 | .makeSlice es bytes z l c=>(match ev e l,ev e c,aG8 z with
  | .int _ l, .int _ c,some s=>gd (aB es s.w&&decide (0≤l)&&decide (l≤c)&&decide (bytes*c≤140737488355328)&&aD 1 bytes) (k (.arr s false (aW l.toNat (pZ s))) true)
  |_,_,_=>none)
 | .buildSlice es ln z ps=>(match aG1 ((aW ln (z.map aK4)).flatten) (wb e ps)with
  |some cs=>gd (lT cs&&aB (ln*es) cs.length&&aD 1 es&&cs.all bV6&&z.all bV5) (k (.cells es false cs) true)
  |none=>none)
 |_=>none
def vvF (w:Bool)(k:Nat):VV:=cond w (.full k) (.ptr k 0)
section
variable (tab:Tab)
def evL {β:Type}(ops:List (AOper×List Nat)):List LItem→Chk→ed→co→(ed→co→Option β)→Option β
 |[],_,e,S,k=>k e S
 |it::r,chk,e,S,k=>
  cond (aB it.kind 3) (yp (dU ops it.i).op e fun _ _=>evL ops r chk e S k)<|
  cond (aB it.kind 2) (yp (dU ops it.i).op e fun blk w=>evL ops r chk (putO e (dU ops it.i).dst (vvF w S.length)) (S++[blk]) k)
  (cond (aB it.kind 1)
   (aT5 tab (dU ops it.i).op e S fun v S'=>gd (jz it.chks (aL1 (av4 tab (dU ops it.i).op e S) chk)&&jz it.need (aL1 (av4 tab (dU ops it.i).op e S) chk)) (evL ops r (aL1 (av4 tab (dU ops it.i).op e S) chk) (putO e (dU ops it.i).dst v) S' k))
   (gd (dU ops it.i).op.still (aT5 tab (dU ops it.i).op e S fun v S'=>gd (jz it.need (cond (dU ops it.i).op.isLoad ((it.i,cp9 S (dU ops it.i).op e)::chk) chk)) (evL ops r (cond (dU ops it.i).op.isLoad ((it.i,cp9 S (dU ops it.i).op e)::chk) chk) (putO e (dU ops it.i).dst v) S' k))))
end
def bD7 :Operand→List Nat
 | .tmp t=>[t]
 |_=>[]
def vo :AOp→List Nat
 | .makeSlice _ _ _ l c=>bD7 l++bD7 c
 | .buildSlice _ _ _ ps=>ps.flatMap fun p=>bD7 p.2.2
 |_=>[]
def bB8 :AOp→Bool
 | .alloc es _=>aD 1 es
 |_=>false
def uj :AOp→Bool
 | .alloc _ _| .makeSlice _ _ _ _ _=>true
 | .buildSlice _ _ z _=>z.all bV5
 |_=>false
def aw6 (d:Option Nat)(l:List Nat):Bool:=match d with
 |some t=> !jN t l
 |none=>true
def neO (d d':Option Nat):Bool:=match d,d' with
 |some t,some t'=> !Nat.beq t t'
 |_,_=>true
def an2 (i:Nat):List Nat→List Nat
 |[]=>[]
 |a::r=>cond (aB a i) r (a::an2 i r)
def yG :List LItem→List Nat→Nat→Option (List Nat×LItem×List LItem)
 |[],_,_=>none
 |it::r,P,i=>cond (aB it.kind 3) (yG r P i)<|cond (aB it.kind 2) (cond (jN it.i P) (yG r (an2 it.i P) i) none) (cond (aB it.i i) (some (P,it,r)) none)
def bM2 :List LItem→List Nat→Bool
 |[],P=>P.isEmpty
 |it::r,P=>cond (aB it.kind 3) (bM2 r P) (aB it.kind 2&&jN it.i P&&bM2 r (an2 it.i P))
def cD7 :AOp→Bool
 | .move _=>true
 |_=>false
def aU2 (ops:List (AOper×List Nat)):List LItem→Nat→Bool
 |[],_=>false
 |it::r,m=>cond (aB it.kind 3) (aB it.i m||aU2 ops r m)<|(aB it.kind 2&&(aB it.i m||(aw6 (dU ops it.i).dst (vo (dU ops m).op)&&aU2 ops r m)))||(aB it.kind 0&&cD7 (dU ops it.i).op&&aw6 (dU ops it.i).dst (vo (dU ops m).op)&&aU2 ops r m)
def an4 (ops:List (AOper×List Nat))(self:Nat)(ex:Bool)(P:List Nat)(r:List LItem):Bool:=
 P.all (fun q=>neO (dU ops self).dst (dU ops q).dst&&aw6 (dU ops self).dst (vo (dU ops q).op))&&
 r.all fun it=> !Nat.beq it.kind 2||(ex&&aB it.i self)||neO (dU ops self).dst (dU ops it.i).dst
def br4 (ops:List (AOper×List Nat)):Nat→List Nat→List Nat→List Nat→List Nat→List LItem→Bool
 |0,_,P,_,_,r=>bM2 r P
 |f+1,D,P,ls,nd,r=>match gN ops D with
  |some i=>(dU ops i).guard.isNone&&(match yG r P i with
   |some (P',it,r')=>aB it.kind 0&&an4 ops i false P' r'&&br4 ops f (i::D) P' (cond (dU ops i).op.isLoad (i::ls) ls) it.need r'
   |none=>false)
  |none=>match ec ops D with
   |[]=>bM2 r P
   |ms=>ms.all fun m=>(dU ops m).guard.isNone&&cond (uj (dU ops m).op)
    (!jN m P&&r.any (fun it=>aB it.kind 2&&aB it.i m)&&(bB8 (dU ops m).op||aU2 ops r m)&&an4 ops m true P r&&aw6 (dU ops m).dst (vo (dU ops m).op)&&ls.all (fun i=>sf ops i m||jN i nd)&&br4 ops f (m::D) (m::P) ls nd r)
    (match yG r P m with
    |some (P',it,r')=>aB it.kind 1&&an4 ops m false P' r'&&ls.all (fun i=>sf ops i m||jN i it.chks)&&br4 ops f (m::D) P' ls it.need r'
    |none=>false)
def yq (ops:List (AOper×List Nat))(all:List Nat):List Nat→List Nat→List LItem
 |[],_=>[]
 |i::r,ls=>
  cond (aD 1000 i) (⟨i-1000,3,[],[]⟩::yq ops all r ls)<|
  let o:=(dU ops i).op
  let ls':=cond o.isLoad (i::ls) ls
  let fr:=r.filter fun m=>uj (dU ops m).op
  ⟨i,cond (uj o) 2 (cond o.still 0 1),ls.filter fun j=> !sf ops j i,ls'.filter fun j=>fr.any fun m=> !sf ops j m⟩::yq ops all r ls'
def bg1 (ops:List (AOper×List Nat)):List LItem→Bool
 |[]=>true
 |it::r=>r.all (fun j=> !Nat.beq it.kind 2|| !Nat.beq j.kind 2||neO (dU ops it.i).dst (dU ops j.i).dst)&&bg1 ops r
def ai7 (ops:List (AOper×List Nat)):List LItem→List Nat
 |[]=>[]
 |it::r=>cond (aB it.kind 2) ((match(dU ops it.i).dst with
  |some d=>[d]
  |none=>[])++ai7 ops r) (ai7 ops r)
inductive AT where
 |no
 |n (l r:AT)
 |lp (fx:List Nat) (head:Alt) (exits:List Alt) (b:AT)
 |jn (fx mov:List Nat) (exits:List Alt) (l r:AT)
 |sz (n:Nat) (l r:AT)
 |dr (L:List Nat)
def cu6 :List VV→Nat
 |[]=>0
 | .nilp::r=>cu6 r+1
 | .fn f _ _::r=>cu6 r+10*f
 |_::r=>cu6 r
def cD9 :Nat→co→Nat
 |_,[]=>0
 |k, .cells _ _ l::r=>k*cu6 l+cD9 (k+1) r
 |k,_::r=>cD9 (k+1) r
def ci5 (S:co):Nat:=S.length+1000*cD9 1 S
def AT.at (n:Nat):AT→AT
 | .sz m l r=>cond (aB m n) l (r.at n)
 |t=>t
def bE8 (e:ed):List Nat→List VV→ed
 |t::ts,v::vs=>na (bE8 e ts vs) t v
 |_,_=>e
def ad9 (e:ed):List Nat→ed
 |[]=>e
 |t::ts=>na (ad9 e ts) t .undef
def br9 :Option Nat→List Nat
 |some d=>[d]
 |none=>[]
def iW :AC→List Nat
 | .region ops=>ops.flatMap fun o=>br9 o.dst
 | .draw ops=>ops.flatMap fun o=>br9 o.1.dst
 | .sched its=>its.flatMap fun i=>br9 i.o.dst
 | .seq a b| .cond _ a b=>iW a++iW b
 | .block _ b| .loop b=>iW b
 |_=>[]
def XK.is :XK→AExit→Bool
 | .normal, .normal=>true
 | .exit i, .exit j=>aB i j
 | .ret, .ret=>true
 |_,_=>false
def XK.out :XK→AExit
 | .normal=> .normal
 | .exit i=> .exit i
 | .ret=> .ret
def iw (fx mov:List Nat)(fz:Bool):Nat→co→co
 |_,[]=>[]
 |i,b::r=>cond (jN i mov) (cond b.frozen b .dead) (cond (jN i fx) b (cond fz b.freeze b))::iw fx mov fz (i+1) r
def af2 :AC→Bool
 | .seq a b| .cond _ a b=>af2 a&&af2 b
 | .block _ b| .loop b=>af2 b
 |_=>true
def cv {α γ:Type}(f:α→Option (α⊕γ))(n:Nat):α→Option γ:=
 Nat.rec (fun _=>none) (fun _ ih a=>(f a).bind fun s=>dJ s ih some) n
def fi :Nat:=18446744073709551616
def ag0 (e0:ed)(S:co)(fx mov asg:List Nat)(fz:Bool)(ts:List Nat)(sk:tZ)(t:Tup sk.shs):Option (ed×co):=
 match mG id sk (toL sk.shs t)with
 |some (vals,fs,bs)=>(match rO fx fs (iw fx mov (fz||yR vals fs bs) 0 S)with
  |some S'=>some (bE8 (ad9 e0 asg) ts vals,S'++bs)
  |none=>none)
 |none=>none
def cs5 {β:Type}(e0:ed)(S:co)(fx mov asg:List Nat)(exits:List Alt)(s:rG exits)(k:AExit→ed→co→Option β):Option β:=
 ce8 exits s fun a t=>match ag0 e0 S fx mov asg false a.ts a.sk t with
  |some (e,S')=>k a.x.out e S'
  |none=>none
def aV2 (F:AT→(β:Type)→ed→co→(AExit→ed→co→Option β)→Option β):AT→(β:Type)→ed→co→(AExit→ed→co→Option β)→Option β
 | .n l r,β,e,S,k=>F l β e S fun x e' S'=>match x with
  | .normal=>aV2 F r β e' S' k
  |x=>k x e' S'
 | .sz m l r,β,e,S,k=>cond (aB m S.length) (aV2 F l β e S k) (aV2 F r β e S k)
 |_,_,_,_,_=>none
def AT.rounds :AT→Nat
 | .n _ r=>r.rounds+1
 | .sz _ l r=>l.rounds+r.rounds
 |_=>0
def eval (tab:Tab):AC→AT→(β:Type)→ed→co→(AExit→ed→co→Option β)→Option β
 | .skip,_,_,e,S,k=>k .normal e S
 | .exit i,_,_,e,S,k=>k (.exit i) e S
 | .ret,_,_,e,S,k=>k .ret e S
 | .region ops,_,_,e,S,k=>ae2 tab ops e S fun e' S'=>k .normal e' S'
 | .sched its,_,_,e,S,k=>pR tab its [] e S fun e' S'=>k .normal e' S'
 | .draw ops,at',_,e,S,k=>(match at'.at (ci5 S)with
  | .dr L=>gd (br4 ops ops.length [] [] [] [] (yq ops L L [])&&bg1 ops (yq ops L L [])) (evL tab ops (yq ops L L []) [] (ad9 e (ai7 ops (yq ops L L []))) S fun e' S'=>k .normal e' S')
  |_=>none)
 | .seq a b,at',β,e,S,k=>
  (match at'.at (ci5 S)with
  | .jn fx mov exits l r=>gd (aK5 S fx&&af2 a) ((eval tab a l (rG exits) e (iw (fx++mov) [] true 0 S) fun x e' S'=>sj S' S.length fx (fun ts=>ts.map (jI e')) (fun y=>y.is x) exits).bind fun s=>
    cs5 e S fx mov (iW a) exits s fun x e' S'=>match x with
     | .normal=>eval tab b r β e' S' k
     |x=>k x e' S')
  | .n l r=>eval tab a l β e S fun x e' S'=>match x with
   | .normal=>eval tab b r β e' S' k
   |x=>k x e' S'
  |_=>eval tab a .no β e S fun x e' S'=>match x with
   | .normal=>eval tab b .no β e' S' k
   |x=>k x e' S')
 | .cond c a b,at',β,e,S,k=>
  (match ev e c with
  | .bool p=>(match c,at'.at (ci5 S)with
   | .tmp t, .n l r=>cond p (eval tab a l β (na e t (.bool true)) S k) (eval tab b r β (na e t (.bool false)) S k)
   | .tmp t,_=>cond p (eval tab a .no β (na e t (.bool true)) S k) (eval tab b .no β (na e t (.bool false)) S k)
   |_, .n l r=>cond p (eval tab a l β e S k) (eval tab b r β e S k)
   |_,_=>cond p (eval tab a .no β e S k) (eval tab b .no β e S k))
  |_=>none)
 | .block id b,at',β,e,S,k=>
  eval tab b (match at'.at (ci5 S)with
   | .n l _=>l
   |_=> .no) β e S fun x e' S'=>match x with
   | .exit i=>cond (aB i id) (k .normal e' S') (k (.exit i) e' S')
   |x=>k x e' S'
 | .loop b,at',_,e,S,k=>
  (match at'.at (ci5 S)with
  | .lp fx head exits l=>gd (head.sk.noRo&&aK5 S fx&&af2 b) (match lB S S.length fx head.sk (head.ts.map (jI e))with
   |some st=>(ofL head.sk.shs st.ls).bind fun t0=>
    (cv (fun t=>match ag0 e S fx (lC st.m) (iW b) true head.ts head.sk t with
     |some (e1,S1)=>eval tab b l (Tup head.sk.shs⊕rG exits) e1 S1 fun x e' S'=>(match x with
      | .normal=>(ap9 S' S.length fx head.sk (head.ts.map (jI e'))).bind fun t=>some (.inl t)
      |x=>(sj S' S.length fx (fun ts=>ts.map (jI e')) (fun y=>y.is x) exits).bind fun s=>some (.inr s))
     |none=>none) fi t0).bind fun s=>cs5 e S fx (lC st.m) (iW b) exits s k
   |none=>none)
  |_=>aV2 (eval tab b) at' _ e S k)
def cw9 (e:ed)(S:co):ARes→Option VV
 | .tmp t=>some (jI e t)
 | .cell t=>(match jI e t with
  | .ptr b o=>(match cl S b with
   | .cells _ _ l=>nth l o
   |_=>none)
  |_=>none)
 | .cellN t n=>(match jI e t with
  | .ptr b o=>(match cl S b with
   | .cells _ _ l=>cond (aD (o+n) l.length) (some (.agg ((l.drop o).take n))) none
   |_=>none)
  |_=>none)
def ax7 (e:ed)(S:co):List ARes→Option (List VV)
 |[]=>some []
 |r::rs=>(cw9 e S r).bind fun v=>(ax7 e S rs).bind fun vs=>some (v::vs)
def bH7 :List VV→VV
 |[v]=>v
 |vs=> .tup vs
def dz (P:Program)(f:FuncId)(tab:Tab)(at':AT):(β:Type)→List VV→co→(VV→co→Option β)→Option β:=fun β args S k=>
 match bH5 P f with
 |some a=>gd (aD args.length a.ntmps) (eval tab a.body at' β args S fun x e S'=>match x with
  | .exit _=>none
  |_=>(match ax7 e S' a.results with
   |some rs=>k (bH7 rs) S'
   |none=>none))
 |none=>none
def aT7 (P:Program)(f:FuncId)(tab:Tab)(vals:List Sk)(objs:List OSk)(outs:List Alt)(at':AT)(t:Tup (tZ.shs ⟨vals,[],objs⟩)):Option (rG outs):=
 match bH5 P f,mG id ⟨vals,[],objs⟩ (toL _ t)with
 |some a,some (vs,_,S)=>gd (aD vs.length a.ntmps) (eval tab a.body at' (rG outs) vs S fun x e S'=>match x with
  | .exit _=>none
  |_=>(match ax7 e S' a.results with
   |some rs=>sj S' S.length (pT objs 0) (fun _=>[bH7 rs]) (fun _=>true) outs
   |none=>none))
 |_,_=>none
end
section
open Nat renaming lt_of_lt_of_le → aB
structure Ctx where
 μ:Nat→Option Nat
 S:co
 σ:Hp
 fb:Nat→Prop
def Blk.dim :Blk→Option (Nat×Nat)
 | .dead=>none
 | .cells es _ l=>some (es,l.length)
 | .arr s _ l=>some (s.w,l.length*s.w)
def Blk.vals :Blk→List VV
 | .dead=>[]
 | .cells _ _ l=>l
 | .arr s _ l=>fg s l
def Ctx.own (c:Ctx)(b:Nat):Prop:= ∃k,(cl c.S k).frozen=false∧c.μ k=some b
def Ctx.mut (c:Ctx)(b:Nat):Prop:=c.own b∨c.fb b
def SlR (c:Ctx)(k lo n:Nat)(d:Nat×Nat)(a:Value):Prop:=
 (a= .slice none 0 0∧lo=0∧n=0∧c.μ k=none∧d.2=0)∨
 ∃b cp y,a= .slice (some ⟨b,lo*d.1,none⟩) n cp∧c.μ k=some b∧(lo+n)*d.1≤d.2∧n≤cp∧c.σ.m b=some y∧(lo+cp)*d.1≤y.cells.length
inductive VRel (c:Ctx):VV→Value→Prop where
 |undef (a:Value):VRel c .undef a
 |bool (b:Bool):VRel c (.bool b) (.bool b)
 |int (k:IntKind) (n:Int):VRel c (.int k n) (.int k n)
 |str {l:List Int} {s:ByteArray}:gM s=l→VRel c (.str l) (.string s)
 |nilp:VRel c .nilp (.pointer none)
 |nils:VRel c .nils (.slice none 0 0)
 |nilf:VRel c .nilf .nilFunc
 |ptr {k o:Nat} {a:Value}:k<c.S.length→one a=true→(∀d,(cl c.S k).dim=some d→∃b,c.μ k=some b∧a= .pointer (some ⟨b,o,none⟩))→VRel c (.ptr k o) a
 |it {k:Nat} {l:List Int} {s:ByteArray} {a:Value}:k<c.S.length→one a=true→gM s=l→(∀d,(cl c.S k).dim=some d→∃b,c.μ k=some b∧a= .iface b (.string s))→VRel c (.it k l) a
 |bld {k:Nat} {a:Value}:k<c.S.length→one a=true→(∀d,(cl c.S k).dim=some d→∃b,c.μ k=some b∧a= .iface b .nilFunc)→VRel c (.bld k) a
 |pix {k o n i:Nat} {a:Value}:k<c.S.length→one a=true→i<n→(∀d,(cl c.S k).dim=some d→∃b,c.μ k=some b∧a= .pointer (some ⟨b,o+i,none⟩))→VRel c (.pix k o n i) a
 |pel {k i o:Nat} {a:Value}:k<c.S.length→one a=true→(∀d,(cl c.S k).dim=some d→∃b,c.μ k=some b∧a= .pointer (some ⟨b,i*d.1+o,none⟩))→VRel c (.pel k i o) a
 |pin {s:Sh} {x:El s} {o b p:Nat} {y:Ab.Blk}: ¬c.mut b→c.σ.m b=some y→p+s.w≤y.cells.length→F2 (VRel c) (ei s x) ((y.cells.drop p).take s.w)→VRel c (.pin s x o) (.pointer (some ⟨b,p+o,none⟩))
 |lstn {s:Sh} {q:Option Addr}:(∀z,q=some z→z.spot=none)→VRel c (.lst s []) (.slice q 0 0)
 |lst {s:Sh} {l:List (El s)} {b p n cp:Nat} {y:Ab.Blk}: ¬c.mut b→c.σ.m b=some y→y.es=s.w→n=l.length→n≤cp→p+n*s.w≤y.cells.length→
   F2 (VRel c) (fg s l) ((y.cells.drop p).take (n*s.w))→VRel c (.lst s l) (.slice (some ⟨b,p,none⟩) n cp)
 |tgtn {s:Sh} {a:Value}:(a= .slice none 0 0∨∃b o,a= .slice (some ⟨b,o,some 0⟩) 0 0)→VRel c (.tgt s []) a
 |tgt {s:Sh} {l:List (El s)} {b p:Nat} {y:Ab.Blk}: ¬c.mut b→c.σ.m b=some y→y.es=s.w→p+l.length*s.w≤y.cells.length→
   F2 (VRel c) (fg s l) ((y.cells.drop p).take (l.length*s.w))→VRel c (.tgt s l) (.slice (some ⟨b,p,some 0⟩) l.length l.length)
 |full {k:Nat} {a:Value}:k<c.S.length→one a=true→(∀d,(cl c.S k).dim=some d→∃n,n*d.1=d.2∧SlR c k 0 n d a)→VRel c (.full k) a
 |part {k lo n:Nat} {a:Value}:k<c.S.length→one a=true→(∀d,(cl c.S k).dim=some d→SlR c k lo n d a)→VRel c (.part k lo n) a
 |fn {f:Nat} {a b:List VV} {a' b':Array Value}:F2 (VRel c) a a'.toList→F2 (VRel c) b b'.toList→VRel c (.fn f a b) (.func (.func f) a' b')
 |agg {l:List VV} {l':Array Value}:F2 (VRel c) l l'.toList→VRel c (.agg l) (.agg l')
 |tup {l:List VV} {l':Array Value}:F2 (VRel c) l l'.toList→VRel c (.tup l) (.tuple l')
def aN3 (c:Ctx)(k:Nat):Prop:= ∀d,(cl c.S k).dim=some d→1≤d.1∧
 ((d.2=0∧c.μ k=none)∨∃b y cs rest,c.μ k=some b∧c.σ.m b=some y∧y.es=d.1∧((cl c.S k).frozen=false→y.own=true)∧y.cells=cs++rest∧F2 (VRel c) (cl c.S k).vals cs)
structure eI (c:Ctx):Prop where
 ok:c.σ.Ok
 inj: ∀k k' b,(cl c.S k).frozen=false→(cl c.S k').dim≠none→c.μ k=some b→c.μ k'=some b→k=k'
 blk: ∀k,aN3 c k
 fbk: ∀k b,(cl c.S k).dim≠none→c.μ k=some b→¬c.fb b
 fbl: ∀b,c.fb b→b<c.σ.n
structure Le (c c':Ctx):Prop where
 len:c.S.length≤c'.S.length
 al: ∀k d,k<c.S.length→(cl c'.S k).dim=some d→(cl c.S k).dim=some d∧c'.μ k=c.μ k
 fz: ∀k,(cl c.S k).frozen=true→(cl c.S k).dim≠none→cl c'.S k=cl c.S k
 ln: ∀k d b y,k<c.S.length→(cl c'.S k).dim=some d→c.μ k=some b→c.σ.m b=some y→∃y',c'.σ.m b=some y'∧y'.cells.length=y.cells.length
 un: ∀b y,c.σ.m b=some y→¬c.own b→c'.σ.m b=some y
 ow: ∀b y,c.σ.m b=some y→¬c.own b→¬c'.own b
 n:c.σ.n≤c'.σ.n
 fb:c'.fb=c.fb
theorem Le.rd {c c':Ctx}(h:Le c c')(b:Nat)(y:Ab.Blk)(hy:c.σ.m b=some y)(hn: ¬c.mut b):c'.σ.m b=some y∧¬c'.mut b:=by
 have h1: ¬c.own b:=fun e=>hn (.inl e)
 refine⟨h.un b y hy h1,fun e=> ?_⟩;rcases e with e|e
 ·exact h.ow b y hy h1 e
 ·rw[h.fb]at e;exact hn (.inr e)
def qX (d:List Nat)(c c':Ctx):Prop:= ∀k,k<c.S.length→k∉d→(cl c.S k).dim≠none→(cl c'.S k).dim≠none∧∀b,c.μ k=some b→c'.σ.m b=c.σ.m b
theorem jP {S:co}{k:Nat}(h:(cl S k).dim≠none):k<S.length:=by
 induction S generalizing k with
 |nil=>exact(h rfl).elim
 |cons b r ih=>
  cases k with
  |zero=>exact Nat.zero_lt_succ _
  |succ k=>exact Nat.succ_lt_succ (ih h)
theorem rM {S:co}{k:Nat}(h:S.length≤k):cl S k= .dead:=by
 induction S generalizing k with
 |nil=>rfl
 |cons b r ih=>
  cases k with
  |zero=>simp at h
  |succ k=>exact ih (by simpa using h)
theorem ag3 {S:co}{k:Nat}{b:Blk}:(ja S k b).length=S.length:=by
 induction S generalizing k with
 |nil=>rfl
 |cons a r ih=>cases k<;>simp[ja,ih]
theorem tx {S:co}{k i:Nat}{b:Blk}:cl (ja S k b) i=if i=k∧k<S.length then b else cl S i:=by
 induction S generalizing k i with
 |nil=>simp[ja]
 |cons a r ih=>
  cases k with
  |zero=>cases i<;>simp[ja,cl]
  |succ k=>
   cases i with
   |zero=>simp[ja,cl]
   |succ i=>simp[ja,cl,ih]
theorem bV7 {S:co}{k:Nat}{b:Blk}(h:k<S.length):cl (ja S k b) k=b:=by rw[tx,zE ⟨rfl,h⟩]
theorem cx7 {S:co}{k i:Nat}{b:Blk}(h:i≠k):cl (ja S k b) i=cl S i:=by rw[tx,zF (fun e=>h e.1)]
theorem kr {S:co}{l:List Blk}{k:Nat}(h:k<S.length):cl (S++l) k=cl S k:=by
 induction S generalizing k with
 |nil=>simp at h
 |cons a r ih=>
  cases k with
  |zero=>rfl
  |succ k=>exact ih (by simpa using h)
theorem oK {S:co}{l:List Blk}{k:Nat}:cl (S++l) (S.length+k)=cl l k:=by
 induction S with
 |nil=>simp
 |cons a r ih=>
  have:(a::r).length+k=(r.length+k)+1:=by simp;omega
  rw[this];exact ih
theorem bG6 {S:co}{b:Blk}:cl (S++[b]) S.length=b:=by
 exact @oK S [b] 0
theorem jH {b:Blk}(h:b.frozen=false):b.dim≠none:=by cases b<;>simp[Blk.frozen,Blk.dim]at*
theorem fc {b:Blk}:b.freeze.dim=b.dim:=by cases b<;>rfl
theorem aH1 {b:Blk}:b.freeze.vals=b.vals:=by cases b<;>rfl
theorem ko {b:Blk}:b.freeze.frozen=true:=by cases b<;>rfl
theorem wJ {b:Blk}(h:b.frozen=true):b.freeze=b:=by cases b<;>simp[Blk.frozen,Blk.freeze]at* <;>simp[h]
theorem Le.refl (c:Ctx):Le c c:=⟨Nat.le_refl _,fun _ _ _ h=>⟨h,rfl⟩,fun _ _ _=>rfl,fun _ _ _ y _ _ _ hy=>⟨y,hy,rfl⟩,fun _ _ h _=>h,fun _ _ _ h=>h,Nat.le_refl _,rfl⟩
theorem Le.trans {a b c:Ctx}(h:Le a b)(k:Le b c):Le a c:=by
 refine⟨Nat.le_trans h.len k.len,fun i d hi hd=> ?_,fun i hf hd=> ?_,fun i d x y hi hd hm hy=> ?_,fun x y hy hn=>k.un x y (h.un x y hy hn) (h.ow x y hy hn),fun x y hy hn=>k.ow x y (h.un x y hy hn) (h.ow x y hy hn),Nat.le_trans h.n k.n,k.fb.trans h.fb⟩
 ·obtain⟨h1,h2⟩:=k.al i d (aB hi h.len) hd;obtain⟨h3,h4⟩:=h.al i d hi h1;exact⟨h3,h2.trans h4⟩
 ·have h1:=h.fz i hf hd;rw[k.fz i (by rw[h1];exact hf) (by rw[h1];exact hd),h1]
 ·obtain⟨h1,h2⟩:=k.al i d (aB hi h.len) hd;obtain⟨y1,h3,h4⟩:=h.ln i d x y hi h1 hm hy;obtain⟨_,h6⟩:=h.al i d hi h1;obtain⟨y2,h5,h7⟩:=k.ln i d x y1 (aB hi h.len) hd (h6.trans hm) h3;exact⟨y2,h5,h7.trans h4⟩
theorem qX.refl (d:List Nat)(c:Ctx):qX d c c:=fun _ _ _ h=>⟨h,fun _ _=>rfl⟩
theorem SlR.frame {c c':Ctx}(h:Le c c'){k lo n:Nat}{d:Nat×Nat}{a:Value}(hk:k<c.S.length)(hd:(cl c'.S k).dim=some d)(hs:SlR c k lo n d a):SlR c' k lo n d a:=by
 obtain⟨h1,h2⟩:=h.al k d hk hd;rcases hs with⟨rfl,rfl,rfl,hm,hz⟩|⟨b,cp,y,rfl,hm,h3,h4,hy,h5⟩
 ·exact .inl ⟨rfl,rfl,rfl,h2.trans hm,hz⟩
 ·obtain⟨y',hy',hl⟩:=h.ln k d b y hk hd hm hy;exact .inr ⟨b,cp,y',rfl,h2.trans hm,h3,h4,hy',by rw[hl];exact h5⟩
theorem VRel.frame {c c':Ctx}(h:Le c c'): ∀{v:VV} {a:Value},VRel c v a→VRel c' v a
 |_,_, .undef a=> .undef a
 |_,_, .bool b=> .bool b
 |_,_, .int k n=> .int k n
 |_,_, .str hs=> .str hs
 |_,_, .nilp=> .nilp
 |_,_, .nils=> .nils
 |_,_, .nilf=> .nilf
 |_,_, .ptr hk h1 hd=> .ptr (aB hk h.len) h1 fun d hd'=>by
  obtain⟨h1,h2⟩:=h.al _ d hk hd';obtain⟨b,h3,h4⟩:=hd d h1;exact⟨b,h2.trans h3,h4⟩
 |_,_, .it hk h1 hs hd=> .it (aB hk h.len) h1 hs fun d hd'=>by
  obtain⟨h1,h2⟩:=h.al _ d hk hd';obtain⟨b,h3,h4⟩:=hd d h1;exact⟨b,h2.trans h3,h4⟩
 |_,_, .bld hk h1 hd=> .bld (aB hk h.len) h1 fun d hd'=>by
  obtain⟨h1,h2⟩:=h.al _ d hk hd';obtain⟨b,h3,h4⟩:=hd d h1;exact⟨b,h2.trans h3,h4⟩
 |_,_, .pix hk h1 hi hd=> .pix (aB hk h.len) h1 hi fun d hd'=>by
  obtain⟨h1,h2⟩:=h.al _ d hk hd';obtain⟨b,h3,h4⟩:=hd d h1;exact⟨b,h2.trans h3,h4⟩
 |_,_, .pel hk h1 hd=> .pel (aB hk h.len) h1 fun d hd'=>by
  obtain⟨h1,h2⟩:=h.al _ d hk hd';obtain⟨b,h3,h4⟩:=hd d h1;exact⟨b,h2.trans h3,h4⟩
 |_,_, .pin hn hy hl hf=> .pin (h.rd _ _ hy hn).2 (h.rd _ _ hy hn).1 hl (go hf)
 |_,_, .lstn hq=> .lstn hq
 |_,_, .lst hn hy he h1 h2 h3 hf=> .lst (h.rd _ _ hy hn).2 (h.rd _ _ hy hn).1 he h1 h2 h3 (go hf)
 |_,_, .tgtn hq=> .tgtn hq
 |_,_, .tgt hn hy he h3 hf=> .tgt (h.rd _ _ hy hn).2 (h.rd _ _ hy hn).1 he h3 (go hf)
 |_,_, .full hk h1 hd=> .full (aB hk h.len) h1 fun d hd'=>by
  obtain⟨h1,h2⟩:=h.al _ d hk hd';obtain⟨n,h3,h4⟩:=hd d h1;exact⟨n,h3,h4.frame h hk hd'⟩
 |_,_, .part hk h1 hd=> .part (aB hk h.len) h1 fun d hd'=>by
  obtain⟨h1,h2⟩:=h.al _ d hk hd';exact(hd d h1).frame h hk hd'
 |_,_, .fn h1 h2=> .fn (go h1) (go h2)
 |_,_, .agg h1=> .agg (go h1)
 |_,_, .tup h1=> .tup (go h1)
where
 go: ∀{l:List VV} {m:List Value},F2 (VRel c) l m→F2 (VRel c') l m
  |_,_, .nil=> .nil
  |_,_, .cons h1 h2=> .cons (VRel.frame h h1) (go h2)
theorem VRel.frames {c c':Ctx}(h:Le c c'){l:List VV}{m:List Value}(hf:F2 (VRel c) l m):F2 (VRel c') l m:=hf.imp fun _ _ hv=>hv.frame h
def ia {β:Type}(c:Ctx)(d:List Nat)(k:VV→co→Option β)(y:β)(v:Value)(σ':Hp):Prop:=
 ∃vv c',c'.σ=σ'∧Le c c'∧eI c'∧qX d c c'∧VRel c' vv v∧k vv c'.S=some y
theorem ia.same {β:Type}{c:Ctx}{d:List Nat}{k:VV→co→Option β}{y:β}{v:Value}{vv:VV}(hR:eI c)(hv:VRel c vv v)(hk:k vv c.S=some y):ia c d k y v c.σ:=
 ⟨vv,c,rfl,Le.refl c,hR,qX.refl d c,hv,hk⟩
end
section
open List renaming length_append → aW, take_of_length_le → aX, length_cons → aZ, length_drop → bA, take_append → bB
open Nat renaming succ_mul → aB, le_refl → aD, mul_le_mul_right → aY
theorem kv : ∀s:Sh,1≤s.w
 | .int _=>aD _
 | .bool=>aD _
 | .str=>aD _
 | .list _=>aD _
 | .pair a _=>Nat.le_trans (kv a) (Nat.le_add_right _ _)
theorem eu : ∀(s:Sh) (x:El s),(ei s x).length=s.w
 | .int _,_=>rfl
 | .bool,_=>rfl
 | .str,_=>rfl
 | .list _,_=>rfl
 | .pair a b,x=>by
  simp only[ei,aW,Sh.w];rw[eu a,eu b]
theorem ai5 {s:Sh}:fg s []=[]:=rfl
theorem fK {s:Sh}{x:El s}{l:List (El s)}:fg s (x::l)=ei s x++fg s l:=rfl
theorem fS {s:Sh}{l:List (El s)}:(fg s l).length=l.length*s.w:=by
 induction l with
 |nil=>simp[ai5]
 |cons x l ih=>rw[fK,aW,eu,ih,aZ,aB,Nat.add_comm]
theorem tu {s:Sh}{l m:List (El s)}:fg s (l++m)=fg s l++fg s m:=List.flatMap_append
theorem iY {s:Sh}{l:List (El s)}{n:Nat}:fg s (l.take n)=(fg s l).take (n*s.w):=by
 induction l generalizing n with
 |nil=>simp[ai5]
 |cons x l ih=>
  cases n with
  |zero=>simp[ai5]
  |succ n=>
   rw[List.take_succ_cons,fK,fK,ih,bB,eu];have h1:(n+1)*s.w-s.w=n*s.w:=by rw[aB];omega
   rw[h1,aX (l:=ei s x) (by rw[eu,aB];omega)]
theorem ui {s:Sh}{l:List (El s)}{n:Nat}:fg s (l.drop n)=(fg s l).drop (n*s.w):=by
 induction l generalizing n with
 |nil=>simp[ai5]
 |cons x l ih=>
  cases n with
  |zero=>simp
  |succ n=>
   rw[List.drop_succ_cons,fK,ih,List.drop_append,eu];have h1:(n+1)*s.w-s.w=n*s.w:=by rw[aB];omega
   rw[h1,List.drop_of_length_le (l:=ei s x) (by rw[eu,aB];omega),List.nil_append]
theorem aB7 {s:Sh}{l:List (El s)}{i:Nat}{x:El s}(h:l[i]?=some x):((fg s l).drop (i*s.w)).take s.w=ei s x:=by
 rw[←ui]
 have hi:i<l.length:=by
  rcases Nat.lt_or_ge i l.length with h1|h1
  ·exact h1
  ·rw[List.getElem?_eq_none h1]at h;cases h
 have h2:l.drop i=x::l.drop (i+1):=by
  rw[List.drop_eq_getElem_cons hi];rw[List.getElem?_eq_getElem hi]at h;injection h with h
  rw[h]
 rw[h2,fK,bB,eu,Nat.sub_self,List.take_zero,List.append_nil,aX (by rw[eu];exact aD _)]
theorem jw {s' s:Sh}{x:El s'}{y:El s}(h:lU s' s x=some y): ∃e:s'=s,y=e▸x:=by
 unfold lU at h;split at h
 ·rename_i e;injection h with h
  exact⟨e,h.symm⟩
 ·cases h
theorem kD {s:Sh}{x:El s}:lU s s x=some x:=by
 unfold lU;rw[dif_pos rfl]
theorem F2.app_left {α β:Type}{r:α→β→Prop}{l l':List α}{m:List β}(h:F2 r (l++l') m): ∃m1 m2,m=m1++m2∧F2 r l m1∧F2 r l' m2:=by
 induction l generalizing m with
 |nil=>exact⟨[],m,rfl, .nil,h⟩
 |cons a l ih=>
  cases h with
  |cons h1 h2=>
   obtain⟨m1,m2,rfl,h3,h4⟩:=ih h2;exact⟨_::m1,m2,rfl, .cons h1 h3,h4⟩
def tT (c:Ctx)(s:Sh)(l:List (El s))(a:Value):Prop:=
 (∃q:Option Addr,a= .slice q 0 0∧l=[]∧∀z,q=some z→z.spot=none)∨∃b p cp y,a= .slice (some ⟨b,p,none⟩) l.length cp∧c.σ.m b=some y∧y.es=s.w∧l.length≤cp∧p+l.length*s.w≤y.cells.length∧F2 (VRel c) (fg s l) ((y.cells.drop p).take (l.length*s.w))
theorem tT.rel {c:Ctx}{s:Sh}{l:List (El s)}{a:Value}(h:tT c s l a)(hn: ∀b p n cp,a= .slice (some ⟨b,p,none⟩) n cp→cp≠0→¬c.mut b):VRel c (.lst s l) a:=by
 rcases h with⟨q,rfl,rfl,hq⟩|⟨b,p,cp,y,rfl,h1,h2,h3,h4,h5⟩
 ·exact .lstn hq
 ·by_cases hc:cp=0
  ·subst hc;have:l=[]:=List.length_eq_zero_iff.1 (by omega);subst this;exact .lstn fun z hz=>by injection hz with hz;rw[←hz]
  ·exact .lst (hn _ _ _ _ rfl hc) h1 h2 rfl h3 h4 h5
theorem VRel.listAt {c:Ctx}{s:Sh}{l:List (El s)}{a:Value}(h:VRel c (.lst s l) a):tT c s l a:=by
 cases h with
 |lstn hq=>exact .inl ⟨_,rfl,rfl,hq⟩
 |lst hn hy he h1 h2 h3 h4=>subst h1;exact .inr ⟨_,_,_,_,rfl,hy,he,h2,h3,h4⟩
theorem VRel.lst_mut {c:Ctx}{s:Sh}{l:List (El s)}{b p n cp:Nat}(h:VRel c (.lst s l) (.slice (some ⟨b,p,none⟩) n cp))(hc:cp≠0): ¬c.mut b:=by
 cases h with
 |lstn=>exact(hc rfl).elim
 |lst hn=>exact hn
theorem eI.fz_mut {c:Ctx}(hR:eI c){k b:Nat}(hk:(cl c.S k).frozen=true)(hd:(cl c.S k).dim≠none)(hm:c.μ k=some b): ¬c.mut b:=by
 rintro(⟨k',h1,h2⟩|h)
 ·have:=hR.inj k' k b h1 hd h2 hm;subst this;rw[h1]at hk;cases hk
 ·exact hR.fbk k b hd hm h
def aF1 (c:Ctx)(s:Sh)(f:List VV→Option (El s×List VV)):Prop:= ∀cells x rest,f cells=some (x,rest)→
 ∃pre,cells=pre++rest∧pre.length=s.w∧∀as,F2 (VRel c) pre as→F2 (VRel c) (ei s x) as
theorem aB0 {c:Ctx}{s:Sh}{f:List VV→Option (El s×List VV)}(hf:aF1 c s f): ∀(n:Nat) (cells:List VV) (l:List (El s)),aF5 f n cells=some l→
  cells.length=l.length*s.w∧∀as,F2 (VRel c) cells as→F2 (VRel c) (fg s l) as
 |n,[],l,h=>by
  have:l=[]:=by cases n<;>simpa[aF5]using h.symm
  subst this;exact⟨by simp,fun as ha=>ha⟩
 |0,_::_,_,h=>by simp[aF5]at h
 |n+1,v::r,l,h=>by
  simp only[aF5]at h;cases h1:f (v::r)with
  |none=>rw[h1]at h;cases h
  |some p=>
   obtain⟨x,rest⟩:=p;rw[h1]at h;simp only[zG]at h;cases h2:aF5 f n rest with
   |none=>rw[h2]at h;cases h
   |some l'=>
    rw[h2]at h;injection h with h
    subst h;obtain⟨pre,h3,h4,h5⟩:=hf _ _ _ h1;obtain⟨h6,h7⟩:=aB0 hf n rest l' h2;refine⟨by rw[h3,aW,h4,h6,aZ,aB,Nat.add_comm],fun as ha=> ?_⟩;rw[h3]at ha;obtain⟨m1,m2,rfl,h8,h9⟩:=F2.app_left ha;exact(h5 _ h8).append (h7 _ h9)
theorem oG {c:Ctx}{s:Sh}{f:List VV→Option (El s×List VV)}(hf:aF1 c s f){k:Nat}{l:List (El s)}(h:te s f (cl c.S k)=some l):
  ∃d,(cl c.S k).dim=some d∧d.1=s.w∧d.2=l.length*s.w∧∀as,F2 (VRel c) (cl c.S k).vals as→F2 (VRel c) (fg s l) as:=by
 generalize cl c.S k=b at h;cases b with
 |dead=>cases h
 |arr s' z m=>
  obtain⟨e,h1⟩:=jw h;cases e;subst h1;exact⟨_,rfl,rfl,rfl,fun _ h=>h⟩
 |cells es z m=>
  simp only[te]at h;cases he:Nat.beq es s.w with
  |false=>rw[he]at h;cases h
  |true=>
   rw[he,zC]at h;obtain⟨h1,h2⟩:=aB0 hf _ _ _ h;exact⟨_,rfl,Nat.eq_of_beq_eq_true he,h1,h2⟩
theorem aR9 {c:Ctx}(hR:eI c){s:Sh}{f:List VV→Option (El s×List VV)}(hf:aF1 c s f){k lo n:Nat}{l:List (El s)}{d:Nat×Nat}{a:Value}(h:te s f (cl c.S k)=some l)
  (hd:(cl c.S k).dim=some d) (hs:SlR c k lo n d a):tT c s ((l.drop lo).take n) a∧((l.drop lo).take n).length=n:=by
 obtain⟨d',h1,h2,h3,h4⟩:=oG hf h;rw[hd]at h1;injection h1 with h1
 subst h1;obtain⟨h0,hb⟩:=hR.blk k d hd;have hw:=kv s;rcases hs with⟨rfl,rfl,rfl,hm,hz⟩|⟨b,cp,y,rfl,hm,h5,h6,hy,h7⟩
 ·have:l.length=0:=by
   rw[hz]at h3;rcases Nat.eq_zero_or_pos l.length with h|h
   ·exact h
   ·have:=Nat.mul_pos h hw;omega
  rw[List.length_eq_zero_iff]at this;subst this;exact⟨.inl ⟨none,rfl,by simp,fun z hz=>by cases hz⟩,by simp⟩
 ·have hln:lo+n≤l.length:=by
   rw[h2,h3]at h5;exact Nat.le_of_mul_le_mul_right h5 hw
  have hlen:((l.drop lo).take n).length=n:=by rw[List.length_take,bA];omega
  refine⟨.inr ⟨b,lo*d.1,cp,y,by rw[hlen],hy, ?_,by rw[hlen];exact h6, ?_, ?_⟩,hlen⟩
  ·rcases hb with⟨h8,h9⟩|⟨b',y',cs,rest,h8,h9,h10,_⟩
   ·rw[h9]at hm;cases hm
   ·rw[hm]at h8;injection h8 with h8
    subst h8;rw[hy]at h9;injection h9 with h9
    subst h9;rw[h10,h2]
  ·rw[hlen];have:=aY d.1 h6;rw[Nat.add_mul]at h7;rw[←h2];omega
  ·rcases hb with⟨h8,h9⟩|⟨b',y',cs,rest,h8,h9,h10,_,h12,h13⟩
   ·rw[h9]at hm;cases hm
   ·rw[hm]at h8;injection h8 with h8
    subst h8;rw[hy]at h9;injection h9 with h9
    subst h9;have h14:=h4 _ h13;have h15:cs.length=l.length*s.w:=by rw[←h14.length,fS]
    rw[hlen,iY,ui,h2,h12,List.drop_append_of_le_length (by rw[h15];exact aY _ (by omega)),List.take_append_of_le_length]
    ·exact(h14.drop _).take _
    ·rw[bA,h15,←Nat.sub_mul];exact aY _ (by omega)
theorem bB4 {c:Ctx}(hR:eI c){s:Sh}{f:List VV→Option (El s×List VV)}(hf:aF1 c s f){k:Nat}{l:List (El s)}{a:Value}(h:te s f (cl c.S k)=some l)(hv:VRel c (.full k) a):tT c s l a:=by
 obtain⟨d,h1,h2,h3,h4⟩:=oG hf h;cases hv with
 |full hk _ hd=>
  obtain⟨n,h5,h6⟩:=hd d h1
  have hn:n=l.length:=by
   rw[h2,h3]at h5;exact Nat.eq_of_mul_eq_mul_right (kv s) h5
  have:=(aR9 hR hf h h1 h6).1
  rwa [List.drop_zero,aX (by omega)]at this
theorem bE0 {c:Ctx}(hR:eI c){s:Sh}{f:List VV→Option (El s×List VV)}(hf:aF1 c s f){k lo n:Nat}{l:List (El s)}{a:Value}(h:te s f (cl c.S k)=some l)(hv:VRel c (.part k lo n) a):
  tT c s ((l.drop lo).take n) a∧((l.drop lo).take n).length=n:=by
 obtain⟨d,h1,h2,h3,h4⟩:=oG hf h;cases hv with
 |part hk _ hd=>exact aR9 hR hf h h1 (hd d h1)
def aC0 :VV→Option Nat
 | .full k=>some k
 | .part k _ _=>some k
 |_=>none
theorem SlR.addr {c:Ctx}{k lo n:Nat}{d:Nat×Nat}{b p m cp:Nat}(h:SlR c k lo n d (.slice (some ⟨b,p,none⟩) m cp)):c.μ k=some b:=by
 rcases h with⟨h,_⟩|⟨b',cp',y,h,hm,_⟩
 ·cases h
 ·injection h with h1 h2 h3
  injection h1 with h1
  injection h1 with h1
  subst h1;exact hm
theorem bh4 {c:Ctx}(hR:eI c){s:Sh}{f:List VV→Option (El s×List VV)}(hf:aF1 c s f){v:VV}{l:List (El s)}{a:Value}(h:af0 c.S s f v=some l)(hv:VRel c v a):
  tT c s l a∧∀b p n cp,a= .slice (some ⟨b,p,none⟩) n cp→cp≠0→¬c.mut b∨∃k,aC0 v=some k∧(cl c.S k).dim≠none∧c.μ k=some b:=by
 cases v<;>simp only[af0]at h<;>try(cases h;done)
 case nils=>
  injection h with h
  subst h;cases hv;exact⟨.inl ⟨none,rfl,rfl,fun z hz=>by cases hz⟩,fun b p n cp e=>by cases e⟩
 case lst s' l'=>
  obtain⟨e,h1⟩:=jw h;cases e;subst h1;refine⟨hv.listAt,fun b p n cp e hc=> .inl ?_⟩;subst e;exact hv.lst_mut hc
 case full k=>
  refine⟨bB4 hR hf h hv,fun b p n cp e _=> .inr ⟨k,rfl, ?_⟩⟩;obtain⟨d,h1,_⟩:=oG hf h;subst e;cases hv with
  |full hk _ hd=>
   obtain⟨_,_,h6⟩:=hd d h1;exact⟨by rw[h1];simp,h6.addr⟩
 case part k lo m=>
  cases h0:te s f (cl c.S k)with
  |none=>rw[h0]at h;cases h
  |some l0=>
   rw[h0]at h;injection h with h
   subst h;refine⟨(bE0 hR hf h0 hv).1,fun b p n cp e _=> .inr ⟨k,rfl, ?_⟩⟩;obtain⟨d,h1,_⟩:=oG hf h0;subst e;cases hv with
   |part hk _ hd=>exact⟨by rw[h1];simp,(hd d h1).addr⟩
theorem aV0 {c:Ctx}(hR:eI c){s:Sh}{f:List VV→Option (El s×List VV)}(hf:aF1 c s f){v:VV}{l:List (El s)}{a:Value}(h:bt6 c.S s f v=some l)(hv:VRel c v a):VRel c (.lst s l) a:=by
 have key:af0 c.S s f v=some l∧∀k,aC0 v=some k→(cl c.S k).frozen=true:=by
  unfold bt6 at h;split at h
  ·rename_i k;cases hz:(cl c.S k).frozen with
   |false=>rw[hz]at h;cases h
   |true=>
    rw[hz]at h;exact⟨h,fun k' e=>by cases e;exact hz⟩
  ·rename_i k lo n;cases hz:(cl c.S k).frozen with
   |false=>rw[hz]at h;cases h
   |true=>
    rw[hz]at h;exact⟨h,fun k' e=>by cases e;exact hz⟩
  ·rename_i h1 h2;refine⟨h,fun k e=> ?_⟩;cases v<;>simp only[aC0]at e<;>try(cases e;done)
   ·exact(h1 _ rfl).elim
   ·exact(h2 _ _ _ rfl).elim
 obtain⟨h1,h2⟩:=bh4 hR hf key.1 hv;refine h1.rel fun b p n cp e hc=> ?_
 rcases h2 b p n cp e hc with h3|⟨k,h3,h4,h5⟩
 ·exact h3
 ·exact hR.fz_mut (key.2 k h3) h4 h5
theorem iM {c:Ctx}(hR:eI c): ∀s:Sh,aF1 c s (iH c.S s)
 | .int k,cells,x,rest,h=>by
  cases cells with
  |nil=>simp[iH]at h
  |cons v r=>
   cases v<;>simp only[iH]at h<;>try(cases h;done)
   rename_i k' n;cases hk:decide (k'=k)with
   |false=>rw[hk]at h;cases h
   |true=>
    rw[hk]at h;injection h with h
    injection h with h1 h2
    subst h1;subst h2;have:=of_decide_eq_true hk;subst this;exact⟨[_],rfl,rfl,fun _ h=>h⟩
 | .bool,cells,x,rest,h=>by
  cases cells with
  |nil=>simp[iH]at h
  |cons v r=>
   cases v<;>simp only[iH]at h<;>try(cases h;done)
   injection h with h
   injection h with h1 h2
   subst h1;subst h2;exact⟨[_],rfl,rfl,fun _ h=>h⟩
 | .str,cells,x,rest,h=>by
  cases cells with
  |nil=>simp[iH]at h
  |cons v r=>
   cases v<;>simp only[iH]at h<;>try(cases h;done)
   injection h with h
   injection h with h1 h2
   subst h1;subst h2;exact⟨[_],rfl,rfl,fun _ h=>h⟩
 | .list s,cells,x,rest,h=>by
  cases cells with
  |nil=>simp[iH]at h
  |cons v r=>
   simp only[iH]at h;cases h1:bt6 c.S s (iH c.S s) v with
   |none=>rw[h1]at h;cases h
   |some l=>
    rw[h1]at h;injection h with h
    injection h with h2 h3
    subst h2;subst h3;refine⟨[v],rfl,rfl,fun as ha=> ?_⟩;cases ha with
    |cons ha hn=>
     cases hn;exact .cons (aV0 hR (iM hR s) h1 ha) .nil
 | .pair a b,cells,x,rest,h=>by
  simp only[iH]at h;cases h1:iH c.S a cells with
  |none=>rw[h1]at h;cases h
  |some p=>
   obtain⟨y,r1⟩:=p;rw[h1]at h;simp only[zG]at h;cases h2:iH c.S b r1 with
   |none=>rw[h2]at h;cases h
   |some q=>
    obtain⟨z,r2⟩:=q;rw[h2]at h;injection h with h
    injection h with h3 h4
    subst h3;subst h4;obtain⟨p1,rfl,hl1,hf1⟩:=iM hR a _ _ _ h1;obtain⟨p2,rfl,hl2,hf2⟩:=iM hR b _ _ _ h2;refine⟨p1++p2,by rw[List.append_assoc],by rw[aW,hl1,hl2];rfl,fun as ha=> ?_⟩;obtain⟨m1,m2,rfl,h5,h6⟩:=F2.app_left ha;exact(hf1 _ h5).append (hf2 _ h6)
theorem cj1 {c:Ctx}(hR:eI c){s:Sh}{v:VV}{l:List (El s)}{a:Value}(h:bT9 c.S s v=some l)(hv:VRel c v a):
  tT c s l a∧∀b p n cp,a= .slice (some ⟨b,p,none⟩) n cp→cp≠0→¬c.mut b∨∃k,aC0 v=some k∧(cl c.S k).dim≠none∧c.μ k=some b:=
 bh4 hR (iM hR s) h hv
end
section
open Bool renaming and_eq_true → aD
open List renaming getElem?_eq_getElem → aB, getD_eq_getElem?_getD → aW, getElem?_map → aX, all_append → aZ, getElem?_eq_none → bA, length_drop → bB, length_take → bC
open Nat renaming zero_add → aY, le_of_ble_eq_true → bD
def cy (c:Ctx)(e:ed)(ea:dM):Prop:= ∀t,VRel c (jI e t) (ea t)
theorem cy.frame {c c':Ctx}{e:ed}{ea:dM}(h:cy c e ea)(hl:Le c c'):cy c' e ea:=fun t=>(h t).frame hl
theorem rK {e:ed}{d t:Nat}{v:VV}:jI (na e d v) t=if t=d then v else jI e t:=by
 induction d generalizing e t with
 |zero=>cases e<;>cases t<;>simp[na,jI]
 |succ d ih=>
  cases e with
  |nil=>
   cases t with
   |zero=>simp[na,jI]
   |succ t=>simp[na,jI,ih]
  |cons a r=>
   cases t with
   |zero=>simp[na,jI]
   |succ t=>simp[na,jI,ih]
theorem cy.put {c:Ctx}{e:ed}{ea:dM}(h:cy c e ea){d:Nat}{v:VV}{a:Value}(hv:VRel c v a):cy c (na e d v) (ea.put d a):=by
 intro t;rw[rK];unfold dM.put;by_cases ht:t=d
 ·rw[zE ht,zE ht];exact hv
 ·rw[zF ht,zF ht];exact h t
theorem cy.putO {c:Ctx}{e:ed}{ea:dM}(h:cy c e ea){d:Option Nat}{v:VV}{a:Value}(hv:VRel c v a):cy c (putO e d v) (ea.putO d a):=by
 cases d with
 |none=>exact h
 |some d=>exact h.put hv
theorem bC9 (c:Ctx)(v:Value):VRel c (aK4 v) v:=by
 unfold aK4;split
 ·exact .bool _
 ·exact .int _ _
 ·exact .str rfl
 ·exact .nilp
 ·exact .nils
 ·exact .nilf
 ·exact .undef _
theorem aj4 (c:Ctx)(l:List Value):F2 (VRel c) (l.map aK4) l:=by
 induction l with
 |nil=>exact .nil
 |cons v l ih=>exact .cons (bC9 c v) ih
theorem cu9 (c:Ctx)(v:Value):VRel c (ofC v) v:=by
 unfold ofC;split
 ·rename_i cs;exact .agg (by simpa using aj4 c cs.toList)
 ·exact bC9 c _
theorem dy {c:Ctx}{e:ed}{ea:dM}(h:cy c e ea)(x:Operand):VRel c (ev e x) (ea.ev x):=by
 cases x with
 |tmp t=>exact h t
 |const v=>exact cu9 c v
 |global _=>exact .undef _
 |func f=>exact .fn .nil .nil
theorem aL6 {c:Ctx}{e:ed}{ea:dM}(h:cy c e ea)(xs:List Operand):F2 (VRel c) (xs.map (ev e)) (xs.map ea.ev):=by
 induction xs with
 |nil=>exact .nil
 |cons x xs ih=>exact .cons (dy h x) ih
theorem cx {β:Type}{b:Bool}{x:Option β}{y:β}(h:gd b x=some y):b=true∧x=some y:=by
 cases b with
 |false=>cases h
 |true=>exact⟨rfl,h⟩
theorem bD6 {c:Ctx}{v:VV}{a:Value}(h:VRel c v a)(h1:cw0 v=true):one a=true:=by
 cases h<;>first|rfl|assumption|(cases h1;done)|(rename_i h;rcases h with rfl|⟨_,_,rfl⟩<;>rfl)
theorem iV {c:Ctx}: ∀{l:List VV} {m:List Value},F2 (VRel c) l m→lT l=true→m.all one=true
 |_,_, .nil,_=>rfl
 |_,_, .cons h1 h2,h=>by
  simp only[lT,List.all_cons,aD]at h⊢;exact⟨bD6 h1 h.1,iV h2 h.2⟩
theorem ag8 : ∀(s:Sh) (x:El s),lT (ei s x)=true
 | .int _,_=>rfl
 | .bool,_=>rfl
 | .str,_=>rfl
 | .list _,_=>rfl
 | .pair a b,x=>by
  have h1:=ag8 a x.1;have h2:=ag8 b x.2;simp only[lT,ei,aZ,aD]at*;exact⟨h1,h2⟩
theorem oH (s:Sh)(l:List (El s)):lT (fg s l)=true:=by
 induction l with
 |nil=>rfl
 |cons x l ih=>
  have h1:=ag8 s x;rw[fK];simp only[lT,aZ,aD]at*;exact⟨h1,ih⟩
theorem aA8 {c:Ctx}{v:VV}{a:Value}(h:VRel c v a)(hv:lT (kl v)=true):F2 (VRel c) (kl v) (cellsOf a):=by
 have hone:one a=true→cellsOf a=[a]:=fun h=>by cases a<;>first|rfl|(cases h;done)
 cases v with
 |agg l=>
  cases h with
  |agg h=>exact h
 |undef=>cases hv
 |tup l=>cases hv
 |_=>
  rw[hone (bD6 h rfl)];exact .cons h .nil
theorem dK {T:fB}{op:AOp}{e:dM}{σ σ':Hp}{v:Value}{K:Value→Hp→Prop}(h:op.run e σ=some (v,σ'))(hk:K v σ'):dv T op e σ K:=by
 unfold dv;split
 ·cases h
 ·cases h
 ·rw[h];exact hk
theorem sm {α:Type}: ∀(l:List α) (i:Nat),nth l i=l[i]?
 |[],_=>rfl
 |_::_,0=>rfl
 |_::l,i+1=>by
  rw[show nth (_::l) (i+1)=nth l i from rfl,sm l i];rfl
theorem F2.nth {c:Ctx}{l:List VV}{m:List Value}(h:F2 (VRel c) l m){i:Nat}{v:VV}(hv:nth l i=some v): ∃a,m[i]?=some a∧VRel c v a:=by
 rw[sm]at hv;exact h.get i v hv
theorem aC1 {k:IntKind}: ∀{cs:List VV} {l:List Int},aU5 k cs=some l→cs=l.map (.int k)
 |[],l,h=>by cases h;rfl
 |v::r,l,h=>by
  cases v<;>simp only[aU5]at h<;>try(cases h;done)
  rename_i k' n;cases hk:decide (k'=k)with
  |false=>rw[hk]at h;cases h
  |true=>
   rw[hk,zC]at h;cases h1:aU5 k r with
   |none=>rw[h1]at h;cases h
   |some m=>
    rw[h1]at h;injection h with h
    subst h;rw[aC1 h1,of_decide_eq_true hk];rfl
theorem aS1 : ∀{cs:List VV} {l:List Bool},aS0 cs=some l→cs=l.map .bool
 |[],l,h=>by cases h;rfl
 |v::r,l,h=>by
  cases v<;>simp only[aS0]at h<;>try(cases h;done)
  cases h1:aS0 r with
  |none=>rw[h1]at h;cases h
  |some m=>
   rw[h1]at h;injection h with h
   subst h;rw[aS1 h1];rfl
theorem bj0 : ∀{cs:List VV} {l:List (List Int)},bH0 cs=some l→cs=l.map .str
 |[],l,h=>by cases h;rfl
 |v::r,l,h=>by
  cases v<;>simp only[bH0]at h<;>try(cases h;done)
  cases h1:bH0 r with
  |none=>rw[h1]at h;cases h
  |some m=>
   rw[h1]at h;injection h with h
   subst h;rw[bj0 h1];rfl
theorem bE1 {β:Type}{S:co}{k:VV→co→Option β}{y:β}: ∀{cs:List VV} {i:Nat},bU9 S k cs i=some y→∃v,cs[i]?=some v∧k v S=some y
 |[],_,h=>by cases h
 |v::r,i,h=>by
  simp only[bU9]at h;cases hi:Nat.beq i 0 with
  |true=>
   rw[hi]at h;have:=Nat.eq_of_beq_eq_true hi;subst this;exact⟨v,rfl,h⟩
  |false=>
   rw[hi]at h;obtain⟨w,h1,h2⟩:=bE1 h;have:i≠0:=fun e=>by subst e;cases hi
   obtain⟨j,rfl⟩:=Nat.exists_eq_succ_of_ne_zero this;exact⟨w,h1,h2⟩
theorem bz4 {β:Type}{S:co}{k:VV→co→Option β}{y:β}{cs:List VV}{i:Nat}(hi:i<cs.length)(h:bz3 cs i S k=some y): ∃v,cs[i]?=some v∧k v S=some y:=by
 unfold bz3 at h;split at h
 ·rename_i kd n r;split at h
  ·rename_i l hl;have:=aC1 hl;subst this;refine⟨_, ?_,h⟩;rw[show(VV.int kd n::l.map (VV.int kd))=(n::l).map (VV.int kd)from rfl,aX];have hi':i<(n::l).length:=by simpa using hi
   rw[aB hi',aW,aB hi'];rfl
  ·cases h
 ·rename_i b r;split at h
  ·rename_i l hl;have:=aS1 hl;subst this;refine⟨_, ?_,h⟩;rw[show(VV.bool b::l.map VV.bool)=(b::l).map VV.bool from rfl,aX];have hi':i<(b::l).length:=by simpa using hi
   rw[aB hi',aW,aB hi'];rfl
  ·cases h
 ·rename_i b r;split at h
  ·rename_i l hl;have:=bj0 hl;subst this;refine⟨_, ?_,h⟩;rw[show(VV.str b::l.map VV.str)=(b::l).map VV.str from rfl,aX];have hi':i<(b::l).length:=by simpa using hi
   rw[aB hi',aW,aB hi'];rfl
  ·cases h
 ·exact bE1 h
theorem eI.block {c:Ctx}(hR:eI c){k b:Nat}{d:Nat×Nat}(hd:(cl c.S k).dim=some d)(hm:c.μ k=some b):
  ∃y cs rest,c.σ.m b=some y∧y.es=d.1∧((cl c.S k).frozen=false→y.own=true)∧y.cells=cs++rest∧F2 (VRel c) (cl c.S k).vals cs:=by
 obtain⟨_,h⟩:=hR.blk k d hd;rcases h with⟨_,h⟩|⟨b',y,cs,rest,h,h'⟩
 ·rw[h]at hm;cases hm
 ·rw[hm]at h;injection h with h
  subst h;exact⟨y,cs,rest,h'⟩
def qy (c:Ctx)(cs:List VV)(b p:Nat):Prop:= ∃y,c.σ.m b=some y∧p+cs.length≤y.cells.length∧F2 (VRel c) cs ((y.cells.drop p).take cs.length)
theorem qy.get {c:Ctx}{cs:List VV}{b p:Nat}(h:qy c cs b p){o:Nat}{v:VV}(hv:nth cs o=some v): ∃y a,c.σ.m b=some y∧y.cells[p+o]?=some a∧VRel c v a:=by
 obtain⟨y,h1,h2,h3⟩:=h;obtain⟨a,h4,h5⟩:=F2.nth h3 hv;refine⟨y,a,h1, ?_,h5⟩;rw[sm]at hv
 have ho:o<cs.length:=by
  rcases Nat.lt_or_ge o cs.length with h|h
  ·exact h
  ·rw[bA h]at hv;cases hv
 rwa [List.getElem?_take,zE ho,List.getElem?_drop]at h4
theorem qy.read {c:Ctx}{cs:List VV}{b p:Nat}(h:qy c cs b p){o n:Nat}(hn:o+n≤cs.length): ∃y as,c.σ.m b=some y∧mK y (p+o) n=some as∧F2 (VRel c) ((cs.drop o).take n) as:=by
 obtain⟨y,h1,h2,h3⟩:=h;refine⟨y,(y.cells.drop (p+o)).take n,h1,zE (by omega), ?_⟩;have h4:=(h3.drop o).take n;rw[List.drop_take,List.drop_drop,List.take_take,Nat.min_eq_left (by omega)]at h4;exact h4
theorem eI.stands {c:Ctx}(hR:eI c){k b:Nat}{d:Nat×Nat}(hd:(cl c.S k).dim=some d)(hm:c.μ k=some b):qy c (cl c.S k).vals b 0:=by
 obtain⟨y,cs,rest,h1,_,_,h2,h3⟩:=hR.block hd hm;have hl:=h3.length;refine⟨y,h1,by rw[h2,List.length_append];omega, ?_⟩;rw[List.drop_zero,h2,List.take_append_of_le_length (by omega),List.take_of_length_le (by omega)];exact h3
theorem qy.part {c:Ctx}{cs:List VV}{b p:Nat}(h:qy c cs b p){o n:Nat}(hn:o+n≤cs.length):qy c ((cs.drop o).take n) b (p+o):=by
 obtain⟨y,h1,h2,h3⟩:=h;have hl:((cs.drop o).take n).length=n:=by rw[bC,bB];omega
 refine⟨y,h1,by rw[hl];omega, ?_⟩;have h4:=(h3.drop o).take n;rw[List.drop_take,List.drop_drop,List.take_take,Nat.min_eq_left (by omega)]at h4
 rwa [hl]
theorem bE9 {β:Type}{c:Ctx}(hR:eI c){n:Nat}{agg:Bool}{v:VV}{a:Value}{k:VV→co→Option β}{y:β}(h:bi7 c.S n agg v k=some y)(hv:VRel c v a):
  ∃b o x,a= .pointer (some ⟨b,o,none⟩)∧c.σ.m b=some x∧
   (agg=false→∃u w,x.cells[o]?=some u∧VRel c w u∧k w c.S=some y)∧
   (agg=true→∃us ws,mK x o n=some us∧F2 (VRel c) ws us∧k (.agg ws) c.S=some y):=by
 have out: ∀(cs:List VV) (b p o:Nat),qy c cs b p→a= .pointer (some ⟨b,p+o,none⟩)→
   cond agg (gd (Nat.ble (o+n) cs.length) (k (.agg ((cs.drop o).take n)) c.S)) (match nth cs o with
    |some v=>k v c.S
    |none=>none)=some y→
   ∃b o x,a= .pointer (some ⟨b,o,none⟩)∧c.σ.m b=some x∧
   (agg=false→∃u w,x.cells[o]?=some u∧VRel c w u∧k w c.S=some y)∧
   (agg=true→∃us ws,mK x o n=some us∧F2 (VRel c) ws us∧k (.agg ws) c.S=some y):=by
  intro cs b p o hs ha h;cases agg with
  |true=>
   obtain⟨h1,h2⟩:=cx h;obtain⟨x,as,h3,h4,h5⟩:=hs.read (bD h1);exact⟨b,p+o,x,ha,h3,(by intro h;cases h),fun _=>⟨as,_,h4,h5,h2⟩⟩
  |false=>
   rw[zD]at h;split at h
   ·rename_i w hw;obtain⟨x,u,h3,h4,h5⟩:=hs.get hw;exact⟨b,p+o,x,ha,h3,(fun _=>⟨u,w,h4,h5,h⟩),(by intro h;cases h)⟩
   ·cases h
 unfold bi7 at h;cases v with
 |ptr q o=>
  simp only at h;cases hb:cl c.S q with
  |dead=>rw[hb]at h;cases h
  |arr s z l=>rw[hb]at h;cases h
  |cells es z l=>
   rw[hb]at h;cases hv with
   |ptr hk _ hd=>
    obtain⟨b,hm,ha⟩:=hd (es,l.length) (by rw[hb];rfl);have hs:=hR.stands (k:=q) (d:=(es,l.length)) (by rw[hb];rfl) hm;rw[hb]at hs;exact out l b 0 o hs (by rw[ha,aY]) h
 |pix q o m i=>
  simp only at h;cases hb:cl c.S q with
  |dead=>rw[hb]at h;cases h
  |arr s z l=>rw[hb]at h;cases h
  |cells es z l=>
   rw[hb]at h;obtain⟨h1,h2⟩:=cx h;rw[aD]at h1;have h3:=bD h1.2;have hagg:agg=false:=by simpa using h1.1
   subst hagg;cases hv with
   |pix hk _ hi hd=>
    obtain⟨b,hm,ha⟩:=hd (es,l.length) (by rw[hb];rfl);have hs:=hR.stands (k:=q) (d:=(es,l.length)) (by rw[hb];rfl) hm;rw[hb]at hs;have hlen:((l.drop o).take m).length=m:=by rw[bC,bB];omega
    obtain⟨w,h4,h5⟩:=bz4 (by omega) h2;have hs':qy c ((l.drop o).take m) b (0+o):=qy.part (cs:=l) hs h3;rw[←sm]at h4;obtain⟨x,u,h6,h7,h8⟩:=hs'.get h4;exact⟨b,o+i,x,ha,h6,(fun _=>⟨u,w,by rwa [aY]at h7,h8,h5⟩),(by intro h;cases h)⟩
 |pel q i o=>
  simp only at h;cases hb:cl c.S q with
  |dead=>rw[hb]at h;cases h
  |cells es z l=>rw[hb]at h;cases h
  |arr s z l=>
   rw[hb]at h;simp only at h;cases hx:l[i]? with
   |none=>rw[hx]at h;cases h
   |some x=>
    rw[hx]at h;cases hv with
    |pel hk _ hd=>
     obtain⟨b,hm,ha⟩:=hd (s.w,l.length*s.w) (by rw[hb];rfl);have hs:=hR.stands (k:=q) (d:=(s.w,l.length*s.w)) (by rw[hb];rfl) hm;rw[hb]at hs
     have hi:i<l.length:=by
      rcases Nat.lt_or_ge i l.length with h|h
      ·exact h
      ·rw[bA h]at hx;cases hx
     have hle:i*s.w+s.w≤(fg s l).length:=by
      rw[fS,←Nat.succ_mul];exact Nat.mul_le_mul_right _ hi
     have hs':qy c (((fg s l).drop (i*s.w)).take s.w) b (0+i*s.w):=qy.part (cs:=fg s l) hs hle;rw[aB7 hx,aY]at hs';exact out (ei s x) b (i*s.w) o hs' ha h
 |pin s x o=>
  simp only at h;cases hv with
  |pin hn hy hl hf=>
   exact out (ei s x) _ _ o ⟨_,hy,by rw[eu];exact hl,by rw[eu];exact hf⟩ rfl h
 |_=>cases h
end
section
open Nat renaming lt_of_lt_of_le → aB
theorem aN3.frame {c c':Ctx}(hl:Le c c'){k:Nat}(h:aN3 c k)(hS:cl c'.S k=cl c.S k)(hμ:(cl c.S k).dim≠none→c'.μ k=c.μ k)(hσ: ∀b y,(cl c.S k).dim≠none→c.μ k=some b→c.σ.m b=some y→c'.σ.m b=some y):aN3 c' k:=by
 intro d hd;rw[hS]at hd;obtain⟨h1,h2⟩:=h d hd;have hm:=hμ (by rw[hd];simp);refine⟨h1, ?_⟩;rcases h2 with⟨h3,h4⟩|⟨b,y,cs,rest,h3,h4,h5,h6,h7,h8⟩
 ·exact .inl ⟨h3,hm.trans h4⟩
 ·exact .inr ⟨b,y,cs,rest,hm.trans h3,hσ b y (by rw[hd];simp) h3 h4,h5,by rw[hS];exact h6,h7,by rw[hS];exact VRel.frames hl h8⟩
def qb (S S':co):Prop:=S'.length=S.length∧∀k,cl S' k=cl S k∨cl S' k=(cl S k).freeze
theorem qb.refl (S:co):qb S S:=⟨rfl,fun _=> .inl rfl⟩
theorem be5 {b:Blk}:b.freeze.freeze=b.freeze:=by cases b<;>rfl
theorem qb.trans {a b c:co}(h:qb a b)(k:qb b c):qb a c:=by
 refine⟨k.1.trans h.1,fun i=> ?_⟩;rcases h.2 i with h1|h1<;>rcases k.2 i with h2|h2
 ·exact .inl (h2.trans h1)
 ·exact .inr (by rw[h2,h1])
 ·exact .inr (h2.trans h1)
 ·exact .inr (by rw[h2,h1,be5])
theorem qb.put {S:co}{k:Nat}:qb S (ja S k (cl S k).freeze):=by
 refine⟨ag3,fun i=> ?_⟩;rw[tx];split
 ·rename_i h;rw[h.1];exact .inr rfl
 ·exact .inl rfl
theorem qb.fold {f:co→VV→co}(hf: ∀S v,qb S (f S v)): ∀(l:List VV) (S:co),qb S (l.foldl f S)
 |[],S=>qb.refl S
 |v::l,S=>(hf S v).trans (qb.fold hf l _)
theorem bT0 : ∀(n:Nat) (S:co) (v:VV),qb S (fzv n S v)
 |0,S,_=>qb.refl S
 |n+1,S,v=>by
  have key: ∀k,qb S (match cl S k with
    | .cells es _ l=>l.foldl (fzv n) (ja S k (.cells es true l))
    |b=>ja S k b.freeze):=by
   intro k;have hp:=qb.put (S:=S) (k:=k);split
   ·rename_i es z l h;rw[h]at hp;exact qb.trans hp (qb.fold (bT0 n) l _)
   ·exact hp
  unfold fzv;split
  ·exact key _
  ·exact key _
  ·exact qb.refl S
theorem ai8 (S:co)(l:List VV):qb S (fzL S l):=qb.fold (bT0 3) l S
theorem ch8 (S:co)(v:VV):qb S (cD1 S v):=by
 unfold cD1;split
 ·split
  ·exact ai8 S _
  ·exact qb.refl S
 ·split
  ·exact ai8 S _
  ·exact qb.refl S
 ·exact qb.refl S
theorem bZ7 (k:Sk)(v:VV)(S:co):qb S (ch7 k v S):=by
 unfold ch7;split
 ·exact ch8 S v
 ·exact qb.refl S
theorem aU1 : ∀(l:List Sk) (vs:List VV) (S:co),qb S (ae6 l vs S)
 |[],_,S=>qb.refl S
 |_::_,[],S=>qb.refl S
 |k::r,v::vs,S=>(bZ7 k v S).trans (aU1 r vs _)
theorem qC : ∀(l:List Nat) (S:co),qb S (yU l S)
 |[],S=>qb.refl S
 |_::l,S=>qb.put.trans (qC l _)
theorem qb.dim {S S':co}(h:qb S S')(k:Nat):(cl S' k).dim=(cl S k).dim:=by
 rcases h.2 k with h|h<;>rw[h]
 exact fc
theorem qb.vals {S S':co}(h:qb S S')(k:Nat):(cl S' k).vals=(cl S k).vals:=by
 rcases h.2 k with h|h<;>rw[h]
 exact aH1
theorem qb.fz {S S':co}(h:qb S S'){k:Nat}(hz:(cl S' k).frozen=false):cl S' k=cl S k:=by
 rcases h.2 k with h|h
 ·exact h
 ·rw[h,ko]at hz;cases hz
theorem qb.le {c:Ctx}{S':co}(h:qb c.S S'):Le c ⟨c.μ,S',c.σ,c.fb⟩:=by
 refine⟨Nat.le_of_eq h.1.symm,fun k d _ hd=>⟨(h.dim k)▸hd,rfl⟩,fun k hk _=> ?_,fun _ _ _ y _ _ _ hy=>⟨y,hy,rfl⟩,fun b y hy _=>hy,fun b y hy hn=> ?_,Nat.le_refl _,rfl⟩
 ·rcases h.2 k with h|h
  ·exact h
  ·exact h.trans (wJ hk)
 ·rintro⟨k,h1,h2⟩;exact hn ⟨k,by rw[←h.fz h1];exact h1,h2⟩
theorem qb.rel {c:Ctx}(hR:eI c){S':co}(h:qb c.S S'):eI ⟨c.μ,S',c.σ,c.fb⟩:=by
 refine⟨hR.ok,fun k k' b hk hk' hm hm'=>hR.inj k k' b (by rw[←h.fz hk];exact hk) (by rw[←h.dim];exact hk') hm hm',fun k d hd=> ?_,fun k b hk hm=>hR.fbk k b (by rw[←h.dim];exact hk) hm,hR.fbl⟩;have hd':(cl c.S k).dim=some d:=(h.dim k)▸hd;obtain⟨h1,h2⟩:=hR.blk k d hd';refine⟨h1, ?_⟩;rcases h2 with h2|⟨b,y,cs,rest,h3,h4,h5,h6,h7,h8⟩
 ·exact .inl h2
 ·exact .inr ⟨b,y,cs,rest,h3,h4,h5,fun hz=>h6 (by rw[←h.fz hz];exact hz),h7,by rw[h.vals k];exact VRel.frames h.le h8⟩
theorem qb.calm {c:Ctx}{S':co}(d:List Nat)(h:qb c.S S'):qX d c ⟨c.μ,S',c.σ,c.fb⟩:=fun k _ _ hk=>⟨by rw[h.dim];exact hk,fun _ _=>rfl⟩
theorem qX.trans {a b c:Ctx}{d:List Nat}(h:qX d a b)(k:qX d b c)(hl:Le a b):qX d a c:=by
 intro i hi hd hn;obtain⟨h1,h2⟩:=h i hi hd hn;obtain⟨h3,h4⟩:=k i (aB hi hl.len) hd h1;refine⟨h3,fun x hx=> ?_⟩
 have hx':b.μ i=some x:=by
  cases hb:(cl b.S i).dim with
  |none=>exact(h1 hb).elim
  |some z=>exact(hl.al i z hi hb).2.trans hx
 exact(h4 x hx').trans (h2 x hx)
def bQ8 (c:Ctx)(kill:Option Nat)(b:Nat):Prop:= ∃k,kill=some k∧c.μ k=some b
def sJ (c:Ctx)(b1:Option Nat):Nat→Option Nat:=fun i=>if i=c.S.length then b1 else c.μ i
theorem tv {S:co}{kill:Option Nat}:(nI S kill).length=S.length:=by cases kill<;>simp[nI,ag3]
theorem ca5 {S:co}{kill:Option Nat}{i:Nat}:cl (nI S kill) i=if kill=some i then .dead else cl S i:=by
 cases kill with
 |none=>simp[nI]
 |some k=>
  simp only[nI,tx,Option.some.injEq];by_cases h:i=k
  ·subst h;by_cases h1:i<S.length
   ·simp[h1]
   ·simp[h1,rM (Nat.le_of_not_lt h1)]
  ·simp[h,Ne.symm h]
structure Moves (c:Ctx)(kill:Option Nat)(b1:Option Nat)(blk:Blk)(σ':Hp):Prop where
 fr: ∀b,b1=some b→(∀z,c.σ.m b≠some z)→¬c.fb b
 kz: ∀k,kill=some k→(cl c.S k).frozen=false
 ok:σ'.Ok
 n:c.σ.n≤σ'.n
 old: ∀i y,c.σ.m i=some y→¬bQ8 c kill i→σ'.m i=some y
 one: ∃d,blk.dim=some d∧1≤d.1∧((b1=none∧d.2=0)∨∃b y cs rest,b1=some b∧σ'.m b=some y∧y.es=d.1∧(blk.frozen=false→y.own=true)∧y.cells=cs++rest∧F2 (VRel c) blk.vals cs∧((∀z,c.σ.m b≠some z)∨bQ8 c kill b))
section
variable {c:Ctx} {kill b1:Option Nat} {blk:Blk} {σ':Hp}
theorem iO (i:Nat):cl (nI c.S kill++[blk]) i=if i=c.S.length then blk else if kill=some i then .dead else cl c.S i:=by
 by_cases h:i=c.S.length
 ·subst h;rw[zE rfl,←tv (S:=c.S) (kill:=kill),bG6]
 ·rw[zF h];by_cases h1:i<c.S.length
  ·rw[kr (by rw[tv];exact h1),ca5]
  ·have h2:c.S.length<i:=by omega
   rw[rM (by rw[List.length_append,tv];simp;omega),rM (k:=i) (S:=c.S) (by omega)];split<;>rfl
theorem Moves.low (hR:eI c)(h:Moves c kill b1 blk σ'){i b:Nat}(_:i≠c.S.length)(hk:kill≠some i)(hd:(cl c.S i).dim≠none)(hm:c.μ i=some b): ¬bQ8 c kill b:=by
 rintro⟨k,rfl,h1⟩;exact hk (congrArg some (hR.inj k i b (h.kz k rfl) hd h1 hm))
theorem Moves.le (hR:eI c)(h:Moves c kill b1 blk σ'):Le c ⟨sJ c b1,nI c.S kill++[blk],σ',c.fb⟩:=by
 have hlt: ∀k,k<c.S.length→k≠c.S.length:=fun k hk=>by omega
 refine⟨by simp[tv],fun k d hk hd=> ?_,fun k hz hd=> ?_,fun k d b y hk hd hm hy=> ?_,fun b y hy hn=>h.old b y hy fun⟨k,e,hm⟩=>hn ⟨k,h.kz k e,hm⟩,fun b y hy hn=> ?_,h.n,rfl⟩
 ·simp only[iO,zF (hlt k hk)]at hd;split at hd
  ·cases hd
  ·exact⟨hd,zF (hlt k hk)⟩
 ·have hk:=jP hd;simp only[iO,zF (hlt k hk)];rw[zF];intro e;have:=h.kz k e;rw[hz]at this;cases this
 ·simp only[iO,zF (hlt k hk)]at hd;split at hd
  ·cases hd
  ·rename_i hne;exact⟨y,h.old b y hy (h.low hR (hlt k hk) hne (by rw[hd];simp) hm),rfl⟩
 ·have hnk: ¬bQ8 c kill b:=fun⟨k,e,hm⟩=>hn ⟨k,h.kz k e,hm⟩
  rintro⟨k,h1,h2⟩;simp only[iO]at h1;simp only[sJ]at h2;by_cases hk:k=c.S.length
  ·rw[zE hk]at h1 h2;obtain⟨d,_,_,h3⟩:=h.one;rcases h3 with⟨h3,_⟩|⟨b',y',cs,rest,h3,_,_,_,_,_,h4⟩
   ·rw[h3]at h2;cases h2
   ·rw[h3]at h2;injection h2 with h2
    subst h2;rcases h4 with h4|h4
    ·exact h4 y hy
    ·exact hnk h4
  ·rw[zF hk]at h1 h2;split at h1
   ·cases h1
   ·exact hn ⟨k,h1,h2⟩
theorem Moves.rel (hR:eI c)(h:Moves c kill b1 blk σ'):eI ⟨sJ c b1,nI c.S kill++[blk],σ',c.fb⟩:=by
 have hle:=h.le hR
 have hnew: ∀i b,i≠c.S.length→kill≠some i→(cl c.S i).dim≠none→c.μ i=some b→b1≠some b:=by
  intro i b hi hk hd hm e;obtain⟨d,_,_,h3⟩:=h.one;rcases h3 with⟨h3,_⟩|⟨b',y',cs,rest,h3,_,_,_,_,_,h4⟩
  ·rw[h3]at e;cases e
  ·rw[h3]at e;injection e with e
   subst e;rcases h4 with h4|h4
   ·cases hdd:(cl c.S i).dim with
    |none=>exact hd hdd
    |some dd=>
     obtain⟨y,_,_,hy,_⟩:=hR.block hdd hm;exact h4 y hy
   ·exact h.low hR hi hk hd hm h4
 have hfb: ∀b,c.fb b→b1≠some b:=by
  intro b hb e;obtain⟨d,_,_,h3⟩:=h.one;rcases h3 with⟨h3,_⟩|⟨b',y',cs,rest,h3,_,_,_,_,_,h4⟩
  ·rw[h3]at e;cases e
  ·rw[h3]at e;injection e with e
   subst e;rcases h4 with h4|⟨k,h4,h5⟩
   ·exact h.fr _ h3 h4 hb
   ·exact hR.fbk k _ (jH (h.kz k h4)) h5 hb
 refine⟨h.ok,fun k k' b hk hk' hm hm'=> ?_,fun k=> ?_,fun k b hk hm hb=> ?_,fun b hb=>aB (hR.fbl b hb) h.n⟩
 rotate_left 2
 ·simp only[iO]at hk;simp only[sJ]at hm;by_cases h1:k=c.S.length
  ·rw[zE h1]at hm;exact hfb b hb hm
  ·rw[zF h1]at hm hk;split at hk
   ·exact hk rfl
   ·exact hR.fbk k b hk hm hb
 ·simp only[iO]at hk hk';simp only[sJ]at hm hm';by_cases h1:k=c.S.length<;>by_cases h2:k'=c.S.length
  ·omega
  ·rw[zE h1]at hm;rw[zF h2]at hm' hk';split at hk'
   ·exact(hk' rfl).elim
   ·rename_i hne;exact(hnew k' b h2 hne hk' hm' hm).elim
  ·rw[zF h1]at hm hk;rw[zE h2]at hm';split at hk
   ·cases hk
   ·rename_i hne;exact(hnew k b h1 hne (jH hk) hm hm').elim
  ·rw[zF h1]at hm hk;rw[zF h2]at hm' hk';split at hk
   ·cases hk
   ·split at hk'
    ·exact(hk' rfl).elim
    ·exact hR.inj k k' b hk hk' hm hm'
 ·by_cases hk:k=c.S.length
  ·subst hk;intro d hd;simp only[iO,if_true]at hd⊢;obtain⟨d',h1,h2,h3⟩:=h.one;rw[hd]at h1;injection h1 with h1
   subst h1;refine⟨h2, ?_⟩;simp only[sJ,if_true];rcases h3 with⟨h3,h4⟩|⟨b',y',cs,rest,h3,h4,h5,h6,h7,h8,_⟩
   ·exact .inl ⟨h4,h3⟩
   ·exact .inr ⟨b',y',cs,rest,h3,h4,h5,h6,h7,VRel.frames hle h8⟩
  ·by_cases hne:kill=some k
   ·intro d hd;simp only[iO,zF hk,zE hne]at hd;cases hd
   ·refine(hR.blk k).frame hle ?_ (fun _=>zF hk) fun b y hd hm hy=> ?_
    ·simp only[iO,zF hk,zF hne]
    ·exact h.old b y hy (h.low hR hk hne hd hm)
theorem Moves.calm (hR:eI c)(h:Moves c kill b1 blk σ'){d:List Nat}(hd: ∀k,kill=some k→k∈d):qX d c ⟨sJ c b1,nI c.S kill++[blk],σ',c.fb⟩:=by
 intro k hk hn hdim;have h1:k≠c.S.length:=by omega
 have h2:kill≠some k:=fun e=>hn (hd k e)
 simp only[iO,zF h1,zF h2];refine⟨hdim,fun b hm=> ?_⟩;cases hdd:(cl c.S k).dim with
 |none=>exact(hdim hdd).elim
 |some dd=>
  obtain⟨y,_,_,hy,_⟩:=hR.block hdd hm;rw[hy];exact h.old b y hy (h.low hR h1 h2 hdim hm)
end
theorem bW8 {c:Ctx}(hR:eI c){blk:Blk}{x:Ab.Blk}{d:Nat×Nat}(hd:blk.dim=some d)(h1:1≤d.1)(he:x.es=d.1)(ho:x.own=true)(hf:F2 (VRel c) blk.vals x.cells):
  Moves c none (some c.σ.n) blk (c.σ.add x):=by
 refine⟨(fun b h _ hb=>by injection h with h;subst h;exact Nat.lt_irrefl _ (hR.fbl _ hb)),(fun _ h=>by cases h),fun b y hy=> ?_,Nat.le_succ _,fun i y hy _=> ?_,d,hd,h1, .inr ⟨c.σ.n,x,x.cells,[],rfl,zE rfl,he,fun _=>ho,by simp,hf, .inl fun z hz=> ?_⟩⟩
 ·simp only[Hp.add]at hy⊢;split at hy
  ·omega
  ·have:=hR.ok b y hy;omega
 ·have:=hR.ok i y hy;simp only[Hp.add];rw[zF (by omega)];exact hy
 ·have:=hR.ok _ _ hz;omega
structure Writes (c:Ctx)(k b:Nat)(blk:Blk)(y':Ab.Blk):Prop where
 kz:(cl c.S k).frozen=false
 mu:c.μ k=some b
 dim:blk.dim=(cl c.S k).dim
 fz:blk.frozen=false
 one: ∃y cs rest d,c.σ.m b=some y∧(cl c.S k).dim=some d∧y'.es=d.1∧y'.own=true∧y'.cells.length=y.cells.length∧y'.cells=cs++rest∧F2 (VRel c) blk.vals cs
section
variable {c:Ctx} {k b:Nat} {blk:Blk} {y':Ab.Blk}
theorem Writes.get (h:Writes c k b blk y')(i:Nat):cl (ja c.S k blk) i=if i=k then blk else cl c.S i:=by
 rw[tx];have:=jP (jH h.kz);by_cases hi:i=k
 ·rw[zE ⟨hi,this⟩,zE hi]
 ·rw[zF (fun e=>hi e.1),zF hi]
theorem Writes.low (hR:eI c)(h:Writes c k b blk y'){i b':Nat}(hi:i≠k)(hd:(cl c.S i).dim≠none)(hm:c.μ i=some b'):b'≠b:=by
 rintro rfl;exact hi (hR.inj k i b' h.kz hd h.mu hm).symm
theorem Writes.le (hR:eI c)(h:Writes c k b blk y'):Le c ⟨c.μ,ja c.S k blk,c.σ.set b (some y'),c.fb⟩:=by
 refine⟨by simp[ag3],fun i d _ hd=> ?_,fun i hz hd=> ?_,fun i d x y _ hd hm hy=> ?_,fun x y hy hn=> ?_,fun x y hy hn=> ?_,Nat.le_refl _,rfl⟩
 ·simp only[h.get]at hd;split at hd
  ·rename_i e;subst e;exact⟨h.dim▸hd,rfl⟩
  ·exact⟨hd,rfl⟩
 ·simp only[h.get];rw[zF];rintro rfl;rw[h.kz]at hz;cases hz
 ·by_cases e:x=b
  ·subst e;obtain⟨y0,_,_,_,h1,_,_,_,h2,_⟩:=h.one;rw[hy]at h1;injection h1 with h1
   subst h1;exact⟨y',by simp[Hp.set],h2⟩
  ·exact⟨y,by simp[Hp.set,e,hy],rfl⟩
 ·have hne:x≠b:=by rintro rfl;exact hn ⟨k,h.kz,h.mu⟩
  simp[Hp.set,hne,hy]
 ·rintro⟨i,h1,h2⟩;simp only[h.get]at h1;split at h1
  ·rename_i e;subst e;exact hn ⟨i,h.kz,h2⟩
  ·exact hn ⟨i,h1,h2⟩
theorem Writes.rel (hR:eI c)(h:Writes c k b blk y'):eI ⟨c.μ,ja c.S k blk,c.σ.set b (some y'),c.fb⟩:=by
 have hle:=h.le hR
 have hfz: ∀i,(cl (ja c.S k blk) i).frozen=false→(cl c.S i).frozen=false:=by
  intro i hi;rw[h.get]at hi;split at hi
  ·rename_i e;subst e;exact h.kz
  ·exact hi
 have hdm: ∀i,(cl (ja c.S k blk) i).dim=(cl c.S i).dim:=by
  intro i;rw[h.get];split
  ·rename_i e;subst e;exact h.dim
  ·rfl
 refine⟨fun x z hz=> ?_,fun i j x hi hj hm hm'=>hR.inj i j x (hfz i hi) (by rw[←hdm];exact hj) hm hm',fun i=> ?_,fun i x hi hm=>hR.fbk i x (by rw[←hdm];exact hi) hm,hR.fbl⟩
 ·simp only[Hp.set]at hz;split at hz
  ·rename_i e;subst e;obtain⟨y,_,_,_,h1,_⟩:=h.one;exact hR.ok _ _ h1
  ·exact hR.ok _ _ hz
 ·by_cases e:i=k
  ·subst e;intro d hd;obtain⟨y,cs,rest,d',h1,h2,h3,h4,h5,h6,h7⟩:=h.one;have hd':(cl c.S i).dim=some d:=by rw[←hdm];exact hd
   rw[hd']at h2;injection h2 with h2
   subst h2;refine⟨(hR.blk i d hd').1, .inr ⟨b,y',cs,rest,h.mu,by simp[Hp.set],h3,fun _=>h4,h6, ?_⟩⟩;simp only[h.get,if_true];exact VRel.frames hle h7
  ·refine(hR.blk i).frame hle (by simp only[h.get,zF e]) (fun _=>rfl) fun x z hd hm hz=> ?_
   have:=h.low hR e hd hm;simp[Hp.set,this,hz]
theorem Writes.calm (hR:eI c)(h:Writes c k b blk y'){d:List Nat}(hd:k∈d):qX d c ⟨c.μ,ja c.S k blk,c.σ.set b (some y'),c.fb⟩:=by
 intro i _ hn hdim;have hne:i≠k:=by rintro rfl;exact hn hd
 simp only[h.get,zF hne];refine⟨hdim,fun x hm=> ?_⟩;have:=h.low hR hne hdim hm;simp[Hp.set,this]
end
end
section
open Bool renaming and_eq_true → aB
open List renaming replicate → aX, nil_append → bB, append_assoc → bD, drop_append → bE, drop_of_length_le → bF, length_append → bG, length_cons → bH, length_take → bI, replicate_succ → bJ, take_append_drop → bK
open Nat renaming beq → aD, le_of_ble_eq_true → aW, eq_of_beq_eq_true → aY, ble → aZ, le_refl → bA, zero_add → bC
section
variable {β:Type} {T:fB} {c:Ctx} {e:ed} {ea:dM} {k:VV→co→Option β} {y:β} {d:List Nat}
theorem VRel.bool_inv {b:Bool}{a:Value}(h:VRel c (.bool b) a):a= .bool b:=by cases h;rfl
theorem VRel.int_inv {kd:IntKind}{n:Int}{a:Value}(h:VRel c (.int kd n) a):a= .int kd n:=by cases h;rfl
theorem VRel.str_inv {l:List Int}{a:Value}(h:VRel c (.str l) a): ∃s,a= .string s∧gM s=l:=by cases h;exact⟨_,rfl,by assumption⟩
theorem VRel.agg_inv {l:List VV}{a:Value}(h:VRel c (.agg l) a): ∃as:Array Value,a= .agg as∧F2 (VRel c) l as.toList:=by cases h;exact⟨_,rfl,by assumption⟩
theorem VRel.tup_inv {l:List VV}{a:Value}(h:VRel c (.tup l) a): ∃as:Array Value,a= .tuple as∧F2 (VRel c) l as.toList:=by cases h;exact⟨_,rfl,by assumption⟩
theorem bG4 {p:Bool}{x z v:VV}{xa za:Value}(h:cn8 p x z=some v)(hx:VRel c x xa)(hz:VRel c z za):VRel c v (cond p xa za):=by
 unfold cn8 at h;split at h
 ·rename_i k1 n1 k2 n2;cases hk:decide (k1=k2)with
  |false=>rw[hk]at h;cases h
  |true=>
   rw[hk]at h;injection h with h
   subst h;have:=of_decide_eq_true hk;subst this;rw[hx.int_inv,hz.int_inv];cases p<;>exact .int _ _
 ·injection h with h
  subst h;rw[hx.bool_inv,hz.bool_inv];cases p<;>exact .bool _
 ·injection h with h
  subst h;cases p<;>assumption
 ·cases h
theorem cu3 (hR:eI c)(he:cy c e ea){x:Operand}(h:k (ev e x) c.S=some y):dv T (.move x) ea c.σ (ia c d k y):=
 dK rfl (ia.same hR (dy he x) h)
theorem cw2 (hR:eI c)(he:cy c e ea){t a b:Operand}{p:Bool}(hp:ev e t= .bool p)(h:cm0 p (ev e a) (ev e b) c.S k=some y):dv T (.pick t a b) ea c.σ (ia c d k y):=by
 have ht:=dy he t;rw[hp]at ht;have ht:=ht.bool_inv
 have key: ∀v,VRel c v (cond p (ea.ev a) (ea.ev b))→k v c.S=some y→dv T (.pick t a b) ea c.σ (ia c d k y):=by
  intro v hv hk;refine dK (v:=cond p (ea.ev a) (ea.ev b)) (σ':=c.σ) ?_ (ia.same hR hv hk);simp only[AOp.run,ht];cases p<;>rfl
 unfold cm0 at h;split at h
 ·rename_i v hs;exact key v (bG4 hs (dy he a) (dy he b)) h
 ·cases p with
  |true=>exact key _ (dy he a) h
  |false=>exact key _ (dy he b) h
theorem ia.new {v:Value}{vv:VV}{b1:Option Nat}{blk:Blk}{σ':Hp}{kill:Option Nat}(hR:eI c)(h:Moves c kill b1 blk σ')(hd: ∀q,kill=some q→q∈d)(hv:VRel ⟨sJ c b1,nI c.S kill++[blk],σ',c.fb⟩ vv v)(hk:k vv (nI c.S kill++[blk])=some y):ia c d k y v σ':=
 ⟨vv,_,rfl,h.le hR,h.rel hR,h.calm hR hd,hv,hk⟩
theorem bU5 {blk:Blk}{x:Ab.Blk}{dm:Nat×Nat}(_:blk.dim=some dm):VRel ⟨sJ c (some c.σ.n),nI c.S none++[blk],c.σ.add x,c.fb⟩ (.ptr c.S.length 0) (.pointer (some ⟨c.σ.n,0,none⟩)):=by
 refine .ptr (by simp[nI]) rfl fun d' _=>⟨c.σ.n, ?_,rfl⟩
 simp[sJ]
theorem cp6 : ∀{z:List Value},z.all cD8=true→z=aX z.length (.int .u8 0)
 |[],_=>rfl
 |v::z,h=>by
  rw[List.all_cons,aB]at h
  have h1:v= .int .u8 0:=by
   have h0:=h.1;unfold cD8 at h0;split at h0
   ·rw[of_decide_eq_true h0]
   ·cases h0
  rw[bH,bJ,←cp6 h.2,h1]
theorem tc (es:Nat)(z:List Value):(ad6 es z).dim=some (es,z.length)∧(ad6 es z).frozen=false∧∀c:Ctx,F2 (VRel c) (ad6 es z).vals z:=by
 unfold ad6;cases hb:bK8 es z with
 |false=>
  rw[zD];exact⟨by simp[Blk.dim],rfl,fun c=>aj4 c z⟩
 |true=>
  rw[zC];unfold bK8 at hb;rw[aB,aB]at hb;have he:=aY hb.1.1;subst he;refine⟨by simp[Blk.dim,Sh.w],rfl,fun c=> ?_⟩;have hz:=cp6 hb.2
  have key: ∀n,F2 (VRel c) (fg (.int .u8) (aX n (0:Int))) (aX n (.int .u8 0)):=by
   intro n;induction n with
   |zero=>exact .nil
   |succ n ih=>exact .cons (.int _ _) ih
  have h1:=key z.length;rw[←hz]at h1;exact h1
theorem ce7 (hR:eI c){es:Nat}{z:List Value}(h:gd (aZ 1 es) (k (.ptr c.S.length 0) (c.S++[ad6 es z]))=some y):dv T (.alloc es z) ea c.σ (ia c d k y):=by
 obtain⟨h1,h2⟩:=cx h;obtain⟨h3,h4,h5⟩:=tc es z;exact dK rfl (ia.new (kill:=none) hR (bW8 hR (blk:=ad6 es z) (x:=⟨z,true,es⟩) (d:=(es,z.length)) h3 (aW h1) rfl rfl (h5 c)) (fun _ h=>by cases h) (bU5 (dm:=(es,z.length)) h3) h2)
theorem cC5 (hR:eI c)(he:cy c e ea){es:Nat}{x:Operand}(h:gd (aZ 1 es&&lT (kl (ev e x))) (k (.ptr c.S.length 0) (c.S++[.cells es false (kl (ev e x))]))=some y):dv T (.box es x) ea c.σ (ia c d k y):=by
 obtain⟨h1,h2⟩:=cx h;rw[aB]at h1;have hf:=aA8 (dy he x) h1.2;refine dK (by simp only[AOp.run];rw[zE (iV hf h1.2)]) (ia.new (kill:=none) hR (bW8 hR (blk:= .cells es false (kl (ev e x))) (x:=⟨cellsOf (ea.ev x),true,es⟩) (d:=(es,(kl (ev e x)).length)) rfl (aW h1.1) rfl rfl hf) (fun _ h=>by cases h) (bU5 (dm:=(es,_)) rfl) h2)
theorem tg (he:cy c e ea): ∀(ps:List (Nat×Nat×Operand)) {cs r:List VV} {as:List Value},aG1 cs (wb e ps)=some r→F2 (VRel c) cs as→∃ra,ae4 as (ps.map fun(o,s,x)=>(o,s,ea.ev x))=some ra∧F2 (VRel c) r ra
 |[],cs,r,as,h,hf=>by
  injection h with h
  subst h;exact⟨as,rfl,hf⟩
 |(o,s,x)::ps,cs,r,as,h,hf=>by
  simp only[wb,List.map_cons,aG1]at h;cases hb:(aD (kl (ev e x)).length s&&aZ (o+s) cs.length&&(kl (ev e x)).all cw0)with
  |false=>rw[hb]at h;cases h
  |true=>
   rw[hb,zC]at h;rw[aB,aB]at hb;have h1:=aY hb.1.1;have h2:=aW hb.1.2;have hx:=aA8 (dy he x) hb.2;have h3:(cellsOf (ea.ev x)).length=s:=by rw[←hx.length];exact h1
   have h4:as.length=cs.length:=hf.length.symm;obtain⟨ra,h5,h6⟩:=tg he ps h (((hf.take o).append hx).append (hf.drop (o+s)));refine⟨ra, ?_,h6⟩;simp only[List.map_cons,ae4];rw[zE ⟨h3,by omega⟩];exact h5
theorem cg2 (hR:eI c)(he:cy c e ea){z:List Value}{ps:List (Nat×Nat×Operand)}{cs:List VV}(hf:aG1 (z.map aK4) (wb e ps)=some cs)(h:k (.agg cs) c.S=some y):dv T (.build z ps) ea c.σ (ia c d k y):=by
 obtain⟨ra,h1,h2⟩:=tg he ps hf (aj4 c z);exact dK (by simp only[AOp.run,h1];rfl) (ia.same hR (.agg (by simpa using h2)) h)
theorem ut {blk:Blk}{dm:Nat×Nat}{n m:Nat}{b:Nat}{yb:Ab.Blk}{σ':Hp}{kill:Option Nat}(hd:blk.dim=some dm)(hn:n*dm.1=dm.2)(hm:n≤m)(hy:σ'.m b=some yb)(hl:m*dm.1≤yb.cells.length):
  VRel ⟨sJ c (some b),nI c.S kill++[blk],σ',c.fb⟩ (.full c.S.length) (.slice (some ⟨b,0,none⟩) n m):=by
 refine .full (by simp[tv]) rfl fun d' hd'=> ?_
 simp only[iO,if_true]at hd';rw[hd]at hd';injection hd' with hd'
 subst hd';exact⟨n,hn, .inr ⟨b,m,yb,by simp,by simp[sJ],by rw[bC,hn];exact bA _,hm,hy,by rw[bC];exact hl⟩⟩
theorem aD7 : ∀(n:Nat) (z:List Value),F2 (VRel c) ((aX n (z.map aK4)).flatten) (er z n)
 |0,_=> .nil
 |n+1,z=>by
  simp only[er,bJ,List.flatten_cons];exact(aj4 c z).append (aD7 n z)
theorem bd9 (hR:eI c)(he:cy c e ea){es ln:Nat}{z:List Value}{ps:List (Nat×Nat×Operand)}{cs:List VV}(hf:aG1 ((aX ln (z.map aK4)).flatten) (wb e ps)=some cs)
  (h:gd (lT cs&&aD (ln*es) cs.length&&aZ 1 es) (k (.full c.S.length) (c.S++[.cells es false cs]))=some y):dv T (.buildSlice es ln z ps) ea c.σ (ia c d k y):=by
 obtain⟨h1,h2⟩:=cx h;rw[aB,aB]at h1;obtain⟨ra,h3,h4⟩:=tg he ps hf (aD7 ln z);have h5:=aY h1.1.2;refine dK (by simp only[AOp.run,h3];rw[zE (iV h4 h1.1.1)]) (ia.new (kill:=none) hR (bW8 hR (blk:= .cells es false cs) (x:=⟨ra,true,es⟩) (d:=(es,cs.length)) rfl (aW h1.2) rfl rfl h4) (fun _ h=>by cases h) ?_ h2);exact ut (dm:=(es,cs.length)) (yb:=⟨ra,true,es⟩) rfl h5 (bA _) (zE rfl) (by rw[←h4.length];exact Nat.le_of_eq h5)
theorem ct6 (hR:eI c)(he:cy c e ea){x:Operand}(h:bi7 c.S 1 false (ev e x) k=some y):dv T (.load x) ea c.σ (ia c d k y):=by
 obtain⟨b,o,blk,h1,h2,h3,_⟩:=bE9 hR h (dy he x);obtain⟨u,w,h4,h5,h6⟩:=h3 rfl;exact dK (by simp only[AOp.run,h1,h2,h4];rfl) (ia.same hR h5 h6)
theorem cj4 (hR:eI c)(he:cy c e ea){n:Nat}{x:Operand}(h:bi7 c.S n true (ev e x) k=some y):dv T (.loadN n x) ea c.σ (ia c d k y):=by
 obtain⟨b,o,blk,h1,h2,_,h3⟩:=bE9 hR h (dy he x);obtain⟨us,ws,h4,h5,h6⟩:=h3 rfl;exact dK (by simp only[AOp.run,h1,h2,h4];rfl) (ia.same hR (.agg (by simpa using h5)) h6)
theorem wO : ∀(vs cells:List Value) (o:Nat),(i3 cells o vs).length=cells.length
 |[],_,_=>rfl
 |v::vs,cells,o=>by simp only[i3];rw[wO vs];simp
theorem F2.set {l:List VV}{m:List Value}(h:F2 (VRel c) l m){v:VV}{a:Value}(hv:VRel c v a): ∀i,F2 (VRel c) (l.set i v) (m.set i a):=by
 induction h with
 |nil=>intro i;simp;exact .nil
 |cons h1 h2 ih=>
  intro i;cases i with
  |zero=>exact .cons hv h2
  |succ i=>exact .cons h1 (ih i)
theorem aX7 : ∀{vs:List VV} {as:List Value},F2 (VRel c) vs as→∀{l:List VV} {m:List Value} (o:Nat),F2 (VRel c) l m→F2 (VRel c) (cx5 l o vs) (i3 m o as)
 |_,_, .nil,_,_,_,h=>h
 |_,_, .cons h1 h2,_,_,o,h=>aX7 h2 (o+1) (F2.set h h1 o)
theorem af9 : ∀(vs:List Value) (cs rest:List Value) (o:Nat),o+vs.length≤cs.length→i3 (cs++rest) o vs=i3 cs o vs++rest
 |[],_,_,_,_=>rfl
 |v::vs,cs,rest,o,h=>by
  simp only[bH]at h;simp only[i3];rw[List.set_append_left _ _ (by omega),af9 vs _ _ _ (by simp;omega)]
theorem uv : ∀(vs:List Value) (pre cs:List Value) (o:Nat),i3 (pre++cs) (pre.length+o) vs=pre++i3 cs o vs
 |[],_,_,_=>rfl
 |v::vs,pre,cs,o=>by
  simp only[i3];rw[List.set_append_right _ _ (by omega),Nat.add_sub_cancel_left,Nat.add_assoc,uv vs]
theorem ak1 {blk:Ab.Blk}{o:Nat}{vs:List Value}(h1:blk.own=true)(h2:o+vs.length≤blk.cells.length)(h3:vs.all one=true):sq blk o vs=some ⟨i3 blk.cells o vs,true,blk.es⟩:=by
 unfold sq;rw[zE ⟨h1,h2,h3⟩,h1]
theorem ay9 (hR:eI c){q es o b:Nat}{l l' vs:List VV}{as:List Value}(hb:cl c.S q= .cells es false l)(hm:c.μ q=some b)(hf:F2 (VRel c) vs as)(h1:lT vs=true)(ho:o+vs.length≤l.length)
  (hl': ∀cs,F2 (VRel c) l cs→F2 (VRel c) l' (i3 cs o as)): ∃blk,c.σ.m b=some blk∧∃blk',sq blk o as=some blk'∧Writes c q b (.cells es false l') blk':=by
 obtain⟨y0,cs,rest,h2,h3,h4,h5,h6⟩:=hR.block (k:=q) (d:=(es,l.length)) (by rw[hb];rfl) hm;rw[hb]at h4 h6;have hl:=F2.length h6;simp only[Blk.vals]at hl;have ha:=F2.length hf;refine⟨y0,h2,_,ak1 (h4 rfl) (by rw[h5,bG];omega) (iV hf h1),⟨by rw[hb];rfl,hm, ?_,rfl,y0,i3 cs o as,rest,(es,l.length),h2,by rw[hb];rfl,h3,rfl,wO _ _ _, ?_,hl' cs h6⟩⟩
 ·have:=F2.length (hl' cs h6);rw[wO]at this;simp only[hb,Blk.dim];rw[this,←hl]
 ·show i3 y0.cells o as=_;rw[h5,af9 _ _ _ _ (by omega)]
theorem aX6 {v:VV}{va:Value}(hv:VRel c v va): ∀{cs:List VV} {as:List Value} {i j:Nat} {r:List VV},aX5 v cs i j=some r→F2 (VRel c) cs as→F2 (VRel c) r (if j≤i then as.set (i-j) va else as)
 |[],_,i,j,r,h,hf=>by
  cases hf;injection h with h
  subst h;simp;exact .nil
 |w::cs,_,i,j,r,h,hf=>by
  cases hf with
  |cons h1 h2=>
   rename_i a as;simp only[aX5]at h;cases hs:cn8 (aD i j) v w with
   |none=>rw[hs]at h;cases h
   |some x=>
    rw[hs]at h;simp only[zG]at h;cases hr:aX5 v cs i (j+1)with
    |none=>rw[hr]at h;cases h
    |some r'=>
     rw[hr]at h;injection h with h
     subst h;have h3:=aX6 hv hr h2;have h4:=bG4 hs hv h1;by_cases hij:i=j
     ·subst hij;rw[zF (by omega)]at h3;rw[zE (bA _),Nat.sub_self];have:aD i i=true:=Nat.beq_refl i;rw[this]at h4;exact .cons h4 h3
     ·have hb:aD i j=false:=by
       cases hh:aD i j with
       |false=>rfl
       |true=>exact(hij (aY hh)).elim
      rw[hb]at h4;by_cases hlt:j+1≤i
      ·rw[zE hlt]at h3;rw[zE (by omega),show i-j=(i-(j+1))+1 by omega];exact .cons h4 h3
      ·rw[zF hlt]at h3;rw[zF (by omega)];exact .cons h4 h3
theorem bg5 {s:Sh}{x:El s}: ∀{l:List (El s)} {i:Nat},i<l.length→fg s (l.set i x)=(fg s l).take (i*s.w)++(ei s x++(fg s l).drop (i*s.w+s.w))
 |[],_,h=>by simp at h
 |a::l,0,_=>by
  rw[List.set_cons_zero,fK,fK,Nat.zero_mul,List.take_zero,bB,bC,bE,eu,Nat.sub_self,List.drop_zero,bF (by rw[eu];exact bA _),bB]
 |a::l,i+1,h=>by
  have h1:(i+1)*s.w=s.w+i*s.w:=by rw[Nat.succ_mul];omega
  rw[List.set_cons_succ,fK,fK,bg5 (by simpa using h),h1,List.take_append,bE,eu,List.take_of_length_le (l:=ei s a) (by rw[eu];omega),bF (l:=ei s a) (by rw[eu];omega),bB,bD];rw[show s.w+i*s.w-s.w=i*s.w by omega,show s.w+i*s.w+s.w-s.w=i*s.w+s.w by omega]
theorem aT2 (v:VV){q:Nat}(h:ua v=some q):q∈cl7 (ua v):=by rw[h];exact List.mem_singleton.2 rfl
theorem aX8 {vs cs:List Value}{p o w:Nat}(h1:o+vs.length≤w)(h2:p+w≤cs.length):i3 cs (p+o) vs=cs.take p++(i3 ((cs.drop p).take w) o vs++cs.drop (p+w)):=by
 have e1:cs=cs.take p++((cs.drop p).take w++cs.drop (p+w)):=by
  rw[←List.drop_drop,bK,bK]
 have hp:(cs.take p).length=p:=by rw[bI];omega
 have hw:((cs.drop p).take w).length=w:=by rw[bI,List.length_drop];omega
 conv=>lhs;rw[e1]
 have:=uv vs (cs.take p) ((cs.drop p).take w++cs.drop (p+w)) o;rw[hp]at this;rw[this,af9 _ _ _ _ (by rw[hw];exact h1)]
theorem co3 (hR:eI c)(he:cy c e ea){n:Nat}{a x:Operand}(hd: ∀q,ua (ev e a)=some q→q∈d)
  (h:gd (aD (kl (ev e x)).length n&&lT (kl (ev e x))) (bP9 c.S (ev e a) (kl (ev e x)) fun S'=>k .undef S')=some y):dv T (.store n a x) ea c.σ (ia c d k y):=by
 obtain⟨h1,h2⟩:=cx h;rw[aB]at h1;have hn:=aY h1.1;have hx:=aA8 (dy he x) h1.2;have hlen:(cellsOf (ea.ev x)).length=n:=by rw[←hx.length];exact hn
 have ha:=dy he a
 have key: ∀(c1:Ctx) (q b o:Nat) (blk0:Ab.Blk) (blk:Blk) (blk':Ab.Blk),c1.σ=c.σ→Le c c1→qX d c c1→eI c1→q∈d→ea.ev a= .pointer (some ⟨b,o,none⟩)→c.σ.m b=some blk0→sq blk0 o (cellsOf (ea.ev x))=some blk'→Writes c1 q b blk blk'→
   k .undef (ja c1.S q blk)=some y→dv T (.store n a x) ea c.σ (ia c d k y):=by
  intro c1 q b o blk0 blk blk' hσ hle hcalm hR1 hq h3 h4 h5 h6 h7;refine dK (v:=undef) (σ':=c.σ.set b (some blk')) ?_ ?_
  ·simp only[AOp.run,h3,hlen,if_true,h4,h5]
  ·rw[←hσ];exact⟨.undef,_,rfl,hle.trans (h6.le hR1),h6.rel hR1,hcalm.trans (h6.calm hR1 hq) hle, .undef _,h7⟩
 generalize cellsOf (ea.ev x)=as at*;generalize ev e a=av at*;generalize kl (ev e x)=vs at*;unfold bP9 at h2;cases av with
 |ptr q o=>
  simp only at h2;cases hb:cl c.S q with
  |dead=>rw[hb]at h2;cases h2
  |arr s z l=>rw[hb]at h2;cases h2
  |cells es z l=>
   rw[hb]at h2;cases z with
   |true=>cases h2
   |false=>
    obtain⟨h3,h4⟩:=cx h2;cases ha with
    |ptr hk _ hd'=>
     obtain⟨b,hm,hav⟩:=hd' (es,l.length) (by rw[hb];rfl);obtain⟨blk0,h5,blk',h6,h7⟩:=ay9 hR hb hm hx h1.2 (aW h3) fun cs hcs=>aX7 hx o hcs
     exact key c q b o blk0 _ blk' rfl (Le.refl c) (qX.refl d c) hR (hd q rfl) hav h5 h6 h7 h4
 |pix q o m i=>
  simp only at h2;split at h2
  ·rename_i es l v hb;obtain⟨h3,h4⟩:=cx h2;have h3:=aW h3;split at h4
   ·rename_i l' hs;cases hx with
    |cons hv hnil=>
     rename_i va as';cases hnil;cases ha with
     |pix hk _ hi hd'=>
      obtain⟨b,hm,hav⟩:=hd' (es,l.length) (by rw[hb];rfl)
      obtain⟨blk0,h5,blk',h6,h7⟩:=ay9 (l':=l.take o++l'++l.drop (o+m)) (o:=o+i) hR hb hm (.cons hv .nil) h1.2 (by simp;omega) fun cs hcs=>by
       have hl:=hcs.length;rw[aX8 (w:=m) (by simp;omega) (by omega),bD];have h8:=aX6 hv hs ((hcs.drop o).take m);rw[zE (Nat.zero_le _),Nat.sub_zero]at h8;exact(hcs.take o).append (h8.append (hcs.drop _))
      exact key c q b (o+i) blk0 _ blk' rfl (Le.refl c) (qX.refl d c) hR (hd q rfl) hav h5 h6 h7 h4
   ·cases h4
  ·cases h2
 |pel q i o=>
  simp only at h2;cases hb:cl (fzL c.S vs) q with
  |dead=>rw[hb]at h2;cases h2
  |cells es z l=>rw[hb]at h2;cases h2
  |arr s z l=>
   rw[hb]at h2;cases z with
   |true=>cases h2
   |false=>
    simp only at h2;cases hx':l[i]? with
    |none=>rw[hx']at h2;cases h2
    |some x'=>
     rw[hx']at h2;simp only[zG]at h2;split at h2
     ·rename_i z hof;obtain⟨h3,h4⟩:=cx h2;have h3:=aW h3;have hfz:=ai8 c.S vs;have hR1:eI ⟨c.μ,fzL c.S vs,c.σ,c.fb⟩:=hfz.rel hR
      have hi:i<l.length:=by
       rcases Nat.lt_or_ge i l.length with h|h
       ·exact h
       ·rw[List.getElem?_eq_none h]at hx';cases hx'
      have hx1:F2 (VRel ⟨c.μ,fzL c.S vs,c.σ,c.fb⟩) vs as:=VRel.frames hfz.le hx;cases ha with
      |pel hk _ hd'=>
       have hdim:(cl (fzL c.S vs) q).dim=some (s.w,l.length*s.w):=by rw[hb];rfl
       obtain⟨b,hm,hav⟩:=hd' (s.w,l.length*s.w) (by rw[←hfz.dim];exact hdim);obtain⟨y0,cs,rest,h5,h6,h7,h8,h9⟩:=hR1.block (k:=q) hdim hm;rw[hb]at h7 h9;have hl:=h9.length;simp only[Blk.vals,fS]at hl;have hle:i*s.w+s.w≤l.length*s.w:=by rw[←Nat.succ_mul];exact Nat.mul_le_mul_right _ hi
       have hlen':vs.length=as.length:=hx.length;refine key ⟨c.μ,fzL c.S vs,c.σ,c.fb⟩ q b (i*s.w+o) y0 (.arr s false (l.set i z)) _ rfl hfz.le (hfz.calm d) hR1 (hd q rfl) hav h5 (ak1 (h7 rfl) (by rw[h8,bG];omega) (iV hx h1.2)) ⟨by rw[hb];rfl,hm,by rw[hdim];simp[Blk.dim],rfl,y0,i3 cs (i*s.w+o) as,rest,_,h5,hdim,h6,rfl,wO _ _ _,by rw[h8,af9 _ _ _ _ (by omega)], ?_⟩ h4;obtain⟨pre,h10,h11,h12⟩:=iM hR1 s _ _ _ hof;rw[List.append_nil]at h10;subst h10;simp only[Blk.vals];rw[bg5 hi,aX8 (w:=s.w) (by omega) (by omega)];refine(h9.take _).append (F2.append (h12 _ (aX7 hx1 o ?_)) (h9.drop _));have h13:=(h9.drop (i*s.w)).take s.w;simp only[Blk.vals]at h13
       rwa [aB7 hx']at h13
     ·cases h2
 |_=>cases h2
end
end
section
open Bool renaming and_eq_true → aD, false_eq_true → aW
open List renaming extract_eq_take_drop → aX
open Nat renaming eq_of_beq_eq_true → aY
open Option renaming map_some → aB
section
variable {β:Type} {T:fB} {c:Ctx} {e:ed} {ea:dM} {k:VV→co→Option β} {y:β} {d:List Nat}
theorem vj (s:ByteArray):(gM s).length=s.size:=by simp[gM]
theorem bK7 (s t:ByteArray):gM (s++t)=gM s++gM t:=by
 simp[gM,ByteArray.data_append]
theorem ag9 : ∀{l m:List UInt8},(l.map fun b=>(b.toNat:Int))=m.map (fun b=>(b.toNat:Int))→l=m
 |[],[],_=>rfl
 |[],_::_,h=>by simp at h
 |_::_,[],h=>by simp at h
 |a::l,b::m,h=>by
  simp only[List.map_cons,List.cons.injEq]at h;rw[ag9 h.2,UInt8.toNat_inj.1 (Int.ofNat.inj h.1)]
theorem aG9 (s:ByteArray):s.toList=s.data.toList:=by
 rw[ByteArray.toList_eq]
theorem aA7 (s t:ByteArray):(s.toList==t.toList)=decide (gM s=gM t):=by
 rw[aG9,aG9];by_cases h:s.data.toList=t.data.toList
 ·simp[gM,h]
 ·have:gM s≠gM t:=fun e=>h (ag9 e)
  have h': ¬s.data=t.data:=fun e=>h (by rw[e])
  simp[this,h']
theorem bX3 {op:BinOp}{kd:IntKind}{a b:Int}{kk:VV→Option β}(h:bK2 op kd a b kk=some y): ∃v va,bT4 op kd a b=some va∧VRel c v va∧kk v=some y:=by
 cases op<;>simp only[bK2]at h<;>try(cases h;done)
 case add=>exact⟨_,_,rfl, .int _ _,h⟩
 case sub=>exact⟨_,_,rfl, .int _ _,h⟩
 case mul=>exact⟨_,_,rfl, .int _ _,h⟩
 case quo=>
  obtain⟨h1,h2⟩:=cx h;exact⟨_,_,zF (of_decide_eq_true h1), .int _ _,h2⟩
 case rem=>
  obtain⟨h1,h2⟩:=cx h;exact⟨_,_,zF (of_decide_eq_true h1), .int _ _,h2⟩
 case and=>exact⟨_,_,rfl, .int _ _,h⟩
 case or=>exact⟨_,_,rfl, .int _ _,h⟩
 case xor=>exact⟨_,_,rfl, .int _ _,h⟩
 case andNot=>exact⟨_,_,rfl, .int _ _,h⟩
 case eql=>
  refine⟨_,_,rfl, ?_,h⟩;have:(a==b)=decide (a=b):=by by_cases h:a=b<;>simp[h]
  rw[this];exact .bool _
 case neq=>
  refine⟨_,_,rfl, ?_,h⟩;have:(a !=b)=decide (a≠b):=by by_cases h:a=b<;>simp[h]
  rw[this];exact .bool _
 case lss=>exact⟨_,_,rfl, .bool _,h⟩
 case leq=>exact⟨_,_,rfl, .bool _,h⟩
 case gtr=>exact⟨_,_,rfl, .bool _,h⟩
 case geq=>exact⟨_,_,rfl, .bool _,h⟩
theorem cC4 (hR:eI c)(he:cy c e ea){op:BinOp}{x z:Operand}(h:cC3 op (ev e x) (ev e z) (fun v=>k v c.S)=some y):dv T (.bin op x z) ea c.σ (ia c d k y):=by
 have hx:=dy he x;have hz:=dy he z
 have key: ∀v va,vW op (ea.ev x) (ea.ev z)=some va→VRel c v va→k v c.S=some y→dv T (.bin op x z) ea c.σ (ia c d k y):=fun v va h1 h2 h3=>
  dK (by simp only[AOp.run,h1];rfl) (ia.same hR h2 h3)
 generalize ev e x=xv at*;generalize ev e z=zv at*;unfold cC3 at h;split at h
 ·rename_i kx a kz b;rw[hx.int_inv,hz.int_inv]at key;cases hs:qU op with
  |true=>
   rw[hs,zC]at h;simp only[vW,hs,if_true]at key;cases op<;>simp only[co1]at h<;>try(cases h;done)
   ·obtain⟨h1,h2⟩:=cx h;have h1:=of_decide_eq_true h1;refine key _ _ ?_ (.int _ _) h2;simp only[aY0];rw[zF (by omega)]
   ·obtain⟨h1,h2⟩:=cx h;have h1:=of_decide_eq_true h1;refine key _ _ ?_ (.int _ _) h2;simp only[aY0];rw[zF (by omega)]
  |false=>
   rw[hs,zD]at h;cases hk:decide (kx=kz)with
   |false=>rw[hk]at h;cases h
   |true=>
    rw[hk,zC]at h;have hk:=of_decide_eq_true hk;subst hk;obtain⟨v,va,h1,h2,h3⟩:=bX3 (c:=c) h;refine key v va ?_ h2 h3;simp only[vW,hs,aW,if_false,if_true,h1]
 ·rename_i a b;obtain⟨s,e1,rfl⟩:=hx.str_inv;obtain⟨t,e2,rfl⟩:=hz.str_inv;rw[e1,e2]at key;cases hs:qU op with
  |true=>rw[hs]at h;cases h
  |false=>
   rw[hs,zD]at h;simp only[vW,hs,aW,if_false]at key;cases op<;>simp only[cL8]at h<;>try(cases h;done)
   ·obtain⟨h1,h2⟩:=cx h;have h1:(gM s).length+(gM t).length≤9223372036854775807:=Nat.le_of_ble_eq_true h1;rw[vj,vj]at h1;refine key _ _ ?_ (.str (bK7 s t)) h2;simp only[bV9];rw[zF];show¬(((s.size+t.size:Nat):Int) > 9223372036854775807);omega
   ·refine key _ _ rfl ?_ h;rw[aA7];exact .bool _
   ·refine key _ _ rfl ?_ h;rw[aA7];have:(!decide (gM s=gM t))=decide (gM s≠gM t):=by simp
    rw[this];exact .bool _
 ·cases h
theorem pW {b:Blk}(h:b.live=true): ∃dm,b.dim=some dm:=by cases b<;>first|(cases h;done)|exact⟨_,rfl⟩
theorem aq2 {v:VV}{a:Value}(h:VRel c v a)(hp:aU6 c.S v=true): ∃x,a= .pointer (some x):=by
 cases v<;>try(cases hp;done)
 case ptr q o=>
  obtain⟨dd,hh⟩:=pW hp;cases h with
  |ptr hk _ hd=>obtain⟨b,_,h⟩:=hd dd hh;exact⟨_,h⟩
 case pix q o n i=>
  obtain⟨dd,hh⟩:=pW hp;cases h with
  |pix hk _ _ hd=>obtain⟨b,_,h⟩:=hd dd hh;exact⟨_,h⟩
 case pel q i o=>
  obtain⟨dd,hh⟩:=pW hp;cases h with
  |pel hk _ hd=>obtain⟨b,_,h⟩:=hd dd hh;exact⟨_,h⟩
 case pin s x o=>cases h;exact⟨_,rfl⟩
theorem bC8 (hR:eI c)(he:cy c e ea){x:Operand}(h:(match ev e x with
  | .fn f a b=>k (.fn f a b) c.S
  |v=>gd (aU6 c.S v) (k v c.S))=some y):dv T (.nilCheck x) ea c.σ (ia c d k y):=by
 have hx:=dy he x;split at h
 ·rename_i f a b hv;rw[hv]at hx
  have: ∃a' b',ea.ev x= .func (.func f) a' b':=by
   generalize ea.ev x=xa at hx;cases hx;exact⟨_,_,rfl⟩
  obtain⟨a',b',h1⟩:=this;rw[h1]at hx;exact dK (by simp only[AOp.run,h1]) (ia.same hR hx h)
 ·obtain⟨h1,h2⟩:=cx h;obtain⟨p,h3⟩:=aq2 hx h1;rw[h3]at hx;exact dK (by simp only[AOp.run,h3]) (ia.same hR hx h2)
theorem ck2 {neg b:Bool}:(b !=neg)=ck1 neg b:=by cases neg<;>cases b<;>rfl
theorem cC9 (hR:eI c)(he:cy c e ea){kd:Nat}{neg:Bool}{x z:Operand}{p:Bool}(hp:cC8 c.S kd (ev e x) (ev e z)=some p)(h:k (.bool (ck1 neg p)) c.S=some y):dv T (.eqv kd neg x z) ea c.σ (ia c d k y):=by
 have hx:=dy he x;have hz:=dy he z
 have key:bA9 kd (ea.ev x) (ea.ev z)=some p→dv T (.eqv kd neg x z) ea c.σ (ia c d k y):=fun h1=>
  dK (v:= .bool (p !=neg)) (by simp only[AOp.run,h1];rfl) (ia.same hR (by rw[ck2];exact .bool _) h)
 generalize ev e x=xv at*;generalize ev e z=zv at*;unfold cC8 at hp;split at hp
 ·injection hp with hp;subst hp
  rw[hx.bool_inv,hz.bool_inv]at key;exact key rfl
 ·injection hp with hp;subst hp
  refine key ?_;generalize ea.ev x=xa at*;generalize ea.ev z=za at*;cases hx;cases hz;rfl
 ·cases hi:aU6 c.S zv with
  |false=>rw[hi]at hp;cases hp
  |true=>
   rw[hi]at hp;injection hp with hp;subst hp
   refine key ?_;obtain⟨q,h1⟩:=aq2 hz hi;rw[h1];generalize ea.ev x=xa at*;cases hx;rfl
 ·cases hi:aU6 c.S xv with
  |false=>rw[hi]at hp;cases hp
  |true=>
   rw[hi]at hp;injection hp with hp;subst hp
   refine key ?_;obtain⟨q,h1⟩:=aq2 hx hi;rw[h1];generalize ea.ev z=za at*;cases hz;rfl
 ·injection hp with hp;subst hp
  refine key ?_;generalize ea.ev x=xa at*;generalize ea.ev z=za at*;cases hx;cases hz;rfl
 ·injection hp with hp;subst hp
  refine key ?_;generalize ea.ev x=xa at*;generalize ea.ev z=za at*;cases hx;cases hz;rfl
 ·injection hp with hp;subst hp
  refine key ?_;generalize ea.ev x=xa at*;generalize ea.ev z=za at*;cases hx;cases hz;rfl
 ·injection hp with hp;subst hp
  refine key ?_;generalize ea.ev x=xa at*;generalize ea.ev z=za at*;cases hx;cases hz;rfl
 ·cases hp
theorem cr5 {kd:Nat}{v w:VV}{va wa:Value}{p:Bool}(h:bZ0 kd v w=some p)(hv:VRel c v va)(hw:VRel c w wa):rI kd va wa=some p:=by
 unfold bZ0 at h;split at h
 ·injection h with h;subst h
  rw[hv.bool_inv,hw.bool_inv];rfl
 ·rename_i k1 a k2 b;cases hk:decide (k1=k2)with
  |false=>rw[hk]at h;cases h
  |true=>
   rw[hk]at h;injection h with h;subst h
   rw[hv.int_inv,hw.int_inv];simp only[rI,of_decide_eq_true hk,if_true];by_cases e:a=b<;>simp[e]
 ·injection h with h;subst h
  obtain⟨s,e1,rfl⟩:=hv.str_inv;obtain⟨t,e2,rfl⟩:=hw.str_inv;rw[e1,e2];simp only[rI];rw[aA7]
 ·cases h
theorem cr6 : ∀{ks:List Nat} {l m:List VV} {la ma:List Value} {p:Bool},be4 ks l m=some p→F2 (VRel c) l la→F2 (VRel c) m ma→iC ks la ma=some p:=by
 intro ks;induction ks with
 |nil=>
  intro l m la ma p h hl hm;cases hl<;>cases hm<;>simp only[be4]at h<;>try(cases h;done)
  exact h
 |cons kd ks ih=>
  intro l m la ma p h hl hm;cases hl with
  |nil=>cases m<;>simp[be4]at h
  |cons h1 h2=>
   cases hm with
   |nil=>cases ks<;>simp[be4]at h
   |cons h3 h4=>
    rename_i v va l' la' w wa m' ma'
    have key: ∀q r,bZ0 kd v w=some q→be4 ks l' m'=some r→p=(q&&r)→iC (kd::ks) (va::la') (wa::ma')=some p:=by
     intro q r e1 e2 e3;simp only[iC,cr5 e1 h1 h3];cases q with
     |false=>simp[e3]
     |true=>rw[ih e2 h2 h4,e3];simp
    unfold be4 at h;split at h
    ·rename_i e1 e2 e3;cases e1
    ·rename_i e1 e2 e3;cases e1;cases e2;cases e3;cases h2;cases h4;exact key p true h rfl (by simp)
    ·rename_i e1 e2 e3;cases e1;cases e2;cases e3;cases hq:bZ0 kd v w with
     |none=>rw[hq]at h;cases h
     |some q=>
      rw[hq]at h;simp only[zG]at h;cases hr:be4 ks l' m' with
      |none=>rw[hr]at h;cases h
      |some r=>
       rw[hr]at h;injection h with h
       exact key q r hq hr h.symm
    ·cases h
theorem bL9 (hR:eI c)(he:cy c e ea){ks:List Nat}{neg:Bool}{x z:Operand}{a b:List VV}{p:Bool}(h1:ev e x= .agg a)(h2:ev e z= .agg b)(hp:be4 ks a b=some p)(h:k (.bool (ck1 neg p)) c.S=some y):
  dv T (.eqCells neg ks x z) ea c.σ (ia c d k y):=by
 have hx:=dy he x;have hz:=dy he z;rw[h1]at hx;rw[h2]at hz;obtain⟨as,e1,f1⟩:=hx.agg_inv;obtain⟨bs,e2,f2⟩:=hz.agg_inv;exact dK (v:= .bool (p !=neg)) (by simp only[AOp.run,e1,e2,cr6 hp f1 f2];rfl) (ia.same hR (by rw[ck2];exact .bool _) h)
theorem cM2 (hR:eI c)(he:cy c e ea){op:UnOp}{x:Operand}(h:unK op (ev e x) (fun v=>k v c.S)=some y):dv T (.un op x) ea c.σ (ia c d k y):=by
 have hx:=dy he x;unfold unK at h;split at h
 ·rename_i kd n hv;rw[hv]at hx;exact dK (by simp only[AOp.run,hx.int_inv];rfl) (ia.same hR (.int _ _) h)
 ·rename_i kd n hv;rw[hv]at hx;exact dK (by simp only[AOp.run,hx.int_inv];rfl) (ia.same hR (.int _ _) h)
 ·rename_i b hv;rw[hv]at hx;exact dK (by simp only[AOp.run,hx.bool_inv];rfl) (ia.same hR (.bool _) h)
 ·cases h
theorem aU4 {v:VV}{n:Int}{a:Value}(h:bh0 v=some n)(hv:VRel c v a): ∃kd,a= .int kd n:=by
 cases v<;>simp only[bh0]at h<;>try(cases h;done)
 injection h with h;subst h
 exact⟨_,hv.int_inv⟩
theorem cq5 (hR:eI c)(he:cy c e ea){kd:IntKind}{x:Operand}{n:Int}(hn:bh0 (ev e x)=some n)(h:k (.int kd (kd.wrap n)) c.S=some y):dv T (.conv kd x) ea c.σ (ia c d k y):=by
 obtain⟨kd',hx⟩:=aU4 hn (dy he x);exact dK (by simp only[AOp.run,hx];rfl) (ia.same hR (.int _ _) h)
theorem ca9 (hR:eI c)(he:cy c e ea){f:Nat}{a b:List Operand}(h:k (.fn f (a.map (ev e)) (b.map (ev e))) c.S=some y):dv T (.mkFunc f a b) ea c.σ (ia c d k y):=
 dK rfl (ia.same hR (.fn (by simpa using aL6 he a) (by simpa using aL6 he b)) h)
theorem bZ2 (hR:eI c)(he:cy c e ea){o n:Nat}{agg:Bool}{x:Operand}{cs:List VV}(hx:ev e x= .agg cs)(h:cond agg (k (.agg (wH cs o n)) c.S) (cb7 c.S (nth cs o) k)=some y):dv T (.fieldV o n agg x) ea c.σ (ia c d k y):=by
 have hv:=dy he x;rw[hx]at hv;obtain⟨as,e1,f1⟩:=hv.agg_inv;cases agg with
 |true=>
  refine dK (v:= .agg (as.extract o (o+n))) (by simp only[AOp.run,e1];rfl) (ia.same hR (.agg ?_) h);have:=(f1.drop o).take n;simpa[wH,Array.toList_extract,aX]using this
 |false=>
  rw[zD]at h;cases hn:nth cs o with
  |none=>rw[hn]at h;cases h
  |some w=>
   rw[hn]at h;obtain⟨u,h1,h2⟩:=F2.nth f1 hn;have h1':as[o]?=some u:=by simpa using h1
   exact dK (by simp only[AOp.run,e1,h1'];rfl) (ia.same hR h2 h)
theorem bM1 (hR:eI c)(he:cy c e ea){i:Nat}{x:Operand}{cs:List VV}(hx:ev e x= .tup cs)(h:cb7 c.S (nth cs i) k=some y):dv T (.extract x i) ea c.σ (ia c d k y):=by
 have hv:=dy he x;rw[hx]at hv;obtain⟨as,e1,f1⟩:=hv.tup_inv;cases hn:nth cs i with
 |none=>rw[hn]at h;cases h
 |some w=>
  rw[hn]at h;obtain⟨u,h1,h2⟩:=F2.nth f1 hn;have h1':as[i]?=some u:=by simpa using h1
  exact dK (by simp only[AOp.run,e1,h1'];rfl) (ia.same hR h2 h)
theorem aj1 {i:Int}{n j:Nat}(h:ix i n=some j):0≤i∧i<n∧j=i.toNat∧j<n:=by
 unfold ix at h;cases hb:(decide (0≤i)&&decide (i<n))with
 |false=>rw[hb]at h;cases h
 |true=>
  rw[hb]at h;injection h with h
  rw[aD]at hb;have h1:=of_decide_eq_true hb.1;have h2:=of_decide_eq_true hb.2;exact⟨h1,h2,h.symm,by omega⟩
theorem bV1 {α:Type}{l:List α}{i:Int}{x:α}(h:rd l i=some x):0≤i∧i<l.length∧l[i.toNat]?=some x:=by
 unfold rd at h;cases hb:decide (0≤i)with
 |false=>rw[hb]at h;cases h
 |true=>
  rw[hb]at h;have h1:=of_decide_eq_true hb
  have h2:i.toNat<l.length:=by
   rcases Nat.lt_or_ge i.toNat l.length with h3|h3
   ·exact h3
   ·rw[zC,List.getElem?_eq_none h3]at h;cases h
  exact⟨h1,by omega,h⟩
theorem cm {α γ:Type}{x:Option α}{f:α→Option γ}{z:γ}(h:x.bind f=some z): ∃a,x=some a∧f a=some z:=by
 cases x with
 |none=>cases h
 |some a=>exact⟨a,rfl,h⟩
theorem ca4 (hR:eI c)(he:cy c e ea){ln es:Nat}{agg:Bool}{x z:Operand}{cs:List VV}{kd:IntKind}{i:Int}(hx:ev e x= .agg cs)(hz:ev e z= .int kd i)
  (h:((ix i ln).bind fun j=>cond agg (k (.agg (wH cs (j*es) es)) c.S) (gd (Nat.beq es 1&&Nat.beq cs.length ln) (bz3 cs j c.S k)))=some y):dv T (.indexV ln es agg x z) ea c.σ (ia c d k y):=by
 have hv:=dy he x;have hw:=dy he z;rw[hx]at hv;rw[hz]at hw;obtain⟨as,e1,f1⟩:=hv.agg_inv;have e2:=hw.int_inv;obtain⟨j,h1,h2⟩:=cm h;obtain⟨h3,h4,rfl,h5⟩:=aj1 h1;cases agg with
 |true=>
  refine dK (v:= .agg (as.extract (i.toNat*es) (i.toNat*es+es))) (by simp only[AOp.run,e1,e2];rw[zE ⟨h3,h4⟩];rfl) (ia.same hR (.agg ?_) h2);have:=(f1.drop (i.toNat*es)).take es;simpa[wH,Array.toList_extract,aX]using this
 |false=>
  rw[zD]at h2;obtain⟨h6,h7⟩:=cx h2;rw[aD]at h6;have h8:=aY h6.1;have h9:=aY h6.2;subst h8;obtain⟨w,h10,h11⟩:=bz4 (by omega) h7;obtain⟨u,h12,h13⟩:=f1.get _ _ h10;have h14:as[i.toNat*1]?=some u:=by rw[Nat.mul_one];simpa using h12
  exact dK (by simp only[AOp.run,e1,e2,h14];rw[zE ⟨h3,h4⟩];rfl) (ia.same hR h13 h11)
theorem ca3 (hR:eI c)(he:cy c e ea){x z:Operand}{l:List Int}{kd:IntKind}{i:Int}(hx:ev e x= .str l)(hz:ev e z= .int kd i)(h:((rd l i).bind fun b=>k (.int .u8 b) c.S)=some y):dv T (.indexS x z) ea c.σ (ia c d k y):=by
 have hv:=dy he x;have hw:=dy he z;rw[hx]at hv;rw[hz]at hw;obtain⟨s,e1,rfl⟩:=hv.str_inv;have e2:=hw.int_inv;obtain⟨b,h1,h2⟩:=cm h;obtain⟨h3,h4,h5⟩:=bV1 h1;simp only[gM,List.getElem?_map]at h5;cases hb:s.data.toList[i.toNat]? with
 |none=>rw[hb]at h5;cases h5
 |some u=>
  rw[hb,aB]at h5;injection h5 with h5
  subst h5
  have h6:s[i.toNat]?=some u:=by
   have:i.toNat<s.size:=by rw[vj]at h4;omega
   rw[getElem?_pos s i.toNat this];rw[←hb,Array.getElem?_toList,getElem?_pos s.data i.toNat this];rfl
  exact dK (v:= .int .u8 u.toNat) (by simp only[AOp.run,e1,e2,h6];rw[zE h3];rfl) (ia.same hR (.int _ _) h2)
theorem cu2 (hR:eI c)(he:cy c e ea){x z:Operand}{kd kd':IntKind}{a b:Int}(hx:ev e x= .int kd a)(hz:ev e z= .int kd' b)(h:k (.int kd (max a b)) c.S=some y):dv T (.most x z) ea c.σ (ia c d k y):=by
 have hv:=dy he x;have hw:=dy he z;rw[hx]at hv;rw[hz]at hw;refine dK (v:= .int kd (max a b)) ?_ (ia.same hR (.int _ _) h);simp only[AOp.run,hv.int_inv,hw.int_inv,bQ4,aB]
 congr 3
 split<;>omega
theorem ci8 (hR:eI c)(he:cy c e ea){x z:Operand}{kd kd':IntKind}{a b:Int}(hx:ev e x= .int kd a)(hz:ev e z= .int kd' b)(h:k (.int kd (min a b)) c.S=some y):dv T (.least x z) ea c.σ (ia c d k y):=by
 have hv:=dy he x;have hw:=dy he z;rw[hx]at hv;rw[hz]at hw;refine dK (v:= .int kd (min a b)) ?_ (ia.same hR (.int _ _) h);simp only[AOp.run,hv.int_inv,hw.int_inv,bv6,aB]
 congr 3
 split<;>omega
end
end
end Go.V
