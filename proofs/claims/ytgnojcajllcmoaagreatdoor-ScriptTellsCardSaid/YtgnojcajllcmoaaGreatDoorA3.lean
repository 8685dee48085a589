/- A part of the proof. No condition. -/
import Derived.Test.YtgnojcajllcmoaaGreatDoorA2
set_option linter.all false
namespace Go.V
open Go.Ab
open Option renaming some->O,none->Y
open Bool renaming true->Za,false->Zb
open Decidable renaming decide->Zc
open List renaming length_eq_zero_iff->dy
open List renaming mem_singleton->cc
open Option renaming map_eq_some_iff->aa
open List renaming length->hW
open Option renaming bind->im
open Option.some renaming injEq->hO
variable {x z:Operand}{a:Value}{i k lo o p:Nat}{s:Sh}{b blk:Blk}{v:VV}{kd:IntKind}{d:Nat×Nat}{e:db}{S':ak}{ea:cy}{cs:List VV}{Z':Hp}{agg neg:Bool}
section
open List renaming replicate->bB
open Nat renaming beq->aB,ble->aD
inductive Sk where
 |undef
 |leaf (s:Sh)
 |cint (k:IntKind) (n:Int)
 |nilp
 |nils
 |nilf
 |ptr (j o:Nat)
 |full (j:Nat)
 |pin (s:Sh) (o:Nat)
 |fn (f:Nat) (a c:List Sk)
 |agg (l:List Sk)
 |tup (l:List Sk)
inductive OSk where
 |dead
 |cells (es:Nat) (ro:Bool) (l:List Sk)
 |arr (ro:Bool) (s:Sh)
structure Leaf where
 s:Sh
 v:El s
structure Src where
 k:Nat
 cut:Option Nat
structure DSt where
 m:List (Option Src)
 ls:List Leaf
 lent:List Nat
def DSt.push (st:DSt)(s:Sh)(v:El s):DSt:={st with ls:=st.ls++[⟨s,v⟩]}
def DSt.lend (st:DSt):VV->DSt
 | .full k=>{st with lent:=k::st.lent}
 | .part k _ _=>{st with lent:=k::st.lent}
 |_=>st
def DSt.link (N:Nat)(st:DSt)(j:Nat)(x:Option Src):Option DSt:=
 cond (Nat.blt j N) (match x with
  |some ⟨k,Y⟩=>cond (aB k j) (O st) Y
  |_=>Y)
 (match nth st.m (j-N)with
 |some (O ⟨k,Y⟩)=>(match x with
  |some ⟨f,Y⟩=>cond (aB k f) (O st) Y
  |_=>Y)
 |some _=>Y
 |none=>cond (aB (j-N)<|hW st.m) (O {st with m:=st.m++[x]}) Y)
mutual
def KW (S:ak)(N:Nat):Sk->VV->DSt->Option DSt
 | .undef,_,st=>O st
 | .leaf s,v,st=>(match s,v with
  | .int k, .int k' n=>cond (Zc<|k'=k) (O<|st.push (.int k) n) Y
  | .bool, .bool b=>O (st.push .bool b)
  | .str, .str l=>O (st.push .str l)
  | .list s,v=>im (aa8 S s v) λl=>O ((st.lend v).push (.list s) l)
  |_,_=>Y)
 | .cint k n, .int k' n',st=>cond (Zc (k'=k)&&Zc (n'=n)) (O st) Y
 | .nilp, .nilp,st=>O st
 | .nils, .nils,st=>O st
 | .nilf, .nilf,st=>O st
 | .ptr j o, .ptr k o',st=>cond (aB o o') (st.link N j<|O ⟨k,Y⟩) Y
 | .full j,v,st=>(match v with
  | .full k=>st.link N j (O ⟨k,Y⟩)
  | .part k 0 n=>st.link N j (O ⟨k,O n⟩)
  | .nils=>st.link N j Y
  |_=>Y)
 | .pin s o, .pin s' x o',st=>cond (aB o o') (im (nL s' s x) λy=>O<|st.push s y) Y
 | .fn f a c, .fn f' a' c',st=>cond (aB f f') (im (Iy S N a a' st) λst1=>Iy S N c c' st1) Y
 | .agg l, .agg l',st=>Iy S N l l' st
 | .tup l, .tup l',st=>Iy S N l l' st
 |_,_,_=>Y
def Iy (S:ak)(N:Nat):List Sk->List VV->DSt->Option DSt
 |[],[],st=>O st
 |k::r,v::r',st=>im (KW S N k v st) λst1=>Iy S N r r' st1
 |_,_,_=>Y
end
def Om {α:Type}:Option Nat->List α->List α
 |none,l=>l
 |some n,l=>l.take n
def Xy (S:ak)(N:Nat):OSk->Option Src->DSt->Option DSt
 | .dead,_,f=>O f
 | .cells m g l,O ⟨k,Y⟩,f=>(match ag S k with
  | .cells j n cs=>cond (aB m j&&(g|| !n)) (Iy S N l cs<|cond g {f with lent:=k::f.lent} f) Y
  |_=>Y)
 | .arr g s,Y,f=>cond g Y (O<|f.push (.list s) [])
 | .arr g s,O ⟨k,h⟩,f=>cond (g|| !(ag S k).frozen) (im (aa8 S s<|.full k) λl=>O<|(cond g {f with lent:=k::f.lent} f).push (.list s)<|Om h l) Y
 |_,_,_=>Y
def KX (S:ak)(N:Nat):List OSk->List Nat->DSt->Option DSt
 |[],[],f=>O f
 |o::r,j::h,f=>im (Xy S N o (O ⟨j,Y⟩) f) λg=>KX S N r h g
 |_,_,_=>Y
def vB (S:ak)(N:Nat):List OSk->Nat->DSt->Option DSt
 |[],i,f=>cond (aB i<|hW f.m) (O f) Y
 |o::r,i,f=>(match nth f.m i with
  |some x=>im (Xy S N o x f) λg=>vB S N r (i+1) g
  |none=>Y)
def OSk.ro :OSk->Bool
 | .cells _ ro _=>ro
 | .arr ro _=>ro
 | .dead=>Zb
def lV (k:Nat):List Nat->Bool
 |[]=>Zb
 |a::r=>cond (aB a k) Za<|lV k r
def US :List Nat->Bool
 |[]=>Za
 |a::r=>cond (lV a r) Zb<|US r
def tY :List (Option Src)->List Nat
 |[]=>[]
 |none::r=>tY r
 |some x::r=>x.k::tY r
def lY :List OSk->List (Option Src)->List Nat
 |o::r,O x::s=>cond o.ro (lY r s) (x.k::lY r s)
 |_::r,Y::s=>lY r s
 |_,_=>[]
def Tl (w:List Nat)(l:List Nat):Bool:=w.all λk=> !lV k l
structure rN where
 vals:List Sk
 fix:List OSk
 free:List OSk
def nN (S:ak)(N:Nat)(fx:List Nat)(g:rN)(vals:List VV):Option DSt:=
 im (Iy S N g.vals vals ⟨[],[],[]⟩) λj=>im (KX S N g.fix fx j) λh=>im (vB S N g.free 0 h) λf=>
  cond (US (fx++tY f.m)&&Tl (fx++lY g.free f.m) f.lent) (O f) Y
mutual
def enc (f:Nat->Nat):Sk->List Leaf->Option (VV×List Leaf)
 | .undef,ls=>O (.undef,ls)
 | .leaf s,x::ls=>im (nL x.s s x.v) λ(y:El s)=>O ((match s,y with
  | .int k,n=> .int k n
  | .bool,b=> .bool b
  | .str,l=> .str l
  | .list s,l=> .lst s l
  | .pair _ _,_=> .undef),ls)
 | .cint k n,ls=>O (.int k n,ls)
 | .nilp,ls=>O (.nilp,ls)
 | .nils,ls=>O (.nils,ls)
 | .nilf,ls=>O (.nilf,ls)
 | .ptr j o,ls=>O (.ptr (f j) o,ls)
 | .full j,ls=>O (.full<|f j,ls)
 | .pin s o,x::ls=>im (nL x.s s x.v) λ(y:El s)=>O (.pin s y o,ls)
 | .fn g a c,ls=>im (Qr f a ls) λp=>im (Qr f c p.2) λq=>O (.fn g p.1 q.1,q.2)
 | .agg l,ls=>im (Qr f l ls) λp=>O (.agg p.1,p.2)
 | .tup l,ls=>im (Qr f l ls) λp=>O (.tup p.1,p.2)
 |_,_=>Y
def Qr (f:Nat->Nat):List Sk->List Leaf->Option (List VV×List Leaf)
 |[],ls=>O ([],ls)
 |k::r,ls=>im (enc f k ls) λp=>im (Qr f r p.2) λq=>O (p.1::q.1,q.2)
end
def Qs (f:Nat->Nat):OSk->List Leaf->Option (Blk×List Leaf)
 | .dead,g=>O (.dead,g)
 | .cells j h l,g=>im (Qr f l g) λp=>O (.cells j h p.1,p.2)
 | .arr h s,x::g=>im (nL x.s (.list s) x.v) λl=>O (.arr s h l,g)
 | .arr _ _,[]=>Y
def E7 (f:Nat->Nat):List OSk->List Leaf->Option (List Blk×List Leaf)
 |[],g=>O ([],g)
 |o::r,g=>im (Qs f o g) λp=>im (E7 f r p.2) λq=>O (p.1::q.1,q.2)
def mY (f:Nat->Nat)(g:rN)(ls:List Leaf):Option<|List VV×List Blk×List Blk:=
 im (Qr f g.vals ls) λp=>im (E7 f g.fix p.2) λq=>im (E7 f g.free q.2) λr=>match r.2 with
  |[]=>O (p.1,q.1,r.1)
  |_::_=>Y
mutual
def Sk.shs :Sk->List Sh
 | .leaf s=>[s]
 | .pin s _=>[s]
 | .fn _ a c=>Yr a++Yr c
 | .agg l=>Yr l
 | .tup l=>Yr l
 |_=>[]
def Yr :List Sk->List Sh
 |[]=>[]
 |k::r=>k.shs++Yr r
end
def OSk.shs :OSk->List Sh
 | .dead=>[]
 | .cells _ _ l=>Yr l
 | .arr _ s=>[.list s]
def bm4 :List OSk->List Sh
 |[]=>[]
 |o::r=>o.shs++bm4 r
def rN.shs (f:rN):List Sh:=Yr f.vals++(bm4 f.fix++bm4 f.free)
@[reducible] def BC :List Sh->Type
 |[]=>Unit
 |[s]=>El s
 |s::f::r=>El s×BC (f::r)
def Ni :(g:List Sh)->BC g->List Leaf
 |[],_=>[]
 |[s],x=>[⟨s,x⟩]
 |s::f::r,x=>⟨s,x.1⟩::Ni (f::r) x.2
def Ut :(h:List Sh)->List Leaf->Option (BC h)
 |[],[]=>O ()
 |[s],[x]=>nL x.s s x.v
 |s::g::r,x::f=>im (nL x.s s x.v) λa=>im (Ut (g::r) f) λb=>O (a,b)
 |_,_=>Y
inductive XK where
 |normal
 |exit (id:Nat)
 |ret
structure Alt where
 x:XK
 ts:List Nat
 sk:rN
@[reducible] def Alt.Ty (a:Alt):Type:=BC a.sk.shs
@[reducible] def wF :List Alt->Type
 |[]=>Empty
 |[a]=>a.Ty
 |a::b::r=>a.Ty⊕wF (b::r)
def be {α γ β:Type}(s:α⊕γ)(f:α->Option β)(g:γ->Option β):Option β:=match s with
 | .inl a=>f a
 | .inr b=>g b
def au4 {β:Type}:(l:List Alt)->wF l->((a:Alt)->a.Ty->Option β)->Option β
 |[],_,_=>Y
 |[a],t,k=>k a t
 |a::b::r,s,k=>be s (λt=>k a t) λf=>au4 (b::r) f k
def rN.noRo (f:rN):Bool:=f.fix.all (λo=> !o.ro)&&f.free.all λo=> !o.ro
def Oq (S:ak)(N:Nat)(fx:List Nat)(f:rN)(vals:List VV):Option<|BC f.shs:=
 gd f.noRo (im (nN S N fx f vals) λg=>Ut f.shs g.ls)
def rN.fxRo (f:rN):Bool:=f.fix.all λo=> !o.ro
def Y4 (S:ak)(N:Nat)(fx:List Nat)(f:rN)(vals:List VV):Option<|BC f.shs:=
 gd f.fxRo (im (nN S N fx f vals) λg=>Ut f.shs g.ls)
def yN (S:ak)(N:Nat)(fx:List Nat)(vals:List Nat->List VV)(f:XK->Bool):(l:List Alt)->Option (wF l)
 |[]=>Y
 |[a]=>cond (f a.x) (Oq S N fx a.sk<|vals a.ts) Y
 |a::b::r=>match cond (f a.x) (Oq S N fx a.sk<|vals a.ts) Y with
  |some t=>O (.inl t)
  |none=>im (yN S N fx vals f<|b::r) λs=>O<|.inr s
def Sh.al :Sh->Bool
 | .list _=>Za
 | .pair a b=>a.al||b.al
 |_=>Zb
mutual
def alV :VV->Bool
 | .lst _ _=>Za
 | .tgt _ _=>Za
 | .pin _ _ _=>Za
 | .fn _ a c=>QI a||QI c
 | .agg l=>QI l
 | .tup l=>QI l
 |_=>Zb
def QI :List VV->Bool
 |[]=>Zb
 |v::r=>alV v||QI r
end
def alB :Blk->Bool
 | .dead=>Zb
 | .cells _ _ l=>QI l
 | .arr s _ _=>s.al
def B1 (vs:List VV)(fs bs:List Blk):Bool:=QI vs||fs.any alB||bs.any alB
def Blk.may :Blk->Bool
 | .dead=>Za
 | .cells _ z _=> !z
 | .arr _ z _=> !z
def MO (S:ak)(fx:List Nat):Bool:=fx.all λj=>Nat.blt j (hW S)&&(ag S j).may
structure FSum where
 f:Nat
 vals:List Sk
 objs:List OSk
 outs:List Alt
 run:BC (rN.shs ⟨vals,[],objs⟩)->Option (wF outs)
def FSum.ins (F:FSum):rN:=⟨F.vals,[],F.objs⟩
def vF :List OSk->Nat->List Nat
 |[],_=>[]
 |o::r,i=>cond o.ro (vF r<|i+1)<|i::vF r (i+1)
def yL (m:List<|Option Src)(n f j:Nat):Nat:=cond (Nat.blt j n) (match nth m j with
 |some (O x)=>x.k
 |_=>f) (f+(j-n))
def yo :List Nat->List Blk->ak->Option ak
 |[],[],S=>O S
 |j::g,b::f,S=>yo g f (kR S j b)
 |_,_,_=>Y
def az3 :Sk->VV->ak->ak
 | .leaf (.list<|.list _),v,S=>bi6 S v
 |_,_,S=>S
def Gw :List Sk->List VV->ak->ak
 |k::r,v::f,S=>Gw r f (az3 k v S)
 |_,_,S=>S
def Fa :List Nat->ak->ak
 |[],S=>S
 |k::r,S=>Fa r<|kR S k (ag S k).freeze
def aZ2 {β:Type}(F:FSum)(t:BC F.ins.shs)(st:DSt)(S:ak)(k:VV->ak->Option β):Option β:=
 im (F.run t) λo=>au4 F.outs o λa u=>match mY (yL st.m (hW F.objs)<|hW S) a.sk (Ni a.sk.shs u)with
  |some ([v],g,f)=>(match yo (lY F.objs st.m) g (cond (B1 [v] g f) (Fa st.lent S) S)with
   |some S'=>k v (S'++f)
   |none=>Y)
  |_=>Y
def Rk :List (Option Src)->Bool
 |[]=>Za
 |some ⟨_,Y⟩::r=>Rk r
 |_=>Zb
def Oi {β:Type}:List FSum->Nat->List VV->ak->(VV->ak->Option β)->Option β
 |[],_,_,_,_=>Y
 |F::r,f,g,S,k=>cond (aB F.f f) (match nN (Gw F.vals g S) 0 [] F.ins g with
  |some h=>(match Ut F.ins.shs h.ls with
   |some t=>gd (Rk h.m&&MO (Gw F.vals g S) (lY F.objs h.m)) (aZ2 F t h (Gw F.vals g S) k)
   |none=>Oi r f g S k)
  |none=>Oi r f g S k) (Oi r f g S k)
structure Inl where
 f:Nat
 run:(β:Type)->List VV->ak->(VV->ak->Option β)->Option β
structure Tab where
 fs:List FSum
 is:List Inl
def aP7 :List Inl->Nat->Bool
 |[],_=>Zb
 |I::r,f=>cond (aB I.f f) Za<|aP7 r f
def YU {β:Type}:List Inl->Nat->List VV->ak->(VV->ak->Option β)->Option β
 |[],_,_,_,_=>Y
 |I::r,f,g,S,k=>cond (aB I.f f) (I.run β g S k)<|YU r f g S k
def YV {β:Type}(tab:Tab)(f:Nat)(args:List VV)(S:ak)(k:VV->ak->Option β):Option β:=
 cond (aP7 tab.is f) (YU tab.is f args S k) (Oi tab.fs f args S k)
def KM :Nat->List Nat
 |0=>[]
 |n+1=>n::KM n
def an8 {β:Type}(S:ak)(x:Option VV)(k:VV->ak->Option β):Option β:=match x with
 |some v=>k v S
 |none=>Y
def K2 {β:Type}(tab:Tab)(op:AOp)(e:db)(S:ak)(k:VV->ak->Option β):Option β:=match op with
 | .move x=>k (ev e x) S
 | .pick c a b=>(match ev e c with
  | .bool p=>aE4 p (ev e a) (ev e b) S k
  |_=>Y)
 | .alloc g z=>gd (aD 1 g) (k (.ptr (hW S) 0)<|S++[Gl g z])
 | .box g x=>gd (aD 1 g&&qc (nM<|ev e x)) (k (.ptr (hW S) 0)<|S++[.cells g Zb<|nM<|ev e x])
 | .build z r=>(match L4 (z.map MN) (CP e r)with
  |some cs=>k (.agg cs) S
  |none=>Y)
 | .buildSlice g q z r=>(match L4 ((bB q<|z.map MN).flatten) (CP e r)with
  |some cs=>gd (qc cs&&aB (q*g) (hW cs)&&aD 1 g) (k (.full<|hW S)<|S++[.cells g Zb cs])
  |none=>Y)
 | .load x=>Rw S 1 Zb (ev e x) k
 | .loadN n x=>Rw S n Za (ev e x) k
 | .store n a x=>gd (aB (hW<|nM<|ev e x) n&&qc (nM<|ev e x)) (Yy S (ev e a) (nM<|ev e x) λS'=>k .undef S')
 | .nilCheck x=>(match ev e x with
  | .fn f a c=>k (.fn f a c) S
  |v=>gd (OR S v)<|k v S)
 | .bin op x y=>bg3 op (ev e x) (ev e y) λv=>k v S
 | .eqv kd neg x y=>(match bi1 S kd (ev e x) (ev e y)with
  |some b=>k (.bool<|aC3 neg b) S
  |none=>Y)
 | .eqCells neg u x y=>(match ev e x,ev e y with
  | .agg a, .agg b=>(match Qt u a b with
   |some p=>k (.bool<|aC3 neg p) S
   |none=>Y)
  |_,_=>Y)
 | .un op x=>unK op (ev e x) λv=>k v S
 | .conv kd x=>(match Q8 (ev e x)with
  |some n=>k (.int kd<|kd.wrap n) S
  |none=>Y)
 | .mkFunc f a c=>k (.fn f (a.map<|ev e)<|c.map<|ev e) S
 | .makeSlice g h z l c=>aC1 S g h z (ev e l) (ev e c) k
 | .slice g x lo m=>Yt S g (ev e x) (lo.map<|ev e) (m.map<|ev e) k
 | .sliceStr x lo m=>Lu S (ev e x) (lo.map<|ev e) (m.map<|ev e) k
 | .sliceArr g n x lo m=>Lt S g n (ev e x) (lo.map<|ev e) (m.map<|ev e) k
 | .off n x=>an8 S (bk9 S n<|ev e x) k
 | .idx g x i=>bj2 S g (ev e x) (ev e i) k
 | .idxA q g x i=>az7 S q g (ev e x) (ev e i) k
 | .fieldV o n agg x=>(match ev e x with
  | .agg cs=>cond agg (k (.agg<|Dm cs o n) S) (an8 S (nth cs o) k)
  |_=>Y)
 | .indexV q g agg x i=>(match ev e x,ev e i with
  | .agg cs, .int _ i=>im (ix i q) λj=>cond agg (k (.agg<|Dm cs (j*g) g) S) (gd (aB g 1&&aB (hW cs) q)<|UQ cs j S k)
  |_,_=>Y)
 | .indexS x i=>(match ev e x,ev e i with
  | .str l, .int _ i=>im (rd l i) λb=>k (.int .u8 b) S
  |_,_=>Y)
 | .extract x i=>(match ev e x with
  | .tup A=>an8 S (nth A i) k
  |_=>Y)
 | .call f t=>YV tab f (t.map<|ev e) S k
 | .callv x t=>(match ev e x with
  | .fn f a c=>YV tab f (a++t.map (ev e)++c) S k
  |_=>Y)
 | .append g h s x=>NZ S g h (ev e s) (ev e x) k
 | .stuck=>Y
 | .newB=>k (.bld<|hW S) (S++[.cells 1 Zb [.str []]])
 | .strOf x=>YA S (ev e x) k
 | .capN x=>(match ev e x with
  | .nils=>k (.int .i64 0) S
  |_=>Y)
 | .sliceX x m w=>TX S (ev e x) (ev e m) (ev e w) k
 | .appendZ g h z s x=>N0 S g h z (ev e s) (ev e x) k
 | .copy g d s=>ax1 S g (ev e d) (ev e s) k
 | .len x=>(match ev e x with
  | .str _=>Y
  |v=>(match lenOf S v with
   |some n=>k (.int .i64 n) S
   |none=>Y))
 | .most x y=>(match ev e x,ev e y with
  | .int kd a, .int _ b=>k (.int kd<|max a b) S
  |_,_=>Y)
 | .least x y=>(match ev e x,ev e y with
  | .int kd a, .int _ b=>k (.int kd<|min a b) S
  |_,_=>Y)
section
variable (tab:Tab)
def Gs {β:Type}:List AOper->db->ak->(db->ak->Option β)->Option β
 |[],e,S,k=>k e S
 |o::r,e,S,k=>match o.guard with
  |none=>K2 tab o.op e S λv S'=>Gs r (putO e o.dst v) S' k
  |some (t,w)=>match lU e t with
   | .bool p=>cond p
    (cond w (K2 tab o.op (rF e t<|.bool Za) S λv S'=>Gs r (putO (rF e t<|.bool Za) o.dst v) S' k)<|Gs r (putO (rF e t<|.bool Za) o.dst<|.tup []) S k)
    (cond w (Gs r (putO (rF e t<|.bool Zb) o.dst<|.tup []) S k)<|K2 tab o.op (rF e t<|.bool Zb) S λv S'=>Gs r (putO (rF e t<|.bool Zb) o.dst v) S' k)
   | .tup []=>Gs r (putO e o.dst<|.tup []) S k
   |_=>Y
def Bd :VV->Option Nat
 | .ptr b _=>O b
 | .it b _=>O b
 | .bld b=>O b
 | .pix b _ _ _=>O b
 | .pel b _ _=>O b
 | .full b=>O b
 | .part b _ _=>O b
 |_=>Y
def au7 (S:ak)(v:VV):Option<|Option Nat:=match v with
 | .pin _ _ _| .lst _ _| .nils=>O Y
 |v=>(match Bd v with
  |some b=>cond (ag S b).live (O<|O b) Y
  |none=>Y)
def ah5 (S:ak)(op:AOp)(e:db):Option<|Option Nat:=match op with
 | .load x| .loadN _ x| .sliceArr _ _ x _ _| .slice _ x _ _=>au7 S (ev e x)
 |_=>Y
def aE1 :Option Nat->List Nat
 |some b=>[b]
 |none=>[]
def wK :List FSum->Nat->List VV->ak->List Nat
 |[],_,_,_=>[]
 |F::r,f,g,S=>cond (aB F.f f) (match nN (Gw F.vals g S) 0 [] F.ins g with
  |some h=>(match Ut F.ins.shs h.ls with
   |some _=>lY F.objs h.m
   |none=>wK r f g S)
  |none=>wK r f g S) (wK r f g S)
def Td (f:Nat)(args:List VV)(S:ak):List Nat:=cond (aP7 tab.is f) (KM<|hW S)<|wK tab.fs f args S
def JB (op:AOp)(e:db)(S:ak):List Nat:=match op with
 | .store _ a _=>aE1 (Bd<|ev e a)
 | .append _ _ s _=>aE1 (Bd<|ev e s)
 | .appendZ _ _ _ s _=>aE1 (Bd<|ev e s)
 | .copy _ d _=>aE1 (Bd<|ev e d)
 | .call f g=>Td tab f (g.map<|ev e) S
 | .callv x g=>(match ev e x with
  | .fn f a c=>Td tab f (a++g.map (ev e)++c) S
  |_=>[])
 |_=>[]
abbrev HT :=List<|Nat×Option (Option Nat)×(ak->Bool)
def MU (d:List Nat):HT->HT
 |[]=>[]
 |(i,O<|O b,f)::r=>(i,cond (lV b d) Y<|O<|O b,f)::MU d r
 |x::r=>x::MU d r
def rc (f:List Nat):HT->Bool
 |[]=>Za
 |(i,b,_)::r=>cond (lV i f) (match b with
  |some _=>rc f r
  |none=>Zb) (rc f r)
def Du (S:ak)(g:List Nat):HT->Bool
 |[]=>Za
 |(i,b,f)::r=>cond (lV i g) (match b with
  |some _=>Du S g r
  |none=>cond (f S) (Du S g r) Zb) (Du S g r)
def bi0 :VV->VV->Bool
 | .int k n, .int f g=>Zc (k=f)&&Zc (n=g)
 | .bool a, .bool b=>Zc (a=b)
 | .str a, .str b=>Zc (a=b)
 | .nilp, .nilp=>Za
 | .nils, .nils=>Za
 |_,_=>Zb
def TF (tab:Tab)(op:AOp)(e:db)(v:VV)(S:ak):Bool:=match K2 tab op e S λf _=>O (bi0 v f)with
 |some b=>b
 |none=>Zb
def K1 {β:Type}(it:SItem)(f:HT)(e:db)(S:ak)(k:HT->db->ak->Option β):Option β:=
 cond it.mover (K2 tab it.o.op e S λv S'=>gd (Du S' it.chks<|MU (JB tab it.o.op e S) f)<|k (MU (JB tab it.o.op e S) f) (putO e it.o.dst v) S')
  (gd (it.o.op.still&&(!it.keep||it.o.op.isLoad))<|K2 tab it.o.op e S λv S'=>k (cond it.keep ((it.idx,ah5 S it.o.op e,TF tab it.o.op e v)::f) f) (putO e it.o.dst v) S')
def vD {β:Type}:List SItem->HT->db->ak->(db->ak->Option β)->Option β
 |[],_,e,S,k=>k e S
 |it::r,g,e,S,k=>match it.o.guard with
  |none=>K1 tab it g e S λf h S'=>vD r f h S' k
  |some (t,w)=>match lU e t with
   | .bool p=>cond p
    (cond w (K1 tab it g (rF e t<|.bool Za) S λf h S'=>vD r f h S' k)<|vD r g (putO (rF e t<|.bool Za) it.o.dst<|.tup []) S k)
    (cond w (vD r g (putO (rF e t<|.bool Zb) it.o.dst<|.tup []) S k)<|K1 tab it g (rF e t<|.bool Zb) S λf h S'=>vD r f h S' k)
   | .tup []=>vD r g (putO e it.o.dst<|.tup []) S k
   |_=>Y
end
structure LItem where
 i:Nat
 kind:Nat
 chks:List Nat
 need:List Nat
def bh (f:List<|AOper×List Nat)(i:Nat):AOper:=match f[i]? with
 |some (o,_)=>o
 |none=>⟨Y, .stuck,Y⟩
def ad3 :VV->Bool
 | .int _ _| .bool _| .str _=>Za
 |_=>Zb
def ad2 :Value->Bool
 | .int _ _| .bool _| .string _=>Za
 |_=>Zb
def Bj {β:Type}(op:AOp)(e:db)(k:Blk->Bool->Option β):Option β:=match op with
 | .alloc g z=>gd (aD 1 g) (k (Gl g z) Zb)
 | .makeSlice g f z l c=>(match ev e l,ev e c,Mg z with
  | .int _ l, .int _ c,O s=>gd (aB g s.w&&Zc (0<=l)&&Zc (l<=c)&&Zc (f*c<=140737488355328)&&aD 1 f) (k (.arr s Zb<|bB l.toNat<|vM s) Za)
  |_,_,_=>Y)
 | .buildSlice g h z j=>(match L4 ((bB h<|z.map MN).flatten) (CP e j)with
  |some cs=>gd (qc cs&&aB (h*g) (hW cs)&&aD 1 g&&cs.all ad3&&z.all ad2) (k (.cells g Zb cs) Za)
  |none=>Y)
 |_=>Y
def vvF (w:Bool)(k:Nat):VV:=cond w (.full k)<|.ptr k 0
def sf (e:db):List Nat->db
 |[]=>e
 |t::f=>rF (sf e f) t .undef
def vG (f:List<|AOper×List Nat):List Nat->List Nat
 |[]=>[]
 |i::r=>(match(bh f i).dst with
  |some d=>[d]
  |none=>[])++vG f r
def aZ0 (n:Nat):Option (Option Nat)->Bool
 |some (O q)=>aB q n
 |_=>Zb
section
variable (tab:Tab)
def evG {β:Type}(f:List<|AOper×List Nat)(n:Nat):List Nat->db->ak->Option β->Option β
 |[],_,_,z=>z
 |i::g,e,S,z=>gd ((bh f i).op.still&&(!(bh f i).op.isLoad||aZ0 n (ah5 S (bh f i).op e)))<|K2 tab (bh f i).op e S λv S'=>evG f n g (putO e (bh f i).dst v) S' z
def E8 {β:Type}(f:List<|AOper×List Nat):List LItem->HT->db->ak->(db->ak->Option β)->Option β
 |[],_,e,S,k=>k e S
 |it::r,g,e,S,k=>
  cond (aB it.kind 3) (Bj (bh f it.i).op e λ_ _=>E8 f r g e S k)<|
  cond (aB it.kind 2) (Bj (bh f it.i).op e λblk w=>E8 f r g (putO e (bh f it.i).dst<|vvF w<|hW S) (S++[blk]) k)
  (cond (aB it.kind 1)
   (K2 tab (bh f it.i).op e S λv S'=>gd (rc it.chks (MU (JB tab (bh f it.i).op e S) g)&&rc it.need (MU (JB tab (bh f it.i).op e S) g))<|E8 f r (MU (JB tab (bh f it.i).op e S) g) (putO e (bh f it.i).dst v) S' k)
   (cond (aB it.kind 5) (Bj (bh f it.i).op (sf e<|vG f it.chks) λblk w=>evG tab f (hW S) it.chks (putO (sf e<|vG f it.chks) (bh f it.i).dst<|vvF w<|hW S) (S++[blk])<|E8 f r g (sf e<|vG f it.chks) S k)<|
   gd (bh f it.i).op.still (K2 tab (bh f it.i).op e S λv S'=>gd (rc it.need<|cond (bh f it.i).op.isLoad ((it.i,ah5 S (bh f it.i).op e,λ_=>Zb)::g) g)<|E8 f r (cond (bh f it.i).op.isLoad ((it.i,ah5 S (bh f it.i).op e,λ_=>Zb)::g) g) (putO e (bh f it.i).dst v) S' k)))
end
def VS :Operand->List Nat
 | .tmp t=>[t]
 |_=>[]
def vL :AOp->List Nat
 | .makeSlice _ _ _ l c=>VS l++VS c
 | .buildSlice _ _ _ f=>f.flatMap λp=>VS p.2.2
 |_=>[]
def OQ :AOp->Bool
 | .alloc f _=>aD 1 f
 |_=>Zb
def qY :AOp->Bool
 | .alloc _ _| .makeSlice _ _ _ _ _=>Za
 | .buildSlice _ _ z _=>z.all ad2
 |_=>Zb
def tS (d:Option Nat)(l:List Nat):Bool:=match d with
 |some t=> !lV t l
 |none=>Za
def neO (d f:Option Nat):Bool:=match d,f with
 |some t,O g=> !Nat.beq t g
 |_,_=>Za
def Dj (i:Nat):List Nat->List Nat
 |[]=>[]
 |a::r=>cond (aB a i) r<|a::Dj i r
def ET :List LItem->List Nat->Nat->Option (List Nat×LItem×List LItem)
 |[],_,_=>Y
 |it::r,P,i=>cond (aB it.kind 3) (ET r P i)<|cond (aB it.kind 2) (cond (lV it.i P) (ET r (Dj it.i P) i) Y)<|cond (aB it.i i) (O (P,it,r)) Y
def XF :List LItem->List Nat->Bool
 |[],P=>P.isEmpty
 |it::r,P=>cond (aB it.kind 3) (XF r P)<|aB it.kind 2&&lV it.i P&&XF r (Dj it.i P)
def bj6 :AOp->Bool
 | .move _=>Za
 |_=>Zb
def OO (f:List<|AOper×List Nat):List LItem->Nat->Bool
 |[],_=>Zb
 |it::r,m=>cond (aB it.kind 3) (aB it.i m||OO f r m)<|(aB it.kind 2&&(aB it.i m||(tS (bh f it.i).dst (vL (bh f m).op)&&OO f r m)))||(aB it.kind 0&&bj6 (bh f it.i).op&&tS (bh f it.i).dst (vL (bh f m).op)&&OO f r m)
def vJ (g:List<|AOper×List Nat)(f:Nat)(j:Bool)(P:List Nat)(r:List LItem):Bool:=
 P.all (λq=>neO (bh g f).dst (bh g q).dst&&tS (bh g f).dst (vL (bh g q).op))&&
 r.all λh=> !Nat.beq h.kind 2||(j&&aB h.i f)||neO (bh g f).dst (bh g h.i).dst
def aZ9 :List LItem->Bool
 |it::_=>aB it.kind 5
 |[]=>Zb
def aO4 :Option Nat->Nat->Bool
 |some a,b=>aB a b
 |none,_=>Zb
def ai7 (h:List<|AOper×List Nat):List Nat->Nat->List Nat->Option (Nat×List Nat)
 |[],f,D=>O (f,D)
 |i::g,f+1,D=>cond (aO4 (eZ h D) i&&(bh h i).guard.isNone) (ai7 h g f<|i::D) Y
 |_::_,0,_=>Y
def ai8 (g:List<|AOper×List Nat):List LItem->Nat->List Nat->Bool
 |[],0,_=>Za
 |[],_+1,D=>(eZ g D).isNone&&(bw g D).isEmpty
 |it::r,f+1,D=>aB it.kind 0&&aO4 (eZ g D) it.i&&(bh g it.i).guard.isNone&&ai8 g r f (it.i::D)
 |_::_,0,_=>Zb
def Vv :List Nat->List LItem->Option (List LItem)
 |[],r=>O r
 |i::g,f::r=>cond (aB f.kind 0&&aB f.i i) (Vv g r) Y
 |_::_,[]=>Y
def okG (f:List<|AOper×List Nat)(m c:Nat):List Nat->List Nat->Bool
 |_,[]=>Za
 |pre,i::g=>(bh f i).dst.isSome&&tS (bh f i).dst (vL (bh f m).op)&&neO (bh f i).dst (bh f m).dst&&tS (bh f c).dst (bh f i).op.reads&&neO (bh f c).dst (bh f i).dst&&(i::pre).all (λj=>tS (bh f i).dst (bh f j).op.reads)&&pre.all (λj=>neO (bh f i).dst (bh f j).dst)&&okG f m c (i::pre) g
def aw7 (g:List<|AOper×List Nat)(f:Nat)(D P ls m:List Nat):List LItem->Bool
 |it::h::j::r=>P.isEmpty&&aB h.kind 1&&aB j.kind 2&&aB j.i it.i&&qY (bh g it.i).op&& !qY (bh g h.i).op&&(bh g it.i).guard.isNone&&(bh g h.i).guard.isNone&&tS (bh g it.i).dst (vL (bh g it.i).op)&&
  !(bw g D).isEmpty&&(bw g D).all (λx=>aB x it.i||aB x h.i)&&ls.all (λi=>vx g i it.i||lV i m)&&ls.all (λi=>vx g i h.i||lV i h.chks)&&vJ g h.i Zb [it.i] (j::r)&&okG g it.i h.i [] it.chks&&
  (match ai7 g it.chks f (it.i::D),Vv it.chks r with
  |some (l+1,D1),O n=>(eZ g D1).isNone&&(match bw g D1 with
   |[x]=>aB x h.i
   |_=>Zb)&&ai8 g n l (h.i::D1)
  |_,_=>Zb)
 |_=>Zb
def bs7 (h:List<|AOper×List Nat)(g:List Nat->List Nat->List LItem->Bool)(D:List Nat):List LItem->Bool
 |_::f::r=>g (f.i::D) f.need r
 |_=>Zb
def Qo (g:List<|AOper×List Nat):Nat->List Nat->List Nat->List Nat->List Nat->List LItem->Bool
 |0,_,P,_,_,r=>XF r P
 |f+1,D,P,j,n,r=>match eZ g D with
  |some i=>(bh g i).guard.isNone&&(match ET r P i with
   |some (P',h,l)=>aB h.kind 0&&vJ g i Zb P' l&&Qo g f (i::D) P' (cond (bh g i).op.isLoad (i::j) j) h.need l
   |none=>Zb)
  |none=>cond (aZ9 r) (aw7 g f D P j n r&&bs7 g (λD' q l=>Qo g f D' [] j q l) D r)<|match bw g D with
   |[]=>XF r P
   |ms=>ms.all λm=>(bh g m).guard.isNone&&cond (qY (bh g m).op)
    (!lV m P&&r.any (λh=>aB h.kind 2&&aB h.i m)&&(OQ (bh g m).op||OO g r m)&&vJ g m Za P r&&tS (bh g m).dst (vL (bh g m).op)&&j.all (λi=>vx g i m||lV i n)&&Qo g f (m::D) (m::P) j n r)
    (match ET r P m with
    |some (P',h,l)=>aB h.kind 1&&vJ g m Zb P' l&&j.all (λi=>vx g i m||lV i h.chks)&&Qo g f (m::D) P' j h.need l
    |none=>Zb)
def at9 (i:Nat):List Nat->List Nat
 |[]=>[]
 |a::r=>cond (aB a i) r<|at9 i r
def B3 (f:List<|AOper×List Nat)(g:List Nat):List Nat->List Nat->List LItem
 |[],_=>[]
 |i::r,h=>
  cond (aD 2000 i) (⟨i % 1000,5,(at9 (i % 1000) r).take<|i / 10000,[]⟩::B3 f g r h)<|
  cond (aD 1000 i) (⟨i-1000,3,[],[]⟩::B3 f g r h)<|
  let o:=(bh f i).op
  let l:=cond o.isLoad (i::h) h
  let n:=r.filter λm=>qY (bh f m).op
  ⟨i,cond (qY o) 2<|cond o.still 0 1,h.filter λj=> !vx f j i,l.filter λj=>n.any λm=> !vx f j m⟩::B3 f g r l
def Ie (f:List<|AOper×List Nat):List LItem->Bool
 |[]=>Za
 |it::r=>r.all (λj=> !Nat.beq it.kind 2|| !Nat.beq j.kind 2||neO (bh f it.i).dst (bh f j.i).dst)&&Ie f r
def Hm (f:List<|AOper×List Nat):List LItem->List Nat
 |[]=>[]
 |it::r=>cond (aB it.kind 2) ((match(bh f it.i).dst with
  |some d=>[d]
  |none=>[])++Hm f r) (Hm f r)
inductive AT where
 |no
 |n (l r:AT)
 |lp (fx:List Nat) (head:Alt) (exits:List Alt) (b:AT)
 |jn (fx mov:List Nat) (exits:List Alt) (l r:AT)
 |sz (n:Nat) (l r:AT)
 |dr (L:List Nat)
 |all
def AT.sub :AT->AT
 | .all=> .all
 |_=> .no
def YR (g:List<|AOper×List Nat):Nat->List Nat->List Nat
 |0,_=>[]
 |f+1,D=>match eZ g D with
  |some i=>i::YR g f (i::D)
  |none=>match(bw g D).filter (λm=> !qY (bh g m).op),bw g D with
   |m::_,h=>(h.filter λx=>qY (bh g x).op&& !OQ (bh g x).op).map (1000+ ·)++m::YR g f (m::D)
   |[],m::_=>m::YR g f (m::D)
   |[],[]=>[]
def drL (f:List<|AOper×List Nat):AT->Option (List Nat)
 | .dr L=>O L
 | .all=>O (YR f (hW f) [])
 |_=>Y
def aR8 :List VV->Nat
 |[]=>0
 | .nilp::r=>aR8 r+1
 | .fn f _ _::r=>aR8 r+10*f
 |_::r=>aR8 r
def bk0 :Nat->ak->Nat
 |_,[]=>0
 |k, .cells _ _ l::r=>k*aR8 l+bk0 (k+1) r
 |k,_::r=>bk0 (k+1) r
def aA5 (S:ak):Nat:=hW S+1000*bk0 1 S
def AT.at (n:Nat):AT->AT
 | .sz m l r=>cond (aB m n) l (r.at n)
 |t=>t
def Wb (e:db):List Nat->List VV->db
 |t::f,v::g=>rF (Wb e f g) t v
 |_,_=>e
def Te :Option Nat->List Nat
 |some d=>[d]
 |none=>[]
def nK :AC->List Nat
 | .region f=>f.flatMap λo=>Te o.dst
 | .draw f=>f.flatMap λo=>Te o.1.dst
 | .sched g=>g.flatMap λi=>Te i.o.dst
 | .seq a b| .cond _ a b=>nK a++nK b
 | .block _ b| .loop b=>nK b
 |_=>[]
def XK.is :XK->AExit->Bool
 | .normal, .normal=>Za
 | .exit i, .exit j=>aB i j
 | .ret, .ret=>Za
 |_,_=>Zb
def XK.out :XK->AExit
 | .normal=> .normal
 | .exit i=> .exit i
 | .ret=> .ret
def ke (fx mov:List Nat)(fz:Bool):Nat->ak->ak
 |_,[]=>[]
 |i,b::r=>cond (lV i mov) (cond b.frozen b .dead) (cond (lV i fx) b<|cond fz b.freeze b)::ke fx mov fz (i+1) r
def GC :AC->Bool
 | .seq a b| .cond _ a b=>GC a&&GC b
 | .block _ b| .loop b=>GC b
 |_=>Za
def am {α γ:Type}(f:α->Option (α⊕γ))(n:Nat):α->Option γ:=
 Nat.rec (λ_=>Y) (λ_ g a=>im (f a) λs=>be s g O) n
def co :Nat:=18446744073709551616
def Ke (e0:db)(S:ak)(fx mov g:List Nat)(fz:Bool)(ts:List Nat)(h:rN)(t:BC h.shs):Option<|db×ak:=
 match mY id h (Ni h.shs t)with
 |some (f,l,j)=>(match yo fx l (ke fx mov (fz||B1 f l j) 0 S)with
  |some S'=>O (Wb (sf e0 g) ts f,S'++j)
  |none=>Y)
 |none=>Y
def aP4 {β:Type}(e0:db)(S:ak)(fx mov g:List Nat)(f:List Alt)(s:wF f)(k:AExit->db->ak->Option β):Option β:=
 au4 f s λa t=>match Ke e0 S fx mov g Zb a.ts a.sk t with
  |some (e,S')=>k a.x.out e S'
  |none=>Y
def O0 (F:AT->(β:Type)->db->ak->(AExit->db->ak->Option β)->Option β):AT->(β:Type)->db->ak->(AExit->db->ak->Option β)->Option β
 | .n l r,β,e,S,k=>F l β e S λx f S'=>match x with
  | .normal=>O0 F r β f S' k
  |x=>k x f S'
 | .sz m l r,β,e,S,k=>cond (aB m<|hW S) (O0 F l β e S k) (O0 F r β e S k)
 |_,_,_,_,_=>Y
def aB8 (F:(β:Type)->db->ak->(AExit->db->ak->Option β)->Option β)(n:Nat):(β:Type)->db->ak->(AExit->db->ak->Option β)->Option β:=
 Nat.rec (λ_ _ _ _=>Y) (λ_ g β e S k=>F β e S λx f S'=>match x with
  | .normal=>g β f S' k
  |x=>k x f S') n
def AT.rounds :AT->Nat
 | .n _ r=>r.rounds+1
 | .sz _ l r=>l.rounds+r.rounds
 |_=>0
def eval (tab:Tab):AC->AT->(β:Type)->db->ak->(AExit->db->ak->Option β)->Option β
 | .skip,_,_,e,S,k=>k .normal e S
 | .exit i,_,_,e,S,k=>k (.exit i) e S
 | .ret,_,_,e,S,k=>k .ret e S
 | .region g,_,_,e,S,k=>Gs tab g e S λh S'=>k .normal h S'
 | .sched A,_,_,e,S,k=>vD tab A [] e S λh S'=>k .normal h S'
 | .draw g,j,_,e,S,k=>(match drL g (j.at<|aA5 S)with
  |some L=>gd (Qo g (hW g) [] [] [] [] (B3 g L L [])&&Ie g (B3 g L L [])) (E8 tab g (B3 g L L []) [] (sf e<|Hm g<|B3 g L L []) S λh S'=>k .normal h S')
  |none=>Y)
 | .seq a b,j,β,e,S,k=>
  (match j.at (aA5 S)with
  | .jn q w f l r=>gd (MO S q&&GC a) (im (eval tab a l (wF f) e (ke (q++w) [] Za 0 S) λx h S'=>yN S' (hW S) q (λts=>ts.map<|lU h) (λy=>y.is x) f) λs=>
    aP4 e S q w (nK a) f s λx h S'=>match x with
     | .normal=>eval tab b r β h S' k
     |x=>k x h S')
  | .n l r=>eval tab a l β e S λx h S'=>match x with
   | .normal=>eval tab b r β h S' k
   |x=>k x h S'
  |u=>eval tab a u.sub β e S λx h S'=>match x with
   | .normal=>eval tab b u.sub β h S' k
   |x=>k x h S')
 | .cond c a b,j,β,e,S,k=>
  (match ev e c with
  | .bool p=>(match c,j.at (aA5 S)with
   | .tmp t, .n l r=>cond p (eval tab a l β (rF e t<|.bool Za) S k) (eval tab b r β (rF e t<|.bool Zb) S k)
   | .tmp t,u=>cond p (eval tab a u.sub β (rF e t<|.bool Za) S k) (eval tab b u.sub β (rF e t<|.bool Zb) S k)
   |_, .n l r=>cond p (eval tab a l β e S k) (eval tab b r β e S k)
   |_,u=>cond p (eval tab a u.sub β e S k)<|eval tab b u.sub β e S k)
  |_=>Y)
 | .block id b,j,β,e,S,k=>
  eval tab b (match j.at (aA5 S)with
   | .n l _=>l
   |u=>u.sub) β e S λx h S'=>match x with
   | .exit i=>cond (aB i id) (k .normal h S') (k (.exit i) h S')
   |x=>k x h S'
 | .loop b,j,_,e,S,k=>
  (match j.at (aA5 S)with
  | .lp q head f l=>gd (head.sk.fxRo&&MO S q&&GC b) (match nN S (hW S) q head.sk (head.ts.map<|lU e)with
   |some B=>im (Ut head.sk.shs B.ls) λD=>
    (am (λt=>match Ke e S q (tY B.m) (nK b) Za head.ts head.sk t with
     |some (C,S1)=>eval tab b l (BC head.sk.shs⊕wF f) C S1 λx h S'=>(match x with
      | .normal=>im (Y4 S' (hW S) q head.sk<|head.ts.map<|lU h) λt=>O (.inl t)
      |x=>im (yN S' (hW S) q (λts=>ts.map<|lU h) (λy=>y.is x) f) λs=>O<|.inr s)
     |none=>Y) co D).bind λs=>aP4 e S q (tY B.m) (nK b) f s k
   |none=>Y)
  | .all=>aB8 (eval tab b .all) 1000000 _ e S k
  |_=>O0 (eval tab b) j _ e S k)
def aU2 (e:db)(S:ak):ARes->Option VV
 | .tmp t=>O (lU e t)
 | .cell t=>(match lU e t with
  | .ptr b o=>(match ag S b with
   | .cells _ _ l=>nth l o
   |_=>Y)
  |_=>Y)
 | .cellN t n=>(match lU e t with
  | .ptr b o=>(match ag S b with
   | .cells _ _ l=>cond (aD (o+n)<|hW l) (O<|.agg<|(l.drop o).take n) Y
   |_=>Y)
  |_=>Y)
def Ka (e:db)(S:ak):List ARes->Option (List VV)
 |[]=>O []
 |r::f=>im (aU2 e S r) λv=>im (Ka e S f) λg=>O<|v::g
def WR :List VV->VV
 |[v]=>v
 |vs=> .tup vs
def bl (P:Program)(f:FuncId)(tab:Tab)(at':AT):(β:Type)->List VV->ak->(VV->ak->Option β)->Option β:=λβ g S k=>
 match ar7 P f with
 |some a=>gd (aD (hW g) a.ntmps) (eval tab a.body at' β g S λx e S'=>match x with
  | .exit _=>Y
  |_=>(match Ka e S' a.results with
   |some h=>k (WR h) S'
   |none=>Y))
 |none=>Y
def K3 (P:Program)(f:FuncId)(tab:Tab)(vals:List Sk)(g:List OSk)(h:List Alt)(at':AT)(t:BC<|rN.shs ⟨vals,[],g⟩):Option<|wF h:=
 match ar7 P f,mY id ⟨vals,[],g⟩ (Ni _ t)with
 |some a,O (j,_,S)=>gd (aD (hW j) a.ntmps) (eval tab a.body at' (wF h) j S λx e S'=>match x with
  | .exit _=>Y
  |_=>(match Ka e S' a.results with
   |some l=>yN S' (hW S) (vF g 0) (λ_=>[WR l]) (λ_=>Za) h
   |none=>Y))
 |_,_=>Y
end
section
open Nat renaming lt_of_lt_of_le->aB
structure Ctx where
 μ:Nat->Option Nat
 S:ak
 Z:Hp
 fb:Nat->Prop
def Blk.dim :Blk->Option (Nat×Nat)
 | .dead=>Y
 | .cells f _ l=>O (f,hW l)
 | .arr s _ l=>O (s.w,hW l*s.w)
def Blk.vals :Blk->List VV
 | .dead=>[]
 | .cells _ _ l=>l
 | .arr s _ l=>gf s l
def Ctx.own (c:Ctx)(b:Nat):Prop:= ∃k,(ag c.S k).frozen=Zb/\c.μ k=O b
def Ctx.mut (c:Ctx)(b:Nat):Prop:=c.own b∨c.fb b
def IU (c:Ctx)(k lo n:Nat)(d:Nat×Nat)(a:Value):Prop:=
 (a= .slice Y 0 0/\lo=0/\n=0/\c.μ k=Y/\d.2=0)∨
 ∃b f y,a= .slice (O ⟨b,lo*d.1,Y⟩) n f/\c.μ k=O b/\(lo+n)*d.1<=d.2/\n<=f/\c.Z.m b=O y/\(lo+f)*d.1<=hW y.cells
inductive VRel (c:Ctx):VV->Value->Prop where
 |undef (a:Value):VRel c .undef a
 |bool (b:Bool):VRel c (.bool b) (.bool b)
 |int (k:IntKind) (n:Int):VRel c (.int k n) (.int k n)
 |str {l:Zd} {s:ByteArray}:fg s=l->VRel c (.str l) (.string s)
 |nilp:VRel c .nilp (.pointer Y)
 |nils:VRel c .nils (.slice Y 0 0)
 |nilf:VRel c .nilf .nilFunc
 |ptr {k o:Nat} {a:Value}:k<hW c.S->one a=Za->(∀d,(ag c.S k).dim=O d->∃b,c.μ k=O b/\a= .pointer (O ⟨b,o,Y⟩))->VRel c (.ptr k o) a
 |it {k:Nat} {l:Zd} {s:ByteArray} {a:Value}:k<hW c.S->one a=Za->fg s=l->(∀d,(ag c.S k).dim=O d->∃b,c.μ k=O b/\a= .iface b (.string s))->VRel c (.it k l) a
 |bld {k:Nat} {a:Value}:k<hW c.S->one a=Za->(∀d,(ag c.S k).dim=O d->∃b,c.μ k=O b/\a= .iface b .nilFunc)->VRel c (.bld k) a
 |pix {k o n i:Nat} {a:Value}:k<hW c.S->one a=Za->i<n->(∀d,(ag c.S k).dim=O d->∃b,c.μ k=O b/\a= .pointer (O ⟨b,o+i,Y⟩))->VRel c (.pix k o n i) a
 |pel {k i o:Nat} {a:Value}:k<hW c.S->one a=Za->(∀d,(ag c.S k).dim=O d->∃b,c.μ k=O b/\a= .pointer (O ⟨b,i*d.1+o,Y⟩))->VRel c (.pel k i o) a
 |pin {s:Sh} {x:El s} {o b p:Nat} {y:Ab.Blk}: ¬c.mut b->c.Z.m b=O y->p+s.w<=hW y.cells->F2 (VRel c) (eX s x) ((y.cells.drop p).take s.w)->VRel c (.pin s x o) (.pointer<|O ⟨b,p+o,Y⟩)
 |lstn {s:Sh} {q:Option Addr}:(∀z,q=O z->z.spot=Y)->VRel c (.lst s []) (.slice q 0 0)
 |lst {s:Sh} {l:List<|El s} {b p n cp:Nat} {y:Ab.Blk}: ¬c.mut b->c.Z.m b=O y->y.es=s.w->n=hW l->n<=cp->p+n*s.w<=hW y.cells->
   F2 (VRel c) (gf s l) ((y.cells.drop p).take<|n*s.w)->VRel c (.lst s l) (.slice (O ⟨b,p,Y⟩) n cp)
 |tgtn {s:Sh} {a:Value}:(a= .slice Y 0 0∨∃b o,a= .slice (O ⟨b,o,O 0⟩) 0 0)->VRel c (.tgt s []) a
 |tgt {s:Sh} {l:List<|El s} {b p:Nat} {y:Ab.Blk}: ¬c.mut b->c.Z.m b=O y->y.es=s.w->p+hW l*s.w<=hW y.cells->
   F2 (VRel c) (gf s l) ((y.cells.drop p).take<|hW l*s.w)->VRel c (.tgt s l) (.slice (O ⟨b,p,O 0⟩) (hW l)<|hW l)
 |full {k:Nat} {a:Value}:k<hW c.S->one a=Za->(∀d,(ag c.S k).dim=O d->∃n,n*d.1=d.2/\IU c k 0 n d a)->VRel c (.full k) a
 |part {k lo n:Nat} {a:Value}:k<hW c.S->one a=Za->(∀d,(ag c.S k).dim=O d->IU c k lo n d a)->VRel c (.part k lo n) a
 |fn {f:Nat} {a b:List VV} {a' b':Array Value}:F2 (VRel c) a a'.toList->F2 (VRel c) b b'.toList->VRel c (.fn f a b) (.func (.func f) a' b')
 |agg {l:List VV} {l':Array Value}:F2 (VRel c) l l'.toList->VRel c (.agg l) (.agg l')
 |tup {l:List VV} {l':Array Value}:F2 (VRel c) l l'.toList->VRel c (.tup l) (.tuple l')
def Nn (c:Ctx)(k:Nat):Prop:= ∀d,(ag c.S k).dim=O d->1<=d.1/\
 ((d.2=0/\c.μ k=Y)∨∃b y cs f,c.μ k=O b/\c.Z.m b=O y/\y.es=d.1/\((ag c.S k).frozen=Zb->y.own=Za)/\y.cells=cs++f/\F2 (VRel c) (ag c.S k).vals cs)
structure Rel (c:Ctx):Prop where
 ok:c.Z.Ok
 inj: ∀k k' b,(ag c.S k).frozen=Zb->(ag c.S k').dim≠Y->c.μ k=O b->c.μ k'=O b->k=k'
 blk: ∀k,Nn c k
 fbk: ∀k b,(ag c.S k).dim≠Y->c.μ k=O b->¬c.fb b
 fbl: ∀b,c.fb b->b<c.Z.n
structure Le (c c':Ctx):Prop where
 len:hW c.S<=hW c'.S
 al: ∀k d,k<hW c.S->(ag c'.S k).dim=O d->(ag c.S k).dim=O d/\c'.μ k=c.μ k
 fz: ∀k,(ag c.S k).frozen=Za->(ag c.S k).dim≠Y->ag c'.S k=ag c.S k
 ln: ∀k d b y,k<hW c.S->(ag c'.S k).dim=O d->c.μ k=O b->c.Z.m b=O y->∃y',c'.Z.m b=O y'/\hW y'.cells=hW y.cells
 un: ∀b y,c.Z.m b=O y->¬c.own b->c'.Z.m b=O y
 ow: ∀b y,c.Z.m b=O y->¬c.own b->¬c'.own b
 n:c.Z.n<=c'.Z.n
 fb:c'.fb=c.fb
def Le.rd {c f:Ctx}(h:Le c f)(b:Nat)(y:Ab.Blk)(l:c.Z.m b=O y)(j: ¬c.mut b):f.Z.m b=O y/\¬f.mut b:=by
 have g: ¬c.own b:=λe=>j (.inl e)
 refine⟨h.un b y l g,λe=> ?_⟩;rcases e with e|e
 .exact h.ow b y l g e
 rw[h.fb]at e;exact j<|.inr e
def vP (d:List Nat)(c f:Ctx):Prop:= ∀k,k<hW c.S->k∉d->(ag c.S k).dim≠Y->(ag f.S k).dim≠Y/\∀b,c.μ k=O b->f.Z.m b=c.Z.m b
def lM {S:ak}(h:(ag S k).dim≠Y):k<hW S:=by
 induction S generalizing k with
 |nil=>exact(h rfl).elim
 |cons b r f=>
  cases k with
  |zero=>exact Nat.zero_lt_succ _
  |succ k=>exact Nat.succ_lt_succ<|f h
def yl {S:ak}(h:hW S<=k):ag S k= .dead:=by
 induction S generalizing k with
 |nil=>rfl
 |cons b r f=>
  cases k with
  |zero=>simp at h
  |succ k=>exact f V8
def GQ {S:ak}:hW (kR S k b)=hW S:=by
 induction S generalizing k with
 |nil=>rfl
 |cons a r f=>cases k<;>simp[kR,f]
def Aw {S:ak}:ag (kR S k b) i=if i=k/\k<hW S then b else ag S i:=by
 induction S generalizing k i with
 |nil=>simp[kR]
 |cons a r f=>
  cases k with
  |zero=>cases i<;>simp[kR,ag]
  |succ k=>
   cases i with
   |zero=>simp[kR,ag]
   |succ i=>simp[kR,ag,f]
def ad4 {S:ak}(h:k<hW S):ag (kR S k b) k=b:=by rw[Aw,zE ⟨rfl,h⟩]
def aV0 {S:ak}(h:i≠k):ag (kR S k b) i=ag S i:=by rw[Aw,zF<|λe=>h e.1]
def nS {S:ak}{l:List Blk}(h:k<hW S):ag (S++l) k=ag S k:=by
 induction S generalizing k with
 |nil=>simp at h
 |cons a r f=>
  cases k with
  |zero=>rfl
  |succ k=>exact f V8
def tU {S:ak}{l:List Blk}{k:Nat}:ag (S++l) (hW S+k)=ag l k:=by
 induction S with
 |nil=>simp
 |cons a r f=>
  have:hW (a::r)+k=(hW r+k)+1:=by simp;omega
  rw[this];exact f
def WC {S:ak}:ag (S++[b]) (hW S)=b:=by
 exact @tU S [b] 0
def mT (h:b.frozen=Zb):b.dim≠Y:=by cases b<;>simp[Blk.frozen,Blk.dim]at*
def gh :b.freeze.dim=b.dim:=by cases b<;>rfl
def Mk :b.freeze.vals=b.vals:=by cases b<;>rfl
def kP :b.freeze.frozen=Za:=by cases b<;>rfl
def Dp (h:b.frozen=Za):b.freeze=b:=by cases b<;>simp[Blk.frozen,Blk.freeze]at* <;>simp[h]
def Le.refl (c:Ctx):Le c c:=⟨Nat.le_refl _,λ_ _ _ h=>⟨h,rfl⟩,λ_ _ _=>rfl,λ_ _ _ y _ _ _ f=>⟨y,f,rfl⟩,λ_ _ h _=>h,λ_ _ _ h=>h,Nat.le_refl _,rfl⟩
def Le.trans {a b c:Ctx}(h:Le a b)(k:Le b c):Le a c:=by
 refine⟨Nat.le_trans h.len k.len,λi d j g=> ?_,λi u g=> ?_,λi d x y j g w l=> ?_,λx y l m=>k.un x y (h.un x y l m)<|h.ow x y l m,λx y l m=>k.ow x y (h.un x y l m)<|h.ow x y l m,Nat.le_trans h.n k.n,k.fb.trans h.fb⟩
 .obtain⟨f,t⟩:=k.al i d (aB j h.len) g;have⟨q,r⟩:=h.al i d j f;exact⟨q,t.trans r⟩
 .have f:=h.fz i u g;rw[k.fz i (by rw[f];exact u) (by rw[f];exact g),f]
 have⟨f,t⟩:=k.al i d (aB j h.len) g;have⟨D,q,r⟩:=h.ln i d x y j f w l;have⟨_,B⟩:=h.al i d j f;have⟨E,A,C⟩:=k.ln i d x D (aB j h.len) g (B.trans w) q;exact⟨E,A,C.trans r⟩
def vP.refl (d:List Nat)(c:Ctx):vP d c c:=λ_ _ _ h=>⟨h,λ_ _=>rfl⟩
def IU.frame {c g:Ctx}(h:Le c g){n:Nat}(q:k<hW c.S)(m:(ag g.S k).dim=O d)(B:IU c k lo n d a):IU g k lo n d a:=by
 have⟨E,l⟩:=h.al k d q m;rcases B with⟨rfl,rfl,rfl,f,D⟩|⟨b,r,y,rfl,f,t,u,C,w⟩
 .exact .inl ⟨rfl,rfl,rfl,l.trans f,D⟩
 have⟨y',j,A⟩:=h.ln k d b y q m f C;exact .inr ⟨b,r,y',rfl,l.trans f,t,u,j,by rw[A];exact w⟩
theorem VRel.frame {c B:Ctx}(h:Le c B): ∀{v:VV} {a:Value},VRel c v a->VRel B v a
 |_,_, .undef a=> .undef a
 |_,_, .bool b=> .bool b
 |_,_, .int k n=> .int k n
 |_,_, .str E=> .str E
 |_,_, .nilp=> .nilp
 |_,_, .nils=> .nils
 |_,_, .nilf=> .nilf
 |_,_, .ptr j f r=> .ptr (aB j h.len) f λd g=>by
  have⟨f,q⟩:=h.al _ d j g
  grind
 |_,_, .it j f E r=> .it (aB j h.len) f E λd g=>by
  have⟨f,q⟩:=h.al _ d j g
  grind
 |_,_, .bld j f r=> .bld (aB j h.len) f λd g=>by
  have⟨f,q⟩:=h.al _ d j g
  grind
 |_,_, .pix j f H r=> .pix (aB j h.len) f H λd g=>by
  have⟨f,q⟩:=h.al _ d j g
  grind
 |_,_, .pel j f r=> .pel (aB j h.len) f λd g=>by
  have⟨f,q⟩:=h.al _ d j g
  grind
 |_,_, .pin t u I A=> .pin (h.rd _ _ u t).2 (h.rd _ _ u t).1 I (go A)
 |_,_, .lstn D=> .lstn D
 |_,_, .lst t u C f q w A=> .lst (h.rd _ _ u t).2 (h.rd _ _ u t).1 C f q w (go A)
 |_,_, .tgtn D=> .tgtn D
 |_,_, .tgt t u C w A=> .tgt (h.rd _ _ u t).2 (h.rd _ _ u t).1 C w (go A)
 |_,_, .full j f r=> .full (aB j h.len) f λd g=>by
  have⟨f,q⟩:=h.al _ d j g;have⟨n,w,F⟩:=r d f;exact⟨n,w,F.frame h j g⟩
 |_,_, .part j f r=> .part (aB j h.len) f λd g=>by
  have⟨f,q⟩:=h.al _ d j g;exact(r d f).frame h j g
 |_,_, .fn f q=> .fn (go f) (go q)
 |_,_, .agg f=> .agg (go f)
 |_,_, .tup f=> .tup<|go f
where
 go: ∀{l:List VV} {m:List Value},F2 (VRel c) l m->F2 (VRel B) l m
  |_,_, .nil=> .nil
  |_,_, .cons f q=> .cons (VRel.frame h f)<|go q
def VRel.frames {c f:Ctx}(h:Le c f){l:List VV}{m:List Value}(g:F2 (VRel c) l m):F2 (VRel f) l m:=g.imp λ_ _ j=>j.frame h
def jd {β:Type}(c:Ctx)(d:List Nat)(k:VV->ak->Option β)(y:β)(v:Value)(Z':Hp):Prop:=
 ∃g f,f.Z=Z'/\Le c f/\Rel f/\vP d c f/\VRel f g v/\k g f.S=O y
def jd.same {β:Type}{c:Ctx}{d:List Nat}{k:VV->ak->Option β}{y:β}{v:Value}{f:VV}(g:Rel c)(j:VRel c f v)(h:k f c.S=O y):jd c d k y v c.Z:=
 ⟨f,c,rfl,Le.refl c,g,vP.refl d c,j,h⟩
end
section
open List renaming length_append->bB,length_cons->bD,take_append->cB,take_of_length_le->cD
open Nat renaming succ_mul->aB,le_refl->aD,mul_le_mul_right->cK
def nV : ∀s:Sh,1<=s.w
 | .int _=>aD _
 | .bool=>aD _
 | .str=>aD _
 | .list _=>aD _
 | .pair a _=>Nat.le_trans (nV a)<|Nat.le_add_right _ _
def fi : ∀(s:Sh) (x:El s),hW (eX s x)=s.w
 | .int _,_=>rfl
 | .bool,_=>rfl
 | .str,_=>rfl
 | .list _,_=>rfl
 | .pair a b,x=>by
  simp only[eX,bB,Sh.w];rw[fi a,fi b]
def Hk :gf s []=[]:=rfl
def gN {x:El s}{l:List<|El s}:gf s (x::l)=eX s x++gf s l:=rfl
def gS {l:List<|El s}:hW (gf s l)=hW l*s.w:=by
 induction l with
 |nil=>simp[Hk]
 |cons x l f=>rw[gN,bB,fi,f,bD,aB,Nat.add_comm]
def Ar {l m:List<|El s}:gf s (l++m)=gf s l++gf s m:=List.flatMap_append
def li {l:List<|El s}{n:Nat}:gf s (l.take n)=(gf s l).take (n*s.w):=by
 induction l generalizing n with
 |nil=>simp[Hk]
 |cons x l g=>
  cases n with
  |zero=>simp[Hk]
  |succ n=>
   rw[List.take_succ_cons,gN,gN,g,cB,fi];have f:(n+1)*s.w-s.w=n*s.w:=by rw[aB];omega
   rw[f,cD (l:=eX s x) (by rw[fi,aB];omega)]
def Bi {l:List<|El s}{n:Nat}:gf s (l.drop n)=(gf s l).drop (n*s.w):=by
 induction l generalizing n with
 |nil=>simp[Hk]
 |cons x l g=>
  cases n with
  |zero=>simp
  |succ n=>
   rw[List.drop_succ_cons,gN,g,List.drop_append,fi];have f:(n+1)*s.w-s.w=n*s.w:=by rw[aB];omega
   rw[f,List.drop_of_length_le (l:=eX s x) (by rw[fi,aB];omega),List.nil_append]
theorem K5 {l:List<|El s}{x:El s}(h:l[i]?=O x):((gf s l).drop<|i*s.w).take s.w=eX s x:=by
 rw[<-Bi]
 have g:i<hW l:=by
  grind
 have f:l.drop i=x::l.drop (i+1):=by
  rw[List.drop_eq_getElem_cons g]
  grind
 rw[f,gN,cB,fi,Nat.sub_self,List.take_zero,List.append_nil,cD (by rw[fi];exact aD _)]
theorem mE {f:Sh}{x:El f}{y:El s}(h:nL f s x=O y): ∃e:f=s,y=e▸x:=by
 unfold nL at h
 grind
def mD {x:El s}:nL s s x=O x:=by
 unfold nL;rw[dif_pos rfl]
def F2.app_left {α β:Type}{r:α->β->Prop}{l l':List α}{m:List β}(h:F2 r (l++l') m): ∃f g,m=f++g/\F2 r l f/\F2 r l' g:=by
 induction l generalizing m with
 |nil=>exact⟨[],m,rfl, .nil,h⟩
 |cons a l u=>
  cases h with
  |cons j n=>
   obtain⟨f,g,rfl,q,t⟩:=u n;exact⟨_::f,g,rfl, .cons j q,t⟩
def AW (c:Ctx)(s:Sh)(l:List<|El s)(a:Value):Prop:=
 (∃q:Option Addr,a= .slice q 0 0/\l=[]/\∀z,q=O z->z.spot=Y)∨∃b p f y,a= .slice (O ⟨b,p,Y⟩) (hW l) f/\c.Z.m b=O y/\y.es=s.w/\hW l<=f/\p+hW l*s.w<=hW y.cells/\F2 (VRel c) (gf s l) ((y.cells.drop p).take<|hW l*s.w)
def AW.rel {c:Ctx}{l:List<|El s}(h:AW c s l a)(A: ∀b p n f,a= .slice (O ⟨b,p,Y⟩) n f->f≠0->¬c.mut b):VRel c (.lst s l) a:=by
 rcases h with⟨q,rfl,rfl,B⟩|⟨b,p,f,y,rfl,m,r,t,u,w⟩
 .exact .lstn B
 by_cases j:f=0
 .subst j;have:l=[]:=dy.1 V1;subst this;exact .lstn λz g=>by injection g with g;rw[<-g]
 exact .lst (A _ _ _ _ rfl j) m r rfl t u w
def VRel.listAt {c:Ctx}{l:List<|El s}(h:VRel c (.lst s l) a):AW c s l a:=by
 cases h with
 |lstn q=>exact .inl ⟨_,rfl,rfl,q⟩
 |lst t r n f g j m=>subst f;exact .inr ⟨_,_,_,_,rfl,r,n,g,j,m⟩
def VRel.lst_mut {c:Ctx}{l:List<|El s}{b n f:Nat}(h:VRel c (.lst s l)<|.slice (O ⟨b,p,Y⟩) n f)(g:f≠0): ¬c.mut b:=by
 cases h with
 |lstn=>exact(g rfl).elim
 |lst j=>exact j
def Rel.fz_mut {c:Ctx}(g:Rel c){b:Nat}(l:(ag c.S k).frozen=Za)(j:(ag c.S k).dim≠Y)(m:c.μ k=O b): ¬c.mut b:=by
 rintro(⟨q,f,n⟩|h)
 .have:=g.inj q k b f j n m;subst this;rw[f]at l;cases l
 exact g.fbk k b j m h
def LR (c:Ctx)(s:Sh)(f:List VV->Option (El s×List VV)):Prop:= ∀g x h,f g=O (x,h)->
 ∃j,g=j++h/\hW j=s.w/\∀l,F2 (VRel c) j l->F2 (VRel c) (eX s x) l
def KU {c:Ctx}{s:Sh}{f:List VV->Option (El s×List VV)}(u:LR c s f): ∀(n:Nat) (cells:List VV) (l:List<|El s),LX f n cells=O l->
  (hW cells)=hW l*s.w/\∀as,F2 (VRel c) cells as->F2 (VRel c) (gf s l) as
 |n,[],l,h=>by
  have:l=[]:=by cases n<;>simpa[LX]using h.symm
  subst this;exact⟨V2,λas j=>j⟩
 |0,_::_,_,h=>by simp[LX]at h
 |n+1,v::r,l,h=>by
  simp only[LX]at h;cases m:f (v::r)with
  |none=>rw[m]at h;cases h
  |some p=>
   have⟨x,g⟩:=p;rw[m]at h;simp only[zG]at h;cases q:LX f n g with
   |none=>rw[q]at h;cases h
   |some H=>
    rw[q]at h;cases h;have⟨I,t,A,B⟩:=u _ _ _ m;have⟨C,D⟩:=KU u n g H q;refine⟨by rw[t,bB,A,C,bD,aB,Nat.add_comm],λas j=> ?_⟩;rw[t]at j;obtain⟨J,K,rfl,E,F⟩:=F2.app_left j;exact(B _ E).append<|D _ F
def tN {c:Ctx}{f:List VV->Option (El s×List VV)}(r:LR c s f){l:List<|El s}(h:Aa s f (ag c.S k)=O l):
  ∃d,(ag c.S k).dim=O d/\d.1=s.w/\d.2=hW l*s.w/\∀as,F2 (VRel c) (ag c.S k).vals as->F2 (VRel c) (gf s l) as:=by
 generalize ag c.S k=b at h;cases b with
 |dead=>cases h
 |arr t z m=>
  have⟨e,g⟩:=mE h;cases e;subst g;exact⟨_,rfl,rfl,rfl,λ_ h=>h⟩
 |cells n z m=>
  simp only[Aa]at h;cases j:Nat.beq n s.w with
  |false=>rw[j]at h;cases h
  |true=>
   rw[j,zC]at h;have⟨g,q⟩:=KU r _ _ _ h;exact⟨_,rfl,Nat.eq_of_beq_eq_true j,g,q⟩
theorem Ob {c:Ctx}(W:Rel c){f:List VV->Option (El s×List VV)}(X:LR c s f){n:Nat}{l:List<|El s}(h:Aa s f (ag c.S k)=O l)
  (L:(ag c.S k).dim=O d) (hs:IU c k lo n d a):AW c s ((l.drop lo).take n) a/\((l.drop lo).take n).length=n:=by
 obtain⟨d',u,E,H,U⟩:=tN X h;rw[L]at u;injection u with u
 subst u;obtain⟨h0,K⟩:=W.blk k d L;have M:=nV s;rcases hs with⟨rfl,rfl,rfl,q,F⟩|⟨b,Q,y,rfl,q,I,J,N,V⟩
 .have:l.length=0:=by
   rw[F]at H;rcases Nat.eq_zero_or_pos l.length with h|h
   .exact h
   .have:=Nat.mul_pos h M;omega
  rw[List.length_eq_zero_iff]at this;subst this;exact⟨.inl ⟨Y,rfl,V2,λz F=>by cases F⟩,V2⟩
 .have Z:lo+n<=l.length:=by
   rw[E,H]at I;exact Nat.le_of_mul_le_mul_right I M
  have g:((l.drop lo).take n).length=n:=by rw[List.length_take,List.length_drop];omega
  refine⟨.inr ⟨b,lo*d.1,Q,y,by rw[g],N, ?_,by rw[g];exact J, ?_, ?_⟩,g⟩
  .rcases K with⟨m,j⟩|⟨P,y',cs,t,m,j,A,_⟩
   .rw[j]at q;cases q
   grind
  .rw[g];have:=cK d.1 J;rw[Nat.add_mul]at V;rw[<-E];omega
  .rcases K with⟨m,j⟩|⟨P,y',cs,t,m,j,A,_,B,C⟩
   .rw[j]at q;cases q
   .rw[q]at m;injection m with m
    subst m;rw[N]at j;injection j with j
    subst j;have r:=U _ C;have D:cs.length=l.length*s.w:=by rw[<-r.length,gS]
    rw[g,li,Bi,E,B,List.drop_append_of_le_length (by rw[D];exact cK _ V1),List.take_append_of_le_length]
    .exact(r.drop _).take _
    grind
theorem Vm {c:Ctx}(u:Rel c){f:List VV->Option (El s×List VV)}(m:LR c s f){l:List<|El s}(h:Aa s f (ag c.S k)=O l)(A:VRel c (.full k) a):AW c s l a:=by
 have⟨d,g,q,r,B⟩:=tN m h;cases A with
 |full C _ w=>
  have⟨n,j,t⟩:=w d g
  have D:n=hW l:=by
   rw[q,r]at j;exact Nat.eq_of_mul_eq_mul_right (nV s) j
  have:=(Ob u m h g t).1
  grind
def VW {c:Ctx}(m:Rel c){f:List VV->Option (El s×List VV)}(j:LR c s f){n:Nat}{l:List<|El s}(h:Aa s f (ag c.S k)=O l)(r:VRel c (.part k lo n) a):
  AW c s ((l.drop lo).take n) a/\hW ((l.drop lo).take n)=n:=by
 have⟨d,g,t,u,w⟩:=tN j h;cases r with
 |part A _ q=>exact Ob m j h g<|q d g
def La :VV->Option Nat
 | .full k=>O k
 | .part k _ _=>O k
 |_=>Y
theorem IU.addr {c:Ctx}{n:Nat}{b m f:Nat}(h:IU c k lo n d<|.slice (O ⟨b,p,Y⟩) m f):c.μ k=O b:=by
 rcases h with⟨h,_⟩|⟨j,g,y,h,l,_⟩
 .cases h
 grind
def Rf {c:Ctx}(w:Rel c){f:List VV->Option (El s×List VV)}(t:LR c s f){l:List<|El s}(h:GB c.S s f v=O l)(j:VRel c v a):
  AW c s l a/\∀b p n q,a= .slice (O ⟨b,p,Y⟩) n q->q≠0->¬c.mut b∨∃k,La v=O k/\(ag c.S k).dim≠Y/\c.μ k=O b:=by
 cases v<;>simp only[GB]at h<;>try(cases h;done)
 case nils=>
  cases h;cases j;exact⟨.inl ⟨Y,rfl,rfl,λz D=>by cases D⟩,λb p n q e=>by cases e⟩
 case lst s' l'=>
  have⟨e,g⟩:=mE h;cases e;subst g;refine⟨j.listAt,λb p n q e B=> .inl ?_⟩;subst e;exact j.lst_mut B
 case full k=>
  refine⟨Vm w t h j,λb p n q e _=> .inr ⟨k,rfl, ?_⟩⟩;have⟨d,g,_⟩:=tN t h;subst e;cases j with
  |full C _ u=>
   have⟨_,_,A⟩:=u d g;exact⟨by rw[g];simp,A.addr⟩
 case part k lo m=>
  cases r:Aa s f (ag c.S k)with
  |none=>rw[r]at h;cases h
  |some E=>
   rw[r]at h;cases h;refine⟨(VW w t r j).1,λb p n q e _=> .inr ⟨k,rfl, ?_⟩⟩;have⟨d,g,_⟩:=tN t r;subst e;cases j with
   |part C _ u=>exact⟨by rw[g];simp,(u d g).addr⟩
def OY {c:Ctx}(t:Rel c){f:List VV->Option (El s×List VV)}(C:LR c s f){l:List<|El s}(h:Tr c.S s f v=O l)(D:VRel c v a):VRel c (.lst s l) a:=by
 have j:GB c.S s f v=O l/\∀k,La v=O k->(ag c.S k).frozen=Za:=by
  unfold Tr at h;split at h
  .rename_i k;cases g:(ag c.S k).frozen with
   |false=>rw[g]at h;cases h
   |true=>
    rw[g]at h;exact⟨h,λE e=>by cases e;exact g⟩
  .rename_i k lo n;cases g:(ag c.S k).frozen with
   |false=>rw[g]at h;cases h
   |true=>
    rw[g]at h;exact⟨h,λE e=>by cases e;exact g⟩
  rename_i m q;refine⟨h,λk e=> ?_⟩;cases v<;>simp only[La]at e<;>try(cases e;done)
  .exact(m _ rfl).elim
  exact(q _ _ _ rfl).elim
 have⟨m,q⟩:=Rf t C j.1 D;refine m.rel λb p n u e B=> ?_
 rcases q b p n u e B with r|⟨k,r,w,A⟩
 .exact r
 exact t.fz_mut (j.2 k r) w A
def kJ {c:Ctx}(u:Rel c): ∀s:Sh,LR c s (kH c.S s)
 | .int k,f,x,g,h=>by
  cases f with
  |nil=>simp[kH]at h
  |cons v r=>
   cases v<;>simp only[kH]at h<;>try(cases h;done)
   rename_i L n;cases C:Zc (L=k)with
   |false=>rw[C]at h;cases h
   |true=>
    rw[C]at h;injection h with h
    injection h with j m
    subst j;subst m;have:=of_decide_eq_true C;subst this;exact⟨[_],rfl,rfl,λ_ h=>h⟩
 | .bool,f,x,g,h=>by
  cases f with
  |nil=>simp[kH]at h
  |cons v r=>
   cases v<;>simp only[kH]at h<;>try(cases h;done)
   injection h with h
   injection h with j m
   subst j;subst m;exact⟨[_],rfl,rfl,λ_ h=>h⟩
 | .str,f,x,g,h=>by
  cases f with
  |nil=>simp[kH]at h
  |cons v r=>
   cases v<;>simp only[kH]at h<;>try(cases h;done)
   injection h with h
   injection h with j m
   subst j;subst m;exact⟨[_],rfl,rfl,λ_ h=>h⟩
 | .list s,f,x,g,h=>by
  cases f with
  |nil=>simp[kH]at h
  |cons v r=>
   simp only[kH]at h;cases j:Tr c.S s (kH c.S s) v with
   |none=>rw[j]at h;cases h
   |some l=>
    rw[j]at h;injection h with h
    injection h with m w
    subst m;subst w;refine⟨[v],rfl,rfl,λF t=> ?_⟩;cases t with
    |cons t K=>
     cases K;exact .cons (OY u (kJ u s) j t) .nil
 | .pair a b,f,x,g,h=>by
  simp only[kH]at h;cases j:kH c.S a f with
  |none=>rw[j]at h;cases h
  |some p=>
   have⟨y,P⟩:=p;rw[j]at h;simp only[zG]at h;cases m:kH c.S b P with
   |none=>rw[m]at h;cases h
   |some q=>
    have⟨z,V⟩:=q;rw[m]at h;injection h with h
    injection h with w H
    subst w;subst H;obtain⟨M,rfl,D,A⟩:=kJ u a _ _ _ j;obtain⟨N,rfl,E,B⟩:=kJ u b _ _ _ m;refine⟨M++N,by rw[List.append_assoc],by rw[bB,D,E];rfl,λF t=> ?_⟩;obtain⟨Q,U,rfl,I,J⟩:=F2.app_left t;exact(A _ I).append<|B _ J
def aB1 {c:Ctx}(g:Rel c){l:List<|El s}(h:aa8 c.S s v=O l)(j:VRel c v a):
  AW c s l a/\∀b p n f,a= .slice (O ⟨b,p,Y⟩) n f->f≠0->¬c.mut b∨∃k,La v=O k/\(ag c.S k).dim≠Y/\c.μ k=O b:=
 Rf g (kJ g s) h j
end
section
open Bool renaming and_eq_true->aB
open List renaming all_append->aD,length_drop->bB,length_take->bD
open Nat renaming le_of_ble_eq_true->cB
def ba (c:Ctx)(e:db)(ea:cy):Prop:= ∀t,VRel c (lU e t)<|ea t
def ba.frame {c f:Ctx}(h:ba c e ea)(g:Le c f):ba f e ea:=λt=>(h t).frame g
def yg {d t:Nat}:lU (rF e d v) t=if t=d then v else lU e t:=by
 induction d generalizing e t with
 |zero=>cases e<;>cases t<;>simp[rF,lU]
 |succ d f=>
  cases e with
  |nil=>
   cases t with
   |zero=>simp[rF,lU]
   |succ t=>simp[rF,lU,f]
  |cons a r=>
   cases t with
   |zero=>simp[rF,lU]
   |succ t=>simp[rF,lU,f]
def ba.put {c:Ctx}(h:ba c e ea){d:Nat}(g:VRel c v a):ba c (rF e d v)<|ea.put d a:=by
 intro t;rw[yg];unfold cy.put;by_cases f:t=d
 .rw[zE f,zE f];exact g
 rw[zF f,zF f];exact h t
def ba.putO {c:Ctx}(h:ba c e ea){d:Option Nat}(f:VRel c v a):ba c (putO e d v)<|ea.putO d a:=by
 cases d with
 |none=>exact h
 |some d=>exact h.put f
def VI (c:Ctx)(v:Value):VRel c (MN v) v:=by
 unfold MN;split
 .exact .bool _
 .exact .int _ _
 .exact .str rfl
 .exact .nilp
 .exact .nils
 .exact .nilf
 exact .undef _
def Hw (c:Ctx)(l:List Value):F2 (VRel c) (l.map MN) l:=by
 induction l with
 |nil=>exact .nil
 |cons v l f=>exact .cons (VI c v) f
def aS1 (c:Ctx)(v:Value):VRel c (ofC v) v:=by
 unfold ofC;split
 .rename_i cs;exact .agg (by simpa using Hw c cs.toList)
 exact VI c _
def cm {c:Ctx}(h:ba c e ea)(x:Operand):VRel c (ev e x)<|ea.ev x:=by
 cases x with
 |tmp t=>exact h t
 |const v=>exact aS1 c v
 |global _=>exact .undef _
 |func f=>exact .fn .nil .nil
def M5 {c:Ctx}(h:ba c e ea)(xs:List Operand):F2 (VRel c) (xs.map<|ev e)<|xs.map ea.ev:=by
 induction xs with
 |nil=>exact .nil
 |cons x xs f=>exact .cons (cm h x) f
def az {β:Type}{b:Bool}{x:Option β}{y:β}(h:gd b x=O y):b=Za/\x=O y:=by
 cases b with
 |false=>cases h
 |true=>exact⟨rfl,h⟩
def VO {c:Ctx}(h:VRel c v a)(f:aT2 v=Za):one a=Za:=by
 cases h<;>first|rfl|assumption|(cases f;done)|(rename_i h;rcases h with rfl|⟨_,_,rfl⟩<;>rfl)
def lg {c:Ctx}: ∀{l:List VV} {m:List Value},F2 (VRel c) l m->qc l=Za->m.all one=Za
 |_,_, .nil,_=>rfl
 |_,_, .cons f g,h=>by
  simp only[qc,List.all_cons,aB]at h⊢;exact⟨VO f h.1,lg g h.2⟩
def GX : ∀(s:Sh) (x:El s),qc (eX s x)=Za
 | .int _,_=>rfl
 | .bool,_=>rfl
 | .str,_=>rfl
 | .list _,_=>rfl
 | .pair a b,x=>by
  have f:=GX a x.1;have g:=GX b x.2;simp only[qc,eX,aD,aB]at*;exact⟨f,g⟩
def tQ (s:Sh)(l:List<|El s):qc (gf s l)=Za:=by
 induction l with
 |nil=>rfl
 |cons x l g=>
  have f:=GX s x;rw[gN];simp only[qc,aD,aB]at*;exact⟨f,g⟩
def KS {c:Ctx}(h:VRel c v a)(g:qc (nM v)=Za):F2 (VRel c) (nM v)<|cellsOf a:=by
 have f:one a=Za->cellsOf a=[a]:=λh=>by cases a<;>first|rfl|(cases h;done)
 cases v with
 |agg l=>
  cases h with
  |agg h=>exact h
 |undef=>cases g
 |tup l=>cases g
 |_=>
  rw[f<|VO h rfl];exact .cons h .nil
def cz {T:i7}{op:AOp}{e:cy}{Z:Hp}{v:Value}{K:Value->Hp->Prop}(h:op.run e Z=O (v,Z'))(f:K v Z'):cj T op e Z K:=by
 unfold cj;split
 .cases h
 .cases h
 rw[h];exact f
def Bq {α:Type}: ∀(l:List α) (i:Nat),nth l i=l[i]?
 |[],_=>rfl
 |_::_,0=>rfl
 |_::l,i+1=>by
  rw[show nth (_::l) (i+1)=nth l i from rfl,Bq l i];rfl
def F2.nth {c:Ctx}{l:List VV}{m:List Value}(h:F2 (VRel c) l m)(f:nth l i=O v): ∃a,m[i]?=O a/\VRel c v a:=by
 rw[Bq]at f;exact h.get i v f
def Lb {k:IntKind}: ∀{cs:List VV} {l:Zd},Fb k cs=O l->cs=l.map (.int k)
 |[],l,h=>by cases h;rfl
 |v::r,l,h=>by
  cases v<;>simp only[Fb]at h<;>try(cases h;done)
  rename_i j n;cases g:Zc (j=k)with
  |false=>rw[g]at h;cases h
  |true=>
   rw[g,zC]at h;cases f:Fb k r with
   |none=>rw[f]at h;cases h
   |some m=>
    rw[f]at h;cases h;rw[Lb f,of_decide_eq_true g];rfl
def Od : ∀{cs:List VV} {l:List Bool},Oc cs=O l->cs=l.map .bool
 |[],l,h=>by cases h;rfl
 |v::r,l,h=>by
  cases v<;>simp only[Oc]at h<;>try(cases h;done)
  cases f:Oc r with
  |none=>rw[f]at h;cases h
  |some m=>
   rw[f]at h;cases h;rw[Od f];rfl
def RI : ∀{cs:List VV} {l:List<|Zd},WL cs=O l->cs=l.map .str
 |[],l,h=>by cases h;rfl
 |v::r,l,h=>by
  cases v<;>simp only[WL]at h<;>try(cases h;done)
  cases f:WL r with
  |none=>rw[f]at h;cases h
  |some m=>
   rw[f]at h;cases h;rw[RI f];rfl
theorem VX {β:Type}{S:ak}{k:VV->ak->Option β}{y:β}: ∀{cs:List VV} {i:Nat},ac4 S k cs i=O y->∃v,cs[i]?=O v/\k v S=O y
 |[],_,h=>by cases h
 |v::r,i,h=>by
  simp only[ac4]at h;cases f:Nat.beq i 0 with
  |true=>
   simp_all
  |false=>
   rw[f]at h;have⟨w,g,j⟩:=VX h;have:i≠0:=λe=>by subst e;cases f
   grind
theorem UR {β:Type}{S:ak}{k:VV->ak->Option β}{y:β}(g:i<hW cs)(h:UQ cs i S k=O y): ∃v,cs[i]?=O v/\k v S=O y:=by
 unfold UQ at h;split at h
 .rename_i kd n r;split at h
  .rename_i l f;have:=Lb f
   grind
  cases h
 .rename_i b r;split at h
  .rename_i l f;have:=Od f
   grind
  cases h
 .rename_i b r;split at h
  .rename_i l f;have:=RI f
   grind
  cases h
 exact VX h
theorem Rel.block {c:Ctx}(g:Rel c){b:Nat}(j:(ag c.S k).dim=O d)(f:c.μ k=O b):
  ∃y cs rest,c.Z.m b=O y/\y.es=d.1/\((ag c.S k).frozen=Zb->y.own=Za)/\y.cells=cs++rest/\F2 (VRel c) (ag c.S k).vals cs:=by
 have⟨_,h⟩:=g.blk k d j;rcases h with⟨_,h⟩|⟨l,y,cs,rest,h,n⟩
 .rw[h]at f;cases f
 .grind
def wE (c:Ctx)(cs:List VV)(b p:Nat):Prop:= ∃y,c.Z.m b=O y/\p+hW cs<=hW y.cells/\F2 (VRel c) cs ((y.cells.drop p).take<|hW cs)
theorem wE.get {c:Ctx}{b:Nat}(h:wE c cs b p)(g:nth cs o=O v): ∃y a,c.Z.m b=O y/\y.cells[p+o]?=O a/\VRel c v a:=by
 have⟨y,j,l,f⟩:=h;have⟨a,n,q⟩:=F2.nth f g
 grind
def wE.read {c:Ctx}{b:Nat}(h:wE c cs b p){n:Nat}(q:o+n<=hW cs): ∃y as,c.Z.m b=O y/\rQ y (p+o) n=O as/\F2 (VRel c) ((cs.drop o).take n) as:=by
 have⟨y,g,l,j⟩:=h;refine⟨y,(y.cells.drop<|p+o).take n,g,Zg, ?_⟩;have f:=(j.drop o).take n;rw[List.drop_take,List.drop_drop,List.take_take,Nat.min_eq_left V1]at f;exact f
theorem Rel.stands {c:Ctx}(l:Rel c){b:Nat}(m:(ag c.S k).dim=O d)(n:c.μ k=O b):wE c (ag c.S k).vals b 0:=by
 obtain⟨y,cs,f,g,_,_,h,j⟩:=l.block m n;have q:=j.length;refine⟨y,g,by rw[h,List.length_append];omega, ?_⟩
 grind
def wE.part {c:Ctx}{b:Nat}(h:wE c cs b p){n:Nat}(q:o+n<=hW cs):wE c ((cs.drop o).take n) b<|p+o:=by
 have⟨y,g,m,j⟩:=h;have f:hW ((cs.drop o).take n)=n:=by rw[bD,bB];omega
 refine⟨y,g,by rw[f];omega, ?_⟩;have l:=(j.drop o).take n;rw[List.drop_take,List.drop_drop,List.take_take,Nat.min_eq_left V1]at l
 rwa [f]
theorem Wc {β:Type}{c:Ctx}(L:Rel c){n:Nat}{k:VV->ak->Option β}{y:β}(h:Rw c.S n agg v k=O y)(I:VRel c v a):
  ∃b o x,a= .pointer (O ⟨b,o,Y⟩)/\c.Z.m b=O x/\
   (agg=Zb->∃u w,x.cells[o]?=O u/\VRel c w u/\k w c.S=O y)/\
   (agg=Za->∃F H,rQ x o n=O F/\F2 (VRel c) H F/\k (.agg H) c.S=O y):=by
 have r: ∀(cs:List VV) (b p o:Nat),wE c cs b p->a= .pointer (O ⟨b,p+o,Y⟩)->
   cond agg (gd (Nat.ble (o+n)<|hW cs)<|k (.agg<|(cs.drop o).take n) c.S) (match nth cs o with
    |some v=>k v c.S
    |none=>Y)=O y->
   ∃b o x,a= .pointer (O ⟨b,o,Y⟩)/\c.Z.m b=O x/\
   (agg=Zb->∃u w,x.cells[o]?=O u/\VRel c w u/\k w c.S=O y)/\
   (agg=Za->∃F H,rQ x o n=O F/\F2 (VRel c) H F/\k (.agg H) c.S=O y):=by
  intro cs b p o g B h;cases agg with
  |true=>
   have⟨A,P⟩:=az h;have⟨x,as,J,K,Q⟩:=g.read (cB A)
   grind
  |false=>
   rw[zD]at h;split at h
   .rename_i w hw;have⟨x,u,J,K,Q⟩:=g.get hw
    grind
   .cases h
 unfold Rw at h;cases v with
 |ptr q o=>
  simp only at h;cases f:ag c.S q with
  |dead=>rw[f]at h;cases h
  |arr s z l=>rw[f]at h;cases h
  |cells t z l=>
   rw[f]at h;cases I with
   |ptr V _ D=>
    have⟨b,E,B⟩:=D (t,hW l) Zr;have g:=L.stands (k:=q) (d:=(t,hW l)) Zr E;rw[f]at g;exact r l b 0 o g (by rw[B,Nat.zero_add]) h
 |pix q o m i=>
  simp only at h;cases f:ag c.S q with
  |dead=>rw[f]at h;cases h
  |arr s z l=>rw[f]at h;cases h
  |cells t z l=>
   rw[f]at h;have⟨A,P⟩:=az h;rw[aB]at A;have J:=cB A.2;have C:agg=Zb:=by simpa using A.1
   subst C;cases I with
   |pix V _ U D=>
    have⟨b,E,B⟩:=D (t,hW l) Zr;have g:=L.stands (k:=q) (d:=(t,hW l)) Zr E;rw[f]at g;have W:hW ((l.drop o).take m)=m:=by rw[bD,bB];omega
    have⟨w,K,Q⟩:=UR V1 P;have j:wE c ((l.drop o).take m) b<|0+o:=wE.part (cs:=l) g J;rw[<-Bq]at K
    grind
 |pel q i o=>
  simp only at h;cases f:ag c.S q with
  |dead=>rw[f]at h;cases h
  |cells t z l=>rw[f]at h;cases h
  |arr s z l=>
   rw[f]at h;simp only at h;cases N:l[i]? with
   |none=>rw[N]at h;cases h
   |some x=>
    rw[N]at h;cases I with
    |pel V _ D=>
     have⟨b,E,B⟩:=D (s.w,hW l*s.w) Zr;have g:=L.stands (k:=q) (d:=(s.w,hW l*s.w)) Zr E;rw[f]at g
     have U:i<hW l:=by
      grind
     have M:i*s.w+s.w<=hW (gf s l):=by
      rw[gS,<-Nat.succ_mul];exact Nat.mul_le_mul_right _ U
     have j:wE c (((gf s l).drop<|i*s.w).take s.w) b<|0+i*s.w:=wE.part (cs:=gf s l) g M;rw[K5 N,Nat.zero_add]at j;exact r (eX s x) b (i*s.w) o j B h
 |pin s x o=>
  simp only at h;cases I with
  |pin hn hy hl X=>
   exact r (eX s x) _ _ o ⟨_,hy,by rw[fi];exact hl,by rw[fi];exact X⟩ rfl h
 |_=>cases h
end
section
open Nat renaming lt_of_lt_of_le->aB
def Nn.frame {c f:Ctx}(E:Le c f)(h:Nn c k)(q:ag f.S k=ag c.S k)(F:(ag c.S k).dim≠Y->f.μ k=c.μ k)(D: ∀b y,(ag c.S k).dim≠Y->c.μ k=O b->c.Z.m b=O y->f.Z.m b=O y):Nn f k:=by
 intro d l;rw[q]at l;have⟨t,u⟩:=h d l;have r:=F (by rw[l];simp);refine⟨t, ?_⟩;rcases u with⟨j,n⟩|⟨b,y,cs,g,j,n,w,A,B,C⟩
 .exact .inl ⟨j,r.trans n⟩
 exact .inr ⟨b,y,cs,g,r.trans j,D b y (by rw[l];simp) j n,w,by rw[q];exact A,B,by rw[q];exact VRel.frames E C⟩
def vQ (S S':ak):Prop:=hW S'=hW S/\∀k,ag S' k=ag S k∨ag S' k=(ag S k).freeze
def vQ.refl (S:ak):vQ S S:=⟨rfl,λ_=> .inl rfl⟩
def Qu :b.freeze.freeze=b.freeze:=by cases b<;>rfl
def vQ.trans {a b c:ak}(h:vQ a b)(k:vQ b c):vQ a c:=by
 refine⟨k.1.trans h.1,λi=> ?_⟩;rcases h.2 i with h1|h1<;>rcases k.2 i with h2|h2
 .exact .inl (h2.trans h1)
 .exact .inr (by rw[h2,h1])
 .exact .inr (h2.trans h1)
 exact .inr (by rw[h2,h1,Qu])
theorem vQ.put {S:ak}:vQ S<|kR S k (ag S k).freeze:=by
 refine⟨GQ,λi=> ?_⟩;rw[Aw]
 grind
def vQ.fold {f:ak->VV->ak}(g: ∀S v,vQ S<|f S v): ∀(l:List VV) (S:ak),vQ S (l.foldl f S)
 |[],S=>vQ.refl S
 |v::l,S=>(g S v).trans<|vQ.fold g l _
def aa0 : ∀(n:Nat) (S:ak) (v:VV),vQ S (fzv n S v)
 |0,S,_=>vQ.refl S
 |n+1,S,v=>by
  have f: ∀k,vQ S (match ag S k with
    | .cells j _ l=>l.foldl (fzv n) (kR S k<|.cells j Za l)
    |b=>kR S k b.freeze):=by
   intro k;have g:=vQ.put (S:=S) (k:=k);split
   .rename_i j z l h;rw[h]at g;exact vQ.trans g (vQ.fold (aa0 n) l _)
   .exact g
  unfold fzv;split
  .exact f _
  .exact f _
  .exact vQ.refl S
def Ho (S:ak)(l:List VV):vQ S<|IW S l:=vQ.fold (aa0 3) l S
def az4 (S:ak)(v:VV):vQ S<|bi6 S v:=by
 unfold bi6;split
 .split
  .exact Ho S _
  exact vQ.refl S
 .split
  .exact Ho S _
  exact vQ.refl S
 exact vQ.refl S
def al6 (k:Sk)(v:VV)(S:ak):vQ S<|az3 k v S:=by
 unfold az3;split
 .exact az4 S v
 exact vQ.refl S
def ON : ∀(l:List Sk) (vs:List VV) (S:ak),vQ S (Gw l vs S)
 |[],_,S=>vQ.refl S
 |_::_,[],S=>vQ.refl S
 |k::r,v::vs,S=>(al6 k v S).trans<|ON r vs _
def wM : ∀(l:List Nat) (S:ak),vQ S (Fa l S)
 |[],S=>vQ.refl S
 |_::l,S=>vQ.put.trans<|wM l _
def vQ.dim {S:ak}(h:vQ S S')(k:Nat):(ag S' k).dim=(ag S k).dim:=by
 rcases h.2 k with h|h<;>rw[h]
 exact gh
def vQ.vals {S:ak}(h:vQ S S')(k:Nat):(ag S' k).vals=(ag S k).vals:=by
 rcases h.2 k with h|h<;>rw[h]
 exact Mk
def vQ.fz {S:ak}(h:vQ S S')(f:(ag S' k).frozen=Zb):ag S' k=ag S k:=by
 rcases h.2 k with h|h
 .exact h
 rw[h,kP]at f;cases f
def vQ.le {c:Ctx}(h:vQ c.S S'):Le c ⟨c.μ,S',c.Z,c.fb⟩:=by
 refine⟨Nat.le_of_eq h.1.symm,λk d _ l=>⟨(h.dim k)▸l,rfl⟩,λk m _=> ?_,λ_ _ _ y _ _ _ f=>⟨y,f,rfl⟩,λb y f _=>f,λb y f n=> ?_,Nat.le_refl _,rfl⟩
 .rcases h.2 k with h|h
  .exact h
  exact h.trans (Dp m)
 rintro⟨k,g,j⟩;exact n ⟨k,by rw[<-h.fz g];exact g,j⟩
def vQ.rel {c:Ctx}(f:Rel c)(h:vQ c.S S'):Rel ⟨c.μ,S',c.Z,c.fb⟩:=by
 refine⟨f.ok,λk H b j n q r=>f.inj k H b (by rw[<-h.fz j];exact j) (by rw[<-h.dim];exact n) q r,λk d F=> ?_,λk b j q=>f.fbk k b (by rw[<-h.dim];exact j) q,f.fbl⟩;have m:(ag c.S k).dim=O d:=(h.dim k)▸F;have⟨u,l⟩:=f.blk k d m;refine⟨u, ?_⟩;rcases l with l|⟨b,y,cs,g,w,A,B,C,D,E⟩
 .exact .inl l
 exact .inr ⟨b,y,cs,g,w,A,B,λt=>C (by rw[<-h.fz t];exact t),D,by rw[h.vals k];exact VRel.frames h.le E⟩
def vQ.calm {c:Ctx}(d:List Nat)(h:vQ c.S S'):vP d c ⟨c.μ,S',c.Z,c.fb⟩:=λk _ _ f=>⟨by rw[h.dim];exact f,λ_ _=>rfl⟩
def vP.trans {a b c:Ctx}{d:List Nat}(h:vP d a b)(k:vP d b c)(n:Le a b):vP d a c:=by
 intro i f m w;have⟨j,r⟩:=h i f m w;have⟨t,u⟩:=k i (aB f n.len) m j;refine⟨t,λx q=> ?_⟩
 have g:b.μ i=O x:=by
  cases l:(ag b.S i).dim with
  |none=>exact(j l).elim
  |some z=>exact(n.al i z f l).2.trans q
 exact(u x g).trans<|r x q
def YK (c:Ctx)(kill:Option Nat)(b:Nat):Prop:= ∃k,kill=O k/\c.μ k=O b
def yh (c:Ctx)(b1:Option Nat):Nat->Option Nat:=λi=>if i=hW c.S then b1 else c.μ i
def As {S:ak}{kill:Option Nat}:hW (rO S kill)=hW S:=by cases kill<;>simp[rO,GQ]
def am4 {S:ak}{kill:Option Nat}:ag (rO S kill) i=if kill=O i then .dead else ag S i:=by
 cases kill with
 |none=>simp[rO]
 |some k=>
  simp only[rO,Aw,hO];by_cases h:i=k
  .subst h;by_cases f:i<hW S
   .simp[f]
   simp[f,yl<|Nat.le_of_not_lt f]
  simp[h,Ne.symm h]
structure Moves (c:Ctx)(kill:Option Nat)(b1:Option Nat)(blk:Blk)(Z':Hp):Prop where
 fr: ∀b,b1=O b->(∀z,c.Z.m b≠O z)->¬c.fb b
 kz: ∀k,kill=O k->(ag c.S k).frozen=Zb
 ok:Z'.Ok
 n:c.Z.n<=Z'.n
 old: ∀i y,c.Z.m i=O y->¬YK c kill i->Z'.m i=O y
 one: ∃d,blk.dim=O d/\1<=d.1/\((b1=Y/\d.2=0)∨∃b y cs rest,b1=O b/\Z'.m b=O y/\y.es=d.1/\(blk.frozen=Zb->y.own=Za)/\y.cells=cs++rest/\F2 (VRel c) blk.vals cs/\((∀z,c.Z.m b≠O z)∨YK c kill b))
section
variable {c:Ctx} {kill b1:Option Nat} {blk:Blk} {Z':Hp}
def kQ (i:Nat):ag (rO c.S kill++[blk]) i=if i=hW c.S then blk else if kill=O i then .dead else ag c.S i:=by
 by_cases h:i=hW c.S
 .subst h;rw[zE rfl,<-As (S:=c.S) (kill:=kill),WC]
 rw[zF h];by_cases f:i<hW c.S
 .rw[nS (by rw[As];exact f),am4]
 have g:hW c.S<i:=by omega
 rw[yl (by rw[List.length_append,As];simp;omega),yl (k:=i) (S:=c.S) V1];split<;>rfl
def Moves.low (g:Rel c)(h:Moves c kill b1 blk Z'){i b:Nat}(_:i≠hW c.S)(l:kill≠O i)(j:(ag c.S i).dim≠Y)(m:c.μ i=O b): ¬YK c kill b:=by
 rintro⟨k,rfl,f⟩;exact l<|congrArg O<|g.inj k i b (h.kz k rfl) j f m
theorem Moves.le (w:Rel c)(h:Moves c kill b1 blk Z'):Le c ⟨yh c b1,rO c.S kill++[blk],Z',c.fb⟩:=by
 have j: ∀k,k<hW c.S->k≠hW c.S:=λk g=>by omega
 refine⟨by simp[As],λk d g f=> ?_,λk B f=> ?_,λk d b y g f m t=> ?_,λb y t r=>h.old b y t λ⟨k,e,m⟩=>r ⟨k,h.kz k e,m⟩,λb y t r=> ?_,h.n,rfl⟩
 .simp only[kQ,zF<|j k g]at f;split at f
  .cases f
  exact⟨f,zF<|j k g⟩
 .have g:=lM f;simp only[kQ,zF<|j k g];rw[zF];intro e;have:=h.kz k e;rw[B]at this;cases this
 .simp only[kQ,zF<|j k g]at f;split at f
  .cases f
  rename_i u;exact⟨y,h.old b y t<|h.low w (j k g) u (by rw[f];simp) m,rfl⟩
 have A: ¬YK c kill b:=λ⟨k,e,m⟩=>r ⟨k,h.kz k e,m⟩
 rintro⟨k,l,q⟩;simp only[kQ]at l;simp only[yh]at q;by_cases g:k=hW c.S
 .rw[zE g]at l q;have⟨d,_,_,C⟩:=h.one
  grind
 rw[zF g]at l q;split at l
 .cases l
 exact r ⟨k,l,q⟩
theorem Moves.rel (w:Rel c)(h:Moves c kill b1 blk Z'):Rel ⟨yh c b1,rO c.S kill++[blk],Z',c.fb⟩:=by
 have D:=h.le w
 have E: ∀i b,i≠hW c.S->kill≠O i->(ag c.S i).dim≠Y->c.μ i=O b->b1≠O b:=by
  intro i b P f u l e;have⟨d,_,_,g⟩:=h.one;rcases g with⟨g,_⟩|⟨F,y',cs,t,g,_,_,_,_,_,h4⟩
  .rw[g]at e;cases e
  rw[g]at e;cases e;rcases h4 with h4|h4
  .cases C:(ag c.S i).dim with
   |none=>exact u C
   |some U=>
    have⟨y,_,_,J,_⟩:=w.block C l;exact h4 y J
  exact h.low w P f u l h4
 have I: ∀b,c.fb b->b1≠O b:=by
  intro b A e;have⟨d,_,_,g⟩:=h.one;rcases g with⟨g,_⟩|⟨F,y',cs,t,g,_,_,_,_,_,h4⟩
  .rw[g]at e;cases e
  rw[g]at e;cases e;rcases h4 with h4|⟨k,h4,H⟩
  .exact h.fr _ g h4 A
  exact w.fbk k _ (mT<|h.kz k h4) H A
 refine⟨h.ok,λk K b f j l m=> ?_,λk=> ?_,λk b f l A=> ?_,λb A=>aB (w.fbl b A) h.n⟩
 rotate_left 2
 .simp only[kQ]at f;simp only[yh]at l;by_cases q:k=hW c.S
  .rw[zE q]at l;exact I b A l
  rw[zF q]at l f;split at f
  .exact f rfl
  exact w.fbk k b f l A
 .simp only[kQ]at f j;simp only[yh]at l m;by_cases q:k=hW c.S<;>by_cases B:K=hW c.S
  .omega
  .rw[zE q]at l;rw[zF B]at m j;split at j
   .exact(j rfl).elim
   grind
  .rw[zF q]at l f;rw[zE B]at m;split at f
   .cases f
   rename_i r;exact(E k b q r (mT f) l m).elim
  rw[zF q]at l f;rw[zF B]at m j;split at f
  .cases f
  split at j
  .exact(j rfl).elim
  exact w.inj k K b f j l m
 by_cases f:k=hW c.S
 .subst f;intro d u;simp only[kQ,if_true]at u⊢;have⟨Q,q,B,g⟩:=h.one;rw[u]at q;cases q;refine⟨B, ?_⟩;simp only[yh,if_true];rcases g with⟨g,h4⟩|⟨F,y',cs,t,g,h4,H,L,M,N,_⟩
  .exact .inl ⟨h4,g⟩
  exact .inr ⟨F,y',cs,t,g,h4,H,L,M,VRel.frames D N⟩
 by_cases r:kill=O k
 .intro d u;simp only[kQ,zF f,zE r]at u;cases u
 refine(w.blk k).frame D ?_ (λ_=>zF f) λb y u l J=> ?_
 .simp only[kQ,zF f,zF r]
 exact h.old b y J<|h.low w f r u l
def Moves.calm (m:Rel c)(h:Moves c kill b1 blk Z'){d:List Nat}(r: ∀k,kill=O k->k∈d):vP d c ⟨yh c b1,rO c.S kill++[blk],Z',c.fb⟩:=by
 intro k w t f;have j:k≠hW c.S:=by omega
 have l:kill≠O k:=λe=>t (r k e)
 simp only[kQ,zF j,zF l];refine⟨f,λb n=> ?_⟩;cases g:(ag c.S k).dim with
 |none=>exact(f g).elim
 |some u=>
  have⟨y,_,_,q,_⟩:=m.block g n;rw[q];exact h.old b y q<|h.low m j l f n
end
def Xf {c:Ctx}(g:Rel c){x:Ab.Blk}(m:blk.dim=O d)(j:1<=d.1)(q:x.es=d.1)(t:x.own=Za)(r:F2 (VRel c) blk.vals x.cells):
  Moves c Y (O c.Z.n) blk (c.Z.add x):=by
 refine⟨(λb h _ l=>by cases h;exact Nat.lt_irrefl _<|g.fbl _ l),(λ_ h=>by cases h),λb y f=> ?_,Nat.le_succ _,λi y f _=> ?_,d,m,j, .inr ⟨c.Z.n,x,x.cells,[],rfl,zE rfl,q,λ_=>t,V2,r, .inl λz u=> ?_⟩⟩
 .simp only[Hp.add]at f⊢;split at f
  .omega
  .have:=g.ok b y f;omega
 .have:=g.ok i y f;simp only[Hp.add];rw[Zh];exact f
 .have:=g.ok _ _ u;omega
structure Writes (c:Ctx)(k b:Nat)(blk:Blk)(y':Ab.Blk):Prop where
 kz:(ag c.S k).frozen=Zb
 mu:c.μ k=O b
 dim:blk.dim=(ag c.S k).dim
 fz:blk.frozen=Zb
 one: ∃y cs rest d,c.Z.m b=O y/\(ag c.S k).dim=O d/\y'.es=d.1/\y'.own=Za/\hW y'.cells=hW y.cells/\y'.cells=cs++rest/\F2 (VRel c) blk.vals cs
section
variable {c:Ctx} {k b:Nat} {blk:Blk} {y':Ab.Blk}
theorem Writes.get (h:Writes c k b blk y')(i:Nat):ag (kR c.S k blk) i=if i=k then blk else ag c.S i:=by
 rw[Aw];have:=lM (mT h.kz)
 grind
def Writes.low (g:Rel c)(h:Writes c k b blk y'){i f:Nat}(l:i≠k)(j:(ag c.S i).dim≠Y)(m:c.μ i=O f):f≠b:=by
 rintro rfl;exact l (g.inj k i f h.kz j h.mu m).symm
def Writes.le (r:Rel c)(h:Writes c k b blk y'):Le c ⟨c.μ,kR c.S k blk,c.Z.set b<|O y',c.fb⟩:=by
 refine⟨by simp[GQ],λi d _ g=> ?_,λi q g=> ?_,λi d x y _ g t j=> ?_,λx y j m=> ?_,λx y j m=> ?_,Nat.le_refl _,rfl⟩
 .simp only[h.get]at g;split at g
  .rename_i e;subst e;exact⟨h.dim▸g,rfl⟩
  exact⟨g,rfl⟩
 .simp only[h.get];rw[zF];rintro rfl;rw[h.kz]at q;cases q
 .by_cases e:x=b
  .subst e;have⟨u,_,_,_,f,_,_,_,l,_⟩:=h.one;rw[j]at f;cases f;exact⟨y',ft,l⟩
  exact⟨y,by simp[Hp.set,e,j],rfl⟩
 .have n:x≠b:=by rintro rfl;exact m ⟨k,h.kz,h.mu⟩
  simp[Hp.set,n,j]
 rintro⟨i,f,l⟩;simp only[h.get]at f;split at f
 .rename_i e;subst e;exact m ⟨i,h.kz,l⟩
 exact m ⟨i,f,l⟩
def Writes.rel (f:Rel c)(h:Writes c k b blk y'):Rel ⟨c.μ,kR c.S k blk,c.Z.set b<|O y',c.fb⟩:=by
 have n:=h.le f
 have A: ∀i,(ag (kR c.S k blk) i).frozen=Zb->(ag c.S i).frozen=Zb:=by
  intro i l;rw[h.get]at l;split at l
  .rename_i e;subst e;exact h.kz
  exact l
 have g: ∀i,(ag (kR c.S k blk) i).dim=(ag c.S i).dim:=by
  intro i;rw[h.get];split
  .rename_i e;subst e;exact h.dim
  rfl
 refine⟨λx z r=> ?_,λi j x l I q B=>f.inj i j x (A i l) (by rw[<-g];exact I) q B,λi=> ?_,λi x l q=>f.fbk i x (by rw[<-g];exact l) q,f.fbl⟩
 .simp only[Hp.set]at r;split at r
  .rename_i e;subst e;have⟨y,_,_,_,C,_⟩:=h.one;exact f.ok _ _ C
  exact f.ok _ _ r
 by_cases e:i=k
 .subst e;intro d w;have⟨y,cs,t,J,C,u,D,E,K,F,H⟩:=h.one;have m:(ag c.S i).dim=O d:=by rw[<-g];exact w
  rw[m]at u;cases u;refine⟨(f.blk i d m).1, .inr ⟨b,y',cs,t,h.mu,ft,D,λ_=>E,F, ?_⟩⟩;simp only[h.get,if_true];exact VRel.frames n H
 refine(f.blk i).frame n (by simp only[h.get,zF e]) (λ_=>rfl) λx z w q r=> ?_
 have:=h.low f e w q;simp[Hp.set,this,r]
def Writes.calm (j:Rel c)(h:Writes c k b blk y'){d:List Nat}(l:k∈d):vP d c ⟨c.μ,kR c.S k blk,c.Z.set b<|O y',c.fb⟩:=by
 intro i _ n f;have g:i≠k:=by rintro rfl;exact n l
 simp only[h.get,zF g];refine⟨f,λx m=> ?_⟩;have:=h.low j g f m;simp[Hp.set,this]
end
end
section
open Bool renaming and_eq_true->aB
open List renaming replicate->bD,nil_append->cL,append_assoc->cN,drop_append->cO,drop_of_length_le->cP,length_append->cQ,length_cons->cR,length_take->cS,replicate_succ->cT,take_append_drop->cU
open Nat renaming beq->aD,le_of_ble_eq_true->bB,eq_of_beq_eq_true->cB,ble->cD,le_refl->cK,zero_add->cM
section
variable {β:Type} {T:i7} {c:Ctx} {e:db} {ea:cy} {k:VV->ak->Option β} {y:β} {d:List Nat}
def VRel.bool_inv {b:Bool}(h:VRel c (.bool b) a):a= .bool b:=by cases h;rfl
def VRel.int_inv {n:Int}(h:VRel c (.int kd n) a):a= .int kd n:=by cases h;rfl
def VRel.str_inv {l:Zd}(h:VRel c (.str l) a): ∃s,a= .string s/\fg s=l:=by cases h;exact⟨_,rfl,Zl⟩
def VRel.agg_inv {l:List VV}(h:VRel c (.agg l) a): ∃as:Array Value,a= .agg as/\F2 (VRel c) l as.toList:=by cases h;exact⟨_,rfl,Zl⟩
def VRel.tup_inv {l:List VV}(h:VRel c (.tup l) a): ∃as:Array Value,a= .tuple as/\F2 (VRel c) l as.toList:=by cases h;exact⟨_,rfl,Zl⟩
theorem WA {p:Bool}{x z v:VV}{f g:Value}(h:aG5 p x z=O v)(j:VRel c x f)(l:VRel c z g):VRel c v<|cond p f g:=by
 unfold aG5 at h
 grind
def aR5 (f:Rel c)(g:ba c e ea)(h:k (ev e x) c.S=O y):cj T (.move x) ea c.Z<|jd c d k y:=
 cz rfl (jd.same f (cm g x) h)
def aT4 (l:Rel c)(g:ba c e ea){t a b:Operand}{p:Bool}(n:ev e t= .bool p)(h:aE4 p (ev e a) (ev e b) c.S k=O y):cj T (.pick t a b) ea c.Z<|jd c d k y:=by
 have j:=cm g t;rw[n]at j;have j:=j.bool_inv
 have f: ∀v,VRel c v (cond p (ea.ev a)<|ea.ev b)->k v c.S=O y->cj T (.pick t a b) ea c.Z (jd c d k y):=by
  intro v r m;refine cz (v:=cond p (ea.ev a)<|ea.ev b) (Z':=c.Z) ?_ (jd.same l r m);simp only[AOp.run,j];cases p<;>rfl
 unfold aE4 at h;split at h
 .rename_i v q;exact f v (WA q (cm g a)<|cm g b) h
 cases p with
 |true=>exact f _ (cm g a) h
 |false=>exact f _ (cm g b) h
def jd.new {v:Value}{g:VV}{b1:Option Nat}{kill:Option Nat}(f:Rel c)(h:Moves c kill b1 blk Z')(j: ∀q,kill=O q->q∈d)(m:VRel ⟨yh c b1,rO c.S kill++[blk],Z',c.fb⟩ g v)(l:k g (rO c.S kill++[blk])=O y):jd c d k y v Z':=
 ⟨g,_,rfl,h.le f,h.rel f,h.calm f j,m,l⟩
def ab8 {x:Ab.Blk}{dm:Nat×Nat}(_:blk.dim=O dm):VRel ⟨yh c<|O c.Z.n,rO c.S Y++[blk],c.Z.add x,c.fb⟩ (.ptr (hW c.S) 0)<|.pointer<|O ⟨c.Z.n,0,Y⟩:=by
 refine .ptr (by simp[rO]) rfl λf _=>⟨c.Z.n, ?_,rfl⟩
 simp[yh]
theorem aI9 : ∀{z:List Value},z.all bj7=Za->z=bD (hW z) (.int .u8 0)
 |[],_=>rfl
 |v::z,h=>by
  rw[List.all_cons,aB]at h
  have g:v= .int .u8 0:=by
   have f:=h.1;unfold bj7 at f
   grind
  rw[cR,cT,<-aI9 h.2,g]
def zZ (es:Nat)(z:List Value):(Gl es z).dim=O (es,hW z)/\(Gl es z).frozen=Zb/\∀c:Ctx,F2 (VRel c) (Gl es z).vals z:=by
 unfold Gl;cases f:Xr es z with
 |false=>
  rw[zD];exact⟨by simp[Blk.dim],rfl,λc=>Hw c z⟩
 |true=>
  rw[zC];unfold Xr at f;rw[aB,aB]at f;have j:=cB f.1.1;subst j;refine⟨by simp[Blk.dim,Sh.w],rfl,λc=> ?_⟩;have l:=aI9 f.2
  have g: ∀n,F2 (VRel c) (gf (.int .u8)<|bD n (0:Int))<|bD n<|.int .u8 0:=by
   intro n;induction n with
   |zero=>exact .nil
   |succ n m=>exact .cons (.int _ _) m
  have h:=g<|hW z;rw[<-l]at h;exact h
def au3 (g:Rel c){es:Nat}{z:List Value}(h:gd (cD 1 es) (k (.ptr (hW c.S) 0)<|c.S++[Gl es z])=O y):cj T (.alloc es z) ea c.Z<|jd c d k y:=by
 have⟨j,l⟩:=az h;have⟨f,n,m⟩:=zZ es z;exact cz rfl (jd.new (kill:=Y) g (Xf g (blk:=Gl es z) (x:=⟨z,Za,es⟩) (d:=(es,hW z)) f (bB j) rfl rfl (m c)) (λ_ h=>by cases h) (ab8 (dm:=(es,hW z)) f) l)
def bg9 (g:Rel c)(m:ba c e ea){es:Nat}(h:gd (cD 1 es&&qc (nM<|ev e x)) (k (.ptr (hW c.S) 0)<|c.S++[.cells es Zb<|nM<|ev e x])=O y):cj T (.box es x) ea c.Z<|jd c d k y:=by
 have⟨f,l⟩:=az h;rw[aB]at f;have j:=KS (cm m x) f.2;refine cz (by simp only[AOp.run];rw[zE<|lg j f.2])<|jd.new (kill:=Y) g (Xf g (blk:= .cells es Zb<|nM<|ev e x) (x:=⟨cellsOf<|ea.ev x,Za,es⟩) (d:=(es,hW<|nM<|ev e x)) rfl (bB f.1) rfl rfl j) (λ_ h=>by cases h) (ab8 (dm:=(es,_)) rfl) l
def Ad (m:ba c e ea): ∀(j:List<|Nat×Nat×Operand) {cs r:List VV} {as:List Value},L4 cs (CP e j)=O r->F2 (VRel c) cs as->∃l,Gu as (j.map λ(o,s,x)=>(o,s,ea.ev x))=O l/\F2 (VRel c) r l
 |[],cs,r,as,h,g=>by
  injection h with h
  subst h;exact⟨as,rfl,g⟩
 |(o,s,x)::j,cs,r,as,h,g=>by
  simp only[CP,List.map_cons,L4]at h;cases f:(aD (nM<|ev e x).length s&&cD (o+s) cs.length&&(nM<|ev e x).all aT2)with
  |false=>rw[f]at h;cases h
  |true=>
   rw[f,zC]at h;rw[aB,aB]at f;have q:=cB f.1.1;have A:=bB f.1.2;have n:=KS (cm m x) f.2;have t:(cellsOf<|ea.ev x).length=s:=by rw[<-n.length];exact q
   have B:as.length=cs.length:=g.length.symm;obtain⟨l,u,w⟩:=Ad m j h<|((g.take o).append n).append<|g.drop<|o+s;refine⟨l, ?_,w⟩;simp only[List.map_cons,Gu];rw[zE ⟨t,V1⟩];exact u
def aw2 (l:Rel c)(m:ba c e ea){z:List Value}{f:List<|Nat×Nat×Operand}{cs:List VV}(n:L4 (z.map MN) (CP e f)=O cs)(h:k (.agg cs) c.S=O y):cj T (.build z f) ea c.Z<|jd c d k y:=by
 have⟨q,g,j⟩:=Ad m f n<|Hw c z;exact cz (by simp only[AOp.run,g];rfl)<|jd.same l (.agg (by simpa using j)) h
def Bo {dm:Nat×Nat}{n m:Nat}{b:Nat}{yb:Ab.Blk}{kill:Option Nat}(h:blk.dim=O dm)(g:n*dm.1=dm.2)(l:n<=m)(q:Z'.m b=O yb)(j:m*dm.1<=hW yb.cells):
  VRel ⟨yh c<|O b,rO c.S kill++[blk],Z',c.fb⟩ (.full<|hW c.S) (.slice (O ⟨b,0,Y⟩) n m):=by
 refine .full (by simp[As]) rfl λr f=> ?_
 simp only[kQ,if_true]at f;rw[h]at f;cases f;exact⟨n,g, .inr ⟨b,m,yb,V2,by simp[yh],by rw[cM,g];exact cK _,l,q,by rw[cM];exact j⟩⟩
def Ly : ∀(n:Nat) (z:List Value),F2 (VRel c) ((bD n<|z.map MN).flatten) (fh z n)
 |0,_=> .nil
 |n+1,z=>by
  simp only[fh,cT,List.flatten_cons];exact(Hw c z).append<|Ly n z
def Ql (m:Rel c)(t:ba c e ea){es ln:Nat}{z:List Value}{j:List<|Nat×Nat×Operand}{cs:List VV}(u:L4 ((bD ln<|z.map MN).flatten) (CP e j)=O cs)
  (h:gd (qc cs&&aD (ln*es) cs.length&&cD 1 es) (k (.full c.S.length)<|c.S++[.cells es Zb cs])=O y):cj T (.buildSlice es ln z j) ea c.Z<|jd c d k y:=by
 obtain⟨f,q⟩:=az h;rw[aB,aB]at f;obtain⟨n,r,g⟩:=Ad t j u<|Ly ln z;have l:=cB f.1.2;refine cz (by simp only[AOp.run,r];rw[zE<|lg g f.1.1])<|jd.new (kill:=Y) m (Xf m (blk:= .cells es Zb cs) (x:=⟨n,Za,es⟩) (d:=(es,cs.length)) rfl (bB f.2) rfl rfl g) (λ_ h=>by cases h) ?_ q;exact Bo (dm:=(es,cs.length)) (yb:=⟨n,Za,es⟩) rfl l (cK _) (zE rfl) (by rw[<-g.length];exact Nat.le_of_eq l)
def aQ8 (f:Rel c)(r:ba c e ea)(h:Rw c.S 1 Zb (ev e x) k=O y):cj T (.load x) ea c.Z<|jd c d k y:=by
 have⟨b,o,blk,g,j,l,_⟩:=Wc f h<|cm r x;have⟨u,w,m,n,q⟩:=l rfl;exact cz (by simp only[AOp.run,g,j,m];rfl)<|jd.same f n q
def aB7 (f:Rel c)(t:ba c e ea){n:Nat}(h:Rw c.S n Za (ev e x) k=O y):cj T (.loadN n x) ea c.Z<|jd c d k y:=by
 have⟨b,o,blk,g,j,_,l⟩:=Wc f h<|cm t x;have⟨u,w,m,q,r⟩:=l rfl;exact cz (by simp only[AOp.run,g,j,m];rfl)<|jd.same f (.agg eo) r
def GN : ∀(vs cells:List Value) (o:Nat),hW (lN cells o vs)=hW cells
 |[],_,_=>rfl
 |v::vs,cells,o=>by simp only[lN];rw[GN vs];simp
def F2.set {l:List VV}{m:List Value}(h:F2 (VRel c) l m){v:VV}(j:VRel c v a): ∀i,F2 (VRel c) (l.set i v)<|m.set i a:=by
 induction h with
 |nil=>intro i;simp;exact .nil
 |cons f g n=>
  intro i;cases i with
  |zero=>exact .cons j g
  |succ i=>exact .cons f<|n i
def Pz : ∀{vs:List VV} {as:List Value},F2 (VRel c) vs as->∀{l:List VV} {m:List Value} (o:Nat),F2 (VRel c) l m->F2 (VRel c) (aU8 l o vs) (lN m o as)
 |_,_, .nil,_,_,_,h=>h
 |_,_, .cons f g,_,_,o,h=>Pz g (o+1)<|F2.set h f o
def GM : ∀(vs:List Value) (cs rest:List Value) (o:Nat),o+hW vs<=hW cs->lN (cs++rest) o vs=lN cs o vs++rest
 |[],_,_,_,_=>rfl
 |v::vs,cs,rest,o,h=>by
  simp only[cR]at h;simp only[lN];rw[List.set_append_left _ _ V1,GM vs _ _ _ V3]
def Bu : ∀(vs:List Value) (pre cs:List Value) (o:Nat),lN (pre++cs) (hW pre+o) vs=pre++lN cs o vs
 |[],_,_,_=>rfl
 |v::vs,pre,cs,o=>by
  simp only[lN];rw[List.set_append_right _ _ V1,Nat.add_sub_cancel_left,Nat.add_assoc,Bu vs]
def HF {blk:Ab.Blk}{o:Nat}{vs:List Value}(f:blk.own=Za)(g:o+hW vs<=hW blk.cells)(h:vs.all one=Za):CR blk o vs=O ⟨lN blk.cells o vs,Za,blk.es⟩:=by
 unfold CR;rw[zE ⟨f,g,h⟩,f]
def Kv (F:Rel c){q es o b:Nat}{l l' vs:List VV}{as:List Value}(g:ag c.S q= .cells es Zb l)(C:c.μ q=O b)(A:F2 (VRel c) vs as)(D:qc vs=Za)(I:o+vs.length<=l.length)
  (h: ∀cs,F2 (VRel c) l cs->F2 (VRel c) l' (lN cs o as)): ∃blk,c.Z.m b=O blk/\∃f,CR blk o as=O f/\Writes c q b (.cells es Zb l') f:=by
 obtain⟨r,cs,j,t,E,u,w,n⟩:=F.block (k:=q) (d:=(es,l.length)) hD C;rw[g]at u n;have B:=F2.length n;simp only[Blk.vals]at B;have H:=F2.length A;refine⟨r,t,_,HF (u rfl) (by rw[w,cQ];omega)<|lg A D,⟨by rw[g];rfl,C, ?_,rfl,r,lN cs o as,j,(es,l.length),t,by rw[g];rfl,E,rfl,GN _ _ _, ?_,h cs n⟩⟩
 .have:=F2.length<|h cs n;rw[GN]at this;simp only[g,Blk.dim];rw[this,<-B]
 .show lN r.cells o as=_;rw[w,GM _ _ _ _ V1]
def Py {v:VV}{A:Value}(u:VRel c v A): ∀{cs:List VV} {as:List Value} {i j:Nat} {r:List VV},Px v cs i j=O r->F2 (VRel c) cs as->F2 (VRel c) r (if j<=i then as.set (i-j) A else as)
 |[],_,i,j,r,h,n=>by
  cases n;cases h;simp;exact .nil
 |w::cs,_,i,j,r,h,n=>by
  cases n with
  |cons B C=>
   rename_i a as;simp only[Px]at h;cases t:aG5 (aD i j) v w with
   |none=>rw[t]at h;cases h
   |some x=>
    rw[t]at h;simp only[zG]at h;cases q:Px v cs i (j+1)with
    |none=>rw[q]at h;cases h
    |some F=>
     rw[q]at h;cases h;have f:=Py u q C;have g:=WA t u B;by_cases l:i=j
     .subst l;rw[Zh]at f;rw[zE<|cK _,Nat.sub_self];have:aD i i=Za:=Nat.beq_refl i;rw[this]at g;exact .cons g f
     .have D:aD i j=Zb:=by
       cases E:aD i j with
       |false=>rfl
       |true=>exact(l<|cB E).elim
      rw[D]at g;by_cases m:j+1<=i
      .rw[zE m]at f;rw[Zg,show i-j=(i-(j+1))+1 by omega];exact .cons g f
      .rw[zF m]at f;rw[Zh];exact .cons g f
theorem Q4 {s:Sh}{x:El s}: ∀{l:List<|El s} {i:Nat},i<hW l->gf s (l.set i x)=(gf s l).take (i*s.w)++(eX s x++(gf s l).drop (i*s.w+s.w))
 |[],_,h=>by simp at h
 |a::l,0,_=>by
  rw[List.set_cons_zero,gN,gN,Nat.zero_mul,List.take_zero,cL,cM,cO,fi,Nat.sub_self,List.drop_zero,cP (by rw[fi];exact cK _),cL]
 |a::l,i+1,h=>by
  have f:(i+1)*s.w=s.w+i*s.w:=by rw[Nat.succ_mul];omega
  rw[List.set_cons_succ,gN,gN,Q4 V8,f,List.take_append,cO,fi,List.take_of_length_le (l:=eX s a) (by rw[fi];omega),cP (l:=eX s a) (by rw[fi];omega),cL,cN]
  grind
def Ov (v:VV){q:Nat}(h:Bd v=O q):q∈aE1 (Bd v):=by rw[h];exact cc.2 rfl
def PA {vs cs:List Value}{p o w:Nat}(g:o+hW vs<=w)(l:p+w<=hW cs):lN cs (p+o) vs=cs.take p++(lN ((cs.drop p).take w) o vs++cs.drop (p+w)):=by
 have f:cs=cs.take p++((cs.drop p).take w++cs.drop (p+w)):=by
  rw[<-List.drop_drop,cU,cU]
 have h:hW (cs.take p)=p:=by rw[cS];omega
 have j:hW ((cs.drop p).take w)=w:=by rw[cS,List.length_drop];omega
 conv=>lhs;rw[f]
 have:=Bu vs (cs.take p) ((cs.drop p).take w++cs.drop (p+w)) o;rw[h]at this;rw[this,GM _ _ _ _ (by rw[j];exact g)]
theorem aH2 (hR:Rel c)(he:ba c e ea){n:Nat}{a:Operand}(hd: ∀q,Bd (ev e a)=O q->q∈d)
  (h:gd (aD (nM<|ev e x).length n&&qc (nM<|ev e x)) (Yy c.S (ev e a) (nM<|ev e x) λS'=>k .undef S')=O y):cj T (.store n a x) ea c.Z<|jd c d k y:=by
 obtain⟨V,f⟩:=az h;rw[aB]at V;have hn:=cB V.1;have P:=KS (cm he x) V.2;have hlen:(cellsOf<|ea.ev x).length=n:=by rw[<-P.length];exact hn
 have ha:=cm he a
 have U: ∀(L:Ctx) (q b o:Nat) (j:Ab.Blk) (blk:Blk) (g:Ab.Blk),L.Z=c.Z->Le c L->vP d c L->Rel L->q∈d->ea.ev a= .pointer (O ⟨b,o,Y⟩)->c.Z.m b=O j->CR j o (cellsOf<|ea.ev x)=O g->Writes L q b blk g->
   k .undef (kR L.S q blk)=O y->cj T (.store n a x) ea c.Z (jd c d k y):=by
  intro L q b o j blk g hZ N M r hq E F I H J;refine cz (v:=undef) (Z':=c.Z.set b<|O g) ?_ ?_
  .simp only[AOp.run,E,hlen,if_true,F,I]
  .rw[<-hZ];exact⟨.undef,_,rfl,N.trans<|H.le r,H.rel r,M.trans (H.calm r hq) N, .undef _,J⟩
 generalize cellsOf (ea.ev x)=as at*;generalize ev e a=av at*;generalize nM (ev e x)=K at*;unfold Yy at f;cases av with
 |ptr q o=>
  simp only at f;cases t:ag c.S q with
  |dead=>rw[t]at f;cases f
  |arr s z l=>rw[t]at f;cases f
  |cells es z l=>
   rw[t]at f;cases z with
   |true=>cases f
   |false=>
    obtain⟨E,F⟩:=az f;cases ha with
    |ptr hk _ C=>
     obtain⟨b,W,B⟩:=C (es,l.length) (by rw[t];rfl);obtain⟨j,I,g,H,J⟩:=Kv hR t W P V.2 (bB E) λcs A=>Pz P o A
     exact U c q b o j _ g rfl (Le.refl c) (vP.refl d c) hR (hd q rfl) B I H J F
 |pix q o m i=>
  simp only at f;split at f
  .rename_i es l v t;obtain⟨E,F⟩:=az f;have E:=bB E;split at F
   .rename_i l' hs;cases P with
    |cons hv hnil=>
     rename_i va as';cases hnil;cases ha with
     |pix hk _ hi C=>
      obtain⟨b,W,B⟩:=C (es,l.length) (by rw[t];rfl)
      obtain⟨j,I,g,H,J⟩:=Kv (l':=l.take o++l'++l.drop (o+m)) (o:=o+i) hR t W (.cons hv .nil) V.2 V3 λcs A=>by
       have hl:=A.length;rw[PA (w:=m) V3 V1,cN];have h8:=Py hv hs<|(A.drop o).take m;rw[zE<|Nat.zero_le _,Nat.sub_zero]at h8;exact(A.take o).append (h8.append<|A.drop _)
      exact U c q b (o+i) j _ g rfl (Le.refl c) (vP.refl d c) hR (hd q rfl) B I H J F
   .cases F
  .cases f
 |pel q i o=>
  simp only at f;cases t:ag (IW c.S K) q with
  |dead=>rw[t]at f;cases f
  |cells es z l=>rw[t]at f;cases f
  |arr s z l=>
   rw[t]at f;cases z with
   |true=>cases f
   |false=>
    simp only at f;cases Q:l[i]? with
    |none=>rw[Q]at f;cases f
    |some x'=>
     rw[Q]at f;simp only[zG]at f;split at f
     .rename_i z hof;obtain⟨E,F⟩:=az f;have E:=bB E;have D:=Ho c.S K;have r:Rel ⟨c.μ,IW c.S K,c.Z,c.fb⟩:=D.rel hR
      have hi:i<l.length:=by
       grind
      have hx1:F2 (VRel ⟨c.μ,IW c.S K,c.Z,c.fb⟩) K as:=VRel.frames D.le P;cases ha with
      |pel hk _ C=>
       have u:(ag (IW c.S K) q).dim=O (s.w,l.length*s.w):=by rw[t];rfl
       obtain⟨b,W,B⟩:=C (s.w,l.length*s.w) (by rw[<-D.dim];exact u);obtain⟨y0,cs,rest,I,H,J,h8,h9⟩:=r.block (k:=q) u W;rw[t]at J h9;have hl:=h9.length;simp only[Blk.vals,gS]at hl;have N:i*s.w+s.w<=l.length*s.w:=by rw[<-Nat.succ_mul];exact Nat.mul_le_mul_right _ hi
       have hlen':K.length=as.length:=P.length;refine U ⟨c.μ,IW c.S K,c.Z,c.fb⟩ q b (i*s.w+o) y0 (.arr s Zb<|l.set i z) _ rfl D.le (D.calm d) r (hd q rfl) B I (HF (J rfl) (by rw[h8,cQ];omega)<|lg P V.2) ⟨by rw[t];rfl,W,by rw[u];simp[Blk.dim],rfl,y0,lN cs (i*s.w+o) as,rest,_,I,u,H,rfl,GN _ _ _,by rw[h8,GM _ _ _ _ V1], ?_⟩ F;obtain⟨pre,X,h11,h12⟩:=kJ r s _ _ _ hof;rw[List.append_nil]at X;subst X;simp only[Blk.vals];rw[Q4 hi,PA (w:=s.w) V1 V1];refine(h9.take _).append<|F2.append (h12 _<|Pz hx1 o ?_)<|h9.drop _;have h13:=(h9.drop<|i*s.w).take s.w;simp only[Blk.vals]at h13
       rwa [K5 Q]at h13
     .cases f
 |_=>cases f
end
end
section
open Bool renaming false_eq_true->aD
open List renaming extract_eq_take_drop->bB
open Nat renaming eq_of_beq_eq_true->bD
open Option renaming map_some->aB
section
variable {β:Type} {T:i7} {c:Ctx} {e:db} {ea:cy} {k:VV->ak->Option β} {y:β} {d:List Nat}
def xX (s:ByteArray):hW (fg s)=s.size:=by simp[fg]
def Og (s t:ByteArray):fg (s++t)=fg s++fg t:=by
 simp[fg,ByteArray.data_append]
def GY : ∀{l m:List UInt8},(l.map λb=>(b.toNat:Int))=m.map (λb=>(b.toNat:Int))->l=m
 |[],[],_=>rfl
 |[],_::_,h=>by simp at h
 |_::_,[],h=>by simp at h
 |a::l,b::m,h=>by
  simp only[List.map_cons,List.cons.injEq]at h;rw[GY h.2,UInt8.toNat_inj.1<|Int.ofNat.inj h.1]
def Mi (s:ByteArray):s.toList=s.data.toList:=by
 rw[ByteArray.toList_eq]
theorem KQ (s t:ByteArray):(s.toList==t.toList)=Zc (fg s=fg t):=by
 rw[Mi,Mi];by_cases h:s.data.toList=t.data.toList
 .simp[fg,h]
 have:fg s≠fg t:=λe=>h (GY e)
 grind
def ah4 {op:BinOp}{a b:Int}{j:VV->Option β}(h:Xj op kd a b j=O y): ∃v l,aa4 op kd a b=O l/\VRel c v l/\j v=O y:=by
 cases op<;>simp only[Xj]at h<;>try(cases h;done)
 case add=>exact⟨_,_,rfl, .int _ _,h⟩
 case sub=>exact⟨_,_,rfl, .int _ _,h⟩
 case mul=>exact⟨_,_,rfl, .int _ _,h⟩
 case quo=>
  have⟨f,g⟩:=az h;exact⟨_,_,zF<|of_decide_eq_true f, .int _ _,g⟩
 case rem=>
  have⟨f,g⟩:=az h;exact⟨_,_,zF<|of_decide_eq_true f, .int _ _,g⟩
 case and=>exact⟨_,_,rfl, .int _ _,h⟩
 case or=>exact⟨_,_,rfl, .int _ _,h⟩
 case xor=>exact⟨_,_,rfl, .int _ _,h⟩
 case andNot=>exact⟨_,_,rfl, .int _ _,h⟩
 case eql=>
  refine⟨_,_,rfl, ?_,h⟩;have:(a==b)=Zc (a=b):=by by_cases h:a=b<;>simp[h]
  rw[this];exact .bool _
 case neq=>
  refine⟨_,_,rfl, ?_,h⟩;have:(a !=b)=Zc (a≠b):=by by_cases h:a=b<;>simp[h]
  rw[this];exact .bool _
 case lss=>exact⟨_,_,rfl, .bool _,h⟩
 case leq=>exact⟨_,_,rfl, .bool _,h⟩
 case gtr=>exact⟨_,_,rfl, .bool _,h⟩
 case geq=>exact⟨_,_,rfl, .bool _,h⟩
def bg4 (C:Rel c)(r:ba c e ea){op:BinOp}(h:bg3 op (ev e x) (ev e z) (λv=>k v c.S)=O y):cj T (.bin op x z) ea c.Z<|jd c d k y:=by
 have u:=cm r x;have w:=cm r z
 have f: ∀v n,CK op (ea.ev x) (ea.ev z)=O n->VRel c v n->k v c.S=O y->cj T (.bin op x z) ea c.Z (jd c d k y):=λv n g j q=>
  cz (by simp only[AOp.run,g];rfl) (jd.same C j q)
 generalize ev e x=F at*;generalize ev e z=H at*;unfold bg3 at h;split at h
 .rename_i D a E b;rw[u.int_inv,w.int_inv]at f;cases l:xr op with
  |true=>
   rw[l,zC]at h;simp only[CK,l,if_true]at f;cases op<;>simp only[aH0]at h<;>try(cases h;done)
   .obtain⟨g,j⟩:=az h;have g:=of_decide_eq_true g;refine f _ _ ?_ (.int _ _) j;simp only[PD];rw[Zh]
   have⟨g,j⟩:=az h;have g:=of_decide_eq_true g;refine f _ _ ?_ (.int _ _) j;simp only[PD];rw[Zh]
  |false=>
   rw[l,zD]at h;cases m:Zc (D=E)with
   |false=>rw[m]at h;cases h
   |true=>
    rw[m,zC]at h;have m:=of_decide_eq_true m;subst m;have⟨v,n,g,j,q⟩:=ah4 (c:=c) h;refine f v n ?_ j q;simp only[CK,l,aD,if_false,if_true,g]
 .rename_i a b;obtain⟨s,A,rfl⟩:=u.str_inv;obtain⟨t,B,rfl⟩:=w.str_inv;rw[A,B]at f;cases l:xr op with
  |true=>rw[l]at h;cases h
  |false=>
   rw[l,zD]at h;simp only[CK,l,aD,if_false]at f;cases op<;>simp only[bu3]at h<;>try(cases h;done)
   .obtain⟨g,j⟩:=az h;have g:hW (fg s)+hW (fg t)<=9223372036854775807:=Nat.le_of_ble_eq_true g;rw[xX,xX]at g;refine f _ _ ?_ (.str<|Og s t) j;simp only[ad8];rw[zF];show¬(((s.size+t.size:Nat):Int) > 9223372036854775807);omega
   .refine f _ _ rfl ?_ h;rw[KQ];exact .bool _
   refine f _ _ rfl ?_ h;rw[KQ];have:(!Zc (fg s=fg t))=Zc (fg s≠fg t):=by simp
   rw[this];exact .bool _
 cases h
def vH (h:b.live=Za): ∃dm,b.dim=O dm:=by cases b<;>first|(cases h;done)|exact⟨_,rfl⟩
def IA {v:VV}(h:VRel c v a)(l:OR c.S v=Za): ∃x,a= .pointer (O x):=by
 cases v<;>try(cases l;done)
 case ptr q o=>
  have⟨f,j⟩:=vH l;cases h with
  |ptr m _ g=>have⟨b,_,h⟩:=g f j;exact⟨_,h⟩
 case pix q o n i=>
  have⟨f,j⟩:=vH l;cases h with
  |pix m _ _ g=>have⟨b,_,h⟩:=g f j;exact⟨_,h⟩
 case pel q i o=>
  have⟨f,j⟩:=vH l;cases h with
  |pel m _ g=>have⟨b,_,h⟩:=g f j;exact⟨_,h⟩
 case pin s x o=>cases h;exact⟨_,rfl⟩
def VH (q:Rel c)(t:ba c e ea)(h:(match ev e x with
  | .fn f a b=>k (.fn f a b) c.S
  |v=>gd (OR c.S v)<|k v c.S)=O y):cj T (.nilCheck x) ea c.Z<|jd c d k y:=by
 have g:=cm t x;split at h
 .rename_i f a b u;rw[u]at g
  have: ∃l m,ea.ev x= .func (.func f) l m:=by
   generalize ea.ev x=w at g;cases g;exact⟨_,_,rfl⟩
  have⟨l,m,j⟩:=this;rw[j]at g;exact cz (by simp only[AOp.run,j]) (jd.same q g h)
 .obtain⟨j,r⟩:=az h;have⟨p,n⟩:=IA g j;rw[n]at g;exact cz (by simp only[AOp.run,n])<|jd.same q g r
def aC4 {b:Bool}:(b !=neg)=aC3 neg b:=by cases neg<;>cases b<;>rfl
def bi2 (w:Rel c)(u:ba c e ea){kd:Nat}{p:Bool}(f:bi1 c.S kd (ev e x) (ev e z)=O p)(h:k (.bool<|aC3 neg p) c.S=O y):cj T (.eqv kd neg x z) ea c.Z<|jd c d k y:=by
 have j:=cm u x;have l:=cm u z
 have g:Vg kd (ea.ev x) (ea.ev z)=O p->cj T (.eqv kd neg x z) ea c.Z (jd c d k y):=λn=>
  cz (v:= .bool<|p !=neg) (by simp only[AOp.run,n];rfl) (jd.same w (by rw[aC4];exact .bool _) h)
 generalize ev e x=A at*;generalize ev e z=B at*;unfold bi1 at f;split at f
 .injection f with f;subst f
  rw[j.bool_inv,l.bool_inv]at g;exact g rfl
 .injection f with f;subst f
  refine g ?_;generalize ea.ev x=r at*;generalize ea.ev z=t at*;cases j;cases l;rfl
 .cases m:OR c.S B with
  |false=>rw[m]at f;cases f
  |true=>
   rw[m]at f;cases f
   refine g ?_;have⟨q,n⟩:=IA l m;rw[n];generalize ea.ev x=r at*;cases j;rfl
 .cases m:OR c.S A with
  |false=>rw[m]at f;cases f
  |true=>
   rw[m]at f;cases f
   refine g ?_;have⟨q,n⟩:=IA j m;rw[n];generalize ea.ev z=t at*;cases l;rfl
 .injection f with f;subst f
  refine g ?_;generalize ea.ev x=r at*;generalize ea.ev z=t at*;cases j;cases l;rfl
 .injection f with f;subst f
  refine g ?_;generalize ea.ev x=r at*;generalize ea.ev z=t at*;cases j;cases l;rfl
 .injection f with f;subst f
  refine g ?_;generalize ea.ev x=r at*;generalize ea.ev z=t at*;cases j;cases l;rfl
 .injection f with f;subst f
  refine g ?_;generalize ea.ev x=r at*;generalize ea.ev z=t at*;cases j;cases l;rfl
 cases f
def aO2 {kd:Nat}{v w:VV}{l m:Value}{p:Bool}(h:aj5 kd v w=O p)(g:VRel c v l)(j:VRel c w m):ye kd l m=O p:=by
 unfold aj5 at h;split at h
 .injection h with h;subst h
  rw[g.bool_inv,j.bool_inv];rfl
 .rename_i r a u b;cases f:Zc (r=u)with
  |false=>rw[f]at h;cases h
  |true=>
   rw[f]at h;cases h
   rw[g.int_inv,j.int_inv];simp only[ye,of_decide_eq_true f,if_true];by_cases e:a=b<;>simp[e]
 .injection h with h;subst h
  obtain⟨s,n,rfl⟩:=g.str_inv;obtain⟨t,q,rfl⟩:=j.str_inv;rw[n,q];simp only[ye];rw[KQ]
 cases h
theorem aO3 : ∀{f:List Nat} {l m:List VV} {t u:List Value} {p:Bool},Qt f l m=O p->F2 (VRel c) l t->F2 (VRel c) m u->kn f t u=O p:=by
 intro f;induction f with
 |nil=>
  intro l m t u p h A B;cases A<;>cases B<;>simp only[Qt]at h<;>try(cases h;done)
  exact h
 |cons kd f S=>
  intro l m t u p h A B;cases A with
  |nil=>cases m<;>simp[Qt]at h
  |cons J K=>
   cases B with
   |nil=>cases f<;>simp[Qt]at h
   |cons L M=>
    rename_i v P H D w Q I E
    have C: ∀q r,aj5 kd v w=O q->Qt f H I=O r->p=(q&&r)->kn (kd::f) (P::D) (Q::E)=O p:=by
     intro q r g j n;simp only[kn,aO2 g J L]
     grind
    unfold Qt at h;split at h
    .rename_i g j n;cases g
    .rename_i g j n;cases g;cases j;cases n;cases K;cases M;exact C p Za h rfl V2
    .rename_i g j n;cases g;cases j;cases n;cases F:aj5 kd v w with
     |none=>rw[F]at h;cases h
     |some q=>
      rw[F]at h;simp only[zG]at h;cases N:Qt f H I with
      |none=>rw[N]at h;cases h
      |some r=>
       grind
    cases h
def XC (w:Rel c)(f:ba c e ea){l:List Nat}{a b:List VV}{p:Bool}(t:ev e x= .agg a)(u:ev e z= .agg b)(A:Qt l a b=O p)(h:k (.bool<|aC3 neg p) c.S=O y):
  cj T (.eqCells neg l x z) ea c.Z (jd c d k y):=by
 have g:=cm f x;have j:=cm f z;rw[t]at g;rw[u]at j;have⟨B,m,q⟩:=g.agg_inv;have⟨C,n,r⟩:=j.agg_inv;exact cz (v:= .bool<|p !=neg) (by simp only[AOp.run,m,n,aO3 A q r];rfl)<|jd.same w (by rw[aC4];exact .bool _) h
def bu7 (j:Rel c)(l:ba c e ea){op:UnOp}(h:unK op (ev e x) (λv=>k v c.S)=O y):cj T (.un op x) ea c.Z<|jd c d k y:=by
 have f:=cm l x;unfold unK at h;split at h
 .rename_i kd n g;rw[g]at f;exact cz (by simp only[AOp.run,f.int_inv];rfl) (jd.same j (.int _ _) h)
 .rename_i kd n g;rw[g]at f;exact cz (by simp only[AOp.run,f.int_inv];rfl) (jd.same j (.int _ _) h)
 .rename_i b g;rw[g]at f;exact cz (by simp only[AOp.run,f.bool_inv];rfl) (jd.same j (.bool _) h)
 cases h
def OP {v:VV}{n:Int}(h:Q8 v=O n)(f:VRel c v a): ∃kd,a= .int kd n:=by
 cases v<;>simp only[Q8]at h<;>try(cases h;done)
 cases h
 exact⟨_,f.int_inv⟩
def aN2 (f:Rel c)(g:ba c e ea){n:Int}(j:Q8 (ev e x)=O n)(h:k (.int kd<|kd.wrap n) c.S=O y):cj T (.conv kd x) ea c.Z<|jd c d k y:=by
 have⟨m,l⟩:=OP j<|cm g x;exact cz (by simp only[AOp.run,l];rfl)<|jd.same f (.int _ _) h
def am9 (j:Rel c)(g:ba c e ea){f:Nat}{a b:List Operand}(h:k (.fn f (a.map<|ev e)<|b.map<|ev e) c.S=O y):cj T (.mkFunc f a b) ea c.Z<|jd c d k y:=
 cz rfl (jd.same j (.fn (by simpa using M5 g a) (by simpa using M5 g b)) h)
def aj7 (q:Rel c)(B:ba c e ea){o n:Nat}{cs:List VV}(C:ev e x= .agg cs)(h:cond agg (k (.agg<|Dm cs o n) c.S) (an8 c.S (nth cs o) k)=O y):cj T (.fieldV o n agg x) ea c.Z<|jd c d k y:=by
 have r:=cm B x;rw[C]at r;have⟨j,l,m⟩:=r.agg_inv;cases agg with
 |true=>
  refine cz (v:= .agg<|j.extract o<|o+n) (by simp only[AOp.run,l];rfl)<|jd.same q (.agg ?_) h;have:=(m.drop o).take n;simpa[Dm,Array.toList_extract,bB]using this
 |false=>
  rw[zD]at h;cases g:nth cs o with
  |none=>rw[g]at h;cases h
  |some w=>
   rw[g]at h;have⟨u,t,A⟩:=F2.nth m g;have f:j[o]?=O u:=by simpa using t
   exact cz (by simp only[AOp.run,l,f];rfl)<|jd.same q A h
def XE (t:Rel c)(A:ba c e ea){i:Nat}{cs:List VV}(B:ev e x= .tup cs)(h:an8 c.S (nth cs i) k=O y):cj T (.extract x i) ea c.Z<|jd c d k y:=by
 have j:=cm A x;rw[B]at j;have⟨l,m,n⟩:=j.tup_inv;cases g:nth cs i with
 |none=>rw[g]at h;cases h
 |some w=>
  rw[g]at h;have⟨u,q,r⟩:=F2.nth n g;have f:l[i]?=O u:=by simpa using q
  exact cz (by simp only[AOp.run,m,f];rfl)<|jd.same t r h
theorem Hs {i:Int}{n j:Nat}(h:ix i n=O j):0<=i/\i<n/\j=i.toNat/\j<n:=by
 unfold ix at h
 grind
theorem ac6 {α:Type}{l:List α}{i:Int}{x:α}(h:rd l i=O x):0<=i/\i<hW l/\l[i.toNat]?=O x:=by
 unfold rd at h
 grind
def ai {α γ:Type}{x:Option α}{f:α->Option γ}{z:γ}(h:x.bind f=O z): ∃a,x=O a/\f a=O z:=by
 cases x with
 |none=>cases h
 |some a=>exact⟨a,rfl,h⟩
def am3 (F:Rel c)(H:ba c e ea){ln es:Nat}{cs:List VV}{i:Int}(N:ev e x= .agg cs)(P:ev e z= .int kd i)
  (h:(im (ix i ln) λj=>cond agg (k (.agg<|Dm cs (j*es) es) c.S)<|gd (Nat.beq es 1&&Nat.beq (hW cs) ln)<|UQ cs j c.S k)=O y):cj T (.indexV ln es agg x z) ea c.Z<|jd c d k y:=by
 have I:=cm H x;have J:=cm H z;rw[N]at I;rw[P]at J;have⟨t,A,C⟩:=I.agg_inv;have B:=J.int_inv;have⟨j,K,q⟩:=ai h;obtain⟨D,E,rfl,Q⟩:=Hs K;cases agg with
 |true=>
  refine cz (v:= .agg<|t.extract (i.toNat*es)<|i.toNat*es+es) (by simp only[AOp.run,A,B];rw[zE ⟨D,E⟩];rfl)<|jd.same F (.agg ?_) q;have:=(C.drop<|i.toNat*es).take es;simpa[Dm,Array.toList_extract,bB]using this
 |false=>
  rw[zD]at q;have⟨r,L⟩:=az q;rw[Bool.and_eq_true]at r;have M:=bD r.1;have U:=bD r.2;subst M;have⟨w,f,g⟩:=UR V1 L;have⟨u,l,m⟩:=C.get _ _ f;have n:t[i.toNat*1]?=O u:=by rw[Nat.mul_one];simpa using l
  exact cz (by simp only[AOp.run,A,B,n];rw[zE ⟨D,E⟩];rfl)<|jd.same F m g
def am2 (D:Rel c)(j:ba c e ea){l:Zd}{i:Int}(E:ev e x= .str l)(F:ev e z= .int kd i)(h:(im (rd l i) λb=>k (.int .u8 b) c.S)=O y):cj T (.indexS x z) ea c.Z<|jd c d k y:=by
 have m:=cm j x;have n:=cm j z;rw[E]at m;rw[F]at n;obtain⟨s,q,rfl⟩:=m.str_inv;have r:=n.int_inv;have⟨b,t,w⟩:=ai h;have⟨A,B,f⟩:=ac6 t;simp only[fg,List.getElem?_map]at f;cases g:s.data.toList[i.toNat]? with
 |none=>rw[g]at f;cases f
 |some u=>
  rw[g,aB]at f;cases f
  have C:s[i.toNat]?=O u:=by
   have:i.toNat<s.size:=by rw[xX]at B;omega
   rw[getElem?_pos s i.toNat this,<-g,Array.getElem?_toList,getElem?_pos s.data i.toNat this];rfl
  exact cz (v:= .int .u8 u.toNat) (by simp only[AOp.run,q,r,C];rw[zE A];rfl)<|jd.same D (.int _ _) w
def aR4 (m:Rel c)(g:ba c e ea){f:IntKind}{a b:Int}(n:ev e x= .int kd a)(q:ev e z= .int f b)(h:k (.int kd<|max a b) c.S=O y):cj T (.most x z) ea c.Z<|jd c d k y:=by
 have j:=cm g x;have l:=cm g z;rw[n]at j;rw[q]at l;refine cz (v:= .int kd<|max a b) ?_ (jd.same m (.int _ _) h);simp only[AOp.run,j.int_inv,l.int_inv,YG,aB]
 congr 3
 split<;>omega
def aA8 (m:Rel c)(g:ba c e ea){f:IntKind}{a b:Int}(n:ev e x= .int kd a)(q:ev e z= .int f b)(h:k (.int kd<|min a b) c.S=O y):cj T (.least x z) ea c.Z<|jd c d k y:=by
 have j:=cm g x;have l:=cm g z;rw[n]at j;rw[q]at l;refine cz (v:= .int kd<|min a b) ?_ (jd.same m (.int _ _) h);simp only[AOp.run,j.int_inv,l.int_inv,Uc,aB]
 congr 3
 split<;>omega
end
end
section
open Bool renaming and_eq_true->cB
open List renaming drop_take->cM,length_append->cR
open Nat renaming eq_of_beq_eq_true->aB,mul_le_mul_right->aD,le_refl->bB,add_mul->bD,le_of_ble_eq_true->cD,beq->cK,le_trans->cL,eq_of_mul_eq_mul_right->cN,mul_div_cancel->cO,zero_add->cP
open Option renaming map_some->cQ,map_none->cS
section
variable {β:Type} {T:i7} {c:Ctx} {e:db} {ea:cy} {k:VV->ak->Option β} {y:β} {d:List Nat}
def IU.len {q lo n:Nat}{dm:Nat×Nat}(h:IU c q lo n dm a): ∃p f,a= .slice p n f/\n<=f:=by
 rcases h with⟨rfl,_,rfl,_,_⟩|⟨b,f,x,rfl,_,_,h,_⟩
 .exact⟨Y,0,rfl,bB _⟩
 exact⟨_,f,rfl,h⟩
def aB0 (E:Rel c){v:VV}{n:Nat}(h:lenOf c.S v=O n)(t:VRel c v a)(I: ∀l,v≠ .str l): ∃p B,a= .slice p n B/\n<=B:=by
 cases v<;>simp only[lenOf]at h<;>try(cases h;done)
 case nils=>cases h;cases t;exact⟨Y,0,rfl,bB _⟩
 case str l=>exact(I l rfl).elim
 case lst s l=>
  cases h
  cases t with
  |lstn=>exact⟨_,0,rfl,bB _⟩
  |lst _ _ _ f j _ _=>subst f;exact⟨_,_,rfl,j⟩
 case part q lo m=>
  cases A:(ag c.S q).live with
  |false=>rw[A]at h;cases h
  |true=>
   rw[A]at h;cases h
   have⟨D,F⟩:=vH A;cases t with
   |part H _ r=>exact(r D F).len
 case full q=>
  cases t with
  |full H _ r=>
   cases g:ag c.S q with
   |dead=>rw[g]at h;cases h
   |arr s z l=>
    rw[g]at h;cases h
    have⟨n,f,j⟩:=r (s.w,hW l*s.w) hD;have:n=hW l:=cN (nV s) f;subst this;exact j.len
   |cells u z l=>
    rw[g]at h;cases h
    have⟨n,f,j⟩:=r (u,hW l) hD;have C:=(E.blk q (u,hW l) hD).1
    have:n=hW l / u:=by
     simp only at f C;rw[<-f,cO _ C]
    subst this;exact j.len
def bk2 (f:Rel c)(j:ba c e ea){n:Nat}(q: ∀l,ev e x≠ .str l)(m:lenOf c.S (ev e x)=O n)(h:k (.int .i64 n) c.S=O y):cj T (.len x) ea c.Z<|jd c d k y:=by
 have⟨p,r,g,_⟩:=aB0 f m (cm j x) q;exact cz (by simp only[AOp.run,g])<|jd.same f (.int _ _) h
def Jv (j:ba c e ea){lo:Option Operand}{a:Int}{m:Nat}(h:Fe (lo.map<|ev e)=O a)(f:0<=a)(l:a<=m):oh m 0 (lo.map ea.ev)=O a.toNat:=by
 cases lo with
 |none=>
  simp only[cS,Fe]at h;cases h
  rfl
 |some x=>
  simp only[cQ,Fe]at h⊢;have⟨kd,g⟩:=OP h<|cm j x;rw[g];exact zE ⟨f,l⟩
def Ju (m:ba c e ea){f:Option Operand}{b:Int}{n g:Nat}(h:yO n (f.map<|ev e)=O b)(j:0<=b)(r:b<=n)(q:n<=g):oh g n (f.map ea.ev)=O b.toNat:=by
 cases f with
 |none=>
  simp only[cS,yO]at h;cases h
  simp[oh]
 |some x=>
  simp only[cQ,yO]at h⊢;have⟨kd,l⟩:=OP h<|cm m x;rw[l];exact zE ⟨j,V1⟩
theorem tO {a b:Int}{n:Nat}(h:dz a b n=Za):0<=a/\a<=b/\b<=n:=by
 unfold dz at h
 grind
theorem HC (j:ba c e ea){es:Nat}{lo l:Option Operand}{p:Option Addr}{n f:Nat}{a b:Int}(C:ea.ev x= .slice p n f)(B:n<=f)(E:f≠0->∀q,p=O q->∃z,c.Z.m q.block=O z/\z.es=es)
  (h:Fe (lo.map<|ev e)=O a) (g:yO n (l.map<|ev e)=O b) (w:dz a b n=Za):(AOp.slice es x lo l).run ea c.Z=O (.slice (p.map (QH · (a.toNat*es))) (b.toNat-a.toNat)<|f-a.toNat,c.Z):=by
 have⟨r,D,t⟩:=tO w
 have A:(f==0||EE c.Z es p lo)=Za:=by
  by_cases u:f=0
  .simp[u]
  .unfold EE
   grind
 simp only[AOp.run,C,A,if_true,Ju j g V1 t B,Jv j h r (m:=b.toNat) V1]
def IU.cut {q lo n:Nat}{dm:Nat×Nat}{p:Option Addr}{f A B:Nat}(h:IU c q lo n dm<|.slice p n f)(E:A<=B)(F:B<=n):IU c q (lo+A) (B-A) dm (.slice (p.map (QH · (A*dm.1))) (B-A)<|f-A):=by
 rcases h with⟨l,r,t,u,m⟩|⟨b,w,z,l,r,t,u,m,D⟩
 .injection l with g C j
  subst g;subst j;have:A=0:=by omega
  have:B=0:=by omega
  subst A;subst B;exact .inl ⟨rfl,V1,rfl,u,m⟩
 injection l with g C j
 subst g;subst j;refine .inr ⟨b,f-A,z, ?_,r,cL (aD _ V1) t,V1,m,cL (aD _ V1) D⟩;simp only[cQ,QH,bD]
def IU.es (w:Rel c){q lo n j:Nat}{dm:Nat×Nat}{p:Option Addr}(A:(ag c.S q).dim=O dm)(h:IU c q lo n dm<|.slice p n j): ∀z,p=O z->∃blk,c.Z.m z.block=O blk/\blk.es=dm.1:=by
 intro z B;subst B;rcases h with⟨g,_⟩|⟨b,l,x,g,r,_,_,E,_⟩
 .cases g
 injection g with f C D
 cases f;have⟨blk,_,_,t,u,_⟩:=w.block A r;exact⟨blk,t,u⟩
def JZ (t:Rel c)(B:ba c e ea){es q o n:Nat}{dm:Nat×Nat}{lo w:Option Operand}{a b:Int}(j:(ag c.S q).dim=O dm)(l:es=dm.1)(g:IU c q o n dm<|ea.ev x)
  (r:Fe (lo.map<|ev e)=O a) (m:yO n (w.map<|ev e)=O b) (u:dz a b n=Za) (h:k (.part q (o+a.toNat)<|b.toNat-a.toNat) c.S=O y):cj T (.slice es x lo w) ea c.Z<|jd c d k y:=by
 have⟨p,D,A,C⟩:=g.len;rw[A]at g;have⟨F,H,I⟩:=tO u;subst l;refine cz (HC B A C (λ_=>g.es t j) r m u)<|jd.same t ?_ h;refine .part (lM (by rw[j];simp)) rfl λE f=> ?_
 rw[j]at f;cases f;exact g.cut V1 V1
def tdt {α:Type}(L:List α){A B N p:Nat}(h:B<=N):((((L.drop p).take N).take B).drop A)=(L.drop<|p+A).take (B-A):=by
 rw[List.take_take,Nat.min_eq_left h,cM,List.drop_drop]
def aH1 (I:Rel c)(E:ba c e ea){es:Nat}{lo W:Option Operand}(h:Yt c.S es (ev e x) (lo.map<|ev e) (W.map<|ev e) k=O y):cj T (.slice es x lo W) ea c.Z<|jd c d k y:=by
 have C:=cm E x;unfold Yt at h;cases f:lenOf c.S (ev e x)with
 |none=>rw[f]at h;cases h
 |some n=>
  rw[f]at h;simp only at h;cases g:Fe (lo.map<|ev e)with
  |none=>rw[g]at h;cases h
  |some a=>
   cases j:yO n (W.map<|ev e)with
   |none=>rw[g,j]at h;cases h
   |some b=>
    rw[g,j]at h;simp only at h;split at h
    .rename_i J;rw[J]at C f;have⟨t,u⟩:=az h
     have hn0:n=0:=by
      simp only[lenOf]at f;injection f with f
      exact f.symm
     subst hn0;have⟨A,B,H⟩:=tO t;have ha0:a=0:=by omega
     have hb0:b=0:=by omega
     subst a;subst b;have hxe:ea.ev x= .slice Y 0 0:=by generalize ea.ev x=xa at C;cases C;rfl
     exact cz (HC E hxe (bB _) (λ_ q h=>by cases h) g j t) (jd.same I .nils u)
    .rename_i s l J;rw[J]at C f;simp only[lenOf]at f;cases f;have⟨t,u⟩:=az h;have N:=aB t
     have V:dz a b (hW l)=Za->k (.lst s<|na l a b) c.S=O y->cj T (.slice es x lo W) ea c.Z (jd c d k y):=by
      intro P X;have⟨A,B,H⟩:=tO P;generalize U:ea.ev x=xa at C;cases C with
      |lstn hq=>
       have hb0:b=0:=by simp at H;omega
       have ha0:a=0:=by omega
       subst a;subst b;refine cz (HC E U (bB _) (λh=>(h rfl).elim) g j P)<|jd.same I ?_ X;refine .lstn λz hz=> ?_
       have⟨z',_,h'⟩:=aa.1 hz;rw[<-h'];rfl
      |lst hn hy M D h7 h8 h9=>
       rename_i bb p cp z;refine cz (HC E U h7 (λ_ q h=>by cases h;exact⟨z,hy,M.trans N.symm⟩) g (by rw[D];exact j) (by rw[D];exact P))<|jd.same I ?_ X;subst N;have Q:hW (na l a b)=b.toNat-a.toNat:=by simp only[na,List.length_drop,List.length_take];omega
       refine .lst hn hy M Q.symm V1 ?_ ?_
       .have:a.toNat*s.w+(b.toNat-a.toNat)*s.w<=hW l*s.w:=by rw[<-bD];exact aD _ V1
        simp only;rw[D]at h8;omega
       simp only[na];rw[Bi,li];have K:=(h9.take<|b.toNat*s.w).drop<|a.toNat*s.w;rw[tdt _ (by rw[D];exact aD _ V1),<-Nat.sub_mul]at K;exact K
     split at u
     .rename_i e1 e2
      have P:dz a b (hW l)=Za:=by
       rw[e1]at g;rw[e2]at j;simp only[Fe]at g;simp only[yO]at j;injection g with g
       injection j with j
       subst g;subst j;simp[dz]
      refine V P ?_;rw[e1]at g;rw[e2]at j;simp only[Fe]at g;simp only[yO]at j;injection g with g
      injection j with j
      subst g;subst j;simp only[na,Int.toNat_natCast,Int.toNat_zero,List.drop_zero,List.take_length];exact u
     have⟨A,B⟩:=az u;exact V A B
    .rename_i q J;rw[J]at C f;cases C with
     |full X _ L=>
      cases r:ag c.S q with
      |dead=>rw[r]at h;cases h
      |arr s z l=>
       rw[r]at h;have⟨t,u⟩:=az h;have⟨A,B⟩:=az u;simp only[lenOf,r]at f;injection f with f
       have⟨n',H,D⟩:=L (s.w,hW l*s.w) ZL;have:n'=n:=by rw[<-f];exact cN (nV s) H
       subst this;exact JZ I E ZL (aB t) D g j A (by rw[cP];exact B)
      |cells F z l=>
       rw[r]at h;have⟨t,u⟩:=az h;have⟨A,B⟩:=az u;rw[cB]at t;simp only[lenOf,r]at f;injection f with f
       have⟨n',H,D⟩:=L (F,hW l) ZL;have he1:=aB t.1;have he2:=cD t.2
       have:n'=n:=by
        simp only at H;rw[<-f,<-H,cO _ V1]
       subst this;exact JZ I E ZL he1 D g j A (by rw[cP];exact B)
    .rename_i q o m J;rw[J]at C f;cases C with
     |part X _ L=>
      simp only[lenOf]at f;cases r:ag c.S q with
      |dead=>rw[r]at h;cases h
      |arr s z l=>
       rw[r]at h f;cases f;have⟨t,u⟩:=az h;have⟨A,B⟩:=az u;exact JZ I E (dm:=(s.w,hW l*s.w)) ZL (aB t) (L _ ZL) g j A B
      |cells F z l=>
       rw[r]at h f;cases f;have⟨t,u⟩:=az h;have⟨A,B⟩:=az u;rw[cB]at t;exact JZ I E (dm:=(F,hW l)) ZL (aB t.1) (L _ ZL) g j A B
    cases h
def Oh (s:ByteArray)(a b:Nat):fg (s.extract a b)=((fg s).take b).drop a:=by
 simp[fg,ByteArray.data_extract,Array.toList_extract,List.extract_eq_take_drop,List.map_drop,List.map_take,cM]
def WG (B:Rel c)(g:ba c e ea){lo q:Option Operand}(h:Lu c.S (ev e x) (lo.map<|ev e) (q.map<|ev e) k=O y):cj T (.sliceStr x lo q) ea c.Z<|jd c d k y:=by
 have r:=cm g x;unfold Lu at h;split at h
 .rename_i l C;rw[C]at r;obtain⟨s,t,rfl⟩:=r.str_inv;split at h
  .rename_i a b j f;have⟨u,w⟩:=az h;have⟨A,D,n⟩:=tO u;rw[xX]at n f;refine cz (v:= .string<|s.extract a.toNat b.toNat) ?_ (jd.same B (.str<|Oh s _ _) w);simp only[AOp.run,t,Ju g f V1 n<|bB _,Jv g j A (m:=b.toNat) V1]
  cases h
 cases h
def Qk {dm:Nat×Nat}(h:blk.dim=O dm):hW blk.vals=dm.2:=by
 cases blk with
 |dead=>cases h
 |cells f z l=>cases h;rfl
 |arr s z l=>cases h;exact gS
def WF (W:Rel c)(P:ba c e ea){es n:Nat}{lo hi:Option Operand}(h:Lt c.S es n (ev e x) (lo.map<|ev e) (hi.map<|ev e) k=O y):cj T (.sliceArr es n x lo hi) ea c.Z<|jd c d k y:=by
 have hx:=cm P x;unfold Lt at h;split at h
 .rename_i q o hv;rw[hv]at hx;split at h
  .rename_i es' l N;split at h
   .rename_i a b I H;obtain⟨L,h2⟩:=az h;simp only[cB]at L;obtain⟨⟨⟨⟨⟨E,h4⟩,F⟩,J⟩,h7⟩,M⟩:=L;have E:=aB E;have h4:=cD h4;have F:=aB F;have J:=cD J;have M:=of_decide_eq_true M;obtain⟨h9,X,B⟩:=tO h7;subst E;cases hx with
    |ptr hk _ hd=>
     have f:(ag c.S q).dim=O (es,l.length):=by rw[N];rfl
     obtain⟨K,U,hp⟩:=hd _ f;obtain⟨z,cs,V,j,C,r,D,A⟩:=W.block f U;rw[N]at r A;have Q:=A.length;simp only[Blk.vals]at Q;have hzl:l.length<=z.cells.length:=by rw[D,cR,Q];omega
     have u:o / es*es=o:=Nat.div_mul_cancel<|Nat.dvd_of_mod_eq_zero F;have hae:(o / es+a.toNat)*es=o+a.toNat*es:=by rw[bD,u]
     refine cz (v:= .slice (O ⟨K,o+a.toNat*es,Y⟩) (b.toNat-a.toNat)<|n-a.toNat) (Z':=c.Z) ?_ (jd.same W ?_ h2)
     .simp only[AOp.run,hp,j];rw[zE ⟨r rfl,C,V1⟩,Ju P H V1 B<|bB _];simp only;rw[Jv P I h9 (m:=b.toNat) V1];simp only;rw[Zg]
     refine .part hk rfl λd' g=> ?_
     rw[f]at g;injection g with g
     subst g;refine .inr ⟨K,n-a.toNat,z,by simp only[hae],U, ?_,V1,j, ?_⟩
     .have t:o / es+a.toNat+(b.toNat-a.toNat)=o / es+b.toNat:=by omega
      simp only;rw[t,bD,u];have:b.toNat*es<=n*es:=aD _ V1;omega
     have t:o / es+a.toNat+(n-a.toNat)=o / es+n:=by omega
     simp only;rw[t,bD,u];omega
   cases h
  .rename_i s l N;split at h
   .rename_i a b I H;obtain⟨L,h2⟩:=az h;simp only[cB]at L;obtain⟨⟨⟨⟨E,F⟩,J⟩,h7⟩,M⟩:=L;have E:=aB E;have F:=aB F;have J:=cD J;have M:=of_decide_eq_true M;obtain⟨h9,X,B⟩:=tO h7;subst E;subst F;cases hx with
    |ptr hk _ hd=>
     have f:(ag c.S q).dim=O (s.w,l.length*s.w):=by rw[N];rfl
     obtain⟨K,U,hp⟩:=hd _ f;obtain⟨z,cs,V,j,C,r,D,A⟩:=W.block f U;have Q:=A.length;rw[Qk f]at Q;rw[N]at r;have hle:n*s.w<=l.length*s.w:=aD _ J;have hzl:l.length*s.w<=z.cells.length:=by rw[D,cR];simp only at Q;omega
     have t:(a.toNat+(b.toNat-a.toNat))*s.w<=l.length*s.w:=aD _ V1;have h18:(a.toNat+(n-a.toNat))*s.w<=l.length*s.w:=aD _ V1;refine cz (v:= .slice (O ⟨K,0+a.toNat*s.w,Y⟩) (b.toNat-a.toNat)<|n-a.toNat) (Z':=c.Z) ?_ (jd.same W ?_ h2)
     .simp only[AOp.run,hp,j];rw[zE ⟨r rfl,C,V1⟩,Ju P H V1 B<|bB _];simp only;rw[Jv P I h9 (m:=b.toNat) V1];simp only;rw[Zg]
     refine .part hk rfl λd' g=> ?_
     rw[f]at g;injection g with g
     subst g;exact .inr ⟨K,n-a.toNat,z,by simp only[cP],U,t,V1,j,by simp only;omega⟩
   cases h
  cases h
 cases h
theorem bl0 (H:Rel c)(J:ba c e ea){n:Nat}(h:an8 c.S (bk9 c.S n<|ev e x) k=O y):cj T (.off n x) ea c.Z<|jd c d k y:=by
 have C:=cm J x
 have j: ∀w b o,ea.ev x= .pointer (O ⟨b,o,Y⟩)->VRel c w (.pointer<|O ⟨b,o+n,Y⟩)->k w c.S=O y->cj T (.off n x) ea c.Z (jd c d k y):=by
  intro w b o F M l;exact cz (by simp only[AOp.run,F]) (jd.same H M l)
 generalize ev e x=P at*;cases P<;>simp only[bk9]at h<;>try(cases h;done)
 case ptr q o=>
  cases f:(ag c.S q).live with
  |false=>rw[f]at h;cases h
  |true=>
   rw[f]at h;have⟨r,g⟩:=vH f;cases C with
   |ptr l _ t=>
    have⟨b,u,B⟩:=t r g;exact j _ b o B (.ptr l rfl λE _=>⟨b,u,rfl⟩) h
 case pix q o m i=>
  cases f:(ag c.S q).live with
  |false=>rw[f]at h;cases h
  |true=>
   rw[f]at h;have⟨r,g⟩:=vH f;cases C with
   |pix l F L t=>
    have⟨b,u,B⟩:=t r g;cases A:cK n 0 with
    |false=>rw[A]at h;cases h
    |true=>
     rw[A]at h;have:=aB A;subst this;exact j _ b (o+i) B (.pix l rfl L λE _=>⟨b,u,rfl⟩) h
 case pel q i o=>
  cases f:(ag c.S q).live with
  |false=>rw[f]at h;cases h
  |true=>
   rw[f]at h;have⟨r,g⟩:=vH f;cases C with
   |pel l _ t=>
    have⟨b,u,B⟩:=t r g;refine j _ b _ B (.pel l rfl λE I=>⟨b,u, ?_⟩) h
    grind
 case pin s z o=>
  generalize D:ea.ev x=Q at C;cases C with
  |pin A N f K=>
   refine j _ _ _ D ?_ h;rw[Nat.add_assoc];exact .pin A N f K
def aa3 {es:Nat}{i:Operand}{b o n f:Nat}{z:Int}(l:ea.ev x= .slice (O ⟨b,o,Y⟩) n f)(h:ea.ev i= .int kd z)(g:0<=z)(j:z<n):
  (AOp.idx es x i).run ea c.Z=O (.pointer<|O ⟨b,o+z.toNat*es,Y⟩,c.Z):=by
 simp only[AOp.run,l,h];rw[zE ⟨g,j⟩]
def Dt (j:Rel c)(C:ba c e ea){es q o n:Nat}{dm:Nat×Nat}{i:Operand}{z:Int}{w:VV}(t:IU c q o n dm<|ea.ev x)(l:ea.ev i= .int kd z)(f:0<=z)(r:z<n)
  (u: ∀b,c.μ q=O b->VRel c w (.pointer<|O ⟨b,o*dm.1+z.toNat*es,Y⟩)) (m:k w c.S=O y):cj T (.idx es x i) ea c.Z<|jd c d k y:=by
 rcases t with⟨_,_,B,_,_⟩|⟨b,A,D,g,h,_⟩
 .omega
 .exact cz (aa3 g l f r) (jd.same j (u b h) m)
def bj3 (L:Rel c)(K:ba c e ea){es:Nat}{i:Operand}(h:bj2 c.S es (ev e x) (ev e i) k=O y):cj T (.idx es x i) ea c.Z<|jd c d k y:=by
 have N:=cm K x;have E:=cm K i;unfold bj2 at h;split at h
 .rename_i kd z hz;rw[hz]at E;have E:=E.int_inv;split at h
  .rename_i s l hv;rw[hv]at N;have⟨t,F⟩:=az h;have t:=aB t;have⟨el,H,r⟩:=ai F;have⟨B,u,I⟩:=ac6 H;generalize hxa:ea.ev x=xa at N;cases N with
   |lstn=>simp at u;omega
   |lst hn hy he' J X U A=>
    rename_i b p cp blk;subst t;refine cz (aa3 hxa E B (by rw[J];exact u))<|jd.same L ?_ r;have V:z.toNat*s.w+s.w<=hW l*s.w:=by rw[<-Nat.succ_mul];exact aD _ V1
    have W:=(A.drop<|z.toNat*s.w).take s.w;rw[K5 I,cM,List.drop_drop,List.take_take,Nat.min_eq_left (by rw[J];omega)]at W;exact VRel.pin (o:=0) hn hy (by rw[J]at U;exact cL (Nat.le_of_eq<|Nat.add_assoc _ _ _)<|cL (Nat.add_le_add_left V _) U) W
  .rename_i q hv;rw[hv]at N;cases N with
   |full M _ P=>
    cases C:ag c.S q with
    |dead=>rw[C]at h;cases h
    |arr s z' l=>
     rw[C]at h;have⟨t,F⟩:=az h;have⟨j,H,r⟩:=ai F;obtain⟨B,u,rfl,I⟩:=Hs H;have f:(ag c.S q).dim=O (s.w,hW l*s.w):=by rw[C];rfl
     have⟨n,J,X⟩:=P _ f;have:n=hW l:=cN (nV s) J;subst this;refine Dt L K X E B u (λb D=> .pel M rfl λQ g=>⟨b,D, ?_⟩) r;rw[f]at g;cases g;rw[aB t];simp
    |cells es' z' l=>
     rw[C]at h;have⟨t,F⟩:=az h;rw[cB]at t;have A:=aB t.1;have V:=cD t.2;subst A;have⟨j,H,r⟩:=ai F;obtain⟨B,u,rfl,I⟩:=Hs H;have f:(ag c.S q).dim=O (es,hW l):=by rw[C];rfl
     have⟨n,J,X⟩:=P _ f
     have hn:n=hW l / es:=by
      simp only at J;rw[<-J,cO _ V1]
     cases m:cK es 1 with
     |true=>
      rw[m]at r;have m:=aB m;subst m;refine Dt L K X E B (by rw[hn];exact u) (λb D=> .pix M rfl (by rw[Nat.div_one]at I;exact I) λQ g=>⟨b,D,V2⟩) r
     |false=>
      rw[m]at r;refine Dt L K X E B (by rw[hn];exact u) (λb D=> .ptr M rfl λQ g=>⟨b,D,V2⟩) r
  .rename_i q o n hv;rw[hv]at N;cases N with
   |part M _ P=>
    cases C:ag c.S q with
    |dead=>rw[C]at h;cases h
    |arr s z' l=>
     rw[C]at h;have⟨t,F⟩:=az h;have⟨j,H,r⟩:=ai F;obtain⟨B,u,rfl,I⟩:=Hs H;have f:(ag c.S q).dim=O (s.w,hW l*s.w):=by rw[C];rfl
     refine Dt L K (P _ f) E B u (λb D=> .pel M rfl λQ g=>⟨b,D, ?_⟩) r;rw[f]at g;cases g;rw[aB t,bD];simp
    |cells es' z' l=>
     rw[C]at h;have⟨t,F⟩:=az h;rw[cB]at t;have A:=aB t.1;subst A;have⟨j,H,r⟩:=ai F;obtain⟨B,u,rfl,I⟩:=Hs H;have f:(ag c.S q).dim=O (es,hW l):=by rw[C];rfl
     cases m:cK es 1 with
     |true=>
      rw[m]at r;have m:=aB m;subst m;refine Dt L K (P _ f) E B u (λb D=> .pix M rfl I λQ g=>⟨b,D,V2⟩) r
     |false=>
      rw[m]at r;refine Dt L K (P _ f) E B u (λb D=> .ptr M rfl λQ g=>⟨b,D,by simp[bD]⟩) r
  cases h
 cases h
def aQ3 (t:Rel c)(u:ba c e ea){ln es:Nat}{i:Operand}(h:az7 c.S ln es (ev e x) (ev e i) k=O y):cj T (.idxA ln es x i) ea c.Z<|jd c d k y:=by
 have B:=cm u x;have m:=cm u i;unfold az7 at h;split at h
 .rename_i q o kd z M N;rw[M]at B;rw[N]at m;have m:=m.int_inv;obtain⟨K,h⟩:=az h;have⟨j,E,l⟩:=ai h;obtain⟨F,H,rfl,I⟩:=Hs E;cases B with
  |ptr w _ J=>
    have⟨D,r⟩:=vH K;have⟨b,A,L⟩:=J D r
    have g:(AOp.idxA ln es x i).run ea c.Z=O (.pointer<|O ⟨b,o+z.toNat*es,Y⟩,c.Z):=by
     simp only[AOp.run,L,m];rw[zE ⟨F,H⟩]
    refine cz g ?_;cases f:cK es 1 with
    |true=>
     rw[f]at l;have f:=aB f;subst f;exact jd.same t (.pix w rfl I λC n=>⟨b,A,V2⟩) l
    |false=>
     rw[f]at l;exact jd.same t (.ptr w rfl λC n=>⟨b,A,rfl⟩) l
 cases h
end
end
end Go.V
