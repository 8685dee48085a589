/- A part of the proof. No condition. -/
import Derived.Test.YtlmlogmcgeijcaaGreatDoorA2
set_option linter.all false
namespace Go.V
open Go.Ab
open Option renaming some->O,none->Y
open Bool renaming true->Za,false->Zb
open Decidable renaming decide->Zc
open List renaming length->dt
open Option renaming bind->ek
open Option.some renaming injEq->cc
variable {x z:Operand}{a:Value}{i k lo o p:Nat}{s:Sh}{b blk:Blk}{v:VV}{kd:IntKind}{d:Nat×Nat}{e:co}{S':ai}{ea:cm}{cs:List VV}{Z':Hp}{agg neg:Bool}
section
open List renaming replicate -> bB
open Nat renaming beq -> aB, ble -> aD
inductive Sk where
 |undef
 |leaf (s:Sh)
 |cint (k:IntKind) (n:Int)
 |nilp
 |nils
 |nilf
 |ptr (j o:Nat)
 |full (j:Nat)
 |pin (s:Sh) (o:Nat)
 |fn (f:Nat) (a c:List Sk)
 |agg (l:List Sk)
 |tup (l:List Sk)
inductive OSk where
 |dead
 |cells (es:Nat) (ro:Bool) (l:List Sk)
 |arr (ro:Bool) (s:Sh)
structure Leaf where
 s:Sh
 v:El s
structure Src where
 k:Nat
 cut:Option Nat
structure DSt where
 m:List (Option Src)
 ls:List Leaf
 lent:List Nat
def DSt.push (st:DSt)(s:Sh)(v:El s):DSt:={st with ls:=st.ls++[⟨s,v⟩]}
def DSt.lend (st:DSt):VV->DSt
 | .full k=>{st with lent:=k::st.lent}
 | .part k _ _=>{st with lent:=k::st.lent}
 |_=>st
def DSt.link (N:Nat)(st:DSt)(j:Nat)(x:Option Src):Option DSt:=
 cond (Nat.blt j N) (match x with
  |some ⟨k,Y⟩=>cond (aB k j) (O st) Y
  |_=>Y)
 (match nth st.m (j-N)with
 |some (O ⟨k,Y⟩)=>(match x with
  |some ⟨f,Y⟩=>cond (aB k f) (O st) Y
  |_=>Y)
 |some _=>Y
 |none=>cond (aB (j-N) (dt st.m)) (O {st with m:=st.m++[x]}) Y)
mutual
def IG (S:ai)(N:Nat):Sk->VV->DSt->Option DSt
 | .undef,_,st=>O st
 | .leaf s,v,st=>(match s,v with
  | .int k, .int k' n=>cond (Zc (k'=k)) (O (st.push (.int k) n)) Y
  | .bool, .bool b=>O (st.push .bool b)
  | .str, .str l=>O (st.push .str l)
  | .list s,v=>ek (VP S s v) λl=>O ((st.lend v).push (.list s) l)
  |_,_=>Y)
 | .cint k n, .int k' n',st=>cond (Zc (k'=k)&&Zc (n'=n)) (O st) Y
 | .nilp, .nilp,st=>O st
 | .nils, .nils,st=>O st
 | .nilf, .nilf,st=>O st
 | .ptr j o, .ptr k o',st=>cond (aB o o') (st.link N j (O ⟨k,Y⟩)) Y
 | .full j,v,st=>(match v with
  | .full k=>st.link N j (O ⟨k,Y⟩)
  | .part k 0 n=>st.link N j (O ⟨k,O n⟩)
  | .nils=>st.link N j Y
  |_=>Y)
 | .pin s o, .pin s' x o',st=>cond (aB o o') (ek (nu s' s x) λy=>O (st.push s y)) Y
 | .fn f a c, .fn f' a' c',st=>cond (aB f f') (ek (GP S N a a' st) λst1=>GP S N c c' st1) Y
 | .agg l, .agg l',st=>GP S N l l' st
 | .tup l, .tup l',st=>GP S N l l' st
 |_,_,_=>Y
def GP (S:ai)(N:Nat):List Sk->List VV->DSt->Option DSt
 |[],[],st=>O st
 |k::r,v::r',st=>ek (IG S N k v st) λst1=>GP S N r r' st1
 |_,_,_=>Y
end
def LF {α:Type}:Option Nat->List α->List α
 |none,l=>l
 |some n,l=>l.take n
def TR (S:ai)(N:Nat):OSk->Option Src->DSt->Option DSt
 | .dead,_,f=>O f
 | .cells m g l,O ⟨k,Y⟩,f=>(match ae S k with
  | .cells j n cs=>cond (aB m j&&(g|| !n)) (GP S N l cs (cond g {f with lent:=k::f.lent} f)) Y
  |_=>Y)
 | .arr g s,Y,f=>cond g Y (O (f.push (.list s) []))
 | .arr g s,O ⟨k,h⟩,f=>cond (g|| !(ae S k).frozen) (ek (VP S s (.full k)) λl=>O ((cond g {f with lent:=k::f.lent} f).push (.list s) (LF h l))) Y
 |_,_,_=>Y
def IH (S:ai)(N:Nat):List OSk->List Nat->DSt->Option DSt
 |[],[],f=>O f
 |o::r,j::h,f=>ek (TR S N o (O ⟨j,Y⟩) f) λg=>IH S N r h g
 |_,_,_=>Y
def uC (S:ai)(N:Nat):List OSk->Nat->DSt->Option DSt
 |[],i,f=>cond (aB i (dt f.m)) (O f) Y
 |o::r,i,f=>(match nth f.m i with
  |some x=>ek (TR S N o x f) λg=>uC S N r (i+1) g
  |none=>Y)
def OSk.ro :OSk->Bool
 | .cells _ ro _=>ro
 | .arr ro _=>ro
 | .dead=>Zb
def ld (k:Nat):List Nat->Bool
 |[]=>Zb
 |a::r=>cond (aB a k) Za (ld k r)
def Gt :List Nat->Bool
 |[]=>Za
 |a::r=>cond (ld a r) Zb (Gt r)
def oX :List (Option Src)->List Nat
 |[]=>[]
 |none::r=>oX r
 |some x::r=>x.k::oX r
def kg :List OSk->List (Option Src)->List Nat
 |o::r,O x::s=>cond o.ro (kg r s) (x.k::kg r s)
 |_::r,Y::s=>kg r s
 |_,_=>[]
def C1 (w:List Nat)(l:List Nat):Bool:=w.all λk=> !ld k l
structure rc where
 vals:List Sk
 fix:List OSk
 free:List OSk
def ny (S:ai)(N:Nat)(fx:List Nat)(g:rc)(vals:List VV):Option DSt:=
 ek (GP S N g.vals vals ⟨[],[],[]⟩) λj=>ek (IH S N g.fix fx j) λh=>ek (uC S N g.free 0 h) λf=>
  cond (Gt (fx++oX f.m)&&C1 (fx++kg g.free f.m) f.lent) (O f) Y
mutual
def enc (f:Nat->Nat):Sk->List Leaf->Option (VV×List Leaf)
 | .undef,ls=>O (.undef,ls)
 | .leaf s,x::ls=>ek (nu x.s s x.v) λ(y:El s)=>O ((match s,y with
  | .int k,n=> .int k n
  | .bool,b=> .bool b
  | .str,l=> .str l
  | .list s,l=> .lst s l
  | .pair _ _,_=> .undef),ls)
 | .cint k n,ls=>O (.int k n,ls)
 | .nilp,ls=>O (.nilp,ls)
 | .nils,ls=>O (.nils,ls)
 | .nilf,ls=>O (.nilf,ls)
 | .ptr j o,ls=>O (.ptr (f j) o,ls)
 | .full j,ls=>O (.full (f j),ls)
 | .pin s o,x::ls=>ek (nu x.s s x.v) λ(y:El s)=>O (.pin s y o,ls)
 | .fn g a c,ls=>ek (Nz f a ls) λp=>ek (Nz f c p.2) λq=>O (.fn g p.1 q.1,q.2)
 | .agg l,ls=>ek (Nz f l ls) λp=>O (.agg p.1,p.2)
 | .tup l,ls=>ek (Nz f l ls) λp=>O (.tup p.1,p.2)
 |_,_=>Y
def Nz (f:Nat->Nat):List Sk->List Leaf->Option (List VV×List Leaf)
 |[],ls=>O ([],ls)
 |k::r,ls=>ek (enc f k ls) λp=>ek (Nz f r p.2) λq=>O (p.1::q.1,q.2)
end
def NA (f:Nat->Nat):OSk->List Leaf->Option (Blk×List Leaf)
 | .dead,g=>O (.dead,g)
 | .cells j h l,g=>ek (Nz f l g) λp=>O (.cells j h p.1,p.2)
 | .arr h s,x::g=>ek (nu x.s (.list s) x.v) λl=>O (.arr s h l,g)
 | .arr _ _,[]=>Y
def DB (f:Nat->Nat):List OSk->List Leaf->Option (List Blk×List Leaf)
 |[],g=>O ([],g)
 |o::r,g=>ek (NA f o g) λp=>ek (DB f r p.2) λq=>O (p.1::q.1,q.2)
def mN (f:Nat->Nat)(g:rc)(ls:List Leaf):Option (List VV×List Blk×List Blk):=
 ek (Nz f g.vals ls) λp=>ek (DB f g.fix p.2) λq=>ek (DB f g.free q.2) λr=>match r.2 with
  |[]=>O (p.1,q.1,r.1)
  |_::_=>Y
mutual
def Sk.shs :Sk->List Sh
 | .leaf s=>[s]
 | .pin s _=>[s]
 | .fn _ a c=>UT a++UT c
 | .agg l=>UT l
 | .tup l=>UT l
 |_=>[]
def UT :List Sk->List Sh
 |[]=>[]
 |k::r=>k.shs++UT r
end
def OSk.shs :OSk->List Sh
 | .dead=>[]
 | .cells _ _ l=>UT l
 | .arr _ s=>[.list s]
def aQ6 :List OSk->List Sh
 |[]=>[]
 |o::r=>o.shs++aQ6 r
def rc.shs (f:rc):List Sh:=UT f.vals++(aQ6 f.fix++aQ6 f.free)
@[reducible] def Ad :List Sh->Type
 |[]=>Unit
 |[s]=>El s
 |s::f::r=>El s×Ad (f::r)
def KG :(g:List Sh)->Ad g->List Leaf
 |[],_=>[]
 |[s],x=>[⟨s,x⟩]
 |s::f::r,x=>⟨s,x.1⟩::KG (f::r) x.2
def Q0 :(h:List Sh)->List Leaf->Option (Ad h)
 |[],[]=>O ()
 |[s],[x]=>nu x.s s x.v
 |s::g::r,x::f=>ek (nu x.s s x.v) λa=>ek (Q0 (g::r) f) λb=>O (a,b)
 |_,_=>Y
inductive XK where
 |normal
 |exit (id:Nat)
 |ret
structure Alt where
 x:XK
 ts:List Nat
 sk:rc
@[reducible] def Alt.Ty (a:Alt):Type:=Ad a.sk.shs
@[reducible] def vz :List Alt->Type
 |[]=>Empty
 |[a]=>a.Ty
 |a::b::r=>a.Ty⊕vz (b::r)
def bg {α γ β:Type}(s:α⊕γ)(f:α->Option β)(g:γ->Option β):Option β:=match s with
 | .inl a=>f a
 | .inr b=>g b
def YS {β:Type}:(l:List Alt)->vz l->((a:Alt)->a.Ty->Option β)->Option β
 |[],_,_=>Y
 |[a],t,k=>k a t
 |a::b::r,s,k=>bg s (λt=>k a t) λf=>YS (b::r) f k
def rc.noRo (f:rc):Bool:=f.fix.all (λo=> !o.ro)&&f.free.all λo=> !o.ro
def LI (S:ai)(N:Nat)(fx:List Nat)(f:rc)(vals:List VV):Option (Ad f.shs):=
 gd f.noRo (ek (ny S N fx f vals) λg=>Q0 f.shs g.ls)
def rc.fxRo (f:rc):Bool:=f.fix.all λo=> !o.ro
def Vx (S:ai)(N:Nat)(fx:List Nat)(f:rc)(vals:List VV):Option (Ad f.shs):=
 gd f.fxRo (ek (ny S N fx f vals) λg=>Q0 f.shs g.ls)
def xp (S:ai)(N:Nat)(fx:List Nat)(vals:List Nat->List VV)(f:XK->Bool):(l:List Alt)->Option (vz l)
 |[]=>Y
 |[a]=>cond (f a.x) (LI S N fx a.sk (vals a.ts)) Y
 |a::b::r=>match cond (f a.x) (LI S N fx a.sk (vals a.ts)) Y with
  |some t=>O (.inl t)
  |none=>ek (xp S N fx vals f (b::r)) λs=>O (.inr s)
def Sh.al :Sh->Bool
 | .list _=>Za
 | .pair a b=>a.al||b.al
 |_=>Zb
mutual
def alV :VV->Bool
 | .lst _ _=>Za
 | .tgt _ _=>Za
 | .pin _ _ _=>Za
 | .fn _ a c=>NR a||NR c
 | .agg l=>NR l
 | .tup l=>NR l
 |_=>Zb
def NR :List VV->Bool
 |[]=>Zb
 |v::r=>alV v||NR r
end
def alB :Blk->Bool
 | .dead=>Zb
 | .cells _ _ l=>NR l
 | .arr s _ _=>s.al
def AJ (vs:List VV)(fs bs:List Blk):Bool:=NR vs||fs.any alB||bs.any alB
def Blk.may :Blk->Bool
 | .dead=>Za
 | .cells _ z _=> !z
 | .arr _ z _=> !z
def Kj (S:ai)(fx:List Nat):Bool:=fx.all λj=>Nat.blt j (dt S)&&(ae S j).may
structure FSum where
 f:Nat
 vals:List Sk
 objs:List OSk
 outs:List Alt
 run:Ad (rc.shs ⟨vals,[],objs⟩)->Option (vz outs)
def FSum.ins (F:FSum):rc:=⟨F.vals,[],F.objs⟩
def uH :List OSk->Nat->List Nat
 |[],_=>[]
 |o::r,i=>cond o.ro (uH r (i+1)) (i::uH r (i+1))
def xn (m:List (Option Src))(n f j:Nat):Nat:=cond (Nat.blt j n) (match nth m j with
 |some (O x)=>x.k
 |_=>f) (f+(j-n))
def wW :List Nat->List Blk->ai->Option ai
 |[],[],S=>O S
 |j::g,b::f,S=>wW g f (mx S j b)
 |_,_,_=>Y
def ac5 :Sk->VV->ai->ai
 | .leaf (.list (.list _)),v,S=>aN1 S v
 |_,_,S=>S
def EW :List Sk->List VV->ai->ai
 |k::r,v::f,S=>EW r f (ac5 k v S)
 |_,_,S=>S
def DE :List Nat->ai->ai
 |[],S=>S
 |k::r,S=>DE r (mx S k (ae S k).freeze)
def aE3 {β:Type}(F:FSum)(t:Ad F.ins.shs)(st:DSt)(S:ai)(k:VV->ai->Option β):Option β:=
 ek (F.run t) λo=>YS F.outs o λa u=>match mN (xn st.m (dt F.objs) (dt S)) a.sk (KG a.sk.shs u)with
  |some ([v],g,f)=>(match wW (kg F.objs st.m) g (cond (AJ [v] g f) (DE st.lent S) S)with
   |some S'=>k v (S'++f)
   |none=>Y)
  |_=>Y
def Ov :List (Option Src)->Bool
 |[]=>Za
 |some ⟨_,Y⟩::r=>Ov r
 |_=>Zb
def LC {β:Type}:List FSum->Nat->List VV->ai->(VV->ai->Option β)->Option β
 |[],_,_,_,_=>Y
 |F::r,f,g,S,k=>cond (aB F.f f) (match ny (EW F.vals g S) 0 [] F.ins g with
  |some h=>(match Q0 F.ins.shs h.ls with
   |some t=>gd (Ov h.m&&Kj (EW F.vals g S) (kg F.objs h.m)) (aE3 F t h (EW F.vals g S) k)
   |none=>LC r f g S k)
  |none=>LC r f g S k) (LC r f g S k)
structure Inl where
 f:Nat
 run:(β:Type)->List VV->ai->(VV->ai->Option β)->Option β
structure Tab where
 fs:List FSum
 is:List Inl
def av7 :List Inl->Nat->Bool
 |[],_=>Zb
 |I::r,f=>cond (aB I.f f) Za (av7 r f)
def Vq {β:Type}:List Inl->Nat->List VV->ai->(VV->ai->Option β)->Option β
 |[],_,_,_,_=>Y
 |I::r,f,g,S,k=>cond (aB I.f f) (I.run β g S k) (Vq r f g S k)
def Vr {β:Type}(tab:Tab)(f:Nat)(args:List VV)(S:ai)(k:VV->ai->Option β):Option β:=
 cond (av7 tab.is f) (Vq tab.is f args S k) (LC tab.fs f args S k)
def Iy :Nat->List Nat
 |0=>[]
 |n+1=>n::Iy n
def XT {β:Type}(S:ai)(x:Option VV)(k:VV->ai->Option β):Option β:=match x with
 |some v=>k v S
 |none=>Y
def IL {β:Type}(tab:Tab)(op:AOp)(e:co)(S:ai)(k:VV->ai->Option β):Option β:=match op with
 | .move x=>k (ev e x) S
 | .pick c a b=>(match ev e c with
  | .bool p=>ai1 p (ev e a) (ev e b) S k
  |_=>Y)
 | .alloc g z=>gd (aD 1 g) (k (.ptr (dt S) 0) (S++[EM g z]))
 | .box g x=>gd (aD 1 g&&pF (nv (ev e x))) (k (.ptr (dt S) 0) (S++[.cells g Zb (nv (ev e x))]))
 | .build z r=>(match JE (z.map Ki) (Bv e r)with
  |some cs=>k (.agg cs) S
  |none=>Y)
 | .buildSlice g m z r=>(match JE ((bB m (z.map Ki)).flatten) (Bv e r)with
  |some cs=>gd (pF cs&&aB (m*g) (dt cs)&&aD 1 g) (k (.full (dt S)) (S++[.cells g Zb cs]))
  |none=>Y)
 | .load x=>OC S 1 Zb (ev e x) k
 | .loadN n x=>OC S n Za (ev e x) k
 | .store n a x=>gd (aB (dt (nv (ev e x))) n&&pF (nv (ev e x))) (UZ S (ev e a) (nv (ev e x)) λS'=>k .undef S')
 | .nilCheck x=>(match ev e x with
  | .fn f a c=>k (.fn f a c) S
  |v=>gd (L5 S v) (k v S))
 | .bin op x y=>aK8 op (ev e x) (ev e y) λv=>k v S
 | .eqv kd neg x y=>(match aM6 S kd (ev e x) (ev e y)with
  |some b=>k (.bool (af7 neg b)) S
  |none=>Y)
 | .eqCells neg u x y=>(match ev e x,ev e y with
  | .agg a, .agg b=>(match NC u a b with
   |some p=>k (.bool (af7 neg p)) S
   |none=>Y)
  |_,_=>Y)
 | .un op x=>unK op (ev e x) λv=>k v S
 | .conv kd x=>(match Oh (ev e x)with
  |some n=>k (.int kd (kd.wrap n)) S
  |none=>Y)
 | .mkFunc f a c=>k (.fn f (a.map (ev e)) (c.map (ev e))) S
 | .makeSlice g h z l c=>af5 S g h z (ev e l) (ev e c) k
 | .slice g x lo q=>UV S g (ev e x) (lo.map (ev e)) (q.map (ev e)) k
 | .sliceStr x lo q=>Jc S (ev e x) (lo.map (ev e)) (q.map (ev e)) k
 | .sliceArr g n x lo q=>Jb S g n (ev e x) (lo.map (ev e)) (q.map (ev e)) k
 | .off n x=>XT S (aP1 S n (ev e x)) k
 | .idx g x i=>aN5 S g (ev e x) (ev e i) k
 | .idxA m g x i=>ad0 S m g (ev e x) (ev e i) k
 | .fieldV o n agg x=>(match ev e x with
  | .agg cs=>cond agg (k (.agg (BZ cs o n)) S) (XT S (nth cs o) k)
  |_=>Y)
 | .indexV m g agg x i=>(match ev e x,ev e i with
  | .agg cs, .int _ i=>ek (ix i m) λj=>cond agg (k (.agg (BZ cs (j*g) g)) S) (gd (aB g 1&&aB (dt cs) m) (Rk cs j S k))
  |_,_=>Y)
 | .indexS x i=>(match ev e x,ev e i with
  | .str l, .int _ i=>ek (rd l i) λb=>k (.int .u8 b) S
  |_,_=>Y)
 | .extract x i=>(match ev e x with
  | .tup w=>XT S (nth w i) k
  |_=>Y)
 | .call f t=>Vr tab f (t.map (ev e)) S k
 | .callv x t=>(match ev e x with
  | .fn f a c=>Vr tab f (a++t.map (ev e)++c) S k
  |_=>Y)
 | .append g h s x=>Lh S g h (ev e s) (ev e x) k
 | .stuck=>Y
 | .newB=>k (.bld (dt S)) (S++[.cells 1 Zb [.str []]])
 | .strOf x=>U2 S (ev e x) k
 | .capN x=>(match ev e x with
  | .nils=>k (.int .i64 0) S
  |_=>Y)
 | .appendZ g h z s x=>Li S g h z (ev e s) (ev e x) k
 | .copy g d s=>aa5 S g (ev e d) (ev e s) k
 | .len x=>(match ev e x with
  | .str _=>Y
  |v=>(match lenOf S v with
   |some n=>k (.int .i64 n) S
   |none=>Y))
 | .most x y=>(match ev e x,ev e y with
  | .int kd a, .int _ b=>k (.int kd (max a b)) S
  |_,_=>Y)
 | .least x y=>(match ev e x,ev e y with
  | .int kd a, .int _ b=>k (.int kd (min a b)) S
  |_,_=>Y)
section
variable (tab:Tab)
def ES {β:Type}:List AOper->co->ai->(co->ai->Option β)->Option β
 |[],e,S,k=>k e S
 |o::r,e,S,k=>match o.guard with
  |none=>IL tab o.op e S λv S'=>ES r (putO e o.dst v) S' k
  |some (t,w)=>match lQ e t with
   | .bool p=>cond p
    (cond w (IL tab o.op (qU e t (.bool Za)) S λv S'=>ES r (putO (qU e t (.bool Za)) o.dst v) S' k) (ES r (putO (qU e t (.bool Za)) o.dst (.tup [])) S k))
    (cond w (ES r (putO (qU e t (.bool Zb)) o.dst (.tup [])) S k) (IL tab o.op (qU e t (.bool Zb)) S λv S'=>ES r (putO (qU e t (.bool Zb)) o.dst v) S' k))
   | .tup []=>ES r (putO e o.dst (.tup [])) S k
   |_=>Y
def zt :VV->Option Nat
 | .ptr b _=>O b
 | .it b _=>O b
 | .bld b=>O b
 | .pix b _ _ _=>O b
 | .pel b _ _=>O b
 | .full b=>O b
 | .part b _ _=>O b
 |_=>Y
def YV (S:ai)(v:VV):Option (Option Nat):=match v with
 | .pin _ _ _| .lst _ _| .nils=>O Y
 |v=>(match zt v with
  |some b=>cond (ae S b).live (O (O b)) Y
  |none=>Y)
def W1 (S:ai)(op:AOp)(e:co):Option (Option Nat):=match op with
 | .load x| .loadN _ x| .sliceArr _ _ x _ _| .slice _ x _ _=>YV S (ev e x)
 |_=>Y
def ah8 :Option Nat->List Nat
 |some b=>[b]
 |none=>[]
def vB :List FSum->Nat->List VV->ai->List Nat
 |[],_,_,_=>[]
 |F::r,f,g,S=>cond (aB F.f f) (match ny (EW F.vals g S) 0 [] F.ins g with
  |some h=>(match Q0 F.ins.shs h.ls with
   |some _=>kg F.objs h.m
   |none=>vB r f g S)
  |none=>vB r f g S) (vB r f g S)
def PX (f:Nat)(args:List VV)(S:ai):List Nat:=cond (av7 tab.is f) (Iy (dt S)) (vB tab.fs f args S)
def HF (op:AOp)(e:co)(S:ai):List Nat:=match op with
 | .store _ a _=>ah8 (zt (ev e a))
 | .append _ _ s _=>ah8 (zt (ev e s))
 | .appendZ _ _ _ s _=>ah8 (zt (ev e s))
 | .copy _ d _=>ah8 (zt (ev e d))
 | .call f g=>PX tab f (g.map (ev e)) S
 | .callv x g=>(match ev e x with
  | .fn f a c=>PX tab f (a++g.map (ev e)++c) S
  |_=>[])
 |_=>[]
abbrev Gc :=List (Nat×Option (Option Nat)×(ai->Bool))
def Kp (d:List Nat):Gc->Gc
 |[]=>[]
 |(i,O (O b),f)::r=>(i,cond (ld b d) Y (O (O b)),f)::Kp d r
 |x::r=>x::Kp d r
def qF (f:List Nat):Gc->Bool
 |[]=>Za
 |(i,b,_)::r=>cond (ld i f) (match b with
  |some _=>qF f r
  |none=>Zb) (qF f r)
def B9 (S:ai)(g:List Nat):Gc->Bool
 |[]=>Za
 |(i,b,f)::r=>cond (ld i g) (match b with
  |some _=>B9 S g r
  |none=>cond (f S) (B9 S g r) Zb) (B9 S g r)
def aM5 :VV->VV->Bool
 | .int k n, .int f g=>Zc (k=f)&&Zc (n=g)
 | .bool a, .bool b=>Zc (a=b)
 | .str a, .str b=>Zc (a=b)
 | .nilp, .nilp=>Za
 | .nils, .nils=>Za
 |_,_=>Zb
def Qq (tab:Tab)(op:AOp)(e:co)(v:VV)(S:ai):Bool:=match IL tab op e S λf _=>O (aM5 v f)with
 |some b=>b
 |none=>Zb
def IK {β:Type}(it:SItem)(f:Gc)(e:co)(S:ai)(k:Gc->co->ai->Option β):Option β:=
 cond it.mover (IL tab it.o.op e S λv S'=>gd (B9 S' it.chks (Kp (HF tab it.o.op e S) f)) (k (Kp (HF tab it.o.op e S) f) (putO e it.o.dst v) S'))
  (gd (it.o.op.still&&(!it.keep||it.o.op.isLoad)) (IL tab it.o.op e S λv S'=>k (cond it.keep ((it.idx,W1 S it.o.op e,Qq tab it.o.op e v)::f) f) (putO e it.o.dst v) S'))
def uE {β:Type}:List SItem->Gc->co->ai->(co->ai->Option β)->Option β
 |[],_,e,S,k=>k e S
 |it::r,g,e,S,k=>match it.o.guard with
  |none=>IK tab it g e S λf h S'=>uE r f h S' k
  |some (t,w)=>match lQ e t with
   | .bool p=>cond p
    (cond w (IK tab it g (qU e t (.bool Za)) S λf h S'=>uE r f h S' k) (uE r g (putO (qU e t (.bool Za)) it.o.dst (.tup [])) S k))
    (cond w (uE r g (putO (qU e t (.bool Zb)) it.o.dst (.tup [])) S k) (IK tab it g (qU e t (.bool Zb)) S λf h S'=>uE r f h S' k))
   | .tup []=>uE r g (putO e it.o.dst (.tup [])) S k
   |_=>Y
end
structure LItem where
 i:Nat
 kind:Nat
 chks:List Nat
 need:List Nat
def be (f:List (AOper×List Nat))(i:Nat):AOper:=match f[i]? with
 |some (o,_)=>o
 |none=>⟨Y, .stuck,Y⟩
def Wn :VV->Bool
 | .int _ _| .bool _| .str _=>Za
 |_=>Zb
def Wm :Value->Bool
 | .int _ _| .bool _| .string _=>Za
 |_=>Zb
def zN {β:Type}(op:AOp)(e:co)(k:Blk->Bool->Option β):Option β:=match op with
 | .alloc g z=>gd (aD 1 g) (k (EM g z) Zb)
 | .makeSlice g f z l c=>(match ev e l,ev e c,JM z with
  | .int _ l, .int _ c,O s=>gd (aB g s.w&&Zc (0<=l)&&Zc (l<=c)&&Zc (f*c<=140737488355328)&&aD 1 f) (k (.arr s Zb (bB l.toNat (uM s))) Za)
  |_,_,_=>Y)
 | .buildSlice g h z j=>(match JE ((bB h (z.map Ki)).flatten) (Bv e j)with
  |some cs=>gd (pF cs&&aB (h*g) (dt cs)&&aD 1 g&&cs.all Wn&&z.all Wm) (k (.cells g Zb cs) Za)
  |none=>Y)
 |_=>Y
def vvF (w:Bool)(k:Nat):VV:=cond w (.full k) (.ptr k 0)
def rA (e:co):List Nat->co
 |[]=>e
 |t::f=>qU (rA e f) t .undef
def uI (f:List (AOper×List Nat)):List Nat->List Nat
 |[]=>[]
 |i::r=>(match(be f i).dst with
  |some d=>[d]
  |none=>[])++uI f r
def aE2 (n:Nat):Option (Option Nat)->Bool
 |some (O q)=>aB q n
 |_=>Zb
section
variable (tab:Tab)
def evG {β:Type}(f:List (AOper×List Nat))(n:Nat):List Nat->co->ai->Option β->Option β
 |[],_,_,z=>z
 |i::g,e,S,z=>gd ((be f i).op.still&&(!(be f i).op.isLoad||aE2 n (W1 S (be f i).op e))) (IL tab (be f i).op e S λv S'=>evG f n g (putO e (be f i).dst v) S' z)
def DC {β:Type}(f:List (AOper×List Nat)):List LItem->Gc->co->ai->(co->ai->Option β)->Option β
 |[],_,e,S,k=>k e S
 |it::r,g,e,S,k=>
  cond (aB it.kind 3) (zN (be f it.i).op e λ_ _=>DC f r g e S k)<|
  cond (aB it.kind 2) (zN (be f it.i).op e λblk w=>DC f r g (putO e (be f it.i).dst (vvF w (dt S))) (S++[blk]) k)
  (cond (aB it.kind 1)
   (IL tab (be f it.i).op e S λv S'=>gd (qF it.chks (Kp (HF tab (be f it.i).op e S) g)&&qF it.need (Kp (HF tab (be f it.i).op e S) g)) (DC f r (Kp (HF tab (be f it.i).op e S) g) (putO e (be f it.i).dst v) S' k))
   (cond (aB it.kind 5) (zN (be f it.i).op (rA e (uI f it.chks)) λblk w=>evG tab f (dt S) it.chks (putO (rA e (uI f it.chks)) (be f it.i).dst (vvF w (dt S))) (S++[blk]) (DC f r g (rA e (uI f it.chks)) S k))<|
   gd (be f it.i).op.still (IL tab (be f it.i).op e S λv S'=>gd (qF it.need (cond (be f it.i).op.isLoad ((it.i,W1 S (be f it.i).op e,λ_=>Zb)::g) g)) (DC f r (cond (be f it.i).op.isLoad ((it.i,W1 S (be f it.i).op e,λ_=>Zb)::g) g) (putO e (be f it.i).dst v) S' k))))
end
def Sr :Operand->List Nat
 | .tmp t=>[t]
 |_=>[]
def uL :AOp->List Nat
 | .makeSlice _ _ _ l c=>Sr l++Sr c
 | .buildSlice _ _ _ f=>f.flatMap λp=>Sr p.2.2
 |_=>[]
def L4 :AOp->Bool
 | .alloc f _=>aD 1 f
 |_=>Zb
def qA :AOp->Bool
 | .alloc _ _| .makeSlice _ _ _ _ _=>Za
 | .buildSlice _ _ z _=>z.all Wm
 |_=>Zb
def te (d:Option Nat)(l:List Nat):Bool:=match d with
 |some t=> !ld t l
 |none=>Za
def VY (d f:Option Nat):Bool:=match d,f with
 |some t,O g=> !Nat.beq t g
 |_,_=>Za
def BW (i:Nat):List Nat->List Nat
 |[]=>[]
 |a::r=>cond (aB a i) r (a::BW i r)
def Dl :List LItem->List Nat->Nat->Option (List Nat×LItem×List LItem)
 |[],_,_=>Y
 |it::r,P,i=>cond (aB it.kind 3) (Dl r P i)<|cond (aB it.kind 2) (cond (ld it.i P) (Dl r (BW it.i P) i) Y) (cond (aB it.i i) (O (P,it,r)) Y)
def Ua :List LItem->List Nat->Bool
 |[],P=>P.isEmpty
 |it::r,P=>cond (aB it.kind 3) (Ua r P) (aB it.kind 2&&ld it.i P&&Ua r (BW it.i P))
def aN9 :AOp->Bool
 | .move _=>Za
 |_=>Zb
def L0 (f:List (AOper×List Nat)):List LItem->Nat->Bool
 |[],_=>Zb
 |it::r,m=>cond (aB it.kind 3) (aB it.i m||L0 f r m)<|(aB it.kind 2&&(aB it.i m||(te (be f it.i).dst (uL (be f m).op)&&L0 f r m)))||(aB it.kind 0&&aN9 (be f it.i).op&&te (be f it.i).dst (uL (be f m).op)&&L0 f r m)
def uK (g:List (AOper×List Nat))(f:Nat)(j:Bool)(P:List Nat)(r:List LItem):Bool:=
 P.all (λq=>VY (be g f).dst (be g q).dst&&te (be g f).dst (uL (be g q).op))&&
 r.all λh=> !Nat.beq h.kind 2||(j&&aB h.i f)||VY (be g f).dst (be g h.i).dst
def aE6 :List LItem->Bool
 |it::_=>aB it.kind 5
 |[]=>Zb
def au1 :Option Nat->Nat->Bool
 |some a,b=>aB a b
 |none,_=>Zb
def Xd (h:List (AOper×List Nat)):List Nat->Nat->List Nat->Option (Nat×List Nat)
 |[],f,D=>O (f,D)
 |i::g,f+1,D=>cond (au1 (eb h D) i&&(be h i).guard.isNone) (Xd h g f (i::D)) Y
 |_::_,0,_=>Y
def Xe (g:List (AOper×List Nat)):List LItem->Nat->List Nat->Bool
 |[],0,_=>Za
 |[],_+1,D=>(eb g D).isNone&&(bv g D).isEmpty
 |it::r,f+1,D=>aB it.kind 0&&au1 (eb g D) it.i&&(be g it.i).guard.isNone&&Xe g r f (it.i::D)
 |_::_,0,_=>Zb
def RW :List Nat->List LItem->Option (List LItem)
 |[],r=>O r
 |i::g,f::r=>cond (aB f.kind 0&&aB f.i i) (RW g r) Y
 |_::_,[]=>Y
def okG (f:List (AOper×List Nat))(m c:Nat):List Nat->List Nat->Bool
 |_,[]=>Za
 |pre,i::g=>(be f i).dst.isSome&&te (be f i).dst (uL (be f m).op)&&VY (be f i).dst (be f m).dst&&te (be f c).dst (be f i).op.reads&&VY (be f c).dst (be f i).dst&&(i::pre).all (λj=>te (be f i).dst (be f j).op.reads)&&pre.all (λj=>VY (be f i).dst (be f j).dst)&&okG f m c (i::pre) g
def aa2 (g:List (AOper×List Nat))(f:Nat)(D P ls m:List Nat):List LItem->Bool
 |it::h::j::r=>P.isEmpty&&aB h.kind 1&&aB j.kind 2&&aB j.i it.i&&qA (be g it.i).op&& !qA (be g h.i).op&&(be g it.i).guard.isNone&&(be g h.i).guard.isNone&&te (be g it.i).dst (uL (be g it.i).op)&&
  !(bv g D).isEmpty&&(bv g D).all (λx=>aB x it.i||aB x h.i)&&ls.all (λi=>uA g i it.i||ld i m)&&ls.all (λi=>uA g i h.i||ld i h.chks)&&uK g h.i Zb [it.i] (j::r)&&okG g it.i h.i [] it.chks&&
  (match Xd g it.chks f (it.i::D),RW it.chks r with
  |some (l+1,D1),O n=>(eb g D1).isNone&&(match bv g D1 with
   |[x]=>aB x h.i
   |_=>Zb)&&Xe g n l (h.i::D1)
  |_,_=>Zb)
 |_=>Zb
def aW3 (h:List (AOper×List Nat))(g:List Nat->List Nat->List LItem->Bool)(D:List Nat):List LItem->Bool
 |_::f::r=>g (f.i::D) f.need r
 |_=>Zb
def Nx (g:List (AOper×List Nat)):Nat->List Nat->List Nat->List Nat->List Nat->List LItem->Bool
 |0,_,P,_,_,r=>Ua r P
 |f+1,D,P,j,n,r=>match eb g D with
  |some i=>(be g i).guard.isNone&&(match Dl r P i with
   |some (P',h,l)=>aB h.kind 0&&uK g i Zb P' l&&Nx g f (i::D) P' (cond (be g i).op.isLoad (i::j) j) h.need l
   |none=>Zb)
  |none=>cond (aE6 r) (aa2 g f D P j n r&&aW3 g (λD' q l=>Nx g f D' [] j q l) D r)<|match bv g D with
   |[]=>Ua r P
   |ms=>ms.all λm=>(be g m).guard.isNone&&cond (qA (be g m).op)
    (!ld m P&&r.any (λh=>aB h.kind 2&&aB h.i m)&&(L4 (be g m).op||L0 g r m)&&uK g m Za P r&&te (be g m).dst (uL (be g m).op)&&j.all (λi=>uA g i m||ld i n)&&Nx g f (m::D) (m::P) j n r)
    (match Dl r P m with
    |some (P',h,l)=>aB h.kind 1&&uK g m Zb P' l&&j.all (λi=>uA g i m||ld i h.chks)&&Nx g f (m::D) P' j h.need l
    |none=>Zb)
def YO (i:Nat):List Nat->List Nat
 |[]=>[]
 |a::r=>cond (aB a i) r (YO i r)
def AL (f:List (AOper×List Nat))(g:List Nat):List Nat->List Nat->List LItem
 |[],_=>[]
 |i::r,h=>
  cond (aD 2000 i) (⟨i % 1000,5,(YO (i % 1000) r).take (i / 10000),[]⟩::AL f g r h)<|
  cond (aD 1000 i) (⟨i-1000,3,[],[]⟩::AL f g r h)<|
  let o:=(be f i).op
  let l:=cond o.isLoad (i::h) h
  let n:=r.filter λm=>qA (be f m).op
  ⟨i,cond (qA o) 2 (cond o.still 0 1),h.filter λj=> !uA f j i,l.filter λj=>n.any λm=> !uA f j m⟩::AL f g r l
def Gu (f:List (AOper×List Nat)):List LItem->Bool
 |[]=>Za
 |it::r=>r.all (λj=> !Nat.beq it.kind 2|| !Nat.beq j.kind 2||VY (be f it.i).dst (be f j.i).dst)&&Gu f r
def FH (f:List (AOper×List Nat)):List LItem->List Nat
 |[]=>[]
 |it::r=>cond (aB it.kind 2) ((match(be f it.i).dst with
  |some d=>[d]
  |none=>[])++FH f r) (FH f r)
inductive AT where
 |no
 |n (l r:AT)
 |lp (fx:List Nat) (head:Alt) (exits:List Alt) (b:AT)
 |jn (fx mov:List Nat) (exits:List Alt) (l r:AT)
 |sz (n:Nat) (l r:AT)
 |dr (L:List Nat)
 |all
def AT.sub :AT->AT
 | .all=> .all
 |_=> .no
def Vk (g:List (AOper×List Nat)):Nat->List Nat->List Nat
 |0,_=>[]
 |f+1,D=>match eb g D with
  |some i=>i::Vk g f (i::D)
  |none=>match(bv g D).filter (λm=> !qA (be g m).op),bv g D with
   |m::_,h=>(h.filter λx=>qA (be g x).op&& !L4 (be g x).op).map (1000+ ·)++m::Vk g f (m::D)
   |[],m::_=>m::Vk g f (m::D)
   |[],[]=>[]
def drL (f:List (AOper×List Nat)):AT->Option (List Nat)
 | .dr L=>O L
 | .all=>O (Vk f (dt f) [])
 |_=>Y
def ax4 :List VV->Nat
 |[]=>0
 | .nilp::r=>ax4 r+1
 | .fn f _ _::r=>ax4 r+10*f
 |_::r=>ax4 r
def aO1 :Nat->ai->Nat
 |_,[]=>0
 |k, .cells _ _ l::r=>k*ax4 l+aO1 (k+1) r
 |k,_::r=>aO1 (k+1) r
def ad9 (S:ai):Nat:=dt S+1000*aO1 1 S
def AT.at (n:Nat):AT->AT
 | .sz m l r=>cond (aB m n) l (r.at n)
 |t=>t
def SA (e:co):List Nat->List VV->co
 |t::f,v::g=>qU (SA e f g) t v
 |_,_=>e
def PY :Option Nat->List Nat
 |some d=>[d]
 |none=>[]
def kY :AC->List Nat
 | .region f=>f.flatMap λo=>PY o.dst
 | .draw f=>f.flatMap λo=>PY o.1.dst
 | .sched g=>g.flatMap λi=>PY i.o.dst
 | .seq a b| .cond _ a b=>kY a++kY b
 | .block _ b| .loop b=>kY b
 |_=>[]
def XK.is :XK->AExit->Bool
 | .normal, .normal=>Za
 | .exit i, .exit j=>aB i j
 | .ret, .ret=>Za
 |_,_=>Zb
def XK.out :XK->AExit
 | .normal=> .normal
 | .exit i=> .exit i
 | .ret=> .ret
def jT (fx mov:List Nat)(fz:Bool):Nat->ai->ai
 |_,[]=>[]
 |i,b::r=>cond (ld i mov) (cond b.frozen b .dead) (cond (ld i fx) b (cond fz b.freeze b))::jT fx mov fz (i+1) r
def E1 :AC->Bool
 | .seq a b| .cond _ a b=>E1 a&&E1 b
 | .block _ b| .loop b=>E1 b
 |_=>Za
def am {α γ:Type}(f:α->Option (α⊕γ))(n:Nat):α->Option γ:=
 Nat.rec (λ_=>Y) (λ_ g a=>ek (f a) λs=>bg s g O) n
def cv :Nat:=18446744073709551616
def E8 (e0:co)(S:ai)(fx mov g:List Nat)(fz:Bool)(ts:List Nat)(h:rc)(t:Ad h.shs):Option (co×ai):=
 match mN id h (KG h.shs t)with
 |some (f,l,j)=>(match wW fx l (jT fx mov (fz||AJ f l j) 0 S)with
  |some S'=>O (SA (rA e0 g) ts f,S'++j)
  |none=>Y)
 |none=>Y
def av4 {β:Type}(e0:co)(S:ai)(fx mov g:List Nat)(f:List Alt)(s:vz f)(k:AExit->co->ai->Option β):Option β:=
 YS f s λa t=>match E8 e0 S fx mov g Zb a.ts a.sk t with
  |some (e,S')=>k a.x.out e S'
  |none=>Y
def Me (F:AT->(β:Type)->co->ai->(AExit->co->ai->Option β)->Option β):AT->(β:Type)->co->ai->(AExit->co->ai->Option β)->Option β
 | .n l r,β,e,S,k=>F l β e S λx f S'=>match x with
  | .normal=>Me F r β f S' k
  |x=>k x f S'
 | .sz m l r,β,e,S,k=>cond (aB m (dt S)) (Me F l β e S k) (Me F r β e S k)
 |_,_,_,_,_=>Y
def af2 (F:(β:Type)->co->ai->(AExit->co->ai->Option β)->Option β)(n:Nat):(β:Type)->co->ai->(AExit->co->ai->Option β)->Option β:=
 Nat.rec (λ_ _ _ _=>Y) (λ_ g β e S k=>F β e S λx f S'=>match x with
  | .normal=>g β f S' k
  |x=>k x f S') n
def AT.rounds :AT->Nat
 | .n _ r=>r.rounds+1
 | .sz _ l r=>l.rounds+r.rounds
 |_=>0
def eval (tab:Tab):AC->AT->(β:Type)->co->ai->(AExit->co->ai->Option β)->Option β
 | .skip,_,_,e,S,k=>k .normal e S
 | .exit i,_,_,e,S,k=>k (.exit i) e S
 | .ret,_,_,e,S,k=>k .ret e S
 | .region g,_,_,e,S,k=>ES tab g e S λh S'=>k .normal h S'
 | .sched A,_,_,e,S,k=>uE tab A [] e S λh S'=>k .normal h S'
 | .draw g,j,_,e,S,k=>(match drL g (j.at (ad9 S))with
  |some L=>gd (Nx g (dt g) [] [] [] [] (AL g L L [])&&Gu g (AL g L L [])) (DC tab g (AL g L L []) [] (rA e (FH g (AL g L L []))) S λh S'=>k .normal h S')
  |none=>Y)
 | .seq a b,j,β,e,S,k=>
  (match j.at (ad9 S)with
  | .jn q w f l r=>gd (Kj S q&&E1 a) (ek (eval tab a l (vz f) e (jT (q++w) [] Za 0 S) λx h S'=>xp S' (dt S) q (λts=>ts.map (lQ h)) (λy=>y.is x) f) λs=>
    av4 e S q w (kY a) f s λx h S'=>match x with
     | .normal=>eval tab b r β h S' k
     |x=>k x h S')
  | .n l r=>eval tab a l β e S λx h S'=>match x with
   | .normal=>eval tab b r β h S' k
   |x=>k x h S'
  |u=>eval tab a u.sub β e S λx h S'=>match x with
   | .normal=>eval tab b u.sub β h S' k
   |x=>k x h S')
 | .cond c a b,j,β,e,S,k=>
  (match ev e c with
  | .bool p=>(match c,j.at (ad9 S)with
   | .tmp t, .n l r=>cond p (eval tab a l β (qU e t (.bool Za)) S k) (eval tab b r β (qU e t (.bool Zb)) S k)
   | .tmp t,u=>cond p (eval tab a u.sub β (qU e t (.bool Za)) S k) (eval tab b u.sub β (qU e t (.bool Zb)) S k)
   |_, .n l r=>cond p (eval tab a l β e S k) (eval tab b r β e S k)
   |_,u=>cond p (eval tab a u.sub β e S k) (eval tab b u.sub β e S k))
  |_=>Y)
 | .block id b,j,β,e,S,k=>
  eval tab b (match j.at (ad9 S)with
   | .n l _=>l
   |u=>u.sub) β e S λx h S'=>match x with
   | .exit i=>cond (aB i id) (k .normal h S') (k (.exit i) h S')
   |x=>k x h S'
 | .loop b,j,_,e,S,k=>
  (match j.at (ad9 S)with
  | .lp q head f l=>gd (head.sk.fxRo&&Kj S q&&E1 b) (match ny S (dt S) q head.sk (head.ts.map (lQ e))with
   |some B=>ek (Q0 head.sk.shs B.ls) λD=>
    (am (λt=>match E8 e S q (oX B.m) (kY b) Za head.ts head.sk t with
     |some (C,S1)=>eval tab b l (Ad head.sk.shs⊕vz f) C S1 λx h S'=>(match x with
      | .normal=>ek (Vx S' (dt S) q head.sk (head.ts.map (lQ h))) λt=>O (.inl t)
      |x=>ek (xp S' (dt S) q (λts=>ts.map (lQ h)) (λy=>y.is x) f) λs=>O (.inr s))
     |none=>Y) cv D).bind λs=>av4 e S q (oX B.m) (kY b) f s k
   |none=>Y)
  | .all=>af2 (eval tab b .all) 1000000 _ e S k
  |_=>Me (eval tab b) j _ e S k)
def az6 (e:co)(S:ai):ARes->Option VV
 | .tmp t=>O (lQ e t)
 | .cell t=>(match lQ e t with
  | .ptr b o=>(match ae S b with
   | .cells _ _ l=>nth l o
   |_=>Y)
  |_=>Y)
 | .cellN t n=>(match lQ e t with
  | .ptr b o=>(match ae S b with
   | .cells _ _ l=>cond (aD (o+n) (dt l)) (O (.agg ((l.drop o).take n))) Y
   |_=>Y)
  |_=>Y)
def H7 (e:co)(S:ai):List ARes->Option (List VV)
 |[]=>O []
 |r::f=>ek (az6 e S r) λv=>ek (H7 e S f) λg=>O (v::g)
def Td :List VV->VV
 |[v]=>v
 |vs=> .tup vs
def bj (P:Program)(f:FuncId)(tab:Tab)(at':AT):(β:Type)->List VV->ai->(VV->ai->Option β)->Option β:=λβ g S k=>
 match Yr P f with
 |some a=>gd (aD (dt g) a.ntmps) (eval tab a.body at' β g S λx e S'=>match x with
  | .exit _=>Y
  |_=>(match H7 e S' a.results with
   |some h=>k (Td h) S'
   |none=>Y))
 |none=>Y
def IM (P:Program)(f:FuncId)(tab:Tab)(vals:List Sk)(g:List OSk)(h:List Alt)(at':AT)(t:Ad (rc.shs ⟨vals,[],g⟩)):Option (vz h):=
 match Yr P f,mN id ⟨vals,[],g⟩ (KG _ t)with
 |some a,O (j,_,S)=>gd (aD (dt j) a.ntmps) (eval tab a.body at' (vz h) j S λx e S'=>match x with
  | .exit _=>Y
  |_=>(match H7 e S' a.results with
   |some l=>xp S' (dt S) (uH g 0) (λ_=>[Td l]) (λ_=>Za) h
   |none=>Y))
 |_,_=>Y
end
section
open Nat renaming lt_of_lt_of_le -> aB
structure Ctx where
 μ:Nat->Option Nat
 S:ai
 Z:Hp
 fb:Nat->Prop
def Blk.dim :Blk->Option (Nat×Nat)
 | .dead=>Y
 | .cells f _ l=>O (f,dt l)
 | .arr s _ l=>O (s.w,dt l*s.w)
def Blk.vals :Blk->List VV
 | .dead=>[]
 | .cells _ _ l=>l
 | .arr s _ l=>fO s l
def Ctx.own (c:Ctx)(b:Nat):Prop:= ∃k,(ae c.S k).frozen=Zb/\c.μ k=O b
def Ctx.mut (c:Ctx)(b:Nat):Prop:=c.own b∨c.fb b
def G9 (c:Ctx)(k lo n:Nat)(d:Nat×Nat)(a:Value):Prop:=
 (a= .slice Y 0 0/\lo=0/\n=0/\c.μ k=Y/\d.2=0)∨
 ∃b f y,a= .slice (O ⟨b,lo*d.1,Y⟩) n f/\c.μ k=O b/\(lo+n)*d.1<=d.2/\n<=f/\c.Z.m b=O y/\(lo+f)*d.1<=dt y.cells
inductive VRel (c:Ctx):VV->Value->Prop where
 |undef (a:Value):VRel c .undef a
 |bool (b:Bool):VRel c (.bool b) (.bool b)
 |int (k:IntKind) (n:Int):VRel c (.int k n) (.int k n)
 |str {l:Zd} {s:ByteArray}:eg s=l->VRel c (.str l) (.string s)
 |nilp:VRel c .nilp (.pointer Y)
 |nils:VRel c .nils (.slice Y 0 0)
 |nilf:VRel c .nilf .nilFunc
 |ptr {k o:Nat} {a:Value}:k<dt c.S->one a=Za->(∀d,(ae c.S k).dim=O d->∃b,c.μ k=O b/\a= .pointer (O ⟨b,o,Y⟩))->VRel c (.ptr k o) a
 |it {k:Nat} {l:Zd} {s:ByteArray} {a:Value}:k<dt c.S->one a=Za->eg s=l->(∀d,(ae c.S k).dim=O d->∃b,c.μ k=O b/\a= .iface b (.string s))->VRel c (.it k l) a
 |bld {k:Nat} {a:Value}:k<dt c.S->one a=Za->(∀d,(ae c.S k).dim=O d->∃b,c.μ k=O b/\a= .iface b .nilFunc)->VRel c (.bld k) a
 |pix {k o n i:Nat} {a:Value}:k<dt c.S->one a=Za->i<n->(∀d,(ae c.S k).dim=O d->∃b,c.μ k=O b/\a= .pointer (O ⟨b,o+i,Y⟩))->VRel c (.pix k o n i) a
 |pel {k i o:Nat} {a:Value}:k<dt c.S->one a=Za->(∀d,(ae c.S k).dim=O d->∃b,c.μ k=O b/\a= .pointer (O ⟨b,i*d.1+o,Y⟩))->VRel c (.pel k i o) a
 |pin {s:Sh} {x:El s} {o b p:Nat} {y:Ab.Blk}: ¬c.mut b->c.Z.m b=O y->p+s.w<=dt y.cells->F2 (VRel c) (dy s x) ((y.cells.drop p).take s.w)->VRel c (.pin s x o) (.pointer (O ⟨b,p+o,Y⟩))
 |lstn {s:Sh} {q:Option Addr}:(∀z,q=O z->z.spot=Y)->VRel c (.lst s []) (.slice q 0 0)
 |lst {s:Sh} {l:List (El s)} {b p n cp:Nat} {y:Ab.Blk}: ¬c.mut b->c.Z.m b=O y->y.es=s.w->n=dt l->n<=cp->p+n*s.w<=dt y.cells->
   F2 (VRel c) (fO s l) ((y.cells.drop p).take (n*s.w))->VRel c (.lst s l) (.slice (O ⟨b,p,Y⟩) n cp)
 |tgtn {s:Sh} {a:Value}:(a= .slice Y 0 0∨∃b o,a= .slice (O ⟨b,o,O 0⟩) 0 0)->VRel c (.tgt s []) a
 |tgt {s:Sh} {l:List (El s)} {b p:Nat} {y:Ab.Blk}: ¬c.mut b->c.Z.m b=O y->y.es=s.w->p+dt l*s.w<=dt y.cells->
   F2 (VRel c) (fO s l) ((y.cells.drop p).take (dt l*s.w))->VRel c (.tgt s l) (.slice (O ⟨b,p,O 0⟩) (dt l) (dt l))
 |full {k:Nat} {a:Value}:k<dt c.S->one a=Za->(∀d,(ae c.S k).dim=O d->∃n,n*d.1=d.2/\G9 c k 0 n d a)->VRel c (.full k) a
 |part {k lo n:Nat} {a:Value}:k<dt c.S->one a=Za->(∀d,(ae c.S k).dim=O d->G9 c k lo n d a)->VRel c (.part k lo n) a
 |fn {f:Nat} {a b:List VV} {a' b':Array Value}:F2 (VRel c) a a'.toList->F2 (VRel c) b b'.toList->VRel c (.fn f a b) (.func (.func f) a' b')
 |agg {l:List VV} {l':Array Value}:F2 (VRel c) l l'.toList->VRel c (.agg l) (.agg l')
 |tup {l:List VV} {l':Array Value}:F2 (VRel c) l l'.toList->VRel c (.tup l) (.tuple l')
def KK (c:Ctx)(k:Nat):Prop:= ∀d,(ae c.S k).dim=O d->1<=d.1/\
 ((d.2=0/\c.μ k=Y)∨∃b y cs f,c.μ k=O b/\c.Z.m b=O y/\y.es=d.1/\((ae c.S k).frozen=Zb->y.own=Za)/\y.cells=cs++f/\F2 (VRel c) (ae c.S k).vals cs)
structure Rel (c:Ctx):Prop where
 ok:c.Z.Ok
 inj: ∀k k' b,(ae c.S k).frozen=Zb->(ae c.S k').dim≠Y->c.μ k=O b->c.μ k'=O b->k=k'
 blk: ∀k,KK c k
 fbk: ∀k b,(ae c.S k).dim≠Y->c.μ k=O b->¬c.fb b
 fbl: ∀b,c.fb b->b<c.Z.n
structure Le (c c':Ctx):Prop where
 len:dt c.S<=dt c'.S
 al: ∀k d,k<dt c.S->(ae c'.S k).dim=O d->(ae c.S k).dim=O d/\c'.μ k=c.μ k
 fz: ∀k,(ae c.S k).frozen=Za->(ae c.S k).dim≠Y->ae c'.S k=ae c.S k
 ln: ∀k d b y,k<dt c.S->(ae c'.S k).dim=O d->c.μ k=O b->c.Z.m b=O y->∃y',c'.Z.m b=O y'/\(dt y'.cells)=dt y.cells
 un: ∀b y,c.Z.m b=O y->¬c.own b->c'.Z.m b=O y
 ow: ∀b y,c.Z.m b=O y->¬c.own b->¬c'.own b
 n:c.Z.n<=c'.Z.n
 fb:c'.fb=c.fb
def Le.rd {c f:Ctx}(h:Le c f)(b:Nat)(y:Ab.Blk)(l:c.Z.m b=O y)(j: ¬c.mut b):f.Z.m b=O y/\¬f.mut b:=by
 have g: ¬c.own b:=λe=>j (.inl e)
 refine⟨h.un b y l g,λe=> ?_⟩;rcases e with e|e
 .exact h.ow b y l g e
 .rw[h.fb]at e;exact j (.inr e)
def uO (d:List Nat)(c f:Ctx):Prop:= ∀k,k<dt c.S->k∉d->(ae c.S k).dim≠Y->(ae f.S k).dim≠Y/\∀b,c.μ k=O b->f.Z.m b=c.Z.m b
def mw {S:ai}(h:(ae S k).dim≠Y):k<dt S:=by
 induction S generalizing k with
 |nil=>exact(h rfl).elim
 |cons b r f=>
  cases k with
  |zero=>exact Nat.zero_lt_succ _
  |succ k=>exact Nat.succ_lt_succ (f h)
def wS {S:ai}(h:dt S<=k):ae S k= .dead:=by
 induction S generalizing k with
 |nil=>rfl
 |cons b r f=>
  cases k with
  |zero=>simp at h
  |succ k=>exact f V9
def Fc {S:ai}:dt (mx S k b)=dt S:=by
 induction S generalizing k with
 |nil=>rfl
 |cons a r f=>cases k<;>simp[mx,f]
def yG {S:ai}:ae (mx S k b) i=if i=k/\k<dt S then b else ae S i:=by
 induction S generalizing k i with
 |nil=>simp[mx]
 |cons a r f=>
  cases k with
  |zero=>cases i<;>simp[mx,ae]
  |succ k=>
   cases i with
   |zero=>simp[mx,ae]
   |succ i=>simp[mx,ae,f]
def aA6 {S:ai}(h:k<dt S):ae (mx S k b) k=b:=by rw[yG,zE ⟨rfl,h⟩]
def aA7 {S:ai}(h:i≠k):ae (mx S k b) i=ae S i:=by rw[yG,zF (λe=>h e.1)]
def nD {S:ai}{l:List Blk}(h:k<dt S):ae (S++l) k=ae S k:=by
 induction S generalizing k with
 |nil=>simp at h
 |cons a r f=>
  cases k with
  |zero=>rfl
  |succ k=>exact f V9
def th {S:ai}{l:List Blk}{k:Nat}:ae (S++l) (dt S+k)=ae l k:=by
 induction S with
 |nil=>simp
 |cons a r f=>
  have:dt (a::r)+k=(dt r+k)+1:=by simp;omega
  rw[this];exact f
def SY {S:ai}:ae (S++[b]) (dt S)=b:=by
 exact @th S [b] 0
def mH (h:b.frozen=Zb):b.dim≠Y:=by cases b<;>simp[Blk.frozen,Blk.dim]at*
def fS :b.freeze.dim=b.dim:=by cases b<;>rfl
def JP :b.freeze.vals=b.vals:=by cases b<;>rfl
def kH :b.freeze.frozen=Za:=by cases b<;>rfl
def B1 (h:b.frozen=Za):b.freeze=b:=by cases b<;>simp[Blk.frozen,Blk.freeze]at* <;>simp[h]
def Le.refl (c:Ctx):Le c c:=⟨Nat.le_refl _,λ_ _ _ h=>⟨h,rfl⟩,λ_ _ _=>rfl,λ_ _ _ y _ _ _ f=>⟨y,f,rfl⟩,λ_ _ h _=>h,λ_ _ _ h=>h,Nat.le_refl _,rfl⟩
def Le.trans {a b c:Ctx}(h:Le a b)(k:Le b c):Le a c:=by
 refine⟨Nat.le_trans h.len k.len,λi d j g=> ?_,λi u g=> ?_,λi d x y j g w l=> ?_,λx y l m=>k.un x y (h.un x y l m) (h.ow x y l m),λx y l m=>k.ow x y (h.un x y l m) (h.ow x y l m),Nat.le_trans h.n k.n,k.fb.trans h.fb⟩
 .obtain⟨f,t⟩:=k.al i d (aB j h.len) g;have⟨q,r⟩:=h.al i d j f;exact⟨q,t.trans r⟩
 .have f:=h.fz i u g;rw[k.fz i (by rw[f];exact u) (by rw[f];exact g),f]
 .obtain⟨f,t⟩:=k.al i d (aB j h.len) g;have⟨D,q,r⟩:=h.ln i d x y j f w l;have⟨_,B⟩:=h.al i d j f;have⟨E,A,C⟩:=k.ln i d x D (aB j h.len) g (B.trans w) q;exact⟨E,A,C.trans r⟩
def uO.refl (d:List Nat)(c:Ctx):uO d c c:=λ_ _ _ h=>⟨h,λ_ _=>rfl⟩
def G9.frame {c g:Ctx}(h:Le c g){n:Nat}(q:k<dt c.S)(m:(ae g.S k).dim=O d)(B:G9 c k lo n d a):G9 g k lo n d a:=by
 have⟨E,l⟩:=h.al k d q m;rcases B with⟨rfl,rfl,rfl,f,D⟩|⟨b,r,y,rfl,f,t,u,C,w⟩
 .exact .inl ⟨rfl,rfl,rfl,l.trans f,D⟩
 .obtain⟨y',j,A⟩:=h.ln k d b y q m f C;exact .inr ⟨b,r,y',rfl,l.trans f,t,u,j,by rw[A];exact w⟩
def VRel.frame {c C:Ctx}(h:Le c C): ∀{v:VV} {a:Value},VRel c v a->VRel C v a
 |_,_, .undef a=> .undef a
 |_,_, .bool b=> .bool b
 |_,_, .int k n=> .int k n
 |_,_, .str F=> .str F
 |_,_, .nilp=> .nilp
 |_,_, .nils=> .nils
 |_,_, .nilf=> .nilf
 |_,_, .ptr j f t=> .ptr (aB j h.len) f λd g=>by
  have⟨f,q⟩:=h.al _ d j g;have⟨b,r,u⟩:=t d f;exact⟨b,q.trans r,u⟩
 |_,_, .it j f F t=> .it (aB j h.len) f F λd g=>by
  have⟨f,q⟩:=h.al _ d j g;have⟨b,r,u⟩:=t d f;exact⟨b,q.trans r,u⟩
 |_,_, .bld j f t=> .bld (aB j h.len) f λd g=>by
  have⟨f,q⟩:=h.al _ d j g;have⟨b,r,u⟩:=t d f;exact⟨b,q.trans r,u⟩
 |_,_, .pix j f H t=> .pix (aB j h.len) f H λd g=>by
  have⟨f,q⟩:=h.al _ d j g;have⟨b,r,u⟩:=t d f;exact⟨b,q.trans r,u⟩
 |_,_, .pel j f t=> .pel (aB j h.len) f λd g=>by
  have⟨f,q⟩:=h.al _ d j g;have⟨b,r,u⟩:=t d f;exact⟨b,q.trans r,u⟩
 |_,_, .pin w A I B=> .pin (h.rd _ _ A w).2 (h.rd _ _ A w).1 I (go B)
 |_,_, .lstn E=> .lstn E
 |_,_, .lst w A D f q r B=> .lst (h.rd _ _ A w).2 (h.rd _ _ A w).1 D f q r (go B)
 |_,_, .tgtn E=> .tgtn E
 |_,_, .tgt w A D r B=> .tgt (h.rd _ _ A w).2 (h.rd _ _ A w).1 D r (go B)
 |_,_, .full j f t=> .full (aB j h.len) f λd g=>by
  have⟨f,q⟩:=h.al _ d j g;have⟨n,r,u⟩:=t d f;exact⟨n,r,u.frame h j g⟩
 |_,_, .part j f t=> .part (aB j h.len) f λd g=>by
  have⟨f,q⟩:=h.al _ d j g;exact(t d f).frame h j g
 |_,_, .fn f q=> .fn (go f) (go q)
 |_,_, .agg f=> .agg (go f)
 |_,_, .tup f=> .tup (go f)
where
 go: ∀{l:List VV} {m:List Value},F2 (VRel c) l m->F2 (VRel C) l m
  |_,_, .nil=> .nil
  |_,_, .cons f q=> .cons (VRel.frame h f) (go q)
def VRel.frames {c f:Ctx}(h:Le c f){l:List VV}{m:List Value}(g:F2 (VRel c) l m):F2 (VRel f) l m:=g.imp λ_ _ j=>j.frame h
def ji {β:Type}(c:Ctx)(d:List Nat)(k:VV->ai->Option β)(y:β)(v:Value)(Z':Hp):Prop:=
 ∃g f,f.Z=Z'/\Le c f/\Rel f/\uO d c f/\VRel f g v/\k g f.S=O y
def ji.same {β:Type}{c:Ctx}{d:List Nat}{k:VV->ai->Option β}{y:β}{v:Value}{f:VV}(g:Rel c)(j:VRel c f v)(h:k f c.S=O y):ji c d k y v c.Z:=
 ⟨f,c,rfl,Le.refl c,g,uO.refl d c,j,h⟩
end
section
open List renaming length_append -> bB, take_of_length_le -> bD, length_cons -> cD, length_drop -> cK, take_append -> cL
open Nat renaming succ_mul -> aB, le_refl -> aD, mul_le_mul_right -> cB
def nG : ∀s:Sh,1<=s.w
 | .int _=>aD _
 | .bool=>aD _
 | .str=>aD _
 | .list _=>aD _
 | .pair a _=>Nat.le_trans (nG a) (Nat.le_add_right _ _)
def ej : ∀(s:Sh) (x:El s),dt (dy s x)=s.w
 | .int _,_=>rfl
 | .bool,_=>rfl
 | .str,_=>rfl
 | .list _,_=>rfl
 | .pair a b,x=>by
  simp only[dy,bB,Sh.w];rw[ej a,ej b]
def FF :fO s []=[]:=rfl
def gz {x:El s}{l:List (El s)}:fO s (x::l)=dy s x++fO s l:=rfl
def gH {l:List (El s)}:dt (fO s l)=dt l*s.w:=by
 induction l with
 |nil=>simp[FF]
 |cons x l f=>rw[gz,bB,ej,f,cD,aB,Nat.add_comm]
def yA {l m:List (El s)}:fO s (l++m)=fO s l++fO s m:=List.flatMap_append
def mI {l:List (El s)}{n:Nat}:fO s (l.take n)=(fO s l).take (n*s.w):=by
 induction l generalizing n with
 |nil=>simp[FF]
 |cons x l g=>
  cases n with
  |zero=>simp[FF]
  |succ n=>
   rw[List.take_succ_cons,gz,gz,g,cL,ej];have f:(n+1)*s.w-s.w=n*s.w:=by rw[aB];omega
   rw[f,bD (l:=dy s x) (by rw[ej,aB];omega)]
def zL {l:List (El s)}{n:Nat}:fO s (l.drop n)=(fO s l).drop (n*s.w):=by
 induction l generalizing n with
 |nil=>simp[FF]
 |cons x l g=>
  cases n with
  |zero=>simp
  |succ n=>
   rw[List.drop_succ_cons,gz,g,List.drop_append,ej];have f:(n+1)*s.w-s.w=n*s.w:=by rw[aB];omega
   rw[f,List.drop_of_length_le (l:=dy s x) (by rw[ej,aB];omega),List.nil_append]
def IP {l:List (El s)}{x:El s}(h:l[i]?=O x):((fO s l).drop (i*s.w)).take s.w=dy s x:=by
 rw[<-zL]
 have f:i<dt l:=by
  rcases Nat.lt_or_ge i (dt l) with h1|h1
  .exact h1
  .rw[List.getElem?_eq_none h1]at h;cases h
 have g:l.drop i=x::l.drop (i+1):=by
  rw[List.drop_eq_getElem_cons f];rw[List.getElem?_eq_getElem f]at h;injection h with h
  rw[h]
 rw[g,gz,cL,ej,Nat.sub_self,List.take_zero,List.append_nil,bD (by rw[ej];exact aD _)]
def mt {f:Sh}{x:El f}{y:El s}(h:nu f s x=O y): ∃e:f=s,y=e▸x:=by
 unfold nu at h;split at h
 .rename_i e;injection h with h
  exact⟨e,h.symm⟩
 .cases h
def nO {x:El s}:nu s s x=O x:=by
 unfold nu;rw[dif_pos rfl]
def F2.app_left {α β:Type}{r:α->β->Prop}{l l':List α}{m:List β}(h:F2 r (l++l') m): ∃f g,m=f++g/\F2 r l f/\F2 r l' g:=by
 induction l generalizing m with
 |nil=>exact⟨[],m,rfl, .nil,h⟩
 |cons a l u=>
  cases h with
  |cons j n=>
   obtain⟨f,g,rfl,q,t⟩:=u n;exact⟨_::f,g,rfl, .cons j q,t⟩
def zf (c:Ctx)(s:Sh)(l:List (El s))(a:Value):Prop:=
 (∃q:Option Addr,a= .slice q 0 0/\l=[]/\∀z,q=O z->z.spot=Y)∨∃b p f y,a= .slice (O ⟨b,p,Y⟩) (dt l) f/\c.Z.m b=O y/\y.es=s.w/\(dt l)<=f/\p+dt l*s.w<=dt y.cells/\F2 (VRel c) (fO s l) ((y.cells.drop p).take (dt l*s.w))
def zf.rel {c:Ctx}{l:List (El s)}(h:zf c s l a)(A: ∀b p n f,a= .slice (O ⟨b,p,Y⟩) n f->f≠0->¬c.mut b):VRel c (.lst s l) a:=by
 rcases h with⟨q,rfl,rfl,B⟩|⟨b,p,f,y,rfl,m,r,t,u,w⟩
 .exact .lstn B
 .by_cases j:f=0
  .subst j;have:l=[]:=List.length_eq_zero_iff.1 V1;subst this;exact .lstn λz g=>by injection g with g;rw[<-g]
  .exact .lst (A _ _ _ _ rfl j) m r rfl t u w
def VRel.listAt {c:Ctx}{l:List (El s)}(h:VRel c (.lst s l) a):zf c s l a:=by
 cases h with
 |lstn q=>exact .inl ⟨_,rfl,rfl,q⟩
 |lst t r n f g j m=>subst f;exact .inr ⟨_,_,_,_,rfl,r,n,g,j,m⟩
def VRel.lst_mut {c:Ctx}{l:List (El s)}{b n f:Nat}(h:VRel c (.lst s l) (.slice (O ⟨b,p,Y⟩) n f))(g:f≠0): ¬c.mut b:=by
 cases h with
 |lstn=>exact(g rfl).elim
 |lst j=>exact j
def Rel.fz_mut {c:Ctx}(g:Rel c){b:Nat}(l:(ae c.S k).frozen=Za)(j:(ae c.S k).dim≠Y)(m:c.μ k=O b): ¬c.mut b:=by
 rintro(⟨q,f,n⟩|h)
 .have:=g.inj q k b f j n m;subst this;rw[f]at l;cases l
 .exact g.fbk k b j m h
def Ju (c:Ctx)(s:Sh)(f:List VV->Option (El s×List VV)):Prop:= ∀g x h,f g=O (x,h)->
 ∃j,g=j++h/\(dt j)=s.w/\∀l,F2 (VRel c) j l->F2 (VRel c) (dy s x) l
def IF {c:Ctx}{s:Sh}{f:List VV->Option (El s×List VV)}(u:Ju c s f): ∀(n:Nat) (cells:List VV) (l:List (El s)),Jz f n cells=O l->
  (dt cells)=dt l*s.w/\∀as,F2 (VRel c) cells as->F2 (VRel c) (fO s l) as
 |n,[],l,h=>by
  have:l=[]:=by cases n<;>simpa[Jz]using h.symm
  subst this;exact⟨V2,λas j=>j⟩
 |0,_::_,_,h=>by simp[Jz]at h
 |n+1,v::r,l,h=>by
  simp only[Jz]at h;cases m:f (v::r)with
  |none=>rw[m]at h;cases h
  |some p=>
   have⟨x,g⟩:=p;rw[m]at h;simp only[zG]at h;cases q:Jz f n g with
   |none=>rw[q]at h;cases h
   |some H=>
    rw[q]at h;cases h;have⟨I,t,A,B⟩:=u _ _ _ m;have⟨C,D⟩:=IF u n g H q;refine⟨by rw[t,bB,A,C,cD,aB,Nat.add_comm],λas j=> ?_⟩;rw[t]at j;obtain⟨J,K,rfl,E,F⟩:=F2.app_left j;exact(B _ E).append (D _ F)
def tb {c:Ctx}{f:List VV->Option (El s×List VV)}(r:Ju c s f){l:List (El s)}(h:AK s f (ae c.S k)=O l):
  ∃d,(ae c.S k).dim=O d/\d.1=s.w/\d.2=dt l*s.w/\∀as,F2 (VRel c) (ae c.S k).vals as->F2 (VRel c) (fO s l) as:=by
 generalize ae c.S k=b at h;cases b with
 |dead=>cases h
 |arr t z m=>
  have⟨e,g⟩:=mt h;cases e;subst g;exact⟨_,rfl,rfl,rfl,λ_ h=>h⟩
 |cells n z m=>
  simp only[AK]at h;cases j:Nat.beq n s.w with
  |false=>rw[j]at h;cases h
  |true=>
   rw[j,zC]at h;have⟨g,q⟩:=IF r _ _ _ h;exact⟨_,rfl,Nat.eq_of_beq_eq_true j,g,q⟩
def Lu {c:Ctx}(W:Rel c){f:List VV->Option (El s×List VV)}(X:Ju c s f){n:Nat}{l:List (El s)}(h:AK s f (ae c.S k)=O l)
  (M:(ae c.S k).dim=O d) (hs:G9 c k lo n d a):zf c s ((l.drop lo).take n) a/\((l.drop lo).take n).length=n:=by
 obtain⟨d',B,C,I,U⟩:=tb X h;rw[M]at B;injection B with B
 subst B;obtain⟨h0,L⟩:=W.blk k d M;have N:=nG s;rcases hs with⟨rfl,rfl,rfl,q,H⟩|⟨b,Q,y,rfl,q,J,K,F,V⟩
 .have:l.length=0:=by
   rw[H]at I;rcases Nat.eq_zero_or_pos l.length with h|h
   .exact h
   .have:=Nat.mul_pos h N;omega
  rw[List.length_eq_zero_iff]at this;subst this;exact⟨.inl ⟨Y,rfl,V2,λz H=>by cases H⟩,V2⟩
 .have Z:lo+n<=l.length:=by
   rw[C,I]at J;exact Nat.le_of_mul_le_mul_right J N
  have g:((l.drop lo).take n).length=n:=by rw[List.length_take,cK];omega
  refine⟨.inr ⟨b,lo*d.1,Q,y,by rw[g],F, ?_,by rw[g];exact K, ?_, ?_⟩,g⟩
  .rcases L with⟨m,j⟩|⟨P,y',cs,A,m,j,r,_⟩
   .rw[j]at q;cases q
   .rw[q]at m;injection m with m
    subst m;rw[F]at j;injection j with j
    subst j;rw[r,C]
  .rw[g];have:=cB d.1 K;rw[Nat.add_mul]at V;rw[<-C];omega
  .rcases L with⟨m,j⟩|⟨P,y',cs,A,m,j,r,_,D,E⟩
   .rw[j]at q;cases q
   .rw[q]at m;injection m with m
    subst m;rw[F]at j;injection j with j
    subst j;have t:=U _ E;have u:cs.length=l.length*s.w:=by rw[<-t.length,gH]
    rw[g,mI,zL,C,D,List.drop_append_of_le_length (by rw[u];exact cB _ V1),List.take_append_of_le_length]
    .exact(t.drop _).take _
    .rw[cK,u,<-Nat.sub_mul];exact cB _ V1
def RP {c:Ctx}(u:Rel c){f:List VV->Option (El s×List VV)}(m:Ju c s f){l:List (El s)}(h:AK s f (ae c.S k)=O l)(A:VRel c (.full k) a):zf c s l a:=by
 have⟨d,g,q,r,B⟩:=tb m h;cases A with
 |full C _ w=>
  have⟨n,j,t⟩:=w d g
  have D:n=dt l:=by
   rw[q,r]at j;exact Nat.eq_of_mul_eq_mul_right (nG s) j
  have:=(Lu u m h g t).1
  rwa [List.drop_zero,bD V1]at this
def Sv {c:Ctx}(m:Rel c){f:List VV->Option (El s×List VV)}(j:Ju c s f){n:Nat}{l:List (El s)}(h:AK s f (ae c.S k)=O l)(r:VRel c (.part k lo n) a):
  zf c s ((l.drop lo).take n) a/\(dt ((l.drop lo).take n))=n:=by
 have⟨d,g,t,u,w⟩:=tb j h;cases r with
 |part A _ q=>exact Lu m j h g (q d g)
def IU :VV->Option Nat
 | .full k=>O k
 | .part k _ _=>O k
 |_=>Y
def G9.addr {c:Ctx}{n:Nat}{b m g:Nat}(h:G9 c k lo n d (.slice (O ⟨b,p,Y⟩) m g)):c.μ k=O b:=by
 rcases h with⟨h,_⟩|⟨q,j,y,h,l,_⟩
 .cases h
 .injection h with f r t
  injection f with f
  cases f;exact l
def Oo {c:Ctx}(w:Rel c){f:List VV->Option (El s×List VV)}(t:Ju c s f){l:List (El s)}(h:GV c.S s f v=O l)(j:VRel c v a):
  zf c s l a/\∀b p n q,a= .slice (O ⟨b,p,Y⟩) n q->q≠0->¬c.mut b∨∃k,IU v=O k/\(ae c.S k).dim≠Y/\c.μ k=O b:=by
 cases v<;>simp only[GV]at h<;>try(cases h;done)
 case nils=>
  cases h;cases j;exact⟨.inl ⟨Y,rfl,rfl,λz D=>by cases D⟩,λb p n q e=>by cases e⟩
 case lst s' l'=>
  have⟨e,g⟩:=mt h;cases e;subst g;refine⟨j.listAt,λb p n q e B=> .inl ?_⟩;subst e;exact j.lst_mut B
 case full k=>
  refine⟨RP w t h j,λb p n q e _=> .inr ⟨k,rfl, ?_⟩⟩;have⟨d,g,_⟩:=tb t h;subst e;cases j with
  |full C _ u=>
   have⟨_,_,A⟩:=u d g;exact⟨by rw[g];simp,A.addr⟩
 case part k lo m=>
  cases r:AK s f (ae c.S k)with
  |none=>rw[r]at h;cases h
  |some E=>
   rw[r]at h;cases h;refine⟨(Sv w t r j).1,λb p n q e _=> .inr ⟨k,rfl, ?_⟩⟩;have⟨d,g,_⟩:=tb t r;subst e;cases j with
   |part C _ u=>exact⟨by rw[g];simp,(u d g).addr⟩
def Ul {c:Ctx}(t:Rel c){f:List VV->Option (El s×List VV)}(C:Ju c s f){l:List (El s)}(h:Qe c.S s f v=O l)(D:VRel c v a):VRel c (.lst s l) a:=by
 have j:GV c.S s f v=O l/\∀k,IU v=O k->(ae c.S k).frozen=Za:=by
  unfold Qe at h;split at h
  .rename_i k;cases g:(ae c.S k).frozen with
   |false=>rw[g]at h;cases h
   |true=>
    rw[g]at h;exact⟨h,λE e=>by cases e;exact g⟩
  .rename_i k lo n;cases g:(ae c.S k).frozen with
   |false=>rw[g]at h;cases h
   |true=>
    rw[g]at h;exact⟨h,λE e=>by cases e;exact g⟩
  .rename_i m q;refine⟨h,λk e=> ?_⟩;cases v<;>simp only[IU]at e<;>try(cases e;done)
   .exact(m _ rfl).elim
   .exact(q _ _ _ rfl).elim
 have⟨m,q⟩:=Oo t C j.1 D;refine m.rel λb p n u e B=> ?_
 rcases q b p n u e B with r|⟨k,r,w,A⟩
 .exact r
 .exact t.fz_mut (j.2 k r) w A
def mJ {c:Ctx}(u:Rel c): ∀s:Sh,Ju c s (kv c.S s)
 | .int k,f,x,g,h=>by
  cases f with
  |nil=>simp[kv]at h
  |cons v r=>
   cases v<;>simp only[kv]at h<;>try(cases h;done)
   rename_i L n;cases C:Zc (L=k)with
   |false=>rw[C]at h;cases h
   |true=>
    rw[C]at h;injection h with h
    injection h with j m
    subst j;subst m;have:=of_decide_eq_true C;subst this;exact⟨[_],rfl,rfl,λ_ h=>h⟩
 | .bool,f,x,g,h=>by
  cases f with
  |nil=>simp[kv]at h
  |cons v r=>
   cases v<;>simp only[kv]at h<;>try(cases h;done)
   injection h with h
   injection h with j m
   subst j;subst m;exact⟨[_],rfl,rfl,λ_ h=>h⟩
 | .str,f,x,g,h=>by
  cases f with
  |nil=>simp[kv]at h
  |cons v r=>
   cases v<;>simp only[kv]at h<;>try(cases h;done)
   injection h with h
   injection h with j m
   subst j;subst m;exact⟨[_],rfl,rfl,λ_ h=>h⟩
 | .list s,f,x,g,h=>by
  cases f with
  |nil=>simp[kv]at h
  |cons v r=>
   simp only[kv]at h;cases j:Qe c.S s (kv c.S s) v with
   |none=>rw[j]at h;cases h
   |some l=>
    rw[j]at h;injection h with h
    injection h with m w
    subst m;subst w;refine⟨[v],rfl,rfl,λF t=> ?_⟩;cases t with
    |cons t K=>
     cases K;exact .cons (Ul u (mJ u s) j t) .nil
 | .pair a b,f,x,g,h=>by
  simp only[kv]at h;cases j:kv c.S a f with
  |none=>rw[j]at h;cases h
  |some p=>
   have⟨y,P⟩:=p;rw[j]at h;simp only[zG]at h;cases m:kv c.S b P with
   |none=>rw[m]at h;cases h
   |some q=>
    have⟨z,V⟩:=q;rw[m]at h;injection h with h
    injection h with w H
    subst w;subst H;obtain⟨M,rfl,D,A⟩:=mJ u a _ _ _ j;obtain⟨N,rfl,E,B⟩:=mJ u b _ _ _ m;refine⟨M++N,by rw[List.append_assoc],by rw[bB,D,E];rfl,λF t=> ?_⟩;obtain⟨Q,U,rfl,I,J⟩:=F2.app_left t;exact(A _ I).append (B _ J)
def ae5 {c:Ctx}(g:Rel c){l:List (El s)}(h:VP c.S s v=O l)(j:VRel c v a):
  zf c s l a/\∀b p n f,a= .slice (O ⟨b,p,Y⟩) n f->f≠0->¬c.mut b∨∃k,IU v=O k/\(ae c.S k).dim≠Y/\c.μ k=O b:=
 Oo g (mJ g s) h j
end
section
open Bool renaming and_eq_true -> aD
open List renaming getElem?_eq_getElem -> aB, getD_eq_getElem?_getD -> bB, getElem?_map -> bD, all_append -> cD, getElem?_eq_none -> cK, length_drop -> cL, length_take -> cM
open Nat renaming zero_add -> cB, le_of_ble_eq_true -> cN
def az (c:Ctx)(e:co)(ea:cm):Prop:= ∀t,VRel c (lQ e t) (ea t)
def az.frame {c f:Ctx}(h:az c e ea)(g:Le c f):az f e ea:=λt=>(h t).frame g
def wO {d t:Nat}:lQ (qU e d v) t=if t=d then v else lQ e t:=by
 induction d generalizing e t with
 |zero=>cases e<;>cases t<;>simp[qU,lQ]
 |succ d f=>
  cases e with
  |nil=>
   cases t with
   |zero=>simp[qU,lQ]
   |succ t=>simp[qU,lQ,f]
  |cons a r=>
   cases t with
   |zero=>simp[qU,lQ]
   |succ t=>simp[qU,lQ,f]
def az.put {c:Ctx}(h:az c e ea){d:Nat}(g:VRel c v a):az c (qU e d v) (ea.put d a):=by
 intro t;rw[wO];unfold cm.put;by_cases f:t=d
 .rw[zE f,zE f];exact g
 .rw[zF f,zF f];exact h t
def az.putO {c:Ctx}(h:az c e ea){d:Option Nat}(f:VRel c v a):az c (putO e d v) (ea.putO d a):=by
 cases d with
 |none=>exact h
 |some d=>exact h.put f
def Se (c:Ctx)(v:Value):VRel c (Ki v) v:=by
 unfold Ki;split
 .exact .bool _
 .exact .int _ _
 .exact .str rfl
 .exact .nilp
 .exact .nils
 .exact .nilf
 .exact .undef _
def FO (c:Ctx)(l:List Value):F2 (VRel c) (l.map Ki) l:=by
 induction l with
 |nil=>exact .nil
 |cons v l f=>exact .cons (Se c v) f
def ax7 (c:Ctx)(v:Value):VRel c (ofC v) v:=by
 unfold ofC;split
 .rename_i cs;exact .agg (by simpa using FO c cs.toList)
 .exact Se c _
def cn {c:Ctx}(h:az c e ea)(x:Operand):VRel c (ev e x) (ea.ev x):=by
 cases x with
 |tmp t=>exact h t
 |const v=>exact ax7 c v
 |global _=>exact .undef _
 |func f=>exact .fn .nil .nil
def Ky {c:Ctx}(h:az c e ea)(f:List Operand):F2 (VRel c) (f.map (ev e)) (f.map ea.ev):=by
 induction f with
 |nil=>exact .nil
 |cons x f g=>exact .cons (cn h x) g
def au {β:Type}{b:Bool}{x:Option β}{y:β}(h:gd b x=O y):b=Za/\x=O y:=by
 cases b with
 |false=>cases h
 |true=>exact⟨rfl,h⟩
def So {c:Ctx}(h:VRel c v a)(f:ay8 v=Za):one a=Za:=by
 cases h<;>first|rfl|assumption|(cases f;done)|(rename_i h;rcases h with rfl|⟨_,_,rfl⟩<;>rfl)
def kX {c:Ctx}: ∀{l:List VV} {m:List Value},F2 (VRel c) l m->pF l=Za->m.all one=Za
 |_,_, .nil,_=>rfl
 |_,_, .cons f g,h=>by
  simp only[pF,List.all_cons,aD]at h⊢;exact⟨So f h.1,kX g h.2⟩
def Fk : ∀(s:Sh) (x:El s),pF (dy s x)=Za
 | .int _,_=>rfl
 | .bool,_=>rfl
 | .str,_=>rfl
 | .list _,_=>rfl
 | .pair a b,x=>by
  have f:=Fk a x.1;have g:=Fk b x.2;simp only[pF,dy,cD,aD]at*;exact⟨f,g⟩
def td (s:Sh)(l:List (El s)):pF (fO s l)=Za:=by
 induction l with
 |nil=>rfl
 |cons x l g=>
  have f:=Fk s x;rw[gz];simp only[pF,cD,aD]at*;exact⟨f,g⟩
def IE {c:Ctx}(h:VRel c v a)(g:pF (nv v)=Za):F2 (VRel c) (nv v) (cellsOf a):=by
 have f:one a=Za->cellsOf a=[a]:=λh=>by cases a<;>first|rfl|(cases h;done)
 cases v with
 |agg l=>
  cases h with
  |agg h=>exact h
 |undef=>cases g
 |tup l=>cases g
 |_=>
  rw[f (So h rfl)];exact .cons h .nil
def cu {T:iU}{op:AOp}{e:cm}{Z:Hp}{v:Value}{K:Value->Hp->Prop}(h:op.run e Z=O (v,Z'))(f:K v Z'):ci T op e Z K:=by
 unfold ci;split
 .cases h
 .cases h
 .rw[h];exact f
def xu {α:Type}: ∀(l:List α) (i:Nat),nth l i=l[i]?
 |[],_=>rfl
 |_::_,0=>rfl
 |_::l,i+1=>by
  rw[show nth (_::l) (i+1)=nth l i from rfl,xu l i];rfl
def F2.nth {c:Ctx}{l:List VV}{m:List Value}(h:F2 (VRel c) l m)(f:nth l i=O v): ∃a,m[i]?=O a/\VRel c v a:=by
 rw[xu]at f;exact h.get i v f
def IV {k:IntKind}: ∀{cs:List VV} {l:Zd},DF k cs=O l->cs=l.map (.int k)
 |[],l,h=>by cases h;rfl
 |v::r,l,h=>by
  cases v<;>simp only[DF]at h<;>try(cases h;done)
  rename_i j n;cases g:Zc (j=k)with
  |false=>rw[g]at h;cases h
  |true=>
   rw[g,zC]at h;cases f:DF k r with
   |none=>rw[f]at h;cases h
   |some m=>
    rw[f]at h;cases h;rw[IV f,of_decide_eq_true g];rfl
def Lw : ∀{cs:List VV} {l:List Bool},Lv cs=O l->cs=l.map .bool
 |[],l,h=>by cases h;rfl
 |v::r,l,h=>by
  cases v<;>simp only[Lv]at h<;>try(cases h;done)
  cases f:Lv r with
  |none=>rw[f]at h;cases h
  |some m=>
   rw[f]at h;cases h;rw[Lw f];rfl
def OH : ∀{cs:List VV} {l:List (Zd)},S8 cs=O l->cs=l.map .str
 |[],l,h=>by cases h;rfl
 |v::r,l,h=>by
  cases v<;>simp only[S8]at h<;>try(cases h;done)
  cases f:S8 r with
  |none=>rw[f]at h;cases h
  |some m=>
   rw[f]at h;cases h;rw[OH f];rfl
def Sw {β:Type}{S:ai}{k:VV->ai->Option β}{y:β}: ∀{cs:List VV} {i:Nat},We S k cs i=O y->∃v,cs[i]?=O v/\k v S=O y
 |[],_,h=>by cases h
 |v::r,i,h=>by
  simp only[We]at h;cases f:Nat.beq i 0 with
  |true=>
   rw[f]at h;have:=Nat.eq_of_beq_eq_true f;subst this;exact⟨v,rfl,h⟩
  |false=>
   rw[f]at h;have⟨w,g,l⟩:=Sw h;have:i≠0:=λe=>by subst e;cases f
   obtain⟨j,rfl⟩:=Nat.exists_eq_succ_of_ne_zero this;exact⟨w,g,l⟩
def Rl {β:Type}{S:ai}{k:VV->ai->Option β}{y:β}(j:i<dt cs)(h:Rk cs i S k=O y): ∃v,cs[i]?=O v/\k v S=O y:=by
 unfold Rk at h;split at h
 .rename_i kd n r;split at h
  .rename_i l g;have:=IV g;subst this;refine⟨_, ?_,h⟩;rw[show(VV.int kd n::l.map (VV.int kd))=(n::l).map (VV.int kd)from rfl,bD];have f:i<dt (n::l):=by simpa using j
   rw[aB f,bB,aB f];rfl
  .cases h
 .rename_i b r;split at h
  .rename_i l g;have:=Lw g;subst this;refine⟨_, ?_,h⟩;rw[show(VV.bool b::l.map VV.bool)=(b::l).map VV.bool from rfl,bD];have f:i<dt (b::l):=by simpa using j
   rw[aB f,bB,aB f];rfl
  .cases h
 .rename_i b r;split at h
  .rename_i l g;have:=OH g;subst this;refine⟨_, ?_,h⟩;rw[show(VV.str b::l.map VV.str)=(b::l).map VV.str from rfl,bD];have f:i<dt (b::l):=by simpa using j
   rw[aB f,bB,aB f];rfl
  .cases h
 .exact Sw h
def Rel.block {c:Ctx}(j:Rel c){b:Nat}(l:(ae c.S k).dim=O d)(f:c.μ k=O b):
  ∃y cs rest,c.Z.m b=O y/\y.es=d.1/\((ae c.S k).frozen=Zb->y.own=Za)/\y.cells=cs++rest/\F2 (VRel c) (ae c.S k).vals cs:=by
 have⟨_,h⟩:=j.blk k d l;rcases h with⟨_,h⟩|⟨n,y,cs,rest,h,g⟩
 .rw[h]at f;cases f
 .rw[f]at h;cases h;exact⟨y,cs,rest,g⟩
def vy (c:Ctx)(cs:List VV)(b p:Nat):Prop:= ∃y,c.Z.m b=O y/\p+dt cs<=dt y.cells/\F2 (VRel c) cs ((y.cells.drop p).take (dt cs))
def vy.get {c:Ctx}{b:Nat}(h:vy c cs b p)(f:nth cs o=O v): ∃y a,c.Z.m b=O y/\y.cells[p+o]?=O a/\VRel c v a:=by
 have⟨y,g,r,j⟩:=h;have⟨a,l,n⟩:=F2.nth j f;refine⟨y,a,g, ?_,n⟩;rw[xu]at f
 have q:o<dt cs:=by
  rcases Nat.lt_or_ge o (dt cs) with h|h
  .exact h
  .rw[cK h]at f;cases f
 rwa [List.getElem?_take,zE q,List.getElem?_drop]at l
def vy.read {c:Ctx}{b:Nat}(h:vy c cs b p){n:Nat}(q:o+n<=dt cs): ∃y as,c.Z.m b=O y/\rf y (p+o) n=O as/\F2 (VRel c) ((cs.drop o).take n) as:=by
 have⟨y,g,l,j⟩:=h;refine⟨y,(y.cells.drop (p+o)).take n,g,Zg, ?_⟩;have f:=(j.drop o).take n;rw[List.drop_take,List.drop_drop,List.take_take,Nat.min_eq_left V1]at f;exact f
def Rel.stands {c:Ctx}(l:Rel c){b:Nat}(m:(ae c.S k).dim=O d)(n:c.μ k=O b):vy c (ae c.S k).vals b 0:=by
 obtain⟨y,cs,h,j,_,_,f,g⟩:=l.block m n;have q:=g.length;refine⟨y,j,by rw[f,List.length_append];omega, ?_⟩;rw[List.drop_zero,f,List.take_append_of_le_length V1,List.take_of_length_le V1];exact g
def vy.part {c:Ctx}{b:Nat}(h:vy c cs b p){n:Nat}(q:o+n<=dt cs):vy c ((cs.drop o).take n) b (p+o):=by
 have⟨y,g,m,j⟩:=h;have f:dt ((cs.drop o).take n)=n:=by rw[cM,cL];omega
 refine⟨y,g,by rw[f];omega, ?_⟩;have l:=(j.drop o).take n;rw[List.drop_take,List.drop_drop,List.take_take,Nat.min_eq_left V1]at l
 rwa [f]
def SB {β:Type}{c:Ctx}(P:Rel c){n:Nat}{k:VV->ai->Option β}{y:β}(h:OC c.S n agg v k=O y)(M:VRel c v a):
  ∃b o x,a= .pointer (O ⟨b,o,Y⟩)/\c.Z.m b=O x/\
   (agg=Zb->∃u w,x.cells[o]?=O u/\VRel c w u/\k w c.S=O y)/\
   (agg=Za->∃K L,rf x o n=O K/\F2 (VRel c) L K/\k (.agg L) c.S=O y):=by
 have t: ∀(cs:List VV) (b p o:Nat),vy c cs b p->a= .pointer (O ⟨b,p+o,Y⟩)->
   cond agg (gd (Nat.ble (o+n) (dt cs)) (k (.agg ((cs.drop o).take n)) c.S)) (match nth cs o with
    |some v=>k v c.S
    |none=>Y)=O y->
   ∃b o x,a= .pointer (O ⟨b,o,Y⟩)/\c.Z.m b=O x/\
   (agg=Zb->∃u w,x.cells[o]?=O u/\VRel c w u/\k w c.S=O y)/\
   (agg=Za->∃K L,rf x o n=O K/\F2 (VRel c) L K/\k (.agg L) c.S=O y):=by
  intro cs b p o g r h;cases agg with
  |true=>
   have⟨C,N⟩:=au h;have⟨x,X,D,B,E⟩:=g.read (cN C);exact⟨b,p+o,x,r,D,bk,λ_=>⟨X,_,B,E,N⟩⟩
  |false=>
   rw[zD]at h;split at h
   .rename_i w hw;have⟨x,u,D,B,E⟩:=g.get hw;exact⟨b,p+o,x,r,D,(λ_=>⟨u,w,B,E,h⟩),bk⟩
   .cases h
 unfold OC at h;cases v with
 |ptr q o=>
  simp only at h;cases f:ae c.S q with
  |dead=>rw[f]at h;cases h
  |arr s z l=>rw[f]at h;cases h
  |cells A z l=>
   rw[f]at h;cases M with
   |ptr V _ H=>
    have⟨b,I,r⟩:=H (A,dt l) ZZ;have g:=P.stands (k:=q) (d:=(A,dt l)) ZZ I;rw[f]at g;exact t l b 0 o g (by rw[r,cB]) h
 |pix q o m i=>
  simp only at h;cases f:ae c.S q with
  |dead=>rw[f]at h;cases h
  |arr s z l=>rw[f]at h;cases h
  |cells A z l=>
   rw[f]at h;have⟨C,N⟩:=au h;rw[aD]at C;have D:=cN C.2;have F:agg=Zb:=by simpa using C.1
   subst F;cases M with
   |pix V _ U H=>
    have⟨b,I,r⟩:=H (A,dt l) ZZ;have g:=P.stands (k:=q) (d:=(A,dt l)) ZZ I;rw[f]at g;have W:dt ((l.drop o).take m)=m:=by rw[cM,cL];omega
    have⟨w,B,E⟩:=Rl V1 N;have j:vy c ((l.drop o).take m) b (0+o):=vy.part (cs:=l) g D;rw[<-xu]at B;have⟨x,u,h6,h7,h8⟩:=j.get B;exact⟨b,o+i,x,r,h6,(λ_=>⟨u,w,by rwa [cB]at h7,h8,E⟩),bk⟩
 |pel q i o=>
  simp only at h;cases f:ae c.S q with
  |dead=>rw[f]at h;cases h
  |cells A z l=>rw[f]at h;cases h
  |arr s z l=>
   rw[f]at h;simp only at h;cases J:l[i]? with
   |none=>rw[J]at h;cases h
   |some x=>
    rw[J]at h;cases M with
    |pel V _ H=>
     have⟨b,I,r⟩:=H (s.w,dt l*s.w) ZZ;have g:=P.stands (k:=q) (d:=(s.w,dt l*s.w)) ZZ I;rw[f]at g
     have U:i<dt l:=by
      rcases Nat.lt_or_ge i (dt l) with h|h
      .exact h
      .rw[cK h]at J;cases J
     have Q:i*s.w+s.w<=dt (fO s l):=by
      rw[gH,<-Nat.succ_mul];exact Nat.mul_le_mul_right _ U
     have j:vy c (((fO s l).drop (i*s.w)).take s.w) b (0+i*s.w):=vy.part (cs:=fO s l) g Q;rw[IP J,cB]at j;exact t (dy s x) b (i*s.w) o j r h
 |pin s x o=>
  simp only at h;cases M with
  |pin hn hy hl hf=>
   exact t (dy s x) _ _ o ⟨_,hy,by rw[ej];exact hl,by rw[ej];exact hf⟩ rfl h
 |_=>cases h
end
section
open Nat renaming lt_of_lt_of_le -> aB
def KK.frame {c f:Ctx}(E:Le c f)(h:KK c k)(q:ae f.S k=ae c.S k)(F:(ae c.S k).dim≠Y->f.μ k=c.μ k)(D: ∀b y,(ae c.S k).dim≠Y->c.μ k=O b->c.Z.m b=O y->f.Z.m b=O y):KK f k:=by
 intro d l;rw[q]at l;have⟨t,u⟩:=h d l;have r:=F (by rw[l];simp);refine⟨t, ?_⟩;rcases u with⟨j,n⟩|⟨b,y,cs,g,j,n,w,A,B,C⟩
 .exact .inl ⟨j,r.trans n⟩
 .exact .inr ⟨b,y,cs,g,r.trans j,D b y (by rw[l];simp) j n,w,by rw[q];exact A,B,by rw[q];exact VRel.frames E C⟩
def wy (S S':ai):Prop:=dt S'=dt S/\∀k,ae S' k=ae S k∨ae S' k=(ae S k).freeze
def wy.refl (S:ai):wy S S:=⟨rfl,λ_=> .inl rfl⟩
def ND :b.freeze.freeze=b.freeze:=by cases b<;>rfl
def wy.trans {a b c:ai}(h:wy a b)(k:wy b c):wy a c:=by
 refine⟨k.1.trans h.1,λi=> ?_⟩;rcases h.2 i with h1|h1<;>rcases k.2 i with h2|h2
 .exact .inl (h2.trans h1)
 .exact .inr (by rw[h2,h1])
 .exact .inr (h2.trans h1)
 .exact .inr (by rw[h2,h1,ND])
def wy.put {S:ai}:wy S (mx S k (ae S k).freeze):=by
 refine⟨Fc,λi=> ?_⟩;rw[yG];split
 .rename_i h;rw[h.1];exact .inr rfl
 .exact .inl rfl
def wy.fold {f:ai->VV->ai}(g: ∀S v,wy S (f S v)): ∀(l:List VV) (S:ai),wy S (l.foldl f S)
 |[],S=>wy.refl S
 |v::l,S=>(g S v).trans (wy.fold g l _)
def VG : ∀(n:Nat) (S:ai) (v:VV),wy S (fzv n S v)
 |0,S,_=>wy.refl S
 |n+1,S,v=>by
  have f: ∀k,wy S (match ae S k with
    | .cells j _ l=>l.foldl (fzv n) (mx S k (.cells j Za l))
    |b=>mx S k b.freeze):=by
   intro k;have g:=wy.put (S:=S) (k:=k);split
   .rename_i j z l h;rw[h]at g;exact wy.trans g (wy.fold (VG n) l _)
   .exact g
  unfold fzv;split
  .exact f _
  .exact f _
  .exact wy.refl S
def FI (S:ai)(l:List VV):wy S (He S l):=wy.fold (VG 3) l S
def ac6 (S:ai)(v:VV):wy S (aN1 S v):=by
 unfold aN1;split
 .split
  .exact FI S _
  .exact wy.refl S
 .split
  .exact FI S _
  .exact wy.refl S
 .exact wy.refl S
def Xx (k:Sk)(v:VV)(S:ai):wy S (ac5 k v S):=by
 unfold ac5;split
 .exact ac6 S v
 .exact wy.refl S
def LZ : ∀(l:List Sk) (vs:List VV) (S:ai),wy S (EW l vs S)
 |[],_,S=>wy.refl S
 |_::_,[],S=>wy.refl S
 |k::r,v::vs,S=>(Xx k v S).trans (LZ r vs _)
def vD : ∀(l:List Nat) (S:ai),wy S (DE l S)
 |[],S=>wy.refl S
 |_::l,S=>wy.put.trans (vD l _)
def wy.dim {S:ai}(h:wy S S')(k:Nat):(ae S' k).dim=(ae S k).dim:=by
 rcases h.2 k with h|h<;>rw[h]
 exact fS
def wy.vals {S:ai}(h:wy S S')(k:Nat):(ae S' k).vals=(ae S k).vals:=by
 rcases h.2 k with h|h<;>rw[h]
 exact JP
def wy.fz {S:ai}(h:wy S S')(f:(ae S' k).frozen=Zb):ae S' k=ae S k:=by
 rcases h.2 k with h|h
 .exact h
 .rw[h,kH]at f;cases f
def wy.le {c:Ctx}(h:wy c.S S'):Le c ⟨c.μ,S',c.Z,c.fb⟩:=by
 refine⟨Nat.le_of_eq h.1.symm,λk d _ l=>⟨(h.dim k)▸l,rfl⟩,λk m _=> ?_,λ_ _ _ y _ _ _ f=>⟨y,f,rfl⟩,λb y f _=>f,λb y f n=> ?_,Nat.le_refl _,rfl⟩
 .rcases h.2 k with h|h
  .exact h
  .exact h.trans (B1 m)
 .rintro⟨k,g,j⟩;exact n ⟨k,by rw[<-h.fz g];exact g,j⟩
def wy.rel {c:Ctx}(f:Rel c)(h:wy c.S S'):Rel ⟨c.μ,S',c.Z,c.fb⟩:=by
 refine⟨f.ok,λk H b j n q r=>f.inj k H b (by rw[<-h.fz j];exact j) (by rw[<-h.dim];exact n) q r,λk d F=> ?_,λk b j q=>f.fbk k b (by rw[<-h.dim];exact j) q,f.fbl⟩;have m:(ae c.S k).dim=O d:=(h.dim k)▸F;have⟨u,l⟩:=f.blk k d m;refine⟨u, ?_⟩;rcases l with l|⟨b,y,cs,g,w,A,B,C,D,E⟩
 .exact .inl l
 .exact .inr ⟨b,y,cs,g,w,A,B,λt=>C (by rw[<-h.fz t];exact t),D,by rw[h.vals k];exact VRel.frames h.le E⟩
def wy.calm {c:Ctx}(d:List Nat)(h:wy c.S S'):uO d c ⟨c.μ,S',c.Z,c.fb⟩:=λk _ _ f=>⟨by rw[h.dim];exact f,λ_ _=>rfl⟩
def uO.trans {a b c:Ctx}{d:List Nat}(h:uO d a b)(k:uO d b c)(n:Le a b):uO d a c:=by
 intro i f m w;have⟨j,r⟩:=h i f m w;have⟨t,u⟩:=k i (aB f n.len) m j;refine⟨t,λx q=> ?_⟩
 have g:b.μ i=O x:=by
  cases l:(ae b.S i).dim with
  |none=>exact(j l).elim
  |some z=>exact(n.al i z f l).2.trans q
 exact(u x g).trans (r x q)
def Ve (c:Ctx)(kill:Option Nat)(b:Nat):Prop:= ∃k,kill=O k/\c.μ k=O b
def wP (c:Ctx)(b1:Option Nat):Nat->Option Nat:=λi=>if i=dt c.S then b1 else c.μ i
def yB {S:ai}{kill:Option Nat}:dt (re S kill)=dt S:=by cases kill<;>simp[re,Fc]
def XF {S:ai}{kill:Option Nat}:ae (re S kill) i=if kill=O i then .dead else ae S i:=by
 cases kill with
 |none=>simp[re]
 |some k=>
  simp only[re,yG,cc];by_cases h:i=k
  .subst h;by_cases f:i<dt S
   .simp[f]
   .simp[f,wS (Nat.le_of_not_lt f)]
  .simp[h,Ne.symm h]
structure Moves (c:Ctx)(kill:Option Nat)(b1:Option Nat)(blk:Blk)(Z':Hp):Prop where
 fr: ∀b,b1=O b->(∀z,c.Z.m b≠O z)->¬c.fb b
 kz: ∀k,kill=O k->(ae c.S k).frozen=Zb
 ok:Z'.Ok
 n:c.Z.n<=Z'.n
 old: ∀i y,c.Z.m i=O y->¬Ve c kill i->Z'.m i=O y
 one: ∃d,blk.dim=O d/\1<=d.1/\((b1=Y/\d.2=0)∨∃b y cs rest,b1=O b/\Z'.m b=O y/\y.es=d.1/\(blk.frozen=Zb->y.own=Za)/\y.cells=cs++rest/\F2 (VRel c) blk.vals cs/\((∀z,c.Z.m b≠O z)∨Ve c kill b))
section
variable {c:Ctx} {kill b1:Option Nat} {blk:Blk} {Z':Hp}
def kI (i:Nat):ae (re c.S kill++[blk]) i=if i=dt c.S then blk else if kill=O i then .dead else ae c.S i:=by
 by_cases h:i=dt c.S
 .subst h;rw[zE rfl,<-yB (S:=c.S) (kill:=kill),SY]
 .rw[zF h];by_cases f:i<dt c.S
  .rw[nD (by rw[yB];exact f),XF]
  .have g:dt c.S<i:=by omega
   rw[wS (by rw[List.length_append,yB];simp;omega),wS (k:=i) (S:=c.S) V1];split<;>rfl
def Moves.low (g:Rel c)(h:Moves c kill b1 blk Z'){i b:Nat}(_:i≠(dt c.S))(l:kill≠O i)(j:(ae c.S i).dim≠Y)(m:c.μ i=O b): ¬Ve c kill b:=by
 rintro⟨k,rfl,f⟩;exact l (congrArg O (g.inj k i b (h.kz k rfl) j f m))
def Moves.le (C:Rel c)(h:Moves c kill b1 blk Z'):Le c ⟨wP c b1,re c.S kill++[blk],Z',c.fb⟩:=by
 have j: ∀k,k<dt c.S->k≠(dt c.S):=λk g=>by omega
 refine⟨by simp[yB],λk d g f=> ?_,λk D f=> ?_,λk d b y g f r t=> ?_,λb y t u=>h.old b y t λ⟨k,e,r⟩=>u ⟨k,h.kz k e,r⟩,λb y t u=> ?_,h.n,rfl⟩
 .simp only[kI,zF (j k g)]at f;split at f
  .cases f
  .exact⟨f,zF (j k g)⟩
 .have g:=mw f;simp only[kI,zF (j k g)];rw[zF];intro e;have:=h.kz k e;rw[D]at this;cases this
 .simp only[kI,zF (j k g)]at f;split at f
  .cases f
  .rename_i w;exact⟨y,h.old b y t (h.low C (j k g) w (by rw[f];simp) r),rfl⟩
 .have A: ¬Ve c kill b:=λ⟨k,e,r⟩=>u ⟨k,h.kz k e,r⟩
  rintro⟨k,m,l⟩;simp only[kI]at m;simp only[wP]at l;by_cases g:k=dt c.S
  .rw[zE g]at m l;have⟨d,_,_,q⟩:=h.one;rcases q with⟨q,_⟩|⟨E,y',cs,B,q,_,_,_,_,_,h4⟩
   .rw[q]at l;cases l
   .rw[q]at l;cases l;rcases h4 with h4|h4
    .exact h4 y t
    .exact A h4
  .rw[zF g]at m l;split at m
   .cases m
   .exact u ⟨k,m,l⟩
def Moves.rel (w:Rel c)(h:Moves c kill b1 blk Z'):Rel ⟨wP c b1,re c.S kill++[blk],Z',c.fb⟩:=by
 have E:=h.le w
 have A: ∀i b,i≠(dt c.S)->kill≠O i->(ae c.S i).dim≠Y->c.μ i=O b->b1≠O b:=by
  intro i b P f u l e;have⟨d,_,_,j⟩:=h.one;rcases j with⟨j,_⟩|⟨F,y',cs,t,j,_,_,_,_,_,h4⟩
  .rw[j]at e;cases e
  .rw[j]at e;cases e;rcases h4 with h4|h4
   .cases D:(ae c.S i).dim with
    |none=>exact u D
    |some U=>
     have⟨y,_,_,J,_⟩:=w.block D l;exact h4 y J
   .exact h.low w P f u l h4
 have I: ∀b,c.fb b->b1≠O b:=by
  intro b B e;have⟨d,_,_,j⟩:=h.one;rcases j with⟨j,_⟩|⟨F,y',cs,t,j,_,_,_,_,_,h4⟩
  .rw[j]at e;cases e
  .rw[j]at e;cases e;rcases h4 with h4|⟨k,h4,H⟩
   .exact h.fr _ j h4 B
   .exact w.fbk k _ (mH (h.kz k h4)) H B
 refine⟨h.ok,λk K b f g l m=> ?_,λk=> ?_,λk b f l B=> ?_,λb B=>aB (w.fbl b B) h.n⟩
 rotate_left 2
 .simp only[kI]at f;simp only[wP]at l;by_cases r:k=dt c.S
  .rw[zE r]at l;exact I b B l
  .rw[zF r]at l f;split at f
   .exact f rfl
   .exact w.fbk k b f l B
 .simp only[kI]at f g;simp only[wP]at l m;by_cases r:k=dt c.S<;>by_cases C:K=dt c.S
  .omega
  .rw[zE r]at l;rw[zF C]at m g;split at g
   .exact(g rfl).elim
   .rename_i q;exact(A K b C q g m l).elim
  .rw[zF r]at l f;rw[zE C]at m;split at f
   .cases f
   .rename_i q;exact(A k b r q (mH f) l m).elim
  .rw[zF r]at l f;rw[zF C]at m g;split at f
   .cases f
   .split at g
    .exact(g rfl).elim
    .exact w.inj k K b f g l m
 .by_cases f:k=dt c.S
  .subst f;intro d u;simp only[kI,if_true]at u⊢;have⟨Q,r,C,j⟩:=h.one;rw[u]at r;cases r;refine⟨C, ?_⟩;simp only[wP,if_true];rcases j with⟨j,h4⟩|⟨F,y',cs,t,j,h4,H,L,M,N,_⟩
   .exact .inl ⟨h4,j⟩
   .exact .inr ⟨F,y',cs,t,j,h4,H,L,M,VRel.frames E N⟩
  .by_cases q:kill=O k
   .intro d u;simp only[kI,zF f,zE q]at u;cases u
   .refine(w.blk k).frame E ?_ (λ_=>zF f) λb y u l J=> ?_
    .simp only[kI,zF f,zF q]
    .exact h.old b y J (h.low w f q u l)
def Moves.calm (m:Rel c)(h:Moves c kill b1 blk Z'){d:List Nat}(r: ∀k,kill=O k->k∈d):uO d c ⟨wP c b1,re c.S kill++[blk],Z',c.fb⟩:=by
 intro k w t f;have j:k≠(dt c.S):=by omega
 have l:kill≠O k:=λe=>t (r k e)
 simp only[kI,zF j,zF l];refine⟨f,λb n=> ?_⟩;cases g:(ae c.S k).dim with
 |none=>exact(f g).elim
 |some u=>
  have⟨y,_,_,q,_⟩:=m.block g n;rw[q];exact h.old b y q (h.low m j l f n)
end
def TA {c:Ctx}(g:Rel c){x:Ab.Blk}(m:blk.dim=O d)(j:1<=d.1)(q:x.es=d.1)(t:x.own=Za)(r:F2 (VRel c) blk.vals x.cells):
  Moves c Y (O c.Z.n) blk (c.Z.add x):=by
 refine⟨(λb h _ l=>by cases h;exact Nat.lt_irrefl _ (g.fbl _ l)),(λ_ h=>by cases h),λb y f=> ?_,Nat.le_succ _,λi y f _=> ?_,d,m,j, .inr ⟨c.Z.n,x,x.cells,[],rfl,zE rfl,q,λ_=>t,V2,r, .inl λz u=> ?_⟩⟩
 .simp only[Hp.add]at f⊢;split at f
  .omega
  .have:=g.ok b y f;omega
 .have:=g.ok i y f;simp only[Hp.add];rw[Zh];exact f
 .have:=g.ok _ _ u;omega
structure Writes (c:Ctx)(k b:Nat)(blk:Blk)(y':Ab.Blk):Prop where
 kz:(ae c.S k).frozen=Zb
 mu:c.μ k=O b
 dim:blk.dim=(ae c.S k).dim
 fz:blk.frozen=Zb
 one: ∃y cs rest d,c.Z.m b=O y/\(ae c.S k).dim=O d/\y'.es=d.1/\y'.own=Za/\(dt y'.cells)=dt y.cells/\y'.cells=cs++rest/\F2 (VRel c) blk.vals cs
section
variable {c:Ctx} {k b:Nat} {blk:Blk} {y':Ab.Blk}
def Writes.get (h:Writes c k b blk y')(i:Nat):ae (mx c.S k blk) i=if i=k then blk else ae c.S i:=by
 rw[yG];have:=mw (mH h.kz);by_cases f:i=k
 .rw[zE ⟨f,this⟩,zE f]
 .rw[zF (λe=>f e.1),zF f]
def Writes.low (g:Rel c)(h:Writes c k b blk y'){i f:Nat}(l:i≠k)(j:(ae c.S i).dim≠Y)(m:c.μ i=O f):f≠b:=by
 rintro rfl;exact l (g.inj k i f h.kz j h.mu m).symm
def Writes.le (r:Rel c)(h:Writes c k b blk y'):Le c ⟨c.μ,mx c.S k blk,c.Z.set b (O y'),c.fb⟩:=by
 refine⟨by simp[Fc],λi d _ g=> ?_,λi q g=> ?_,λi d x y _ g t j=> ?_,λx y j m=> ?_,λx y j m=> ?_,Nat.le_refl _,rfl⟩
 .simp only[h.get]at g;split at g
  .rename_i e;subst e;exact⟨h.dim▸g,rfl⟩
  .exact⟨g,rfl⟩
 .simp only[h.get];rw[zF];rintro rfl;rw[h.kz]at q;cases q
 .by_cases e:x=b
  .subst e;have⟨u,_,_,_,f,_,_,_,l,_⟩:=h.one;rw[j]at f;cases f;exact⟨y',Zx,l⟩
  .exact⟨y,by simp[Hp.set,e,j],rfl⟩
 .have n:x≠b:=by rintro rfl;exact m ⟨k,h.kz,h.mu⟩
  simp[Hp.set,n,j]
 .rintro⟨i,f,l⟩;simp only[h.get]at f;split at f
  .rename_i e;subst e;exact m ⟨i,h.kz,l⟩
  .exact m ⟨i,f,l⟩
def Writes.rel (f:Rel c)(h:Writes c k b blk y'):Rel ⟨c.μ,mx c.S k blk,c.Z.set b (O y'),c.fb⟩:=by
 have n:=h.le f
 have A: ∀i,(ae (mx c.S k blk) i).frozen=Zb->(ae c.S i).frozen=Zb:=by
  intro i l;rw[h.get]at l;split at l
  .rename_i e;subst e;exact h.kz
  .exact l
 have g: ∀i,(ae (mx c.S k blk) i).dim=(ae c.S i).dim:=by
  intro i;rw[h.get];split
  .rename_i e;subst e;exact h.dim
  .rfl
 refine⟨λx z r=> ?_,λi j x l I q B=>f.inj i j x (A i l) (by rw[<-g];exact I) q B,λi=> ?_,λi x l q=>f.fbk i x (by rw[<-g];exact l) q,f.fbl⟩
 .simp only[Hp.set]at r;split at r
  .rename_i e;subst e;have⟨y,_,_,_,C,_⟩:=h.one;exact f.ok _ _ C
  .exact f.ok _ _ r
 .by_cases e:i=k
  .subst e;intro d w;have⟨y,cs,t,J,C,u,D,E,K,F,H⟩:=h.one;have m:(ae c.S i).dim=O d:=by rw[<-g];exact w
   rw[m]at u;cases u;refine⟨(f.blk i d m).1, .inr ⟨b,y',cs,t,h.mu,Zx,D,λ_=>E,F, ?_⟩⟩;simp only[h.get,if_true];exact VRel.frames n H
  .refine(f.blk i).frame n (by simp only[h.get,zF e]) (λ_=>rfl) λx z w q r=> ?_
   have:=h.low f e w q;simp[Hp.set,this,r]
def Writes.calm (j:Rel c)(h:Writes c k b blk y'){d:List Nat}(l:k∈d):uO d c ⟨c.μ,mx c.S k blk,c.Z.set b (O y'),c.fb⟩:=by
 intro i _ n f;have g:i≠k:=by rintro rfl;exact n l
 simp only[h.get,zF g];refine⟨f,λx m=> ?_⟩;have:=h.low j g f m;simp[Hp.set,this]
end
end
section
open Bool renaming and_eq_true -> aB
open List renaming replicate -> bD, nil_append -> cL, append_assoc -> cN, drop_append -> cO, drop_of_length_le -> cP, length_append -> cQ, length_cons -> cR, length_take -> cS, replicate_succ -> cT, take_append_drop -> cU
open Nat renaming beq -> aD, le_of_ble_eq_true -> bB, eq_of_beq_eq_true -> cB, ble -> cD, le_refl -> cK, zero_add -> cM
section
variable {β:Type} {T:iU} {c:Ctx} {e:co} {ea:cm} {k:VV->ai->Option β} {y:β} {d:List Nat}
def VRel.bool_inv {b:Bool}(h:VRel c (.bool b) a):a= .bool b:=by cases h;rfl
def VRel.int_inv {n:Int}(h:VRel c (.int kd n) a):a= .int kd n:=by cases h;rfl
def VRel.str_inv {l:Zd}(h:VRel c (.str l) a): ∃s,a= .string s/\eg s=l:=by cases h;exact⟨_,rfl,ZI⟩
def VRel.agg_inv {l:List VV}(h:VRel c (.agg l) a): ∃as:Array Value,a= .agg as/\F2 (VRel c) l as.toList:=by cases h;exact⟨_,rfl,ZI⟩
def VRel.tup_inv {l:List VV}(h:VRel c (.tup l) a): ∃as:Array Value,a= .tuple as/\F2 (VRel c) l as.toList:=by cases h;exact⟨_,rfl,ZI⟩
def SW {p:Bool}{x z v:VV}{l m:Value}(h:al1 p x z=O v)(g:VRel c x l)(j:VRel c z m):VRel c v (cond p l m):=by
 unfold al1 at h;split at h
 .rename_i n r q t;cases f:Zc (n=q)with
  |false=>rw[f]at h;cases h
  |true=>
   rw[f]at h;cases h;have:=of_decide_eq_true f;subst this;rw[g.int_inv,j.int_inv];cases p<;>exact .int _ _
 .injection h with h
  subst h;rw[g.bool_inv,j.bool_inv];cases p<;>exact .bool _
 .injection h with h
  subst h;cases p<;>assumption
 .cases h
def ax2 (f:Rel c)(g:az c e ea)(h:k (ev e x) c.S=O y):ci T (.move x) ea c.Z (ji c d k y):=
 cu rfl (ji.same f (cn g x) h)
def az0 (l:Rel c)(g:az c e ea){t a b:Operand}{p:Bool}(n:ev e t= .bool p)(h:ai1 p (ev e a) (ev e b) c.S k=O y):ci T (.pick t a b) ea c.Z (ji c d k y):=by
 have j:=cn g t;rw[n]at j;have j:=j.bool_inv
 have f: ∀v,VRel c v (cond p (ea.ev a) (ea.ev b))->k v c.S=O y->ci T (.pick t a b) ea c.Z (ji c d k y):=by
  intro v r m;refine cu (v:=cond p (ea.ev a) (ea.ev b)) (Z':=c.Z) ?_ (ji.same l r m);simp only[AOp.run,j];cases p<;>rfl
 unfold ai1 at h;split at h
 .rename_i v q;exact f v (SW q (cn g a) (cn g b)) h
 .cases p with
  |true=>exact f _ (cn g a) h
  |false=>exact f _ (cn g b) h
def ji.new {v:Value}{g:VV}{b1:Option Nat}{kill:Option Nat}(f:Rel c)(h:Moves c kill b1 blk Z')(j: ∀q,kill=O q->q∈d)(m:VRel ⟨wP c b1,re c.S kill++[blk],Z',c.fb⟩ g v)(l:k g (re c.S kill++[blk])=O y):ji c d k y v Z':=
 ⟨g,_,rfl,h.le f,h.rel f,h.calm f j,m,l⟩
def Wa {x:Ab.Blk}{dm:Nat×Nat}(_:blk.dim=O dm):VRel ⟨wP c (O c.Z.n),re c.S Y++[blk],c.Z.add x,c.fb⟩ (.ptr (dt c.S) 0) (.pointer (O ⟨c.Z.n,0,Y⟩)):=by
 refine .ptr (by simp[re]) rfl λf _=>⟨c.Z.n, ?_,rfl⟩
 simp[wP]
def an6 : ∀{z:List Value},z.all aO0=Za->z=bD (dt z) (.int .u8 0)
 |[],_=>rfl
 |v::z,h=>by
  rw[List.all_cons,aB]at h
  have g:v= .int .u8 0:=by
   have f:=h.1;unfold aO0 at f;split at f
   .rw[of_decide_eq_true f]
   .cases f
  rw[cR,cT,<-an6 h.2,g]
def yk (es:Nat)(z:List Value):(EM es z).dim=O (es,dt z)/\(EM es z).frozen=Zb/\∀c:Ctx,F2 (VRel c) (EM es z).vals z:=by
 unfold EM;cases f:TL es z with
 |false=>
  rw[zD];exact⟨by simp[Blk.dim],rfl,λc=>FO c z⟩
 |true=>
  rw[zC];unfold TL at f;rw[aB,aB]at f;have j:=cB f.1.1;subst j;refine⟨by simp[Blk.dim,Sh.w],rfl,λc=> ?_⟩;have l:=an6 f.2
  have g: ∀n,F2 (VRel c) (fO (.int .u8) (bD n (0:Int))) (bD n (.int .u8 0)):=by
   intro n;induction n with
   |zero=>exact .nil
   |succ n m=>exact .cons (.int _ _) m
  have h:=g (dt z);rw[<-l]at h;exact h
def YR (g:Rel c){es:Nat}{z:List Value}(h:gd (cD 1 es) (k (.ptr (dt c.S) 0) (c.S++[EM es z]))=O y):ci T (.alloc es z) ea c.Z (ji c d k y):=by
 have⟨j,l⟩:=au h;have⟨f,n,m⟩:=yk es z;exact cu rfl (ji.new (kill:=Y) g (TA g (blk:=EM es z) (x:=⟨z,Za,es⟩) (d:=(es,dt z)) f (bB j) rfl rfl (m c)) (λ_ h=>by cases h) (Wa (dm:=(es,dt z)) f) l)
def aL5 (g:Rel c)(m:az c e ea){es:Nat}(h:gd (cD 1 es&&pF (nv (ev e x))) (k (.ptr (dt c.S) 0) (c.S++[.cells es Zb (nv (ev e x))]))=O y):ci T (.box es x) ea c.Z (ji c d k y):=by
 have⟨f,l⟩:=au h;rw[aB]at f;have j:=IE (cn m x) f.2;refine cu (by simp only[AOp.run];rw[zE (kX j f.2)]) (ji.new (kill:=Y) g (TA g (blk:= .cells es Zb (nv (ev e x))) (x:=⟨cellsOf (ea.ev x),Za,es⟩) (d:=(es,dt (nv (ev e x)))) rfl (bB f.1) rfl rfl j) (λ_ h=>by cases h) (Wa (dm:=(es,_)) rfl) l)
def yn (m:az c e ea): ∀(j:List (Nat×Nat×Operand)) {cs r:List VV} {as:List Value},JE cs (Bv e j)=O r->F2 (VRel c) cs as->∃l,EU as (j.map λ(o,s,x)=>(o,s,ea.ev x))=O l/\F2 (VRel c) r l
 |[],cs,r,as,h,g=>by
  injection h with h
  subst h;exact⟨as,rfl,g⟩
 |(o,s,x)::j,cs,r,as,h,g=>by
  simp only[Bv,List.map_cons,JE]at h;cases f:(aD (nv (ev e x)).length s&&cD (o+s) cs.length&&(nv (ev e x)).all ay8)with
  |false=>rw[f]at h;cases h
  |true=>
   rw[f,zC]at h;rw[aB,aB]at f;have q:=cB f.1.1;have A:=bB f.1.2;have n:=IE (cn m x) f.2;have t:(cellsOf (ea.ev x)).length=s:=by rw[<-n.length];exact q
   have B:as.length=cs.length:=g.length.symm;obtain⟨l,u,w⟩:=yn m j h (((g.take o).append n).append (g.drop (o+s)));refine⟨l, ?_,w⟩;simp only[List.map_cons,EU];rw[zE ⟨t,V1⟩];exact u
def Y9 (l:Rel c)(m:az c e ea){z:List Value}{f:List (Nat×Nat×Operand)}{cs:List VV}(n:JE (z.map Ki) (Bv e f)=O cs)(h:k (.agg cs) c.S=O y):ci T (.build z f) ea c.Z (ji c d k y):=by
 have⟨q,g,j⟩:=yn m f n (FO c z);exact cu (by simp only[AOp.run,g];rfl) (ji.same l (.agg (by simpa using j)) h)
def zS {dm:Nat×Nat}{n m:Nat}{b:Nat}{yb:Ab.Blk}{kill:Option Nat}(h:blk.dim=O dm)(g:n*dm.1=dm.2)(l:n<=m)(q:Z'.m b=O yb)(j:m*dm.1<=dt yb.cells):
  VRel ⟨wP c (O b),re c.S kill++[blk],Z',c.fb⟩ (.full (dt c.S)) (.slice (O ⟨b,0,Y⟩) n m):=by
 refine .full (by simp[yB]) rfl λr f=> ?_
 simp only[kI,if_true]at f;rw[h]at f;cases f;exact⟨n,g, .inr ⟨b,m,yb,V2,by simp[wP],by rw[cM,g];exact cK _,l,q,by rw[cM];exact j⟩⟩
def Jh : ∀(n:Nat) (z:List Value),F2 (VRel c) ((bD n (z.map Ki)).flatten) (ei z n)
 |0,_=> .nil
 |n+1,z=>by
  simp only[ei,cT,List.flatten_cons];exact(FO c z).append (Jh n z)
def Nt (m:Rel c)(t:az c e ea){es ln:Nat}{z:List Value}{j:List (Nat×Nat×Operand)}{cs:List VV}(u:JE ((bD ln (z.map Ki)).flatten) (Bv e j)=O cs)
  (h:gd (pF cs&&aD (ln*es) cs.length&&cD 1 es) (k (.full c.S.length) (c.S++[.cells es Zb cs]))=O y):ci T (.buildSlice es ln z j) ea c.Z (ji c d k y):=by
 obtain⟨f,q⟩:=au h;rw[aB,aB]at f;obtain⟨n,r,g⟩:=yn t j u (Jh ln z);have l:=cB f.1.2;refine cu (by simp only[AOp.run,r];rw[zE (kX g f.1.1)]) (ji.new (kill:=Y) m (TA m (blk:= .cells es Zb cs) (x:=⟨n,Za,es⟩) (d:=(es,cs.length)) rfl (bB f.2) rfl rfl g) (λ_ h=>by cases h) ?_ q);exact zS (dm:=(es,cs.length)) (yb:=⟨n,Za,es⟩) rfl l (cK _) (zE rfl) (by rw[<-g.length];exact Nat.le_of_eq l)
def aw4 (f:Rel c)(r:az c e ea)(h:OC c.S 1 Zb (ev e x) k=O y):ci T (.load x) ea c.Z (ji c d k y):=by
 have⟨b,o,blk,g,j,l,_⟩:=SB f h (cn r x);have⟨u,w,m,n,q⟩:=l rfl;exact cu (by simp only[AOp.run,g,j,m];rfl) (ji.same f n q)
def af1 (f:Rel c)(t:az c e ea){n:Nat}(h:OC c.S n Za (ev e x) k=O y):ci T (.loadN n x) ea c.Z (ji c d k y):=by
 have⟨b,o,blk,g,j,_,l⟩:=SB f h (cn t x);have⟨u,w,m,q,r⟩:=l rfl;exact cu (by simp only[AOp.run,g,j,m];rfl) (ji.same f (.agg (by simpa using q)) r)
def Ce : ∀(vs cells:List Value) (o:Nat),dt (lg cells o vs)=dt cells
 |[],_,_=>rfl
 |v::vs,cells,o=>by simp only[lg];rw[Ce vs];simp
def F2.set {l:List VV}{m:List Value}(h:F2 (VRel c) l m){v:VV}(j:VRel c v a): ∀i,F2 (VRel c) (l.set i v) (m.set i a):=by
 induction h with
 |nil=>intro i;simp;exact .nil
 |cons f g n=>
  intro i;cases i with
  |zero=>exact .cons j g
  |succ i=>exact .cons f (n i)
def MP : ∀{vs:List VV} {as:List Value},F2 (VRel c) vs as->∀{l:List VV} {m:List Value} (o:Nat),F2 (VRel c) l m->F2 (VRel c) (aA5 l o vs) (lg m o as)
 |_,_, .nil,_,_,_,h=>h
 |_,_, .cons f g,_,_,o,h=>MP g (o+1) (F2.set h f o)
def E7 : ∀(vs:List Value) (cs rest:List Value) (o:Nat),o+dt vs<=dt cs->lg (cs++rest) o vs=lg cs o vs++rest
 |[],_,_,_,_=>rfl
 |v::vs,cs,rest,o,h=>by
  simp only[cR]at h;simp only[lg];rw[List.set_append_left _ _ V1,E7 vs _ _ _ V3]
def zV : ∀(vs:List Value) (pre cs:List Value) (o:Nat),lg (pre++cs) (dt pre+o) vs=pre++lg cs o vs
 |[],_,_,_=>rfl
 |v::vs,pre,cs,o=>by
  simp only[lg];rw[List.set_append_right _ _ V1,Nat.add_sub_cancel_left,Nat.add_assoc,zV vs]
def FX {blk:Ab.Blk}{o:Nat}{vs:List Value}(f:blk.own=Za)(g:o+dt vs<=dt blk.cells)(h:vs.all one=Za):Bx blk o vs=O ⟨lg blk.cells o vs,Za,blk.es⟩:=by
 unfold Bx;rw[zE ⟨f,g,h⟩,f]
def Io (F:Rel c){q es o b:Nat}{l l' vs:List VV}{as:List Value}(g:ae c.S q= .cells es Zb l)(C:c.μ q=O b)(A:F2 (VRel c) vs as)(D:pF vs=Za)(I:o+vs.length<=l.length)
  (h: ∀cs,F2 (VRel c) l cs->F2 (VRel c) l' (lg cs o as)): ∃blk,c.Z.m b=O blk/\∃f,Bx blk o as=O f/\Writes c q b (.cells es Zb l') f:=by
 obtain⟨r,cs,j,t,E,u,w,n⟩:=F.block (k:=q) (d:=(es,l.length)) Zj C;rw[g]at u n;have B:=F2.length n;simp only[Blk.vals]at B;have H:=F2.length A;refine⟨r,t,_,FX (u rfl) (by rw[w,cQ];omega) (kX A D),⟨by rw[g];rfl,C, ?_,rfl,r,lg cs o as,j,(es,l.length),t,by rw[g];rfl,E,rfl,Ce _ _ _, ?_,h cs n⟩⟩
 .have:=F2.length (h cs n);rw[Ce]at this;simp only[g,Blk.dim];rw[this,<-B]
 .show lg r.cells o as=_;rw[w,E7 _ _ _ _ V1]
def MO {v:VV}{A:Value}(u:VRel c v A): ∀{cs:List VV} {as:List Value} {i j:Nat} {r:List VV},MN v cs i j=O r->F2 (VRel c) cs as->F2 (VRel c) r (if j<=i then as.set (i-j) A else as)
 |[],_,i,j,r,h,n=>by
  cases n;cases h;simp;exact .nil
 |w::cs,_,i,j,r,h,n=>by
  cases n with
  |cons B C=>
   rename_i a as;simp only[MN]at h;cases t:al1 (aD i j) v w with
   |none=>rw[t]at h;cases h
   |some x=>
    rw[t]at h;simp only[zG]at h;cases q:MN v cs i (j+1)with
    |none=>rw[q]at h;cases h
    |some F=>
     rw[q]at h;cases h;have f:=MO u q C;have g:=SW t u B;by_cases l:i=j
     .subst l;rw[Zh]at f;rw[zE (cK _),Nat.sub_self];have:aD i i=Za:=Nat.beq_refl i;rw[this]at g;exact .cons g f
     .have D:aD i j=Zb:=by
       cases E:aD i j with
       |false=>rfl
       |true=>exact(l (cB E)).elim
      rw[D]at g;by_cases m:j+1<=i
      .rw[zE m]at f;rw[Zg,show i-j=(i-(j+1))+1 by omega];exact .cons g f
      .rw[zF m]at f;rw[Zh];exact .cons g f
def Ob {s:Sh}{x:El s}: ∀{l:List (El s)} {i:Nat},i<dt l->fO s (l.set i x)=(fO s l).take (i*s.w)++(dy s x++(fO s l).drop (i*s.w+s.w))
 |[],_,h=>by simp at h
 |a::l,0,_=>by
  rw[List.set_cons_zero,gz,gz,Nat.zero_mul,List.take_zero,cL,cM,cO,ej,Nat.sub_self,List.drop_zero,cP (by rw[ej];exact cK _),cL]
 |a::l,i+1,h=>by
  have f:(i+1)*s.w=s.w+i*s.w:=by rw[Nat.succ_mul];omega
  rw[List.set_cons_succ,gz,gz,Ob V9,f,List.take_append,cO,ej,List.take_of_length_le (l:=dy s a) (by rw[ej];omega),cP (l:=dy s a) (by rw[ej];omega),cL,cN,show s.w+i*s.w-s.w=i*s.w by omega,show s.w+i*s.w+s.w-s.w=i*s.w+s.w by omega]
def LK (v:VV){q:Nat}(h:zt v=O q):q∈ah8 (zt v):=by rw[h];exact List.mem_singleton.2 rfl
def MQ {vs cs:List Value}{p o w:Nat}(g:o+dt vs<=w)(l:p+w<=dt cs):lg cs (p+o) vs=cs.take p++(lg ((cs.drop p).take w) o vs++cs.drop (p+w)):=by
 have f:cs=cs.take p++((cs.drop p).take w++cs.drop (p+w)):=by
  rw[<-List.drop_drop,cU,cU]
 have h:dt (cs.take p)=p:=by rw[cS];omega
 have j:dt ((cs.drop p).take w)=w:=by rw[cS,List.length_drop];omega
 conv=>lhs;rw[f]
 have:=zV vs (cs.take p) ((cs.drop p).take w++cs.drop (p+w)) o;rw[h]at this;rw[this,E7 _ _ _ _ (by rw[j];exact g)]
def am0 (hR:Rel c)(he:az c e ea){n:Nat}{a:Operand}(hd: ∀q,zt (ev e a)=O q->q∈d)
  (h:gd (aD (nv (ev e x)).length n&&pF (nv (ev e x))) (UZ c.S (ev e a) (nv (ev e x)) λS'=>k .undef S')=O y):ci T (.store n a x) ea c.Z (ji c d k y):=by
 obtain⟨V,f⟩:=au h;rw[aB]at V;have hn:=cB V.1;have Q:=IE (cn he x) V.2;have hlen:(cellsOf (ea.ev x)).length=n:=by rw[<-Q.length];exact hn
 have ha:=cn he a
 have U: ∀(M:Ctx) (q b o:Nat) (j:Ab.Blk) (blk:Blk) (g:Ab.Blk),M.Z=c.Z->Le c M->uO d c M->Rel M->q∈d->ea.ev a= .pointer (O ⟨b,o,Y⟩)->c.Z.m b=O j->Bx j o (cellsOf (ea.ev x))=O g->Writes M q b blk g->
   k .undef (mx M.S q blk)=O y->ci T (.store n a x) ea c.Z (ji c d k y):=by
  intro M q b o j blk g hZ P N r hq F H J I K;refine cu (v:=undef) (Z':=c.Z.set b (O g)) ?_ ?_
  .simp only[AOp.run,F,hlen,if_true,H,J]
  .rw[<-hZ];exact⟨.undef,_,rfl,P.trans (I.le r),I.rel r,N.trans (I.calm r hq) P, .undef _,K⟩
 generalize cellsOf (ea.ev x)=as at*;generalize ev e a=av at*;generalize nv (ev e x)=L at*;unfold UZ at f;cases av with
 |ptr q o=>
  simp only at f;cases t:ae c.S q with
  |dead=>rw[t]at f;cases f
  |arr s z l=>rw[t]at f;cases f
  |cells es z l=>
   rw[t]at f;cases z with
   |true=>cases f
   |false=>
    obtain⟨F,H⟩:=au f;cases ha with
    |ptr hk _ C=>
     obtain⟨b,W,B⟩:=C (es,l.length) (by rw[t];rfl);obtain⟨j,J,g,I,K⟩:=Io hR t W Q V.2 (bB F) λcs A=>MP Q o A
     exact U c q b o j _ g rfl (Le.refl c) (uO.refl d c) hR (hd q rfl) B J I K H
 |pix q o m i=>
  simp only at f;split at f
  .rename_i es l v t;obtain⟨F,H⟩:=au f;have F:=bB F;split at H
   .rename_i l' hs;cases Q with
    |cons hv hnil=>
     rename_i va as';cases hnil;cases ha with
     |pix hk _ hi C=>
      obtain⟨b,W,B⟩:=C (es,l.length) (by rw[t];rfl)
      obtain⟨j,J,g,I,K⟩:=Io (l':=l.take o++l'++l.drop (o+m)) (o:=o+i) hR t W (.cons hv .nil) V.2 V3 λcs A=>by
       have hl:=A.length;rw[MQ (w:=m) V3 V1,cN];have h8:=MO hv hs ((A.drop o).take m);rw[zE (Nat.zero_le _),Nat.sub_zero]at h8;exact(A.take o).append (h8.append (A.drop _))
      exact U c q b (o+i) j _ g rfl (Le.refl c) (uO.refl d c) hR (hd q rfl) B J I K H
   .cases H
  .cases f
 |pel q i o=>
  simp only at f;cases t:ae (He c.S L) q with
  |dead=>rw[t]at f;cases f
  |cells es z l=>rw[t]at f;cases f
  |arr s z l=>
   rw[t]at f;cases z with
   |true=>cases f
   |false=>
    simp only at f;cases E:l[i]? with
    |none=>rw[E]at f;cases f
    |some x'=>
     rw[E]at f;simp only[zG]at f;split at f
     .rename_i z hof;obtain⟨F,H⟩:=au f;have F:=bB F;have D:=FI c.S L;have r:Rel ⟨c.μ,He c.S L,c.Z,c.fb⟩:=D.rel hR
      have hi:i<l.length:=by
       rcases Nat.lt_or_ge i l.length with h|h
       .exact h
       .rw[List.getElem?_eq_none h]at E;cases E
      have hx1:F2 (VRel ⟨c.μ,He c.S L,c.Z,c.fb⟩) L as:=VRel.frames D.le Q;cases ha with
      |pel hk _ C=>
       have u:(ae (He c.S L) q).dim=O (s.w,l.length*s.w):=by rw[t];rfl
       obtain⟨b,W,B⟩:=C (s.w,l.length*s.w) (by rw[<-D.dim];exact u);obtain⟨y0,cs,rest,J,I,K,h8,h9⟩:=r.block (k:=q) u W;rw[t]at K h9;have hl:=h9.length;simp only[Blk.vals,gH]at hl;have P:i*s.w+s.w<=l.length*s.w:=by rw[<-Nat.succ_mul];exact Nat.mul_le_mul_right _ hi
       have hlen':L.length=as.length:=Q.length;refine U ⟨c.μ,He c.S L,c.Z,c.fb⟩ q b (i*s.w+o) y0 (.arr s Zb (l.set i z)) _ rfl D.le (D.calm d) r (hd q rfl) B J (FX (K rfl) (by rw[h8,cQ];omega) (kX Q V.2)) ⟨by rw[t];rfl,W,by rw[u];simp[Blk.dim],rfl,y0,lg cs (i*s.w+o) as,rest,_,J,u,I,rfl,Ce _ _ _,by rw[h8,E7 _ _ _ _ V1], ?_⟩ H;obtain⟨pre,X,h11,h12⟩:=mJ r s _ _ _ hof;rw[List.append_nil]at X;subst X;simp only[Blk.vals];rw[Ob hi,MQ (w:=s.w) V1 V1];refine(h9.take _).append (F2.append (h12 _ (MP hx1 o ?_)) (h9.drop _));have h13:=(h9.drop (i*s.w)).take s.w;simp only[Blk.vals]at h13
       rwa [IP E]at h13
     .cases f
 |_=>cases f
end
end
section
open Bool renaming and_eq_true -> aD, false_eq_true -> bB
open List renaming extract_eq_take_drop -> bD
open Nat renaming eq_of_beq_eq_true -> cB
open Option renaming map_some -> aB
section
variable {β:Type} {T:iU} {c:Ctx} {e:co} {ea:cm} {k:VV->ai->Option β} {y:β} {d:List Nat}
def wI (s:ByteArray):dt (eg s)=s.size:=by simp[eg]
def LA (s t:ByteArray):eg (s++t)=eg s++eg t:=by
 simp[eg,ByteArray.data_append]
def Fl : ∀{l m:List UInt8},(l.map λb=>(b.toNat:Int))=m.map (λb=>(b.toNat:Int))->l=m
 |[],[],_=>rfl
 |[],_::_,h=>by simp at h
 |_::_,[],h=>by simp at h
 |a::l,b::m,h=>by
  simp only[List.map_cons,List.cons.injEq]at h;rw[Fl h.2,UInt8.toNat_inj.1 (Int.ofNat.inj h.1)]
def JN (s:ByteArray):s.toList=s.data.toList:=by
 rw[ByteArray.toList_eq]
def IC (s t:ByteArray):(s.toList==t.toList)=Zc (eg s=eg t):=by
 rw[JN,JN];by_cases h:s.data.toList=t.data.toList
 .simp[eg,h]
 .have:eg s≠eg t:=λe=>h (Fl e)
  have f: ¬s.data=t.data:=λe=>h (by rw[e])
  simp[this,f]
def W0 {op:BinOp}{a b:Int}{j:VV->Option β}(h:TE op kd a b j=O y): ∃v l,VL op kd a b=O l/\VRel c v l/\j v=O y:=by
 cases op<;>simp only[TE]at h<;>try(cases h;done)
 case add=>exact⟨_,_,rfl, .int _ _,h⟩
 case sub=>exact⟨_,_,rfl, .int _ _,h⟩
 case mul=>exact⟨_,_,rfl, .int _ _,h⟩
 case quo=>
  have⟨f,g⟩:=au h;exact⟨_,_,zF (of_decide_eq_true f), .int _ _,g⟩
 case rem=>
  have⟨f,g⟩:=au h;exact⟨_,_,zF (of_decide_eq_true f), .int _ _,g⟩
 case and=>exact⟨_,_,rfl, .int _ _,h⟩
 case or=>exact⟨_,_,rfl, .int _ _,h⟩
 case xor=>exact⟨_,_,rfl, .int _ _,h⟩
 case andNot=>exact⟨_,_,rfl, .int _ _,h⟩
 case eql=>
  refine⟨_,_,rfl, ?_,h⟩;have:(a==b)=Zc (a=b):=by by_cases h:a=b<;>simp[h]
  rw[this];exact .bool _
 case neq=>
  refine⟨_,_,rfl, ?_,h⟩;have:(a !=b)=Zc (a≠b):=by by_cases h:a=b<;>simp[h]
  rw[this];exact .bool _
 case lss=>exact⟨_,_,rfl, .bool _,h⟩
 case leq=>exact⟨_,_,rfl, .bool _,h⟩
 case gtr=>exact⟨_,_,rfl, .bool _,h⟩
 case geq=>exact⟨_,_,rfl, .bool _,h⟩
def aK9 (C:Rel c)(r:az c e ea){op:BinOp}(h:aK8 op (ev e x) (ev e z) (λv=>k v c.S)=O y):ci T (.bin op x z) ea c.Z (ji c d k y):=by
 have u:=cn r x;have w:=cn r z
 have f: ∀v n,Bo op (ea.ev x) (ea.ev z)=O n->VRel c v n->k v c.S=O y->ci T (.bin op x z) ea c.Z (ji c d k y):=λv n g j q=>
  cu (by simp only[AOp.run,g];rfl) (ji.same C j q)
 generalize ev e x=F at*;generalize ev e z=H at*;unfold aK8 at h;split at h
 .rename_i D a E b;rw[u.int_inv,w.int_inv]at f;cases l:vY op with
  |true=>
   rw[l,zC]at h;simp only[Bo,l,if_true]at f;cases op<;>simp only[al5]at h<;>try(cases h;done)
   .obtain⟨g,j⟩:=au h;have g:=of_decide_eq_true g;refine f _ _ ?_ (.int _ _) j;simp only[MT];rw[Zh]
   .obtain⟨g,j⟩:=au h;have g:=of_decide_eq_true g;refine f _ _ ?_ (.int _ _) j;simp only[MT];rw[Zh]
  |false=>
   rw[l,zD]at h;cases m:Zc (D=E)with
   |false=>rw[m]at h;cases h
   |true=>
    rw[m,zC]at h;have m:=of_decide_eq_true m;subst m;have⟨v,n,g,j,q⟩:=W0 (c:=c) h;refine f v n ?_ j q;simp only[Bo,l,bB,if_false,if_true,g]
 .rename_i a b;obtain⟨s,A,rfl⟩:=u.str_inv;obtain⟨t,B,rfl⟩:=w.str_inv;rw[A,B]at f;cases l:vY op with
  |true=>rw[l]at h;cases h
  |false=>
   rw[l,zD]at h;simp only[Bo,l,bB,if_false]at f;cases op<;>simp only[aY3]at h<;>try(cases h;done)
   .obtain⟨g,j⟩:=au h;have g:dt (eg s)+dt (eg t)<=9223372036854775807:=Nat.le_of_ble_eq_true g;rw[wI,wI]at g;refine f _ _ ?_ (.str (LA s t)) j;simp only[Ws];rw[zF];show¬(((s.size+t.size:Nat):Int) > 9223372036854775807);omega
   .refine f _ _ rfl ?_ h;rw[IC];exact .bool _
   .refine f _ _ rfl ?_ h;rw[IC];have:(!Zc (eg s=eg t))=Zc (eg s≠eg t):=by simp
    rw[this];exact .bool _
 .cases h
def uJ (h:b.live=Za): ∃dm,b.dim=O dm:=by cases b<;>first|(cases h;done)|exact⟨_,rfl⟩
def GS {v:VV}(h:VRel c v a)(l:L5 c.S v=Za): ∃x,a= .pointer (O x):=by
 cases v<;>try(cases l;done)
 case ptr q o=>
  have⟨f,j⟩:=uJ l;cases h with
  |ptr m _ g=>have⟨b,_,h⟩:=g f j;exact⟨_,h⟩
 case pix q o n i=>
  have⟨f,j⟩:=uJ l;cases h with
  |pix m _ _ g=>have⟨b,_,h⟩:=g f j;exact⟨_,h⟩
 case pel q i o=>
  have⟨f,j⟩:=uJ l;cases h with
  |pel m _ g=>have⟨b,_,h⟩:=g f j;exact⟨_,h⟩
 case pin s x o=>cases h;exact⟨_,rfl⟩
def Sd (q:Rel c)(t:az c e ea)(h:(match ev e x with
  | .fn f a b=>k (.fn f a b) c.S
  |v=>gd (L5 c.S v) (k v c.S))=O y):ci T (.nilCheck x) ea c.Z (ji c d k y):=by
 have g:=cn t x;split at h
 .rename_i f a b u;rw[u]at g
  have: ∃l m,ea.ev x= .func (.func f) l m:=by
   generalize ea.ev x=w at g;cases g;exact⟨_,_,rfl⟩
  have⟨l,m,j⟩:=this;rw[j]at g;exact cu (by simp only[AOp.run,j]) (ji.same q g h)
 .obtain⟨j,r⟩:=au h;have⟨p,n⟩:=GS g j;rw[n]at g;exact cu (by simp only[AOp.run,n]) (ji.same q g r)
def af8 {b:Bool}:(b !=neg)=af7 neg b:=by cases neg<;>cases b<;>rfl
def aM7 (w:Rel c)(u:az c e ea){kd:Nat}{p:Bool}(f:aM6 c.S kd (ev e x) (ev e z)=O p)(h:k (.bool (af7 neg p)) c.S=O y):ci T (.eqv kd neg x z) ea c.Z (ji c d k y):=by
 have j:=cn u x;have l:=cn u z
 have g:RI kd (ea.ev x) (ea.ev z)=O p->ci T (.eqv kd neg x z) ea c.Z (ji c d k y):=λn=>
  cu (v:= .bool (p !=neg)) (by simp only[AOp.run,n];rfl) (ji.same w (by rw[af8];exact .bool _) h)
 generalize ev e x=A at*;generalize ev e z=B at*;unfold aM6 at f;split at f
 .injection f with f;subst f
  rw[j.bool_inv,l.bool_inv]at g;exact g rfl
 .injection f with f;subst f
  refine g ?_;generalize ea.ev x=r at*;generalize ea.ev z=t at*;cases j;cases l;rfl
 .cases m:L5 c.S B with
  |false=>rw[m]at f;cases f
  |true=>
   rw[m]at f;cases f
   refine g ?_;have⟨q,n⟩:=GS l m;rw[n];generalize ea.ev x=r at*;cases j;rfl
 .cases m:L5 c.S A with
  |false=>rw[m]at f;cases f
  |true=>
   rw[m]at f;cases f
   refine g ?_;have⟨q,n⟩:=GS j m;rw[n];generalize ea.ev z=t at*;cases l;rfl
 .injection f with f;subst f
  refine g ?_;generalize ea.ev x=r at*;generalize ea.ev z=t at*;cases j;cases l;rfl
 .injection f with f;subst f
  refine g ?_;generalize ea.ev x=r at*;generalize ea.ev z=t at*;cases j;cases l;rfl
 .injection f with f;subst f
  refine g ?_;generalize ea.ev x=r at*;generalize ea.ev z=t at*;cases j;cases l;rfl
 .injection f with f;subst f
  refine g ?_;generalize ea.ev x=r at*;generalize ea.ev z=t at*;cases j;cases l;rfl
 .cases f
def at9 {kd:Nat}{v w:VV}{l m:Value}{p:Bool}(h:Xk kd v w=O p)(g:VRel c v l)(j:VRel c w m):wM kd l m=O p:=by
 unfold Xk at h;split at h
 .injection h with h;subst h
  rw[g.bool_inv,j.bool_inv];rfl
 .rename_i r a u b;cases f:Zc (r=u)with
  |false=>rw[f]at h;cases h
  |true=>
   rw[f]at h;cases h
   rw[g.int_inv,j.int_inv];simp only[wM,of_decide_eq_true f,if_true];by_cases e:a=b<;>simp[e]
 .injection h with h;subst h
  obtain⟨s,n,rfl⟩:=g.str_inv;obtain⟨t,q,rfl⟩:=j.str_inv;rw[n,q];simp only[wM];rw[IC]
 .cases h
def au0 : ∀{f:List Nat} {l m:List VV} {u A:List Value} {p:Bool},NC f l m=O p->F2 (VRel c) l u->F2 (VRel c) m A->kc f u A=O p:=by
 intro f;induction f with
 |nil=>
  intro l m u A p h B C;cases B<;>cases C<;>simp only[NC]at h<;>try(cases h;done)
  exact h
 |cons kd f P=>
  intro l m u A p h B C;cases B with
  |nil=>cases m<;>simp[NC]at h
  |cons M I=>
   cases C with
   |nil=>cases f<;>simp[NC]at h
   |cons N J=>
    rename_i v Q K F w S L H
    have t: ∀q r,Xk kd v w=O q->NC f K L=O r->p=(q&&r)->kc (kd::f) (Q::F) (S::H)=O p:=by
     intro q r g n j;simp only[kc,at9 g M N];cases q with
     |false=>simp[j]
     |true=>rw[P n I J,j];simp
    unfold NC at h;split at h
    .rename_i g n j;cases g
    .rename_i g n j;cases g;cases n;cases j;cases I;cases J;exact t p Za h rfl V2
    .rename_i g n j;cases g;cases n;cases j;cases D:Xk kd v w with
     |none=>rw[D]at h;cases h
     |some q=>
      rw[D]at h;simp only[zG]at h;cases E:NC f K L with
      |none=>rw[E]at h;cases h
      |some r=>
       rw[E]at h;injection h with h
       exact t q r D E h.symm
    .cases h
def TX (w:Rel c)(f:az c e ea){l:List Nat}{a b:List VV}{p:Bool}(t:ev e x= .agg a)(u:ev e z= .agg b)(A:NC l a b=O p)(h:k (.bool (af7 neg p)) c.S=O y):
  ci T (.eqCells neg l x z) ea c.Z (ji c d k y):=by
 have g:=cn f x;have j:=cn f z;rw[t]at g;rw[u]at j;have⟨B,m,q⟩:=g.agg_inv;have⟨C,n,r⟩:=j.agg_inv;exact cu (v:= .bool (p !=neg)) (by simp only[AOp.run,m,n,au0 A q r];rfl) (ji.same w (by rw[af8];exact .bool _) h)
def aY6 (j:Rel c)(l:az c e ea){op:UnOp}(h:unK op (ev e x) (λv=>k v c.S)=O y):ci T (.un op x) ea c.Z (ji c d k y):=by
 have f:=cn l x;unfold unK at h;split at h
 .rename_i kd n g;rw[g]at f;exact cu (by simp only[AOp.run,f.int_inv];rfl) (ji.same j (.int _ _) h)
 .rename_i kd n g;rw[g]at f;exact cu (by simp only[AOp.run,f.int_inv];rfl) (ji.same j (.int _ _) h)
 .rename_i b g;rw[g]at f;exact cu (by simp only[AOp.run,f.bool_inv];rfl) (ji.same j (.bool _) h)
 .cases h
def L3 {v:VV}{n:Int}(h:Oh v=O n)(f:VRel c v a): ∃kd,a= .int kd n:=by
 cases v<;>simp only[Oh]at h<;>try(cases h;done)
 cases h
 exact⟨_,f.int_inv⟩
def as6 (f:Rel c)(g:az c e ea){n:Int}(j:Oh (ev e x)=O n)(h:k (.int kd (kd.wrap n)) c.S=O y):ci T (.conv kd x) ea c.Z (ji c d k y):=by
 have⟨m,l⟩:=L3 j (cn g x);exact cu (by simp only[AOp.run,l];rfl) (ji.same f (.int _ _) h)
def XL (j:Rel c)(g:az c e ea){f:Nat}{a b:List Operand}(h:k (.fn f (a.map (ev e)) (b.map (ev e))) c.S=O y):ci T (.mkFunc f a b) ea c.Z (ji c d k y):=
 cu rfl (ji.same j (.fn (by simpa using Ky g a) (by simpa using Ky g b)) h)
def Xm (q:Rel c)(B:az c e ea){o n:Nat}{cs:List VV}(C:ev e x= .agg cs)(h:cond agg (k (.agg (BZ cs o n)) c.S) (XT c.S (nth cs o) k)=O y):ci T (.fieldV o n agg x) ea c.Z (ji c d k y):=by
 have r:=cn B x;rw[C]at r;have⟨j,l,m⟩:=r.agg_inv;cases agg with
 |true=>
  refine cu (v:= .agg (j.extract o (o+n))) (by simp only[AOp.run,l];rfl) (ji.same q (.agg ?_) h);have:=(m.drop o).take n;simpa[BZ,Array.toList_extract,bD]using this
 |false=>
  rw[zD]at h;cases g:nth cs o with
  |none=>rw[g]at h;cases h
  |some w=>
   rw[g]at h;have⟨u,t,A⟩:=F2.nth m g;have f:j[o]?=O u:=by simpa using t
   exact cu (by simp only[AOp.run,l,f];rfl) (ji.same q A h)
def TZ (t:Rel c)(A:az c e ea){i:Nat}{cs:List VV}(B:ev e x= .tup cs)(h:XT c.S (nth cs i) k=O y):ci T (.extract x i) ea c.Z (ji c d k y):=by
 have j:=cn A x;rw[B]at j;have⟨l,m,n⟩:=j.tup_inv;cases g:nth cs i with
 |none=>rw[g]at h;cases h
 |some w=>
  rw[g]at h;have⟨u,q,r⟩:=F2.nth n g;have f:l[i]?=O u:=by simpa using q
  exact cu (by simp only[AOp.run,m,f];rfl) (ji.same t r h)
def FK {i:Int}{n j:Nat}(h:ix i n=O j):0<=i/\i<n/\j=i.toNat/\j<n:=by
 unfold ix at h;cases f:(Zc (0<=i)&&Zc (i<n))with
 |false=>rw[f]at h;cases h
 |true=>
  rw[f]at h;injection h with h
  rw[aD]at f;have g:=of_decide_eq_true f.1;have l:=of_decide_eq_true f.2;exact⟨g,l,h.symm,V1⟩
def Wg {α:Type}{l:List α}{i:Int}{x:α}(h:rd l i=O x):0<=i/\i<dt l/\l[i.toNat]?=O x:=by
 unfold rd at h;cases f:Zc (0<=i)with
 |false=>rw[f]at h;cases h
 |true=>
  rw[f]at h;have g:=of_decide_eq_true f
  have j:i.toNat<dt l:=by
   rcases Nat.lt_or_ge i.toNat (dt l) with h3|h3
   .exact h3
   .rw[zC,List.getElem?_eq_none h3]at h;cases h
  exact⟨g,V1,h⟩
def ah {α γ:Type}{x:Option α}{f:α->Option γ}{z:γ}(h:x.bind f=O z): ∃a,x=O a/\f a=O z:=by
 cases x with
 |none=>cases h
 |some a=>exact⟨a,rfl,h⟩
def XD (F:Rel c)(H:az c e ea){ln es:Nat}{cs:List VV}{i:Int}(N:ev e x= .agg cs)(P:ev e z= .int kd i)
  (h:(ek (ix i ln) λj=>cond agg (k (.agg (BZ cs (j*es) es)) c.S) (gd (Nat.beq es 1&&Nat.beq (dt cs) ln) (Rk cs j c.S k)))=O y):ci T (.indexV ln es agg x z) ea c.Z (ji c d k y):=by
 have I:=cn H x;have J:=cn H z;rw[N]at I;rw[P]at J;have⟨t,A,C⟩:=I.agg_inv;have B:=J.int_inv;have⟨j,K,q⟩:=ah h;obtain⟨D,E,rfl,Q⟩:=FK K;cases agg with
 |true=>
  refine cu (v:= .agg (t.extract (i.toNat*es) (i.toNat*es+es))) (by simp only[AOp.run,A,B];rw[zE ⟨D,E⟩];rfl) (ji.same F (.agg ?_) q);have:=(C.drop (i.toNat*es)).take es;simpa[BZ,Array.toList_extract,bD]using this
 |false=>
  rw[zD]at q;have⟨r,L⟩:=au q;rw[aD]at r;have M:=cB r.1;have U:=cB r.2;subst M;have⟨w,f,g⟩:=Rl V1 L;have⟨u,l,m⟩:=C.get _ _ f;have n:t[i.toNat*1]?=O u:=by rw[Nat.mul_one];simpa using l
  exact cu (by simp only[AOp.run,A,B,n];rw[zE ⟨D,E⟩];rfl) (ji.same F m g)
def XC (D:Rel c)(j:az c e ea){l:Zd}{i:Int}(E:ev e x= .str l)(F:ev e z= .int kd i)(h:(ek (rd l i) λb=>k (.int .u8 b) c.S)=O y):ci T (.indexS x z) ea c.Z (ji c d k y):=by
 have m:=cn j x;have n:=cn j z;rw[E]at m;rw[F]at n;obtain⟨s,q,rfl⟩:=m.str_inv;have r:=n.int_inv;have⟨b,t,w⟩:=ah h;have⟨A,B,f⟩:=Wg t;simp only[eg,List.getElem?_map]at f;cases g:s.data.toList[i.toNat]? with
 |none=>rw[g]at f;cases f
 |some u=>
  rw[g,aB]at f;cases f
  have C:s[i.toNat]?=O u:=by
   have:i.toNat<s.size:=by rw[wI]at B;omega
   rw[getElem?_pos s i.toNat this,<-g,Array.getElem?_toList,getElem?_pos s.data i.toNat this];rfl
  exact cu (v:= .int .u8 u.toNat) (by simp only[AOp.run,q,r,C];rw[zE A];rfl) (ji.same D (.int _ _) w)
def ax1 (m:Rel c)(g:az c e ea){f:IntKind}{a b:Int}(n:ev e x= .int kd a)(q:ev e z= .int f b)(h:k (.int kd (max a b)) c.S=O y):ci T (.most x z) ea c.Z (ji c d k y):=by
 have j:=cn g x;have l:=cn g z;rw[n]at j;rw[q]at l;refine cu (v:= .int kd (max a b)) ?_ (ji.same m (.int _ _) h);simp only[AOp.run,j.int_inv,l.int_inv,U7,aB]
 congr 3
 split<;>omega
def ae2 (m:Rel c)(g:az c e ea){f:IntKind}{a b:Int}(n:ev e x= .int kd a)(q:ev e z= .int f b)(h:k (.int kd (min a b)) c.S=O y):ci T (.least x z) ea c.Z (ji c d k y):=by
 have j:=cn g x;have l:=cn g z;rw[n]at j;rw[q]at l;refine cu (v:= .int kd (min a b)) ?_ (ji.same m (.int _ _) h);simp only[AOp.run,j.int_inv,l.int_inv,QM,aB]
 congr 3
 split<;>omega
end
end
section
open Bool renaming and_eq_true -> bB
open List renaming drop_take -> cM, length_append -> cS
open Nat renaming eq_of_beq_eq_true -> aB, mul_le_mul_right -> aD, le_refl -> bD, add_mul -> cB, le_of_ble_eq_true -> cD, beq -> cK, le_trans -> cL, add_assoc -> cN, eq_of_mul_eq_mul_right -> cO, mul_div_cancel -> cP, zero_add -> cQ
open Option renaming map_some -> cR, map_none -> cT
section
variable {β:Type} {T:iU} {c:Ctx} {e:co} {ea:cm} {k:VV->ai->Option β} {y:β} {d:List Nat}
def G9.len {q lo n:Nat}{dm:Nat×Nat}(h:G9 c q lo n dm a): ∃p f,a= .slice p n f/\n<=f:=by
 rcases h with⟨rfl,_,rfl,_,_⟩|⟨b,f,x,rfl,_,_,h,_⟩
 .exact⟨Y,0,rfl,bD _⟩
 .exact⟨_,f,rfl,h⟩
def ae4 (E:Rel c){v:VV}{n:Nat}(h:lenOf c.S v=O n)(t:VRel c v a)(I: ∀l,v≠ .str l): ∃p B,a= .slice p n B/\n<=B:=by
 cases v<;>simp only[lenOf]at h<;>try(cases h;done)
 case nils=>cases h;cases t;exact⟨Y,0,rfl,bD _⟩
 case str l=>exact(I l rfl).elim
 case lst s l=>
  cases h
  cases t with
  |lstn=>exact⟨_,0,rfl,bD _⟩
  |lst _ _ _ f j _ _=>subst f;exact⟨_,_,rfl,j⟩
 case part q lo m=>
  cases A:(ae c.S q).live with
  |false=>rw[A]at h;cases h
  |true=>
   rw[A]at h;cases h
   have⟨D,F⟩:=uJ A;cases t with
   |part H _ r=>exact(r D F).len
 case full q=>
  cases t with
  |full H _ r=>
   cases g:ae c.S q with
   |dead=>rw[g]at h;cases h
   |arr s z l=>
    rw[g]at h;cases h
    have⟨n,f,j⟩:=r (s.w,dt l*s.w) Zj;have:n=dt l:=cO (nG s) f;subst this;exact j.len
   |cells u z l=>
    rw[g]at h;cases h
    have⟨n,f,j⟩:=r (u,dt l) Zj;have C:=(E.blk q (u,dt l) Zj).1
    have:n=dt l / u:=by
     simp only at f C;rw[<-f,cP _ C]
    subst this;exact j.len
def aO3 (f:Rel c)(j:az c e ea){n:Nat}(q: ∀l,ev e x≠ .str l)(m:lenOf c.S (ev e x)=O n)(h:k (.int .i64 n) c.S=O y):ci T (.len x) ea c.Z (ji c d k y):=by
 have⟨p,r,g,_⟩:=ae4 f m (cn j x) q;exact cu (by simp only[AOp.run,g]) (ji.same f (.int _ _) h)
def HA (j:az c e ea){lo:Option Operand}{a:Int}{m:Nat}(h:DH (lo.map (ev e))=O a)(f:0<=a)(l:a<=m):tc m 0 (lo.map ea.ev)=O a.toNat:=by
 cases lo with
 |none=>
  simp only[cT,DH]at h;cases h
  rfl
 |some x=>
  simp only[cR,DH]at h⊢;have⟨kd,g⟩:=L3 h (cn j x);rw[g];exact zE ⟨f,l⟩
def Hz (m:az c e ea){f:Option Operand}{b:Int}{n g:Nat}(h:xq n (f.map (ev e))=O b)(j:0<=b)(r:b<=n)(q:n<=g):tc g n (f.map ea.ev)=O b.toNat:=by
 cases f with
 |none=>
  simp only[cT,xq]at h;cases h
  simp[tc]
 |some x=>
  simp only[cR,xq]at h⊢;have⟨kd,l⟩:=L3 h (cn m x);rw[l];exact zE ⟨j,V1⟩
def vA {a b:Int}{n:Nat}(h:dv a b n=Za):0<=a/\a<=b/\b<=n:=by
 unfold dv at h;rw[bB,bB]at h;exact⟨of_decide_eq_true h.1.1,of_decide_eq_true h.1.2,of_decide_eq_true h.2⟩
def FV (l:az c e ea){es:Nat}{lo r:Option Operand}{p:Option Addr}{n f:Nat}{a b:Int}(F:ea.ev x= .slice p n f)(D:n<=f)(E:f≠0->∀q,p=O q->∃z,c.Z.m q.block=O z/\z.es=es)
  (h:DH (lo.map (ev e))=O a) (g:xq n (r.map (ev e))=O b) (B:dv a b n=Za):(AOp.slice es x lo r).run ea c.Z=O (.slice (p.map (NP · (a.toNat*es))) (b.toNat-a.toNat) (f-a.toNat),c.Z):=by
 have⟨t,H,u⟩:=vA B
 have C:(f==0||Bt c.Z es p lo)=Za:=by
  by_cases j:f=0
  .simp[j]
  .unfold Bt;split
   .simp
   .simp
   .rename_i q;have⟨z,w,A⟩:=E j q rfl;rw[w];simp[A]
 simp only[AOp.run,F,C,if_true,Hz l g V1 u D,HA l h t (m:=b.toNat) V1]
def G9.cut {q lo n:Nat}{dm:Nat×Nat}{p:Option Addr}{f A B:Nat}(h:G9 c q lo n dm (.slice p n f))(E:A<=B)(F:B<=n):G9 c q (lo+A) (B-A) dm (.slice (p.map (NP · (A*dm.1))) (B-A) (f-A)):=by
 rcases h with⟨l,r,t,u,m⟩|⟨b,w,z,l,r,t,u,m,D⟩
 .injection l with g C j
  subst g;subst j;have:A=0:=by omega
  have:B=0:=by omega
  subst A;subst B;exact .inl ⟨rfl,V1,rfl,u,m⟩
 .injection l with g C j
  subst g;subst j;refine .inr ⟨b,f-A,z, ?_,r,cL (aD _ V1) t,V1,m,cL (aD _ V1) D⟩;simp only[cR,NP,cB]
def G9.es (w:Rel c){q lo n j:Nat}{dm:Nat×Nat}{p:Option Addr}(A:(ae c.S q).dim=O dm)(h:G9 c q lo n dm (.slice p n j)): ∀z,p=O z->∃blk,c.Z.m z.block=O blk/\blk.es=dm.1:=by
 intro z B;subst B;rcases h with⟨g,_⟩|⟨b,l,x,g,r,_,_,E,_⟩
 .cases g
 .injection g with f C D
  cases f;have⟨blk,_,_,t,u,_⟩:=w.block A r;exact⟨blk,t,u⟩
def HZ (t:Rel c)(B:az c e ea){es q o n:Nat}{dm:Nat×Nat}{lo w:Option Operand}{a b:Int}(j:(ae c.S q).dim=O dm)(l:es=dm.1)(g:G9 c q o n dm (ea.ev x))
  (r:DH (lo.map (ev e))=O a) (m:xq n (w.map (ev e))=O b) (u:dv a b n=Za) (h:k (.part q (o+a.toNat) (b.toNat-a.toNat)) c.S=O y):ci T (.slice es x lo w) ea c.Z (ji c d k y):=by
 have⟨p,D,A,C⟩:=g.len;rw[A]at g;have⟨F,H,I⟩:=vA u;subst l;refine cu (FV B A C (λ_=>g.es t j) r m u) (ji.same t ?_ h);refine .part (mw (by rw[j];simp)) rfl λE f=> ?_
 rw[j]at f;cases f;exact g.cut V1 V1
def tdt {α:Type}(L:List α){A B N p:Nat}(h:B<=N):((((L.drop p).take N).take B).drop A)=(L.drop (p+A)).take (B-A):=by
 rw[List.take_take,Nat.min_eq_left h,cM,List.drop_drop]
def al6 (I:Rel c)(E:az c e ea){es:Nat}{lo W:Option Operand}(h:UV c.S es (ev e x) (lo.map (ev e)) (W.map (ev e)) k=O y):ci T (.slice es x lo W) ea c.Z (ji c d k y):=by
 have C:=cn E x;unfold UV at h;cases f:lenOf c.S (ev e x)with
 |none=>rw[f]at h;cases h
 |some n=>
  rw[f]at h;simp only at h;cases g:DH (lo.map (ev e))with
  |none=>rw[g]at h;cases h
  |some a=>
   cases j:xq n (W.map (ev e))with
   |none=>rw[g,j]at h;cases h
   |some b=>
    rw[g,j]at h;simp only at h;split at h
    .rename_i J;rw[J]at C f;have⟨t,u⟩:=au h
     have hn0:n=0:=by
      simp only[lenOf]at f;injection f with f
      exact f.symm
     subst hn0;have⟨A,B,H⟩:=vA t;have ha0:a=0:=by omega
     have hb0:b=0:=by omega
     subst a;subst b;have hxe:ea.ev x= .slice Y 0 0:=by generalize ea.ev x=xa at C;cases C;rfl
     exact cu (FV E hxe (bD _) (λ_ q h=>by cases h) g j t) (ji.same I .nils u)
    .rename_i s l J;rw[J]at C f;simp only[lenOf]at f;cases f;have⟨t,u⟩:=au h;have N:=aB t
     have V:dv a b (dt l)=Za->k (.lst s (pU l a b)) c.S=O y->ci T (.slice es x lo W) ea c.Z (ji c d k y):=by
      intro P X;have⟨A,B,H⟩:=vA P;generalize U:ea.ev x=xa at C;cases C with
      |lstn hq=>
       have hb0:b=0:=by simp at H;omega
       have ha0:a=0:=by omega
       subst a;subst b;refine cu (FV E U (bD _) (λh=>(h rfl).elim) g j P) (ji.same I ?_ X);refine .lstn λz hz=> ?_
       have⟨z',_,h'⟩:=Option.map_eq_some_iff.1 hz;rw[<-h'];rfl
      |lst hn hy M D h7 h8 h9=>
       rename_i bb p cp z;refine cu (FV E U h7 (λ_ q h=>by cases h;exact⟨z,hy,M.trans N.symm⟩) g (by rw[D];exact j) (by rw[D];exact P)) (ji.same I ?_ X);subst N;have Q:dt (pU l a b)=b.toNat-a.toNat:=by simp only[pU,List.length_drop,List.length_take];omega
       refine .lst hn hy M Q.symm V1 ?_ ?_
       .have:a.toNat*s.w+(b.toNat-a.toNat)*s.w<=dt l*s.w:=by rw[<-cB];exact aD _ V1
        simp only;rw[D]at h8;omega
       .simp only[pU];rw[zL,mI];have K:=(h9.take (b.toNat*s.w)).drop (a.toNat*s.w);rw[tdt _ (by rw[D];exact aD _ V1),<-Nat.sub_mul]at K;exact K
     split at u
     .rename_i e1 e2
      have P:dv a b (dt l)=Za:=by
       rw[e1]at g;rw[e2]at j;simp only[DH]at g;simp only[xq]at j;injection g with g
       injection j with j
       subst g;subst j;simp[dv]
      refine V P ?_;rw[e1]at g;rw[e2]at j;simp only[DH]at g;simp only[xq]at j;injection g with g
      injection j with j
      subst g;subst j;simp only[pU,Int.toNat_natCast,Int.toNat_zero,List.drop_zero,List.take_length];exact u
     .obtain⟨A,B⟩:=au u;exact V A B
    .rename_i q J;rw[J]at C f;cases C with
     |full X _ L=>
      cases r:ae c.S q with
      |dead=>rw[r]at h;cases h
      |arr s z l=>
       rw[r]at h;have⟨t,u⟩:=au h;have⟨A,B⟩:=au u;simp only[lenOf,r]at f;injection f with f
       have⟨n',H,D⟩:=L (s.w,dt l*s.w) ZJ;have:n'=n:=by rw[<-f];exact cO (nG s) H
       subst this;exact HZ I E ZJ (aB t) D g j A (by rw[cQ];exact B)
      |cells F z l=>
       rw[r]at h;have⟨t,u⟩:=au h;have⟨A,B⟩:=au u;rw[bB]at t;simp only[lenOf,r]at f;injection f with f
       have⟨n',H,D⟩:=L (F,dt l) ZJ;have he1:=aB t.1;have he2:=cD t.2
       have:n'=n:=by
        simp only at H;rw[<-f,<-H,cP _ V1]
       subst this;exact HZ I E ZJ he1 D g j A (by rw[cQ];exact B)
    .rename_i q o m J;rw[J]at C f;cases C with
     |part X _ L=>
      simp only[lenOf]at f;cases r:ae c.S q with
      |dead=>rw[r]at h;cases h
      |arr s z l=>
       rw[r]at h f;cases f;have⟨t,u⟩:=au h;have⟨A,B⟩:=au u;exact HZ I E (dm:=(s.w,dt l*s.w)) ZJ (aB t) (L _ ZJ) g j A B
      |cells F z l=>
       rw[r]at h f;cases f;have⟨t,u⟩:=au h;have⟨A,B⟩:=au u;rw[bB]at t;exact HZ I E (dm:=(F,dt l)) ZJ (aB t.1) (L _ ZJ) g j A B
    .cases h
def LB (s:ByteArray)(a b:Nat):eg (s.extract a b)=((eg s).take b).drop a:=by
 simp[eg,ByteArray.data_extract,Array.toList_extract,List.extract_eq_take_drop,List.map_drop,List.map_take,cM]
def S6 (B:Rel c)(g:az c e ea){lo q:Option Operand}(h:Jc c.S (ev e x) (lo.map (ev e)) (q.map (ev e)) k=O y):ci T (.sliceStr x lo q) ea c.Z (ji c d k y):=by
 have r:=cn g x;unfold Jc at h;split at h
 .rename_i l C;rw[C]at r;obtain⟨s,t,rfl⟩:=r.str_inv;split at h
  .rename_i a b j f;have⟨u,w⟩:=au h;have⟨A,D,n⟩:=vA u;rw[wI]at n f;refine cu (v:= .string (s.extract a.toNat b.toNat)) ?_ (ji.same B (.str (LB s _ _)) w);simp only[AOp.run,t,Hz g f V1 n (bD _),HA g j A (m:=b.toNat) V1]
  .cases h
 .cases h
def Ns {dm:Nat×Nat}(h:blk.dim=O dm):dt blk.vals=dm.2:=by
 cases blk with
 |dead=>cases h
 |cells f z l=>cases h;rfl
 |arr s z l=>cases h;exact gH
def S5 (W:Rel c)(P:az c e ea){es n:Nat}{lo hi:Option Operand}(h:Jb c.S es n (ev e x) (lo.map (ev e)) (hi.map (ev e)) k=O y):ci T (.sliceArr es n x lo hi) ea c.Z (ji c d k y):=by
 have hx:=cn P x;unfold Jb at h;split at h
 .rename_i q o hv;rw[hv]at hx;split at h
  .rename_i es' l N;split at h
   .rename_i a b I H;obtain⟨L,h2⟩:=au h;simp only[bB]at L;obtain⟨⟨⟨⟨⟨E,h4⟩,F⟩,J⟩,h7⟩,M⟩:=L;have E:=aB E;have h4:=cD h4;have F:=aB F;have J:=cD J;have M:=of_decide_eq_true M;obtain⟨h9,X,B⟩:=vA h7;subst E;cases hx with
    |ptr hk _ hd=>
     have f:(ae c.S q).dim=O (es,l.length):=by rw[N];rfl
     obtain⟨K,U,hp⟩:=hd _ f;obtain⟨z,cs,V,j,C,r,D,A⟩:=W.block f U;rw[N]at r A;have Q:=A.length;simp only[Blk.vals]at Q;have hzl:l.length<=z.cells.length:=by rw[D,cS,Q];omega
     have u:o / es*es=o:=Nat.div_mul_cancel (Nat.dvd_of_mod_eq_zero F);have hae:(o / es+a.toNat)*es=o+a.toNat*es:=by rw[cB,u]
     refine cu (v:= .slice (O ⟨K,o+a.toNat*es,Y⟩) (b.toNat-a.toNat) (n-a.toNat)) (Z':=c.Z) ?_ (ji.same W ?_ h2)
     .simp only[AOp.run,hp,j];rw[zE ⟨r rfl,C,V1⟩,Hz P H V1 B (bD _)];simp only;rw[HA P I h9 (m:=b.toNat) V1];simp only;rw[Zg]
     .refine .part hk rfl λd' g=> ?_
      rw[f]at g;injection g with g
      subst g;refine .inr ⟨K,n-a.toNat,z,by simp only[hae],U, ?_,V1,j, ?_⟩
      .have t:o / es+a.toNat+(b.toNat-a.toNat)=o / es+b.toNat:=by omega
       simp only;rw[t,cB,u];have:b.toNat*es<=n*es:=aD _ V1;omega
      .have t:o / es+a.toNat+(n-a.toNat)=o / es+n:=by omega
       simp only;rw[t,cB,u];omega
   .cases h
  .rename_i s l N;split at h
   .rename_i a b I H;obtain⟨L,h2⟩:=au h;simp only[bB]at L;obtain⟨⟨⟨⟨E,F⟩,J⟩,h7⟩,M⟩:=L;have E:=aB E;have F:=aB F;have J:=cD J;have M:=of_decide_eq_true M;obtain⟨h9,X,B⟩:=vA h7;subst E;subst F;cases hx with
    |ptr hk _ hd=>
     have f:(ae c.S q).dim=O (s.w,l.length*s.w):=by rw[N];rfl
     obtain⟨K,U,hp⟩:=hd _ f;obtain⟨z,cs,V,j,C,r,D,A⟩:=W.block f U;have Q:=A.length;rw[Ns f]at Q;rw[N]at r;have hle:n*s.w<=l.length*s.w:=aD _ J;have hzl:l.length*s.w<=z.cells.length:=by rw[D,cS];simp only at Q;omega
     have t:(a.toNat+(b.toNat-a.toNat))*s.w<=l.length*s.w:=aD _ V1;have h18:(a.toNat+(n-a.toNat))*s.w<=l.length*s.w:=aD _ V1;refine cu (v:= .slice (O ⟨K,0+a.toNat*s.w,Y⟩) (b.toNat-a.toNat) (n-a.toNat)) (Z':=c.Z) ?_ (ji.same W ?_ h2)
     .simp only[AOp.run,hp,j];rw[zE ⟨r rfl,C,V1⟩,Hz P H V1 B (bD _)];simp only;rw[HA P I h9 (m:=b.toNat) V1];simp only;rw[Zg]
     .refine .part hk rfl λd' g=> ?_
      rw[f]at g;injection g with g
      subst g;exact .inr ⟨K,n-a.toNat,z,by simp only[cQ],U,t,V1,j,by simp only;omega⟩
   .cases h
  .cases h
 .cases h
def aP3 (I:Rel c)(J:az c e ea){n:Nat}(h:XT c.S (aP1 c.S n (ev e x)) k=O y):ci T (.off n x) ea c.Z (ji c d k y):=by
 have D:=cn J x
 have l: ∀w b o,ea.ev x= .pointer (O ⟨b,o,Y⟩)->VRel c w (.pointer (O ⟨b,o+n,Y⟩))->k w c.S=O y->ci T (.off n x) ea c.Z (ji c d k y):=by
  intro w b o H M r;exact cu (by simp only[AOp.run,H]) (ji.same I M r)
 generalize ev e x=P at*;cases P<;>simp only[aP1]at h<;>try(cases h;done)
 case ptr q o=>
  cases g:(ae c.S q).live with
  |false=>rw[g]at h;cases h
  |true=>
   rw[g]at h;have⟨t,f⟩:=uJ g;cases D with
   |ptr r _ u=>
    have⟨b,A,C⟩:=u t f;exact l _ b o C (.ptr r rfl λF _=>⟨b,A,rfl⟩) h
 case pix q o m i=>
  cases g:(ae c.S q).live with
  |false=>rw[g]at h;cases h
  |true=>
   rw[g]at h;have⟨t,f⟩:=uJ g;cases D with
   |pix r H L u=>
    have⟨b,A,C⟩:=u t f;cases B:cK n 0 with
    |false=>rw[B]at h;cases h
    |true=>
     rw[B]at h;have:=aB B;subst this;exact l _ b (o+i) C (.pix r rfl L λF _=>⟨b,A,rfl⟩) h
 case pel q i o=>
  cases g:(ae c.S q).live with
  |false=>rw[g]at h;cases h
  |true=>
   rw[g]at h;have⟨t,f⟩:=uJ g;cases D with
   |pel r _ u=>
    have⟨b,A,C⟩:=u t f;refine l _ b _ C (.pel r rfl λF j=>⟨b,A, ?_⟩) h;rw[f]at j;cases j;rw[cN]
 case pin s z o=>
  generalize E:ea.ev x=Q at D;cases D with
  |pin B N g K=>
   refine l _ _ _ E ?_ h;rw[cN];exact .pin B N g K
def VJ {es:Nat}{i:Operand}{b o n f:Nat}{z:Int}(l:ea.ev x= .slice (O ⟨b,o,Y⟩) n f)(h:ea.ev i= .int kd z)(g:0<=z)(j:z<n):
  (AOp.idx es x i).run ea c.Z=O (.pointer (O ⟨b,o+z.toNat*es,Y⟩),c.Z):=by
 simp only[AOp.run,l,h];rw[zE ⟨g,j⟩]
def B7 (j:Rel c)(C:az c e ea){es q o n:Nat}{dm:Nat×Nat}{i:Operand}{z:Int}{w:VV}(t:G9 c q o n dm (ea.ev x))(l:ea.ev i= .int kd z)(f:0<=z)(r:z<n)
  (u: ∀b,c.μ q=O b->VRel c w (.pointer (O ⟨b,o*dm.1+z.toNat*es,Y⟩))) (m:k w c.S=O y):ci T (.idx es x i) ea c.Z (ji c d k y):=by
 rcases t with⟨_,_,B,_,_⟩|⟨b,A,D,g,h,_⟩
 .omega
 .exact cu (VJ g l f r) (ji.same j (u b h) m)
def aN6 (L:Rel c)(K:az c e ea){es:Nat}{i:Operand}(h:aN5 c.S es (ev e x) (ev e i) k=O y):ci T (.idx es x i) ea c.Z (ji c d k y):=by
 have N:=cn K x;have E:=cn K i;unfold aN5 at h;split at h
 .rename_i kd z hz;rw[hz]at E;have E:=E.int_inv;split at h
  .rename_i s l hv;rw[hv]at N;have⟨t,F⟩:=au h;have t:=aB t;have⟨el,H,r⟩:=ah F;have⟨B,u,I⟩:=Wg H;generalize hxa:ea.ev x=xa at N;cases N with
   |lstn=>simp at u;omega
   |lst hn hy he' J X U A=>
    rename_i b p cp blk;subst t;refine cu (VJ hxa E B (by rw[J];exact u)) (ji.same L ?_ r);have V:z.toNat*s.w+s.w<=dt l*s.w:=by rw[<-Nat.succ_mul];exact aD _ V1
    have W:=(A.drop (z.toNat*s.w)).take s.w;rw[IP I,cM,List.drop_drop,List.take_take,Nat.min_eq_left (by rw[J];omega)]at W;exact VRel.pin (o:=0) hn hy (by rw[J]at U;exact cL (Nat.le_of_eq (cN _ _ _)) (cL (Nat.add_le_add_left V _) U)) W
  .rename_i q hv;rw[hv]at N;cases N with
   |full M _ P=>
    cases C:ae c.S q with
    |dead=>rw[C]at h;cases h
    |arr s z' l=>
     rw[C]at h;have⟨t,F⟩:=au h;have⟨j,H,r⟩:=ah F;obtain⟨B,u,rfl,I⟩:=FK H;have f:(ae c.S q).dim=O (s.w,dt l*s.w):=by rw[C];rfl
     have⟨n,J,X⟩:=P _ f;have:n=dt l:=cO (nG s) J;subst this;refine B7 L K X E B u (λb D=> .pel M rfl λQ g=>⟨b,D, ?_⟩) r;rw[f]at g;cases g;rw[aB t];simp
    |cells es' z' l=>
     rw[C]at h;have⟨t,F⟩:=au h;rw[bB]at t;have A:=aB t.1;have V:=cD t.2;subst A;have⟨j,H,r⟩:=ah F;obtain⟨B,u,rfl,I⟩:=FK H;have f:(ae c.S q).dim=O (es,dt l):=by rw[C];rfl
     have⟨n,J,X⟩:=P _ f
     have hn:n=dt l / es:=by
      simp only at J;rw[<-J,cP _ V1]
     cases m:cK es 1 with
     |true=>
      rw[m]at r;have m:=aB m;subst m;refine B7 L K X E B (by rw[hn];exact u) (λb D=> .pix M rfl (by rw[Nat.div_one]at I;exact I) λQ g=>⟨b,D,V2⟩) r
     |false=>
      rw[m]at r;refine B7 L K X E B (by rw[hn];exact u) (λb D=> .ptr M rfl λQ g=>⟨b,D,V2⟩) r
  .rename_i q o n hv;rw[hv]at N;cases N with
   |part M _ P=>
    cases C:ae c.S q with
    |dead=>rw[C]at h;cases h
    |arr s z' l=>
     rw[C]at h;have⟨t,F⟩:=au h;have⟨j,H,r⟩:=ah F;obtain⟨B,u,rfl,I⟩:=FK H;have f:(ae c.S q).dim=O (s.w,dt l*s.w):=by rw[C];rfl
     refine B7 L K (P _ f) E B u (λb D=> .pel M rfl λQ g=>⟨b,D, ?_⟩) r;rw[f]at g;cases g;rw[aB t,cB];simp
    |cells es' z' l=>
     rw[C]at h;have⟨t,F⟩:=au h;rw[bB]at t;have A:=aB t.1;subst A;have⟨j,H,r⟩:=ah F;obtain⟨B,u,rfl,I⟩:=FK H;have f:(ae c.S q).dim=O (es,dt l):=by rw[C];rfl
     cases m:cK es 1 with
     |true=>
      rw[m]at r;have m:=aB m;subst m;refine B7 L K (P _ f) E B u (λb D=> .pix M rfl I λQ g=>⟨b,D,V2⟩) r
     |false=>
      rw[m]at r;refine B7 L K (P _ f) E B u (λb D=> .ptr M rfl λQ g=>⟨b,D,by simp[cB]⟩) r
  .cases h
 .cases h
def aw1 (t:Rel c)(u:az c e ea){ln es:Nat}{i:Operand}(h:ad0 c.S ln es (ev e x) (ev e i) k=O y):ci T (.idxA ln es x i) ea c.Z (ji c d k y):=by
 have B:=cn u x;have m:=cn u i;unfold ad0 at h;split at h
 .rename_i q o kd z M N;rw[M]at B;rw[N]at m;have m:=m.int_inv;obtain⟨K,h⟩:=au h;have⟨j,E,l⟩:=ah h;obtain⟨F,H,rfl,I⟩:=FK E;cases B with
  |ptr w _ J=>
    have⟨D,r⟩:=uJ K;have⟨b,A,L⟩:=J D r
    have g:(AOp.idxA ln es x i).run ea c.Z=O (.pointer (O ⟨b,o+z.toNat*es,Y⟩),c.Z):=by
     simp only[AOp.run,L,m];rw[zE ⟨F,H⟩]
    refine cu g ?_;cases f:cK es 1 with
    |true=>
     rw[f]at l;have f:=aB f;subst f;exact ji.same t (.pix w rfl I λC n=>⟨b,A,V2⟩) l
    |false=>
     rw[f]at l;exact ji.same t (.ptr w rfl λC n=>⟨b,A,rfl⟩) l
 .cases h
end
end
end Go.V
