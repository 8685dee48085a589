/- A part of the proof. No condition. -/
import Derived.Test.YtgnojcajllcmoaaGreatDoorA2
import Derived.IntWalk
import Derived.Below
set_option linter.all false
namespace Go.Ab
open Option renaming some->O,none->Y
open Bool renaming true->Za,false->Zb
open Decidable renaming decide->Zc
open Option renaming map_eq_some_iff->aw
open List renaming length->ft
open Option renaming bind->gn
variable {v:Value}
section
open Result renaming andThen_ok->aB
open Sem renaming run_bind->aD,run_pure->bB
open Go.RowKit
def PT (P:Program):List ResultVar->Option (List ARes)
 |[]=>O []
 | .tmp t::r=>(PT P r).map (.tmp t:: ·)
 | .cell a t::r=>match B4 P t,lC P t,PT P r with
  |some Za,O n,O r=>O (.cellN a n::r)
  |some Zb,O _,O r=>O (.cell a::r)
  |_,_,_=>Y
def as0 (P:Program)(f:FuncId):Option AFn:=match P.funcs[f]? with
 |some g=>match g.body,XW P f with
  |some c,true=>match mz P g.ntmps c,PT P g.results.toList with
   |some h,O rs=>O ⟨g.ntmps,rs,h⟩
   |_,_=>Y
  |_,_=>Y
 |none=>Y
section
variable {P:Program} {T:iX} {B:Base P} {N:Nat} {μ:Mu} {Z:Hp} {w:World} {e:cx}
def FP (g:Array Value):ResultVar->Sem Value
 | .tmp t=>pure (g.getD t undef)
 | .cell a t=>do loadVar t (<-asAddr (g.getD a undef))
def YH (u:Func)(g:Array Value):results u g=(do
  let vs<-u.results.mapM (FP g)
  pure (if h:vs.size=1 then vs[0]else .tuple vs)):=rfl
theorem TZ {u:Array Value}(W:gp μ N e u)(V:R B μ Z w): ∀(l:List ResultVar) (rs:List ARes) (vs:List Value),PT P l=O rs->LH e Z rs=O vs->
  ∃C,(l.mapM<|FP u).run P w= .ok C w/\F2 (VR μ) vs C
 |[],rs,vs,h,A=>by
  simp[PT]at h;subst h;simp[LH]at A;subst A;exact⟨[],V2, .nil⟩
 | .tmp t::l,rs,vs,h,A=>by
  simp only[PT]at h;obtain⟨E,J,h⟩:=aw.1 h;subst h;simp only[LH]at A;split at A
  .rename_i v F L M;cases A;simp[Px]at L;subst L;have⟨C,D,U⟩:=TZ W V l E F J M;refine⟨u.getD t undef::C, ?_, .cons (W.2 t) U⟩;have hF:(FP u<|.tmp t).run P w= .ok (u.getD t undef) w:=rfl
   simp_all
  .cases A
 | .cell a t::l,rs,vs,h,A=>by
  simp only[PT]at h;have hv:=W.2 a;split at h
  .rename_i n E J L M;cases h;simp only[LH]at A;split at A
   .rename_i v F D U;cases A;have⟨C,h6,h7⟩:=TZ W V l E F M U;simp only[Px]at D;split at D
    .rename_i b o hb;rw[hb]at hv;have⟨g,X,hq⟩:=hv.ptr_inv;obtain⟨x,hx,D⟩:=Option.bind_eq_some_iff.1 D;obtain⟨cs,hcs,rfl⟩:=aw.1 D;have⟨H,k1,k2⟩:=V.reads hx X hcs;refine⟨.agg H.toArray::C, ?_, .cons (.agg k2) h7⟩
     have hF:(FP u<|.cell a t).run P w= .ok (.agg H.toArray) w:=by
      simp only[FP,aD,hq,asAddr,bB,aB,loadVar,HL J,if_true,my L,k1 P w rfl]
     simp_all
    .cases D
   .cases A
  .rename_i n E J L M;cases h;simp only[LH]at A;split at A
   .rename_i v F D U;cases A;have⟨C,h6,h7⟩:=TZ W V l E F M U;simp only[Px]at D;split at D
    .rename_i b o hb;rw[hb]at hv;have⟨g,X,hq⟩:=hv.ptr_inv;obtain⟨x,hx,D⟩:=Option.bind_eq_some_iff.1 D;have⟨v',k1,k2⟩:=(V.get hx X.1).cell X.2 o v D;refine⟨v'::C, ?_, .cons k2 h7⟩
     have hF:(FP u<|.cell a t).run P w= .ok v' w:=by
      simp only[FP,aD,hq,asAddr,bB,aB,loadVar,HL J,Bool.false_eq_true,if_false,run_load,k1]
     simp_all
    .cases D
   .cases A
  .cases h
theorem az6 {f:FuncId}{af:AFn}(h:as0 P f=O af)(hM:we T)(hT: ∀g,Sim P g<|T g):Sim P f<|wpF T af:=by
 unfold as0 at h;split at h
 .rename_i E H;split at h
  .rename_i c hb D;split at h
   .rename_i ac rs h1 h2;injection h with h
    subst h;intro B μ Z w C A K hw hR ha;obtain⟨V,hw⟩:=hw
    have F:yy P f:=by
     unfold XW at D;rw[H]at D;simp only[Bool.and_eq_true,Bool.not_eq_true']at D;exact⟨E,H,D.1,D.2⟩
    refine⟨F,calls_of_wp H hb ?_⟩;have hsz:A.size=C.length:=by simpa using ha.length.symm
    have U:gp μ E.ntmps (cx.of C)<|A++Array.replicate (E.ntmps-A.size) undef:=by
     refine⟨by simp only[Array.size_append,Array.size_replicate];simp only at V;omega,λt=> ?_⟩;unfold cx.of;by_cases ht:t<C.length
     .obtain⟨v',h3,h4⟩:=ha.get t C[t] (List.getElem?_eq_getElem ht)
      have:(A++Array.replicate (E.ntmps-A.size) undef).getD t undef=v':=by
       simp only[Array.getD_eq_getD_getElem?]
       grind
      grind
     have:(A++Array.replicate (E.ntmps-A.size) undef).getD t undef=undef:=by
      simp only[Array.getD_eq_getD_getElem?]
      grind
     rw[this,List.getElem?_eq_none V1];exact VR.undef μ
    refine wp_mono (aO6 hM hT c ac h1 _ _ Z μ ⟨_,[]⟩ w hw hR U rfl) λx a' w' hx=> ?_
    obtain⟨ax,e',Z',μ',W,J,g1,g2,g3,g4,g5⟩:=hx
    have M:(match LH e' Z' rs with
      |some X=>K (Cj X) Z'
      |none=>False)->a'.defers=[]/\∃v,(results E a'.tmps).run P w'= .ok v w'/\bs9 P B μ w K (.returned v) w':=by
     intro J;refine⟨g4, ?_⟩;split at J
     .rename_i X hvs;obtain⟨L,k1,k2⟩:=TZ (P:=P) g3 g2 E.results.toList rs X h2 hvs;have hl:=k2.length;refine⟨Cj L, ?_,_,Z',_,μ',rfl,J,g1,g2, ?_,g5,rfl⟩
      .rw[YH,Array.mapM_eq_mapM_toList];simp only[aD,Sem.run_map,k1,aB,bB]
       congr 1
       match L,hl with
       |[],_=>rfl
       |[v],_=>rfl
       |v::u::r,_=>simp[Cj]
      .match X,L,k2 with
       |[],_, .nil=>exact .tuple .nil
       |[v],_, .cons h .nil=>exact h
       |v::u::r,_, .cons h (.cons h' t)=>exact .tuple (.cons h<|.cons h' t)
     .exact J.elim
    cases ax with
    |normal=>
     cases x<;>simp[Af]at W;exact M J
    |exit id=>exact J.elim
    |ret=>
     cases x<;>simp[Af]at W;exact M J
   cases h
  cases h
 cases h
end
end
section
open Go.RowKit
section
variable {P:Program} {f:FuncId} {S S':S6}
end
def Hp.Ok (Z:Hp):Prop:= ∀b x,Z.m b=O x->b<Z.n
section
variable {P:Program} {f:FuncId} {S S':S6} {Z Z1:Hp} {K:Value->Hp->Prop}
end
section
variable {T:iX}
end
end
section
section
variable {T:iX} {Q:AExit->cx->Hp->Prop} {q:cx->Hp->Prop} {e:cx} {Z Z':Hp} {a b:AC} {k:Value->Hp->Prop} {v:Value} {K:Value->Hp->Prop}
end
end
section
def ba8 (s:S6):Prop:= ∀g Z (K K':Value->Hp->Prop),(∀r Z',K r Z'->K' r Z')->s g Z K->s g Z K'
section
variable {T:iX} {Q:AExit->cx->Hp->Prop} {e:cx} {Z:Hp} {b:AC} {I:cx->Hp->Prop} {m:cx->Hp->Nat} {e0:cx} {Z0:Hp}
end
section
variable {k:IntKind} {a b:Int}
end
section
variable {a b c d:Value} {l:List Value}
end
section
variable {Z:Hp} {x y:Blk} {i b o:Nat} {z:Option Blk}
end
section
variable {e:cx} {Z:Hp} {rs:List ARes} {t n b o:Nat}
end
section
variable {T:iX} {e:cx} {Z:Hp} {k:Value->Hp->Prop} {q:cx->Hp->Prop}
end
section
variable {T:iX} {q:cx->Hp->Prop} {r:List SItem} {e:cx} {Z:Hp} {i:Nat} {d:Option Nat} {kp:Bool} {is:List Nat} {chk:List<|Nat×(Hp->Prop)}
end
end
section
section
variable {T:iX} {e:cx} {Z:Hp} {k:Value->Hp->Prop}
end
section
variable {Z:Hp} {x:Blk} {i b:Nat} {z:Option Blk}
end
end
section
open IntKind renaming bits->aB,max->aD,min->bB,signed->bD
open List renaming getElem?_eq_none->cB
open Go.RowKit (Below)
structure Row where
 c:Nat
 o:Nat
 ext:Nat
 es:Nat
 cells:List Value
def UT (P:Program)(w:World):Prop:=P.globalNamed "internal/strconv.uint64pow10" ≠Y->Lib.TabIs P w "internal/strconv.uint64pow10" .u64 Lib.pow10Tab
def Base.of {P:Program}(w:World)(A:UT P w):Base P:=⟨w.heap.size,λb=>w.heap[b]?,λE _ D u=>by
 have h:=A u;unfold Lib.TabIs World.var? at h⊢;cases C:P.globalNamed "internal/strconv.uint64pow10" with
 |none=>exact(u C).elim
 |some g=>
  grind⟩
def oF (rows:List Row):Mu:=λi=>(rows[i]?).map λr=>⟨r.c,r.o,r.ext,r.es,0,Y⟩
def rP (g:Nat)(rows:List Row):Hp:={m:=λi=>gn (rows[i]?) λr=>if r.c<g then O ⟨r.cells,Zb,r.es⟩else Y,n:=(ft rows)}
theorem bo7 {P:Program}{w:World}(H:UT P w){rows:List Row}(h: ∀r∈rows,∀(i:Nat) (v:Value),r.cells[i]?=O v->∃v',w.cell? ⟨r.c,r.o+i,Y⟩=O v'/\VR (oF rows) v v'):
  R (Base.of w H) (oF rows) (rP w.heap.size rows) w:=by
 refine⟨Nat.le_refl _,λ_ _=>rfl,λb J=> ?_,λb x u=> ?_,λb U x W g V u _ _ F=> ?_,λb x g _ A L _ _=>(by
  simp only[oF]at A;cases C:rows[b]? with
  |none=>rw[C]at A;cases A
  |some r=>rw[C]at A;cases A;cases L)⟩
 .simp only[oF,cB J,Option.map_none]
 .simp only[rP]at u;cases C:rows[b]? with
  |none=>rw[C]at u;cases u
  |some r=>
   rw[C,zG]at u;split at u
   .rename_i D;cases u;refine⟨⟨r.c,r.o,r.ext,r.es,0,Y⟩,by simp only[oF,C,Option.map_some],D,rfl,λ_ i v M=>h r (List.mem_of_getElem? C) i v M,λ_ F=>(by cases F),λ_ E=>(by cases E),λE=>by cases E⟩
   .cases u
 .simp only[rP]at u
  grind
def aW6 {g:Nat}{rows:List Row}:(rP g rows).Ok:=by
 intro b x u;rcases Nat.lt_or_ge b (ft rows) with h|h
 .exact h
 simp only[rP,cB h,Option.bind_none]at u;cases u
def bm6 {P:Program}{f:FuncId}{S:S6}(E:Sim P f S){w:World}(A:UT P w){rows:List Row}{args:List Value}{cargs:Array Value}
  (u: ∀r∈rows,∀(i:Nat) (v:Value),r.cells[i]?=O v->∃v',w.cell? ⟨r.c,r.o+i,Y⟩=O v'/\VR (oF rows) v v')
  (g:F2 (VR<|oF rows) args cargs.toList) (h:S args (rP w.heap.size rows) λr _=>r= .bool Za):
  Calls P f cargs w λe w'=>e= .returned (.bool Za)/\Below w.heap.size w w':=by
 refine(E _ _ _ w args cargs _ h (bo7 A u) g).2.mono λx w' F=> ?_
 obtain⟨r,Z',H,J,rfl,rfl,_,_,D,C,_⟩:=F;cases D;exact⟨rfl,C⟩
section
variable {k:IntKind} {w:World} {a:Option Addr} {len cap:Nat} {zs:Zd} {rows:List Row} {j:Nat}
theorem aO2 {x:Addr}(h:w.cell? x=O v):x.block<w.heap.size:=by
 unfold World.cell? at h
 grind
def aq8 {x:Addr}(h:w.cell? (x.add 0)=O v):x.spot=Y:=by
 have:=World.cell?_spot h;simpa[Addr.add]using this
theorem Oy {x:Addr}{i:Nat}(g:x.spot=Y)(h:w.cell? (x.add i)=O v):w.cell? ⟨x.block,x.off+i,Y⟩=O v:=by
 have⟨b,o,s⟩:=x;simp only at g;subst g
 have:(⟨b,o,Y⟩:Addr).add i=⟨b,o+i,Y⟩:=by
  simp only[Addr.add]
  grind
 rwa [this]at h
end
def bq4 {n:Int}(h:(Lit.int .i64 n).wf=Za): -9223372036854775808<=n/\n<=9223372036854775807:=by
 simpa[Lit.wf,bB,aD,bD,aB]using h
def bq5 {n:Int}(h:(Lit.int .u64 n).wf=Za):0<=n/\n<=18446744073709551615:=by
 simpa[Lit.wf,bB,aD,bD,aB]using h
def by3 {n:Int}(h:(Lit.int .u8 n).wf=Za):0<=n/\n<=255:=by
 simpa[Lit.wf,bB,aD,bD,aB]using h
end
end Go.Ab
namespace Go.V
open Go.Ab
open Option renaming some->O,none->Y
open Bool renaming true->Za,false->Zb
open Decidable renaming decide->Zc
open List renaming length_eq_zero_iff->dl
open List renaming length->ft
open Option renaming bind->gn
open Option.some renaming injEq->ez
variable {i k lo o p:Nat}{a:Value}{d:Nat×Nat}{ea:cx}
section
open List renaming replicate->bD
open Nat renaming beq->aB,ble->aD
open Option renaming none->bB
inductive Sh where
 |int (k:IntKind)
 |bool
 |str
 |list (s:Sh)
 |pair (a b:Sh)
 deriving DecidableEq
@[reducible] def El :Sh->Type
 | .int _=>Int
 | .bool=>Bool
 | .str=>Zd
 | .list s=>List (El s)
 | .pair a b=>El a×El b
def Sh.w :Sh->Nat
 | .pair a b=>a.w+b.w
 |_=>1
inductive VV where
 |undef
 |bool (b:Bool)
 |int (k:IntKind) (n:Int)
 |str (l:Zd)
 |nilp
 |nils
 |nilf
 |ptr (k o:Nat)
 |pix (k o n i:Nat)
 |pel (k i o:Nat)
 |pin (s:Sh) (x:El s) (o:Nat)
 |lst (s:Sh) (l:List<|El s)
 |tgt (s:Sh) (l:List<|El s)
 |full (k:Nat)
 |part (k lo n:Nat)
 |it (k:Nat) (l:Zd)
 |bld (k:Nat)
 |fn (f:Nat) (a c:List VV)
 |agg (l:List VV)
 |tup (l:List VV)
inductive Blk where
 |dead
 |cells (es:Nat) (fz:Bool) (l:List VV)
 |arr (s:Sh) (fz:Bool) (l:List<|El s)
abbrev ak :=List Blk
abbrev db :=List VV
def kC :db->Nat->VV
 |[],_=> .undef
 |v::_,0=>v
 |_::r,n+1=>kC r n
def rf :db->Nat->VV->db
 |[],0,v=>[v]
 |[],n+1,v=> .undef::rf [] n v
 |_::r,0,v=>v::r
 |a::r,n+1,v=>a::rf r n v
def putO (e:db)(d:Option Nat)(v:VV):db:=match d with
 |some d=>rf e d v
 |none=>e
def ag :ak->Nat->Blk
 |[],_=> .dead
 |b::_,0=>b
 |_::r,n+1=>ag r n
def kE :ak->Nat->Blk->ak
 |[],_,_=>[]
 |_::r,0,b=>b::r
 |a::r,n+1,b=>a::kE r n b
def nth {α:Type}:List α->Nat->Option α
 |[],_=>Y
 |v::_,0=>O v
 |_::r,n+1=>nth r n
def fc (s:ByteArray):Zd:=s.data.toList.map λb=>(b.toNat:Int)
def M0 :Value->VV
 | .bool b=> .bool b
 | .int k n=> .int k n
 | .string s=> .str (fc s)
 | .pointer Y=> .nilp
 | .slice Y 0 0=> .nils
 | .nilFunc=> .nilf
 |_=> .undef
def ofC :Value->VV
 | .agg cs=> .agg (cs.toList.map M0)
 |v=>M0 v
def ev (e:db):Operand->VV
 | .tmp t=>kC e t
 | .const v=>ofC v
 | .func f=> .fn f [] []
 | .global _=> .undef
def aV2 :VV->Bool
 | .undef| .agg _| .tup _=>Zb
 |_=>Za
def nj :VV->List VV
 | .agg l=>l
 |v=>[v]
def ey :(s:Sh)->El s->List VV
 | .int k,n=>[.int k n]
 | .bool,b=>[.bool b]
 | .str,l=>[.str l]
 | .list s,l=>[.lst s l]
 | .pair a b,x=>ey a x.1++ey b x.2
def fZ (s:Sh)(l:List<|El s):List VV:=l.flatMap<|ey s
def ni (g s:Sh)(x:El g):Option<|El s:=if h:g=s then O (h▸x)else Y
def Mf {α:Type}(f:List VV->Option (α×List VV)):Nat->List VV->Option (List α)
 |_,[]=>O []
 |0,_::_=>Y
 |n+1,v::l=>gn (f<|v::l) λp=>gn (Mf f n p.2) λr=>O<|p.1::r
def Blk.frozen :Blk->Bool
 | .dead=>Za
 | .cells _ z _=>z
 | .arr _ z _=>z
def Ad (s:Sh)(f:List VV->Option (El s×List VV)):Blk->Option (List<|El s)
 | .dead=>Y
 | .arr h _ l=>ni (.list h) (.list s) l
 | .cells g _ l=>bif aB g s.w then Mf f (ft l) l else Y
def GL (S:ak)(s:Sh)(f:List VV->Option (El s×List VV)):VV->Option (List<|El s)
 | .nils=>O []
 | .lst g l=>ni (.list g) (.list s) l
 | .full k=>Ad s f (ag S k)
 | .part k lo n=>gn (Ad s f<|ag S k) λl=>O ((l.drop lo).take n)
 |_=>Y
def TC (S:ak)(s:Sh)(f:List VV->Option (El s×List VV)):VV->Option (List<|El s)
 | .full k=>bif (ag S k).frozen then GL S s f (.full k)else Y
 | .part k lo n=>bif (ag S k).frozen then GL S s f (.part k lo n)else Y
 |v=>GL S s f v
def kq (S:ak):(s:Sh)->List VV->Option (El s×List VV)
 | .int k, .int g n::r=>bif Zc (g=k)then O (n,r)else Y
 | .bool, .bool b::r=>O (b,r)
 | .str, .str l::r=>O (l,r)
 | .list s,v::r=>gn (TC S s (kq S s) v) λl=>O (l,r)
 | .pair a b,l=>gn (kq S a l) λp=>gn (kq S b p.2) λq=>O ((p.1,q.1),q.2)
 |_,_=>Y
def ac9 (S:ak)(s:Sh)(v:VV):Option<|List<|El s:=GL S s (kq S s) v
def Blk.freeze :Blk->Blk
 | .dead=> .dead
 | .cells g _ l=> .cells g Za l
 | .arr s _ l=> .arr s Za l
def fzv :Nat->ak->VV->ak
 |0,S,_=>S
 |n+1,S,v=>match v with
  | .full k=>(match ag S k with
   | .cells g _ l=>l.foldl (fzv n) (kE S k<|.cells g Za l)
   |b=>kE S k b.freeze)
  | .part k _ _=>(match ag S k with
   | .cells g _ l=>l.foldl (fzv n) (kE S k<|.cells g Za l)
   |b=>kE S k b.freeze)
  |_=>S
def Ja (S:ak)(l:List VV):ak:=l.foldl (fzv 3) S
def aR3 (S:ak):VV->ak
 | .full k=>(match ag S k with
  | .cells _ _ l=>Ja S l
  |_=>S)
 | .part k _ _=>(match ag S k with
  | .cells _ _ l=>Ja S l
  |_=>S)
 |_=>S
section
variable {β:Type}
def gd (b:Bool)(x:Option β):Option β:=cond b x Y
def ix (i:Int)(n:Nat):Option Nat:=cond (Zc (0<=i)&&Zc (i<n)) (O i.toNat) Y
def rd {α:Type}(l:List α)(i:Int):Option α:=cond (Zc<|0<=i) l[i.toNat]? Y
def aH3 (p:Bool):VV->VV->Option VV
 | .int k x, .int g y=>cond (Zc<|k=g) (O<|.int k<|cond p x y) Y
 | .bool x, .bool y=>O (.bool<|cond p x y)
 | .str x, .str y=>O (.str<|cond p x y)
 |_,_=>Y
def aF3 (p:Bool)(x y:VV)(S:ak)(k:VV->ak->Option β):Option β:=match aH3 p x y with
 |some v=>k v S
 |none=>cond p (k x S)<|k y S
def Fi :IntKind->List VV->Option Zd
 |_,[]=>O []
 |k, .int g n::r=>cond (Zc<|g=k) (gn (Fi k r) λl=>O<|n::l) Y
 |_,_=>Y
def Oo :List VV->Option (List Bool)
 |[]=>O []
 | .bool b::r=>gn (Oo r) λl=>O (b::l)
 |_=>Y
def W6 :List VV->Option (List Zd)
 |[]=>O []
 | .str b::r=>gn (W6 r) λl=>O (b::l)
 |_=>Y
def ae4 (S:ak)(k:VV->ak->Option β):List VV->Nat->Option β
 |[],_=>Y
 |v::r,i=>cond (aB i 0) (k v S)<|ae4 S k r<|i-1
def U0 (cs:List VV)(i:Nat)(S:ak)(k:VV->ak->Option β):Option β:=match cs with
 | .int g n::r=>(match Fi g r with
  |some l=>k (.int g<|(n::l).getD i 0) S
  |none=>Y)
 | .bool b::r=>(match Oo r with
  |some l=>k (.bool<|(b::l).getD i Zb) S
  |none=>Y)
 | .str b::r=>(match W6 r with
  |some l=>k (.str<|(b::l).getD i []) S
  |none=>Y)
 |cs=>ae4 S k cs i
def PG (v:VV):List VV->Nat->Nat->Option (List VV)
 |[],_,_=>O []
 |c::r,i,j=>gn (aH3 (aB i j) v c) λx=>gn (PG v r i<|j+1) λl=>O<|x::l
def aX2 (cells:List VV)(o:Nat):List VV->List VV
 |[]=>cells
 |v::g=>aX2 (cells.set o v) (o+1) g
def Mk (cells:List VV):List (Nat×Nat×VV)->Option (List VV)
 |[]=>O cells
 |(h,g,v)::u=>
  cond (aB (ft<|nj v) g&&aD (h+g) (ft cells)&&(nj v).all aV2) (Mk (cells.take h++nj v++cells.drop (h+g)) u) Y
def CS (e:db)(l:List<|Nat×Nat×Operand):List<|Nat×Nat×VV:=l.map λ(o,s,x)=>(o,s,ev e x)
def pE (l:List VV):Bool:=l.all aV2
def RM (S:ak)(n:Nat)(agg:Bool)(a:VV)(k:VV->ak->Option β):Option β:=
 let g (cs:List VV) (o:Nat):Option β:=cond agg (gd (aD (o+n)<|ft cs)<|k (.agg<|(cs.drop o).take n) S) (match nth cs o with
  |some v=>k v S
  |none=>Y)
 match a with
 | .ptr b o=>(match ag S b with
  | .cells _ _ l=>g l o
  |_=>Y)
 | .pix b o m i=>(match ag S b with
  | .cells _ _ l=>gd (!agg&&aD (o+m) (ft l)) (U0 ((l.drop o).take m) i S k)
  |_=>Y)
 | .pel b i o=>(match ag S b with
  | .arr s _ l=>gn (l[i]?) λx=>g (ey s x) o
  |_=>Y)
 | .pin s x o=>g (ey s x) o
 |_=>Y
def YR (S:ak)(a:VV)(cs:List VV)(k:ak->Option β):Option β:=match a with
 | .ptr b o=>(match ag S b with
  | .cells g Zb l=>gd (aD (o+ft cs)<|ft l) (k<|kE S b<|.cells g Zb<|aX2 l o cs)
  |_=>Y)
 | .pix b o m i=>(match ag S b,cs with
  | .cells g Zb l,[v]=>gd (aD (o+m)<|ft l) (match PG v ((l.drop o).take m) i 0 with
   |some h=>k (kE S b<|.cells g Zb<|l.take o++h++l.drop (o+m))
   |none=>Y)
  |_,_=>Y)
 | .pel b i o=>(match ag (Ja S cs) b with
  | .arr s Zb l=>gn (l[i]?) λx=>(match kq (Ja S cs) s (aX2 (ey s x) o cs)with
   |some (y,[])=>gd (aD (o+ft cs) s.w) (k<|kE (Ja S cs) b<|.arr s Zb<|l.set i y)
   |_=>Y)
  |_=>Y)
 |_=>Y
def vx (k:IntKind)(f:BitVec k.bits->BitVec k.bits->BitVec k.bits)(x y:Int):Int:=k.wrap (f (BitVec.ofInt k.bits x)<|BitVec.ofInt k.bits y).toNat
def XE (op:BinOp)(g:IntKind)(x y:Int)(k:VV->Option β):Option β:=match op with
 | .add=>k (.int g<|g.wrap<|x+y)
 | .sub=>k (.int g<|g.wrap<|x-y)
 | .mul=>k (.int g<|g.wrap<|x*y)
 | .quo=>gd (Zc<|y≠0) (k<|.int g<|g.wrap<|x.tdiv y)
 | .rem=>gd (Zc<|y≠0) (k<|.int g<|x.tmod y)
 | .and=>k (.int g (vx g (· &&& ·) x y))
 | .or=>k (.int g (vx g (· ||| ·) x y))
 | .xor=>k (.int g (vx g (· ^^^ ·) x y))
 | .andNot=>k (.int g<|vx g (λa b=>a&&& ~~~b) x y)
 | .eql=>k (.bool<|Zc<|x=y)
 | .neq=>k (.bool<|Zc<|x≠y)
 | .lss=>k (.bool<|Zc<|x<y)
 | .leq=>k (.bool<|Zc<|x<=y)
 | .gtr=>k (.bool<|Zc<|y<x)
 | .geq=>k (.bool<|Zc<|y<=x)
 |_=>Y
def aH7 (op:BinOp)(g:IntKind)(x y:Int)(k:VV->Option β):Option β:=match op with
 | .shl=>gd (Zc<|0<=y) (k<|.int g<|g.wrap<|x*2 ^ (min y.toNat g.bits))
 | .shr=>gd (Zc<|0<=y) (k<|.int g<|x.fdiv<|2 ^ (min y.toNat g.bits))
 |_=>Y
def Bz (a b:Nat):Bool:=aD (a+b) 9223372036854775807
def bx4 (op:BinOp)(x y:Zd)(k:VV->Option β):Option β:=match op with
 | .add=>gd (Bz (ft x)<|ft y) (k<|.str<|x++y)
 | .eql=>k (.bool<|Zc<|x=y)
 | .neq=>k (.bool<|Zc<|x≠y)
 |_=>Y
def bi9 (op:BinOp)(x y:VV)(k:VV->Option β):Option β:=match x,y with
 | .int g a, .int h b=>cond (xy op) (aH7 op g a b k) (cond (Zc<|g=h) (XE op g a b k) Y)
 | .str a, .str b=>cond (xy op) Y (bx4 op a b k)
 |_,_=>Y
def aD0 (g p:Bool):Bool:=cond g (!p) p
def Blk.live :Blk->Bool
 | .dead=>Zb
 |_=>Za
def O3 (S:ak):VV->Bool
 | .ptr k _=>(ag S k).live
 | .pix k _ _ _=>(ag S k).live
 | .pel k _ _=>(ag S k).live
 | .pin _ _ _=>Za
 |_=>Zb
def bk7 (S:ak):Nat->VV->VV->Option Bool
 |0, .bool a, .bool b=>O (a==b)
 |1, .nilp, .nilp=>O Za
 |1, .nilp,v=>cond (O3 S v) (O Zb) Y
 |1,v, .nilp=>cond (O3 S v) (O Zb) Y
 |2, .nils, .nils=>O Za
 |3, .nilf, .nilf=>O Za
 |3, .nilf, .fn _ _ _=>O Zb
 |3, .fn _ _ _, .nilf=>O Zb
 |_,_,_=>Y
def al8 :Nat->VV->VV->Option Bool
 |0, .bool a, .bool b=>O (a==b)
 |1, .int k a, .int g b=>cond (Zc<|k=g) (O<|Zc<|a=b) Y
 |2, .str a, .str b=>O (Zc<|a=b)
 |_,_,_=>Y
def QL :List Nat->List VV->List VV->Option Bool
 |[],[],[]=>O Za
 |[k],[a],[b]=>al8 k a b
 |k::g,a::r,b::s=>gn (al8 k a b) λp=>gn (QL g r s) λq=>O (p&&q)
 |_,_,_=>Y
def unK (op:UnOp)(x:VV)(k:VV->Option β):Option β:=match op,x with
 | .neg, .int g n=>k (.int g<|g.wrap<|0-n)
 | .xor, .int g n=>k (.int g<|g.wrap (BitVec.ofInt g.bits (if g.signed then-1 else g.max) ^^^ BitVec.ofInt g.bits n).toNat)
 | .not, .bool b=>k (.bool !b)
 |_,_=>Y
def Rr :VV->Option Int
 | .int _ n=>O n
 |_=>Y
def lenOf (S:ak):VV->Option Nat
 | .nils=>O 0
 | .lst _ l=>O (ft l)
 | .full b=>(match ag S b with
  | .arr _ _ l=>O (ft l)
  | .cells g _ l=>O (ft l / g)
  | .dead=>Y)
 | .part b _ n=>cond (ag S b).live (O n) Y
 | .str l=>O (ft l)
 |_=>Y
def pV {α:Type}(l:List α)(lo g:Int):List α:=(l.take g.toNat).drop lo.toNat
def Fk :Option VV->Option Int
 |none=>O 0
 |some v=>Rr v
def yP (n:Nat):Option VV->Option Int
 |none=>O n
 |some v=>Rr v
def eU (lo g:Int)(n:Nat):Bool:=Zc (0<=lo)&&Zc (lo<=g)&&Zc (g<=n)
def YN (S:ak)(es:Nat)(x:VV)(lo h:Option VV)(k:VV->ak->Option β):Option β:=
 match lenOf S x with
 |none=>Y
 |some n=>match Fk lo,yP n h with
  |some a,O b=>(match x with
   | .nils=>gd (eU a b n) (k .nils S)
   | .lst s l=>gd (aB es s.w) (match lo,h with
    |none,Y=>k (.lst s l) S
    |_,_=>gd (eU a b n)<|k (.lst s<|pV l a b) S)
   | .full q=>(match ag S q with
    | .arr s _ _=>gd (aB es s.w) (gd (eU a b n)<|k (.part q a.toNat<|b.toNat-a.toNat) S)
    | .cells g _ _=>gd (aB es g&&aD 1 es) (gd (eU a b n)<|k (.part q a.toNat<|b.toNat-a.toNat) S)
    | .dead=>Y)
   | .part q o _=>(match ag S q with
    | .arr s _ _=>gd (aB es s.w) (gd (eU a b n)<|k (.part q (o+a.toNat)<|b.toNat-a.toNat) S)
    | .cells g _ _=>gd (aB es g&&aD 1 es) (gd (eU a b n)<|k (.part q (o+a.toNat)<|b.toNat-a.toNat) S)
    | .dead=>Y)
   |_=>Y)
  |_,_=>Y
def LJ (S:ak)(x:VV)(lo g:Option VV)(k:VV->ak->Option β):Option β:=match x with
 | .str l=>(match Fk lo,yP (ft l) g with
  |some a,O b=>gd (eU a b<|ft l) (k (.str<|pV l a b) S)
  |_,_=>Y)
 |_=>Y
def LI (S:ak)(es n:Nat)(x:VV)(lo h:Option VV)(k:VV->ak->Option β):Option β:=match x with
 | .ptr b o=>(match ag S b with
  | .cells g Zb l=>(match Fk lo,yP n h with
   |some a,O c=>gd (aB es g&&aD 1 es&&aB (o % es) 0&&aD (o+n*es) (ft l)&&eU a c n&&Zc (a<n)) (k (.part b (o / es+a.toNat)<|c.toNat-a.toNat) S)
   |_,_=>Y)
  | .arr s Zb l=>(match Fk lo,yP n h with
   |some a,O c=>gd (aB es s.w&&aB o 0&&aD n (ft l)&&eU a c n&&Zc (a<n)) (k (.part b a.toNat<|c.toNat-a.toNat) S)
   |_,_=>Y)
  |_=>Y)
 |_=>Y
def bm2 :Value->Bool
 | .int .u8 n=>Zc (n=0)
 |_=>Zb
def XO (es:Nat)(z:List Value):Bool:=aB es 1&&aD 20 (ft z)&&z.all bm2
def Gv (es:Nat)(z:List Value):Blk:=cond (XO es z) (.arr (.int .u8) Zb<|bD (ft z) (0:Int))<|.cells es Zb<|z.map M0
def bn5 (S:ak)(n:Nat):VV->Option VV
 | .ptr b o=>cond (ag S b).live (O<|.ptr b<|o+n) Y
 | .pel b i o=>cond (ag S b).live (O<|.pel b i<|o+n) Y
 | .pin s x o=>O (.pin s x<|o+n)
 | .pix b o m i=>cond (ag S b).live (cond (aB n 0) (O<|.pix b o m i) Y) Y
 |_=>Y
def bl7 (S:ak)(es:Nat)(x i:VV)(k:VV->ak->Option β):Option β:=match i with
 | .int _ i=>(match x with
  | .lst s l=>gd (aB es s.w) (gn (rd l i) λy=>k (.pin s y 0) S)
  | .full b=>(match ag S b with
   | .arr s _ l=>gd (aB es s.w) (gn (ix i<|ft l) λj=>k (.pel b j 0) S)
   | .cells g _ l=>gd (aB es g&&aD 1 es) (gn (ix i<|ft l / es) λj=>cond (aB es 1) (k (.pix b 0 (ft l) j) S)<|k (.ptr b<|j*es) S)
   | .dead=>Y)
  | .part b o n=>(match ag S b with
   | .arr s _ _=>gd (aB es s.w) (gn (ix i n) λj=>k (.pel b (o+j) 0) S)
   | .cells g _ _=>gd (aB es g&&aD 1 es) (gn (ix i n) λj=>cond (aB es 1) (k (.pix b o n j) S)<|k (.ptr b<|(o+j)*es) S)
   | .dead=>Y)
  |_=>Y)
 |_=>Y
def aA7 (S:ak)(ln es:Nat)(x i:VV)(k:VV->ak->Option β):Option β:=match x,i with
 | .ptr b o, .int _ i=>gd (ag S b).live (gn (ix i ln) λj=>cond (aB es 1) (k (.pix b o ln j) S)<|k (.ptr b<|o+j*es) S)
 |_,_=>Y
def Dp (l:List VV)(a n:Nat):List VV:=(l.drop a).take n
def dh (n bytes:Nat):Bool:=Zc (n*bytes<=140737488355328)&&aD 1 bytes
inductive Base where
 |none
 |cells (es:Nat) (l:List VV)
 |arr (s:Sh) (l:List<|El s)
def CM (S:ak)(es:Nat):VV->Option (Base×Option Nat)
 | .nils=>O (.none,Y)
 | .full b=>(match ag S b with
  | .arr s Zb l=>cond (aB es s.w) (O (.arr s l,O b)) bB
  | .cells g Zb l=>cond (aB es g&&aD 1 es) (O (.cells es l,O b)) bB
  |_=>bB)
 | .part b 0 n=>(match ag S b with
  | .arr s Zb l=>cond (aB es s.w) (O (.arr s<|l.take n,O b)) bB
  | .cells g Zb l=>cond (aB es g&&aD 1 es) (O (.cells es<|l.take<|n*es,O b)) bB
  |_=>bB)
 |_=>bB
inductive More where
 |cells (l:List VV)
 |lst (s:Sh) (l:List<|El s)
def pH (S:ak)(es:Nat):VV->Option More
 | .nils=>O (.cells [])
 | .lst s l=>cond (aB es s.w) (O<|.lst s l) Y
 | .str l=>cond (aB es 1) (O<|.lst (.int .u8) l) Y
 | .full b=>(match ag S b with
  | .arr s _ l=>cond (aB es s.w) (O<|.lst s l) Y
  | .cells g _ l=>cond (aB es g&&aD 1 es) (O<|.cells l) Y
  |_=>Y)
 | .part b o n=>(match ag S b with
  | .arr s _ l=>cond (aB es s.w) (O<|.lst s<|(l.drop o).take n) Y
  | .cells g _ l=>cond (aB es g&&aD 1 es) (O<|.cells<|(l.drop<|o*es).take<|n*es) Y
  |_=>Y)
 |_=>Y
def rr (S:ak):Option Nat->ak
 |none=>S
 |some b=>kE S b .dead
def ag2 (S:ak)(s:Sh)(l:List VV):Option<|List<|El s:=Mf (kq S s) (ft l) l
def grow (S:ak)(bytes:Nat)(s:Sh)(kill:Option Nat)(a b:List<|El s)(k:VV->ak->Option β):Option β:=
 gd (dh (ft a+ft b) bytes) (k (.full<|ft S)<|rr S kill++[.arr s Zb<|a++b])
def Nd (S:ak)(es bytes:Nat)(u:Option<|Base×Option Nat)(C:Option More)(k:VV->ak->Option β):Option β:=
 match u,C with
 |some (.arr s l,kill),O (.lst D g)=>gn (ni (.list D) (.list s) g) λh=>grow S bytes s kill l h k
 |some (.arr s l,kill),O (.cells cs)=>(match ag (Ja S cs) (kill.getD 0)with
  | .arr _ Zb _=>gn (ag2 (Ja S cs) s cs) λh=>grow (Ja S cs) bytes s kill l h k
  |_=>Y)
 |some (.cells _ l,kill),O (.lst s g)=>(match ag (Ja S l) (kill.getD 0)with
  | .cells _ Zb _=>gn (ag2 (Ja S l) s l) λA=>grow (Ja S l) bytes s kill A g k
  |_=>Y)
 |some (.none,kill),O (.lst s g)=>grow S bytes s kill [] g k
 |some (.cells es l,kill),O (.cells cs)=>gd (dh ((ft l+ft cs) / es) bytes&&pE cs) (k (.full<|ft S)<|rr S kill++[.cells es Zb<|l++cs])
 |some (.none,kill),O (.cells cs)=>gd (dh (ft cs / es) bytes&&aD 1 es&&pE cs) (k (.full<|ft S)<|rr S kill++[.cells es Zb cs])
 |_,_=>Y
def Tg (S:ak)(es bytes:Nat)(x y:VV)(k:VV->ak->Option β):Option β:=Nd S es bytes (CM S es x) (pH S es y) k
def PP (S:ak):VV->Option (ak×Base)
 | .lst s l=>O (S, .arr s l)
 | .full q=>(match ag S q with
  | .arr s _ l=>O (kE S q (ag S q).freeze, .arr s l)
  |_=>Y)
 |_=>Y
def Uh (S:ak)(x g u:VV)(k:VV->ak->Option β):Option β:=match g,u with
 | .int _ h, .int _ m=>gd (Zc<|h=m) (match x with
  | .nils=>gd (Zc<|h=0) (k .nils S)
  |v=>(match PP S v with
   |some (S1, .arr s l)=>gd (eU 0 h<|ft l) (k (.tgt s<|l.take h.toNat) S1)
   |_=>Y))
 |_,_=>Y
def YX (S:ak)(es bytes:Nat)(s:Sh)(l:List<|El s)(u:Option More)(k:VV->ak->Option β):Option β:=match u with
 |some (.lst A h)=>gn (ni (.list A) (.list s) h) λg=>gd (aB es s.w&&aD 1 (ft g)) (grow S bytes s Y l g k)
 |some (.cells cs)=>gn (ag2 (Ja S cs) s cs) λg=>gd (aB es s.w&&aD 1 (ft g)) (grow (Ja S cs) bytes s Y l g k)
 |none=>Y
def Oa (S:ak)(es bytes:Nat)(x y:VV)(k:VV->ak->Option β):Option β:=match x with
 | .tgt s l=>YX S es bytes s l (pH S es y) k
 |x=>Tg S es bytes x y k
def Gx (n:Int):Int:=((UInt8.ofNat n.toNat).toNat:Nat)
def YT (S:ak)(v:VV)(k:VV->ak->Option β):Option β:=match v with
 | .str _=>Y
 |v=>(match pH S 1 v with
  |some (.lst s l)=>gn (ni (.list s) (.list<|.int .u8) l) λg=>k (.str<|g.map Gx) S
  |some (.cells cs)=>gn (Fi .u8 cs) λl=>k (.str<|l.map Gx) S
  |none=>Y)
def Dh {α:Type}(l:List α)(o n:Nat)(m:List α):List α:=l.take o++(m.take n++l.drop (o+min n (ft m)))
def Mr (g:IntKind)(m:Zd):Nat->List VV->Option (List VV)
 |_,[]=>O []
 |j, .int k n::r=>cond (Zc<|k=g) (gn (Mr g m (j+1) r) λl=>O<|.int k (m.getD j n)::l) Y
 |_,_=>Y
def ax9 (S:ak)(es:Nat)(d y:VV)(k:VV->ak->Option β):Option β:=
 let h (b o n:Nat):Option β:=match ag S b,pH S es y with
  | .arr s Zb l,O (.lst C A)=>gn (ni (.list C) (.list s) A) λg=>gd (aB es s.w) (k (.int .i64 (min (ft g) n:Nat))<|kE S b<|.arr s Zb<|Dh l o n g)
  | .arr s Zb l,O (.cells cs)=>gn (Fi .u64 cs) λm=>gn (ni (.list<|.int .u64) (.list s) m) λg=>gd (aB es s.w) (k (.int .i64 (min (ft g) n:Nat))<|kE S b<|.arr s Zb<|Dh l o n g)
  | .cells 1 Zb l,O (.lst (.int u) m)=>gd (aB es 1&&aD (o+n) (ft l)) (match Mr u m 0 ((l.drop o).take n)with
   |some c=>k (.int .i64 (min (ft m) n:Nat)) (kE S b<|.cells 1 Zb<|l.take o++c++l.drop (o+n))
   |none=>Y)
  |_,_=>Y
 match d with
 | .full b=>(match lenOf S d with
  |some n=>h b 0 n
  |none=>Y)
 | .part b o n=>h b o n
 |_=>Y
def Mw :List Value->Option Sh
 |[.int k 0]=>O (.int k)
 |[.bool Zb]=>O .bool
 | .int k 0::r=>gn (Mw r) λs=>O (.pair (.int k) s)
 | .bool Zb::r=>gn (Mw r) λs=>O (.pair .bool s)
 |_=>Y
def vJ :(s:Sh)->El s
 | .int _=>(0:Int)
 | .bool=>Zb
 | .str=>[]
 | .list _=>[]
 | .pair a b=>(vJ a,vJ b)
def aC8 (S:ak)(es bytes:Nat)(z:List Value)(l c:VV)(k:VV->ak->Option β):Option β:=match l,c,Mw z with
 | .int _ l, .int _ c,O s=>gd (aB es s.w&&Zc (0<=l)&&Zc (l<=c)&&Zc (bytes*c<=140737488355328)&&aD 1 bytes) (k (.full<|ft S)<|S++[.arr s Zb<|bD l.toNat<|vJ s])
 |_,_,_=>Y
def Xl (es:Nat)(z:List Value)(l:Int):Option More:=match Mw z with
 |some s=>cond (aB es s.w) (O<|.lst s<|bD l.toNat<|vJ s) Y
 |none=>Y
def lZ (bytes:Nat)(l:Int):Bool:=Zc (0<=l)&&(Zc (l<=9223372036854775807)&&Zc (l*(bytes:Int)<=281474976710656))
def Ob (S:ak)(es bytes:Nat)(z:List Value)(x l:VV)(k:VV->ak->Option β):Option β:=match l with
 | .int _ l=>gd (lZ bytes l) (Nd S es bytes (CM S es x) (Xl es z l) k)
 |_=>Y
end
end
variable {s:Sh}{b:Blk}{v:VV}{S':ak}{e:db}{cs:List VV}
section
open List renaming replicate->bB
open Nat renaming beq->aB,ble->aD
inductive Sk where
 |undef
 |leaf (s:Sh)
 |cint (k:IntKind) (n:Int)
 |nilp
 |nils
 |nilf
 |ptr (j o:Nat)
 |full (j:Nat)
 |pin (s:Sh) (o:Nat)
 |fn (f:Nat) (a c:List Sk)
 |agg (l:List Sk)
 |tup (l:List Sk)
inductive OSk where
 |dead
 |cells (es:Nat) (ro:Bool) (l:List Sk)
 |arr (ro:Bool) (s:Sh)
structure Leaf where
 s:Sh
 v:El s
structure Src where
 k:Nat
 cut:Option Nat
structure DSt where
 m:List (Option Src)
 ls:List Leaf
 lent:List Nat
def DSt.push (st:DSt)(s:Sh)(v:El s):DSt:={st with ls:=st.ls++[⟨s,v⟩]}
def DSt.lend (st:DSt):VV->DSt
 | .full k=>{st with lent:=k::st.lent}
 | .part k _ _=>{st with lent:=k::st.lent}
 |_=>st
def DSt.link (N:Nat)(st:DSt)(j:Nat)(x:Option Src):Option DSt:=
 cond (Nat.blt j N) (match x with
  |some ⟨k,Y⟩=>cond (aB k j) (O st) Y
  |_=>Y)
 (match nth st.m (j-N)with
 |some (O ⟨k,Y⟩)=>(match x with
  |some ⟨g,Y⟩=>cond (aB k g) (O st) Y
  |_=>Y)
 |some _=>Y
 |none=>cond (aB (j-N)<|ft st.m) (O {st with m:=st.m++[x]}) Y)
mutual
def Lb (S:ak)(N:Nat):Sk->VV->DSt->Option DSt
 | .undef,_,st=>O st
 | .leaf s,v,st=>(match s,v with
  | .int k, .int k' n=>cond (Zc<|k'=k) (O<|st.push (.int k) n) Y
  | .bool, .bool b=>O (st.push .bool b)
  | .str, .str l=>O (st.push .str l)
  | .list s,v=>gn (ac9 S s v) λl=>O ((st.lend v).push (.list s) l)
  |_,_=>Y)
 | .cint k n, .int k' n',st=>cond (Zc (k'=k)&&Zc (n'=n)) (O st) Y
 | .nilp, .nilp,st=>O st
 | .nils, .nils,st=>O st
 | .nilf, .nilf,st=>O st
 | .ptr j o, .ptr k o',st=>cond (aB o o') (st.link N j<|O ⟨k,Y⟩) Y
 | .full j,v,st=>(match v with
  | .full k=>st.link N j (O ⟨k,Y⟩)
  | .part k 0 n=>st.link N j (O ⟨k,O n⟩)
  | .nils=>st.link N j Y
  |_=>Y)
 | .pin s o, .pin s' x o',st=>cond (aB o o') (gn (ni s' s x) λy=>O<|st.push s y) Y
 | .fn f a c, .fn f' a' c',st=>cond (aB f f') (gn (IK S N a a' st) λst1=>IK S N c c' st1) Y
 | .agg l, .agg l',st=>IK S N l l' st
 | .tup l, .tup l',st=>IK S N l l' st
 |_,_,_=>Y
def IK (S:ak)(N:Nat):List Sk->List VV->DSt->Option DSt
 |[],[],st=>O st
 |k::r,v::r',st=>gn (Lb S N k v st) λst1=>IK S N r r' st1
 |_,_,_=>Y
end
def OA {α:Type}:Option Nat->List α->List α
 |none,l=>l
 |some n,l=>l.take n
def XT (S:ak)(N:Nat):OSk->Option Src->DSt->Option DSt
 | .dead,_,g=>O g
 | .cells C h l,O ⟨k,Y⟩,g=>(match ag S k with
  | .cells A D cs=>cond (aB C A&&(h|| !D)) (IK S N l cs<|cond h {g with lent:=k::g.lent} g) Y
  |_=>Y)
 | .arr h s,Y,g=>cond h Y (O<|g.push (.list s) [])
 | .arr h s,O ⟨k,u⟩,g=>cond (h|| !(ag S k).frozen) (gn (ac9 S s<|.full k) λl=>O<|(cond h {g with lent:=k::g.lent} g).push (.list s)<|OA u l) Y
 |_,_,_=>Y
def Lc (S:ak)(N:Nat):List OSk->List Nat->DSt->Option DSt
 |[],[],g=>O g
 |o::r,j::u,g=>gn (XT S N o (O ⟨j,Y⟩) g) λh=>Lc S N r u h
 |_,_,_=>Y
def vz (S:ak)(N:Nat):List OSk->Nat->DSt->Option DSt
 |[],i,g=>cond (aB i<|ft g.m) (O g) Y
 |o::r,i,g=>(match nth g.m i with
  |some x=>gn (XT S N o x g) λh=>vz S N r (i+1) h
  |none=>Y)
def OSk.ro :OSk->Bool
 | .cells _ ro _=>ro
 | .arr ro _=>ro
 | .dead=>Zb
def lB (k:Nat):List Nat->Bool
 |[]=>Zb
 |a::r=>cond (aB a k) Za<|lB k r
def U2 :List Nat->Bool
 |[]=>Za
 |a::r=>cond (lB a r) Zb<|U2 r
def tN :List (Option Src)->List Nat
 |[]=>[]
 |none::r=>tN r
 |some x::r=>x.k::tN r
def lD :List OSk->List (Option Src)->List Nat
 |o::r,O x::s=>cond o.ro (lD r s) (x.k::lD r s)
 |_::r,Y::s=>lD r s
 |_,_=>[]
def Tx (w:List Nat)(l:List Nat):Bool:=w.all λk=> !lB k l
structure rp where
 vals:List Sk
 fix:List OSk
 free:List OSk
def nk (S:ak)(N:Nat)(fx:List Nat)(h:rp)(vals:List VV):Option DSt:=
 gn (IK S N h.vals vals ⟨[],[],[]⟩) λA=>gn (Lc S N h.fix fx A) λu=>gn (vz S N h.free 0 u) λg=>
  cond (U2 (fx++tN g.m)&&Tx (fx++lD h.free g.m) g.lent) (O g) Y
mutual
def enc (f:Nat->Nat):Sk->List Leaf->Option (VV×List Leaf)
 | .undef,ls=>O (.undef,ls)
 | .leaf s,x::ls=>gn (ni x.s s x.v) λ(y:El s)=>O ((match s,y with
  | .int k,n=> .int k n
  | .bool,b=> .bool b
  | .str,l=> .str l
  | .list s,l=> .lst s l
  | .pair _ _,_=> .undef),ls)
 | .cint k n,ls=>O (.int k n,ls)
 | .nilp,ls=>O (.nilp,ls)
 | .nils,ls=>O (.nils,ls)
 | .nilf,ls=>O (.nilf,ls)
 | .ptr j o,ls=>O (.ptr (f j) o,ls)
 | .full j,ls=>O (.full<|f j,ls)
 | .pin s o,x::ls=>gn (ni x.s s x.v) λ(y:El s)=>O (.pin s y o,ls)
 | .fn g a c,ls=>gn (QJ f a ls) λp=>gn (QJ f c p.2) λq=>O (.fn g p.1 q.1,q.2)
 | .agg l,ls=>gn (QJ f l ls) λp=>O (.agg p.1,p.2)
 | .tup l,ls=>gn (QJ f l ls) λp=>O (.tup p.1,p.2)
 |_,_=>Y
def QJ (f:Nat->Nat):List Sk->List Leaf->Option (List VV×List Leaf)
 |[],ls=>O ([],ls)
 |k::r,ls=>gn (enc f k ls) λp=>gn (QJ f r p.2) λq=>O (p.1::q.1,q.2)
end
def QK (f:Nat->Nat):OSk->List Leaf->Option (Blk×List Leaf)
 | .dead,g=>O (.dead,g)
 | .cells u h l,g=>gn (QJ f l g) λp=>O (.cells u h p.1,p.2)
 | .arr h s,x::g=>gn (ni x.s (.list s) x.v) λl=>O (.arr s h l,g)
 | .arr _ _,[]=>Y
def Fe (f:Nat->Nat):List OSk->List Leaf->Option (List Blk×List Leaf)
 |[],g=>O ([],g)
 |o::r,g=>gn (QK f o g) λp=>gn (Fe f r p.2) λq=>O (p.1::q.1,q.2)
def mB (f:Nat->Nat)(g:rp)(ls:List Leaf):Option<|List VV×List Blk×List Blk:=
 gn (QJ f g.vals ls) λp=>gn (Fe f g.fix p.2) λq=>gn (Fe f g.free q.2) λr=>match r.2 with
  |[]=>O (p.1,q.1,r.1)
  |_::_=>Y
mutual
def Sk.shs :Sk->List Sh
 | .leaf s=>[s]
 | .pin s _=>[s]
 | .fn _ a c=>YL a++YL c
 | .agg l=>YL l
 | .tup l=>YL l
 |_=>[]
def YL :List Sk->List Sh
 |[]=>[]
 |k::r=>k.shs++YL r
end
def OSk.shs :OSk->List Sh
 | .dead=>[]
 | .cells _ _ l=>YL l
 | .arr _ s=>[.list s]
def bp1 :List OSk->List Sh
 |[]=>[]
 |o::r=>o.shs++bp1 r
def rp.shs (g:rp):List Sh:=YL g.vals++(bp1 g.fix++bp1 g.free)
@[reducible] def BF :List Sh->Type
 |[]=>Unit
 |[s]=>El s
 |s::g::r=>El s×BF (g::r)
def Nt :(h:List Sh)->BF h->List Leaf
 |[],_=>[]
 |[s],x=>[⟨s,x⟩]
 |s::g::r,x=>⟨s,x.1⟩::Nt (g::r) x.2
def UB :(u:List Sh)->List Leaf->Option (BF u)
 |[],[]=>O ()
 |[s],[x]=>ni x.s s x.v
 |s::h::r,x::g=>gn (ni x.s s x.v) λa=>gn (UB (h::r) g) λb=>O (a,b)
 |_,_=>Y
inductive XK where
 |normal
 |exit (id:Nat)
 |ret
structure Alt where
 x:XK
 ts:List Nat
 sk:rp
@[reducible] def Alt.Ty (a:Alt):Type:=BF a.sk.shs
@[reducible] def wG :List Alt->Type
 |[]=>Empty
 |[a]=>a.Ty
 |a::b::r=>a.Ty⊕wG (b::r)
def be {α γ β:Type}(s:α⊕γ)(f:α->Option β)(g:γ->Option β):Option β:=match s with
 | .inl a=>f a
 | .inr b=>g b
def av1 {β:Type}:(l:List Alt)->wG l->((a:Alt)->a.Ty->Option β)->Option β
 |[],_,_=>Y
 |[a],t,k=>k a t
 |a::b::r,s,k=>be s (λt=>k a t) λg=>av1 (b::r) g k
def rp.noRo (g:rp):Bool:=g.fix.all (λo=> !o.ro)&&g.free.all λo=> !o.ro
def OD (S:ak)(N:Nat)(fx:List Nat)(g:rp)(vals:List VV):Option<|BF g.shs:=
 gd g.noRo (gn (nk S N fx g vals) λh=>UB g.shs h.ls)
def rp.fxRo (g:rp):Bool:=g.fix.all λo=> !o.ro
def ab4 (S:ak)(N:Nat)(fx:List Nat)(g:rp)(vals:List VV):Option<|BF g.shs:=
 gd g.fxRo (gn (nk S N fx g vals) λh=>UB g.shs h.ls)
def yO (S:ak)(N:Nat)(fx:List Nat)(vals:List Nat->List VV)(g:XK->Bool):(l:List Alt)->Option (wG l)
 |[]=>Y
 |[a]=>cond (g a.x) (OD S N fx a.sk<|vals a.ts) Y
 |a::b::r=>match cond (g a.x) (OD S N fx a.sk<|vals a.ts) Y with
  |some t=>O (.inl t)
  |none=>gn (yO S N fx vals g<|b::r) λs=>O<|.inr s
def Sh.al :Sh->Bool
 | .list _=>Za
 | .pair a b=>a.al||b.al
 |_=>Zb
mutual
def alV :VV->Bool
 | .lst _ _=>Za
 | .tgt _ _=>Za
 | .pin _ _ _=>Za
 | .fn _ a c=>QZ a||QZ c
 | .agg l=>QZ l
 | .tup l=>QZ l
 |_=>Zb
def QZ :List VV->Bool
 |[]=>Zb
 |v::r=>alV v||QZ r
end
def alB :Blk->Bool
 | .dead=>Zb
 | .cells _ _ l=>QZ l
 | .arr s _ _=>s.al
def B5 (vs:List VV)(fs bs:List Blk):Bool:=QZ vs||fs.any alB||bs.any alB
def Blk.may :Blk->Bool
 | .dead=>Za
 | .cells _ z _=> !z
 | .arr _ z _=> !z
def M1 (S:ak)(fx:List Nat):Bool:=fx.all λj=>Nat.blt j (ft S)&&(ag S j).may
structure FSum where
 f:Nat
 vals:List Sk
 objs:List OSk
 outs:List Alt
 run:BF (rp.shs ⟨vals,[],objs⟩)->Option (wG outs)
def FSum.ins (F:FSum):rp:=⟨F.vals,[],F.objs⟩
def vD :List OSk->Nat->List Nat
 |[],_=>[]
 |o::r,i=>cond o.ro (vD r<|i+1)<|i::vD r (i+1)
def yM (m:List<|Option Src)(n g j:Nat):Nat:=cond (Nat.blt j n) (match nth m j with
 |some (O x)=>x.k
 |_=>g) (g+(j-n))
def yr :List Nat->List Blk->ak->Option ak
 |[],[],S=>O S
 |j::h,b::g,S=>yr h g (kE S j b)
 |_,_,_=>Y
def aR2 (N:Nat)(g:List OSk):List Sk->List VV->ak->ak
 |k::r,v::h,S=>aR2 N g r h (match k with
  | .full j=>(match nth g (j-N)with
   |some (.arr _ s)=>cond (s.al&&aD N j) (aR3 S v) S
   |_=>S)
  |_=>S)
 |_,_,S=>S
def aA3 :Sk->VV->ak->ak
 | .leaf (.list<|.list _),v,S=>aR3 S v
 |_,_,S=>S
def GG :List Sk->List VV->ak->ak
 |k::r,v::g,S=>GG r g (aA3 k v S)
 |_,_,S=>S
def Fh :List Nat->ak->ak
 |[],S=>S
 |k::r,S=>Fh r<|kE S k (ag S k).freeze
def bb6 {β:Type}(F:FSum)(t:BF F.ins.shs)(st:DSt)(S:ak)(k:VV->ak->Option β):Option β:=
 gn (F.run t) λo=>av1 F.outs o λa u=>match mB (yM st.m (ft F.objs)<|ft S) a.sk (Nt a.sk.shs u)with
  |some ([v],h,g)=>(match yr (lD F.objs st.m) h (cond (B5 [v] h g) (Fh st.lent S) S)with
   |some S'=>k v (S'++g)
   |none=>Y)
  |_=>Y
def RC :List (Option Src)->Bool
 |[]=>Za
 |some ⟨_,Y⟩::r=>RC r
 |_=>Zb
def Ox {β:Type}:List FSum->Nat->List VV->ak->(VV->ak->Option β)->Option β
 |[],_,_,_,_=>Y
 |F::r,f,g,S,k=>cond (aB F.f f) (match nk (GG F.vals g S) 0 [] F.ins g with
  |some h=>(match UB F.ins.shs h.ls with
   |some t=>gd (RC h.m&&M1 (GG F.vals g S) (lD F.objs h.m)) (bb6 F t h (GG F.vals g S) k)
   |none=>Ox r f g S k)
  |none=>Ox r f g S k) (Ox r f g S k)
structure Inl where
 f:Nat
 run:(β:Type)->List VV->ak->(VV->ak->Option β)->Option β
structure Tab where
 fs:List FSum
 is:List Inl
def aR8 :List Inl->Nat->Bool
 |[],_=>Zb
 |I::r,f=>cond (aB I.f f) Za<|aR8 r f
def aa3 {β:Type}:List Inl->Nat->List VV->ak->(VV->ak->Option β)->Option β
 |[],_,_,_,_=>Y
 |I::r,f,g,S,k=>cond (aB I.f f) (I.run β g S k)<|aa3 r f g S k
def aa4 {β:Type}(tab:Tab)(f:Nat)(args:List VV)(S:ak)(k:VV->ak->Option β):Option β:=
 cond (aR8 tab.is f) (aa3 tab.is f args S k) (Ox tab.fs f args S k)
def K2 :Nat->List Nat
 |0=>[]
 |n+1=>n::K2 n
def ao7 {β:Type}(S:ak)(x:Option VV)(k:VV->ak->Option β):Option β:=match x with
 |some v=>k v S
 |none=>Y
def Li {β:Type}(tab:Tab)(op:AOp)(e:db)(S:ak)(k:VV->ak->Option β):Option β:=match op with
 | .move x=>k (ev e x) S
 | .pick c a b=>(match ev e c with
  | .bool p=>aF3 p (ev e a) (ev e b) S k
  |_=>Y)
 | .alloc g z=>gd (aD 1 g) (k (.ptr (ft S) 0)<|S++[Gv g z])
 | .box g x=>gd (aD 1 g&&pE (nj<|ev e x)) (k (.ptr (ft S) 0)<|S++[.cells g Zb<|nj<|ev e x])
 | .build z E=>(match Mk (z.map M0) (CS e E)with
  |some cs=>k (.agg cs) S
  |none=>Y)
 | .buildSlice g C z E=>(match Mk ((bB C<|z.map M0).flatten) (CS e E)with
  |some cs=>gd (pE cs&&aB (C*g) (ft cs)&&aD 1 g) (k (.full<|ft S)<|S++[.cells g Zb cs])
  |none=>Y)
 | .load x=>RM S 1 Zb (ev e x) k
 | .loadN n x=>RM S n Za (ev e x) k
 | .store n a x=>gd (aB (ft<|nj<|ev e x) n&&pE (nj<|ev e x)) (YR S (ev e a) (nj<|ev e x) λS'=>k .undef S')
 | .nilCheck x=>(match ev e x with
  | .fn f a c=>k (.fn f a c) S
  |v=>gd (O3 S v)<|k v S)
 | .bin op x y=>bi9 op (ev e x) (ev e y) λv=>k v S
 | .eqv u D x y=>(match bk7 S u (ev e x) (ev e y)with
  |some b=>k (.bool<|aD0 D b) S
  |none=>Y)
 | .eqCells D H x y=>(match ev e x,ev e y with
  | .agg a, .agg b=>(match QL H a b with
   |some p=>k (.bool<|aD0 D p) S
   |none=>Y)
  |_,_=>Y)
 | .un op x=>unK op (ev e x) λv=>k v S
 | .conv u x=>(match Rr (ev e x)with
  |some n=>k (.int u<|u.wrap n) S
  |none=>Y)
 | .mkFunc f a c=>k (.fn f (a.map<|ev e)<|c.map<|ev e) S
 | .makeSlice g h z l c=>aC8 S g h z (ev e l) (ev e c) k
 | .slice g x lo A=>YN S g (ev e x) (lo.map<|ev e) (A.map<|ev e) k
 | .sliceStr x lo A=>LJ S (ev e x) (lo.map<|ev e) (A.map<|ev e) k
 | .sliceArr g n x lo A=>LI S g n (ev e x) (lo.map<|ev e) (A.map<|ev e) k
 | .off n x=>ao7 S (bn5 S n<|ev e x) k
 | .idx g x i=>bl7 S g (ev e x) (ev e i) k
 | .idxA C g x i=>aA7 S C g (ev e x) (ev e i) k
 | .fieldV o n agg x=>(match ev e x with
  | .agg cs=>cond agg (k (.agg<|Dp cs o n) S) (ao7 S (nth cs o) k)
  |_=>Y)
 | .indexV C g agg x i=>(match ev e x,ev e i with
  | .agg cs, .int _ i=>gn (ix i C) λj=>cond agg (k (.agg<|Dp cs (j*g) g) S) (gd (aB g 1&&aB (ft cs) C)<|U0 cs j S k)
  |_,_=>Y)
 | .indexS x i=>(match ev e x,ev e i with
  | .str l, .int _ i=>gn (rd l i) λb=>k (.int .u8 b) S
  |_,_=>Y)
 | .extract x i=>(match ev e x with
  | .tup L=>ao7 S (nth L i) k
  |_=>Y)
 | .call f F=>aa4 tab f (F.map<|ev e) S k
 | .callv x F=>(match ev e x with
  | .fn f a c=>aa4 tab f (a++F.map (ev e)++c) S k
  |_=>Y)
 | .append g h s x=>Oa S g h (ev e s) (ev e x) k
 | .stuck=>Y
 | .newB=>k (.bld<|ft S) (S++[.cells 1 Zb [.str []]])
 | .strOf x=>YT S (ev e x) k
 | .capN x=>(match ev e x with
  | .nils=>k (.int .i64 0) S
  |_=>Y)
 | .sliceX x A J=>Uh S (ev e x) (ev e A) (ev e J) k
 | .appendZ g h z s x=>Ob S g h z (ev e s) (ev e x) k
 | .copy g d s=>ax9 S g (ev e d) (ev e s) k
 | .len x=>(match ev e x with
  | .str _=>Y
  |v=>(match lenOf S v with
   |some n=>k (.int .i64 n) S
   |none=>Y))
 | .most x y=>(match ev e x,ev e y with
  | .int u a, .int _ b=>k (.int u<|max a b) S
  |_,_=>Y)
 | .least x y=>(match ev e x,ev e y with
  | .int u a, .int _ b=>k (.int u<|min a b) S
  |_,_=>Y)
section
variable (tab:Tab)
def GB {β:Type}:List AOper->db->ak->(db->ak->Option β)->Option β
 |[],e,S,k=>k e S
 |o::r,e,S,k=>match o.guard with
  |none=>Li tab o.op e S λv S'=>GB r (putO e o.dst v) S' k
  |some (t,w)=>match kC e t with
   | .bool p=>cond p
    (cond w (Li tab o.op (rf e t<|.bool Za) S λv S'=>GB r (putO (rf e t<|.bool Za) o.dst v) S' k)<|GB r (putO (rf e t<|.bool Za) o.dst<|.tup []) S k)
    (cond w (GB r (putO (rf e t<|.bool Zb) o.dst<|.tup []) S k)<|Li tab o.op (rf e t<|.bool Zb) S λv S'=>GB r (putO (rf e t<|.bool Zb) o.dst v) S' k)
   | .tup []=>GB r (putO e o.dst<|.tup []) S k
   |_=>Y
def Bg :VV->Option Nat
 | .ptr b _=>O b
 | .it b _=>O b
 | .bld b=>O b
 | .pix b _ _ _=>O b
 | .pel b _ _=>O b
 | .full b=>O b
 | .part b _ _=>O b
 |_=>Y
def av4 (S:ak)(v:VV):Option<|Option Nat:=match v with
 | .pin _ _ _| .lst _ _| .nils=>O Y
 |v=>(match Bg v with
  |some b=>cond (ag S b).live (O<|O b) Y
  |none=>Y)
def ai9 (S:ak)(op:AOp)(e:db):Option<|Option Nat:=match op with
 | .load x| .loadN _ x| .sliceArr _ _ x _ _| .slice _ x _ _=>av4 S (ev e x)
 |_=>Y
def aF0 :Option Nat->List Nat
 |some b=>[b]
 |none=>[]
def wI :List FSum->Nat->List VV->ak->List Nat
 |[],_,_,_=>[]
 |F::r,f,g,S=>cond (aB F.f f) (match nk (GG F.vals g S) 0 [] F.ins g with
  |some h=>(match UB F.ins.shs h.ls with
   |some _=>lD F.objs h.m
   |none=>wI r f g S)
  |none=>wI r f g S) (wI r f g S)
def Tp (f:Nat)(args:List VV)(S:ak):List Nat:=cond (aR8 tab.is f) (K2<|ft S)<|wI tab.fs f args S
def JR (op:AOp)(e:db)(S:ak):List Nat:=match op with
 | .store _ a _=>aF0 (Bg<|ev e a)
 | .append _ _ s _=>aF0 (Bg<|ev e s)
 | .appendZ _ _ _ s _=>aF0 (Bg<|ev e s)
 | .copy _ d _=>aF0 (Bg<|ev e d)
 | .call f g=>Tp tab f (g.map<|ev e) S
 | .callv x g=>(match ev e x with
  | .fn f a c=>Tp tab f (a++g.map (ev e)++c) S
  |_=>[])
 |_=>[]
abbrev H7 :=List<|Nat×Option (Option Nat)×(ak->Bool)
def M7 (d:List Nat):H7->H7
 |[]=>[]
 |(i,O<|O b,f)::r=>(i,cond (lB b d) Y<|O<|O b,f)::M7 d r
 |x::r=>x::M7 d r
def qI (is:List Nat):H7->Bool
 |[]=>Za
 |(i,b,_)::r=>cond (lB i is) (match b with
  |some _=>qI is r
  |none=>Zb) (qI is r)
def Dv (S:ak)(is:List Nat):H7->Bool
 |[]=>Za
 |(i,b,f)::r=>cond (lB i is) (match b with
  |some _=>Dv S is r
  |none=>cond (f S) (Dv S is r) Zb) (Dv S is r)
def bk6 :VV->VV->Bool
 | .int k n, .int g h=>Zc (k=g)&&Zc (n=h)
 | .bool a, .bool b=>Zc (a=b)
 | .str a, .str b=>Zc (a=b)
 | .nilp, .nilp=>Za
 | .nils, .nils=>Za
 |_,_=>Zb
def TP (tab:Tab)(op:AOp)(e:db)(v:VV)(S:ak):Bool:=match Li tab op e S λg _=>O (bk6 v g)with
 |some b=>b
 |none=>Zb
def Lh {β:Type}(it:SItem)(chk:H7)(e:db)(S:ak)(k:H7->db->ak->Option β):Option β:=
 cond it.mover (Li tab it.o.op e S λv S'=>gd (Dv S' it.chks<|M7 (JR tab it.o.op e S) chk)<|k (M7 (JR tab it.o.op e S) chk) (putO e it.o.dst v) S')
  (gd (it.o.op.still&&(!it.keep||it.o.op.isLoad))<|Li tab it.o.op e S λv S'=>k (cond it.keep ((it.idx,ai9 S it.o.op e,TP tab it.o.op e v)::chk) chk) (putO e it.o.dst v) S')
def vB {β:Type}:List SItem->H7->db->ak->(db->ak->Option β)->Option β
 |[],_,e,S,k=>k e S
 |it::r,chk,e,S,k=>match it.o.guard with
  |none=>Lh tab it chk e S λg h S'=>vB r g h S' k
  |some (t,w)=>match kC e t with
   | .bool p=>cond p
    (cond w (Lh tab it chk (rf e t<|.bool Za) S λg h S'=>vB r g h S' k)<|vB r chk (putO (rf e t<|.bool Za) it.o.dst<|.tup []) S k)
    (cond w (vB r chk (putO (rf e t<|.bool Zb) it.o.dst<|.tup []) S k)<|Lh tab it chk (rf e t<|.bool Zb) S λg h S'=>vB r g h S' k)
   | .tup []=>vB r chk (putO e it.o.dst<|.tup []) S k
   |_=>Y
end
structure LItem where
 i:Nat
 kind:Nat
 chks:List Nat
 need:List Nat
def bg (g:List<|AOper×List Nat)(i:Nat):AOper:=match g[i]? with
 |some (o,_)=>o
 |none=>⟨Y, .stuck,Y⟩
def af2 :VV->Bool
 | .int _ _| .bool _| .str _=>Za
 |_=>Zb
def af1 :Value->Bool
 | .int _ _| .bool _| .string _=>Za
 |_=>Zb
def Bm {β:Type}(op:AOp)(e:db)(k:Blk->Bool->Option β):Option β:=match op with
 | .alloc h z=>gd (aD 1 h) (k (Gv h z) Zb)
 | .makeSlice h g z l c=>(match ev e l,ev e c,Mw z with
  | .int _ l, .int _ c,O s=>gd (aB h s.w&&Zc (0<=l)&&Zc (l<=c)&&Zc (g*c<=140737488355328)&&aD 1 g) (k (.arr s Zb<|bB l.toNat<|vJ s) Za)
  |_,_,_=>Y)
 | .buildSlice h u z A=>(match Mk ((bB u<|z.map M0).flatten) (CS e A)with
  |some cs=>gd (pE cs&&aB (u*h) (ft cs)&&aD 1 h&&cs.all af2&&z.all af1) (k (.cells h Zb cs) Za)
  |none=>Y)
 |_=>Y
def vvF (w:Bool)(k:Nat):VV:=cond w (.full k)<|.ptr k 0
def rM (e:db):List Nat->db
 |[]=>e
 |t::g=>rf (rM e g) t .undef
def vE (g:List<|AOper×List Nat):List Nat->List Nat
 |[]=>[]
 |i::r=>(match(bg g i).dst with
  |some d=>[d]
  |none=>[])++vE g r
def bb5 (n:Nat):Option (Option Nat)->Bool
 |some (O q)=>aB q n
 |_=>Zb
section
variable (tab:Tab)
def evG {β:Type}(h:List<|AOper×List Nat)(n:Nat):List Nat->db->ak->Option β->Option β
 |[],_,_,z=>z
 |i::g,e,S,z=>gd ((bg h i).op.still&&(!(bg h i).op.isLoad||bb5 n (ai9 S (bg h i).op e)))<|Li tab (bg h i).op e S λv S'=>evG h n g (putO e (bg h i).dst v) S' z
def Ff {β:Type}(g:List<|AOper×List Nat):List LItem->H7->db->ak->(db->ak->Option β)->Option β
 |[],_,e,S,k=>k e S
 |it::r,chk,e,S,k=>
  cond (aB it.kind 3) (Bm (bg g it.i).op e λ_ _=>Ff g r chk e S k)<|
  cond (aB it.kind 2) (Bm (bg g it.i).op e λblk w=>Ff g r chk (putO e (bg g it.i).dst<|vvF w<|ft S) (S++[blk]) k)
  (cond (aB it.kind 1)
   (Li tab (bg g it.i).op e S λv S'=>gd (qI it.chks (M7 (JR tab (bg g it.i).op e S) chk)&&qI it.need (M7 (JR tab (bg g it.i).op e S) chk))<|Ff g r (M7 (JR tab (bg g it.i).op e S) chk) (putO e (bg g it.i).dst v) S' k)
   (cond (aB it.kind 5) (Bm (bg g it.i).op (rM e<|vE g it.chks) λblk w=>evG tab g (ft S) it.chks (putO (rM e<|vE g it.chks) (bg g it.i).dst<|vvF w<|ft S) (S++[blk])<|Ff g r chk (rM e<|vE g it.chks) S k)<|
   gd (bg g it.i).op.still (Li tab (bg g it.i).op e S λv S'=>gd (qI it.need<|cond (bg g it.i).op.isLoad ((it.i,ai9 S (bg g it.i).op e,λ_=>Zb)::chk) chk)<|Ff g r (cond (bg g it.i).op.isLoad ((it.i,ai9 S (bg g it.i).op e,λ_=>Zb)::chk) chk) (putO e (bg g it.i).dst v) S' k)))
end
def We :Operand->List Nat
 | .tmp t=>[t]
 |_=>[]
def vI :AOp->List Nat
 | .makeSlice _ _ _ l c=>We l++We c
 | .buildSlice _ _ _ g=>g.flatMap λp=>We p.2.2
 |_=>[]
def O2 :AOp->Bool
 | .alloc g _=>aD 1 g
 |_=>Zb
def qE :AOp->Bool
 | .alloc _ _| .makeSlice _ _ _ _ _=>Za
 | .buildSlice _ _ z _=>z.all af1
 |_=>Zb
def tI (d:Option Nat)(l:List Nat):Bool:=match d with
 |some t=> !lB t l
 |none=>Za
def neO (d g:Option Nat):Bool:=match d,g with
 |some t,O h=> !Nat.beq t h
 |_,_=>Za
def Dl (i:Nat):List Nat->List Nat
 |[]=>[]
 |a::r=>cond (aB a i) r<|a::Dl i r
def EZ :List LItem->List Nat->Nat->Option (List Nat×LItem×List LItem)
 |[],_,_=>Y
 |it::r,P,i=>cond (aB it.kind 3) (EZ r P i)<|cond (aB it.kind 2) (cond (lB it.i P) (EZ r (Dl it.i P) i) Y)<|cond (aB it.i i) (O (P,it,r)) Y
def X0 :List LItem->List Nat->Bool
 |[],P=>P.isEmpty
 |it::r,P=>cond (aB it.kind 3) (X0 r P)<|aB it.kind 2&&lB it.i P&&X0 r (Dl it.i P)
def bm1 :AOp->Bool
 | .move _=>Za
 |_=>Zb
def O0 (g:List<|AOper×List Nat):List LItem->Nat->Bool
 |[],_=>Zb
 |it::r,m=>cond (aB it.kind 3) (aB it.i m||O0 g r m)<|(aB it.kind 2&&(aB it.i m||(tI (bg g it.i).dst (vI (bg g m).op)&&O0 g r m)))||(aB it.kind 0&&bm1 (bg g it.i).op&&tI (bg g it.i).dst (vI (bg g m).op)&&O0 g r m)
def vG (h:List<|AOper×List Nat)(g:Nat)(A:Bool)(P:List Nat)(r:List LItem):Bool:=
 P.all (λq=>neO (bg h g).dst (bg h q).dst&&tI (bg h g).dst (vI (bg h q).op))&&
 r.all λu=> !Nat.beq u.kind 2||(A&&aB u.i g)||neO (bg h g).dst (bg h u.i).dst
def bc0 :List LItem->Bool
 |it::_=>aB it.kind 5
 |[]=>Zb
def aP9 :Option Nat->Nat->Bool
 |some a,b=>aB a b
 |none,_=>Zb
def ak0 (h:List<|AOper×List Nat):List Nat->Nat->List Nat->Option (Nat×List Nat)
 |[],f,D=>O (f,D)
 |i::g,f+1,D=>cond (aP9 (eV h D) i&&(bg h i).guard.isNone) (ak0 h g f<|i::D) Y
 |_::_,0,_=>Y
def al1 (g:List<|AOper×List Nat):List LItem->Nat->List Nat->Bool
 |[],0,_=>Za
 |[],_+1,D=>(eV g D).isNone&&(bw g D).isEmpty
 |it::r,f+1,D=>aB it.kind 0&&aP9 (eV g D) it.i&&(bg g it.i).guard.isNone&&al1 g r f (it.i::D)
 |_::_,0,_=>Zb
def VH :List Nat->List LItem->Option (List LItem)
 |[],r=>O r
 |i::g,h::r=>cond (aB h.kind 0&&aB h.i i) (VH g r) Y
 |_::_,[]=>Y
def okG (h:List<|AOper×List Nat)(m c:Nat):List Nat->List Nat->Bool
 |_,[]=>Za
 |pre,i::g=>(bg h i).dst.isSome&&tI (bg h i).dst (vI (bg h m).op)&&neO (bg h i).dst (bg h m).dst&&tI (bg h c).dst (bg h i).op.reads&&neO (bg h c).dst (bg h i).dst&&(i::pre).all (λj=>tI (bg h i).dst (bg h j).op.reads)&&pre.all (λj=>neO (bg h i).dst (bg h j).dst)&&okG h m c (i::pre) g
def ax5 (g:List<|AOper×List Nat)(f:Nat)(D P ls C:List Nat):List LItem->Bool
 |it::h::u::r=>P.isEmpty&&aB h.kind 1&&aB u.kind 2&&aB u.i it.i&&qE (bg g it.i).op&& !qE (bg g h.i).op&&(bg g it.i).guard.isNone&&(bg g h.i).guard.isNone&&tI (bg g it.i).dst (vI (bg g it.i).op)&&
  !(bw g D).isEmpty&&(bw g D).all (λx=>aB x it.i||aB x h.i)&&ls.all (λi=>vu g i it.i||lB i C)&&ls.all (λi=>vu g i h.i||lB i h.chks)&&vG g h.i Zb [it.i] (u::r)&&okG g it.i h.i [] it.chks&&
  (match ak0 g it.chks f (it.i::D),VH it.chks r with
  |some (A+1,D1),O E=>(eV g D1).isNone&&(match bw g D1 with
   |[x]=>aB x h.i
   |_=>Zb)&&al1 g E A (h.i::D1)
  |_,_=>Zb)
 |_=>Zb
def bv7 (u:List<|AOper×List Nat)(h:List Nat->List Nat->List LItem->Bool)(D:List Nat):List LItem->Bool
 |_::g::r=>h (g.i::D) g.need r
 |_=>Zb
def QG (g:List<|AOper×List Nat):Nat->List Nat->List Nat->List Nat->List Nat->List LItem->Bool
 |0,_,P,_,_,r=>X0 r P
 |f+1,D,P,u,C,r=>match eV g D with
  |some i=>(bg g i).guard.isNone&&(match EZ r P i with
   |some (P',h,A)=>aB h.kind 0&&vG g i Zb P' A&&QG g f (i::D) P' (cond (bg g i).op.isLoad (i::u) u) h.need A
   |none=>Zb)
  |none=>cond (bc0 r) (ax5 g f D P u C r&&bv7 g (λD' E A=>QG g f D' [] u E A) D r)<|match bw g D with
   |[]=>X0 r P
   |ms=>ms.all λm=>(bg g m).guard.isNone&&cond (qE (bg g m).op)
    (!lB m P&&r.any (λh=>aB h.kind 2&&aB h.i m)&&(O2 (bg g m).op||O0 g r m)&&vG g m Za P r&&tI (bg g m).dst (vI (bg g m).op)&&u.all (λi=>vu g i m||lB i C)&&QG g f (m::D) (m::P) u C r)
    (match EZ r P m with
    |some (P',h,A)=>aB h.kind 1&&vG g m Zb P' A&&u.all (λi=>vu g i m||lB i h.chks)&&QG g f (m::D) P' u h.need A
    |none=>Zb)
def au7 (i:Nat):List Nat->List Nat
 |[]=>[]
 |a::r=>cond (aB a i) r<|au7 i r
def B7 (g:List<|AOper×List Nat)(h:List Nat):List Nat->List Nat->List LItem
 |[],_=>[]
 |i::r,u=>
  cond (aD 2000 i) (⟨i % 1000,5,(au7 (i % 1000) r).take<|i / 10000,[]⟩::B7 g h r u)<|
  cond (aD 1000 i) (⟨i-1000,3,[],[]⟩::B7 g h r u)<|
  let o:=(bg g i).op
  let A:=cond o.isLoad (i::u) u
  let C:=r.filter λm=>qE (bg g m).op
  ⟨i,cond (qE o) 2<|cond o.still 0 1,u.filter λj=> !vu g j i,A.filter λj=>C.any λm=> !vu g j m⟩::B7 g h r A
def Iq (g:List<|AOper×List Nat):List LItem->Bool
 |[]=>Za
 |it::r=>r.all (λj=> !Nat.beq it.kind 2|| !Nat.beq j.kind 2||neO (bg g it.i).dst (bg g j.i).dst)&&Iq g r
def Hy (g:List<|AOper×List Nat):List LItem->List Nat
 |[]=>[]
 |it::r=>cond (aB it.kind 2) ((match(bg g it.i).dst with
  |some d=>[d]
  |none=>[])++Hy g r) (Hy g r)
inductive AT where
 |no
 |n (l r:AT)
 |lp (fx:List Nat) (head:Alt) (exits:List Alt) (b:AT)
 |jn (fx mov:List Nat) (exits:List Alt) (l r:AT)
 |sz (n:Nat) (l r:AT)
 |dr (L:List Nat)
 |all
def AT.sub :AT->AT
 | .all=> .all
 |_=> .no
def aa0 (g:List<|AOper×List Nat):Nat->List Nat->List Nat
 |0,_=>[]
 |f+1,D=>match eV g D with
  |some i=>i::aa0 g f (i::D)
  |none=>match(bw g D).filter (λm=> !qE (bg g m).op),bw g D with
   |m::_,h=>(h.filter λx=>qE (bg g x).op&& !O2 (bg g x).op).map (1000+ ·)++m::aa0 g f (m::D)
   |[],m::_=>m::aa0 g f (m::D)
   |[],[]=>[]
def drL (g:List<|AOper×List Nat):AT->Option (List Nat)
 | .dr L=>O L
 | .all=>O (aa0 g (ft g) [])
 |_=>Y
def aT9 :List VV->Nat
 |[]=>0
 | .nilp::r=>aT9 r+1
 | .fn f _ _::r=>aT9 r+10*f
 |_::r=>aT9 r
def bm5 :Nat->ak->Nat
 |_,[]=>0
 |k, .cells _ _ l::r=>k*aT9 l+bm5 (k+1) r
 |k,_::r=>bm5 (k+1) r
def aB2 (S:ak):Nat:=ft S+1000*bm5 1 S
def AT.at (n:Nat):AT->AT
 | .sz m l r=>cond (aB m n) l (r.at n)
 |t=>t
def Wm (e:db):List Nat->List VV->db
 |t::g,v::h=>rf (Wm e g h) t v
 |_,_=>e
def Tq :Option Nat->List Nat
 |some d=>[d]
 |none=>[]
def nh :AC->List Nat
 | .region g=>g.flatMap λo=>Tq o.dst
 | .draw g=>g.flatMap λo=>Tq o.1.dst
 | .sched h=>h.flatMap λi=>Tq i.o.dst
 | .seq a b| .cond _ a b=>nh a++nh b
 | .block _ b| .loop b=>nh b
 |_=>[]
def XK.is :XK->AExit->Bool
 | .normal, .normal=>Za
 | .exit i, .exit j=>aB i j
 | .ret, .ret=>Za
 |_,_=>Zb
def XK.out :XK->AExit
 | .normal=> .normal
 | .exit i=> .exit i
 | .ret=> .ret
def jV (fx mov:List Nat)(fz:Bool):Nat->ak->ak
 |_,[]=>[]
 |i,b::r=>cond (lB i mov) (cond b.frozen b .dead) (cond (lB i fx) b<|cond fz b.freeze b)::jV fx mov fz (i+1) r
def GM :AC->Bool
 | .seq a b| .cond _ a b=>GM a&&GM b
 | .block _ b| .loop b=>GM b
 |_=>Za
def am {α γ:Type}(f:α->Option (α⊕γ))(n:Nat):α->Option γ:=
 Nat.rec (λ_=>Y) (λ_ g a=>gn (f a) λs=>be s g O) n
def cj :Nat:=18446744073709551616
def Kt (e0:db)(S:ak)(fx mov h:List Nat)(fz:Bool)(ts:List Nat)(u:rp)(t:BF u.shs):Option<|db×ak:=
 match mB id u (Nt u.shs t)with
 |some (g,C,A)=>(match yr fx C (jV fx mov (fz||B5 g C A) 0 S)with
  |some S'=>O (Wm (rM e0 h) ts g,S'++A)
  |none=>Y)
 |none=>Y
def aR5 {β:Type}(e0:db)(S:ak)(fx mov h:List Nat)(g:List Alt)(s:wG g)(k:AExit->db->ak->Option β):Option β:=
 av1 g s λa t=>match Kt e0 S fx mov h Zb a.ts a.sk t with
  |some (e,S')=>k a.x.out e S'
  |none=>Y
def Pc (F:AT->(β:Type)->db->ak->(AExit->db->ak->Option β)->Option β):AT->(β:Type)->db->ak->(AExit->db->ak->Option β)->Option β
 | .n l r,β,e,S,k=>F l β e S λx g S'=>match x with
  | .normal=>Pc F r β g S' k
  |x=>k x g S'
 | .sz m l r,β,e,S,k=>cond (aB m<|ft S) (Pc F l β e S k) (Pc F r β e S k)
 |_,_,_,_,_=>Y
def aC5 (F:(β:Type)->db->ak->(AExit->db->ak->Option β)->Option β)(n:Nat):(β:Type)->db->ak->(AExit->db->ak->Option β)->Option β:=
 Nat.rec (λ_ _ _ _=>Y) (λ_ h β e S k=>F β e S λx g S'=>match x with
  | .normal=>h β g S' k
  |x=>k x g S') n
def AT.rounds :AT->Nat
 | .n _ r=>r.rounds+1
 | .sz _ l r=>l.rounds+r.rounds
 |_=>0
def eval (tab:Tab):AC->AT->(β:Type)->db->ak->(AExit->db->ak->Option β)->Option β
 | .skip,_,_,e,S,k=>k .normal e S
 | .exit i,_,_,e,S,k=>k (.exit i) e S
 | .ret,_,_,e,S,k=>k .ret e S
 | .region h,_,_,e,S,k=>GB tab h e S λA S'=>k .normal A S'
 | .sched F,_,_,e,S,k=>vB tab F [] e S λA S'=>k .normal A S'
 | .draw h,C,_,e,S,k=>(match drL h (C.at<|aB2 S)with
  |some L=>gd (QG h (ft h) [] [] [] [] (B7 h L L [])&&Iq h (B7 h L L [])) (Ff tab h (B7 h L L []) [] (rM e<|Hy h<|B7 h L L []) S λA S'=>k .normal A S')
  |none=>Y)
 | .seq a b,C,β,e,S,k=>
  (match C.at (aB2 S)with
  | .jn D E g l r=>gd (M1 S D&&GM a) (gn (eval tab a l (wG g) e (jV (D++E) [] Za 0 S) λx A S'=>yO S' (ft S) D (λts=>ts.map<|kC A) (λy=>y.is x) g) λs=>
    aR5 e S D E (nh a) g s λx A S'=>match x with
     | .normal=>eval tab b r β A S' k
     |x=>k x A S')
  | .n l r=>eval tab a l β e S λx A S'=>match x with
   | .normal=>eval tab b r β A S' k
   |x=>k x A S'
  |u=>eval tab a u.sub β e S λx A S'=>match x with
   | .normal=>eval tab b u.sub β A S' k
   |x=>k x A S')
 | .cond c a b,C,β,e,S,k=>
  (match ev e c with
  | .bool p=>(match c,C.at (aB2 S)with
   | .tmp t, .n l r=>cond p (eval tab a l β (rf e t<|.bool Za) S k) (eval tab b r β (rf e t<|.bool Zb) S k)
   | .tmp t,u=>cond p (eval tab a u.sub β (rf e t<|.bool Za) S k) (eval tab b u.sub β (rf e t<|.bool Zb) S k)
   |_, .n l r=>cond p (eval tab a l β e S k) (eval tab b r β e S k)
   |_,u=>cond p (eval tab a u.sub β e S k)<|eval tab b u.sub β e S k)
  |_=>Y)
 | .block id b,C,β,e,S,k=>
  eval tab b (match C.at (aB2 S)with
   | .n l _=>l
   |u=>u.sub) β e S λx A S'=>match x with
   | .exit i=>cond (aB i id) (k .normal A S') (k (.exit i) A S')
   |x=>k x A S'
 | .loop b,C,_,e,S,k=>
  (match C.at (aB2 S)with
  | .lp D head g l=>(λS=>gd (head.sk.fxRo&&M1 S D&&GM b) (match nk S (ft S) D head.sk (head.ts.map<|kC e)with
   |some H=>gn (UB head.sk.shs H.ls) λM=>
    (am (λt=>match Kt e S D (tN H.m) (nh b) Za head.ts head.sk t with
     |some (J,S1)=>eval tab b l (BF head.sk.shs⊕wG g) J S1 λx A S'=>(match x with
      | .normal=>gn (ab4 S' (ft S) D head.sk<|head.ts.map<|kC A) λt=>O (.inl t)
      |x=>gn (yO S' (ft S) D (λts=>ts.map<|kC A) (λy=>y.is x) g) λs=>O<|.inr s)
     |none=>Y) cj M).bind λs=>aR5 e S D (tN H.m) (nh b) g s k
   |none=>Y)) (aR2 (ft S) head.sk.free head.sk.vals (head.ts.map<|kC e) S)
  | .all=>aC5 (eval tab b .all) 1000000 _ e S k
  |_=>Pc (eval tab b) C _ e S k)
def aW3 (e:db)(S:ak):ARes->Option VV
 | .tmp t=>O (kC e t)
 | .cell t=>(match kC e t with
  | .ptr b o=>(match ag S b with
   | .cells _ _ l=>nth l o
   |_=>Y)
  |_=>Y)
 | .cellN t n=>(match kC e t with
  | .ptr b o=>(match ag S b with
   | .cells _ _ l=>cond (aD (o+n)<|ft l) (O<|.agg<|(l.drop o).take n) Y
   |_=>Y)
  |_=>Y)
def Kp (e:db)(S:ak):List ARes->Option (List VV)
 |[]=>O []
 |r::rs=>gn (aW3 e S r) λv=>gn (Kp e S rs) λg=>O<|v::g
def Xc :List VV->VV
 |[v]=>v
 |vs=> .tup vs
def bm (P:Program)(f:FuncId)(tab:Tab)(at':AT):(β:Type)->List VV->ak->(VV->ak->Option β)->Option β:=λβ g S k=>
 match as0 P f with
 |some a=>gd (aD (ft g) a.ntmps) (eval tab a.body at' β g S λx e S'=>match x with
  | .exit _=>Y
  |_=>(match Kp e S' a.results with
   |some rs=>k (Xc rs) S'
   |none=>Y))
 |none=>Y
def Lj (P:Program)(f:FuncId)(tab:Tab)(vals:List Sk)(g:List OSk)(h:List Alt)(at':AT)(t:BF<|rp.shs ⟨vals,[],g⟩):Option<|wG h:=
 match as0 P f,mB id ⟨vals,[],g⟩ (Nt _ t)with
 |some a,O (u,_,S)=>gd (aD (ft u) a.ntmps) (eval tab a.body at' (wG h) u S λx e S'=>match x with
  | .exit _=>Y
  |_=>(match Kp e S' a.results with
   |some rs=>yO S' (ft S) (vD g 0) (λ_=>[Xc rs]) (λ_=>Za) h
   |none=>Y))
 |_,_=>Y
end
section
open Nat renaming lt_of_lt_of_le->aB
structure Ctx where
 μ:Nat->Option Nat
 S:ak
 Z:Hp
 fb:Nat->Prop
def Blk.dim :Blk->Option (Nat×Nat)
 | .dead=>Y
 | .cells g _ l=>O (g,ft l)
 | .arr s _ l=>O (s.w,ft l*s.w)
def Blk.vals :Blk->List VV
 | .dead=>[]
 | .cells _ _ l=>l
 | .arr s _ l=>fZ s l
def Ctx.own (c:Ctx)(b:Nat):Prop:= ∃k,(ag c.S k).frozen=Zb/\c.μ k=O b
def Ctx.mut (c:Ctx)(b:Nat):Prop:=c.own b∨c.fb b
def I7 (c:Ctx)(k lo n:Nat)(d:Nat×Nat)(a:Value):Prop:=
 (a= .slice Y 0 0/\lo=0/\n=0/\c.μ k=Y/\d.2=0)∨
 ∃b g y,a= .slice (O ⟨b,lo*d.1,Y⟩) n g/\c.μ k=O b/\(lo+n)*d.1<=d.2/\n<=g/\c.Z.m b=O y/\(lo+g)*d.1<=ft y.cells
inductive VRel (c:Ctx):VV->Value->Prop where
 |undef (a:Value):VRel c .undef a
 |bool (b:Bool):VRel c (.bool b) (.bool b)
 |int (k:IntKind) (n:Int):VRel c (.int k n) (.int k n)
 |str {l:Zd} {s:ByteArray}:fc s=l->VRel c (.str l) (.string s)
 |nilp:VRel c .nilp (.pointer Y)
 |nils:VRel c .nils (.slice Y 0 0)
 |nilf:VRel c .nilf .nilFunc
 |ptr {k o:Nat} {a:Value}:k<ft c.S->one a=Za->(∀d,(ag c.S k).dim=O d->∃b,c.μ k=O b/\a= .pointer (O ⟨b,o,Y⟩))->VRel c (.ptr k o) a
 |it {k:Nat} {l:Zd} {s:ByteArray} {a:Value}:k<ft c.S->one a=Za->fc s=l->(∀d,(ag c.S k).dim=O d->∃b,c.μ k=O b/\a= .iface b (.string s))->VRel c (.it k l) a
 |bld {k:Nat} {a:Value}:k<ft c.S->one a=Za->(∀d,(ag c.S k).dim=O d->∃b,c.μ k=O b/\a= .iface b .nilFunc)->VRel c (.bld k) a
 |pix {k o n i:Nat} {a:Value}:k<ft c.S->one a=Za->i<n->(∀d,(ag c.S k).dim=O d->∃b,c.μ k=O b/\a= .pointer (O ⟨b,o+i,Y⟩))->VRel c (.pix k o n i) a
 |pel {k i o:Nat} {a:Value}:k<ft c.S->one a=Za->(∀d,(ag c.S k).dim=O d->∃b,c.μ k=O b/\a= .pointer (O ⟨b,i*d.1+o,Y⟩))->VRel c (.pel k i o) a
 |pin {s:Sh} {x:El s} {o b p:Nat} {y:Ab.Blk}: ¬c.mut b->c.Z.m b=O y->p+s.w<=ft y.cells->F2 (VRel c) (ey s x) ((y.cells.drop p).take s.w)->VRel c (.pin s x o) (.pointer<|O ⟨b,p+o,Y⟩)
 |lstn {s:Sh} {q:Option Addr}:(∀z,q=O z->z.spot=Y)->VRel c (.lst s []) (.slice q 0 0)
 |lst {s:Sh} {l:List<|El s} {b p n cp:Nat} {y:Ab.Blk}: ¬c.mut b->c.Z.m b=O y->y.es=s.w->n=ft l->n<=cp->p+n*s.w<=ft y.cells->
   F2 (VRel c) (fZ s l) ((y.cells.drop p).take<|n*s.w)->VRel c (.lst s l) (.slice (O ⟨b,p,Y⟩) n cp)
 |tgtn {s:Sh} {a:Value}:(a= .slice Y 0 0∨∃b o,a= .slice (O ⟨b,o,O 0⟩) 0 0)->VRel c (.tgt s []) a
 |tgt {s:Sh} {l:List<|El s} {b p:Nat} {y:Ab.Blk}: ¬c.mut b->c.Z.m b=O y->y.es=s.w->p+ft l*s.w<=ft y.cells->
   F2 (VRel c) (fZ s l) ((y.cells.drop p).take<|ft l*s.w)->VRel c (.tgt s l) (.slice (O ⟨b,p,O 0⟩) (ft l)<|ft l)
 |full {k:Nat} {a:Value}:k<ft c.S->one a=Za->(∀d,(ag c.S k).dim=O d->∃n,n*d.1=d.2/\I7 c k 0 n d a)->VRel c (.full k) a
 |part {k lo n:Nat} {a:Value}:k<ft c.S->one a=Za->(∀d,(ag c.S k).dim=O d->I7 c k lo n d a)->VRel c (.part k lo n) a
 |fn {f:Nat} {a b:List VV} {a' b':Array Value}:F2 (VRel c) a a'.toList->F2 (VRel c) b b'.toList->VRel c (.fn f a b) (.func (.func f) a' b')
 |agg {l:List VV} {l':Array Value}:F2 (VRel c) l l'.toList->VRel c (.agg l) (.agg l')
 |tup {l:List VV} {l':Array Value}:F2 (VRel c) l l'.toList->VRel c (.tup l) (.tuple l')
def Ny (c:Ctx)(k:Nat):Prop:= ∀d,(ag c.S k).dim=O d->1<=d.1/\
 ((d.2=0/\c.μ k=Y)∨∃b y cs g,c.μ k=O b/\c.Z.m b=O y/\y.es=d.1/\((ag c.S k).frozen=Zb->y.own=Za)/\y.cells=cs++g/\F2 (VRel c) (ag c.S k).vals cs)
structure Rel (c:Ctx):Prop where
 ok:c.Z.Ok
 inj: ∀k k' b,(ag c.S k).frozen=Zb->(ag c.S k').dim≠Y->c.μ k=O b->c.μ k'=O b->k=k'
 blk: ∀k,Ny c k
 fbk: ∀k b,(ag c.S k).dim≠Y->c.μ k=O b->¬c.fb b
 fbl: ∀b,c.fb b->b<c.Z.n
structure Le (c c':Ctx):Prop where
 len:ft c.S<=ft c'.S
 al: ∀k d,k<ft c.S->(ag c'.S k).dim=O d->(ag c.S k).dim=O d/\c'.μ k=c.μ k
 fz: ∀k,(ag c.S k).frozen=Za->(ag c.S k).dim≠Y->ag c'.S k=ag c.S k
 ln: ∀k d b y,k<ft c.S->(ag c'.S k).dim=O d->c.μ k=O b->c.Z.m b=O y->∃y',c'.Z.m b=O y'/\ft y'.cells=ft y.cells
 un: ∀b y,c.Z.m b=O y->¬c.own b->c'.Z.m b=O y
 ow: ∀b y,c.Z.m b=O y->¬c.own b->¬c'.own b
 n:c.Z.n<=c'.Z.n
 fb:c'.fb=c.fb
def Le.rd {c g:Ctx}(h:Le c g)(b:Nat)(y:Ab.Blk)(C:c.Z.m b=O y)(A: ¬c.mut b):g.Z.m b=O y/\¬g.mut b:=by
 have u: ¬c.own b:=λe=>A (.inl e)
 refine⟨h.un b y C u,λe=> ?_⟩;rcases e with e|e
 .exact h.ow b y C u e
 rw[h.fb]at e;exact A<|.inr e
def vN (d:List Nat)(c g:Ctx):Prop:= ∀k,k<ft c.S->k∉d->(ag c.S k).dim≠Y->(ag g.S k).dim≠Y/\∀b,c.μ k=O b->g.Z.m b=c.Z.m b
def ll {S:ak}(h:(ag S k).dim≠Y):k<ft S:=by
 induction S generalizing k with
 |nil=>exact(h rfl).elim
 |cons b r g=>
  cases k with
  |zero=>exact Nat.zero_lt_succ _
  |succ k=>exact Nat.succ_lt_succ<|g h
def yo {S:ak}(h:ft S<=k):ag S k= .dead:=by
 induction S generalizing k with
 |nil=>rfl
 |cons b r g=>
  cases k with
  |zero=>simp at h
  |succ k=>exact g V8
def G3 {S:ak}:ft (kE S k b)=ft S:=by
 induction S generalizing k with
 |nil=>rfl
 |cons a r g=>cases k<;>simp[kE,g]
def Ay {S:ak}:ag (kE S k b) i=if i=k/\k<ft S then b else ag S i:=by
 induction S generalizing k i with
 |nil=>simp[kE]
 |cons a r g=>
  cases k with
  |zero=>cases i<;>simp[kE,ag]
  |succ k=>
   cases i with
   |zero=>simp[kE,ag]
   |succ i=>simp[kE,ag,g]
def af3 {S:ak}(h:k<ft S):ag (kE S k b) k=b:=by rw[Ay,zE ⟨rfl,h⟩]
def aX4 {S:ak}(h:i≠k):ag (kE S k b) i=ag S i:=by rw[Ay,zF<|λe=>h e.1]
def nv {S:ak}{l:List Blk}(h:k<ft S):ag (S++l) k=ag S k:=by
 induction S generalizing k with
 |nil=>simp at h
 |cons a r g=>
  cases k with
  |zero=>rfl
  |succ k=>exact g V8
def tK {S:ak}{l:List Blk}{k:Nat}:ag (S++l) (ft S+k)=ag l k:=by
 induction S with
 |nil=>simp
 |cons a r g=>
  have:ft (a::r)+k=(ft r+k)+1:=by simp;omega
  rw[this];exact g
def WV {S:ak}:ag (S++[b]) (ft S)=b:=by
 exact @tK S [b] 0
def mv (h:b.frozen=Zb):b.dim≠Y:=by cases b<;>simp[Blk.frozen,Blk.dim]at*
def gf :b.freeze.dim=b.dim:=by cases b<;>rfl
def MA :b.freeze.vals=b.vals:=by cases b<;>rfl
def kB :b.freeze.frozen=Za:=by cases b<;>rfl
def Dr (h:b.frozen=Za):b.freeze=b:=by cases b<;>simp[Blk.frozen,Blk.freeze]at* <;>simp[h]
def Le.refl (c:Ctx):Le c c:=⟨Nat.le_refl _,λ_ _ _ h=>⟨h,rfl⟩,λ_ _ _=>rfl,λ_ _ _ y _ _ _ g=>⟨y,g,rfl⟩,λ_ _ h _=>h,λ_ _ _ h=>h,Nat.le_refl _,rfl⟩
def Le.trans {a b c:Ctx}(h:Le a b)(k:Le b c):Le a c:=by
 refine⟨Nat.le_trans h.len k.len,λi d A u=> ?_,λi J u=> ?_,λi d x y A u L C=> ?_,λx y C D=>k.un x y (h.un x y C D)<|h.ow x y C D,λx y C D=>k.ow x y (h.un x y C D)<|h.ow x y C D,Nat.le_trans h.n k.n,k.fb.trans h.fb⟩
 .obtain⟨g,H⟩:=k.al i d (aB A h.len) u;have⟨E,F⟩:=h.al i d A g;exact⟨E,H.trans F⟩
 .have g:=h.fz i J u;rw[k.fz i (by rw[g];exact J) (by rw[g];exact u),g]
 have⟨g,H⟩:=k.al i d (aB A h.len) u;have⟨W,E,F⟩:=h.ln i d x y A g L C;have⟨_,U⟩:=h.al i d A g;have⟨X,M,V⟩:=k.ln i d x W (aB A h.len) u (U.trans L) E;exact⟨X,M,V.trans F⟩
def vN.refl (d:List Nat)(c:Ctx):vN d c c:=λ_ _ _ h=>⟨h,λ_ _=>rfl⟩
def I7.frame {c u:Ctx}(h:Le c u){n:Nat}(E:k<ft c.S)(D:(ag u.S k).dim=O d)(U:I7 c k lo n d a):I7 u k lo n d a:=by
 have⟨X,C⟩:=h.al k d E D;rcases U with⟨rfl,rfl,rfl,g,W⟩|⟨b,F,y,rfl,g,H,J,V,L⟩
 .exact .inl ⟨rfl,rfl,rfl,C.trans g,W⟩
 have⟨y',A,M⟩:=h.ln k d b y E D g V;exact .inr ⟨b,F,y',rfl,C.trans g,H,J,A,by rw[M];exact L⟩
theorem VRel.frame {c L:Ctx}(h:Le c L): ∀{v:VV} {a:Value},VRel c v a->VRel L v a
 |_,_, .undef a=> .undef a
 |_,_, .bool b=> .bool b
 |_,_, .int k n=> .int k n
 |_,_, .str V=> .str V
 |_,_, .nilp=> .nilp
 |_,_, .nils=> .nils
 |_,_, .nilf=> .nilf
 |_,_, .ptr A g D=> .ptr (aB A h.len) g λd u=>by
  have⟨g,C⟩:=h.al _ d A u
  grind
 |_,_, .it A g V D=> .it (aB A h.len) g V λd u=>by
  have⟨g,C⟩:=h.al _ d A u
  grind
 |_,_, .bld A g D=> .bld (aB A h.len) g λd u=>by
  have⟨g,C⟩:=h.al _ d A u
  grind
 |_,_, .pix A g X D=> .pix (aB A h.len) g X λd u=>by
  have⟨g,C⟩:=h.al _ d A u
  grind
 |_,_, .pel A g D=> .pel (aB A h.len) g λd u=>by
  have⟨g,C⟩:=h.al _ d A u
  grind
 |_,_, .pin E F hl J=> .pin (h.rd _ _ F E).2 (h.rd _ _ F E).1 hl (go J)
 |_,_, .lstn U=> .lstn U
 |_,_, .lst E F M g C H J=> .lst (h.rd _ _ F E).2 (h.rd _ _ F E).1 M g C H (go J)
 |_,_, .tgtn U=> .tgtn U
 |_,_, .tgt E F M H J=> .tgt (h.rd _ _ F E).2 (h.rd _ _ F E).1 M H (go J)
 |_,_, .full A g D=> .full (aB A h.len) g λd u=>by
  have⟨g,C⟩:=h.al _ d A u;have⟨n,H,W⟩:=D d g;exact⟨n,H,W.frame h A u⟩
 |_,_, .part A g D=> .part (aB A h.len) g λd u=>by
  have⟨g,C⟩:=h.al _ d A u;exact(D d g).frame h A u
 |_,_, .fn g C=> .fn (go g) (go C)
 |_,_, .agg g=> .agg (go g)
 |_,_, .tup g=> .tup<|go g
where
 go: ∀{l:List VV} {m:List Value},F2 (VRel c) l m->F2 (VRel L) l m
  |_,_, .nil=> .nil
  |_,_, .cons g C=> .cons (VRel.frame h g)<|go C
def VRel.frames {c g:Ctx}(h:Le c g){l:List VV}{m:List Value}(u:F2 (VRel c) l m):F2 (VRel g) l m:=u.imp λ_ _ A=>A.frame h
def i6 {β:Type}(c:Ctx)(d:List Nat)(k:VV->ak->Option β)(y:β)(v:Value)(Z':Hp):Prop:=
 ∃h g,g.Z=Z'/\Le c g/\Rel g/\vN d c g/\VRel g h v/\k h g.S=O y
def i6.same {β:Type}{c:Ctx}{d:List Nat}{k:VV->ak->Option β}{y:β}{v:Value}{g:VV}(h:Rel c)(A:VRel c g v)(u:k g c.S=O y):i6 c d k y v c.Z:=
 ⟨g,c,rfl,Le.refl c,h,vN.refl d c,A,u⟩
end
section
open List renaming length_append->bB,length_cons->bD,take_append->cB,take_of_length_le->cD
open Nat renaming succ_mul->aB,le_refl->aD,mul_le_mul_right->cK
def nA : ∀s:Sh,1<=s.w
 | .int _=>aD _
 | .bool=>aD _
 | .str=>aD _
 | .list _=>aD _
 | .pair a _=>Nat.le_trans (nA a)<|Nat.le_add_right _ _
def ff : ∀(s:Sh) (x:El s),ft (ey s x)=s.w
 | .int _,_=>rfl
 | .bool,_=>rfl
 | .str,_=>rfl
 | .list _,_=>rfl
 | .pair a b,x=>by
  simp only[ey,bB,Sh.w];rw[ff a,ff b]
def Hw :fZ s []=[]:=rfl
def gK {x:El s}{l:List<|El s}:fZ s (x::l)=ey s x++fZ s l:=rfl
def gP {l:List<|El s}:ft (fZ s l)=ft l*s.w:=by
 induction l with
 |nil=>simp[Hw]
 |cons x l g=>rw[gK,bB,ff,g,bD,aB,Nat.add_comm]
def At {l m:List<|El s}:fZ s (l++m)=fZ s l++fZ s m:=List.flatMap_append
def kR {l:List<|El s}{n:Nat}:fZ s (l.take n)=(fZ s l).take (n*s.w):=by
 induction l generalizing n with
 |nil=>simp[Hw]
 |cons x l h=>
  cases n with
  |zero=>simp[Hw]
  |succ n=>
   rw[List.take_succ_cons,gK,gK,h,cB,ff];have g:(n+1)*s.w-s.w=n*s.w:=by rw[aB];omega
   rw[g,cD (l:=ey s x) (by rw[ff,aB];omega)]
def Bl {l:List<|El s}{n:Nat}:fZ s (l.drop n)=(fZ s l).drop (n*s.w):=by
 induction l generalizing n with
 |nil=>simp[Hw]
 |cons x l h=>
  cases n with
  |zero=>simp
  |succ n=>
   rw[List.drop_succ_cons,gK,h,List.drop_append,ff];have g:(n+1)*s.w-s.w=n*s.w:=by rw[aB];omega
   rw[g,List.drop_of_length_le (l:=ey s x) (by rw[ff,aB];omega),List.nil_append]
theorem Lm {l:List<|El s}{x:El s}(h:l[i]?=O x):((fZ s l).drop<|i*s.w).take s.w=ey s x:=by
 rw[<-Bl]
 have u:i<ft l:=by
  grind
 have g:l.drop i=x::l.drop (i+1):=by
  rw[List.drop_eq_getElem_cons u]
  grind
 rw[g,gK,cB,ff,Nat.sub_self,List.take_zero,List.append_nil,cD (by rw[ff];exact aD _)]
theorem lV {g:Sh}{x:El g}{y:El s}(h:ni g s x=O y): ∃e:g=s,y=e▸x:=by
 unfold ni at h
 grind
def lU {x:El s}:ni s s x=O x:=by
 unfold ni;rw[dif_pos rfl]
def F2.app_left {α β:Type}{r:α->β->Prop}{l l':List α}{m:List β}(h:F2 r (l++l') m): ∃g u,m=g++u/\F2 r l g/\F2 r l' u:=by
 induction l generalizing m with
 |nil=>exact⟨[],m,rfl, .nil,h⟩
 |cons a l F=>
  cases h with
  |cons A C=>
   obtain⟨g,u,rfl,D,E⟩:=F C;exact⟨_::g,u,rfl, .cons A D,E⟩
def AW (c:Ctx)(s:Sh)(l:List<|El s)(a:Value):Prop:=
 (∃q:Option Addr,a= .slice q 0 0/\l=[]/\∀z,q=O z->z.spot=Y)∨∃b p g y,a= .slice (O ⟨b,p,Y⟩) (ft l) g/\c.Z.m b=O y/\y.es=s.w/\ft l<=g/\p+ft l*s.w<=ft y.cells/\F2 (VRel c) (fZ s l) ((y.cells.drop p).take<|ft l*s.w)
def AW.rel {c:Ctx}{l:List<|El s}(h:AW c s l a)(J: ∀b p n g,a= .slice (O ⟨b,p,Y⟩) n g->g≠0->¬c.mut b):VRel c (.lst s l) a:=by
 rcases h with⟨q,rfl,rfl,L⟩|⟨b,p,g,y,rfl,C,D,E,F,H⟩
 .exact .lstn L
 by_cases A:g=0
 .subst A;have:l=[]:=dl.1 V1;subst this;exact .lstn λz u=>by injection u with u;rw[<-u]
 exact .lst (J _ _ _ _ rfl A) C D rfl E F H
def VRel.listAt {c:Ctx}{l:List<|El s}(h:VRel c (.lst s l) a):AW c s l a:=by
 cases h with
 |lstn E=>exact .inl ⟨_,rfl,rfl,E⟩
 |lst H F D g u A C=>subst g;exact .inr ⟨_,_,_,_,rfl,F,D,u,A,C⟩
def VRel.lst_mut {c:Ctx}{l:List<|El s}{b n g:Nat}(h:VRel c (.lst s l)<|.slice (O ⟨b,p,Y⟩) n g)(u:g≠0): ¬c.mut b:=by
 cases h with
 |lstn=>exact(u rfl).elim
 |lst A=>exact A
def Rel.fz_mut {c:Ctx}(u:Rel c){b:Nat}(C:(ag c.S k).frozen=Za)(A:(ag c.S k).dim≠Y)(D:c.μ k=O b): ¬c.mut b:=by
 rintro(⟨F,g,E⟩|h)
 .have:=u.inj F k b g A E D;subst this;rw[g]at C;cases C
 exact u.fbk k b A D h
def L9 (c:Ctx)(s:Sh)(f:List VV->Option (El s×List VV)):Prop:= ∀g x h,f g=O (x,h)->
 ∃u,g=u++h/\ft u=s.w/\∀A,F2 (VRel c) u A->F2 (VRel c) (ey s x) A
def K9 {c:Ctx}{s:Sh}{f:List VV->Option (El s×List VV)}(E:L9 c s f): ∀(n:Nat) (cells:List VV) (l:List<|El s),Mf f n cells=O l->
  (ft cells)=ft l*s.w/\∀as,F2 (VRel c) cells as->F2 (VRel c) (fZ s l) as
 |n,[],l,h=>by
  have:l=[]:=by cases n<;>simpa[Mf]using h.symm
  subst this;exact⟨V2,λas u=>u⟩
 |0,_::_,_,h=>by simp[Mf]at h
 |n+1,v::r,l,h=>by
  simp only[Mf]at h;cases A:f (v::r)with
  |none=>rw[A]at h;cases h
  |some p=>
   have⟨x,g⟩:=p;rw[A]at h;simp only[zG]at h;cases C:Mf f n g with
   |none=>rw[C]at h;cases h
   |some V=>
    rw[C]at h;cases h;have⟨W,D,F,H⟩:=E _ _ _ A;have⟨J,L⟩:=K9 E n g V C;refine⟨by rw[D,bB,F,J,bD,aB,Nat.add_comm],λas u=> ?_⟩;rw[D]at u;obtain⟨X,m2,rfl,M,U⟩:=F2.app_left u;exact(H _ M).append<|L _ U
def tE {c:Ctx}{f:List VV->Option (El s×List VV)}(D:L9 c s f){l:List<|El s}(h:Ad s f (ag c.S k)=O l):
  ∃d,(ag c.S k).dim=O d/\d.1=s.w/\d.2=ft l*s.w/\∀as,F2 (VRel c) (ag c.S k).vals as->F2 (VRel c) (fZ s l) as:=by
 generalize ag c.S k=b at h;cases b with
 |dead=>cases h
 |arr E z m=>
  have⟨e,g⟩:=lV h;cases e;subst g;exact⟨_,rfl,rfl,rfl,λ_ h=>h⟩
 |cells A z m=>
  simp only[Ad]at h;cases u:Nat.beq A s.w with
  |false=>rw[u]at h;cases h
  |true=>
   rw[u,zC]at h;have⟨g,C⟩:=K9 D _ _ _ h;exact⟨_,rfl,Nat.eq_of_beq_eq_true u,g,C⟩
theorem On {c:Ctx}(hR:Rel c){f:List VV->Option (El s×List VV)}(hf:L9 c s f){n:Nat}{l:List<|El s}(h:Ad s f (ag c.S k)=O l)
  (hd:(ag c.S k).dim=O d) (hs:I7 c k lo n d a):AW c s ((l.drop lo).take n) a/\((l.drop lo).take n).length=n:=by
 obtain⟨d',F,U,W,h4⟩:=tE hf h;rw[hd]at F;injection F with F
 subst F;obtain⟨h0,hb⟩:=hR.blk k d hd;have hw:=nA s;rcases hs with⟨rfl,rfl,rfl,C,V⟩|⟨b,cp,y,rfl,C,X,h6,hy,h7⟩
 .have:l.length=0:=by
   rw[V]at W;rcases Nat.eq_zero_or_pos l.length with h|h
   .exact h
   .have:=Nat.mul_pos h hw;omega
  rw[List.length_eq_zero_iff]at this;subst this;exact⟨.inl ⟨Y,rfl,V2,λz V=>by cases V⟩,V2⟩
 .have hln:lo+n<=l.length:=by
   rw[U,W]at X;exact Nat.le_of_mul_le_mul_right X hw
  have g:((l.drop lo).take n).length=n:=by rw[List.length_take,List.length_drop];omega
  refine⟨.inr ⟨b,lo*d.1,cp,y,by rw[g],hy, ?_,by rw[g];exact h6, ?_, ?_⟩,g⟩
  .rcases hb with⟨A,u⟩|⟨b',y',cs,E,A,u,H,_⟩
   .rw[u]at C;cases C
   grind
  .rw[g];have:=cK d.1 h6;rw[Nat.add_mul]at h7;rw[<-U];omega
  .rcases hb with⟨A,u⟩|⟨b',y',cs,E,A,u,H,_,J,L⟩
   .rw[u]at C;cases C
   .rw[C]at A;injection A with A
    subst A;rw[hy]at u;injection u with u
    subst u;have D:=h4 _ L;have M:cs.length=l.length*s.w:=by rw[<-D.length,gP]
    rw[g,kR,Bl,U,J,List.drop_append_of_le_length (by rw[M];exact cK _ V1),List.take_append_of_le_length]
    .exact(D.drop _).take _
    grind
theorem Vx {c:Ctx}(F:Rel c){f:List VV->Option (El s×List VV)}(A:L9 c s f){l:List<|El s}(h:Ad s f (ag c.S k)=O l)(J:VRel c (.full k) a):AW c s l a:=by
 have⟨d,g,C,D,L⟩:=tE A h;cases J with
 |full M _ H=>
  have⟨n,u,E⟩:=H d g
  have U:n=ft l:=by
   rw[C,D]at u;exact Nat.eq_of_mul_eq_mul_right (nA s) u
  have:=(On F A h g E).1
  grind
def Wg {c:Ctx}(A:Rel c){f:List VV->Option (El s×List VV)}(u:L9 c s f){n:Nat}{l:List<|El s}(h:Ad s f (ag c.S k)=O l)(D:VRel c (.part k lo n) a):
  AW c s ((l.drop lo).take n) a/\ft ((l.drop lo).take n)=n:=by
 have⟨d,g,E,F,H⟩:=tE u h;cases D with
 |part J _ C=>exact On A u h g<|C d g
def Lq :VV->Option Nat
 | .full k=>O k
 | .part k _ _=>O k
 |_=>Y
theorem I7.addr {c:Ctx}{n:Nat}{b m g:Nat}(h:I7 c k lo n d<|.slice (O ⟨b,p,Y⟩) m g):c.μ k=O b:=by
 rcases h with⟨h,_⟩|⟨A,u,y,h,C,_⟩
 .cases h
 grind
def Rx {c:Ctx}(F:Rel c){f:List VV->Option (El s×List VV)}(D:L9 c s f){l:List<|El s}(h:GL c.S s f v=O l)(u:VRel c v a):
  AW c s l a/\∀b p n A,a= .slice (O ⟨b,p,Y⟩) n A->A≠0->¬c.mut b∨∃k,Lq v=O k/\(ag c.S k).dim≠Y/\c.μ k=O b:=by
 cases v<;>simp only[GL]at h<;>try(cases h;done)
 case nils=>
  cases h;cases u;exact⟨.inl ⟨Y,rfl,rfl,λz M=>by cases M⟩,λb p n A e=>by cases e⟩
 case lst s' l'=>
  have⟨e,g⟩:=lV h;cases e;subst g;refine⟨u.listAt,λb p n A e J=> .inl ?_⟩;subst e;exact u.lst_mut J
 case full k=>
  refine⟨Vx F D h u,λb p n A e _=> .inr ⟨k,rfl, ?_⟩⟩;have⟨d,g,_⟩:=tE D h;subst e;cases u with
  |full L _ E=>
   have⟨_,_,H⟩:=E d g;exact⟨by rw[g];simp,H.addr⟩
 case part k lo m=>
  cases C:Ad s f (ag c.S k)with
  |none=>rw[C]at h;cases h
  |some U=>
   rw[C]at h;cases h;refine⟨(Wg F D C u).1,λb p n A e _=> .inr ⟨k,rfl, ?_⟩⟩;have⟨d,g,_⟩:=tE D C;subst e;cases u with
   |part L _ E=>exact⟨by rw[g];simp,(E d g).addr⟩
def Pa {c:Ctx}(E:Rel c){f:List VV->Option (El s×List VV)}(M:L9 c s f){l:List<|El s}(h:TC c.S s f v=O l)(U:VRel c v a):VRel c (.lst s l) a:=by
 have u:GL c.S s f v=O l/\∀k,Lq v=O k->(ag c.S k).frozen=Za:=by
  unfold TC at h;split at h
  .rename_i k;cases g:(ag c.S k).frozen with
   |false=>rw[g]at h;cases h
   |true=>
    rw[g]at h;exact⟨h,λV e=>by cases e;exact g⟩
  .rename_i k lo n;cases g:(ag c.S k).frozen with
   |false=>rw[g]at h;cases h
   |true=>
    rw[g]at h;exact⟨h,λV e=>by cases e;exact g⟩
  rename_i A C;refine⟨h,λk e=> ?_⟩;cases v<;>simp only[Lq]at e<;>try(cases e;done)
  .exact(A _ rfl).elim
  exact(C _ _ _ rfl).elim
 have⟨A,C⟩:=Rx E M u.1 U;refine A.rel λb p n F e L=> ?_
 rcases C b p n F e L with D|⟨k,D,H,J⟩
 .exact D
 exact E.fz_mut (u.2 k D) H J
def ku {c:Ctx}(E:Rel c): ∀s:Sh,L9 c s (kq c.S s)
 | .int k,g,x,u,h=>by
  cases g with
  |nil=>simp[kq]at h
  |cons v r=>
   cases v<;>simp only[kq]at h<;>try(cases h;done)
   rename_i k' n;cases L:Zc (k'=k)with
   |false=>rw[L]at h;cases h
   |true=>
    rw[L]at h;injection h with h
    injection h with A C
    subst A;subst C;have:=of_decide_eq_true L;subst this;exact⟨[_],rfl,rfl,λ_ h=>h⟩
 | .bool,g,x,u,h=>by
  cases g with
  |nil=>simp[kq]at h
  |cons v r=>
   cases v<;>simp only[kq]at h<;>try(cases h;done)
   injection h with h
   injection h with A C
   subst A;subst C;exact⟨[_],rfl,rfl,λ_ h=>h⟩
 | .str,g,x,u,h=>by
  cases g with
  |nil=>simp[kq]at h
  |cons v r=>
   cases v<;>simp only[kq]at h<;>try(cases h;done)
   injection h with h
   injection h with A C
   subst A;subst C;exact⟨[_],rfl,rfl,λ_ h=>h⟩
 | .list s,g,x,u,h=>by
  cases g with
  |nil=>simp[kq]at h
  |cons v r=>
   simp only[kq]at h;cases A:TC c.S s (kq c.S s) v with
   |none=>rw[A]at h;cases h
   |some l=>
    rw[A]at h;injection h with h
    injection h with C F
    subst C;subst F;refine⟨[v],rfl,rfl,λV D=> ?_⟩;cases D with
    |cons D hn=>
     cases hn;exact .cons (Pa E (ku E s) A D) .nil
 | .pair a b,g,x,u,h=>by
  simp only[kq]at h;cases A:kq c.S a g with
  |none=>rw[A]at h;cases h
  |some p=>
   have⟨y,r1⟩:=p;rw[A]at h;simp only[zG]at h;cases C:kq c.S b r1 with
   |none=>rw[C]at h;cases h
   |some q=>
    have⟨z,r2⟩:=q;rw[C]at h;injection h with h
    injection h with F W
    subst F;subst W;obtain⟨p1,rfl,M,H⟩:=ku E a _ _ _ A;obtain⟨p2,rfl,U,J⟩:=ku E b _ _ _ C;refine⟨p1++p2,by rw[List.append_assoc],by rw[bB,M,U];rfl,λV D=> ?_⟩;obtain⟨m1,m2,rfl,X,h6⟩:=F2.app_left D;exact(H _ X).append<|J _ h6
def aB8 {c:Ctx}(u:Rel c){l:List<|El s}(h:ac9 c.S s v=O l)(A:VRel c v a):
  AW c s l a/\∀b p n g,a= .slice (O ⟨b,p,Y⟩) n g->g≠0->¬c.mut b∨∃k,Lq v=O k/\(ag c.S k).dim≠Y/\c.μ k=O b:=
 Rx u (ku u s) h A
end
section
open Bool renaming and_eq_true->aB
open List renaming all_append->aD,length_drop->bB,length_take->bD
open Nat renaming le_of_ble_eq_true->cB
def ba (c:Ctx)(e:db)(ea:cx):Prop:= ∀t,VRel c (kC e t)<|ea t
def ba.frame {c g:Ctx}(h:ba c e ea)(u:Le c g):ba g e ea:=λt=>(h t).frame u
def yj {d t:Nat}:kC (rf e d v) t=if t=d then v else kC e t:=by
 induction d generalizing e t with
 |zero=>cases e<;>cases t<;>simp[rf,kC]
 |succ d g=>
  cases e with
  |nil=>
   cases t with
   |zero=>simp[rf,kC]
   |succ t=>simp[rf,kC,g]
  |cons a r=>
   cases t with
   |zero=>simp[rf,kC]
   |succ t=>simp[rf,kC,g]
def ba.put {c:Ctx}(h:ba c e ea){d:Nat}(u:VRel c v a):ba c (rf e d v)<|ea.put d a:=by
 intro t;rw[yj];unfold cx.put;by_cases g:t=d
 .rw[zE g,zE g];exact u
 rw[zF g,zF g];exact h t
def ba.putO {c:Ctx}(h:ba c e ea){d:Option Nat}(g:VRel c v a):ba c (putO e d v)<|ea.putO d a:=by
 cases d with
 |none=>exact h
 |some d=>exact h.put g
def VU (c:Ctx)(v:Value):VRel c (M0 v) v:=by
 unfold M0;split
 .exact .bool _
 .exact .int _ _
 .exact .str rfl
 .exact .nilp
 .exact .nils
 .exact .nilf
 exact .undef _
def HH (c:Ctx)(l:List Value):F2 (VRel c) (l.map M0) l:=by
 induction l with
 |nil=>exact .nil
 |cons v l g=>exact .cons (VU c v) g
def aU1 (c:Ctx)(v:Value):VRel c (ofC v) v:=by
 unfold ofC;split
 .rename_i cs;exact .agg (by simpa using HH c cs.toList)
 exact VU c _
def cm {c:Ctx}(h:ba c e ea)(x:Operand):VRel c (ev e x)<|ea.ev x:=by
 cases x with
 |tmp t=>exact h t
 |const v=>exact aU1 c v
 |global _=>exact .undef _
 |func f=>exact .fn .nil .nil
def Ni {c:Ctx}(h:ba c e ea)(xs:List Operand):F2 (VRel c) (xs.map<|ev e)<|xs.map ea.ev:=by
 induction xs with
 |nil=>exact .nil
 |cons x xs g=>exact .cons (cm h x) g
def az {β:Type}{b:Bool}{x:Option β}{y:β}(h:gd b x=O y):b=Za/\x=O y:=by
 cases b with
 |false=>cases h
 |true=>exact⟨rfl,h⟩
def Wa {c:Ctx}(h:VRel c v a)(g:aV2 v=Za):one a=Za:=by
 cases h<;>first|rfl|assumption|(cases g;done)|(rename_i h;rcases h with rfl|⟨_,_,rfl⟩<;>rfl)
def kP {c:Ctx}: ∀{l:List VV} {m:List Value},F2 (VRel c) l m->pE l=Za->m.all one=Za
 |_,_, .nil,_=>rfl
 |_,_, .cons g u,h=>by
  simp only[pE,List.all_cons,aB]at h⊢;exact⟨Wa g h.1,kP u h.2⟩
def G9 : ∀(s:Sh) (x:El s),pE (ey s x)=Za
 | .int _,_=>rfl
 | .bool,_=>rfl
 | .str,_=>rfl
 | .list _,_=>rfl
 | .pair a b,x=>by
  have g:=G9 a x.1;have h:=G9 b x.2;simp only[pE,ey,aD,aB]at*;exact⟨g,h⟩
def tH (s:Sh)(l:List<|El s):pE (fZ s l)=Za:=by
 induction l with
 |nil=>rfl
 |cons x l h=>
  have g:=G9 s x;rw[gK];simp only[pE,aD,aB]at*;exact⟨g,h⟩
def K8 {c:Ctx}(h:VRel c v a)(u:pE (nj v)=Za):F2 (VRel c) (nj v)<|cellsOf a:=by
 have g:one a=Za->cellsOf a=[a]:=λh=>by cases a<;>first|rfl|(cases h;done)
 cases v with
 |agg l=>
  cases h with
  |agg h=>exact h
 |undef=>cases u
 |tup l=>cases u
 |_=>
  rw[g<|Wa h rfl];exact .cons h .nil
def cy {T:iX}{op:AOp}{e:cx}{Z Z':Hp}{v:Value}{K:Value->Hp->Prop}(h:op.run e Z=O (v,Z'))(g:K v Z'):cg T op e Z K:=by
 unfold cg;split
 .cases h
 .cases h
 rw[h];exact g
def Bt {α:Type}: ∀(l:List α) (i:Nat),nth l i=l[i]?
 |[],_=>rfl
 |_::_,0=>rfl
 |_::l,i+1=>by
  rw[show nth (_::l) (i+1)=nth l i from rfl,Bt l i];rfl
def F2.nth {c:Ctx}{l:List VV}{m:List Value}(h:F2 (VRel c) l m)(g:nth l i=O v): ∃a,m[i]?=O a/\VRel c v a:=by
 rw[Bt]at g;exact h.get i v g
def Lr {k:IntKind}: ∀{cs:List VV} {l:Zd},Fi k cs=O l->cs=l.map (.int k)
 |[],l,h=>by cases h;rfl
 |v::r,l,h=>by
  cases v<;>simp only[Fi]at h<;>try(cases h;done)
  rename_i A n;cases u:Zc (A=k)with
  |false=>rw[u]at h;cases h
  |true=>
   rw[u,zC]at h;cases g:Fi k r with
   |none=>rw[g]at h;cases h
   |some m=>
    rw[g]at h;cases h;rw[Lr g,of_decide_eq_true u];rfl
def Oq : ∀{cs:List VV} {l:List Bool},Oo cs=O l->cs=l.map .bool
 |[],l,h=>by cases h;rfl
 |v::r,l,h=>by
  cases v<;>simp only[Oo]at h<;>try(cases h;done)
  cases g:Oo r with
  |none=>rw[g]at h;cases h
  |some m=>
   rw[g]at h;cases h;rw[Oq g];rfl
def RZ : ∀{cs:List VV} {l:List<|Zd},W6 cs=O l->cs=l.map .str
 |[],l,h=>by cases h;rfl
 |v::r,l,h=>by
  cases v<;>simp only[W6]at h<;>try(cases h;done)
  cases g:W6 r with
  |none=>rw[g]at h;cases h
  |some m=>
   rw[g]at h;cases h;rw[RZ g];rfl
theorem Wh {β:Type}{S:ak}{k:VV->ak->Option β}{y:β}: ∀{cs:List VV} {i:Nat},ae4 S k cs i=O y->∃v,cs[i]?=O v/\k v S=O y
 |[],_,h=>by cases h
 |v::r,i,h=>by
  simp only[ae4]at h;cases g:Nat.beq i 0 with
  |true=>
   simp_all
  |false=>
   rw[g]at h;have⟨w,u,A⟩:=Wh h;have:i≠0:=λe=>by subst e;cases g
   grind
theorem U1 {β:Type}{S:ak}{k:VV->ak->Option β}{y:β}(u:i<ft cs)(h:U0 cs i S k=O y): ∃v,cs[i]?=O v/\k v S=O y:=by
 unfold U0 at h;split at h
 .rename_i A n r;split at h
  .rename_i l g;have:=Lr g
   grind
  cases h
 .rename_i b r;split at h
  .rename_i l g;have:=Oq g
   grind
  cases h
 .rename_i b r;split at h
  .rename_i l g;have:=RZ g
   grind
  cases h
 exact Wh h
theorem Rel.block {c:Ctx}(u:Rel c){b:Nat}(A:(ag c.S k).dim=O d)(g:c.μ k=O b):
  ∃y cs rest,c.Z.m b=O y/\y.es=d.1/\((ag c.S k).frozen=Zb->y.own=Za)/\y.cells=cs++rest/\F2 (VRel c) (ag c.S k).vals cs:=by
 have⟨_,h⟩:=u.blk k d A;rcases h with⟨_,h⟩|⟨C,y,cs,rest,h,D⟩
 .rw[h]at g;cases g
 .grind
def wF (c:Ctx)(cs:List VV)(b p:Nat):Prop:= ∃y,c.Z.m b=O y/\p+ft cs<=ft y.cells/\F2 (VRel c) cs ((y.cells.drop p).take<|ft cs)
theorem wF.get {c:Ctx}{b:Nat}(h:wF c cs b p)(u:nth cs o=O v): ∃y a,c.Z.m b=O y/\y.cells[p+o]?=O a/\VRel c v a:=by
 have⟨y,A,C,g⟩:=h;have⟨a,D,E⟩:=F2.nth g u
 grind
def wF.read {c:Ctx}{b:Nat}(h:wF c cs b p){n:Nat}(D:o+n<=ft cs): ∃y as,c.Z.m b=O y/\rz y (p+o) n=O as/\F2 (VRel c) ((cs.drop o).take n) as:=by
 have⟨y,u,C,A⟩:=h;refine⟨y,(y.cells.drop<|p+o).take n,u,Zg, ?_⟩;have g:=(A.drop o).take n;rw[List.drop_take,List.drop_drop,List.take_take,Nat.min_eq_left V1]at g;exact g
theorem Rel.stands {c:Ctx}(C:Rel c){b:Nat}(D:(ag c.S k).dim=O d)(E:c.μ k=O b):wF c (ag c.S k).vals b 0:=by
 obtain⟨y,cs,g,h,_,_,u,A⟩:=C.block D E;have F:=A.length;refine⟨y,h,by rw[u,List.length_append];omega, ?_⟩
 grind
def wF.part {c:Ctx}{b:Nat}(h:wF c cs b p){n:Nat}(E:o+n<=ft cs):wF c ((cs.drop o).take n) b<|p+o:=by
 have⟨y,u,D,A⟩:=h;have g:ft ((cs.drop o).take n)=n:=by rw[bD,bB];omega
 refine⟨y,u,by rw[g];omega, ?_⟩;have C:=(A.drop o).take n;rw[List.drop_take,List.drop_drop,List.take_take,Nat.min_eq_left V1]at C
 rwa [g]
theorem Wn {β:Type}{c:Ctx}(hR:Rel c){n:Nat}{agg:Bool}{k:VV->ak->Option β}{y:β}(h:RM c.S n agg v k=O y)(W:VRel c v a):
  ∃b o x,a= .pointer (O ⟨b,o,Y⟩)/\c.Z.m b=O x/\
   (agg=Zb->∃u w,x.cells[o]?=O u/\VRel c w u/\k w c.S=O y)/\
   (agg=Za->∃U V,rz x o n=O U/\F2 (VRel c) V U/\k (.agg V) c.S=O y):=by
 have D: ∀(cs:List VV) (b p o:Nat),wF c cs b p->a= .pointer (O ⟨b,p+o,Y⟩)->
   cond agg (gd (Nat.ble (o+n)<|ft cs)<|k (.agg<|(cs.drop o).take n) c.S) (match nth cs o with
    |some v=>k v c.S
    |none=>Y)=O y->
   ∃b o x,a= .pointer (O ⟨b,o,Y⟩)/\c.Z.m b=O x/\
   (agg=Zb->∃u w,x.cells[o]?=O u/\VRel c w u/\k w c.S=O y)/\
   (agg=Za->∃U V,rz x o n=O U/\F2 (VRel c) V U/\k (.agg V) c.S=O y):=by
  intro cs b p o A H h;cases agg with
  |true=>
   have⟨F,h2⟩:=az h;have⟨x,as,X,h4,h5⟩:=A.read (cB F)
   grind
  |false=>
   rw[zD]at h;split at h
   .rename_i w hw;have⟨x,u,X,h4,h5⟩:=A.get hw
    grind
   .cases h
 unfold RM at h;cases v with
 |ptr q o=>
  simp only at h;cases g:ag c.S q with
  |dead=>rw[g]at h;cases h
  |arr s z l=>rw[g]at h;cases h
  |cells E z l=>
   rw[g]at h;cases W with
   |ptr hk _ L=>
    have⟨b,M,H⟩:=L (E,ft l) ZA;have A:=hR.stands (k:=q) (d:=(E,ft l)) ZA M;rw[g]at A;exact D l b 0 o A (by rw[H,Nat.zero_add]) h
 |pix q o m i=>
  simp only at h;cases g:ag c.S q with
  |dead=>rw[g]at h;cases h
  |arr s z l=>rw[g]at h;cases h
  |cells E z l=>
   rw[g]at h;have⟨F,h2⟩:=az h;rw[aB]at F;have X:=cB F.2;have J:agg=Zb:=by simpa using F.1
   subst J;cases W with
   |pix hk _ hi L=>
    have⟨b,M,H⟩:=L (E,ft l) ZA;have A:=hR.stands (k:=q) (d:=(E,ft l)) ZA M;rw[g]at A;have hlen:ft ((l.drop o).take m)=m:=by rw[bD,bB];omega
    have⟨w,h4,h5⟩:=U1 V1 h2;have C:wF c ((l.drop o).take m) b<|0+o:=wF.part (cs:=l) A X;rw[<-Bt]at h4
    grind
 |pel q i o=>
  simp only at h;cases g:ag c.S q with
  |dead=>rw[g]at h;cases h
  |cells E z l=>rw[g]at h;cases h
  |arr s z l=>
   rw[g]at h;simp only at h;cases hx:l[i]? with
   |none=>rw[hx]at h;cases h
   |some x=>
    rw[hx]at h;cases W with
    |pel hk _ L=>
     have⟨b,M,H⟩:=L (s.w,ft l*s.w) ZA;have A:=hR.stands (k:=q) (d:=(s.w,ft l*s.w)) ZA M;rw[g]at A
     have hi:i<ft l:=by
      grind
     have hle:i*s.w+s.w<=ft (fZ s l):=by
      rw[gP,<-Nat.succ_mul];exact Nat.mul_le_mul_right _ hi
     have C:wF c (((fZ s l).drop<|i*s.w).take s.w) b<|0+i*s.w:=wF.part (cs:=fZ s l) A hle;rw[Lm hx,Nat.zero_add]at C;exact D (ey s x) b (i*s.w) o C H h
 |pin s x o=>
  simp only at h;cases W with
  |pin hn hy hl hf=>
   exact D (ey s x) _ _ o ⟨_,hy,by rw[ff];exact hl,by rw[ff];exact hf⟩ rfl h
 |_=>cases h
end
section
open Nat renaming lt_of_lt_of_le->aB
def Ny.frame {c g:Ctx}(X:Le c g)(h:Ny c k)(E:ag g.S k=ag c.S k)(hμ:(ag c.S k).dim≠Y->g.μ k=c.μ k)(W: ∀b y,(ag c.S k).dim≠Y->c.μ k=O b->c.Z.m b=O y->g.Z.m b=O y):Ny g k:=by
 intro d C;rw[E]at C;have⟨H,J⟩:=h d C;have F:=hμ (by rw[C];simp);refine⟨H, ?_⟩;rcases J with⟨A,D⟩|⟨b,y,cs,u,A,D,L,M,U,V⟩
 .exact .inl ⟨A,F.trans D⟩
 exact .inr ⟨b,y,cs,u,F.trans A,W b y (by rw[C];simp) A D,L,by rw[E];exact M,U,by rw[E];exact VRel.frames X V⟩
def rQ (S S':ak):Prop:=ft S'=ft S/\∀k,ag S' k=ag S k∨ag S' k=(ag S k).freeze
def rQ.refl (S:ak):rQ S S:=⟨rfl,λ_=> .inl rfl⟩
def QM :b.freeze.freeze=b.freeze:=by cases b<;>rfl
def rQ.trans {a b c:ak}(h:rQ a b)(k:rQ b c):rQ a c:=by
 refine⟨k.1.trans h.1,λi=> ?_⟩;rcases h.2 i with h1|h1<;>rcases k.2 i with h2|h2
 .exact .inl (h2.trans h1)
 .exact .inr (by rw[h2,h1])
 .exact .inr (h2.trans h1)
 exact .inr (by rw[h2,h1,QM])
theorem rQ.put {S:ak}:rQ S<|kE S k (ag S k).freeze:=by
 refine⟨G3,λi=> ?_⟩;rw[Ay]
 grind
def rQ.fold {f:ak->VV->ak}(g: ∀S v,rQ S<|f S v): ∀(l:List VV) (S:ak),rQ S (l.foldl f S)
 |[],S=>rQ.refl S
 |v::l,S=>(g S v).trans<|rQ.fold g l _
def ac0 : ∀(n:Nat) (S:ak) (v:VV),rQ S (fzv n S v)
 |0,S,_=>rQ.refl S
 |n+1,S,v=>by
  have g: ∀k,rQ S (match ag S k with
    | .cells A _ l=>l.foldl (fzv n) (kE S k<|.cells A Za l)
    |b=>kE S k b.freeze):=by
   intro k;have u:=rQ.put (S:=S) (k:=k);split
   .rename_i A z l h;rw[h]at u;exact rQ.trans u (rQ.fold (ac0 n) l _)
   .exact u
  unfold fzv;split
  .exact g _
  .exact g _
  .exact rQ.refl S
def HA (S:ak)(l:List VV):rQ S<|Ja S l:=rQ.fold (ac0 3) l S
def Vz (S:ak)(v:VV):rQ S<|aR3 S v:=by
 unfold aR3;split
 .split
  .exact HA S _
  exact rQ.refl S
 .split
  .exact HA S _
  exact rQ.refl S
 exact rQ.refl S
def am6 (k:Sk)(v:VV)(S:ak):rQ S<|aA3 k v S:=by
 unfold aA3;split
 .exact Vz S v
 exact rQ.refl S
def OZ : ∀(l:List Sk) (vs:List VV) (S:ak),rQ S (GG l vs S)
 |[],_,S=>rQ.refl S
 |_::_,[],S=>rQ.refl S
 |k::r,v::vs,S=>(am6 k v S).trans<|OZ r vs _
def az9 {S:ak}(b:Bool)(h:rQ S S'):rQ S<|cond b S' S:=by
 cases b
 .exact rQ.refl S
 exact h
def Vy (N:Nat)(g:List OSk): ∀(l:List Sk) (vs:List VV) (S:ak),rQ S (aR2 N g l vs S)
 |[],_,S=>rQ.refl S
 |_::_,[],S=>rQ.refl S
 |k::r,v::vs,S=>by
  refine rQ.trans ?_ (Vy N g r vs _);split
  .split
   .exact az9 _ (Vz S v)
   .exact rQ.refl S
  .exact rQ.refl S
def wK : ∀(l:List Nat) (S:ak),rQ S (Fh l S)
 |[],S=>rQ.refl S
 |_::l,S=>rQ.put.trans<|wK l _
def rQ.dim {S:ak}(h:rQ S S')(k:Nat):(ag S' k).dim=(ag S k).dim:=by
 rcases h.2 k with h|h<;>rw[h]
 exact gf
def rQ.vals {S:ak}(h:rQ S S')(k:Nat):(ag S' k).vals=(ag S k).vals:=by
 rcases h.2 k with h|h<;>rw[h]
 exact MA
def rQ.fz {S:ak}(h:rQ S S')(g:(ag S' k).frozen=Zb):ag S' k=ag S k:=by
 rcases h.2 k with h|h
 .exact h
 rw[h,kB]at g;cases g
def rQ.le {c:Ctx}(h:rQ c.S S'):Le c ⟨c.μ,S',c.Z,c.fb⟩:=by
 refine⟨Nat.le_of_eq h.1.symm,λk d _ C=>⟨(h.dim k)▸C,rfl⟩,λk D _=> ?_,λ_ _ _ y _ _ _ g=>⟨y,g,rfl⟩,λb y g _=>g,λb y g E=> ?_,Nat.le_refl _,rfl⟩
 .rcases h.2 k with h|h
  .exact h
  exact h.trans (Dr D)
 rintro⟨k,u,A⟩;exact E ⟨k,by rw[<-h.fz u];exact u,A⟩
def rQ.rel {c:Ctx}(g:Rel c)(h:rQ c.S S'):Rel ⟨c.μ,S',c.Z,c.fb⟩:=by
 refine⟨g.ok,λk k' b A E F H=>g.inj k k' b (by rw[<-h.fz A];exact A) (by rw[<-h.dim];exact E) F H,λk d hd=> ?_,λk b A F=>g.fbk k b (by rw[<-h.dim];exact A) F,g.fbl⟩;have D:(ag c.S k).dim=O d:=(h.dim k)▸hd;have⟨L,C⟩:=g.blk k d D;refine⟨L, ?_⟩;rcases C with C|⟨b,y,cs,u,M,U,V,W,X,h8⟩
 .exact .inl C
 exact .inr ⟨b,y,cs,u,M,U,V,λJ=>W (by rw[<-h.fz J];exact J),X,by rw[h.vals k];exact VRel.frames h.le h8⟩
def rQ.calm {c:Ctx}(d:List Nat)(h:rQ c.S S'):vN d c ⟨c.μ,S',c.Z,c.fb⟩:=λk _ _ g=>⟨by rw[h.dim];exact g,λ_ _=>rfl⟩
def vN.trans {a b c:Ctx}{d:List Nat}(h:vN d a b)(k:vN d b c)(E:Le a b):vN d a c:=by
 intro i g D M;have⟨A,H⟩:=h i g D M;have⟨J,L⟩:=k i (aB g E.len) D A;refine⟨J,λx F=> ?_⟩
 have u:b.μ i=O x:=by
  cases C:(ag b.S i).dim with
  |none=>exact(A C).elim
  |some z=>exact(E.al i z g C).2.trans F
 exact(L x u).trans<|H x F
def Y3 (c:Ctx)(kill:Option Nat)(b:Nat):Prop:= ∃k,kill=O k/\c.μ k=O b
def yk (c:Ctx)(b1:Option Nat):Nat->Option Nat:=λi=>if i=ft c.S then b1 else c.μ i
def Au {S:ak}{kill:Option Nat}:ft (rr S kill)=ft S:=by cases kill<;>simp[rr,G3]
def an5 {S:ak}{kill:Option Nat}:ag (rr S kill) i=if kill=O i then .dead else ag S i:=by
 cases kill with
 |none=>simp[rr]
 |some k=>
  simp only[rr,Ay,ez];by_cases h:i=k
  .subst h;by_cases g:i<ft S
   .simp[g]
   simp[g,yo<|Nat.le_of_not_lt g]
  simp[h,Ne.symm h]
structure Moves (c:Ctx)(kill:Option Nat)(b1:Option Nat)(blk:Blk)(Z':Hp):Prop where
 fr: ∀b,b1=O b->(∀z,c.Z.m b≠O z)->¬c.fb b
 kz: ∀k,kill=O k->(ag c.S k).frozen=Zb
 ok:Z'.Ok
 n:c.Z.n<=Z'.n
 old: ∀i y,c.Z.m i=O y->¬Y3 c kill i->Z'.m i=O y
 one: ∃d,blk.dim=O d/\1<=d.1/\((b1=Y/\d.2=0)∨∃b y cs rest,b1=O b/\Z'.m b=O y/\y.es=d.1/\(blk.frozen=Zb->y.own=Za)/\y.cells=cs++rest/\F2 (VRel c) blk.vals cs/\((∀z,c.Z.m b≠O z)∨Y3 c kill b))
section
variable {c:Ctx} {kill b1:Option Nat} {blk:Blk} {Z':Hp}
def kD (i:Nat):ag (rr c.S kill++[blk]) i=if i=ft c.S then blk else if kill=O i then .dead else ag c.S i:=by
 by_cases h:i=ft c.S
 .subst h;rw[zE rfl,<-Au (S:=c.S) (kill:=kill),WV]
 rw[zF h];by_cases g:i<ft c.S
 .rw[nv (by rw[Au];exact g),an5]
 have u:ft c.S<i:=by omega
 rw[yo (by rw[List.length_append,Au];simp;omega),yo (k:=i) (S:=c.S) V1];split<;>rfl
def Moves.low (u:Rel c)(h:Moves c kill b1 blk Z'){i b:Nat}(_:i≠ft c.S)(C:kill≠O i)(A:(ag c.S i).dim≠Y)(D:c.μ i=O b): ¬Y3 c kill b:=by
 rintro⟨k,rfl,g⟩;exact C<|congrArg O<|u.inj k i b (h.kz k rfl) A g D
theorem Moves.le (L:Rel c)(h:Moves c kill b1 blk Z'):Le c ⟨yk c b1,rr c.S kill++[blk],Z',c.fb⟩:=by
 have A: ∀k,k<ft c.S->k≠ft c.S:=λk u=>by omega
 refine⟨by simp[Au],λk d u g=> ?_,λk U g=> ?_,λk d b y u g D H=> ?_,λb y H F=>h.old b y H λ⟨k,e,D⟩=>F ⟨k,h.kz k e,D⟩,λb y H F=> ?_,h.n,rfl⟩
 .simp only[kD,zF<|A k u]at g;split at g
  .cases g
  exact⟨g,zF<|A k u⟩
 .have u:=ll g;simp only[kD,zF<|A k u];rw[zF];intro e;have:=h.kz k e;rw[U]at this;cases this
 .simp only[kD,zF<|A k u]at g;split at g
  .cases g
  rename_i J;exact⟨y,h.old b y H<|h.low L (A k u) J (by rw[g];simp) D,rfl⟩
 have M: ¬Y3 c kill b:=λ⟨k,e,D⟩=>F ⟨k,h.kz k e,D⟩
 rintro⟨k,C,E⟩;simp only[kD]at C;simp only[yk]at E;by_cases u:k=ft c.S
 .rw[zE u]at C E;have⟨d,_,_,V⟩:=h.one
  grind
 rw[zF u]at C E;split at C
 .cases C
 exact F ⟨k,C,E⟩
theorem Moves.rel (L:Rel c)(h:Moves c kill b1 blk Z'):Rel ⟨yk c b1,rr c.S kill++[blk],Z',c.fb⟩:=by
 have W:=h.le L
 have X: ∀i b,i≠ft c.S->kill≠O i->(ag c.S i).dim≠Y->c.μ i=O b->b1≠O b:=by
  intro i b hi g J C e;have⟨d,_,_,u⟩:=h.one;rcases u with⟨u,_⟩|⟨b',y',cs,H,u,_,_,_,_,_,h4⟩
  .rw[u]at e;cases e
  rw[u]at e;cases e;rcases h4 with h4|h4
  .cases V:(ag c.S i).dim with
   |none=>exact J V
   |some dd=>
    have⟨y,_,_,hy,_⟩:=L.block V C;exact h4 y hy
  exact h.low L hi g J C h4
 have hfb: ∀b,c.fb b->b1≠O b:=by
  intro b M e;have⟨d,_,_,u⟩:=h.one;rcases u with⟨u,_⟩|⟨b',y',cs,H,u,_,_,_,_,_,h4⟩
  .rw[u]at e;cases e
  rw[u]at e;cases e;rcases h4 with h4|⟨k,h4,h5⟩
  .exact h.fr _ u h4 M
  exact L.fbk k _ (mv<|h.kz k h4) h5 M
 refine⟨h.ok,λk k' b g A C D=> ?_,λk=> ?_,λk b g C M=> ?_,λb M=>aB (L.fbl b M) h.n⟩
 rotate_left 2
 .simp only[kD]at g;simp only[yk]at C;by_cases E:k=ft c.S
  .rw[zE E]at C;exact hfb b M C
  rw[zF E]at C g;split at g
  .exact g rfl
  exact L.fbk k b g C M
 .simp only[kD]at g A;simp only[yk]at C D;by_cases E:k=ft c.S<;>by_cases U:k'=ft c.S
  .omega
  .rw[zE E]at C;rw[zF U]at D A;split at A
   .exact(A rfl).elim
   grind
  .rw[zF E]at C g;rw[zE U]at D;split at g
   .cases g
   rename_i F;exact(X k b E F (mv g) C D).elim
  rw[zF E]at C g;rw[zF U]at D A;split at g
  .cases g
  split at A
  .exact(A rfl).elim
  exact L.inj k k' b g A C D
 by_cases g:k=ft c.S
 .subst g;intro d J;simp only[kD,if_true]at J⊢;have⟨d',E,U,u⟩:=h.one;rw[J]at E;cases E;refine⟨U, ?_⟩;simp only[yk,if_true];rcases u with⟨u,h4⟩|⟨b',y',cs,H,u,h4,h5,h6,h7,h8,_⟩
  .exact .inl ⟨h4,u⟩
  exact .inr ⟨b',y',cs,H,u,h4,h5,h6,h7,VRel.frames W h8⟩
 by_cases F:kill=O k
 .intro d J;simp only[kD,zF g,zE F]at J;cases J
 refine(L.blk k).frame W ?_ (λ_=>zF g) λb y J C hy=> ?_
 .simp only[kD,zF g,zF F]
 exact h.old b y hy<|h.low L g F J C
def Moves.calm (D:Rel c)(h:Moves c kill b1 blk Z'){d:List Nat}(H: ∀k,kill=O k->k∈d):vN d c ⟨yk c b1,rr c.S kill++[blk],Z',c.fb⟩:=by
 intro k M J g;have A:k≠ft c.S:=by omega
 have C:kill≠O k:=λe=>J (H k e)
 simp only[kD,zF A,zF C];refine⟨g,λb E=> ?_⟩;cases u:(ag c.S k).dim with
 |none=>exact(g u).elim
 |some L=>
  have⟨y,_,_,F,_⟩:=D.block u E;rw[F];exact h.old b y F<|h.low D A C g E
end
def Xz {c:Ctx}(u:Rel c){blk:Blk}{x:Ab.Blk}(D:blk.dim=O d)(A:1<=d.1)(E:x.es=d.1)(H:x.own=Za)(F:F2 (VRel c) blk.vals x.cells):
  Moves c Y (O c.Z.n) blk (c.Z.add x):=by
 refine⟨(λb h _ C=>by cases h;exact Nat.lt_irrefl _<|u.fbl _ C),(λ_ h=>by cases h),λb y g=> ?_,Nat.le_succ _,λi y g _=> ?_,d,D,A, .inr ⟨c.Z.n,x,x.cells,[],rfl,zE rfl,E,λ_=>H,V2,F, .inl λz J=> ?_⟩⟩
 .simp only[Hp.add]at g⊢;split at g
  .omega
  .have:=u.ok b y g;omega
 .have:=u.ok i y g;simp only[Hp.add];rw[Zh];exact g
 .have:=u.ok _ _ J;omega
structure Writes (c:Ctx)(k b:Nat)(blk:Blk)(y':Ab.Blk):Prop where
 kz:(ag c.S k).frozen=Zb
 mu:c.μ k=O b
 dim:blk.dim=(ag c.S k).dim
 fz:blk.frozen=Zb
 one: ∃y cs rest d,c.Z.m b=O y/\(ag c.S k).dim=O d/\y'.es=d.1/\y'.own=Za/\ft y'.cells=ft y.cells/\y'.cells=cs++rest/\F2 (VRel c) blk.vals cs
section
variable {c:Ctx} {k b:Nat} {blk:Blk} {y':Ab.Blk}
theorem Writes.get (h:Writes c k b blk y')(i:Nat):ag (kE c.S k blk) i=if i=k then blk else ag c.S i:=by
 rw[Ay];have:=ll (mv h.kz)
 grind
def Writes.low (u:Rel c)(h:Writes c k b blk y'){i g:Nat}(C:i≠k)(A:(ag c.S i).dim≠Y)(D:c.μ i=O g):g≠b:=by
 rintro rfl;exact C (u.inj k i g h.kz A h.mu D).symm
def Writes.le (H:Rel c)(h:Writes c k b blk y'):Le c ⟨c.μ,kE c.S k blk,c.Z.set b<|O y',c.fb⟩:=by
 refine⟨by simp[G3],λi d _ u=> ?_,λi F u=> ?_,λi d x y _ u J A=> ?_,λx y A D=> ?_,λx y A D=> ?_,Nat.le_refl _,rfl⟩
 .simp only[h.get]at u;split at u
  .rename_i e;subst e;exact⟨h.dim▸u,rfl⟩
  exact⟨u,rfl⟩
 .simp only[h.get];rw[zF];rintro rfl;rw[h.kz]at F;cases F
 .by_cases e:x=b
  .subst e;have⟨L,_,_,_,g,_,_,_,C,_⟩:=h.one;rw[A]at g;cases g;exact⟨y',Zy,C⟩
  exact⟨y,by simp[Hp.set,e,A],rfl⟩
 .have E:x≠b:=by rintro rfl;exact D ⟨k,h.kz,h.mu⟩
  simp[Hp.set,E,A]
 rintro⟨i,g,C⟩;simp only[h.get]at g;split at g
 .rename_i e;subst e;exact D ⟨i,h.kz,C⟩
 exact D ⟨i,g,C⟩
def Writes.rel (g:Rel c)(h:Writes c k b blk y'):Rel ⟨c.μ,kE c.S k blk,c.Z.set b<|O y',c.fb⟩:=by
 have D:=h.le g
 have M: ∀i,(ag (kE c.S k blk) i).frozen=Zb->(ag c.S i).frozen=Zb:=by
  intro i A;rw[h.get]at A;split at A
  .rename_i e;subst e;exact h.kz
  exact A
 have u: ∀i,(ag (kE c.S k blk) i).dim=(ag c.S i).dim:=by
  intro i;rw[h.get];split
  .rename_i e;subst e;exact h.dim
  rfl
 refine⟨λx z F=> ?_,λi j x A hj E U=>g.inj i j x (M i A) (by rw[<-u];exact hj) E U,λi=> ?_,λi x A E=>g.fbk i x (by rw[<-u];exact A) E,g.fbl⟩
 .simp only[Hp.set]at F;split at F
  .rename_i e;subst e;have⟨y,_,_,_,V,_⟩:=h.one;exact g.ok _ _ V
  exact g.ok _ _ F
 by_cases e:i=k
 .subst e;intro d L;have⟨y,cs,H,d',V,J,W,X,h5,h6,h7⟩:=h.one;have C:(ag c.S i).dim=O d:=by rw[<-u];exact L
  rw[C]at J;cases J;refine⟨(g.blk i d C).1, .inr ⟨b,y',cs,H,h.mu,Zy,W,λ_=>X,h6, ?_⟩⟩;simp only[h.get,if_true];exact VRel.frames D h7
 refine(g.blk i).frame D (by simp only[h.get,zF e]) (λ_=>rfl) λx z L E F=> ?_
 have:=h.low g e L E;simp[Hp.set,this,F]
def Writes.calm (A:Rel c)(h:Writes c k b blk y'){d:List Nat}(C:k∈d):vN d c ⟨c.μ,kE c.S k blk,c.Z.set b<|O y',c.fb⟩:=by
 intro i _ E g;have u:i≠k:=by rintro rfl;exact E C
 simp only[h.get,zF u];refine⟨g,λx D=> ?_⟩;have:=h.low A u g D;simp[Hp.set,this]
end
end
end Go.V
