/- A part of the proof. No condition. -/
import Derived.Test.YtlmlogmcgeijcaaGreatDoorA5
import Derived.ProofKit
import Derived.OpenShut
import Derived.ChangeArms
import Derived.Below
import Derived.Lib.Join
import Derived.Lib.Repeat
import Derived.Lib.ItoaNum
import Derived.Shelf.Strings.Builder1
import Derived.Lib.FrozenHead
set_option linter.all false
namespace Go.V
open Go.Ab
open Option renaming some->O,none->Y
open Bool renaming true->Za,false->Zb
open Decidable renaming decide->Zc
open List renaming length->dt
open Option renaming bind->ek
variable {w:World}{rows:List Row}{v:Value}{f:FuncId}
section
open List renaming append_nil -> aD, append_assoc -> bB, getElem?_eq_getElem -> bD, getElem?_append_left -> cD, length_append -> cK, drop_zero -> cL, getElem?_append_right -> cM, length_cons -> cR, length_take -> cS, take_of_length_le -> cT
open Nat renaming beq -> aB, eq_of_beq_eq_true -> cB, le_refl -> cN, not_lt_zero -> cO, zero_add -> cP, zero_mul -> cQ, eq_zero_or_pos -> cU
open Option renaming map_some -> cV
def jv (w:World):(s:Sh)->List Value->El s->Prop
 | .int k,c,n=>c=[.int k n]/\(Lit.int k n).wf=Za
 | .bool,c,b=>c=[.bool b]
 | .str,c,l=> ∃s:ByteArray,c=[.string s]/\eg s=l/\s.size<=maxLen
 | .list s,c,l=>(c=[.slice Y 0 0]/\l=[])∨∃(a:Addr) (e d:Nat) (g:List (El s)),c=[.slice (O a) e d]/\e<=d/\d<=maxLen/\(dt g)=d/\l=g.take e/\
   ∀i y,g[i]?=O y->∃o,(∀j z,o[j]?=O z->w.cell? (a.add (i*s.w+j))=O z)/\jv w s o y
 | .pair a b,c,x=> ∃h m,c=h++m/\jv w a h x.1/\jv w b m x.2
def jv.len : ∀{s:Sh} {cs:List Value} {x:El s},jv w s cs x->dt cs=s.w
 | .int k,_,_,⟨h,_⟩=>by subst h;rfl
 | .bool,_,_,h=>by
  have h:_=[Value.bool _]:=h;subst h;rfl
 | .str,_,_,⟨s,h,_⟩=>by subst h;rfl
 | .list s,_,_,h=>by
  rcases h with⟨h,_⟩|⟨a,len,c,j,h,_⟩<;>subst h<;>rfl
 | .pair a b,_,_,⟨g,i,h,d,e⟩=>by
  subst h;rw[cK,d.len,e.len];rfl
def zp (w:World)(rows:List Row):Prop:= ∀r∈rows,∀(i:Nat) (v:Value),r.cells[i]?=O v->∃a,w.cell? ⟨r.c,r.o+i,Y⟩=O a/\VR (oO rows) v a
def QA (rows a:List Row):(oO rows).le (oO (rows++a)):=by
 intro b g h;simp only[oO]at h⊢;cases c:rows[b]? with
 |none=>rw[c]at h;cases h
 |some r=>
  rw[c]at h;have⟨d,e⟩:=List.getElem?_eq_some_iff.1 c;rw[cD d,c];exact h
def Wl (c:Nat)(rows a:List Row):Le (xr (rC c rows)) (xr (rC c (rows++a))):=by
 have j: ∀k,ae ([]:ai) k= .dead:=λk=>by cases k<;>rfl
 refine⟨cN _,λk d h=>(cO _ h).elim,λk _ h=> ?_,λk d b y h=>(cO _ h).elim,λb y h _=> ?_,λb y _ _ h=>(Ma b (.inl h)).elim, ?_,rfl⟩
 .rfl
 .simp only[xr,rC]at h⊢;cases e:rows[b]? with
  |none=>rw[e]at h;cases h
  |some r=>
   rw[e]at h;have⟨g,i⟩:=List.getElem?_eq_some_iff.1 e;rw[cD g,e];exact h
 .show dt rows<=dt (rows++a);rw[cK];omega
def YH {μ a:Mu}(h:μ.le a){l m:List Value}(c:F2 (VR μ) l m):F2 (VR a) l m:=c.imp λ_ _ d=>d.mono h
def zp.app {a:List Row}(h:zp w rows)(j: ∀r∈a,∀(i:Nat) (v:Value),r.cells[i]?=O v->∃v',w.cell? ⟨r.c,r.o+i,Y⟩=O v'/\VR (oO (rows++a)) v v'):zp w (rows++a):=by
 intro r hr i v d;rcases List.mem_append.1 hr with hr|hr
 .obtain⟨v',e,g⟩:=h r hr i v d;exact⟨v',e,g.mono (QA _ _)⟩
 .exact j r hr i v d
def ar0 (a:Addr)(i j:Nat):(a.add i).add j=a.add (i+j):=by
 unfold Addr.add;by_cases d:j=0
 .subst d;simp
 .by_cases c:i=0
  .subst c;simp
  .simp[c,d,Nat.add_assoc]
structure Built (w:World)(rows more:List Row)(acs cs:List Value)(vs:List VV):Prop where
 ok:zp w (rows++more)
 vr:F2 (VR (oO (rows++more))) acs cs
 vv:F2 (VRel (xr (rC w.heap.size (rows++more)))) vs acs
def Built.app {c e:List Row}{a1 a2 c1 c2:List Value}{g h:List VV}(d:Built w rows c a1 c1 g)(a:Built w (rows++c) e a2 c2 h):Built w rows (c++e) (a1++a2) (c1++c2) (g++h):=by
 refine⟨?_, ?_, ?_⟩
 .rw[<-bB];exact a.ok
 .rw[<-bB];exact(YH (QA _ _) d.vr).append a.vr
 .rw[<-bB];exact(VRel.frames (Wl _ _ _) d.vv).append a.vv
def Built.nil (h:zp w rows):Built w rows [] [] [] []:=⟨by rw[aD];exact h, .nil, .nil⟩
def Y8 {w:World}{s:Sh}(t: ∀{cs:List Value} {x:El s},jv w s cs x->∀{rows:List Row},zp w rows->∃c e,Built w rows c e cs (dy s x))(a:Addr): ∀(m:List (El s)) (k:Nat),
  (∀i y,m[i]?=O y->∃l,(∀j z,l[j]?=O z->w.cell? (a.add ((k+i)*s.w+j))=O z)/\jv w s l y)->∀{rows:List Row},zp w rows->
  ∃c e g,Built w rows c e g (fO s m)/\(dt g)=dt m*s.w/\∀i z,g[i]?=O z->w.cell? (a.add (k*s.w+i))=O z
 |[],k,_,rows,h=>⟨[],[],[], .nil h,V2,λi z d=>by simp at d⟩
 |y::m,k,r,rows,h=>by
  have⟨l,C,n⟩:=r 0 y rfl;have⟨L,u,q⟩:=t n h
  have⟨M,A,B,D,E,F⟩:=Y8 t a m (k+1) (λi N o=>by
   have⟨p,I,J⟩:=r (i+1) N (by simpa using o)
   exact⟨p,λj z d=>by rw[show k+1+i=k+(i+1)by omega];exact I j z d,J⟩) q.ok
  refine⟨L++M,u++A,l++B, ?_, ?_,λi z d=> ?_⟩
  .have:=q.app D;rw[gz];exact this
  .rw[cK,E,n.len,cR,Nat.succ_mul];omega
  .have Q:=n.len;by_cases K:i<dt l
   .rw[cD K]at d;have:=C i z d
    rwa [Nat.add_zero]at this
   .rw[cM V1]at d;have:=F _ z d;rw[show(k+1)*s.w+(i-dt l)=k*s.w+i by rw[Nat.succ_mul];omega]at this;exact this
def build {w:World}: ∀(s:Sh) {cs:List Value} {x:El s},jv w s cs x->∀{rows:List Row},zp w rows->∃Q U,Built w rows Q U cs (dy s x)
 | .int k,_,n,⟨h,_⟩,rows,u=>by
  subst h;exact⟨[],_,by rw[aD];exact u, .cons (.int _ _) .nil, .cons (.int _ _) .nil⟩
 | .bool,_,b,h,rows,u=>by
  have h:_=[Value.bool _]:=h;subst h;exact⟨[],_,by rw[aD];exact u, .cons (.bool _) .nil, .cons (.bool _) .nil⟩
 | .str,_,l,⟨s,h,B,_⟩,rows,u=>by
  subst h;exact⟨[],_,by rw[aD];exact u, .cons (.string _) .nil, .cons (.str B) .nil⟩
 | .pair a b,_,x,⟨c1,c2,h,F,B⟩,rows,u=>by
  subst h;obtain⟨p,A,I⟩:=build a F u;obtain⟨m2,a2,h4⟩:=build b B I.ok;exact⟨p++m2,A++a2,I.app h4⟩
 | .list s,_,l,h,rows,u=>by
  rcases h with⟨h,B⟩|⟨a,g,c,T,h,D,hcm,hyl,V,hy⟩
  .subst h;subst B;exact⟨[],_,by rw[aD];exact u, .cons .nils .nil, .cons (.lstn λz N=>by cases N) .nil⟩
  .subst h;obtain⟨p,A,c1,F,B,I⟩:=Y8 (λt=>build s t) a T 0 (λi y h=>by rw[cP];exact hy i y h) u;have hw:=nG s;rw[hyl]at B;have J:A.length=c*s.w:=by rw[F.vr.length,B]
   let d:Row:=⟨a.block,a.off,c*s.w,s.w,A⟩
   have j:0<c->a.spot=Y/\a.block<w.heap.size:=by
    intro t;have E:0<c1.length:=by rw[B];exact Nat.mul_pos t hw
    have:=I 0 _ (bD E);rw[cQ,Nat.add_zero]at this;have q:=X9 this;exact⟨q,as0 (x:=⟨a.block,a.off+0,Y⟩) (LD q this)⟩
   have C: ∀(rs:List Row),(rows++(p++[d])++rs)[(rows++p).length]?=O d:=by
    intro rs;rw[<-bB,bB _ [d],cM (cN _),Nat.sub_self];rfl
   have M:(oO (rows++(p++[d]))).at (rows++p).length ⟨a.block,a.off,c*s.w,s.w,0,Y⟩:=by
    have:=C [];rw[aD]at this;refine⟨?_,rfl⟩;simp only[oO,this];rfl
   have W:zp w (rows++(p++[d])):=by
    rw[<-bB];refine F.ok.app λr X i v S=> ?_
    have:r=d:=by simpa using X
    subst this;obtain⟨v',q1,q2⟩:=F.vr.get i v S;have t:=I i v' q1;rw[cQ,cP]at t
    have K:0<c:=by
     rcases cU c with e|e
     .have S:A[i]?=O v:=S;obtain⟨hi,_⟩:=List.getElem?_eq_some_iff.1 S;rw[J,e,cQ]at hi;exact(cO _ hi).elim
     .exact e
    exact⟨v',LD (j K).1 t,q2.mono (QA _ _)⟩
   refine⟨p++[d],[.slice (O ⟨(rows++p).length,0,Y⟩) g c],W, ?_, ?_⟩
   .refine .cons ?_ .nil;by_cases t:c=0
    .have:g=0:=by omega
     subst t;subst this;exact .slice0 _ M
    .have q:=(j V1).1;obtain⟨b,o,sp⟩:=a;simp only at q;subst q;exact .slice (o:=0) M D (cN _) V2
   .refine .cons ?_ .nil;by_cases t:c=0
    .have e:g=0:=by omega
     subst t;subst e;rw[V,List.take_zero];exact .lstn λz N=>by injection N with N;rw[<-N]
    .have E:=(j V1).2
     have hm:(xr (rC w.heap.size (rows++(p++[d])))).Z.m (rows++p).length=O ⟨A,Zb,s.w⟩:=by
      have:=C [];rw[aD]at this;simp only[xr,rC,this,zG];exact zE E
     have L:l.length=g:=by rw[V,cS];omega
     refine .lst (Ma _) hm rfl L.symm D ?_ ?_
     .show 0+g*s.w<=A.length;rw[J,cP];exact Nat.mul_le_mul_right _ D
     .show F2 _ _ ((A.drop 0).take (g*s.w));rw[cL,V]
      have h5:F2 (VRel (xr (rC w.heap.size (rows++(p++[d]))))) (fO s T) A:=by
       rw[<-bB];exact VRel.frames (Wl _ _ _) F.vv
      have h6:fO s (T.take g)=(fO s T).take (g*s.w):=mI;rw[h6];exact h5.take _
def Au :List Sh->Sh
 |[]=> .bool
 |[a]=>a
 |a::b::r=> .pair a (Au (b::r))
def R9 {w:World}: ∀{l1 c:List Sh} {c1 c2:List Value},l1≠[]->c≠[]->(∃x,jv w (Au l1) c1 x)->(∃x,jv w (Au c) c2 x)->∃x,jv w (Au (l1++c)) (c1++c2) x
 |[a],b::r,c1,c2,_,_,⟨x,d⟩,⟨y,e⟩=>⟨(x,y),c1,c2,rfl,d,e⟩
 |a::b::r,c,c1,c2,_,l,⟨x,g,h,i,d,e⟩,j=>by
  subst i;have⟨z,k⟩:=R9 (l1:=b::r) V2 l ⟨x.2,e⟩ j;exact⟨(x.1,z),g,h++c2,by rw[bB],d,k⟩
def HI {α:Type}(P:Program)(r:TypeId->Option (List Sh))(d:α->TypeId)(a:α->Nat):List α->Nat->Option (List Sh)
 |[],_=>O []
 |f::l,o=>cond (aB (a f) o) (match r (d f)with
  |some (s::c)=>cond (aB (dt (s::c)) (P.cellsOf (d f))) ((HI P r d a l (o+dt (s::c))).map ((s::c)++ ·)) Y
  |_=>Y) Y
def sa (P:Program):Nat->TypeId->Option (List Sh)
 |0,_=>Y
 |n+1,t=>match P.underlying t with
  |some (.int k)=>O [.int k]
  |some .bool=>O [.bool]
  |some .string=>O [.str]
  |some (.slice e)=>(match sa P n e with
   |some (s::a)=>cond (aB (dt (s::a)) (P.cellsOf e)) (O [.list (Au (s::a))]) Y
   |_=>Y)
  |some (.struct c)=>(match HI P (sa P n) Field.type Field.offset c.toList 0 with
   |some L=>cond (aB (dt L) (P.cellsOf t)) (O L) Y
   |none=>Y)
  |some (.array m e)=>(match HI P (sa P n) (λ_=>e) (λi=>i*P.cellsOf e) (List.range m) 0 with
   |some L=>cond (aB (dt L) (P.cellsOf t)) (O L) Y
   |none=>Y)
  |_=>Y
section
variable {H:Type} {enc:TypeId×Value->H} {P:Program} {w:World} {base:Nat} {held:Bool}
def E2 {α:Type}{n m:Nat}{c:α->TypeId}{a:α->Nat}(A: ∀{t:TypeId} {l:List Sh} {cs:List Value} {x:DataW H×List MemPlace},sa P n t=O l->l≠[]->DataW.trod enc P w base (λ_=>Za) held m t cs=O x->∃y,jv w (Au l) cs y){cs:List Value}:
  ∀(d:List α) (o:Nat) (L:List Sh),HI P (sa P n) c a d o=O L->L≠[]->(∀(i:Nat) (f:α),d[i]?=O f->∃x,DataW.trod enc P w base (λ_=>Za) held m (c f) ((cs.drop (a f)).take (P.cellsOf (c f)))=O x)->
   ∃y,jv w (Au L) ((cs.drop o).take (dt L)) y
 |[],o,L,h,j,_=>by
  injection h with h
  exact(j h.symm).elim
 |f::d,o,L,h,j,u=>by
  have⟨y,z⟩:=u 0 f rfl;simp only[HI]at h;cases k:aB (a f) o with
  |false=>rw[k]at h;cases h
  |true=>
   have k:=cB k;subst k;rw[Nat.beq_refl,zC]at h;cases q:sa P n (c f)with
   |none=>rw[q]at h;cases h
   |some l=>
    rw[q]at h;cases l with
    |nil=>cases h
    |cons s B=>
     simp only at h;cases e:aB (dt (s::B)) (P.cellsOf (c f))with
     |false=>rw[e]at h;cases h
     |true=>
      rw[e,zC]at h;have e:=cB e;rw[<-e]at z;have r:=A q V2 z;cases p:HI P (sa P n) c a d (a f+dt (s::B))with
      |none=>rw[p]at h;cases h
      |some L2=>
       rw[p,cV]at h;cases h;rw[cK,List.take_add,List.drop_drop];cases L2 with
       |nil=>
        rw[List.length_nil,List.take_zero,aD,aD];exact r
       |cons E D=>exact R9 V2 V2 r (E2 A d _ _ p V2 λi g C=>u (i+1) g (by simpa using C))
def OB {β:Type}{p:Nat->β->Prop}: ∀(n:Nat),(∀i,i<n->∃y,p i y)->∃c:List β,dt c=n/\∀i y,c[i]?=O y->p i y
 |0,_=>⟨[],rfl,λi y h=>by simp at h⟩
 |n+1,h=>by
  have⟨c,g,j⟩:=OB n λi d=>h i V1
  have⟨y,k⟩:=h n V1;refine⟨c++[y],cI,λi z a=> ?_⟩;by_cases d:i<dt c
  .rw[cD d]at a;exact j i z a
  .rw[cM V1]at a
   have:i-dt c=0:=by
    rcases cU (i-dt c)with e|e
    .exact e
    .rw[List.getElem?_eq_none V3]at a;cases a
   rw[this]at a;cases a;have:i=n:=by omega
   subst this;exact k
def Xb {a:Addr}{c:Nat}{d:List Value}(h:w.cells? base a c=O d):dt d=c/\∀j z,d[j]?=O z->w.cell? (a.add j)=O z:=by
 unfold World.cells? at h;split at h
 .have g:=mapM_some_length h;rw[List.length_range]at g;refine⟨g,λj z i=> ?_⟩
  have e:j<c:=by
   have⟨e,_⟩:=List.getElem?_eq_some_iff.1 i;omega
  have:=mapM_some_get h j j cJ;rw[this,i]
 .cases h
def af9 : ∀(l:List Sh),l≠[]->(∀s∈l,s.w=1)->(Au l).w=dt l
 |[a],_,h=>h a V2
 |a::b::r,_,h=>by
  show a.w+(Au (b::r)).w=_;rw[h a V2,af9 (b::r) V2 λs c=>h s (List.mem_cons_of_mem _ c)];simp only[cR];omega
def P1 {α:Type}{n:Nat}{d:α->TypeId}{a:α->Nat}(k: ∀{t:TypeId} {l:List Sh},sa P n t=O l->∀s∈l,s.w=1): ∀(c:List α) (o:Nat) (L:List Sh),HI P (sa P n) d a c o=O L->∀s∈L,s.w=1
 |[],o,L,h=>by
  cases h;intro s p;cases p
 |f::c,o,L,h=>by
  simp only[HI]at h;cases i:aB (a f) o with
  |false=>rw[i]at h;cases h
  |true=>
   rw[i,zC]at h;cases g:sa P n (d f)with
   |none=>rw[g]at h;cases h
   |some l=>
    rw[g]at h;cases l with
    |nil=>cases h
    |cons s m=>
     simp only at h;cases j:aB (dt (s::m)) (P.cellsOf (d f))with
     |false=>rw[j]at h;cases h
     |true=>
      rw[j,zC]at h;cases e:HI P (sa P n) d a c (o+dt (s::m))with
      |none=>rw[e]at h;cases h
      |some L2=>
       rw[e,cV]at h;cases h;intro q hq;rcases List.mem_append.1 hq with hq|hq
       .exact k g q hq
       .exact P1 k c _ _ e q hq
def P3 : ∀(n:Nat) {t:TypeId} {l:List Sh},sa P n t=O l->∀s∈l,s.w=1
 |0,t,l,h=>by cases h
 |n+1,t,l,h=>by
  have one: ∀{a:Sh},a.w=1->O [a]=O l->∀s∈l,s.w=1:=by
   intro a i e;cases e;intro s g;rw[List.mem_singleton]at g;subst g;exact i
  simp only[sa]at h;split at h
  .exact one rfl h
  .exact one rfl h
  .exact one rfl h
  .split at h
   .rename_i e m x s j k;cases c:aB (dt (s::j)) (P.cellsOf e)with
    |false=>rw[c]at h;cases h
    |true=>rw[c,zC]at h;exact one rfl h
   .cases h
  .split at h
   .rename_i L d;cases c:aB (dt L) (P.cellsOf t)with
    |false=>rw[c]at h;cases h
    |true=>
     rw[c,zC]at h;cases h;exact P1 (λh=>P3 n h) _ _ _ d
   .cases h
  .split at h
   .rename_i L d;cases c:aB (dt L) (P.cellsOf t)with
    |false=>rw[c]at h;cases h
    |true=>
     rw[c,zC]at h;cases h;exact P1 (λh=>P3 n h) _ _ _ d
   .cases h
  .cases h
def C9 : ∀(n:Nat) {m:Nat} {t:TypeId} {l:List Sh} {cs:List Value} {x:DataW H×List MemPlace},sa P n t=O l->l≠[]->DataW.trod enc P w base (λ_=>Za) held m t cs=O x->∃y,jv w (Au l) cs y
 |0,m,t,l,cs,x,h,_,_=>by cases h
 |n+1,m,t,l,cs,x,h,M,B=>by
  simp only[sa]at h;split at h
  .rename_i k g;cases h;have⟨a,o,_,T⟩:=DataW.trod_int g B;exact⟨a,o,T⟩
  .rename_i g;cases h;have⟨a,o,_⟩:=DataW.trod_bool g B;exact⟨a,o⟩
  .rename_i g;cases h;have⟨a,o,_,T⟩:=DataW.trod_string g B;exact⟨_,a,o,rfl,T⟩
  .rename_i e g;split at h
   .rename_i s C hr;cases c:aB (dt (s::C)) (P.cellsOf e)with
    |false=>rw[c]at h;cases h
    |true=>
     rw[c,zC]at h;cases h;have c:=cB c;have hw:(Au (s::C)).w=P.cellsOf e:=by rw[af9 _ V2 (P3 n hr),c]
     rcases DataW.trod_slice g B with⟨o,_⟩|⟨a,d,p,U,rest,Q,_,o,_,hb,hlc,V,hel,he,u⟩
     .exact⟨([]:List (El (Au (s::C)))), .inl ⟨o,rfl⟩⟩
     .have J: ∀i,i<p->∃y:El (Au (s::C)),∃S,(∀j z,S[j]?=O z->w.cell? (a.add (i*(Au (s::C)).w+j))=O z)/\jv w (Au (s::C)) S y:=by
       intro i K
       have A: ∃q,(w.cells? base (a.add (i*P.cellsOf e)) (P.cellsOf e)).bind (DataW.trod enc P w base (λ_=>Za) held Q e)=O q:=by
        by_cases Z:i<d
        .rw[he i Z];exact⟨_,bD V1⟩
        .obtain⟨h8,r⟩:=u.1 rfl;have:=r (i-d) V1;rw[show d+(i-d)=i by omega]at this;rw[this];exact⟨_,bD V1⟩
       have⟨q,hq⟩:=A;have⟨S,D,F⟩:=ah hq;have⟨y,I⟩:=C9 n hr V2 F;have⟨h4,h5⟩:=Xb D;exact⟨y,S,λj z hz=>by rw[hw,<-ar0];exact h5 j z hz,I⟩
      have⟨ys,h6,h7⟩:=OB p J;exact⟨ys.take d, .inr ⟨a,d,p,ys,o,hlc,V,h6,rfl,h7⟩⟩
   .cases h
  .rename_i fs g;split at h
   .rename_i L W;cases c:aB (dt L) (P.cellsOf t)with
    |false=>rw[c]at h;cases h
    |true=>
     rw[c,zC]at h;cases h;have c:=cB c;have⟨xs,Q,_,_,hl,N,hx⟩:=DataW.trod_struct g B
     have:=E2 (cs:=cs) (λD F I=>C9 n (m:=Q) D F I) fs.toList 0 _ W M λi f K=>by
      have X:fs[i]?=O f:=by rw[<-Array.getElem?_toList];exact K
      have:=hx i f X;rw[this]
      have:i<dt xs:=by
       have⟨r,_⟩:=List.getElem?_eq_some_iff.1 K;rw[N];simpa using r
      exact⟨_,bD this⟩
     rw[cL,cT V1]at this;exact this
   .cases h
  .rename_i k e g;split at h
   .rename_i L W;cases c:aB (dt L) (P.cellsOf t)with
    |false=>rw[c]at h;cases h
    |true=>
     rw[c,zC]at h;cases h;have c:=cB c;have⟨xs,Q,_,_,hl,N,hx⟩:=DataW.trod_array g B
     have:=E2 (cs:=cs) (λD F I=>C9 n (m:=Q) D F I) (List.range k) 0 _ W M λi f K=>by
      have⟨r,E⟩:=List.getElem?_eq_some_iff.1 K;rw[List.getElem_range]at E;subst E;have r:i<k:=by simpa using r
      have:=hx i r;rw[this];exact⟨_,bD V1⟩
     rw[cL,cT V1]at this;exact this
   .cases h
  .cases h
end
def isAgg (P:Program)(t:TypeId):Bool:=match P.underlying t with
 |some (.struct _)|some (.array _ _)=>Za
 |_=>Zb
def Ed (w:World):(b:Bool)->(s:Sh)->Value->El s->Prop
 |true,s,v,x=> ∃a,v= .agg a/\jv w s a.toList x
 |false,s,v,x=>jv w s [v] x
def HW {H:Type}{enc:TypeId×Value->H}{P:Program}{base:Nat}{held:Bool}{n:Nat}{t:TypeId}{l:List Sh}{r:Reach}{b0:Nat}{d:DataW H}{y:List MemPlace}(i:sa P n t=O l)(m:l≠[])
  (a:Value.okWide P w r b0 t v) (s:DataW.Trod enc P w base (λ_=>Za) held t v d y): ∃x:El (Au l),Ed w (isAgg P t) (Au l) v x:=by
 have⟨o,u⟩:=s;have⟨x,j⟩:=C9 n i m u;refine⟨x, ?_⟩
 have g:isAgg P t=Zb->(∀h,v≠ .agg h)->Ed w (isAgg P t) (Au l) v x:=by
  intro p q;rw[p]
  have:v.cells.toList=[v]:=by
   unfold Value.cells;split
   .rename_i h;exact(q h rfl).elim
   .rfl
  rw[this]at j;exact j
 cases n with
 |zero=>cases i
 |succ n=>
  simp only[sa]at i;split at i
  .rename_i k c;refine g Zv λh e=> ?_
   subst e;simp[Value.okWide,c,Cell.okWide,Cell.ok]at a
  .rename_i c;refine g Zv λh e=> ?_
   subst e;simp[Value.okWide,c,Cell.okWide,Cell.ok]at a
  .rename_i c;refine g Zv λh e=> ?_
   subst e;simp[Value.okWide,c,Cell.okWide,Cell.ok]at a
  .rename_i e c;refine g Zv λh e=> ?_
   subst e;simp[Value.okWide,c,Cell.okWide,Cell.ok]at a
  .rename_i z c;simp only[Value.okWide,c]at a;obtain⟨h,rfl,_,_⟩:=a;rw[show isAgg P t=Za by simp[isAgg,c]];exact⟨h,rfl,j⟩
  .rename_i k e c;simp only[Value.okWide,c]at a;obtain⟨h,rfl,_,_⟩:=a;rw[show isAgg P t=Za by simp[isAgg,c]];exact⟨h,rfl,j⟩
  .cases i
@[reducible] def All :List (Bool×Sh)->Type
 |[]=>Unit
 |[k]=>El k.2
 |k::a::r=>El k.2×All (a::r)
def O0 (w:World):(e:List (Bool×Sh))->List Value->All e->Prop
 |[],a,_=>a=[]
 |[k],a,x=> ∃v,a=[v]/\Ed w k.1 k.2 v x
 |k::d::r,a,x=> ∃v c,a=v::c/\Ed w k.1 k.2 v x.1/\O0 w (d::r) c x.2
def aK2 (k:Bool×Sh)(x:El k.2):VV:=cond k.1 (.agg (dy k.2 x)) ((dy k.2 x).headD .undef)
def YU :(c:List (Bool×Sh))->All c->List VV
 |[],_=>[]
 |[k],x=>[aK2 k x]
 |k::a::r,x=>aK2 k x.1::YU (a::r) x.2
def NY {k:Bool×Sh}{x:El k.2}(h:Ed w k.1 k.2 v x)(g:zp w rows): ∃c j,Built w rows c [j] [v] [aK2 k x]:=by
 have⟨b,s⟩:=k;cases b with
 |true=>
  obtain⟨u,rfl,m⟩:=h;have⟨c,e,d⟩:=build s m g;exact⟨c, .agg e.toArray,d.ok, .cons (.agg (by simpa using d.vr)) .nil, .cons (.agg (by simpa using d.vv)) .nil⟩
 |false=>
  have⟨c,e,d⟩:=build s h g;have n:=d.vr;have o:=d.vv;cases n with
  | @cons a _ i _ p q=>
   cases q;refine⟨c,a,d.ok, .cons p .nil, ?_⟩;show F2 _ [(dy s x).headD .undef] _;generalize dy s x=l at*;cases o with
   |cons r t=>
    cases t;exact .cons r .nil
def Ly {w:World}: ∀(j:List (Bool×Sh)) {vs:List Value} {x:All j},O0 w j vs x->∀{rows:List Row},zp w rows->∃a c,Built w rows a c vs (YU j x)
 |[],vs,x,h,rows,d=>by
  have h:vs=[]:=h;subst h;exact⟨[],[], .nil d⟩
 |[k],vs,x,⟨v,h,g⟩,rows,d=>by
  subst h;have⟨a,e,i⟩:=NY g d;exact⟨a,[e],i⟩
 |k::n::r,vs,x,⟨v,q,h,g,i⟩,rows,d=>by
  subst h;have⟨o,e,l⟩:=NY g d;have⟨p,c,m⟩:=Ly (n::r) i l.ok;exact⟨o++p,e::c,l.app m⟩
def inK (k:IntKind)(n:Int):Prop:=match k with
 | .i64=> -9223372036854775808<=n/\n<=9223372036854775807
 | .u64=>0<=n/\n<=18446744073709551615
 | .u8=>0<=n/\n<=255
 |_=>True
def aN8 {k:IntKind}{n:Int}(h:(Lit.int k n).wf=Za):inK k n:=by
 cases k<;>first|trivial|exact aR7 h|exact aR8 h|exact aY8 h
def YD :(s:Sh)->El s->Prop
 | .int k,n=>inK k n
 | .bool,_=>True
 | .str,l=>dt l<=9223372036854775807/\∀n∈l,0<=n/\n<=255
 | .list s,l=>dt l<=9223372036854775807/\∀x∈l,YD s x
 | .pair a b,x=>YD a x.1/\YD b x.2
def jv.fine : ∀{s:Sh} {cs:List Value} {x:El s},jv w s cs x->YD s x
 | .int k,_,_,⟨_,h⟩=>aN8 h
 | .bool,_,_,_=>trivial
 | .str,_,_,⟨s,_,h,e⟩=>by
  subst h;refine⟨?_,λn g=> ?_⟩
  .unfold eg;rw[List.length_map];unfold maxLen at e;simpa using e
  .unfold eg at g;obtain⟨b,_,rfl⟩:=List.mem_map.1 g;have:=b.toNat_lt;omega
 | .list s,_,l,h=>by
  rcases h with⟨_,h⟩|⟨a,y,j,B,_,r,c,u,q,t⟩
  .subst h;exact⟨Nat.zero_le _,λx d=>by cases d⟩
  .subst q;refine⟨by rw[cS];unfold maxLen at c;omega,λx d=> ?_⟩;obtain⟨i,p,rfl⟩:=List.getElem_of_mem (List.mem_of_mem_take d);have⟨C,_,h⟩:=t i _ (bD p);exact h.fine
 | .pair a b,_,_,⟨z,A,_,m,o⟩=>⟨m.fine,o.fine⟩
def Ed.fine {b:Bool}{s:Sh}{x:El s}(h:Ed w b s v x):YD s x:=by
 cases b with
 |true=>obtain⟨a,_,h⟩:=h;exact h.fine
 |false=>exact jv.fine h
def ae0 {P:Program}{vals:List Sk}{a:Ad (rc.shs ⟨vals,[],[]⟩)->Option (vz GU)}(h:dh P ⟨f,vals,[],GU,a⟩)(k:Re P w){cargs:Array Value}(c:List (Bool×Sh))(x:All c)(t:Ad (rc.shs ⟨vals,[],[]⟩))
  (j:O0 w c cargs.toList x) (l:(ek (ny [] 0 [] ⟨vals,[],[]⟩ (YU c x)) λst=>Q0 _ st.ls)=O t) (g:a t=O Za):
  Calls P f cargs w λe w'=>e= .returned (.bool Za)/\Go.RowKit.Below w.heap.size w w':=by
 obtain⟨rows,i,d⟩:=Ly c j (rows:=[]) (λr g=>by cases g);exact XG h k t d.ok d.vr d.vv l g
end
section
open Builtin renaming unsafeSliceData_ -> aB
open List renaming append_assoc -> bD, length_append -> cB, size_toArray -> cD
open Nat renaming le_refl -> aD, le_trans -> bB, lt_of_lt_of_le -> cK
def ai4 {P:Program}{i k:IntKind}{g:Int->Option Int}(hc:w9 P f)
  (e1: ∀t:Ad (rc.shs ⟨[.leaf (.int i)],[],[]⟩),mN id ⟨[.leaf (.int i)],[],[]⟩ (KG _ t)=O ([.int i t],[],[]))
  (U: ∀(f:Nat->Nat) (o:Ad (rc.shs ⟨[.leaf (.int k)],[],[]⟩)),mN f ⟨[.leaf (.int k)],[],[]⟩ (KG _ o)=O ([.int k o],[],[]))
  (h: ∀(B:Ab.Base P) (w:World) (x y:Int),g x=O y->B.n<=w.heap.size->(∀b,b<B.n->w.heap[b]?=B.h b)->Calls P f #[.int i x] w λe w'=>e= .returned (.int k y)/\w'=w):
  dh P ⟨f,[.leaf (.int i)],[],[⟨.ret,[],⟨[.leaf (.int k)],[],[]⟩⟩],g⟩:=by
 intro B μ Z w I d K hs j L;have⟨c,F,st,t,o,p,v,fs,bs,S',W,J,hf,hd,hl,M,hok,r,D,a,z,X⟩:=hs;subst W;have E:KG (rc.shs ⟨[.leaf (.int i)],[],[]⟩) t=st.ls:=AO hl;have q:mN id ⟨[.leaf (.int i)],[],[]⟩ (KG (rc.shs ⟨[.leaf (.int i)],[],[]⟩) t)=O ([.int i t],[],[]):=e1 t;rw[E]at q;have⟨_,A⟩:=enter J rfl hd q hf;cases A with
 |cons N Q=>
  cases Q;cases N
  have m:d= #[.int i t]:=by
   generalize C:d.toList=l at L;cases L with
   |cons S T=>
    cases T;cases S;exact Array.toList_inj.1 C
  subst m;refine⟨hc,(h B w t o r j.base j.old).mono ?_⟩;rintro x w' ⟨rfl,rfl⟩;cases D;rw[U]at a;injection a with a
  injection a with s u
  injection u with u V
  subst u;subst V;cases s;cases z;exact⟨.int k o,c.Z, .int k o,μ,rfl,X _ _ ⟨c,rfl,by simp[AJ,NR,alV],Le.refl c,J, .int _ _,uO.refl _ c⟩,μ.le_refl,j, .int _ _,Go.RowKit.Below.refl _ _,rfl⟩
def aq5 {P:Program}{B:Ab.Base P}{μ:Mu}{Z:Hp}{w':World}(h:R B μ Z w)(a:Go.RowKit.Below w.heap.size w w'):R B μ Z w':=
 ⟨bB h.base a.size,λb d=>(a.block b (cK d h.base)).trans (h.old b d),h.fresh,λb x c=>let⟨g,i,j⟩:=h.live b x c;⟨g,i,j.kept a.size (a.block _ j.lt) (λl k m=>a.block _ (h.buf c i l m).2.1)⟩,h.inj,
  h.sep.of (λb x g c e=> .inl ⟨x,c,e⟩) (λb x g c e _ _=>by unfold iK;rw[a.block _ (h.get c e).lt])⟩
def UE {P:Program}{vals:List Sk}{s:Sh}{g:Ad (rc.shs ⟨vals,[],[]⟩)->Option (Ad (rc.shs ⟨[.leaf s],[],[]⟩))}(d:Ad (rc.shs ⟨vals,[],[]⟩)->List VV)(j:Ad (rc.shs ⟨[.leaf s],[],[]⟩)->VV)(V:w9 P f)
  (e1: ∀t:Ad (rc.shs ⟨vals,[],[]⟩),mN id ⟨vals,[],[]⟩ (KG _ t)=O (d t,[],[]))
  (N: ∀(f:Nat->Nat) (o:Ad (rc.shs ⟨[.leaf s],[],[]⟩)),mN f ⟨[.leaf s],[],[]⟩ (KG _ o)=O ([j o],[],[]))
  (z: ∀o,AJ [j o] [] []=Zb)
  (h: ∀(B:Ab.Base P) (μ:Mu) (w:World) (c:Ctx) (t:Ad (rc.shs ⟨vals,[],[]⟩)) (y:Ad (rc.shs ⟨[.leaf s],[],[]⟩)) (args:List Value) (cargs:Array Value),g t=O y->R B μ c.Z w->F2 (VRel c) (d t) args->F2 (VR μ) args cargs.toList->
   Calls P f cargs w λe w'=> ∃r,e= .returned r/\(∀c,VRel c (j y) r)/\(∀μ,VR μ r r)/\Go.RowKit.Below w.heap.size w w'):
  dh P ⟨f,vals,[],[⟨.ret,[],⟨[.leaf s],[],[]⟩⟩],g⟩:=by
 intro B μ Z w args cargs K hs i U;have⟨c,F,M,t,o,p,v,fs,bs,S',S,I,X,W,hl,L,hok,m,C,a,n,T⟩:=hs;subst S;have D:KG (rc.shs ⟨vals,[],[]⟩) t=M.ls:=AO hl;have l:=e1 t;rw[D]at l;have⟨_,A⟩:=enter I rfl W l X;refine⟨V,(h B μ w (kZ c M []) t o args cargs m i A U).mono ?_⟩;rintro x w' ⟨r,rfl,hv,E,J⟩;cases C;rw[N]at a;injection a with a
 injection a with q u
 injection u with u Q
 subst u;subst Q;cases q;have k:=z o;rw[k]at n;cases n;exact⟨r,c.Z,r,μ,rfl,T _ _ ⟨c,rfl,V2,Le.refl c,I,hv _,uO.refl _ c⟩,μ.le_refl,aq5 i J,E _,J.mono i.base,rfl⟩
def VU (u:Int):Option Int:=if 1<=u/\u<=18446744073709551615 then O ((Lib.nDigits u.toNat:Nat):Int)else Y
def u8I (l:List UInt8):Zd:=l.map λb=>(b.toNat:Int)
def aB9 (a b:List UInt8):u8I (a++b)=u8I a++u8I b:=List.map_append
def Xa (l:List UInt8):eg ⟨l.toArray⟩=u8I l:=by unfold eg u8I;simp
end
end Go.V
namespace Go.Ab
open Option renaming some->O,none->Y
open Bool renaming true->Za,false->Zb
open Decidable renaming decide->Zc
open List renaming length->dt
variable {b:Nat}
section
open Builtin renaming unsafeSliceData_ -> aB
open List renaming append_assoc -> bD, length_append -> cB, size_toArray -> cD
open Nat renaming le_refl -> aD, le_trans -> bB, lt_of_lt_of_le -> cK
open Go.Shelf Go.RowKit Go.Proofs Go
structure Only (b:Nat)(w w':World):Prop where
 size:w.heap.size<=w'.heap.size
 oth: ∀k,k<w.heap.size->k≠b->iK w b≠O k->w'.heap[k]?=w.heap[k]?
 buf: ∀k,iK w' b=O k->iK w b=O k∨w.heap.size<=k
section
variable {P:Program} (w:World)
def QB (base:Nat)(t u I e:TypeId)(i:TypeInfo)(U:P.underlying t=O (.slice e))(W:P.underlying u=O .string)(S:P.info? e=O i)(hz:i.zero=O (.int .u8 0))
  (c:i.size=1) (B:i.bytes=1)
  (v:Value) (n:Nat) (r:List Value) (h:w.ownsRowF base e 1 v n r) (s:ByteArray)
  (x:n+s.size<=maxLen) (p:n+s.size<=140737488355328) (m:base<=w.heap.size):
  ∃v' w',(Builtin.append_ #[t,u] I #[v, .string s]).run P w= .ok v' w'/\w'.ownsRowF base e 1 v' (n+s.size) (r++Lib.strCells s)/\w.grownBy w' v.ownBlock/\
   (∀k,v'.ownBlock=O k->v.ownBlock=O k∨w.heap.size<=k):=by
 rcases h.2 with⟨rfl,rfl⟩|⟨g,a,l,E,rfl,K,hg,N,hnc,L,M,z⟩
 .obtain⟨v',w',h1,h2,h3,h4⟩:=Lib.run_append_own_string (P:=P) w w.heap.size t u I e i U W S hz c B (.slice Y 0 0) 0 r ⟨h.1, .inl ⟨rfl,rfl⟩⟩ s x p (aD _);have J:=World.ownsRowF_of h2;refine⟨v',w',h1,⟨J.1, ?_⟩,h3,λk q=> .inr (J.lt k q).1⟩;rcases J.2 with hn|⟨g,a,l,E,hv,hb,D⟩
  .exact .inl hn
  .exact .inr ⟨g,a,l,E,hv,bB m hb,D⟩
 .have F:n+s.size<=9223372036854775807:=by simp only[maxLen]at x;omega
  have A:dt r=n:=by simpa using h.1
  have d:dt (r++Lib.strCells s)=(n+s.size)*1:=by rw[cB,A,Lib.strCells_length,Nat.mul_one]
  by_cases o:n+s.size<=a
  .have Z:l.size=a:=by simpa using M
   have T:=Lib.run_append_room_stringF (P:=P) w t u I e i U W S c g n a l E hg (by simpa using N) s o V1;refine⟨_,_,T,⟨d, .inr ⟨g,a,_,E,rfl,K,setRow_heap w g l _ e _ hg,V1,o,L, ?_, ?_⟩⟩,⟨rfl,rfl,rfl,V2,λk _ q=>setRow_other w g k _ (λe=>q (by simp[Value.ownBlock,e]))⟩,λk q=> .inl q⟩
   .simp only[cD,cB,List.length_take,List.length_drop,Array.length_toList,Lib.strCells_length];omega
   .have V:l.toList.take n=r:=by simpa using z
    rw[V,<-d];exact List.take_left
  .have y: ∀j u,r[j]?=O u->w.cell? ((⟨g,0,Y⟩:Addr).add j)=O u:=h.cells (g:=g) rfl
   have T:=Lib.run_append_grow_string (P:=P) w t u I e i (.int .u8 0) U W S hz ⟨g,0,Y⟩ n a r (by rw[c];simpa using A) y s V1 V1 (by rw[B];exact growslice_fits V1 V1);have Q:=grownCap_ge w (n+s.size) a e;have C:grownCap w (n+s.size) a e<=maxLen:=grownCap_le_maxLen w (n+s.size) a e x;refine⟨_,_,T,⟨d, .inr ⟨w.heap.size,_,_,(0,0),rfl,m,heap_alloc_new w.drew _,Nat.zero_le _,Q,C, ?_, ?_⟩⟩,⟨rfl,rfl,rfl,V2,λk q _=>Below.heap_alloc w.drew _ _ q⟩,λk q=> .inr (by simp[Value.ownBlock]at q;omega)⟩
   .have X:(Value.int IntKind.u8 0).cells.size=1:=rfl;simp only[Array.size_append,cD,size_zeroCells,X,A,Lib.strCells_length];omega
   .simp only[Array.toList_append,bD];rw[<-bD,<-d];exact List.take_left
def Kq {l:Array Oper}{rest:List Oper}{o:Oper}{a:Act}{Q:Exit->Act->World->Prop}(q:o.guard=Y)(y x:Operand)(t u:TypeId)
  (E:o.op= .call {callee:= .builtin .append,args:= #[y,x],argTypes:= #[t,u]})
  (base:Nat) (e:TypeId) (i:TypeInfo) (J:P.underlying t=O (.slice e)) (L:P.underlying u=O .string) (D:P.info? e=O i) (N:i.zero=O (.int .u8 0))
  (g:i.size=1) (p:i.bytes=1)
  (v:Value) (n:Nat) (r:List Value) (I:a.eval y=v) (j:w.ownsRowF base e 1 v n r) (s:ByteArray) (M:a.eval x= .string s)
  (m:n+s.size<=maxLen) (c:n+s.size<=140737488355328) (d:base<=w.heap.size)
  (h: ∀v' w',w'.ownsRowF base e 1 v' (n+s.size) (r++Lib.strCells s)->w.grownBy w' v.ownBlock->(∀k,v'.ownBlock=O k->v.ownBlock=O k∨w.heap.size<=k)->wpList P l Q rest (a.put o.dst v') w'):wpList P l Q (o::rest) a w:=by
 refine wpList_plain q λK C=> ?_
 have⟨v',w',F,z,A,B⟩:=QB (P:=P) w base t u o.type e i J L D N g p v n r j s m c d;unfold Oper.wp execOp;simp only[E,resolve,invoke,builtin,Sem.run_bind,Sem.run_pure,Result.andThen_ok,List.map_toArray,List.map_cons,List.map_nil,I,M,F];exact C _ _ (h v' w' z A B)
end
variable {P:Program} {ρ:Ren}
def EN {w:World}{p v:Value}{T:TypeId}{z:Nat×Nat}(h:w.heap[b]?=O (.cells #[p,v] T z)):iK w b=v.ownBlock:=by
 unfold iK;rw[h];rfl
def RA (L:Lays.n240 P ρ)(X:Builder.X72 P ρ)(B b:Nat)(p:Value)(g:p= .pointer Y∨p= .pointer (O ⟨b,0,Y⟩))(bs:List Value)(w:World)(h:Lib.BuilderAtF (ρ.t 72) (ρ.t 5) B b p bs w):
  Calls P (ρ.f 240) #[.pointer (O ⟨b,0,Y⟩)] w λe w'=>e= .returned (.tuple #[])/\(Lib.BuilderAtF (ρ.t 72) (ρ.t 5) B b (.pointer (O ⟨b,0,Y⟩)) bs w'/\Below B w w'/\w'.heap.size=w.heap.size/\(∀k,k≠b->w'.heap[k]?=w.heap[k]?)/\iK w' b=iK w b):=by
 rcases g with rfl|rfl
 .refine(Any.Builder_copyCheck_fresh L X b w h.cell0 h.shape h.frozen0).mono ?_;rintro e w' ⟨rfl,rfl⟩;refine⟨rfl,h.used _,(Below.refl B w).setCell (p:=⟨b,0,Y⟩) h.1 _,by simp[World.setCell],λk d=>Below.heap_setCell _ _ _ _ (λe=>d cJ), ?_⟩;have⟨_,v,c,_⟩:=h;rw[EN c]
  have a:(w.setCell ⟨b,0,Y⟩ (.pointer (O ⟨b,0,Y⟩))).heap[b]?=O (.cells #[.pointer (O ⟨b,0,Y⟩),v] (ρ.t 72) (0,0)):=by
   simp[World.setCell,Array.getElem?_modify,c]
  exact EN a
 .refine(Any.Builder_copyCheck_used L X b w h.cell0).mono ?_;rintro e w' ⟨rfl,rfl⟩;exact⟨rfl,h,Below.refl B _,rfl,λ_ _=>rfl,rfl⟩
set_option maxHeartbeats 2000000 in
set_option maxRecDepth 100000 in
def aC3 (L:Lays.n166 P ρ)(X:Builder.Extra P ρ)(B b:Nat)(p:Value)(hp:p= .pointer Y∨p= .pointer (O ⟨b,0,Y⟩))(bs:List Value)(s:ByteArray)(w:World)(h:Lib.BuilderAtF (ρ.t 72) (ρ.t 5) B b p bs w)(V:dt bs+s.size<=140737488355328)(hBw:B<=w.heap.size):
  Calls P (ρ.f 166) #[.pointer (O ⟨b,0,Y⟩), .string s] w λe w'=>e= .returned (.tuple #[.int .i64 s.size, .nilIface])/\(Lib.BuilderAtF (ρ.t 72) (ρ.t 5) B b (.pointer (O ⟨b,0,Y⟩)) (bs++Lib.strCells s) w'/\Below B w w'/\Only b w w'):=by
 have⟨i0,hi,M,N,Q⟩:=info_parts X.infoByte;have mixed:=L.mixed;have t72:=L.t72;have a72:=L.a72;have z72:=L.z72;have v72:=L.v72;have u72:=run_underlying L.t72;have t70:=L.t70;have a70:=L.a70;have z70:=L.z70;have v70:=L.v70;have u70:=run_underlying L.t70;have t37:=L.t37;have a37:=L.a37;have z37:=L.z37;have v37:=L.v37;have u37:=run_underlying L.t37;have t3:=L.t3;have a3:=L.a3;have z3:=L.z3;have v3:=L.v3;have u3:=run_underlying L.t3;have t9:=L.t9;have a9:=L.a9;have z9:=L.z9;have v9:=L.v9;have u9:=run_underlying L.t9;have t4:=L.t4;have a4:=L.a4;have z4:=L.z4;have v4:=L.v4;have u4:=run_underlying L.t4;have t164:=L.t164;have a164:=L.a164;have z164:=L.z164;have v164:=L.v164;have Z:=run_underlying L.t164;have t5:=X.t5;have a5:=X.a5;have z5:=X.z5;have v5:=X.v5;have u5:=run_underlying X.t5;have S: ∀l w,(callFunc (ρ.f 240) l).run P w= .ok (.enter (ρ.f 240) l) w:=enters_of L.f240 V5 rfl
 go_enter L.f166,Body.n166_ntmps ρ
 go_wp2_with (go_at_fn (ρ.f 240);refine(RA {L with} X.toX72 B b p hp bs _ h).mono ?_)
 rintro e E ⟨rfl,h1,n,W,u,o⟩;have⟨U,v,i,m,J⟩:=h1;have c0:E.cell? ⟨b,0,Y⟩=O (.pointer (O ⟨b,0,Y⟩)):=by rw[Lib.cell_of_heap i];rfl
 have c1:E.cell? ⟨b,1,Y⟩=O v:=by rw[Lib.cell_of_heap i];rfl
 go_wp2_with (at_builtin;refine Kq _ rfl _ _ (ρ.t 37) (ρ.t 9) rfl B (ρ.t 5) i0 L.t37 L.t9 hi M N Q _ _ _ rfl m s rfl ?c3 ?c4 ?c5 ?_)
 case c3=>unfold maxLen;omega
 case c4=>omega
 case c5=>have:=n.size;omega
 intro v' A j a z
 have I:b<E.heap.size:=by
  rcases Nat.lt_or_ge b E.heap.size with h'|h'
  .exact h'
  .simp[Array.getElem?_eq_none h']at i
 have d:A.heap[b]?=O (.cells #[.pointer (O ⟨b,0,Y⟩),v] (ρ.t 72) (0,0)):=by
  rw[a.block b I (λe=>J e.symm)];exact i
 have d0:A.cell? ⟨b,0,Y⟩=O (.pointer (O ⟨b,0,Y⟩)):=by rw[Lib.cell_of_heap d];rfl
 have d1:A.cell? ⟨b,1,Y⟩=O v:=by rw[Lib.cell_of_heap d];rfl
 have f1:A.frozen? ⟨b,1,Y⟩=Zb:=Lib.frozen_of_heap d 1
 obtain⟨C,D,c,rfl⟩: ∃C D c,v'= .slice C D c:=by
  rcases j.2 with⟨K,_⟩|⟨g,c,cur,fz,K,_⟩
  .exact⟨_,_,_,K⟩
  .exact⟨_,_,_,K⟩
 have q:=EN i;rw[o]at q
 go_wp2
 go_ret2
 refine⟨rfl, ?_, ?_, ?_, ?_, ?_⟩
 .exact Lib.BuilderAtF.put (T:=(ρ.t 72)) (e:=(ρ.t 5)) U d (bs':=bs++Lib.strCells s) (by simpa[Lib.strCells_length]using j) X.neB5
 .exact(n.grown a (by have:=n.size;omega) (λk x=>(m.lt k x).1)).setCell (p:=⟨b,1,Y⟩) U _
 .have:=a.size;simp[World.setCell];omega
 .intro k x y r;rw[Below.heap_setCell _ _ _ _ (λe=>y cJ),a.block k V1 (λe=>r (by rw[q,e])),u k y]
 .intro k x
  have F:(A.setCell ⟨b,1,Y⟩ (.slice C D c)).heap[b]?=O (.cells #[.pointer (O ⟨b,0,Y⟩), .slice C D c] (ρ.t 72) (0,0)):=by
   simp[World.setCell,Array.getElem?_modify,d]
  rw[EN F]at x;rcases z k x with h|h
  .exact .inl (q.trans h)
  .exact .inr V1
def LW (w:World)(a:Addr)(n:Nat){k:Nat}(c:k≠a.block):(w.freeze a n).heap[k]?=w.heap[k]?:=by
 unfold World.freeze;split
 .rfl
 .simp only[Array.getElem?_modify];rw[zF (λe=>c e.symm)]
def RO (w:World)(a:Addr)(n:Nat):(w.freeze a n).heap.size=w.heap.size:=by
 unfold World.freeze;split
 .rfl
 .simp
def Sp {g:Nat}{w:World}(i:iK w b=O g)(d:g≠b)(n:Nat):Only b w (w.drew.freeze ⟨g,0,Y⟩ n):=by
 have h:(w.drew.freeze ⟨g,0,Y⟩ n).heap[b]?=w.heap[b]?:=LW w.drew ⟨g,0,Y⟩ n (λe=>d e.symm);refine⟨by rw[RO];exact aD _,λk _ a c=>LW w.drew ⟨g,0,Y⟩ n (λe=>c (by rw[i,e])),λk a=> .inl ?_⟩;unfold iK at a⊢;rw[h]at a;exact a
def Oz {w w':World}(h:w'.heap=w.heap):Only b w w':=
 ⟨by rw[h];exact aD _,λk _ _ _=>by rw[h],λk a=> .inl (by unfold iK at a⊢;rw[h]at a;exact a)⟩
def Uz {w:World}(d:b<w.heap.size)(o:Obj):Only b w (w.drew.alloc o):=by
 have c: ∀k,k<w.heap.size->(w.drew.alloc o).heap[k]?=w.heap[k]?:=λk a=>Lib.alloc_old w.drew o k a
 refine⟨by show w.heap.size<=(w.heap.push _).size;rw[Array.size_push];omega,λk a _ _=>c k a,λk a=> .inl ?_⟩;unfold iK at a⊢;rw[c b d]at a;exact a
set_option maxHeartbeats 1000000 in
set_option maxRecDepth 100000 in
def Ye (L:Lays.n169 P ρ)(X:Builder.Extra P ρ)(B b:Nat)(p:Value)(l:List UInt8)(w:World)(n:Lib.BuilderAtF (ρ.t 72) (ρ.t 5) B b p (Lib.byteCells l) w)(z:l≠[]):
  Calls P (ρ.f 169) #[.pointer (O ⟨b,0,Y⟩)] w λe w'=>e= .returned (.string ⟨l.toArray⟩)/\(Lib.BuilderAtF (ρ.t 72) (ρ.t 5) B b p (Lib.byteCells l) w'/\Below B w w'/\Only b w w'):=by
 have⟨F,v,d,c,m⟩:=n;have u:(dt l)≠0:=by simpa using z
 rw[Lib.byteCells_length]at c
 obtain⟨g,cap,a,k,rfl,o,N,M,Q,q,K,y⟩: ∃g cap a k,v= .slice (O ⟨g,0,Y⟩) (dt l) cap/\B<=g/\w.heap[g]?=O (.cells a (ρ.t 5) k)/\k.2<=dt l*1/\(dt l)<=cap/\cap<=maxLen/\a.size=cap*1/\a.toList.take (dt l*1)=Lib.byteCells l:=by
  rcases c.2 with⟨_,U⟩|⟨g,cap,a,k,S,r⟩
  .exact absurd U u
  .exact⟨g,cap,a,k,S,r⟩
 have D:w.drew.cell? ⟨b,1,Y⟩=O (.slice (O ⟨g,0,Y⟩) (dt l) cap):=by
  have:w.drew.heap[b]?=O (.cells #[p, .slice (O ⟨g,0,Y⟩) (dt l) cap] (ρ.t 72) (0,0)):=d;rw[Lib.cell_of_heap this];rfl
 have I:(aB #[(ρ.t 37)] (ρ.t 127) #[.slice (O ⟨g,0,Y⟩) (dt l) cap]).run P w.drew= .ok (.pointer (O ⟨g,0,Y⟩)) w.drew:=
  Lib.run_unsafeSliceData_row _ _ _ _ _ _ V1
 have J:(Builtin.unsafeString_ #[(ρ.t 127),(ρ.t 3)] (ρ.t 9) #[.pointer (O ⟨g,0,Y⟩), .int .i64 (dt l)]).run P w.drew= .ok (.string ⟨l.toArray⟩) (w.drew.freeze ⟨g,0,Y⟩ (dt l)):=by
  refine Lib.run_unsafeString_row w.drew (ρ.t 127) (ρ.t 3) (ρ.t 9) (ρ.t 5) L.t127 X.cellsByte g a.size (by have s:w.drew.heap[g]?=O (.cells a (ρ.t 5) k):=N;simp[World.shape?,s]) l z V1 (by unfold maxLen at q;omega) ?_;intro j x T;have:=c.cells (g:=g) rfl j (.int .u8 x.toNat) (by simp[Lib.byteCells,T]);exact this
 have h:Lib.BuilderAtF (ρ.t 72) (ρ.t 5) B b p (Lib.byteCells l) (w.drew.freeze ⟨g,0,Y⟩ (dt l)):=by
  have E:Lib.BuilderAtF (ρ.t 72) (ρ.t 5) B b p (Lib.byteCells l) w.drew:=⟨F,_,d,by rw[Lib.byteCells_length];exact c,m⟩;have A:=E.froze (g:=g) (cap:=cap) (by rw[Lib.byteCells_length];exact D);rw[Lib.byteCells_length]at A;exact A
 have i:Only b w (w.drew.freeze ⟨g,0,Y⟩ (dt l)):=Sp (EN d) (λe=>m (congrArg O e)) _;have mixed:=L.mixed;have t72:=L.t72;have a72:=L.a72;have z72:=L.z72;have v72:=L.v72;have Z:=run_underlying L.t72;have t70:=L.t70;have a70:=L.a70;have z70:=L.z70;have v70:=L.v70;have W:=run_underlying L.t70;have t37:=L.t37;have a37:=L.a37;have z37:=L.z37;have v37:=L.v37;have V:=run_underlying L.t37;have t127:=L.t127;have a127:=L.a127;have z127:=L.z127;have v127:=L.v127;have C:=run_underlying L.t127;have t3:=L.t3;have a3:=L.a3;have z3:=L.z3;have v3:=L.v3;have u3:=run_underlying L.t3;have t9:=L.t9;have a9:=L.a9;have z9:=L.z9;have v9:=L.v9;have u9:=run_underlying L.t9;have t5:=X.t5;have a5:=X.a5;have z5:=X.z5;have v5:=X.v5;have u5:=run_underlying X.t5
 go_enter L.f169,Body.n169_ntmps ρ
 go_wp2
 go_region_o
 all_goals (go_wp2;go_ret;exact⟨rfl,h,Lib.below_freeze (Below.drew (Below.refl B w)) (p:=⟨g,0,Y⟩) o _,i⟩)
set_option maxHeartbeats 2000000 in
set_option maxRecDepth 100000 in
def U3 (L:Lays.n169 P ρ)(X:Builder.Extra P ρ)(B b:Nat)(p:Value)(w:World)(a:w.heap[b]?=O (.cells #[p, .slice Y 0 0] (ρ.t 72) (0,0)))(d:Lib.BuilderAtF (ρ.t 72) (ρ.t 5) B b p [] w):
  Calls P (ρ.f 169) #[.pointer (O ⟨b,0,Y⟩)] w λe w'=>e= .returned (.string ⟨#[]⟩)/\(Lib.BuilderAtF (ρ.t 72) (ρ.t 5) B b p [] w'/\Below B w w'/\Only b w w'):=by
 have h:=Any.unsafeString_none L X
 have l:w.drew.cell? ⟨b,1,Y⟩=O (.slice Y 0 0):=by
  have:w.drew.heap[b]?=O (.cells #[p, .slice Y 0 0] (ρ.t 72) (0,0)):=a;rw[Lib.cell_of_heap this];rfl
 have g:(aB #[(ρ.t 37)] (ρ.t 127) #[.slice Y 0 0]).run P w.drew= .ok (.pointer Y) w.drew:=rfl;have mixed:=L.mixed;have t72:=L.t72;have a72:=L.a72;have z72:=L.z72;have v72:=L.v72;have k:=run_underlying L.t72;have t70:=L.t70;have a70:=L.a70;have z70:=L.z70;have v70:=L.v70;have j:=run_underlying L.t70;have t37:=L.t37;have a37:=L.a37;have z37:=L.z37;have v37:=L.v37;have i:=run_underlying L.t37;have t127:=L.t127;have a127:=L.a127;have z127:=L.z127;have v127:=L.v127;have c:=run_underlying L.t127;have t3:=L.t3;have a3:=L.a3;have z3:=L.z3;have v3:=L.v3;have m:=run_underlying L.t3;have t9:=L.t9;have a9:=L.a9;have z9:=L.z9;have v9:=L.v9;have o:=run_underlying L.t9;have t5:=X.t5;have a5:=X.a5;have z5:=X.z5;have v5:=X.v5;have n:=run_underlying X.t5
 go_enter L.f169,Body.n169_ntmps ρ
 go_wp2
 go_region_o
 all_goals (go_wp2;go_ret;exact⟨rfl,d.drew,Below.drew (Below.refl B w),Oz rfl⟩)
set_option maxHeartbeats 2000000 in
set_option maxRecDepth 100000 in
def NK (L:Lays.n169 P ρ)(X:Builder.Extra P ρ)(B b g:Nat)(p:Value)(a:Array Value)(w:World)(h:B<=w.heap.size)(c:w.heap[b]?=O (.cells #[p, .slice (O ⟨g,0,Y⟩) 0 0] (ρ.t 72) (0,0)))(fz:Nat×Nat)(q:w.heap[g]?=O (.cells a (ρ.t 5) fz))(m:Lib.BuilderAtF (ρ.t 72) (ρ.t 5) B b p [] w):
  Calls P (ρ.f 169) #[.pointer (O ⟨b,0,Y⟩)] w λe w'=>e= .returned (.string ⟨#[]⟩)/\(Lib.BuilderAtF (ρ.t 72) (ρ.t 5) B b p [] w'/\Below B w w'/\Only b w w'):=by
 have o:=Any.unsafeString_none L X
 have d:b<w.heap.size:=by
  rcases Nat.lt_or_ge b w.heap.size with h'|h'
  .exact h'
  .simp[Array.getElem?_eq_none h']at c
 have k:w.drew.cell? ⟨b,1,Y⟩=O (.slice (O ⟨g,0,Y⟩) 0 0):=by
  have:w.drew.heap[b]?=O (.cells #[p, .slice (O ⟨g,0,Y⟩) 0 0] (ρ.t 72) (0,0)):=c;rw[Lib.cell_of_heap this];rfl
 have n:(aB #[(ρ.t 37)] (ρ.t 127) #[.slice (O ⟨g,0,Y⟩) 0 0]).run P w.drew= .ok (.pointer (O ⟨w.drew.heap.size,0,Y⟩)) (w.drew.alloc (.view ⟨g,0,Y⟩ (ρ.t 5))):=
  Lib.run_unsafeSliceData_zero w.drew _ _ (ρ.t 5) L.t127 ⟨g,0,Y⟩ 0 ((ρ.t 5),a.size) (by have i:w.drew.heap[g]?=O (.cells a (ρ.t 5) fz):=q;simp[World.shape?,i])
 have l:(w.drew.alloc (.view ⟨g,0,Y⟩ (ρ.t 5))).cell? ⟨b,1,Y⟩=O (.slice (O ⟨g,0,Y⟩) 0 0):=by
  have:(w.drew.alloc (.view ⟨g,0,Y⟩ (ρ.t 5))).heap[b]?=_:=(Lib.alloc_old w.drew _ b d).trans c;rw[Lib.cell_of_heap this];rfl
 have y:(w.alloc (.view ⟨g,0,Y⟩ (ρ.t 5))).drew.cell? ⟨b,1,Y⟩=O (.slice (O ⟨g,0,Y⟩) 0 0):=l;have x:w.cell? ⟨b,1,Y⟩=O (.slice (O ⟨g,0,Y⟩) 0 0):=k;have mixed:=L.mixed;have t72:=L.t72;have a72:=L.a72;have z72:=L.z72;have v72:=L.v72;have u:=run_underlying L.t72;have t70:=L.t70;have a70:=L.a70;have z70:=L.z70;have v70:=L.v70;have s:=run_underlying L.t70;have t37:=L.t37;have a37:=L.a37;have z37:=L.z37;have v37:=L.v37;have r:=run_underlying L.t37;have t127:=L.t127;have a127:=L.a127;have z127:=L.z127;have v127:=L.v127;have j:=run_underlying L.t127;have t3:=L.t3;have a3:=L.a3;have z3:=L.z3;have v3:=L.v3;have z:=run_underlying L.t3;have t9:=L.t9;have a9:=L.a9;have z9:=L.z9;have v9:=L.v9;have C:=run_underlying L.t9;have t5:=X.t5;have a5:=X.a5;have z5:=X.z5;have v5:=X.v5;have A:=run_underlying X.t5
 go_enter L.f169,Body.n169_ntmps ρ
 go_wp2
 go_region_o
 all_goals (go_wp2;go_ret;exact⟨rfl,m.drew.alloc _,(Below.drew (Below.refl B w)).alloc h _,Uz d _⟩)
set_option maxHeartbeats 2000000 in
set_option maxRecDepth 100000 in
def S7 (L:Lays.n169 P ρ)(X:Builder.Extra P ρ)(B b g cap:Nat)(p:Value)(w:World)(a:cap≠0)(c:w.heap[b]?=O (.cells #[p, .slice (O ⟨g,0,Y⟩) 0 cap] (ρ.t 72) (0,0)))(h:Lib.BuilderAtF (ρ.t 72) (ρ.t 5) B b p [] w):
  Calls P (ρ.f 169) #[.pointer (O ⟨b,0,Y⟩)] w λe w'=>e= .returned (.string ⟨#[]⟩)/\(Lib.BuilderAtF (ρ.t 72) (ρ.t 5) B b p [] w'/\Below B w w'/\Only b w w'):=by
 have j:=Any.unsafeString_none L X
 have n:w.drew.cell? ⟨b,1,Y⟩=O (.slice (O ⟨g,0,Y⟩) 0 cap):=by
  have:w.drew.heap[b]?=O (.cells #[p, .slice (O ⟨g,0,Y⟩) 0 cap] (ρ.t 72) (0,0)):=c;rw[Lib.cell_of_heap this];rfl
 have i:(aB #[(ρ.t 37)] (ρ.t 127) #[.slice (O ⟨g,0,Y⟩) 0 cap]).run P w.drew= .ok (.pointer (O ⟨g,0,Y⟩)) w.drew:=
  Lib.run_unsafeSliceData_row _ _ _ _ _ _ a
 clear a;have mixed:=L.mixed;have t72:=L.t72;have a72:=L.a72;have z72:=L.z72;have v72:=L.v72;have m:=run_underlying L.t72;have t70:=L.t70;have a70:=L.a70;have z70:=L.z70;have v70:=L.v70;have l:=run_underlying L.t70;have t37:=L.t37;have a37:=L.a37;have z37:=L.z37;have v37:=L.v37;have k:=run_underlying L.t37;have t127:=L.t127;have a127:=L.a127;have z127:=L.z127;have v127:=L.v127;have d:=run_underlying L.t127;have t3:=L.t3;have a3:=L.a3;have z3:=L.z3;have v3:=L.v3;have o:=run_underlying L.t3;have t9:=L.t9;have a9:=L.a9;have z9:=L.z9;have v9:=L.v9;have r:=run_underlying L.t9;have t5:=X.t5;have a5:=X.a5;have z5:=X.z5;have v5:=X.v5;have q:=run_underlying X.t5
 go_enter L.f169,Body.n169_ntmps ρ
 go_wp2
 go_region_o
 all_goals (go_wp2;go_ret;exact⟨rfl,h.drew,Below.drew (Below.refl B w),Oz rfl⟩)
def am2 (L:Lays.n169 P ρ)(X:Builder.Extra P ρ)(B b:Nat)(p:Value)(l:List UInt8)(w:World)(k:Lib.BuilderAtF (ρ.t 72) (ρ.t 5) B b p (Lib.byteCells l) w)(m:B<=w.heap.size):
  Calls P (ρ.f 169) #[.pointer (O ⟨b,0,Y⟩)] w λe w'=>e= .returned (.string ⟨l.toArray⟩)/\(Lib.BuilderAtF (ρ.t 72) (ρ.t 5) B b p (Lib.byteCells l) w'/\Below B w w'/\Only b w w'):=by
 by_cases n:l=[]
 .subst n;have a:Lib.BuilderAtF (ρ.t 72) (ρ.t 5) B b p [] w:=k;have⟨u,v,c,i,s⟩:=k;rcases i.2 with⟨rfl,_⟩|⟨g,d,j,o,rfl,q,r,_,_,_,_,_⟩
  .exact U3 L X B b p w c a
  .by_cases h:d=0
   .subst h;exact NK L X B b g p j w m c o r a
   .exact S7 L X B b g d p w h c a
 .exact Ye L X B b p l w k n
end
section
open Builtin renaming unsafeSliceData_ -> aB
open List renaming append_assoc -> bD, length_append -> cB, size_toArray -> cD
open Nat renaming le_refl -> aD, le_trans -> bB, lt_of_lt_of_le -> cK
open Go.RowKit
def R.setB {P:Program}{B:Base P}{μ:Mu}{Z:Hp}{w w':World}(h:R B μ Z w){x:Blk}{g:G}(N:Z.m b=O x)(ho:x.own=Za)(J:μ b=O g)(z:g.it=O .nilFunc){p':Value}(hp:p'= .pointer Y∨p'= .pointer (O ⟨g.c,0,Y⟩)){s:ByteArray}
  (hA:Lib.BuilderAtF g.ty P.rt.byte B.n g.c p' (Lib.strCells s) w') (hB:Below B.n w w') (T:Only g.c w w') (rest:List Value) (hr:rest=[]):R B μ (Z.set b (O ⟨.string s::rest,Za,x.es⟩)) w':=by
 subst hr;have hl:=h.get N J;have⟨hty,p0,s0,hp0,hcells,hA0⟩:=hl.bld z
 have old: ∀d i,d≠b->(Z.set b (O ⟨[.string s],Za,x.es⟩)).m d=O i->Z.m d=O i:=by
  intro d i t a;simpa[Hp.set,t]using a
 have new: ∀i,(Z.set b (O ⟨[.string s],Za,x.es⟩)).m b=O i->i=⟨[.string s],Za,x.es⟩:=by
  intro i a;simp[Hp.set]at a;exact a.symm
 have A: ∀d i,(Z.set b (O ⟨[.string s],Za,x.es⟩)).m d=O i->∃y,Z.m d=O y/\y.own=i.own:=by
  intro d i a;by_cases t:d=b
  .subst t;obtain rfl:=new i a;exact⟨x,N,ho⟩
  .exact⟨i,old d i t a,rfl⟩
 have cne: ∀d i l,d≠b->Z.m d=O i->μ d=O l->l.c≠g.c:=λd i l t a u e=>h.inj b d x i g l N a (λe=>t e.symm) ho J u e.symm
 have L: ∀d i l,d≠b->Z.m d=O i->μ d=O l->w'.heap[l.c]?=w.heap[l.c]?:=λd i l t a u=>
  T.oth _ (h.get a u).lt (cne d i l t a u) (λD=>(h.sep b x g N J z _ D d i l a u).1 rfl)
 have o: ∀d i l,d≠b->Z.m d=O i->μ d=O l->iK w' l.c=iK w l.c:=λd i l t a u=>by
  unfold iK;rw[L d i l t a u]
 refine⟨bB h.base hB.size,λk D=>(hB.block k D).trans (h.old k D),h.fresh,λd i a=> ?_,λS K x1 x2 g1 M h1 h2 q W p j=> ?_,λS x1 g1 h1 p U k D K x2 M h2 j=> ?_⟩
 .by_cases t:d=b
  .subst t;obtain rfl:=new i a;exact⟨g,J,⟨cK hl.lt T.size,hl.es,λV=>(by rw[z]at V;cases V),λV=>(by rw[z]at V;cases V),λs' hs=>(by rw[z]at hs;injection hs with hs;cases hs),λ_=>⟨hty,p',s,hp,rfl,hA⟩⟩⟩
  .have F:=old d i t a;have⟨l,X,k2⟩:=h.live d i F;refine⟨l,X,k2.kept T.size (L d i l t F X) (λU k D=>T.oth k (h.buf F X U D).2.1 (λe=> ?_) (λe=> ?_))⟩
   .exact(h.sep d i l F X U k D b x g N J).1 e.symm
   .exact(h.sep d i l F X U k D b x g N J).2 (λe=>t e.symm) z e
 .obtain⟨y1,I,e1⟩:=A _ _ h1;have⟨Q,r,_⟩:=A _ _ h2;exact h.inj S K y1 Q g1 M I r q (e1.trans W) p j
 .obtain⟨y1,I,_⟩:=A _ _ h1;have⟨Q,r,_⟩:=A _ _ h2;by_cases e1:S=b
  .subst e1;rw[J]at p;cases p;rcases T.buf k D with hk0|hk0
   .obtain⟨m1,m2⟩:=h.sep S x g N J z k hk0 K Q M r j;exact⟨m1,λq C=>by rw[o K Q M q r j];exact m2 q C⟩
   .refine⟨λe=>by have:=(h.get r j).lt;omega,λq C E=> ?_⟩;rw[o K Q M q r j]at E;have:=(h.buf r j C E).2.1;omega
  .rw[o S y1 g1 e1 I p]at D;have⟨m1,m2⟩:=h.sep S y1 g1 I p U k D K Q M r j;refine⟨m1,λq C E=> ?_⟩;by_cases e2:K=b
   .subst e2;rw[J]at j;cases j;rcases T.buf k E with hk0|hk0
    .exact m2 q C hk0
    .have:=(h.buf I p U D).2.1;omega
   .rw[o K Q M e2 r j]at E;exact m2 q C E
def QK (s:ByteArray):dt (Lib.strCells s)=s.size:=Lib.strCells_length s
def QJ (a b:ByteArray):Lib.strCells a++Lib.strCells b=Lib.strCells (a++b):=by
 rw[Lib.strCells_eq,Lib.strCells_eq,Lib.strCells_eq,<-Lib.byteCells_append]
 congr 1
structure Blds (P:Program)(fw fs:FuncId):Prop where
 cw:w9 P fw
 cs:w9 P fs
 write: ∀(T:TypeId),HL P T=Za->∀(B b:Nat) (p:Value),(p= .pointer Y∨p= .pointer (O ⟨b,0,Y⟩))->∀(bs:List Value) (s:ByteArray) (w:World),Lib.BuilderAtF T P.rt.byte B b p bs w->dt bs+s.size<=140737488355328->B<=w.heap.size->
  Calls P fw #[.pointer (O ⟨b,0,Y⟩), .string s] w λe w'=>e= .returned (.tuple #[.int .i64 s.size, .nilIface])/\(Lib.BuilderAtF T P.rt.byte B b (.pointer (O ⟨b,0,Y⟩)) (bs++Lib.strCells s) w'/\Below B w w'/\Only b w w')
 str: ∀(T:TypeId),HL P T=Za->∀(B b:Nat) (p:Value) (l:List UInt8) (w:World),Lib.BuilderAtF T P.rt.byte B b p (Lib.byteCells l) w->B<=w.heap.size->
  Calls P fs #[.pointer (O ⟨b,0,Y⟩)] w λe w'=>e= .returned (.string ⟨l.toArray⟩)/\(Lib.BuilderAtF T P.rt.byte B b p (Lib.byteCells l) w'/\Below B w w'/\Only b w w')
end
end Go.Ab
namespace Go.V
open Go.Ab Go.RowKit
open Option renaming some->O,none->Y
open Bool renaming true->Za,false->Zb
open Decidable renaming decide->Zc
open List renaming length->dt
section
open Builtin renaming unsafeSliceData_ -> aB
open List renaming append_assoc -> bD, length_append -> cB, size_toArray -> cD
open Nat renaming le_refl -> aD, le_trans -> bB, lt_of_lt_of_le -> cK
def Jx (a b:Nat):Bool:=Nat.ble (a+b) 140737488355328
def Y5 {β:Type}(args:List VV)(S:ai)(k:VV->ai->Option β):Option β:=match args with
 |[.bld q, .str s]=>(match ae S q with
  | .cells 1 Zb [.str l]=>gd (Jx (dt l) (dt s)) (k (.tup [.int .i64 (dt s), .undef]) (mx S q (.cells 1 Zb [.str (l++s)])))
  |_=>Y)
 |_=>Y
def Y4 {β:Type}(args:List VV)(S:ai)(k:VV->ai->Option β):Option β:=match args with
 |[.bld q]=>(match ae S q with
  | .cells 1 Zb [.str l]=>k (.str l) S
  |_=>Y)
 |_=>Y
def aL4 (f:FuncId):Inl:=⟨f,λ_ a S k=>Y5 a S k⟩
def aL3 (f:FuncId):Inl:=⟨f,λ_ a S k=>Y4 a S k⟩
def VRel.bld_inv {c:Ctx}{q:Nat}{a:Value}(h:VRel c (.bld q) a): ∀d,(ae c.S q).dim=O d->∃b,c.μ q=O b/\a= .iface b .nilFunc:=by
 cases h with
 |bld _ _ e=>exact e
def an4 {μ:Mu}{b:Nat}{a:Value}(h:VR μ (.iface b .nilFunc) a): ∃g,μ b=O g/\g.it=O .nilFunc/\a= .pointer (O ⟨g.c,0,Y⟩):=by
 cases h with
 |iter d e=>exact⟨_,d,e,rfl⟩
def Lt {P:Program}{fw fs:FuncId}(hP:Blds P fw fs):La P (aL4 fw):=by
 intro B μ Z w args j K hs t ha;have⟨β,y,c,vals,k,h1,I,hf,h,hK⟩:=hs;subst h1;replace h:Y5 vals c.S k=O y:=h;unfold Y5 at h;split at h
 .rename_i q s;split at h
  .rename_i l J;obtain⟨Q,h⟩:=au h;have hlen:=Nat.le_of_ble_eq_true Q;cases hf with
   |cons f1 L=>
   cases L with
   |cons L f3=>
   cases f3;have i:(ae c.S q).dim=O (1,1):=by rw[J];rfl
   obtain⟨b,hm,rfl⟩:=f1.bld_inv _ i;obtain⟨o,rfl,x⟩:=L.str_inv;have⟨y0,cs,m,q2,q3,q4,q5,q6⟩:=I.block (k:=q) (d:=(1,1)) i hm;rw[J]at q4 q6;simp only[Blk.vals]at q6;cases q6 with
   |cons r1 r2=>
   cases r2;obtain⟨F,rfl,E⟩:=r1.str_inv;generalize T:j.toList=cl at ha;cases ha with
   |cons k1 k2=>
   cases k2 with
   |cons k2 k3=>
   cases k3;cases k2;obtain⟨g,hg,D,rfl⟩:=an4 k1;have hc:j= #[.pointer (O ⟨g.c,0,Y⟩), .string o]:=Array.toList_inj.1 T;subst hc;have V:=t.get q2 hg;have⟨W,p,s0,hp,a,hA⟩:=V.bld D;rw[q5]at a
   have u:m=[]/\F=s0:=by
    cases m with
    |nil=>simp at a;exact⟨rfl,a⟩
    |cons z r=>simp at a
   obtain⟨rfl,rfl⟩:=u
   have U:dt (Lib.strCells F)+o.size<=140737488355328:=by
    rw[QK,<-GL,<-GL,E,x];omega
   have ho:=q4 rfl;refine⟨hP.cw,(hP.write g.ty W B.n g.c p hp _ o w hA U t.base).mono ?_⟩;rintro e w' ⟨rfl,A,C,M⟩;rw[QJ]at A;have N:=t.setB q2 ho hg D (.inr rfl) A C M [] rfl
   have X:Writes c q b (.cells 1 Zb [.str (l++s)]) ⟨[.string (F++o)],Za,y0.es⟩:=
    ⟨by rw[J];rfl,hm,by rw[J];rfl,rfl,y0,[.string (F++o)],[],(1,1),q2,i,q3,rfl,by rw[q5];rfl,rfl, .cons (.str (by rw[<-E,<-x];exact LA F o)) .nil⟩
   refine⟨.tuple #[.int .i64 o.size, .nilIface],_, .tuple #[.int .i64 o.size, .nilIface],μ,rfl,hK _ _ ⟨.tup [.int .i64 (dt s), .undef],_,rfl,X.le I,X.rel I,X.calm I (CV (mw (by rw[i];simp))), .tup (.cons ?_ (.cons (.undef _) .nil)),h⟩,μ.le_refl,N, .tuple (.cons (.int _ _) (.cons .nili .nil)),C,rfl⟩;rw[<-x,GL];exact .int _ _
  .cases h
 .cases h
def Ls {P:Program}{fw fs:FuncId}(hP:Blds P fw fs):La P (aL3 fs):=by
 intro B μ Z w args j K hs o ha;have⟨β,y,c,vals,k,h1,L,hf,h,hK⟩:=hs;subst h1;replace h:Y4 vals c.S k=O y:=h;unfold Y4 at h;split at h
 .rename_i q;split at h
  .rename_i l C;cases hf with
   |cons f1 f3=>
   cases f3;have i:(ae c.S q).dim=O (1,1):=by rw[C];rfl
   obtain⟨b,hm,rfl⟩:=f1.bld_inv _ i;have⟨y0,cs,m,q2,q3,q4,q5,q6⟩:=L.block (k:=q) (d:=(1,1)) i hm;rw[C]at q4 q6;simp only[Blk.vals]at q6;cases q6 with
   |cons r1 r2=>
   cases r2;obtain⟨x,rfl,F⟩:=r1.str_inv;generalize U:j.toList=cl at ha;cases ha with
   |cons k1 k3=>
   cases k3;obtain⟨g,hg,E,rfl⟩:=an4 k1;have hc:j= #[.pointer (O ⟨g.c,0,Y⟩)]:=Array.toList_inj.1 U;subst hc;have V:=o.get q2 hg;have⟨W,p,s0,hp,a,hA⟩:=V.bld E;rw[q5]at a
   have t:m=[]/\x=s0:=by
    cases m with
    |nil=>simp at a;exact⟨rfl,a⟩
    |cons z r=>simp at a
   obtain⟨rfl,rfl⟩:=t;have ho:=q4 rfl;have N:Lib.BuilderAtF g.ty P.rt.byte B.n g.c p (Lib.byteCells x.data.toList) w:=hA;refine⟨hP.cs,(hP.str g.ty W B.n g.c p _ w N o.base).mono ?_⟩;rintro e w' ⟨rfl,M,A,Q⟩;have T:=o.setB (s:=x) q2 ho hg E hp M A Q [] rfl
   have X:Writes c q b (.cells 1 Zb [.str l]) ⟨[.string x],Za,y0.es⟩:=
    ⟨by rw[C];rfl,hm,by rw[C],rfl,y0,[.string x],[],(1,1),q2,i,q3,rfl,by rw[q5];rfl,rfl, .cons (.str F) .nil⟩
   have u:mx c.S q (.cells 1 Zb [.str l])=c.S:=by
    rw[<-C];exact OF
   have I:=X.le L;have J:=X.rel L;have D:=X.calm L (d:=Iy (dt c.S)) (CV (mw (by rw[i];simp)));rw[u]at I J D;refine⟨.string x,_, .string x,μ, ?_,hK _ _ ⟨.str l,_,rfl,I,J,D, .str F,h⟩,μ.le_refl,T, .string _,A,rfl⟩;simp
  .cases h
 .cases h
def ad3 (n:Int):Zd:=u8I (Lib.itoa n)
def Oi (n:Int):Option (Zd):=gd (Zc (-9223372036854775808<=n)&&Zc (n<=9223372036854775807)) (O (ad3 n))
end
end Go.V
