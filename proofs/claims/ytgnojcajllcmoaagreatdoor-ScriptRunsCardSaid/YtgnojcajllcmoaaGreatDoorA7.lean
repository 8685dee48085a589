/- A part of the proof. No condition. -/
import Derived.Test.YtgnojcajllcmoaaGreatDoorA6
import Derived.ProofKit
import Derived.OpenShut
import Derived.ChangeArms
import Derived.Below
import Derived.Lib.Join
import Derived.Lib.Repeat
import Derived.Lib.ItoaNum
import Derived.Shelf.Strings.Builder1
import Derived.Lib.FrozenHead
set_option linter.all false
namespace Go.V
open Go.Ab
open Option renaming some->O,none->Y
open Bool renaming true->Za,false->Zb
open Decidable renaming decide->Zc
open List renaming mem_append->cI
open List renaming length->ft
open Option renaming bind->gn
variable {w:World}{rows:List Row}{v:Value}{f:FuncId}
section
open List renaming append_nil->aD,append_assoc->bB,length_append->cB,getElem?_eq_getElem->cK,length_cons->cL,length_take->cM
open Nat renaming beq->aB,eq_of_beq_eq_true->bD,zero_add->cD
open Option renaming map_some->cN
def jC (w:World):(s:Sh)->List Value->El s->Prop
 | .int k,c,n=>c=[.int k n]/\(Lit.int k n).wf=Za
 | .bool,c,b=>c=[.bool b]
 | .str,c,l=> ∃s:ByteArray,c=[.string s]/\fc s=l/\s.size<=maxLen
 | .list s,c,l=>(c=[.slice Y 0 0]/\l=[])∨∃(a:Addr) (e d:Nat) (g:List<|El s),c=[.slice (O a) e d]/\e<=d/\d<=maxLen/\ft g=d/\l=g.take e/\
   ∀i y,g[i]?=O y->∃o,(∀j z,o[j]?=O z->w.cell? (a.add<|i*s.w+j)=O z)/\jC w s o y
 | .pair a b,c,x=> ∃h m,c=h++m/\jC w a h x.1/\jC w b m x.2
def jC.len : ∀{s:Sh} {cs:List Value} {x:El s},jC w s cs x->ft cs=s.w
 | .int k,_,_,⟨h,_⟩=>by subst h;rfl
 | .bool,_,_,h=>by
  have h:_=[Value.bool _]:=h;subst h;rfl
 | .str,_,_,⟨s,h,_⟩=>by subst h;rfl
 | .list s,_,_,h=>by
  rcases h with⟨h,_⟩|⟨a,len,c,j,h,_⟩<;>subst h<;>rfl
 | .pair a b,_,_,⟨g,i,h,d,e⟩=>by
  subst h;rw[cB,d.len,e.len];rfl
def Bb (w:World)(rows:List Row):Prop:= ∀r∈rows,∀(i:Nat) (v:Value),r.cells[i]?=O v->∃a,w.cell? ⟨r.c,r.o+i,Y⟩=O a/\VR (oF rows) v a
theorem Ub (rows a:List Row):(oF rows).le<|oF<|rows++a:=by
 intro b g h;simp only[oF]at h⊢
 grind
theorem af0 (c:Nat)(rows a:List Row):Le (yQ<|rP c rows)<|yQ<|rP c<|rows++a:=by
 have e: ∀k,ag ([]:ak) k= .dead:=λk=>by cases k<;>rfl
 refine⟨Nat.le_refl _,λk d h=>(Nat.not_lt_zero _ h).elim,λk _ h=> ?_,λk d b y h=>(Nat.not_lt_zero _ h).elim,λb y h _=> ?_,λb y _ _ h=>(O8 b<|.inl h).elim, ?_,rfl⟩
 .rfl
 .simp only[yQ,rP]at h⊢
  grind
 show ft rows<=ft (rows++a);rw[cB];omega
def at7 {μ a:Mu}(h:μ.le a){l m:List Value}(c:F2 (VR μ) l m):F2 (VR a) l m:=c.imp λ_ _ d=>d.mono h
def Bb.app {a:List Row}(h:Bb w rows)(j: ∀r∈a,∀(i:Nat) (v:Value),r.cells[i]?=O v->∃v',w.cell? ⟨r.c,r.o+i,Y⟩=O v'/\VR (oF<|rows++a) v v'):Bb w<|rows++a:=by
 intro r hr i v d;rcases cI.1 hr with hr|hr
 .obtain⟨v',e,g⟩:=h r hr i v d;exact⟨v',e,g.mono<|Ub _ _⟩
 exact j r hr i v d
theorem aN3 (a:Addr)(i j:Nat):(a.add i).add j=a.add (i+j):=by
 unfold Addr.add
 grind
structure Built (w:World)(rows more:List Row)(acs cs:List Value)(vs:List VV):Prop where
 ok:Bb w (rows++more)
 vr:F2 (VR<|oF<|rows++more) acs cs
 vv:F2 (VRel<|yQ<|rP w.heap.size<|rows++more) vs acs
def Built.app {c e:List Row}{a1 a2 c1 c2:List Value}{g h:List VV}(d:Built w rows c a1 c1 g)(a:Built w (rows++c) e a2 c2 h):Built w rows (c++e) (a1++a2) (c1++c2)<|g++h:=by
 refine⟨?_, ?_, ?_⟩
 .rw[<-bB];exact a.ok
 .rw[<-bB];exact(at7 (Ub _ _) d.vr).append a.vr
 rw[<-bB];exact(VRel.frames (af0 _ _ _) d.vv).append a.vv
def Built.nil (h:Bb w rows):Built w rows [] [] [] []:=⟨by rw[aD];exact h, .nil, .nil⟩
theorem aw8 {w:World}{s:Sh}(r: ∀{cs:List Value} {x:El s},jC w s cs x->∀{rows:List Row},Bb w rows->∃c d,Built w rows c d cs<|ey s x)(a:Addr): ∀(g:List<|El s) (k:Nat),
  (∀i y,g[i]?=O y->∃l,(∀j z,l[j]?=O z->w.cell? (a.add<|(k+i)*s.w+j)=O z)/\jC w s l y)->∀{rows:List Row},Bb w rows->
  ∃c d e,Built w rows c d e (fZ s g)/\ft e=ft g*s.w/\∀i z,e[i]?=O z->w.cell? (a.add<|k*s.w+i)=O z
 |[],k,_,rows,h=>⟨[],[],[], .nil h,V2,λi z q=>by simp at q⟩
 |y::g,k,p,rows,h=>by
  have⟨l,J,m⟩:=p 0 y rfl;have⟨D,t,o⟩:=r m h
  have⟨E,u,A,B,C,K⟩:=aw8 r a g (k+1) (λi F n=>by
   have⟨I,L,M⟩:=p (i+1) F (by simpa using n)
   grind) o.ok
  refine⟨D++E,t++u,l++A, ?_, ?_,λi z q=> ?_⟩
  .have:=o.app B;rw[gK];exact this
  .rw[cB,C,m.len,cL,Nat.succ_mul];omega
  .have N:=m.len
   grind
theorem build {w:World}: ∀(s:Sh) {cs:List Value} {x:El s},jC w s cs x->∀{rows:List Row},Bb w rows->∃N S,Built w rows N S cs (ey s x)
 | .int k,_,n,⟨h,_⟩,rows,u=>by
  subst h;exact⟨[],_,by rw[aD];exact u, .cons (.int _ _) .nil, .cons (.int _ _) .nil⟩
 | .bool,_,b,h,rows,u=>by
  have h:_=[Value.bool _]:=h;subst h;exact⟨[],_,by rw[aD];exact u, .cons (.bool _) .nil, .cons (.bool _) .nil⟩
 | .str,_,l,⟨s,h,A,_⟩,rows,u=>by
  subst h;exact⟨[],_,by rw[aD];exact u, .cons (.string _) .nil, .cons (.str A) .nil⟩
 | .pair a b,_,x,⟨c1,c2,h,F,A⟩,rows,u=>by
  subst h;obtain⟨p,B,I⟩:=build a F u;obtain⟨m2,a2,h4⟩:=build b A I.ok;exact⟨p++m2,B++a2,I.app h4⟩
 | .list s,_,l,h,rows,u=>by
  rcases h with⟨h,A⟩|⟨a,d,c,Q,h,D,hcm,X,U,hy⟩
  .subst h;subst A;exact⟨[],_,by rw[aD];exact u, .cons .nils .nil, .cons (.lstn λz M=>by cases M) .nil⟩
  .subst h;obtain⟨p,B,c1,F,A,I⟩:=aw8 (λt=>build s t) a Q 0 (λi y h=>by rw[cD];exact hy i y h) u;have hw:=nA s;rw[X]at A;have T:B.length=c*s.w:=by rw[F.vr.length,A]
   let g:Row:=⟨a.block,a.off,c*s.w,s.w,B⟩
   have j:0<c->a.spot=Y/\a.block<w.heap.size:=by
    intro t;have E:0<c1.length:=by rw[A];exact Nat.mul_pos t hw
    have:=I 0 _<|cK E;rw[Nat.zero_mul,Nat.add_zero]at this;have q:=aq8 this;exact⟨q,aO2 (x:=⟨a.block,a.off+0,Y⟩)<|Oy q this⟩
   have C: ∀(rs:List Row),(rows++(p++[g])++rs)[(rows++p).length]?=O g:=by
    grind
   have L:(oF<|rows++(p++[g])).at (rows++p).length ⟨a.block,a.off,c*s.w,s.w,0,Y⟩:=by
    have:=C [];rw[aD]at this;refine⟨?_,rfl⟩;simp only[oF,this];rfl
   have V:Bb w<|rows++(p++[g]):=by
    rw[<-bB];refine F.ok.app λr W i v hv=> ?_
    have:r=g:=by simpa using W
    subst this;obtain⟨v',q1,q2⟩:=F.vr.get i v hv;have t:=I i v' q1;rw[Nat.zero_mul,cD]at t
    have J:0<c:=by
     grind
    exact⟨v',Oy (j J).1 t,q2.mono<|Ub _ _⟩
   refine⟨p++[g],[.slice (O ⟨(rows++p).length,0,Y⟩) d c],V, ?_, ?_⟩
   .refine .cons ?_ .nil;by_cases t:c=0
    .have:d=0:=by omega
     subst t;subst this;exact .slice0 _ L
    .have q:=(j V1).1;obtain⟨b,o,sp⟩:=a;simp only at q;subst q;exact .slice (o:=0) L D (Nat.le_refl _) V2
   .refine .cons ?_ .nil;by_cases t:c=0
    .have e:d=0:=by omega
     subst t;subst e;rw[U,List.take_zero];exact .lstn λz M=>by injection M with M;rw[<-M]
    .have E:=(j V1).2
     have hm:(yQ<|rP w.heap.size<|rows++(p++[g])).Z.m (rows++p).length=O ⟨B,Zb,s.w⟩:=by
      have:=C [];rw[aD]at this;simp only[yQ,rP,this,zG];exact zE E
     have K:l.length=d:=by rw[U,cM];omega
     refine .lst (O8 _) hm rfl K.symm D ?_ ?_
     .show 0+d*s.w<=B.length;rw[T,cD];exact Nat.mul_le_mul_right _ D
     .show F2 _ _ ((B.drop 0).take<|d*s.w);rw[List.drop_zero,U]
      have h5:F2 (VRel<|yQ<|rP w.heap.size<|rows++(p++[g])) (fZ s Q) B:=by
       rw[<-bB];exact VRel.frames (af0 _ _ _) F.vv
      have h6:fZ s (Q.take d)=(fZ s Q).take (d*s.w):=kR;rw[h6];exact h5.take _
def EJ :List Sh->Sh
 |[]=> .bool
 |[a]=>a
 |a::b::r=> .pair a<|EJ<|b::r
def VQ {w:World}: ∀{l1 c:List Sh} {c1 c2:List Value},l1≠[]->c≠[]->(∃x,jC w (EJ l1) c1 x)->(∃x,jC w (EJ c) c2 x)->∃x,jC w (EJ<|l1++c) (c1++c2) x
 |[a],b::r,c1,c2,_,_,⟨x,d⟩,⟨y,e⟩=>⟨(x,y),c1,c2,rfl,d,e⟩
 |a::b::r,c,c1,c2,_,l,⟨x,g,h,i,d,e⟩,j=>by
  subst i;have⟨z,k⟩:=VQ (l1:=b::r) V2 l ⟨x.2,e⟩ j;exact⟨(x.1,z),g,h++c2,by rw[bB],d,k⟩
def JU {α:Type}(P:Program)(r:TypeId->Option (List Sh))(d:α->TypeId)(a:α->Nat):List α->Nat->Option (List Sh)
 |[],_=>O []
 |f::l,o=>cond (aB (a f) o) (match r (d f)with
  |some (s::c)=>cond (aB (ft<|s::c)<|P.cellsOf<|d f) ((JU P r d a l<|o+ft (s::c)).map ((s::c)++ ·)) Y
  |_=>Y) Y
def wu (P:Program):Nat->TypeId->Option (List Sh)
 |0,_=>Y
 |n+1,t=>match P.underlying t with
  |some (.int k)=>O [.int k]
  |some .bool=>O [.bool]
  |some .string=>O [.str]
  |some (.slice e)=>(match wu P n e with
   |some (s::a)=>cond (aB (ft<|s::a)<|P.cellsOf e) (O [.list<|EJ<|s::a]) Y
   |_=>Y)
  |some (.struct c)=>(match JU P (wu P n) Field.type Field.offset c.toList 0 with
   |some L=>cond (aB (ft L)<|P.cellsOf t) (O L) Y
   |none=>Y)
  |some (.array m e)=>(match JU P (wu P n) (λ_=>e) (λi=>i*P.cellsOf e) (List.range m) 0 with
   |some L=>cond (aB (ft L)<|P.cellsOf t) (O L) Y
   |none=>Y)
  |_=>Y
section
variable {H:Type} {enc:TypeId×Value->H} {P:Program} {w:World} {base:Nat} {held:Bool}
theorem GN {α:Type}{n m:Nat}{c:α->TypeId}{a:α->Nat}(z: ∀{t:TypeId} {l:List Sh} {cs:List Value} {x:DataW H×List MemPlace},wu P n t=O l->l≠[]->DataW.trod enc P w base (λ_=>Za) held m t cs=O x->∃y,jC w (EJ l) cs y){cs:List Value}:
  ∀(d:List α) (o:Nat) (L:List Sh),JU P (wu P n) c a d o=O L->L≠[]->(∀(i:Nat) (f:α),d[i]?=O f->∃x,DataW.trod enc P w base (λ_=>Za) held m (c f) ((cs.drop<|a f).take<|P.cellsOf<|c f)=O x)->
   ∃y,jC w (EJ L) ((cs.drop o).take<|ft L) y
 |[],o,L,h,j,_=>by
  injection h with h
  exact(j h.symm).elim
 |f::d,o,L,h,j,r=>by
  have⟨y,u⟩:=r 0 f rfl;simp only[JU]at h;cases k:aB (a f) o with
  |false=>rw[k]at h;cases h
  |true=>
   have k:=bD k;subst k;rw[Nat.beq_refl,zC]at h;cases q:wu P n (c f)with
   |none=>rw[q]at h;cases h
   |some l=>
    rw[q]at h;cases l with
    |nil=>cases h
    |cons s A=>
     simp only at h;cases e:aB (ft<|s::A) (P.cellsOf<|c f)with
     |false=>rw[e]at h;cases h
     |true=>
      rw[e,zC]at h;have e:=bD e;rw[<-e]at u;have B:=z q V2 u;cases p:JU P (wu P n) c a d (a f+ft (s::A))with
      |none=>rw[p]at h;cases h
      |some L2=>
       rw[p,cN]at h;cases h;rw[cB,List.take_add,List.drop_drop];cases L2 with
       |nil=>
        grind
       |cons E D=>exact VQ V2 V2 B<|GN z d _ _ p V2 λi g C=>r (i+1) g (by simpa using C)
theorem RJ {β:Type}{p:Nat->β->Prop}: ∀(n:Nat),(∀i,i<n->∃y,p i y)->∃a:List β,ft a=n/\∀i y,a[i]?=O y->p i y
 |0,_=>⟨[],rfl,λi y h=>by simp at h⟩
 |n+1,h=>by
  have⟨a,c,d⟩:=RJ n λi g=>h i V1
  have⟨y,e⟩:=h n V1;refine⟨a++[y],by simp[c],λi z j=> ?_⟩
  grind
theorem aj9 {a:Addr}{c:Nat}{d:List Value}(h:w.cells? base a c=O d):ft d=c/\∀j z,d[j]?=O z->w.cell? (a.add j)=O z:=by
 unfold World.cells? at h;split at h
 .have e:=mapM_some_length h;rw[List.length_range]at e;refine⟨e,λj z i=> ?_⟩
  have g:j<c:=by
   grind
  have:=mapM_some_get h j j (by simp[g]);rw[this,i]
 cases h
def aD2 : ∀(l:List Sh),l≠[]->(∀s∈l,s.w=1)->(EJ l).w=ft l
 |[a],_,h=>h a V2
 |a::b::r,_,h=>by
  show a.w+(EJ<|b::r).w=_;rw[h a V2,aD2 (b::r) V2 λs c=>h s<|List.mem_cons_of_mem _ c];simp only[cL];omega
def Tt {α:Type}{n:Nat}{d:α->TypeId}{a:α->Nat}(k: ∀{t:TypeId} {l:List Sh},wu P n t=O l->∀s∈l,s.w=1): ∀(c:List α) (o:Nat) (L:List Sh),JU P (wu P n) d a c o=O L->∀s∈L,s.w=1
 |[],o,L,h=>by
  cases h;intro s p;cases p
 |f::c,o,L,h=>by
  simp only[JU]at h;cases i:aB (a f) o with
  |false=>rw[i]at h;cases h
  |true=>
   rw[i,zC]at h;cases g:wu P n (d f)with
   |none=>rw[g]at h;cases h
   |some l=>
    rw[g]at h;cases l with
    |nil=>cases h
    |cons s m=>
     simp only at h;cases j:aB (ft<|s::m) (P.cellsOf<|d f)with
     |false=>rw[j]at h;cases h
     |true=>
      rw[j,zC]at h;cases e:JU P (wu P n) d a c (o+ft (s::m))with
      |none=>rw[e]at h;cases h
      |some L2=>
       rw[e,cN]at h;cases h;intro q hq;rcases cI.1 hq with hq|hq
       .exact k g q hq
       .exact Tt k c _ _ e q hq
theorem Tv : ∀(n:Nat) {t:TypeId} {l:List Sh},wu P n t=O l->∀s∈l,s.w=1
 |0,t,l,h=>by cases h
 |n+1,t,l,h=>by
  have one: ∀{a:Sh},a.w=1->O [a]=O l->∀s∈l,s.w=1:=by
   grind
  simp only[wu]at h;split at h
  .exact one rfl h
  .exact one rfl h
  .exact one rfl h
  .split at h
   .rename_i e j x s g i;cases c:aB (ft<|s::g) (P.cellsOf e)with
    |false=>rw[c]at h;cases h
    |true=>rw[c,zC]at h;exact one rfl h
   .cases h
  .split at h
   .rename_i L d;cases c:aB (ft L) (P.cellsOf t)with
    |false=>rw[c]at h;cases h
    |true=>
     rw[c,zC]at h;cases h;exact Tt (λh=>Tv n h) _ _ _ d
   .cases h
  .split at h
   .rename_i L d;cases c:aB (ft L) (P.cellsOf t)with
    |false=>rw[c]at h;cases h
    |true=>
     rw[c,zC]at h;cases h;exact Tt (λh=>Tv n h) _ _ _ d
   .cases h
  .cases h
theorem EN : ∀(n:Nat) {m:Nat} {t:TypeId} {l:List Sh} {cs:List Value} {x:DataW H×List MemPlace},wu P n t=O l->l≠[]->DataW.trod enc P w base (λ_=>Za) held m t cs=O x->∃y,jC w (EJ l) cs y
 |0,m,t,l,cs,x,h,_,_=>by cases h
 |n+1,m,t,l,cs,x,h,I,A=>by
  simp only[wu]at h;split at h
  .rename_i k d;cases h;have⟨a,g,_,M⟩:=DataW.trod_int d A;exact⟨a,g,M⟩
  .rename_i d;cases h;have⟨a,g,_⟩:=DataW.trod_bool d A;exact⟨a,g⟩
  .rename_i d;cases h;have⟨a,g,_,M⟩:=DataW.trod_string d A;exact⟨_,a,g,rfl,M⟩
  .rename_i e d;split at h
   .rename_i s B X;cases c:aB (ft<|s::B) (P.cellsOf e)with
    |false=>rw[c]at h;cases h
    |true=>
     rw[c,zC]at h;cases h;have c:=bD c;have hw:(EJ<|s::B).w=P.cellsOf e:=by rw[aD2 _ V2<|Tv n X,c]
     rcases DataW.trod_slice d A with⟨g,_⟩|⟨a,o,p,N,Z,J,_,g,_,hb,U,Q,hel,he,r⟩
     .exact⟨([]:List<|El<|EJ<|s::B), .inl ⟨g,rfl⟩⟩
     .have F: ∀i,i<p->∃y:El<|EJ<|s::B,∃K,(∀j z,K[j]?=O z->w.cell? (a.add<|i*(EJ<|s::B).w+j)=O z)/\jC w (EJ<|s::B) K y:=by
       intro i W
       have u: ∃q,(w.cells? base (a.add<|i*P.cellsOf e) (P.cellsOf e)).bind (DataW.trod enc P w base (λ_=>Za) held J e)=O q:=by
        by_cases T:i<o
        .rw[he i T]
         grind
        .obtain⟨h8,h9⟩:=r.1 rfl;have:=h9 (i-o) V1
         grind
       have⟨q,hq⟩:=u;have⟨K,C,D⟩:=ai hq;have⟨y,E⟩:=EN n X V2 D;have⟨h4,h5⟩:=aj9 C;exact⟨y,K,λj z hz=>by rw[hw,<-aN3];exact h5 j z hz,E⟩
      have⟨ys,h6,h7⟩:=RJ p F;exact⟨ys.take o, .inr ⟨a,o,p,ys,g,U,Q,h6,rfl,h7⟩⟩
   .cases h
  .rename_i fs d;split at h
   .rename_i L S;cases c:aB (ft L) (P.cellsOf t)with
    |false=>rw[c]at h;cases h
    |true=>
     rw[c,zC]at h;cases h;have c:=bD c;have⟨xs,J,_,_,hl,V,hx⟩:=DataW.trod_struct d A
     have:=GN (cs:=cs) (λC D E=>EN n (m:=J) C D E) fs.toList 0 _ S I λi f W=>by
      grind
     grind
   .cases h
  .rename_i k e d;split at h
   .rename_i L S;cases c:aB (ft L) (P.cellsOf t)with
    |false=>rw[c]at h;cases h
    |true=>
     rw[c,zC]at h;cases h;have c:=bD c;have⟨xs,J,_,_,hl,V,hx⟩:=DataW.trod_array d A
     have:=GN (cs:=cs) (λC D E=>EN n (m:=J) C D E) (List.range k) 0 _ S I λi f W=>by
      grind
     grind
   .cases h
  .cases h
end
def isAgg (P:Program)(t:TypeId):Bool:=match P.underlying t with
 |some (.struct _)|some (.array _ _)=>Za
 |_=>Zb
def L5 (w:World):(b:Bool)->(s:Sh)->Value->El s->Prop
 |true,s,v,x=> ∃a,v= .agg a/\jC w s a.toList x
 |false,s,v,x=>jC w s [v] x
theorem aF1 {H:Type}{enc:TypeId×Value->H}{P:Program}{base:Nat}{held:Bool}{n:Nat}{t:TypeId}{l:List Sh}{r:Reach}{b0:Nat}{d:DataW H}{u:List MemPlace}(i:wu P n t=O l)(m:l≠[])
  (a:Value.okWide P w r b0 t v) (q:DataW.Trod enc P w base (λ_=>Za) held t v d u): ∃x:El<|EJ l,L5 w (isAgg P t) (EJ l) v x:=by
 have⟨o,s⟩:=q;have⟨x,j⟩:=EN n i m s;refine⟨x, ?_⟩
 have g:isAgg P t=Zb->(∀h,v≠ .agg h)->L5 w (isAgg P t) (EJ l) v x:=by
  intro p z;rw[p]
  have:v.cells.toList=[v]:=by
   unfold Value.cells
   grind
  rw[this]at j;exact j
 cases n with
 |zero=>cases i
 |succ n=>
  simp only[wu]at i;split at i
  .rename_i k c;refine g Zv λh e=> ?_
   subst e;simp[Value.okWide,c,Cell.okWide,Cell.ok]at a
  .rename_i c;refine g Zv λh e=> ?_
   subst e;simp[Value.okWide,c,Cell.okWide,Cell.ok]at a
  .rename_i c;refine g Zv λh e=> ?_
   subst e;simp[Value.okWide,c,Cell.okWide,Cell.ok]at a
  .rename_i e c;refine g Zv λh e=> ?_
   subst e;simp[Value.okWide,c,Cell.okWide,Cell.ok]at a
  .rename_i y c;simp only[Value.okWide,c]at a;obtain⟨h,rfl,_,_⟩:=a;rw[show isAgg P t=Za by simp[isAgg,c]];exact⟨h,rfl,j⟩
  .rename_i k e c;simp only[Value.okWide,c]at a;obtain⟨h,rfl,_,_⟩:=a;rw[show isAgg P t=Za by simp[isAgg,c]];exact⟨h,rfl,j⟩
  .cases i
@[reducible] def All :List (Bool×Sh)->Type
 |[]=>Unit
 |[k]=>El k.2
 |k::a::r=>El k.2×All (a::r)
def Sp (w:World):(e:List<|Bool×Sh)->List Value->All e->Prop
 |[],a,_=>a=[]
 |[k],a,x=> ∃v,a=[v]/\L5 w k.1 k.2 v x
 |k::d::r,a,x=> ∃v c,a=v::c/\L5 w k.1 k.2 v x.1/\Sp w (d::r) c x.2
def bi2 (k:Bool×Sh)(x:El k.2):VV:=cond k.1 (.agg<|ey k.2 x)<|(ey k.2 x).headD .undef
def av3 :(c:List<|Bool×Sh)->All c->List VV
 |[],_=>[]
 |[k],x=>[bi2 k x]
 |k::a::r,x=>bi2 k x.1::av3 (a::r) x.2
def Q7 {k:Bool×Sh}{x:El k.2}(h:L5 w k.1 k.2 v x)(g:Bb w rows): ∃c j,Built w rows c [j] [v] [bi2 k x]:=by
 have⟨b,s⟩:=k;cases b with
 |true=>
  obtain⟨u,rfl,m⟩:=h;have⟨c,e,d⟩:=build s m g;exact⟨c, .agg e.toArray,d.ok, .cons (.agg (by simpa using d.vr)) .nil, .cons (.agg (by simpa using d.vv)) .nil⟩
 |false=>
  have⟨c,e,d⟩:=build s h g;have n:=d.vr;have o:=d.vv;cases n with
  | @cons a _ i _ p q=>
   cases q;refine⟨c,a,d.ok, .cons p .nil, ?_⟩;show F2 _ [(ey s x).headD .undef] _;generalize ey s x=l at*;cases o with
   |cons r t=>
    cases t;exact .cons r .nil
def Ou {w:World}: ∀(j:List<|Bool×Sh) {vs:List Value} {x:All j},Sp w j vs x->∀{rows:List Row},Bb w rows->∃a c,Built w rows a c vs (av3 j x)
 |[],vs,x,h,rows,d=>by
  have h:vs=[]:=h;subst h;exact⟨[],[], .nil d⟩
 |[k],vs,x,⟨v,h,g⟩,rows,d=>by
  subst h;have⟨a,e,i⟩:=Q7 g d;exact⟨a,[e],i⟩
 |k::n::r,vs,x,⟨v,q,h,g,i⟩,rows,d=>by
  subst h;have⟨o,e,l⟩:=Q7 g d;have⟨p,c,m⟩:=Ou (n::r) i l.ok;exact⟨o++p,e::c,l.app m⟩
def inK (k:IntKind)(n:Int):Prop:=match k with
 | .i64=> -9223372036854775808<=n/\n<=9223372036854775807
 | .u64=>0<=n/\n<=18446744073709551615
 | .u8=>0<=n/\n<=255
 |_=>True
def bm0 {k:IntKind}{n:Int}(h:(Lit.int k n).wf=Za):inK k n:=by
 cases k<;>first|trivial|exact bq4 h|exact bq5 h|exact by3 h
def at5 :(s:Sh)->El s->Prop
 | .int k,n=>inK k n
 | .bool,_=>True
 | .str,l=>ft l<=9223372036854775807/\∀n∈l,0<=n/\n<=255
 | .list s,l=>ft l<=9223372036854775807/\∀x∈l,at5 s x
 | .pair a b,x=>at5 a x.1/\at5 b x.2
def jC.fine : ∀{s:Sh} {cs:List Value} {x:El s},jC w s cs x->at5 s x
 | .int k,_,_,⟨_,h⟩=>bm0 h
 | .bool,_,_,_=>trivial
 | .str,_,_,⟨s,_,h,e⟩=>by
  subst h;refine⟨?_,λn g=> ?_⟩
  .unfold fc;rw[List.length_map];unfold maxLen at e;simpa using e
  .unfold fc at g;obtain⟨b,_,rfl⟩:=List.mem_map.1 g;have:=b.toNat_lt;omega
 | .list s,_,l,h=>by
  rcases h with⟨_,h⟩|⟨a,y,j,B,_,r,c,u,q,t⟩
  .subst h;exact⟨Nat.zero_le _,λx d=>by cases d⟩
  .subst q;refine⟨by rw[cM];unfold maxLen at c;omega,λx d=> ?_⟩;obtain⟨i,p,rfl⟩:=List.getElem_of_mem<|List.mem_of_mem_take d;have⟨C,_,h⟩:=t i _<|cK p;exact h.fine
 | .pair a b,_,_,⟨z,A,_,m,o⟩=>⟨m.fine,o.fine⟩
def L5.fine {b:Bool}{s:Sh}{x:El s}(h:L5 w b s v x):at5 s x:=by
 cases b with
 |true=>obtain⟨a,_,h⟩:=h;exact h.fine
 |false=>exact jC.fine h
def aB3 {P:Program}{vals:List Sk}{run:BF (rp.shs ⟨vals,[],[]⟩)->Option (wG IN)}(h:dv P ⟨f,vals,[],IN,run⟩)(j:UT P w){cargs:Array Value}(a:List<|Bool×Sh)(x:All a)(t:BF<|rp.shs ⟨vals,[],[]⟩)
  (i:Sp w a cargs.toList x) (k:(gn (nk [] 0 [] ⟨vals,[],[]⟩ (av3 a x)) λst=>UB _ st.ls)=O t) (d:run t=O Za):
  Calls P f cargs w λe w'=>e= .returned (.bool Za)/\Go.RowKit.Below w.heap.size w w':=by
 obtain⟨rows,g,c⟩:=Ou a i (rows:=[]) (λr d=>by cases d);exact an6 h j t c.ok c.vr c.vv k d
end
section
open Builtin renaming unsafeSliceData_->aB
open List renaming length_append->bD,size_toArray->cB
open Nat renaming le_refl->aD,le_trans->bB,lt_of_lt_of_le->cD
def aF7 {P:Program}{i k:IntKind}{g:Int->Option Int}(hc:yy P f)
  (e1: ∀t:BF<|rp.shs ⟨[.leaf<|.int i],[],[]⟩,mB id ⟨[.leaf<|.int i],[],[]⟩ (Nt _ t)=O ([.int i t],[],[]))
  (U: ∀(f:Nat->Nat) (o:BF<|rp.shs ⟨[.leaf<|.int k],[],[]⟩),mB f ⟨[.leaf<|.int k],[],[]⟩ (Nt _ o)=O ([.int k o],[],[]))
  (h: ∀(B:Ab.Base P) (w:World) (x y:Int),g x=O y->B.n<=w.heap.size->(∀b,b<B.n->w.heap[b]?=B.h b)->Calls P f #[.int i x] w λe w'=>e= .returned (.int k y)/\w'=w):
  dv P ⟨f,[.leaf<|.int i],[],[⟨.ret,[],⟨[.leaf<|.int k],[],[]⟩⟩],g⟩:=by
 intro B μ Z w I d K hs j L;have⟨c,F,st,t,o,p,v,fs,bs,S',W,J,hf,hd,hl,M,hok,r,D,a,z,X⟩:=hs;subst W;have E:Nt (rp.shs ⟨[.leaf<|.int i],[],[]⟩) t=st.ls:=Cb hl;have q:mB id ⟨[.leaf<|.int i],[],[]⟩ (Nt (rp.shs ⟨[.leaf<|.int i],[],[]⟩) t)=O ([.int i t],[],[]):=e1 t;rw[E]at q;have⟨_,A⟩:=enter J rfl hd q hf;cases A with
 |cons N Q=>
  cases Q;cases N
  have m:d= #[.int i t]:=by
   generalize C:d.toList=l at L;cases L with
   |cons S T=>
    cases T;cases S;exact Array.toList_inj.1 C
  subst m;refine⟨hc,(h B w t o r j.base j.old).mono ?_⟩;rintro x w' ⟨rfl,rfl⟩;cases D;rw[U]at a;injection a with a
  injection a with s u
  injection u with u V
  subst u;subst V;cases s;cases z;exact⟨.int k o,c.Z, .int k o,μ,rfl,X _ _ ⟨c,rfl,by simp[B5,QZ,alV],Le.refl c,J, .int _ _,vN.refl _ c⟩,μ.le_refl,j, .int _ _,Go.RowKit.Below.refl _ _,rfl⟩
def aM8 {P:Program}{B:Ab.Base P}{μ:Mu}{Z:Hp}{w':World}(h:R B μ Z w)(a:Go.RowKit.Below w.heap.size w w'):R B μ Z w':=
 ⟨bB h.base a.size,λb d=>(a.block b<|cD d h.base).trans<|h.old b d,h.fresh,λb x c=>let⟨g,i,j⟩:=h.live b x c;⟨g,i,j.kept a.size (a.block _ j.lt)<|λl k m=>a.block _ (h.buf c i l m).2.1⟩,h.inj,
  h.sep.of (λb x g c e=> .inl ⟨x,c,e⟩) (λb x g c e _ _=>by unfold jd;rw[a.block _ (h.get c e).lt])⟩
def Yr {P:Program}{vals:List Sk}{s:Sh}{g:BF (rp.shs ⟨vals,[],[]⟩)->Option (BF<|rp.shs ⟨[.leaf s],[],[]⟩)}(d:BF (rp.shs ⟨vals,[],[]⟩)->List VV)(j:BF (rp.shs ⟨[.leaf s],[],[]⟩)->VV)(V:yy P f)
  (e1: ∀t:BF<|rp.shs ⟨vals,[],[]⟩,mB id ⟨vals,[],[]⟩ (Nt _ t)=O (d t,[],[]))
  (N: ∀(f:Nat->Nat) (o:BF<|rp.shs ⟨[.leaf s],[],[]⟩),mB f ⟨[.leaf s],[],[]⟩ (Nt _ o)=O ([j o],[],[]))
  (z: ∀o,B5 [j o] [] []=Zb)
  (h: ∀(B:Ab.Base P) (μ:Mu) (w:World) (c:Ctx) (t:BF<|rp.shs ⟨vals,[],[]⟩) (y:BF<|rp.shs ⟨[.leaf s],[],[]⟩) (args:List Value) (cargs:Array Value),g t=O y->R B μ c.Z w->F2 (VRel c) (d t) args->F2 (VR μ) args cargs.toList->
   Calls P f cargs w λe w'=> ∃r,e= .returned r/\(∀c,VRel c (j y) r)/\(∀μ,VR μ r r)/\Go.RowKit.Below w.heap.size w w'):
  dv P ⟨f,vals,[],[⟨.ret,[],⟨[.leaf s],[],[]⟩⟩],g⟩:=by
 intro B μ Z w args cargs K hs i U;have⟨c,F,M,t,o,p,v,fs,bs,S',S,I,X,W,hl,L,hok,m,C,a,n,T⟩:=hs;subst S;have D:Nt (rp.shs ⟨vals,[],[]⟩) t=M.ls:=Cb hl;have l:=e1 t;rw[D]at l;have⟨_,A⟩:=enter I rfl W l X;refine⟨V,(h B μ w (kQ c M []) t o args cargs m i A U).mono ?_⟩;rintro x w' ⟨r,rfl,hv,E,J⟩;cases C;rw[N]at a;injection a with a
 injection a with q u
 injection u with u Q
 subst u;subst Q;cases q;have k:=z o;rw[k]at n;cases n;exact⟨r,c.Z,r,μ,rfl,T _ _ ⟨c,rfl,V2,Le.refl c,I,hv _,vN.refl _ c⟩,μ.le_refl,aM8 i J,E _,J.mono i.base,rfl⟩
def aC9 (u:Int):Option Int:=if 1<=u/\u<=18446744073709551615 then O ((Lib.nDigits u.toNat:Nat):Int)else Y
def u8I (l:List UInt8):Zd:=l.map λb=>(b.toNat:Int)
def aj8 (l:List UInt8):fc ⟨l.toArray⟩=u8I l:=by unfold fc u8I;simp
end
end Go.V
namespace Go.Ab
open Option renaming some->O,none->Y
open Bool renaming true->Za,false->Zb
open Decidable renaming decide->Zc
open List renaming length->ft
variable {b:Nat}
section
open Builtin renaming unsafeSliceData_->aB
open List renaming length_append->bD,size_toArray->cB
open Nat renaming le_refl->aD,le_trans->bB,lt_of_lt_of_le->cD
open Go.Shelf Go.RowKit Go.Proofs Go
structure Only (b:Nat)(w w':World):Prop where
 size:w.heap.size<=w'.heap.size
 oth: ∀k,k<w.heap.size->k≠b->jd w b≠O k->w'.heap[k]?=w.heap[k]?
 buf: ∀k,jd w' b=O k->jd w b=O k∨w.heap.size<=k
section
variable {P:Program} (w:World)
theorem Uc (base:Nat)(t u E e:TypeId)(i:TypeInfo)(S:P.underlying t=O (.slice e))(U:P.underlying u=O .string)(N:P.info? e=O i)(Z:i.zero=O (.int .u8 0))
  (c:i.size=1) (z:i.bytes=1)
  (v:Value) (n:Nat) (xs:List Value) (d:w.ownsRowF base e 1 v n xs) (s:ByteArray)
  (r:n+s.size<=maxLen) (o:n+s.size<=140737488355328) (l:base<=w.heap.size):
  ∃v' w',(Builtin.append_ #[t,u] E #[v, .string s]).run P w= .ok v' w'/\w'.ownsRowF base e 1 v' (n+s.size) (xs++Lib.strCells s)/\w.grownBy w' v.ownBlock/\
   (∀k,v'.ownBlock=O k->v.ownBlock=O k∨w.heap.size<=k):=by
 rcases d.2 with⟨rfl,rfl⟩|⟨g,a,h,C,rfl,I,X,L,hnc,J,K,T⟩
 .obtain⟨v',w',h1,h2,h3,h4⟩:=Lib.run_append_own_string (P:=P) w w.heap.size t u E e i S U N Z c z (.slice Y 0 0) 0 xs ⟨d.1, .inl ⟨rfl,rfl⟩⟩ s r o<|aD _;have F:=World.ownsRowF_of h2;refine⟨v',w',h1,⟨F.1, ?_⟩,h3,λk p=> .inr (F.lt k p).1⟩;rcases F.2 with hn|⟨g,a,h,C,hv,hb,B⟩
  .exact .inl hn
  .exact .inr ⟨g,a,h,C,hv,bB l hb,B⟩
 .have D:n+s.size<=9223372036854775807:=by simp only[maxLen]at r;omega
  have y:ft xs=n:=by simpa using d.1
  have q:ft (xs++Lib.strCells s)=(n+s.size)*1:=by rw[bD,y,Lib.strCells_length,Nat.mul_one]
  by_cases m:n+s.size<=a
  .have W:h.size=a:=by simpa using K
   have Q:=Lib.run_append_room_stringF (P:=P) w t u E e i S U N c g n a h C X (by simpa using L) s m V1;refine⟨_,_,Q,⟨q, .inr ⟨g,a,_,C,rfl,I,setRow_heap w g h _ e _ X,V1,m,J, ?_, ?_⟩⟩,⟨rfl,rfl,rfl,V2,λk _ p=>setRow_other w g k _<|λe=>p (by simp[Value.ownBlock,e])⟩,λk p=> .inl p⟩
   .simp only[cB,bD,List.length_take,List.length_drop,Array.length_toList,Lib.strCells_length];omega
   grind
  .have x: ∀j u,xs[j]?=O u->w.cell? ((⟨g,0,Y⟩:Addr).add j)=O u:=d.cells (g:=g) rfl
   have Q:=Lib.run_append_grow_string (P:=P) w t u E e i (.int .u8 0) S U N Z ⟨g,0,Y⟩ n a xs (by rw[c];simpa using y) x s V1 V1 (by rw[z];exact growslice_fits V1 V1);have M:=grownCap_ge w (n+s.size) a e;have A:grownCap w (n+s.size) a e<=maxLen:=grownCap_le_maxLen w (n+s.size) a e r;refine⟨_,_,Q,⟨q, .inr ⟨w.heap.size,_,_,(0,0),rfl,l,heap_alloc_new w.drew _,Nat.zero_le _,M,A, ?_, ?_⟩⟩,⟨rfl,rfl,rfl,V2,λk p _=>Below.heap_alloc w.drew _ _ p⟩,λk p=> .inr (by simp[Value.ownBlock]at p;omega)⟩
   .have V:(Value.int IntKind.u8 0).cells.size=1:=rfl;simp only[Array.size_append,cB,size_zeroCells,V,y,Lib.strCells_length];omega
   grind
def M8 {l:Array Oper}{rest:List Oper}{o:Oper}{a:Act}{Q:Exit->Act->World->Prop}(q:o.guard=Y)(sl x:Operand)(t u:TypeId)
  (C:o.op= .call {callee:= .builtin .append,args:= #[sl,x],argTypes:= #[t,u]})
  (base:Nat) (e:TypeId) (i:TypeInfo) (F:P.underlying t=O (.slice e)) (I:P.underlying u=O .string) (B:P.info? e=O i) (L:i.zero=O (.int .u8 0))
  (g:i.size=1) (p:i.bytes=1)
  (v:Value) (n:Nat) (xs:List Value) (E:a.eval sl=v) (j:w.ownsRowF base e 1 v n xs) (s:ByteArray) (J:a.eval x= .string s)
  (m:n+s.size<=maxLen) (c:n+s.size<=140737488355328) (d:base<=w.heap.size)
  (h: ∀v' w',w'.ownsRowF base e 1 v' (n+s.size) (xs++Lib.strCells s)->w.grownBy w' v.ownBlock->(∀k,v'.ownBlock=O k->v.ownBlock=O k∨w.heap.size<=k)->wpList P l Q rest (a.put o.dst v') w'):wpList P l Q (o::rest) a w:=by
 refine wpList_plain q λK A=> ?_
 have⟨v',w',D,r,y,z⟩:=Uc (P:=P) w base t u o.type e i F I B L g p v n xs j s m c d;unfold Oper.wp execOp;simp only[C,resolve,invoke,builtin,Sem.run_bind,Sem.run_pure,Result.andThen_ok,List.map_toArray,List.map_cons,List.map_nil,E,J,D];exact A _ _<|h v' w' r y z
end
variable {P:Program} {ρ:Ren}
def Gw {w:World}{p v:Value}{T:TypeId}{z:Nat×Nat}(h:w.heap[b]?=O (.cells #[p,v] T z)):jd w b=v.ownBlock:=by
 unfold jd;rw[h];rfl
def Vh (L:Lays.n240 P ρ)(X:Builder.X72 P ρ)(B b:Nat)(p:Value)(g:p= .pointer Y∨p= .pointer (O ⟨b,0,Y⟩))(bs:List Value)(w:World)(h:Lib.BuilderAtF (ρ.t 72) (ρ.t 5) B b p bs w):
  Calls P (ρ.f 240) #[.pointer<|O ⟨b,0,Y⟩] w λe w'=>e= .returned (.tuple #[])/\(Lib.BuilderAtF (ρ.t 72) (ρ.t 5) B b (.pointer<|O ⟨b,0,Y⟩) bs w'/\Below B w w'/\w'.heap.size=w.heap.size/\(∀k,k≠b->w'.heap[k]?=w.heap[k]?)/\jd w' b=jd w b):=by
 rcases g with rfl|rfl
 .refine(Any.Builder_copyCheck_fresh L X b w h.cell0 h.shape h.frozen0).mono ?_;rintro e w' ⟨rfl,rfl⟩;refine⟨rfl,h.used _,(Below.refl B w).setCell (p:=⟨b,0,Y⟩) h.1 _,by simp[World.setCell],λk d=>Below.heap_setCell _ _ _ _ (λe=>d (by simp[e])), ?_⟩;have⟨_,v,c,_⟩:=h;rw[Gw c]
  have a:(w.setCell ⟨b,0,Y⟩ (.pointer<|O ⟨b,0,Y⟩)).heap[b]?=O (.cells #[.pointer<|O ⟨b,0,Y⟩,v] (ρ.t 72) (0,0)):=by
   simp[World.setCell,Array.getElem?_modify,c]
  exact Gw a
 .refine(Any.Builder_copyCheck_used L X b w h.cell0).mono ?_;rintro e w' ⟨rfl,rfl⟩;exact⟨rfl,h,Below.refl B _,rfl,λ_ _=>rfl,rfl⟩
set_option maxHeartbeats 2000000 in
set_option maxRecDepth 100000 in
theorem aZ2 (L:Lays.n166 P ρ)(X:Builder.Extra P ρ)(B b:Nat)(p:Value)(hp:p= .pointer Y∨p= .pointer (O ⟨b,0,Y⟩))(bs:List Value)(s:ByteArray)(w:World)(h:Lib.BuilderAtF (ρ.t 72) (ρ.t 5) B b p bs w)(U:ft bs+s.size<=140737488355328)(hBw:B<=w.heap.size):
  Calls P (ρ.f 166) #[.pointer<|O ⟨b,0,Y⟩, .string s] w λe w'=>e= .returned (.tuple #[.int .i64 s.size, .nilIface])/\(Lib.BuilderAtF (ρ.t 72) (ρ.t 5) B b (.pointer<|O ⟨b,0,Y⟩) (bs++Lib.strCells s) w'/\Below B w w'/\Only b w w'):=by
 have⟨i0,hi,J,K,M⟩:=info_parts X.infoByte;have mixed:=L.mixed;have t72:=L.t72;have a72:=L.a72;have z72:=L.z72;have v72:=L.v72;have u72:=run_underlying L.t72;have t70:=L.t70;have a70:=L.a70;have z70:=L.z70;have v70:=L.v70;have u70:=run_underlying L.t70;have t37:=L.t37;have a37:=L.a37;have z37:=L.z37;have v37:=L.v37;have u37:=run_underlying L.t37;have t3:=L.t3;have a3:=L.a3;have z3:=L.z3;have v3:=L.v3;have u3:=run_underlying L.t3;have t9:=L.t9;have a9:=L.a9;have z9:=L.z9;have v9:=L.v9;have u9:=run_underlying L.t9;have t4:=L.t4;have a4:=L.a4;have z4:=L.z4;have v4:=L.v4;have u4:=run_underlying L.t4;have t164:=L.t164;have a164:=L.a164;have z164:=L.z164;have v164:=L.v164;have Z:=run_underlying L.t164;have t5:=X.t5;have a5:=X.a5;have z5:=X.z5;have v5:=X.v5;have u5:=run_underlying X.t5;have Q: ∀l w,(callFunc (ρ.f 240) l).run P w= .ok (.enter (ρ.f 240) l) w:=enters_of L.f240 V4 rfl
 go_enter L.f166,Body.n166_ntmps ρ
 go_wp2_with (go_at_fn (ρ.f 240);refine(Vh {L with} X.toX72 B b p hp bs _ h).mono ?_)
 rintro e N ⟨rfl,h1,n,W,r,o⟩;have⟨S,v,j,m,F⟩:=h1;have c0:N.cell? ⟨b,0,Y⟩=O (.pointer<|O ⟨b,0,Y⟩):=by rw[Lib.cell_of_heap j];rfl
 have c1:N.cell? ⟨b,1,Y⟩=O v:=by rw[Lib.cell_of_heap j];rfl
 go_wp2_with (at_builtin;refine M8 _ rfl _ _ (ρ.t 37) (ρ.t 9) rfl B (ρ.t 5) i0 L.t37 L.t9 hi J K M _ _ _ rfl m s rfl ?c3 ?c4 ?c5 ?_)
 case c3=>unfold maxLen;omega
 case c4=>omega
 case c5=>have:=n.size;omega
 intro v' y i a V
 have E:b<N.heap.size:=by
  grind
 have d:y.heap[b]?=O (.cells #[.pointer<|O ⟨b,0,Y⟩,v] (ρ.t 72) (0,0)):=by
  rw[a.block b E<|λe=>F e.symm];exact j
 have d0:y.cell? ⟨b,0,Y⟩=O (.pointer<|O ⟨b,0,Y⟩):=by rw[Lib.cell_of_heap d];rfl
 have d1:y.cell? ⟨b,1,Y⟩=O v:=by rw[Lib.cell_of_heap d];rfl
 have f1:y.frozen? ⟨b,1,Y⟩=Zb:=Lib.frozen_of_heap d 1
 obtain⟨z,C,c,rfl⟩: ∃z C c,v'= .slice z C c:=by
  rcases i.2 with⟨I,_⟩|⟨g,c,cur,fz,I,_⟩
  .exact⟨_,_,_,I⟩
  .exact⟨_,_,_,I⟩
 have u:=Gw j;rw[o]at u
 go_wp2
 go_ret2
 refine⟨rfl, ?_, ?_, ?_, ?_, ?_⟩
 .exact Lib.BuilderAtF.put (T:=(ρ.t 72)) (e:=(ρ.t 5)) S d (bs':=bs++Lib.strCells s) (by simpa[Lib.strCells_length]using i) X.neB5
 .exact(n.grown a (by have:=n.size;omega)<|λk A=>(m.lt k A).1).setCell (p:=⟨b,1,Y⟩) S _
 .have:=a.size;simp[World.setCell];omega
 .intro k A x q;rw[Below.heap_setCell _ _ _ _ (λe=>x (by simp[e])),a.block k V1 (λe=>q (by rw[u,e])),r k x]
 .intro k A
  have D:(y.setCell ⟨b,1,Y⟩ (.slice z C c)).heap[b]?=O (.cells #[.pointer<|O ⟨b,0,Y⟩, .slice z C c] (ρ.t 72) (0,0)):=by
   simp[World.setCell,Array.getElem?_modify,d]
  rw[Gw D]at A
  grind
theorem OT (w:World)(a:Addr)(n:Nat){k:Nat}(c:k≠a.block):(w.freeze a n).heap[k]?=w.heap[k]?:=by
 unfold World.freeze
 grind
def Vw (w:World)(a:Addr)(n:Nat):(w.freeze a n).heap.size=w.heap.size:=by
 unfold World.freeze;split
 .rfl
 simp
def Wb {g:Nat}{w:World}(i:jd w b=O g)(d:g≠b)(n:Nat):Only b w<|w.drew.freeze ⟨g,0,Y⟩ n:=by
 have h:(w.drew.freeze ⟨g,0,Y⟩ n).heap[b]?=w.heap[b]?:=OT w.drew ⟨g,0,Y⟩ n<|λe=>d e.symm;refine⟨by rw[Vw];exact aD _,λk _ a c=>OT w.drew ⟨g,0,Y⟩ n (λe=>c (by rw[i,e])),λk a=> .inl ?_⟩;unfold jd at a⊢;rw[h]at a;exact a
def RG {w w':World}(h:w'.heap=w.heap):Only b w w':=
 ⟨by rw[h];exact aD _,λk _ _ _=>by rw[h],λk a=> .inl (by unfold jd at a⊢;rw[h]at a;exact a)⟩
def Yl {w:World}(d:b<w.heap.size)(o:Obj):Only b w<|w.drew.alloc o:=by
 have c: ∀k,k<w.heap.size->(w.drew.alloc o).heap[k]?=w.heap[k]?:=λk a=>Lib.alloc_old w.drew o k a
 refine⟨by show w.heap.size<=(w.heap.push _).size;rw[Array.size_push];omega,λk a _ _=>c k a,λk a=> .inl ?_⟩;unfold jd at a⊢;rw[c b d]at a;exact a
set_option maxHeartbeats 1000000 in
set_option maxRecDepth 100000 in
theorem ar0 (L:Lays.n169 P ρ)(X:Builder.Extra P ρ)(B b:Nat)(p:Value)(l:List UInt8)(w:World)(n:Lib.BuilderAtF (ρ.t 72) (ρ.t 5) B b p (Lib.byteCells l) w)(z:l≠[]):
  Calls P (ρ.f 169) #[.pointer<|O ⟨b,0,Y⟩] w λe w'=>e= .returned (.string ⟨l.toArray⟩)/\(Lib.BuilderAtF (ρ.t 72) (ρ.t 5) B b p (Lib.byteCells l) w'/\Below B w w'/\Only b w w'):=by
 have⟨E,v,d,c,m⟩:=n;have u:(ft l)≠0:=by simpa using z
 rw[Lib.byteCells_length]at c
 obtain⟨g,cap,a,k,rfl,o,M,K,N,q,J,y⟩: ∃g cap a k,v= .slice (O ⟨g,0,Y⟩) (ft l) cap/\B<=g/\w.heap[g]?=O (.cells a (ρ.t 5) k)/\k.2<=ft l*1/\ft l<=cap/\cap<=maxLen/\a.size=cap*1/\a.toList.take (ft l*1)=Lib.byteCells l:=by
  rcases c.2 with⟨_,T⟩|⟨g,cap,a,k,Q,r⟩
  .exact absurd T u
  .exact⟨g,cap,a,k,Q,r⟩
 have C:w.drew.cell? ⟨b,1,Y⟩=O (.slice (O ⟨g,0,Y⟩) (ft l) cap):=by
  have:w.drew.heap[b]?=O (.cells #[p, .slice (O ⟨g,0,Y⟩) (ft l) cap] (ρ.t 72) (0,0)):=d;rw[Lib.cell_of_heap this];rfl
 have F:(aB #[(ρ.t 37)] (ρ.t 127) #[.slice (O ⟨g,0,Y⟩) (ft l) cap]).run P w.drew= .ok (.pointer<|O ⟨g,0,Y⟩) w.drew:=
  Lib.run_unsafeSliceData_row _ _ _ _ _ _ V1
 have I:(Builtin.unsafeString_ #[(ρ.t 127),(ρ.t 3)] (ρ.t 9) #[.pointer<|O ⟨g,0,Y⟩, .int .i64<|ft l]).run P w.drew= .ok (.string ⟨l.toArray⟩) (w.drew.freeze ⟨g,0,Y⟩ (ft l)):=by
  refine Lib.run_unsafeString_row w.drew (ρ.t 127) (ρ.t 3) (ρ.t 9) (ρ.t 5) L.t127 X.cellsByte g a.size (by have s:w.drew.heap[g]?=O (.cells a (ρ.t 5) k):=M;simp[World.shape?,s]) l z V1 (by unfold maxLen at q;omega) ?_;intro j x S;have:=c.cells (g:=g) rfl j (.int .u8 x.toNat) (by simp[Lib.byteCells,S]);exact this
 have h:Lib.BuilderAtF (ρ.t 72) (ρ.t 5) B b p (Lib.byteCells l)<|w.drew.freeze ⟨g,0,Y⟩ (ft l):=by
  have D:Lib.BuilderAtF (ρ.t 72) (ρ.t 5) B b p (Lib.byteCells l) w.drew:=⟨E,_,d,by rw[Lib.byteCells_length];exact c,m⟩;have Z:=D.froze (g:=g) (cap:=cap) (by rw[Lib.byteCells_length];exact C)
  grind
 have i:Only b w<|w.drew.freeze ⟨g,0,Y⟩ (ft l):=Wb (Gw d) (λe=>m<|congrArg O e) _;have mixed:=L.mixed;have t72:=L.t72;have a72:=L.a72;have z72:=L.z72;have v72:=L.v72;have W:=run_underlying L.t72;have t70:=L.t70;have a70:=L.a70;have z70:=L.z70;have v70:=L.v70;have V:=run_underlying L.t70;have t37:=L.t37;have a37:=L.a37;have z37:=L.z37;have v37:=L.v37;have U:=run_underlying L.t37;have t127:=L.t127;have a127:=L.a127;have z127:=L.z127;have v127:=L.v127;have A:=run_underlying L.t127;have t3:=L.t3;have a3:=L.a3;have z3:=L.z3;have v3:=L.v3;have u3:=run_underlying L.t3;have t9:=L.t9;have a9:=L.a9;have z9:=L.z9;have v9:=L.v9;have u9:=run_underlying L.t9;have t5:=X.t5;have a5:=X.a5;have z5:=X.z5;have v5:=X.v5;have u5:=run_underlying X.t5
 go_enter L.f169,Body.n169_ntmps ρ
 go_wp2
 go_region_o
 all_goals (go_wp2;go_ret;exact⟨rfl,h,Lib.below_freeze (Below.drew<|Below.refl B w) (p:=⟨g,0,Y⟩) o _,i⟩)
set_option maxHeartbeats 2000000 in
set_option maxRecDepth 100000 in
def YU (L:Lays.n169 P ρ)(X:Builder.Extra P ρ)(B b:Nat)(p:Value)(w:World)(a:w.heap[b]?=O (.cells #[p, .slice Y 0 0] (ρ.t 72) (0,0)))(d:Lib.BuilderAtF (ρ.t 72) (ρ.t 5) B b p [] w):
  Calls P (ρ.f 169) #[.pointer<|O ⟨b,0,Y⟩] w λe w'=>e= .returned (.string ⟨#[]⟩)/\(Lib.BuilderAtF (ρ.t 72) (ρ.t 5) B b p [] w'/\Below B w w'/\Only b w w'):=by
 have h:=Any.unsafeString_none L X
 have l:w.drew.cell? ⟨b,1,Y⟩=O (.slice Y 0 0):=by
  have:w.drew.heap[b]?=O (.cells #[p, .slice Y 0 0] (ρ.t 72) (0,0)):=a;rw[Lib.cell_of_heap this];rfl
 have g:(aB #[(ρ.t 37)] (ρ.t 127) #[.slice Y 0 0]).run P w.drew= .ok (.pointer Y) w.drew:=rfl;have mixed:=L.mixed;have t72:=L.t72;have a72:=L.a72;have z72:=L.z72;have v72:=L.v72;have k:=run_underlying L.t72;have t70:=L.t70;have a70:=L.a70;have z70:=L.z70;have v70:=L.v70;have j:=run_underlying L.t70;have t37:=L.t37;have a37:=L.a37;have z37:=L.z37;have v37:=L.v37;have i:=run_underlying L.t37;have t127:=L.t127;have a127:=L.a127;have z127:=L.z127;have v127:=L.v127;have c:=run_underlying L.t127;have t3:=L.t3;have a3:=L.a3;have z3:=L.z3;have v3:=L.v3;have m:=run_underlying L.t3;have t9:=L.t9;have a9:=L.a9;have z9:=L.z9;have v9:=L.v9;have o:=run_underlying L.t9;have t5:=X.t5;have a5:=X.a5;have z5:=X.z5;have v5:=X.v5;have n:=run_underlying X.t5
 go_enter L.f169,Body.n169_ntmps ρ
 go_wp2
 go_region_o
 all_goals (go_wp2;go_ret;exact⟨rfl,d.drew,Below.drew<|Below.refl B w,RG rfl⟩)
set_option maxHeartbeats 2000000 in
set_option maxRecDepth 100000 in
theorem QT (L:Lays.n169 P ρ)(X:Builder.Extra P ρ)(B b g:Nat)(p:Value)(a:Array Value)(w:World)(h:B<=w.heap.size)(c:w.heap[b]?=O (.cells #[p, .slice (O ⟨g,0,Y⟩) 0 0] (ρ.t 72) (0,0)))(fz:Nat×Nat)(q:w.heap[g]?=O (.cells a (ρ.t 5) fz))(m:Lib.BuilderAtF (ρ.t 72) (ρ.t 5) B b p [] w):
  Calls P (ρ.f 169) #[.pointer<|O ⟨b,0,Y⟩] w λe w'=>e= .returned (.string ⟨#[]⟩)/\(Lib.BuilderAtF (ρ.t 72) (ρ.t 5) B b p [] w'/\Below B w w'/\Only b w w'):=by
 have o:=Any.unsafeString_none L X
 have d:b<w.heap.size:=by
  grind
 have k:w.drew.cell? ⟨b,1,Y⟩=O (.slice (O ⟨g,0,Y⟩) 0 0):=by
  have:w.drew.heap[b]?=O (.cells #[p, .slice (O ⟨g,0,Y⟩) 0 0] (ρ.t 72) (0,0)):=c;rw[Lib.cell_of_heap this];rfl
 have n:(aB #[(ρ.t 37)] (ρ.t 127) #[.slice (O ⟨g,0,Y⟩) 0 0]).run P w.drew= .ok (.pointer<|O ⟨w.drew.heap.size,0,Y⟩) (w.drew.alloc<|.view ⟨g,0,Y⟩ (ρ.t 5)):=
  Lib.run_unsafeSliceData_zero w.drew _ _ (ρ.t 5) L.t127 ⟨g,0,Y⟩ 0 ((ρ.t 5),a.size) (by have i:w.drew.heap[g]?=O (.cells a (ρ.t 5) fz):=q;simp[World.shape?,i])
 have l:(w.drew.alloc<|.view ⟨g,0,Y⟩ (ρ.t 5)).cell? ⟨b,1,Y⟩=O (.slice (O ⟨g,0,Y⟩) 0 0):=by
  have:(w.drew.alloc<|.view ⟨g,0,Y⟩ (ρ.t 5)).heap[b]?=_:=(Lib.alloc_old w.drew _ b d).trans c;rw[Lib.cell_of_heap this];rfl
 have y:(w.alloc<|.view ⟨g,0,Y⟩ (ρ.t 5)).drew.cell? ⟨b,1,Y⟩=O (.slice (O ⟨g,0,Y⟩) 0 0):=l;have x:w.cell? ⟨b,1,Y⟩=O (.slice (O ⟨g,0,Y⟩) 0 0):=k;have mixed:=L.mixed;have t72:=L.t72;have a72:=L.a72;have z72:=L.z72;have v72:=L.v72;have u:=run_underlying L.t72;have t70:=L.t70;have a70:=L.a70;have z70:=L.z70;have v70:=L.v70;have s:=run_underlying L.t70;have t37:=L.t37;have a37:=L.a37;have z37:=L.z37;have v37:=L.v37;have r:=run_underlying L.t37;have t127:=L.t127;have a127:=L.a127;have z127:=L.z127;have v127:=L.v127;have j:=run_underlying L.t127;have t3:=L.t3;have a3:=L.a3;have z3:=L.z3;have v3:=L.v3;have z:=run_underlying L.t3;have t9:=L.t9;have a9:=L.a9;have z9:=L.z9;have v9:=L.v9;have C:=run_underlying L.t9;have t5:=X.t5;have a5:=X.a5;have z5:=X.z5;have v5:=X.v5;have A:=run_underlying X.t5
 go_enter L.f169,Body.n169_ntmps ρ
 go_wp2
 go_region_o
 all_goals (go_wp2;go_ret;exact⟨rfl,m.drew.alloc _,(Below.drew<|Below.refl B w).alloc h _,Yl d _⟩)
set_option maxHeartbeats 2000000 in
set_option maxRecDepth 100000 in
def W5 (L:Lays.n169 P ρ)(X:Builder.Extra P ρ)(B b g cap:Nat)(p:Value)(w:World)(a:cap≠0)(c:w.heap[b]?=O (.cells #[p, .slice (O ⟨g,0,Y⟩) 0 cap] (ρ.t 72) (0,0)))(h:Lib.BuilderAtF (ρ.t 72) (ρ.t 5) B b p [] w):
  Calls P (ρ.f 169) #[.pointer<|O ⟨b,0,Y⟩] w λe w'=>e= .returned (.string ⟨#[]⟩)/\(Lib.BuilderAtF (ρ.t 72) (ρ.t 5) B b p [] w'/\Below B w w'/\Only b w w'):=by
 have j:=Any.unsafeString_none L X
 have n:w.drew.cell? ⟨b,1,Y⟩=O (.slice (O ⟨g,0,Y⟩) 0 cap):=by
  have:w.drew.heap[b]?=O (.cells #[p, .slice (O ⟨g,0,Y⟩) 0 cap] (ρ.t 72) (0,0)):=c;rw[Lib.cell_of_heap this];rfl
 have i:(aB #[(ρ.t 37)] (ρ.t 127) #[.slice (O ⟨g,0,Y⟩) 0 cap]).run P w.drew= .ok (.pointer<|O ⟨g,0,Y⟩) w.drew:=
  Lib.run_unsafeSliceData_row _ _ _ _ _ _ a
 clear a;have mixed:=L.mixed;have t72:=L.t72;have a72:=L.a72;have z72:=L.z72;have v72:=L.v72;have m:=run_underlying L.t72;have t70:=L.t70;have a70:=L.a70;have z70:=L.z70;have v70:=L.v70;have l:=run_underlying L.t70;have t37:=L.t37;have a37:=L.a37;have z37:=L.z37;have v37:=L.v37;have k:=run_underlying L.t37;have t127:=L.t127;have a127:=L.a127;have z127:=L.z127;have v127:=L.v127;have d:=run_underlying L.t127;have t3:=L.t3;have a3:=L.a3;have z3:=L.z3;have v3:=L.v3;have o:=run_underlying L.t3;have t9:=L.t9;have a9:=L.a9;have z9:=L.z9;have v9:=L.v9;have r:=run_underlying L.t9;have t5:=X.t5;have a5:=X.a5;have z5:=X.z5;have v5:=X.v5;have q:=run_underlying X.t5
 go_enter L.f169,Body.n169_ntmps ρ
 go_wp2
 go_region_o
 all_goals (go_wp2;go_ret;exact⟨rfl,h.drew,Below.drew<|Below.refl B w,RG rfl⟩)
def aI2 (L:Lays.n169 P ρ)(X:Builder.Extra P ρ)(B b:Nat)(p:Value)(l:List UInt8)(w:World)(k:Lib.BuilderAtF (ρ.t 72) (ρ.t 5) B b p (Lib.byteCells l) w)(m:B<=w.heap.size):
  Calls P (ρ.f 169) #[.pointer<|O ⟨b,0,Y⟩] w λe w'=>e= .returned (.string ⟨l.toArray⟩)/\(Lib.BuilderAtF (ρ.t 72) (ρ.t 5) B b p (Lib.byteCells l) w'/\Below B w w'/\Only b w w'):=by
 by_cases n:l=[]
 .subst n;have a:Lib.BuilderAtF (ρ.t 72) (ρ.t 5) B b p [] w:=k;have⟨u,v,c,i,s⟩:=k;rcases i.2 with⟨rfl,_⟩|⟨g,d,j,o,rfl,q,r,_,_,_,_,_⟩
  .exact YU L X B b p w c a
  .by_cases h:d=0
   .subst h;exact QT L X B b g p j w m c o r a
   .exact W5 L X B b g d p w h c a
 .exact ar0 L X B b p l w k n
end
section
open Builtin renaming unsafeSliceData_->aB
open List renaming length_append->bD,size_toArray->cB
open Nat renaming le_refl->aD,le_trans->bB,lt_of_lt_of_le->cD
open Go.RowKit
theorem R.setB {P:Program}{B:Base P}{μ:Mu}{Z:Hp}{w w':World}(h:R B μ Z w){x:Blk}{g:G}(S:Z.m b=O x)(ho:x.own=Za)(F:μ b=O g)(q:g.it=O .nilFunc){p':Value}(hp:p'= .pointer Y∨p'= .pointer (O ⟨g.c,0,Y⟩)){s:ByteArray}
  (hA:Lib.BuilderAtF g.ty P.rt.byte B.n g.c p' (Lib.strCells s) w') (hB:Below B.n w w') (N:Only g.c w w') (rest:List Value) (hr:rest=[]):R B μ (Z.set b<|O ⟨.string s::rest,Za,x.es⟩) w':=by
 subst hr;have hl:=h.get S F;have⟨hty,p0,s0,hp0,hcells,hA0⟩:=hl.bld q
 have old: ∀a i,a≠b->(Z.set b<|O ⟨[.string s],Za,x.es⟩).m a=O i->Z.m a=O i:=by
  intro a i z d;simpa[Hp.set,z]using d
 have new: ∀i,(Z.set b<|O ⟨[.string s],Za,x.es⟩).m b=O i->i=⟨[.string s],Za,x.es⟩:=by
  intro i d;simp[Hp.set]at d;exact d.symm
 have t: ∀a i,(Z.set b<|O ⟨[.string s],Za,x.es⟩).m a=O i->∃y,Z.m a=O y/\y.own=i.own:=by
  grind
 have cne: ∀a i l,a≠b->Z.m a=O i->μ a=O l->l.c≠g.c:=λa i l z d p e=>h.inj b a x i g l S d (λe=>z e.symm) ho F p e.symm
 have J: ∀a i l,a≠b->Z.m a=O i->μ a=O l->w'.heap[l.c]?=w.heap[l.c]?:=λa i l z d p=>
  N.oth _ (h.get d p).lt (cne a i l z d p) (λu=>(h.sep b x g S F q _ u a i l d p).1 rfl)
 have A: ∀a i l,a≠b->Z.m a=O i->μ a=O l->jd w' l.c=jd w l.c:=λa i l z d p=>by
  unfold jd;rw[J a i l z d p]
 refine⟨bB h.base hB.size,λk u=>(hB.block k u).trans<|h.old k u,h.fresh,λa i d=> ?_,λL M x1 x2 g1 T h1 h2 C V o j=> ?_,λL x1 g1 h1 o Q k u M x2 T h2 j=> ?_⟩
 .by_cases z:a=b
  .subst z;obtain rfl:=new i d;exact⟨g,F,⟨cD hl.lt N.size,hl.es,λU=>(by rw[q]at U;cases U),λU=>(by rw[q]at U;cases U),λs' hs=>(by rw[q]at hs;injection hs with hs;cases hs),λ_=>⟨hty,p',s,hp,rfl,hA⟩⟩⟩
  .have D:=old a i z d;have⟨l,W,k2⟩:=h.live a i D;refine⟨l,W,k2.kept N.size (J a i l z D W)<|λQ k u=>N.oth k (h.buf D W Q u).2.1 (λe=> ?_)<|λe=> ?_⟩
   .exact(h.sep a i l D W Q k u b x g S F).1 e.symm
   .exact(h.sep a i l D W Q k u b x g S F).2 (λe=>z e.symm) q e
 .obtain⟨y1,E,e1⟩:=t _ _ h1;have⟨X,r,_⟩:=t _ _ h2;exact h.inj L M y1 X g1 T E r C (e1.trans V) o j
 .obtain⟨y1,E,_⟩:=t _ _ h1;have⟨X,r,_⟩:=t _ _ h2;by_cases e1:L=b
  .subst e1;rw[F]at o;cases o;rcases N.buf k u with hk0|hk0
   .obtain⟨m1,m2⟩:=h.sep L x g S F q k hk0 M X T r j
    grind
   .refine⟨λe=>by have:=(h.get r j).lt;omega,λC K I=> ?_⟩;rw[A M X T C r j]at I;have:=(h.buf r j K I).2.1;omega
  .rw[A L y1 g1 e1 E o]at u;have⟨m1,m2⟩:=h.sep L y1 g1 E o Q k u M X T r j;refine⟨m1,λC K I=> ?_⟩;by_cases e2:M=b
   .subst e2;rw[F]at j;cases j;rcases N.buf k I with hk0|hk0
    .exact m2 C K hk0
    .have:=(h.buf E o Q u).2.1;omega
   grind
def Ul (s:ByteArray):ft (Lib.strCells s)=s.size:=Lib.strCells_length s
def Uk (a b:ByteArray):Lib.strCells a++Lib.strCells b=Lib.strCells (a++b):=by
 rw[Lib.strCells_eq,Lib.strCells_eq,Lib.strCells_eq,<-Lib.byteCells_append]
 congr 1
structure Blds (P:Program)(fw fs:FuncId):Prop where
 cw:yy P fw
 cs:yy P fs
 write: ∀(T:TypeId),JY P T=Za->∀(B b:Nat) (p:Value),(p= .pointer Y∨p= .pointer (O ⟨b,0,Y⟩))->∀(bs:List Value) (s:ByteArray) (w:World),Lib.BuilderAtF T P.rt.byte B b p bs w->ft bs+s.size<=140737488355328->B<=w.heap.size->
  Calls P fw #[.pointer<|O ⟨b,0,Y⟩, .string s] w λe w'=>e= .returned (.tuple #[.int .i64 s.size, .nilIface])/\(Lib.BuilderAtF T P.rt.byte B b (.pointer<|O ⟨b,0,Y⟩) (bs++Lib.strCells s) w'/\Below B w w'/\Only b w w')
 str: ∀(T:TypeId),JY P T=Za->∀(B b:Nat) (p:Value) (l:List UInt8) (w:World),Lib.BuilderAtF T P.rt.byte B b p (Lib.byteCells l) w->B<=w.heap.size->
  Calls P fs #[.pointer<|O ⟨b,0,Y⟩] w λe w'=>e= .returned (.string ⟨l.toArray⟩)/\(Lib.BuilderAtF T P.rt.byte B b p (Lib.byteCells l) w'/\Below B w w'/\Only b w w')
end
end Go.Ab
namespace Go.V
open Go.Ab Go.RowKit
open Option renaming some->O,none->Y
open Bool renaming true->Za,false->Zb
open Decidable renaming decide->Zc
open List renaming length->ft
section
open Builtin renaming unsafeSliceData_->aB
open List renaming length_append->bD,size_toArray->cB
open Nat renaming le_refl->aD,le_trans->bB,lt_of_lt_of_le->cD
def Q5 (a b:Nat):Bool:=Nat.ble (a+b) 140737488355328
def aw5 {β:Type}(args:List VV)(S:ak)(k:VV->ak->Option β):Option β:=match args with
 |[.bld q, .str s]=>(match ag S q with
  | .cells 1 Zb [.str l]=>gd (Q5 (ft l)<|ft s) (k (.tup [.int .i64<|ft s, .undef])<|kE S q<|.cells 1 Zb [.str<|l++s])
  |_=>Y)
 |_=>Y
def aw4 {β:Type}(args:List VV)(S:ak)(k:VV->ak->Option β):Option β:=match args with
 |[.bld q]=>(match ag S q with
  | .cells 1 Zb [.str l]=>k (.str l) S
  |_=>Y)
 |_=>Y
def bj4 (f:FuncId):Inl:=⟨f,λ_ a S k=>aw5 a S k⟩
def bj3 (f:FuncId):Inl:=⟨f,λ_ a S k=>aw4 a S k⟩
def VRel.bld_inv {c:Ctx}{q:Nat}{a:Value}(h:VRel c (.bld q) a): ∀d,(ag c.S q).dim=O d->∃b,c.μ q=O b/\a= .iface b .nilFunc:=by
 cases h with
 |bld _ _ e=>exact e
def aJ3 {μ:Mu}{b:Nat}{a:Value}(h:VR μ (.iface b .nilFunc) a): ∃g,μ b=O g/\g.it=O .nilFunc/\a= .pointer (O ⟨g.c,0,Y⟩):=by
 cases h with
 |iter d e=>exact⟨_,d,e,rfl⟩
theorem Om {P:Program}{fw fs:FuncId}(hP:Blds P fw fs):N2 P<|bj4 fw:=by
 intro B μ Z w args i K hs o ha;have⟨β,y,c,vals,k,h1,E,hf,a,hK⟩:=hs;subst h1;replace a:aw5 vals c.S k=O y:=a;unfold aw5 at a;split at a
 .rename_i q s;split at a
  .rename_i l F;obtain⟨M,a⟩:=az a;have hlen:=Nat.le_of_ble_eq_true M;cases hf with
   |cons f1 I=>
   cases I with
   |cons I f3=>
   cases f3;have h:(ag c.S q).dim=O (1,1):=by rw[F];rfl
   obtain⟨b,hm,rfl⟩:=f1.bld_inv _ h;obtain⟨m,rfl,t⟩:=I.str_inv;have⟨y0,cs,D,X,q3,q4,q5,q6⟩:=E.block (k:=q) (d:=(1,1)) h hm;rw[F]at q4 q6;simp only[Blk.vals]at q6;cases q6 with
   |cons r1 r2=>
   cases r2;obtain⟨C,rfl,A⟩:=r1.str_inv;generalize N:i.toList=cl at ha;cases ha with
   |cons k1 W=>
   cases W with
   |cons W k3=>
   cases k3;cases W;obtain⟨g,hg,z,rfl⟩:=aJ3 k1;have hc:i= #[.pointer<|O ⟨g.c,0,Y⟩, .string m]:=Array.toList_inj.1 N;subst hc;have T:=o.get X hg;have⟨U,p,s0,hp,j,hA⟩:=T.bld z;rw[q5]at j
   have r:D=[]/\C=s0:=by
    grind
   obtain⟨rfl,rfl⟩:=r
   have Q:ft (Lib.strCells C)+m.size<=140737488355328:=by
    rw[Ul,<-IF,<-IF,A,t];omega
   have ho:=q4 rfl;refine⟨hP.cw,(hP.write g.ty U B.n g.c p hp _ m w hA Q o.base).mono ?_⟩;rintro e w' ⟨rfl,u,x,J⟩;rw[Uk]at u;have L:=o.setB X ho hg z (.inr rfl) u x J [] rfl
   have V:Writes c q b (.cells 1 Zb [.str<|l++s]) ⟨[.string<|C++m],Za,y0.es⟩:=
    ⟨by rw[F];rfl,hm,by rw[F];rfl,rfl,y0,[.string<|C++m],[],(1,1),X,h,q3,rfl,by rw[q5];rfl,rfl, .cons (.str (by rw[<-A,<-t];exact Ov C m)) .nil⟩
   refine⟨.tuple #[.int .i64 m.size, .nilIface],_, .tuple #[.int .i64 m.size, .nilIface],μ,rfl,hK _ _ ⟨.tup [.int .i64<|ft s, .undef],_,rfl,V.le E,V.rel E,V.calm E<|Es<|ll (by rw[h];simp), .tup<|.cons ?_ (.cons (.undef _) .nil),a⟩,μ.le_refl,L, .tuple<|.cons (.int _ _)<|.cons .nili .nil,x,rfl⟩;rw[<-t,IF];exact .int _ _
  cases a
 cases a
theorem Ol {P:Program}{fw fs:FuncId}(hP:Blds P fw fs):N2 P<|bj3 fs:=by
 intro B μ Z w args i K hs m ha;have⟨β,y,c,vals,k,h1,I,hf,a,hK⟩:=hs;subst h1;replace a:aw4 vals c.S k=O y:=a;unfold aw4 at a;split at a
 .rename_i q;split at a
  .rename_i l x;cases hf with
   |cons f1 f3=>
   cases f3;have h:(ag c.S q).dim=O (1,1):=by rw[x];rfl
   obtain⟨b,hm,rfl⟩:=f1.bld_inv _ h;have⟨y0,cs,F,W,q3,q4,q5,X⟩:=I.block (k:=q) (d:=(1,1)) h hm;rw[x]at q4 X;simp only[Blk.vals]at X;cases X with
   |cons r1 r2=>
   cases r2;obtain⟨t,rfl,C⟩:=r1.str_inv;generalize Q:i.toList=cl at ha;cases ha with
   |cons k1 k3=>
   cases k3;obtain⟨g,hg,A,rfl⟩:=aJ3 k1;have hc:i= #[.pointer<|O ⟨g.c,0,Y⟩]:=Array.toList_inj.1 Q;subst hc;have T:=m.get W hg;have⟨U,p,s0,hp,j,hA⟩:=T.bld A;rw[q5]at j
   have o:F=[]/\t=s0:=by
    grind
   obtain⟨rfl,rfl⟩:=o;have ho:=q4 rfl;have L:Lib.BuilderAtF g.ty P.rt.byte B.n g.c p (Lib.byteCells t.data.toList) w:=hA;refine⟨hP.cs,(hP.str g.ty U B.n g.c p _ w L m.base).mono ?_⟩;rintro e w' ⟨rfl,J,u,M⟩;have N:=m.setB (s:=t) W ho hg A hp J u M [] rfl
   have V:Writes c q b (.cells 1 Zb [.str l]) ⟨[.string t],Za,y0.es⟩:=
    ⟨by rw[x];rfl,hm,by rw[x],rfl,y0,[.string t],[],(1,1),W,h,q3,rfl,by rw[q5];rfl,rfl, .cons (.str C) .nil⟩
   have r:kE c.S q (.cells 1 Zb [.str l])=c.S:=by
    rw[<-x];exact RX
   have D:=V.le I;have E:=V.rel I;have z:=V.calm I (d:=K2<|ft c.S)<|Es<|ll (by rw[h];simp);rw[r]at D E z;refine⟨.string t,_, .string t,μ, ?_,hK _ _ ⟨.str l,_,rfl,D,E,z, .str C,a⟩,μ.le_refl,N, .string _,u,rfl⟩;simp
  cases a
 cases a
def bc1 (n:Int):Zd:=u8I<|Lib.itoa n
def ac5 (n:Int):Option Zd:=gd (Zc (-9223372036854775808<=n)&&Zc (n<=9223372036854775807))<|O<|bc1 n
end
end Go.V
