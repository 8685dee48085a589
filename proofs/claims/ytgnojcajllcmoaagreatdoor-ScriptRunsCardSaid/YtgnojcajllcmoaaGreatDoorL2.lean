/- A part of the proof. No condition. -/
import Derived.Test.YtgnojcajllcmoaaGreatDoorD3
import Derived.Test.YtgnojcajllcmoaaGreatDoorA7
import Derived.KernelRfl
set_option linter.all false
namespace Go.V
open Go.Ab
open Option renaming some->O,none->Y
open Bool renaming true->Za,false->Zb
open Decidable renaming decide->Zc
open List renaming length_eq_zero_iff->dl
open List renaming mem_append->cI
open List renaming mem_cons->bf
open List renaming length->ft
open Int renaming toNat->fu
open Option renaming bind->gn
variable {i t x:Nat}{a v w:Int}{out rds st:Zd}
set_option maxRecDepth 100000
section
open Go.IntKind renaming wrap->zH,i64->zI,u64->zJ
open Bool renaming not_true->dA
open Int renaming zero_add->cN,add_assoc->cQ,mul_nonneg->cW,add_zero->dB,le_refl->dC,mul_comm->dD,mul_le_mul_of_nonneg_left->dE,ediv_le_self->dT,ediv_nonneg->dU,mul_ediv_self_le->dV,toNat_of_nonneg->dW,eq_ofNat_of_zero_le->eI,toNat_natCast->eJ
open List renaming getElem?_eq_getElem->aD,replicate->bB,getElem?_set_ne->cB,length_cons->cD,append_assoc->cK,getElem?_append_right->cL,length_append->cM,cons_append->cO,getElem_mem->cP,nil_append->cR,getElem_cons_drop->cT,range->cV,drop_length->cX,getElem?_set_self->cY,length->cZ,append_nil->dF,drop_append->dG,drop_of_length_le->dH,getD->dI,getElem?_drop->dJ,length_drop->dK,map_append->dL,set->dM,set_append_right->dN,take_append_drop->dO,take_left'->dP,any_cons->dX,any_nil->dY,dropLast_concat_getLast->dZ,length_take->eA,mem_cons->eC,range_succ->eD,take_succ_eq_append_getElem->eE,getElem?_cons_zero->eM,length_flatten->eN,map_replicate->eO,mem_append->eP,replicate_succ'->eQ,sum_replicate_nat->eR
open Nat renaming le_refl->aB,sub_self->bD,zero_add->cS,zero_le->cU,beq->dQ,eq_zero_or_pos->dR,mul_one->dS,mul_add->eF,mul_comm->eG,mul_le_mul_right->eH,add_sub_cancel->eT
abbrev bx :=Int×Int×Int×Int×Int
def bt :List bx->Nat->Option Nat
 |[],d=>O d
 |o::r,d=>if o.1<0∨7<o.1 then Y else if o.1=0 then(if d=0 then Y else bt r<|d-1)else if o.1=7 then bt r (d+1)else bt r d
def sv : ∀(l r:List bx) (d:Nat),bt (l++r) d=(bt l d).bind (bt r)
 |[],r,d=>rfl
 |o::l,r,d=>by
  simp only[cO,bt];split
  .rfl
  split
  .split
   .rfl
   .exact sv l r _
  split
  .exact sv l r _
  .exact sv l r _
def Ks : ∀(l:List bx) (d e:Nat),bt l d=O e->bt l (d+1)=O (e+1)
 |[],d,e,h=>by
  cases h;rfl
 |o::l,d,e,h=>by
  simp only[bt]at h⊢;split at h
  .cases h
  rename_i c;rw[zF c];split at h
  .rename_i f;rw[zE f];split at h
   .cases h
   .rename_i b;rw[Zh];have:=Ks l _ _ h
    rwa [show d-1+1=d+1-1 by omega]at this
  rename_i f;rw[zF f];split at h
  .rename_i b;rw[zE b];exact Ks l _ _ h
  .rename_i b;rw[zF b];exact Ks l _ _ h
def bh4 (l:List bx)(s:Int×Bool×Zd×Zd×Zd):Prop:=
 ∃(i:Nat) (out st:Zd),i<=ft l/\s=((i:Int),Za,out,st,st)/\ft out=ft l/\(∀x∈st,0<=x/\x<ft l)/\ft st<=i/\bt (l.drop i) (ft st)=bt l 0
def aY2 (h:st≠[]): ∃pre x,st=pre++[x]:=⟨st.dropLast,st.getLast h,(dZ h).symm⟩
def Yc {l:List bx}(J:l.length<=3518437208780)(s:Int×Bool×Zd×Zd×Zd)(h:bh4 l s):
  (∃b,dq l s=O (.inl b)/\bh4 l b/\l.length-b.1.toNat<l.length-s.1.toNat)∨∃c,dq l s=O (.inr c)/\((c.1=Zb/\bt l 0=Y)∨(c.1=Za/\bt l 0=O c.2.2.1.length)):=by
 obtain⟨i,out,st,hi,rfl,A,j,B,d⟩:=h;by_cases c:i<l.length
 .have o:l.drop i=l[i]::l.drop (i+1):=(cT c).symm;rw[o]at d;simp only[dq];rw[zB (show(i:Int)<(l.length:Int)by omega),zC,bq c];simp only[zG];generalize L:l[i]=x at*;simp only[bt]at d;by_cases D:x.1<0
  .rw[zE<|.inl D]at d;rw[zB D];simp only[zC,zG,gM];exact .inr ⟨_,rfl, .inl ⟨rfl,d.symm⟩⟩
  rw[zA D,zD];by_cases k:7<x.1
  .rw[zE<|.inr k]at d;rw[zB k];simp only[zC,zG,ci,gM];exact .inr ⟨_,rfl, .inl ⟨rfl,d.symm⟩⟩
  rw[zA k,zD];rw[Zh]at d;by_cases u:x.1=0
  .rw[zE u]at d;rw[zB u];simp only[zC,zG,ci];by_cases p:st.length=0
   .rw[zE p]at d;rw[zB (show(st.length:Int)=0 by omega)];simp only[zC,zG,gM];exact .inr ⟨_,rfl, .inl ⟨rfl,d.symm⟩⟩
   .rw[zF p]at d;rw[zA (show¬(st.length:Int)=0 by omega),zD];rw[ad (n:=(st.length:Int)-1) V1,Zl,bp];simp only[zG,ci];obtain⟨pre,q,rfl⟩:=aY2 (st:=st) (by intro e;subst e;exact p rfl);have H:=j q V2;have f:(pre++[q]).length=pre.length+1:=by simp
    have K:(((pre++[q]).length:Int)-1).toNat-0=pre.length:=by rw[f];omega
    have E:Zc (x.1=7)=Zb:=zA V1;rw[bl (show i<out.length by omega)];simp only[zG];rw[aD (show i<out.length by omega)];simp only[zG];rw[E,zD,show((pre++[q]).length:Int)-1=(pre.length:Int)by rw[f];omega,bl (show pre.length<(pre++[q]).length by omega)];simp only[zG];rw[cL<|aB _,bD];simp only[eM,zG];rw[bp,bl (show i<(out.set i<|-1).length by simp;omega)];simp only[zG];rw[aD (show i<(out.set i<|-1).length by simp;omega)];simp only[zG];obtain⟨r,rfl⟩:=eI H.1;have I:r<out.length:=by omega
    rw[bl (show r<((out.set i<|-1).set i ((r:Nat):Int)).length by simp;omega)];simp only[zG];rw[aD (show r<((out.set i<|-1).set i ((r:Nat):Int)).length by simp;omega)];simp only[zG]
    have C:(pre++[(r:Int)]).take ((pre.length:Int).toNat-0)=pre:=by
     rw[show(pre.length:Int).toNat-0=pre.length by omega,dP];rfl
    rw[C,ad (n:=(i:Int)+1) V1];refine .inl ⟨_,rfl,⟨i+1,_,pre,c,rfl,by simp[A],λy hy=>j y (by simp[hy]),by rw[f]at B;omega, ?_⟩,by simp;omega⟩;rw[f]at d;exact d
  .rw[zF u]at d;have F:Zc (x.1=0)=Zb:=zA u;rw[F];simp only[zD,zG,ci];rw[bl (show i<out.length by omega)];simp only[zG];rw[aD (show i<out.length by omega)];simp only[zG];by_cases k:x.1=7
   .rw[zE k]at d;rw[zB k];simp only[zC];rw[au V1 V1,au V1 V1,ad (n:=(i:Int)+1) V1];refine .inl ⟨_,rfl,⟨i+1,_,st++[(i:Int)],c,rfl,by simp[A],λy hy=> ?_,by simp;omega, ?_⟩,by simp;omega⟩
    .rcases cI.1 hy with hy|hy
     .exact j y hy
     .simp at hy;subst hy;omega
    .rw[cM];exact d
   .rw[zF k]at d;rw[zA k];simp only[zD];rw[ad (n:=(i:Int)+1) V1];exact .inl ⟨_,rfl,⟨i+1,_,st,c,rfl,by simp[A],j,V1,d⟩,by simp;omega⟩
 .have z:i=l.length:=by omega
  subst z;rw[cX]at d;simp only[dq];rw[zA (show¬(l.length:Int)<(l.length:Int)by omega),zD];exact .inr ⟨_,rfl, .inr ⟨rfl,d.symm⟩⟩
def Bq {l:List bx}(o:ft l<=3518437208780): ∃m,ko l=O (if bt l 0=O 0 then 0 else 6,m):=by
 unfold ko;rw[zB (show(0:Int)<=(ft l:Int)by omega),zB (show(ft l:Int)<=(ft l:Int)by omega),zB (show 8*(ft l:Int)<=140737488355328 by omega)];show∃m,gd Za _=_
 rw[bp]
 obtain⟨c,k,h⟩:=nq (f:=dq l) (a:=((0:Int),Za,bB (fu (ft l:Int)) (0:Int),([]:Zd),([]:Zd))) (bh4 l) (λs=>ft l-fu s.1) (λc=>(c.1=Zb/\bt l 0=Y)∨(c.1=Za/\bt l 0=O (ft c.2.2.1)))
  ⟨0,_,[],cU _,rfl,V2,(λx q=>by cases q),aB _,rfl⟩ V3 (λs p=>Yc o s p)
 rw[k,zG];rcases h with⟨b,d⟩|⟨b,d⟩
 .rw[b,d];exact⟨_,rfl⟩
 rw[b,d,zC];by_cases j:ft c.2.2.1=0
 .rw[zB (show(ft c.2.2.1:Int)=0 by omega),zE (by rw[j])];exact⟨_,rfl⟩
 rw[zA (show¬(ft c.2.2.1:Int)=0 by omega),zF ZX];exact⟨_,rfl⟩
def BP (w v:Int):Option Int:=if w=0 then O 0 else if 65536<w then Y else if 65536 / w<v then Y else O<|w*v
def tq :List bx->List (Int×Int)->Option (List<|Int×Int)
 |[],st=>O st
 |o::r,(v,w)::st=>if o.1=7 then tq r ((o.2.2.2.2,0)::(v,w)::st)else if o.1=0 then(match BP w v,st with
   |some n,(c,d)::b=>tq r ((c,d+n)::b)
   |_,_=>Y)
  else tq r ((v,w+1)::st)
 |_::_,[]=>Y
def PN (s:0<=w/\w<=10000000000)(f:0<=v/\v<=18446744073709551615):uH w v=O (match BP w v with
  |some n=>(n,Za)
  |none=>(0,Zb)):=by
 unfold uH BP;simp only[ah];by_cases b:w=0
 .rw[zE b,zE b]
 rw[zF b,zF b];by_cases c:65536<w
 .rw[zE c,zE c]
 rw[zF c,zF c,zB (show w≠0 from b),bp,ag0 V1];have h:0<=65536 / w:=dU V1 V1;have j:65536 / w<=65536:=dT _ V1;rw[ad (n:=65536 / w) V1,Zk];by_cases d:65536 / w<v
 .rw[zE d,zE d]
 .rw[zF d,zF d]
  have o:w*v<=65536:=by
   have e:v<=65536 / w:=by omega
   have p:=dE e (show 0<=w by omega);have q:=dV (x:=65536) (k:=w) V1;omega
  have r:=cW (show 0<=w by omega) f.1;rw[ad (n:=v) V1,ad (n:=w*v) V1]
def JL {n:Int}(d:0<=w)(c:0<=v)(h:BP w v=O n):0<=n/\n<=65536:=by
 unfold BP at h;split at h
 .injection h with h;subst h;omega
 split at h
 .cases h
 split at h
 .cases h
 rename_i e f j;cases h;have b:v<=65536 / w:=by omega
 have o:=dE b (show 0<=w by omega);have p:=dV (x:=65536) (k:=w) V1;exact⟨cW d c,V1⟩
def Is {k:Int}(h:0<k/\k<7)(d a b v:Int):jP k d a b v=O (d,Za):=by
 unfold jP qe;simp only[ah];have:k=1∨k=2∨k=3∨k=4∨k=5∨k=6:=by omega
 rcases this with rfl|rfl|rfl|rfl|rfl|rfl<;>rfl
def WX (a b:Int)(e:0<=a/\a<=1000000000000)(j:0<=b/\b<=65536):AL [a,b]=O (a+b):=by
 unfold AL
 have d:am (Cs [a,b]) cj (0,0)=O (a+b):=by
  have h:=bz (f:=Cs [a,b]) (n:=2) (λi=>match i with|0=>0|1=>a|_=>a+b) (c:=a+b) V1 ?_ ?_
  .exact h
  .intro i hi
   match i,hi with
   |0,_=>
    show O (Sum.inl (zH zI 1,zH zI<|0+a))=_;rw[Zi,Zi,cN];rfl
   |1,_=>
    show O (Sum.inl (zH zI 2,zH zI<|a+b))=_;rw[Zi,Zi];rfl
  rfl
 rw[d];rfl
def aY1 (l:List bx)(op:List<|Int×Int):List<|Int×Int:=op.reverse.map λp=>((l.getD (fu p.1) (0,0,0,0,0)).2.2.2.2,p.2)
def Az (l:List bx)(pre:List<|Int×Int)(p:Int×Int):aY1 l (pre++[p])=((l.getD (fu p.1) (0,0,0,0,0)).2.2.2.2,p.2)::aY1 l pre:=by
 unfold aY1;rw[List.reverse_append,dL];rfl
def bh8 (l:List bx)(s:Int×Zd×Zd×List (Int×Int)):Prop:=
 ∃(i:Nat) (sz rd:Zd) (b:List<|Int×Int),i<=ft l/\s=((i:Int),sz,rd,b)/\ft sz=ft l/\ft rd=ft l/\b≠[]/\ft b<=i+1/\(∀p∈b,0<=p.1/\p.1<max (ft l:Int) 1/\0<=p.2/\p.2<=65537*i)/\
  bt (l.drop i) (ft b-1)=O 0/\tq (l.drop i) (aY1 l b)=tq l [((l.getD 0 (0,0,0,0,0)).2.2.2.2,0)]
def ac1 {l:List bx}(h:i<ft l):l.getD i (0,0,0,0,0)=l[i]:=by
 rw[List.getD_eq_getElem?_getD,aD h];rfl
def TD {l:List bx}(hl:l.length<=100000)(hv: ∀o∈l,0<=o.2.2.2.2/\o.2.2.2.2<=18446744073709551615)(s:Int×Zd×Zd×List (Int×Int))(h:bh8 l s):
  (∃b,dg l s=O (.inl b)/\bh8 l b/\l.length-b.1.toNat<l.length-s.1.toNat)∨
  ∃c,dg l s=O (.inr c)/\((c.1=9/\tq l [((l.getD 0 (0,0,0,0,0)).2.2.2.2,0)]=Y)∨(c.1=0/\∃p:Int×Int,c.2.2.2=[p]/\0<=p.2/\tq l [((l.getD 0 (0,0,0,0,0)).2.2.2.2,0)]=O [((l.getD p.1.toNat (0,0,0,0,0)).2.2.2.2,p.2)])):=by
 obtain⟨i,sz,rds,op,hi,rfl,I,H,L,hol,A,j,f⟩:=h;obtain⟨pre,⟨r,w⟩,rfl⟩: ∃pre x,op=pre++[x]:=⟨op.dropLast,op.getLast L,(dZ L).symm⟩
 have q:=A (r,w) V2;simp only at q;have z:(pre++[(r,w)]).length=pre.length+1:=by simp
 rw[z]at hol j;rw[eT]at j
 have C:(pre++[(r,w)])[pre.length]?=O (r,w):=by
  rw[cL<|aB _,bD];rfl
 by_cases c:i<l.length
 .have F:l.drop i=l[i]::l.drop (i+1):=(cT c).symm;have hlv:=hv _<|cP c;have V:l.getD i (0,0,0,0,0)=l[i]:=ac1 c;rw[F]at j f;rw[Az]at f;simp only[dg];rw[zB (show(i:Int)<(l.length:Int)by omega),zC,bq c];simp only[zG];generalize hx:l[i]=x at*;simp only[bt]at j;simp only[tq]at f
  have hk: ¬(x.1<0∨7<x.1):=by
   intro hk;rw[zE hk]at j;cases j
  rw[zF hk]at j;rw[z,ad (n:=((pre.length+1:Nat):Int)-1) V1,show((pre.length+1:Nat):Int)-1=(pre.length:Int)by omega,bl (show pre.length<pre.length+1 by omega)];simp only[zG];by_cases J:x.1=7
  .rw[Zh,zE J]at j;rw[zE J]at f;rw[zB J,zC,au V1 V1,ad (n:=(i:Int)+1) V1];refine .inl ⟨_,rfl,⟨i+1,sz,rds,pre++[(r,w)]++[((i:Int),0)],c,rfl,I,H,V2,by simp;omega,λp hp=> ?_, ?_, ?_⟩,by simp;omega⟩
   .rcases cI.1 hp with hp|hp
    .have:=A p hp;omega
    .simp at hp;subst hp;simp only;omega
   .rw[cM,z];exact j
   .rw[Az,Az];simp only[eJ];rw[V];exact f
  .rw[zF J]at f;rw[zA J,zD];by_cases T:x.1=0
   .rw[zE T]at j f;rw[zB T,zC]
    have M:pre.length≠0:=by
     intro e;rw[zE e]at j;cases j
    rw[zF M]at j
    obtain⟨d,⟨k,u⟩,rfl⟩: ∃d x,pre=d++[x]:=by
     have D:pre≠[]:=by intro e;subst e;exact M rfl
     exact⟨pre.dropLast,pre.getLast D,(dZ D).symm⟩
    have K:(d++[(k,u)]).length=d.length+1:=by simp
    have B:=A (k,u) V2;simp only at B;obtain⟨y,rfl⟩:=eI q.1;have E:y<l.length:=by omega
    rw[C];simp only[zG];rw[bq E];simp only[zG];have Q:=hv _<|cP E;rw[PN ⟨q.2.2.1,V1⟩ Q];simp only[zG];rw[Az]at f;simp only[eJ]at f;rw[ac1 E]at f;cases W:BP w l[y].2.2.2.2 with
    |none=>
     rw[W]at f;simp only[Bool.not_false,zC];exact .inr ⟨_,rfl, .inl ⟨rfl,f.symm⟩⟩
    |some n=>
     rw[W]at f;have hn:=JL q.2.2.1 Q.1 W;simp only[dA,zD];rw[bl (show y<sz.length by omega)];simp only[zG];rw[aD (show y<sz.length by omega)];simp only[zG];rw[bl (show y<rds.length by omega)];simp only[zG];rw[aD (show y<rds.length by omega)];simp only[zG];rw[Zl,bp];have e1:((d++[(k,u)]).length:Int).toNat-0=d.length+1:=by rw[K];omega
     rw[e1,ad (n:=((d.length+1:Nat):Int)-1) V1,show((d.length+1:Nat):Int)-1=(d.length:Int)by omega,bl (show d.length<d.length+1 by omega)];simp only[zG,cS]
     have X:(d++[(k,u)]++[((y:Int),w)])[d.length]?=O (k,u):=by
      rw[cK,cL<|aB _,bD];rfl
     rw[X];simp only[zG];rw[WX _ _ V1 hn];simp only[zG]
     have htk:((d++[(k,u)]++[((y:Int),w)]).set d.length (k,u+n)).take (d.length+1)=d++[(k,u+n)]:=by
      rw[cK,dN _ _<|aB _,bD];show(d++[(k,u+n),((y:Int),w)]).take (d.length+1)=_;rw[show [(k,u+n),((y:Int),w)]=[(k,u+n)]++[((y:Int),w)]from rfl,<-cK,dP];simp
     rw[htk,ad (n:=(i:Int)+1) V1];refine .inl ⟨_,rfl,⟨i+1,_,_,d++[(k,u+n)],c,rfl,by simp[I],by simp[H],V2,by simp;omega,λp hp=> ?_, ?_, ?_⟩,by simp;omega⟩
     .rcases cI.1 hp with hp|hp
      .have:=A p Zz;omega
      .simp at hp;subst hp;simp only;omega
     .rw[K]at j;rw[cM];exact j
     .rw[Az];exact f
   .rw[zF T]at j f;rw[zF J]at j;rw[zA T,zD,Is V1];simp only[zG,zC];rw[bl (show i<sz.length by omega)];simp only[zG];rw[aD (show i<sz.length by omega)];simp only[zG];rw[C];simp only[zG];rw[ad (n:=w+1) V1,ad (n:=(i:Int)+1) V1]
    have N:(pre++[(r,w)]).set pre.length (r,w+1)=pre++[(r,w+1)]:=by
     rw[dN _ _<|aB _,bD];rfl
    rw[N];refine .inl ⟨_,rfl,⟨i+1,_,rds,pre++[(r,w+1)],c,rfl,by simp[I],H,V2,by simp;omega,λp hp=> ?_, ?_, ?_⟩,by simp;omega⟩
    .rcases cI.1 hp with hp|hp
     .have:=A p Zz;omega
     .simp at hp;subst hp;simp only;omega
    .rw[cM];exact j
    .rw[Az];exact f
 .have hi':i=l.length:=by omega
  subst hi';rw[cX]at j f;simp only[dg];rw[zA (show¬(l.length:Int)<(l.length:Int)by omega),zD]
  have hp:pre=[]:=by
   have j:O pre.length=O 0:=j;injection j with j
   exact dl.1 j
  subst hp;refine .inr ⟨_,rfl, .inr ⟨rfl,(r,w),rfl,q.2.2.1, ?_⟩⟩;rw[<-f];rfl
def Q9 (l:List bx):Option Int:=gn (tq l [((l.getD 0 (0,0,0,0,0)).2.2.2.2,0)]) λst=>match st with
 |[p]=>O p.2
 |_=>Y
def eb (l:List bx):Int×Int:=if bt l 0=O 0 then(match Q9 l with
 |some w=>if 65536<w then(0,9)else(w,0)
 |none=>(0,9))else(0,6)
def yp {l:List bx}(C:ft l<=100000)(E: ∀o∈l,0<=o.2.2.2.2/\o.2.2.2.2<=18446744073709551615):gz l=O (eb l):=by
 unfold gz kL;have⟨m,D⟩:=Bq (l:=l) V1;rw[D];unfold eb;by_cases k:bt l 0=O 0
 .simp only[zE k];simp only[zG];rw[zA V2,zD,zB (show(0:Int)<=(ft l:Int)by omega),zB (show(ft l:Int)<=(ft l:Int)by omega),zB (show 8*(ft l:Int)<=140737488355328 by omega)];have b: ∀{β:Type} {y:Option β},gd (dQ 1 (Sh.w<|.int .i64)&&Za&&Za&&Za&&Nat.ble 1 8) y=y:=λ{β y}=>rfl
  rw[b,b]
  have⟨c,B,h⟩:=nq (f:=dg l) (a:=((0:Int),bB (fu (ft l:Int)) (0:Int),bB (fu (ft l:Int)) (0:Int),[((0:Int),(0:Int))])) (bh8 l) (λs=>ft l-fu s.1) _
   ⟨0,_,_,[(0,0)],cU _,rfl,V2,V2,V2,V2,(λp q=>by simp at q;subst q;simp only;omega),k,rfl⟩ V3 (λs h=>TD C E s h)
  rw[B,zG];unfold Q9;rcases h with⟨j,u⟩|⟨j,p,z,F,A⟩
  .rw[j,u];rfl
  rw[j,A,z];show(gn (gn (cond (Zc<|65536<p.2) (O (9:Int))<|O 0) λd=>cond (Zc<|d≠0) (O ((0:Int),d,([]:Zd),([]:Zd)))<|O (p.2,0,c.2.1,c.2.2.1)) λr=>O (r.1,r.2.1))=O (if 65536<p.2 then(0,9)else(p.2,0));rw[ah];by_cases e:65536<p.2
  .rw[zE e,zE e];rfl
  rw[zF e,zF e];rfl
 simp only[zF k];rfl
def DA : ∀(l r:List bx) (st:List<|Int×Int),tq (l++r) st=(tq l st).bind (tq r)
 |[],r,st=>rfl
 |o::l,r,[]=>rfl
 |o::l,r,(v,w)::st=>by
  simp only[cO,tq];split
  .exact DA l r _
  split
  .split
   .exact DA l r _
   .rfl
  .exact DA l r _
def ac8 (v w:Int)(b:List<|Int×Int):List (Int×Int)->List (Int×Int)
 |[]=>[]
 |[p]=>(v,w+p.2)::b
 |p::q::r=>p::ac8 v w b (q::r)
def Rw (v w:Int)(c:List<|Int×Int)(p:Int×Int): ∀d:List<|Int×Int,ac8 v w c (d++[p])=d++(v,w+p.2)::c
 |[]=>rfl
 |[a]=>rfl
 |a::b::r=>by
  show a::ac8 v w c (b::r++[p])=_;rw[Rw v w c p<|b::r];rfl
def tJ (v w:Int)(b:List<|Int×Int): ∀(l:List bx) (f:List<|Int×Int) (d:Int) (e:Nat),bt l (ft f)=O e->tq l (f++(v,w+d)::b)=(tq l<|f++[(0,d)]).map (ac8 v w b)
 |[],f,d,e,_=>by
  show O _=O _;rw[Rw]
 |o::l,[],d,e,h=>by
  simp only[bt,List.length_nil]at h;simp only[cR,tq];split at h
  .cases h
  split at h
  .rw[zE trivial]at h;cases h
  rename_i r j;split at h
  .rename_i c;rw[zE c,zE c];exact tJ v w b l [(o.2.2.2.2,0)] d e h
  .rename_i c;rw[zF c,zF j,zF c,zF j,cQ];exact tJ v w b l [] (d+1) e h
 |o::l,(k,p)::f,d,e,h=>by
  simp only[bt,cD]at h;simp only[cO,tq];split at h
  .cases h
  split at h
  .rename_i r j;rw[Zh]at h;rw[Zh,zE j,Zh,zE j];cases s:BP p k with
   |none=>rfl
   |some n=>
    cases f with
    |nil=>
     simp only[cR];rw[cQ];exact tJ v w b l [] (d+n) e h
    |cons q f=>
     simp only[cO];exact tJ v w b l ((q.1,q.2+n)::f) d e h
  rename_i r j;split at h
  .rename_i c;rw[zE c,zE c];exact tJ v w b l ((o.2.2.2.2,0)::(k,p)::f) d e h
  .rename_i c;rw[zF c,zF j,zF c,zF j];exact tJ v w b l ((k,p+1)::f) d e h
def Kr : ∀(l:List bx) (st b:List<|Int×Int) (d f:Nat),ft st=d+1->bt l d=O f->tq l st=O b->ft b=f+1
 |[],st,b,d,f,h,c,e=>by
  injection c with c
  injection e with e
  subst c;subst e;exact h
 |o::l,[],b,d,f,h,_,_=>by simp at h
 |o::l,(v,w)::st,b,d,f,h,c,e=>by
  simp only[bt]at c;simp only[tq]at e;simp only[cD,Nat.add_right_cancel_iff]at h;split at c
  .cases c
  split at c
  .rename_i p k;split at c
   .cases c
   rw[Zh,zE k]at e;split at e
   .rename_i j _ _ n r s q _;exact Kr l _ b (d-1) f (by simp at h⊢;omega) c e
   .cases e
  rename_i p k;split at c
  .rename_i j;rw[zE j]at e;exact Kr l _ b (d+1) f V3 c e
  .rename_i j;rw[zF j,zF k]at e;exact Kr l _ b d f V3 c e
def Nq : ∀(l:List bx) (st b:List<|Int×Int),(∀o∈l,0<=o.2.2.2.2)->(∀p∈st,0<=p.1/\0<=p.2)->tq l st=O b->∀p∈b,0<=p.2
 |[],st,b,_,h,c=>by
  cases c;exact λp hp=>(h p hp).2
 |o::l,[],b,_,_,c=>by cases c
 |o::l,(v,w)::st,b,q,h,c=>by
  have f:=h (v,w) V2;have d: ∀p∈st,0<=p.1/\0<=p.2:=λp hp=>h p Zz
  have e: ∀k∈l,0<=k.2.2.2.2:=λk j=>q k (by simp[j])
  simp only at f;simp only[tq]at c;split at c
  .refine Nq l _ b e (λp hp=> ?_) c;rcases bf.1 hp with rfl|hp
   .exact⟨q o V2,dC _⟩
   .exact h p hp
  split at c
  .split at c
   .rename_i n u y s r;have z:=JL f.2 f.1 r;refine Nq l _ b e (λp hp=> ?_) c;rcases bf.1 hp with rfl|hp
    .have:=d (u,y) V2;simp only at this⊢;omega
    .exact d p Zz
   .cases c
  .refine Nq l _ b e (λp hp=> ?_) c;rcases bf.1 hp with rfl|hp
   .simp only;omega
   .exact h p Zz
def Iy {l:List bx}(h:bt l 0=O 0)(v w:Int)(b:List<|Int×Int):tq l ((v,w)::b)=(Q9 l).map λm=>(v,w+m)::b:=by
 have c:=tJ v w b l [] 0 0 h;rw[cR,cR,dB]at c;have d:=tJ ((l.getD 0 (0,0,0,0,0)).2.2.2.2) 0 [] l [] 0 0 h;rw[cR,cR,dB]at d;unfold Q9;rw[c,d];cases f:tq l [(0,0)]with
 |none=>rfl
 |some st=>
  have e:=Kr l _ st 0 0 rfl h f
  match st,e with
  |[p],_=>
   show O ((v,w+p.2)::b)=O ((v,w+(0+p.2))::b);rw[cN]
def L6 {l:List bx}(e: ∀o∈l,0<=o.2.2.2.2){m:Int}(h:bt l 0=O 0)(d:Q9 l=O m):0<=m:=by
 have b:=Iy h 0 0 [];rw[d]at b;have:=Nq l _ _ e (λp c=>by simp at c;subst c;simp) b (0,0+m) V2;simp only at this;omega
def IW {l:List bx}(y:l.length<=100000):qN l=O (Zc<|bt l 0=O 0):=by
 unfold qN
 obtain⟨c,r,h⟩:=nq (f:=yC l) (a:=((0:Int),(0:Int))) (λs=> ∃i d:Nat,i<=l.length/\d<=i/\s=((i:Int),(d:Int))/\bt (l.drop i) d=bt l 0) (λs=>l.length-s.1.toNat)
  (λc=>(c= .inl Zb/\bt l 0=Y)∨∃d:Nat,c= .inr (d:Int)/\bt l 0=O d) ⟨0,0,cU _,aB _,rfl,rfl⟩ V3 (by
  rintro _ ⟨i,d,hi,u,rfl,b⟩;simp only[yC,ah];by_cases c:i<l.length
  .rw[(cT c).symm]at b;rw[Zg,bq c];simp only[zG];generalize l[i]=x at*;simp only[bt]at b;by_cases p:x.1<0
   .rw[zE<|.inl p]at b;rw[zE p];exact .inr ⟨_,rfl, .inl ⟨rfl,b.symm⟩⟩
   rw[zF p];by_cases q:7<x.1
   .rw[zE<|.inr q]at b;rw[zE q];exact .inr ⟨_,rfl, .inl ⟨rfl,b.symm⟩⟩
   rw[Zh]at b;rw[zF q];by_cases o:x.1=0
   .rw[zE o]at b;rw[Zh];simp only[zG];rw[zE o,ad (n:=(d:Int)-1) V1,ad (n:=(i:Int)+1) V1];by_cases k:d=0
    .rw[zE k]at b;rw[Zg];exact .inr ⟨_,rfl, .inl ⟨rfl,b.symm⟩⟩
    rw[zF k]at b;rw[Zh];exact .inl ⟨_,rfl,⟨i+1,d-1,c,V1,by rw[show((d-1:Nat):Int)=(d:Int)-1 by omega];rfl,b⟩,by simp;omega⟩
   rw[zF o]at b;by_cases j:x.1=7
   .rw[zE j]at b;rw[zE j];simp only[zG];rw[zF o,ad (n:=(d:Int)+1) V1,ad (n:=(i:Int)+1) V1,Zh];exact .inl ⟨_,rfl,⟨i+1,d+1,c,V1,rfl,b⟩,by simp;omega⟩
   rw[zF j]at b;rw[zF j];simp only[zG];rw[zF o,ad (n:=(i:Int)+1) V1,Zh];exact .inl ⟨_,rfl,⟨i+1,d,c,V1,rfl,b⟩,by simp;omega⟩
  have:i=l.length:=by omega
  subst this;rw[cX]at b;rw[Zh]
  exact .inr ⟨_,rfl, .inr ⟨d,rfl,b.symm⟩⟩)
 rw[r];rcases h with⟨rfl,h⟩|⟨d,rfl,h⟩
 .rw[h];rfl
 rw[h];show O (Zc<|(d:Int)=0)=O (Zc<|O d=O 0)
 congr 1
 rw[decide_eq_decide];constructor
 .intro e;have:d=0:=by omega
  rw[this]
 intro e;injection e with e;omega
def EW : ∀(n:Nat) (s:List bx) (d:Nat),ft s<=n->bt s (d+1)=O 0->∃inner e rest,s=inner++e::rest/\e.1=0/\bt inner 0=O 0/\bt rest d=O 0
 |n,[],d,_,h=>by
  injection h with h
  omega
 |0,o::s,d,f,_=>by simp at f
 |n+1,o::s,d,f,h=>by
  simp only[cD]at f;simp only[bt]at h;split at h
  .cases h
  rename_i B;split at h
  .rename_i j;rw[Zh]at h;exact⟨[],o,s,rfl,j,rfl,h⟩
  rename_i j;split at h
  .rename_i r;have⟨p,b,q,k,u,y,z⟩:=EW n s (d+1) V1 h;have c:ft q<=n:=by rw[k]at f;simp at f;omega
   have⟨A,C,I,D,E,F,H⟩:=EW n q d c z;refine⟨o::p++b::A,C,I, ?_,E, ?_,H⟩
   .rw[k,D];simp
   .show bt (o::(p++b::A)) 0=_;simp only[bt];rw[zF B,zF j,zE r,sv,Ks _ _ _ y];show bt (b::A) 1=_;simp only[bt];rw[Zh,zE u,Zh];exact F
  .rename_i r;have⟨p,b,q,k,u,y,z⟩:=EW n s d V1 h;refine⟨o::p,b,q,by rw[k];rfl,u, ?_,z⟩;simp only[bt];rw[zF B,zF j,zF r];exact y
def Al {s u E F:List bx}{e1 y:bx}(h:s++e1::E=u++y::F)(z:bt s 0=O 0)(A:bt u 0=O 0)(p:e1.1=0)(r:y.1=0):s=u:=by
 have k: ∀{a b:List bx} {e:bx} {x:List bx},a++e::x=b->e.1=0->bt a 0=O 0->bt b 0=O 0->False:=by
  intro a b e x o D C f;rw[<-o,sv,C]at f;have f:bt (e::x) 0=O 0:=f;simp only[bt]at f;rw[Zh,zE D,zE trivial]at f;cases f
 rcases List.append_eq_append_iff.1 h with⟨j,d,c⟩|⟨j,d,c⟩
 .cases j with
  |nil=>rw[dF]at d;exact d.symm
  |cons q j=>
   rw[cO]at c;injection c with c B
   subst c;exact(k d.symm p z A).elim
 cases j with
 |nil=>rw[dF]at d;exact d
 |cons q j=>
  rw[cO]at c;injection c with c B
  subst c;exact(k d.symm r A z).elim
def Of {l:List bx}(h:bt l 0=O 0)(hi:i<=ft l): ∃d,bt (l.take i) 0=O d/\bt (l.drop i) d=O 0:=by
 rw[<-dO i l,sv]at h;have⟨d,b,c⟩:=ai h;exact⟨d,b,c⟩
def U7 {l:List bx}(h:bt l 0=O 0)(hi:i<ft l)(k:l[i].1=7): ∃inner e rest,l.drop (i+1)=inner++e::rest/\e.1=0/\bt inner 0=O 0:=by
 have⟨d,_,b⟩:=Of h (i:=i) V1;rw[(cT hi).symm]at b;simp only[bt]at b;rw[Zh,Zh,zE k]at b;have⟨inner,e,rest,c,f,j,_⟩:=EW _ _ d (aB _) b;exact⟨inner,e,rest,c,f,j⟩
structure MOK (l:List bx)(m:Zd):Prop where
 len:ft m=ft l
 at': ∀i,(hi:i<ft l)->l[i].1=7->∀inner e rest,l.drop (i+1)=inner++e::rest->e.1=0->bt inner 0=O 0->m[i]?=O ((i+1+ft inner:Nat):Int)
def aX1 {l:List bx}(L:l.length<=100000)(hi:i<l.length){inner rest:List bx}{e:bx}(h:l.drop (i+1)=inner++e::rest)(H:e.1=0)(E:bt inner 0=O 0):am (mP l) cj (1,(i:Int))=O ((i+1+inner.length:Nat):Int):=by
 have D:l.length=i+1+inner.length+1+rest.length:=by
  have:=congrArg cZ h;rw[dK]at this;simp at this;omega
 have r: ∀j,j<inner.length+1->∃x,rd l ((i+1+j:Nat):Int)=O x/\(inner++e::rest)[j]?=O x:=by
  intro j q;have s:i+1+j<l.length:=by omega
  refine⟨l[i+1+j],bq s, ?_⟩;rw[<-h,dJ,aD s]
 have u: ∀j,j<=inner.length->∃d,bt (inner.take j) 0=O d:=by
  intro j q;obtain⟨d,b,_⟩:=Of E q;exact⟨d,b⟩
 let c:Nat->Nat:=λj=>(bt (inner.take j) 0).getD 0
 have o: ∀j,j<=inner.length->bt (inner.take j) 0=O (c j):=by
  intro j q;obtain⟨d,F⟩:=u j q;show _=O ((bt (inner.take j) 0).getD 0);rw[F];rfl
 have A: ∀j,c j<=j∨inner.length<j:=by
  intro j;induction j with
  |zero=>exact .inl (aB _)
  |succ j M=>
   by_cases q:j+1<=inner.length
   .left;have b:=o (j+1) q;rw[eE (show j<inner.length by omega),sv,o j V1]at b;have b:bt [inner[j]] (c j)=O (c<|j+1):=b;simp only[bt]at b;split at b
    .cases b
    split at b
    .split at b
     .cases b
     injection b with b;omega
    split at b
    .injection b with b;omega
    injection b with b;omega
   right;omega
 refine IQ (f:=mP l) (n:=inner.length+1) (λj=>if j<=inner.length then((1+c j:Nat),((i+j:Nat):Int))else(0,((i+1+inner.length:Nat):Int))) V1 (λj q=> ?_) ?_
 .have K:=A j;rw[zE (show j<=inner.length by omega)];obtain⟨x,B,k⟩:=r j V1;simp only[mP,ah];rw[Zg,ad (n:=((i+j:Nat):Int)+1) V1,show((i+j:Nat):Int)+1=((i+1+j:Nat):Int)by omega,B];simp only[zG];by_cases p:j<inner.length
  .rw[List.getElem?_append_left p,aD p]at k;injection k with k
   have b:=o (j+1) p;rw[eE p,sv,o j V1]at b;have b:bt [inner[j]] (c j)=O (c<|j+1):=b;rw[k]at b;simp only[bt]at b;rw[zE (show j+1<=inner.length by omega)];split at b
   .cases b
   split at b
   .rename_i J y;split at b
    .cases b
    injection b with b
    rw[Zh,zE y,Zi]
    congr 3<;>omega
   rename_i J y;split at b
   .rename_i C;injection b with b
    rw[zE C,zF y,Zi]
    congr 3<;>omega
   rename_i C;injection b with b
   rw[zF C,zF y]
   congr 3<;>omega
  have z:j=inner.length:=by omega
  subst z;rw[cL<|aB _,bD]at k;injection k with k
  subst k
  have I:c inner.length=0:=by
   have:=o inner.length<|aB _;rw[List.take_length,E]at this;injection this with this
   exact this.symm
  rw[Zh,zE H,zF (show¬inner.length+1<=inner.length by omega),I,Zi];rfl
 rw[Zh];simp only[mP,ah];rw[Zh]
def GU {l:List bx}(J:ft l<=100000):(bt l 0=O 0/\∃m,jj l=O (0,m)/\MOK l m)∨(bt l 0≠O 0/\jj l=O (6,[])):=by
 unfold jj;rw[IW J,zG];by_cases z:bt l 0=O 0
 .left;refine⟨z, ?_⟩;rw[zB z];simp only[dA,zD]
  have V:am (mO l) cj (0,[])=O (bB (ft l)<|-1):=by
   have h:=bz (f:=mO l) (n:=ft l) (λi=>bB i (-1:Int)) (c:=bB (ft l)<|-1) V1 ?_ ?_
   .exact h
   .intro i hi;simp only[mO,ah];rw[Zg,au V3 V1,Zi,eQ];rfl
   simp only[mO,ah];rw[Zh]
  rw[V,zG]
  have⟨c,W,h⟩:=nq (f:=wz l) (a:=((0:Int),bB (ft l) (-1:Int))) (λs=> ∃(i:Nat) (out:Zd),i<=ft l/\s=((i:Int),out)/\ft out=ft l/\∀j,j<i->(y:j<ft l)->l[j].1=7->∀b e o,l.drop (j+1)=b++e::o->e.1=0->bt b 0=O 0->out[j]?=O ((j+1+ft b:Nat):Int)) (λs=>ft l-fu s.1)
   (λc=>MOK l c) ⟨0,_,cU _,rfl,V2,λj y=>by omega⟩ V3 (by
   rintro _ ⟨i,out,hi,rfl,H,k⟩;simp only[wz,ah];by_cases c:i<ft l
   .rw[Zg,bq c,zG];by_cases C:l[i].1=7
    .obtain⟨b,e,o,A,D,I⟩:=U7 z c C
     have K:ft l=i+1+ft b+1+ft o:=by
      have:=congrArg cZ A;rw[dK]at this;simp at this;omega
     rw[zF (by simp[C]),aX1 J c A D I,zG,bl (show i<(ft out) by omega),zG,aD (show i<(ft out) by omega),zG,bl (show i+1+ft b<(ft<|out.set i ((i+1+ft b:Nat):Int)) by simp;omega),zG,aD (show i+1+ft b<(ft<|out.set i ((i+1+ft b:Nat):Int)) by simp;omega),zG,ad (n:=(i:Int)+1) V1];refine .inl ⟨_,rfl,⟨i+1,_,c,rfl,by simp[H],λj y r d q Q u L M N=> ?_⟩,by simp;omega⟩
     have E:l[i+1+ft b].1=0:=by
      have B:(l.drop<|i+1)[ft b]?=O e:=by
       rw[A,cL<|aB _,bD];rfl
      rw[dJ,aD (show i+1+ft b<(ft l) by omega)]at B;injection B with B
      rw[B];exact D
     have F:i+1+ft b≠j:=by
      intro T;subst T;rw[E]at d;cases d
     rw[cB F];by_cases p:i=j
     .subst p;have:=Al (A.symm.trans L) I N D M;subst this;rw[cY V1]
     rw[cB p];exact k j V1 r d q Q u L M N
    rw[zE C,ad (n:=(i:Int)+1) V1];refine .inl ⟨_,rfl,⟨i+1,out,c,rfl,H,λj y r d=> ?_⟩,by simp;omega⟩;by_cases p:j=i
    .subst p;exact(C d).elim
    exact k j V1 r d
   have:i=ft l:=by omega
   subst this;rw[Zh]
   exact .inr ⟨_,rfl,H,λj y d=>k j y y d⟩)
  rw[W];exact⟨c,rfl,h⟩
 right;refine⟨z, ?_⟩;rw[zA z];rfl
def ad2 {α β:Type}{f:α->β}(c: ∀a b,f a=f b->a=b){x y:Option α}(h:x.map f=y.map f):x=y:=by
 cases x with
 |none=>cases y with
  |none=>rfl
  |some b=>cases h
 |some a=>cases y with
  |none=>cases h
  |some b=>
   injection h with h
   rw[c _ _ h]
def Wf (v c:Int)(d:List<|Int×Int): ∀a b:Int,(v,c+a)::d=(v,c+b)::d->a=b:=by
 intro a b h;injection h with h
 injection h with _ h
 omega
def QW {o:bx}{s:List bx}(h:bt (o::s) 0=O 0)(d:o.1≠7):bt s 0=O 0/\(0<o.1/\o.1<7)/\Q9 (o::s)=(Q9 s).map (1+ ·):=by
 have c:=Iy h 0 0 [];simp only[bt]at h;split at h
 .cases h
 rename_i e;split at h
 .rw[zE trivial]at h;cases h
 rename_i b;refine⟨h,V1,ad2 (Wf 0 0 []) ?_⟩;rw[<-c];simp only[tq];rw[zF d,zF b,Iy h];cases Q9 s with
 |none=>rfl
 |some m=>
  show O [((0:Int),0+1+m)]=O [((0:Int),0+(1+m))];rw[cQ]
def Sq {o e:bx}{inner rest:List bx}(h:bt (o::(inner++e::rest)) 0=O 0)(d:o.1=7)(c:e.1=0)(hi:bt inner 0=O 0):
  bt rest 0=O 0/\Q9 (o::(inner++e::rest))=gn (Q9 inner) λw=>gn (BP w o.2.2.2.2) λb=>(Q9 rest).map (b+ ·):=by
 have f:=Iy h 0 0 [];simp only[bt]at h;rw[Zh,Zh,zE d,sv,Ks _ _ _ hi]at h;have h:bt (e::rest) 1=O 0:=h;simp only[bt]at h;rw[Zh,zE c,Zh]at h;have h:bt rest 0=O 0:=h;refine⟨h,ad2 (Wf 0 0 []) ?_⟩;rw[<-f];simp only[tq];rw[zE d,DA,Iy hi];cases Q9 inner with
 |none=>rfl
 |some w=>
  show tq (e::rest) [(o.2.2.2.2,0+w),(0,0)]=_;simp only[tq];rw[Zh,zE c,cN,zG];cases BP w o.2.2.2.2 with
  |none=>rfl
  |some b=>
   simp only[zG];rw[Iy h];cases Q9 rest with
   |none=>rfl
   |some m=>
    show O [((0:Int),0+b+m)]=O [((0:Int),0+(b+m))];rw[cQ]
def Yv {k:Int}(h:0<k/\k<7): ∃x,gF k=O (Za,x):=by
 have:k=1∨k=2∨k=3∨k=4∨k=5∨k=6:=by omega
 rcases this with rfl|rfl|rfl|rfl|rfl|rfl<;>exact⟨_,rfl⟩
def I0 (t:Int):Int:=if 65536<t then 65537 else t
def aj7 (w v:Int):Int:=if I0 w=0 then 0 else if v=0 then 0 else if 65536<v then 65537 else if 65536<I0 w*v then 65537 else I0 w*v
def JO {b:Int}(o:0<=w)(u:0<=v)(h:BP w v=O b):aj7 w v=b/\w<=65536:=by
 unfold BP at h;unfold aj7;split at h
 .rename_i c;cases h;subst c;exact⟨by rw[zE (show I0 0=0 from rfl)],V1⟩
 split at h
 .cases h
 split at h
 .cases h
 rename_i c e p;injection h with h
 have j:I0 w=w:=zF e;rw[j,zF c];have s:65536 / w<=65536:=dT _ V1;have f:v<=65536 / w:=by omega
 have q:=dE f o;have r:=dV (x:=65536) (k:=w) c;refine⟨?_,V1⟩;by_cases d:v=0
 .rw[zE d,<-h,d,Int.mul_zero]
 rw[zF d,Zh,Zh,h]
def ax0 (k:0<=w)(p:0<=v)(h:BP w v=Y):65536<w∨aj7 w v=65537:=by
 unfold BP at h;split at h
 .cases h
 rename_i e;split at h
 .rename_i c;exact .inl c
 rename_i c;split at h
 .rename_i f;right;unfold aj7;have j:I0 w=w:=zF c;have b:=Int.lt_mul_of_ediv_lt (show 0<w by omega) f;rw[dD]at b;have o:0<=65536 / w:=dU V1 k;rw[j,zF e,Zh];by_cases d:65536<v
  .rw[zE d]
  rw[zF d,zE b]
 cases h
def WOK (l:List bx)(m:Zd)(N:Nat):Prop:= ∀f,2*N<f->∀A seg B,l=A++seg++B->ft seg<N->bt seg 0=O 0->
 ∃r,(cd f).1 l m (ft A:Int) ((ft A+ft seg:Nat):Int)=O r/\0<=r/\r<=65537/\∀t,Q9 seg=O t->r=I0 t
section
variable {l:List bx} {m:Zd}
def U8 (X:l.length<=2000)(J: ∀o∈l,0<=o.2.2.2.2/\o.2.2.2.2<=18446744073709551615)(A:MOK l m){N:Nat}(h:WOK l m N){f:Nat}(W:2*N+1<f)(hi:i<l.length)(I:l[i].1=7){inner rest:List bx}{e:bx}(p:l.drop (i+1)=inner++e::rest)(H:e.1=0)(B:bt inner 0=O 0)(F:inner.length<N):
  ∃r,(cd f).2 l m (i:Int)=O r/\0<=r/\r<=65537/\∀w,Q9 inner=O w->r=aj7 w l[i].2.2.2.2:=by
 obtain⟨g,rfl⟩: ∃g,f=g+1:=⟨f-1,V1⟩
 have z:l.length=i+1+inner.length+1+rest.length:=by
  have:=congrArg cZ p;rw[dK]at this;simp at this;omega
 have q:=A.at' i hi I inner e rest p H B
 have b:l=l.take (i+1)++inner++e::rest:=by
  rw[cK,<-p,dO]
 have E:(l.take<|i+1).length=i+1:=by rw[eA];omega
 obtain⟨d,u,y,C,D⟩:=h g V1 (l.take<|i+1) inner (e::rest) b F B;rw[E]at u
 have s:rd m (i:Int)=O ((i+1+inner.length:Nat):Int):=by
  have j:i<m.length:=by rw[A.len];exact hi
  rw[bq j,<-q,aD j]
 have c:=J _<|cP hi;show∃r,Cm ((cd g).1) ((cd g).2) l m i=O r/\_
 unfold Cm;rw[s];simp only[zG];rw[ad (n:=(i:Int)+1) V1,show(i:Int)+1=((i+1:Nat):Int)by omega,u];simp only[zG,ah];rw[bq hi];simp only[zG];generalize l[i].2.2.2.2=v at*
 have k:(if d=0 then O 0 else if v=0 then O 0 else if 65536<v then O 65537 else if 65536<IntKind.i64.wrap (d*zH zI v)then O 65537 else O<|zH zI<|d*zH zI v)=
   O (if d=0 then 0 else if v=0 then 0 else if 65536<v then 65537 else if 65536<d*v then 65537 else d*v):=by
  split
  .rfl
  split
  .rfl
  split
  .rfl
  rename_i L M Q;have T:=Int.mul_le_mul C (show v<=65536 by omega) c.1 V1;have V:=cW y c.1;rw[ad (n:=v) V1,Zi];split<;>rfl
 rw[k];refine⟨_,rfl, ?_, ?_,λw K=> ?_⟩
 .split
  .omega
  split
  .omega
  split
  .omega
  split
  .omega
  .exact cW y c.1
 .split
  .omega
  split
  .omega
  split
  .omega
  split<;>omega
 .rw[D w K];rfl
def Hc (hl:l.length<=2000)(E: ∀o∈l,0<=o.2.2.2.2/\o.2.2.2.2<=18446744073709551615)(W:MOK l m){N:Nat}(h:WOK l m N){g:Nat}(hg:2*N+1<g)(hi:Nat): ∀(k:Nat) (pre seg B:List bx) (n:Int) (F:Nat),l=pre++seg++B->seg.length<=k->seg.length<=N->seg.length<F->bt seg 0=O 0->hi=pre.length+seg.length->0<=n/\n<=65536->
  ∃c,am (pJ ((cd g).2) l m hi) F ((pre.length:Int),n)=O c/\(c= .inl ()∨∃r,c= .inr r/\0<=r/\r<=65536)/\∀t,Q9 seg=O t->c=if 65536<n+t then .inl ()else .inr (n+t)
 |k,pre,[],B,n,0,_,_,_,z,_,_,_=>by simp at z
 |k,pre,[],B,n,F+1,d,_,_,_,L,hh,hn=>by
  refine⟨.inr n, ?_, .inr ⟨n,rfl,hn⟩,λt j=> ?_⟩
  .rw[bh];simp only[pJ,ah];rw[zF (by simp at hh;omega)];rfl
  .injection j with j
   subst j;rw[dB,Zh]
 |0,pre,o::seg,B,n,F,_,hk,_,_,_,_,_=>by simp at hk
 |k+1,pre,o::seg,B,n,0,_,_,_,z,_,_,_=>by simp at z
 |k+1,pre,o::seg,B,n,F+1,d,hk,hN,z,L,hh,hn=>by
  simp only[cD]at hk hN z hh;have V:l.length=pre.length+(seg.length+1)+B.length:=by rw[d];simp;omega
  have A:pre.length<l.length:=by omega
  have s:l[pre.length]=o:=by
   have:l[pre.length]?=O o:=by
    rw[d,cK,cL<|aB _,bD];rfl
   rw[aD A]at this;injection this
  have X:0<=o.2.2.2.2/\o.2.2.2.2<=18446744073709551615:=by rw[<-s];exact E _ (cP A)
  rw[bh];simp only[pJ,ah];rw[Zg,bq A,s];simp only[zG];by_cases u:o.1=7
  .
   rw[zE u]
   have hs1:bt seg 1=O 0:=by
    simp only[bt]at L;rw[Zh,Zh,zE u]at L;exact L
   obtain⟨f,e,q,h1,h2,Q,h4⟩:=EW _ seg 0 (aB _) hs1;subst h1;simp only[cM,cD]at hk hN z hh V
   have hd:l.drop (pre.length+1)=f++e::(q++B):=by
    rw[d,cK,dG,dH V1,show pre.length+1-pre.length=1 by omega];simp
   obtain⟨r9,b1,b2,b3,b4⟩:=U8 hl E W h hg A (by rw[s];exact u) hd h2 Q V1;rw[s]at b4;rw[b1];simp only[zG];have hmi:=W.at' pre.length A (by rw[s];exact u) f e (q++B) hd h2 Q
   have hrd:rd m (pre.length:Int)=O ((pre.length+1+f.length:Nat):Int):=by
    have D:pre.length<m.length:=by rw[W.len];exact A
    rw[bq D,<-hmi,aD D]
   rw[hrd];simp only[zG];rw[ad (n:=n+r9) V1,ad (n:=((pre.length+1+f.length:Nat):Int)+1) V1];obtain⟨C,T⟩:=Sq L u h2 Q;by_cases K:65536<n+r9
   .rw[zE K];refine⟨.inl (),rfl, .inl rfl,λt j=> ?_⟩;rw[T]at j;obtain⟨w,hw,j⟩:=ai j;obtain⟨b,hb,j⟩:=ai j;have H:=L6 (l:=f) (λI y=>(E I Zw).1) Q hw;obtain⟨e1,_⟩:=JO H X.1 hb;rw[b4 w hw,e1]at K;cases p:Q9 q with
    |none=>rw[p]at j;cases j
    |some J=>
     rw[p]at j;injection j with j
     have j:b+J=t:=j;have:=L6 (l:=q) (λI y=>(E I Zw).1) C p;rw[Zg]
   .rw[zF K];simp only[zG,be];have hp:(pre++o::(f++[e])).length=pre.length+1+f.length+1:=by simp;omega
    obtain⟨c,M,d2,d3⟩:=Hc hl E W h hg hi k (pre++o::(f++[e])) q B (n+r9) F Zu V1 V1 V1 C (by rw[hp];omega) V1;rw[hp]at M;refine⟨c,by rw[show((pre.length+1+f.length:Nat):Int)+1=((pre.length+1+f.length+1:Nat):Int)by omega];exact M,d2,λt j=> ?_⟩;rw[T]at j;obtain⟨w,hw,j⟩:=ai j;obtain⟨b,hb,j⟩:=ai j;have H:=L6 (l:=f) (λI y=>(E I Zw).1) Q hw;obtain⟨e1,_⟩:=JO H X.1 hb;have hr9:r9=b:=by rw[b4 w hw,e1]
    cases p:Q9 q with
    |none=>rw[p]at j;cases j
    |some J=>
     rw[p]at j;injection j with j
     have:=d3 J p;rw[this,<-j,hr9,cQ]
  .rw[zF u];obtain⟨C,hko,T⟩:=QW L u;obtain⟨x,hx⟩:=Yv hko;rw[hx];simp only[zG,zC];rw[ad (n:=n+1) V1,ad (n:=(pre.length:Int)+1) V1];by_cases K:65536<n+1
   .rw[zE K];refine⟨.inl (),rfl, .inl rfl,λt j=> ?_⟩;rw[T]at j;cases p:Q9 seg with
    |none=>rw[p]at j;cases j
    |some J=>
     rw[p]at j;injection j with j
     have j:1+J=t:=j;have:=L6 (l:=seg) (λI y=>(E I Zw).1) C p;rw[Zg]
   .rw[zF K];simp only[zG,be];have hp:(pre++[o]).length=pre.length+1:=by simp
    obtain⟨c,M,d2,d3⟩:=Hc hl E W h hg hi k (pre++[o]) seg B (n+1) F Zu V1 V1 V1 C (by rw[hp];omega) V1;rw[hp]at M;refine⟨c,M,d2,λt j=> ?_⟩;rw[T]at j;cases p:Q9 seg with
    |none=>rw[p]at j;cases j
    |some J=>
     rw[p]at j;injection j with j
     rw[d3 J p,<-j,cQ]
def wok (j:ft l<=2000)(p: ∀o∈l,0<=o.2.2.2.2/\o.2.2.2.2<=18446744073709551615)(k:MOK l m): ∀N,WOK l m N
 |0=>λ_ _ _ _ _ _ h=>absurd h (Nat.not_lt_zero _)
 |N+1=>λf E A seg B b D y=>by
  obtain⟨g,rfl⟩: ∃g,f=g+1:=⟨f-1,V1⟩
  show∃r,AD ((cd g).1) ((cd g).2) l m _ _=O r/\_
  unfold AD
  have z:ft seg<=2000:=by
   have:=congrArg cZ b;simp at this;omega
  have⟨c,q,s,e⟩:=Hc j p k (wok j p k N) (g:=g) V1 (ft A+ft seg) _ A seg B 0 cj b (aB _) V1 (by unfold cj;omega) y rfl V1;rw[q,zG];rcases s with rfl|⟨r,rfl,u,C⟩
  .refine⟨65537,rfl,V1,V1,λt d=> ?_⟩;have:=e t d;rw[cN]at this;unfold I0;split at this
   .rename_i c;rw[zE c]
   .cases this
  .refine⟨r,rfl,u,V1,λt d=> ?_⟩;have:=e t d;rw[cN]at this;unfold I0;split at this
   .cases this
   .rename_i c;injection this with this
    rw[zF c,this]
end
def VL {δ:Type}{f:Int->Option (Int⊕δ)}(n:Nat)(z:n<9223372036854775808)(b:Nat->Prop)(c e:δ)
  (s: ∀i:Nat,i<n->¬b i->f (i:Int)=O (.inl ((i+1:Nat):Int))) (A: ∀i:Nat,i<n->b i->f (i:Int)=O (.inr c)) (y:f (n:Int)=O (.inr e)):
  (∃i,i<n/\b i/\(∀j,j<i->¬b j)/\am f cj 0=O c)∨((∀j,j<n->¬b j)/\am f cj 0=O e):=by
 by_cases h: ∃i,i<n/\b i
 .obtain⟨i,k,o⟩:=h
  have q: ∃i,i<n/\b i/\∀j,j<i->¬b j:=by
   induction i using Nat.strongRecOn with
   |ind i B=>
    by_cases d: ∃j,j<i/\b j
    .obtain⟨j,p,u⟩:=d;exact B j p V1 u
    .exact⟨i,k,o,λj h p=>d ⟨j,h,p⟩⟩
  have⟨i,k,o,p⟩:=q;exact .inl ⟨i,k,o,p,nr (n:=i) V1 (λj d=>s j V1<|p j d)<|A i k o⟩
 .have r: ∀j,j<n->¬b j:=λj k o=>h ⟨j,k,o⟩
  exact .inr ⟨r,nr (n:=n) z (λj d=>s j d<|r j d) y⟩
def aR6 {seg pre inner rest:List bx}{o e:bx}{t:Int}(f:Q9 seg=O t)(s:seg=pre++o::(inner++e::rest))(r:o.1=7)(q:e.1=0)(hi:bt inner 0=O 0):
  ∃w b,Q9 inner=O w/\BP w o.2.2.2.2=O b:=by
 unfold Q9 at f;rw[s,DA]at f;have⟨st,k,u⟩:=ai f;have⟨d,y,c⟩:=ai k;cases d with
 |nil=>simp[tq]at c
 |cons p d=>
  simp only[tq]at c;rw[zE r,DA,Iy hi]at c;cases j:Q9 inner with
  |none=>rw[j]at c;cases c
  |some w=>
   rw[j]at c;have c:tq (e::rest) ((o.2.2.2.2,0+w)::(p.1,p.2)::d)=O st:=c;simp only[tq]at c;rw[Zh,zE q,cN]at c;cases h:BP w o.2.2.2.2 with
   |none=>rw[h]at c;cases c
   |some b=>exact⟨w,b,rfl,h⟩
def Ti : ∀(n:Nat) (seg:List bx),ft seg<=n->bt seg 0=O 0->Q9 seg=Y->∃pre o inner e rest w,seg=pre++o::(inner++e::rest)/\o.1=7/\e.1=0/\bt inner 0=O 0/\Q9 inner=O w/\BP w o.2.2.2.2=Y
 |n,[],_,_,c=>by cases c
 |0,o::s,h,_,_=>by simp at h
 |n+1,o::s,I,k,c=>by
  simp only[cD]at I;by_cases z:o.1=7
  .have C:bt s 1=O 0:=by
    simp only[bt]at k;rw[Zh,Zh,zE z]at k;exact k
   have⟨inner,e,rest,J,F,A,K⟩:=EW _ s 0 (aB _) C;subst J;simp only[cM,cD]at I;have⟨d,B⟩:=Sq k z F A;rw[B]at c;cases D:Q9 inner with
   |none=>
    have⟨pre,q,p,f,y,w,r,u⟩:=Ti n inner V1 A D;exact⟨o::pre,q,p,f,y++e::rest,w,by rw[r];simp,u⟩
   |some w=>
    rw[D]at c;simp only[zG]at c;cases H:BP w o.2.2.2.2 with
    |none=>exact⟨[],o,inner,e,rest,w,rfl,z,F,A,D,H⟩
    |some b=>
     rw[H]at c;simp only[zG]at c;cases j:Q9 rest with
     |some t=>rw[j]at c;cases c
     |none=>
      have⟨pre,q,p,f,y,E,r,u⟩:=Ti n rest V1 d j;exact⟨o::(inner++e::pre),q,p,f,y,E,by rw[r];simp,u⟩
  .obtain⟨d,_,B⟩:=QW k z;rw[B]at c;cases j:Q9 s with
   |some t=>rw[j]at c;cases c
   |none=>
    have⟨pre,q,p,f,y,E,r,u⟩:=Ti n s V1 d j;exact⟨o::pre,q,p,f,y,E,by rw[r];rfl,u⟩
section
variable {l:List bx} {m:Zd}
def Eu (I:ft l<=1500)(q: ∀o∈l,0<=o.2.2.2.2/\o.2.2.2.2<=18446744073709551615)(j:MOK l m)(D:bt l 0=O 0)(hi:i<ft l)(p:l[i].1=7):
  ∃inner e rest b w r,l.drop (i+1)=inner++e::rest/\e.1=0/\bt inner 0=O 0/\m[i]?=O r/\r=((i+1+ft inner:Nat):Int)/\mg l m (i:Int)=O b/\mQ l m ((i+1:Nat):Int) r=O w/\0<=b/\0<=w/\
   ∀t,Q9 inner=O t->b=aj7 t l[i].2.2.2.2/\w=I0 t:=by
 have⟨inner,e,rest,h,k,c⟩:=U7 D hi p
 have s:ft l=i+1+ft inner+1+ft rest:=by
  have:=congrArg cZ h;rw[dK]at this;simp at this;omega
 have d:l=l.take (i+1)++inner++e::rest:=by
  rw[cK,<-h,dO]
 have C:ft (l.take<|i+1)=i+1:=by rw[eA];omega
 have⟨b,z,A,H,B⟩:=U8 V1 q j (wok V1 q j 1501) (f:=4000) V1 hi p h k c V1;have⟨w,y,E,J,F⟩:=wok V1 q j 1501 4000 V1 (l.take<|i+1) inner (e::rest) d V1 c;rw[C]at y;exact⟨inner,e,rest,b,w,_,h,k,c,j.at' i hi p inner e rest h k c,rfl,z,y,A,E,λt u=>⟨B t u,F t u⟩⟩
def Yy (W:ft l<=1500)(y: ∀o∈l,0<=o.2.2.2.2/\o.2.2.2.2<=18446744073709551615)(F:MOK l m)(M:bt l 0=O 0):
  am (jJ l (0,m)) cj 0=O (match Q9 l with|some _=> .inr ()|none=> .inl ()):=by
 have H:=VL (f:=jJ l (0,m)) (ft l) V1
  (λi=> ∃hi:i<ft l,l[i].1=7/\∃b w A,m[i]?=O A/\mg l m (i:Int)=O b/\mQ l m ((i+1:Nat):Int) A=O w/\(65536<b∨65536<w)) (.inl ()) (.inr ())
  (λi hi hn=>by
   unfold jJ;simp only[ah];rw[Zg,bq hi,zG];by_cases k:l[i].1=7
   .obtain⟨c,e,j,b,w,A,L,q2,q3,r,q5,u,D,q8⟩:=Eu W y F M hi k;rw[zE k,u,zG,zF (λh=>hn ⟨hi,k,b,w,A,r,u,D, .inl h⟩),bl (show i<(ft m) by rw[F.len];exact hi),zG,r,zG,ad (n:=(i:Int)+1) V1,show(i:Int)+1=((i+1:Nat):Int)by omega,D,zG,zF<|λh=>hn ⟨hi,k,b,w,A,r,u,D, .inr h⟩]
   .rw[zF k,ad (n:=(i:Int)+1) V1]
    rfl)
  (λi _ hst=>by
   have⟨hi,k,b,w,A,r,u,D,q8⟩:=hst;unfold jJ;simp only[ah];rw[Zg,bq hi,zG,zE k,u,zG];by_cases hb:65536<b
   .rw[zE hb]
   .rw[zF hb,bl (show i<(ft m) by rw[F.len];exact hi),zG,r,zG,ad (n:=(i:Int)+1) V1,show(i:Int)+1=((i+1:Nat):Int)by omega,D,zG]
    rw[Zg])
  (by
   unfold jJ;simp only[ah]
   rw[Zh])
 cases hq:Q9 l with
 |some t=>
  rcases H with⟨i,h1,⟨hi,k,b,w,A,r,u,D,q8⟩,_⟩|⟨_,h⟩
  .exfalso;have⟨c,e,j,b',w',I,p1,p2,Q,E,p5,J,K,p8,p9,C⟩:=Eu W y F M hi k
   have d:l=l.take i++l[i]::(c++e::j):=by
    rw[<-p1,cT hi,dO]
   have⟨w0,b0,g1,g2⟩:=aR6 hq d k p2 Q;have⟨T,V⟩:=C w0 g1;have q: ∀B∈c,0<=B.2.2.2.2:=λB z=>(y B (by rw[d];simp[z])).1
   have s:=L6 q Q g1;have⟨x1,x2⟩:=JO s (y _<|cP hi).1 g2;have⟨x3,x4⟩:=JL s (y _<|cP hi).1 g2;rw[r]at E;injection E with E
   rw[u]at J;injection J with J
   rw[<-E,D]at K;injection K with K
   have hs9:I0 w0=w0:=zF V1;rw[hs9]at V;omega
  .exact h
 |none=>
  rcases H with⟨_,_,_,_,h⟩|⟨h,_⟩
  .exact h
  .exfalso;have⟨pre,o,c,e,j,w,L,q2,q3,r,q5,u⟩:=Ti _ l (aB _) M hq;have hi:ft pre<ft l:=by rw[L];simp
   have p:l[ft pre]=o:=by
    have:l[ft pre]?=O o:=by
     rw[L,cL<|aB _,bD];rfl
    rw[aD hi]at this;injection this
   have k:l[ft pre].1=7:=by rw[p];exact q2
   have hd:l.drop (ft pre+1)=c++e::j:=by
    rw[L,dG,dH V1,show ft pre+1-ft pre=1 by omega];simp
   have⟨N,e',rest',b',w',I,p1,p2,Q,E,p5,J,K,p8,p9,C⟩:=Eu W y F M hi k;have:=Al (hd.symm.trans p1) r Q q3 p2;subst this;have⟨T,V⟩:=C w q5;have q: ∀B∈c,0<=B.2.2.2.2:=λB z=>(y B (by rw[L];simp[z])).1
   have s:=L6 q r q5;rw[p]at T;have X:0<=o.2.2.2.2:=by rw[<-p];exact(y _<|cP hi).1
   refine h _ hi ⟨hi,k,b',w',I,E,J,K, ?_⟩;rcases ax0 s X u with x|x
   .right;rw[V];unfold I0;rw[zE x];omega
   .left;rw[T,x];omega
def Aj (p:ft l<=1500)(h: ∀o∈l,0<=o.2.2.2.2/\o.2.2.2.2<=18446744073709551615):kI l=O (eb l):=by
 unfold kI eb;rcases GU (l:=l) V1 with⟨b,m,f,d⟩|⟨b,f⟩
 .rw[f,zE b,zG,zA V2,zD,Yy p h d b];cases k:Q9 l with
  |none=>rfl
  |some t=>
   have s:=L6 (λo q=>(h o q).1) b k;simp only[zG,be];have⟨w,j,u,y,r⟩:=wok V1 h d 1501 4000 V1 [] l [] V2 V1 b
   have j:mQ l m 0 (ft l:Int)=O w:=by
    rw[<-j];show _=(cd 4000).1 l m 0 ((0+ft l:Nat):Int);rw[cS];rfl
   rw[j];simp only[zG,ah];have e:=r t k;unfold I0 at e;by_cases c:65536<t
   .rw[zE c]at e;rw[zE c,Zg]
   rw[zF c]at e;rw[zF c,Zh,e]
 rw[f,zF b];rfl
end
def As {α δ:Type}{f:Int->Option (Int⊕δ)}{l:List α}(p:α->Bool)(c:Nat->δ)(e:δ)(C:ft l<1000000)
  (q: ∀i,(hi:i<ft l)->f (i:Int)=O (if p l[i]then .inr (c i)else .inl ((i+1:Nat):Int))) (y:f (ft l:Int)=O (.inr e)):
  (l.any p=Za/\∃i:Nat,am f cj 0=O (c i))∨(l.any p=Zb/\am f cj 0=O e):=by
 by_cases h: ∃i,∃hi:i<ft l,p l[i]=Za
 .left
  have o: ∃i,(∃hi:i<ft l,p l[i]=Za)/\∀j,j<i->¬∃b:j<ft l,p l[j]=Za:=by
   have⟨i,hi⟩:=h;induction i using Nat.strongRecOn with
   |ind i B=>
    by_cases b: ∃j,j<i/\∃b:j<ft l,p l[j]=Za
    .obtain⟨j,k,u⟩:=b;exact B j k u
    .exact⟨i,hi,λj h k=>b ⟨j,h,k⟩⟩
  have⟨i,⟨hi,r⟩,s⟩:=o;refine⟨List.any_eq_true.2 ⟨l[i],cP hi,r⟩,i,nr (n:=i) V1 (λj b=> ?_) ?_⟩
  .rw[q j V1,zF<|λd=>s j b ⟨V1,d⟩]
  .rw[q i hi,zE r]
 .right;refine⟨?_,nr (n:=ft l) V1 (λj b=> ?_) y⟩
  .rw[Bool.eq_false_iff];intro z;have⟨x,A,d⟩:=List.any_eq_true.1 z;obtain⟨i,hi,rfl⟩:=List.getElem_of_mem A;exact h ⟨i,hi,d⟩
  .rw[q j b,zF<|λd=>h ⟨j,b,d⟩]
def bu (k:Int):Bool×Bool×Bool×Bool:=if k=1∨k=2∨k=3 then(Za,Za,Za,Zb)else if k=4∨k=6 then(Za,Za,Zb,Zb)else if k=5 then(Za,Zb,Zb,Za)else if k=7 then(Zb,Zb,Zb,Za)else(Zb,Zb,Zb,Zb)
def EM (k:Int):k=1∨k=2∨k=3∨k=4∨k=5∨k=6∨k=7∨(¬k=1/\¬k=2/\¬k=3/\¬k=4/\¬k=5/\¬k=6/\¬k=7):=by omega
def Ly (k:Int):qe k=O (bu k):=by
 rcases EM k with rfl|rfl|rfl|rfl|rfl|rfl|rfl|⟨b,c,d,e,f,h,j⟩
 any_goals rfl
 simp[qe,bu,b,c,d,e,f,h,j]
def CT (k:Int):gF k=O (bu k):=by
 rcases EM k with rfl|rfl|rfl|rfl|rfl|rfl|rfl|⟨b,c,d,e,f,j,o⟩
 any_goals rfl
 by_cases h:1<=k
 .simp[gF,bu,b,c,d,e,f,j,o,h,show¬k<=3 by omega,be]
 simp[gF,bu,b,c,d,e,f,j,o,h,be]
def FO (n:Int)(q:Bool):Bool:=if q then Zc (0<=n/\n<=2147483647)else Zc<|n=0
def M3 (n:Int)(q:Bool):jI n q=O (FO n q):=by
 unfold jI FO;cases q
 .rfl
 by_cases h:0<=n<;>simp[h]
def wO (o:bx):Bool:=Zc (0<=o.1/\o.1<8)&&(FO o.2.1 (bu o.1).1&&(FO o.2.2.1 (bu o.1).2.1&&(FO o.2.2.2.1 (bu o.1).2.2.1&&((bu o.1).2.2.2||Zc (o.2.2.2.2=0)))))
def TM (o:bx):ue o.1 o.2.1 o.2.2.1 o.2.2.2.1 o.2.2.2.2=O (wO o):=by
 unfold ue AG wO
 have j:(cond (Zc<|0<=o.1) (O<|Zc<|o.1<8)<|O Zb)=O (Zc<|0<=o.1/\o.1<8):=by
  by_cases h:0<=o.1<;>simp[h]
 rw[Ly,j];simp only[zG,M3];generalize Zc (0<=o.1/\o.1<8)=b;generalize FO o.2.1 (bu o.1).1=c;generalize FO o.2.2.1 (bu o.1).2.1=d;generalize FO o.2.2.2.1 (bu o.1).2.2.1=e;generalize (bu o.1).2.2.2=f;cases b<;>cases c<;>cases d<;>cases e<;>cases f<;>rfl
def Wq (o:bx):xd o.1 o.2.1 o.2.2.1 o.2.2.2.1 o.2.2.2.2=O (wO o):=by
 unfold xd;simp only[ah];by_cases y:o.1<0
 .rw[zE y];unfold wO;rw[zA (show¬(0<=o.1/\o.1<8)by omega)];rfl
 rw[zF y];by_cases z:7<o.1
 .rw[zE z];unfold wO;rw[zA (show¬(0<=o.1/\o.1<8)by omega)];rfl
 rw[zF z,CT,zG]
 have c:=As (f:=qM o.2.1 o.2.2.1 o.2.2.2.1<|bu o.1) (l:=[(o.2.1,(bu o.1).1),(o.2.2.1,(bu o.1).2.1),(o.2.2.2.1,(bu o.1).2.2.1)]) (λp=> !FO p.1 p.2) (λ_=> .inl Zb) (.inr ()) V2
  (λi hi=>by
   unfold qM;have hi:i<3:=hi;rw[ah,Zg,bl (show i<3 from hi),bl (show i<4 by omega)];simp only[zG,ah]
   have A:dI [o.2.1,o.2.2.1,o.2.2.2.1] i 0=([(o.2.1,(bu o.1).1),(o.2.2.1,(bu o.1).2.1),(o.2.2.2.1,(bu o.1).2.2.1)][i]).1:=by
    rcases(show i=0∨i=1∨i=2 by omega)with rfl|rfl|rfl<;>rfl
   have B:dI [(bu o.1).1,(bu o.1).2.1,(bu o.1).2.2.1,(bu o.1).2.2.2] i Zb=([(o.2.1,(bu o.1).1),(o.2.2.1,(bu o.1).2.1),(o.2.2.2.1,(bu o.1).2.2.1)][i]).2:=by
    rcases(show i=0∨i=1∨i=2 by omega)with rfl|rfl|rfl<;>rfl
   rw[A,B,ad (n:=(i:Int)+1) V1,show(i:Int)+1=((i+1:Nat):Int)by omega];generalize [(o.2.1,(bu o.1).1),(o.2.2.1,(bu o.1).2.1),(o.2.2.2.1,(bu o.1).2.2.1)][i]=x;have⟨n,q⟩:=x;simp only[FO];by_cases r:n<0
   .rw[zE r,zE];cases q
    .simp;omega
    simp;omega
   rw[zF r];by_cases s:2147483647<n
   .rw[zE s,zE];cases q
    .simp;omega
    simp;omega
   rw[zF s];cases q with
   |true=>
    rw[zB (show 0<=n/\n<=2147483647 by omega)];rfl
   |false=>
    by_cases u:n=0
    .subst u;rfl
    simp[u])
  (by
   unfold qM
   rw[ah,zF V2])
 unfold wO;rw[zB (show 0<=o.1/\o.1<8 by omega)]
 have b:([(o.2.1,(bu o.1).1),(o.2.2.1,(bu o.1).2.1),(o.2.2.2.1,(bu o.1).2.2.1)].any λp=> !FO p.1 p.2)= !(FO o.2.1 (bu o.1).1&&(FO o.2.2.1 (bu o.1).2.1&&FO o.2.2.2.1 (bu o.1).2.2.1)):=by
  simp[List.any,Bool.not_and]
 rw[b]at c;generalize FO o.2.1 (bu o.1).1=d at*;generalize FO o.2.2.1 (bu o.1).2.1=e at*;generalize FO o.2.2.2.1 (bu o.1).2.2.1=j at*;rcases c with⟨h,_,k⟩|⟨h,k⟩
 .rw[k];cases d<;>cases e<;>cases j<;>first|rfl|cases h
 rw[k]
 have:d=Za/\e=Za/\j=Za:=by
  cases d<;>cases e<;>cases j<;>first|exact⟨rfl,rfl,rfl⟩|cases h
 obtain⟨rfl,rfl,rfl⟩:=this;simp only[zG,be];cases(bu o.1).2.2.2<;>rfl
def Ez (b:Bool)(e:Int):da b e=O (if b then e else 0):=by cases b<;>rfl
def JV (l:List bx):Bool:=Zc (bt l 0=O 0)&& !(l.any λo=> !wO o)
def II {R:Int}{l:List bx}(e:ft l<=4096):ie R l=O (if JV l then 0 else 6):=by
 unfold ie;have⟨m,d⟩:=Bq (l:=l) V1;rw[d];simp only[zG,Ez];rw[Ze,zD,ah];unfold JV;by_cases b:bt l 0=O 0
 .rw[zE b,zF V2,zB b];unfold gT iM
  rcases As (f:=fG l) (l:=l) (λo=> !wO o) (λi=> .inl (i:Int)) (.inr ()) V1 (λi hi=>by
   unfold fG;rw[ah,Zg,bq hi,zG];unfold nJ;rw[TM,ad (n:=(i:Int)+1) V1,zG]
   cases wO l[i]<;>rfl) (by
   unfold fG
   rw[ah,Zh])with⟨h,i,c⟩|⟨h,c⟩
  .rw[c,h];simp only[zG,be];rw[Zf];rfl
  rw[c,h];rfl
 rw[zF b,zE V2,zA b];rfl
def Yz {R:Int}{l:List bx}(c:ft l<=1500):zO R l=O (JV l):=by
 unfold zO JV;rw[Ze,zD,IW V1,zG];cases Zc (bt l 0=O 0)with
 |false=>rfl
 |true=>
  rcases As (f:=sH l) (l:=l) (λo=> !wO o) (λi=> .inl Zb) (.inr ()) V1 (λi hi=>by
   unfold sH;rw[ah,Zg,bq hi,zG,Wq,ad (n:=(i:Int)+1) V1,zG]
   cases wO l[i]<;>rfl) (by
   unfold sH
   rw[ah,Zh])with⟨h,i,b⟩|⟨h,b⟩
  .rw[b,h];rfl
  rw[b,h];rfl
def TJ (R:Int)(o:bx):Bool:=((bu o.1).1&&Zc (R<=o.2.1))||((bu o.1).2.1&&Zc (R<=o.2.2.1))||((bu o.1).2.2.1&&Zc (R<=o.2.2.2.1))
def Kn (R:Int)(l:List bx):Bool:=Zc (1<=R/\R<=64)&& !l.any (TJ R)
def PA (x y:Int):ca [x,y]=O [y,x]:=by kernel_rfl
def WH (x:Int):ca [x]=O [x]:=by kernel_rfl
def Pz :ca []=O []:=by kernel_rfl
def TL (o:bx):ud o.1 o.2.1 o.2.2.1 o.2.2.2.1 o.2.2.2.2=O (if(bu o.1).2.1 then(if(bu o.1).2.2.1 then [o.2.2.1,o.2.2.2.1]else [o.2.2.1])else []):=by
 have⟨k,d,a,b,v⟩:=o;simp only;rcases EM k with rfl|rfl|rfl|rfl|rfl|rfl|rfl|⟨c,e,f,h,p,j,q⟩
 .exact(show _=(ca [b,a]).bind _ from rfl).trans (by rw[PA];rfl)
 .exact(show _=(ca [b,a]).bind _ from rfl).trans (by rw[PA];rfl)
 .exact(show _=(ca [b,a]).bind _ from rfl).trans (by rw[PA];rfl)
 .exact(show _=(ca [a]).bind _ from rfl).trans (by rw[WH];rfl)
 .exact(show _=(ca []).bind _ from rfl).trans (by rw[Pz];rfl)
 .exact(show _=(ca [a]).bind _ from rfl).trans (by rw[WH];rfl)
 .exact(show _=(ca []).bind _ from rfl).trans (by rw[Pz];rfl)
 unfold ud;simp only[zA c,zA e,zA f,zA h,zA j,zD,zG,be,Pz];simp[bu,c,e,f,h,p,j,q]
def Tm (l:Zd)(R:Int)(p:List bx)(c:ft l<2000):fI l R p=O (l.any λn=>Zc<|R<=n):=by
 unfold fI kM
 rcases As (f:=gL l R p) (l:=l) (λn=>Zc<|R<=n) (λi=> .inl (i:Int)) (.inr ()) V1 (λi hi=>by
  unfold gL;rw[ah,Zg,bq hi,zG];unfold jp;rw[ad (n:=(i:Int)+1) V1,zG]
  cases Zc (R<=l[i])<;>rfl) (by
  unfold gL
  rw[ah,Zh])with⟨h,i,b⟩|⟨h,b⟩
 .rw[b,h];simp only[zG,be];rw[Zf]
 rw[b,h];rfl
def WF (o:bx)(R:Int)(p:List bx):iv o.1 o.2.1 o.2.2.1 o.2.2.2.1 o.2.2.2.2 R p=O (TJ R o):=by
 unfold iv jP;rw[TL,Ly];unfold TJ;simp only[zG];have⟨k,d,a,b,v⟩:=o;simp only
 have s:(bu k).2.2.1=Za->(bu k).2.1=Za:=by
  unfold bu;split
  .intro _;rfl
  split
  .intro _;rfl
  split
  .intro h;cases h
  split<;>intro h<;>cases h
 have u:(bu k).2.1=Za->(bu k).1=Za:=by
  unfold bu;split
  .intro _;rfl
  split
  .intro _;rfl
  split
  .intro h;cases h
  split<;>intro h<;>cases h
 generalize (bu k).1=f at*;generalize (bu k).2.1=j at*;generalize (bu k).2.2.1=q at*
 have c: ∀l:Zd,ft l<2000->∀r,(l.any λn=>Zc<|R<=n)=r->(gn (fI l R p) λe=>O e)=O r:=by
  intro l A r B;rw[Tm l R p A,B];rfl
 cases f<;>cases j<;>cases q<;>first
  |(cases u rfl)
  |(cases s rfl)
  |skip
 .refine c [] V2 _ ?_;generalize Zc (R<=d)=x;generalize Zc (R<=a)=y;generalize Zc (R<=b)=z;cases x<;>cases y<;>cases z<;>rfl
 .refine c [d] V2 _ ?_;simp only[dX,dY];generalize Zc (R<=d)=x;generalize Zc (R<=a)=y;generalize Zc (R<=b)=z;cases x<;>cases y<;>cases z<;>rfl
 .refine c [a,d] V2 _ ?_;simp only[dX,dY];generalize Zc (R<=d)=x;generalize Zc (R<=a)=y;generalize Zc (R<=b)=z;cases x<;>cases y<;>cases z<;>rfl
 .refine c [a,b,d] V2 _ ?_;simp only[dX,dY];generalize Zc (R<=d)=x;generalize Zc (R<=a)=y;generalize Zc (R<=b)=z;cases x<;>cases y<;>cases z<;>rfl
def yN {R:Int}{l:List bx}(e:ft l<=4096):fJ R l=O (if Kn R l then 0 else 7):=by
 unfold fJ Kn;simp only[Ez,zG,ah];by_cases c:R<1
 .rw[zE c,zA (show¬(1<=R/\R<=64)by omega)];rfl
 rw[zF c];by_cases d:64<R
 .rw[zE d,zA (show¬(1<=R/\R<=64)by omega)];rfl
 rw[zF d,zB (show 1<=R/\R<=64 by omega)];unfold gG gZ
 rcases As (f:=fp l R l) (l:=l) (TJ R) (λi=> .inl (i:Int)) (.inr ()) V1 (λi hi=>by
  unfold fp;rw[ah,Zg,bq hi,zG,WF,ad (n:=(i:Int)+1) V1,zG]
  cases TJ R l[i]<;>rfl) (by
  unfold fp
  rw[ah,Zh])with⟨h,i,b⟩|⟨h,b⟩
 .rw[b,h];simp only[zG,be];rw[Zf];rfl
 rw[b,h];rfl
def M5 {R:Int}{l:List bx}(k:ft l<=1500):pP R l=O (Kn R l):=by
 unfold pP Kn;simp only[ah];by_cases c:R<1
 .rw[zE c,zA (show¬(1<=R/\R<=64)by omega)];rfl
 rw[zF c];by_cases d:64<R
 .rw[zE d,zA (show¬(1<=R/\R<=64)by omega)];rfl
 rw[zF d,zB (show 1<=R/\R<=64 by omega)]
 rcases As (f:=lP R l) (l:=l) (TJ R) (λi=> .inl Zb) (.inr ()) V1 (λi hi=>by
  unfold lP;rw[ah,Zg,bq hi,zG,CT,ad (n:=(i:Int)+1) V1,zG];unfold TJ;generalize l[i]=o;generalize Zc (R<=o.2.1)=x;generalize Zc (R<=o.2.2.1)=y;generalize Zc (R<=o.2.2.2.1)=z;generalize (bu o.1).1=e;generalize (bu o.1).2.1=j;generalize (bu o.1).2.2.1=b3
  cases e<;>cases j<;>cases b3<;>cases x<;>cases y<;>cases z<;>rfl) (by
  unfold lP
  rw[ah,Zh])with⟨h,i,b⟩|⟨h,b⟩
 .rw[b,h];rfl
 rw[b,h];rfl
def hmax :List bx->Nat->Nat->Nat
 |[],_,m=>m
 |o::r,d,m=>if o.1=7 then hmax r (d+1) (max m<|d+1)else if o.1=0 then hmax r (d-1) m else hmax r d m
def bh2 (l:List bx)(s:Int×Bool×Int×Zd):Prop:=
 ∃(i m:Nat) (st:Zd),i<=ft l/\s=((i:Int),Za,(m:Int),st)/\ft st<=i/\m<=i/\bt (l.drop i) (ft st)=bt l 0/\hmax (l.drop i) (ft st) m=hmax l 0 0
def al5 {l:List bx}(A:ft l<=100000)(s:Int×Bool×Int×Zd)(h:bh2 l s):
  (∃b,mL l s=O (.inl b)/\bh2 l b/\ft l-fu b.1<ft l-fu s.1)∨∃c,mL l s=O (.inr c)/\((c.1=Zb/\bt l 0=Y)∨(c.1=Za/\bt l 0=O (ft c.2.2)/\c.2.1=(hmax l 0 0:Int))):=by
 obtain⟨i,m,st,hi,rfl,z,y,d,e⟩:=h;by_cases c:i<ft l
 .have j:l.drop i=l[i]::l.drop (i+1):=(cT c).symm;rw[j]at d e;simp only[mL];rw[zB (show(i:Int)<(ft l:Int)by omega),zC,bq c,zG];generalize B:l[i]=x at*;simp only[bt]at d;simp only[hmax]at e;by_cases r:x.1<0
  .rw[zE<|.inl r]at d;rw[zB r];simp only[zC,zG,gM];exact .inr ⟨_,rfl, .inl ⟨rfl,d.symm⟩⟩
  rw[zA r,zD];by_cases f:7<x.1
  .rw[zE<|.inr f]at d;rw[zB f];simp only[zC,zG,ci,gM];exact .inr ⟨_,rfl, .inl ⟨rfl,d.symm⟩⟩
  rw[zA f,zD];rw[Zh]at d;by_cases o:x.1=0
  .rw[zE o]at d;rw[Zh,zE o]at e;rw[zB o];simp only[zC,zG,ci];by_cases p:ft st=0
   .rw[zE p]at d;rw[zB (show(ft st:Int)=0 by omega)];simp only[zC,zG,gM];exact .inr ⟨_,rfl, .inl ⟨rfl,d.symm⟩⟩
   .rw[zF p]at d;rw[zA (show¬(ft st:Int)=0 by omega),zD,ad (n:=(ft st:Int)-1) V1,Zl,bp];simp only[zG,ci];rw[zA (show¬x.1=7 by omega)];simp only[zD];rw[ad (n:=(i:Int)+1) V1]
    have k:ft (st.take<|fu ((ft st:Int)-1)-0)=ft st-1:=by
     rw[eA];omega
    refine .inl ⟨_,rfl,⟨i+1,m,_,c,rfl,by rw[k];omega,V1,by rw[k];exact d,by rw[k];exact e⟩,by simp;omega⟩
  .rw[zF o]at d;have u:Zc (x.1=0)=Zb:=zA o;rw[u];simp only[zD,zG,ci];by_cases f:x.1=7
   .rw[zE f]at d e;rw[zB f];simp only[zC];rw[au V1 V1,ad (n:=(i:Int)+1) V1,ad (n:=(ft st:Int)+1) V1];refine .inl ⟨_,rfl,⟨i+1,max m<|ft st+1,st++[(i:Int)],c, ?_,by simp;omega,V1,by rw[cM];exact d,by rw[cM];exact e⟩,by simp;omega⟩;rw[show((max m (ft st+1):Nat):Int)=max (m:Int) ((ft st:Int)+1)by omega];rfl
   .rw[zF f]at d e;rw[zF o]at e;rw[zA f];simp only[zD];rw[ad (n:=(i:Int)+1) V1];exact .inl ⟨_,rfl,⟨i+1,m,st,c,rfl,V1,V1,d,e⟩,by simp;omega⟩
 .have q:i=ft l:=by omega
  subst q;rw[cX]at d e;simp only[mL];rw[zA (show¬(ft l:Int)<(ft l:Int)by omega),zD];have e:m=hmax l 0 0:=e;exact .inr ⟨_,rfl, .inr ⟨rfl,d.symm,by rw[<-e]⟩⟩
def OE (l:List bx):Int×Int:=if bt l 0=O 0 then((hmax l 0 0:Int),0)else(0,6)
def ao1 {l:List bx}(p:ft l<=100000):BT l=O (OE l):=by
 unfold BT OE
 obtain⟨c,o,h⟩:=nq (f:=mL l) (a:=((0:Int),Za,(0:Int),([]:Zd))) (bh2 l) (λs=>ft l-fu s.1) (λc=>(c.1=Zb/\bt l 0=Y)∨(c.1=Za/\bt l 0=O (ft c.2.2)/\c.2.1=(hmax l 0 0:Int)))
  ⟨0,0,[],cU _,rfl,aB _,aB _,rfl,rfl⟩ V3 (λs q=>al5 p s q)
 rw[o,zG];rcases h with⟨b,d⟩|⟨b,d,k⟩
 .rw[b,d];rfl
 rw[b,d,zC];by_cases j:ft c.2.2=0
 .rw[zB (show(ft c.2.2:Int)=0 by omega),zE (by rw[j]),k];rfl
 rw[zA (show¬(ft c.2.2:Int)=0 by omega),zF ZX];rfl
def I8 (l:List bx)(i:Nat):Nat:=(bt (l.take i) 0).getD 0
def Vm {l:List bx}(c:bt l 0=O 0)(hi:i<=ft l):bt (l.take i) 0=O (I8 l i):=by
 have⟨d,b,_⟩:=Of c hi;unfold I8;rw[b];rfl
def OJ {l:List bx}(e:bt l 0=O 0)(hi:i<ft l):(l[i].1=7/\I8 l (i+1)=I8 l i+1)∨(l[i].1=0/\0<I8 l i/\I8 l (i+1)=I8 l i-1)∨(l[i].1≠7/\l[i].1≠0/\I8 l (i+1)=I8 l i):=by
 have b:=Vm e (i:=i+1) V1;rw[eE hi,sv,Vm e V1]at b;have b:bt [l[i]] (I8 l i)=O (I8 l<|i+1):=b;simp only[bt]at b;split at b
 .cases b
 split at b
 .rename_i f c;split at b
  .cases b
  injection b with b
  exact .inr (.inl ⟨c,V1,b.symm⟩)
 rename_i f c;split at b
 .rename_i d;injection b with b
  exact .inl ⟨d,b.symm⟩
 rename_i d;injection b with b
 exact .inr<|.inr ⟨d,c,b.symm⟩
def az0 {l:List bx}(c:bt l 0=O 0): ∀i,i<=ft l->I8 l i<=i
 |0,_=>aB _
 |i+1,h=>by
  have:=az0 c i V1;rcases OJ c (i:=i) V1 with⟨_,b⟩|⟨_,_,b⟩|⟨_,_,b⟩<;>omega
def TU {l:List bx}(k:l.length<=100000)(h:bt l 0=O 0){n:Nat}(o:n<=l.length):um l (n:Int)=O (I8 l n:Int):=by
 unfold um;have e:am (lO l (n:Int)) cj (0,((I8 l 0:Nat):Int))=O ((I8 l n:Nat):Int):=bz (n:=n) (λi=>((I8 l i:Nat):Int)) (c:=((I8 l n:Nat):Int)) V1 (λi hi=> ?_) ?_
 .show((am (lO l (n:Int)) cj (0,((I8 l 0:Nat):Int))).bind _)=_;rw[e];rfl
 .unfold lO;simp only[ah];rw[Zg,bq (show i<l.length by omega)];simp only[zG];have j:=az0 h i V1;rw[ad (n:=(i:Int)+1) V1];rcases OJ h (i:=i) V1 with⟨b,d⟩|⟨b,f,d⟩|⟨b,f,d⟩
  .rw[zE b,Zh,ad (n:=((I8 l i:Nat):Int)+1) V1,d];rfl
  .rw[Zh,zE b,ad (n:=((I8 l i:Nat):Int)-1) V1,d,show((I8 l i-1:Nat):Int)=(I8 l i:Int)-1 by omega];rfl
  rw[zF b,zF f,d];rfl
 unfold lO;simp only[ah];rw[Zh]
def Dj (l:List bx):Nat->Nat
 |0=>0
 |i+1=>max (Dj l i)<|I8 l i
def Rq {l:List bx}(j:bt l 0=O 0): ∀k i,i+k=ft l->hmax (l.drop i) (I8 l i) (Dj l<|i+1)=Dj l (ft l+1)
 |0,i,h=>by
  have:i=ft l:=by omega
  subst this;rw[cX];rfl
 |k+1,i,h=>by
  rw[(cT (show i<(ft l) by omega)).symm];simp only[hmax];have d:=Rq j k (i+1) V1;have e:Dj l (i+1+1)=max (Dj l<|i+1) (I8 l<|i+1):=rfl;have o:Dj l (i+1)=max (Dj l i) (I8 l i):=rfl;rcases OJ j (i:=i) V1 with⟨b,c⟩|⟨b,f,c⟩|⟨b,f,c⟩
  .rw[zE b,<-c,<-e];exact d
  .rw[Zh,zE b,<-c,show Dj l (i+1)=Dj l (i+1+1)by rw[e];omega];exact d
  .rw[zF b,zF f];rw[c,show Dj l (i+1+1)=Dj l (i+1)by rw[e];omega]at d;exact d
def Yx {l:List bx}(e:ft l<=100000):zN l=O (OE l):=by
 unfold zN OE;rw[IW e,zG];by_cases b:bt l 0=O 0
 .rw[zB b,zE b];simp only[dA,zD];have d:am (oK l) cj (0,((Dj l 0:Nat):Int))=O ((Dj l (ft l+1):Nat):Int):=bz (n:=ft l+1) (λi=>((Dj l i:Nat):Int)) (c:=((Dj l (ft l+1):Nat):Int)) V1 (λi hi=> ?_) ?_
  .show((am (oK l) cj (0,((Dj l 0:Nat):Int))).bind _)=_;rw[d];have h:=Rq b (ft l) 0 V1;have f:I8 l 0=0:=rfl;have j:Dj l (0+1)=0:=rfl;rw[f,j,List.drop_zero]at h;rw[h];rfl
  .unfold oK;simp only[ah];rw[Zg,TU e b V1,zG,ad (n:=(i:Int)+1) V1];show _=O (Sum.inl (((i+1:Nat):Int),((max (Dj l i) (I8 l i):Nat):Int)));rw[show((max (Dj l i) (I8 l i):Nat):Int)=max (Dj l i:Int) (I8 l i:Int)by omega];rfl
  unfold oK;simp only[ah];rw[Zh]
 rw[zA b,zF b];rfl
structure OpsOk (l:List bx):Prop where
 len:ft l<=4096
 v: ∀o∈l,0<=o.2.2.2.2/\o.2.2.2.2<=18446744073709551615
def J5 (l:List bx):Int:=if JV l then 0 else 6
def Jb (R:Int)(l:List bx):Int:=if Kn R l then 0 else 7
def Jc (l:List bx):Int:=if 8<(OE l).1 then 8 else 0
def IP (l:List bx):Int:=(eb l).2
def Bv (R:Int)(l:List bx):Int:=if J5 l≠0 then J5 l else if Jb R l≠0 then Jb R l else if Jc l≠0 then Jc l else IP l
def mw (R:Int)(l:List bx)(Q:Int)(k:List bx):Int:=if J5 l≠0 then J5 l else if J5 k≠0 then J5 k else if Jb R l≠0 then Jb R l else if Jb Q k≠0 then Jb Q k else if Jc l≠0 then Jc l else if Jc k≠0 then Jc k else if IP l≠0 then IP l else IP k
def Gy {R:Int}{l:List bx}(h:OpsOk l):gN R l=O (Jc l):=by
 unfold gN Jc;have:=h.len;rw[ao1 V1];simp only[zG,Ez];by_cases c:8<(OE l).1<;>simp[c]
def EA {R:Int}{l:List bx}(h:OpsOk l):gB R l=O (IP l):=by
 unfold gB IP;have:=h.len;rw[yp V1 h.v];rfl
def QF {R:Int}{l:List bx}(h:OpsOk l):sB R l=O (Bv R l):=by
 unfold sB Bv;rw[II h.len,yN h.len,Gy h,EA h];simp only[zG,ah];show(if J5 l≠0 then O (J5 l)else if Jb R l≠0 then O (Jb R l)else if Jc l≠0 then O (Jc l)else if IP l≠0 then O (IP l)else O 0)=_;split
 .rfl
 split
 .rfl
 split
 .rfl
 split
 .rfl
 rename_i h;rw[show IP l=0 by omega]
def XQ {R Q:Int}{l k:List bx}(h:OpsOk l)(b:OpsOk k):zw R l Q k=O (mw R l Q k):=by
 unfold zw mw;rw[II h.len,yN h.len,Gy h,EA h,II b.len,yN b.len,Gy b,EA b];simp only[zG,ah];show(if J5 l≠0 then O (J5 l)else if J5 k≠0 then O (J5 k)else if Jb R l≠0 then O (Jb R l)else if Jb Q k≠0 then O (Jb Q k)else if Jc l≠0 then O (Jc l)else if Jc k≠0 then O (Jc k)else if IP l≠0 then O (IP l)else if IP k≠0 then O (IP k)else O 0)=_;split
 .rfl
 split
 .rfl
 split
 .rfl
 split
 .rfl
 split
 .rfl
 split
 .rfl
 split
 .rfl
 split
 .rfl
 rename_i h;rw[show IP k=0 by omega]
def Rz (R:Int)(l:List bx)(n:Nat):Int:=if n=0 then J5 l else if n=1 then Jb R l else if n=2 then Jc l else IP l
def IY {R:Int}{l:List bx}(h:OpsOk l)(b:ft l<=1500)(n:Nat):qP R l (n:Int)=O (Rz R l n):=by
 unfold qP Rz;have:=h.len;simp only[ah];by_cases c:n=0
 .rw[Zg,zE c,Yz b];unfold J5;simp only[zG];cases JV l<;>rfl
 rw[Zh,zF c];by_cases d:n=1
 .rw[Zg,zE d,M5 b];unfold Jb;simp only[zG];cases Kn R l<;>rfl
 rw[Zh,zF d];by_cases e:n=2
 .rw[Zg,zE e,Yx V1];unfold Jc;simp only[zG];split<;>rfl
 rw[Zh,zF e,Aj b h.v];rfl
def Ps {R Q:Int}{l k:List bx}(h:OpsOk l)(q:OpsOk k)(e:l.length<=1500)(f:k.length<=1500):uo R l Q k=O (mw R l Q k):=by
 have b: ∀n:Nat,n<4->lG R l Q k (n:Int)=O (if Rz R l n≠0 then .inr (.inl<|Rz R l n)else if Rz Q k n≠0 then .inr (.inl<|Rz Q k n)else .inl ((n+1:Nat):Int)):=by
  intro n s;unfold lG;simp only[ah];rw[Zg,IY h e,IY q f];simp only[zG];rw[ad (n:=(n:Int)+1) V1];split
  .rfl
  split<;>rfl
 have c:lG R l Q k 4=O (.inr<|.inr ()):=rfl;unfold uo mw
 have j:am (lG R l Q k) cj 0=O (if J5 l≠0 then .inl (J5 l)else if J5 k≠0 then .inl (J5 k)else if Jb R l≠0 then .inl (Jb R l)else if Jb Q k≠0 then .inl (Jb Q k)else if Jc l≠0 then .inl (Jc l)else if Jc k≠0 then .inl (Jc k)else if IP l≠0 then .inl (IP l)else if IP k≠0 then .inl (IP k)else .inr ()):=by
  have r:cj=18446744073709551611+1+1+1+1+1:=rfl;rw[r,bh];have d:=b 0 V1;have e:=b 1 V1;have o:=b 2 V1;have p:=b 3 V1;rw[show Rz R l 0=J5 l from rfl,show Rz Q k 0=J5 k from rfl]at d;rw[show Rz R l 1=Jb R l from rfl,show Rz Q k 1=Jb Q k from rfl]at e;rw[show Rz R l 2=Jc l from rfl,show Rz Q k 2=Jc k from rfl]at o;rw[show Rz R l 3=IP l from rfl,show Rz Q k 3=IP k from rfl]at p;have d:lG R l Q k 0=_:=d;rw[d];simp only[zG];split
  .rfl
  split
  .rfl
  simp only[be];rw[bh,e];simp only[zG];split
  .rfl
  split
  .rfl
  simp only[be];rw[bh,o];simp only[zG];split
  .rfl
  split
  .rfl
  simp only[be];rw[bh,p];simp only[zG];split
  .rfl
  split
  .rfl
  simp only[be];rw[bh,show((3+1:Nat):Int)=4 from rfl,c];rfl
 rw[j];simp only[zG];split
 .rfl
 split
 .rfl
 split
 .rfl
 split
 .rfl
 split
 .rfl
 split
 .rfl
 split
 .rfl
 split
 .rfl
 rename_i h;rw[show IP k=0 by omega];rfl
def aP1 (a0:Int)(a1:List bx)(a2:Int)(a3:List bx)(a4 a5:Int): ∃d,tT a0 a1 a2 a3 a4 a5=O d/\nU a0 a1 a2 a3 a4 a5=O d:=by
 unfold tT nU;simp only[Ez,zG,ah];by_cases b:a4<1
 .rw[zE b,zE b];exact⟨_,rfl,rfl⟩
 rw[zF b,zF b];by_cases c:64<a4
 .rw[zE c,zE c];exact⟨_,rfl,rfl⟩
 rw[zF c,zF c];by_cases e:a5<0
 .rw[zE e,zE e];exact⟨_,rfl,rfl⟩
 rw[zF e,zF e];by_cases f:64<a5
 .rw[zE f,zG,ah,zE f];exact⟨_,rfl,rfl⟩
 rw[zF f,zG,ah,zF f];by_cases h:a0<IntKind.i64.wrap (zH zI (a4+a5)+1)
 .rw[zE h,zE h];exact⟨_,rfl,rfl⟩
 rw[zF h,zF h];by_cases j:a2<IntKind.i64.wrap (a4+a5)
 .rw[zE j,zB j];exact⟨_,rfl,rfl⟩
 rw[zF j,zA j];exact⟨_,rfl,rfl⟩
def aC0 (l:List bx):J5 l=0∨J5 l=6:=by unfold J5;split<;>simp
def aC1 (R:Int)(l:List bx):Jb R l=0∨Jb R l=7:=by unfold Jb;split<;>simp
def aC2 (l:List bx):Jc l=0∨Jc l=8:=by unfold Jc;split<;>simp
def yf (s l x t:Int):Int:=if x<1 then 10 else if 64<x then 10 else if t<0 then 10 else if 64<t then 10 else if s<IntKind.i64.wrap (zH zI (x+t)+1)then 10 else if l<IntKind.i64.wrap (x+t)then 10 else 0
def IX (a0:Int)(a1:List bx)(a2:Int)(a3:List bx)(a4 a5:Int):nU a0 a1 a2 a3 a4 a5=O (yf a0 a2 a4 a5):=by
 unfold nU yf;simp only[ah];split
 .rfl
 split
 .rfl
 split
 .rfl
 split
 .rfl
 split
 .rfl
 split<;>rfl
def XP (a0:Int)(a1:List bx)(a2:Int)(a3:List bx)(a4 a5:Int):tT a0 a1 a2 a3 a4 a5=O (yf a0 a2 a4 a5):=by
 have⟨d,b,c⟩:=aP1 a0 a1 a2 a3 a4 a5;rw[b,<-c,IX]
def hk0 (m:Int):Int:=if m<1 then 5 else if 3<m then 5 else 0
def hk3 (m n:Int):Int:=if n<0 then 11 else if(if m=2 then 0 else 65535)<n then 11 else 0
def hk4 (b:Int):Int:=if b<0 then 12 else if 1048576<b then 12 else 0
def su (m:Int)(x t:Nat)(R:Int)(l:List bx)(Q:Int)(k:List bx)(n b:Int):Int:=if hk0 m≠0 then hk0 m else if mw R l Q k≠0 then mw R l Q k else if yf R Q x t≠0 then yf R Q x t else if hk3 m n≠0 then hk3 m n else hk4 b
def GH (b:Bool)(e:Int):da b e=O (if b then e else 0):=by cases b<;>rfl
section
variable {a0:Int} {a1 a2:Zd} {a3:Int} {a4:List bx} {a5:Int} {a6:List bx} {a7 a8:Int}
def bl6 :ju a0 a1 a2 a3 a4 a5 a6 a7 a8=O (hk0 a0):=by
 unfold ju hk0;simp only[GH,zG,ah];split
 .rfl
 by_cases c:3<a0<;>simp[c]
def X3 (b:OpsOk a4)(c:OpsOk a6):gS a0 a1 a2 a3 a4 a5 a6 a7 a8=O (mw a3 a4 a5 a6):=by
 unfold gS;rw[XQ b c];rfl
def bl5 :jt a0 a1 a2 a3 a4 a5 a6 a7 a8=O (yf a3 a5 (ft a1:Nat) (ft a2:Nat)):=by
 unfold jt;rw[XP];rfl
def aA6 :iL a0 a1 a2 a3 a4 a5 a6 a7 a8=O (hk3 a0 a7):=by
 unfold iL hk3;simp only[GH,zG,ah];by_cases b:a0=2
 .rw[zE b,zE b,zG];split
  .rfl
  by_cases c:0<a7<;>simp[c]
 rw[zF b,zF b,zG];split
 .rfl
 by_cases c:65535<a7<;>simp[c]
def aA5 :iK a0 a1 a2 a3 a4 a5 a6 a7 a8=O (hk4 a8):=by
 unfold iK hk4;simp only[GH,zG,ah];split
 .rfl
 by_cases c:1048576<a8<;>simp[c]
def EF (j:OpsOk a4)(o:OpsOk a6):kG a0 a1 a2 a3 a4 a5 a6 a7 a8=O (su a0 (ft a1) (ft a2) a3 a4 a5 a6 a7 a8):=by
 have c:iJ a0 a1 a2 a3 a4 a5 a6 a7 a8 0=O (if hk0 a0≠0 then .inr (.inl<|hk0 a0)else .inl 1):=by
  show(gn (ju a0 a1 a2 a3 a4 a5 a6 a7 a8) λr=>cond (Zc<|r≠0) _ _)=_;rw[bl6];simp only[zG,ah];split<;>rfl
 have d:iJ a0 a1 a2 a3 a4 a5 a6 a7 a8 1=O (if mw a3 a4 a5 a6≠0 then .inr (.inl<|mw a3 a4 a5 a6)else .inl 2):=by
  show(gn (gS a0 a1 a2 a3 a4 a5 a6 a7 a8) λr=>cond (Zc<|r≠0) _ _)=_;rw[X3 j o];simp only[zG,ah];split<;>rfl
 have e:iJ a0 a1 a2 a3 a4 a5 a6 a7 a8 2=O (if yf a3 a5 (ft a1:Nat) (ft a2:Nat)≠0 then .inr (.inl<|yf a3 a5 (ft a1:Nat) (ft a2:Nat))else .inl 3):=by
  show(gn (jt a0 a1 a2 a3 a4 a5 a6 a7 a8) λr=>cond (Zc<|r≠0) _ _)=_;rw[bl5];simp only[zG,ah];split<;>rfl
 have f:iJ a0 a1 a2 a3 a4 a5 a6 a7 a8 3=O (if hk3 a0 a7≠0 then .inr (.inl<|hk3 a0 a7)else .inl 4):=by
  show(gn (iL a0 a1 a2 a3 a4 a5 a6 a7 a8) λr=>cond (Zc<|r≠0) _ _)=_;rw[aA6];simp only[zG,ah];split<;>rfl
 have k:iJ a0 a1 a2 a3 a4 a5 a6 a7 a8 4=O (if hk4 a8≠0 then .inr (.inl<|hk4 a8)else .inl 5):=by
  show(gn (iK a0 a1 a2 a3 a4 a5 a6 a7 a8) λr=>cond (Zc<|r≠0) _ _)=_;rw[aA5];simp only[zG,ah];split<;>rfl
 have b:iJ a0 a1 a2 a3 a4 a5 a6 a7 a8 5=O (.inr<|.inr ()):=rfl;unfold kG su;have p:cj=18446744073709551610+1+1+1+1+1+1:=rfl;rw[p,bh,c,zG];split
 .rfl
 simp only[be];rw[bh,d,zG];split
 .rfl
 simp only[be];rw[bh,e,zG];split
 .rfl
 simp only[be];rw[bh,f,zG];split
 .rfl
 simp only[be];rw[bh,k,zG];split
 .rfl
 rename_i h;simp only[be];rw[bh,b,show hk4 a8=0 by omega];rfl
def GV (q:OpsOk a4)(r:OpsOk a6)(o:ft a4<=1500)(p:ft a6<=1500):mh a0 a1 a2 a3 a4 a5 a6 a7 a8=O (su a0 (ft a1) (ft a2) a3 a4 a5 a6 a7 a8):=by
 unfold mh su;rw[Ps q r o p,IX];simp only[zG,ah];unfold hk0;by_cases c:a0<1
 .rw[zE c,zE c];rfl
 rw[zF c,zF c];by_cases d:3<a0
 .rw[zE d,zE d];rfl
 rw[zF d,zF d,zF (show¬(0:Int)≠0 by simp)];by_cases e:mw a3 a4 a5 a6≠0
 .rw[zE e,zE e]
 rw[zF e,zF e];by_cases f:yf a3 a5 (ft a1:Nat) (ft a2:Nat)≠0
 .rw[zE f,zE f]
 rw[zF f,zF f];unfold hk3 hk4;by_cases h:a7<0
 .rw[zE h,zE h];rfl
 rw[zF h,zF h];by_cases j:a0=2
 .rw[zE j,zE j];by_cases k:0<a7
  .rw[zE k,zE (show(11:Int)≠0 by simp)];by_cases b:65535<a7
   .rw[zE b]
   rw[zF b,Zg]
  rw[zF k,zF (show¬(0:Int)≠0 by simp),zF (show¬65535<a7 by omega),zF (show¬a7≠0 by omega)];split
  .rfl
  split<;>rfl
 rw[zF j,zF j];by_cases b:65535<a7
 .rw[zE b,zE b];rfl
 rw[zF b,zF b,zF (show¬(0:Int)≠0 by simp)];split
 .rfl
 split<;>rfl
structure HFacts (a0:Int)(x t:Nat)(a3:Int)(a4:List bx)(a5:Int)(a6:List bx)(a7 a8:Int):Prop where
 mode:1<=a0/\a0<=3
 regs:1<=a3/\a3<=64
 regs':1<=a5/\a5<=64
 xs:1<=x/\x<=64
 ts:t<=64
 w:0<=(eb a4).1/\(eb a4).1<=65536
 w':0<=(eb a6).1/\(eb a6).1<=65536
 len:0<=a7/\a7<=65535
 bud:0<=a8/\a8<=1048576
def VJ {R:Int}{l:List bx}(h:Jb R l=0):1<=R/\R<=64:=by
 unfold Jb at h;split at h
 .rename_i b;unfold Kn at b;rw[Bool.and_eq_true]at b;exact of_decide_eq_true b.1
 cases h
def PW {l:List bx}(h:OpsOk l):0<=(eb l).1/\(eb l).1<=65536:=by
 unfold eb;split
 .rename_i d;split
  .rename_i w c;have:=L6 (λo b=>(h.v o b).1) d c;split
   .simp
   simp;omega
  simp
 simp
def ao8 {R Q:Int}{l k:List bx}(h:mw R l Q k=0):(1<=R/\R<=64)/\(1<=Q/\Q<=64):=by
 unfold mw at h;split at h
 .rename_i c;exact(c h).elim
 split at h
 .rename_i c;exact(c h).elim
 split at h
 .rename_i c;exact(c h).elim
 split at h
 .rename_i c;exact(c h).elim
 rename_i b d;exact⟨VJ (l:=l) V1,VJ (l:=k) V1⟩
def EG (j:OpsOk a4)(k:OpsOk a6)(h:su a0 x t a3 a4 a5 a6 a7 a8=0):HFacts a0 x t a3 a4 a5 a6 a7 a8:=by
 unfold su at h;split at h
 .rename_i c;exact(c h).elim
 split at h
 .rename_i c;exact(c h).elim
 split at h
 .rename_i c;exact(c h).elim
 split at h
 .rename_i c;exact(c h).elim
 rename_i e q b d;have⟨o,p⟩:=ao8 (show mw a3 a4 a5 a6=0 by omega);have e:hk0 a0=0:=by omega
 have b:yf a3 a5 x t=0:=by omega
 have d:hk3 a0 a7=0:=by omega
 unfold hk0 at e;unfold hk3 at d;unfold hk4 at h;unfold yf at b;refine⟨?_,o,p, ?_, ?_,PW j,PW k, ?_, ?_⟩
 .split at e
  .omega
  split at e<;>omega
 .split at b
  .omega
  split at b<;>omega
 .split at b
  .omega
  split at b
  .omega
  split at b
  .omega
  split at b<;>omega
 .split at d
  .omega
  by_cases f:a0=2
  .rw[zE f]at d;split at d<;>omega
  rw[zF f]at d;split at d<;>omega
 split at h
 .omega
 split at h<;>omega
def rB (a0:Int)(a4 a6:List bx):Int:=if a0=3 then(eb a6).1 else(eb a4).1+(eb a6).1
def rA (a0:Int)(x:Nat)(a3:Int)(a4:List bx):Int:=if a0=3 then(eb a4).1+a3 else x+1
def sr (x t:Nat)(a3 a5:Int):Int:=2*t+2*x+a3+a5+max a3 a5
def ae5 (b:OpsOk a4)(c:OpsOk a6):i7 a0 a1 a2 a3 a4 a5 a6 a7 a8=O (if su a0 (ft a1) (ft a2) a3 a4 a5 a6 a7 a8≠0 then(0,0)else((eb a4).1,(eb a6).1)):=by
 unfold i7;have:=b.len;have:=c.len;rw[EF b c,yp V1 b.v,yp V1 c.v];simp only[zG,ah];split<;>rfl
def Kl (b:OpsOk a4)(c:OpsOk a6)(d:ft a4<=1500)(e:ft a6<=1500):qj a0 a1 a2 a3 a4 a5 a6 a7 a8=O (if su a0 (ft a1) (ft a2) a3 a4 a5 a6 a7 a8≠0 then(0,0)else((eb a4).1,(eb a6).1)):=by
 unfold qj;have:=b.len;have:=c.len;rw[GV b c d e,Aj d b.v,Aj e c.v];simp only[zG,ah];split<;>rfl
def Po (b:OpsOk a4)(d:OpsOk a6)(h:su a0 (ft a1) (ft a2) a3 a4 a5 a6 a7 a8=0):ug a0 a1 a2 a3 a4 a5 a6 a7 a8=O (((ft a2:Nat):Int),((ft a1:Nat):Int),a3,a5,max a3 a5,((ft a1:Nat):Int),((ft a2:Nat):Int),rB a0 a4 a6,rA a0 (ft a1) a3 a4):=by
 have f:=EG b d h;have e:=f.mode;have j:=f.regs;have k:=f.xs;have o:=f.w;have p:=f.w';unfold ug rB rA;rw[ae5 b d,zF<|λc=>c h];simp only[zG,ah];rw[ad (n:=(eb a4).1+a3) V1,ad (n:=(eb a4).1+(eb a6).1) V1,ad (n:=(ft a1:Int)+1) V1];split
 .rfl
 rfl
def pre (L:Zd):Nat->Int
 |0=>0
 |i+1=>pre L i+L.getD i 0
def Yq {L:Zd}(b: ∀j,0<=L.getD j 0/\L.getD j 0<=1000000000000): ∀i,0<=pre L i/\pre L i<=1000000000000*i
 |0=>⟨dC _,dC _⟩
 |i+1=>by
  have:=Yq b i;have:=b i;simp only[pre];omega
def Wi {b0 b1 b2 b3 c d f h b n:Int}(o: ∀j,0<=([b0,b1,b2,b3,c,d,f,h,b*n]:Zd).getD j 0/\([b0,b1,b2,b3,c,d,f,h,b*n]:Zd).getD j 0<=1000000000000):AH b0 b1 b2 b3 c d f h b n=O ((cV 10).map<|pre [b0,b1,b2,b3,c,d,f,h,b*n]):=by
 generalize q:([b0,b1,b2,b3,c,d,f,h,b*n]:Zd)=L at*;have r:=Yq o
 have k:am (rW b0 b1 b2 b3 c d f h b) cj (0,(pre L 0,(cV 0).map<|pre L))=O (pre L 8,(cV 8).map<|pre L):=by
  refine bz (n:=8) (λi=>(pre L i,(cV i).map<|pre L)) V1 (λi hi=> ?_) ?_
  .unfold rW;rw[ah,Zg,bl (show i<9 by omega),zG]
   have e:dI [b0,b1,b2,b3,c,d,f,h,b] i 0=L.getD i 0:=by
    subst q;rcases(show i=0∨i=1∨i=2∨i=3∨i=4∨i=5∨i=6∨i=7 by omega)with rfl|rfl|rfl|rfl|rfl|rfl|rfl|rfl<;>rfl
   have s:=r i;have p:=o i;rw[e,au V3 V1,ad (n:=pre L i+L.getD i 0) V1,ad (n:=(i:Int)+1) V1,eD,dL];rfl
  unfold rW;rw[ah,Zh]
 unfold AH;have k:am (rW b0 b1 b2 b3 c d f h b) cj (0,0,[])=_:=k;rw[k];have s:=r 8;have p:=o 8;have e:L.getD 8 0=b*n:=by subst q;rfl
 rw[e]at p;simp only[zG];rw[au V2 V1,au V2 V1,ad (n:=b*n) V1,ad (n:=pre L 8+b*n) V1];show _=O ((cV<|8+1+1).map<|pre L);rw[eD (n:=8+1),eD (n:=8),dL,dL];show _=O (((cV 8).map (pre L)++[pre L 8])++[pre L 8+L.getD 8 0]);rw[e]
def ap0 {b0 b1 b2 b3 b c d e f n:Int}(h: ∀j,0<=([b0,b1,b2,b3,b,c,d,e,f*n]:Zd).getD j 0/\([b0,b1,b2,b3,b,c,d,e,f*n]:Zd).getD j 0<=1000000000000):xG b0 b1 b2 b3 b c d e f n=O (b0+b1+b2+b3+b+c+d+e+f*n):=by
 unfold xG;rw[Wi h];show O (0+b0+b1+b2+b3+b+c+d+e+f*n)=_;rw[cN]
def bH6 {b0 b1 b2 b3 b c d e f:Int}{p:Int->Prop}(h:p b0)(k:p b1)(o:p b2)(q:p b3)(r:p b)(s:p c)(u:p d)(y:p e)(z:p f)(A:p 0): ∀j,p (([b0,b1,b2,b3,b,c,d,e,f]:Zd).getD j 0)
 |0=>h
 |1=>k
 |2=>o
 |3=>q
 |4=>r
 |5=>s
 |6=>u
 |7=>y
 |8=>z
 |j+9=>by
  show p<|([]:Zd).getD j 0;rw[List.getD_nil];exact A
def TF {s n:Int}(c:0<=s/\s<=100000)(b:0<=n/\n<=1048576):0<=s*n/\s*n<=1000000000000:=by
 have d:=cW c.1 b.1;have e:=Int.mul_le_mul c.2 b.2 b.1 V1;omega
structure SFacts (x t:Nat)(a3 a5 tp sl:Int):Prop where
 xs:1<=x/\x<=64
 ts:t<=64
 r:1<=a3/\a3<=64
 r':1<=a5/\a5<=64
 tp:0<=tp/\tp<=131072
 sl:1<=sl/\sl<=100000
def PL (b:OpsOk a4)(c:OpsOk a6)(h:su a0 x t a3 a4 a5 a6 a7 a8=0):SFacts x t a3 a5 (rB a0 a4 a6)<|rA a0 x a3 a4:=by
 have f:=EG b c h;have d:=f.mode;have e:=f.regs;have j:=f.xs;have k:=f.w;have o:=f.w';refine⟨f.xs,f.ts,f.regs,f.regs', ?_, ?_⟩
 .unfold rB;split<;>omega
 unfold rA;split<;>omega
def YJ {tp sl n:Int}(s:SFacts x t a3 a5 tp sl)(b:0<=n/\n<=1048576): ∀j,0<=([(t:Int),x,a3,a5,max a3 a5,x,t,tp,sl*n]:Zd).getD j 0/\([(t:Int),x,a3,a5,max a3 a5,x,t,tp,sl*n]:Zd).getD j 0<=1000000000000:=by
 have c:=s.xs;have d:=s.ts;have e:=s.r;have f:=s.r';have h:=s.tp;have k:=s.sl;exact bH6 (p:=λy=>0<=y/\y<=1000000000000) V1 V1 V1 V1 V1 V1 V1 V1 (TF V1 b) V1
def bo9 {b sl n:Int}(s:SFacts x t a3 a5 b sl)(c:0<=n/\n<=1048576):xG t x a3 a5 (max a3 a5) x t b sl n=O (sr x t a3 a5+b+n*sl):=by
 rw[ap0<|YJ s c];unfold sr;rw[dD sl n]
 congr 1
 omega
def Wx {b sl:Int}(h:SFacts (ft a1) (ft a2) a3 a5 b sl):xo a0 a1 a2 a3 a4 a5 a6 a7 a8=O (sr (ft a1) (ft a2) a3 a5):=by
 have c:=h.xs;have d:=h.ts;have e:=h.r;have f:=h.r';unfold xo sr;rw[ad (n:=2*(ft a2:Int)) V1,ad (n:=2*(ft a1:Int)) V1,ad (n:=2*(ft a2:Int)+2*(ft a1:Int)) V1,ad (n:=2*(ft a2:Int)+2*(ft a1:Int)+a3) V1,ad (n:=2*(ft a2:Int)+2*(ft a1:Int)+a3+a5) V1,Zi]
def YF (b:OpsOk a4)(d:OpsOk a6)(e:ft a4<=1500)(k:ft a6<=1500)(h:su a0 (ft a1) (ft a2) a3 a4 a5 a6 a7 a8=0):zU a0 a1 a2 a3 a4 a5 a6 a7 a8=O (rB a0 a4 a6):=by
 have f:=EG b d h;have j:=f.w;have o:=f.w';unfold zU rB;rw[Kl b d e k,zF<|λc=>c h];simp only[zG,ah];rw[Zi];split<;>rfl
def YE (b:OpsOk a4)(d:OpsOk a6)(e:ft a4<=1500)(k:ft a6<=1500)(h:su a0 (ft a1) (ft a2) a3 a4 a5 a6 a7 a8=0):zT a0 a1 a2 a3 a4 a5 a6 a7 a8=O (rA a0 (ft a1) a3 a4):=by
 have f:=EG b d h;have o:=f.regs;have p:=f.xs;have j:=f.w;have q:=f.w';unfold zT rA;rw[Kl b d e k,zF<|λc=>c h];simp only[zG,ah];rw[ad (n:=(eb a4).1+a3) V1,Zi];split<;>rfl
def least (a0 a7:Int):Int:=if a0=3 then a7 else 1
def gy (a0:Int)(x t:Nat)(a3:Int)(a4:List bx)(a5:Int)(a6:List bx)(a7 a8:Int):Int×Int×Int×Int×Int:=
 if su a0 x t a3 a4 a5 a6 a7 a8≠0 then(0,0,0,0,su a0 x t a3 a4 a5 a6 a7 a8)
 else if a8<sr x t a3 a5+rB a0 a4 a6+least a0 a7*rA a0 x a3 a4 then(0,0,0,0,13)
 else(sr x t a3 a5,rB a0 a4 a6,rA a0 x a3 a4,if a0=3 then a7 else(a8-sr x t a3 a5-rB a0 a4 a6) / rA a0 x a3 a4,0)
def aF5 {b sl n:Int}(s:SFacts x t a3 a5 b sl):am (uf (t:Int) (x:Int) a3 a5 (max a3 a5) (x:Int) (t:Int) b sl) cj (0,0,b,sl,n)=O (sr x t a3 a5,b,sl,n):=by
 have d:=YJ (n:=1) s V1;have j:=Yq d
 have f:pre [(t:Int),x,a3,a5,max a3 a5,x,t,b,sl*1] 7=sr x t a3 a5:=by
  show 0+(t:Int)+x+a3+a5+max a3 a5+x+t=_;unfold sr;omega
 rw[<-f];generalize h:([(t:Int),x,a3,a5,max a3 a5,x,t,b,sl*1]:Zd)=L at*;refine bz (n:=7) (λi=>(pre L i,b,sl,n)) (c:=(pre L 7,b,sl,n)) V1 (λi hi=> ?_) ?_
 .unfold uf;rw[ah,Zg,bl (show i<9 by omega),zG]
  have e:dI [(t:Int),x,a3,a5,max a3 a5,x,t,b,sl] i 0=L.getD i 0:=by
   subst h;rcases(show i=0∨i=1∨i=2∨i=3∨i=4∨i=5∨i=6 by omega)with rfl|rfl|rfl|rfl|rfl|rfl|rfl<;>rfl
  have k:=j i;have o:=d i;rw[e,ad (n:=pre L i+L.getD i 0) V1,ad (n:=(i:Int)+1) V1];rfl
 unfold uf;rw[ah,Zh]
def LA (e:OpsOk a4)(j:OpsOk a6):io a0 a1 a2 a3 a4 a5 a6 a7 a8=O (gy a0 (ft a1) (ft a2) a3 a4 a5 a6 a7 a8):=by
 unfold io gy;rw[EF e j,zG];by_cases h:su a0 (ft a1) (ft a2) a3 a4 a5 a6 a7 a8=0
 .rw[zA (λc=>c h),zD,zF (λc=>c h),Po e j h];have s:=PL e j h;have f:=EG e j h;have z:=f.mode;have A:=f.len;have B:=f.bud;have C:=s.xs;have D:=s.ts;have E:=s.r;have F:=s.r';have H:=s.tp;have I:=s.sl
  have u:(cond (Zc<|a0=3) (O a7)<|O (1:Int))=O (least a0 a7):=by
   unfold least;rw[ah];split<;>rfl
  have y:0<=least a0 a7/\least a0 a7<=65535:=by unfold least;split<;>omega
  simp only[zG];rw[u,zG,bo9 s V1,zG,aF5 s];simp only[zG,ah];by_cases c:a8<sr (ft a1) (ft a2) a3 a5+rB a0 a4 a6+least a0 a7*rA a0 (ft a1) a3 a4
  .rw[zE c,zE c]
  rw[zF c,zF c];have q:0<=sr (ft a1) (ft a2) a3 a5/\sr (ft a1) (ft a2) a3 a5<=1000:=by unfold sr;omega
  by_cases b:a0=3
  .rw[zF (λk=>k b),zE b];unfold least;rw[zE b]
  rw[zE b,zF b,bl2 V1];unfold least at c;rw[zF b]at c;generalize sr (ft a1) (ft a2) a3 a5=d at*;generalize rB a0 a4 a6=tp at*;generalize rA a0 (ft a1) a3 a4=sl at*;rw[ad (n:=a8-d) V1,ad (n:=a8-d-tp) V1,ag0 V1];have o:0<=(a8-d-tp) / sl:=dU V1 V1;have p:(a8-d-tp) / sl<=a8-d-tp:=dT _ V1;rw[Zi]
 rw[zB h,zC,zE h]
def Pu (j:OpsOk a4)(o:OpsOk a6)(q:ft a4<=1500)(u:ft a6<=1500):gX a0 a1 a2 a3 a4 a5 a6 a7 a8=O (gy a0 (ft a1) (ft a2) a3 a4 a5 a6 a7 a8):=by
 unfold gX gy;rw[GV j o q u,zG];by_cases h:su a0 (ft a1) (ft a2) a3 a4 a5 a6 a7 a8=0
 .have s:=PL j o h;have f:=EG j o h;rw[zA (λc=>c h),zD,zF (λc=>c h),Wx s,YF j o q u h,YE j o q u h];have J:=f.mode;have K:=f.len;have L:=f.bud;have B:=s.xs;have M:=s.ts;have C:=s.r;have N:=s.r';have Q:=s.tp;have T:=s.sl;have E:0<=sr (ft a1) (ft a2) a3 a5/\sr (ft a1) (ft a2) a3 a5<=1000:=by unfold sr;omega
  have H:0<=least a0 a7/\least a0 a7<=65535:=by unfold least;split<;>omega
  simp only[zG];generalize sr (ft a1) (ft a2) a3 a5=b at*;generalize rB a0 a4 a6=tp at*;generalize rA a0 (ft a1) a3 a4=sl at*
  have F:(cond (Zc<|a0=3) (O ((b,tp,sl,a7):Int×Int×Int×Int))<|O (b,tp,sl,1))=O (b,tp,sl,least a0 a7):=by
   unfold least;rw[ah];split<;>rfl
  rw[F,zG];have y:=TF (s:=sl) (n:=least a0 a7) V1 V1;rw[dD]at y;rw[ad (n:=b+tp) V1,ad (n:=least a0 a7*sl) V1,Zi,ah];by_cases c:a8<b+tp+least a0 a7*sl
  .rw[zE c,zE c]
  rw[zF c,zF c];by_cases e:a0=3
  .have d:am (oM a0 a8) cj (b,tp,sl,least a0 a7)=O (b,tp,sl,least a0 a7):=by
    rw[show cj=18446744073709551615+1 from rfl,bh];unfold oM;rw[ah,zF<|λk=>k e];rfl
   rw[d,zE e];unfold least;rw[zE e];rfl
  have d:am (oM a0 a8) cj (b,tp,sl,least a0 a7)=O (b,tp,sl,(a8-b-tp) / sl):=by
   refine J7 (λst=> ∃n:Int,st=(b,tp,sl,n)/\1<=n/\n<=1048577/\b+tp+n*sl<=a8) (λst=>fu<|2000000-st.2.2.2) ⟨least a0 a7,rfl,by unfold least;rw[zF e];omega,V1,V1⟩ V3 ?_;rintro _ ⟨n,rfl,W,X,n3⟩;unfold oM;simp only;have y:=TF (s:=sl) (n:=n+1-2) V1 V1;have V:(n+1)*sl=sl*(n+1-2)+2*sl:=by rw[Int.mul_sub,dD];omega
   have I:(n+1)*sl=n*sl+sl:=by rw[Int.add_mul,Int.one_mul]
   rw[ah,zE e,ad (n:=n+1) V1,ad (n:=b+tp) V1,ad (n:=(n+1)*sl) V1,Zi,ah]
   have z:n<=n*sl:=by
    have:=dE (show 1<=sl by omega) (show 0<=n by omega);omega
   by_cases p:b+tp+(n+1)*sl<=a8
   .rw[zE p];left;exact⟨_,rfl,⟨n+1,rfl,V1,V1,p⟩,by simp only;omega⟩
   rw[zF p];right
   have D:(a8-b-tp) / sl=n:=by
    have A:a8-b-tp=(a8-b-tp-n*sl)+n*sl:=by omega
    rw[A,Int.add_mul_ediv_right _ _ V1,Int.ediv_eq_zero_of_lt V1 V1,cN]
   rw[D]
  rw[d,zF e];rfl
 rw[zB h,zC,zE h]
end
def Reach {α γ:Type}(f:α->Option (α⊕γ))(k:Nat)(s c:α):Prop:= ∀b,am f (b+k) s=am f b c
def Reach.refl {α γ:Type}{f:α->Option (α⊕γ)}{s:α}:Reach f 0 s s:=λ_=>rfl
def Reach.trans {α γ:Type}{f:α->Option (α⊕γ)}{k c:Nat}{s e b:α}(h:Reach f k s e)(j:Reach f c e b):Reach f (k+c) s b:=by
 intro d;rw[show d+(k+c)=(d+c)+k by omega,h,j]
def Reach.one {α γ:Type}{f:α->Option (α⊕γ)}{s b:α}(h:f s=O (.inl b)):Reach f 1 s b:=by
 intro c;rw[bh,h];rfl
section
variable {l:List bx}
def bw7 (d:l.length<=8192)(b:st.length<=8192)(hi:i<l.length)(c:0<l[i].1/\l[i].1<7)(e:out.length=l.length):
  dq l ((i:Int),Za,out,st,st)=O (.inl (((i+1:Nat):Int),Za,out.set i<|-1,st,st)):=by
 simp only[dq];rw[zB (show(i:Int)<(l.length:Int)by omega),zC,bq hi];simp only[zG];generalize f:l[i]=x at*;rw[zA (show¬x.1<0 by omega),zD,zA (show¬7<x.1 by omega),zD,zA (show¬x.1=0 by omega)];simp only[zD,zG,ci];rw[bl (show i<out.length by omega)];simp only[zG];rw[aD (show i<out.length by omega)];simp only[zG];rw[zA (show¬x.1=7 by omega)];simp only[zD];rw[ad (n:=(i:Int)+1) V1];rfl
def aU0 (d:ft l<=8192)(c:ft st<=8192)(hi:i<ft l)(b:l[i].1=7)(e:ft out=ft l):
  dq l ((i:Int),Za,out,st,st)=O (.inl (((i+1:Nat):Int),Za,out.set i<|-1,st++[(i:Int)],st++[(i:Int)])):=by
 simp only[dq];rw[zB (show(i:Int)<(ft l:Int)by omega),zC,bq hi,zG];generalize f:l[i]=x at*;rw[zA (show¬x.1<0 by omega),zD,zA (show¬7<x.1 by omega),zD,zA (show¬x.1=0 by omega)];simp only[zD,zG,ci];rw[bl (show i<(ft out) by omega),zG,aD (show i<(ft out) by omega),zG,zB b];simp only[zC];rw[au V1 V1,au V1 V1,ad (n:=(i:Int)+1) V1];rfl
def aD6 {q:Nat}(h:l.length<=8192)(f:st.length<8192)(hi:i<l.length)(e:l[i].1=0)(j:out.length=l.length)(k:q<l.length):
  dq l ((i:Int),Za,out,st++[(q:Int)],st++[(q:Int)])=O (.inl (((i+1:Nat):Int),Za,((out.set i<|-1).set i (q:Int)).set q (i:Int),st,st)):=by
 have b:(st++[(q:Int)]).length=st.length+1:=by simp
 simp only[dq];rw[zB (show(i:Int)<(l.length:Int)by omega),zC,bq hi];simp only[zG];generalize o:l[i]=x at*;rw[zA (show¬x.1<0 by omega),zD,zA (show¬7<x.1 by omega),zD,zB e];simp only[zC,zG,ci];rw[zA (show¬((st++[(q:Int)]).length:Int)=0 by omega),zD];rw[ad (n:=((st++[(q:Int)]).length:Int)-1) V1,Zl,bp];simp only[zG,ci];have d:Zc (x.1=7)=Zb:=zA V1;rw[bl (show i<out.length by omega)];simp only[zG];rw[aD (show i<out.length by omega)];simp only[zG];rw[d,zD,show((st++[(q:Int)]).length:Int)-1=(st.length:Int)by rw[b];omega,bl (show st.length<(st++[(q:Int)]).length by omega)];simp only[zG];rw[cL<|aB _,bD];simp only[eM,zG]
 rw[bp,bl (show i<(out.set i<|-1).length by simp;omega)];simp only[zG];rw[aD (show i<(out.set i<|-1).length by simp;omega)];simp only[zG];rw[bl (show q<((out.set i<|-1).set i ((q:Nat):Int)).length by simp;omega)];simp only[zG];rw[aD (show q<((out.set i<|-1).set i ((q:Nat):Int)).length by simp;omega)];simp only[zG]
 have c:(st++[(q:Int)]).take ((st.length:Int).toNat-0)=st:=by
  rw[show(st.length:Int).toNat-0=st.length by omega,dP];rfl
 rw[c,ad (n:=(i:Int)+1) V1];rfl
def TI (D:ft l<=8192): ∀(k:Nat) (A seg B:List bx) (out st:Zd),ft seg<=k->l=A++seg++B->bt seg 0=O 0->ft out=ft l->ft st<=ft A->
  ∃f,Reach (dq l) (ft seg) ((ft A:Int),Za,out,st,st) (((ft A+ft seg:Nat):Int),Za,f,st,st)/\ft f=ft l/\
   (∀j,¬(ft A<=j/\j<ft A+ft seg)->f[j]?=out[j]?)/\∀j,ft A<=j->j<ft A+ft seg->(y:j<ft l)->l[j].1=7->∀inner e rest,l.drop (j+1)=inner++e::rest->e.1=0->bt inner 0=O 0->f[j]?=O ((j+1+ft inner:Nat):Int)
 |k,A,[],B,out,st,_,b,L,E,hst=>⟨out,Reach.refl,E,λj _=>rfl,λj h1 X=>by simp at X;omega⟩
 |0,A,o::seg,B,out,st,p,_,_,_,_=>by simp at p
 |k+1,A,o::seg,B,out,st,p,b,L,E,hst=>by
  simp only[cD]at p⊢;have K:ft l=ft A+(ft seg+1)+ft B:=by rw[b];simp;omega
  have s:ft A<ft l:=by omega
  have h:l[ft A]=o:=by
   have:l[ft A]?=O o:=by
    rw[b,cK,cL<|aB _,bD];rfl
   rw[aD s]at this;injection this
  by_cases r:o.1=7
  .have hs1:bt seg 1=O 0:=by
    simp only[bt]at L;rw[Zh,Zh,zE r]at L;exact L
   have⟨inner,e,rest,h1,X,h3,h4⟩:=EW _ seg 0 (aB _) hs1;subst h1;simp only[cM,cD]at p K⊢
   have hd:l.drop (ft A+1)=inner++e::(rest++B):=by
    rw[b,cK,dG,dH V1,show ft A+1-ft A=1 by omega];simp
   have u:ft (A++[o])=ft A+1:=by simp
   have⟨S1,V,l1,M,F⟩:=TI D k (A++[o]) inner (e::(rest++B)) (out.set (ft A)<|-1) (st++[(ft A:Int)]) V1 (by rw[b];simp) h3 (by simp[E]) V3;rw[u]at V M F;have J:ft A+1+ft inner<ft l:=by omega
   have I:l[ft A+1+ft inner]=e:=by
    have h5:(l.drop<|ft A+1)[ft inner]?=O e:=by
     rw[hd,cL<|aB _,bD];rfl
    rw[dJ,aD J]at h5;injection h5
   have c1:=aD6 (st:=st) D V1 J (by rw[I];exact X) l1 s;have hA2:ft (A++o::(inner++[e]))=ft A+1+ft inner+1:=by simp;omega
   have⟨S2,r2,l3,k2,g2⟩:=TI D k (A++o::(inner++[e])) rest B (((S1.set (ft A+1+ft inner)<|-1).set (ft A+1+ft inner) (ft A:Int)).set (ft A) ((ft A+1+ft inner:Nat):Int)) st V1 (by rw[b];simp) h4 (by simp[l1]) V1;rw[hA2]at r2 k2 g2;refine⟨S2, ?_,l3,λj y=> ?_,λj h5 h6 y p c W d N Q T=> ?_⟩
   .have h0:=Reach.one<|aU0 (out:=out) (st:=st) D V1 s (by rw[h];exact r) E;have H:=((h0.trans V).trans<|Reach.one c1).trans r2;rw[show 1+ft inner+1+ft rest=ft inner+(ft rest+1)+1 by omega,show ft A+1+ft inner+1+ft rest=ft A+(ft inner+(ft rest+1)+1)by omega]at H;exact H
   .rw[k2 j V1,cB V1,cB V1,cB V1,M j V1,cB V1]
   .by_cases z:ft A+1+ft inner+1<=j
    .exact g2 j z V1 y p c W d N Q T
    .rw[k2 j V1];by_cases q:ft A=j
     .subst q;rw[cY V3];have:=Al (hd.symm.trans N) h3 T X Q;subst this;rfl
     .have hj3:j<ft A+1+ft inner:=by
       by_cases C:j<ft A+1+ft inner
       .exact C
       .exfalso;have C:j=ft A+1+ft inner:=by omega
        subst C;rw[I]at p;omega
      rw[cB q,cB V1,cB V1];exact F j V1 hj3 y p c W d N Q T
  .obtain⟨hsr,hko,_⟩:=QW L r;have u:ft (A++[o])=ft A+1:=by simp
   have c1:=bw7 (out:=out) (st:=st) D V1 s (by rw[h];exact hko) E;have⟨S1,V,l1,M,F⟩:=TI D k (A++[o]) seg B (out.set (ft A)<|-1) st V1 (by rw[b];simp) hsr (by simp[E]) V1;rw[u]at V M F;refine⟨S1, ?_,l1,λj y=> ?_,λj h5 h6 y p c W d N Q T=> ?_⟩
   .have H:=(Reach.one c1).trans V;rw[show 1+ft seg=ft seg+1 by omega,show ft A+1+ft seg=ft A+(ft seg+1)by omega]at H;exact H
   .rw[M j V1,cB V1]
   .by_cases z:ft A+1<=j
    .exact F j z V1 y p c W d N Q T
    .have q:j=ft A:=by omega
     subst q;exact(r (by rw[<-h];exact p)).elim
def MZ (o:ft l<=8192)(p:bt l 0=O 0): ∃m,ko l=O (0,m)/\MOK l m:=by
 have⟨S',j,q,y,f⟩:=TI (l:=l) o _ [] l [] (bB (fu (ft l:Int)) (0:Int)) [] (aB _) V2 p V2 V2;rw[show(ft ([]:List bx))+ft l=(ft l) by simp]at j f
 have b:am (dq l) cj ((0:Int),Za,bB (fu (ft l:Int)) (0:Int),([]:Zd),([]:Zd))=O (Za,S',[],[]):=by
  have h:=j<|18446744073709551616-ft l;rw[show 18446744073709551616-ft l+ft l=cj by unfold cj;omega,show 18446744073709551616-ft l=(18446744073709551615-ft l)+1 by omega]at h;refine h.trans ?_;rw[bh];simp only[dq];rw[Ze,zD];rfl
 refine⟨S', ?_,⟨q,λi hi k c e d r s u=>f i (cU _) hi hi k c e d r s u⟩⟩;unfold ko;rw[zB (show(0:Int)<=(ft l:Int)by omega),zB (show(ft l:Int)<=(ft l:Int)by omega),zB (show 8*(ft l:Int)<=140737488355328 by omega)];show gd Za _=_;rw[bp,b];rfl
end
section
variable {l:List bx}
def aC7 {sz:Zd}{pre:List<|Int×Int}(C:l.length<=8192)(D:pre.length<=8192)(hi:i<l.length):
  dg l ((i:Int),sz,rds,pre++[(a,w)])=(cond (Zc<|l[i].1=7)
   (O<|.inl (((i+1:Nat):Int),sz,rds,pre++[(a,w)]++[((i:Int),0)]))
   (cond (Zc<|l[i].1=0)
    ((rd l a).bind λs=>
    (uH w s.2.2.2.2).bind λb=>
    cond (!b.2)
     (O<|.inr (9,sz,rds,pre++[(a,w)]))
     ((ix a sz.length).bind λf=>
     (sz[f]?).bind λz=>
     (ix a rds.length).bind λh=>
     (rds[h]?).bind λA=>
     gd (eU 0 (pre.length:Int)<|pre.length+1) ((ix (zH zI<|(pre.length:Int)-1) pre.length).bind λo=>
     ((pre++[(a,w)])[(0+o)]?).bind λu=>
     (AL<|[u.2,b.1]).bind λp=>
     (ix (zH zI<|(pre.length:Int)-1) pre.length).bind λj=>
     ((pre++[(a,w)])[(0+j)]?).bind λy=>
     O (.inl (((i+1:Nat):Int),dM sz f b.1,dM rds h w,List.take pre.length<|dM (pre++[(a,w)]) (0+j) (y.1,p))))))
    ((jP l[i].1 l[i].2.1 l[i].2.2.1 l[i].2.2.2.1 l[i].2.2.2.2).bind λq=>
    cond q.2
     ((ix (i:Int) sz.length).bind λk=>
     (sz[k]?).bind λB=>
     O (.inl (((i+1:Nat):Int),dM sz k 1,rds,pre++[(a,zH zI<|w+1)])))
     (O<|.inl (((i+1:Nat):Int),sz,rds,pre++[(a,w)]))))):=by
 have d:(pre++[(a,w)]).length=pre.length+1:=by simp
 have c:(pre++[(a,w)])[pre.length]?=O (a,w):=by
  rw[cL<|aB _,bD];rfl
 have e: ∀r,(pre++[(a,w)]).set pre.length (a,r)=pre++[(a,r)]:=by
  intro r;rw[dN _ _<|aB _,bD];rfl
 simp only[dg];rw[zB (show(i:Int)<(l.length:Int)by omega),zC,bq hi];simp only[zG];rw[d,ad (n:=((pre.length+1:Nat):Int)-1) V1,show((pre.length+1:Nat):Int)-1=(pre.length:Int)by omega,bl (show pre.length<pre.length+1 by omega)];simp only[zG];rw[c,ad (n:=(i:Int)+1) V1,au V1 V1,show(i:Int)+1=((i+1:Nat):Int)by omega];simp only[zG];rw[e,show((pre.length:Int).toNat-0)=pre.length by omega]
def bH4 {sz:Zd}{pre:List<|Int×Int}(c:ft l<=8192)(d:ft pre<=8192)(hi:i<ft l)(b:0<l[i].1/\l[i].1<7)(e:ft sz=ft l)(f:0<=w/\w<=1000000000):
  dg l ((i:Int),sz,rds,pre++[(a,w)])=O (.inl (((i+1:Nat):Int),sz.set i 1,rds,pre++[(a,w+1)])):=by
 rw[aC7 c d hi,Ze,Ze];simp only[zD];rw[Is b];simp only[zG,zC];rw[bl (show i<(ft sz) by omega),zG,aD (show i<(ft sz) by omega),zG,ad (n:=w+1) V1]
def bm8 {sz:Zd}{pre:List<|Int×Int}(c:ft l<=8192)(d:ft pre<=8192)(hi:i<ft l)(b:l[i].1=7):
  dg l ((i:Int),sz,rds,pre++[(a,w)])=O (.inl (((i+1:Nat):Int),sz,rds,pre++[(a,w)]++[((i:Int),0)])):=by
 rw[aC7 c d hi,zB b,zC]
def aT3 {b:Nat}{sz:Zd}{pre:List<|Int×Int}{w2 n:Int}(p:l.length<=8192)(y:pre.length<8192)(hi:i<l.length)(o:l[i].1=0)(c:b<l.length)(s:sz.length=l.length)(r:rds.length=l.length)(k:0<=w/\w<=1000000000)(u:0<=w2/\w2<=1000000000)
  (j:0<=l[b].2.2.2.2/\l[b].2.2.2.2<=18446744073709551615) (h:BP w l[b].2.2.2.2=O n):
  dg l ((i:Int),sz,rds,pre++[(a,w2)]++[((b:Int),w)])=O (.inl (((i+1:Nat):Int),sz.set b n,rds.set b w,pre++[(a,w2+n)])):=by
 have e:(pre++[(a,w2)]).length=pre.length+1:=by simp
 rw[aC7 p V1 hi,Ze,zB o];simp only[zD,zC];rw[bq c];simp only[zG];rw[PN ⟨k.1,V1⟩ j,h];have q:=JL k.1 j.1 h;simp only[zG,dA,zD];rw[bl (show b<sz.length by omega)];simp only[zG];rw[aD (show b<sz.length by omega)];simp only[zG];rw[bl (show b<rds.length by omega)];simp only[zG];rw[aD (show b<rds.length by omega)];simp only[zG];rw[Zl,bp,e,ad (n:=((pre.length+1:Nat):Int)-1) V1,show((pre.length+1:Nat):Int)-1=(pre.length:Int)by omega,bl (show pre.length<pre.length+1 by omega)];simp only[zG,cS]
 have d:(pre++[(a,w2)]++[((b:Int),w)])[pre.length]?=O (a,w2):=by
  rw[cK,cL<|aB _,bD];rfl
 rw[d];simp only[zG];rw[WX _ _ V1 q];simp only[zG]
 have f:((pre++[(a,w2)]++[((b:Int),w)]).set pre.length (a,w2+n)).take (pre.length+1)=pre++[(a,w2+n)]:=by
  rw[cK,dN _ _<|aB _,bD];show(pre++[(a,w2+n),((b:Int),w)]).take (pre.length+1)=_;rw[show [(a,w2+n),((b:Int),w)]=[(a,w2+n)]++[((b:Int),w)]from rfl,<-cK,dP];simp
 rw[f]
def bh5 (l:List bx)(j:Nat)(a b:Int):Prop:= ∀h:j<ft l,(l[j].1=7->∀c e d,l.drop (j+1)=c++e::d->e.1=0->bt c 0=O 0->Q9 c=O b/\BP b l[j].2.2.2.2=O a)/\(l[j].1≠7->b=0/\a=if l[j].1=0 then 0 else 1)
def ad1 (M:ft l<=8192)(hv: ∀o∈l,0<=o.2.2.2.2/\o.2.2.2.2<=18446744073709551615): ∀(k:Nat) (A seg B:List bx) (S R:Zd) (pre:List<|Int×Int) (p w t:Int),ft seg<=k->l=A++seg++B->bt seg 0=O 0->Q9 seg=O t->ft S=ft l->ft R=ft l->ft pre<=ft A->0<=w/\w<=65537*ft A->(∀j,ft A<=j->j<ft A+ft seg->S[j]?=O 0/\R[j]?=O 0)->
  ∃S' R',Reach (dg l) (ft seg) ((ft A:Int),S,R,pre++[(p,w)]) (((ft A+ft seg:Nat):Int),S',R',pre++[(p,w+t)])/\ft S'=ft l/\ft R'=ft l/\(0<=t/\t<=65537*ft seg)/\
   (∀j,¬(ft A<=j/\j<ft A+ft seg)->S'[j]?=S[j]?/\R'[j]?=R[j]?)/\∀j,ft A<=j->j<ft A+ft seg->∃a b,S'[j]?=O a/\R'[j]?=O b/\bh5 l j a b
 |k,A,[],B,S,R,pre,p,w,t,_,d,N,q,X,hR,hpre,hw,H=>by
  cases q;refine⟨S,R, ?_,X,hR,⟨dC _,V2⟩,λj _=>⟨rfl,rfl⟩,λj h1 L=> ?_⟩
  .rw[dB];exact Reach.refl
  .simp at L;omega
 |0,A,o::seg,B,S,R,pre,p,w,t,hk,_,_,_,_,_,_,_,_=>by simp at hk
 |k+1,A,o::seg,B,S,R,pre,p,w,t,hk,d,N,q,X,hR,hpre,hw,H=>by
  simp only[cD]at hk H⊢;have hlen:ft l=ft A+(ft seg+1)+ft B:=by rw[d];simp;omega
  have D:ft A<ft l:=by omega
  have f:l[ft A]=o:=by
   have:l[ft A]?=O o:=by
    rw[d,cK,cL<|aB _,bD];rfl
   rw[aD D]at this;injection this
  by_cases u:o.1=7
  .have hs1:bt seg 1=O 0:=by
    simp only[bt]at N;rw[Zh,Zh,zE u]at N;exact N
   have⟨c,e,r,h1,L,h3,h4⟩:=EW _ seg 0 (aB _) hs1;subst h1;simp only[cM,cD]at hk H hlen⊢;have⟨K,hQ⟩:=Sq N u L h3;rw[hQ]at q;obtain⟨wi,hwi,q⟩:=ai q;obtain⟨b,hb,q⟩:=ai q;cases s:Q9 r with
   |none=>rw[s]at q;cases q
   |some tr=>
   rw[s]at q;injection q with q
   have q:b+tr=t:=q;have hov:0<=o.2.2.2.2/\o.2.2.2.2<=18446744073709551615:=by rw[<-f];exact hv _ (cP D)
   have hd:l.drop (ft A+1)=c++e::(r++B):=by
    rw[d,cK,dG,dH V1,show ft A+1-ft A=1 by omega];simp
   have F:ft (A++[o])=ft A+1:=by simp
   have⟨S1,R1,r1,l1,l2,⟨t1,t2⟩,y,Q⟩:=ad1 M hv k (A++[o]) c (e::(r++B)) S R (pre++[(p,w)]) (ft A:Int) 0 wi V1 Zu h3 hwi X hR V3 V1<|λj z E=>H j V1 V1;rw[F]at r1 y Q;have hei:ft A+1+ft c<ft l:=by omega
   have I:l[ft A+1+ft c]=e:=by
    have z:(l.drop<|ft A+1)[ft c]?=O e:=by
     rw[hd,cL<|aB _,bD];rfl
    rw[dJ,aD hei]at z;injection z
   have hbn:=JL t1 hov.1 hb;have c1:=aT3 (pre:=pre) (a:=p) (w2:=w) M V1 hei (by rw[I];exact L) D l1 l2 (w:=0+wi) V1 V1 (by rw[f];exact hov) (n:=b) (by rw[f,cN];exact hb);have W:ft (A++o::(c++[e]))=ft A+1+ft c+1:=by simp;omega
   have⟨S2,R2,r2,l3,l4,⟨t3,t4⟩,k2,g2⟩:=ad1 M hv k (A++o::(c++[e])) r B (S1.set (ft A) b) (R1.set (ft A)<|0+wi) pre p (w+b) tr V1 Zu K s (by simp[l1]) (by simp[l2]) V1 V1 (λj z E=>by
    rw[W]at z E;rw[cB V1,cB V1,(y j V1).1,(y j V1).2]
    exact H j V1 V1)
   rw[W]at r2 k2 g2;refine⟨S2,R2, ?_,l3,l4,⟨V1,V1⟩,λj hj=> ?_,λj z E=> ?_⟩
   .have h0:=Reach.one<|bm8 (sz:=S) (rds:=R) (pre:=pre) (a:=p) (w:=w) M V1 D (by rw[f];exact u);have V:=((h0.trans r1).trans<|Reach.one c1).trans r2;rw[show 1+ft c+1+ft r=ft c+(ft r+1)+1 by omega,cQ,q,show ft A+1+ft c+1+ft r=ft A+(ft c+(ft r+1)+1)by omega]at V;exact V
   .rw[(k2 j V1).1,(k2 j V1).2,cB V1,cB V1,(y j V1).1,(y j V1).2];exact⟨rfl,rfl⟩
   .by_cases J:ft A+1+ft c+1<=j
    .exact g2 j J V1
    .rw[(k2 j V1).1,(k2 j V1).2];by_cases C:ft A=j
     .subst C;rw[cY V1,cY V1];refine⟨_,_,rfl,rfl,λh=>⟨λ_ inner' e' rest' p1 p2 p3=> ?_,λT=>(T (by rw[f];exact u)).elim⟩⟩;have:=Al (hd.symm.trans p1) h3 p3 L p2;subst this;rw[cN,f];exact⟨hwi,hb⟩
     .rw[cB C,cB C];by_cases hj3:j<ft A+1+ft c
      .exact Q j V1 hj3
      .have hj4:j=ft A+1+ft c:=by omega
       subst hj4;rw[(y _ V1).1,(y _ V1).2,(H _ z E).1,(H _ z E).2];refine⟨0,0,rfl,rfl,λh=>⟨λT=> ?_,λ_=>⟨rfl, ?_⟩⟩⟩
       .rw[I]at T;omega
       .rw[I,zE L]
  .obtain⟨K,hko,hQ⟩:=QW N u;rw[hQ]at q;cases s:Q9 seg with
   |none=>rw[s]at q;cases q
   |some tr=>
   rw[s]at q;injection q with q
   have q:1+tr=t:=q;have F:ft (A++[o])=ft A+1:=by simp
   have c1:=bH4 (sz:=S) (rds:=R) (pre:=pre) (a:=p) (w:=w) M V1 D (by rw[f];exact hko) X V1
   have⟨S1,R1,r1,l1,l2,⟨t1,t2⟩,y,Q⟩:=ad1 M hv k (A++[o]) seg B (S.set (ft A) 1) R pre p (w+1) tr V1 Zu K s (by simp[X]) hR V1 V1 (λj z E=>by
    rw[F]at z E;rw[cB V1]
    exact H j V1 V1)
   rw[F]at r1 y Q;refine⟨S1,R1, ?_,l1,l2,⟨V1,V1⟩,λj hj=> ?_,λj z E=> ?_⟩
   .have V:=(Reach.one c1).trans r1;rw[show 1+ft seg=ft seg+1 by omega,cQ,q,show ft A+1+ft seg=ft A+(ft seg+1)by omega]at V;exact V
   .rw[(y j V1).1,(y j V1).2,cB V1];exact⟨rfl,rfl⟩
   .by_cases J:ft A+1<=j
    .exact Q j J V1
    .have C:j=ft A:=by omega
     subst C;rw[(y _ V1).1,(y _ V1).2,cY V1,(H _ z E).2];refine⟨1,0,rfl,rfl,λh=>⟨λT=>(u (by rw[<-f];exact T)).elim,λ_=>⟨rfl, ?_⟩⟩⟩;rw[f,Zh]
end
def Ku {l:List bx}(J:ft l<=4096)(B: ∀o∈l,0<=o.2.2.2.2/\o.2.2.2.2<=18446744073709551615):
  ∃r,kL l=O r/\r.1=(eb l).1/\r.2.1=(eb l).2/\(((eb l).2≠0/\r.2.2=([],[]))∨((eb l).2=0/\bt l 0=O 0/\ft r.2.2.1=ft l/\ft r.2.2.2=ft l/\∀j,j<ft l->∃a b,r.2.2.1[j]?=O a/\r.2.2.2[j]?=O b/\bh5 l j a b)):=by
 have f:=yp V1 B;unfold gz at f;obtain⟨r,d,f⟩:=ai f;injection f with f
 refine⟨r,d,by rw[<-f],by rw[<-f], ?_⟩;unfold kL at d;have⟨m,E⟩:=Bq (l:=l) V1;rw[E]at d;by_cases k:bt l 0=O 0
 .simp only[zE k]at d;simp only[zG]at d;rw[zA V2,zD,zB (show(0:Int)<=(ft l:Int)by omega),zB (show(ft l:Int)<=(ft l:Int)by omega),zB (show 8*(ft l:Int)<=140737488355328 by omega)]at d;have q: ∀{β:Type} {y:Option β},gd (dQ 1 (Sh.w<|.int .i64)&&Za&&Za&&Za&&Nat.ble 1 8) y=y:=λ{β y}=>rfl
  rw[q,q]at d;cases u:Q9 l with
  |none=>
   have e:eb l=(0,9):=by unfold eb;rw[zE k,u]
   left;refine⟨by rw[e];simp, ?_⟩;obtain⟨c,I,d⟩:=ai d;obtain⟨p,D,d⟩:=ai d;rw[ah]at d;split at d
   .injection d with d
    rw[<-d]
   .rename_i L;exfalso;obtain⟨j,s,d⟩:=ai d;obtain⟨x,K,d⟩:=ai d;injection d with d
    rw[<-d,e]at f;injection f with _ f
    cases f
  |some t=>
   have⟨S',R',C,F,H,⟨N,Q⟩,M,z⟩:=ad1 (l:=l) V1 B _ [] l [] (bB (fu (ft l:Int)) (0:Int)) (bB (fu (ft l:Int)) (0:Int)) [] 0 0 t (aB _) V2 k u V2 V2 V2 V2 (λj _ s=>by
    rw[List.getElem?_replicate,zE (by simpa using s)]
    exact⟨rfl,rfl⟩)
   rw[show(ft ([]:List bx))+ft l=(ft l) by simp]at C z
   have h:am (dg l) cj ((0:Int),bB (fu (ft l:Int)) (0:Int),bB (fu (ft l:Int)) (0:Int),[((0:Int),(0:Int))])=O (0,S',R',[(0,0+t)]):=by
    have A:=C<|18446744073709551616-ft l;rw[show 18446744073709551616-ft l+ft l=cj by unfold cj;omega,show 18446744073709551616-ft l=(18446744073709551615-ft l)+1 by omega]at A;refine A.trans ?_;rw[bh];simp only[dg];rw[Ze,zD];rfl
   rw[h,cN]at d;have d:(gn (cond (Zc<|65536<t) (O (9:Int))<|O 0) λp=>cond (Zc<|p≠0) (O ((0:Int),p,([]:Zd),([]:Zd)))<|O (t,0,S',R'))=O r:=d;rw[ah]at d;have e:eb l=if 65536<t then(0,9)else(t,0):=by unfold eb;rw[zE k,u]
   by_cases c:65536<t
   .rw[zE c]at d e;left;injection d with d
    rw[<-d,e];exact⟨V2,rfl⟩
   .rw[zF c]at d e;right;injection d with d
    rw[<-d,e];exact⟨rfl,k,F,H,λj s=>z j (cU _) s⟩
 .simp only[zF k]at d;left;have e:eb l=(0,6):=by unfold eb;rw[zF k]
  have d:O ((0:Int),(6:Int),([]:Zd),([]:Zd))=O r:=d;injection d with d
  rw[<-d,e];exact⟨V2,rfl⟩
abbrev yG :=Int×Int×Int×Int×Int×Int
inductive Fo where
 |nil
 |op (o:bx) (r:Fo)
 |rep (o:bx) (b:Fo) (e:bx) (r:Fo)
def rj (o:bx):Nat:=fu o.2.2.2.2
def cq (o:bx)(b:Nat):yG:=(o.1,o.2.1,o.2.2.1,o.2.2.2.1,o.2.2.2.2,(b:Int))
namespace Fo
def src :Fo->List bx
 | .nil=>[]
 | .op o r=>o::r.src
 | .rep o b e r=>o::(b.src++e::r.src)
def Ok :Fo->Prop
 | .nil=>True
 | .op o r=>(0<o.1/\o.1<7)/\r.Ok
 | .rep o b e r=>(o.1=7/\e.1=0)/\b.Ok/\r.Ok
def n :Fo->Nat
 | .nil=>0
 | .op _ r=>1+r.n
 | .rep o b _ r=>b.n*rj o+r.n
def len :Fo->Nat
 | .nil=>0
 | .op _ r=>r.len+1
 | .rep _ b _ r=>b.len+r.len+2
def hi :Fo->Nat
 | .nil=>0
 | .op _ r=>r.hi
 | .rep _ b _ r=>max (b.hi+1) r.hi
def bare :Fo->Fo
 | .nil=> .nil
 | .op o r=> .op o r.bare
 | .rep o b e r=>if b.n*rj o=0 then r.bare else .rep o b.bare e r.bare
def unroll :Fo->List bx
 | .nil=>[]
 | .op o r=>o::r.unroll
 | .rep o b _ r=>(bB (rj o) b.unroll).flatten++r.unroll
def code :Fo->Nat->List yG
 | .nil,_=>[]
 | .op o r,p=>cq o 0::r.code (p+1)
 | .rep o b e r,p=>cq o (p+b.len+2)::(b.code (p+1)++cq e (p+1)::r.code (p+b.len+2))
def Pos :Fo->Prop
 | .nil=>True
 | .op _ r=>r.Pos
 | .rep o b _ r=>0<b.n*rj o/\b.Pos/\r.Pos
def steps :Fo->Nat
 | .nil=>0
 | .op _ r=>1+r.steps
 | .rep o b _ r=>1+rj o*(b.steps+1)+r.steps
def src_len : ∀f:Fo,ft f.src=f.len
 | .nil=>rfl
 | .op o r=>by simp only[src,len,cD,src_len r]
 | .rep o b e r=>by simp only[src,len,cD,cM,src_len r,src_len b];omega
def code_len : ∀(f:Fo) (p:Nat),ft (f.code p)=f.len
 | .nil,_=>rfl
 | .op o r,p=>by simp only[code,len,cD,code_len r]
 | .rep o b e r,p=>by simp only[code,len,cD,cM,code_len r,code_len b];omega
def scan_src : ∀(f:Fo),f.Ok->∀(r:List bx) (d:Nat),bt (f.src++r) d=bt r d
 | .nil,_,r,d=>rfl
 | .op o f,h,r,d=>by
  have⟨j,c⟩:=h;simp only[src,cO,bt];rw[Zh,Zh,Zh];exact scan_src f c r d
 | .rep o b e f,h,r,d=>by
  have⟨⟨j,c⟩,k,p⟩:=h;simp only[src,cO,cK,bt];rw[Zh,Zh,zE j,scan_src b k];simp only[bt];rw[Zh,zE c,Zh];exact scan_src f p r d
def scan0 {f:Fo}(h:f.Ok):bt f.src 0=O 0:=by
 have:=scan_src f h [] 0;rw[dF]at this;exact this
def parse : ∀(N:Nat) (l:List bx),ft l<=N->bt l 0=O 0->∃f:Fo,f.Ok/\f.src=l
 |_,[],_,_=>⟨.nil,trivial,rfl⟩
 |0,o::l,h,_=>by simp at h
 |N+1,o::l,h,j=>by
  simp only[cD]at h;by_cases q:o.1=7
  .have s:bt l 1=O 0:=by
    simp only[bt]at j;rw[Zh,Zh,zE q]at j;exact j
   have⟨c,e,d,k,p,B,C⟩:=EW _ l 0 (aB _) s;subst k;simp only[cM,cD]at h;have⟨b,z,A⟩:=parse N c V1 B;have⟨r,u,y⟩:=parse N d V1 C;exact⟨.rep o b e r,⟨⟨q,p⟩,z,u⟩,by simp only[src,A,y]⟩
  .obtain⟨k,p,_⟩:=QW j q;have⟨r,u,y⟩:=parse N l V1 k;exact⟨.op o r,⟨p,u⟩,by simp only[src,y]⟩
def Q9_n : ∀(f:Fo),f.Ok->(∀o∈f.src,0<=o.2.2.2.2)->∀{t:Int},Q9 f.src=O t->t=(f.n:Int)
 | .nil,_,_,t,h=>by
  injection h with h
  exact h.symm
 | .op o r,h,u,t,d=>by
  have⟨z,p⟩:=h;have A:=scan0 (f:= .op o r) ⟨z,p⟩;have⟨_,_,q⟩:=QW (o:=o) (s:=r.src) A V1;have d:Q9 (o::r.src)=O t:=d;rw[q]at d;cases k:Q9 r.src with
  |none=>rw[k]at d;cases d
  |some m=>
   rw[k]at d;injection d with d
   have:=Q9_n r p (λx y=>u x<|List.mem_cons_of_mem _ y) k;subst this;rw[<-d];show(1:Int)+(r.n:Int)=((1+r.n:Nat):Int);omega
 | .rep o b e r,h,u,t,d=>by
  have⟨⟨z,p⟩,q,C⟩:=h;have A:=scan0 (f:= .rep o b e r) ⟨⟨z,p⟩,q,C⟩;have⟨_,H⟩:=Sq (o:=o) (e:=e) (inner:=b.src) (rest:=r.src) A z p<|scan0 q;have d:Q9 (o::(b.src++e::r.src))=O t:=d;rw[H]at d;obtain⟨w,I,d⟩:=ai d;obtain⟨c,j,d⟩:=ai d;cases k:Q9 r.src with
  |none=>rw[k]at d;cases d
  |some m=>
   rw[k]at d;injection d with d
   have D:=Q9_n r C (λx y=>u x (by simp only[src];simp[y])) k;have E:=Q9_n b q (λx y=>u x (by simp only[src];simp[y])) I;have B:0<=o.2.2.2.2:=u o (by simp[src])
   have F:c=(b.n:Int)*(rj o:Int):=by
    unfold BP at j;rw[E]at j;unfold rj;rw[dW B];split at j
    .rename_i J;injection j with j
     rw[J,Int.zero_mul,j]
    split at j
    .cases j
    split at j
    .cases j
    .injection j with j
     exact j.symm
   rw[<-d,D,F];show(b.n:Int)*(rj o:Int)+(r.n:Int)=((b.n*rj o+r.n:Nat):Int);simp
def hmax_src : ∀(f:Fo),f.Ok->∀(r:List bx) (d m:Nat),hmax (f.src++r) d m=hmax r d (max m (if f.hi=0 then 0 else d+f.hi))
 | .nil,_,r,d,m=>by
  simp only[src,cR,hi,zE];rw[Nat.max_zero]
 | .op o f,h,r,d,m=>by
  have⟨j,c⟩:=h;simp only[src,cO,hmax,hi];rw[Zh,Zh];exact hmax_src f c r d m
 | .rep o b e f,h,r,d,m=>by
  have⟨⟨j,c⟩,p,q⟩:=h;simp only[src,cO,cK,hmax,hi];rw[zE j,hmax_src b p];simp only[hmax];rw[Zh,zE c,eT,hmax_src f q]
  congr 1
  have k:(if max (b.hi+1) f.hi=0 then 0 else d+max (b.hi+1) f.hi)=d+max (b.hi+1) f.hi:=zF V1;refine Eq.trans ?_ (congrArg (max m) k.symm);split<;>split<;>omega
def hi_le {f:Fo}(h:f.Ok):f.hi<=hmax f.src 0 0:=by
 have:=hmax_src f h [] 0 0;rw[dF]at this;rw[this];simp only[hmax];split<;>omega
def bare_n : ∀f:Fo,f.bare.n=f.n
 | .nil=>rfl
 | .op o r=>by simp only[bare,n,bare_n r]
 | .rep o b e r=>by
  simp only[bare,n];split
  .rename_i h;rw[h,bare_n r,cS]
  .simp only[n,bare_n b,bare_n r]
def kW : ∀f:Fo,ft f.unroll=f.n
 | .nil=>rfl
 | .op o r=>by simp only[unroll,n,cD,kW r];omega
 | .rep o b e r=>by
  simp only[unroll,n,cM,kW r];rw[eN,eO,eR,kW b,eG]
def bare_unroll : ∀f:Fo,f.bare.unroll=f.unroll
 | .nil=>rfl
 | .op o r=>by simp only[bare,unroll,bare_unroll r]
 | .rep o b e r=>by
  simp only[bare,unroll];split
  .rename_i h
   have c:ft ((bB (rj o) b.unroll).flatten)=0:=by
    rw[eN,eO,eR,kW b,eG,h]
   rw[List.eq_nil_of_length_eq_zero c,cR,bare_unroll r]
  .simp only[unroll,bare_unroll b,bare_unroll r]
def bare_ok : ∀f:Fo,f.Ok->f.bare.Ok
 | .nil,_=>trivial
 | .op o r,h=>⟨h.1,bare_ok r h.2⟩
 | .rep o b e r,h=>by
  simp only[bare];split
  .exact bare_ok r h.2.2
  .exact⟨h.1,bare_ok b h.2.1,bare_ok r h.2.2⟩
def bare_pos : ∀f:Fo,f.bare.Pos
 | .nil=>trivial
 | .op o r=>bare_pos r
 | .rep o b e r=>by
  simp only[bare];split
  .exact bare_pos r
  .rename_i h;exact⟨by rw[bare_n];omega,bare_pos b,bare_pos r⟩
def bare_hi : ∀f:Fo,f.bare.hi<=f.hi
 | .nil=>aB _
 | .op o r=>bare_hi r
 | .rep o b e r=>by
  simp only[bare,hi];have c:=bare_hi b;have d:=bare_hi r;split
  .omega
  .simp only[hi];omega
def bare_len : ∀f:Fo,f.bare.len<=f.len
 | .nil=>aB _
 | .op o r=>by simp only[bare,len];exact Nat.succ_le_succ (bare_len r)
 | .rep o b e r=>by
  simp only[bare,len];have c:=bare_len b;have d:=bare_len r;split
  .omega
  .simp only[len];omega
def bare_mem : ∀(f:Fo) {o:bx},o∈f.bare.src->o∈f.src
 | .nil,o,h=>h
 | .op o r,x,h=>by
  simp only[bare,src,eC]at h⊢;rcases h with h|h
  .exact .inl h
  .exact .inr (bare_mem r h)
 | .rep o b e r,x,h=>by
  simp only[bare]at h;split at h
  .simp only[src,eC,eP];exact .inr (.inr<|.inr<|bare_mem r h)
  .simp only[src,eC,eP]at h⊢;rcases h with h|h|h|h
   .exact .inl h
   .exact .inr (.inl<|bare_mem b h)
   .exact .inr (.inr<|.inl h)
   .exact .inr (.inr<|.inr<|bare_mem r h)
def steps_le : ∀f:Fo,f.Pos->f.steps<=(2*f.len+1)*f.n
 | .nil,_=>aB _
 | .op o r,h=>by
  have c:=steps_le r h;simp only[steps,len,n];rw[eF,dS];have:(2*r.len+1)*r.n<=(2*(r.len+1)+1)*r.n:=eH _ V1;omega
 | .rep o b e r,h=>by
  have⟨c,d,j⟩:=h;have p:=steps_le b d;have y:=steps_le r j;simp only[steps,len,n]
  have s:0<rj o:=by
   rcases dR (rj o)with h0|h0
   .rw[h0]at c;simp at c
   .exact h0
  have k:0<b.n:=by
   rcases dR b.n with h0|h0
   .rw[h0]at c;simp at c
   .exact h0
  have u:rj o<=b.n*rj o:=Nat.le_mul_of_pos_left _ k
  have z:rj o*(b.steps+1)<=(2*b.len+1)*(b.n*rj o)+b.n*rj o:=by
   rw[eF,dS];have:rj o*b.steps<=rj o*((2*b.len+1)*b.n):=Nat.mul_le_mul_left _ p
   have q:rj o*((2*b.len+1)*b.n)=(2*b.len+1)*(b.n*rj o):=by
    rw[eG,Nat.mul_assoc]
   omega
  have A:(2*r.len+1)*r.n<=(2*(b.len+r.len+2)+1)*r.n:=eH _ V1;have B:(2*b.len+3)*(b.n*rj o)<=(2*(b.len+r.len+2)+1)*(b.n*rj o):=eH _ V1
  have C:(2*b.len+3)*(b.n*rj o)=(2*b.len+1)*(b.n*rj o)+b.n*rj o+b.n*rj o:=by
   rw[show 2*b.len+3=(2*b.len+1)+1+1 by omega,Nat.add_mul,Nat.add_mul,Nat.one_mul]
  rw[eF<|2*(b.len+r.len+2)+1];generalize rj o*(b.steps+1)=D at*;generalize (2*(b.len+r.len+2)+1)*(b.n*rj o)=E at*;generalize (2*(b.len+r.len+2)+1)*r.n=F at*;generalize (2*r.len+1)*r.n=H at*;generalize (2*b.len+3)*(b.n*rj o)=I at*;generalize (2*b.len+1)*(b.n*rj o)=J at*;omega
end Fo
def upd (l:Nat->Int)(j:Nat)(v:Int):Nat->Int:=λi=>cond (dQ j i) v<|l i
def oX (l:Nat->Int)(j:Nat)(v:Int):upd l j v j=v:=by
 unfold upd;rw[Nat.beq_refl];rfl
def LU {l:Nat->Int}{j:Nat}(h:i≠j):upd l j v i=l i:=by
 unfold upd;cases b:dQ j i with
 |true=>exact(h (Nat.eq_of_beq_eq_true b).symm).elim
 |false=>rfl
def UC (o:bx):Prop:=0<=o.2.2.2.2/\o.2.2.2.2<=18446744073709551615
structure Runs {Z γ S:Type}(g:Z->Option (Z⊕γ))(code:List yG)(st:Nat->Nat->(Nat->Int)->S->Z)(stp:bx->S->S)(Vd:Nat->S->Prop)(good:bx->Prop):Prop where
 op: ∀{p d l s m o to},code[p]?=O (cq o to)->good o->(0<o.1/\o.1<7)->d<=8->Vd (1+m) s->g (st p d l s)=O (.inl<|st (p+1) d l<|stp o s)/\Vd m (stp o s)
 rep: ∀{p d l s m o to},code[p]?=O (cq o to)->o.1=7->d<8->Vd m s->g (st p d l s)=O (.inl<|st (p+1) (d+1) (upd l d o.2.2.2.2) s)
 nxt: ∀{p d l s m e to},code[p]?=O (cq e to)->e.1=0->d<8->1<l d->l d<=18446744073709551615->Vd m s->g (st p (d+1) l s)=O (.inl<|st to (d+1) (upd l d<|l d-1) s)
 out: ∀{p d l s m e to},code[p]?=O (cq e to)->e.1=0->d<8->l d=1->Vd m s->g (st p (d+1) l s)=O (.inl<|st (p+1) d (upd l d<|l d-1) s)
section
variable {Z γ S:Type} {g:Z->Option (Z⊕γ)} {code:List yG} {st:Nat->Nat->(Nat->Int)->S->Z} {stp:bx->S->S} {Vd:Nat->S->Prop} {good:bx->Prop}
def pG (stp:bx->S->S)(l:List bx)(s:S):S:=l.foldl (λs o=>stp o s) s
def Hz (l r:List bx)(s:S):pG stp (l++r) s=pG stp r (pG stp l s):=List.foldl_append
def Ho {A B:List yG}{x:yG}{r:List yG}{p:Nat}(b:code=A++(x::r)++B)(c:ft A=p):code[p]?=O x:=by
 subst c;rw[b,cK,cL<|aB _,bD];rfl
def rounds (C:Runs g code st stp Vd good){p q d t n:Nat}{e:bx}{u:List bx}(A:d<8)(b:code[q]?=O (cq e p))(B:e.1=0)
  (z: ∀(l:Nat->Int) (s:S) (m:Nat),Vd (n+m) s->∃l',(∀i,i<d+1->l' i=l i)/\Reach g t (st p (d+1) l s) (st q (d+1) l'<|pG stp u s)/\Vd m (pG stp u s)):
  ∀(k:Nat) (l:Nat->Int) (s:S) (m:Nat),k<18446744073709551615->l d=((k+1:Nat):Int)->Vd (n*(k+1)+m) s->
   ∃l',(∀i,i<d->l' i=l i)/\Reach g ((k+1)*(t+1)) (st p (d+1) l s) (st (q+1) d l'<|pG stp (bB (k+1) u).flatten s)/\Vd m (pG stp (bB (k+1) u).flatten s)
 |0,l,s,m,J,D,o=>by
  have⟨c,h,r,j⟩:=z l s m (by rw[cS,dS]at o;exact o);have E:(bB (0+1) u).flatten=u:=by simp
  rw[E];have f:c d=1:=by rw[h d V1,D];rfl
  refine⟨upd c d<|c d-1,λi hi=>by rw[LU V1,h i V1], ?_,j⟩;have y:=r.trans<|Reach.one<|C.out (l:=c) b B A f j;rw[show(0+1)*(t+1)=t+1 by omega];exact y
 |k+1,l,s,m,J,D,o=>by
  have K:n*(k+1+1)+m=n+(n*(k+1)+m):=by rw[Nat.mul_succ n<|k+1];omega
  rw[K]at o;have⟨c,h,r,j⟩:=z l s _ o;have f:c d=((k+1+1:Nat):Int):=by rw[h d V1,D]
  have y:=r.trans<|Reach.one<|C.nxt (l:=c) b B A V1 V1 j;have⟨L,F,H,I⟩:=rounds C A b B z k (upd c d<|c d-1) (pG stp u s) m V1 (by rw[oX,f];omega) j;have E:(bB (k+1+1) u).flatten=u++(bB (k+1) u).flatten:=by rw[List.replicate_succ,List.flatten_cons]
  rw[E,Hz];refine⟨L,λi hi=>by rw[F i hi,LU V1,h i V1], ?_,I⟩;rw[show(k+1+1)*(t+1)=t+1+(k+1)*(t+1)by rw[Nat.succ_mul<|k+1];omega];exact y.trans H
def PD (C:Runs g code st stp Vd good): ∀(f:Fo) {A B:List yG} {p d:Nat} {l:Nat->Int} {s:S} {m:Nat},code=A++f.code p++B->ft A=p->f.Ok->f.Pos->d+f.hi<=8->(∀o∈f.src,good o/\UC o)->Vd (f.n+m) s->
  ∃l',(∀i,i<d->l' i=l i)/\Reach g f.steps (st p d l s) (st (p+f.len) d l'<|pG stp f.unroll s)/\Vd m (pG stp f.unroll s)
 | .nil,A,B,p,d,l,s,m,y,z,h,I,E,c,j=>by
  refine⟨l,λ_ _=>rfl,Reach.refl, ?_⟩;have:Fo.nil.n+m=m:=cS m;rw[this]at j;exact j
 | .op o r,A,B,p,d,l,s,m,y,z,h,I,E,c,j=>by
  simp only[Fo.n,Nat.add_assoc]at j;simp only[Fo.hi]at E;have⟨J,K⟩:=C.op (d:=d) (l:=l) (Ho y z) (c o ZQ).1 h.1 V1 j;have Q:ft (A++[cq o 0])=p+1:=by simp[z]
  have⟨l',L,M,N⟩:=PD C r (A:=A++[cq o 0]) (B:=B) (p:=p+1) (d:=d) (l:=l) (by rw[y];simp[Fo.code]) Q h.2 I E (λx H=>c x (by simp[Fo.src,H])) K;refine⟨l',L, ?_,N⟩;have:=(Reach.one J).trans M;simp only[Fo.steps,Fo.len];rw[show p+(r.len+1)=p+1+r.len by omega];exact this
 | .rep o b e r,A,B,p,d,l,s,m,y,z,h,I,E,c,j=>by
  have⟨⟨k1,k2⟩,k3,k4⟩:=h;have⟨q1,q2,q3⟩:=I;simp only[Fo.n,Nat.add_assoc]at j;simp only[Fo.hi]at E;have F:=(c o ZQ).2;unfold UC at F;have hvo:((rj o:Nat):Int)=o.2.2.2.2:=dW F.1
  have hv0:0<rj o:=by
   rcases dR (rj o)with h0|h0
   .rw[h0]at q1;simp at q1
   .exact h0
  obtain⟨k,h⟩: ∃k,rj o=k+1:=⟨rj o-1,V1⟩
  have J:=C.rep (d:=d) (l:=l) (Ho y z) k1 V1 j;have Q:ft (A++[cq o<|p+b.len+2])=p+1:=by simp[z]
  have W:code=(A++[cq o<|p+b.len+2])++b.code (p+1)++(cq e (p+1)::r.code (p+b.len+2)++B):=by rw[y];simp[Fo.code]
  have X:code=(A++cq o (p+b.len+2)::b.code (p+1))++(cq e (p+1)::r.code (p+b.len+2))++B:=by rw[y];simp[Fo.code]
  have T:ft (A++cq o (p+b.len+2)::b.code (p+1))=p+1+b.len:=by simp[z,Fo.code_len];omega
  have D:=Ho X T
  have⟨l1,K,L,M⟩:=rounds C (p:=p+1) (q:=p+1+b.len) (d:=d) (t:=b.steps) (n:=b.n) (e:=e) (u:=b.unroll) V1 D k2
   (λl s m hm=>PD C b W Q k3 q2 V1 (λx H=>c x (by simp[Fo.src,H])) hm) k (upd l d o.2.2.2.2) s (r.n+m) V1 (by rw[oX,<-hvo,h]) (by rw[<-h];exact j)
  have hcr:code=(A++cq o (p+b.len+2)::(b.code (p+1)++[cq e<|p+1]))++r.code (p+b.len+2)++B:=by rw[y];simp[Fo.code]
  have V:ft (A++cq o (p+b.len+2)::(b.code (p+1)++[cq e<|p+1]))=p+b.len+2:=by simp[z,Fo.code_len];omega
  have⟨l2,N,h6,h7⟩:=PD C r (d:=d) (l:=l1) hcr V k4 q3 V1 (λx H=>c x (by simp[Fo.src,H])) M;simp only[Fo.unroll,Fo.steps,Fo.len];rw[Hz,h];refine⟨l2,λi hi=>by rw[N i hi,K i hi,LU V1], ?_,h7⟩;have h8:=((Reach.one J).trans L).trans (show Reach g r.steps (st (p+1+b.len+1) d l1 _) _ from by rw[show p+1+b.len+1=p+b.len+2 by omega];exact h6);rw[show p+(b.len+r.len+2)=p+b.len+2+r.len by omega];exact h8
end
structure Backs {Z γ S:Type}(g:Z->Option (Z⊕γ))(code:List yG)(st:Nat->Nat->(Nat->Int)->S->Z)(stp:bx->S->S)(Vd:Nat->S->Prop)(good:bx->Prop):Prop where
 op: ∀{p d l s m o to},code[p]?=O (cq o to)->good o->(0<o.1/\o.1<7)->d<=8->Vd (1+m) s->g (st (p+1) d l s)=O (.inl<|st p d l<|stp o s)/\Vd m (stp o s)
 rep: ∀{p q d l s m o e to},code[p]?=O (cq e<|q+1)->e.1=0->code[q]?=O (cq o to)->d<8->Vd m s->g (st (p+1) d l s)=O (.inl<|st p (d+1) (upd l d o.2.2.2.2) s)
 nxt: ∀{p d l s m o to},code[p]?=O (cq o<|to+1)->to<=ft code->o.1=7->d<8->1<l d->l d<=18446744073709551615->Vd m s->g (st (p+1) (d+1) l s)=O (.inl<|st to (d+1) (upd l d<|l d-1) s)
 out: ∀{p d l s m o to},code[p]?=O (cq o<|to+1)->o.1=7->d<8->l d=1->Vd m s->g (st (p+1) (d+1) l s)=O (.inl<|st p d (upd l d<|l d-1) s)
section
variable {Z γ S:Type} {g:Z->Option (Z⊕γ)} {code:List yG} {st:Nat->Nat->(Nat->Int)->S->Z} {stp:bx->S->S} {Vd:Nat->S->Prop} {good:bx->Prop}
def Fc (stp:bx->S->S)(l:List bx)(s:S):S:=l.foldr stp s
def Nf (l r:List bx)(s:S):Fc stp (l++r) s=Fc stp l (Fc stp r s):=List.foldr_append
def ae9 (B:Backs g code st stp Vd good){p q d t n:Nat}{o:bx}{u:List bx}(F:q<=ft code)(A:d<8)(b:code[p]?=O (cq o<|q+1))(D:o.1=7)
  (z: ∀(l:Nat->Int) (s:S) (m:Nat),Vd (n+m) s->∃l',(∀i,i<d+1->l' i=l i)/\Reach g t (st q (d+1) l s) (st (p+1) (d+1) l'<|Fc stp u s)/\Vd m (Fc stp u s)):
  ∀(k:Nat) (l:Nat->Int) (s:S) (m:Nat),k<18446744073709551615->l d=((k+1:Nat):Int)->Vd (n*(k+1)+m) s->
   ∃l',(∀i,i<d->l' i=l i)/\Reach g ((k+1)*(t+1)) (st q (d+1) l s) (st p d l'<|Fc stp (bB (k+1) u).flatten s)/\Vd m (Fc stp (bB (k+1) u).flatten s)
 |0,l,s,m,K,C,j=>by
  have⟨c,f,r,h⟩:=z l s m (by rw[cS,dS]at j;exact j);have E:(bB (0+1) u).flatten=u:=by simp
  rw[E];have e:c d=1:=by rw[f d V1,C];rfl
  refine⟨upd c d<|c d-1,λi hi=>by rw[LU V1,f i V1], ?_,h⟩;have y:=r.trans<|Reach.one<|B.out (l:=c) b D A e h;rw[show(0+1)*(t+1)=t+1 by omega];exact y
 |k+1,l,s,m,K,C,j=>by
  have L:n*(k+1+1)+m=n+(n*(k+1)+m):=by rw[Nat.mul_succ n<|k+1];omega
  rw[L]at j;have⟨c,f,r,h⟩:=z l s _ j;have e:c d=((k+1+1:Nat):Int):=by rw[f d V1,C]
  have y:=r.trans<|Reach.one<|B.nxt (l:=c) b F D A V1 V1 h;have⟨M,H,I,J⟩:=ae9 B F A b D z k (upd c d<|c d-1) (Fc stp u s) m V1 (by rw[oX,e];omega) h;have E:(bB (k+1+1) u).flatten=(bB (k+1) u).flatten++u:=by rw[eQ,List.flatten_append];simp
  rw[E,Nf];refine⟨M,λi hi=>by rw[H i hi,LU V1,f i V1], ?_,J⟩;rw[show(k+1+1)*(t+1)=t+1+(k+1)*(t+1)by rw[Nat.succ_mul<|k+1];omega];exact y.trans I
def JK (E:Backs g code st stp Vd good): ∀(f:Fo) {A B:List yG} {p d:Nat} {l:Nat->Int} {s:S} {m:Nat},code=A++f.code p++B->A.length=p->f.Ok->f.Pos->d+f.hi<=8->(∀o∈f.src,good o/\UC o)->Vd (f.n+m) s->
  ∃l',(∀i,i<d->l' i=l i)/\Reach g f.steps (st (p+f.len) d l s) (st p d l'<|Fc stp f.unroll s)/\Vd m (Fc stp f.unroll s)
 | .nil,A,B,p,d,l,s,m,y,C,h,J,F,c,D=>by
  refine⟨l,λ_ _=>rfl,Reach.refl, ?_⟩;have:Fo.nil.n+m=m:=cS m;rw[this]at D;exact D
 | .op o r,A,B,p,d,l,s,m,y,C,h,J,F,c,D=>by
  simp only[Fo.n]at D;simp only[Fo.hi]at F;have T:(A++[cq o 0]).length=p+1:=by simp[C]
  obtain⟨l',M,N,Q⟩:=JK E r (A:=A++[cq o 0]) (B:=B) (p:=p+1) (d:=d) (l:=l) (m:=1+m) (by rw[y];simp[Fo.code]) T h.2 J F (λx I=>c x (by simp[Fo.src,I])) (by rw[show r.n+(1+m)=1+r.n+m by omega];exact D);obtain⟨K,L⟩:=E.op (d:=d) (l:=l') (Ho y C) (c o ZQ).1 h.1 V1 Q;refine⟨l',M, ?_,L⟩;have:=N.trans<|Reach.one K;simp only[Fo.steps,Fo.len];rw[show p+(r.len+1)=p+1+r.len by omega,Nat.add_comm 1];exact this
 | .rep o b e r,A,B,p,d,l,s,m,y,C,h,J,F,c,D=>by
  obtain⟨⟨k1,k2⟩,k3,k4⟩:=h;obtain⟨q1,q2,q3⟩:=J;simp only[Fo.n]at D;simp only[Fo.hi]at F;have H:=(c o ZQ).2;unfold UC at H;have hvo:((rj o:Nat):Int)=o.2.2.2.2:=dW H.1
  have hv0:0<rj o:=by
   rcases dR (rj o)with h0|h0
   .rw[h0]at q1;simp at q1
   .exact h0
  obtain⟨k,h⟩: ∃k,rj o=k+1:=⟨rj o-1,V1⟩
  have j:=Ho y C;have T:(A++[cq o<|p+b.len+2]).length=p+1:=by simp[C]
  have X:code=(A++[cq o<|p+b.len+2])++b.code (p+1)++(cq e (p+1)::r.code (p+b.len+2)++B):=by rw[y];simp[Fo.code]
  have hce:code=(A++cq o (p+b.len+2)::b.code (p+1))++(cq e (p+1)::r.code (p+b.len+2))++B:=by rw[y];simp[Fo.code]
  have V:(A++cq o (p+b.len+2)::b.code (p+1)).length=p+1+b.len:=by simp[C,Fo.code_len];omega
  have z:=Ho hce V;have hcr:code=(A++cq o (p+b.len+2)::(b.code (p+1)++[cq e<|p+1]))++r.code (p+b.len+2)++B:=by rw[y];simp[Fo.code]
  have W:(A++cq o (p+b.len+2)::(b.code (p+1)++[cq e<|p+1])).length=p+b.len+2:=by simp[C,Fo.code_len];omega
  obtain⟨l2,Q,h6,h7⟩:=JK E r (d:=d) (l:=l) (m:=b.n*rj o+m) hcr W k4 q3 V1 (λx I=>c x (by simp[Fo.src,I])) (by rw[show r.n+(b.n*rj o+m)=b.n*rj o+r.n+m by omega];exact D);have K:=E.rep (d:=d) (l:=l2) z k2 j V1 h7
  obtain⟨l1,L,M,N⟩:=ae9 E (p:=p) (q:=p+1+b.len) (d:=d) (t:=b.steps) (n:=b.n) (o:=o) (u:=b.unroll) (Nat.le_of_lt (List.getElem?_eq_some_iff.1 z).1) V1 (by rw[j];congr 2;omega) k1
   (λl s m hm=>JK E b X T k3 q2 V1 (λx I=>c x (by simp[Fo.src,I])) hm) k (upd l2 d o.2.2.2.2) _ m V1 (by rw[oX,<-hvo,h]) (by rw[<-h];exact h7)
  simp only[Fo.unroll,Fo.steps,Fo.len];rw[Nf,h];refine⟨l1,λi hi=>by rw[L i hi,LU V1,Q i hi], ?_,N⟩;have h8:=(h6.trans (show Reach g 1 _ _ from by rw[show p+b.len+2=p+1+b.len+1 by omega];exact Reach.one K)).trans M;rw[show p+(b.len+r.len+2)=p+b.len+2+r.len by omega,show 1+(k+1)*(b.steps+1)+r.steps=r.steps+1+(k+1)*(b.steps+1)by omega];exact h8
end
end
end Go.V
