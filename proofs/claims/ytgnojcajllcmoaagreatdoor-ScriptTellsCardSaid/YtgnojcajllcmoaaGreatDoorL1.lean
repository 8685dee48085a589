/- A part of the proof. No condition. -/
import Derived.Test.YtgnojcajllcmoaaGreatDoorA6
import Derived.SizedLaws
import Derived.Test.YtgnojcajllcmoaaGreatDoorD2
import Derived.KernelRfl
set_option linter.all false
namespace Go.V
open Go.Ab
open Option renaming some->O,none->Y
open Bool renaming true->Za,false->Zb
open Decidable renaming decide->Zc
open List renaming length_eq_zero_iff->dy
open List renaming mem_append->cI
open List renaming mem_cons->aw
open List renaming length->hW
open Int renaming toNat->hX
open Option renaming bind->im
variable {i t x:Nat}{a v w:Int}{out rds st:Zd}
set_option maxRecDepth 100000
section
section
variable {H:Type} {enc:TypeId×Value->H} {P:Program} {w:World} {base:Nat} {held:Bool}
end
end
section
open Go.IntKind renaming wrap->zH,i64->zI,u64->zJ
open Bool renaming not_true->dA
open Int renaming zero_add->cN,add_assoc->cQ,mul_nonneg->cW,add_zero->dB,le_refl->dC,mul_comm->dD,mul_le_mul_of_nonneg_left->dE,ediv_le_self->dT,ediv_nonneg->dU,mul_ediv_self_le->dV,toNat_of_nonneg->dW,eq_ofNat_of_zero_le->eI,toNat_natCast->eJ
open List renaming getElem?_eq_getElem->aD,replicate->bB,getElem?_set_ne->cB,length_cons->cD,append_assoc->cK,getElem?_append_right->cL,length_append->cM,cons_append->cO,getElem_mem->cP,nil_append->cR,getElem_cons_drop->cT,range->cV,drop_length->cX,getElem?_set_self->cY,length->cZ,append_nil->dF,drop_append->dG,drop_of_length_le->dH,getD->dI,getElem?_drop->dJ,length_drop->dK,map_append->dL,set->dM,set_append_right->dN,take_append_drop->dO,take_left'->dP,any_cons->dX,any_nil->dY,dropLast_concat_getLast->dZ,length_take->eA,mem_cons->eC,range_succ->eD,take_succ_eq_append_getElem->eE,getElem?_cons_zero->eM,length_flatten->eN,map_replicate->eO,mem_append->eP,replicate_succ'->eQ,sum_replicate_nat->eR
open Nat renaming le_refl->aB,sub_self->bD,zero_add->cS,zero_le->cU,beq->dQ,eq_zero_or_pos->dR,mul_one->dS,mul_add->eF,mul_comm->eG,mul_le_mul_right->eH,add_sub_cancel->eT
abbrev bx :=Int×Int×Int×Int×Int
def bu :List bx->Nat->Option Nat
 |[],d=>O d
 |o::r,d=>if o.1<0∨7<o.1 then Y else if o.1=0 then(if d=0 then Y else bu r<|d-1)else if o.1=7 then bu r (d+1)else bu r d
def sL : ∀(l r:List bx) (d:Nat),bu (l++r) d=(bu l d).bind (bu r)
 |[],r,d=>rfl
 |o::l,r,d=>by
  simp only[cO,bu];split
  .rfl
  split
  .split
   .rfl
   .exact sL l r _
  split
  .exact sL l r _
  .exact sL l r _
def Kd : ∀(l:List bx) (d e:Nat),bu l d=O e->bu l (d+1)=O (e+1)
 |[],d,e,h=>by
  cases h;rfl
 |o::l,d,e,h=>by
  simp only[bu]at h⊢;split at h
  .cases h
  rename_i c;rw[zF c];split at h
  .rename_i f;rw[zE f];split at h
   .cases h
   .rename_i b;rw[Zh];have:=Kd l _ _ h
    rwa [show d-1+1=d+1-1 by omega]at this
  rename_i f;rw[zF f];split at h
  .rename_i b;rw[zE b];exact Kd l _ _ h
  .rename_i b;rw[zF b];exact Kd l _ _ h
def be8 (l:List bx)(s:Int×Bool×Zd×Zd×Zd):Prop:=
 ∃(i:Nat) (out st:Zd),i<=hW l/\s=((i:Int),Za,out,st,st)/\hW out=hW l/\(∀x∈st,0<=x/\x<hW l)/\hW st<=i/\bu (l.drop i) (hW st)=bu l 0
def aV8 (h:st≠[]): ∃pre x,st=pre++[x]:=⟨st.dropLast,st.getLast h,(dZ h).symm⟩
def XS {l:List bx}(K:l.length<=3518437208780)(s:Int×Bool×Zd×Zd×Zd)(h:be8 l s):
  (∃b,dp l s=O (.inl b)/\be8 l b/\l.length-b.1.toNat<l.length-s.1.toNat)∨∃c,dp l s=O (.inr c)/\((c.1=Zb/\bu l 0=Y)∨(c.1=Za/\bu l 0=O c.2.2.1.length)):=by
 obtain⟨i,out,st,hi,rfl,A,j,B,d⟩:=h;by_cases c:i<l.length
 .have o:l.drop i=l[i]::l.drop (i+1):=(cT c).symm;rw[o]at d;simp only[dp];rw[zB (show(i:Int)<(l.length:Int)by omega),zC,bt c];simp only[zG];generalize M:l[i]=x at*;simp only[bu]at d;by_cases D:x.1<0
  .rw[zE<|.inl D]at d;rw[zB D];simp only[zC,zG,gr];exact .inr ⟨_,rfl, .inl ⟨rfl,d.symm⟩⟩
  rw[zA D,zD];by_cases k:7<x.1
  .rw[zE<|.inr k]at d;rw[zB k];simp only[zC,zG,cg,gr];exact .inr ⟨_,rfl, .inl ⟨rfl,d.symm⟩⟩
  rw[zA k,zD];rw[Zh]at d;by_cases u:x.1=0
  .rw[zE u]at d;rw[zB u];simp only[zC,zG,cg];by_cases p:st.length=0
   .rw[zE p]at d;rw[zB (show(st.length:Int)=0 by omega)];simp only[zC,zG,gr];exact .inr ⟨_,rfl, .inl ⟨rfl,d.symm⟩⟩
   .rw[zF p]at d;rw[zA (show¬(st.length:Int)=0 by omega),zD];rw[ae (n:=(st.length:Int)-1) V1,Zk,bp];simp only[zG,cg];obtain⟨pre,q,rfl⟩:=aV8 (st:=st) (by intro e;subst e;exact p rfl);have I:=j q V2;have f:(pre++[q]).length=pre.length+1:=by simp
    have L:(((pre++[q]).length:Int)-1).toNat-0=pre.length:=by rw[f];omega
    have E:Zc (x.1=7)=Zb:=zA V1;rw[bn (show i<out.length by omega)];simp only[zG];rw[aD (show i<out.length by omega)];simp only[zG];rw[E,zD,show((pre++[q]).length:Int)-1=(pre.length:Int)by rw[f];omega,bn (show pre.length<(pre++[q]).length by omega)];simp only[zG];rw[cL<|aB _,bD];simp only[eM,zG];rw[bp,bn (show i<(out.set i<|-1).length by simp;omega)];simp only[zG];rw[aD (show i<(out.set i<|-1).length by simp;omega)];simp only[zG];obtain⟨r,rfl⟩:=eI I.1;have J:r<out.length:=by omega
    rw[bn (show r<((out.set i<|-1).set i ((r:Nat):Int)).length by simp;omega)];simp only[zG];rw[aD (show r<((out.set i<|-1).set i ((r:Nat):Int)).length by simp;omega)];simp only[zG]
    have C:(pre++[(r:Int)]).take ((pre.length:Int).toNat-0)=pre:=by
     rw[show(pre.length:Int).toNat-0=pre.length by omega,dP];rfl
    rw[C,ae (n:=(i:Int)+1) V1];refine .inl ⟨_,rfl,⟨i+1,_,pre,c,rfl,by simp[A],λy hy=>j y (by simp[hy]),by rw[f]at B;omega, ?_⟩,by simp;omega⟩;rw[f]at d;exact d
  .rw[zF u]at d;have F:Zc (x.1=0)=Zb:=zA u;rw[F];simp only[zD,zG,cg];rw[bn (show i<out.length by omega)];simp only[zG];rw[aD (show i<out.length by omega)];simp only[zG];by_cases k:x.1=7
   .rw[zE k]at d;rw[zB k];simp only[zC];rw[bg V1 V1,bg V1 V1,ae (n:=(i:Int)+1) V1];refine .inl ⟨_,rfl,⟨i+1,_,st++[(i:Int)],c,rfl,by simp[A],λy hy=> ?_,by simp;omega, ?_⟩,by simp;omega⟩
    .rcases cI.1 hy with hy|hy
     .exact j y hy
     .simp at hy;subst hy;omega
    .rw[cM];exact d
   .rw[zF k]at d;rw[zA k];simp only[zD];rw[ae (n:=(i:Int)+1) V1];exact .inl ⟨_,rfl,⟨i+1,_,st,c,rfl,by simp[A],j,V1,d⟩,by simp;omega⟩
 .have z:i=l.length:=by omega
  subst z;rw[cX]at d;simp only[dp];rw[zA (show¬(l.length:Int)<(l.length:Int)by omega),zD];exact .inr ⟨_,rfl, .inr ⟨rfl,d.symm⟩⟩
def Bn {l:List bx}(o:hW l<=3518437208780): ∃m,kC l=O (if bu l 0=O 0 then 0 else 6,m):=by
 unfold kC;rw[zB (show(0:Int)<=(hW l:Int)by omega),zB (show(hW l:Int)<=(hW l:Int)by omega),zB (show 8*(hW l:Int)<=140737488355328 by omega)];show∃m,gd Za _=_
 rw[bp]
 obtain⟨c,k,h⟩:=lj (f:=dp l) (a:=((0:Int),Za,bB (hX (hW l:Int)) (0:Int),([]:Zd),([]:Zd))) (be8 l) (λs=>hW l-hX s.1) (λc=>(c.1=Zb/\bu l 0=Y)∨(c.1=Za/\bu l 0=O (hW c.2.2.1)))
  ⟨0,_,[],cU _,rfl,V2,(λx q=>by cases q),aB _,rfl⟩ V3 (λs p=>XS o s p)
 rw[k,zG];rcases h with⟨b,d⟩|⟨b,d⟩
 .rw[b,d];exact⟨_,rfl⟩
 rw[b,d,zC];by_cases j:hW c.2.2.1=0
 .rw[zB (show(hW c.2.2.1:Int)=0 by omega),zE (by rw[j])];exact⟨_,rfl⟩
 rw[zA (show¬(hW c.2.2.1:Int)=0 by omega),zF Zm];exact⟨_,rfl⟩
def BM (w v:Int):Option Int:=if w=0 then O 0 else if 65536<w then Y else if 65536 / w<v then Y else O<|w*v
def tE :List bx->List (Int×Int)->Option (List<|Int×Int)
 |[],st=>O st
 |o::r,(v,w)::st=>if o.1=7 then tE r ((o.2.2.2.2,0)::(v,w)::st)else if o.1=0 then(match BM w v,st with
   |some n,(c,d)::b=>tE r ((c,d+n)::b)
   |_,_=>Y)
  else tE r ((v,w+1)::st)
 |_::_,[]=>Y
def PE (s:0<=w/\w<=10000000000)(f:0<=v/\v<=18446744073709551615):uQ w v=O (match BM w v with
  |some n=>(n,Za)
  |none=>(0,Zb)):=by
 unfold uQ BM;simp only[ah];by_cases b:w=0
 .rw[zE b,zE b]
 rw[zF b,zF b];by_cases c:65536<w
 .rw[zE c,zE c]
 rw[zF c,zF c,zB (show w≠0 from b),bp,Ub V1];have h:0<=65536 / w:=dU V1 V1;have j:65536 / w<=65536:=dT _ V1;rw[ae (n:=65536 / w) V1,Zj];by_cases d:65536 / w<v
 .rw[zE d,zE d]
 .rw[zF d,zF d]
  have o:w*v<=65536:=by
   have e:v<=65536 / w:=by omega
   have p:=dE e (show 0<=w by omega);have q:=dV (x:=65536) (k:=w) V1;omega
  have r:=cW (show 0<=w by omega) f.1;rw[ae (n:=v) V1,ae (n:=w*v) V1]
def Jt {n:Int}(d:0<=w)(c:0<=v)(h:BM w v=O n):0<=n/\n<=65536:=by
 unfold BM at h;split at h
 .injection h with h;subst h;omega
 split at h
 .cases h
 split at h
 .cases h
 rename_i e f j;cases h;have b:v<=65536 / w:=by omega
 have o:=dE b (show 0<=w by omega);have p:=dV (x:=65536) (k:=w) V1;exact⟨cW d c,V1⟩
def Ig {k:Int}(h:0<k/\k<7)(d a b v:Int):jX k d a b v=O (d,Za):=by
 unfold jX qz;simp only[ah];have:k=1∨k=2∨k=3∨k=4∨k=5∨k=6:=by omega
 rcases this with rfl|rfl|rfl|rfl|rfl|rfl<;>rfl
def WE (a b:Int)(e:0<=a/\a<=1000000000000)(j:0<=b/\b<=65536):AL [a,b]=O (a+b):=by
 unfold AL
 have d:am (Co [a,b]) co (0,0)=O (a+b):=by
  have h:=cn (f:=Co [a,b]) (n:=2) (λi=>match i with|0=>0|1=>a|_=>a+b) (c:=a+b) V1 ?_ ?_
  .exact h
  .intro i hi
   match i,hi with
   |0,_=>
    show O (Sum.inl (zH zI 1,zH zI<|0+a))=_;rw[Zi,Zi,cN];rfl
   |1,_=>
    show O (Sum.inl (zH zI 2,zH zI<|a+b))=_;rw[Zi,Zi];rfl
  rfl
 rw[d];rfl
def aV7 (l:List bx)(op:List<|Int×Int):List<|Int×Int:=op.reverse.map λp=>((l.getD (hX p.1) (0,0,0,0,0)).2.2.2.2,p.2)
def Ax (l:List bx)(pre:List<|Int×Int)(p:Int×Int):aV7 l (pre++[p])=((l.getD (hX p.1) (0,0,0,0,0)).2.2.2.2,p.2)::aV7 l pre:=by
 unfold aV7;rw[List.reverse_append,dL];rfl
def bf2 (l:List bx)(s:Int×Zd×Zd×List (Int×Int)):Prop:=
 ∃(i:Nat) (sz rd:Zd) (b:List<|Int×Int),i<=hW l/\s=((i:Int),sz,rd,b)/\hW sz=hW l/\hW rd=hW l/\b≠[]/\hW b<=i+1/\(∀p∈b,0<=p.1/\p.1<max (hW l:Int) 1/\0<=p.2/\p.2<=65537*i)/\
  bu (l.drop i) (hW b-1)=O 0/\tE (l.drop i) (aV7 l b)=tE l [((l.getD 0 (0,0,0,0,0)).2.2.2.2,0)]
def aa1 {l:List bx}(h:i<hW l):l.getD i (0,0,0,0,0)=l[i]:=by
 rw[List.getD_eq_getElem?_getD,aD h];rfl
def Ts {l:List bx}(hl:l.length<=100000)(hv: ∀o∈l,0<=o.2.2.2.2/\o.2.2.2.2<=18446744073709551615)(s:Int×Zd×Zd×List (Int×Int))(h:bf2 l s):
  (∃b,dg l s=O (.inl b)/\bf2 l b/\l.length-b.1.toNat<l.length-s.1.toNat)∨
  ∃c,dg l s=O (.inr c)/\((c.1=9/\tE l [((l.getD 0 (0,0,0,0,0)).2.2.2.2,0)]=Y)∨(c.1=0/\∃p:Int×Int,c.2.2.2=[p]/\0<=p.2/\tE l [((l.getD 0 (0,0,0,0,0)).2.2.2.2,0)]=O [((l.getD p.1.toNat (0,0,0,0,0)).2.2.2.2,p.2)])):=by
 obtain⟨i,sz,rds,op,hi,rfl,J,I,M,hol,A,j,f⟩:=h;obtain⟨pre,⟨r,w⟩,rfl⟩: ∃pre x,op=pre++[x]:=⟨op.dropLast,op.getLast M,(dZ M).symm⟩
 have q:=A (r,w) V2;simp only at q;have z:(pre++[(r,w)]).length=pre.length+1:=by simp
 rw[z]at hol j;rw[eT]at j
 have C:(pre++[(r,w)])[pre.length]?=O (r,w):=by
  rw[cL<|aB _,bD];rfl
 by_cases c:i<l.length
 .have F:l.drop i=l[i]::l.drop (i+1):=(cT c).symm;have hlv:=hv _<|cP c;have W:l.getD i (0,0,0,0,0)=l[i]:=aa1 c;rw[F]at j f;rw[Ax]at f;simp only[dg];rw[zB (show(i:Int)<(l.length:Int)by omega),zC,bt c];simp only[zG];generalize hx:l[i]=x at*;simp only[bu]at j;simp only[tE]at f
  have hk: ¬(x.1<0∨7<x.1):=by
   intro hk;rw[zE hk]at j;cases j
  rw[zF hk]at j;rw[z,ae (n:=((pre.length+1:Nat):Int)-1) V1,show((pre.length+1:Nat):Int)-1=(pre.length:Int)by omega,bn (show pre.length<pre.length+1 by omega)];simp only[zG];by_cases K:x.1=7
  .rw[Zh,zE K]at j;rw[zE K]at f;rw[zB K,zC,bg V1 V1,ae (n:=(i:Int)+1) V1];refine .inl ⟨_,rfl,⟨i+1,sz,rds,pre++[(r,w)]++[((i:Int),0)],c,rfl,J,I,V2,by simp;omega,λp hp=> ?_, ?_, ?_⟩,by simp;omega⟩
   .rcases cI.1 hp with hp|hp
    .have:=A p hp;omega
    .simp at hp;subst hp;simp only;omega
   .rw[cM,z];exact j
   .rw[Ax,Ax];simp only[eJ];rw[W];exact f
  .rw[zF K]at f;rw[zA K,zD];by_cases V:x.1=0
   .rw[zE V]at j f;rw[zB V,zC]
    have N:pre.length≠0:=by
     intro e;rw[zE e]at j;cases j
    rw[zF N]at j
    obtain⟨d,⟨k,u⟩,rfl⟩: ∃d x,pre=d++[x]:=by
     have D:pre≠[]:=by intro e;subst e;exact N rfl
     exact⟨pre.dropLast,pre.getLast D,(dZ D).symm⟩
    have L:(d++[(k,u)]).length=d.length+1:=by simp
    have B:=A (k,u) V2;simp only at B;obtain⟨y,rfl⟩:=eI q.1;have E:y<l.length:=by omega
    rw[C];simp only[zG];rw[bt E];simp only[zG];have T:=hv _<|cP E;rw[PE ⟨q.2.2.1,V1⟩ T];simp only[zG];rw[Ax]at f;simp only[eJ]at f;rw[aa1 E]at f;cases X:BM w l[y].2.2.2.2 with
    |none=>
     rw[X]at f;simp only[Bool.not_false,zC];exact .inr ⟨_,rfl, .inl ⟨rfl,f.symm⟩⟩
    |some n=>
     rw[X]at f;have hn:=Jt q.2.2.1 T.1 X;simp only[dA,zD];rw[bn (show y<sz.length by omega)];simp only[zG];rw[aD (show y<sz.length by omega)];simp only[zG];rw[bn (show y<rds.length by omega)];simp only[zG];rw[aD (show y<rds.length by omega)];simp only[zG];rw[Zk,bp];have e1:((d++[(k,u)]).length:Int).toNat-0=d.length+1:=by rw[L];omega
     rw[e1,ae (n:=((d.length+1:Nat):Int)-1) V1,show((d.length+1:Nat):Int)-1=(d.length:Int)by omega,bn (show d.length<d.length+1 by omega)];simp only[zG,cS]
     have hg2:(d++[(k,u)]++[((y:Int),w)])[d.length]?=O (k,u):=by
      rw[cK,cL<|aB _,bD];rfl
     rw[hg2];simp only[zG];rw[WE _ _ V1 hn];simp only[zG]
     have htk:((d++[(k,u)]++[((y:Int),w)]).set d.length (k,u+n)).take (d.length+1)=d++[(k,u+n)]:=by
      rw[cK,dN _ _<|aB _,bD];show(d++[(k,u+n),((y:Int),w)]).take (d.length+1)=_;rw[show [(k,u+n),((y:Int),w)]=[(k,u+n)]++[((y:Int),w)]from rfl,<-cK,dP];simp
     rw[htk,ae (n:=(i:Int)+1) V1];refine .inl ⟨_,rfl,⟨i+1,_,_,d++[(k,u+n)],c,rfl,by simp[J],by simp[I],V2,by simp;omega,λp hp=> ?_, ?_, ?_⟩,by simp;omega⟩
     .rcases cI.1 hp with hp|hp
      .have:=A p gs;omega
      .simp at hp;subst hp;simp only;omega
     .rw[L]at j;rw[cM];exact j
     .rw[Ax];exact f
   .rw[zF V]at j f;rw[zF K]at j;rw[zA V,zD,Ig V1];simp only[zG,zC];rw[bn (show i<sz.length by omega)];simp only[zG];rw[aD (show i<sz.length by omega)];simp only[zG];rw[C];simp only[zG];rw[ae (n:=w+1) V1,ae (n:=(i:Int)+1) V1]
    have Q:(pre++[(r,w)]).set pre.length (r,w+1)=pre++[(r,w+1)]:=by
     rw[dN _ _<|aB _,bD];rfl
    rw[Q];refine .inl ⟨_,rfl,⟨i+1,_,rds,pre++[(r,w+1)],c,rfl,by simp[J],I,V2,by simp;omega,λp hp=> ?_, ?_, ?_⟩,by simp;omega⟩
    .rcases cI.1 hp with hp|hp
     .have:=A p gs;omega
     .simp at hp;subst hp;simp only;omega
    .rw[cM];exact j
    .rw[Ax];exact f
 .have hi':i=l.length:=by omega
  subst hi';rw[cX]at j f;simp only[dg];rw[zA (show¬(l.length:Int)<(l.length:Int)by omega),zD]
  have hp:pre=[]:=by
   have j:O pre.length=O 0:=j;injection j with j
   exact dy.1 j
  subst hp;refine .inr ⟨_,rfl, .inr ⟨rfl,(r,w),rfl,q.2.2.1, ?_⟩⟩;rw[<-f];rfl
def Q9 (l:List bx):Option Int:=im (tE l [((l.getD 0 (0,0,0,0,0)).2.2.2.2,0)]) λst=>match st with
 |[p]=>O p.2
 |_=>Y
def eg (l:List bx):Int×Int:=if bu l 0=O 0 then(match Q9 l with
 |some w=>if 65536<w then(0,9)else(w,0)
 |none=>(0,9))else(0,6)
def ym {l:List bx}(C:hW l<=100000)(E: ∀o∈l,0<=o.2.2.2.2/\o.2.2.2.2<=18446744073709551615):gC l=O (eg l):=by
 unfold gC kX;have⟨m,D⟩:=Bn (l:=l) V1;rw[D];unfold eg;by_cases k:bu l 0=O 0
 .simp only[zE k];simp only[zG];rw[zA V2,zD,zB (show(0:Int)<=(hW l:Int)by omega),zB (show(hW l:Int)<=(hW l:Int)by omega),zB (show 8*(hW l:Int)<=140737488355328 by omega)];have b: ∀{β:Type} {y:Option β},gd (dQ 1 (Sh.w<|.int .i64)&&Za&&Za&&Za&&Nat.ble 1 8) y=y:=λ{β y}=>rfl
  rw[b,b]
  have⟨c,B,h⟩:=lj (f:=dg l) (a:=((0:Int),bB (hX (hW l:Int)) (0:Int),bB (hX (hW l:Int)) (0:Int),[((0:Int),(0:Int))])) (bf2 l) (λs=>hW l-hX s.1) _
   ⟨0,_,_,[(0,0)],cU _,rfl,V2,V2,V2,V2,(λp q=>by simp at q;subst q;simp only;omega),k,rfl⟩ V3 (λs h=>Ts C E s h)
  rw[B,zG];unfold Q9;rcases h with⟨j,u⟩|⟨j,p,z,F,A⟩
  .rw[j,u];rfl
  rw[j,A,z];show(im (im (cond (Zc<|65536<p.2) (O (9:Int))<|O 0) λd=>cond (Zc<|d≠0) (O ((0:Int),d,([]:Zd),([]:Zd)))<|O (p.2,0,c.2.1,c.2.2.1)) λr=>O (r.1,r.2.1))=O (if 65536<p.2 then(0,9)else(p.2,0));rw[ah];by_cases e:65536<p.2
  .rw[zE e,zE e];rfl
  rw[zF e,zF e];rfl
 simp only[zF k];rfl
def Dz : ∀(l r:List bx) (st:List<|Int×Int),tE (l++r) st=(tE l st).bind (tE r)
 |[],r,st=>rfl
 |o::l,r,[]=>rfl
 |o::l,r,(v,w)::st=>by
  simp only[cO,tE];split
  .exact Dz l r _
  split
  .split
   .exact Dz l r _
   .rfl
  .exact Dz l r _
def aa7 (v w:Int)(base:List<|Int×Int):List (Int×Int)->List (Int×Int)
 |[]=>[]
 |[p]=>(v,w+p.2)::base
 |p::q::r=>p::aa7 v w base (q::r)
def Re (v w:Int)(base:List<|Int×Int)(p:Int×Int): ∀c:List<|Int×Int,aa7 v w base (c++[p])=c++(v,w+p.2)::base
 |[]=>rfl
 |[a]=>rfl
 |a::b::r=>by
  show a::aa7 v w base (b::r++[p])=_;rw[Re v w base p<|b::r];rfl
def tT (v w:Int)(base:List<|Int×Int): ∀(l:List bx) (e:List<|Int×Int) (c:Int) (d:Nat),bu l (hW e)=O d->tE l (e++(v,w+c)::base)=(tE l<|e++[(0,c)]).map (aa7 v w base)
 |[],e,c,d,_=>by
  show O _=O _;rw[Re]
 |o::l,[],c,d,h=>by
  simp only[bu,List.length_nil]at h;simp only[cR,tE];split at h
  .cases h
  split at h
  .rw[zE trivial]at h;cases h
  rename_i p f;split at h
  .rename_i b;rw[zE b,zE b];exact tT v w base l [(o.2.2.2.2,0)] c d h
  .rename_i b;rw[zF b,zF f,zF b,zF f,cQ];exact tT v w base l [] (c+1) d h
 |o::l,(j,k)::e,c,d,h=>by
  simp only[bu,cD]at h;simp only[cO,tE];split at h
  .cases h
  split at h
  .rename_i p f;rw[Zh]at h;rw[Zh,zE f,Zh,zE f];cases r:BM k j with
   |none=>rfl
   |some n=>
    cases e with
    |nil=>
     simp only[cR];rw[cQ];exact tT v w base l [] (c+n) d h
    |cons q e=>
     simp only[cO];exact tT v w base l ((q.1,q.2+n)::e) c d h
  rename_i p f;split at h
  .rename_i b;rw[zE b,zE b];exact tT v w base l ((o.2.2.2.2,0)::(j,k)::e) c d h
  .rename_i b;rw[zF b,zF f,zF b,zF f];exact tT v w base l ((j,k+1)::e) c d h
def Kc : ∀(l:List bx) (st b:List<|Int×Int) (d f:Nat),hW st=d+1->bu l d=O f->tE l st=O b->hW b=f+1
 |[],st,b,d,f,h,c,e=>by
  injection c with c
  injection e with e
  subst c;subst e;exact h
 |o::l,[],b,d,f,h,_,_=>by simp at h
 |o::l,(v,w)::st,b,d,f,h,c,e=>by
  simp only[bu]at c;simp only[tE]at e;simp only[cD,Nat.add_right_cancel_iff]at h;split at c
  .cases c
  split at c
  .rename_i p k;split at c
   .cases c
   rw[Zh,zE k]at e;split at e
   .rename_i j _ _ n r s q _;exact Kc l _ b (d-1) f (by simp at h⊢;omega) c e
   .cases e
  rename_i p k;split at c
  .rename_i j;rw[zE j]at e;exact Kc l _ b (d+1) f V3 c e
  .rename_i j;rw[zF j,zF k]at e;exact Kc l _ b d f V3 c e
def Nd : ∀(l:List bx) (st b:List<|Int×Int),(∀o∈l,0<=o.2.2.2.2)->(∀p∈st,0<=p.1/\0<=p.2)->tE l st=O b->∀p∈b,0<=p.2
 |[],st,b,_,h,c=>by
  cases c;exact λp hp=>(h p hp).2
 |o::l,[],b,_,_,c=>by cases c
 |o::l,(v,w)::st,b,q,h,c=>by
  have f:=h (v,w) V2;have d: ∀p∈st,0<=p.1/\0<=p.2:=λp hp=>h p gs
  have e: ∀k∈l,0<=k.2.2.2.2:=λk j=>q k (by simp[j])
  simp only at f;simp only[tE]at c;split at c
  .refine Nd l _ b e (λp hp=> ?_) c;rcases aw.1 hp with rfl|hp
   .exact⟨q o V2,dC _⟩
   .exact h p hp
  split at c
  .split at c
   .rename_i n u y s r;have z:=Jt f.2 f.1 r;refine Nd l _ b e (λp hp=> ?_) c;rcases aw.1 hp with rfl|hp
    .have:=d (u,y) V2;simp only at this⊢;omega
    .exact d p gs
   .cases c
  .refine Nd l _ b e (λp hp=> ?_) c;rcases aw.1 hp with rfl|hp
   .simp only;omega
   .exact h p gs
def In {l:List bx}(h:bu l 0=O 0)(v w:Int)(base:List<|Int×Int):tE l ((v,w)::base)=(Q9 l).map λm=>(v,w+m)::base:=by
 have b:=tT v w base l [] 0 0 h;rw[cR,cR,dB]at b;have c:=tT ((l.getD 0 (0,0,0,0,0)).2.2.2.2) 0 [] l [] 0 0 h;rw[cR,cR,dB]at c;unfold Q9;rw[b,c];cases e:tE l [(0,0)]with
 |none=>rfl
 |some st=>
  have d:=Kc l _ st 0 0 rfl h e
  match st,d with
  |[p],_=>
   show O ((v,w+p.2)::base)=O ((v,w+(0+p.2))::base);rw[cN]
def LN {l:List bx}(e: ∀o∈l,0<=o.2.2.2.2){m:Int}(h:bu l 0=O 0)(d:Q9 l=O m):0<=m:=by
 have b:=In h 0 0 [];rw[d]at b;have:=Nd l _ _ e (λp c=>by simp at c;subst c;simp) b (0,0+m) V2;simp only at this;omega
def II {l:List bx}(y:l.length<=100000):rj l=O (Zc<|bu l 0=O 0):=by
 unfold rj
 obtain⟨c,r,h⟩:=lj (f:=yB l) (a:=((0:Int),(0:Int))) (λs=> ∃i d:Nat,i<=l.length/\d<=i/\s=((i:Int),(d:Int))/\bu (l.drop i) d=bu l 0) (λs=>l.length-s.1.toNat)
  (λc=>(c= .inl Zb/\bu l 0=Y)∨∃d:Nat,c= .inr (d:Int)/\bu l 0=O d) ⟨0,0,cU _,aB _,rfl,rfl⟩ V3 (by
  rintro _ ⟨i,d,hi,u,rfl,b⟩;simp only[yB,ah];by_cases c:i<l.length
  .rw[(cT c).symm]at b;rw[Zg,bt c];simp only[zG];generalize l[i]=x at*;simp only[bu]at b;by_cases p:x.1<0
   .rw[zE<|.inl p]at b;rw[zE p];exact .inr ⟨_,rfl, .inl ⟨rfl,b.symm⟩⟩
   rw[zF p];by_cases q:7<x.1
   .rw[zE<|.inr q]at b;rw[zE q];exact .inr ⟨_,rfl, .inl ⟨rfl,b.symm⟩⟩
   rw[Zh]at b;rw[zF q];by_cases o:x.1=0
   .rw[zE o]at b;rw[Zh];simp only[zG];rw[zE o,ae (n:=(d:Int)-1) V1,ae (n:=(i:Int)+1) V1];by_cases k:d=0
    .rw[zE k]at b;rw[Zg];exact .inr ⟨_,rfl, .inl ⟨rfl,b.symm⟩⟩
    rw[zF k]at b;rw[Zh];exact .inl ⟨_,rfl,⟨i+1,d-1,c,V1,by rw[show((d-1:Nat):Int)=(d:Int)-1 by omega];rfl,b⟩,by simp;omega⟩
   rw[zF o]at b;by_cases j:x.1=7
   .rw[zE j]at b;rw[zE j];simp only[zG];rw[zF o,ae (n:=(d:Int)+1) V1,ae (n:=(i:Int)+1) V1,Zh];exact .inl ⟨_,rfl,⟨i+1,d+1,c,V1,rfl,b⟩,by simp;omega⟩
   rw[zF j]at b;rw[zF j];simp only[zG];rw[zF o,ae (n:=(i:Int)+1) V1,Zh];exact .inl ⟨_,rfl,⟨i+1,d,c,V1,rfl,b⟩,by simp;omega⟩
  have:i=l.length:=by omega
  subst this;rw[cX]at b;rw[Zh]
  exact .inr ⟨_,rfl, .inr ⟨d,rfl,b.symm⟩⟩)
 rw[r];rcases h with⟨rfl,h⟩|⟨d,rfl,h⟩
 .rw[h];rfl
 rw[h];show O (Zc<|(d:Int)=0)=O (Zc<|O d=O 0)
 congr 1
 rw[decide_eq_decide];constructor
 .intro e;have:d=0:=by omega
  rw[this]
 intro e;injection e with e;omega
def EQ : ∀(n:Nat) (s:List bx) (d:Nat),hW s<=n->bu s (d+1)=O 0->∃inner e rest,s=inner++e::rest/\e.1=0/\bu inner 0=O 0/\bu rest d=O 0
 |n,[],d,_,h=>by
  injection h with h
  omega
 |0,o::s,d,f,_=>by simp at f
 |n+1,o::s,d,f,h=>by
  simp only[cD]at f;simp only[bu]at h;split at h
  .cases h
  rename_i B;split at h
  .rename_i j;rw[Zh]at h;exact⟨[],o,s,rfl,j,rfl,h⟩
  rename_i j;split at h
  .rename_i r;have⟨p,b,q,k,u,y,z⟩:=EQ n s (d+1) V1 h;have c:hW q<=n:=by rw[k]at f;simp at f;omega
   have⟨A,C,J,D,E,F,I⟩:=EQ n q d c z;refine⟨o::p++b::A,C,J, ?_,E, ?_,I⟩
   .rw[k,D];simp
   .show bu (o::(p++b::A)) 0=_;simp only[bu];rw[zF B,zF j,zE r,sL,Kd _ _ _ y];show bu (b::A) 1=_;simp only[bu];rw[Zh,zE u,Zh];exact F
  .rename_i r;have⟨p,b,q,k,u,y,z⟩:=EQ n s d V1 h;refine⟨o::p,b,q,by rw[k];rfl,u, ?_,z⟩;simp only[bu];rw[zF B,zF j,zF r];exact y
def Aj {s u E F:List bx}{e1 y:bx}(h:s++e1::E=u++y::F)(z:bu s 0=O 0)(A:bu u 0=O 0)(p:e1.1=0)(r:y.1=0):s=u:=by
 have k: ∀{a b:List bx} {e:bx} {x:List bx},a++e::x=b->e.1=0->bu a 0=O 0->bu b 0=O 0->False:=by
  intro a b e x o D C f;rw[<-o,sL,C]at f;have f:bu (e::x) 0=O 0:=f;simp only[bu]at f;rw[Zh,zE D,zE trivial]at f;cases f
 rcases List.append_eq_append_iff.1 h with⟨j,d,c⟩|⟨j,d,c⟩
 .cases j with
  |nil=>rw[dF]at d;exact d.symm
  |cons q j=>
   rw[cO]at c;injection c with c B
   subst c;exact(k d.symm p z A).elim
 cases j with
 |nil=>rw[dF]at d;exact d
 |cons q j=>
  rw[cO]at c;injection c with c B
  subst c;exact(k d.symm r A z).elim
def N4 {l:List bx}(h:bu l 0=O 0)(hi:i<=hW l): ∃d,bu (l.take i) 0=O d/\bu (l.drop i) d=O 0:=by
 rw[<-dO i l,sL]at h;have⟨d,b,c⟩:=ai h;exact⟨d,b,c⟩
def UX {l:List bx}(h:bu l 0=O 0)(hi:i<hW l)(k:l[i].1=7): ∃inner e rest,l.drop (i+1)=inner++e::rest/\e.1=0/\bu inner 0=O 0:=by
 have⟨d,_,b⟩:=N4 h (i:=i) V1;rw[(cT hi).symm]at b;simp only[bu]at b;rw[Zh,Zh,zE k]at b;have⟨inner,e,rest,c,f,j,_⟩:=EQ _ _ d (aB _) b;exact⟨inner,e,rest,c,f,j⟩
structure MOK (l:List bx)(m:Zd):Prop where
 len:hW m=hW l
 at': ∀i,(hi:i<hW l)->l[i].1=7->∀inner e rest,l.drop (i+1)=inner++e::rest->e.1=0->bu inner 0=O 0->m[i]?=O ((i+1+hW inner:Nat):Int)
def aU7 {l:List bx}(M:l.length<=100000)(hi:i<l.length){inner rest:List bx}{e:bx}(h:l.drop (i+1)=inner++e::rest)(I:e.1=0)(E:bu inner 0=O 0):am (nB l) co (1,(i:Int))=O ((i+1+inner.length:Nat):Int):=by
 have D:l.length=i+1+inner.length+1+rest.length:=by
  have:=congrArg cZ h;rw[dK]at this;simp at this;omega
 have r: ∀j,j<inner.length+1->∃x,rd l ((i+1+j:Nat):Int)=O x/\(inner++e::rest)[j]?=O x:=by
  intro j q;have s:i+1+j<l.length:=by omega
  refine⟨l[i+1+j],bt s, ?_⟩;rw[<-h,dJ,aD s]
 have u: ∀j,j<=inner.length->∃d,bu (inner.take j) 0=O d:=by
  intro j q;obtain⟨d,b,_⟩:=N4 E q;exact⟨d,b⟩
 let c:Nat->Nat:=λj=>(bu (inner.take j) 0).getD 0
 have o: ∀j,j<=inner.length->bu (inner.take j) 0=O (c j):=by
  intro j q;obtain⟨d,F⟩:=u j q;show _=O ((bu (inner.take j) 0).getD 0);rw[F];rfl
 have A: ∀j,c j<=j∨inner.length<j:=by
  intro j;induction j with
  |zero=>exact .inl (aB _)
  |succ j N=>
   by_cases q:j+1<=inner.length
   .left;have b:=o (j+1) q;rw[eE (show j<inner.length by omega),sL,o j V1]at b;have b:bu [inner[j]] (c j)=O (c<|j+1):=b;simp only[bu]at b;split at b
    .cases b
    split at b
    .split at b
     .cases b
     injection b with b;omega
    split at b
    .injection b with b;omega
    injection b with b;omega
   right;omega
 refine ID (f:=nB l) (n:=inner.length+1) (λj=>if j<=inner.length then((1+c j:Nat),((i+j:Nat):Int))else(0,((i+1+inner.length:Nat):Int))) V1 (λj q=> ?_) ?_
 .have L:=A j;rw[zE (show j<=inner.length by omega)];obtain⟨x,B,k⟩:=r j V1;simp only[nB,ah];rw[Zg,ae (n:=((i+j:Nat):Int)+1) V1,show((i+j:Nat):Int)+1=((i+1+j:Nat):Int)by omega,B];simp only[zG];by_cases p:j<inner.length
  .rw[List.getElem?_append_left p,aD p]at k;injection k with k
   have b:=o (j+1) p;rw[eE p,sL,o j V1]at b;have b:bu [inner[j]] (c j)=O (c<|j+1):=b;rw[k]at b;simp only[bu]at b;rw[zE (show j+1<=inner.length by omega)];split at b
   .cases b
   split at b
   .rename_i K y;split at b
    .cases b
    injection b with b
    rw[Zh,zE y,Zi]
    congr 3<;>omega
   rename_i K y;split at b
   .rename_i C;injection b with b
    rw[zE C,zF y,Zi]
    congr 3<;>omega
   rename_i C;injection b with b
   rw[zF C,zF y]
   congr 3<;>omega
  have z:j=inner.length:=by omega
  subst z;rw[cL<|aB _,bD]at k;injection k with k
  subst k
  have J:c inner.length=0:=by
   have:=o inner.length<|aB _;rw[List.take_length,E]at this;injection this with this
   exact this.symm
  rw[Zh,zE I,zF (show¬inner.length+1<=inner.length by omega),J,Zi];rfl
 rw[Zh];simp only[nB,ah];rw[Zh]
def GJ {l:List bx}(K:hW l<=100000):(bu l 0=O 0/\∃m,jr l=O (0,m)/\MOK l m)∨(bu l 0≠O 0/\jr l=O (6,[])):=by
 unfold jr;rw[II K,zG];by_cases z:bu l 0=O 0
 .left;refine⟨z, ?_⟩;rw[zB z];simp only[dA,zD]
  have W:am (nA l) co (0,[])=O (bB (hW l)<|-1):=by
   have h:=cn (f:=nA l) (n:=hW l) (λi=>bB i (-1:Int)) (c:=bB (hW l)<|-1) V1 ?_ ?_
   .exact h
   .intro i hi;simp only[nA,ah];rw[Zg,bg V3 V1,Zi,eQ];rfl
   simp only[nA,ah];rw[Zh]
  rw[W,zG]
  have⟨c,X,h⟩:=lj (f:=wu l) (a:=((0:Int),bB (hW l) (-1:Int))) (λs=> ∃(i:Nat) (out:Zd),i<=hW l/\s=((i:Int),out)/\hW out=hW l/\∀j,j<i->(y:j<hW l)->l[j].1=7->∀b e o,l.drop (j+1)=b++e::o->e.1=0->bu b 0=O 0->out[j]?=O ((j+1+hW b:Nat):Int)) (λs=>hW l-hX s.1)
   (λc=>MOK l c) ⟨0,_,cU _,rfl,V2,λj y=>by omega⟩ V3 (by
   rintro _ ⟨i,out,hi,rfl,I,k⟩;simp only[wu,ah];by_cases c:i<hW l
   .rw[Zg,bt c,zG];by_cases C:l[i].1=7
    .obtain⟨b,e,o,A,D,J⟩:=UX z c C
     have L:hW l=i+1+hW b+1+hW o:=by
      have:=congrArg cZ A;rw[dK]at this;simp at this;omega
     rw[zF (by simp[C]),aU7 K c A D J,zG,bn (show i<(hW out) by omega),zG,aD (show i<(hW out) by omega),zG,bn (show i+1+hW b<(hW<|out.set i ((i+1+hW b:Nat):Int)) by simp;omega),zG,aD (show i+1+hW b<(hW<|out.set i ((i+1+hW b:Nat):Int)) by simp;omega),zG,ae (n:=(i:Int)+1) V1];refine .inl ⟨_,rfl,⟨i+1,_,c,rfl,by simp[I],λj y r d q T u M N Q=> ?_⟩,by simp;omega⟩
     have E:l[i+1+hW b].1=0:=by
      have B:(l.drop<|i+1)[hW b]?=O e:=by
       rw[A,cL<|aB _,bD];rfl
      rw[dJ,aD (show i+1+hW b<(hW l) by omega)]at B;injection B with B
      rw[B];exact D
     have F:i+1+hW b≠j:=by
      intro V;subst V;rw[E]at d;cases d
     rw[cB F];by_cases p:i=j
     .subst p;have:=Aj (A.symm.trans M) J Q D N;subst this;rw[cY V1]
     rw[cB p];exact k j V1 r d q T u M N Q
    rw[zE C,ae (n:=(i:Int)+1) V1];refine .inl ⟨_,rfl,⟨i+1,out,c,rfl,I,λj y r d=> ?_⟩,by simp;omega⟩;by_cases p:j=i
    .subst p;exact(C d).elim
    exact k j V1 r d
   have:i=hW l:=by omega
   subst this;rw[Zh]
   exact .inr ⟨_,rfl,I,λj y d=>k j y y d⟩)
  rw[X];exact⟨c,rfl,h⟩
 right;refine⟨z, ?_⟩;rw[zA z];rfl
def ab1 {α β:Type}{f:α->β}(c: ∀a b,f a=f b->a=b){x y:Option α}(h:x.map f=y.map f):x=y:=by
 cases x with
 |none=>cases y with
  |none=>rfl
  |some b=>cases h
 |some a=>cases y with
  |none=>cases h
  |some b=>
   injection h with h
   rw[c _ _ h]
def VU (v c:Int)(base:List<|Int×Int): ∀a b:Int,(v,c+a)::base=(v,c+b)::base->a=b:=by
 intro a b h;injection h with h
 injection h with _ h
 omega
def QF {o:bx}{s:List bx}(h:bu (o::s) 0=O 0)(d:o.1≠7):bu s 0=O 0/\(0<o.1/\o.1<7)/\Q9 (o::s)=(Q9 s).map (1+ ·):=by
 have c:=In h 0 0 [];simp only[bu]at h;split at h
 .cases h
 rename_i e;split at h
 .rw[zE trivial]at h;cases h
 rename_i b;refine⟨h,V1,ab1 (VU 0 0 []) ?_⟩;rw[<-c];simp only[tE];rw[zF d,zF b,In h];cases Q9 s with
 |none=>rfl
 |some m=>
  show O [((0:Int),0+1+m)]=O [((0:Int),0+(1+m))];rw[cQ]
def R3 {o e:bx}{inner rest:List bx}(h:bu (o::(inner++e::rest)) 0=O 0)(d:o.1=7)(c:e.1=0)(hi:bu inner 0=O 0):
  bu rest 0=O 0/\Q9 (o::(inner++e::rest))=im (Q9 inner) λw=>im (BM w o.2.2.2.2) λb=>(Q9 rest).map (b+ ·):=by
 have f:=In h 0 0 [];simp only[bu]at h;rw[Zh,Zh,zE d,sL,Kd _ _ _ hi]at h;have h:bu (e::rest) 1=O 0:=h;simp only[bu]at h;rw[Zh,zE c,Zh]at h;have h:bu rest 0=O 0:=h;refine⟨h,ab1 (VU 0 0 []) ?_⟩;rw[<-f];simp only[tE];rw[zE d,Dz,In hi];cases Q9 inner with
 |none=>rfl
 |some w=>
  show tE (e::rest) [(o.2.2.2.2,0+w),(0,0)]=_;simp only[tE];rw[Zh,zE c,cN,zG];cases BM w o.2.2.2.2 with
  |none=>rfl
  |some b=>
   simp only[zG];rw[In h];cases Q9 rest with
   |none=>rfl
   |some m=>
    show O [((0:Int),0+b+m)]=O [((0:Int),0+(b+m))];rw[cQ]
def Yb {k:Int}(h:0<k/\k<7): ∃x,gH k=O (Za,x):=by
 have:k=1∨k=2∨k=3∨k=4∨k=5∨k=6:=by omega
 rcases this with rfl|rfl|rfl|rfl|rfl|rfl<;>exact⟨_,rfl⟩
def IN (t:Int):Int:=if 65536<t then 65537 else t
def ai4 (w v:Int):Int:=if IN w=0 then 0 else if v=0 then 0 else if 65536<v then 65537 else if 65536<IN w*v then 65537 else IN w*v
def Jw {b:Int}(o:0<=w)(u:0<=v)(h:BM w v=O b):ai4 w v=b/\w<=65536:=by
 unfold BM at h;unfold ai4;split at h
 .rename_i c;cases h;subst c;exact⟨by rw[zE (show IN 0=0 from rfl)],V1⟩
 split at h
 .cases h
 split at h
 .cases h
 rename_i c e p;injection h with h
 have j:IN w=w:=zF e;rw[j,zF c];have s:65536 / w<=65536:=dT _ V1;have f:v<=65536 / w:=by omega
 have q:=dE f o;have r:=dV (x:=65536) (k:=w) c;refine⟨?_,V1⟩;by_cases d:v=0
 .rw[zE d,<-h,d,Int.mul_zero]
 rw[zF d,Zh,Zh,h]
def aw3 (k:0<=w)(p:0<=v)(h:BM w v=Y):65536<w∨ai4 w v=65537:=by
 unfold BM at h;split at h
 .cases h
 rename_i e;split at h
 .rename_i c;exact .inl c
 rename_i c;split at h
 .rename_i f;right;unfold ai4;have j:IN w=w:=zF c;have b:=Int.lt_mul_of_ediv_lt (show 0<w by omega) f;rw[dD]at b;have o:0<=65536 / w:=dU V1 k;rw[j,zF e,Zh];by_cases d:65536<v
  .rw[zE d]
  rw[zF d,zE b]
 cases h
def WOK (l:List bx)(m:Zd)(N:Nat):Prop:= ∀f,2*N<f->∀A seg B,l=A++seg++B->hW seg<N->bu seg 0=O 0->
 ∃r,(cf f).1 l m (hW A:Int) ((hW A+hW seg:Nat):Int)=O r/\0<=r/\r<=65537/\∀t,Q9 seg=O t->r=IN t
section
variable {l:List bx} {m:Zd}
def UY (hl:l.length<=2000)(K: ∀o∈l,0<=o.2.2.2.2/\o.2.2.2.2<=18446744073709551615)(A:MOK l m){N:Nat}(h:WOK l m N){f:Nat}(X:2*N+1<f)(hi:i<l.length)(J:l[i].1=7){inner rest:List bx}{e:bx}(p:l.drop (i+1)=inner++e::rest)(I:e.1=0)(B:bu inner 0=O 0)(F:inner.length<N):
  ∃r,(cf f).2 l m (i:Int)=O r/\0<=r/\r<=65537/\∀w,Q9 inner=O w->r=ai4 w l[i].2.2.2.2:=by
 obtain⟨g,rfl⟩: ∃g,f=g+1:=⟨f-1,V1⟩
 have z:l.length=i+1+inner.length+1+rest.length:=by
  have:=congrArg cZ p;rw[dK]at this;simp at this;omega
 have q:=A.at' i hi J inner e rest p I B
 have b:l=l.take (i+1)++inner++e::rest:=by
  rw[cK,<-p,dO]
 have E:(l.take<|i+1).length=i+1:=by rw[eA];omega
 obtain⟨d,u,y,C,D⟩:=h g V1 (l.take<|i+1) inner (e::rest) b F B;rw[E]at u
 have s:rd m (i:Int)=O ((i+1+inner.length:Nat):Int):=by
  have j:i<m.length:=by rw[A.len];exact hi
  rw[bt j,<-q,aD j]
 have c:=K _<|cP hi;show∃r,Ci ((cf g).1) ((cf g).2) l m i=O r/\_
 unfold Ci;rw[s];simp only[zG];rw[ae (n:=(i:Int)+1) V1,show(i:Int)+1=((i+1:Nat):Int)by omega,u];simp only[zG,ah];rw[bt hi];simp only[zG];generalize l[i].2.2.2.2=v at*
 have k:(if d=0 then O 0 else if v=0 then O 0 else if 65536<v then O 65537 else if 65536<IntKind.i64.wrap (d*zH zI v)then O 65537 else O<|zH zI<|d*zH zI v)=
   O (if d=0 then 0 else if v=0 then 0 else if 65536<v then 65537 else if 65536<d*v then 65537 else d*v):=by
  split
  .rfl
  split
  .rfl
  split
  .rfl
  rename_i M Q T;have V:=Int.mul_le_mul C (show v<=65536 by omega) c.1 V1;have W:=cW y c.1;rw[ae (n:=v) V1,Zi];split<;>rfl
 rw[k];refine⟨_,rfl, ?_, ?_,λw L=> ?_⟩
 .split
  .omega
  split
  .omega
  split
  .omega
  split
  .omega
  .exact cW y c.1
 .split
  .omega
  split
  .omega
  split
  .omega
  split<;>omega
 .rw[D w L];rfl
def G0 (hl:l.length<=2000)(E: ∀o∈l,0<=o.2.2.2.2/\o.2.2.2.2<=18446744073709551615)(X:MOK l m){N:Nat}(h:WOK l m N){g:Nat}(hg:2*N+1<g)(hi:Nat): ∀(k:Nat) (pre seg B:List bx) (n:Int) (F:Nat),l=pre++seg++B->seg.length<=k->seg.length<=N->seg.length<F->bu seg 0=O 0->hi=pre.length+seg.length->0<=n/\n<=65536->
  ∃c,am (qh ((cf g).2) l m hi) F ((pre.length:Int),n)=O c/\(c= .inl ()∨∃r,c= .inr r/\0<=r/\r<=65536)/\∀t,Q9 seg=O t->c=if 65536<n+t then .inl ()else .inr (n+t)
 |k,pre,[],B,n,0,_,_,_,z,_,_,_=>by simp at z
 |k,pre,[],B,n,F+1,d,_,_,_,M,hh,hn=>by
  refine⟨.inr n, ?_, .inr ⟨n,rfl,hn⟩,λt j=> ?_⟩
  .rw[bi];simp only[qh,ah];rw[zF (by simp at hh;omega)];rfl
  .injection j with j
   subst j;rw[dB,Zh]
 |0,pre,o::seg,B,n,F,_,hk,_,_,_,_,_=>by simp at hk
 |k+1,pre,o::seg,B,n,0,_,_,_,z,_,_,_=>by simp at z
 |k+1,pre,o::seg,B,n,F+1,d,hk,hN,z,M,hh,hn=>by
  simp only[cD]at hk hN z hh;have W:l.length=pre.length+(seg.length+1)+B.length:=by rw[d];simp;omega
  have A:pre.length<l.length:=by omega
  have s:l[pre.length]=o:=by
   have:l[pre.length]?=O o:=by
    rw[d,cK,cL<|aB _,bD];rfl
   rw[aD A]at this;injection this
  have hov:0<=o.2.2.2.2/\o.2.2.2.2<=18446744073709551615:=by rw[<-s];exact E _ (cP A)
  rw[bi];simp only[qh,ah];rw[Zg,bt A,s];simp only[zG];by_cases u:o.1=7
  .
   rw[zE u]
   have hs1:bu seg 1=O 0:=by
    simp only[bu]at M;rw[Zh,Zh,zE u]at M;exact M
   obtain⟨f,e,q,h1,h2,T,h4⟩:=EQ _ seg 0 (aB _) hs1;subst h1;simp only[cM,cD]at hk hN z hh W
   have hd:l.drop (pre.length+1)=f++e::(q++B):=by
    rw[d,cK,dG,dH V1,show pre.length+1-pre.length=1 by omega];simp
   obtain⟨r9,b1,b2,b3,b4⟩:=UY hl E X h hg A (by rw[s];exact u) hd h2 T V1;rw[s]at b4;rw[b1];simp only[zG];have hmi:=X.at' pre.length A (by rw[s];exact u) f e (q++B) hd h2 T
   have hrd:rd m (pre.length:Int)=O ((pre.length+1+f.length:Nat):Int):=by
    have D:pre.length<m.length:=by rw[X.len];exact A
    rw[bt D,<-hmi,aD D]
   rw[hrd];simp only[zG];rw[ae (n:=n+r9) V1,ae (n:=((pre.length+1+f.length:Nat):Int)+1) V1];obtain⟨C,V⟩:=R3 M u h2 T;by_cases L:65536<n+r9
   .rw[zE L];refine⟨.inl (),rfl, .inl rfl,λt j=> ?_⟩;rw[V]at j;obtain⟨w,hw,j⟩:=ai j;obtain⟨b,hb,j⟩:=ai j;have I:=LN (l:=f) (λJ y=>(E J fq).1) T hw;obtain⟨e1,_⟩:=Jw I hov.1 hb;rw[b4 w hw,e1]at L;cases p:Q9 q with
    |none=>rw[p]at j;cases j
    |some K=>
     rw[p]at j;injection j with j
     have j:b+K=t:=j;have:=LN (l:=q) (λJ y=>(E J fq).1) C p;rw[Zg]
   .rw[zF L];simp only[zG,be];have hp:(pre++o::(f++[e])).length=pre.length+1+f.length+1:=by simp;omega
    obtain⟨c,Q,d2,d3⟩:=G0 hl E X h hg hi k (pre++o::(f++[e])) q B (n+r9) F ek V1 V1 V1 C (by rw[hp];omega) V1;rw[hp]at Q;refine⟨c,by rw[show((pre.length+1+f.length:Nat):Int)+1=((pre.length+1+f.length+1:Nat):Int)by omega];exact Q,d2,λt j=> ?_⟩;rw[V]at j;obtain⟨w,hw,j⟩:=ai j;obtain⟨b,hb,j⟩:=ai j;have I:=LN (l:=f) (λJ y=>(E J fq).1) T hw;obtain⟨e1,_⟩:=Jw I hov.1 hb;have hr9:r9=b:=by rw[b4 w hw,e1]
    cases p:Q9 q with
    |none=>rw[p]at j;cases j
    |some K=>
     rw[p]at j;injection j with j
     have:=d3 K p;rw[this,<-j,hr9,cQ]
  .rw[zF u];obtain⟨C,hko,V⟩:=QF M u;obtain⟨x,hx⟩:=Yb hko;rw[hx];simp only[zG,zC];rw[ae (n:=n+1) V1,ae (n:=(pre.length:Int)+1) V1];by_cases L:65536<n+1
   .rw[zE L];refine⟨.inl (),rfl, .inl rfl,λt j=> ?_⟩;rw[V]at j;cases p:Q9 seg with
    |none=>rw[p]at j;cases j
    |some K=>
     rw[p]at j;injection j with j
     have j:1+K=t:=j;have:=LN (l:=seg) (λJ y=>(E J fq).1) C p;rw[Zg]
   .rw[zF L];simp only[zG,be];have hp:(pre++[o]).length=pre.length+1:=by simp
    obtain⟨c,Q,d2,d3⟩:=G0 hl E X h hg hi k (pre++[o]) seg B (n+1) F ek V1 V1 V1 C (by rw[hp];omega) V1;rw[hp]at Q;refine⟨c,Q,d2,λt j=> ?_⟩;rw[V]at j;cases p:Q9 seg with
    |none=>rw[p]at j;cases j
    |some K=>
     rw[p]at j;injection j with j
     rw[d3 K p,<-j,cQ]
def wok (j:hW l<=2000)(p: ∀o∈l,0<=o.2.2.2.2/\o.2.2.2.2<=18446744073709551615)(k:MOK l m): ∀N,WOK l m N
 |0=>λ_ _ _ _ _ _ h=>absurd h (Nat.not_lt_zero _)
 |N+1=>λf E A seg B b D y=>by
  obtain⟨g,rfl⟩: ∃g,f=g+1:=⟨f-1,V1⟩
  show∃r,AD ((cf g).1) ((cf g).2) l m _ _=O r/\_
  unfold AD
  have z:hW seg<=2000:=by
   have:=congrArg cZ b;simp at this;omega
  have⟨c,q,s,e⟩:=G0 j p k (wok j p k N) (g:=g) V1 (hW A+hW seg) _ A seg B 0 co b (aB _) V1 (by unfold co;omega) y rfl V1;rw[q,zG];rcases s with rfl|⟨r,rfl,u,C⟩
  .refine⟨65537,rfl,V1,V1,λt d=> ?_⟩;have:=e t d;rw[cN]at this;unfold IN;split at this
   .rename_i c;rw[zE c]
   .cases this
  .refine⟨r,rfl,u,V1,λt d=> ?_⟩;have:=e t d;rw[cN]at this;unfold IN;split at this
   .cases this
   .rename_i c;injection this with this
    rw[zF c,this]
end
def VA {δ:Type}{f:Int->Option (Int⊕δ)}(n:Nat)(z:n<9223372036854775808)(b:Nat->Prop)(c e:δ)
  (s: ∀i:Nat,i<n->¬b i->f (i:Int)=O (.inl ((i+1:Nat):Int))) (A: ∀i:Nat,i<n->b i->f (i:Int)=O (.inr c)) (y:f (n:Int)=O (.inr e)):
  (∃i,i<n/\b i/\(∀j,j<i->¬b j)/\am f co 0=O c)∨((∀j,j<n->¬b j)/\am f co 0=O e):=by
 by_cases h: ∃i,i<n/\b i
 .obtain⟨i,k,o⟩:=h
  have q: ∃i,i<n/\b i/\∀j,j<i->¬b j:=by
   induction i using Nat.strongRecOn with
   |ind i B=>
    by_cases d: ∃j,j<i/\b j
    .obtain⟨j,p,u⟩:=d;exact B j p V1 u
    .exact⟨i,k,o,λj h p=>d ⟨j,h,p⟩⟩
  have⟨i,k,o,p⟩:=q;exact .inl ⟨i,k,o,p,nO (n:=i) V1 (λj d=>s j V1<|p j d)<|A i k o⟩
 .have r: ∀j,j<n->¬b j:=λj k o=>h ⟨j,k,o⟩
  exact .inr ⟨r,nO (n:=n) z (λj d=>s j d<|r j d) y⟩
def aP5 {seg pre inner rest:List bx}{o e:bx}{t:Int}(f:Q9 seg=O t)(s:seg=pre++o::(inner++e::rest))(r:o.1=7)(q:e.1=0)(hi:bu inner 0=O 0):
  ∃w b,Q9 inner=O w/\BM w o.2.2.2.2=O b:=by
 unfold Q9 at f;rw[s,Dz]at f;have⟨st,k,u⟩:=ai f;have⟨d,y,c⟩:=ai k;cases d with
 |nil=>simp[tE]at c
 |cons p d=>
  simp only[tE]at c;rw[zE r,Dz,In hi]at c;cases j:Q9 inner with
  |none=>rw[j]at c;cases c
  |some w=>
   rw[j]at c;have c:tE (e::rest) ((o.2.2.2.2,0+w)::(p.1,p.2)::d)=O st:=c;simp only[tE]at c;rw[Zh,zE q,cN]at c;cases h:BM w o.2.2.2.2 with
   |none=>rw[h]at c;cases c
   |some b=>exact⟨w,b,rfl,h⟩
def SZ : ∀(n:Nat) (seg:List bx),hW seg<=n->bu seg 0=O 0->Q9 seg=Y->∃pre o inner e rest w,seg=pre++o::(inner++e::rest)/\o.1=7/\e.1=0/\bu inner 0=O 0/\Q9 inner=O w/\BM w o.2.2.2.2=Y
 |n,[],_,_,c=>by cases c
 |0,o::s,h,_,_=>by simp at h
 |n+1,o::s,J,k,c=>by
  simp only[cD]at J;by_cases z:o.1=7
  .have C:bu s 1=O 0:=by
    simp only[bu]at k;rw[Zh,Zh,zE z]at k;exact k
   have⟨inner,e,rest,K,F,A,L⟩:=EQ _ s 0 (aB _) C;subst K;simp only[cM,cD]at J;have⟨d,B⟩:=R3 k z F A;rw[B]at c;cases D:Q9 inner with
   |none=>
    have⟨pre,q,p,f,y,w,r,u⟩:=SZ n inner V1 A D;exact⟨o::pre,q,p,f,y++e::rest,w,by rw[r];simp,u⟩
   |some w=>
    rw[D]at c;simp only[zG]at c;cases I:BM w o.2.2.2.2 with
    |none=>exact⟨[],o,inner,e,rest,w,rfl,z,F,A,D,I⟩
    |some b=>
     rw[I]at c;simp only[zG]at c;cases j:Q9 rest with
     |some t=>rw[j]at c;cases c
     |none=>
      have⟨pre,q,p,f,y,E,r,u⟩:=SZ n rest V1 d j;exact⟨o::(inner++e::pre),q,p,f,y,E,by rw[r];simp,u⟩
  .obtain⟨d,_,B⟩:=QF k z;rw[B]at c;cases j:Q9 s with
   |some t=>rw[j]at c;cases c
   |none=>
    have⟨pre,q,p,f,y,E,r,u⟩:=SZ n s V1 d j;exact⟨o::pre,q,p,f,y,E,by rw[r];rfl,u⟩
section
variable {l:List bx} {m:Zd}
def Et (J:hW l<=1500)(q: ∀o∈l,0<=o.2.2.2.2/\o.2.2.2.2<=18446744073709551615)(j:MOK l m)(D:bu l 0=O 0)(hi:i<hW l)(p:l[i].1=7):
  ∃inner e rest b w r,l.drop (i+1)=inner++e::rest/\e.1=0/\bu inner 0=O 0/\m[i]?=O r/\r=((i+1+hW inner:Nat):Int)/\mM l m (i:Int)=O b/\nC l m ((i+1:Nat):Int) r=O w/\0<=b/\0<=w/\
   ∀t,Q9 inner=O t->b=ai4 t l[i].2.2.2.2/\w=IN t:=by
 have⟨inner,e,rest,h,k,c⟩:=UX D hi p
 have s:hW l=i+1+hW inner+1+hW rest:=by
  have:=congrArg cZ h;rw[dK]at this;simp at this;omega
 have d:l=l.take (i+1)++inner++e::rest:=by
  rw[cK,<-h,dO]
 have C:hW (l.take<|i+1)=i+1:=by rw[eA];omega
 have⟨b,z,A,I,B⟩:=UY V1 q j (wok V1 q j 1501) (f:=4000) V1 hi p h k c V1;have⟨w,y,E,K,F⟩:=wok V1 q j 1501 4000 V1 (l.take<|i+1) inner (e::rest) d V1 c;rw[C]at y;exact⟨inner,e,rest,b,w,_,h,k,c,j.at' i hi p inner e rest h k c,rfl,z,y,A,E,λt u=>⟨B t u,F t u⟩⟩
def Ye (X:hW l<=1500)(y: ∀o∈l,0<=o.2.2.2.2/\o.2.2.2.2<=18446744073709551615)(F:MOK l m)(N:bu l 0=O 0):
  am (jO l (0,m)) co 0=O (match Q9 l with|some _=> .inr ()|none=> .inl ()):=by
 have I:=VA (f:=jO l (0,m)) (hW l) V1
  (λi=> ∃hi:i<hW l,l[i].1=7/\∃b w A,m[i]?=O A/\mM l m (i:Int)=O b/\nC l m ((i+1:Nat):Int) A=O w/\(65536<b∨65536<w)) (.inl ()) (.inr ())
  (λi hi hn=>by
   unfold jO;simp only[ah];rw[Zg,bt hi,zG];by_cases k:l[i].1=7
   .obtain⟨c,e,j,b,w,A,M,q2,q3,r,q5,u,D,q8⟩:=Et X y F N hi k;rw[zE k,u,zG,zF (λh=>hn ⟨hi,k,b,w,A,r,u,D, .inl h⟩),bn (show i<(hW m) by rw[F.len];exact hi),zG,r,zG,ae (n:=(i:Int)+1) V1,show(i:Int)+1=((i+1:Nat):Int)by omega,D,zG,zF<|λh=>hn ⟨hi,k,b,w,A,r,u,D, .inr h⟩]
   .rw[zF k,ae (n:=(i:Int)+1) V1]
    rfl)
  (λi _ hst=>by
   have⟨hi,k,b,w,A,r,u,D,q8⟩:=hst;unfold jO;simp only[ah];rw[Zg,bt hi,zG,zE k,u,zG];by_cases hb:65536<b
   .rw[zE hb]
   .rw[zF hb,bn (show i<(hW m) by rw[F.len];exact hi),zG,r,zG,ae (n:=(i:Int)+1) V1,show(i:Int)+1=((i+1:Nat):Int)by omega,D,zG]
    rw[Zg])
  (by
   unfold jO;simp only[ah]
   rw[Zh])
 cases hq:Q9 l with
 |some t=>
  rcases I with⟨i,h1,⟨hi,k,b,w,A,r,u,D,q8⟩,_⟩|⟨_,h⟩
  .exfalso;have⟨c,e,j,b',w',J,p1,p2,T,E,p5,K,L,p8,p9,C⟩:=Et X y F N hi k
   have d:l=l.take i++l[i]::(c++e::j):=by
    rw[<-p1,cT hi,dO]
   have⟨w0,b0,g1,g2⟩:=aP5 hq d k p2 T;have⟨V,W⟩:=C w0 g1;have q: ∀B∈c,0<=B.2.2.2.2:=λB z=>(y B (by rw[d];simp[z])).1
   have s:=LN q T g1;have⟨x1,x2⟩:=Jw s (y _<|cP hi).1 g2;have⟨x3,x4⟩:=Jt s (y _<|cP hi).1 g2;rw[r]at E;injection E with E
   rw[u]at K;injection K with K
   rw[<-E,D]at L;injection L with L
   have hs9:IN w0=w0:=zF V1;rw[hs9]at W;omega
  .exact h
 |none=>
  rcases I with⟨_,_,_,_,h⟩|⟨h,_⟩
  .exact h
  .exfalso;have⟨pre,o,c,e,j,w,M,q2,q3,r,q5,u⟩:=SZ _ l (aB _) N hq;have hi:hW pre<hW l:=by rw[M];simp
   have p:l[hW pre]=o:=by
    have:l[hW pre]?=O o:=by
     rw[M,cL<|aB _,bD];rfl
    rw[aD hi]at this;injection this
   have k:l[hW pre].1=7:=by rw[p];exact q2
   have hd:l.drop (hW pre+1)=c++e::j:=by
    rw[M,dG,dH V1,show hW pre+1-hW pre=1 by omega];simp
   have⟨Q,e',rest',b',w',J,p1,p2,T,E,p5,K,L,p8,p9,C⟩:=Et X y F N hi k;have:=Aj (hd.symm.trans p1) r T q3 p2;subst this;have⟨V,W⟩:=C w q5;have q: ∀B∈c,0<=B.2.2.2.2:=λB z=>(y B (by rw[M];simp[z])).1
   have s:=LN q r q5;rw[p]at V;have hov:0<=o.2.2.2.2:=by rw[<-p];exact(y _<|cP hi).1
   refine h _ hi ⟨hi,k,b',w',J,E,K,L, ?_⟩;rcases aw3 s hov u with x|x
   .right;rw[W];unfold IN;rw[zE x];omega
   .left;rw[V,x];omega
def Ag (p:hW l<=1500)(h: ∀o∈l,0<=o.2.2.2.2/\o.2.2.2.2<=18446744073709551615):kV l=O (eg l):=by
 unfold kV eg;rcases GJ (l:=l) V1 with⟨b,m,f,d⟩|⟨b,f⟩
 .rw[f,zE b,zG,zA V2,zD,Ye p h d b];cases k:Q9 l with
  |none=>rfl
  |some t=>
   have s:=LN (λo q=>(h o q).1) b k;simp only[zG,be];have⟨w,j,u,y,r⟩:=wok V1 h d 1501 4000 V1 [] l [] V2 V1 b
   have j:nC l m 0 (hW l:Int)=O w:=by
    rw[<-j];show _=(cf 4000).1 l m 0 ((0+hW l:Nat):Int);rw[cS];rfl
   rw[j];simp only[zG,ah];have e:=r t k;unfold IN at e;by_cases c:65536<t
   .rw[zE c]at e;rw[zE c,Zg]
   rw[zF c]at e;rw[zF c,Zh,e]
 rw[f,zF b];rfl
end
def Aq {α δ:Type}{f:Int->Option (Int⊕δ)}{l:List α}(p:α->Bool)(c:Nat->δ)(e:δ)(C:hW l<1000000)
  (q: ∀i,(hi:i<hW l)->f (i:Int)=O (if p l[i]then .inr (c i)else .inl ((i+1:Nat):Int))) (y:f (hW l:Int)=O (.inr e)):
  (l.any p=Za/\∃i:Nat,am f co 0=O (c i))∨(l.any p=Zb/\am f co 0=O e):=by
 by_cases h: ∃i,∃hi:i<hW l,p l[i]=Za
 .left
  have o: ∃i,(∃hi:i<hW l,p l[i]=Za)/\∀j,j<i->¬∃b:j<hW l,p l[j]=Za:=by
   have⟨i,hi⟩:=h;induction i using Nat.strongRecOn with
   |ind i B=>
    by_cases b: ∃j,j<i/\∃b:j<hW l,p l[j]=Za
    .obtain⟨j,k,u⟩:=b;exact B j k u
    .exact⟨i,hi,λj h k=>b ⟨j,h,k⟩⟩
  have⟨i,⟨hi,r⟩,s⟩:=o;refine⟨List.any_eq_true.2 ⟨l[i],cP hi,r⟩,i,nO (n:=i) V1 (λj b=> ?_) ?_⟩
  .rw[q j V1,zF<|λd=>s j b ⟨V1,d⟩]
  .rw[q i hi,zE r]
 .right;refine⟨?_,nO (n:=hW l) V1 (λj b=> ?_) y⟩
  .rw[Bool.eq_false_iff];intro z;have⟨x,A,d⟩:=List.any_eq_true.1 z;obtain⟨i,hi,rfl⟩:=List.getElem_of_mem A;exact h ⟨i,hi,d⟩
  .rw[q j b,zF<|λd=>h ⟨j,b,d⟩]
def bv (k:Int):Bool×Bool×Bool×Bool:=if k=1∨k=2∨k=3 then(Za,Za,Za,Zb)else if k=4∨k=6 then(Za,Za,Zb,Zb)else if k=5 then(Za,Zb,Zb,Za)else if k=7 then(Zb,Zb,Zb,Za)else(Zb,Zb,Zb,Zb)
def EI (k:Int):k=1∨k=2∨k=3∨k=4∨k=5∨k=6∨k=7∨(¬k=1/\¬k=2/\¬k=3/\¬k=4/\¬k=5/\¬k=6/\¬k=7):=by omega
def Lj (k:Int):qz k=O (bv k):=by
 rcases EI k with rfl|rfl|rfl|rfl|rfl|rfl|rfl|⟨b,c,d,e,f,h,j⟩
 any_goals rfl
 simp[qz,bv,b,c,d,e,f,h,j]
def CQ (k:Int):gH k=O (bv k):=by
 rcases EI k with rfl|rfl|rfl|rfl|rfl|rfl|rfl|⟨b,c,d,e,f,j,o⟩
 any_goals rfl
 by_cases h:1<=k
 .simp[gH,bv,b,c,d,e,f,j,o,h,show¬k<=3 by omega,be]
 simp[gH,bv,b,c,d,e,f,j,o,h,be]
def FH (n:Int)(q:Bool):Bool:=if q then Zc (0<=n/\n<=2147483647)else Zc<|n=0
def MQ (n:Int)(q:Bool):jN n q=O (FH n q):=by
 unfold jN FH;cases q
 .rfl
 by_cases h:0<=n<;>simp[h]
def wQ (o:bx):Bool:=Zc (0<=o.1/\o.1<8)&&(FH o.2.1 (bv o.1).1&&(FH o.2.2.1 (bv o.1).2.1&&(FH o.2.2.2.1 (bv o.1).2.2.1&&((bv o.1).2.2.2||Zc (o.2.2.2.2=0)))))
def TC (o:bx):uu o.1 o.2.1 o.2.2.1 o.2.2.2.1 o.2.2.2.2=O (wQ o):=by
 unfold uu AH wQ
 have j:(cond (Zc<|0<=o.1) (O<|Zc<|o.1<8)<|O Zb)=O (Zc<|0<=o.1/\o.1<8):=by
  by_cases h:0<=o.1<;>simp[h]
 rw[Lj,j];simp only[zG,MQ];generalize Zc (0<=o.1/\o.1<8)=b;generalize FH o.2.1 (bv o.1).1=c;generalize FH o.2.2.1 (bv o.1).2.1=d;generalize FH o.2.2.2.1 (bv o.1).2.2.1=e;generalize (bv o.1).2.2.2=f;cases b<;>cases c<;>cases d<;>cases e<;>cases f<;>rfl
def Wf (o:bx):w9 o.1 o.2.1 o.2.2.1 o.2.2.2.1 o.2.2.2.2=O (wQ o):=by
 unfold w9;simp only[ah];by_cases y:o.1<0
 .rw[zE y];unfold wQ;rw[zA (show¬(0<=o.1/\o.1<8)by omega)];rfl
 rw[zF y];by_cases z:7<o.1
 .rw[zE z];unfold wQ;rw[zA (show¬(0<=o.1/\o.1<8)by omega)];rfl
 rw[zF z,CQ,zG]
 have c:=Aq (f:=ri o.2.1 o.2.2.1 o.2.2.2.1<|bv o.1) (l:=[(o.2.1,(bv o.1).1),(o.2.2.1,(bv o.1).2.1),(o.2.2.2.1,(bv o.1).2.2.1)]) (λp=> !FH p.1 p.2) (λ_=> .inl Zb) (.inr ()) V2
  (λi hi=>by
   unfold ri;have hi:i<3:=hi;rw[ah,Zg,bn (show i<3 from hi),bn (show i<4 by omega)];simp only[zG,ah]
   have A:dI [o.2.1,o.2.2.1,o.2.2.2.1] i 0=([(o.2.1,(bv o.1).1),(o.2.2.1,(bv o.1).2.1),(o.2.2.2.1,(bv o.1).2.2.1)][i]).1:=by
    rcases(show i=0∨i=1∨i=2 by omega)with rfl|rfl|rfl<;>rfl
   have B:dI [(bv o.1).1,(bv o.1).2.1,(bv o.1).2.2.1,(bv o.1).2.2.2] i Zb=([(o.2.1,(bv o.1).1),(o.2.2.1,(bv o.1).2.1),(o.2.2.2.1,(bv o.1).2.2.1)][i]).2:=by
    rcases(show i=0∨i=1∨i=2 by omega)with rfl|rfl|rfl<;>rfl
   rw[A,B,ae (n:=(i:Int)+1) V1,show(i:Int)+1=((i+1:Nat):Int)by omega];generalize [(o.2.1,(bv o.1).1),(o.2.2.1,(bv o.1).2.1),(o.2.2.2.1,(bv o.1).2.2.1)][i]=x;have⟨n,q⟩:=x;simp only[FH];by_cases r:n<0
   .rw[zE r,zE];cases q
    .simp;omega
    simp;omega
   rw[zF r];by_cases s:2147483647<n
   .rw[zE s,zE];cases q
    .simp;omega
    simp;omega
   rw[zF s];cases q with
   |true=>
    rw[zB (show 0<=n/\n<=2147483647 by omega)];rfl
   |false=>
    by_cases u:n=0
    .subst u;rfl
    simp[u])
  (by
   unfold ri
   rw[ah,zF V2])
 unfold wQ;rw[zB (show 0<=o.1/\o.1<8 by omega)]
 have b:([(o.2.1,(bv o.1).1),(o.2.2.1,(bv o.1).2.1),(o.2.2.2.1,(bv o.1).2.2.1)].any λp=> !FH p.1 p.2)= !(FH o.2.1 (bv o.1).1&&(FH o.2.2.1 (bv o.1).2.1&&FH o.2.2.2.1 (bv o.1).2.2.1)):=by
  simp[List.any,Bool.not_and]
 rw[b]at c;generalize FH o.2.1 (bv o.1).1=d at*;generalize FH o.2.2.1 (bv o.1).2.1=e at*;generalize FH o.2.2.2.1 (bv o.1).2.2.1=j at*;rcases c with⟨h,_,k⟩|⟨h,k⟩
 .rw[k];cases d<;>cases e<;>cases j<;>first|rfl|cases h
 rw[k]
 have:d=Za/\e=Za/\j=Za:=by
  cases d<;>cases e<;>cases j<;>first|exact⟨rfl,rfl,rfl⟩|cases h
 obtain⟨rfl,rfl,rfl⟩:=this;simp only[zG,be];cases(bv o.1).2.2.2<;>rfl
def Eu (b:Bool)(e:Int):da b e=O (if b then e else 0):=by cases b<;>rfl
def JG (l:List bx):Bool:=Zc (bu l 0=O 0)&& !(l.any λo=> !wQ o)
def Iw {R:Int}{l:List bx}(e:hW l<=4096):ik R l=O (if JG l then 0 else 6):=by
 unfold ik;have⟨m,d⟩:=Bn (l:=l) V1;rw[d];simp only[zG,Eu];rw[Ze,zD,ah];unfold JG;by_cases b:bu l 0=O 0
 .rw[zE b,zF V2,zB b];unfold gX iP
  rcases Aq (f:=fK l) (l:=l) (λo=> !wQ o) (λi=> .inl (i:Int)) (.inr ()) V1 (λi hi=>by
   unfold fK;rw[ah,Zg,bt hi,zG];unfold oj;rw[TC,ae (n:=(i:Int)+1) V1,zG]
   cases wQ l[i]<;>rfl) (by
   unfold fK
   rw[ah,Zh])with⟨h,i,c⟩|⟨h,c⟩
  .rw[c,h];simp only[zG,be];rw[Zf];rfl
  rw[c,h];rfl
 rw[zF b,zE V2,zA b];rfl
def Yf {R:Int}{l:List bx}(c:hW l<=1500):zK R l=O (JG l):=by
 unfold zK JG;rw[Ze,zD,II V1,zG];cases Zc (bu l 0=O 0)with
 |false=>rfl
 |true=>
  rcases Aq (f:=sU l) (l:=l) (λo=> !wQ o) (λi=> .inl Zb) (.inr ()) V1 (λi hi=>by
   unfold sU;rw[ah,Zg,bt hi,zG,Wf,ae (n:=(i:Int)+1) V1,zG]
   cases wQ l[i]<;>rfl) (by
   unfold sU
   rw[ah,Zh])with⟨h,i,b⟩|⟨h,b⟩
  .rw[b,h];rfl
  rw[b,h];rfl
def Tz (R:Int)(o:bx):Bool:=((bv o.1).1&&Zc (R<=o.2.1))||((bv o.1).2.1&&Zc (R<=o.2.2.1))||((bv o.1).2.2.1&&Zc (R<=o.2.2.2.1))
def J9 (R:Int)(l:List bx):Bool:=Zc (1<=R/\R<=64)&& !l.any (Tz R)
def Pq (x y:Int):ca [x,y]=O [y,x]:=by kernel_rfl
def Wq (x:Int):ca [x]=O [x]:=by kernel_rfl
def Pp :ca []=O []:=by kernel_rfl
def TB (o:bx):ur o.1 o.2.1 o.2.2.1 o.2.2.2.1 o.2.2.2.2=O (if(bv o.1).2.1 then(if(bv o.1).2.2.1 then [o.2.2.1,o.2.2.2.1]else [o.2.2.1])else []):=by
 have⟨k,d,a,b,v⟩:=o;simp only;rcases EI k with rfl|rfl|rfl|rfl|rfl|rfl|rfl|⟨c,e,f,h,p,j,q⟩
 .exact(show _=(ca [b,a]).bind _ from rfl).trans (by rw[Pq];rfl)
 .exact(show _=(ca [b,a]).bind _ from rfl).trans (by rw[Pq];rfl)
 .exact(show _=(ca [b,a]).bind _ from rfl).trans (by rw[Pq];rfl)
 .exact(show _=(ca [a]).bind _ from rfl).trans (by rw[Wq];rfl)
 .exact(show _=(ca []).bind _ from rfl).trans (by rw[Pp];rfl)
 .exact(show _=(ca [a]).bind _ from rfl).trans (by rw[Wq];rfl)
 .exact(show _=(ca []).bind _ from rfl).trans (by rw[Pp];rfl)
 unfold ur;simp only[zA c,zA e,zA f,zA h,zA j,zD,zG,be,Pp];simp[bv,c,e,f,h,p,j,q]
def Ta (l:Zd)(R:Int)(p:List bx)(c:hW l<2000):fO l R p=O (l.any λn=>Zc<|R<=n):=by
 unfold fO kY
 rcases Aq (f:=gO l R p) (l:=l) (λn=>Zc<|R<=n) (λi=> .inl (i:Int)) (.inr ()) V1 (λi hi=>by
  unfold gO;rw[ah,Zg,bt hi,zG];unfold ju;rw[ae (n:=(i:Int)+1) V1,zG]
  cases Zc (R<=l[i])<;>rfl) (by
  unfold gO
  rw[ah,Zh])with⟨h,i,b⟩|⟨h,b⟩
 .rw[b,h];simp only[zG,be];rw[Zf]
 rw[b,h];rfl
def Wo (o:bx)(R:Int)(p:List bx):iA o.1 o.2.1 o.2.2.1 o.2.2.2.1 o.2.2.2.2 R p=O (Tz R o):=by
 unfold iA jX;rw[TB,Lj];unfold Tz;simp only[zG];have⟨k,d,a,b,v⟩:=o;simp only
 have s:(bv k).2.2.1=Za->(bv k).2.1=Za:=by
  unfold bv;split
  .intro _;rfl
  split
  .intro _;rfl
  split
  .intro h;cases h
  split<;>intro h<;>cases h
 have u:(bv k).2.1=Za->(bv k).1=Za:=by
  unfold bv;split
  .intro _;rfl
  split
  .intro _;rfl
  split
  .intro h;cases h
  split<;>intro h<;>cases h
 generalize (bv k).1=f at*;generalize (bv k).2.1=j at*;generalize (bv k).2.2.1=q at*
 have c: ∀l:Zd,hW l<2000->∀r,(l.any λn=>Zc<|R<=n)=r->(im (fO l R p) λe=>O e)=O r:=by
  intro l A r B;rw[Ta l R p A,B];rfl
 cases f<;>cases j<;>cases q<;>first
  |(cases u rfl)
  |(cases s rfl)
  |skip
 .refine c [] V2 _ ?_;generalize Zc (R<=d)=x;generalize Zc (R<=a)=y;generalize Zc (R<=b)=z;cases x<;>cases y<;>cases z<;>rfl
 .refine c [d] V2 _ ?_;simp only[dX,dY];generalize Zc (R<=d)=x;generalize Zc (R<=a)=y;generalize Zc (R<=b)=z;cases x<;>cases y<;>cases z<;>rfl
 .refine c [a,d] V2 _ ?_;simp only[dX,dY];generalize Zc (R<=d)=x;generalize Zc (R<=a)=y;generalize Zc (R<=b)=z;cases x<;>cases y<;>cases z<;>rfl
 .refine c [a,b,d] V2 _ ?_;simp only[dX,dY];generalize Zc (R<=d)=x;generalize Zc (R<=a)=y;generalize Zc (R<=b)=z;cases x<;>cases y<;>cases z<;>rfl
def yM {R:Int}{l:List bx}(e:hW l<=4096):fP R l=O (if J9 R l then 0 else 7):=by
 unfold fP J9;simp only[Eu,zG,ah];by_cases c:R<1
 .rw[zE c,zA (show¬(1<=R/\R<=64)by omega)];rfl
 rw[zF c];by_cases d:64<R
 .rw[zE d,zA (show¬(1<=R/\R<=64)by omega)];rfl
 rw[zF d,zB (show 1<=R/\R<=64 by omega)];unfold gI ib
 rcases Aq (f:=fA l R l) (l:=l) (Tz R) (λi=> .inl (i:Int)) (.inr ()) V1 (λi hi=>by
  unfold fA;rw[ah,Zg,bt hi,zG,Wo,ae (n:=(i:Int)+1) V1,zG]
  cases Tz R l[i]<;>rfl) (by
  unfold fA
  rw[ah,Zh])with⟨h,i,b⟩|⟨h,b⟩
 .rw[b,h];simp only[zG,be];rw[Zf];rfl
 rw[b,h];rfl
def MS {R:Int}{l:List bx}(k:hW l<=1500):qm R l=O (J9 R l):=by
 unfold qm J9;simp only[ah];by_cases c:R<1
 .rw[zE c,zA (show¬(1<=R/\R<=64)by omega)];rfl
 rw[zF c];by_cases d:64<R
 .rw[zE d,zA (show¬(1<=R/\R<=64)by omega)];rfl
 rw[zF d,zB (show 1<=R/\R<=64 by omega)]
 rcases Aq (f:=mt R l) (l:=l) (Tz R) (λi=> .inl Zb) (.inr ()) V1 (λi hi=>by
  unfold mt;rw[ah,Zg,bt hi,zG,CQ,ae (n:=(i:Int)+1) V1,zG];unfold Tz;generalize l[i]=o;generalize Zc (R<=o.2.1)=x;generalize Zc (R<=o.2.2.1)=y;generalize Zc (R<=o.2.2.2.1)=z;generalize (bv o.1).1=e;generalize (bv o.1).2.1=j;generalize (bv o.1).2.2.1=b3
  cases e<;>cases j<;>cases b3<;>cases x<;>cases y<;>cases z<;>rfl) (by
  unfold mt
  rw[ah,Zh])with⟨h,i,b⟩|⟨h,b⟩
 .rw[b,h];rfl
 rw[b,h];rfl
def hmax :List bx->Nat->Nat->Nat
 |[],_,m=>m
 |o::r,d,m=>if o.1=7 then hmax r (d+1) (max m<|d+1)else if o.1=0 then hmax r (d-1) m else hmax r d m
def be6 (l:List bx)(s:Int×Bool×Int×Zd):Prop:=
 ∃(i m:Nat) (st:Zd),i<=hW l/\s=((i:Int),Za,(m:Int),st)/\hW st<=i/\m<=i/\bu (l.drop i) (hW st)=bu l 0/\hmax (l.drop i) (hW st) m=hmax l 0 0
def aj2 {l:List bx}(A:hW l<=100000)(s:Int×Bool×Int×Zd)(h:be6 l s):
  (∃b,nv l s=O (.inl b)/\be6 l b/\hW l-hX b.1<hW l-hX s.1)∨∃c,nv l s=O (.inr c)/\((c.1=Zb/\bu l 0=Y)∨(c.1=Za/\bu l 0=O (hW c.2.2)/\c.2.1=(hmax l 0 0:Int))):=by
 obtain⟨i,m,st,hi,rfl,z,y,d,e⟩:=h;by_cases c:i<hW l
 .have j:l.drop i=l[i]::l.drop (i+1):=(cT c).symm;rw[j]at d e;simp only[nv];rw[zB (show(i:Int)<(hW l:Int)by omega),zC,bt c,zG];generalize B:l[i]=x at*;simp only[bu]at d;simp only[hmax]at e;by_cases r:x.1<0
  .rw[zE<|.inl r]at d;rw[zB r];simp only[zC,zG,gr];exact .inr ⟨_,rfl, .inl ⟨rfl,d.symm⟩⟩
  rw[zA r,zD];by_cases f:7<x.1
  .rw[zE<|.inr f]at d;rw[zB f];simp only[zC,zG,cg,gr];exact .inr ⟨_,rfl, .inl ⟨rfl,d.symm⟩⟩
  rw[zA f,zD];rw[Zh]at d;by_cases o:x.1=0
  .rw[zE o]at d;rw[Zh,zE o]at e;rw[zB o];simp only[zC,zG,cg];by_cases p:hW st=0
   .rw[zE p]at d;rw[zB (show(hW st:Int)=0 by omega)];simp only[zC,zG,gr];exact .inr ⟨_,rfl, .inl ⟨rfl,d.symm⟩⟩
   .rw[zF p]at d;rw[zA (show¬(hW st:Int)=0 by omega),zD,ae (n:=(hW st:Int)-1) V1,Zk,bp];simp only[zG,cg];rw[zA (show¬x.1=7 by omega)];simp only[zD];rw[ae (n:=(i:Int)+1) V1]
    have k:hW (st.take<|hX ((hW st:Int)-1)-0)=hW st-1:=by
     rw[eA];omega
    refine .inl ⟨_,rfl,⟨i+1,m,_,c,rfl,by rw[k];omega,V1,by rw[k];exact d,by rw[k];exact e⟩,by simp;omega⟩
  .rw[zF o]at d;have u:Zc (x.1=0)=Zb:=zA o;rw[u];simp only[zD,zG,cg];by_cases f:x.1=7
   .rw[zE f]at d e;rw[zB f];simp only[zC];rw[bg V1 V1,ae (n:=(i:Int)+1) V1,ae (n:=(hW st:Int)+1) V1];refine .inl ⟨_,rfl,⟨i+1,max m<|hW st+1,st++[(i:Int)],c, ?_,by simp;omega,V1,by rw[cM];exact d,by rw[cM];exact e⟩,by simp;omega⟩;rw[show((max m (hW st+1):Nat):Int)=max (m:Int) ((hW st:Int)+1)by omega];rfl
   .rw[zF f]at d e;rw[zF o]at e;rw[zA f];simp only[zD];rw[ae (n:=(i:Int)+1) V1];exact .inl ⟨_,rfl,⟨i+1,m,st,c,rfl,V1,V1,d,e⟩,by simp;omega⟩
 .have q:i=hW l:=by omega
  subst q;rw[cX]at d e;simp only[nv];rw[zA (show¬(hW l:Int)<(hW l:Int)by omega),zD];have e:m=hmax l 0 0:=e;exact .inr ⟨_,rfl, .inr ⟨rfl,d.symm,by rw[<-e]⟩⟩
def Ot (l:List bx):Int×Int:=if bu l 0=O 0 then((hmax l 0 0:Int),0)else(0,6)
def an2 {l:List bx}(p:hW l<=100000):BP l=O (Ot l):=by
 unfold BP Ot
 obtain⟨c,o,h⟩:=lj (f:=nv l) (a:=((0:Int),Za,(0:Int),([]:Zd))) (be6 l) (λs=>hW l-hX s.1) (λc=>(c.1=Zb/\bu l 0=Y)∨(c.1=Za/\bu l 0=O (hW c.2.2)/\c.2.1=(hmax l 0 0:Int)))
  ⟨0,0,[],cU _,rfl,aB _,aB _,rfl,rfl⟩ V3 (λs q=>aj2 p s q)
 rw[o,zG];rcases h with⟨b,d⟩|⟨b,d,k⟩
 .rw[b,d];rfl
 rw[b,d,zC];by_cases j:hW c.2.2=0
 .rw[zB (show(hW c.2.2:Int)=0 by omega),zE (by rw[j]),k];rfl
 rw[zA (show¬(hW c.2.2:Int)=0 by omega),zF Zm];rfl
def IV (l:List bx)(i:Nat):Nat:=(bu (l.take i) 0).getD 0
def Va {l:List bx}(c:bu l 0=O 0)(hi:i<=hW l):bu (l.take i) 0=O (IV l i):=by
 have⟨d,b,_⟩:=N4 c hi;unfold IV;rw[b];rfl
def Oy {l:List bx}(e:bu l 0=O 0)(hi:i<hW l):(l[i].1=7/\IV l (i+1)=IV l i+1)∨(l[i].1=0/\0<IV l i/\IV l (i+1)=IV l i-1)∨(l[i].1≠7/\l[i].1≠0/\IV l (i+1)=IV l i):=by
 have b:=Va e (i:=i+1) V1;rw[eE hi,sL,Va e V1]at b;have b:bu [l[i]] (IV l i)=O (IV l<|i+1):=b;simp only[bu]at b;split at b
 .cases b
 split at b
 .rename_i f c;split at b
  .cases b
  injection b with b
  exact .inr (.inl ⟨c,V1,b.symm⟩)
 rename_i f c;split at b
 .rename_i d;injection b with b
  exact .inl ⟨d,b.symm⟩
 rename_i d;injection b with b
 exact .inr<|.inr ⟨d,c,b.symm⟩
def ay2 {l:List bx}(c:bu l 0=O 0): ∀i,i<=hW l->IV l i<=i
 |0,_=>aB _
 |i+1,h=>by
  have:=ay2 c i V1;rcases Oy c (i:=i) V1 with⟨_,b⟩|⟨_,_,b⟩|⟨_,_,b⟩<;>omega
def TJ {l:List bx}(k:l.length<=100000)(h:bu l 0=O 0){n:Nat}(o:n<=l.length):uD l (n:Int)=O (IV l n:Int):=by
 unfold uD;have e:am (mr l (n:Int)) co (0,((IV l 0:Nat):Int))=O ((IV l n:Nat):Int):=cn (n:=n) (λi=>((IV l i:Nat):Int)) (c:=((IV l n:Nat):Int)) V1 (λi hi=> ?_) ?_
 .show((am (mr l (n:Int)) co (0,((IV l 0:Nat):Int))).bind _)=_;rw[e];rfl
 .unfold mr;simp only[ah];rw[Zg,bt (show i<l.length by omega)];simp only[zG];have j:=ay2 h i V1;rw[ae (n:=(i:Int)+1) V1];rcases Oy h (i:=i) V1 with⟨b,d⟩|⟨b,f,d⟩|⟨b,f,d⟩
  .rw[zE b,Zh,ae (n:=((IV l i:Nat):Int)+1) V1,d];rfl
  .rw[Zh,zE b,ae (n:=((IV l i:Nat):Int)-1) V1,d,show((IV l i-1:Nat):Int)=(IV l i:Int)-1 by omega];rfl
  rw[zF b,zF f,d];rfl
 unfold mr;simp only[ah];rw[Zh]
def Dh (l:List bx):Nat->Nat
 |0=>0
 |i+1=>max (Dh l i)<|IV l i
def Q7 {l:List bx}(j:bu l 0=O 0): ∀k i,i+k=hW l->hmax (l.drop i) (IV l i) (Dh l<|i+1)=Dh l (hW l+1)
 |0,i,h=>by
  have:i=hW l:=by omega
  subst this;rw[cX];rfl
 |k+1,i,h=>by
  rw[(cT (show i<(hW l) by omega)).symm];simp only[hmax];have d:=Q7 j k (i+1) V1;have e:Dh l (i+1+1)=max (Dh l<|i+1) (IV l<|i+1):=rfl;have o:Dh l (i+1)=max (Dh l i) (IV l i):=rfl;rcases Oy j (i:=i) V1 with⟨b,c⟩|⟨b,f,c⟩|⟨b,f,c⟩
  .rw[zE b,<-c,<-e];exact d
  .rw[Zh,zE b,<-c,show Dh l (i+1)=Dh l (i+1+1)by rw[e];omega];exact d
  .rw[zF b,zF f];rw[c,show Dh l (i+1+1)=Dh l (i+1)by rw[e];omega]at d;exact d
def Yd {l:List bx}(e:hW l<=100000):zy l=O (Ot l):=by
 unfold zy Ot;rw[II e,zG];by_cases b:bu l 0=O 0
 .rw[zB b,zE b];simp only[dA,zD];have d:am (pj l) co (0,((Dh l 0:Nat):Int))=O ((Dh l (hW l+1):Nat):Int):=cn (n:=hW l+1) (λi=>((Dh l i:Nat):Int)) (c:=((Dh l (hW l+1):Nat):Int)) V1 (λi hi=> ?_) ?_
  .show((am (pj l) co (0,((Dh l 0:Nat):Int))).bind _)=_;rw[d];have h:=Q7 b (hW l) 0 V1;have f:IV l 0=0:=rfl;have j:Dh l (0+1)=0:=rfl;rw[f,j,List.drop_zero]at h;rw[h];rfl
  .unfold pj;simp only[ah];rw[Zg,TJ e b V1,zG,ae (n:=(i:Int)+1) V1];show _=O (Sum.inl (((i+1:Nat):Int),((max (Dh l i) (IV l i):Nat):Int)));rw[show((max (Dh l i) (IV l i):Nat):Int)=max (Dh l i:Int) (IV l i:Int)by omega];rfl
  unfold pj;simp only[ah];rw[Zh]
 rw[zA b,zF b];rfl
structure OpsOk (l:List bx):Prop where
 len:hW l<=4096
 v: ∀o∈l,0<=o.2.2.2.2/\o.2.2.2.2<=18446744073709551615
def JR (l:List bx):Int:=if JG l then 0 else 6
def IX (R:Int)(l:List bx):Int:=if J9 R l then 0 else 7
def IY (l:List bx):Int:=if 8<(Ot l).1 then 8 else 0
def IC (l:List bx):Int:=(eg l).2
def Bs (R:Int)(l:List bx):Int:=if JR l≠0 then JR l else if IX R l≠0 then IX R l else if IY l≠0 then IY l else IC l
def mU (R:Int)(l:List bx)(Q:Int)(k:List bx):Int:=if JR l≠0 then JR l else if JR k≠0 then JR k else if IX R l≠0 then IX R l else if IX Q k≠0 then IX Q k else if IY l≠0 then IY l else if IY k≠0 then IY k else if IC l≠0 then IC l else IC k
def Gn {R:Int}{l:List bx}(h:OpsOk l):gQ R l=O (IY l):=by
 unfold gQ IY;have:=h.len;rw[an2 V1];simp only[zG,Eu];by_cases c:8<(Ot l).1<;>simp[c]
def Ew {R:Int}{l:List bx}(h:OpsOk l):gD R l=O (IC l):=by
 unfold gD IC;have:=h.len;rw[ym V1 h.v];rfl
def Qn {R:Int}{l:List bx}(h:OpsOk l):sP R l=O (Bs R l):=by
 unfold sP Bs;rw[Iw h.len,yM h.len,Gn h,Ew h];simp only[zG,ah];show(if JR l≠0 then O (JR l)else if IX R l≠0 then O (IX R l)else if IY l≠0 then O (IY l)else if IC l≠0 then O (IC l)else O 0)=_;split
 .rfl
 split
 .rfl
 split
 .rfl
 split
 .rfl
 rename_i h;rw[show IC l=0 by omega]
def Xv {R Q:Int}{l k:List bx}(h:OpsOk l)(b:OpsOk k):zr R l Q k=O (mU R l Q k):=by
 unfold zr mU;rw[Iw h.len,yM h.len,Gn h,Ew h,Iw b.len,yM b.len,Gn b,Ew b];simp only[zG,ah];show(if JR l≠0 then O (JR l)else if JR k≠0 then O (JR k)else if IX R l≠0 then O (IX R l)else if IX Q k≠0 then O (IX Q k)else if IY l≠0 then O (IY l)else if IY k≠0 then O (IY k)else if IC l≠0 then O (IC l)else if IC k≠0 then O (IC k)else O 0)=_;split
 .rfl
 split
 .rfl
 split
 .rfl
 split
 .rfl
 split
 .rfl
 split
 .rfl
 split
 .rfl
 split
 .rfl
 rename_i h;rw[show IC k=0 by omega]
def Rh (R:Int)(l:List bx)(n:Nat):Int:=if n=0 then JR l else if n=1 then IX R l else if n=2 then IY l else IC l
def IK {R:Int}{l:List bx}(h:OpsOk l)(b:hW l<=1500)(n:Nat):rl R l (n:Int)=O (Rh R l n):=by
 unfold rl Rh;have:=h.len;simp only[ah];by_cases c:n=0
 .rw[Zg,zE c,Yf b];unfold JR;simp only[zG];cases JG l<;>rfl
 rw[Zh,zF c];by_cases d:n=1
 .rw[Zg,zE d,MS b];unfold IX;simp only[zG];cases J9 R l<;>rfl
 rw[Zh,zF d];by_cases e:n=2
 .rw[Zg,zE e,Yd V1];unfold IY;simp only[zG];split<;>rfl
 rw[Zh,zF e,Ag b h.v];rfl
def Pg {R Q:Int}{l k:List bx}(h:OpsOk l)(q:OpsOk k)(e:l.length<=1500)(f:k.length<=1500):uE R l Q k=O (mU R l Q k):=by
 have b: ∀n:Nat,n<4->md R l Q k (n:Int)=O (if Rh R l n≠0 then .inr (.inl<|Rh R l n)else if Rh Q k n≠0 then .inr (.inl<|Rh Q k n)else .inl ((n+1:Nat):Int)):=by
  intro n s;unfold md;simp only[ah];rw[Zg,IK h e,IK q f];simp only[zG];rw[ae (n:=(n:Int)+1) V1];split
  .rfl
  split<;>rfl
 have c:md R l Q k 4=O (.inr<|.inr ()):=rfl;unfold uE mU
 have j:am (md R l Q k) co 0=O (if JR l≠0 then .inl (JR l)else if JR k≠0 then .inl (JR k)else if IX R l≠0 then .inl (IX R l)else if IX Q k≠0 then .inl (IX Q k)else if IY l≠0 then .inl (IY l)else if IY k≠0 then .inl (IY k)else if IC l≠0 then .inl (IC l)else if IC k≠0 then .inl (IC k)else .inr ()):=by
  have r:co=18446744073709551611+1+1+1+1+1:=rfl;rw[r,bi];have d:=b 0 V1;have e:=b 1 V1;have o:=b 2 V1;have p:=b 3 V1;rw[show Rh R l 0=JR l from rfl,show Rh Q k 0=JR k from rfl]at d;rw[show Rh R l 1=IX R l from rfl,show Rh Q k 1=IX Q k from rfl]at e;rw[show Rh R l 2=IY l from rfl,show Rh Q k 2=IY k from rfl]at o;rw[show Rh R l 3=IC l from rfl,show Rh Q k 3=IC k from rfl]at p;have d:md R l Q k 0=_:=d;rw[d];simp only[zG];split
  .rfl
  split
  .rfl
  simp only[be];rw[bi,e];simp only[zG];split
  .rfl
  split
  .rfl
  simp only[be];rw[bi,o];simp only[zG];split
  .rfl
  split
  .rfl
  simp only[be];rw[bi,p];simp only[zG];split
  .rfl
  split
  .rfl
  simp only[be];rw[bi,show((3+1:Nat):Int)=4 from rfl,c];rfl
 rw[j];simp only[zG];split
 .rfl
 split
 .rfl
 split
 .rfl
 split
 .rfl
 split
 .rfl
 split
 .rfl
 split
 .rfl
 split
 .rfl
 rename_i h;rw[show IC k=0 by omega];rfl
def aN6 (a0:Int)(a1:List bx)(a2:Int)(a3:List bx)(a4 a5:Int): ∃d,ue a0 a1 a2 a3 a4 a5=O d/\oB a0 a1 a2 a3 a4 a5=O d:=by
 unfold ue oB;simp only[Eu,zG,ah];by_cases b:a4<1
 .rw[zE b,zE b];exact⟨_,rfl,rfl⟩
 rw[zF b,zF b];by_cases c:64<a4
 .rw[zE c,zE c];exact⟨_,rfl,rfl⟩
 rw[zF c,zF c];by_cases e:a5<0
 .rw[zE e,zE e];exact⟨_,rfl,rfl⟩
 rw[zF e,zF e];by_cases f:64<a5
 .rw[zE f,zG,ah,zE f];exact⟨_,rfl,rfl⟩
 rw[zF f,zG,ah,zF f];by_cases h:a0<IntKind.i64.wrap (zH zI (a4+a5)+1)
 .rw[zE h,zE h];exact⟨_,rfl,rfl⟩
 rw[zF h,zF h];by_cases j:a2<IntKind.i64.wrap (a4+a5)
 .rw[zE j,zB j];exact⟨_,rfl,rfl⟩
 rw[zF j,zA j];exact⟨_,rfl,rfl⟩
def aB3 (l:List bx):JR l=0∨JR l=6:=by unfold JR;split<;>simp
def aB4 (R:Int)(l:List bx):IX R l=0∨IX R l=7:=by unfold IX;split<;>simp
def aB5 (l:List bx):IY l=0∨IY l=8:=by unfold IY;split<;>simp
def yd (s l x t:Int):Int:=if x<1 then 10 else if 64<x then 10 else if t<0 then 10 else if 64<t then 10 else if s<IntKind.i64.wrap (zH zI (x+t)+1)then 10 else if l<IntKind.i64.wrap (x+t)then 10 else 0
def IJ (a0:Int)(a1:List bx)(a2:Int)(a3:List bx)(a4 a5:Int):oB a0 a1 a2 a3 a4 a5=O (yd a0 a2 a4 a5):=by
 unfold oB yd;simp only[ah];split
 .rfl
 split
 .rfl
 split
 .rfl
 split
 .rfl
 split
 .rfl
 split<;>rfl
def Xu (a0:Int)(a1:List bx)(a2:Int)(a3:List bx)(a4 a5:Int):ue a0 a1 a2 a3 a4 a5=O (yd a0 a2 a4 a5):=by
 have⟨d,b,c⟩:=aN6 a0 a1 a2 a3 a4 a5;rw[b,<-c,IJ]
def hk0 (m:Int):Int:=if m<1 then 5 else if 3<m then 5 else 0
def hk3 (m n:Int):Int:=if n<0 then 11 else if(if m=2 then 0 else 65535)<n then 11 else 0
def hk4 (b:Int):Int:=if b<0 then 12 else if 1048576<b then 12 else 0
def sK (m:Int)(x t:Nat)(R:Int)(l:List bx)(Q:Int)(k:List bx)(n b:Int):Int:=if hk0 m≠0 then hk0 m else if mU R l Q k≠0 then mU R l Q k else if yd R Q x t≠0 then yd R Q x t else if hk3 m n≠0 then hk3 m n else hk4 b
def Gx (b:Bool)(e:Int):da b e=O (if b then e else 0):=by cases b<;>rfl
section
variable {a0:Int} {a1 a2:Zd} {a3:Int} {a4:List bx} {a5:Int} {a6:List bx} {a7 a8:Int}
def bj1 :jy a0 a1 a2 a3 a4 a5 a6 a7 a8=O (hk0 a0):=by
 unfold jy hk0;simp only[Gx,zG,ah];split
 .rfl
 by_cases c:3<a0<;>simp[c]
def XL (b:OpsOk a4)(c:OpsOk a6):gV a0 a1 a2 a3 a4 a5 a6 a7 a8=O (mU a3 a4 a5 a6):=by
 unfold gV;rw[Xv b c];rfl
def bj0 :jx a0 a1 a2 a3 a4 a5 a6 a7 a8=O (yd a3 a5 (hW a1:Nat) (hW a2:Nat)):=by
 unfold jx;rw[Xu];rfl
def az6 :iO a0 a1 a2 a3 a4 a5 a6 a7 a8=O (hk3 a0 a7):=by
 unfold iO hk3;simp only[Gx,zG,ah];by_cases b:a0=2
 .rw[zE b,zE b,zG];split
  .rfl
  by_cases c:0<a7<;>simp[c]
 rw[zF b,zF b,zG];split
 .rfl
 by_cases c:65535<a7<;>simp[c]
def az5 :iN a0 a1 a2 a3 a4 a5 a6 a7 a8=O (hk4 a8):=by
 unfold iN hk4;simp only[Gx,zG,ah];split
 .rfl
 by_cases c:1048576<a8<;>simp[c]
def EB (j:OpsOk a4)(o:OpsOk a6):kU a0 a1 a2 a3 a4 a5 a6 a7 a8=O (sK a0 (hW a1) (hW a2) a3 a4 a5 a6 a7 a8):=by
 have c:iM a0 a1 a2 a3 a4 a5 a6 a7 a8 0=O (if hk0 a0≠0 then .inr (.inl<|hk0 a0)else .inl 1):=by
  show(im (jy a0 a1 a2 a3 a4 a5 a6 a7 a8) λr=>cond (Zc<|r≠0) _ _)=_;rw[bj1];simp only[zG,ah];split<;>rfl
 have d:iM a0 a1 a2 a3 a4 a5 a6 a7 a8 1=O (if mU a3 a4 a5 a6≠0 then .inr (.inl<|mU a3 a4 a5 a6)else .inl 2):=by
  show(im (gV a0 a1 a2 a3 a4 a5 a6 a7 a8) λr=>cond (Zc<|r≠0) _ _)=_;rw[XL j o];simp only[zG,ah];split<;>rfl
 have e:iM a0 a1 a2 a3 a4 a5 a6 a7 a8 2=O (if yd a3 a5 (hW a1:Nat) (hW a2:Nat)≠0 then .inr (.inl<|yd a3 a5 (hW a1:Nat) (hW a2:Nat))else .inl 3):=by
  show(im (jx a0 a1 a2 a3 a4 a5 a6 a7 a8) λr=>cond (Zc<|r≠0) _ _)=_;rw[bj0];simp only[zG,ah];split<;>rfl
 have f:iM a0 a1 a2 a3 a4 a5 a6 a7 a8 3=O (if hk3 a0 a7≠0 then .inr (.inl<|hk3 a0 a7)else .inl 4):=by
  show(im (iO a0 a1 a2 a3 a4 a5 a6 a7 a8) λr=>cond (Zc<|r≠0) _ _)=_;rw[az6];simp only[zG,ah];split<;>rfl
 have k:iM a0 a1 a2 a3 a4 a5 a6 a7 a8 4=O (if hk4 a8≠0 then .inr (.inl<|hk4 a8)else .inl 5):=by
  show(im (iN a0 a1 a2 a3 a4 a5 a6 a7 a8) λr=>cond (Zc<|r≠0) _ _)=_;rw[az5];simp only[zG,ah];split<;>rfl
 have b:iM a0 a1 a2 a3 a4 a5 a6 a7 a8 5=O (.inr<|.inr ()):=rfl;unfold kU sK;have p:co=18446744073709551610+1+1+1+1+1+1:=rfl;rw[p,bi,c,zG];split
 .rfl
 simp only[be];rw[bi,d,zG];split
 .rfl
 simp only[be];rw[bi,e,zG];split
 .rfl
 simp only[be];rw[bi,f,zG];split
 .rfl
 simp only[be];rw[bi,k,zG];split
 .rfl
 rename_i h;simp only[be];rw[bi,b,show hk4 a8=0 by omega];rfl
def GK (q:OpsOk a4)(r:OpsOk a6)(o:hW a4<=1500)(p:hW a6<=1500):mN a0 a1 a2 a3 a4 a5 a6 a7 a8=O (sK a0 (hW a1) (hW a2) a3 a4 a5 a6 a7 a8):=by
 unfold mN sK;rw[Pg q r o p,IJ];simp only[zG,ah];unfold hk0;by_cases c:a0<1
 .rw[zE c,zE c];rfl
 rw[zF c,zF c];by_cases d:3<a0
 .rw[zE d,zE d];rfl
 rw[zF d,zF d,zF (show¬(0:Int)≠0 by simp)];by_cases e:mU a3 a4 a5 a6≠0
 .rw[zE e,zE e]
 rw[zF e,zF e];by_cases f:yd a3 a5 (hW a1:Nat) (hW a2:Nat)≠0
 .rw[zE f,zE f]
 rw[zF f,zF f];unfold hk3 hk4;by_cases h:a7<0
 .rw[zE h,zE h];rfl
 rw[zF h,zF h];by_cases j:a0=2
 .rw[zE j,zE j];by_cases k:0<a7
  .rw[zE k,zE (show(11:Int)≠0 by simp)];by_cases b:65535<a7
   .rw[zE b]
   rw[zF b,Zg]
  rw[zF k,zF (show¬(0:Int)≠0 by simp),zF (show¬65535<a7 by omega),zF (show¬a7≠0 by omega)];split
  .rfl
  split<;>rfl
 rw[zF j,zF j];by_cases b:65535<a7
 .rw[zE b,zE b];rfl
 rw[zF b,zF b,zF (show¬(0:Int)≠0 by simp)];split
 .rfl
 split<;>rfl
structure HFacts (a0:Int)(x t:Nat)(a3:Int)(a4:List bx)(a5:Int)(a6:List bx)(a7 a8:Int):Prop where
 mode:1<=a0/\a0<=3
 regs:1<=a3/\a3<=64
 regs':1<=a5/\a5<=64
 xs:1<=x/\x<=64
 ts:t<=64
 w:0<=(eg a4).1/\(eg a4).1<=65536
 w':0<=(eg a6).1/\(eg a6).1<=65536
 len:0<=a7/\a7<=65535
 bud:0<=a8/\a8<=1048576
def Vy {R:Int}{l:List bx}(h:IX R l=0):1<=R/\R<=64:=by
 unfold IX at h;split at h
 .rename_i b;unfold J9 at b;rw[Bool.and_eq_true]at b;exact of_decide_eq_true b.1
 cases h
def PM {l:List bx}(h:OpsOk l):0<=(eg l).1/\(eg l).1<=65536:=by
 unfold eg;split
 .rename_i d;split
  .rename_i w c;have:=LN (λo b=>(h.v o b).1) d c;split
   .simp
   simp;omega
  simp
 simp
def an9 {R Q:Int}{l k:List bx}(h:mU R l Q k=0):(1<=R/\R<=64)/\(1<=Q/\Q<=64):=by
 unfold mU at h;split at h
 .rename_i c;exact(c h).elim
 split at h
 .rename_i c;exact(c h).elim
 split at h
 .rename_i c;exact(c h).elim
 split at h
 .rename_i c;exact(c h).elim
 rename_i b d;exact⟨Vy (l:=l) V1,Vy (l:=k) V1⟩
def EC (j:OpsOk a4)(k:OpsOk a6)(h:sK a0 x t a3 a4 a5 a6 a7 a8=0):HFacts a0 x t a3 a4 a5 a6 a7 a8:=by
 unfold sK at h;split at h
 .rename_i c;exact(c h).elim
 split at h
 .rename_i c;exact(c h).elim
 split at h
 .rename_i c;exact(c h).elim
 split at h
 .rename_i c;exact(c h).elim
 rename_i e q b d;have⟨o,p⟩:=an9 (show mU a3 a4 a5 a6=0 by omega);have e:hk0 a0=0:=by omega
 have b:yd a3 a5 x t=0:=by omega
 have d:hk3 a0 a7=0:=by omega
 unfold hk0 at e;unfold hk3 at d;unfold hk4 at h;unfold yd at b;refine⟨?_,o,p, ?_, ?_,PM j,PM k, ?_, ?_⟩
 .split at e
  .omega
  split at e<;>omega
 .split at b
  .omega
  split at b<;>omega
 .split at b
  .omega
  split at b
  .omega
  split at b
  .omega
  split at b<;>omega
 .split at d
  .omega
  by_cases f:a0=2
  .rw[zE f]at d;split at d<;>omega
  rw[zF f]at d;split at d<;>omega
 split at h
 .omega
 split at h<;>omega
def rS (a0:Int)(a4 a6:List bx):Int:=if a0=3 then(eg a6).1 else(eg a4).1+(eg a6).1
def rR (a0:Int)(x:Nat)(a3:Int)(a4:List bx):Int:=if a0=3 then(eg a4).1+a3 else x+1
def sJ (x t:Nat)(a3 a5:Int):Int:=2*t+2*x+a3+a5+max a3 a5
def ac5 (b:OpsOk a4)(c:OpsOk a6):jf a0 a1 a2 a3 a4 a5 a6 a7 a8=O (if sK a0 (hW a1) (hW a2) a3 a4 a5 a6 a7 a8≠0 then(0,0)else((eg a4).1,(eg a6).1)):=by
 unfold jf;have:=b.len;have:=c.len;rw[EB b c,ym V1 b.v,ym V1 c.v];simp only[zG,ah];split<;>rfl
def Pk (b:OpsOk a4)(c:OpsOk a6)(d:hW a4<=1500)(e:hW a6<=1500):wv a0 a1 a2 a3 a4 a5 a6 a7 a8=O (if sK a0 (hW a1) (hW a2) a3 a4 a5 a6 a7 a8≠0 then(0,0)else((eg a4).1,(eg a6).1)):=by
 unfold wv;have:=b.len;have:=c.len;rw[GK b c d e,Ag d b.v,Ag e c.v];simp only[zG,ah];split<;>rfl
def Pc (b:OpsOk a4)(d:OpsOk a6)(h:sK a0 (hW a1) (hW a2) a3 a4 a5 a6 a7 a8=0):uw a0 a1 a2 a3 a4 a5 a6 a7 a8=O (((hW a2:Nat):Int),((hW a1:Nat):Int),a3,a5,max a3 a5,((hW a1:Nat):Int),((hW a2:Nat):Int),rS a0 a4 a6,rR a0 (hW a1) a3 a4):=by
 have f:=EC b d h;have e:=f.mode;have j:=f.regs;have k:=f.xs;have o:=f.w;have p:=f.w';unfold uw rS rR;rw[ac5 b d,zF<|λc=>c h];simp only[zG,ah];rw[ae (n:=(eg a4).1+a3) V1,ae (n:=(eg a4).1+(eg a6).1) V1,ae (n:=(hW a1:Int)+1) V1];split
 .rfl
 rfl
def pre (L:Zd):Nat->Int
 |0=>0
 |i+1=>pre L i+L.getD i 0
def X6 {L:Zd}(b: ∀j,0<=L.getD j 0/\L.getD j 0<=1000000000000): ∀i,0<=pre L i/\pre L i<=1000000000000*i
 |0=>⟨dC _,dC _⟩
 |i+1=>by
  have:=X6 b i;have:=b i;simp only[pre];omega
def VY {b0 b1 b2 b3 c d f h b n:Int}(o: ∀j,0<=([b0,b1,b2,b3,c,d,f,h,b*n]:Zd).getD j 0/\([b0,b1,b2,b3,c,d,f,h,b*n]:Zd).getD j 0<=1000000000000):AI b0 b1 b2 b3 c d f h b n=O ((cV 10).map<|pre [b0,b1,b2,b3,c,d,f,h,b*n]):=by
 generalize q:([b0,b1,b2,b3,c,d,f,h,b*n]:Zd)=L at*;have r:=X6 o
 have k:am (sv b0 b1 b2 b3 c d f h b) co (0,(pre L 0,(cV 0).map<|pre L))=O (pre L 8,(cV 8).map<|pre L):=by
  refine cn (n:=8) (λi=>(pre L i,(cV i).map<|pre L)) V1 (λi hi=> ?_) ?_
  .unfold sv;rw[ah,Zg,bn (show i<9 by omega),zG]
   have e:dI [b0,b1,b2,b3,c,d,f,h,b] i 0=L.getD i 0:=by
    subst q;rcases(show i=0∨i=1∨i=2∨i=3∨i=4∨i=5∨i=6∨i=7 by omega)with rfl|rfl|rfl|rfl|rfl|rfl|rfl|rfl<;>rfl
   have s:=r i;have p:=o i;rw[e,bg V3 V1,ae (n:=pre L i+L.getD i 0) V1,ae (n:=(i:Int)+1) V1,eD,dL];rfl
  unfold sv;rw[ah,Zh]
 unfold AI;have k:am (sv b0 b1 b2 b3 c d f h b) co (0,0,[])=_:=k;rw[k];have s:=r 8;have p:=o 8;have e:L.getD 8 0=b*n:=by subst q;rfl
 rw[e]at p;simp only[zG];rw[bg V2 V1,bg V2 V1,ae (n:=b*n) V1,ae (n:=pre L 8+b*n) V1];show _=O ((cV<|8+1+1).map<|pre L);rw[eD (n:=8+1),eD (n:=8),dL,dL];show _=O (((cV 8).map (pre L)++[pre L 8])++[pre L 8+L.getD 8 0]);rw[e]
def ao1 {b0 b1 b2 b3 b c d e f n:Int}(h: ∀j,0<=([b0,b1,b2,b3,b,c,d,e,f*n]:Zd).getD j 0/\([b0,b1,b2,b3,b,c,d,e,f*n]:Zd).getD j 0<=1000000000000):xD b0 b1 b2 b3 b c d e f n=O (b0+b1+b2+b3+b+c+d+e+f*n):=by
 unfold xD;rw[VY h];show O (0+b0+b1+b2+b3+b+c+d+e+f*n)=_;rw[cN]
def bE6 {b0 b1 b2 b3 b c d e f:Int}{p:Int->Prop}(h:p b0)(k:p b1)(o:p b2)(q:p b3)(r:p b)(s:p c)(u:p d)(y:p e)(z:p f)(A:p 0): ∀j,p (([b0,b1,b2,b3,b,c,d,e,f]:Zd).getD j 0)
 |0=>h
 |1=>k
 |2=>o
 |3=>q
 |4=>r
 |5=>s
 |6=>u
 |7=>y
 |8=>z
 |j+9=>by
  show p<|([]:Zd).getD j 0;rw[List.getD_nil];exact A
def Tu {s n:Int}(c:0<=s/\s<=100000)(b:0<=n/\n<=1048576):0<=s*n/\s*n<=1000000000000:=by
 have d:=cW c.1 b.1;have e:=Int.mul_le_mul c.2 b.2 b.1 V1;omega
structure SFacts (x t:Nat)(a3 a5 tp sl:Int):Prop where
 xs:1<=x/\x<=64
 ts:t<=64
 r:1<=a3/\a3<=64
 r':1<=a5/\a5<=64
 tp:0<=tp/\tp<=131072
 sl:1<=sl/\sl<=100000
def PC (b:OpsOk a4)(c:OpsOk a6)(h:sK a0 x t a3 a4 a5 a6 a7 a8=0):SFacts x t a3 a5 (rS a0 a4 a6)<|rR a0 x a3 a4:=by
 have f:=EC b c h;have d:=f.mode;have e:=f.regs;have j:=f.xs;have k:=f.w;have o:=f.w';refine⟨f.xs,f.ts,f.regs,f.regs', ?_, ?_⟩
 .unfold rS;split<;>omega
 unfold rR;split<;>omega
def Yp {tp sl n:Int}(s:SFacts x t a3 a5 tp sl)(b:0<=n/\n<=1048576): ∀j,0<=([(t:Int),x,a3,a5,max a3 a5,x,t,tp,sl*n]:Zd).getD j 0/\([(t:Int),x,a3,a5,max a3 a5,x,t,tp,sl*n]:Zd).getD j 0<=1000000000000:=by
 have c:=s.xs;have d:=s.ts;have e:=s.r;have f:=s.r';have h:=s.tp;have k:=s.sl;exact bE6 (p:=λy=>0<=y/\y<=1000000000000) V1 V1 V1 V1 V1 V1 V1 V1 (Tu V1 b) V1
def bm2 {c b n:Int}(s:SFacts x t a3 a5 c b)(d:0<=n/\n<=1048576):xD t x a3 a5 (max a3 a5) x t c b n=O (sJ x t a3 a5+c+n*b):=by
 rw[ao1<|Yp s d];unfold sJ;rw[dD b n]
 congr 1
 omega
def Wi {c b:Int}(h:SFacts (hW a1) (hW a2) a3 a5 c b):xj a0 a1 a2 a3 a4 a5 a6 a7 a8=O (sJ (hW a1) (hW a2) a3 a5):=by
 have d:=h.xs;have e:=h.ts;have f:=h.r;have j:=h.r';unfold xj sJ;rw[ae (n:=2*(hW a2:Int)) V1,ae (n:=2*(hW a1:Int)) V1,ae (n:=2*(hW a2:Int)+2*(hW a1:Int)) V1,ae (n:=2*(hW a2:Int)+2*(hW a1:Int)+a3) V1,ae (n:=2*(hW a2:Int)+2*(hW a1:Int)+a3+a5) V1,Zi]
def Yl (b:OpsOk a4)(d:OpsOk a6)(e:hW a4<=1500)(k:hW a6<=1500)(h:sK a0 (hW a1) (hW a2) a3 a4 a5 a6 a7 a8=0):zS a0 a1 a2 a3 a4 a5 a6 a7 a8=O (rS a0 a4 a6):=by
 have f:=EC b d h;have j:=f.w;have o:=f.w';unfold zS rS;rw[Pk b d e k,zF<|λc=>c h];simp only[zG,ah];rw[Zi];split<;>rfl
def Yk (b:OpsOk a4)(d:OpsOk a6)(e:hW a4<=1500)(k:hW a6<=1500)(h:sK a0 (hW a1) (hW a2) a3 a4 a5 a6 a7 a8=0):zR a0 a1 a2 a3 a4 a5 a6 a7 a8=O (rR a0 (hW a1) a3 a4):=by
 have f:=EC b d h;have o:=f.regs;have p:=f.xs;have j:=f.w;have q:=f.w';unfold zR rR;rw[Pk b d e k,zF<|λc=>c h];simp only[zG,ah];rw[ae (n:=(eg a4).1+a3) V1,Zi];split<;>rfl
def least (a0 a7:Int):Int:=if a0=3 then a7 else 1
def gP (a0:Int)(x t:Nat)(a3:Int)(a4:List bx)(a5:Int)(a6:List bx)(a7 a8:Int):Int×Int×Int×Int×Int:=
 if sK a0 x t a3 a4 a5 a6 a7 a8≠0 then(0,0,0,0,sK a0 x t a3 a4 a5 a6 a7 a8)
 else if a8<sJ x t a3 a5+rS a0 a4 a6+least a0 a7*rR a0 x a3 a4 then(0,0,0,0,13)
 else(sJ x t a3 a5,rS a0 a4 a6,rR a0 x a3 a4,if a0=3 then a7 else(a8-sJ x t a3 a5-rS a0 a4 a6) / rR a0 x a3 a4,0)
def aE5 {d b n:Int}(s:SFacts x t a3 a5 d b):am (uv (t:Int) (x:Int) a3 a5 (max a3 a5) (x:Int) (t:Int) d b) co (0,0,d,b,n)=O (sJ x t a3 a5,d,b,n):=by
 have f:=Yp (n:=1) s V1;have k:=X6 f
 have h:pre [(t:Int),x,a3,a5,max a3 a5,x,t,d,b*1] 7=sJ x t a3 a5:=by
  show 0+(t:Int)+x+a3+a5+max a3 a5+x+t=_;unfold sJ;omega
 rw[<-h];generalize j:([(t:Int),x,a3,a5,max a3 a5,x,t,d,b*1]:Zd)=L at*;refine cn (n:=7) (λi=>(pre L i,d,b,n)) (c:=(pre L 7,d,b,n)) V1 (λi hi=> ?_) ?_
 .unfold uv;rw[ah,Zg,bn (show i<9 by omega),zG]
  have e:dI [(t:Int),x,a3,a5,max a3 a5,x,t,d,b] i 0=L.getD i 0:=by
   subst j;rcases(show i=0∨i=1∨i=2∨i=3∨i=4∨i=5∨i=6 by omega)with rfl|rfl|rfl|rfl|rfl|rfl|rfl<;>rfl
  have o:=k i;have p:=f i;rw[e,ae (n:=pre L i+L.getD i 0) V1,ae (n:=(i:Int)+1) V1];rfl
 unfold uv;rw[ah,Zh]
def Rs (e:OpsOk a4)(j:OpsOk a6):jA a0 a1 a2 a3 a4 a5 a6 a7 a8=O (gP a0 (hW a1) (hW a2) a3 a4 a5 a6 a7 a8):=by
 unfold jA gP;rw[EB e j,zG];by_cases h:sK a0 (hW a1) (hW a2) a3 a4 a5 a6 a7 a8=0
 .rw[zA (λc=>c h),zD,zF (λc=>c h),Pc e j h];have s:=PC e j h;have f:=EC e j h;have z:=f.mode;have A:=f.len;have B:=f.bud;have C:=s.xs;have D:=s.ts;have E:=s.r;have F:=s.r';have I:=s.tp;have J:=s.sl
  have u:(cond (Zc<|a0=3) (O a7)<|O (1:Int))=O (least a0 a7):=by
   unfold least;rw[ah];split<;>rfl
  have y:0<=least a0 a7/\least a0 a7<=65535:=by unfold least;split<;>omega
  simp only[zG];rw[u,zG,bm2 s V1,zG,aE5 s];simp only[zG,ah];by_cases c:a8<sJ (hW a1) (hW a2) a3 a5+rS a0 a4 a6+least a0 a7*rR a0 (hW a1) a3 a4
  .rw[zE c,zE c]
  rw[zF c,zF c];have q:0<=sJ (hW a1) (hW a2) a3 a5/\sJ (hW a1) (hW a2) a3 a5<=1000:=by unfold sJ;omega
  by_cases b:a0=3
  .rw[zF (λk=>k b),zE b];unfold least;rw[zE b]
  rw[zE b,zF b,bi7 V1];unfold least at c;rw[zF b]at c;generalize sJ (hW a1) (hW a2) a3 a5=d at*;generalize rS a0 a4 a6=tp at*;generalize rR a0 (hW a1) a3 a4=sl at*;rw[ae (n:=a8-d) V1,ae (n:=a8-d-tp) V1,Ub V1];have o:0<=(a8-d-tp) / sl:=dU V1 V1;have p:(a8-d-tp) / sl<=a8-d-tp:=dT _ V1;rw[Zi]
 rw[zB h,zC,zE h]
def Pj (j:OpsOk a4)(o:OpsOk a6)(q:hW a4<=1500)(u:hW a6<=1500):mv a0 a1 a2 a3 a4 a5 a6 a7 a8=O (gP a0 (hW a1) (hW a2) a3 a4 a5 a6 a7 a8):=by
 unfold mv gP;rw[GK j o q u,zG];by_cases h:sK a0 (hW a1) (hW a2) a3 a4 a5 a6 a7 a8=0
 .have s:=PC j o h;have f:=EC j o h;rw[zA (λc=>c h),zD,zF (λc=>c h),Wi s,Yl j o q u h,Yk j o q u h];have K:=f.mode;have L:=f.len;have M:=f.bud;have B:=s.xs;have N:=s.ts;have C:=s.r;have Q:=s.r';have T:=s.tp;have V:=s.sl;have E:0<=sJ (hW a1) (hW a2) a3 a5/\sJ (hW a1) (hW a2) a3 a5<=1000:=by unfold sJ;omega
  have I:0<=least a0 a7/\least a0 a7<=65535:=by unfold least;split<;>omega
  simp only[zG];generalize sJ (hW a1) (hW a2) a3 a5=b at*;generalize rS a0 a4 a6=tp at*;generalize rR a0 (hW a1) a3 a4=sl at*
  have F:(cond (Zc<|a0=3) (O ((b,tp,sl,a7):Int×Int×Int×Int))<|O (b,tp,sl,1))=O (b,tp,sl,least a0 a7):=by
   unfold least;rw[ah];split<;>rfl
  rw[F,zG];have y:=Tu (s:=sl) (n:=least a0 a7) V1 V1;rw[dD]at y;rw[ae (n:=b+tp) V1,ae (n:=least a0 a7*sl) V1,Zi,ah];by_cases c:a8<b+tp+least a0 a7*sl
  .rw[zE c,zE c]
  rw[zF c,zF c];by_cases e:a0=3
  .have d:am (pn a0 a8) co (b,tp,sl,least a0 a7)=O (b,tp,sl,least a0 a7):=by
    rw[show co=18446744073709551615+1 from rfl,bi];unfold pn;rw[ah,zF<|λk=>k e];rfl
   rw[d,zE e];unfold least;rw[zE e];rfl
  have d:am (pn a0 a8) co (b,tp,sl,least a0 a7)=O (b,tp,sl,(a8-b-tp) / sl):=by
   refine JT (λst=> ∃n:Int,st=(b,tp,sl,n)/\1<=n/\n<=1048577/\b+tp+n*sl<=a8) (λst=>hX<|2000000-st.2.2.2) ⟨least a0 a7,rfl,by unfold least;rw[zF e];omega,V1,V1⟩ V3 ?_;rintro _ ⟨n,rfl,X,n2,n3⟩;unfold pn;simp only;have y:=Tu (s:=sl) (n:=n+1-2) V1 V1;have W:(n+1)*sl=sl*(n+1-2)+2*sl:=by rw[Int.mul_sub,dD];omega
   have J:(n+1)*sl=n*sl+sl:=by rw[Int.add_mul,Int.one_mul]
   rw[ah,zE e,ae (n:=n+1) V1,ae (n:=b+tp) V1,ae (n:=(n+1)*sl) V1,Zi,ah]
   have z:n<=n*sl:=by
    have:=dE (show 1<=sl by omega) (show 0<=n by omega);omega
   by_cases p:b+tp+(n+1)*sl<=a8
   .rw[zE p];left;exact⟨_,rfl,⟨n+1,rfl,V1,V1,p⟩,by simp only;omega⟩
   rw[zF p];right
   have D:(a8-b-tp) / sl=n:=by
    have A:a8-b-tp=(a8-b-tp-n*sl)+n*sl:=by omega
    rw[A,Int.add_mul_ediv_right _ _ V1,Int.ediv_eq_zero_of_lt V1 V1,cN]
   rw[D]
  rw[d,zF e];rfl
 rw[zB h,zC,zE h]
end
def Reach {α γ:Type}(f:α->Option (α⊕γ))(k:Nat)(s c:α):Prop:= ∀b,am f (b+k) s=am f b c
def Reach.refl {α γ:Type}{f:α->Option (α⊕γ)}{s:α}:Reach f 0 s s:=λ_=>rfl
def Reach.trans {α γ:Type}{f:α->Option (α⊕γ)}{k c:Nat}{s e b:α}(h:Reach f k s e)(j:Reach f c e b):Reach f (k+c) s b:=by
 intro d;rw[show d+(k+c)=(d+c)+k by omega,h,j]
def Reach.one {α γ:Type}{f:α->Option (α⊕γ)}{s b:α}(h:f s=O (.inl b)):Reach f 1 s b:=by
 intro c;rw[bi,h];rfl
section
variable {l:List bx}
def bt6 (d:l.length<=8192)(b:st.length<=8192)(hi:i<l.length)(c:0<l[i].1/\l[i].1<7)(e:out.length=l.length):
  dp l ((i:Int),Za,out,st,st)=O (.inl (((i+1:Nat):Int),Za,out.set i<|-1,st,st)):=by
 simp only[dp];rw[zB (show(i:Int)<(l.length:Int)by omega),zC,bt hi];simp only[zG];generalize f:l[i]=x at*;rw[zA (show¬x.1<0 by omega),zD,zA (show¬7<x.1 by omega),zD,zA (show¬x.1=0 by omega)];simp only[zD,zG,cg];rw[bn (show i<out.length by omega)];simp only[zG];rw[aD (show i<out.length by omega)];simp only[zG];rw[zA (show¬x.1=7 by omega)];simp only[zD];rw[ae (n:=(i:Int)+1) V1];rfl
def aR9 (d:hW l<=8192)(c:hW st<=8192)(hi:i<hW l)(b:l[i].1=7)(e:hW out=hW l):
  dp l ((i:Int),Za,out,st,st)=O (.inl (((i+1:Nat):Int),Za,out.set i<|-1,st++[(i:Int)],st++[(i:Int)])):=by
 simp only[dp];rw[zB (show(i:Int)<(hW l:Int)by omega),zC,bt hi,zG];generalize f:l[i]=x at*;rw[zA (show¬x.1<0 by omega),zD,zA (show¬7<x.1 by omega),zD,zA (show¬x.1=0 by omega)];simp only[zD,zG,cg];rw[bn (show i<(hW out) by omega),zG,aD (show i<(hW out) by omega),zG,zB b];simp only[zC];rw[bg V1 V1,bg V1 V1,ae (n:=(i:Int)+1) V1];rfl
def aC9 {q:Nat}(h:l.length<=8192)(f:st.length<8192)(hi:i<l.length)(e:l[i].1=0)(j:out.length=l.length)(k:q<l.length):
  dp l ((i:Int),Za,out,st++[(q:Int)],st++[(q:Int)])=O (.inl (((i+1:Nat):Int),Za,((out.set i<|-1).set i (q:Int)).set q (i:Int),st,st)):=by
 have b:(st++[(q:Int)]).length=st.length+1:=by simp
 simp only[dp];rw[zB (show(i:Int)<(l.length:Int)by omega),zC,bt hi];simp only[zG];generalize o:l[i]=x at*;rw[zA (show¬x.1<0 by omega),zD,zA (show¬7<x.1 by omega),zD,zB e];simp only[zC,zG,cg];rw[zA (show¬((st++[(q:Int)]).length:Int)=0 by omega),zD];rw[ae (n:=((st++[(q:Int)]).length:Int)-1) V1,Zk,bp];simp only[zG,cg];have d:Zc (x.1=7)=Zb:=zA V1;rw[bn (show i<out.length by omega)];simp only[zG];rw[aD (show i<out.length by omega)];simp only[zG];rw[d,zD,show((st++[(q:Int)]).length:Int)-1=(st.length:Int)by rw[b];omega,bn (show st.length<(st++[(q:Int)]).length by omega)];simp only[zG];rw[cL<|aB _,bD];simp only[eM,zG]
 rw[bp,bn (show i<(out.set i<|-1).length by simp;omega)];simp only[zG];rw[aD (show i<(out.set i<|-1).length by simp;omega)];simp only[zG];rw[bn (show q<((out.set i<|-1).set i ((q:Nat):Int)).length by simp;omega)];simp only[zG];rw[aD (show q<((out.set i<|-1).set i ((q:Nat):Int)).length by simp;omega)];simp only[zG]
 have c:(st++[(q:Int)]).take ((st.length:Int).toNat-0)=st:=by
  rw[show(st.length:Int).toNat-0=st.length by omega,dP];rfl
 rw[c,ae (n:=(i:Int)+1) V1];rfl
def Tx (D:hW l<=8192): ∀(k:Nat) (A seg B:List bx) (out st:Zd),hW seg<=k->l=A++seg++B->bu seg 0=O 0->hW out=hW l->hW st<=hW A->
  ∃f,Reach (dp l) (hW seg) ((hW A:Int),Za,out,st,st) (((hW A+hW seg:Nat):Int),Za,f,st,st)/\hW f=hW l/\
   (∀j,¬(hW A<=j/\j<hW A+hW seg)->f[j]?=out[j]?)/\∀j,hW A<=j->j<hW A+hW seg->(y:j<hW l)->l[j].1=7->∀inner e rest,l.drop (j+1)=inner++e::rest->e.1=0->bu inner 0=O 0->f[j]?=O ((j+1+hW inner:Nat):Int)
 |k,A,[],B,out,st,_,b,M,E,hst=>⟨out,Reach.refl,E,λj _=>rfl,λj h1 h2=>by simp at h2;omega⟩
 |0,A,o::seg,B,out,st,p,_,_,_,_=>by simp at p
 |k+1,A,o::seg,B,out,st,p,b,M,E,hst=>by
  simp only[cD]at p⊢;have L:hW l=hW A+(hW seg+1)+hW B:=by rw[b];simp;omega
  have s:hW A<hW l:=by omega
  have h:l[hW A]=o:=by
   have:l[hW A]?=O o:=by
    rw[b,cK,cL<|aB _,bD];rfl
   rw[aD s]at this;injection this
  by_cases r:o.1=7
  .have hs1:bu seg 1=O 0:=by
    simp only[bu]at M;rw[Zh,Zh,zE r]at M;exact M
   have⟨inner,e,rest,h1,h2,h3,h4⟩:=EQ _ seg 0 (aB _) hs1;subst h1;simp only[cM,cD]at p L⊢
   have hd:l.drop (hW A+1)=inner++e::(rest++B):=by
    rw[b,cK,dG,dH V1,show hW A+1-hW A=1 by omega];simp
   have u:hW (A++[o])=hW A+1:=by simp
   have⟨S1,W,l1,N,F⟩:=Tx D k (A++[o]) inner (e::(rest++B)) (out.set (hW A)<|-1) (st++[(hW A:Int)]) V1 (by rw[b];simp) h3 (by simp[E]) V3;rw[u]at W N F;have K:hW A+1+hW inner<hW l:=by omega
   have J:l[hW A+1+hW inner]=e:=by
    have h5:(l.drop<|hW A+1)[hW inner]?=O e:=by
     rw[hd,cL<|aB _,bD];rfl
    rw[dJ,aD K]at h5;injection h5
   have c1:=aC9 (st:=st) D V1 K (by rw[J];exact h2) l1 s;have hA2:hW (A++o::(inner++[e]))=hW A+1+hW inner+1:=by simp;omega
   have⟨S2,r2,l3,k2,g2⟩:=Tx D k (A++o::(inner++[e])) rest B (((S1.set (hW A+1+hW inner)<|-1).set (hW A+1+hW inner) (hW A:Int)).set (hW A) ((hW A+1+hW inner:Nat):Int)) st V1 (by rw[b];simp) h4 (by simp[l1]) V1;rw[hA2]at r2 k2 g2;refine⟨S2, ?_,l3,λj y=> ?_,λj h5 h6 y p c X d Q T V=> ?_⟩
   .have h0:=Reach.one<|aR9 (out:=out) (st:=st) D V1 s (by rw[h];exact r) E;have I:=((h0.trans W).trans<|Reach.one c1).trans r2;rw[show 1+hW inner+1+hW rest=hW inner+(hW rest+1)+1 by omega,show hW A+1+hW inner+1+hW rest=hW A+(hW inner+(hW rest+1)+1)by omega]at I;exact I
   .rw[k2 j V1,cB V1,cB V1,cB V1,N j V1,cB V1]
   .by_cases z:hW A+1+hW inner+1<=j
    .exact g2 j z V1 y p c X d Q T V
    .rw[k2 j V1];by_cases q:hW A=j
     .subst q;rw[cY V3];have:=Aj (hd.symm.trans Q) h3 V h2 T;subst this;rfl
     .have hj3:j<hW A+1+hW inner:=by
       by_cases C:j<hW A+1+hW inner
       .exact C
       .exfalso;have C:j=hW A+1+hW inner:=by omega
        subst C;rw[J]at p;omega
      rw[cB q,cB V1,cB V1];exact F j V1 hj3 y p c X d Q T V
  .obtain⟨hsr,hko,_⟩:=QF M r;have u:hW (A++[o])=hW A+1:=by simp
   have c1:=bt6 (out:=out) (st:=st) D V1 s (by rw[h];exact hko) E;have⟨S1,W,l1,N,F⟩:=Tx D k (A++[o]) seg B (out.set (hW A)<|-1) st V1 (by rw[b];simp) hsr (by simp[E]) V1;rw[u]at W N F;refine⟨S1, ?_,l1,λj y=> ?_,λj h5 h6 y p c X d Q T V=> ?_⟩
   .have I:=(Reach.one c1).trans W;rw[show 1+hW seg=hW seg+1 by omega,show hW A+1+hW seg=hW A+(hW seg+1)by omega]at I;exact I
   .rw[N j V1,cB V1]
   .by_cases z:hW A+1<=j
    .exact F j z V1 y p c X d Q T V
    .have q:j=hW A:=by omega
     subst q;exact(r (by rw[<-h];exact p)).elim
def MM (o:hW l<=8192)(p:bu l 0=O 0): ∃m,kC l=O (0,m)/\MOK l m:=by
 have⟨S',j,q,y,f⟩:=Tx (l:=l) o _ [] l [] (bB (hX (hW l:Int)) (0:Int)) [] (aB _) V2 p V2 V2;rw[show(hW ([]:List bx))+hW l=(hW l) by simp]at j f
 have b:am (dp l) co ((0:Int),Za,bB (hX (hW l:Int)) (0:Int),([]:Zd),([]:Zd))=O (Za,S',[],[]):=by
  have h:=j<|18446744073709551616-hW l;rw[show 18446744073709551616-hW l+hW l=co by unfold co;omega,show 18446744073709551616-hW l=(18446744073709551615-hW l)+1 by omega]at h;refine h.trans ?_;rw[bi];simp only[dp];rw[Ze,zD];rfl
 refine⟨S', ?_,⟨q,λi hi k c e d r s u=>f i (cU _) hi hi k c e d r s u⟩⟩;unfold kC;rw[zB (show(0:Int)<=(hW l:Int)by omega),zB (show(hW l:Int)<=(hW l:Int)by omega),zB (show 8*(hW l:Int)<=140737488355328 by omega)];show gd Za _=_;rw[bp,b];rfl
end
section
variable {l:List bx}
def aC0 {sz:Zd}{pre:List<|Int×Int}(C:l.length<=8192)(D:pre.length<=8192)(hi:i<l.length):
  dg l ((i:Int),sz,rds,pre++[(a,w)])=(cond (Zc<|l[i].1=7)
   (O<|.inl (((i+1:Nat):Int),sz,rds,pre++[(a,w)]++[((i:Int),0)]))
   (cond (Zc<|l[i].1=0)
    ((rd l a).bind λs=>
    (uQ w s.2.2.2.2).bind λb=>
    cond (!b.2)
     (O<|.inr (9,sz,rds,pre++[(a,w)]))
     ((ix a sz.length).bind λf=>
     (sz[f]?).bind λz=>
     (ix a rds.length).bind λh=>
     (rds[h]?).bind λA=>
     gd (dz 0 (pre.length:Int)<|pre.length+1) ((ix (zH zI<|(pre.length:Int)-1) pre.length).bind λo=>
     ((pre++[(a,w)])[(0+o)]?).bind λu=>
     (AL<|[u.2,b.1]).bind λp=>
     (ix (zH zI<|(pre.length:Int)-1) pre.length).bind λj=>
     ((pre++[(a,w)])[(0+j)]?).bind λy=>
     O (.inl (((i+1:Nat):Int),dM sz f b.1,dM rds h w,List.take pre.length<|dM (pre++[(a,w)]) (0+j) (y.1,p))))))
    ((jX l[i].1 l[i].2.1 l[i].2.2.1 l[i].2.2.2.1 l[i].2.2.2.2).bind λq=>
    cond q.2
     ((ix (i:Int) sz.length).bind λk=>
     (sz[k]?).bind λB=>
     O (.inl (((i+1:Nat):Int),dM sz k 1,rds,pre++[(a,zH zI<|w+1)])))
     (O<|.inl (((i+1:Nat):Int),sz,rds,pre++[(a,w)]))))):=by
 have d:(pre++[(a,w)]).length=pre.length+1:=by simp
 have c:(pre++[(a,w)])[pre.length]?=O (a,w):=by
  rw[cL<|aB _,bD];rfl
 have e: ∀r,(pre++[(a,w)]).set pre.length (a,r)=pre++[(a,r)]:=by
  intro r;rw[dN _ _<|aB _,bD];rfl
 simp only[dg];rw[zB (show(i:Int)<(l.length:Int)by omega),zC,bt hi];simp only[zG];rw[d,ae (n:=((pre.length+1:Nat):Int)-1) V1,show((pre.length+1:Nat):Int)-1=(pre.length:Int)by omega,bn (show pre.length<pre.length+1 by omega)];simp only[zG];rw[c,ae (n:=(i:Int)+1) V1,bg V1 V1,show(i:Int)+1=((i+1:Nat):Int)by omega];simp only[zG];rw[e,show((pre.length:Int).toNat-0)=pre.length by omega]
def bE4 {sz:Zd}{pre:List<|Int×Int}(c:hW l<=8192)(d:hW pre<=8192)(hi:i<hW l)(b:0<l[i].1/\l[i].1<7)(e:hW sz=hW l)(f:0<=w/\w<=1000000000):
  dg l ((i:Int),sz,rds,pre++[(a,w)])=O (.inl (((i+1:Nat):Int),sz.set i 1,rds,pre++[(a,w+1)])):=by
 rw[aC0 c d hi,Ze,Ze];simp only[zD];rw[Ig b];simp only[zG,zC];rw[bn (show i<(hW sz) by omega),zG,aD (show i<(hW sz) by omega),zG,ae (n:=w+1) V1]
def bk4 {sz:Zd}{pre:List<|Int×Int}(c:hW l<=8192)(d:hW pre<=8192)(hi:i<hW l)(b:l[i].1=7):
  dg l ((i:Int),sz,rds,pre++[(a,w)])=O (.inl (((i+1:Nat):Int),sz,rds,pre++[(a,w)]++[((i:Int),0)])):=by
 rw[aC0 c d hi,zB b,zC]
def aR2 {b:Nat}{sz:Zd}{pre:List<|Int×Int}{w2 n:Int}(p:l.length<=8192)(y:pre.length<8192)(hi:i<l.length)(o:l[i].1=0)(c:b<l.length)(s:sz.length=l.length)(r:rds.length=l.length)(k:0<=w/\w<=1000000000)(u:0<=w2/\w2<=1000000000)
  (j:0<=l[b].2.2.2.2/\l[b].2.2.2.2<=18446744073709551615) (h:BM w l[b].2.2.2.2=O n):
  dg l ((i:Int),sz,rds,pre++[(a,w2)]++[((b:Int),w)])=O (.inl (((i+1:Nat):Int),sz.set b n,rds.set b w,pre++[(a,w2+n)])):=by
 have e:(pre++[(a,w2)]).length=pre.length+1:=by simp
 rw[aC0 p V1 hi,Ze,zB o];simp only[zD,zC];rw[bt c];simp only[zG];rw[PE ⟨k.1,V1⟩ j,h];have q:=Jt k.1 j.1 h;simp only[zG,dA,zD];rw[bn (show b<sz.length by omega)];simp only[zG];rw[aD (show b<sz.length by omega)];simp only[zG];rw[bn (show b<rds.length by omega)];simp only[zG];rw[aD (show b<rds.length by omega)];simp only[zG];rw[Zk,bp,e,ae (n:=((pre.length+1:Nat):Int)-1) V1,show((pre.length+1:Nat):Int)-1=(pre.length:Int)by omega,bn (show pre.length<pre.length+1 by omega)];simp only[zG,cS]
 have d:(pre++[(a,w2)]++[((b:Int),w)])[pre.length]?=O (a,w2):=by
  rw[cK,cL<|aB _,bD];rfl
 rw[d];simp only[zG];rw[WE _ _ V1 q];simp only[zG]
 have f:((pre++[(a,w2)]++[((b:Int),w)]).set pre.length (a,w2+n)).take (pre.length+1)=pre++[(a,w2+n)]:=by
  rw[cK,dN _ _<|aB _,bD];show(pre++[(a,w2+n),((b:Int),w)]).take (pre.length+1)=_;rw[show [(a,w2+n),((b:Int),w)]=[(a,w2+n)]++[((b:Int),w)]from rfl,<-cK,dP];simp
 rw[f]
def be9 (l:List bx)(j:Nat)(a b:Int):Prop:= ∀h:j<hW l,(l[j].1=7->∀c e d,l.drop (j+1)=c++e::d->e.1=0->bu c 0=O 0->Q9 c=O b/\BM b l[j].2.2.2.2=O a)/\(l[j].1≠7->b=0/\a=if l[j].1=0 then 0 else 1)
def ab0 (N:hW l<=8192)(hv: ∀o∈l,0<=o.2.2.2.2/\o.2.2.2.2<=18446744073709551615): ∀(k:Nat) (A seg B:List bx) (S R:Zd) (pre:List<|Int×Int) (p w t:Int),hW seg<=k->l=A++seg++B->bu seg 0=O 0->Q9 seg=O t->hW S=hW l->hW R=hW l->hW pre<=hW A->0<=w/\w<=65537*hW A->(∀j,hW A<=j->j<hW A+hW seg->S[j]?=O 0/\R[j]?=O 0)->
  ∃S' R',Reach (dg l) (hW seg) ((hW A:Int),S,R,pre++[(p,w)]) (((hW A+hW seg:Nat):Int),S',R',pre++[(p,w+t)])/\hW S'=hW l/\hW R'=hW l/\(0<=t/\t<=65537*hW seg)/\
   (∀j,¬(hW A<=j/\j<hW A+hW seg)->S'[j]?=S[j]?/\R'[j]?=R[j]?)/\∀j,hW A<=j->j<hW A+hW seg->∃a b,S'[j]?=O a/\R'[j]?=O b/\be9 l j a b
 |k,A,[],B,S,R,pre,p,w,t,_,d,Q,q,hS,hR,hpre,hw,I=>by
  cases q;refine⟨S,R, ?_,hS,hR,⟨dC _,V2⟩,λj _=>⟨rfl,rfl⟩,λj h1 M=> ?_⟩
  .rw[dB];exact Reach.refl
  .simp at M;omega
 |0,A,o::seg,B,S,R,pre,p,w,t,hk,_,_,_,_,_,_,_,_=>by simp at hk
 |k+1,A,o::seg,B,S,R,pre,p,w,t,hk,d,Q,q,hS,hR,hpre,hw,I=>by
  simp only[cD]at hk I⊢;have hlen:hW l=hW A+(hW seg+1)+hW B:=by rw[d];simp;omega
  have D:hW A<hW l:=by omega
  have f:l[hW A]=o:=by
   have:l[hW A]?=O o:=by
    rw[d,cK,cL<|aB _,bD];rfl
   rw[aD D]at this;injection this
  by_cases u:o.1=7
  .have hs1:bu seg 1=O 0:=by
    simp only[bu]at Q;rw[Zh,Zh,zE u]at Q;exact Q
   have⟨c,e,r,h1,M,h3,h4⟩:=EQ _ seg 0 (aB _) hs1;subst h1;simp only[cM,cD]at hk I hlen⊢;have⟨L,hQ⟩:=R3 Q u M h3;rw[hQ]at q;obtain⟨wi,hwi,q⟩:=ai q;obtain⟨b,hb,q⟩:=ai q;cases s:Q9 r with
   |none=>rw[s]at q;cases q
   |some tr=>
   rw[s]at q;injection q with q
   have q:b+tr=t:=q;have hov:0<=o.2.2.2.2/\o.2.2.2.2<=18446744073709551615:=by rw[<-f];exact hv _ (cP D)
   have hd:l.drop (hW A+1)=c++e::(r++B):=by
    rw[d,cK,dG,dH V1,show hW A+1-hW A=1 by omega];simp
   have F:hW (A++[o])=hW A+1:=by simp
   have⟨S1,R1,r1,l1,l2,⟨t1,t2⟩,y,T⟩:=ab0 N hv k (A++[o]) c (e::(r++B)) S R (pre++[(p,w)]) (hW A:Int) 0 wi V1 ek h3 hwi hS hR V3 V1<|λj z E=>I j V1 V1;rw[F]at r1 y T;have hei:hW A+1+hW c<hW l:=by omega
   have J:l[hW A+1+hW c]=e:=by
    have z:(l.drop<|hW A+1)[hW c]?=O e:=by
     rw[hd,cL<|aB _,bD];rfl
    rw[dJ,aD hei]at z;injection z
   have hbn:=Jt t1 hov.1 hb;have c1:=aR2 (pre:=pre) (a:=p) (w2:=w) N V1 hei (by rw[J];exact M) D l1 l2 (w:=0+wi) V1 V1 (by rw[f];exact hov) (n:=b) (by rw[f,cN];exact hb);have X:hW (A++o::(c++[e]))=hW A+1+hW c+1:=by simp;omega
   have⟨S2,R2,r2,l3,l4,⟨t3,t4⟩,k2,g2⟩:=ab0 N hv k (A++o::(c++[e])) r B (S1.set (hW A) b) (R1.set (hW A)<|0+wi) pre p (w+b) tr V1 ek L s (by simp[l1]) (by simp[l2]) V1 V1 (λj z E=>by
    rw[X]at z E;rw[cB V1,cB V1,(y j V1).1,(y j V1).2]
    exact I j V1 V1)
   rw[X]at r2 k2 g2;refine⟨S2,R2, ?_,l3,l4,⟨V1,V1⟩,λj hj=> ?_,λj z E=> ?_⟩
   .have h0:=Reach.one<|bk4 (sz:=S) (rds:=R) (pre:=pre) (a:=p) (w:=w) N V1 D (by rw[f];exact u);have W:=((h0.trans r1).trans<|Reach.one c1).trans r2;rw[show 1+hW c+1+hW r=hW c+(hW r+1)+1 by omega,cQ,q,show hW A+1+hW c+1+hW r=hW A+(hW c+(hW r+1)+1)by omega]at W;exact W
   .rw[(k2 j V1).1,(k2 j V1).2,cB V1,cB V1,(y j V1).1,(y j V1).2];exact⟨rfl,rfl⟩
   .by_cases K:hW A+1+hW c+1<=j
    .exact g2 j K V1
    .rw[(k2 j V1).1,(k2 j V1).2];by_cases C:hW A=j
     .subst C;rw[cY V1,cY V1];refine⟨_,_,rfl,rfl,λh=>⟨λ_ inner' e' rest' p1 p2 p3=> ?_,λV=>(V (by rw[f];exact u)).elim⟩⟩;have:=Aj (hd.symm.trans p1) h3 p3 M p2;subst this;rw[cN,f];exact⟨hwi,hb⟩
     .rw[cB C,cB C];by_cases hj3:j<hW A+1+hW c
      .exact T j V1 hj3
      .have hj4:j=hW A+1+hW c:=by omega
       subst hj4;rw[(y _ V1).1,(y _ V1).2,(I _ z E).1,(I _ z E).2];refine⟨0,0,rfl,rfl,λh=>⟨λV=> ?_,λ_=>⟨rfl, ?_⟩⟩⟩
       .rw[J]at V;omega
       .rw[J,zE M]
  .obtain⟨L,hko,hQ⟩:=QF Q u;rw[hQ]at q;cases s:Q9 seg with
   |none=>rw[s]at q;cases q
   |some tr=>
   rw[s]at q;injection q with q
   have q:1+tr=t:=q;have F:hW (A++[o])=hW A+1:=by simp
   have c1:=bE4 (sz:=S) (rds:=R) (pre:=pre) (a:=p) (w:=w) N V1 D (by rw[f];exact hko) hS V1
   have⟨S1,R1,r1,l1,l2,⟨t1,t2⟩,y,T⟩:=ab0 N hv k (A++[o]) seg B (S.set (hW A) 1) R pre p (w+1) tr V1 ek L s (by simp[hS]) hR V1 V1 (λj z E=>by
    rw[F]at z E;rw[cB V1]
    exact I j V1 V1)
   rw[F]at r1 y T;refine⟨S1,R1, ?_,l1,l2,⟨V1,V1⟩,λj hj=> ?_,λj z E=> ?_⟩
   .have W:=(Reach.one c1).trans r1;rw[show 1+hW seg=hW seg+1 by omega,cQ,q,show hW A+1+hW seg=hW A+(hW seg+1)by omega]at W;exact W
   .rw[(y j V1).1,(y j V1).2,cB V1];exact⟨rfl,rfl⟩
   .by_cases K:hW A+1<=j
    .exact T j K V1
    .have C:j=hW A:=by omega
     subst C;rw[(y _ V1).1,(y _ V1).2,cY V1,(I _ z E).2];refine⟨1,0,rfl,rfl,λh=>⟨λV=>(u (by rw[<-f];exact V)).elim,λ_=>⟨rfl, ?_⟩⟩⟩;rw[f,Zh]
end
def Kf {l:List bx}(K:hW l<=4096)(B: ∀o∈l,0<=o.2.2.2.2/\o.2.2.2.2<=18446744073709551615):
  ∃r,kX l=O r/\r.1=(eg l).1/\r.2.1=(eg l).2/\(((eg l).2≠0/\r.2.2=([],[]))∨((eg l).2=0/\bu l 0=O 0/\hW r.2.2.1=hW l/\hW r.2.2.2=hW l/\∀j,j<hW l->∃a b,r.2.2.1[j]?=O a/\r.2.2.2[j]?=O b/\be9 l j a b)):=by
 have f:=ym V1 B;unfold gC at f;obtain⟨r,d,f⟩:=ai f;injection f with f
 refine⟨r,d,by rw[<-f],by rw[<-f], ?_⟩;unfold kX at d;have⟨m,E⟩:=Bn (l:=l) V1;rw[E]at d;by_cases k:bu l 0=O 0
 .simp only[zE k]at d;simp only[zG]at d;rw[zA V2,zD,zB (show(0:Int)<=(hW l:Int)by omega),zB (show(hW l:Int)<=(hW l:Int)by omega),zB (show 8*(hW l:Int)<=140737488355328 by omega)]at d;have q: ∀{β:Type} {y:Option β},gd (dQ 1 (Sh.w<|.int .i64)&&Za&&Za&&Za&&Nat.ble 1 8) y=y:=λ{β y}=>rfl
  rw[q,q]at d;cases u:Q9 l with
  |none=>
   have e:eg l=(0,9):=by unfold eg;rw[zE k,u]
   left;refine⟨by rw[e];simp, ?_⟩;obtain⟨c,J,d⟩:=ai d;obtain⟨p,D,d⟩:=ai d;rw[ah]at d;split at d
   .injection d with d
    rw[<-d]
   .rename_i M;exfalso;obtain⟨j,s,d⟩:=ai d;obtain⟨x,L,d⟩:=ai d;injection d with d
    rw[<-d,e]at f;injection f with _ f
    cases f
  |some t=>
   have⟨S',R',C,F,I,⟨Q,T⟩,N,z⟩:=ab0 (l:=l) V1 B _ [] l [] (bB (hX (hW l:Int)) (0:Int)) (bB (hX (hW l:Int)) (0:Int)) [] 0 0 t (aB _) V2 k u V2 V2 V2 V2 (λj _ s=>by
    rw[List.getElem?_replicate,zE (by simpa using s)]
    exact⟨rfl,rfl⟩)
   rw[show(hW ([]:List bx))+hW l=(hW l) by simp]at C z
   have h:am (dg l) co ((0:Int),bB (hX (hW l:Int)) (0:Int),bB (hX (hW l:Int)) (0:Int),[((0:Int),(0:Int))])=O (0,S',R',[(0,0+t)]):=by
    have A:=C<|18446744073709551616-hW l;rw[show 18446744073709551616-hW l+hW l=co by unfold co;omega,show 18446744073709551616-hW l=(18446744073709551615-hW l)+1 by omega]at A;refine A.trans ?_;rw[bi];simp only[dg];rw[Ze,zD];rfl
   rw[h,cN]at d;have d:(im (cond (Zc<|65536<t) (O (9:Int))<|O 0) λp=>cond (Zc<|p≠0) (O ((0:Int),p,([]:Zd),([]:Zd)))<|O (t,0,S',R'))=O r:=d;rw[ah]at d;have e:eg l=if 65536<t then(0,9)else(t,0):=by unfold eg;rw[zE k,u]
   by_cases c:65536<t
   .rw[zE c]at d e;left;injection d with d
    rw[<-d,e];exact⟨V2,rfl⟩
   .rw[zF c]at d e;right;injection d with d
    rw[<-d,e];exact⟨rfl,k,F,I,λj s=>z j (cU _) s⟩
 .simp only[zF k]at d;left;have e:eg l=(0,6):=by unfold eg;rw[zF k]
  have d:O ((0:Int),(6:Int),([]:Zd),([]:Zd))=O r:=d;injection d with d
  rw[<-d,e];exact⟨V2,rfl⟩
abbrev yG :=Int×Int×Int×Int×Int×Int
inductive Fo where
 |nil
 |op (o:bx) (r:Fo)
 |rep (o:bx) (b:Fo) (e:bx) (r:Fo)
def rI (o:bx):Nat:=hX o.2.2.2.2
def cr (o:bx)(b:Nat):yG:=(o.1,o.2.1,o.2.2.1,o.2.2.2.1,o.2.2.2.2,(b:Int))
namespace Fo
def src :Fo->List bx
 | .nil=>[]
 | .op o r=>o::r.src
 | .rep o b e r=>o::(b.src++e::r.src)
def Ok :Fo->Prop
 | .nil=>True
 | .op o r=>(0<o.1/\o.1<7)/\r.Ok
 | .rep o b e r=>(o.1=7/\e.1=0)/\b.Ok/\r.Ok
def n :Fo->Nat
 | .nil=>0
 | .op _ r=>1+r.n
 | .rep o b _ r=>b.n*rI o+r.n
def len :Fo->Nat
 | .nil=>0
 | .op _ r=>r.len+1
 | .rep _ b _ r=>b.len+r.len+2
def hi :Fo->Nat
 | .nil=>0
 | .op _ r=>r.hi
 | .rep _ b _ r=>max (b.hi+1) r.hi
def bare :Fo->Fo
 | .nil=> .nil
 | .op o r=> .op o r.bare
 | .rep o b e r=>if b.n*rI o=0 then r.bare else .rep o b.bare e r.bare
def unroll :Fo->List bx
 | .nil=>[]
 | .op o r=>o::r.unroll
 | .rep o b _ r=>(bB (rI o) b.unroll).flatten++r.unroll
def code :Fo->Nat->List yG
 | .nil,_=>[]
 | .op o r,p=>cr o 0::r.code (p+1)
 | .rep o b e r,p=>cr o (p+b.len+2)::(b.code (p+1)++cr e (p+1)::r.code (p+b.len+2))
def Pos :Fo->Prop
 | .nil=>True
 | .op _ r=>r.Pos
 | .rep o b _ r=>0<b.n*rI o/\b.Pos/\r.Pos
def steps :Fo->Nat
 | .nil=>0
 | .op _ r=>1+r.steps
 | .rep o b _ r=>1+rI o*(b.steps+1)+r.steps
def src_len : ∀f:Fo,hW f.src=f.len
 | .nil=>rfl
 | .op o r=>by simp only[src,len,cD,src_len r]
 | .rep o b e r=>by simp only[src,len,cD,cM,src_len r,src_len b];omega
def code_len : ∀(f:Fo) (p:Nat),hW (f.code p)=f.len
 | .nil,_=>rfl
 | .op o r,p=>by simp only[code,len,cD,code_len r]
 | .rep o b e r,p=>by simp only[code,len,cD,cM,code_len r,code_len b];omega
def scan_src : ∀(f:Fo),f.Ok->∀(r:List bx) (d:Nat),bu (f.src++r) d=bu r d
 | .nil,_,r,d=>rfl
 | .op o f,h,r,d=>by
  have⟨j,c⟩:=h;simp only[src,cO,bu];rw[Zh,Zh,Zh];exact scan_src f c r d
 | .rep o b e f,h,r,d=>by
  have⟨⟨j,c⟩,k,p⟩:=h;simp only[src,cO,cK,bu];rw[Zh,Zh,zE j,scan_src b k];simp only[bu];rw[Zh,zE c,Zh];exact scan_src f p r d
def scan0 {f:Fo}(h:f.Ok):bu f.src 0=O 0:=by
 have:=scan_src f h [] 0;rw[dF]at this;exact this
def parse : ∀(N:Nat) (l:List bx),hW l<=N->bu l 0=O 0->∃f:Fo,f.Ok/\f.src=l
 |_,[],_,_=>⟨.nil,trivial,rfl⟩
 |0,o::l,h,_=>by simp at h
 |N+1,o::l,h,j=>by
  simp only[cD]at h;by_cases q:o.1=7
  .have s:bu l 1=O 0:=by
    simp only[bu]at j;rw[Zh,Zh,zE q]at j;exact j
   have⟨c,e,d,k,p,B,C⟩:=EQ _ l 0 (aB _) s;subst k;simp only[cM,cD]at h;have⟨b,z,A⟩:=parse N c V1 B;have⟨r,u,y⟩:=parse N d V1 C;exact⟨.rep o b e r,⟨⟨q,p⟩,z,u⟩,by simp only[src,A,y]⟩
  .obtain⟨k,p,_⟩:=QF j q;have⟨r,u,y⟩:=parse N l V1 k;exact⟨.op o r,⟨p,u⟩,by simp only[src,y]⟩
def Q9_n : ∀(f:Fo),f.Ok->(∀o∈f.src,0<=o.2.2.2.2)->∀{t:Int},Q9 f.src=O t->t=(f.n:Int)
 | .nil,_,_,t,h=>by
  injection h with h
  exact h.symm
 | .op o r,h,u,t,d=>by
  have⟨z,p⟩:=h;have A:=scan0 (f:= .op o r) ⟨z,p⟩;have⟨_,_,q⟩:=QF (o:=o) (s:=r.src) A V1;have d:Q9 (o::r.src)=O t:=d;rw[q]at d;cases k:Q9 r.src with
  |none=>rw[k]at d;cases d
  |some m=>
   rw[k]at d;injection d with d
   have:=Q9_n r p (λx y=>u x<|List.mem_cons_of_mem _ y) k;subst this;rw[<-d];show(1:Int)+(r.n:Int)=((1+r.n:Nat):Int);omega
 | .rep o b e r,h,u,t,d=>by
  have⟨⟨z,p⟩,q,C⟩:=h;have A:=scan0 (f:= .rep o b e r) ⟨⟨z,p⟩,q,C⟩;have⟨_,I⟩:=R3 (o:=o) (e:=e) (inner:=b.src) (rest:=r.src) A z p<|scan0 q;have d:Q9 (o::(b.src++e::r.src))=O t:=d;rw[I]at d;obtain⟨w,J,d⟩:=ai d;obtain⟨c,j,d⟩:=ai d;cases k:Q9 r.src with
  |none=>rw[k]at d;cases d
  |some m=>
   rw[k]at d;injection d with d
   have D:=Q9_n r C (λx y=>u x (by simp only[src];simp[y])) k;have E:=Q9_n b q (λx y=>u x (by simp only[src];simp[y])) J;have B:0<=o.2.2.2.2:=u o (by simp[src])
   have F:c=(b.n:Int)*(rI o:Int):=by
    unfold BM at j;rw[E]at j;unfold rI;rw[dW B];split at j
    .rename_i K;injection j with j
     rw[K,Int.zero_mul,j]
    split at j
    .cases j
    split at j
    .cases j
    .injection j with j
     exact j.symm
   rw[<-d,D,F];show(b.n:Int)*(rI o:Int)+(r.n:Int)=((b.n*rI o+r.n:Nat):Int);simp
def hmax_src : ∀(f:Fo),f.Ok->∀(r:List bx) (d m:Nat),hmax (f.src++r) d m=hmax r d (max m (if f.hi=0 then 0 else d+f.hi))
 | .nil,_,r,d,m=>by
  simp only[src,cR,hi,zE];rw[Nat.max_zero]
 | .op o f,h,r,d,m=>by
  have⟨j,c⟩:=h;simp only[src,cO,hmax,hi];rw[Zh,Zh];exact hmax_src f c r d m
 | .rep o b e f,h,r,d,m=>by
  have⟨⟨j,c⟩,p,q⟩:=h;simp only[src,cO,cK,hmax,hi];rw[zE j,hmax_src b p];simp only[hmax];rw[Zh,zE c,eT,hmax_src f q]
  congr 1
  have k:(if max (b.hi+1) f.hi=0 then 0 else d+max (b.hi+1) f.hi)=d+max (b.hi+1) f.hi:=zF V1;refine Eq.trans ?_ (congrArg (max m) k.symm);split<;>split<;>omega
def hi_le {f:Fo}(h:f.Ok):f.hi<=hmax f.src 0 0:=by
 have:=hmax_src f h [] 0 0;rw[dF]at this;rw[this];simp only[hmax];split<;>omega
def bare_n : ∀f:Fo,f.bare.n=f.n
 | .nil=>rfl
 | .op o r=>by simp only[bare,n,bare_n r]
 | .rep o b e r=>by
  simp only[bare,n];split
  .rename_i h;rw[h,bare_n r,cS]
  .simp only[n,bare_n b,bare_n r]
def lx : ∀f:Fo,hW f.unroll=f.n
 | .nil=>rfl
 | .op o r=>by simp only[unroll,n,cD,lx r];omega
 | .rep o b e r=>by
  simp only[unroll,n,cM,lx r];rw[eN,eO,eR,lx b,eG]
def bare_unroll : ∀f:Fo,f.bare.unroll=f.unroll
 | .nil=>rfl
 | .op o r=>by simp only[bare,unroll,bare_unroll r]
 | .rep o b e r=>by
  simp only[bare,unroll];split
  .rename_i h
   have c:hW ((bB (rI o) b.unroll).flatten)=0:=by
    rw[eN,eO,eR,lx b,eG,h]
   rw[List.eq_nil_of_length_eq_zero c,cR,bare_unroll r]
  .simp only[unroll,bare_unroll b,bare_unroll r]
def bare_ok : ∀f:Fo,f.Ok->f.bare.Ok
 | .nil,_=>trivial
 | .op o r,h=>⟨h.1,bare_ok r h.2⟩
 | .rep o b e r,h=>by
  simp only[bare];split
  .exact bare_ok r h.2.2
  .exact⟨h.1,bare_ok b h.2.1,bare_ok r h.2.2⟩
def bare_pos : ∀f:Fo,f.bare.Pos
 | .nil=>trivial
 | .op o r=>bare_pos r
 | .rep o b e r=>by
  simp only[bare];split
  .exact bare_pos r
  .rename_i h;exact⟨by rw[bare_n];omega,bare_pos b,bare_pos r⟩
def bare_hi : ∀f:Fo,f.bare.hi<=f.hi
 | .nil=>aB _
 | .op o r=>bare_hi r
 | .rep o b e r=>by
  simp only[bare,hi];have c:=bare_hi b;have d:=bare_hi r;split
  .omega
  .simp only[hi];omega
def bare_len : ∀f:Fo,f.bare.len<=f.len
 | .nil=>aB _
 | .op o r=>by simp only[bare,len];exact Nat.succ_le_succ (bare_len r)
 | .rep o b e r=>by
  simp only[bare,len];have c:=bare_len b;have d:=bare_len r;split
  .omega
  .simp only[len];omega
def bare_mem : ∀(f:Fo) {o:bx},o∈f.bare.src->o∈f.src
 | .nil,o,h=>h
 | .op o r,x,h=>by
  simp only[bare,src,eC]at h⊢;rcases h with h|h
  .exact .inl h
  .exact .inr (bare_mem r h)
 | .rep o b e r,x,h=>by
  simp only[bare]at h;split at h
  .simp only[src,eC,eP];exact .inr (.inr<|.inr<|bare_mem r h)
  .simp only[src,eC,eP]at h⊢;rcases h with h|h|h|h
   .exact .inl h
   .exact .inr (.inl<|bare_mem b h)
   .exact .inr (.inr<|.inl h)
   .exact .inr (.inr<|.inr<|bare_mem r h)
def steps_le : ∀f:Fo,f.Pos->f.steps<=(2*f.len+1)*f.n
 | .nil,_=>aB _
 | .op o r,h=>by
  have c:=steps_le r h;simp only[steps,len,n];rw[eF,dS];have:(2*r.len+1)*r.n<=(2*(r.len+1)+1)*r.n:=eH _ V1;omega
 | .rep o b e r,h=>by
  have⟨c,d,j⟩:=h;have p:=steps_le b d;have y:=steps_le r j;simp only[steps,len,n]
  have s:0<rI o:=by
   rcases dR (rI o)with h0|h0
   .rw[h0]at c;simp at c
   .exact h0
  have k:0<b.n:=by
   rcases dR b.n with h0|h0
   .rw[h0]at c;simp at c
   .exact h0
  have u:rI o<=b.n*rI o:=Nat.le_mul_of_pos_left _ k
  have z:rI o*(b.steps+1)<=(2*b.len+1)*(b.n*rI o)+b.n*rI o:=by
   rw[eF,dS];have:rI o*b.steps<=rI o*((2*b.len+1)*b.n):=Nat.mul_le_mul_left _ p
   have q:rI o*((2*b.len+1)*b.n)=(2*b.len+1)*(b.n*rI o):=by
    rw[eG,Nat.mul_assoc]
   omega
  have A:(2*r.len+1)*r.n<=(2*(b.len+r.len+2)+1)*r.n:=eH _ V1;have B:(2*b.len+3)*(b.n*rI o)<=(2*(b.len+r.len+2)+1)*(b.n*rI o):=eH _ V1
  have C:(2*b.len+3)*(b.n*rI o)=(2*b.len+1)*(b.n*rI o)+b.n*rI o+b.n*rI o:=by
   rw[show 2*b.len+3=(2*b.len+1)+1+1 by omega,Nat.add_mul,Nat.add_mul,Nat.one_mul]
  rw[eF<|2*(b.len+r.len+2)+1];generalize rI o*(b.steps+1)=D at*;generalize (2*(b.len+r.len+2)+1)*(b.n*rI o)=E at*;generalize (2*(b.len+r.len+2)+1)*r.n=F at*;generalize (2*r.len+1)*r.n=I at*;generalize (2*b.len+3)*(b.n*rI o)=J at*;generalize (2*b.len+1)*(b.n*rI o)=K at*;omega
end Fo
def upd (l:Nat->Int)(j:Nat)(v:Int):Nat->Int:=λi=>cond (dQ j i) v<|l i
def pE (l:Nat->Int)(j:Nat)(v:Int):upd l j v j=v:=by
 unfold upd;rw[Nat.beq_refl];rfl
def LD {l:Nat->Int}{j:Nat}(h:i≠j):upd l j v i=l i:=by
 unfold upd;cases b:dQ j i with
 |true=>exact(h (Nat.eq_of_beq_eq_true b).symm).elim
 |false=>rfl
def Uu (o:bx):Prop:=0<=o.2.2.2.2/\o.2.2.2.2<=18446744073709551615
structure Runs {Z γ S:Type}(g:Z->Option (Z⊕γ))(code:List yG)(st:Nat->Nat->(Nat->Int)->S->Z)(stp:bx->S->S)(Vd:Nat->S->Prop)(good:bx->Prop):Prop where
 op: ∀{p d l s m o to},code[p]?=O (cr o to)->good o->(0<o.1/\o.1<7)->d<=8->Vd (1+m) s->g (st p d l s)=O (.inl<|st (p+1) d l<|stp o s)/\Vd m (stp o s)
 rep: ∀{p d l s m o to},code[p]?=O (cr o to)->o.1=7->d<8->Vd m s->g (st p d l s)=O (.inl<|st (p+1) (d+1) (upd l d o.2.2.2.2) s)
 nxt: ∀{p d l s m e to},code[p]?=O (cr e to)->e.1=0->d<8->1<l d->l d<=18446744073709551615->Vd m s->g (st p (d+1) l s)=O (.inl<|st to (d+1) (upd l d<|l d-1) s)
 out: ∀{p d l s m e to},code[p]?=O (cr e to)->e.1=0->d<8->l d=1->Vd m s->g (st p (d+1) l s)=O (.inl<|st (p+1) d (upd l d<|l d-1) s)
section
variable {Z γ S:Type} {g:Z->Option (Z⊕γ)} {code:List yG} {st:Nat->Nat->(Nat->Int)->S->Z} {stp:bx->S->S} {Vd:Nat->S->Prop} {good:bx->Prop}
def qe (stp:bx->S->S)(l:List bx)(s:S):S:=l.foldl (λs o=>stp o s) s
def Hn (l r:List bx)(s:S):qe stp (l++r) s=qe stp r (qe stp l s):=List.foldl_append
def He {A B:List yG}{x:yG}{r:List yG}{p:Nat}(b:code=A++(x::r)++B)(c:hW A=p):code[p]?=O x:=by
 subst c;rw[b,cK,cL<|aB _,bD];rfl
def rounds (C:Runs g code st stp Vd good){p q d t n:Nat}{e:bx}{u:List bx}(A:d<8)(b:code[q]?=O (cr e p))(B:e.1=0)
  (z: ∀(l:Nat->Int) (s:S) (m:Nat),Vd (n+m) s->∃l',(∀i,i<d+1->l' i=l i)/\Reach g t (st p (d+1) l s) (st q (d+1) l'<|qe stp u s)/\Vd m (qe stp u s)):
  ∀(k:Nat) (l:Nat->Int) (s:S) (m:Nat),k<18446744073709551615->l d=((k+1:Nat):Int)->Vd (n*(k+1)+m) s->
   ∃l',(∀i,i<d->l' i=l i)/\Reach g ((k+1)*(t+1)) (st p (d+1) l s) (st (q+1) d l'<|qe stp (bB (k+1) u).flatten s)/\Vd m (qe stp (bB (k+1) u).flatten s)
 |0,l,s,m,K,D,o=>by
  have⟨c,h,r,j⟩:=z l s m (by rw[cS,dS]at o;exact o);have E:(bB (0+1) u).flatten=u:=by simp
  rw[E];have f:c d=1:=by rw[h d V1,D];rfl
  refine⟨upd c d<|c d-1,λi hi=>by rw[LD V1,h i V1], ?_,j⟩;have y:=r.trans<|Reach.one<|C.out (l:=c) b B A f j;rw[show(0+1)*(t+1)=t+1 by omega];exact y
 |k+1,l,s,m,K,D,o=>by
  have L:n*(k+1+1)+m=n+(n*(k+1)+m):=by rw[Nat.mul_succ n<|k+1];omega
  rw[L]at o;have⟨c,h,r,j⟩:=z l s _ o;have f:c d=((k+1+1:Nat):Int):=by rw[h d V1,D]
  have y:=r.trans<|Reach.one<|C.nxt (l:=c) b B A V1 V1 j;have⟨M,F,I,J⟩:=rounds C A b B z k (upd c d<|c d-1) (qe stp u s) m V1 (by rw[pE,f];omega) j;have E:(bB (k+1+1) u).flatten=u++(bB (k+1) u).flatten:=by rw[List.replicate_succ,List.flatten_cons]
  rw[E,Hn];refine⟨M,λi hi=>by rw[F i hi,LD V1,h i V1], ?_,J⟩;rw[show(k+1+1)*(t+1)=t+1+(k+1)*(t+1)by rw[Nat.succ_mul<|k+1];omega];exact y.trans I
def Pu (C:Runs g code st stp Vd good): ∀(f:Fo) {A B:List yG} {p d:Nat} {l:Nat->Int} {s:S} {m:Nat},code=A++f.code p++B->hW A=p->f.Ok->f.Pos->d+f.hi<=8->(∀o∈f.src,good o/\Uu o)->Vd (f.n+m) s->
  ∃l',(∀i,i<d->l' i=l i)/\Reach g f.steps (st p d l s) (st (p+f.len) d l'<|qe stp f.unroll s)/\Vd m (qe stp f.unroll s)
 | .nil,A,B,p,d,l,s,m,y,z,h,J,E,c,j=>by
  refine⟨l,λ_ _=>rfl,Reach.refl, ?_⟩;have:Fo.nil.n+m=m:=cS m;rw[this]at j;exact j
 | .op o r,A,B,p,d,l,s,m,y,z,h,J,E,c,j=>by
  simp only[Fo.n,Nat.add_assoc]at j;simp only[Fo.hi]at E;have⟨K,L⟩:=C.op (d:=d) (l:=l) (He y z) (c o ZS).1 h.1 V1 j;have T:hW (A++[cr o 0])=p+1:=by simp[z]
  have⟨l',M,N,Q⟩:=Pu C r (A:=A++[cr o 0]) (B:=B) (p:=p+1) (d:=d) (l:=l) (by rw[y];simp[Fo.code]) T h.2 J E (λx I=>c x (by simp[Fo.src,I])) L;refine⟨l',M, ?_,Q⟩;have:=(Reach.one K).trans N;simp only[Fo.steps,Fo.len];rw[show p+(r.len+1)=p+1+r.len by omega];exact this
 | .rep o b e r,A,B,p,d,l,s,m,y,z,h,J,E,c,j=>by
  have⟨⟨k1,k2⟩,k3,k4⟩:=h;have⟨q1,q2,q3⟩:=J;simp only[Fo.n,Nat.add_assoc]at j;simp only[Fo.hi]at E;have F:=(c o ZS).2;unfold Uu at F;have hvo:((rI o:Nat):Int)=o.2.2.2.2:=dW F.1
  have hv0:0<rI o:=by
   rcases dR (rI o)with h0|h0
   .rw[h0]at q1;simp at q1
   .exact h0
  obtain⟨k,h⟩: ∃k,rI o=k+1:=⟨rI o-1,V1⟩
  have K:=C.rep (d:=d) (l:=l) (He y z) k1 V1 j;have T:hW (A++[cr o<|p+b.len+2])=p+1:=by simp[z]
  have X:code=(A++[cr o<|p+b.len+2])++b.code (p+1)++(cr e (p+1)::r.code (p+b.len+2)++B):=by rw[y];simp[Fo.code]
  have hce:code=(A++cr o (p+b.len+2)::b.code (p+1))++(cr e (p+1)::r.code (p+b.len+2))++B:=by rw[y];simp[Fo.code]
  have V:hW (A++cr o (p+b.len+2)::b.code (p+1))=p+1+b.len:=by simp[z,Fo.code_len];omega
  have D:=He hce V
  have⟨l1,L,M,N⟩:=rounds C (p:=p+1) (q:=p+1+b.len) (d:=d) (t:=b.steps) (n:=b.n) (e:=e) (u:=b.unroll) V1 D k2
   (λl s m hm=>Pu C b X T k3 q2 V1 (λx I=>c x (by simp[Fo.src,I])) hm) k (upd l d o.2.2.2.2) s (r.n+m) V1 (by rw[pE,<-hvo,h]) (by rw[<-h];exact j)
  have hcr:code=(A++cr o (p+b.len+2)::(b.code (p+1)++[cr e<|p+1]))++r.code (p+b.len+2)++B:=by rw[y];simp[Fo.code]
  have W:hW (A++cr o (p+b.len+2)::(b.code (p+1)++[cr e<|p+1]))=p+b.len+2:=by simp[z,Fo.code_len];omega
  have⟨l2,Q,h6,h7⟩:=Pu C r (d:=d) (l:=l1) hcr W k4 q3 V1 (λx I=>c x (by simp[Fo.src,I])) N;simp only[Fo.unroll,Fo.steps,Fo.len];rw[Hn,h];refine⟨l2,λi hi=>by rw[Q i hi,L i hi,LD V1], ?_,h7⟩;have h8:=((Reach.one K).trans M).trans (show Reach g r.steps (st (p+1+b.len+1) d l1 _) _ from by rw[show p+1+b.len+1=p+b.len+2 by omega];exact h6);rw[show p+(b.len+r.len+2)=p+b.len+2+r.len by omega];exact h8
end
structure Backs {Z γ S:Type}(g:Z->Option (Z⊕γ))(code:List yG)(st:Nat->Nat->(Nat->Int)->S->Z)(stp:bx->S->S)(Vd:Nat->S->Prop)(good:bx->Prop):Prop where
 op: ∀{p d l s m o to},code[p]?=O (cr o to)->good o->(0<o.1/\o.1<7)->d<=8->Vd (1+m) s->g (st (p+1) d l s)=O (.inl<|st p d l<|stp o s)/\Vd m (stp o s)
 rep: ∀{p q d l s m o e to},code[p]?=O (cr e<|q+1)->e.1=0->code[q]?=O (cr o to)->d<8->Vd m s->g (st (p+1) d l s)=O (.inl<|st p (d+1) (upd l d o.2.2.2.2) s)
 nxt: ∀{p d l s m o to},code[p]?=O (cr o<|to+1)->to<=hW code->o.1=7->d<8->1<l d->l d<=18446744073709551615->Vd m s->g (st (p+1) (d+1) l s)=O (.inl<|st to (d+1) (upd l d<|l d-1) s)
 out: ∀{p d l s m o to},code[p]?=O (cr o<|to+1)->o.1=7->d<8->l d=1->Vd m s->g (st (p+1) (d+1) l s)=O (.inl<|st p d (upd l d<|l d-1) s)
section
variable {Z γ S:Type} {g:Z->Option (Z⊕γ)} {code:List yG} {st:Nat->Nat->(Nat->Int)->S->Z} {stp:bx->S->S} {Vd:Nat->S->Prop} {good:bx->Prop}
def E5 (stp:bx->S->S)(l:List bx)(s:S):S:=l.foldr stp s
def M1 (l r:List bx)(s:S):E5 stp (l++r) s=E5 stp l (E5 stp r s):=List.foldr_append
def ad0 (B:Backs g code st stp Vd good){p q d t n:Nat}{o:bx}{u:List bx}(F:q<=hW code)(A:d<8)(b:code[p]?=O (cr o<|q+1))(D:o.1=7)
  (z: ∀(l:Nat->Int) (s:S) (m:Nat),Vd (n+m) s->∃l',(∀i,i<d+1->l' i=l i)/\Reach g t (st q (d+1) l s) (st (p+1) (d+1) l'<|E5 stp u s)/\Vd m (E5 stp u s)):
  ∀(k:Nat) (l:Nat->Int) (s:S) (m:Nat),k<18446744073709551615->l d=((k+1:Nat):Int)->Vd (n*(k+1)+m) s->
   ∃l',(∀i,i<d->l' i=l i)/\Reach g ((k+1)*(t+1)) (st q (d+1) l s) (st p d l'<|E5 stp (bB (k+1) u).flatten s)/\Vd m (E5 stp (bB (k+1) u).flatten s)
 |0,l,s,m,L,C,j=>by
  have⟨c,f,r,h⟩:=z l s m (by rw[cS,dS]at j;exact j);have E:(bB (0+1) u).flatten=u:=by simp
  rw[E];have e:c d=1:=by rw[f d V1,C];rfl
  refine⟨upd c d<|c d-1,λi hi=>by rw[LD V1,f i V1], ?_,h⟩;have y:=r.trans<|Reach.one<|B.out (l:=c) b D A e h;rw[show(0+1)*(t+1)=t+1 by omega];exact y
 |k+1,l,s,m,L,C,j=>by
  have M:n*(k+1+1)+m=n+(n*(k+1)+m):=by rw[Nat.mul_succ n<|k+1];omega
  rw[M]at j;have⟨c,f,r,h⟩:=z l s _ j;have e:c d=((k+1+1:Nat):Int):=by rw[f d V1,C]
  have y:=r.trans<|Reach.one<|B.nxt (l:=c) b F D A V1 V1 h;have⟨N,I,J,K⟩:=ad0 B F A b D z k (upd c d<|c d-1) (E5 stp u s) m V1 (by rw[pE,e];omega) h;have E:(bB (k+1+1) u).flatten=(bB (k+1) u).flatten++u:=by rw[eQ,List.flatten_append];simp
  rw[E,M1];refine⟨N,λi hi=>by rw[I i hi,LD V1,f i V1], ?_,K⟩;rw[show(k+1+1)*(t+1)=t+1+(k+1)*(t+1)by rw[Nat.succ_mul<|k+1];omega];exact y.trans J
def Js (E:Backs g code st stp Vd good): ∀(f:Fo) {A B:List yG} {p d:Nat} {l:Nat->Int} {s:S} {m:Nat},code=A++f.code p++B->A.length=p->f.Ok->f.Pos->d+f.hi<=8->(∀o∈f.src,good o/\Uu o)->Vd (f.n+m) s->
  ∃l',(∀i,i<d->l' i=l i)/\Reach g f.steps (st (p+f.len) d l s) (st p d l'<|E5 stp f.unroll s)/\Vd m (E5 stp f.unroll s)
 | .nil,A,B,p,d,l,s,m,y,C,h,K,F,c,D=>by
  refine⟨l,λ_ _=>rfl,Reach.refl, ?_⟩;have:Fo.nil.n+m=m:=cS m;rw[this]at D;exact D
 | .op o r,A,B,p,d,l,s,m,y,C,h,K,F,c,D=>by
  simp only[Fo.n]at D;simp only[Fo.hi]at F;have V:(A++[cr o 0]).length=p+1:=by simp[C]
  obtain⟨l',N,Q,T⟩:=Js E r (A:=A++[cr o 0]) (B:=B) (p:=p+1) (d:=d) (l:=l) (m:=1+m) (by rw[y];simp[Fo.code]) V h.2 K F (λx J=>c x (by simp[Fo.src,J])) (by rw[show r.n+(1+m)=1+r.n+m by omega];exact D);obtain⟨L,M⟩:=E.op (d:=d) (l:=l') (He y C) (c o ZS).1 h.1 V1 T;refine⟨l',N, ?_,M⟩;have:=Q.trans<|Reach.one L;simp only[Fo.steps,Fo.len];rw[show p+(r.len+1)=p+1+r.len by omega,Nat.add_comm 1];exact this
 | .rep o b e r,A,B,p,d,l,s,m,y,C,h,K,F,c,D=>by
  obtain⟨⟨k1,k2⟩,k3,k4⟩:=h;obtain⟨q1,q2,q3⟩:=K;simp only[Fo.n]at D;simp only[Fo.hi]at F;have I:=(c o ZS).2;unfold Uu at I;have hvo:((rI o:Nat):Int)=o.2.2.2.2:=dW I.1
  have hv0:0<rI o:=by
   rcases dR (rI o)with h0|h0
   .rw[h0]at q1;simp at q1
   .exact h0
  obtain⟨k,h⟩: ∃k,rI o=k+1:=⟨rI o-1,V1⟩
  have j:=He y C;have V:(A++[cr o<|p+b.len+2]).length=p+1:=by simp[C]
  have hcb:code=(A++[cr o<|p+b.len+2])++b.code (p+1)++(cr e (p+1)::r.code (p+b.len+2)++B):=by rw[y];simp[Fo.code]
  have hce:code=(A++cr o (p+b.len+2)::b.code (p+1))++(cr e (p+1)::r.code (p+b.len+2))++B:=by rw[y];simp[Fo.code]
  have W:(A++cr o (p+b.len+2)::b.code (p+1)).length=p+1+b.len:=by simp[C,Fo.code_len];omega
  have z:=He hce W;have hcr:code=(A++cr o (p+b.len+2)::(b.code (p+1)++[cr e<|p+1]))++r.code (p+b.len+2)++B:=by rw[y];simp[Fo.code]
  have X:(A++cr o (p+b.len+2)::(b.code (p+1)++[cr e<|p+1])).length=p+b.len+2:=by simp[C,Fo.code_len];omega
  obtain⟨l2,T,h6,h7⟩:=Js E r (d:=d) (l:=l) (m:=b.n*rI o+m) hcr X k4 q3 V1 (λx J=>c x (by simp[Fo.src,J])) (by rw[show r.n+(b.n*rI o+m)=b.n*rI o+r.n+m by omega];exact D);have L:=E.rep (d:=d) (l:=l2) z k2 j V1 h7
  obtain⟨l1,M,N,Q⟩:=ad0 E (p:=p) (q:=p+1+b.len) (d:=d) (t:=b.steps) (n:=b.n) (o:=o) (u:=b.unroll) (Nat.le_of_lt (List.getElem?_eq_some_iff.1 z).1) V1 (by rw[j];congr 2;omega) k1
   (λl s m hm=>Js E b hcb V k3 q2 V1 (λx J=>c x (by simp[Fo.src,J])) hm) k (upd l2 d o.2.2.2.2) _ m V1 (by rw[pE,<-hvo,h]) (by rw[<-h];exact h7)
  simp only[Fo.unroll,Fo.steps,Fo.len];rw[M1,h];refine⟨l1,λi hi=>by rw[M i hi,LD V1,T i hi], ?_,Q⟩;have h8:=(h6.trans (show Reach g 1 _ _ from by rw[show p+b.len+2=p+1+b.len+1 by omega];exact Reach.one L)).trans N;rw[show p+(b.len+r.len+2)=p+b.len+2+r.len by omega,show 1+(k+1)*(b.steps+1)+r.steps=r.steps+1+(k+1)*(b.steps+1)by omega];exact h8
end
end
end Go.V
