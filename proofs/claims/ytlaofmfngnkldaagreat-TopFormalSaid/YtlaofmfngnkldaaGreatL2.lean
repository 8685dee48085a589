/- A part of the proof. No condition. -/
import Derived.Test.YtlaofmfngnkldaaGreatD3
import Derived.Test.YtlaofmfngnkldaaGreatA11
import Derived.KernelRfl
set_option linter.all false
namespace Go.V
open Go.Ab
open Option renaming some->O,none->Z
open Bool renaming true->Za,false->Zb
open Decidable renaming decide->Zc
open List renaming length_eq_zero_iff->aK
open List renaming mem_append->aF
open List renaming mem_cons->aA
open List renaming length->b8
open Int renaming toNat->b9
open Option renaming bind->bA
variable {i t x:Nat}{a v w:Int}{out rds st:Zd}
set_option maxRecDepth 100000
section
open Go.IntKind renaming wrap->zH,i64->zI,u64->zJ
open Bool renaming not_true->dL
open Int renaming zero_add->cY,add_assoc->dB,mul_nonneg->dH,add_zero->dM,le_refl->dN,ediv_le_self->eE,ediv_nonneg->eF,mul_ediv_self_le->eG,mul_le_mul_of_nonneg_left->eH,toNat_of_nonneg->eI,eq_ofNat_of_zero_le->eX,toNat_natCast->eY
open List renaming getElem?_eq_getElem->aD,replicate->bB,getElem?_set_ne->cB,length_cons->cD,append_assoc->cV,getElem?_append_right->cW,length_append->cX,cons_append->cZ,getElem_mem->dA,nil_append->dC,getElem_cons_drop->dE,range->dG,drop_length->dI,getElem?_set_self->dJ,length->dK,append_nil->dO,drop_append->dP,drop_of_length_le->dQ,getD->dR,getElem?_drop->dS,length_drop->dU,map_append->dV,set->dW,set_append_right->dX,take_append_drop->dY,take_left'->dZ,any_cons->eJ,any_nil->eM,dropLast_concat_getLast->eN,length_take->eO,mem_cons->eP,range_succ->eQ,take_succ_eq_append_getElem->eR,getElem?_cons_zero->eZ,length_flatten->fA,map_replicate->fB,mem_append->fC,replicate_succ'->fD,sum_replicate_nat->fE
open Nat renaming le_refl->aB,sub_self->bD,zero_add->dD,zero_le->dF,beq->eA,eq_zero_or_pos->eC,mul_one->eD,mul_add->eT,mul_comm->eU,mul_le_mul_right->eV,add_sub_cancel->fF
abbrev cg :=Int×Int×Int×Int×Int
def cf :List cg->Nat->Option Nat
 |[],d=>O d
 |o::r,d=>if o.1<0∨7<o.1 then Z else if o.1=0 then(if d=0 then Z else cf r<|d-1)else if o.1=7 then cf r (d+1)else cf r d
def qT : ∀(l r:List cg) (d:Nat),cf (l++r) d=(cf l d).bind (cf r)
 |[],r,d=>rfl
 |o::l,r,d=>by
  simp only[cZ,cf];split
  .rfl
  split
  .split
   .rfl
   .exact qT l r _
  split
  .exact qT l r _
  .exact qT l r _
def Hz : ∀(l:List cg) (d b:Nat),cf l d=O b->cf l (d+1)=O (b+1)
 |[],d,b,h=>by
  cases h;rfl
 |o::l,d,b,h=>by
  simp only[cf]at h⊢;split at h
  .cases h
  rename_i c;rw[zF c];split at h
  .rename_i e;rw[zE e];split at h
   .cases h
   .rename_i c3;rw[Zh];have:=Hz l _ _ h
    rwa [show d-1+1=d+1-1 by omega]at this
  rename_i e;rw[zF e];split at h
  .rename_i c3;rw[zE c3];exact Hz l _ _ h
  .rename_i c3;rw[zF c3];exact Hz l _ _ h
def aK9 (l:List cg)(s:Int×Bool×Zd×Zd×Zd):Prop:=
 ∃(i:Nat) (out st:Zd),i<=b8 l/\s=((i:Int),Za,out,st,st)/\b8 out=b8 l/\(∀x∈st,0<=x/\x<b8 l)/\b8 st<=i/\cf (l.drop i) (b8 st)=cf l 0
def aF4 (h:st≠[]): ∃pre x,st=pre++[x]:=⟨st.dropLast,st.getLast h,(eN h).symm⟩
def Uy {l:List cg}(J:l.length<=3518437208780)(s:Int×Bool×Zd×Zd×Zd)(h:aK9 l s):
  (∃b,du l s=O (.inl b)/\aK9 l b/\l.length-b.1.toNat<l.length-s.1.toNat)∨∃c,du l s=O (.inr c)/\((c.1=Zb/\cf l 0=Z)∨(c.1=Za/\cf l 0=O c.2.2.1.length)):=by
 obtain⟨i,out,st,hi,rfl,A,j,B,d⟩:=h;by_cases c:i<l.length
 .have o:l.drop i=l[i]::l.drop (i+1):=(dE c).symm;rw[o]at d;simp only[du];rw[zB (show(i:Int)<(l.length:Int)by omega),zC,cz c];simp only[zG];generalize L:l[i]=x at*;simp only[cf]at d;by_cases D:x.1<0
  .rw[zE<|.inl D]at d;rw[zB D];simp only[zC,zG,ll];exact .inr ⟨_,rfl, .inl ⟨rfl,d.symm⟩⟩
  rw[zA D,zD];by_cases k:7<x.1
  .rw[zE<|.inr k]at d;rw[zB k];simp only[zC,zG,di,ll];exact .inr ⟨_,rfl, .inl ⟨rfl,d.symm⟩⟩
  rw[zA k,zD];rw[Zh]at d;by_cases u:x.1=0
  .rw[zE u]at d;rw[zB u];simp only[zC,zG,di];by_cases p:st.length=0
   .rw[zE p]at d;rw[zB (show(st.length:Int)=0 by omega)];simp only[zC,zG,ll];exact .inr ⟨_,rfl, .inl ⟨rfl,d.symm⟩⟩
   .rw[zF p]at d;rw[zA (show¬(st.length:Int)=0 by omega),zD];rw[ad (n:=(st.length:Int)-1) V1,Zk,dj];simp only[zG,di];obtain⟨pre,q,rfl⟩:=aF4 (st:=st) (by intro e;subst e;exact p rfl);have H:=j q V2;have f:(pre++[q]).length=pre.length+1:=by simp
    have K:(((pre++[q]).length:Int)-1).toNat-0=pre.length:=by rw[f];omega
    have E:Zc (x.1=7)=Zb:=zA V1;rw[bq (show i<out.length by omega)];simp only[zG];rw[aD (show i<out.length by omega)];simp only[zG];rw[E,zD,show((pre++[q]).length:Int)-1=(pre.length:Int)by rw[f];omega,bq (show pre.length<(pre++[q]).length by omega)];simp only[zG];rw[cW<|aB _,bD];simp only[eZ,zG];rw[dj,bq (show i<(out.set i<|-1).length by simp;omega)];simp only[zG];rw[aD (show i<(out.set i<|-1).length by simp;omega)];simp only[zG];obtain⟨r,rfl⟩:=eX H.1;have I:r<out.length:=by omega
    rw[bq (show r<((out.set i<|-1).set i ((r:Nat):Int)).length by simp;omega)];simp only[zG];rw[aD (show r<((out.set i<|-1).set i ((r:Nat):Int)).length by simp;omega)];simp only[zG]
    have C:(pre++[(r:Int)]).take ((pre.length:Int).toNat-0)=pre:=by
     rw[show(pre.length:Int).toNat-0=pre.length by omega,dZ];rfl
    rw[C,ad (n:=(i:Int)+1) V1];refine .inl ⟨_,rfl,⟨i+1,_,pre,c,rfl,by simp[A],λy hy=>j y (by simp[hy]),by rw[f]at B;omega, ?_⟩,by simp;omega⟩;rw[f]at d;exact d
  .rw[zF u]at d;have F:Zc (x.1=0)=Zb:=zA u;rw[F];simp only[zD,zG,di];rw[bq (show i<out.length by omega)];simp only[zG];rw[aD (show i<out.length by omega)];simp only[zG];by_cases k:x.1=7
   .rw[zE k]at d;rw[zB k];simp only[zC];rw[bu V1 V1,bu V1 V1,ad (n:=(i:Int)+1) V1];refine .inl ⟨_,rfl,⟨i+1,_,st++[(i:Int)],c,rfl,by simp[A],λy hy=> ?_,by simp;omega, ?_⟩,by simp;omega⟩
    .rcases aF.1 hy with hy|hy
     .exact j y hy
     .simp at hy;subst hy;omega
    .rw[cX];exact d
   .rw[zF k]at d;rw[zA k];simp only[zD];rw[ad (n:=(i:Int)+1) V1];exact .inl ⟨_,rfl,⟨i+1,_,st,c,rfl,by simp[A],j,V1,d⟩,by simp;omega⟩
 .have z:i=l.length:=by omega
  subst z;rw[dI]at d;simp only[du];rw[zA (show¬(l.length:Int)<(l.length:Int)by omega),zD];exact .inr ⟨_,rfl, .inr ⟨rfl,d.symm⟩⟩
def Cr {l:List cg}(o:b8 l<=3518437208780): ∃m,lO l=O (if cf l 0=O 0 then 0 else 6,m):=by
 unfold lO;rw[zB (show(0:Int)<=(b8 l:Int)by omega),zB (show(b8 l:Int)<=(b8 l:Int)by omega),zB (show 8*(b8 l:Int)<=140737488355328 by omega)];show∃m,gd Za _=_
 rw[dj]
 obtain⟨c,k,h⟩:=iB (f:=du l) (a:=((0:Int),Za,bB (b9 (b8 l:Int)) (0:Int),([]:Zd),([]:Zd))) (aK9 l) (λs=>b8 l-b9 s.1) (λc=>(c.1=Zb/\cf l 0=Z)∨(c.1=Za/\cf l 0=O (b8 c.2.2.1)))
  ⟨0,_,[],dF _,rfl,V2,(λx q=>by cases q),aB _,rfl⟩ V4 (λs p=>Uy o s p)
 rw[k,zG];rcases h with⟨b,d⟩|⟨b,d⟩
 .rw[b,d];exact⟨_,rfl⟩
 rw[b,d,zC];by_cases j:b8 c.2.2.1=0
 .rw[zB (show(b8 c.2.2.1:Int)=0 by omega),zE (by rw[j])];exact⟨_,rfl⟩
 rw[zA (show¬(b8 c.2.2.1:Int)=0 by omega),zF Zl];exact⟨_,rfl⟩
def yQ (w v:Int):Option Int:=if w=0 then O 0 else if 65536<w then Z else if 65536 / w<v then Z else O<|w*v
def rC :List cg->List (Int×Int)->Option (List<|Int×Int)
 |[],st=>O st
 |o::r,(v,w)::st=>if o.1=7 then rC r ((o.2.2.2.2,0)::(v,w)::st)else if o.1=0 then(match yQ w v,st with
   |some n,(c,d)::b=>rC r ((c,d+n)::b)
   |_,_=>Z)
  else rC r ((v,w+1)::st)
 |_::_,[]=>Z
def MA (s:0<=w/\w<=10000000000)(f:0<=v/\v<=18446744073709551615):sP w v=O (match yQ w v with
  |some n=>(n,Za)
  |none=>(0,Zb)):=by
 unfold sP yQ;simp only[ap];by_cases b:w=0
 .rw[zE b,zE b]
 rw[zF b,zF b];by_cases c:65536<w
 .rw[zE c,zE c]
 rw[zF c,zF c,zB (show w≠0 from b),dj,Qu V1];have h:0<=65536 / w:=eF V1 V1;have j:65536 / w<=65536:=eE _ V1;rw[ad (n:=65536 / w) V1,Zj];by_cases d:65536 / w<v
 .rw[zE d,zE d]
 .rw[zF d,zF d]
  have o:w*v<=65536:=by
   have e:v<=65536 / w:=by omega
   have p:=eH e (show 0<=w by omega);have q:=eG (x:=65536) (k:=w) V1;omega
  have r:=dH (show 0<=w by omega) f.1;rw[ad (n:=v) V1,ad (n:=w*v) V1]
def GQ {n:Int}(d:0<=w)(c:0<=v)(h:yQ w v=O n):0<=n/\n<=65536:=by
 unfold yQ at h;split at h
 .injection h with h;subst h;omega
 split at h
 .cases h
 split at h
 .cases h
 rename_i e f j;cases h;have b:v<=65536 / w:=by omega
 have o:=eH b (show 0<=w by omega);have p:=eG (x:=65536) (k:=w) V1;exact⟨dH d c,V1⟩
def FD {k:Int}(h:0<k/\k<7)(d a b v:Int):jZ k d a b v=O (d,Za):=by
 unfold jZ rF;simp only[ap];have:k=1∨k=2∨k=3∨k=4∨k=5∨k=6:=by omega
 rcases this with rfl|rfl|rfl|rfl|rfl|rfl<;>rfl
def Th (a b:Int)(e:0<=a/\a<=1000000000000)(j:0<=b/\b<=65536):xM [a,b]=O (a+b):=by
 unfold xM
 have d:aq (Ag [a,b]) fy (0,0)=O (a+b):=by
  have h:=iW (f:=Ag [a,b]) (n:=2) (λi=>match i with|0=>0|1=>a|_=>a+b) (c:=a+b) V1 ?_ ?_
  .exact h
  .intro i hi
   match i,hi with
   |0,_=>
    show O (Sum.inl (zH zI 1,zH zI<|0+a))=_;rw[Zi,Zi,cY];rfl
   |1,_=>
    show O (Sum.inl (zH zI 2,zH zI<|a+b))=_;rw[Zi,Zi];rfl
  rfl
 rw[d];rfl
def aF3 (l:List cg)(op:List<|Int×Int):List<|Int×Int:=op.reverse.map λp=>((l.getD (b9 p.1) (0,0,0,0,0)).2.2.2.2,p.2)
def xB (l:List cg)(pre:List<|Int×Int)(p:Int×Int):aF3 l (pre++[p])=((l.getD (b9 p.1) (0,0,0,0,0)).2.2.2.2,p.2)::aF3 l pre:=by
 unfold aF3;rw[List.reverse_append,dV];rfl
def aL3 (l:List cg)(s:Int×Zd×Zd×List (Int×Int)):Prop:=
 ∃(i:Nat) (sz rd:Zd) (b:List<|Int×Int),i<=b8 l/\s=((i:Int),sz,rd,b)/\b8 sz=b8 l/\b8 rd=b8 l/\b≠[]/\b8 b<=i+1/\(∀p∈b,0<=p.1/\p.1<max (b8 l:Int) 1/\0<=p.2/\p.2<=65537*i)/\
  cf (l.drop i) (b8 b-1)=O 0/\rC (l.drop i) (aF3 l b)=rC l [((l.getD 0 (0,0,0,0,0)).2.2.2.2,0)]
def VS {l:List cg}(h:i<b8 l):l.getD i (0,0,0,0,0)=l[i]:=by
 rw[List.getD_eq_getElem?_getD,aD h];rfl
def P4 {l:List cg}(hl:l.length<=100000)(hv: ∀o∈l,0<=o.2.2.2.2/\o.2.2.2.2<=18446744073709551615)(s:Int×Zd×Zd×List (Int×Int))(h:aL3 l s):
  (∃b,dh l s=O (.inl b)/\aL3 l b/\l.length-b.1.toNat<l.length-s.1.toNat)∨
  ∃c,dh l s=O (.inr c)/\((c.1=9/\rC l [((l.getD 0 (0,0,0,0,0)).2.2.2.2,0)]=Z)∨(c.1=0/\∃p:Int×Int,c.2.2.2=[p]/\0<=p.2/\rC l [((l.getD 0 (0,0,0,0,0)).2.2.2.2,0)]=O [((l.getD p.1.toNat (0,0,0,0,0)).2.2.2.2,p.2)])):=by
 obtain⟨i,sz,rds,op,hi,rfl,I,H,L,hol,A,j,f⟩:=h;obtain⟨pre,⟨r,w⟩,rfl⟩: ∃pre x,op=pre++[x]:=⟨op.dropLast,op.getLast L,(eN L).symm⟩
 have q:=A (r,w) V2;simp only at q;have z:(pre++[(r,w)]).length=pre.length+1:=by simp
 rw[z]at hol j;rw[fF]at j
 have C:(pre++[(r,w)])[pre.length]?=O (r,w):=by
  rw[cW<|aB _,bD];rfl
 by_cases c:i<l.length
 .have F:l.drop i=l[i]::l.drop (i+1):=(dE c).symm;have hlv:=hv _<|dA c;have U:l.getD i (0,0,0,0,0)=l[i]:=VS c;rw[F]at j f;rw[xB]at f;simp only[dh];rw[zB (show(i:Int)<(l.length:Int)by omega),zC,cz c];simp only[zG];generalize hx:l[i]=x at*;simp only[cf]at j;simp only[rC]at f
  have Y: ¬(x.1<0∨7<x.1):=by
   intro Y;rw[zE Y]at j;cases j
  rw[zF Y]at j;rw[z,ad (n:=((pre.length+1:Nat):Int)-1) V1,show((pre.length+1:Nat):Int)-1=(pre.length:Int)by omega,bq (show pre.length<pre.length+1 by omega)];simp only[zG];by_cases J:x.1=7
  .rw[Zh,zE J]at j;rw[zE J]at f;rw[zB J,zC,bu V1 V1,ad (n:=(i:Int)+1) V1];refine .inl ⟨_,rfl,⟨i+1,sz,rds,pre++[(r,w)]++[((i:Int),0)],c,rfl,I,H,V2,by simp;omega,λp hp=> ?_, ?_, ?_⟩,by simp;omega⟩
   .rcases aF.1 hp with hp|hp
    .have:=A p hp;omega
    .simp at hp;subst hp;simp only;omega
   .rw[cX,z];exact j
   .rw[xB,xB];simp only[eY];rw[U];exact f
  .rw[zF J]at f;rw[zA J,zD];by_cases T:x.1=0
   .rw[zE T]at j f;rw[zB T,zC]
    have M:pre.length≠0:=by
     intro e;rw[zE e]at j;cases j
    rw[zF M]at j
    obtain⟨d,⟨k,u⟩,rfl⟩: ∃d x,pre=d++[x]:=by
     have D:pre≠[]:=by intro e;subst e;exact M rfl
     exact⟨pre.dropLast,pre.getLast D,(eN D).symm⟩
    have K:(d++[(k,u)]).length=d.length+1:=by simp
    have B:=A (k,u) V2;simp only at B;obtain⟨y,rfl⟩:=eX q.1;have E:y<l.length:=by omega
    rw[C];simp only[zG];rw[cz E];simp only[zG];have Q:=hv _<|dA E;rw[MA ⟨q.2.2.1,V1⟩ Q];simp only[zG];rw[xB]at f;simp only[eY]at f;rw[VS E]at f;cases V:yQ w l[y].2.2.2.2 with
    |none=>
     rw[V]at f;simp only[Bool.not_false,zC];exact .inr ⟨_,rfl, .inl ⟨rfl,f.symm⟩⟩
    |some n=>
     rw[V]at f;have hn:=GQ q.2.2.1 Q.1 V;simp only[dL,zD];rw[bq (show y<sz.length by omega)];simp only[zG];rw[aD (show y<sz.length by omega)];simp only[zG];rw[bq (show y<rds.length by omega)];simp only[zG];rw[aD (show y<rds.length by omega)];simp only[zG];rw[Zk,dj];have e1:((d++[(k,u)]).length:Int).toNat-0=d.length+1:=by rw[K];omega
     rw[e1,ad (n:=((d.length+1:Nat):Int)-1) V1,show((d.length+1:Nat):Int)-1=(d.length:Int)by omega,bq (show d.length<d.length+1 by omega)];simp only[zG,dD]
     have W:(d++[(k,u)]++[((y:Int),w)])[d.length]?=O (k,u):=by
      rw[cV,cW<|aB _,bD];rfl
     rw[W];simp only[zG];rw[Th _ _ V1 hn];simp only[zG]
     have htk:((d++[(k,u)]++[((y:Int),w)]).set d.length (k,u+n)).take (d.length+1)=d++[(k,u+n)]:=by
      rw[cV,dX _ _<|aB _,bD];show(d++[(k,u+n),((y:Int),w)]).take (d.length+1)=_;rw[show [(k,u+n),((y:Int),w)]=[(k,u+n)]++[((y:Int),w)]from rfl,<-cV,dZ];simp
     rw[htk,ad (n:=(i:Int)+1) V1];refine .inl ⟨_,rfl,⟨i+1,_,_,d++[(k,u+n)],c,rfl,by simp[I],by simp[H],V2,by simp;omega,λp hp=> ?_, ?_, ?_⟩,by simp;omega⟩
     .rcases aF.1 hp with hp|hp
      .have:=A p aW;omega
      .simp at hp;subst hp;simp only;omega
     .rw[K]at j;rw[cX];exact j
     .rw[xB];exact f
   .rw[zF T]at j f;rw[zF J]at j;rw[zA T,zD,FD V1];simp only[zG,zC];rw[bq (show i<sz.length by omega)];simp only[zG];rw[aD (show i<sz.length by omega)];simp only[zG];rw[C];simp only[zG];rw[ad (n:=w+1) V1,ad (n:=(i:Int)+1) V1]
    have N:(pre++[(r,w)]).set pre.length (r,w+1)=pre++[(r,w+1)]:=by
     rw[dX _ _<|aB _,bD];rfl
    rw[N];refine .inl ⟨_,rfl,⟨i+1,_,rds,pre++[(r,w+1)],c,rfl,by simp[I],H,V2,by simp;omega,λp hp=> ?_, ?_, ?_⟩,by simp;omega⟩
    .rcases aF.1 hp with hp|hp
     .have:=A p aW;omega
     .simp at hp;subst hp;simp only;omega
    .rw[cX];exact j
    .rw[xB];exact f
 .have X:i=l.length:=by omega
  subst X;rw[dI]at j f;simp only[dh];rw[zA (show¬(l.length:Int)<(l.length:Int)by omega),zD]
  have hp:pre=[]:=by
   have j:O pre.length=O 0:=j;injection j with j
   exact aK.1 j
  subst hp;refine .inr ⟨_,rfl, .inr ⟨rfl,(r,w),rfl,q.2.2.1, ?_⟩⟩;rw[<-f];rfl
def Q9 (l:List cg):Option Int:=bA (rC l [((l.getD 0 (0,0,0,0,0)).2.2.2.2,0)]) λst=>match st with
 |[p]=>O p.2
 |_=>Z
def eg (l:List cg):Int×Int:=if cf l 0=O 0 then(match Q9 l with
 |some w=>if 65536<w then(0,9)else(w,0)
 |none=>(0,9))else(0,6)
def vW {l:List cg}(C:b8 l<=100000)(E: ∀o∈l,0<=o.2.2.2.2/\o.2.2.2.2<=18446744073709551615):gK l=O (eg l):=by
 unfold gK kQ;have⟨m,D⟩:=Cr (l:=l) V1;rw[D];unfold eg;by_cases k:cf l 0=O 0
 .simp only[zE k];simp only[zG];rw[zA V2,zD,zB (show(0:Int)<=(b8 l:Int)by omega),zB (show(b8 l:Int)<=(b8 l:Int)by omega),zB (show 8*(b8 l:Int)<=140737488355328 by omega)];have b: ∀{β:Type} {y:Option β},gd (eA 1 (Sh.w<|.int .i64)&&Za&&Za&&Za&&Nat.ble 1 8) y=y:=λ{β y}=>rfl
  rw[b,b]
  have⟨c,B,h⟩:=iB (f:=dh l) (a:=((0:Int),bB (b9 (b8 l:Int)) (0:Int),bB (b9 (b8 l:Int)) (0:Int),[((0:Int),(0:Int))])) (aL3 l) (λs=>b8 l-b9 s.1) _
   ⟨0,_,_,[(0,0)],dF _,rfl,V2,V2,V2,V2,(λp q=>by simp at q;subst q;simp only;omega),k,rfl⟩ V4 (λs h=>P4 C E s h)
  rw[B,zG];unfold Q9;rcases h with⟨j,u⟩|⟨j,p,z,F,A⟩
  .rw[j,u];rfl
  rw[j,A,z];show(bA (bA (cond (Zc<|65536<p.2) (O (9:Int))<|O 0) λd=>cond (Zc<|d≠0) (O ((0:Int),d,([]:Zd),([]:Zd)))<|O (p.2,0,c.2.1,c.2.2.1)) λr=>O (r.1,r.2.1))=O (if 65536<p.2 then(0,9)else(p.2,0));rw[ap];by_cases e:65536<p.2
  .rw[zE e,zE e];rfl
  rw[zF e,zF e];rfl
 simp only[zF k];rfl
def Bl : ∀(l r:List cg) (st:List<|Int×Int),rC (l++r) st=(rC l st).bind (rC r)
 |[],r,st=>rfl
 |o::l,r,[]=>rfl
 |o::l,r,(v,w)::st=>by
  simp only[cZ,rC];split
  .exact Bl l r _
  split
  .split
   .exact Bl l r _
   .rfl
  .exact Bl l r _
def Wa (v w:Int)(b:List<|Int×Int):List (Int×Int)->List (Int×Int)
 |[]=>[]
 |[p]=>(v,w+p.2)::b
 |p::q::r=>p::Wa v w b (q::r)
def Oe (v w:Int)(c:List<|Int×Int)(p:Int×Int): ∀d:List<|Int×Int,Wa v w c (d++[p])=d++(v,w+p.2)::c
 |[]=>rfl
 |[a]=>rfl
 |a::b::r=>by
  show a::Wa v w c (b::r++[p])=_;rw[Oe v w c p<|b::r];rfl
def rY (v w:Int)(b:List<|Int×Int): ∀(l:List cg) (d:List<|Int×Int) (n0:Int) (c:Nat),cf l (b8 d)=O c->rC l (d++(v,w+n0)::b)=(rC l<|d++[(0,n0)]).map (Wa v w b)
 |[],d,n0,c,_=>by
  show O _=O _;rw[Oe]
 |o::l,[],n0,c,h=>by
  simp only[cf,List.length_nil]at h;simp only[dC,rC];split at h
  .cases h
  split at h
  .rw[zE trivial]at h;cases h
  rename_i k e;split at h
  .rename_i c3;rw[zE c3,zE c3];exact rY v w b l [(o.2.2.2.2,0)] n0 c h
  .rename_i c3;rw[zF c3,zF e,zF c3,zF e,dB];exact rY v w b l [] (n0+1) c h
 |o::l,(f,j)::d,n0,c,h=>by
  simp only[cf,cD]at h;simp only[cZ,rC];split at h
  .cases h
  split at h
  .rename_i k e;rw[Zh]at h;rw[Zh,zE e,Zh,zE e];cases p:yQ j f with
   |none=>rfl
   |some n=>
    cases d with
    |nil=>
     simp only[dC];rw[dB];exact rY v w b l [] (n0+n) c h
    |cons q d=>
     simp only[cZ];exact rY v w b l ((q.1,q.2+n)::d) n0 c h
  rename_i k e;split at h
  .rename_i c3;rw[zE c3,zE c3];exact rY v w b l ((o.2.2.2.2,0)::(f,j)::d) n0 c h
  .rename_i c3;rw[zF c3,zF e,zF c3,zF e];exact rY v w b l ((f,j+1)::d) n0 c h
def Hw : ∀(l:List cg) (st b:List<|Int×Int) (d f:Nat),b8 st=d+1->cf l d=O f->rC l st=O b->b8 b=f+1
 |[],st,b,d,f,h,c,e=>by
  injection c with c
  injection e with e
  subst c;subst e;exact h
 |o::l,[],b,d,f,h,_,_=>by simp at h
 |o::l,(v,w)::st,b,d,f,h,c,e=>by
  simp only[cf]at c;simp only[rC]at e;simp only[cD,Nat.add_right_cancel_iff]at h;split at c
  .cases c
  split at c
  .rename_i k j;split at c
   .cases c
   rw[Zh,zE j]at e;split at e
   .rename_i c3 _ _ n v' w' st2 _;exact Hw l _ b (d-1) f (by simp at h⊢;omega) c e
   .cases e
  rename_i k j;split at c
  .rename_i c3;rw[zE c3]at e;exact Hw l _ b (d+1) f V4 c e
  .rename_i c3;rw[zF c3,zF j]at e;exact Hw l _ b d f V4 c e
def Kj : ∀(l:List cg) (st b:List<|Int×Int),(∀o∈l,0<=o.2.2.2.2)->(∀p∈st,0<=p.1/\0<=p.2)->rC l st=O b->∀p∈b,0<=p.2
 |[],st,b,_,h,c=>by
  cases c;exact λp hp=>(h p hp).2
 |o::l,[],b,_,_,c=>by cases c
 |o::l,(v,w)::st,b,q,h,c=>by
  have f:=h (v,w) V2;have d: ∀p∈st,0<=p.1/\0<=p.2:=λp hp=>h p aW
  have e: ∀k∈l,0<=k.2.2.2.2:=λk j=>q k (by simp[j])
  simp only at f;simp only[rC]at c;split at c
  .refine Kj l _ b e (λp hp=> ?_) c;rcases aA.1 hp with rfl|hp
   .exact⟨q o V2,dN _⟩
   .exact h p hp
  split at c
  .split at c
   .rename_i n v' w' st2 hb;have r:=GQ f.2 f.1 hb;refine Kj l _ b e (λp hp=> ?_) c;rcases aA.1 hp with rfl|hp
    .have:=d (v',w') V2;simp only at this⊢;omega
    .exact d p aW
   .cases c
  .refine Kj l _ b e (λp hp=> ?_) c;rcases aA.1 hp with rfl|hp
   .simp only;omega
   .exact h p aW
def FM {l:List cg}(h:cf l 0=O 0)(v w:Int)(b:List<|Int×Int):rC l ((v,w)::b)=(Q9 l).map λm=>(v,w+m)::b:=by
 have c:=rY v w b l [] 0 0 h;rw[dC,dC,dM]at c;have d:=rY ((l.getD 0 (0,0,0,0,0)).2.2.2.2) 0 [] l [] 0 0 h;rw[dC,dC,dM]at d;unfold Q9;rw[c,d];cases f:rC l [(0,0)]with
 |none=>rfl
 |some st=>
  have e:=Hw l _ st 0 0 rfl h f
  match st,e with
  |[p],_=>
   show O ((v,w+p.2)::b)=O ((v,w+(0+p.2))::b);rw[cY]
def I1 {l:List cg}(e: ∀o∈l,0<=o.2.2.2.2){m:Int}(h:cf l 0=O 0)(d:Q9 l=O m):0<=m:=by
 have b:=FM h 0 0 [];rw[d]at b;have:=Kj l _ _ e (λp c=>by simp at c;subst c;simp) b (0,0+m) V2;simp only at this;omega
def Ge {l:List cg}(y:l.length<=100000):qd l=O (Zc<|cf l 0=O 0):=by
 unfold qd
 obtain⟨c,r,h⟩:=iB (f:=wl l) (a:=((0:Int),(0:Int))) (λs=> ∃i d:Nat,i<=l.length/\d<=i/\s=((i:Int),(d:Int))/\cf (l.drop i) d=cf l 0) (λs=>l.length-s.1.toNat)
  (λc=>(c= .inl Zb/\cf l 0=Z)∨∃d:Nat,c= .inr (d:Int)/\cf l 0=O d) ⟨0,0,dF _,aB _,rfl,rfl⟩ V4 (by
  rintro _ ⟨i,d,hi,u,rfl,b⟩;simp only[wl,ap];by_cases c:i<l.length
  .rw[(dE c).symm]at b;rw[Zg,cz c];simp only[zG];generalize l[i]=x at*;simp only[cf]at b;by_cases p:x.1<0
   .rw[zE<|.inl p]at b;rw[zE p];exact .inr ⟨_,rfl, .inl ⟨rfl,b.symm⟩⟩
   rw[zF p];by_cases q:7<x.1
   .rw[zE<|.inr q]at b;rw[zE q];exact .inr ⟨_,rfl, .inl ⟨rfl,b.symm⟩⟩
   rw[Zh]at b;rw[zF q];by_cases o:x.1=0
   .rw[zE o]at b;rw[Zh];simp only[zG];rw[zE o,ad (n:=(d:Int)-1) V1,ad (n:=(i:Int)+1) V1];by_cases k:d=0
    .rw[zE k]at b;rw[Zg];exact .inr ⟨_,rfl, .inl ⟨rfl,b.symm⟩⟩
    rw[zF k]at b;rw[Zh];exact .inl ⟨_,rfl,⟨i+1,d-1,c,V1,by rw[show((d-1:Nat):Int)=(d:Int)-1 by omega];rfl,b⟩,by simp;omega⟩
   rw[zF o]at b;by_cases j:x.1=7
   .rw[zE j]at b;rw[zE j];simp only[zG];rw[zF o,ad (n:=(d:Int)+1) V1,ad (n:=(i:Int)+1) V1,Zh];exact .inl ⟨_,rfl,⟨i+1,d+1,c,V1,rfl,b⟩,by simp;omega⟩
   rw[zF j]at b;rw[zF j];simp only[zG];rw[zF o,ad (n:=(i:Int)+1) V1,Zh];exact .inl ⟨_,rfl,⟨i+1,d,c,V1,rfl,b⟩,by simp;omega⟩
  have:i=l.length:=by omega
  subst this;rw[dI]at b;rw[Zh]
  exact .inr ⟨_,rfl, .inr ⟨d,rfl,b.symm⟩⟩)
 rw[r];rcases h with⟨rfl,h⟩|⟨d,rfl,h⟩
 .rw[h];rfl
 rw[h];show O (Zc<|(d:Int)=0)=O (Zc<|O d=O 0)
 congr 1
 rw[decide_eq_decide];constructor
 .intro e;have:d=0:=by omega
  rw[this]
 intro e;injection e with e;omega
def CE : ∀(n:Nat) (s:List cg) (d:Nat),b8 s<=n->cf s (d+1)=O 0->∃inner e rest,s=inner++e::rest/\e.1=0/\cf inner 0=O 0/\cf rest d=O 0
 |n,[],d,_,h=>by
  injection h with h
  omega
 |0,o::s,d,f,_=>by simp at f
 |n+1,o::s,d,f,h=>by
  simp only[cD]at f;simp only[cf]at h;split at h
  .cases h
  rename_i A;split at h
  .rename_i j;rw[Zh]at h;exact⟨[],o,s,rfl,j,rfl,h⟩
  rename_i j;split at h
  .rename_i c3;have⟨p,b,q,k,r,u,y⟩:=CE n s (d+1) V1 h;have c:b8 q<=n:=by rw[k]at f;simp at f;omega
   have⟨z,B,H,C,D,E,F⟩:=CE n q d c y;refine⟨o::p++b::z,B,H, ?_,D, ?_,F⟩
   .rw[k,C];simp
   .show cf (o::(p++b::z)) 0=_;simp only[cf];rw[zF A,zF j,zE c3,qT,Hz _ _ _ u];show cf (b::z) 1=_;simp only[cf];rw[Zh,zE r,Zh];exact E
  .rename_i c3;have⟨p,b,q,k,r,u,y⟩:=CE n s d V1 h;refine⟨o::p,b,q,by rw[k];rfl,r, ?_,y⟩;simp only[cf];rw[zF A,zF j,zF c3];exact u
def xm {s u E F:List cg}{e1 y:cg}(h:s++e1::E=u++y::F)(z:cf s 0=O 0)(A:cf u 0=O 0)(p:e1.1=0)(r:y.1=0):s=u:=by
 have k: ∀{a b:List cg} {e:cg} {x:List cg},a++e::x=b->e.1=0->cf a 0=O 0->cf b 0=O 0->False:=by
  intro a b e x o D C f;rw[<-o,qT,C]at f;have f:cf (e::x) 0=O 0:=f;simp only[cf]at f;rw[Zh,zE D,zE trivial]at f;cases f
 rcases List.append_eq_append_iff.1 h with⟨j,d,c⟩|⟨j,d,c⟩
 .cases j with
  |nil=>rw[dO]at d;exact d.symm
  |cons q j=>
   rw[cZ]at c;injection c with c B
   subst c;exact(k d.symm p z A).elim
 cases j with
 |nil=>rw[dO]at d;exact d
 |cons q j=>
  rw[cZ]at c;injection c with c B
  subst c;exact(k d.symm r A z).elim
def K1 {l:List cg}(h:cf l 0=O 0)(hi:i<=b8 l): ∃d,cf (l.take i) 0=O d/\cf (l.drop i) d=O 0:=by
 rw[<-dY i l,qT]at h;have⟨d,b,c⟩:=ag h;exact⟨d,b,c⟩
def Rn {l:List cg}(h:cf l 0=O 0)(hi:i<b8 l)(k:l[i].1=7): ∃inner e rest,l.drop (i+1)=inner++e::rest/\e.1=0/\cf inner 0=O 0:=by
 have⟨d,_,b⟩:=K1 h (i:=i) V1;rw[(dE hi).symm]at b;simp only[cf]at b;rw[Zh,Zh,zE k]at b;have⟨inner,e,rest,c,f,j,_⟩:=CE _ _ d (aB _) b;exact⟨inner,e,rest,c,f,j⟩
structure MOK (l:List cg)(m:Zd):Prop where
 len:b8 m=b8 l
 at': ∀i,(hi:i<b8 l)->l[i].1=7->∀inner e rest,l.drop (i+1)=inner++e::rest->e.1=0->cf inner 0=O 0->m[i]?=O ((i+1+b8 inner:Nat):Int)
theorem aE4 {l:List cg}(K:l.length<=100000)(hi:i<l.length){inner rest:List cg}{e:cg}(h:l.drop (i+1)=inner++e::rest)(F:e.1=0)(D:cf inner 0=O 0):aq (mJ l) fy (1,(i:Int))=O ((i+1+inner.length:Nat):Int):=by
 have C:l.length=i+1+inner.length+1+rest.length:=by
  have:=congrArg dK h;rw[dU]at this;simp at this;omega
 have r: ∀j,j<inner.length+1->∃x,rd l ((i+1+j:Nat):Int)=O x/\(inner++e::rest)[j]?=O x:=by
  intro j q;have s:i+1+j<l.length:=by omega
  refine⟨l[i+1+j],cz s, ?_⟩;rw[<-h,dS,aD s]
 have u: ∀j,j<=inner.length->∃d,cf (inner.take j) 0=O d:=by
  intro j q;obtain⟨d,b,_⟩:=K1 D q;exact⟨d,b⟩
 let c:Nat->Nat:=λj=>(cf (inner.take j) 0).getD 0
 have o: ∀j,j<=inner.length->cf (inner.take j) 0=O (c j):=by
  intro j q;obtain⟨d,E⟩:=u j q;show _=O ((cf (inner.take j) 0).getD 0);rw[E];rfl
 have A: ∀j,c j<=j∨inner.length<j:=by
  intro j;induction j with
  |zero=>exact .inl (aB _)
  |succ j L=>
   by_cases q:j+1<=inner.length
   .left;have b:=o (j+1) q;rw[eR (show j<inner.length by omega),qT,o j (by omega)]at b;have b:cf [inner[j]] (c j)=O (c<|j+1):=b;simp only[cf]at b;split at b
    .cases b
    split at b
    .split at b
     .cases b
     injection b with b;omega
    split at b
    .injection b with b;omega
    injection b with b;omega
   right;omega
 refine Co (f:=mJ l) (n:=inner.length+1) (λj=>if j<=inner.length then((1+c j:Nat),((i+j:Nat):Int))else(0,((i+1+inner.length:Nat):Int))) (by omega) (λj q=> ?_) ?_
 .have J:=A j;rw[zE (show j<=inner.length by omega)];obtain⟨x,B,k⟩:=r j (by omega);simp only[mJ,ap];rw[Zg,ad (n:=((i+j:Nat):Int)+1) (by omega),show((i+j:Nat):Int)+1=((i+1+j:Nat):Int)by omega,B];simp only[zG];by_cases p:j<inner.length
  .rw[List.getElem?_append_left p,aD p]at k;injection k with k
   have b:=o (j+1) p;rw[eR p,qT,o j (by omega)]at b;have b:cf [inner[j]] (c j)=O (c<|j+1):=b;rw[k]at b;simp only[cf]at b;rw[zE (show j+1<=inner.length by omega)];split at b
   .cases b
   split at b
   .rename_i I y;split at b
    .cases b
    injection b with b
    rw[Zh,zE y,Zi]
    congr 3<;>omega
   rename_i I y;split at b
   .rename_i k3;injection b with b
    rw[zE k3,zF y,Zi]
    congr 3<;>omega
   rename_i k3;injection b with b
   rw[zF k3,zF y]
   congr 3<;>omega
  have z:j=inner.length:=by omega
  subst z;rw[cW<|aB _,bD]at k;injection k with k
  subst k
  have H:c inner.length=0:=by
   have:=o inner.length<|aB _;rw[List.take_length,D]at this;injection this with this
   exact this.symm
  rw[Zh,zE F,zF (show¬inner.length+1<=inner.length by omega),H,Zi];rfl
 rw[Zh];simp only[mJ,ap];rw[Zh]
theorem SW {l:List cg}(J:l.length<=100000):(cf l 0=O 0/\∃m,qM l=O (0,m)/\MOK l m)∨(cf l 0≠O 0/\qM l=O (6,[])):=by
 unfold qM;rw[Ge J];simp only[zG];by_cases z:cf l 0=O 0
 .left;refine⟨z, ?_⟩;rw[zB z];simp only[dL,zD]
  have U:aq (mI l) fy (0,[])=O (bB l.length<|-1):=by
   have h:=iW (f:=mI l) (n:=l.length) (λi=>bB i (-1:Int)) (c:=bB l.length<|-1) (by omega) ?_ ?_
   .exact h
   .intro i hi;simp only[mI,ap];rw[Zg,bu (by simp;omega) (by omega),Zi,fD];rfl
   simp only[mI,ap];rw[Zh]
  rw[U];simp only[zG]
  obtain⟨c,V,h⟩:=iB (f:=uj l) (a:=((0:Int),bB l.length (-1:Int))) (λs=> ∃(i:Nat) (out:Zd),i<=l.length/\s=((i:Int),out)/\out.length=l.length/\∀j,j<i->(y:j<l.length)->l[j].1=7->∀b e o,l.drop (j+1)=b++e::o->e.1=0->cf b 0=O 0->out[j]?=O ((j+1+b.length:Nat):Int)) (λs=>l.length-s.1.toNat)
   (λc=>MOK l c) ⟨0,_,dF _,rfl,by simp,λj y=>by omega⟩ (by simp;omega) (by
   rintro _ ⟨i,out,hi,rfl,H,k⟩;simp only[uj,ap];by_cases c:i<l.length
   .rw[Zg,cz c];simp only[zG];by_cases C:l[i].1=7
    .obtain⟨b,e,o,A,D,I⟩:=Rn z c C
     have K:l.length=i+1+b.length+1+o.length:=by
      have:=congrArg dK A;rw[dU]at this;simp at this;omega
     rw[zF (by simp[C]),aE4 J c A D I];simp only[zG];rw[bq (show i<out.length by omega)];simp only[zG];rw[aD (show i<out.length by omega)];simp only[zG];rw[bq (show i+1+b.length<(out.set i ((i+1+b.length:Nat):Int)).length by simp;omega)];simp only[zG];rw[aD (show i+1+b.length<(out.set i ((i+1+b.length:Nat):Int)).length by simp;omega)];simp only[zG];rw[ad (n:=(i:Int)+1) (by omega)];refine .inl ⟨_,rfl,⟨i+1,_,c,rfl,by simp[H],λj y r d q Q u L M N=> ?_⟩,by simp;omega⟩
     have E:l[i+1+b.length].1=0:=by
      have B:(l.drop<|i+1)[b.length]?=O e:=by
       rw[A,cW<|aB _,bD];rfl
      rw[dS,aD (show i+1+b.length<l.length by omega)]at B;injection B with B
      rw[B];exact D
     have F:i+1+b.length≠j:=by
      intro T;subst T;rw[E]at d;cases d
     rw[cB F];by_cases p:i=j
     .subst p;have:=xm (A.symm.trans L) I N D M;subst this;rw[dJ (by omega)]
     rw[cB p];exact k j (by omega) r d q Q u L M N
    rw[zE C,ad (n:=(i:Int)+1) (by omega)];refine .inl ⟨_,rfl,⟨i+1,out,c,rfl,H,λj y r d=> ?_⟩,by simp;omega⟩;by_cases p:j=i
    .subst p;exact(C d).elim
    exact k j (by omega) r d
   have:i=l.length:=by omega
   subst this;rw[Zh]
   exact .inr ⟨_,rfl,H,λj y d=>k j y y d⟩)
  rw[V];exact⟨c,rfl,h⟩
 right;refine⟨z, ?_⟩;rw[zA z];rfl
def Wl {α β:Type}{f:α->β}(c: ∀a b,f a=f b->a=b){x y:Option α}(h:x.map f=y.map f):x=y:=by
 cases x with
 |none=>cases y with
  |none=>rfl
  |some b=>cases h
 |some a=>cases y with
  |none=>cases h
  |some b=>
   injection h with h
   rw[c _ _ h]
def SB (v c:Int)(d:List<|Int×Int): ∀a b:Int,(v,c+a)::d=(v,c+b)::d->a=b:=by
 intro a b h;injection h with h
 injection h with _ h
 omega
def Ny {o:cg}{s:List cg}(h:cf (o::s) 0=O 0)(d:o.1≠7):cf s 0=O 0/\(0<o.1/\o.1<7)/\Q9 (o::s)=(Q9 s).map (1+ ·):=by
 have c:=FM h 0 0 [];simp only[cf]at h;split at h
 .cases h
 rename_i e;split at h
 .rw[zE trivial]at h;cases h
 rename_i b;refine⟨h,V1,Wl (SB 0 0 []) ?_⟩;rw[<-c];simp only[rC];rw[zF d,zF b,FM h];cases Q9 s with
 |none=>rfl
 |some m=>
  show O [((0:Int),0+1+m)]=O [((0:Int),0+(1+m))];rw[dB]
def Pa {o e:cg}{inner rest:List cg}(h:cf (o::(inner++e::rest)) 0=O 0)(d:o.1=7)(c:e.1=0)(hi:cf inner 0=O 0):
  cf rest 0=O 0/\Q9 (o::(inner++e::rest))=bA (Q9 inner) λw=>bA (yQ w o.2.2.2.2) λb=>(Q9 rest).map (b+ ·):=by
 have f:=FM h 0 0 [];simp only[cf]at h;rw[Zh,Zh,zE d,qT,Hz _ _ _ hi]at h;have h:cf (e::rest) 1=O 0:=h;simp only[cf]at h;rw[Zh,zE c,Zh]at h;have h:cf rest 0=O 0:=h;refine⟨h,Wl (SB 0 0 []) ?_⟩;rw[<-f];simp only[rC];rw[zE d,Bl,FM hi];cases Q9 inner with
 |none=>rfl
 |some w=>
  show rC (e::rest) [(o.2.2.2.2,0+w),(0,0)]=_;simp only[rC];rw[Zh,zE c,cY,zG];cases yQ w o.2.2.2.2 with
  |none=>rfl
  |some b=>
   simp only[zG];rw[FM h];cases Q9 rest with
   |none=>rfl
   |some m=>
    show O [((0:Int),0+b+m)]=O [((0:Int),0+(b+m))];rw[dB]
def UQ {k:Int}(h:0<k/\k<7): ∃x,lR k=O (Za,x):=by
 have:k=1∨k=2∨k=3∨k=4∨k=5∨k=6:=by omega
 rcases this with rfl|rfl|rfl|rfl|rfl|rfl<;>exact⟨_,rfl⟩
def IK (t:Int):Int:=if 65536<t then 65537 else t
def Xf (w v:Int):Int:=if IK w=0 then 0 else if v=0 then 0 else if 65536<v then 65537 else if 65536<IK w*v then 65537 else IK w*v
def La {b:Int}(o:0<=w)(u:0<=v)(h:yQ w v=O b):Xf w v=b/\w<=65536:=by
 unfold yQ at h;unfold Xf;split at h
 .rename_i c;cases h;subst c;exact⟨by rw[zE (show IK 0=0 from rfl)],V1⟩
 split at h
 .cases h
 split at h
 .cases h
 rename_i c e p;injection h with h
 have j:IK w=w:=zF e;rw[j,zF c];have s:65536 / w<=65536:=eE _ V1;have f:v<=65536 / w:=by omega
 have q:=eH f o;have r:=eG (x:=65536) (k:=w) c;refine⟨?_,V1⟩;by_cases d:v=0
 .rw[zE d,<-h,d,Int.mul_zero]
 rw[zF d,Zh,Zh,h]
def Y5 (j:0<=w)(o:0<=v)(h:yQ w v=Z):65536<w∨Xf w v=65537:=by
 unfold yQ at h;split at h
 .cases h
 rename_i e;split at h
 .rename_i c;exact .inl c
 rename_i c;split at h
 .rename_i c3;right;unfold Xf;have f:IK w=w:=zF c;have b:=Int.lt_mul_of_ediv_lt (show 0<w by omega) c3;rw[Int.mul_comm]at b;have k:0<=65536 / w:=eF V1 j;rw[f,zF e,Zh];by_cases d:65536<v
  .rw[zE d]
  rw[zF d,zE b]
 cases h
def WOK (l:List cg)(m:Zd)(N:Nat):Prop:= ∀f,2*N<f->∀A seg B,l=A++seg++B->b8 seg<N->cf seg 0=O 0->
 ∃r,(cd f).1 l m (b8 A:Int) ((b8 A+b8 seg:Nat):Int)=O r/\0<=r/\r<=65537/\∀t,Q9 seg=O t->r=IK t
section
variable {l:List cg} {m:Zd}
def Ro (W:l.length<=2000)(J: ∀o∈l,0<=o.2.2.2.2/\o.2.2.2.2<=18446744073709551615)(A:MOK l m){N:Nat}(h:WOK l m N){f:Nat}(V:2*N+1<f)(hi:i<l.length)(I:l[i].1=7){inner rest:List cg}{e:cg}(p:l.drop (i+1)=inner++e::rest)(H:e.1=0)(B:cf inner 0=O 0)(F:inner.length<N):
  ∃r,(cd f).2 l m (i:Int)=O r/\0<=r/\r<=65537/\∀w,Q9 inner=O w->r=Xf w l[i].2.2.2.2:=by
 obtain⟨g,rfl⟩: ∃g,f=g+1:=⟨f-1,V1⟩
 have z:l.length=i+1+inner.length+1+rest.length:=by
  have:=congrArg dK p;rw[dU]at this;simp at this;omega
 have q:=A.at' i hi I inner e rest p H B
 have b:l=l.take (i+1)++inner++e::rest:=by
  rw[cV,<-p,dY]
 have E:(l.take<|i+1).length=i+1:=by rw[eO];omega
 obtain⟨d,u,y,C,D⟩:=h g V1 (l.take<|i+1) inner (e::rest) b F B;rw[E]at u
 have s:rd m (i:Int)=O ((i+1+inner.length:Nat):Int):=by
  have j:i<m.length:=by rw[A.len];exact hi
  rw[cz j,<-q,aD j]
 have c:=J _<|dA hi;show∃r,zW ((cd g).1) ((cd g).2) l m i=O r/\_
 unfold zW;rw[s];simp only[zG];rw[ad (n:=(i:Int)+1) V1,show(i:Int)+1=((i+1:Nat):Int)by omega,u];simp only[zG,ap];rw[cz hi];simp only[zG];generalize l[i].2.2.2.2=v at*
 have k:(if d=0 then O 0 else if v=0 then O 0 else if 65536<v then O 65537 else if 65536<IntKind.i64.wrap (d*zH zI v)then O 65537 else O<|zH zI<|d*zH zI v)=
   O (if d=0 then 0 else if v=0 then 0 else if 65536<v then 65537 else if 65536<d*v then 65537 else d*v):=by
  split
  .rfl
  split
  .rfl
  split
  .rfl
  rename_i L M Q;have T:=Int.mul_le_mul C (show v<=65536 by omega) c.1 V1;have U:=dH y c.1;rw[ad (n:=v) V1,Zi];split<;>rfl
 rw[k];refine⟨_,rfl, ?_, ?_,λw K=> ?_⟩
 .split
  .omega
  split
  .omega
  split
  .omega
  split
  .omega
  .exact dH y c.1
 .split
  .omega
  split
  .omega
  split
  .omega
  split<;>omega
 .rw[D w K];rfl
def Es (hl:l.length<=2000)(E: ∀o∈l,0<=o.2.2.2.2/\o.2.2.2.2<=18446744073709551615)(V:MOK l m){N:Nat}(h:WOK l m N){g:Nat}(hg:2*N+1<g)(hi:Nat): ∀(k:Nat) (pre seg B:List cg) (n:Int) (F:Nat),l=pre++seg++B->seg.length<=k->seg.length<=N->seg.length<F->cf seg 0=O 0->hi=pre.length+seg.length->0<=n/\n<=65536->
  ∃c,aq (oU ((cd g).2) l m hi) F ((pre.length:Int),n)=O c/\(c= .inl ()∨∃r,c= .inr r/\0<=r/\r<=65536)/\∀t,Q9 seg=O t->c=if 65536<n+t then .inl ()else .inr (n+t)
 |k,pre,[],B,n,0,_,_,_,z,_,_,_=>by simp at z
 |k,pre,[],B,n,F+1,d,_,_,_,L,hh,hn=>by
  refine⟨.inr n, ?_, .inr ⟨n,rfl,hn⟩,λt j=> ?_⟩
  .rw[dp];simp only[oU,ap];rw[zF (by simp at hh;omega)];rfl
  .injection j with j
   subst j;rw[dM,Zh]
 |0,pre,o::seg,B,n,F,_,hk,_,_,_,_,_=>by simp at hk
 |k+1,pre,o::seg,B,n,0,_,_,_,z,_,_,_=>by simp at z
 |k+1,pre,o::seg,B,n,F+1,d,hk,hN,z,L,hh,hn=>by
  simp only[cD]at hk hN z hh;have U:l.length=pre.length+(seg.length+1)+B.length:=by rw[d];simp;omega
  have A:pre.length<l.length:=by omega
  have s:l[pre.length]=o:=by
   have:l[pre.length]?=O o:=by
    rw[d,cV,cW<|aB _,bD];rfl
   rw[aD A]at this;injection this
  have W:0<=o.2.2.2.2/\o.2.2.2.2<=18446744073709551615:=by rw[<-s];exact E _ (dA A)
  rw[dp];simp only[oU,ap];rw[Zg,cz A,s];simp only[zG];by_cases u:o.1=7
  .
   rw[zE u]
   have hs1:cf seg 1=O 0:=by
    simp only[cf]at L;rw[Zh,Zh,zE u]at L;exact L
   obtain⟨f,e,q,h1,h2,Q,h4⟩:=CE _ seg 0 (aB _) hs1;subst h1;simp only[cX,cD]at hk hN z hh U
   have hd:l.drop (pre.length+1)=f++e::(q++B):=by
    rw[d,cV,dP,dQ V1,show pre.length+1-pre.length=1 by omega];simp
   obtain⟨r9,b1,b2,b3,b4⟩:=Ro hl E V h hg A (by rw[s];exact u) hd h2 Q V1;rw[s]at b4;rw[b1];simp only[zG];have hmi:=V.at' pre.length A (by rw[s];exact u) f e (q++B) hd h2 Q
   have hrd:rd m (pre.length:Int)=O ((pre.length+1+f.length:Nat):Int):=by
    have D:pre.length<m.length:=by rw[V.len];exact A
    rw[cz D,<-hmi,aD D]
   rw[hrd];simp only[zG];rw[ad (n:=n+r9) V1,ad (n:=((pre.length+1+f.length:Nat):Int)+1) V1];obtain⟨C,T⟩:=Pa L u h2 Q;by_cases K:65536<n+r9
   .rw[zE K];refine⟨.inl (),rfl, .inl rfl,λt j=> ?_⟩;rw[T]at j;obtain⟨w,Y,j⟩:=ag j;obtain⟨b,hb,j⟩:=ag j;have H:=I1 (l:=f) (λI y=>(E I aO).1) Q Y;obtain⟨e1,_⟩:=La H W.1 hb;rw[b4 w Y,e1]at K;cases p:Q9 q with
    |none=>rw[p]at j;cases j
    |some J=>
     rw[p]at j;injection j with j
     have j:b+J=t:=j;have:=I1 (l:=q) (λI y=>(E I aO).1) C p;rw[Zg]
   .rw[zF K];simp only[zG,bz];have X:(pre++o::(f++[e])).length=pre.length+1+f.length+1:=by simp;omega
    obtain⟨c,M,d2,d3⟩:=Es hl E V h hg hi k (pre++o::(f++[e])) q B (n+r9) F Zy V1 V1 V1 C (by rw[X];omega) V1;rw[X]at M;refine⟨c,by rw[show((pre.length+1+f.length:Nat):Int)+1=((pre.length+1+f.length+1:Nat):Int)by omega];exact M,d2,λt j=> ?_⟩;rw[T]at j;obtain⟨w,Y,j⟩:=ag j;obtain⟨b,hb,j⟩:=ag j;have H:=I1 (l:=f) (λI y=>(E I aO).1) Q Y;obtain⟨e1,_⟩:=La H W.1 hb;have hr9:r9=b:=by rw[b4 w Y,e1]
    cases p:Q9 q with
    |none=>rw[p]at j;cases j
    |some J=>
     rw[p]at j;injection j with j
     have:=d3 J p;rw[this,<-j,hr9,dB]
  .rw[zF u];obtain⟨C,hko,T⟩:=Ny L u;obtain⟨x,hx⟩:=UQ hko;rw[hx];simp only[zG,zC];rw[ad (n:=n+1) V1,ad (n:=(pre.length:Int)+1) V1];by_cases K:65536<n+1
   .rw[zE K];refine⟨.inl (),rfl, .inl rfl,λt j=> ?_⟩;rw[T]at j;cases p:Q9 seg with
    |none=>rw[p]at j;cases j
    |some J=>
     rw[p]at j;injection j with j
     have j:1+J=t:=j;have:=I1 (l:=seg) (λI y=>(E I aO).1) C p;rw[Zg]
   .rw[zF K];simp only[zG,bz];have X:(pre++[o]).length=pre.length+1:=by simp
    obtain⟨c,M,d2,d3⟩:=Es hl E V h hg hi k (pre++[o]) seg B (n+1) F Zy V1 V1 V1 C (by rw[X];omega) V1;rw[X]at M;refine⟨c,M,d2,λt j=> ?_⟩;rw[T]at j;cases p:Q9 seg with
    |none=>rw[p]at j;cases j
    |some J=>
     rw[p]at j;injection j with j
     rw[d3 J p,<-j,dB]
def wok (j:b8 l<=2000)(p: ∀o∈l,0<=o.2.2.2.2/\o.2.2.2.2<=18446744073709551615)(k:MOK l m): ∀N,WOK l m N
 |0=>λ_ _ _ _ _ _ h=>absurd h (Nat.not_lt_zero _)
 |N+1=>λf E A seg B b D y=>by
  obtain⟨g,rfl⟩: ∃g,f=g+1:=⟨f-1,V1⟩
  show∃r,xE ((cd g).1) ((cd g).2) l m _ _=O r/\_
  unfold xE
  have z:b8 seg<=2000:=by
   have:=congrArg dK b;simp at this;omega
  have⟨c,q,s,e⟩:=Es j p k (wok j p k N) (g:=g) V1 (b8 A+b8 seg) _ A seg B 0 fy b (aB _) V1 (by unfold fy;omega) y rfl V1;rw[q,zG];rcases s with rfl|⟨r,rfl,u,C⟩
  .refine⟨65537,rfl,V1,V1,λt d=> ?_⟩;have:=e t d;rw[cY]at this;unfold IK;split at this
   .rename_i c;rw[zE c]
   .cases this
  .refine⟨r,rfl,u,V1,λt d=> ?_⟩;have:=e t d;rw[cY]at this;unfold IK;split at this
   .cases this
   .rename_i c;injection this with this
    rw[zF c,this]
end
def Si {δ:Type}{f:Int->Option (Int⊕δ)}(n:Nat)(z:n<9223372036854775808)(b:Nat->Prop)(c e:δ)
  (s: ∀i:Nat,i<n->¬b i->f (i:Int)=O (.inl ((i+1:Nat):Int))) (A: ∀i:Nat,i<n->b i->f (i:Int)=O (.inr c)) (y:f (n:Int)=O (.inr e)):
  (∃i,i<n/\b i/\(∀j,j<i->¬b j)/\aq f fy 0=O c)∨((∀j,j<n->¬b j)/\aq f fy 0=O e):=by
 by_cases h: ∃i,i<n/\b i
 .obtain⟨i,k,o⟩:=h
  have q: ∃i,i<n/\b i/\∀j,j<i->¬b j:=by
   induction i using Nat.strongRecOn with
   |ind i B=>
    by_cases d: ∃j,j<i/\b j
    .obtain⟨j,p,u⟩:=d;exact B j p V1 u
    .exact⟨i,k,o,λj h p=>d ⟨j,h,p⟩⟩
  have⟨i,k,o,p⟩:=q;exact .inl ⟨i,k,o,p,rV (n:=i) V1 (λj d=>s j V1<|p j d)<|A i k o⟩
 .have r: ∀j,j<n->¬b j:=λj k o=>h ⟨j,k,o⟩
  exact .inr ⟨r,rV (n:=n) z (λj d=>s j d<|r j d) y⟩
def ay0 {seg pre inner rest:List cg}{o e:cg}{t:Int}(f:Q9 seg=O t)(s:seg=pre++o::(inner++e::rest))(r:o.1=7)(q:e.1=0)(hi:cf inner 0=O 0):
  ∃w b,Q9 inner=O w/\yQ w o.2.2.2.2=O b:=by
 unfold Q9 at f;rw[s,Bl]at f;have⟨st,k,u⟩:=ag f;have⟨d,y,c⟩:=ag k;cases d with
 |nil=>simp[rC]at c
 |cons p d=>
  simp only[rC]at c;rw[zE r,Bl,FM hi]at c;cases j:Q9 inner with
  |none=>rw[j]at c;cases c
  |some w=>
   rw[j]at c;have c:rC (e::rest) ((o.2.2.2.2,0+w)::(p.1,p.2)::d)=O st:=c;simp only[rC]at c;rw[Zh,zE q,cY]at c;cases h:yQ w o.2.2.2.2 with
   |none=>rw[h]at c;cases c
   |some b=>exact⟨w,b,rfl,h⟩
def PA : ∀(n:Nat) (seg:List cg),b8 seg<=n->cf seg 0=O 0->Q9 seg=Z->∃pre o inner e rest w,seg=pre++o::(inner++e::rest)/\o.1=7/\e.1=0/\cf inner 0=O 0/\Q9 inner=O w/\yQ w o.2.2.2.2=Z
 |n,[],_,_,c=>by cases c
 |0,o::s,h,_,_=>by simp at h
 |n+1,o::s,I,k,c=>by
  simp only[cD]at I;by_cases z:o.1=7
  .have C:cf s 1=O 0:=by
    simp only[cf]at k;rw[Zh,Zh,zE z]at k;exact k
   have⟨inner,e,rest,J,F,A,K⟩:=CE _ s 0 (aB _) C;subst J;simp only[cX,cD]at I;have⟨d,B⟩:=Pa k z F A;rw[B]at c;cases D:Q9 inner with
   |none=>
    have⟨pre,q,p,f,y,w,r,u⟩:=PA n inner V1 A D;exact⟨o::pre,q,p,f,y++e::rest,w,by rw[r];simp,u⟩
   |some w=>
    rw[D]at c;simp only[zG]at c;cases H:yQ w o.2.2.2.2 with
    |none=>exact⟨[],o,inner,e,rest,w,rfl,z,F,A,D,H⟩
    |some b=>
     rw[H]at c;simp only[zG]at c;cases j:Q9 rest with
     |some t=>rw[j]at c;cases c
     |none=>
      have⟨pre,q,p,f,y,E,r,u⟩:=PA n rest V1 d j;exact⟨o::(inner++e::pre),q,p,f,y,E,by rw[r];simp,u⟩
  .obtain⟨d,_,B⟩:=Ny k z;rw[B]at c;cases j:Q9 s with
   |some t=>rw[j]at c;cases c
   |none=>
    have⟨pre,q,p,f,y,E,r,u⟩:=PA n s V1 d j;exact⟨o::pre,q,p,f,y,E,by rw[r];rfl,u⟩
section
variable {l:List cg} {m:Zd}
def FU (I:b8 l<=1500)(q: ∀o∈l,0<=o.2.2.2.2/\o.2.2.2.2<=18446744073709551615)(j:MOK l m)(D:cf l 0=O 0)(hi:i<b8 l)(p:l[i].1=7):
  ∃inner e rest b w r,l.drop (i+1)=inner++e::rest/\e.1=0/\cf inner 0=O 0/\m[i]?=O r/\r=((i+1+b8 inner:Nat):Int)/\uX l m (i:Int)=O b/\mL l m ((i+1:Nat):Int) r=O w/\0<=b/\0<=w/\
   ∀t,Q9 inner=O t->b=Xf t l[i].2.2.2.2/\w=IK t:=by
 have⟨inner,e,rest,h,k,c⟩:=Rn D hi p
 have s:b8 l=i+1+b8 inner+1+b8 rest:=by
  have:=congrArg dK h;rw[dU]at this;simp at this;omega
 have d:l=l.take (i+1)++inner++e::rest:=by
  rw[cV,<-h,dY]
 have C:b8 (l.take<|i+1)=i+1:=by rw[eO];omega
 have⟨b,z,A,H,B⟩:=Ro V1 q j (wok V1 q j 1501) (f:=4000) V1 hi p h k c V1;have⟨w,y,E,J,F⟩:=wok V1 q j 1501 4000 V1 (l.take<|i+1) inner (e::rest) d V1 c;rw[C]at y;exact⟨inner,e,rest,b,w,_,h,k,c,j.at' i hi p inner e rest h k c,rfl,z,y,A,E,λt u=>⟨B t u,F t u⟩⟩
theorem US (V:l.length<=1500)(y: ∀o∈l,0<=o.2.2.2.2/\o.2.2.2.2<=18446744073709551615)(F:MOK l m)(M:cf l 0=O 0):
  aq (jS l (0,m)) fy 0=O (match Q9 l with|some _=> .inr ()|none=> .inl ()):=by
 have H:=Si (f:=jS l (0,m)) l.length (by omega)
  (λi=> ∃hi:i<l.length,l[i].1=7/\∃b w A,m[i]?=O A/\uX l m (i:Int)=O b/\mL l m ((i+1:Nat):Int) A=O w/\(65536<b∨65536<w)) (.inl ()) (.inr ())
  (λi hi hn=>by
   unfold jS;simp only[ap];rw[Zg,cz hi];simp only[zG];by_cases k:l[i].1=7
   .obtain⟨c,e,j,b,w,A,L,q2,q3,r,q5,u,D,q8⟩:=FU V y F M hi k;rw[zE k,u];simp only[zG];rw[zF (λh=>hn ⟨hi,k,b,w,A,r,u,D, .inl h⟩),bq (show i<m.length by rw[F.len];exact hi)];simp only[zG];rw[r];simp only[zG];rw[ad (n:=(i:Int)+1) (by omega),show(i:Int)+1=((i+1:Nat):Int)by omega,D];simp only[zG];rw[zF<|λh=>hn ⟨hi,k,b,w,A,r,u,D, .inr h⟩]
   .rw[zF k,ad (n:=(i:Int)+1) (by omega)]
    rfl)
  (λi _ Y=>by
   obtain⟨hi,k,b,w,A,r,u,D,q8⟩:=Y;unfold jS;simp only[ap];rw[Zg,cz hi];simp only[zG];rw[zE k,u];simp only[zG];by_cases hb:65536<b
   .rw[zE hb]
   .rw[zF hb,bq (show i<m.length by rw[F.len];exact hi)];simp only[zG];rw[r];simp only[zG];rw[ad (n:=(i:Int)+1) (by omega),show(i:Int)+1=((i+1:Nat):Int)by omega,D];simp only[zG]
    rw[Zg])
  (by
   unfold jS;simp only[ap]
   rw[Zh])
 cases hq:Q9 l with
 |some t=>
  rcases H with⟨i,h1,⟨hi,k,b,w,A,r,u,D,q8⟩,_⟩|⟨_,h⟩
  .exfalso;obtain⟨c,e,j,b',w',I,p1,p2,Q,E,p5,J,K,p8,p9,C⟩:=FU V y F M hi k
   have d:l=l.take i++l[i]::(c++e::j):=by
    rw[<-p1,dE hi,dY]
   obtain⟨w0,b0,g1,g2⟩:=ay0 hq d k p2 Q;obtain⟨T,U⟩:=C w0 g1;have q: ∀B∈c,0<=B.2.2.2.2:=λB z=>(y B (by rw[d];simp[z])).1
   have s:=I1 q Q g1;obtain⟨x1,x2⟩:=La s (y _<|dA hi).1 g2;obtain⟨x3,x4⟩:=GQ s (y _<|dA hi).1 g2;rw[r]at E;injection E with E
   rw[u]at J;injection J with J
   rw[<-E,D]at K;injection K with K
   have X:IK w0=w0:=zF (by omega);rw[X]at U;omega
  .exact h
 |none=>
  rcases H with⟨_,_,_,_,h⟩|⟨h,_⟩
  .exact h
  .exfalso;obtain⟨pre,o,c,e,j,w,L,q2,q3,r,q5,u⟩:=PA _ l (aB _) M hq;have hi:pre.length<l.length:=by rw[L];simp
   have p:l[pre.length]=o:=by
    have:l[pre.length]?=O o:=by
     rw[L,cW<|aB _,bD];rfl
    rw[aD hi]at this;injection this
   have k:l[pre.length].1=7:=by rw[p];exact q2
   have hd:l.drop (pre.length+1)=c++e::j:=by
    rw[L,dP,dQ (by omega),show pre.length+1-pre.length=1 by omega];simp
   obtain⟨N,e',rest',b',w',I,p1,p2,Q,E,p5,J,K,p8,p9,C⟩:=FU V y F M hi k;have:=xm (hd.symm.trans p1) r Q q3 p2;subst this;obtain⟨T,U⟩:=C w q5;have q: ∀B∈c,0<=B.2.2.2.2:=λB z=>(y B (by rw[L];simp[z])).1
   have s:=I1 q r q5;rw[p]at T;have W:0<=o.2.2.2.2:=by rw[<-p];exact(y _<|dA hi).1
   refine h _ hi ⟨hi,k,b',w',I,E,J,K, ?_⟩;rcases Y5 s W u with x|x
   .right;rw[U];unfold IK;rw[zE x];omega
   .left;rw[T,x];omega
def CA (p:b8 l<=1500)(h: ∀o∈l,0<=o.2.2.2.2/\o.2.2.2.2<=18446744073709551615):mK l=O (eg l):=by
 unfold mK eg;rcases SW (l:=l) V1 with⟨b,m,f,d⟩|⟨b,f⟩
 .rw[f,zE b,zG,zA V2,zD,US p h d b];cases k:Q9 l with
  |none=>rfl
  |some t=>
   have s:=I1 (λo q=>(h o q).1) b k;simp only[zG,bz];have⟨w,j,u,y,r⟩:=wok V1 h d 1501 4000 V1 [] l [] V2 V1 b
   have j:mL l m 0 (b8 l:Int)=O w:=by
    rw[<-j];show _=(cd 4000).1 l m 0 ((0+b8 l:Nat):Int);rw[dD];rfl
   rw[j];simp only[zG,ap];have e:=r t k;unfold IK at e;by_cases c:65536<t
   .rw[zE c]at e;rw[zE c,Zg]
   rw[zF c]at e;rw[zF c,Zh,e]
 rw[f,zF b];rfl
end
theorem uy {α δ:Type}{f:Int->Option (Int⊕δ)}{l:List α}(p:α->Bool)(c:Nat->δ)(e:δ)(C:l.length<1000000)
  (q: ∀i,(hi:i<l.length)->f (i:Int)=O (if p l[i]then .inr (c i)else .inl ((i+1:Nat):Int))) (y:f (l.length:Int)=O (.inr e)):
  (l.any p=Za/\∃i:Nat,aq f fy 0=O (c i))∨(l.any p=Zb/\aq f fy 0=O e):=by
 by_cases h: ∃i,∃hi:i<l.length,p l[i]=Za
 .left
  have o: ∃i,(∃hi:i<l.length,p l[i]=Za)/\∀j,j<i->¬∃b:j<l.length,p l[j]=Za:=by
   obtain⟨i,hi⟩:=h;induction i using Nat.strongRecOn with
   |ind i B=>
    by_cases b: ∃j,j<i/\∃b:j<l.length,p l[j]=Za
    .obtain⟨j,k,u⟩:=b;exact B j k u
    .exact⟨i,hi,λj h k=>b ⟨j,h,k⟩⟩
  obtain⟨i,⟨hi,r⟩,s⟩:=o;refine⟨List.any_eq_true.2 ⟨l[i],dA hi,r⟩,i,rV (n:=i) (by omega) (λj b=> ?_) ?_⟩
  .rw[q j (by omega),zF<|λd=>s j b ⟨by omega,d⟩]
  .rw[q i hi,zE r]
 .right;refine⟨?_,rV (n:=l.length) (by omega) (λj b=> ?_) y⟩
  .rw[Bool.eq_false_iff];intro z;obtain⟨x,A,d⟩:=List.any_eq_true.1 z;obtain⟨i,hi,rfl⟩:=List.getElem_of_mem A;exact h ⟨i,hi,d⟩
  .rw[q j b,zF<|λd=>h ⟨j,b,d⟩]
def cw (k:Int):Bool×Bool×Bool×Bool:=if k=1∨k=2∨k=3 then(Za,Za,Za,Zb)else if k=4∨k=6 then(Za,Za,Zb,Zb)else if k=5 then(Za,Zb,Zb,Za)else if k=7 then(Zb,Zb,Zb,Za)else(Zb,Zb,Zb,Zb)
def Ct (k:Int):k=1∨k=2∨k=3∨k=4∨k=5∨k=6∨k=7∨(¬k=1/\¬k=2/\¬k=3/\¬k=4/\¬k=5/\¬k=6/\¬k=7):=by omega
def OB (k:Int):rF k=O (cw k):=by
 rcases Ct k with rfl|rfl|rfl|rfl|rfl|rfl|rfl|⟨b,c,d,e,f,h,j⟩
 any_goals rfl
 simp[rF,cw,b,c,d,e,f,h,j]
def FF (k:Int):lR k=O (cw k):=by
 rcases Ct k with rfl|rfl|rfl|rfl|rfl|rfl|rfl|⟨b,c,d,e,f,j,o⟩
 any_goals rfl
 by_cases h:1<=k
 .simp[lR,cw,b,c,d,e,f,j,o,h,show¬k<=3 by omega,bz]
 simp[lR,cw,b,c,d,e,f,j,o,h,bz]
def Dl (n:Int)(q:Bool):Bool:=if q then Zc (0<=n/\n<=2147483647)else Zc<|n=0
def JQ (n:Int)(q:Bool):jR n q=O (Dl n q):=by
 unfold jR Dl;cases q
 .rfl
 by_cases h:0<=n<;>simp[h]
def uE (o:cg):Bool:=Zc (0<=o.1/\o.1<8)&&(Dl o.2.1 (cw o.1).1&&(Dl o.2.2.1 (cw o.1).2.1&&(Dl o.2.2.2.1 (cw o.1).2.2.1&&((cw o.1).2.2.2||Zc (o.2.2.2.2=0)))))
def Qd (o:cg):sF o.1 o.2.1 o.2.2.1 o.2.2.2.1 o.2.2.2.2=O (uE o):=by
 unfold sF xH uE
 have j:(cond (Zc<|0<=o.1) (O<|Zc<|o.1<8)<|O Zb)=O (Zc<|0<=o.1/\o.1<8):=by
  by_cases h:0<=o.1<;>simp[h]
 rw[OB,j];simp only[zG,JQ];generalize Zc (0<=o.1/\o.1<8)=b;generalize Dl o.2.1 (cw o.1).1=c;generalize Dl o.2.2.1 (cw o.1).2.1=d;generalize Dl o.2.2.2.1 (cw o.1).2.2.1=e;generalize (cw o.1).2.2.2=f;cases b<;>cases c<;>cases d<;>cases e<;>cases f<;>rfl
def SV (o:cg):uW o.1 o.2.1 o.2.2.1 o.2.2.2.1 o.2.2.2.2=O (uE o):=by
 unfold uW;simp only[ap];by_cases y:o.1<0
 .rw[zE y];unfold uE;rw[zA (show¬(0<=o.1/\o.1<8)by omega)];rfl
 rw[zF y];by_cases z:7<o.1
 .rw[zE z];unfold uE;rw[zA (show¬(0<=o.1/\o.1<8)by omega)];rfl
 rw[zF z,FF,zG]
 have c:=uy (f:=qc o.2.1 o.2.2.1 o.2.2.2.1<|cw o.1) (l:=[(o.2.1,(cw o.1).1),(o.2.2.1,(cw o.1).2.1),(o.2.2.2.1,(cw o.1).2.2.1)]) (λp=> !Dl p.1 p.2) (λ_=> .inl Zb) (.inr ()) V2
  (λi hi=>by
   unfold qc;have hi:i<3:=hi;rw[ap,Zg,bq (show i<3 from hi),bq (show i<4 by omega)];simp only[zG,ap]
   have A:dR [o.2.1,o.2.2.1,o.2.2.2.1] i 0=([(o.2.1,(cw o.1).1),(o.2.2.1,(cw o.1).2.1),(o.2.2.2.1,(cw o.1).2.2.1)][i]).1:=by
    rcases(show i=0∨i=1∨i=2 by omega)with rfl|rfl|rfl<;>rfl
   have B:dR [(cw o.1).1,(cw o.1).2.1,(cw o.1).2.2.1,(cw o.1).2.2.2] i Zb=([(o.2.1,(cw o.1).1),(o.2.2.1,(cw o.1).2.1),(o.2.2.2.1,(cw o.1).2.2.1)][i]).2:=by
    rcases(show i=0∨i=1∨i=2 by omega)with rfl|rfl|rfl<;>rfl
   rw[A,B,ad (n:=(i:Int)+1) V1,show(i:Int)+1=((i+1:Nat):Int)by omega];generalize [(o.2.1,(cw o.1).1),(o.2.2.1,(cw o.1).2.1),(o.2.2.2.1,(cw o.1).2.2.1)][i]=x;have⟨n,q⟩:=x;simp only[Dl];by_cases r:n<0
   .rw[zE r,zE];cases q
    .simp;omega
    simp;omega
   rw[zF r];by_cases s:2147483647<n
   .rw[zE s,zE];cases q
    .simp;omega
    simp;omega
   rw[zF s];cases q with
   |true=>
    rw[zB (show 0<=n/\n<=2147483647 by omega)];rfl
   |false=>
    by_cases u:n=0
    .subst u;rfl
    simp[u])
  (by
   unfold qc
   rw[ap,zF V2])
 unfold uE;rw[zB (show 0<=o.1/\o.1<8 by omega)]
 have b:([(o.2.1,(cw o.1).1),(o.2.2.1,(cw o.1).2.1),(o.2.2.2.1,(cw o.1).2.2.1)].any λp=> !Dl p.1 p.2)= !(Dl o.2.1 (cw o.1).1&&(Dl o.2.2.1 (cw o.1).2.1&&Dl o.2.2.2.1 (cw o.1).2.2.1)):=by
  simp[List.any,Bool.not_and]
 rw[b]at c;generalize Dl o.2.1 (cw o.1).1=d at*;generalize Dl o.2.2.1 (cw o.1).2.1=e at*;generalize Dl o.2.2.2.1 (cw o.1).2.2.1=j at*;rcases c with⟨h,_,k⟩|⟨h,k⟩
 .rw[k];cases d<;>cases e<;>cases j<;>first|rfl|cases h
 rw[k]
 have:d=Za/\e=Za/\j=Za:=by
  cases d<;>cases e<;>cases j<;>first|exact⟨rfl,rfl,rfl⟩|cases h
 obtain⟨rfl,rfl,rfl⟩:=this;simp only[zG,bz];cases(cw o.1).2.2.2<;>rfl
def yi (b:Bool)(e:Int):da b e=O (if b then e else 0):=by cases b<;>rfl
def Jg (l:List cg):Bool:=Zc (cf l 0=O 0)&& !(l.any λo=> !uE o)
def Cd {R:Int}{l:List cg}(e:b8 l<=4096):fX R l=O (if Jg l then 0 else 6):=by
 unfold fX;have⟨m,d⟩:=Cr (l:=l) V1;rw[d];simp only[zG,yi];rw[Ze,zD,ap];unfold Jg;by_cases b:cf l 0=O 0
 .rw[zE b,zF V2,zB b];unfold ib iU
  rcases uy (f:=fV l) (l:=l) (λo=> !uE o) (λi=> .inl (i:Int)) (.inr ()) V1 (λi hi=>by
   unfold fV;rw[ap,Zg,cz hi,zG];unfold nj;rw[Qd,ad (n:=(i:Int)+1) V1,zG]
   cases uE l[i]<;>rfl) (by
   unfold fV
   rw[ap,Zh])with⟨h,i,c⟩|⟨h,c⟩
  .rw[c,h];simp only[zG,bz];rw[Zf];rfl
  rw[c,h];rfl
 rw[zF b,zE V2,zA b];rfl
def UU {R:Int}{l:List cg}(c:b8 l<=1500):wS R l=O (Jg l):=by
 unfold wS Jg;rw[Ze,zD,Ge V1,zG];cases Zc (cf l 0=O 0)with
 |false=>rfl
 |true=>
  rcases uy (f:=qZ l) (l:=l) (λo=> !uE o) (λi=> .inl Zb) (.inr ()) V1 (λi hi=>by
   unfold qZ;rw[ap,Zg,cz hi,zG,SV,ad (n:=(i:Int)+1) V1,zG]
   cases uE l[i]<;>rfl) (by
   unfold qZ
   rw[ap,Zh])with⟨h,i,b⟩|⟨h,b⟩
  .rw[b,h];rfl
  rw[b,h];rfl
def P9 (R:Int)(o:cg):Bool:=((cw o.1).1&&Zc (R<=o.2.1))||((cw o.1).2.1&&Zc (R<=o.2.2.1))||((cw o.1).2.2.1&&Zc (R<=o.2.2.2.1))
def Hs (R:Int)(l:List cg):Bool:=Zc (1<=R/\R<=64)&& !l.any (P9 R)
def Mn (x y:Int):bv [x,y]=O [y,x]:=by kernel_rfl
def S4 (x:Int):bv [x]=O [x]:=by kernel_rfl
def Mm :bv []=O []:=by kernel_rfl
def Qc (o:cg):sE o.1 o.2.1 o.2.2.1 o.2.2.2.1 o.2.2.2.2=O (if(cw o.1).2.1 then(if(cw o.1).2.2.1 then [o.2.2.1,o.2.2.2.1]else [o.2.2.1])else []):=by
 have⟨k,d,a,b,v⟩:=o;simp only;rcases Ct k with rfl|rfl|rfl|rfl|rfl|rfl|rfl|⟨c,e,f,h,p,j,q⟩
 .exact(show _=(bv [b,a]).bind _ from rfl).trans (by rw[Mn];rfl)
 .exact(show _=(bv [b,a]).bind _ from rfl).trans (by rw[Mn];rfl)
 .exact(show _=(bv [b,a]).bind _ from rfl).trans (by rw[Mn];rfl)
 .exact(show _=(bv [a]).bind _ from rfl).trans (by rw[S4];rfl)
 .exact(show _=(bv []).bind _ from rfl).trans (by rw[Mm];rfl)
 .exact(show _=(bv [a]).bind _ from rfl).trans (by rw[S4];rfl)
 .exact(show _=(bv []).bind _ from rfl).trans (by rw[Mm];rfl)
 unfold sE;simp only[zA c,zA e,zA f,zA h,zA j,zD,zG,bz,Mm];simp[cw,c,e,f,h,p,j,q]
def PH (l:Zd)(R:Int)(p:List cg)(c:b8 l<2000):fZ l R p=O (l.any λn=>Zc<|R<=n):=by
 unfold fZ kR
 rcases uy (f:=gY l R p) (l:=l) (λn=>Zc<|R<=n) (λi=> .inl (i:Int)) (.inr ()) V1 (λi hi=>by
  unfold gY;rw[ap,Zg,cz hi,zG];unfold jB;rw[ad (n:=(i:Int)+1) V1,zG]
  cases Zc (R<=l[i])<;>rfl) (by
  unfold gY
  rw[ap,Zh])with⟨h,i,b⟩|⟨h,b⟩
 .rw[b,h];simp only[zG,bz];rw[Zf]
 rw[b,h];rfl
def SY (o:cg)(R:Int)(p:List cg):iE o.1 o.2.1 o.2.2.1 o.2.2.2.1 o.2.2.2.2 R p=O (P9 R o):=by
 unfold iE jZ;rw[Qc,OB];unfold P9;simp only[zG];have⟨k,d,a,b,v⟩:=o;simp only
 have s:(cw k).2.2.1=Za->(cw k).2.1=Za:=by
  unfold cw;split
  .intro _;rfl
  split
  .intro _;rfl
  split
  .intro h;cases h
  split<;>intro h<;>cases h
 have u:(cw k).2.1=Za->(cw k).1=Za:=by
  unfold cw;split
  .intro _;rfl
  split
  .intro _;rfl
  split
  .intro h;cases h
  split<;>intro h<;>cases h
 generalize (cw k).1=f at*;generalize (cw k).2.1=j at*;generalize (cw k).2.2.1=q at*
 have c: ∀l:Zd,b8 l<2000->∀r,(l.any λn=>Zc<|R<=n)=r->(bA (fZ l R p) λe=>O e)=O r:=by
  intro l A r B;rw[PH l R p A,B];rfl
 cases f<;>cases j<;>cases q<;>first
  |(cases u rfl)
  |(cases s rfl)
  |skip
 .refine c [] V2 _ ?_;generalize Zc (R<=d)=x;generalize Zc (R<=a)=y;generalize Zc (R<=b)=z;cases x<;>cases y<;>cases z<;>rfl
 .refine c [d] V2 _ ?_;simp only[eJ,eM];generalize Zc (R<=d)=x;generalize Zc (R<=a)=y;generalize Zc (R<=b)=z;cases x<;>cases y<;>cases z<;>rfl
 .refine c [a,d] V2 _ ?_;simp only[eJ,eM];generalize Zc (R<=d)=x;generalize Zc (R<=a)=y;generalize Zc (R<=b)=z;cases x<;>cases y<;>cases z<;>rfl
 .refine c [a,b,d] V2 _ ?_;simp only[eJ,eM];generalize Zc (R<=d)=x;generalize Zc (R<=a)=y;generalize Zc (R<=b)=z;cases x<;>cases y<;>cases z<;>rfl
def wv {R:Int}{l:List cg}(e:b8 l<=4096):gc R l=O (if Hs R l then 0 else 7):=by
 unfold gc Hs;simp only[yi,zG,ap];by_cases c:R<1
 .rw[zE c,zA (show¬(1<=R/\R<=64)by omega)];rfl
 rw[zF c];by_cases d:64<R
 .rw[zE d,zA (show¬(1<=R/\R<=64)by omega)];rfl
 rw[zF d,zB (show 1<=R/\R<=64 by omega)];unfold gP ie
 rcases uy (f:=fP l R l) (l:=l) (P9 R) (λi=> .inl (i:Int)) (.inr ()) V1 (λi hi=>by
  unfold fP;rw[ap,Zg,cz hi,zG,SY,ad (n:=(i:Int)+1) V1,zG]
  cases P9 R l[i]<;>rfl) (by
  unfold fP
  rw[ap,Zh])with⟨h,i,b⟩|⟨h,b⟩
 .rw[b,h];simp only[zG,bz];rw[Zf];rfl
 rw[b,h];rfl
def JR {R:Int}{l:List cg}(k:b8 l<=1500):pc R l=O (Hs R l):=by
 unfold pc Hs;simp only[ap];by_cases c:R<1
 .rw[zE c,zA (show¬(1<=R/\R<=64)by omega)];rfl
 rw[zF c];by_cases d:64<R
 .rw[zE d,zA (show¬(1<=R/\R<=64)by omega)];rfl
 rw[zF d,zB (show 1<=R/\R<=64 by omega)]
 rcases uy (f:=lT R l) (l:=l) (P9 R) (λi=> .inl Zb) (.inr ()) V1 (λi hi=>by
  unfold lT;rw[ap,Zg,cz hi,zG,FF,ad (n:=(i:Int)+1) V1,zG];unfold P9;generalize l[i]=o;generalize Zc (R<=o.2.1)=x;generalize Zc (R<=o.2.2.1)=y;generalize Zc (R<=o.2.2.2.1)=z;generalize (cw o.1).1=e;generalize (cw o.1).2.1=j;generalize (cw o.1).2.2.1=b3
  cases e<;>cases j<;>cases b3<;>cases x<;>cases y<;>cases z<;>rfl) (by
  unfold lT
  rw[ap,Zh])with⟨h,i,b⟩|⟨h,b⟩
 .rw[b,h];rfl
 rw[b,h];rfl
def hmax :List cg->Nat->Nat->Nat
 |[],_,m=>m
 |o::r,d,m=>if o.1=7 then hmax r (d+1) (max m<|d+1)else if o.1=0 then hmax r (d-1) m else hmax r d m
def aK7 (l:List cg)(s:Int×Bool×Int×Zd):Prop:=
 ∃(i m:Nat) (st:Zd),i<=b8 l/\s=((i:Int),Za,(m:Int),st)/\b8 st<=i/\m<=i/\cf (l.drop i) (b8 st)=cf l 0/\hmax (l.drop i) (b8 st) m=hmax l 0 0
def Xq {l:List cg}(A:b8 l<=100000)(s:Int×Bool×Int×Zd)(h:aK7 l s):
  (∃b,mF l s=O (.inl b)/\aK7 l b/\b8 l-b9 b.1<b8 l-b9 s.1)∨∃c,mF l s=O (.inr c)/\((c.1=Zb/\cf l 0=Z)∨(c.1=Za/\cf l 0=O (b8 c.2.2)/\c.2.1=(hmax l 0 0:Int))):=by
 obtain⟨i,m,st,hi,rfl,z,y,d,e⟩:=h;by_cases c:i<b8 l
 .have j:l.drop i=l[i]::l.drop (i+1):=(dE c).symm;rw[j]at d e;simp only[mF];rw[zB (show(i:Int)<(b8 l:Int)by omega),zC,cz c,zG];generalize B:l[i]=x at*;simp only[cf]at d;simp only[hmax]at e;by_cases r:x.1<0
  .rw[zE<|.inl r]at d;rw[zB r];simp only[zC,zG,ll];exact .inr ⟨_,rfl, .inl ⟨rfl,d.symm⟩⟩
  rw[zA r,zD];by_cases f:7<x.1
  .rw[zE<|.inr f]at d;rw[zB f];simp only[zC,zG,di,ll];exact .inr ⟨_,rfl, .inl ⟨rfl,d.symm⟩⟩
  rw[zA f,zD];rw[Zh]at d;by_cases o:x.1=0
  .rw[zE o]at d;rw[Zh,zE o]at e;rw[zB o];simp only[zC,zG,di];by_cases p:b8 st=0
   .rw[zE p]at d;rw[zB (show(b8 st:Int)=0 by omega)];simp only[zC,zG,ll];exact .inr ⟨_,rfl, .inl ⟨rfl,d.symm⟩⟩
   .rw[zF p]at d;rw[zA (show¬(b8 st:Int)=0 by omega),zD,ad (n:=(b8 st:Int)-1) V1,Zk,dj];simp only[zG,di];rw[zA (show¬x.1=7 by omega)];simp only[zD];rw[ad (n:=(i:Int)+1) V1]
    have k:b8 (st.take<|b9 ((b8 st:Int)-1)-0)=b8 st-1:=by
     rw[eO];omega
    refine .inl ⟨_,rfl,⟨i+1,m,_,c,rfl,by rw[k];omega,V1,by rw[k];exact d,by rw[k];exact e⟩,by simp;omega⟩
  .rw[zF o]at d;have u:Zc (x.1=0)=Zb:=zA o;rw[u];simp only[zD,zG,di];by_cases f:x.1=7
   .rw[zE f]at d e;rw[zB f];simp only[zC];rw[bu V1 V1,ad (n:=(i:Int)+1) V1,ad (n:=(b8 st:Int)+1) V1];refine .inl ⟨_,rfl,⟨i+1,max m<|b8 st+1,st++[(i:Int)],c, ?_,by simp;omega,V1,by rw[cX];exact d,by rw[cX];exact e⟩,by simp;omega⟩;rw[show((max m (b8 st+1):Nat):Int)=max (m:Int) ((b8 st:Int)+1)by omega];rfl
   .rw[zF f]at d e;rw[zF o]at e;rw[zA f];simp only[zD];rw[ad (n:=(i:Int)+1) V1];exact .inl ⟨_,rfl,⟨i+1,m,st,c,rfl,V1,V1,d,e⟩,by simp;omega⟩
 .have q:i=b8 l:=by omega
  subst q;rw[dI]at d e;simp only[mF];rw[zA (show¬(b8 l:Int)<(b8 l:Int)by omega),zD];have e:m=hmax l 0 0:=e;exact .inr ⟨_,rfl, .inr ⟨rfl,d.symm,by rw[<-e]⟩⟩
def Ll (l:List cg):Int×Int:=if cf l 0=O 0 then((hmax l 0 0:Int),0)else(0,6)
def XX {l:List cg}(p:b8 l<=100000):yZ l=O (Ll l):=by
 unfold yZ Ll
 obtain⟨c,o,h⟩:=iB (f:=mF l) (a:=((0:Int),Za,(0:Int),([]:Zd))) (aK7 l) (λs=>b8 l-b9 s.1) (λc=>(c.1=Zb/\cf l 0=Z)∨(c.1=Za/\cf l 0=O (b8 c.2.2)/\c.2.1=(hmax l 0 0:Int)))
  ⟨0,0,[],dF _,rfl,aB _,aB _,rfl,rfl⟩ V4 (λs q=>Xq p s q)
 rw[o,zG];rcases h with⟨b,d⟩|⟨b,d,k⟩
 .rw[b,d];rfl
 rw[b,d,zC];by_cases j:b8 c.2.2=0
 .rw[zB (show(b8 c.2.2:Int)=0 by omega),zE (by rw[j]),k];rfl
 rw[zA (show¬(b8 c.2.2:Int)=0 by omega),zF Zl];rfl
def Gp (l:List cg)(i:Nat):Nat:=(cf (l.take i) 0).getD 0
def RB {l:List cg}(c:cf l 0=O 0)(hi:i<=b8 l):cf (l.take i) 0=O (Gp l i):=by
 have⟨d,b,_⟩:=K1 c hi;unfold Gp;rw[b];rfl
def Lp {l:List cg}(d:cf l 0=O 0)(hi:i<b8 l):(l[i].1=7/\Gp l (i+1)=Gp l i+1)∨(l[i].1=0/\0<Gp l i/\Gp l (i+1)=Gp l i-1)∨(l[i].1≠7/\l[i].1≠0/\Gp l (i+1)=Gp l i):=by
 have b:=RB d (i:=i+1) V1;rw[eR hi,qT,RB d V1]at b;have b:cf [l[i]] (Gp l i)=O (Gp l<|i+1):=b;simp only[cf]at b;split at b
 .cases b
 split at b
 .rename_i e c;split at b
  .cases b
  injection b with b
  exact .inr (.inl ⟨c,V1,b.symm⟩)
 rename_i e c;split at b
 .rename_i k3;injection b with b
  exact .inl ⟨k3,b.symm⟩
 rename_i k3;injection b with b
 exact .inr<|.inr ⟨k3,c,b.symm⟩
def ab4 {l:List cg}(c:cf l 0=O 0): ∀i,i<=b8 l->Gp l i<=i
 |0,_=>aB _
 |i+1,h=>by
  have:=ab4 c i V1;rcases Lp c (i:=i) V1 with⟨_,b⟩|⟨_,_,b⟩|⟨_,_,b⟩<;>omega
def Qh {l:List cg}(k:l.length<=100000)(h:cf l 0=O 0){n:Nat}(o:n<=l.length):sL l (n:Int)=O (Gp l n:Int):=by
 unfold sL;have e:aq (lS l (n:Int)) fy (0,((Gp l 0:Nat):Int))=O ((Gp l n:Nat):Int):=iW (n:=n) (λi=>((Gp l i:Nat):Int)) (c:=((Gp l n:Nat):Int)) V1 (λi hi=> ?_) ?_
 .show((aq (lS l (n:Int)) fy (0,((Gp l 0:Nat):Int))).bind _)=_;rw[e];rfl
 .unfold lS;simp only[ap];rw[Zg,cz (show i<l.length by omega)];simp only[zG];have j:=ab4 h i V1;rw[ad (n:=(i:Int)+1) V1];rcases Lp h (i:=i) V1 with⟨b,d⟩|⟨b,f,d⟩|⟨b,f,d⟩
  .rw[zE b,Zh,ad (n:=((Gp l i:Nat):Int)+1) V1,d];rfl
  .rw[Zh,zE b,ad (n:=((Gp l i:Nat):Int)-1) V1,d,show((Gp l i-1:Nat):Int)=(Gp l i:Int)-1 by omega];rfl
  rw[zF b,zF f,d];rfl
 unfold lS;simp only[ap];rw[Zh]
def AQ (l:List cg):Nat->Nat
 |0=>0
 |i+1=>max (AQ l i)<|Gp l i
def N5 {l:List cg}(j:cf l 0=O 0): ∀k i,i+k=b8 l->hmax (l.drop i) (Gp l i) (AQ l<|i+1)=AQ l (b8 l+1)
 |0,i,h=>by
  have:i=b8 l:=by omega
  subst this;rw[dI];rfl
 |k+1,i,h=>by
  rw[(dE (show i<(b8 l) by omega)).symm];simp only[hmax];have d:=N5 j k (i+1) V1;have e:AQ l (i+1+1)=max (AQ l<|i+1) (Gp l<|i+1):=rfl;have o:AQ l (i+1)=max (AQ l i) (Gp l i):=rfl;rcases Lp j (i:=i) V1 with⟨b,c⟩|⟨b,f,c⟩|⟨b,f,c⟩
  .rw[zE b,<-c,<-e];exact d
  .rw[Zh,zE b,<-c,show AQ l (i+1)=AQ l (i+1+1)by rw[e];omega];exact d
  .rw[zF b,zF f];rw[c,show AQ l (i+1+1)=AQ l (i+1)by rw[e];omega]at d;exact d
def UR {l:List cg}(e:b8 l<=100000):wQ l=O (Ll l):=by
 unfold wQ Ll;rw[Ge e,zG];by_cases b:cf l 0=O 0
 .rw[zB b,zE b];simp only[dL,zD];have d:aq (og l) fy (0,((AQ l 0:Nat):Int))=O ((AQ l (b8 l+1):Nat):Int):=iW (n:=b8 l+1) (λi=>((AQ l i:Nat):Int)) (c:=((AQ l (b8 l+1):Nat):Int)) V1 (λi hi=> ?_) ?_
  .show((aq (og l) fy (0,((AQ l 0:Nat):Int))).bind _)=_;rw[d];have h:=N5 b (b8 l) 0 V1;have f:Gp l 0=0:=rfl;have j:AQ l (0+1)=0:=rfl;rw[f,j,List.drop_zero]at h;rw[h];rfl
  .unfold og;simp only[ap];rw[Zg,Qh e b V1,zG,ad (n:=(i:Int)+1) V1];show _=O (Sum.inl (((i+1:Nat):Int),((max (AQ l i) (Gp l i):Nat):Int)));rw[show((max (AQ l i) (Gp l i):Nat):Int)=max (AQ l i:Int) (Gp l i:Int)by omega];rfl
  unfold og;simp only[ap];rw[Zh]
 rw[zA b,zF b];rfl
structure OpsOk (l:List cg):Prop where
 len:b8 l<=4096
 v: ∀o∈l,0<=o.2.2.2.2/\o.2.2.2.2<=18446744073709551615
def MN (l:List cg):Int:=if Jg l then 0 else 6
def Kd (R:Int)(l:List cg):Int:=if Hs R l then 0 else 7
def Ke (l:List cg):Int:=if 8<(Ll l).1 then 8 else 0
def Kf (l:List cg):Int:=(eg l).2
def Cy (R:Int)(l:List cg):Int:=if MN l≠0 then MN l else if Kd R l≠0 then Kd R l else if Ke l≠0 then Ke l else Kf l
def qD (R:Int)(l:List cg)(Q:Int)(k:List cg):Int:=if MN l≠0 then MN l else if MN k≠0 then MN k else if Kd R l≠0 then Kd R l else if Kd Q k≠0 then Kd Q k else if Ke l≠0 then Ke l else if Ke k≠0 then Ke k else if Kf l≠0 then Kf l else Kf k
def DT {R:Int}{l:List cg}(h:OpsOk l):hO R l=O (Ke l):=by
 unfold hO Ke;have:=h.len;rw[XX V1];simp only[zG,yi];by_cases c:8<(Ll l).1<;>simp[c]
def Ce {R:Int}{l:List cg}(h:OpsOk l):gL R l=O (Kf l):=by
 unfold gL Kf;have:=h.len;rw[vW V1 h.v];rfl
def Ng {R:Int}{l:List cg}(h:OpsOk l):qW R l=O (Cy R l):=by
 unfold qW Cy;rw[Cd h.len,wv h.len,DT h,Ce h];simp only[zG,ap];show(if MN l≠0 then O (MN l)else if Kd R l≠0 then O (Kd R l)else if Ke l≠0 then O (Ke l)else if Kf l≠0 then O (Kf l)else O 0)=_;split
 .rfl
 split
 .rfl
 split
 .rfl
 split
 .rfl
 rename_i h;rw[show Kf l=0 by omega]
def Lg {R Q:Int}{l k:List cg}(h:OpsOk l)(b:OpsOk k):ni R l Q k=O (qD R l Q k):=by
 unfold ni qD;rw[Cd h.len,wv h.len,DT h,Ce h,Cd b.len,wv b.len,DT b,Ce b];simp only[zG,ap];show(if MN l≠0 then O (MN l)else if MN k≠0 then O (MN k)else if Kd R l≠0 then O (Kd R l)else if Kd Q k≠0 then O (Kd Q k)else if Ke l≠0 then O (Ke l)else if Ke k≠0 then O (Ke k)else if Kf l≠0 then O (Kf l)else if Kf k≠0 then O (Kf k)else O 0)=_;split
 .rfl
 split
 .rfl
 split
 .rfl
 split
 .rfl
 split
 .rfl
 split
 .rfl
 split
 .rfl
 split
 .rfl
 rename_i h;rw[show Kf k=0 by omega]
def We (R:Int)(l:List cg)(n:Nat):Int:=if n=0 then MN l else if n=1 then Kd R l else if n=2 then Ke l else Kf l
def Mj {R:Int}{l:List cg}(h:OpsOk l)(b:b8 l<=1500)(n:Nat):sM R l (n:Int)=O (We R l n):=by
 unfold sM We;have:=h.len;simp only[ap];by_cases c:n=0
 .rw[Zg,zE c,UU b];unfold MN;simp only[zG];cases Jg l<;>rfl
 rw[Zh,zF c];by_cases d:n=1
 .rw[Zg,zE d,JR b];unfold Kd;simp only[zG];cases Hs R l<;>rfl
 rw[Zh,zF d];by_cases e:n=2
 .rw[Zg,zE e,UR V1];unfold Ke;simp only[zG];split<;>rfl
 rw[Zh,zF e,CA b h.v];rfl
def UT {R Q:Int}{l k:List cg}(h:OpsOk l)(q:OpsOk k)(e:l.length<=1500)(f:k.length<=1500):wR R l Q k=O (qD R l Q k):=by
 have b: ∀n:Nat,n<4->lH R l Q k (n:Int)=O (if We R l n≠0 then .inr (.inl<|We R l n)else if We Q k n≠0 then .inr (.inl<|We Q k n)else .inl ((n+1:Nat):Int)):=by
  intro n s;unfold lH;simp only[ap];rw[Zg,Mj h e,Mj q f];simp only[zG];rw[ad (n:=(n:Int)+1) V1];split
  .rfl
  split<;>rfl
 have c:lH R l Q k 4=O (.inr<|.inr ()):=rfl;unfold wR qD
 have j:aq (lH R l Q k) fy 0=O (if MN l≠0 then .inl (MN l)else if MN k≠0 then .inl (MN k)else if Kd R l≠0 then .inl (Kd R l)else if Kd Q k≠0 then .inl (Kd Q k)else if Ke l≠0 then .inl (Ke l)else if Ke k≠0 then .inl (Ke k)else if Kf l≠0 then .inl (Kf l)else if Kf k≠0 then .inl (Kf k)else .inr ()):=by
  have r:fy=18446744073709551611+1+1+1+1+1:=rfl;rw[r,dp];have d:=b 0 V1;have e:=b 1 V1;have o:=b 2 V1;have p:=b 3 V1;rw[show We R l 0=MN l from rfl,show We Q k 0=MN k from rfl]at d;rw[show We R l 1=Kd R l from rfl,show We Q k 1=Kd Q k from rfl]at e;rw[show We R l 2=Ke l from rfl,show We Q k 2=Ke k from rfl]at o;rw[show We R l 3=Kf l from rfl,show We Q k 3=Kf k from rfl]at p;have d:lH R l Q k 0=_:=d;rw[d];simp only[zG];split
  .rfl
  split
  .rfl
  simp only[bz];rw[dp,e];simp only[zG];split
  .rfl
  split
  .rfl
  simp only[bz];rw[dp,o];simp only[zG];split
  .rfl
  split
  .rfl
  simp only[bz];rw[dp,p];simp only[zG];split
  .rfl
  split
  .rfl
  simp only[bz];rw[dp,show((3+1:Nat):Int)=4 from rfl,c];rfl
 rw[j];simp only[zG];split
 .rfl
 split
 .rfl
 split
 .rfl
 split
 .rfl
 split
 .rfl
 split
 .rfl
 split
 .rfl
 split
 .rfl
 rename_i h;rw[show Kf k=0 by omega];rfl
def av3 (a0:Int)(a1:List cg)(a2:Int)(a3:List cg)(a4 a5:Int): ∃d,qa a0 a1 a2 a3 a4 a5=O d/\qe a0 a1 a2 a3 a4 a5=O d:=by
 unfold qa qe;simp only[yi,zG,ap];by_cases b:a4<1
 .rw[zE b,zE b];exact⟨_,rfl,rfl⟩
 rw[zF b,zF b];by_cases c:64<a4
 .rw[zE c,zE c];exact⟨_,rfl,rfl⟩
 rw[zF c,zF c];by_cases e:a5<0
 .rw[zE e,zE e];exact⟨_,rfl,rfl⟩
 rw[zF e,zF e];by_cases f:64<a5
 .rw[zE f,zG,ap,zE f];exact⟨_,rfl,rfl⟩
 rw[zF f,zG,ap,zF f];by_cases h:a0<IntKind.i64.wrap (zH zI (a4+a5)+1)
 .rw[zE h,zE h];exact⟨_,rfl,rfl⟩
 rw[zF h,zF h];by_cases j:a2<IntKind.i64.wrap (a4+a5)
 .rw[zE j,zB j];exact⟨_,rfl,rfl⟩
 rw[zF j,zA j];exact⟨_,rfl,rfl⟩
def zr (s l x t:Int):Int:=if x<1 then 10 else if 64<x then 10 else if t<0 then 10 else if 64<t then 10 else if s<IntKind.i64.wrap (zH zI (x+t)+1)then 10 else if l<IntKind.i64.wrap (x+t)then 10 else 0
def Mi (a0:Int)(a1:List cg)(a2:Int)(a3:List cg)(a4 a5:Int):qe a0 a1 a2 a3 a4 a5=O (zr a0 a2 a4 a5):=by
 unfold qe zr;simp only[ap];split
 .rfl
 split
 .rfl
 split
 .rfl
 split
 .rfl
 split
 .rfl
 split<;>rfl
def Lf (a0:Int)(a1:List cg)(a2:Int)(a3:List cg)(a4 a5:Int):qa a0 a1 a2 a3 a4 a5=O (zr a0 a2 a4 a5):=by
 have⟨d,b,c⟩:=av3 a0 a1 a2 a3 a4 a5;rw[b,<-c,Mi]
def hk0 (m:Int):Int:=if m<1 then 5 else if 3<m then 5 else 0
def hk3 (m n:Int):Int:=if n<0 then 11 else if(if m=2 then 0 else 65535)<n then 11 else 0
def hk4 (b:Int):Int:=if b<0 then 12 else if 1048576<b then 12 else 0
def Ax (m:Int)(x t:Nat)(R:Int)(l:List cg)(Q:Int)(k:List cg)(n b:Int):Int:=if hk0 m≠0 then hk0 m else if qD R l Q k≠0 then qD R l Q k else if zr R Q x t≠0 then zr R Q x t else if hk3 m n≠0 then hk3 m n else hk4 b
def D3 (b:Bool)(e:Int):da b e=O (if b then e else 0):=by cases b<;>rfl
section
variable {a0:Int} {a1 a2:Zd} {a3:Int} {a4:List cg} {a5:Int} {a6:List cg} {a7 a8:Int}
def ad1 :iy a0 a1 a2 a3 a4 a5 a6 a7 a8=O (hk0 a0):=by
 unfold iy hk0;simp only[D3,zG,ap];split
 .rfl
 by_cases c:3<a0<;>simp[c]
def Ur (b:OpsOk a4)(c:OpsOk a6):fJ a0 a1 a2 a3 a4 a5 a6 a7 a8=O (qD a3 a4 a5 a6):=by
 unfold fJ;rw[Lg b c];rfl
def aO7 :jF a0 a1 a2 a3 a4 a5 a6 a7 a8=O (zr a3 a5 (b8 a1:Nat) (b8 a2:Nat)):=by
 unfold jF;rw[Lf];rfl
def ad0 :iS a0 a1 a2 a3 a4 a5 a6 a7 a8=O (hk3 a0 a7):=by
 unfold iS hk3;simp only[D3,zG,ap];by_cases b:a0=2
 .rw[zE b,zE b,zG];split
  .rfl
  by_cases c:0<a7<;>simp[c]
 rw[zF b,zF b,zG];split
 .rfl
 by_cases c:65535<a7<;>simp[c]
def ac9 :iR a0 a1 a2 a3 a4 a5 a6 a7 a8=O (hk4 a8):=by
 unfold iR hk4;simp only[D3,zG,ap];split
 .rfl
 by_cases c:1048576<a8<;>simp[c]
def G5 (j:OpsOk a4)(o:OpsOk a6):kP a0 a1 a2 a3 a4 a5 a6 a7 a8=O (Ax a0 (b8 a1) (b8 a2) a3 a4 a5 a6 a7 a8):=by
 have c:gz a0 a1 a2 a3 a4 a5 a6 a7 a8 0=O (if hk0 a0≠0 then .inr (.inl<|hk0 a0)else .inl 1):=by
  show(bA (iy a0 a1 a2 a3 a4 a5 a6 a7 a8) λr=>cond (Zc<|r≠0) _ _)=_;rw[ad1];simp only[zG,ap];split<;>rfl
 have d:gz a0 a1 a2 a3 a4 a5 a6 a7 a8 1=O (if qD a3 a4 a5 a6≠0 then .inr (.inl<|qD a3 a4 a5 a6)else .inl 2):=by
  show(bA (fJ a0 a1 a2 a3 a4 a5 a6 a7 a8) λr=>cond (Zc<|r≠0) _ _)=_;rw[Ur j o];simp only[zG,ap];split<;>rfl
 have e:gz a0 a1 a2 a3 a4 a5 a6 a7 a8 2=O (if zr a3 a5 (b8 a1:Nat) (b8 a2:Nat)≠0 then .inr (.inl<|zr a3 a5 (b8 a1:Nat) (b8 a2:Nat))else .inl 3):=by
  show(bA (jF a0 a1 a2 a3 a4 a5 a6 a7 a8) λr=>cond (Zc<|r≠0) _ _)=_;rw[aO7];simp only[zG,ap];split<;>rfl
 have f:gz a0 a1 a2 a3 a4 a5 a6 a7 a8 3=O (if hk3 a0 a7≠0 then .inr (.inl<|hk3 a0 a7)else .inl 4):=by
  show(bA (iS a0 a1 a2 a3 a4 a5 a6 a7 a8) λr=>cond (Zc<|r≠0) _ _)=_;rw[ad0];simp only[zG,ap];split<;>rfl
 have k:gz a0 a1 a2 a3 a4 a5 a6 a7 a8 4=O (if hk4 a8≠0 then .inr (.inl<|hk4 a8)else .inl 5):=by
  show(bA (iR a0 a1 a2 a3 a4 a5 a6 a7 a8) λr=>cond (Zc<|r≠0) _ _)=_;rw[ac9];simp only[zG,ap];split<;>rfl
 have b:gz a0 a1 a2 a3 a4 a5 a6 a7 a8 5=O (.inr<|.inr ()):=rfl;unfold kP Ax;have p:fy=18446744073709551610+1+1+1+1+1+1:=rfl;rw[p,dp,c,zG];split
 .rfl
 simp only[bz];rw[dp,d,zG];split
 .rfl
 simp only[bz];rw[dp,e,zG];split
 .rfl
 simp only[bz];rw[dp,f,zG];split
 .rfl
 simp only[bz];rw[dp,k,zG];split
 .rfl
 rename_i h;simp only[bz];rw[dp,b,show hk4 a8=0 by omega];rfl
def SX (q:OpsOk a4)(r:OpsOk a6)(o:b8 a4<=1500)(p:b8 a6<=1500):uY a0 a1 a2 a3 a4 a5 a6 a7 a8=O (Ax a0 (b8 a1) (b8 a2) a3 a4 a5 a6 a7 a8):=by
 unfold uY Ax;rw[UT q r o p,Mi];simp only[zG,ap];unfold hk0;by_cases c:a0<1
 .rw[zE c,zE c];rfl
 rw[zF c,zF c];by_cases d:3<a0
 .rw[zE d,zE d];rfl
 rw[zF d,zF d,zF (show¬(0:Int)≠0 by simp)];by_cases e:qD a3 a4 a5 a6≠0
 .rw[zE e,zE e]
 rw[zF e,zF e];by_cases f:zr a3 a5 (b8 a1:Nat) (b8 a2:Nat)≠0
 .rw[zE f,zE f]
 rw[zF f,zF f];unfold hk3 hk4;by_cases h:a7<0
 .rw[zE h,zE h];rfl
 rw[zF h,zF h];by_cases j:a0=2
 .rw[zE j,zE j];by_cases k:0<a7
  .rw[zE k,zE (show(11:Int)≠0 by simp)];by_cases b:65535<a7
   .rw[zE b]
   rw[zF b,Zg]
  rw[zF k,zF (show¬(0:Int)≠0 by simp),zF (show¬65535<a7 by omega),zF (show¬a7≠0 by omega)];split
  .rfl
  split<;>rfl
 rw[zF j,zF j];by_cases b:65535<a7
 .rw[zE b,zE b];rfl
 rw[zF b,zF b,zF (show¬(0:Int)≠0 by simp)];split
 .rfl
 split<;>rfl
structure HFacts (a0:Int)(x t:Nat)(a3:Int)(a4:List cg)(a5:Int)(a6:List cg)(a7 a8:Int):Prop where
 mode:1<=a0/\a0<=3
 regs:1<=a3/\a3<=64
 regs':1<=a5/\a5<=64
 xs:1<=x/\x<=64
 ts:t<=64
 w:0<=(eg a4).1/\(eg a4).1<=65536
 w':0<=(eg a6).1/\(eg a6).1<=65536
 len:0<=a7/\a7<=65535
 bud:0<=a8/\a8<=1048576
def Se {R:Int}{l:List cg}(h:Kd R l=0):1<=R/\R<=64:=by
 unfold Kd at h;split at h
 .rename_i hb;unfold Hs at hb;rw[Bool.and_eq_true]at hb;exact of_decide_eq_true hb.1
 cases h
def MJ {l:List cg}(h:OpsOk l):0<=(eg l).1/\(eg l).1<=65536:=by
 unfold eg;split
 .rename_i hs;split
  .rename_i w hq;have:=I1 (λo b=>(h.v o b).1) hs hq;split
   .simp
   simp;omega
  simp
 simp
def X6 {R Q:Int}{l k:List cg}(h:qD R l Q k=0):(1<=R/\R<=64)/\(1<=Q/\Q<=64):=by
 unfold qD at h;split at h
 .rename_i c;exact(c h).elim
 split at h
 .rename_i c;exact(c h).elim
 split at h
 .rename_i c;exact(c h).elim
 split at h
 .rename_i c;exact(c h).elim
 rename_i b d;exact⟨Se (l:=l) V1,Se (l:=k) V1⟩
def LF (j:OpsOk a4)(k:OpsOk a6)(h:Ax a0 x t a3 a4 a5 a6 a7 a8=0):HFacts a0 x t a3 a4 a5 a6 a7 a8:=by
 unfold Ax at h;split at h
 .rename_i c;exact(c h).elim
 split at h
 .rename_i c;exact(c h).elim
 split at h
 .rename_i c;exact(c h).elim
 split at h
 .rename_i c;exact(c h).elim
 rename_i e q b d;have⟨o,p⟩:=X6 (show qD a3 a4 a5 a6=0 by omega);have e:hk0 a0=0:=by omega
 have b:zr a3 a5 x t=0:=by omega
 have d:hk3 a0 a7=0:=by omega
 unfold hk0 at e;unfold hk3 at d;unfold hk4 at h;unfold zr at b;refine⟨?_,o,p, ?_, ?_,MJ j,MJ k, ?_, ?_⟩
 .split at e
  .omega
  split at e<;>omega
 .split at b
  .omega
  split at b<;>omega
 .split at b
  .omega
  split at b
  .omega
  split at b
  .omega
  split at b<;>omega
 .split at d
  .omega
  by_cases f:a0=2
  .rw[zE f]at d;split at d<;>omega
  rw[zF f]at d;split at d<;>omega
 split at h
 .omega
 split at h<;>omega
def tM (a0:Int)(a4 a6:List cg):Int:=if a0=3 then(eg a6).1 else(eg a4).1+(eg a6).1
def tL (a0:Int)(x:Nat)(a3:Int)(a4:List cg):Int:=if a0=3 then(eg a4).1+a3 else x+1
def vM (x t:Nat)(a3 a5:Int):Int:=2*t+2*x+a3+a5+max a3 a5
def Qe (b:OpsOk a4)(c:OpsOk a6):ia a0 a1 a2 a3 a4 a5 a6 a7 a8=O (if Ax a0 (b8 a1) (b8 a2) a3 a4 a5 a6 a7 a8≠0 then(0,0)else((eg a4).1,(eg a6).1)):=by
 unfold ia;have:=b.len;have:=c.len;rw[G5 b c,vW V1 b.v,vW V1 c.v];simp only[zG,ap];split<;>rfl
def am4 (b:OpsOk a4)(c:OpsOk a6)(d:b8 a4<=1500)(e:b8 a6<=1500):Bx a0 a1 a2 a3 a4 a5 a6 a7 a8=O (if Ax a0 (b8 a1) (b8 a2) a3 a4 a5 a6 a7 a8≠0 then(0,0)else((eg a4).1,(eg a6).1)):=by
 unfold Bx;have:=b.len;have:=c.len;rw[SX b c d e,CA d b.v,CA e c.v];simp only[zG,ap];split<;>rfl
def Ma (b:OpsOk a4)(d:OpsOk a6)(h:Ax a0 (b8 a1) (b8 a2) a3 a4 a5 a6 a7 a8=0):sH a0 a1 a2 a3 a4 a5 a6 a7 a8=O (((b8 a2:Nat):Int),((b8 a1:Nat):Int),a3,a5,max a3 a5,((b8 a1:Nat):Int),((b8 a2:Nat):Int),tM a0 a4 a6,tL a0 (b8 a1) a3 a4):=by
 have f:=LF b d h;have e:=f.mode;have j:=f.regs;have k:=f.xs;have o:=f.w;have p:=f.w';unfold sH tM tL;rw[Qe b d,zF<|λc=>c h];simp only[zG,ap];rw[ad (n:=(eg a4).1+a3) V1,ad (n:=(eg a4).1+(eg a6).1) V1,ad (n:=(b8 a1:Int)+1) V1];split
 .rfl
 rfl
def pre (L:Zd):Nat->Int
 |0=>0
 |i+1=>pre L i+L.getD i 0
def UN {L:Zd}(b: ∀j,0<=L.getD j 0/\L.getD j 0<=1000000000000): ∀i,0<=pre L i/\pre L i<=1000000000000*i
 |0=>⟨dN _,dN _⟩
 |i+1=>by
  have:=UN b i;have:=b i;simp only[pre];omega
def SE {b0 b1 b2 b3 c d f h b n:Int}(o: ∀j,0<=([b0,b1,b2,b3,c,d,f,h,b*n]:Zd).getD j 0/\([b0,b1,b2,b3,c,d,f,h,b*n]:Zd).getD j 0<=1000000000000):xI b0 b1 b2 b3 c d f h b n=O ((dG 10).map<|pre [b0,b1,b2,b3,c,d,f,h,b*n]):=by
 generalize q:([b0,b1,b2,b3,c,d,f,h,b*n]:Zd)=L at*;have r:=UN o
 have k:aq (qH b0 b1 b2 b3 c d f h b) fy (0,(pre L 0,(dG 0).map<|pre L))=O (pre L 8,(dG 8).map<|pre L):=by
  refine iW (n:=8) (λi=>(pre L i,(dG i).map<|pre L)) V1 (λi hi=> ?_) ?_
  .unfold qH;rw[ap,Zg,bq (show i<9 by omega),zG]
   have e:dR [b0,b1,b2,b3,c,d,f,h,b] i 0=L.getD i 0:=by
    subst q;rcases(show i=0∨i=1∨i=2∨i=3∨i=4∨i=5∨i=6∨i=7 by omega)with rfl|rfl|rfl|rfl|rfl|rfl|rfl|rfl<;>rfl
   have s:=r i;have p:=o i;rw[e,bu V4 V1,ad (n:=pre L i+L.getD i 0) V1,ad (n:=(i:Int)+1) V1,eQ,dV];rfl
  unfold qH;rw[ap,Zh]
 unfold xI;have k:aq (qH b0 b1 b2 b3 c d f h b) fy (0,0,[])=_:=k;rw[k];have s:=r 8;have p:=o 8;have e:L.getD 8 0=b*n:=by subst q;rfl
 rw[e]at p;simp only[zG];rw[bu V2 V1,bu V2 V1,ad (n:=b*n) V1,ad (n:=pre L 8+b*n) V1];show _=O ((dG<|8+1+1).map<|pre L);rw[eQ (n:=8+1),eQ (n:=8),dV,dV];show _=O (((dG 8).map (pre L)++[pre L 8])++[pre L 8+L.getD 8 0]);rw[e]
def X8 {b0 b1 b2 b3 b c d e f n:Int}(h: ∀j,0<=([b0,b1,b2,b3,b,c,d,e,f*n]:Zd).getD j 0/\([b0,b1,b2,b3,b,c,d,e,f*n]:Zd).getD j 0<=1000000000000):vt b0 b1 b2 b3 b c d e f n=O (b0+b1+b2+b3+b+c+d+e+f*n):=by
 unfold vt;rw[SE h];show O (0+b0+b1+b2+b3+b+c+d+e+f*n)=_;rw[cY]
def bm7 {b0 b1 b2 b3 b c d e f:Int}{p:Int->Prop}(h:p b0)(k:p b1)(o:p b2)(q:p b3)(r:p b)(s:p c)(u:p d)(y:p e)(z:p f)(A:p 0): ∀j,p (([b0,b1,b2,b3,b,c,d,e,f]:Zd).getD j 0)
 |0=>h
 |1=>k
 |2=>o
 |3=>q
 |4=>r
 |5=>s
 |6=>u
 |7=>y
 |8=>z
 |j+9=>by
  show p<|([]:Zd).getD j 0;rw[List.getD_nil];exact A
def ag4 {s n:Int}(c:0<=s/\s<=100000)(b:0<=n/\n<=1048576):0<=s*n/\s*n<=1000000000000:=by
 have d:=dH c.1 b.1;have e:=Int.mul_le_mul c.2 b.2 b.1 V1;omega
structure SFacts (x t:Nat)(a3 a5 tp sl:Int):Prop where
 xs:1<=x/\x<=64
 ts:t<=64
 r:1<=a3/\a3<=64
 r':1<=a5/\a5<=64
 tp:0<=tp/\tp<=131072
 sl:1<=sl/\sl<=100000
def Qp (b:OpsOk a4)(c:OpsOk a6)(h:Ax a0 x t a3 a4 a5 a6 a7 a8=0):SFacts x t a3 a5 (tM a0 a4 a6)<|tL a0 x a3 a4:=by
 have f:=LF b c h;have d:=f.mode;have e:=f.regs;have j:=f.xs;have k:=f.w;have o:=f.w';refine⟨f.xs,f.ts,f.regs,f.regs', ?_, ?_⟩
 .unfold tM;split<;>omega
 unfold tL;split<;>omega
def UW {tp sl n:Int}(s:SFacts x t a3 a5 tp sl)(b:0<=n/\n<=1048576): ∀j,0<=([(t:Int),x,a3,a5,max a3 a5,x,t,tp,sl*n]:Zd).getD j 0/\([(t:Int),x,a3,a5,max a3 a5,x,t,tp,sl*n]:Zd).getD j 0<=1000000000000:=by
 have c:=s.xs;have d:=s.ts;have e:=s.r;have f:=s.r';have h:=s.tp;have k:=s.sl;exact bm7 (p:=λy=>0<=y/\y<=1000000000000) V1 V1 V1 V1 V1 V1 V1 V1 (ag4 V1 b) V1
def aT1 {tp b n:Int}(s:SFacts x t a3 a5 tp b)(c:0<=n/\n<=1048576):vt t x a3 a5 (max a3 a5) x t tp b n=O (vM x t a3 a5+tp+n*b):=by
 rw[X8<|UW s c];unfold vM;rw[Int.mul_comm b n]
 congr 1
 omega
def least (a0 a7:Int):Int:=if a0=3 then a7 else 1
def ng (a0:Int)(x t:Nat)(a3:Int)(a4:List cg)(a5:Int)(a6:List cg)(a7 a8:Int):Int×Int×Int×Int×Int:=
 if Ax a0 x t a3 a4 a5 a6 a7 a8≠0 then(0,0,0,0,Ax a0 x t a3 a4 a5 a6 a7 a8)
 else if a8<vM x t a3 a5+tM a0 a4 a6+least a0 a7*tL a0 x a3 a4 then(0,0,0,0,13)
 else(vM x t a3 a5,tM a0 a4 a6,tL a0 x a3 a4,if a0=3 then a7 else(a8-vM x t a3 a5-tM a0 a4 a6) / tL a0 x a3 a4,0)
def aj2 {tp b n:Int}(s:SFacts x t a3 a5 tp b):aq (sG (t:Int) (x:Int) a3 a5 (max a3 a5) (x:Int) (t:Int) tp b) fy (0,0,tp,b,n)=O (vM x t a3 a5,tp,b,n):=by
 have d:=UW (n:=1) s V1;have j:=UN d
 have f:pre [(t:Int),x,a3,a5,max a3 a5,x,t,tp,b*1] 7=vM x t a3 a5:=by
  show 0+(t:Int)+x+a3+a5+max a3 a5+x+t=_;unfold vM;omega
 rw[<-f];generalize h:([(t:Int),x,a3,a5,max a3 a5,x,t,tp,b*1]:Zd)=L at*;refine iW (n:=7) (λi=>(pre L i,tp,b,n)) (c:=(pre L 7,tp,b,n)) V1 (λi hi=> ?_) ?_
 .unfold sG;rw[ap,Zg,bq (show i<9 by omega),zG]
  have e:dR [(t:Int),x,a3,a5,max a3 a5,x,t,tp,b] i 0=L.getD i 0:=by
   subst h;rcases(show i=0∨i=1∨i=2∨i=3∨i=4∨i=5∨i=6 by omega)with rfl|rfl|rfl|rfl|rfl|rfl|rfl<;>rfl
  have k:=j i;have o:=d i;rw[e,ad (n:=pre L i+L.getD i 0) V1,ad (n:=(i:Int)+1) V1];rfl
 unfold sG;rw[ap,Zh]
def E0 (e:OpsOk a4)(j:OpsOk a6):kH a0 a1 a2 a3 a4 a5 a6 a7 a8=O (ng a0 (b8 a1) (b8 a2) a3 a4 a5 a6 a7 a8):=by
 unfold kH ng;rw[G5 e j,zG];by_cases h:Ax a0 (b8 a1) (b8 a2) a3 a4 a5 a6 a7 a8=0
 .rw[zA (λc=>c h),zD,zF (λc=>c h),Ma e j h];have s:=Qp e j h;have f:=LF e j h;have z:=f.mode;have A:=f.len;have B:=f.bud;have C:=s.xs;have D:=s.ts;have E:=s.r;have F:=s.r';have H:=s.tp;have I:=s.sl
  have u:(cond (Zc<|a0=3) (O a7)<|O (1:Int))=O (least a0 a7):=by
   unfold least;rw[ap];split<;>rfl
  have y:0<=least a0 a7/\least a0 a7<=65535:=by unfold least;split<;>omega
  simp only[zG];rw[u,zG,aT1 s V1,zG,aj2 s];simp only[zG,ap];by_cases c:a8<vM (b8 a1) (b8 a2) a3 a5+tM a0 a4 a6+least a0 a7*tL a0 (b8 a1) a3 a4
  .rw[zE c,zE c]
  rw[zF c,zF c];have q:0<=vM (b8 a1) (b8 a2) a3 a5/\vM (b8 a1) (b8 a2) a3 a5<=1000:=by unfold vM;omega
  by_cases b:a0=3
  .rw[zF (λk=>k b),zE b];unfold least;rw[zE b]
  rw[zE b,zF b,aO3 V1];unfold least at c;rw[zF b]at c;generalize vM (b8 a1) (b8 a2) a3 a5=d at*;generalize tM a0 a4 a6=tp at*;generalize tL a0 (b8 a1) a3 a4=sl at*;rw[ad (n:=a8-d) V1,ad (n:=a8-d-tp) V1,Qu V1];have o:0<=(a8-d-tp) / sl:=eF V1 V1;have p:(a8-d-tp) / sl<=a8-d-tp:=eE _ V1;rw[Zi]
 rw[zB h,zC,zE h]
end
def Reach {α γ:Type}(f:α->Option (α⊕γ))(k:Nat)(s c:α):Prop:= ∀b,aq f (b+k) s=aq f b c
def Reach.refl {α γ:Type}{f:α->Option (α⊕γ)}{s:α}:Reach f 0 s s:=λ_=>rfl
def Reach.trans {α γ:Type}{f:α->Option (α⊕γ)}{k c:Nat}{s e b:α}(h:Reach f k s e)(j:Reach f c e b):Reach f (k+c) s b:=by
 intro d;rw[show d+(k+c)=(d+c)+k by omega,h,j]
def Reach.one {α γ:Type}{f:α->Option (α⊕γ)}{s b:α}(h:f s=O (.inl b)):Reach f 1 s b:=by
 intro c;rw[dp,h];rfl
section
variable {l:List cg}
def bb1 (d:l.length<=8192)(b:st.length<=8192)(hi:i<l.length)(c:0<l[i].1/\l[i].1<7)(e:out.length=l.length):
  du l ((i:Int),Za,out,st,st)=O (.inl (((i+1:Nat):Int),Za,out.set i<|-1,st,st)):=by
 simp only[du];rw[zB (show(i:Int)<(l.length:Int)by omega),zC,cz hi];simp only[zG];generalize f:l[i]=x at*;rw[zA (show¬x.1<0 by omega),zD,zA (show¬7<x.1 by omega),zD,zA (show¬x.1=0 by omega)];simp only[zD,zG,di];rw[bq (show i<out.length by omega)];simp only[zG];rw[aD (show i<out.length by omega)];simp only[zG];rw[zA (show¬x.1=7 by omega)];simp only[zD];rw[ad (n:=(i:Int)+1) V1];rfl
def aA8 (d:b8 l<=8192)(c:b8 st<=8192)(hi:i<b8 l)(b:l[i].1=7)(e:b8 out=b8 l):
  du l ((i:Int),Za,out,st,st)=O (.inl (((i+1:Nat):Int),Za,out.set i<|-1,st++[(i:Int)],st++[(i:Int)])):=by
 simp only[du];rw[zB (show(i:Int)<(b8 l:Int)by omega),zC,cz hi,zG];generalize f:l[i]=x at*;rw[zA (show¬x.1<0 by omega),zD,zA (show¬7<x.1 by omega),zD,zA (show¬x.1=0 by omega)];simp only[zD,zG,di];rw[bq (show i<(b8 out) by omega),zG,aD (show i<(b8 out) by omega),zG,zB b];simp only[zC];rw[bu V1 V1,bu V1 V1,ad (n:=(i:Int)+1) V1];rfl
def ah1 {q:Nat}(h:l.length<=8192)(f:st.length<8192)(hi:i<l.length)(e:l[i].1=0)(j:out.length=l.length)(k:q<l.length):
  du l ((i:Int),Za,out,st++[(q:Int)],st++[(q:Int)])=O (.inl (((i+1:Nat):Int),Za,((out.set i<|-1).set i (q:Int)).set q (i:Int),st,st)):=by
 have b:(st++[(q:Int)]).length=st.length+1:=by simp
 simp only[du];rw[zB (show(i:Int)<(l.length:Int)by omega),zC,cz hi];simp only[zG];generalize o:l[i]=x at*;rw[zA (show¬x.1<0 by omega),zD,zA (show¬7<x.1 by omega),zD,zB e];simp only[zC,zG,di];rw[zA (show¬((st++[(q:Int)]).length:Int)=0 by omega),zD];rw[ad (n:=((st++[(q:Int)]).length:Int)-1) V1,Zk,dj];simp only[zG,di];have d:Zc (x.1=7)=Zb:=zA V1;rw[bq (show i<out.length by omega)];simp only[zG];rw[aD (show i<out.length by omega)];simp only[zG];rw[d,zD,show((st++[(q:Int)]).length:Int)-1=(st.length:Int)by rw[b];omega,bq (show st.length<(st++[(q:Int)]).length by omega)];simp only[zG];rw[cW<|aB _,bD];simp only[eZ,zG]
 rw[dj,bq (show i<(out.set i<|-1).length by simp;omega)];simp only[zG];rw[aD (show i<(out.set i<|-1).length by simp;omega)];simp only[zG];rw[bq (show q<((out.set i<|-1).set i ((q:Nat):Int)).length by simp;omega)];simp only[zG];rw[aD (show q<((out.set i<|-1).set i ((q:Nat):Int)).length by simp;omega)];simp only[zG]
 have c:(st++[(q:Int)]).take ((st.length:Int).toNat-0)=st:=by
  rw[show(st.length:Int).toNat-0=st.length by omega,dZ];rfl
 rw[c,ad (n:=(i:Int)+1) V1];rfl
def P8 (D:b8 l<=8192): ∀(k:Nat) (A seg B:List cg) (out st:Zd),b8 seg<=k->l=A++seg++B->cf seg 0=O 0->b8 out=b8 l->b8 st<=b8 A->
  ∃f,Reach (du l) (b8 seg) ((b8 A:Int),Za,out,st,st) (((b8 A+b8 seg:Nat):Int),Za,f,st,st)/\b8 f=b8 l/\
   (∀j,¬(b8 A<=j/\j<b8 A+b8 seg)->f[j]?=out[j]?)/\∀j,b8 A<=j->j<b8 A+b8 seg->(y:j<b8 l)->l[j].1=7->∀inner e rest,l.drop (j+1)=inner++e::rest->e.1=0->cf inner 0=O 0->f[j]?=O ((j+1+b8 inner:Nat):Int)
 |k,A,[],B,out,st,_,b,L,E,hst=>⟨out,Reach.refl,E,λj _=>rfl,λj h1 W=>by simp at W;omega⟩
 |0,A,o::seg,B,out,st,p,_,_,_,_=>by simp at p
 |k+1,A,o::seg,B,out,st,p,b,L,E,hst=>by
  simp only[cD]at p⊢;have K:b8 l=b8 A+(b8 seg+1)+b8 B:=by rw[b];simp;omega
  have s:b8 A<b8 l:=by omega
  have h:l[b8 A]=o:=by
   have:l[b8 A]?=O o:=by
    rw[b,cV,cW<|aB _,bD];rfl
   rw[aD s]at this;injection this
  by_cases r:o.1=7
  .have hs1:cf seg 1=O 0:=by
    simp only[cf]at L;rw[Zh,Zh,zE r]at L;exact L
   have⟨inner,e,rest,h1,W,h3,h4⟩:=CE _ seg 0 (aB _) hs1;subst h1;simp only[cX,cD]at p K⊢
   have hd:l.drop (b8 A+1)=inner++e::(rest++B):=by
    rw[b,cV,dP,dQ V1,show b8 A+1-b8 A=1 by omega];simp
   have u:b8 (A++[o])=b8 A+1:=by simp
   have⟨S1,U,Y,M,F⟩:=P8 D k (A++[o]) inner (e::(rest++B)) (out.set (b8 A)<|-1) (st++[(b8 A:Int)]) V1 (by rw[b];simp) h3 (by simp[E]) V4;rw[u]at U M F;have J:b8 A+1+b8 inner<b8 l:=by omega
   have I:l[b8 A+1+b8 inner]=e:=by
    have X:(l.drop<|b8 A+1)[b8 inner]?=O e:=by
     rw[hd,cW<|aB _,bD];rfl
    rw[dS,aD J]at X;injection X
   have c1:=ah1 (st:=st) D V1 J (by rw[I];exact W) Y s;have hA2:b8 (A++o::(inner++[e]))=b8 A+1+b8 inner+1:=by simp;omega
   have⟨S2,r2,l3,k2,g2⟩:=P8 D k (A++o::(inner++[e])) rest B (((S1.set (b8 A+1+b8 inner)<|-1).set (b8 A+1+b8 inner) (b8 A:Int)).set (b8 A) ((b8 A+1+b8 inner:Nat):Int)) st V1 (by rw[b];simp) h4 (by simp[Y]) V1;rw[hA2]at r2 k2 g2;refine⟨S2, ?_,l3,λj y=> ?_,λj X h6 y p c V d N Q T=> ?_⟩
   .have h0:=Reach.one<|aA8 (out:=out) (st:=st) D V1 s (by rw[h];exact r) E;have H:=((h0.trans U).trans<|Reach.one c1).trans r2;rw[show 1+b8 inner+1+b8 rest=b8 inner+(b8 rest+1)+1 by omega,show b8 A+1+b8 inner+1+b8 rest=b8 A+(b8 inner+(b8 rest+1)+1)by omega]at H;exact H
   .rw[k2 j V1,cB V1,cB V1,cB V1,M j V1,cB V1]
   .by_cases z:b8 A+1+b8 inner+1<=j
    .exact g2 j z V1 y p c V d N Q T
    .rw[k2 j V1];by_cases q:b8 A=j
     .subst q;rw[dJ V4];have:=xm (hd.symm.trans N) h3 T W Q;subst this;rfl
     .have hj3:j<b8 A+1+b8 inner:=by
       by_cases C:j<b8 A+1+b8 inner
       .exact C
       .exfalso;have C:j=b8 A+1+b8 inner:=by omega
        subst C;rw[I]at p;omega
      rw[cB q,cB V1,cB V1];exact F j V1 hj3 y p c V d N Q T
  .obtain⟨hsr,hko,_⟩:=Ny L r;have u:b8 (A++[o])=b8 A+1:=by simp
   have c1:=bb1 (out:=out) (st:=st) D V1 s (by rw[h];exact hko) E;have⟨S1,U,Y,M,F⟩:=P8 D k (A++[o]) seg B (out.set (b8 A)<|-1) st V1 (by rw[b];simp) hsr (by simp[E]) V1;rw[u]at U M F;refine⟨S1, ?_,Y,λj y=> ?_,λj X h6 y p c V d N Q T=> ?_⟩
   .have H:=(Reach.one c1).trans U;rw[show 1+b8 seg=b8 seg+1 by omega,show b8 A+1+b8 seg=b8 A+(b8 seg+1)by omega]at H;exact H
   .rw[M j V1,cB V1]
   .by_cases z:b8 A+1<=j
    .exact F j z V1 y p c V d N Q T
    .have q:j=b8 A:=by omega
     subst q;exact(r (by rw[<-h];exact p)).elim
def JN (o:b8 l<=8192)(p:cf l 0=O 0): ∃m,lO l=O (0,m)/\MOK l m:=by
 have⟨S',j,q,y,f⟩:=P8 (l:=l) o _ [] l [] (bB (b9 (b8 l:Int)) (0:Int)) [] (aB _) V2 p V2 V2;rw[show(b8 ([]:List cg))+b8 l=(b8 l) by simp]at j f
 have b:aq (du l) fy ((0:Int),Za,bB (b9 (b8 l:Int)) (0:Int),([]:Zd),([]:Zd))=O (Za,S',[],[]):=by
  have h:=j<|18446744073709551616-b8 l;rw[show 18446744073709551616-b8 l+b8 l=fy by unfold fy;omega,show 18446744073709551616-b8 l=(18446744073709551615-b8 l)+1 by omega]at h;refine h.trans ?_;rw[dp];simp only[du];rw[Ze,zD];rfl
 refine⟨S', ?_,⟨q,λi hi k c e d r s u=>f i (dF _) hi hi k c e d r s u⟩⟩;unfold lO;rw[zB (show(0:Int)<=(b8 l:Int)by omega),zB (show(b8 l:Int)<=(b8 l:Int)by omega),zB (show 8*(b8 l:Int)<=140737488355328 by omega)];show gd Za _=_;rw[dj,b];rfl
end
section
variable {l:List cg}
def af6 {sz:Zd}{pre:List<|Int×Int}(C:l.length<=8192)(D:pre.length<=8192)(hi:i<l.length):
  dh l ((i:Int),sz,rds,pre++[(a,w)])=(cond (Zc<|l[i].1=7)
   (O<|.inl (((i+1:Nat):Int),sz,rds,pre++[(a,w)]++[((i:Int),0)]))
   (cond (Zc<|l[i].1=0)
    ((rd l a).bind λs=>
    (sP w s.2.2.2.2).bind λb=>
    cond (!b.2)
     (O<|.inr (9,sz,rds,pre++[(a,w)]))
     ((ix a sz.length).bind λf=>
     (sz[f]?).bind λz=>
     (ix a rds.length).bind λh=>
     (rds[h]?).bind λA=>
     gd (gT 0 (pre.length:Int)<|pre.length+1) ((ix (zH zI<|(pre.length:Int)-1) pre.length).bind λo=>
     ((pre++[(a,w)])[(0+o)]?).bind λu=>
     (xM<|[u.2,b.1]).bind λp=>
     (ix (zH zI<|(pre.length:Int)-1) pre.length).bind λj=>
     ((pre++[(a,w)])[(0+j)]?).bind λy=>
     O (.inl (((i+1:Nat):Int),dW sz f b.1,dW rds h w,List.take pre.length<|dW (pre++[(a,w)]) (0+j) (y.1,p))))))
    ((jZ l[i].1 l[i].2.1 l[i].2.2.1 l[i].2.2.2.1 l[i].2.2.2.2).bind λq=>
    cond q.2
     ((ix (i:Int) sz.length).bind λk=>
     (sz[k]?).bind λB=>
     O (.inl (((i+1:Nat):Int),dW sz k 1,rds,pre++[(a,zH zI<|w+1)])))
     (O<|.inl (((i+1:Nat):Int),sz,rds,pre++[(a,w)]))))):=by
 have d:(pre++[(a,w)]).length=pre.length+1:=by simp
 have c:(pre++[(a,w)])[pre.length]?=O (a,w):=by
  rw[cW<|aB _,bD];rfl
 have e: ∀r,(pre++[(a,w)]).set pre.length (a,r)=pre++[(a,r)]:=by
  intro r;rw[dX _ _<|aB _,bD];rfl
 simp only[dh];rw[zB (show(i:Int)<(l.length:Int)by omega),zC,cz hi];simp only[zG];rw[d,ad (n:=((pre.length+1:Nat):Int)-1) V1,show((pre.length+1:Nat):Int)-1=(pre.length:Int)by omega,bq (show pre.length<pre.length+1 by omega)];simp only[zG];rw[c,ad (n:=(i:Int)+1) V1,bu V1 V1,show(i:Int)+1=((i+1:Nat):Int)by omega];simp only[zG];rw[e,show((pre.length:Int).toNat-0)=pre.length by omega]
def bm5 {sz:Zd}{pre:List<|Int×Int}(c:b8 l<=8192)(d:b8 pre<=8192)(hi:i<b8 l)(b:0<l[i].1/\l[i].1<7)(e:b8 sz=b8 l)(f:0<=w/\w<=1000000000):
  dh l ((i:Int),sz,rds,pre++[(a,w)])=O (.inl (((i+1:Nat):Int),sz.set i 1,rds,pre++[(a,w+1)])):=by
 rw[af6 c d hi,Ze,Ze];simp only[zD];rw[FD b];simp only[zG,zC];rw[bq (show i<(b8 sz) by omega),zG,aD (show i<(b8 sz) by omega),zG,ad (n:=w+1) V1]
def aQ0 {sz:Zd}{pre:List<|Int×Int}(c:b8 l<=8192)(d:b8 pre<=8192)(hi:i<b8 l)(b:l[i].1=7):
  dh l ((i:Int),sz,rds,pre++[(a,w)])=O (.inl (((i+1:Nat):Int),sz,rds,pre++[(a,w)]++[((i:Int),0)])):=by
 rw[af6 c d hi,zB b,zC]
def az9 {b:Nat}{sz:Zd}{pre:List<|Int×Int}{w2 n:Int}(p:l.length<=8192)(y:pre.length<8192)(hi:i<l.length)(o:l[i].1=0)(c:b<l.length)(s:sz.length=l.length)(r:rds.length=l.length)(k:0<=w/\w<=1000000000)(u:0<=w2/\w2<=1000000000)
  (j:0<=l[b].2.2.2.2/\l[b].2.2.2.2<=18446744073709551615) (h:yQ w l[b].2.2.2.2=O n):
  dh l ((i:Int),sz,rds,pre++[(a,w2)]++[((b:Int),w)])=O (.inl (((i+1:Nat):Int),sz.set b n,rds.set b w,pre++[(a,w2+n)])):=by
 have e:(pre++[(a,w2)]).length=pre.length+1:=by simp
 rw[af6 p V1 hi,Ze,zB o];simp only[zD,zC];rw[cz c];simp only[zG];rw[MA ⟨k.1,V1⟩ j,h];have q:=GQ k.1 j.1 h;simp only[zG,dL,zD];rw[bq (show b<sz.length by omega)];simp only[zG];rw[aD (show b<sz.length by omega)];simp only[zG];rw[bq (show b<rds.length by omega)];simp only[zG];rw[aD (show b<rds.length by omega)];simp only[zG];rw[Zk,dj,e,ad (n:=((pre.length+1:Nat):Int)-1) V1,show((pre.length+1:Nat):Int)-1=(pre.length:Int)by omega,bq (show pre.length<pre.length+1 by omega)];simp only[zG,dD]
 have d:(pre++[(a,w2)]++[((b:Int),w)])[pre.length]?=O (a,w2):=by
  rw[cV,cW<|aB _,bD];rfl
 rw[d];simp only[zG];rw[Th _ _ V1 q];simp only[zG]
 have f:((pre++[(a,w2)]++[((b:Int),w)]).set pre.length (a,w2+n)).take (pre.length+1)=pre++[(a,w2+n)]:=by
  rw[cV,dX _ _<|aB _,bD];show(pre++[(a,w2+n),((b:Int),w)]).take (pre.length+1)=_;rw[show [(a,w2+n),((b:Int),w)]=[(a,w2+n)]++[((b:Int),w)]from rfl,<-cV,dZ];simp
 rw[f]
def aL0 (l:List cg)(j:Nat)(a b:Int):Prop:= ∀h:j<b8 l,(l[j].1=7->∀c e d,l.drop (j+1)=c++e::d->e.1=0->cf c 0=O 0->Q9 c=O b/\yQ b l[j].2.2.2.2=O a)/\(l[j].1≠7->b=0/\a=if l[j].1=0 then 0 else 1)
def Wj (M:b8 l<=8192)(hv: ∀o∈l,0<=o.2.2.2.2/\o.2.2.2.2<=18446744073709551615): ∀(k:Nat) (A seg B:List cg) (S R:Zd) (pre:List<|Int×Int) (p w t:Int),b8 seg<=k->l=A++seg++B->cf seg 0=O 0->Q9 seg=O t->b8 S=b8 l->b8 R=b8 l->b8 pre<=b8 A->0<=w/\w<=65537*b8 A->(∀j,b8 A<=j->j<b8 A+b8 seg->S[j]?=O 0/\R[j]?=O 0)->
  ∃S' R',Reach (dh l) (b8 seg) ((b8 A:Int),S,R,pre++[(p,w)]) (((b8 A+b8 seg:Nat):Int),S',R',pre++[(p,w+t)])/\b8 S'=b8 l/\b8 R'=b8 l/\(0<=t/\t<=65537*b8 seg)/\
   (∀j,¬(b8 A<=j/\j<b8 A+b8 seg)->S'[j]?=S[j]?/\R'[j]?=R[j]?)/\∀j,b8 A<=j->j<b8 A+b8 seg->∃a b,S'[j]?=O a/\R'[j]?=O b/\aL0 l j a b
 |k,A,[],B,S,R,pre,p,w,t,_,d,N,q,W,hR,hpre,hw,H=>by
  cases q;refine⟨S,R, ?_,W,hR,⟨dN _,V2⟩,λj _=>⟨rfl,rfl⟩,λj h1 L=> ?_⟩
  .rw[dM];exact Reach.refl
  .simp at L;omega
 |0,A,o::seg,B,S,R,pre,p,w,t,hk,_,_,_,_,_,_,_,_=>by simp at hk
 |k+1,A,o::seg,B,S,R,pre,p,w,t,hk,d,N,q,W,hR,hpre,hw,H=>by
  simp only[cD]at hk H⊢;have Y:b8 l=b8 A+(b8 seg+1)+b8 B:=by rw[d];simp;omega
  have D:b8 A<b8 l:=by omega
  have f:l[b8 A]=o:=by
   have:l[b8 A]?=O o:=by
    rw[d,cV,cW<|aB _,bD];rfl
   rw[aD D]at this;injection this
  by_cases u:o.1=7
  .have hs1:cf seg 1=O 0:=by
    simp only[cf]at N;rw[Zh,Zh,zE u]at N;exact N
   have⟨c,e,r,h1,L,h3,h4⟩:=CE _ seg 0 (aB _) hs1;subst h1;simp only[cX,cD]at hk H Y⊢;have⟨K,hQ⟩:=Pa N u L h3;rw[hQ]at q;obtain⟨wi,hwi,q⟩:=ag q;obtain⟨b,hb,q⟩:=ag q;cases s:Q9 r with
   |none=>rw[s]at q;cases q
   |some tr=>
   rw[s]at q;injection q with q
   have q:b+tr=t:=q;have hov:0<=o.2.2.2.2/\o.2.2.2.2<=18446744073709551615:=by rw[<-f];exact hv _ (dA D)
   have hd:l.drop (b8 A+1)=c++e::(r++B):=by
    rw[d,cV,dP,dQ V1,show b8 A+1-b8 A=1 by omega];simp
   have F:b8 (A++[o])=b8 A+1:=by simp
   have⟨S1,R1,r1,l1,l2,⟨t1,t2⟩,y,Q⟩:=Wj M hv k (A++[o]) c (e::(r++B)) S R (pre++[(p,w)]) (b8 A:Int) 0 wi V1 Zy h3 hwi W hR V4 V1<|λj z E=>H j V1 V1;rw[F]at r1 y Q;have X:b8 A+1+b8 c<b8 l:=by omega
   have I:l[b8 A+1+b8 c]=e:=by
    have z:(l.drop<|b8 A+1)[b8 c]?=O e:=by
     rw[hd,cW<|aB _,bD];rfl
    rw[dS,aD X]at z;injection z
   have hbn:=GQ t1 hov.1 hb;have c1:=az9 (pre:=pre) (a:=p) (w2:=w) M V1 X (by rw[I];exact L) D l1 l2 (w:=0+wi) V1 V1 (by rw[f];exact hov) (n:=b) (by rw[f,cY];exact hb);have V:b8 (A++o::(c++[e]))=b8 A+1+b8 c+1:=by simp;omega
   have⟨S2,R2,r2,l3,l4,⟨t3,t4⟩,k2,g2⟩:=Wj M hv k (A++o::(c++[e])) r B (S1.set (b8 A) b) (R1.set (b8 A)<|0+wi) pre p (w+b) tr V1 Zy K s (by simp[l1]) (by simp[l2]) V1 V1 (λj z E=>by
    rw[V]at z E;rw[cB V1,cB V1,(y j V1).1,(y j V1).2]
    exact H j V1 V1)
   rw[V]at r2 k2 g2;refine⟨S2,R2, ?_,l3,l4,⟨V1,V1⟩,λj hj=> ?_,λj z E=> ?_⟩
   .have h0:=Reach.one<|aQ0 (sz:=S) (rds:=R) (pre:=pre) (a:=p) (w:=w) M V1 D (by rw[f];exact u);have U:=((h0.trans r1).trans<|Reach.one c1).trans r2;rw[show 1+b8 c+1+b8 r=b8 c+(b8 r+1)+1 by omega,dB,q,show b8 A+1+b8 c+1+b8 r=b8 A+(b8 c+(b8 r+1)+1)by omega]at U;exact U
   .rw[(k2 j V1).1,(k2 j V1).2,cB V1,cB V1,(y j V1).1,(y j V1).2];exact⟨rfl,rfl⟩
   .by_cases J:b8 A+1+b8 c+1<=j
    .exact g2 j J V1
    .rw[(k2 j V1).1,(k2 j V1).2];by_cases C:b8 A=j
     .subst C;rw[dJ V1,dJ V1];refine⟨_,_,rfl,rfl,λh=>⟨λ_ inner' e' rest' p1 p2 p3=> ?_,λT=>(T (by rw[f];exact u)).elim⟩⟩;have:=xm (hd.symm.trans p1) h3 p3 L p2;subst this;rw[cY,f];exact⟨hwi,hb⟩
     .rw[cB C,cB C];by_cases hj3:j<b8 A+1+b8 c
      .exact Q j V1 hj3
      .have hj4:j=b8 A+1+b8 c:=by omega
       subst hj4;rw[(y _ V1).1,(y _ V1).2,(H _ z E).1,(H _ z E).2];refine⟨0,0,rfl,rfl,λh=>⟨λT=> ?_,λ_=>⟨rfl, ?_⟩⟩⟩
       .rw[I]at T;omega
       .rw[I,zE L]
  .obtain⟨K,hko,hQ⟩:=Ny N u;rw[hQ]at q;cases s:Q9 seg with
   |none=>rw[s]at q;cases q
   |some tr=>
   rw[s]at q;injection q with q
   have q:1+tr=t:=q;have F:b8 (A++[o])=b8 A+1:=by simp
   have c1:=bm5 (sz:=S) (rds:=R) (pre:=pre) (a:=p) (w:=w) M V1 D (by rw[f];exact hko) W V1
   have⟨S1,R1,r1,l1,l2,⟨t1,t2⟩,y,Q⟩:=Wj M hv k (A++[o]) seg B (S.set (b8 A) 1) R pre p (w+1) tr V1 Zy K s (by simp[W]) hR V1 V1 (λj z E=>by
    rw[F]at z E;rw[cB V1]
    exact H j V1 V1)
   rw[F]at r1 y Q;refine⟨S1,R1, ?_,l1,l2,⟨V1,V1⟩,λj hj=> ?_,λj z E=> ?_⟩
   .have U:=(Reach.one c1).trans r1;rw[show 1+b8 seg=b8 seg+1 by omega,dB,q,show b8 A+1+b8 seg=b8 A+(b8 seg+1)by omega]at U;exact U
   .rw[(y j V1).1,(y j V1).2,cB V1];exact⟨rfl,rfl⟩
   .by_cases J:b8 A+1<=j
    .exact Q j J V1
    .have C:j=b8 A:=by omega
     subst C;rw[(y _ V1).1,(y _ V1).2,dJ V1,(H _ z E).2];refine⟨1,0,rfl,rfl,λh=>⟨λT=>(u (by rw[<-f];exact T)).elim,λ_=>⟨rfl, ?_⟩⟩⟩;rw[f,Zh]
end
theorem Qq {l:List cg}(J:l.length<=4096)(B: ∀o∈l,0<=o.2.2.2.2/\o.2.2.2.2<=18446744073709551615):
  ∃r,kQ l=O r/\r.1=(eg l).1/\r.2.1=(eg l).2/\(((eg l).2≠0/\r.2.2=([],[]))∨((eg l).2=0/\cf l 0=O 0/\r.2.2.1.length=l.length/\r.2.2.2.length=l.length/\∀j,j<l.length->∃a b,r.2.2.1[j]?=O a/\r.2.2.2[j]?=O b/\aL0 l j a b)):=by
 have f:=vW (by omega) B;unfold gK at f;obtain⟨r,d,f⟩:=ag f;injection f with f
 refine⟨r,d,by rw[<-f],by rw[<-f], ?_⟩;unfold kQ at d;obtain⟨m,E⟩:=Cr (l:=l) (by omega);rw[E]at d;by_cases k:cf l 0=O 0
 .simp only[zE k]at d;simp only[zG]at d;rw[zA (by simp),zD]at d;rw[zB (show(0:Int)<=(l.length:Int)by omega),zB (show(l.length:Int)<=(l.length:Int)by omega),zB (show 8*(l.length:Int)<=140737488355328 by omega)]at d;have q: ∀{β:Type} {y:Option β},gd (eA 1 (Sh.w<|.int .i64)&&Za&&Za&&Za&&Nat.ble 1 8) y=y:=λ{β y}=>rfl
  rw[q,q]at d;cases u:Q9 l with
  |none=>
   have e:eg l=(0,9):=by unfold eg;rw[zE k,u]
   left;refine⟨by rw[e];simp, ?_⟩;obtain⟨c,I,d⟩:=ag d;obtain⟨p,D,d⟩:=ag d;rw[ap]at d;split at d
   .injection d with d
    rw[<-d]
   .rename_i hz;exfalso;obtain⟨j,s,d⟩:=ag d;obtain⟨x,K,d⟩:=ag d;injection d with d
    rw[<-d,e]at f;injection f with _ f
    cases f
  |some t=>
   obtain⟨S',R',C,F,H,⟨M,N⟩,L,z⟩:=Wj (l:=l) (by omega) B _ [] l [] (bB (l.length:Int).toNat (0:Int)) (bB (l.length:Int).toNat (0:Int)) [] 0 0 t (aB _) (by simp) k u (by simp) (by simp) (by simp) (by simp) (λj _ s=>by
    rw[List.getElem?_replicate,zE (by simpa using s)]
    exact⟨rfl,rfl⟩)
   rw[show([]:List cg).length+l.length=l.length by simp]at C z
   have h:aq (dh l) fy ((0:Int),bB (l.length:Int).toNat (0:Int),bB (l.length:Int).toNat (0:Int),[((0:Int),(0:Int))])=O (0,S',R',[(0,0+t)]):=by
    have A:=C<|18446744073709551616-l.length;rw[show 18446744073709551616-l.length+l.length=fy by unfold fy;omega,show 18446744073709551616-l.length=(18446744073709551615-l.length)+1 by omega]at A;refine A.trans ?_;rw[dp];simp only[dh];rw[Ze,zD];rfl
   rw[h,cY]at d;have d:((cond (Zc<|65536<t) (O (9:Int))<|O 0).bind λp=>cond (Zc<|p≠0) (O ((0:Int),p,([]:Zd),([]:Zd)))<|O (t,0,S',R'))=O r:=d;rw[ap]at d;have e:eg l=if 65536<t then(0,9)else(t,0):=by unfold eg;rw[zE k,u]
   by_cases c:65536<t
   .rw[zE c]at d e;left;injection d with d
    rw[<-d,e];exact⟨by simp,rfl⟩
   .rw[zF c]at d e;right;injection d with d
    rw[<-d,e];exact⟨rfl,k,F,H,λj s=>z j (dF _) s⟩
 .simp only[zF k]at d;left;have e:eg l=(0,6):=by unfold eg;rw[zF k]
  have d:O ((0:Int),(6:Int),([]:Zd),([]:Zd))=O r:=d;injection d with d
  rw[<-d,e];exact⟨by simp,rfl⟩
abbrev tS :=Int×Int×Int×Int×Int×Int
inductive Fo where
 |nil
 |op (o:cg) (r:Fo)
 |rep (o:cg) (b:Fo) (e:cg) (r:Fo)
def yK (o:cg):Nat:=b9 o.2.2.2.2
def co (o:cg)(b:Nat):tS:=(o.1,o.2.1,o.2.2.1,o.2.2.2.1,o.2.2.2.2,(b:Int))
namespace Fo
def src :Fo->List cg
 | .nil=>[]
 | .op o r=>o::r.src
 | .rep o b e r=>o::(b.src++e::r.src)
def Ok :Fo->Prop
 | .nil=>True
 | .op o r=>(0<o.1/\o.1<7)/\r.Ok
 | .rep o b e r=>(o.1=7/\e.1=0)/\b.Ok/\r.Ok
def n :Fo->Nat
 | .nil=>0
 | .op _ r=>1+r.n
 | .rep o b _ r=>b.n*yK o+r.n
def len :Fo->Nat
 | .nil=>0
 | .op _ r=>r.len+1
 | .rep _ b _ r=>b.len+r.len+2
def hi :Fo->Nat
 | .nil=>0
 | .op _ r=>r.hi
 | .rep _ b _ r=>max (b.hi+1) r.hi
def bare :Fo->Fo
 | .nil=> .nil
 | .op o r=> .op o r.bare
 | .rep o b e r=>if b.n*yK o=0 then r.bare else .rep o b.bare e r.bare
def unroll :Fo->List cg
 | .nil=>[]
 | .op o r=>o::r.unroll
 | .rep o b _ r=>(bB (yK o) b.unroll).flatten++r.unroll
def code :Fo->Nat->List tS
 | .nil,_=>[]
 | .op o r,p=>co o 0::r.code (p+1)
 | .rep o b e r,p=>co o (p+b.len+2)::(b.code (p+1)++co e (p+1)::r.code (p+b.len+2))
def Pos :Fo->Prop
 | .nil=>True
 | .op _ r=>r.Pos
 | .rep o b _ r=>0<b.n*yK o/\b.Pos/\r.Pos
def steps :Fo->Nat
 | .nil=>0
 | .op _ r=>1+r.steps
 | .rep o b _ r=>1+yK o*(b.steps+1)+r.steps
def src_len : ∀f:Fo,b8 f.src=f.len
 | .nil=>rfl
 | .op o r=>by simp only[src,len,cD,src_len r]
 | .rep o b e r=>by simp only[src,len,cD,cX,src_len r,src_len b];omega
def code_len : ∀(f:Fo) (p:Nat),b8 (f.code p)=f.len
 | .nil,_=>rfl
 | .op o r,p=>by simp only[code,len,cD,code_len r]
 | .rep o b e r,p=>by simp only[code,len,cD,cX,code_len r,code_len b];omega
def scan_src : ∀(f:Fo),f.Ok->∀(r:List cg) (d:Nat),cf (f.src++r) d=cf r d
 | .nil,_,r,d=>rfl
 | .op o f,h,r,d=>by
  have⟨j,c⟩:=h;simp only[src,cZ,cf];rw[Zh,Zh,Zh];exact scan_src f c r d
 | .rep o b e f,h,r,d=>by
  have⟨⟨j,c⟩,k,p⟩:=h;simp only[src,cZ,cV,cf];rw[Zh,Zh,zE j,scan_src b k];simp only[cf];rw[Zh,zE c,Zh];exact scan_src f p r d
def scan0 {f:Fo}(h:f.Ok):cf f.src 0=O 0:=by
 have:=scan_src f h [] 0;rw[dO]at this;exact this
def parse : ∀(N:Nat) (l:List cg),b8 l<=N->cf l 0=O 0->∃f:Fo,f.Ok/\f.src=l
 |_,[],_,_=>⟨.nil,trivial,rfl⟩
 |0,o::l,h,_=>by simp at h
 |N+1,o::l,h,j=>by
  simp only[cD]at h;by_cases q:o.1=7
  .have s:cf l 1=O 0:=by
    simp only[cf]at j;rw[Zh,Zh,zE q]at j;exact j
   have⟨c,e,d,k,p,B,C⟩:=CE _ l 0 (aB _) s;subst k;simp only[cX,cD]at h;have⟨b,z,A⟩:=parse N c V1 B;have⟨r,u,y⟩:=parse N d V1 C;exact⟨.rep o b e r,⟨⟨q,p⟩,z,u⟩,by simp only[src,A,y]⟩
  .obtain⟨k,p,_⟩:=Ny j q;have⟨r,u,y⟩:=parse N l V1 k;exact⟨.op o r,⟨p,u⟩,by simp only[src,y]⟩
def Q9_n : ∀(f:Fo),f.Ok->(∀o∈f.src,0<=o.2.2.2.2)->∀{t:Int},Q9 f.src=O t->t=(f.n:Int)
 | .nil,_,_,t,h=>by
  injection h with h
  exact h.symm
 | .op o r,h,u,t,d=>by
  have⟨z,p⟩:=h;have A:=scan0 (f:= .op o r) ⟨z,p⟩;have⟨_,_,q⟩:=Ny (o:=o) (s:=r.src) A V1;have d:Q9 (o::r.src)=O t:=d;rw[q]at d;cases k:Q9 r.src with
  |none=>rw[k]at d;cases d
  |some m=>
   rw[k]at d;injection d with d
   have:=Q9_n r p (λx y=>u x<|List.mem_cons_of_mem _ y) k;subst this;rw[<-d];show(1:Int)+(r.n:Int)=((1+r.n:Nat):Int);omega
 | .rep o b e r,h,u,t,d=>by
  have⟨⟨z,p⟩,q,C⟩:=h;have A:=scan0 (f:= .rep o b e r) ⟨⟨z,p⟩,q,C⟩;have⟨_,H⟩:=Pa (o:=o) (e:=e) (inner:=b.src) (rest:=r.src) A z p<|scan0 q;have d:Q9 (o::(b.src++e::r.src))=O t:=d;rw[H]at d;obtain⟨w,I,d⟩:=ag d;obtain⟨c,j,d⟩:=ag d;cases k:Q9 r.src with
  |none=>rw[k]at d;cases d
  |some m=>
   rw[k]at d;injection d with d
   have D:=Q9_n r C (λx y=>u x (by simp only[src];simp[y])) k;have E:=Q9_n b q (λx y=>u x (by simp only[src];simp[y])) I;have B:0<=o.2.2.2.2:=u o (by simp[src])
   have F:c=(b.n:Int)*(yK o:Int):=by
    unfold yQ at j;rw[E]at j;unfold yK;rw[eI B];split at j
    .rename_i hz;injection j with j
     rw[hz,Int.zero_mul,j]
    split at j
    .cases j
    split at j
    .cases j
    .injection j with j
     exact j.symm
   rw[<-d,D,F];show(b.n:Int)*(yK o:Int)+(r.n:Int)=((b.n*yK o+r.n:Nat):Int);simp
def hmax_src : ∀(f:Fo),f.Ok->∀(r:List cg) (d m:Nat),hmax (f.src++r) d m=hmax r d (max m (if f.hi=0 then 0 else d+f.hi))
 | .nil,_,r,d,m=>by
  simp only[src,dC,hi,zE];rw[Nat.max_zero]
 | .op o f,h,r,d,m=>by
  have⟨j,c⟩:=h;simp only[src,cZ,hmax,hi];rw[Zh,Zh];exact hmax_src f c r d m
 | .rep o b e f,h,r,d,m=>by
  have⟨⟨j,c⟩,p,q⟩:=h;simp only[src,cZ,cV,hmax,hi];rw[zE j,hmax_src b p];simp only[hmax];rw[Zh,zE c,fF,hmax_src f q]
  congr 1
  have k:(if max (b.hi+1) f.hi=0 then 0 else d+max (b.hi+1) f.hi)=d+max (b.hi+1) f.hi:=zF V1;refine Eq.trans ?_ (congrArg (max m) k.symm);split<;>split<;>omega
def hi_le {f:Fo}(h:f.Ok):f.hi<=hmax f.src 0 0:=by
 have:=hmax_src f h [] 0 0;rw[dO]at this;rw[this];simp only[hmax];split<;>omega
def bare_n : ∀f:Fo,f.bare.n=f.n
 | .nil=>rfl
 | .op o r=>by simp only[bare,n,bare_n r]
 | .rep o b e r=>by
  simp only[bare,n];split
  .rename_i h;rw[h,bare_n r,dD]
  .simp only[n,bare_n b,bare_n r]
def oc : ∀f:Fo,b8 f.unroll=f.n
 | .nil=>rfl
 | .op o r=>by simp only[unroll,n,cD,oc r];omega
 | .rep o b e r=>by
  simp only[unroll,n,cX,oc r];rw[fA,fB,fE,oc b,eU]
def bare_unroll : ∀f:Fo,f.bare.unroll=f.unroll
 | .nil=>rfl
 | .op o r=>by simp only[bare,unroll,bare_unroll r]
 | .rep o b e r=>by
  simp only[bare,unroll];split
  .rename_i h
   have c:b8 ((bB (yK o) b.unroll).flatten)=0:=by
    rw[fA,fB,fE,oc b,eU,h]
   rw[List.eq_nil_of_length_eq_zero c,dC,bare_unroll r]
  .simp only[unroll,bare_unroll b,bare_unroll r]
def bare_ok : ∀f:Fo,f.Ok->f.bare.Ok
 | .nil,_=>trivial
 | .op o r,h=>⟨h.1,bare_ok r h.2⟩
 | .rep o b e r,h=>by
  simp only[bare];split
  .exact bare_ok r h.2.2
  .exact⟨h.1,bare_ok b h.2.1,bare_ok r h.2.2⟩
def bare_pos : ∀f:Fo,f.bare.Pos
 | .nil=>trivial
 | .op o r=>bare_pos r
 | .rep o b e r=>by
  simp only[bare];split
  .exact bare_pos r
  .rename_i h;exact⟨by rw[bare_n];omega,bare_pos b,bare_pos r⟩
def bare_hi : ∀f:Fo,f.bare.hi<=f.hi
 | .nil=>aB _
 | .op o r=>bare_hi r
 | .rep o b e r=>by
  simp only[bare,hi];have c:=bare_hi b;have d:=bare_hi r;split
  .omega
  .simp only[hi];omega
def bare_len : ∀f:Fo,f.bare.len<=f.len
 | .nil=>aB _
 | .op o r=>by simp only[bare,len];exact Nat.succ_le_succ (bare_len r)
 | .rep o b e r=>by
  simp only[bare,len];have c:=bare_len b;have d:=bare_len r;split
  .omega
  .simp only[len];omega
def bare_mem : ∀(f:Fo) {o:cg},o∈f.bare.src->o∈f.src
 | .nil,o,h=>h
 | .op o r,x,h=>by
  simp only[bare,src,eP]at h⊢;rcases h with h|h
  .exact .inl h
  .exact .inr (bare_mem r h)
 | .rep o b e r,x,h=>by
  simp only[bare]at h;split at h
  .simp only[src,eP,fC];exact .inr (.inr<|.inr<|bare_mem r h)
  .simp only[src,eP,fC]at h⊢;rcases h with h|h|h|h
   .exact .inl h
   .exact .inr (.inl<|bare_mem b h)
   .exact .inr (.inr<|.inl h)
   .exact .inr (.inr<|.inr<|bare_mem r h)
def steps_le : ∀f:Fo,f.Pos->f.steps<=(2*f.len+1)*f.n
 | .nil,_=>aB _
 | .op o r,h=>by
  have c:=steps_le r h;simp only[steps,len,n];rw[eT,eD];have:(2*r.len+1)*r.n<=(2*(r.len+1)+1)*r.n:=eV _ V1;omega
 | .rep o b e r,h=>by
  have⟨c,d,j⟩:=h;have p:=steps_le b d;have y:=steps_le r j;simp only[steps,len,n]
  have s:0<yK o:=by
   rcases eC (yK o)with h0|h0
   .rw[h0]at c;simp at c
   .exact h0
  have k:0<b.n:=by
   rcases eC b.n with h0|h0
   .rw[h0]at c;simp at c
   .exact h0
  have u:yK o<=b.n*yK o:=Nat.le_mul_of_pos_left _ k
  have z:yK o*(b.steps+1)<=(2*b.len+1)*(b.n*yK o)+b.n*yK o:=by
   rw[eT,eD];have:yK o*b.steps<=yK o*((2*b.len+1)*b.n):=Nat.mul_le_mul_left _ p
   have q:yK o*((2*b.len+1)*b.n)=(2*b.len+1)*(b.n*yK o):=by
    rw[eU,Nat.mul_assoc]
   omega
  have A:(2*r.len+1)*r.n<=(2*(b.len+r.len+2)+1)*r.n:=eV _ V1;have B:(2*b.len+3)*(b.n*yK o)<=(2*(b.len+r.len+2)+1)*(b.n*yK o):=eV _ V1
  have C:(2*b.len+3)*(b.n*yK o)=(2*b.len+1)*(b.n*yK o)+b.n*yK o+b.n*yK o:=by
   rw[show 2*b.len+3=(2*b.len+1)+1+1 by omega,Nat.add_mul,Nat.add_mul,Nat.one_mul]
  rw[eT<|2*(b.len+r.len+2)+1];generalize yK o*(b.steps+1)=D at*;generalize (2*(b.len+r.len+2)+1)*(b.n*yK o)=E at*;generalize (2*(b.len+r.len+2)+1)*r.n=F at*;generalize (2*r.len+1)*r.n=H at*;generalize (2*b.len+3)*(b.n*yK o)=I at*;generalize (2*b.len+1)*(b.n*yK o)=J at*;omega
end Fo
def upd (l:Nat->Int)(j:Nat)(v:Int):Nat->Int:=λi=>cond (eA j i) v<|l i
def mW (l:Nat->Int)(j:Nat)(v:Int):upd l j v j=v:=by
 unfold upd;rw[Nat.beq_refl];rfl
def Er {l:Nat->Int}{j:Nat}(h:i≠j):upd l j v i=l i:=by
 unfold upd;cases b:eA j i with
 |true=>exact(h (Nat.eq_of_beq_eq_true b).symm).elim
 |false=>rfl
def Np (o:cg):Prop:=0<=o.2.2.2.2/\o.2.2.2.2<=18446744073709551615
structure Runs {σ γ S:Type}(g:σ->Option (σ⊕γ))(code:List tS)(st:Nat->Nat->(Nat->Int)->S->σ)(stp:cg->S->S)(Vd:Nat->S->Prop)(good:cg->Prop):Prop where
 op: ∀{p d l s m o to},code[p]?=O (co o to)->good o->(0<o.1/\o.1<7)->d<=8->Vd (1+m) s->g (st p d l s)=O (.inl<|st (p+1) d l<|stp o s)/\Vd m (stp o s)
 rep: ∀{p d l s m o to},code[p]?=O (co o to)->o.1=7->d<8->Vd m s->g (st p d l s)=O (.inl<|st (p+1) (d+1) (upd l d o.2.2.2.2) s)
 nxt: ∀{p d l s m e to},code[p]?=O (co e to)->e.1=0->d<8->1<l d->l d<=18446744073709551615->Vd m s->g (st p (d+1) l s)=O (.inl<|st to (d+1) (upd l d<|l d-1) s)
 out: ∀{p d l s m e to},code[p]?=O (co e to)->e.1=0->d<8->l d=1->Vd m s->g (st p (d+1) l s)=O (.inl<|st (p+1) d (upd l d<|l d-1) s)
section
variable {σ γ S:Type} {g:σ->Option (σ⊕γ)} {code:List tS} {st:Nat->Nat->(Nat->Int)->S->σ} {stp:cg->S->S} {Vd:Nat->S->Prop} {good:cg->Prop}
def pn (stp:cg->S->S)(l:List cg)(s:S):S:=l.foldl (λs o=>stp o s) s
def EN (l r:List cg)(s:S):pn stp (l++r) s=pn stp r (pn stp l s):=List.foldl_append
def EB {A B:List tS}{x:tS}{r:List tS}{p:Nat}(b:code=A++(x::r)++B)(c:b8 A=p):code[p]?=O x:=by
 subst c;rw[b,cV,cW<|aB _,bD];rfl
def rounds (C:Runs g code st stp Vd good){p q d t n:Nat}{e:cg}{u:List cg}(A:d<8)(b:code[q]?=O (co e p))(B:e.1=0)
  (z: ∀(l:Nat->Int) (s:S) (m:Nat),Vd (n+m) s->∃l',(∀i,i<d+1->l' i=l i)/\Reach g t (st p (d+1) l s) (st q (d+1) l'<|pn stp u s)/\Vd m (pn stp u s)):
  ∀(k:Nat) (l:Nat->Int) (s:S) (m:Nat),k<18446744073709551615->l d=((k+1:Nat):Int)->Vd (n*(k+1)+m) s->
   ∃l',(∀i,i<d->l' i=l i)/\Reach g ((k+1)*(t+1)) (st p (d+1) l s) (st (q+1) d l'<|pn stp (bB (k+1) u).flatten s)/\Vd m (pn stp (bB (k+1) u).flatten s)
 |0,l,s,m,J,D,o=>by
  have⟨c,h,r,j⟩:=z l s m (by rw[dD,eD]at o;exact o);have E:(bB (0+1) u).flatten=u:=by simp
  rw[E];have f:c d=1:=by rw[h d V1,D];rfl
  refine⟨upd c d<|c d-1,λi hi=>by rw[Er V1,h i V1], ?_,j⟩;have y:=r.trans<|Reach.one<|C.out (l:=c) b B A f j;rw[show(0+1)*(t+1)=t+1 by omega];exact y
 |k+1,l,s,m,J,D,o=>by
  have K:n*(k+1+1)+m=n+(n*(k+1)+m):=by rw[Nat.mul_succ n<|k+1];omega
  rw[K]at o;have⟨c,h,r,j⟩:=z l s _ o;have f:c d=((k+1+1:Nat):Int):=by rw[h d V1,D]
  have y:=r.trans<|Reach.one<|C.nxt (l:=c) b B A V1 V1 j;have⟨L,F,H,I⟩:=rounds C A b B z k (upd c d<|c d-1) (pn stp u s) m V1 (by rw[mW,f];omega) j;have E:(bB (k+1+1) u).flatten=u++(bB (k+1) u).flatten:=by rw[List.replicate_succ,List.flatten_cons]
  rw[E,EN];refine⟨L,λi hi=>by rw[F i hi,Er V1,h i V1], ?_,I⟩;rw[show(k+1+1)*(t+1)=t+1+(k+1)*(t+1)by rw[Nat.succ_mul<|k+1];omega];exact y.trans H
def IJ (C:Runs g code st stp Vd good): ∀(f:Fo) {A B:List tS} {p d:Nat} {l:Nat->Int} {s:S} {m:Nat},code=A++f.code p++B->b8 A=p->f.Ok->f.Pos->d+f.hi<=8->(∀o∈f.src,good o/\Np o)->Vd (f.n+m) s->
  ∃l',(∀i,i<d->l' i=l i)/\Reach g f.steps (st p d l s) (st (p+f.len) d l'<|pn stp f.unroll s)/\Vd m (pn stp f.unroll s)
 | .nil,A,B,p,d,l,s,m,y,z,h,I,E,c,j=>by
  refine⟨l,λ_ _=>rfl,Reach.refl, ?_⟩;have:Fo.nil.n+m=m:=dD m;rw[this]at j;exact j
 | .op o r,A,B,p,d,l,s,m,y,z,h,I,E,c,j=>by
  simp only[Fo.n,Nat.add_assoc]at j;simp only[Fo.hi]at E;have⟨J,K⟩:=C.op (d:=d) (l:=l) (EB y z) (c o Zn).1 h.1 V1 j;have Q:b8 (A++[co o 0])=p+1:=by simp[z]
  have⟨l',L,M,N⟩:=IJ C r (A:=A++[co o 0]) (B:=B) (p:=p+1) (d:=d) (l:=l) (by rw[y];simp[Fo.code]) Q h.2 I E (λx H=>c x (by simp[Fo.src,H])) K;refine⟨l',L, ?_,N⟩;have:=(Reach.one J).trans M;simp only[Fo.steps,Fo.len];rw[show p+(r.len+1)=p+1+r.len by omega];exact this
 | .rep o b e r,A,B,p,d,l,s,m,y,z,h,I,E,c,j=>by
  have⟨⟨k1,k2⟩,k3,k4⟩:=h;have⟨q1,q2,q3⟩:=I;simp only[Fo.n,Nat.add_assoc]at j;simp only[Fo.hi]at E;have F:=(c o Zn).2;unfold Np at F;have Y:((yK o:Nat):Int)=o.2.2.2.2:=eI F.1
  have hv0:0<yK o:=by
   rcases eC (yK o)with h0|h0
   .rw[h0]at q1;simp at q1
   .exact h0
  obtain⟨k,h⟩: ∃k,yK o=k+1:=⟨yK o-1,V1⟩
  have J:=C.rep (d:=d) (l:=l) (EB y z) k1 V1 j;have Q:b8 (A++[co o<|p+b.len+2])=p+1:=by simp[z]
  have V:code=(A++[co o<|p+b.len+2])++b.code (p+1)++(co e (p+1)::r.code (p+b.len+2)++B):=by rw[y];simp[Fo.code]
  have W:code=(A++co o (p+b.len+2)::b.code (p+1))++(co e (p+1)::r.code (p+b.len+2))++B:=by rw[y];simp[Fo.code]
  have T:b8 (A++co o (p+b.len+2)::b.code (p+1))=p+1+b.len:=by simp[z,Fo.code_len];omega
  have D:=EB W T
  have⟨l1,K,L,M⟩:=rounds C (p:=p+1) (q:=p+1+b.len) (d:=d) (t:=b.steps) (n:=b.n) (e:=e) (u:=b.unroll) V1 D k2
   (λl s m hm=>IJ C b V Q k3 q2 V1 (λx H=>c x (by simp[Fo.src,H])) hm) k (upd l d o.2.2.2.2) s (r.n+m) V1 (by rw[mW,<-Y,h]) (by rw[<-h];exact j)
  have X:code=(A++co o (p+b.len+2)::(b.code (p+1)++[co e<|p+1]))++r.code (p+b.len+2)++B:=by rw[y];simp[Fo.code]
  have U:b8 (A++co o (p+b.len+2)::(b.code (p+1)++[co e<|p+1]))=p+b.len+2:=by simp[z,Fo.code_len];omega
  have⟨l2,N,h6,h7⟩:=IJ C r (d:=d) (l:=l1) X U k4 q3 V1 (λx H=>c x (by simp[Fo.src,H])) M;simp only[Fo.unroll,Fo.steps,Fo.len];rw[EN,h];refine⟨l2,λi hi=>by rw[N i hi,K i hi,Er V1], ?_,h7⟩;have h8:=((Reach.one J).trans L).trans (show Reach g r.steps (st (p+1+b.len+1) d l1 _) _ from by rw[show p+1+b.len+1=p+b.len+2 by omega];exact h6);rw[show p+(b.len+r.len+2)=p+b.len+2+r.len by omega];exact h8
end
structure Backs {σ γ S:Type}(g:σ->Option (σ⊕γ))(code:List tS)(st:Nat->Nat->(Nat->Int)->S->σ)(stp:cg->S->S)(Vd:Nat->S->Prop)(good:cg->Prop):Prop where
 op: ∀{p d l s m o to},code[p]?=O (co o to)->good o->(0<o.1/\o.1<7)->d<=8->Vd (1+m) s->g (st (p+1) d l s)=O (.inl<|st p d l<|stp o s)/\Vd m (stp o s)
 rep: ∀{p q d l s m o e to},code[p]?=O (co e<|q+1)->e.1=0->code[q]?=O (co o to)->d<8->Vd m s->g (st (p+1) d l s)=O (.inl<|st p (d+1) (upd l d o.2.2.2.2) s)
 nxt: ∀{p d l s m o to},code[p]?=O (co o<|to+1)->to<=b8 code->o.1=7->d<8->1<l d->l d<=18446744073709551615->Vd m s->g (st (p+1) (d+1) l s)=O (.inl<|st to (d+1) (upd l d<|l d-1) s)
 out: ∀{p d l s m o to},code[p]?=O (co o<|to+1)->o.1=7->d<8->l d=1->Vd m s->g (st (p+1) (d+1) l s)=O (.inl<|st p d (upd l d<|l d-1) s)
section
variable {σ γ S:Type} {g:σ->Option (σ⊕γ)} {code:List tS} {st:Nat->Nat->(Nat->Int)->S->σ} {stp:cg->S->S} {Vd:Nat->S->Prop} {good:cg->Prop}
def CS (stp:cg->S->S)(l:List cg)(s:S):S:=l.foldr stp s
def J1 (l r:List cg)(s:S):CS stp (l++r) s=CS stp l (CS stp r s):=List.foldr_append
def WG (B:Backs g code st stp Vd good){p q d t n:Nat}{o:cg}{u:List cg}(F:q<=b8 code)(A:d<8)(b:code[p]?=O (co o<|q+1))(D:o.1=7)
  (z: ∀(l:Nat->Int) (s:S) (m:Nat),Vd (n+m) s->∃l',(∀i,i<d+1->l' i=l i)/\Reach g t (st q (d+1) l s) (st (p+1) (d+1) l'<|CS stp u s)/\Vd m (CS stp u s)):
  ∀(k:Nat) (l:Nat->Int) (s:S) (m:Nat),k<18446744073709551615->l d=((k+1:Nat):Int)->Vd (n*(k+1)+m) s->
   ∃l',(∀i,i<d->l' i=l i)/\Reach g ((k+1)*(t+1)) (st q (d+1) l s) (st p d l'<|CS stp (bB (k+1) u).flatten s)/\Vd m (CS stp (bB (k+1) u).flatten s)
 |0,l,s,m,K,C,j=>by
  have⟨c,f,r,h⟩:=z l s m (by rw[dD,eD]at j;exact j);have E:(bB (0+1) u).flatten=u:=by simp
  rw[E];have e:c d=1:=by rw[f d V1,C];rfl
  refine⟨upd c d<|c d-1,λi hi=>by rw[Er V1,f i V1], ?_,h⟩;have y:=r.trans<|Reach.one<|B.out (l:=c) b D A e h;rw[show(0+1)*(t+1)=t+1 by omega];exact y
 |k+1,l,s,m,K,C,j=>by
  have L:n*(k+1+1)+m=n+(n*(k+1)+m):=by rw[Nat.mul_succ n<|k+1];omega
  rw[L]at j;have⟨c,f,r,h⟩:=z l s _ j;have e:c d=((k+1+1:Nat):Int):=by rw[f d V1,C]
  have y:=r.trans<|Reach.one<|B.nxt (l:=c) b F D A V1 V1 h;have⟨M,H,I,J⟩:=WG B F A b D z k (upd c d<|c d-1) (CS stp u s) m V1 (by rw[mW,e];omega) h;have E:(bB (k+1+1) u).flatten=(bB (k+1) u).flatten++u:=by rw[fD,List.flatten_append];simp
  rw[E,J1];refine⟨M,λi hi=>by rw[H i hi,Er V1,f i V1], ?_,J⟩;rw[show(k+1+1)*(t+1)=t+1+(k+1)*(t+1)by rw[Nat.succ_mul<|k+1];omega];exact y.trans I
def GO (E:Backs g code st stp Vd good): ∀(f:Fo) {A B:List tS} {p d:Nat} {l:Nat->Int} {s:S} {m:Nat},code=A++f.code p++B->A.length=p->f.Ok->f.Pos->d+f.hi<=8->(∀o∈f.src,good o/\Np o)->Vd (f.n+m) s->
  ∃l',(∀i,i<d->l' i=l i)/\Reach g f.steps (st (p+f.len) d l s) (st p d l'<|CS stp f.unroll s)/\Vd m (CS stp f.unroll s)
 | .nil,A,B,p,d,l,s,m,y,C,h,J,F,c,D=>by
  refine⟨l,λ_ _=>rfl,Reach.refl, ?_⟩;have:Fo.nil.n+m=m:=dD m;rw[this]at D;exact D
 | .op o r,A,B,p,d,l,s,m,y,C,h,J,F,c,D=>by
  simp only[Fo.n]at D;simp only[Fo.hi]at F;have T:(A++[co o 0]).length=p+1:=by simp[C]
  obtain⟨l',M,N,Q⟩:=GO E r (A:=A++[co o 0]) (B:=B) (p:=p+1) (d:=d) (l:=l) (m:=1+m) (by rw[y];simp[Fo.code]) T h.2 J F (λx I=>c x (by simp[Fo.src,I])) (by rw[show r.n+(1+m)=1+r.n+m by omega];exact D);obtain⟨K,L⟩:=E.op (d:=d) (l:=l') (EB y C) (c o Zn).1 h.1 V1 Q;refine⟨l',M, ?_,L⟩;have:=N.trans<|Reach.one K;simp only[Fo.steps,Fo.len];rw[show p+(r.len+1)=p+1+r.len by omega,Nat.add_comm 1];exact this
 | .rep o b e r,A,B,p,d,l,s,m,y,C,h,J,F,c,D=>by
  obtain⟨⟨k1,k2⟩,k3,k4⟩:=h;obtain⟨q1,q2,q3⟩:=J;simp only[Fo.n]at D;simp only[Fo.hi]at F;have H:=(c o Zn).2;unfold Np at H;have hvo:((yK o:Nat):Int)=o.2.2.2.2:=eI H.1
  have hv0:0<yK o:=by
   rcases eC (yK o)with h0|h0
   .rw[h0]at q1;simp at q1
   .exact h0
  obtain⟨k,h⟩: ∃k,yK o=k+1:=⟨yK o-1,V1⟩
  have j:=EB y C;have T:(A++[co o<|p+b.len+2]).length=p+1:=by simp[C]
  have W:code=(A++[co o<|p+b.len+2])++b.code (p+1)++(co e (p+1)::r.code (p+b.len+2)++B):=by rw[y];simp[Fo.code]
  have X:code=(A++co o (p+b.len+2)::b.code (p+1))++(co e (p+1)::r.code (p+b.len+2))++B:=by rw[y];simp[Fo.code]
  have U:(A++co o (p+b.len+2)::b.code (p+1)).length=p+1+b.len:=by simp[C,Fo.code_len];omega
  have z:=EB X U;have Y:code=(A++co o (p+b.len+2)::(b.code (p+1)++[co e<|p+1]))++r.code (p+b.len+2)++B:=by rw[y];simp[Fo.code]
  have V:(A++co o (p+b.len+2)::(b.code (p+1)++[co e<|p+1])).length=p+b.len+2:=by simp[C,Fo.code_len];omega
  obtain⟨l2,Q,h6,h7⟩:=GO E r (d:=d) (l:=l) (m:=b.n*yK o+m) Y V k4 q3 V1 (λx I=>c x (by simp[Fo.src,I])) (by rw[show r.n+(b.n*yK o+m)=b.n*yK o+r.n+m by omega];exact D);have K:=E.rep (d:=d) (l:=l2) z k2 j V1 h7
  obtain⟨l1,L,M,N⟩:=WG E (p:=p) (q:=p+1+b.len) (d:=d) (t:=b.steps) (n:=b.n) (o:=o) (u:=b.unroll) (Nat.le_of_lt (List.getElem?_eq_some_iff.1 z).1) V1 (by rw[j];congr 2;omega) k1
   (λl s m hm=>GO E b W T k3 q2 V1 (λx I=>c x (by simp[Fo.src,I])) hm) k (upd l2 d o.2.2.2.2) _ m V1 (by rw[mW,<-hvo,h]) (by rw[<-h];exact h7)
  simp only[Fo.unroll,Fo.steps,Fo.len];rw[J1,h];refine⟨l1,λi hi=>by rw[L i hi,Er V1,Q i hi], ?_,N⟩;have h8:=(h6.trans (show Reach g 1 _ _ from by rw[show p+b.len+2=p+1+b.len+1 by omega];exact Reach.one K)).trans M;rw[show p+(b.len+r.len+2)=p+b.len+2+r.len by omega,show 1+(k+1)*(b.steps+1)+r.steps=r.steps+1+(k+1)*(b.steps+1)by omega];exact h8
end
end
end Go.V
