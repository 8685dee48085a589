/- A part of the proof. No condition. -/
import Derived.Test.YtlmlogmcgeijcaaGreatDoorA6
import Derived.SizedLaws
import Derived.Test.YtlmlogmcgeijcaaGreatDoorD2
import Derived.KernelRfl
set_option linter.all false
namespace Go.V
open Go.Ab
open Option renaming some->O,none->Y
open Bool renaming true->Za,false->Zb
open Decidable renaming decide->Zc
open List renaming length->dt
open Int renaming toNat->eL
open Option renaming bind->ek
variable {i t x:Nat}{a v w:Int}{out rds st:Zd}
set_option maxRecDepth 100000
section
section
variable {H:Type} {enc:TypeId×Value->H} {P:Program} {w:World} {base:Nat} {held:Bool}
end
end
section
open Go.IntKind renaming wrap -> zH, i64 -> zI, u64 -> zJ
open Bool renaming not_true -> dA
open Int renaming zero_add -> cN, add_assoc -> cQ, mul_nonneg -> cW, add_zero -> dB, le_refl -> dC, mul_comm -> dD, mul_le_mul_of_nonneg_left -> dE, ediv_le_self -> dT, ediv_nonneg -> dU, mul_ediv_self_le -> dV, toNat_of_nonneg -> dW, eq_ofNat_of_zero_le -> eI, toNat_natCast -> eJ
open List renaming getElem?_eq_getElem -> aD, replicate -> bB, getElem?_set_ne -> cB, length_cons -> cD, append_assoc -> cK, getElem?_append_right -> cL, length_append -> cM, cons_append -> cO, getElem_mem -> cP, nil_append -> cR, getElem_cons_drop -> cT, range -> cV, drop_length -> cX, getElem?_set_self -> cY, length -> cZ, append_nil -> dF, drop_append -> dG, drop_of_length_le -> dH, getD -> dI, getElem?_drop -> dJ, length_drop -> dK, map_append -> dL, set -> dM, set_append_right -> dN, take_append_drop -> dO, take_left' -> dP, any_cons -> dX, any_nil -> dY, dropLast_concat_getLast -> dZ, length_take -> eA, mem_cons -> eC, range_succ -> eD, take_succ_eq_append_getElem -> eE, getElem?_cons_zero -> eM, length_flatten -> eN, map_replicate -> eO, mem_append -> eP, replicate_succ' -> eQ, sum_replicate_nat -> eR
open Nat renaming le_refl -> aB, sub_self -> bD, zero_add -> cS, zero_le -> cU, beq -> dQ, eq_zero_or_pos -> dR, mul_one -> dS, mul_add -> eF, mul_comm -> eG, mul_le_mul_right -> eH, add_sub_cancel -> eS
abbrev bz :=Int×Int×Int×Int×Int
def bu :List bz->Nat->Option Nat
 |[],d=>O d
 |o::r,d=>if o.1<0∨7<o.1 then Y else if o.1=0 then(if d=0 then Y else bu r (d-1))else if o.1=7 then bu r (d+1)else bu r d
def sd : ∀(l r:List bz) (d:Nat),bu (l++r) d=(bu l d).bind (bu r)
 |[],r,d=>rfl
 |o::l,r,d=>by
  simp only[cO,bu];split
  .rfl
  split
  .split
   .rfl
   .exact sd l r _
  split
  .exact sd l r _
  .exact sd l r _
def H9 : ∀(l:List bz) (d e:Nat),bu l d=O e->bu l (d+1)=O (e+1)
 |[],d,e,h=>by
  cases h;rfl
 |o::l,d,e,h=>by
  simp only[bu]at h⊢;split at h
  .cases h
  rename_i c;rw[zF c];split at h
  .rename_i f;rw[zE f];split at h
   .cases h
   .rename_i b;rw[Zh];have:=H9 l _ _ h
    rwa [show d-1+1=d+1-1 by omega]at this
  rename_i f;rw[zF f];split at h
  .rename_i b;rw[zE b];exact H9 l _ _ h
  .rename_i b;rw[zF b];exact H9 l _ _ h
def aJ0 (l:List bz)(s:Int×Bool×(Zd)×(Zd)×Zd):Prop:=
 ∃(i:Nat) (out st:Zd),i<=dt l/\s=((i:Int),Za,out,st,st)/\(dt out)=dt l/\(∀x∈st,0<=x/\x<dt l)/\(dt st)<=i/\bu (l.drop i) (dt st)=bu l 0
def aB4 (h:st≠[]): ∃pre x,st=pre++[x]:=⟨st.dropLast,st.getLast h,(dZ h).symm⟩
def Uq {l:List bz}(K:l.length<=3518437208780)(s:Int×Bool×(Zd)×(Zd)×Zd)(h:aJ0 l s):
  (∃b,db l s=O (.inl b)/\aJ0 l b/\l.length-b.1.toNat<l.length-s.1.toNat)∨∃c,db l s=O (.inr c)/\((c.1=Zb/\bu l 0=Y)∨(c.1=Za/\bu l 0=O c.2.2.1.length)):=by
 obtain⟨i,out,st,hi,rfl,A,j,B,d⟩:=h;by_cases c:i<l.length
 .have o:l.drop i=l[i]::l.drop (i+1):=(cT c).symm;rw[o]at d;simp only[db];rw[zB (show(i:Int)<(l.length:Int)by omega),zC,cg c];simp only[zG];generalize M:l[i]=x at*;simp only[bu]at d;by_cases D:x.1<0
  .rw[zE (.inl D)]at d;rw[zB D];simp only[zC,zG,gi];exact .inr ⟨_,rfl, .inl ⟨rfl,d.symm⟩⟩
  rw[zA D,zD];by_cases k:7<x.1
  .rw[zE (.inr k)]at d;rw[zB k];simp only[zC,zG,cb,gi];exact .inr ⟨_,rfl, .inl ⟨rfl,d.symm⟩⟩
  rw[zA k,zD];rw[Zh]at d;by_cases u:x.1=0
  .rw[zE u]at d;rw[zB u];simp only[zC,zG,cb];by_cases p:st.length=0
   .rw[zE p]at d;rw[zB (show(st.length:Int)=0 by omega)];simp only[zC,zG,gi];exact .inr ⟨_,rfl, .inl ⟨rfl,d.symm⟩⟩
   .rw[zF p]at d;rw[zA (show¬(st.length:Int)=0 by omega),zD];rw[ad (n:=(st.length:Int)-1) V1,Zl,cf];simp only[zG,cb];obtain⟨pre,q,rfl⟩:=aB4 (st:=st) (by intro e;subst e;exact p rfl);have I:=j q V2;have f:(pre++[q]).length=pre.length+1:=by simp
    have L:(((pre++[q]).length:Int)-1).toNat-0=pre.length:=by rw[f];omega
    have E:Zc (x.1=7)=Zb:=zA V1;rw[br (show i<out.length by omega)];simp only[zG];rw[aD (show i<out.length by omega)];simp only[zG];rw[E,zD,show((pre++[q]).length:Int)-1=(pre.length:Int)by rw[f];omega,br (show pre.length<(pre++[q]).length by omega)];simp only[zG];rw[cL (aB _),bD];simp only[eM,zG];rw[cf,br (show i<(out.set i (-1)).length by simp;omega)];simp only[zG];rw[aD (show i<(out.set i (-1)).length by simp;omega)];simp only[zG];obtain⟨r,rfl⟩:=eI I.1;have J:r<out.length:=by omega
    rw[br (show r<((out.set i (-1)).set i ((r:Nat):Int)).length by simp;omega)];simp only[zG];rw[aD (show r<((out.set i (-1)).set i ((r:Nat):Int)).length by simp;omega)];simp only[zG]
    have C:(pre++[(r:Int)]).take ((pre.length:Int).toNat-0)=pre:=by
     rw[show(pre.length:Int).toNat-0=pre.length by omega,dP];rfl
    rw[C,ad (n:=(i:Int)+1) V1];refine .inl ⟨_,rfl,⟨i+1,_,pre,c,rfl,by simp[A],λy hy=>j y (by simp[hy]),by rw[f]at B;omega, ?_⟩,by simp;omega⟩;rw[f]at d;exact d
  .rw[zF u]at d;have F:Zc (x.1=0)=Zb:=zA u;rw[F];simp only[zD,zG,cb];rw[br (show i<out.length by omega)];simp only[zG];rw[aD (show i<out.length by omega)];simp only[zG];by_cases k:x.1=7
   .rw[zE k]at d;rw[zB k];simp only[zC];rw[bn V1 V1,bn V1 V1,ad (n:=(i:Int)+1) V1];refine .inl ⟨_,rfl,⟨i+1,_,st++[(i:Int)],c,rfl,by simp[A],λy hy=> ?_,by simp;omega, ?_⟩,by simp;omega⟩
    .rcases List.mem_append.1 hy with hy|hy
     .exact j y hy
     .simp at hy;subst hy;omega
    .rw[cM];exact d
   .rw[zF k]at d;rw[zA k];simp only[zD];rw[ad (n:=(i:Int)+1) V1];exact .inl ⟨_,rfl,⟨i+1,_,st,c,rfl,by simp[A],j,V1,d⟩,by simp;omega⟩
 .have z:i=l.length:=by omega
  subst z;rw[cX]at d;simp only[db];rw[zA (show¬(l.length:Int)<(l.length:Int)by omega),zD];exact .inr ⟨_,rfl, .inr ⟨rfl,d.symm⟩⟩
def zR {l:List bz}(o:dt l<=3518437208780): ∃m,kn l=O (if bu l 0=O 0 then 0 else 6,m):=by
 unfold kn;rw[zB (show(0:Int)<=(dt l:Int)by omega),zB (show(dt l:Int)<=(dt l:Int)by omega),zB (show 8*(dt l:Int)<=140737488355328 by omega)];show∃m,gd Za _=_
 rw[cf]
 obtain⟨c,k,h⟩:=qC (f:=db l) (a:=((0:Int),Za,bB (eL ((dt l:Int))) (0:Int),([]:Zd),([]:Zd))) (aJ0 l) (λs=>dt l-eL s.1) (λc=>(c.1=Zb/\bu l 0=Y)∨(c.1=Za/\bu l 0=O (dt c.2.2.1)))
  ⟨0,_,[],cU _,rfl,V2,(λx q=>by cases q),aB _,rfl⟩ V3 (λs p=>Uq o s p)
 rw[k,zG];rcases h with⟨b,d⟩|⟨b,d⟩
 .rw[b,d];exact⟨_,rfl⟩
 .rw[b,d,zC];by_cases j:dt c.2.2.1=0
  .rw[zB (show(dt c.2.2.1:Int)=0 by omega),zE (by rw[j])];exact⟨_,rfl⟩
  .rw[zA (show¬(dt c.2.2.1:Int)=0 by omega),zF ZW];exact⟨_,rfl⟩
def At (w v:Int):Option Int:=if w=0 then O 0 else if 65536<w then Y else if 65536 / w<v then Y else O (w*v)
def sR :List bz->List (Int×Int)->Option (List (Int×Int))
 |[],st=>O st
 |o::r,(v,w)::st=>if o.1=7 then sR r ((o.2.2.2.2,0)::(v,w)::st)else if o.1=0 then(match At w v,st with
   |some n,(c,d)::b=>sR r ((c,d+n)::b)
   |_,_=>Y)
  else sR r ((v,w+1)::st)
 |_::_,[]=>Y
def MU (s:0<=w/\w<=10000000000)(f:0<=v/\v<=18446744073709551615):tW w v=O (match At w v with
  |some n=>(n,Za)
  |none=>(0,Zb)):=by
 unfold tW At;simp only[ag];by_cases b:w=0
 .rw[zE b,zE b]
 rw[zF b,zF b];by_cases c:65536<w
 .rw[zE c,zE c]
 rw[zF c,zF c,zB (show w≠0 from b),cf,Wu V1];have h:0<=65536 / w:=dU V1 V1;have j:65536 / w<=65536:=dT _ V1;rw[ad (n:=65536 / w) V1,Zk];by_cases d:65536 / w<v
 .rw[zE d,zE d]
 .rw[zF d,zF d]
  have o:w*v<=65536:=by
   have e:v<=65536 / w:=by omega
   have p:=dE e (show 0<=w by omega);have q:=dV (x:=65536) (k:=w) V1;omega
  have r:=cW (show 0<=w by omega) f.1;rw[ad (n:=v) V1,ad (n:=w*v) V1]
def Hy {n:Int}(d:0<=w)(c:0<=v)(h:At w v=O n):0<=n/\n<=65536:=by
 unfold At at h;split at h
 .injection h with h;subst h;omega
 split at h
 .cases h
 split at h
 .cases h
 rename_i e f j;cases h;have b:v<=65536 / w:=by omega
 have o:=dE b (show 0<=w by omega);have p:=dV (x:=65536) (k:=w) V1;exact⟨cW d c,V1⟩
def Gw {k:Int}(h:0<k/\k<7)(d a b v:Int):jN k d a b v=O (d,Za):=by
 unfold jN qb;simp only[ag];have:k=1∨k=2∨k=3∨k=4∨k=5∨k=6:=by omega
 rcases this with rfl|rfl|rfl|rfl|rfl|rfl<;>rfl
def S4 (a b:Int)(e:0<=a/\a<=1000000000000)(j:0<=b/\b<=65536):yS [a,b]=O (a+b):=by
 unfold yS
 have d:am (A5 [a,b]) cv (0,0)=O (a+b):=by
  have h:=eZ (f:=A5 [a,b]) (n:=2) (λi=>match i with|0=>0|1=>a|_=>a+b) (c:=a+b) V1 ?_ ?_
  .exact h
  .intro i hi
   match i,hi with
   |0,_=>
    show O (Sum.inl (zH zI 1,zH zI (0+a)))=_;rw[Zi,Zi,cN];rfl
   |1,_=>
    show O (Sum.inl (zH zI 2,zH zI (a+b)))=_;rw[Zi,Zi];rfl
  .rfl
 rw[d];rfl
def aB3 (l:List bz)(op:List (Int×Int)):List (Int×Int):=op.reverse.map λp=>((l.getD (eL p.1) (0,0,0,0,0)).2.2.2.2,p.2)
def yH (l:List bz)(pre:List (Int×Int))(p:Int×Int):aB3 l (pre++[p])=((l.getD (eL p.1) (0,0,0,0,0)).2.2.2.2,p.2)::aB3 l pre:=by
 unfold aB3;rw[List.reverse_append,dL];rfl
def aJ5 (l:List bz)(s:Int×(Zd)×(Zd)×List (Int×Int)):Prop:=
 ∃(i:Nat) (sz rd:Zd) (b:List (Int×Int)),i<=dt l/\s=((i:Int),sz,rd,b)/\(dt sz)=dt l/\(dt rd)=dt l/\b≠[]/\(dt b)<=i+1/\(∀p∈b,0<=p.1/\p.1<max (dt l:Int) 1/\0<=p.2/\p.2<=65537*i)/\
  bu (l.drop i) (dt b-1)=O 0/\sR (l.drop i) (aB3 l b)=sR l [((l.getD 0 (0,0,0,0,0)).2.2.2.2,0)]
def VH {l:List bz}(h:i<dt l):l.getD i (0,0,0,0,0)=l[i]:=by
 rw[List.getD_eq_getElem?_getD,aD h];rfl
def Qg {l:List bz}(hl:l.length<=100000)(hv: ∀o∈l,0<=o.2.2.2.2/\o.2.2.2.2<=18446744073709551615)(s:Int×(Zd)×(Zd)×List (Int×Int))(h:aJ5 l s):
  (∃b,cr l s=O (.inl b)/\aJ5 l b/\l.length-b.1.toNat<l.length-s.1.toNat)∨
  ∃c,cr l s=O (.inr c)/\((c.1=9/\sR l [((l.getD 0 (0,0,0,0,0)).2.2.2.2,0)]=Y)∨(c.1=0/\∃p:Int×Int,c.2.2.2=[p]/\0<=p.2/\sR l [((l.getD 0 (0,0,0,0,0)).2.2.2.2,0)]=O [((l.getD p.1.toNat (0,0,0,0,0)).2.2.2.2,p.2)])):=by
 obtain⟨i,sz,rds,op,hi,rfl,J,I,M,hol,A,j,f⟩:=h;obtain⟨pre,⟨r,w⟩,rfl⟩: ∃pre x,op=pre++[x]:=⟨op.dropLast,op.getLast M,(dZ M).symm⟩
 have q:=A (r,w) V2;simp only at q;have z:(pre++[(r,w)]).length=pre.length+1:=by simp
 rw[z]at hol j;rw[eS]at j
 have C:(pre++[(r,w)])[pre.length]?=O (r,w):=by
  rw[cL (aB _),bD];rfl
 by_cases c:i<l.length
 .have F:l.drop i=l[i]::l.drop (i+1):=(cT c).symm;have hlv:=hv _ (cP c);have W:l.getD i (0,0,0,0,0)=l[i]:=VH c;rw[F]at j f;rw[yH]at f;simp only[cr];rw[zB (show(i:Int)<(l.length:Int)by omega),zC,cg c];simp only[zG];generalize hx:l[i]=x at*;simp only[bu]at j;simp only[sR]at f
  have hk: ¬(x.1<0∨7<x.1):=by
   intro hk;rw[zE hk]at j;cases j
  rw[zF hk]at j;rw[z,ad (n:=((pre.length+1:Nat):Int)-1) V1,show((pre.length+1:Nat):Int)-1=(pre.length:Int)by omega,br (show pre.length<pre.length+1 by omega)];simp only[zG];by_cases K:x.1=7
  .rw[Zh,zE K]at j;rw[zE K]at f;rw[zB K,zC,bn V1 V1,ad (n:=(i:Int)+1) V1];refine .inl ⟨_,rfl,⟨i+1,sz,rds,pre++[(r,w)]++[((i:Int),0)],c,rfl,J,I,V2,by simp;omega,λp hp=> ?_, ?_, ?_⟩,by simp;omega⟩
   .rcases List.mem_append.1 hp with hp|hp
    .have:=A p hp;omega
    .simp at hp;subst hp;simp only;omega
   .rw[cM,z];exact j
   .rw[yH,yH];simp only[eJ];rw[W];exact f
  .rw[zF K]at f;rw[zA K,zD];by_cases V:x.1=0
   .rw[zE V]at j f;rw[zB V,zC]
    have N:pre.length≠0:=by
     intro e;rw[zE e]at j;cases j
    rw[zF N]at j
    obtain⟨d,⟨k,u⟩,rfl⟩: ∃d x,pre=d++[x]:=by
     have D:pre≠[]:=by intro e;subst e;exact N rfl
     exact⟨pre.dropLast,pre.getLast D,(dZ D).symm⟩
    have L:(d++[(k,u)]).length=d.length+1:=by simp
    have B:=A (k,u) V2;simp only at B;obtain⟨y,rfl⟩:=eI q.1;have E:y<l.length:=by omega
    rw[C];simp only[zG];rw[cg E];simp only[zG];have T:=hv _ (cP E);rw[MU ⟨q.2.2.1,V1⟩ T];simp only[zG];rw[yH]at f;simp only[eJ]at f;rw[VH E]at f;cases X:At w l[y].2.2.2.2 with
    |none=>
     rw[X]at f;simp only[Bool.not_false,zC];exact .inr ⟨_,rfl, .inl ⟨rfl,f.symm⟩⟩
    |some n=>
     rw[X]at f;have hn:=Hy q.2.2.1 T.1 X;simp only[dA,zD];rw[br (show y<sz.length by omega)];simp only[zG];rw[aD (show y<sz.length by omega)];simp only[zG];rw[br (show y<rds.length by omega)];simp only[zG];rw[aD (show y<rds.length by omega)];simp only[zG];rw[Zl,cf];have e1:((d++[(k,u)]).length:Int).toNat-0=d.length+1:=by rw[L];omega
     rw[e1,ad (n:=((d.length+1:Nat):Int)-1) V1,show((d.length+1:Nat):Int)-1=(d.length:Int)by omega,br (show d.length<d.length+1 by omega)];simp only[zG,cS]
     have hg2:(d++[(k,u)]++[((y:Int),w)])[d.length]?=O (k,u):=by
      rw[cK,cL (aB _),bD];rfl
     rw[hg2];simp only[zG];rw[S4 _ _ V1 hn];simp only[zG]
     have htk:((d++[(k,u)]++[((y:Int),w)]).set d.length (k,u+n)).take (d.length+1)=d++[(k,u+n)]:=by
      rw[cK,dN _ _ (aB _),bD];show(d++[(k,u+n),((y:Int),w)]).take (d.length+1)=_;rw[show [(k,u+n),((y:Int),w)]=[(k,u+n)]++[((y:Int),w)]from rfl,<-cK,dP];simp
     rw[htk,ad (n:=(i:Int)+1) V1];refine .inl ⟨_,rfl,⟨i+1,_,_,d++[(k,u+n)],c,rfl,by simp[J],by simp[I],V2,by simp;omega,λp hp=> ?_, ?_, ?_⟩,by simp;omega⟩
     .rcases List.mem_append.1 hp with hp|hp
      .have:=A p aw;omega
      .simp at hp;subst hp;simp only;omega
     .rw[L]at j;rw[cM];exact j
     .rw[yH];exact f
   .rw[zF V]at j f;rw[zF K]at j;rw[zA V,zD,Gw V1];simp only[zG,zC];rw[br (show i<sz.length by omega)];simp only[zG];rw[aD (show i<sz.length by omega)];simp only[zG];rw[C];simp only[zG];rw[ad (n:=w+1) V1,ad (n:=(i:Int)+1) V1]
    have Q:(pre++[(r,w)]).set pre.length (r,w+1)=pre++[(r,w+1)]:=by
     rw[dN _ _ (aB _),bD];rfl
    rw[Q];refine .inl ⟨_,rfl,⟨i+1,_,rds,pre++[(r,w+1)],c,rfl,by simp[J],I,V2,by simp;omega,λp hp=> ?_, ?_, ?_⟩,by simp;omega⟩
    .rcases List.mem_append.1 hp with hp|hp
     .have:=A p aw;omega
     .simp at hp;subst hp;simp only;omega
    .rw[cM];exact j
    .rw[yH];exact f
 .have hi':i=l.length:=by omega
  subst hi';rw[cX]at j f;simp only[cr];rw[zA (show¬(l.length:Int)<(l.length:Int)by omega),zD]
  have hp:pre=[]:=by
   have j:O pre.length=O 0:=j;injection j with j
   exact List.length_eq_zero_iff.1 j
  subst hp;refine .inr ⟨_,rfl, .inr ⟨rfl,(r,w),rfl,q.2.2.1, ?_⟩⟩;rw[<-f];rfl
def Q9 (l:List bz):Option Int:=ek (sR l [((l.getD 0 (0,0,0,0,0)).2.2.2.2,0)]) λst=>match st with
 |[p]=>O p.2
 |_=>Y
def di (l:List bz):Int×Int:=if bu l 0=O 0 then(match Q9 l with
 |some w=>if 65536<w then(0,9)else(w,0)
 |none=>(0,9))else(0,6)
def wV {l:List bz}(C:dt l<=100000)(E: ∀o∈l,0<=o.2.2.2.2/\o.2.2.2.2<=18446744073709551615):gk l=O (di l):=by
 unfold gk kR;have⟨m,D⟩:=zR (l:=l) V1;rw[D];unfold di;by_cases k:bu l 0=O 0
 .simp only[zE k];simp only[zG];rw[zA V2,zD,zB (show(0:Int)<=(dt l:Int)by omega),zB (show(dt l:Int)<=(dt l:Int)by omega),zB (show 8*(dt l:Int)<=140737488355328 by omega)];have b: ∀{β:Type} {y:Option β},gd (dQ 1 (Sh.w (.int .i64))&&Za&&Za&&Za&&Nat.ble 1 8) y=y:=λ{β y}=>rfl
  rw[b,b]
  have⟨c,B,h⟩:=qC (f:=cr l) (a:=((0:Int),bB (eL ((dt l:Int))) (0:Int),bB (eL ((dt l:Int))) (0:Int),[((0:Int),(0:Int))])) (aJ5 l) (λs=>dt l-eL s.1) _
   ⟨0,_,_,[(0,0)],cU _,rfl,V2,V2,V2,V2,(λp q=>by simp at q;subst q;simp only;omega),k,rfl⟩ V3 (λs h=>Qg C E s h)
  rw[B,zG];unfold Q9;rcases h with⟨j,u⟩|⟨j,p,z,F,A⟩
  .rw[j,u];rfl
  .rw[j,A,z];show((ek (ek (cond (Zc (65536<p.2)) (O (9:Int)) (O 0)) λd=>cond (Zc (d≠0)) (O ((0:Int),d,([]:Zd),([]:Zd))) (O (p.2,0,c.2.1,c.2.2.1))) λr=>O (r.1,r.2.1)))=O (if 65536<p.2 then(0,9)else(p.2,0));rw[ag];by_cases e:65536<p.2
   .rw[zE e,zE e];rfl
   .rw[zF e,zF e];rfl
 .simp only[zF k];rfl
def Cc : ∀(l r:List bz) (st:List (Int×Int)),sR (l++r) st=(sR l st).bind (sR r)
 |[],r,st=>rfl
 |o::l,r,[]=>rfl
 |o::l,r,(v,w)::st=>by
  simp only[cO,sR];split
  .exact Cc l r _
  split
  .split
   .exact Cc l r _
   .rfl
  .exact Cc l r _
def VO (v w:Int)(base:List (Int×Int)):List (Int×Int)->List (Int×Int)
 |[]=>[]
 |[p]=>(v,w+p.2)::base
 |p::q::r=>p::VO v w base (q::r)
def On (v w:Int)(base:List (Int×Int))(p:Int×Int): ∀c:List (Int×Int),VO v w base (c++[p])=c++(v,w+p.2)::base
 |[]=>rfl
 |[a]=>rfl
 |a::b::r=>by
  show a::VO v w base (b::r++[p])=_;rw[On v w base p (b::r)];rfl
def tf (v w:Int)(base:List (Int×Int)): ∀(l:List bz) (e:List (Int×Int)) (c:Int) (d:Nat),bu l (dt e)=O d->sR l (e++(v,w+c)::base)=(sR l (e++[(0,c)])).map (VO v w base)
 |[],e,c,d,_=>by
  show O _=O _;rw[On]
 |o::l,[],c,d,h=>by
  simp only[bu,List.length_nil]at h;simp only[cR,sR];split at h
  .cases h
  split at h
  .rw[zE trivial]at h;cases h
  rename_i p f;split at h
  .rename_i b;rw[zE b,zE b];exact tf v w base l [(o.2.2.2.2,0)] c d h
  .rename_i b;rw[zF b,zF f,zF b,zF f,cQ];exact tf v w base l [] (c+1) d h
 |o::l,(j,k)::e,c,d,h=>by
  simp only[bu,cD]at h;simp only[cO,sR];split at h
  .cases h
  split at h
  .rename_i p f;rw[Zh]at h;rw[Zh,zE f,Zh,zE f];cases r:At k j with
   |none=>rfl
   |some n=>
    cases e with
    |nil=>
     simp only[cR];rw[cQ];exact tf v w base l [] (c+n) d h
    |cons q e=>
     simp only[cO];exact tf v w base l ((q.1,q.2+n)::e) c d h
  rename_i p f;split at h
  .rename_i b;rw[zE b,zE b];exact tf v w base l ((o.2.2.2.2,0)::(j,k)::e) c d h
  .rename_i b;rw[zF b,zF f,zF b,zF f];exact tf v w base l ((j,k+1)::e) c d h
def H8 : ∀(l:List bz) (st b:List (Int×Int)) (d f:Nat),dt st=d+1->bu l d=O f->sR l st=O b->dt b=f+1
 |[],st,b,d,f,h,c,e=>by
  injection c with c
  injection e with e
  subst c;subst e;exact h
 |o::l,[],b,d,f,h,_,_=>by simp at h
 |o::l,(v,w)::st,b,d,f,h,c,e=>by
  simp only[bu]at c;simp only[sR]at e;simp only[cD,Nat.add_right_cancel_iff]at h;split at c
  .cases c
  split at c
  .rename_i p k;split at c
   .cases c
   rw[Zh,zE k]at e;split at e
   .rename_i j _ _ n r s q _;exact H8 l _ b (d-1) f (by simp at h⊢;omega) c e
   .cases e
  rename_i p k;split at c
  .rename_i j;rw[zE j]at e;exact H8 l _ b (d+1) f V3 c e
  .rename_i j;rw[zF j,zF k]at e;exact H8 l _ b d f V3 c e
def KF : ∀(l:List bz) (st b:List (Int×Int)),(∀o∈l,0<=o.2.2.2.2)->(∀p∈st,0<=p.1/\0<=p.2)->sR l st=O b->∀p∈b,0<=p.2
 |[],st,b,_,h,c=>by
  cases c;exact λp hp=>(h p hp).2
 |o::l,[],b,_,_,c=>by cases c
 |o::l,(v,w)::st,b,q,h,c=>by
  have f:=h (v,w) V2;have d: ∀p∈st,0<=p.1/\0<=p.2:=λp hp=>h p aw
  have e: ∀k∈l,0<=k.2.2.2.2:=λk j=>q k (by simp[j])
  simp only at f;simp only[sR]at c;split at c
  .refine KF l _ b e (λp hp=> ?_) c;rcases List.mem_cons.1 hp with rfl|hp
   .exact⟨q o V2,dC _⟩
   .exact h p hp
  split at c
  .split at c
   .rename_i n u y s r;have z:=Hy f.2 f.1 r;refine KF l _ b e (λp hp=> ?_) c;rcases List.mem_cons.1 hp with rfl|hp
    .have:=d (u,y) V2;simp only at this⊢;omega
    .exact d p aw
   .cases c
  .refine KF l _ b e (λp hp=> ?_) c;rcases List.mem_cons.1 hp with rfl|hp
   .simp only;omega
   .exact h p aw
def GB {l:List bz}(h:bu l 0=O 0)(v w:Int)(base:List (Int×Int)):sR l ((v,w)::base)=(Q9 l).map λm=>(v,w+m)::base:=by
 have b:=tf v w base l [] 0 0 h;rw[cR,cR,dB]at b;have c:=tf ((l.getD 0 (0,0,0,0,0)).2.2.2.2) 0 [] l [] 0 0 h;rw[cR,cR,dB]at c;unfold Q9;rw[b,c];cases e:sR l [(0,0)]with
 |none=>rfl
 |some st=>
  have d:=H8 l _ st 0 0 rfl h e
  match st,d with
  |[p],_=>
   show O ((v,w+p.2)::base)=O ((v,w+(0+p.2))::base);rw[cN]
def Js {l:List bz}(e: ∀o∈l,0<=o.2.2.2.2){m:Int}(h:bu l 0=O 0)(d:Q9 l=O m):0<=m:=by
 have b:=GB h 0 0 [];rw[d]at b;have:=KF l _ _ e (λp c=>by simp at c;subst c;simp) b (0,0+m) V2;simp only at this;omega
def G3 {l:List bz}(y:l.length<=100000):qL l=O (Zc (bu l 0=O 0)):=by
 unfold qL
 obtain⟨c,r,h⟩:=qC (f:=xf l) (a:=((0:Int),(0:Int))) (λs=> ∃i d:Nat,i<=l.length/\d<=i/\s=((i:Int),(d:Int))/\bu (l.drop i) d=bu l 0) (λs=>l.length-s.1.toNat)
  (λc=>(c= .inl Zb/\bu l 0=Y)∨∃d:Nat,c= .inr (d:Int)/\bu l 0=O d) ⟨0,0,cU _,aB _,rfl,rfl⟩ V3 (by
  rintro _ ⟨i,d,hi,u,rfl,b⟩;simp only[xf,ag];by_cases c:i<l.length
  .rw[(cT c).symm]at b;rw[Zg,cg c];simp only[zG];generalize l[i]=x at*;simp only[bu]at b;by_cases p:x.1<0
   .rw[zE (.inl p)]at b;rw[zE p];exact .inr ⟨_,rfl, .inl ⟨rfl,b.symm⟩⟩
   rw[zF p];by_cases q:7<x.1
   .rw[zE (.inr q)]at b;rw[zE q];exact .inr ⟨_,rfl, .inl ⟨rfl,b.symm⟩⟩
   rw[Zh]at b;rw[zF q];by_cases o:x.1=0
   .rw[zE o]at b;rw[Zh];simp only[zG];rw[zE o,ad (n:=(d:Int)-1) V1,ad (n:=(i:Int)+1) V1];by_cases k:d=0
    .rw[zE k]at b;rw[Zg];exact .inr ⟨_,rfl, .inl ⟨rfl,b.symm⟩⟩
    .rw[zF k]at b;rw[Zh];exact .inl ⟨_,rfl,⟨i+1,d-1,c,V1,by rw[show((d-1:Nat):Int)=(d:Int)-1 by omega];rfl,b⟩,by simp;omega⟩
   .rw[zF o]at b;by_cases j:x.1=7
    .rw[zE j]at b;rw[zE j];simp only[zG];rw[zF o,ad (n:=(d:Int)+1) V1,ad (n:=(i:Int)+1) V1,Zh];exact .inl ⟨_,rfl,⟨i+1,d+1,c,V1,rfl,b⟩,by simp;omega⟩
    .rw[zF j]at b;rw[zF j];simp only[zG];rw[zF o,ad (n:=(i:Int)+1) V1,Zh];exact .inl ⟨_,rfl,⟨i+1,d,c,V1,rfl,b⟩,by simp;omega⟩
  .have:i=l.length:=by omega
   subst this;rw[cX]at b;rw[Zh]
   exact .inr ⟨_,rfl, .inr ⟨d,rfl,b.symm⟩⟩)
 rw[r];rcases h with⟨rfl,h⟩|⟨d,rfl,h⟩
 .rw[h];rfl
 .rw[h];show O (Zc ((d:Int)=0))=O (Zc (O d=O 0))
  congr 1
  rw[decide_eq_decide];constructor
  .intro e;have:d=0:=by omega
   rw[this]
  .intro e;injection e with e;omega
def Dj : ∀(n:Nat) (s:List bz) (d:Nat),dt s<=n->bu s (d+1)=O 0->∃inner e rest,s=inner++e::rest/\e.1=0/\bu inner 0=O 0/\bu rest d=O 0
 |n,[],d,_,h=>by
  injection h with h
  omega
 |0,o::s,d,f,_=>by simp at f
 |n+1,o::s,d,f,h=>by
  simp only[cD]at f;simp only[bu]at h;split at h
  .cases h
  rename_i B;split at h
  .rename_i j;rw[Zh]at h;exact⟨[],o,s,rfl,j,rfl,h⟩
  rename_i j;split at h
  .rename_i r;have⟨p,b,q,k,u,y,z⟩:=Dj n s (d+1) V1 h;have c:dt q<=n:=by rw[k]at f;simp at f;omega
   have⟨A,C,J,D,E,F,I⟩:=Dj n q d c z;refine⟨o::p++b::A,C,J, ?_,E, ?_,I⟩
   .rw[k,D];simp
   .show bu (o::(p++b::A)) 0=_;simp only[bu];rw[zF B,zF j,zE r,sd,H9 _ _ _ y];show bu (b::A) 1=_;simp only[bu];rw[Zh,zE u,Zh];exact F
  .rename_i r;have⟨p,b,q,k,u,y,z⟩:=Dj n s d V1 h;refine⟨o::p,b,q,by rw[k];rfl,u, ?_,z⟩;simp only[bu];rw[zF B,zF j,zF r];exact y
def yr {s u E F:List bz}{e1 y:bz}(h:s++e1::E=u++y::F)(z:bu s 0=O 0)(A:bu u 0=O 0)(p:e1.1=0)(r:y.1=0):s=u:=by
 have k: ∀{a b:List bz} {e:bz} {x:List bz},a++e::x=b->e.1=0->bu a 0=O 0->bu b 0=O 0->False:=by
  intro a b e x o D C f;rw[<-o,sd,C]at f;have f:bu (e::x) 0=O 0:=f;simp only[bu]at f;rw[Zh,zE D,zE trivial]at f;cases f
 rcases List.append_eq_append_iff.1 h with⟨j,d,c⟩|⟨j,d,c⟩
 .cases j with
  |nil=>rw[dF]at d;exact d.symm
  |cons q j=>
   rw[cO]at c;injection c with c B
   subst c;exact(k d.symm p z A).elim
 .cases j with
  |nil=>rw[dF]at d;exact d
  |cons q j=>
   rw[cO]at c;injection c with c B
   subst c;exact(k d.symm r A z).elim
def Ln {l:List bz}(h:bu l 0=O 0)(hi:i<=dt l): ∃d,bu (l.take i) 0=O d/\bu (l.drop i) d=O 0:=by
 rw[<-dO i l,sd]at h;have⟨d,b,c⟩:=ah h;exact⟨d,b,c⟩
def Rq {l:List bz}(h:bu l 0=O 0)(hi:i<dt l)(k:l[i].1=7): ∃inner e rest,l.drop (i+1)=inner++e::rest/\e.1=0/\bu inner 0=O 0:=by
 have⟨d,_,b⟩:=Ln h (i:=i) V1;rw[(cT hi).symm]at b;simp only[bu]at b;rw[Zh,Zh,zE k]at b;have⟨inner,e,rest,c,f,j,_⟩:=Dj _ _ d (aB _) b;exact⟨inner,e,rest,c,f,j⟩
structure MOK (l:List bz)(m:Zd):Prop where
 len:dt m=dt l
 at': ∀i,(hi:i<dt l)->l[i].1=7->∀inner e rest,l.drop (i+1)=inner++e::rest->e.1=0->bu inner 0=O 0->m[i]?=O ((i+1+dt inner:Nat):Int)
def aA4 {l:List bz}(M:l.length<=100000)(hi:i<l.length){inner rest:List bz}{e:bz}(h:l.drop (i+1)=inner++e::rest)(I:e.1=0)(E:bu inner 0=O 0):am (ng l) cv (1,(i:Int))=O ((i+1+inner.length:Nat):Int):=by
 have D:l.length=i+1+inner.length+1+rest.length:=by
  have:=congrArg cZ h;rw[dK]at this;simp at this;omega
 have r: ∀j,j<inner.length+1->∃x,rd l ((i+1+j:Nat):Int)=O x/\(inner++e::rest)[j]?=O x:=by
  intro j q;have s:i+1+j<l.length:=by omega
  refine⟨l[i+1+j],cg s, ?_⟩;rw[<-h,dJ,aD s]
 have u: ∀j,j<=inner.length->∃d,bu (inner.take j) 0=O d:=by
  intro j q;obtain⟨d,b,_⟩:=Ln E q;exact⟨d,b⟩
 let c:Nat->Nat:=λj=>(bu (inner.take j) 0).getD 0
 have o: ∀j,j<=inner.length->bu (inner.take j) 0=O (c j):=by
  intro j q;obtain⟨d,F⟩:=u j q;show _=O ((bu (inner.take j) 0).getD 0);rw[F];rfl
 have A: ∀j,c j<=j∨inner.length<j:=by
  intro j;induction j with
  |zero=>exact .inl (aB _)
  |succ j N=>
   by_cases q:j+1<=inner.length
   .left;have b:=o (j+1) q;rw[eE (show j<inner.length by omega),sd,o j V1]at b;have b:bu [inner[j]] (c j)=O (c (j+1)):=b;simp only[bu]at b;split at b
    .cases b
    split at b
    .split at b
     .cases b
     .injection b with b;omega
    split at b
    .injection b with b;omega
    .injection b with b;omega
   .right;omega
 refine GW (f:=ng l) (n:=inner.length+1) (λj=>if j<=inner.length then((1+c j:Nat),((i+j:Nat):Int))else(0,((i+1+inner.length:Nat):Int))) V1 (λj q=> ?_) ?_
 .have L:=A j;rw[zE (show j<=inner.length by omega)];obtain⟨x,B,k⟩:=r j V1;simp only[ng,ag];rw[Zg,ad (n:=((i+j:Nat):Int)+1) V1,show((i+j:Nat):Int)+1=((i+1+j:Nat):Int)by omega,B];simp only[zG];by_cases p:j<inner.length
  .rw[List.getElem?_append_left p,aD p]at k;injection k with k
   have b:=o (j+1) p;rw[eE p,sd,o j V1]at b;have b:bu [inner[j]] (c j)=O (c (j+1)):=b;rw[k]at b;simp only[bu]at b;rw[zE (show j+1<=inner.length by omega)];split at b
   .cases b
   split at b
   .rename_i K y;split at b
    .cases b
    .injection b with b
     rw[Zh,zE y,Zi]
     congr 3<;>omega
   rename_i K y;split at b
   .rename_i C;injection b with b
    rw[zE C,zF y,Zi]
    congr 3<;>omega
   .rename_i C;injection b with b
    rw[zF C,zF y]
    congr 3<;>omega
  .have z:j=inner.length:=by omega
   subst z;rw[cL (aB _),bD]at k;injection k with k
   subst k
   have J:c inner.length=0:=by
    have:=o inner.length (aB _);rw[List.take_length,E]at this;injection this with this
    exact this.symm
   rw[Zh,zE I,zF (show¬inner.length+1<=inner.length by omega),J,Zi];rfl
 .rw[Zh];simp only[ng,ag];rw[Zh]
def SG {l:List bz}(K:dt l<=100000):(bu l 0=O 0/\∃m,rN l=O (0,m)/\MOK l m)∨(bu l 0≠O 0/\rN l=O (6,[])):=by
 unfold rN;rw[G3 K,zG];by_cases z:bu l 0=O 0
 .left;refine⟨z, ?_⟩;rw[zB z];simp only[dA,zD]
  have W:am (nc l) cv (0,[])=O (bB (dt l) (-1)):=by
   have h:=eZ (f:=nc l) (n:=dt l) (λi=>bB i (-1:Int)) (c:=bB (dt l) (-1)) V1 ?_ ?_
   .exact h
   .intro i hi;simp only[nc,ag];rw[Zg,bn V3 V1,Zi,eQ];rfl
   .simp only[nc,ag];rw[Zh]
  rw[W,zG]
  have⟨c,X,h⟩:=qC (f:=vo l) (a:=((0:Int),bB (dt l) (-1:Int))) (λs=> ∃(i:Nat) (out:Zd),i<=dt l/\s=((i:Int),out)/\(dt out)=dt l/\∀j,j<i->(y:j<dt l)->l[j].1=7->∀b e o,l.drop (j+1)=b++e::o->e.1=0->bu b 0=O 0->out[j]?=O ((j+1+dt b:Nat):Int)) (λs=>dt l-eL s.1)
   (λc=>MOK l c) ⟨0,_,cU _,rfl,V2,λj y=>by omega⟩ V3 (by
   rintro _ ⟨i,out,hi,rfl,I,k⟩;simp only[vo,ag];by_cases c:i<dt l
   .rw[Zg,cg c,zG];by_cases C:l[i].1=7
    .obtain⟨b,e,o,A,D,J⟩:=Rq z c C
     have L:dt l=i+1+dt b+1+dt o:=by
      have:=congrArg cZ A;rw[dK]at this;simp at this;omega
     rw[zF (by simp[C]),aA4 K c A D J,zG,br (show i<(dt out) by omega),zG,aD (show i<(dt out) by omega),zG,br (show i+1+dt b<(dt (out.set i ((i+1+dt b:Nat):Int))) by simp;omega),zG,aD (show i+1+dt b<(dt (out.set i ((i+1+dt b:Nat):Int))) by simp;omega),zG,ad (n:=(i:Int)+1) V1];refine .inl ⟨_,rfl,⟨i+1,_,c,rfl,by simp[I],λj y r d q T u M N Q=> ?_⟩,by simp;omega⟩
     have E:l[i+1+dt b].1=0:=by
      have B:(l.drop (i+1))[dt b]?=O e:=by
       rw[A,cL (aB _),bD];rfl
      rw[dJ,aD (show i+1+dt b<(dt l) by omega)]at B;injection B with B
      rw[B];exact D
     have F:i+1+(dt b)≠j:=by
      intro V;subst V;rw[E]at d;cases d
     rw[cB F];by_cases p:i=j
     .subst p;have:=yr (A.symm.trans M) J Q D N;subst this;rw[cY V1]
     .rw[cB p];exact k j V1 r d q T u M N Q
    .rw[zE C,ad (n:=(i:Int)+1) V1];refine .inl ⟨_,rfl,⟨i+1,out,c,rfl,I,λj y r d=> ?_⟩,by simp;omega⟩;by_cases p:j=i
     .subst p;exact(C d).elim
     .exact k j V1 r d
   .have:i=dt l:=by omega
    subst this;rw[Zh]
    exact .inr ⟨_,rfl,I,λj y d=>k j y y d⟩)
  rw[X];exact⟨c,rfl,h⟩
 .right;refine⟨z, ?_⟩;rw[zA z];rfl
def VT {α β:Type}{f:α->β}(c: ∀a b,f a=f b->a=b){x y:Option α}(h:x.map f=y.map f):x=y:=by
 cases x with
 |none=>cases y with
  |none=>rfl
  |some b=>cases h
 |some a=>cases y with
  |none=>cases h
  |some b=>
   injection h with h
   rw[c _ _ h]
def Su (v c:Int)(base:List (Int×Int)): ∀a b:Int,(v,c+a)::base=(v,c+b)::base->a=b:=by
 intro a b h;injection h with h
 injection h with _ h
 omega
def NN {o:bz}{s:List bz}(h:bu (o::s) 0=O 0)(d:o.1≠7):bu s 0=O 0/\(0<o.1/\o.1<7)/\Q9 (o::s)=(Q9 s).map (1+ ·):=by
 have c:=GB h 0 0 [];simp only[bu]at h;split at h
 .cases h
 rename_i e;split at h
 .rw[zE trivial]at h;cases h
 rename_i b;refine⟨h,V1,VT (Su 0 0 []) ?_⟩;rw[<-c];simp only[sR];rw[zF d,zF b,GB h];cases Q9 s with
 |none=>rfl
 |some m=>
  show O [((0:Int),0+1+m)]=O [((0:Int),0+(1+m))];rw[cQ]
def O1 {o e:bz}{inner rest:List bz}(h:bu (o::(inner++e::rest)) 0=O 0)(d:o.1=7)(c:e.1=0)(hi:bu inner 0=O 0):
  bu rest 0=O 0/\Q9 (o::(inner++e::rest))=ek (Q9 inner) λw=>ek (At w o.2.2.2.2) λb=>(Q9 rest).map (b+ ·):=by
 have f:=GB h 0 0 [];simp only[bu]at h;rw[Zh,Zh,zE d,sd,H9 _ _ _ hi]at h;have h:bu (e::rest) 1=O 0:=h;simp only[bu]at h;rw[Zh,zE c,Zh]at h;have h:bu rest 0=O 0:=h;refine⟨h,VT (Su 0 0 []) ?_⟩;rw[<-f];simp only[sR];rw[zE d,Cc,GB hi];cases Q9 inner with
 |none=>rfl
 |some w=>
  show sR (e::rest) [(o.2.2.2.2,0+w),(0,0)]=_;simp only[sR];rw[Zh,zE c,cN,zG];cases At w o.2.2.2.2 with
  |none=>rfl
  |some b=>
   simp only[zG];rw[GB h];cases Q9 rest with
   |none=>rfl
   |some m=>
    show O [((0:Int),0+b+m)]=O [((0:Int),0+(b+m))];rw[cQ]
def UG {k:Int}(h:0<k/\k<7): ∃x,jg k=O (Za,x):=by
 have:k=1∨k=2∨k=3∨k=4∨k=5∨k=6:=by omega
 rcases this with rfl|rfl|rfl|rfl|rfl|rfl<;>exact⟨_,rfl⟩
def Ja (t:Int):Int:=if 65536<t then 65537 else t
def W9 (w v:Int):Int:=if Ja w=0 then 0 else if v=0 then 0 else if 65536<v then 65537 else if 65536<Ja w*v then 65537 else Ja w*v
def Lz {b:Int}(o:0<=w)(u:0<=v)(h:At w v=O b):W9 w v=b/\w<=65536:=by
 unfold At at h;unfold W9;split at h
 .rename_i c;cases h;subst c;exact⟨by rw[zE (show Ja 0=0 from rfl)],V1⟩
 split at h
 .cases h
 split at h
 .cases h
 rename_i c e p;injection h with h
 have j:Ja w=w:=zF e;rw[j,zF c];have s:65536 / w<=65536:=dT _ V1;have f:v<=65536 / w:=by omega
 have q:=dE f o;have r:=dV (x:=65536) (k:=w) c;refine⟨?_,V1⟩;by_cases d:v=0
 .rw[zE d,<-h,d,Int.mul_zero]
 .rw[zF d,Zh,Zh,h]
def aa0 (k:0<=w)(p:0<=v)(h:At w v=Y):65536<w∨W9 w v=65537:=by
 unfold At at h;split at h
 .cases h
 rename_i e;split at h
 .rename_i c;exact .inl c
 rename_i c;split at h
 .rename_i f;right;unfold W9;have j:Ja w=w:=zF c;have b:=Int.lt_mul_of_ediv_lt (show 0<w by omega) f;rw[dD]at b;have o:0<=65536 / w:=dU V1 k;rw[j,zF e,Zh];by_cases d:65536<v
  .rw[zE d]
  .rw[zF d,zE b]
 .cases h
def WOK (l:List bz)(m:Zd)(N:Nat):Prop:= ∀f,2*N<f->∀A seg B,l=A++seg++B->dt seg<N->bu seg 0=O 0->
 ∃r,(ca f).1 l m (dt A:Int) ((dt A+dt seg:Nat):Int)=O r/\0<=r/\r<=65537/\∀t,Q9 seg=O t->r=Ja t
section
variable {l:List bz} {m:Zd}
def Rr (hl:l.length<=2000)(K: ∀o∈l,0<=o.2.2.2.2/\o.2.2.2.2<=18446744073709551615)(A:MOK l m){N:Nat}(h:WOK l m N){f:Nat}(X:2*N+1<f)(hi:i<l.length)(J:l[i].1=7){inner rest:List bz}{e:bz}(p:l.drop (i+1)=inner++e::rest)(I:e.1=0)(B:bu inner 0=O 0)(F:inner.length<N):
  ∃r,(ca f).2 l m (i:Int)=O r/\0<=r/\r<=65537/\∀w,Q9 inner=O w->r=W9 w l[i].2.2.2.2:=by
 obtain⟨g,rfl⟩: ∃g,f=g+1:=⟨f-1,V1⟩
 have z:l.length=i+1+inner.length+1+rest.length:=by
  have:=congrArg cZ p;rw[dK]at this;simp at this;omega
 have q:=A.at' i hi J inner e rest p I B
 have b:l=l.take (i+1)++inner++e::rest:=by
  rw[cK,<-p,dO]
 have E:(l.take (i+1)).length=i+1:=by rw[eA];omega
 obtain⟨d,u,y,C,D⟩:=h g V1 (l.take (i+1)) inner (e::rest) b F B;rw[E]at u
 have s:rd m (i:Int)=O ((i+1+inner.length:Nat):Int):=by
  have j:i<m.length:=by rw[A.len];exact hi
  rw[cg j,<-q,aD j]
 have c:=K _ (cP hi);show∃r,AX ((ca g).1) ((ca g).2) l m i=O r/\_
 unfold AX;rw[s];simp only[zG];rw[ad (n:=(i:Int)+1) V1,show(i:Int)+1=((i+1:Nat):Int)by omega,u];simp only[zG,ag];rw[cg hi];simp only[zG];generalize l[i].2.2.2.2=v at*
 have k:(if d=0 then O 0 else if v=0 then O 0 else if 65536<v then O 65537 else if 65536<IntKind.i64.wrap (d*zH zI v)then O 65537 else O (zH zI (d*zH zI v)))=
   O (if d=0 then 0 else if v=0 then 0 else if 65536<v then 65537 else if 65536<d*v then 65537 else d*v):=by
  split
  .rfl
  split
  .rfl
  split
  .rfl
  rename_i M Q T;have V:=Int.mul_le_mul C (show v<=65536 by omega) c.1 V1;have W:=cW y c.1;rw[ad (n:=v) V1,Zi];split<;>rfl
 rw[k];refine⟨_,rfl, ?_, ?_,λw L=> ?_⟩
 .split
  .omega
  split
  .omega
  split
  .omega
  split
  .omega
  .exact cW y c.1
 .split
  .omega
  split
  .omega
  split
  .omega
  split<;>omega
 .rw[D w L];rfl
def Fp (hl:l.length<=2000)(E: ∀o∈l,0<=o.2.2.2.2/\o.2.2.2.2<=18446744073709551615)(X:MOK l m){N:Nat}(h:WOK l m N){g:Nat}(hg:2*N+1<g)(hi:Nat): ∀(k:Nat) (pre seg B:List bz) (n:Int) (F:Nat),l=pre++seg++B->seg.length<=k->seg.length<=N->seg.length<F->bu seg 0=O 0->hi=pre.length+seg.length->0<=n/\n<=65536->
  ∃c,am (pH ((ca g).2) l m hi) F ((pre.length:Int),n)=O c/\(c= .inl ()∨∃r,c= .inr r/\0<=r/\r<=65536)/\∀t,Q9 seg=O t->c=if 65536<n+t then .inl ()else .inr (n+t)
 |k,pre,[],B,n,0,_,_,_,z,_,_,_=>by simp at z
 |k,pre,[],B,n,F+1,d,_,_,_,M,hh,hn=>by
  refine⟨.inr n, ?_, .inr ⟨n,rfl,hn⟩,λt j=> ?_⟩
  .rw[bm];simp only[pH,ag];rw[zF (by simp at hh;omega)];rfl
  .injection j with j
   subst j;rw[dB,Zh]
 |0,pre,o::seg,B,n,F,_,hk,_,_,_,_,_=>by simp at hk
 |k+1,pre,o::seg,B,n,0,_,_,_,z,_,_,_=>by simp at z
 |k+1,pre,o::seg,B,n,F+1,d,hk,hN,z,M,hh,hn=>by
  simp only[cD]at hk hN z hh;have W:l.length=pre.length+(seg.length+1)+B.length:=by rw[d];simp;omega
  have A:pre.length<l.length:=by omega
  have s:l[pre.length]=o:=by
   have:l[pre.length]?=O o:=by
    rw[d,cK,cL (aB _),bD];rfl
   rw[aD A]at this;injection this
  have hov:0<=o.2.2.2.2/\o.2.2.2.2<=18446744073709551615:=by rw[<-s];exact E _ (cP A)
  rw[bm];simp only[pH,ag];rw[Zg,cg A,s];simp only[zG];by_cases u:o.1=7
  .
   rw[zE u]
   have hs1:bu seg 1=O 0:=by
    simp only[bu]at M;rw[Zh,Zh,zE u]at M;exact M
   obtain⟨f,e,q,h1,h2,T,h4⟩:=Dj _ seg 0 (aB _) hs1;subst h1;simp only[cM,cD]at hk hN z hh W
   have hd:l.drop (pre.length+1)=f++e::(q++B):=by
    rw[d,cK,dG,dH V1,show pre.length+1-pre.length=1 by omega];simp
   obtain⟨r9,b1,b2,b3,b4⟩:=Rr hl E X h hg A (by rw[s];exact u) hd h2 T V1;rw[s]at b4;rw[b1];simp only[zG];have hmi:=X.at' pre.length A (by rw[s];exact u) f e (q++B) hd h2 T
   have hrd:rd m (pre.length:Int)=O ((pre.length+1+f.length:Nat):Int):=by
    have D:pre.length<m.length:=by rw[X.len];exact A
    rw[cg D,<-hmi,aD D]
   rw[hrd];simp only[zG];rw[ad (n:=n+r9) V1,ad (n:=((pre.length+1+f.length:Nat):Int)+1) V1];obtain⟨C,V⟩:=O1 M u h2 T;by_cases L:65536<n+r9
   .rw[zE L];refine⟨.inl (),rfl, .inl rfl,λt j=> ?_⟩;rw[V]at j;obtain⟨w,hw,j⟩:=ah j;obtain⟨b,hb,j⟩:=ah j;have I:=Js (l:=f) (λJ y=>(E J Zw).1) T hw;obtain⟨e1,_⟩:=Lz I hov.1 hb;rw[b4 w hw,e1]at L;cases p:Q9 q with
    |none=>rw[p]at j;cases j
    |some K=>
     rw[p]at j;injection j with j
     have j:b+K=t:=j;have:=Js (l:=q) (λJ y=>(E J Zw).1) C p;rw[Zg]
   .rw[zF L];simp only[zG,bg];have hp:(pre++o::(f++[e])).length=pre.length+1+f.length+1:=by simp;omega
    obtain⟨c,Q,d2,d3⟩:=Fp hl E X h hg hi k (pre++o::(f++[e])) q B (n+r9) F Zt V1 V1 V1 C (by rw[hp];omega) V1;rw[hp]at Q;refine⟨c,by rw[show((pre.length+1+f.length:Nat):Int)+1=((pre.length+1+f.length+1:Nat):Int)by omega];exact Q,d2,λt j=> ?_⟩;rw[V]at j;obtain⟨w,hw,j⟩:=ah j;obtain⟨b,hb,j⟩:=ah j;have I:=Js (l:=f) (λJ y=>(E J Zw).1) T hw;obtain⟨e1,_⟩:=Lz I hov.1 hb;have hr9:r9=b:=by rw[b4 w hw,e1]
    cases p:Q9 q with
    |none=>rw[p]at j;cases j
    |some K=>
     rw[p]at j;injection j with j
     have:=d3 K p;rw[this,<-j,hr9,cQ]
  .rw[zF u];obtain⟨C,hko,V⟩:=NN M u;obtain⟨x,hx⟩:=UG hko;rw[hx];simp only[zG,zC];rw[ad (n:=n+1) V1,ad (n:=(pre.length:Int)+1) V1];by_cases L:65536<n+1
   .rw[zE L];refine⟨.inl (),rfl, .inl rfl,λt j=> ?_⟩;rw[V]at j;cases p:Q9 seg with
    |none=>rw[p]at j;cases j
    |some K=>
     rw[p]at j;injection j with j
     have j:1+K=t:=j;have:=Js (l:=seg) (λJ y=>(E J Zw).1) C p;rw[Zg]
   .rw[zF L];simp only[zG,bg];have hp:(pre++[o]).length=pre.length+1:=by simp
    obtain⟨c,Q,d2,d3⟩:=Fp hl E X h hg hi k (pre++[o]) seg B (n+1) F Zt V1 V1 V1 C (by rw[hp];omega) V1;rw[hp]at Q;refine⟨c,Q,d2,λt j=> ?_⟩;rw[V]at j;cases p:Q9 seg with
    |none=>rw[p]at j;cases j
    |some K=>
     rw[p]at j;injection j with j
     rw[d3 K p,<-j,cQ]
def wok (j:dt l<=2000)(p: ∀o∈l,0<=o.2.2.2.2/\o.2.2.2.2<=18446744073709551615)(k:MOK l m): ∀N,WOK l m N
 |0=>λ_ _ _ _ _ _ h=>absurd h (Nat.not_lt_zero _)
 |N+1=>λf E A seg B b D y=>by
  obtain⟨g,rfl⟩: ∃g,f=g+1:=⟨f-1,V1⟩
  show∃r,yK ((ca g).1) ((ca g).2) l m _ _=O r/\_
  unfold yK
  have z:dt seg<=2000:=by
   have:=congrArg cZ b;simp at this;omega
  have⟨c,q,s,e⟩:=Fp j p k (wok j p k N) (g:=g) V1 (dt A+dt seg) _ A seg B 0 cv b (aB _) V1 Zm y rfl V1;rw[q,zG];rcases s with rfl|⟨r,rfl,u,C⟩
  .refine⟨65537,rfl,V1,V1,λt d=> ?_⟩;have:=e t d;rw[cN]at this;unfold Ja;split at this
   .rename_i c;rw[zE c]
   .cases this
  .refine⟨r,rfl,u,V1,λt d=> ?_⟩;have:=e t d;rw[cN]at this;unfold Ja;split at this
   .cases this
   .rename_i c;injection this with this
    rw[zF c,this]
end
def R3 {δ:Type}{f:Int->Option (Int⊕δ)}(n:Nat)(z:n<9223372036854775808)(b:Nat->Prop)(c e:δ)
  (s: ∀i:Nat,i<n->¬b i->f (i:Int)=O (.inl ((i+1:Nat):Int))) (A: ∀i:Nat,i<n->b i->f (i:Int)=O (.inr c)) (y:f (n:Int)=O (.inr e)):
  (∃i,i<n/\b i/\(∀j,j<i->¬b j)/\am f cv 0=O c)∨((∀j,j<n->¬b j)/\am f cv 0=O e):=by
 by_cases h: ∃i,i<n/\b i
 .obtain⟨i,k,o⟩:=h
  have q: ∃i,i<n/\b i/\∀j,j<i->¬b j:=by
   induction i using Nat.strongRecOn with
   |ind i B=>
    by_cases d: ∃j,j<i/\b j
    .obtain⟨j,p,u⟩:=d;exact B j p V1 u
    .exact⟨i,k,o,λj h p=>d ⟨j,h,p⟩⟩
  have⟨i,k,o,p⟩:=q;exact .inl ⟨i,k,o,p,pi (n:=i) V1 (λj d=>s j V1 (p j d)) (A i k o)⟩
 .have r: ∀j,j<n->¬b j:=λj k o=>h ⟨j,k,o⟩
  exact .inr ⟨r,pi (n:=n) z (λj d=>s j d (r j d)) y⟩
def av5 {seg pre inner rest:List bz}{o e:bz}{t:Int}(f:Q9 seg=O t)(s:seg=pre++o::(inner++e::rest))(r:o.1=7)(q:e.1=0)(hi:bu inner 0=O 0):
  ∃w b,Q9 inner=O w/\At w o.2.2.2.2=O b:=by
 unfold Q9 at f;rw[s,Cc]at f;have⟨st,k,u⟩:=ah f;have⟨d,y,c⟩:=ah k;cases d with
 |nil=>simp[sR]at c
 |cons p d=>
  simp only[sR]at c;rw[zE r,Cc,GB hi]at c;cases j:Q9 inner with
  |none=>rw[j]at c;cases c
  |some w=>
   rw[j]at c;have c:sR (e::rest) ((o.2.2.2.2,0+w)::(p.1,p.2)::d)=O st:=c;simp only[sR]at c;rw[Zh,zE q,cN]at c;cases h:At w o.2.2.2.2 with
   |none=>rw[h]at c;cases c
   |some b=>exact⟨w,b,rfl,h⟩
def PL : ∀(n:Nat) (seg:List bz),dt seg<=n->bu seg 0=O 0->Q9 seg=Y->∃pre o inner e rest w,seg=pre++o::(inner++e::rest)/\o.1=7/\e.1=0/\bu inner 0=O 0/\Q9 inner=O w/\At w o.2.2.2.2=Y
 |n,[],_,_,c=>by cases c
 |0,o::s,h,_,_=>by simp at h
 |n+1,o::s,J,k,c=>by
  simp only[cD]at J;by_cases z:o.1=7
  .have C:bu s 1=O 0:=by
    simp only[bu]at k;rw[Zh,Zh,zE z]at k;exact k
   have⟨inner,e,rest,K,F,A,L⟩:=Dj _ s 0 (aB _) C;subst K;simp only[cM,cD]at J;have⟨d,B⟩:=O1 k z F A;rw[B]at c;cases D:Q9 inner with
   |none=>
    have⟨pre,q,p,f,y,w,r,u⟩:=PL n inner V1 A D;exact⟨o::pre,q,p,f,y++e::rest,w,by rw[r];simp,u⟩
   |some w=>
    rw[D]at c;simp only[zG]at c;cases I:At w o.2.2.2.2 with
    |none=>exact⟨[],o,inner,e,rest,w,rfl,z,F,A,D,I⟩
    |some b=>
     rw[I]at c;simp only[zG]at c;cases j:Q9 rest with
     |some t=>rw[j]at c;cases c
     |none=>
      have⟨pre,q,p,f,y,E,r,u⟩:=PL n rest V1 d j;exact⟨o::(inner++e::pre),q,p,f,y,E,by rw[r];simp,u⟩
  .obtain⟨d,_,B⟩:=NN k z;rw[B]at c;cases j:Q9 s with
   |some t=>rw[j]at c;cases c
   |none=>
    have⟨pre,q,p,f,y,E,r,u⟩:=PL n s V1 d j;exact⟨o::pre,q,p,f,y,E,by rw[r];rfl,u⟩
section
variable {l:List bz} {m:Zd}
def GK (J:dt l<=1500)(q: ∀o∈l,0<=o.2.2.2.2/\o.2.2.2.2<=18446744073709551615)(j:MOK l m)(D:bu l 0=O 0)(hi:i<dt l)(p:l[i].1=7):
  ∃inner e rest b w r,l.drop (i+1)=inner++e::rest/\e.1=0/\bu inner 0=O 0/\m[i]?=O r/\r=((i+1+dt inner:Nat):Int)/\vR l m (i:Int)=O b/\ni l m ((i+1:Nat):Int) r=O w/\0<=b/\0<=w/\
   ∀t,Q9 inner=O t->b=W9 t l[i].2.2.2.2/\w=Ja t:=by
 have⟨inner,e,rest,h,k,c⟩:=Rq D hi p
 have s:dt l=i+1+dt inner+1+dt rest:=by
  have:=congrArg cZ h;rw[dK]at this;simp at this;omega
 have d:l=l.take (i+1)++inner++e::rest:=by
  rw[cK,<-h,dO]
 have C:dt (l.take (i+1))=i+1:=by rw[eA];omega
 have⟨b,z,A,I,B⟩:=Rr V1 q j (wok V1 q j 1501) (f:=4000) V1 hi p h k c V1;have⟨w,y,E,K,F⟩:=wok V1 q j 1501 4000 V1 (l.take (i+1)) inner (e::rest) d V1 c;rw[C]at y;exact⟨inner,e,rest,b,w,_,h,k,c,j.at' i hi p inner e rest h k c,rfl,z,y,A,E,λt u=>⟨B t u,F t u⟩⟩
def UJ (X:dt l<=1500)(y: ∀o∈l,0<=o.2.2.2.2/\o.2.2.2.2<=18446744073709551615)(F:MOK l m)(N:bu l 0=O 0):
  am (jF l (0,m)) cv 0=O (match Q9 l with|some _=> .inr ()|none=> .inl ()):=by
 have I:=R3 (f:=jF l (0,m)) (dt l) V1
  (λi=> ∃hi:i<dt l,l[i].1=7/\∃b w A,m[i]?=O A/\vR l m (i:Int)=O b/\ni l m ((i+1:Nat):Int) A=O w/\(65536<b∨65536<w)) (.inl ()) (.inr ())
  (λi hi hn=>by
   unfold jF;simp only[ag];rw[Zg,cg hi,zG];by_cases k:l[i].1=7
   .obtain⟨c,e,j,b,w,A,M,q2,q3,r,q5,u,D,q8⟩:=GK X y F N hi k;rw[zE k,u,zG,zF (λh=>hn ⟨hi,k,b,w,A,r,u,D, .inl h⟩),br (show i<(dt m) by rw[F.len];exact hi),zG,r,zG,ad (n:=(i:Int)+1) V1,show(i:Int)+1=((i+1:Nat):Int)by omega,D,zG,zF (λh=>hn ⟨hi,k,b,w,A,r,u,D, .inr h⟩)]
   .rw[zF k,ad (n:=(i:Int)+1) V1]
    rfl)
  (λi _ hst=>by
   have⟨hi,k,b,w,A,r,u,D,q8⟩:=hst;unfold jF;simp only[ag];rw[Zg,cg hi,zG,zE k,u,zG];by_cases hb:65536<b
   .rw[zE hb]
   .rw[zF hb,br (show i<(dt m) by rw[F.len];exact hi),zG,r,zG,ad (n:=(i:Int)+1) V1,show(i:Int)+1=((i+1:Nat):Int)by omega,D,zG]
    rw[Zg])
  (by
   unfold jF;simp only[ag]
   rw[Zh])
 cases hq:Q9 l with
 |some t=>
  rcases I with⟨i,h1,⟨hi,k,b,w,A,r,u,D,q8⟩,_⟩|⟨_,h⟩
  .exfalso;have⟨c,e,j,b',w',J,p1,p2,T,E,p5,K,L,p8,p9,C⟩:=GK X y F N hi k
   have d:l=l.take i++l[i]::(c++e::j):=by
    rw[<-p1,cT hi,dO]
   have⟨w0,b0,g1,g2⟩:=av5 hq d k p2 T;have⟨V,W⟩:=C w0 g1;have q: ∀B∈c,0<=B.2.2.2.2:=λB z=>(y B (by rw[d];simp[z])).1
   have s:=Js q T g1;have⟨x1,x2⟩:=Lz s (y _ (cP hi)).1 g2;have⟨x3,x4⟩:=Hy s (y _ (cP hi)).1 g2;rw[r]at E;injection E with E
   rw[u]at K;injection K with K
   rw[<-E,D]at L;injection L with L
   have hs9:Ja w0=w0:=zF V1;rw[hs9]at W;omega
  .exact h
 |none=>
  rcases I with⟨_,_,_,_,h⟩|⟨h,_⟩
  .exact h
  .exfalso;have⟨pre,o,c,e,j,w,M,q2,q3,r,q5,u⟩:=PL _ l (aB _) N hq;have hi:dt pre<dt l:=by rw[M];simp
   have p:l[dt pre]=o:=by
    have:l[dt pre]?=O o:=by
     rw[M,cL (aB _),bD];rfl
    rw[aD hi]at this;injection this
   have k:l[dt pre].1=7:=by rw[p];exact q2
   have hd:l.drop (dt pre+1)=c++e::j:=by
    rw[M,dG,dH V1,show dt pre+1-dt pre=1 by omega];simp
   have⟨Q,e',rest',b',w',J,p1,p2,T,E,p5,K,L,p8,p9,C⟩:=GK X y F N hi k;have:=yr (hd.symm.trans p1) r T q3 p2;subst this;have⟨V,W⟩:=C w q5;have q: ∀B∈c,0<=B.2.2.2.2:=λB z=>(y B (by rw[M];simp[z])).1
   have s:=Js q r q5;rw[p]at V;have hov:0<=o.2.2.2.2:=by rw[<-p];exact(y _ (cP hi)).1
   refine h _ hi ⟨hi,k,b',w',J,E,K,L, ?_⟩;rcases aa0 s hov u with x|x
   .right;rw[W];unfold Ja;rw[zE x];omega
   .left;rw[V,x];omega
def Df (p:dt l<=1500)(h: ∀o∈l,0<=o.2.2.2.2/\o.2.2.2.2<=18446744073709551615):nh l=O (di l):=by
 unfold nh di;rcases SG (l:=l) V1 with⟨b,m,f,d⟩|⟨b,f⟩
 .rw[f,zE b,zG,zA V2,zD,UJ p h d b];cases k:Q9 l with
  |none=>rfl
  |some t=>
   have s:=Js (λo q=>(h o q).1) b k;simp only[zG,bg];have⟨w,j,u,y,r⟩:=wok V1 h d 1501 4000 V1 [] l [] V2 V1 b
   have j:ni l m 0 (dt l:Int)=O w:=by
    rw[<-j];show _=(ca 4000).1 l m 0 ((0+dt l:Nat):Int);rw[cS];rfl
   rw[j];simp only[zG,ag];have e:=r t k;unfold Ja at e;by_cases c:65536<t
   .rw[zE c]at e;rw[zE c,Zg]
   .rw[zF c]at e;rw[zF c,Zh,e]
 .rw[f,zF b];rfl
end
def yz {α δ:Type}{f:Int->Option (Int⊕δ)}{l:List α}(p:α->Bool)(c:Nat->δ)(e:δ)(C:dt l<1000000)
  (q: ∀i,(hi:i<dt l)->f (i:Int)=O (if p l[i]then .inr (c i)else .inl ((i+1:Nat):Int))) (y:f (dt l:Int)=O (.inr e)):
  (l.any p=Za/\∃i:Nat,am f cv 0=O (c i))∨(l.any p=Zb/\am f cv 0=O e):=by
 by_cases h: ∃i,∃hi:i<dt l,p l[i]=Za
 .left
  have o: ∃i,(∃hi:i<dt l,p l[i]=Za)/\∀j,j<i->¬∃b:j<dt l,p l[j]=Za:=by
   have⟨i,hi⟩:=h;induction i using Nat.strongRecOn with
   |ind i B=>
    by_cases b: ∃j,j<i/\∃b:j<dt l,p l[j]=Za
    .obtain⟨j,k,u⟩:=b;exact B j k u
    .exact⟨i,hi,λj h k=>b ⟨j,h,k⟩⟩
  have⟨i,⟨hi,r⟩,s⟩:=o;refine⟨List.any_eq_true.2 ⟨l[i],cP hi,r⟩,i,pi (n:=i) V1 (λj b=> ?_) ?_⟩
  .rw[q j V1,zF (λd=>s j b ⟨V1,d⟩)]
  .rw[q i hi,zE r]
 .right;refine⟨?_,pi (n:=dt l) V1 (λj b=> ?_) y⟩
  .rw[Bool.eq_false_iff];intro z;have⟨x,A,d⟩:=List.any_eq_true.1 z;obtain⟨i,hi,rfl⟩:=List.getElem_of_mem A;exact h ⟨i,hi,d⟩
  .rw[q j b,zF (λd=>h ⟨j,b,d⟩)]
def ba (k:Int):Bool×Bool×Bool×Bool:=if k=1∨k=2∨k=3 then(Za,Za,Za,Zb)else if k=4∨k=6 then(Za,Za,Zb,Zb)else if k=5 then(Za,Zb,Zb,Za)else if k=7 then(Zb,Zb,Zb,Za)else(Zb,Zb,Zb,Zb)
def C8 (k:Int):k=1∨k=2∨k=3∨k=4∨k=5∨k=6∨k=7∨(¬k=1/\¬k=2/\¬k=3/\¬k=4/\¬k=5/\¬k=6/\¬k=7):=by omega
def I4 (k:Int):qb k=O (ba k):=by
 rcases C8 k with rfl|rfl|rfl|rfl|rfl|rfl|rfl|⟨b,c,d,e,f,h,j⟩
 any_goals rfl
 simp[qb,ba,b,c,d,e,f,h,j]
def wb (k:Int):jg k=O (ba k):=by
 rcases C8 k with rfl|rfl|rfl|rfl|rfl|rfl|rfl|⟨b,c,d,e,f,j,o⟩
 any_goals rfl
 by_cases h:1<=k
 .simp[jg,ba,b,c,d,e,f,j,o,h,show¬k<=3 by omega,bg]
 .simp[jg,ba,b,c,d,e,f,j,o,h,bg]
def Ca (n:Int)(q:Bool):Bool:=if q then Zc (0<=n/\n<=2147483647)else Zc (n=0)
def Kl (n:Int)(q:Bool):jE n q=O (Ca n q):=by
 unfold jE Ca;cases q
 .rfl
 .by_cases h:0<=n<;>simp[h]
def kB (o:bz):Bool:=Zc (0<=o.1/\o.1<8)&&(Ca o.2.1 (ba o.1).1&&(Ca o.2.2.1 (ba o.1).2.1&&(Ca o.2.2.2.1 (ba o.1).2.2.1&&((ba o.1).2.2.2||Zc (o.2.2.2.2=0)))))
def Qo (o:bz):tH o.1 o.2.1 o.2.2.1 o.2.2.2.1 o.2.2.2.2=O (kB o):=by
 unfold tH yO kB
 have j:(cond (Zc (0<=o.1)) (O (Zc (o.1<8))) (O Zb))=O (Zc (0<=o.1/\o.1<8)):=by
  by_cases h:0<=o.1<;>simp[h]
 rw[I4,j];simp only[zG,Kl];generalize Zc (0<=o.1/\o.1<8)=b;generalize Ca o.2.1 (ba o.1).1=c;generalize Ca o.2.2.1 (ba o.1).2.1=d;generalize Ca o.2.2.2.1 (ba o.1).2.2.1=e;generalize (ba o.1).2.2.2=f;cases b<;>cases c<;>cases d<;>cases e<;>cases f<;>rfl
def JK (o:bz):rM o.1 o.2.1 o.2.2.1 o.2.2.2.1 o.2.2.2.2=O (kB o):=by
 unfold rM;simp only[ag];by_cases y:o.1<0
 .rw[zE y];unfold kB;rw[zA (show¬(0<=o.1/\o.1<8)by omega)];rfl
 rw[zF y];by_cases z:7<o.1
 .rw[zE z];unfold kB;rw[zA (show¬(0<=o.1/\o.1<8)by omega)];rfl
 rw[zF z,wb,zG]
 have c:=yz (f:=qK o.2.1 o.2.2.1 o.2.2.2.1 (ba o.1)) (l:=[(o.2.1,(ba o.1).1),(o.2.2.1,(ba o.1).2.1),(o.2.2.2.1,(ba o.1).2.2.1)]) (λp=> !Ca p.1 p.2) (λ_=> .inl Zb) (.inr ()) V2
  (λi hi=>by
   unfold qK;have hi:i<3:=hi;rw[ag,Zg,br (show i<3 from hi),br (show i<4 by omega)];simp only[zG,ag]
   have A:dI [o.2.1,o.2.2.1,o.2.2.2.1] i 0=([(o.2.1,(ba o.1).1),(o.2.2.1,(ba o.1).2.1),(o.2.2.2.1,(ba o.1).2.2.1)][i]).1:=by
    rcases(show i=0∨i=1∨i=2 by omega)with rfl|rfl|rfl<;>rfl
   have B:dI [(ba o.1).1,(ba o.1).2.1,(ba o.1).2.2.1,(ba o.1).2.2.2] i Zb=([(o.2.1,(ba o.1).1),(o.2.2.1,(ba o.1).2.1),(o.2.2.2.1,(ba o.1).2.2.1)][i]).2:=by
    rcases(show i=0∨i=1∨i=2 by omega)with rfl|rfl|rfl<;>rfl
   rw[A,B,ad (n:=(i:Int)+1) V1,show(i:Int)+1=((i+1:Nat):Int)by omega];generalize [(o.2.1,(ba o.1).1),(o.2.2.1,(ba o.1).2.1),(o.2.2.2.1,(ba o.1).2.2.1)][i]=x;have⟨n,q⟩:=x;simp only[Ca];by_cases r:n<0
   .rw[zE r,zE];cases q
    .simp;omega
    .simp;omega
   rw[zF r];by_cases s:2147483647<n
   .rw[zE s,zE];cases q
    .simp;omega
    .simp;omega
   rw[zF s];cases q with
   |true=>
    rw[zB (show 0<=n/\n<=2147483647 by omega)];rfl
   |false=>
    by_cases u:n=0
    .subst u;rfl
    .simp[u])
  (by
   unfold qK
   rw[ag,zF V2])
 unfold kB;rw[zB (show 0<=o.1/\o.1<8 by omega)]
 have b:([(o.2.1,(ba o.1).1),(o.2.2.1,(ba o.1).2.1),(o.2.2.2.1,(ba o.1).2.2.1)].any λp=> !Ca p.1 p.2)= !(Ca o.2.1 (ba o.1).1&&(Ca o.2.2.1 (ba o.1).2.1&&Ca o.2.2.2.1 (ba o.1).2.2.1)):=by
  simp[List.any,Bool.not_and]
 rw[b]at c;generalize Ca o.2.1 (ba o.1).1=d at*;generalize Ca o.2.2.1 (ba o.1).2.1=e at*;generalize Ca o.2.2.2.1 (ba o.1).2.2.1=j at*;rcases c with⟨h,_,k⟩|⟨h,k⟩
 .rw[k];cases d<;>cases e<;>cases j<;>first|rfl|cases h
 .rw[k]
  have:d=Za/\e=Za/\j=Za:=by
   cases d<;>cases e<;>cases j<;>first|exact⟨rfl,rfl,rfl⟩|cases h
  obtain⟨rfl,rfl,rfl⟩:=this;simp only[zG,bg];cases(ba o.1).2.2.2<;>rfl
def CX (b:Bool)(e:Int):gO b e=O (if b then e else 0):=by cases b<;>rfl
def zM (l:List bz):Bool:=Zc (bu l 0=O 0)&& !(l.any λo=> !kB o)
def GN {R:Int}{l:List bz}(e:dt l<=4096):gX R l=O (if zM l then 0 else 6):=by
 unfold gX;have⟨m,d⟩:=zR (l:=l) V1;rw[d];simp only[zG,CX];rw[Ze,zD,ag];unfold zM;by_cases b:bu l 0=O 0
 .rw[zE b,zF V2,zB b];unfold gN iE
  rcases yz (f:=fc l) (l:=l) (λo=> !kB o) (λi=> .inl (i:Int)) (.inr ()) V1 (λi hi=>by
   unfold fc;rw[ag,Zg,cg hi,zG];unfold nP;rw[Qo,ad (n:=(i:Int)+1) V1,zG]
   cases kB l[i]<;>rfl) (by
   unfold fc
   rw[ag,Zh])with⟨h,i,c⟩|⟨h,c⟩
  .rw[c,h];simp only[zG,bg];rw[Zf];rfl
  .rw[c,h];rfl
 .rw[zF b,zE V2,zA b];rfl
def UL {R:Int}{l:List bz}(c:dt l<=1500):xW R l=O (zM l):=by
 unfold xW zM;rw[Ze,zD,G3 V1,zG];cases Zc (bu l 0=O 0)with
 |false=>rfl
 |true=>
  rcases yz (f:=sr l) (l:=l) (λo=> !kB o) (λi=> .inl Zb) (.inr ()) V1 (λi hi=>by
   unfold sr;rw[ag,Zg,cg hi,zG,JK,ad (n:=(i:Int)+1) V1,zG]
   cases kB l[i]<;>rfl) (by
   unfold sr
   rw[ag,Zh])with⟨h,i,b⟩|⟨h,b⟩
  .rw[b,h];rfl
  .rw[b,h];rfl
def Ql (R:Int)(o:bz):Bool:=((ba o.1).1&&Zc (R<=o.2.1))||((ba o.1).2.1&&Zc (R<=o.2.2.1))||((ba o.1).2.2.1&&Zc (R<=o.2.2.2.1))
def H5 (R:Int)(l:List bz):Bool:=Zc (1<=R/\R<=64)&& !(l.any (Ql R))
def MD (x y:Int):bx [x,y]=O [y,x]:=by kernel_rfl
def SL (x:Int):bx [x]=O [x]:=by kernel_rfl
def MC :bx []=O []:=by kernel_rfl
def Qn (o:bz):tG o.1 o.2.1 o.2.2.1 o.2.2.2.1 o.2.2.2.2=O (if(ba o.1).2.1 then(if(ba o.1).2.2.1 then [o.2.2.1,o.2.2.2.1]else [o.2.2.1])else []):=by
 have⟨k,d,a,b,v⟩:=o;simp only;rcases C8 k with rfl|rfl|rfl|rfl|rfl|rfl|rfl|⟨c,e,f,h,p,j,q⟩
 .exact(show _=(bx [b,a]).bind _ from rfl).trans (by rw[MD];rfl)
 .exact(show _=(bx [b,a]).bind _ from rfl).trans (by rw[MD];rfl)
 .exact(show _=(bx [b,a]).bind _ from rfl).trans (by rw[MD];rfl)
 .exact(show _=(bx [a]).bind _ from rfl).trans (by rw[SL];rfl)
 .exact(show _=(bx []).bind _ from rfl).trans (by rw[MC];rfl)
 .exact(show _=(bx [a]).bind _ from rfl).trans (by rw[SL];rfl)
 .exact(show _=(bx []).bind _ from rfl).trans (by rw[MC];rfl)
 .unfold tG;simp only[zA c,zA e,zA f,zA h,zA j,zD,zG,bg,MC];simp[ba,c,e,f,h,p,j,q]
def PR (l:Zd)(R:Int)(p:List bz)(c:dt l<2000):fi l R p=O (l.any λn=>Zc (R<=n)):=by
 unfold fi kS
 rcases yz (f:=gB l R p) (l:=l) (λn=>Zc (R<=n)) (λi=> .inl (i:Int)) (.inr ()) V1 (λi hi=>by
  unfold gB;rw[ag,Zg,cg hi,zG];unfold jk;rw[ad (n:=(i:Int)+1) V1,zG]
  cases Zc (R<=l[i])<;>rfl) (by
  unfold gB
  rw[ag,Zh])with⟨h,i,b⟩|⟨h,b⟩
 .rw[b,h];simp only[zG,bg];rw[Zf]
 .rw[b,h];rfl
def SJ (o:bz)(R:Int)(p:List bz):im o.1 o.2.1 o.2.2.1 o.2.2.2.1 o.2.2.2.2 R p=O (Ql R o):=by
 unfold im jN;rw[Qn,I4];unfold Ql;simp only[zG];have⟨k,d,a,b,v⟩:=o;simp only
 have s:(ba k).2.2.1=Za->(ba k).2.1=Za:=by
  unfold ba;split
  .intro _;rfl
  split
  .intro _;rfl
  split
  .intro h;cases h
  split<;>intro h<;>cases h
 have u:(ba k).2.1=Za->(ba k).1=Za:=by
  unfold ba;split
  .intro _;rfl
  split
  .intro _;rfl
  split
  .intro h;cases h
  split<;>intro h<;>cases h
 generalize (ba k).1=f at*;generalize (ba k).2.1=j at*;generalize (ba k).2.2.1=q at*
 have c: ∀l:Zd,dt l<2000->∀r,(l.any λn=>Zc (R<=n))=r->(ek (fi l R p) λe=>O e)=O r:=by
  intro l A r B;rw[PR l R p A,B];rfl
 cases f<;>cases j<;>cases q<;>first
  |(cases u rfl)
  |(cases s rfl)
  |skip
 .refine c [] V2 _ ?_;generalize Zc (R<=d)=x;generalize Zc (R<=a)=y;generalize Zc (R<=b)=z;cases x<;>cases y<;>cases z<;>rfl
 .refine c [d] V2 _ ?_;simp only[dX,dY];generalize Zc (R<=d)=x;generalize Zc (R<=a)=y;generalize Zc (R<=b)=z;cases x<;>cases y<;>cases z<;>rfl
 .refine c [a,d] V2 _ ?_;simp only[dX,dY];generalize Zc (R<=d)=x;generalize Zc (R<=a)=y;generalize Zc (R<=b)=z;cases x<;>cases y<;>cases z<;>rfl
 .refine c [a,b,d] V2 _ ?_;simp only[dX,dY];generalize Zc (R<=d)=x;generalize Zc (R<=a)=y;generalize Zc (R<=b)=z;cases x<;>cases y<;>cases z<;>rfl
def xo {R:Int}{l:List bz}(e:dt l<=4096):fj R l=O (if H5 R l then 0 else 7):=by
 unfold fj H5;simp only[CX,zG,ag];by_cases c:R<1
 .rw[zE c,zA (show¬(1<=R/\R<=64)by omega)];rfl
 rw[zF c];by_cases d:64<R
 .rw[zE d,zA (show¬(1<=R/\R<=64)by omega)];rfl
 rw[zF d,zB (show 1<=R/\R<=64 by omega)];unfold gv gU
 rcases yz (f:=eU l R l) (l:=l) (Ql R) (λi=> .inl (i:Int)) (.inr ()) V1 (λi hi=>by
  unfold eU;rw[ag,Zg,cg hi,zG,SJ,ad (n:=(i:Int)+1) V1,zG]
  cases Ql R l[i]<;>rfl) (by
  unfold eU
  rw[ag,Zh])with⟨h,i,b⟩|⟨h,b⟩
 .rw[b,h];simp only[zG,bg];rw[Zf];rfl
 .rw[b,h];rfl
def Ko {R:Int}{l:List bz}(k:dt l<=1500):pN R l=O (H5 R l):=by
 unfold pN H5;simp only[ag];by_cases c:R<1
 .rw[zE c,zA (show¬(1<=R/\R<=64)by omega)];rfl
 rw[zF c];by_cases d:64<R
 .rw[zE d,zA (show¬(1<=R/\R<=64)by omega)];rfl
 rw[zF d,zB (show 1<=R/\R<=64 by omega)]
 rcases yz (f:=me R l) (l:=l) (Ql R) (λi=> .inl Zb) (.inr ()) V1 (λi hi=>by
  unfold me;rw[ag,Zg,cg hi,zG,wb,ad (n:=(i:Int)+1) V1,zG];unfold Ql;generalize l[i]=o;generalize Zc (R<=o.2.1)=x;generalize Zc (R<=o.2.2.1)=y;generalize Zc (R<=o.2.2.2.1)=z;generalize (ba o.1).1=e;generalize (ba o.1).2.1=j;generalize (ba o.1).2.2.1=b3
  cases e<;>cases j<;>cases b3<;>cases x<;>cases y<;>cases z<;>rfl) (by
  unfold me
  rw[ag,Zh])with⟨h,i,b⟩|⟨h,b⟩
 .rw[b,h];rfl
 .rw[b,h];rfl
def hmax :List bz->Nat->Nat->Nat
 |[],_,m=>m
 |o::r,d,m=>if o.1=7 then hmax r (d+1) (max m (d+1))else if o.1=0 then hmax r (d-1) m else hmax r d m
def aI9 (l:List bz)(s:Int×Bool×Int×Zd):Prop:=
 ∃(i m:Nat) (st:Zd),i<=dt l/\s=((i:Int),Za,(m:Int),st)/\(dt st)<=i/\m<=i/\bu (l.drop i) (dt st)=bu l 0/\hmax (l.drop i) (dt st) m=hmax l 0 0
def Xh {l:List bz}(A:dt l<=100000)(s:Int×Bool×Int×Zd)(h:aI9 l s):
  (∃b,na l s=O (.inl b)/\aI9 l b/\(dt l)-eL b.1<dt l-eL s.1)∨∃c,na l s=O (.inr c)/\((c.1=Zb/\bu l 0=Y)∨(c.1=Za/\bu l 0=O (dt c.2.2)/\c.2.1=(hmax l 0 0:Int))):=by
 obtain⟨i,m,st,hi,rfl,z,y,d,e⟩:=h;by_cases c:i<dt l
 .have j:l.drop i=l[i]::l.drop (i+1):=(cT c).symm;rw[j]at d e;simp only[na];rw[zB (show(i:Int)<(dt l:Int)by omega),zC,cg c,zG];generalize B:l[i]=x at*;simp only[bu]at d;simp only[hmax]at e;by_cases r:x.1<0
  .rw[zE (.inl r)]at d;rw[zB r];simp only[zC,zG,gi];exact .inr ⟨_,rfl, .inl ⟨rfl,d.symm⟩⟩
  rw[zA r,zD];by_cases f:7<x.1
  .rw[zE (.inr f)]at d;rw[zB f];simp only[zC,zG,cb,gi];exact .inr ⟨_,rfl, .inl ⟨rfl,d.symm⟩⟩
  rw[zA f,zD];rw[Zh]at d;by_cases o:x.1=0
  .rw[zE o]at d;rw[Zh,zE o]at e;rw[zB o];simp only[zC,zG,cb];by_cases p:dt st=0
   .rw[zE p]at d;rw[zB (show(dt st:Int)=0 by omega)];simp only[zC,zG,gi];exact .inr ⟨_,rfl, .inl ⟨rfl,d.symm⟩⟩
   .rw[zF p]at d;rw[zA (show¬(dt st:Int)=0 by omega),zD,ad (n:=(dt st:Int)-1) V1,Zl,cf];simp only[zG,cb];rw[zA (show¬x.1=7 by omega)];simp only[zD];rw[ad (n:=(i:Int)+1) V1]
    have k:dt (st.take (eL ((dt st:Int)-1)-0))=dt st-1:=by
     rw[eA];omega
    refine .inl ⟨_,rfl,⟨i+1,m,_,c,rfl,by rw[k];omega,V1,by rw[k];exact d,by rw[k];exact e⟩,by simp;omega⟩
  .rw[zF o]at d;have u:Zc (x.1=0)=Zb:=zA o;rw[u];simp only[zD,zG,cb];by_cases f:x.1=7
   .rw[zE f]at d e;rw[zB f];simp only[zC];rw[bn V1 V1,ad (n:=(i:Int)+1) V1,ad (n:=(dt st:Int)+1) V1];refine .inl ⟨_,rfl,⟨i+1,max m (dt st+1),st++[(i:Int)],c, ?_,by simp;omega,V1,by rw[cM];exact d,by rw[cM];exact e⟩,by simp;omega⟩;rw[show((max m (dt st+1):Nat):Int)=max (m:Int) ((dt st:Int)+1)by omega];rfl
   .rw[zF f]at d e;rw[zF o]at e;rw[zA f];simp only[zD];rw[ad (n:=(i:Int)+1) V1];exact .inl ⟨_,rfl,⟨i+1,m,st,c,rfl,V1,V1,d,e⟩,by simp;omega⟩
 .have q:i=dt l:=by omega
  subst q;rw[cX]at d e;simp only[na];rw[zA (show¬(dt l:Int)<(dt l:Int)by omega),zD];have e:m=hmax l 0 0:=e;exact .inr ⟨_,rfl, .inr ⟨rfl,d.symm,by rw[<-e]⟩⟩
def LJ (l:List bz):Int×Int:=if bu l 0=O 0 then((hmax l 0 0:Int),0)else(0,6)
def XO {l:List bz}(p:dt l<=100000):Ax l=O (LJ l):=by
 unfold Ax LJ
 obtain⟨c,o,h⟩:=qC (f:=na l) (a:=((0:Int),Za,(0:Int),([]:Zd))) (aI9 l) (λs=>dt l-eL s.1) (λc=>(c.1=Zb/\bu l 0=Y)∨(c.1=Za/\bu l 0=O (dt c.2.2)/\c.2.1=(hmax l 0 0:Int)))
  ⟨0,0,[],cU _,rfl,aB _,aB _,rfl,rfl⟩ V3 (λs q=>Xh p s q)
 rw[o,zG];rcases h with⟨b,d⟩|⟨b,d,k⟩
 .rw[b,d];rfl
 .rw[b,d,zC];by_cases j:dt c.2.2=0
  .rw[zB (show(dt c.2.2:Int)=0 by omega),zE (by rw[j]),k];rfl
  .rw[zA (show¬(dt c.2.2:Int)=0 by omega),zF ZW];rfl
def Hc (l:List bz)(i:Nat):Nat:=(bu (l.take i) 0).getD 0
def RE {l:List bz}(c:bu l 0=O 0)(hi:i<=dt l):bu (l.take i) 0=O (Hc l i):=by
 have⟨d,b,_⟩:=Ln c hi;unfold Hc;rw[b];rfl
def LL {l:List bz}(e:bu l 0=O 0)(hi:i<dt l):(l[i].1=7/\Hc l (i+1)=Hc l i+1)∨(l[i].1=0/\0<Hc l i/\Hc l (i+1)=Hc l i-1)∨(l[i].1≠7/\l[i].1≠0/\Hc l (i+1)=Hc l i):=by
 have b:=RE e (i:=i+1) V1;rw[eE hi,sd,RE e V1]at b;have b:bu [l[i]] (Hc l i)=O (Hc l (i+1)):=b;simp only[bu]at b;split at b
 .cases b
 split at b
 .rename_i f c;split at b
  .cases b
  .injection b with b
   exact .inr (.inl ⟨c,V1,b.symm⟩)
 rename_i f c;split at b
 .rename_i d;injection b with b
  exact .inl ⟨d,b.symm⟩
 .rename_i d;injection b with b
  exact .inr (.inr ⟨d,c,b.symm⟩)
def ab4 {l:List bz}(c:bu l 0=O 0): ∀i,i<=dt l->Hc l i<=i
 |0,_=>aB _
 |i+1,h=>by
  have:=ab4 c i V1;rcases LL c (i:=i) V1 with⟨_,b⟩|⟨_,_,b⟩|⟨_,_,b⟩<;>omega
def Qu {l:List bz}(k:l.length<=100000)(h:bu l 0=O 0){n:Nat}(o:n<=l.length):tL l (n:Int)=O (Hc l n:Int):=by
 unfold tL;have e:am (md l (n:Int)) cv (0,((Hc l 0:Nat):Int))=O ((Hc l n:Nat):Int):=eZ (n:=n) (λi=>((Hc l i:Nat):Int)) (c:=((Hc l n:Nat):Int)) V1 (λi hi=> ?_) ?_
 .show((am (md l (n:Int)) cv (0,((Hc l 0:Nat):Int))).bind _)=_;rw[e];rfl
 .unfold md;simp only[ag];rw[Zg,cg (show i<l.length by omega)];simp only[zG];have j:=ab4 h i V1;rw[ad (n:=(i:Int)+1) V1];rcases LL h (i:=i) V1 with⟨b,d⟩|⟨b,f,d⟩|⟨b,f,d⟩
  .rw[zE b,Zh,ad (n:=((Hc l i:Nat):Int)+1) V1,d];rfl
  .rw[Zh,zE b,ad (n:=((Hc l i:Nat):Int)-1) V1,d,show((Hc l i-1:Nat):Int)=(Hc l i:Int)-1 by omega];rfl
  .rw[zF b,zF f,d];rfl
 .unfold md;simp only[ag];rw[Zh]
def BV (l:List bz):Nat->Nat
 |0=>0
 |i+1=>max (BV l i) (Hc l i)
def Og {l:List bz}(j:bu l 0=O 0): ∀k i,i+k=dt l->hmax (l.drop i) (Hc l i) (BV l (i+1))=BV l (dt l+1)
 |0,i,h=>by
  have:i=dt l:=by omega
  subst this;rw[cX];rfl
 |k+1,i,h=>by
  rw[(cT (show i<(dt l) by omega)).symm];simp only[hmax];have d:=Og j k (i+1) V1;have e:BV l (i+1+1)=max (BV l (i+1)) (Hc l (i+1)):=rfl;have o:BV l (i+1)=max (BV l i) (Hc l i):=rfl;rcases LL j (i:=i) V1 with⟨b,c⟩|⟨b,f,c⟩|⟨b,f,c⟩
  .rw[zE b,<-c,<-e];exact d
  .rw[Zh,zE b,<-c,show BV l (i+1)=BV l (i+1+1)by rw[e];omega];exact d
  .rw[zF b,zF f];rw[c,show BV l (i+1+1)=BV l (i+1)by rw[e];omega]at d;exact d
def UI {l:List bz}(e:dt l<=100000):xU l=O (LJ l):=by
 unfold xU LJ;rw[G3 e,zG];by_cases b:bu l 0=O 0
 .rw[zB b,zE b];simp only[dA,zD];have d:am (oR l) cv (0,((BV l 0:Nat):Int))=O ((BV l (dt l+1):Nat):Int):=eZ (n:=dt l+1) (λi=>((BV l i:Nat):Int)) (c:=((BV l (dt l+1):Nat):Int)) V1 (λi hi=> ?_) ?_
  .show((am (oR l) cv (0,((BV l 0:Nat):Int))).bind _)=_;rw[d];have h:=Og b (dt l) 0 V1;have f:Hc l 0=0:=rfl;have j:BV l (0+1)=0:=rfl;rw[f,j,List.drop_zero]at h;rw[h];rfl
  .unfold oR;simp only[ag];rw[Zg,Qu e b V1,zG,ad (n:=(i:Int)+1) V1];show _=O (Sum.inl (((i+1:Nat):Int),((max (BV l i) (Hc l i):Nat):Int)));rw[show((max (BV l i) (Hc l i):Nat):Int)=max (BV l i:Int) (Hc l i:Int)by omega];rfl
  .unfold oR;simp only[ag];rw[Zh]
 .rw[zA b,zF b];rfl
structure OpsOk (l:List bz):Prop where
 len:dt l<=4096
 v: ∀o∈l,0<=o.2.2.2.2/\o.2.2.2.2<=18446744073709551615
def IY (l:List bz):Int:=if zM l then 0 else 6
def IZ (R:Int)(l:List bz):Int:=if H5 R l then 0 else 7
def I0 (l:List bz):Int:=if 8<(LJ l).1 then 8 else 0
def I1 (l:List bz):Int:=(di l).2
def Db (R:Int)(l:List bz):Int:=if IY l≠0 then IY l else if IZ R l≠0 then IZ R l else if I0 l≠0 then I0 l else I1 l
def kw (R:Int)(l:List bz)(Q:Int)(k:List bz):Int:=if IY l≠0 then IY l else if IY k≠0 then IY k else if IZ R l≠0 then IZ R l else if IZ Q k≠0 then IZ Q k else if I0 l≠0 then I0 l else if I0 k≠0 then I0 k else if I1 l≠0 then I1 l else I1 k
def EO {R:Int}{l:List bz}(h:OpsOk l):gF R l=O (I0 l):=by
 unfold gF I0;have:=h.len;rw[XO V1];simp only[zG,CX];by_cases c:8<(LJ l).1<;>simp[c]
def CY {R:Int}{l:List bz}(h:OpsOk l):gm R l=O (I1 l):=by
 unfold gm I1;have:=h.len;rw[wV V1 h.v];rfl
def Nw {R:Int}{l:List bz}(h:OpsOk l):sg R l=O (Db R l):=by
 unfold sg Db;rw[GN h.len,xo h.len,EO h,CY h];simp only[zG,ag];show(if IY l≠0 then O (IY l)else if IZ R l≠0 then O (IZ R l)else if I0 l≠0 then O (I0 l)else if I1 l≠0 then O (I1 l)else O 0)=_;split
 .rfl
 split
 .rfl
 split
 .rfl
 split
 .rfl
 .rename_i h;rw[show I1 l=0 by omega]
def TO {R Q:Int}{l k:List bz}(h:OpsOk l)(b:OpsOk k):xR R l Q k=O (kw R l Q k):=by
 unfold xR kw;rw[GN h.len,xo h.len,EO h,CY h,GN b.len,xo b.len,EO b,CY b];simp only[zG,ag];show(if IY l≠0 then O (IY l)else if IY k≠0 then O (IY k)else if IZ R l≠0 then O (IZ R l)else if IZ Q k≠0 then O (IZ Q k)else if I0 l≠0 then O (I0 l)else if I0 k≠0 then O (I0 k)else if I1 l≠0 then O (I1 l)else if I1 k≠0 then O (I1 k)else O 0)=_;split
 .rfl
 split
 .rfl
 split
 .rfl
 split
 .rfl
 split
 .rfl
 split
 .rfl
 split
 .rfl
 split
 .rfl
 .rename_i h;rw[show I1 k=0 by omega]
def VQ (R:Int)(l:List bz)(n:Nat):Int:=if n=0 then IY l else if n=1 then IZ R l else if n=2 then I0 l else I1 l
def Mx {R:Int}{l:List bz}(h:OpsOk l)(b:dt l<=1500)(n:Nat):tM R l (n:Int)=O (VQ R l n):=by
 unfold tM VQ;have:=h.len;simp only[ag];by_cases c:n=0
 .rw[Zg,zE c,UL b];unfold IY;simp only[zG];cases zM l<;>rfl
 rw[Zh,zF c];by_cases d:n=1
 .rw[Zg,zE d,Ko b];unfold IZ;simp only[zG];cases H5 R l<;>rfl
 rw[Zh,zF d];by_cases e:n=2
 .rw[Zg,zE e,UI V1];unfold I0;simp only[zG];split<;>rfl
 rw[Zh,zF e,Df b h.v];rfl
def UK {R Q:Int}{l k:List bz}(h:OpsOk l)(q:OpsOk k)(e:l.length<=1500)(f:k.length<=1500):xV R l Q k=O (kw R l Q k):=by
 have b: ∀n:Nat,n<4->lT R l Q k (n:Int)=O (if VQ R l n≠0 then .inr (.inl (VQ R l n))else if VQ Q k n≠0 then .inr (.inl (VQ Q k n))else .inl ((n+1:Nat):Int)):=by
  intro n s;unfold lT;simp only[ag];rw[Zg,Mx h e,Mx q f];simp only[zG];rw[ad (n:=(n:Int)+1) V1];split
  .rfl
  split<;>rfl
 have c:lT R l Q k 4=O (.inr (.inr ())):=rfl;unfold xV kw
 have j:am (lT R l Q k) cv 0=O (if IY l≠0 then .inl (IY l)else if IY k≠0 then .inl (IY k)else if IZ R l≠0 then .inl (IZ R l)else if IZ Q k≠0 then .inl (IZ Q k)else if I0 l≠0 then .inl (I0 l)else if I0 k≠0 then .inl (I0 k)else if I1 l≠0 then .inl (I1 l)else if I1 k≠0 then .inl (I1 k)else .inr ()):=by
  have r:cv=18446744073709551611+1+1+1+1+1:=rfl;rw[r,bm];have d:=b 0 V1;have e:=b 1 V1;have o:=b 2 V1;have p:=b 3 V1;rw[show VQ R l 0=IY l from rfl,show VQ Q k 0=IY k from rfl]at d;rw[show VQ R l 1=IZ R l from rfl,show VQ Q k 1=IZ Q k from rfl]at e;rw[show VQ R l 2=I0 l from rfl,show VQ Q k 2=I0 k from rfl]at o;rw[show VQ R l 3=I1 l from rfl,show VQ Q k 3=I1 k from rfl]at p;have d:lT R l Q k 0=_:=d;rw[d];simp only[zG];split
  .rfl
  split
  .rfl
  simp only[bg];rw[bm,e];simp only[zG];split
  .rfl
  split
  .rfl
  simp only[bg];rw[bm,o];simp only[zG];split
  .rfl
  split
  .rfl
  simp only[bg];rw[bm,p];simp only[zG];split
  .rfl
  split
  .rfl
  simp only[bg];rw[bm,show(((3+1:Nat):Int))=4 from rfl,c];rfl
 rw[j];simp only[zG];split
 .rfl
 split
 .rfl
 split
 .rfl
 split
 .rfl
 split
 .rfl
 split
 .rfl
 split
 .rfl
 split
 .rfl
 .rename_i h;rw[show I1 k=0 by omega];rfl
def at1 (a0:Int)(a1:List bz)(a2:Int)(a3:List bz)(a4 a5:Int): ∃d,tv a0 a1 a2 a3 a4 a5=O d/\qM a0 a1 a2 a3 a4 a5=O d:=by
 unfold tv qM;simp only[CX,zG,ag];by_cases b:a4<1
 .rw[zE b,zE b];exact⟨_,rfl,rfl⟩
 rw[zF b,zF b];by_cases c:64<a4
 .rw[zE c,zE c];exact⟨_,rfl,rfl⟩
 rw[zF c,zF c];by_cases e:a5<0
 .rw[zE e,zE e];exact⟨_,rfl,rfl⟩
 rw[zF e,zF e];by_cases f:64<a5
 .rw[zE f,zG,ag,zE f];exact⟨_,rfl,rfl⟩
 rw[zF f,zG,ag,zF f];by_cases h:a0<IntKind.i64.wrap (zH zI (a4+a5)+1)
 .rw[zE h,zE h];exact⟨_,rfl,rfl⟩
 rw[zF h,zF h];by_cases j:a2<IntKind.i64.wrap (a4+a5)
 .rw[zE j,zB j];exact⟨_,rfl,rfl⟩
 .rw[zF j,zA j];exact⟨_,rfl,rfl⟩
def ae7 (l:List bz):IY l=0∨IY l=6:=by unfold IY;split<;>simp
def ae8 (R:Int)(l:List bz):IZ R l=0∨IZ R l=7:=by unfold IZ;split<;>simp
def ae9 (l:List bz):I0 l=0∨I0 l=8:=by unfold I0;split<;>simp
def vk (s l x t:Int):Int:=if x<1 then 10 else if 64<x then 10 else if t<0 then 10 else if 64<t then 10 else if s<IntKind.i64.wrap (zH zI (x+t)+1)then 10 else if l<IntKind.i64.wrap (x+t)then 10 else 0
def Mw (a0:Int)(a1:List bz)(a2:Int)(a3:List bz)(a4 a5:Int):qM a0 a1 a2 a3 a4 a5=O (vk a0 a2 a4 a5):=by
 unfold qM vk;simp only[ag];split
 .rfl
 split
 .rfl
 split
 .rfl
 split
 .rfl
 split
 .rfl
 split<;>rfl
def TN (a0:Int)(a1:List bz)(a2:Int)(a3:List bz)(a4 a5:Int):tv a0 a1 a2 a3 a4 a5=O (vk a0 a2 a4 a5):=by
 have⟨d,b,c⟩:=at1 a0 a1 a2 a3 a4 a5;rw[b,<-c,Mw]
def hk0 (m:Int):Int:=if m<1 then 5 else if 3<m then 5 else 0
def hk3 (m n:Int):Int:=if n<0 then 11 else if(if m=2 then 0 else 65535)<n then 11 else 0
def hk4 (b:Int):Int:=if b<0 then 12 else if 1048576<b then 12 else 0
def mO (m:Int)(x t:Nat)(R:Int)(l:List bz)(Q:Int)(k:List bz)(n b:Int):Int:=if hk0 m≠0 then hk0 m else if kw R l Q k≠0 then kw R l Q k else if vk R Q x t≠0 then vk R Q x t else if hk3 m n≠0 then hk3 m n else hk4 b
def EX (b:Bool)(e:Int):kE b e=O (if b then e else 0):=by cases b<;>rfl
section
variable {a0:Int} {a1 a2:Zd} {a3:Int} {a4:List bz} {a5:Int} {a6:List bz} {a7 a8:Int}
def aN4 :jq a0 a1 a2 a3 a4 a5 a6 a7 a8=O (hk0 a0):=by
 unfold jq hk0;simp only[EX,zG,ag];split
 .rfl
 .by_cases c:3<a0<;>simp[c]
def Ue (b:OpsOk a4)(c:OpsOk a6):gL a0 a1 a2 a3 a4 a5 a6 a7 a8=O (kw a3 a4 a5 a6):=by
 unfold gL;rw[TO b c];rfl
def aN3 :jp a0 a1 a2 a3 a4 a5 a6 a7 a8=O (vk a3 a5 (dt a1:Nat) (dt a2:Nat)):=by
 unfold jp;rw[TN];rfl
def ac9 :iC a0 a1 a2 a3 a4 a5 a6 a7 a8=O (hk3 a0 a7):=by
 unfold iC hk3;simp only[EX,zG,ag];by_cases b:a0=2
 .rw[zE b,zE b,zG];split
  .rfl
  .by_cases c:0<a7<;>simp[c]
 .rw[zF b,zF b,zG];split
  .rfl
  .by_cases c:65535<a7<;>simp[c]
def ac8 :iB a0 a1 a2 a3 a4 a5 a6 a7 a8=O (hk4 a8):=by
 unfold iB hk4;simp only[EX,zG,ag];split
 .rfl
 .by_cases c:1048576<a8<;>simp[c]
def C4 (j:OpsOk a4)(o:OpsOk a6):kN a0 a1 a2 a3 a4 a5 a6 a7 a8=O (mO a0 (dt a1) (dt a2) a3 a4 a5 a6 a7 a8):=by
 have c:iA a0 a1 a2 a3 a4 a5 a6 a7 a8 0=O (if hk0 a0≠0 then .inr (.inl (hk0 a0))else .inl 1):=by
  show(ek (jq a0 a1 a2 a3 a4 a5 a6 a7 a8) λr=>cond (Zc (r≠0)) _ _)=_;rw[aN4];simp only[zG,ag];split<;>rfl
 have d:iA a0 a1 a2 a3 a4 a5 a6 a7 a8 1=O (if kw a3 a4 a5 a6≠0 then .inr (.inl (kw a3 a4 a5 a6))else .inl 2):=by
  show(ek (gL a0 a1 a2 a3 a4 a5 a6 a7 a8) λr=>cond (Zc (r≠0)) _ _)=_;rw[Ue j o];simp only[zG,ag];split<;>rfl
 have e:iA a0 a1 a2 a3 a4 a5 a6 a7 a8 2=O (if vk a3 a5 (dt a1:Nat) (dt a2:Nat)≠0 then .inr (.inl (vk a3 a5 (dt a1:Nat) (dt a2:Nat)))else .inl 3):=by
  show(ek (jp a0 a1 a2 a3 a4 a5 a6 a7 a8) λr=>cond (Zc (r≠0)) _ _)=_;rw[aN3];simp only[zG,ag];split<;>rfl
 have f:iA a0 a1 a2 a3 a4 a5 a6 a7 a8 3=O (if hk3 a0 a7≠0 then .inr (.inl (hk3 a0 a7))else .inl 4):=by
  show(ek (iC a0 a1 a2 a3 a4 a5 a6 a7 a8) λr=>cond (Zc (r≠0)) _ _)=_;rw[ac9];simp only[zG,ag];split<;>rfl
 have k:iA a0 a1 a2 a3 a4 a5 a6 a7 a8 4=O (if hk4 a8≠0 then .inr (.inl (hk4 a8))else .inl 5):=by
  show(ek (iB a0 a1 a2 a3 a4 a5 a6 a7 a8) λr=>cond (Zc (r≠0)) _ _)=_;rw[ac8];simp only[zG,ag];split<;>rfl
 have b:iA a0 a1 a2 a3 a4 a5 a6 a7 a8 5=O (.inr (.inr ())):=rfl;unfold kN mO;have p:cv=18446744073709551610+1+1+1+1+1+1:=rfl;rw[p,bm,c,zG];split
 .rfl
 simp only[bg];rw[bm,d,zG];split
 .rfl
 simp only[bg];rw[bm,e,zG];split
 .rfl
 simp only[bg];rw[bm,f,zG];split
 .rfl
 simp only[bg];rw[bm,k,zG];split
 .rfl
 .rename_i h;simp only[bg];rw[bm,b,show hk4 a8=0 by omega];rfl
def AQ (q:OpsOk a4)(r:OpsOk a6)(o:dt a4<=1500)(p:dt a6<=1500):kF a0 a1 a2 a3 a4 a5 a6 a7 a8=O (mO a0 (dt a1) (dt a2) a3 a4 a5 a6 a7 a8):=by
 unfold kF mO;rw[UK q r o p,Mw];simp only[zG,ag];unfold hk0;by_cases c:a0<1
 .rw[zE c,zE c];rfl
 rw[zF c,zF c];by_cases d:3<a0
 .rw[zE d,zE d];rfl
 rw[zF d,zF d,zF (show¬(0:Int)≠0 by simp)];by_cases e:kw a3 a4 a5 a6≠0
 .rw[zE e,zE e]
 rw[zF e,zF e];by_cases f:vk a3 a5 (dt a1:Nat) (dt a2:Nat)≠0
 .rw[zE f,zE f]
 rw[zF f,zF f];unfold hk3 hk4;by_cases h:a7<0
 .rw[zE h,zE h];rfl
 rw[zF h,zF h];by_cases j:a0=2
 .rw[zE j,zE j];by_cases k:0<a7
  .rw[zE k,zE (show(11:Int)≠0 by simp)];by_cases b:65535<a7
   .rw[zE b]
   .rw[zF b,Zg]
  .rw[zF k,zF (show¬(0:Int)≠0 by simp),zF (show¬65535<a7 by omega),zF (show¬a7≠0 by omega)];split
   .rfl
   .split<;>rfl
 .rw[zF j,zF j];by_cases b:65535<a7
  .rw[zE b,zE b];rfl
  .rw[zF b,zF b,zF (show¬(0:Int)≠0 by simp)];split
   .rfl
   .split<;>rfl
structure HFacts (a0:Int)(x t:Nat)(a3:Int)(a4:List bz)(a5:Int)(a6:List bz)(a7 a8:Int):Prop where
 mode:1<=a0/\a0<=3
 regs:1<=a3/\a3<=64
 regs':1<=a5/\a5<=64
 xs:1<=x/\x<=64
 ts:t<=64
 w:0<=(di a4).1/\(di a4).1<=65536
 w':0<=(di a6).1/\(di a6).1<=65536
 len:0<=a7/\a7<=65535
 bud:0<=a8/\a8<=1048576
def RZ {R:Int}{l:List bz}(h:IZ R l=0):1<=R/\R<=64:=by
 unfold IZ at h;split at h
 .rename_i b;unfold H5 at b;rw[Bool.and_eq_true]at b;exact of_decide_eq_true b.1
 .cases h
def M2 {l:List bz}(h:OpsOk l):0<=(di l).1/\(di l).1<=65536:=by
 unfold di;split
 .rename_i d;split
  .rename_i w c;have:=Js (λo b=>(h.v o b).1) d c;split
   .simp
   .simp;omega
  .simp
 .simp
def XV {R Q:Int}{l k:List bz}(h:kw R l Q k=0):(1<=R/\R<=64)/\(1<=Q/\Q<=64):=by
 unfold kw at h;split at h
 .rename_i c;exact(c h).elim
 split at h
 .rename_i c;exact(c h).elim
 split at h
 .rename_i c;exact(c h).elim
 split at h
 .rename_i c;exact(c h).elim
 rename_i b d;exact⟨RZ (l:=l) V1,RZ (l:=k) V1⟩
def zO (j:OpsOk a4)(k:OpsOk a6)(h:mO a0 x t a3 a4 a5 a6 a7 a8=0):HFacts a0 x t a3 a4 a5 a6 a7 a8:=by
 unfold mO at h;split at h
 .rename_i c;exact(c h).elim
 split at h
 .rename_i c;exact(c h).elim
 split at h
 .rename_i c;exact(c h).elim
 split at h
 .rename_i c;exact(c h).elim
 rename_i e q b d;have⟨o,p⟩:=XV (show kw a3 a4 a5 a6=0 by omega);have e:hk0 a0=0:=by omega
 have b:vk a3 a5 x t=0:=by omega
 have d:hk3 a0 a7=0:=by omega
 unfold hk0 at e;unfold hk3 at d;unfold hk4 at h;unfold vk at b;refine⟨?_,o,p, ?_, ?_,M2 j,M2 k, ?_, ?_⟩
 .split at e
  .omega
  split at e<;>omega
 .split at b
  .omega
  split at b<;>omega
 .split at b
  .omega
  split at b
  .omega
  split at b
  .omega
  split at b<;>omega
 .split at d
  .omega
  by_cases f:a0=2
  .rw[zE f]at d;split at d<;>omega
  .rw[zF f]at d;split at d<;>omega
 .split at h
  .omega
  split at h<;>omega
def ri (a0:Int)(a4 a6:List bz):Int:=if a0=3 then(di a6).1 else(di a4).1+(di a6).1
def rh (a0:Int)(x:Nat)(a3:Int)(a4:List bz):Int:=if a0=3 then(di a4).1+a3 else x+1
def rZ (x t:Nat)(a3 a5:Int):Int:=2*t+2*x+a3+a5+max a3 a5
def Wf (b:OpsOk a4)(c:OpsOk a6):iX a0 a1 a2 a3 a4 a5 a6 a7 a8=O (if mO a0 (dt a1) (dt a2) a3 a4 a5 a6 a7 a8≠0 then(0,0)else((di a4).1,(di a6).1)):=by
 unfold iX;have:=b.len;have:=c.len;rw[C4 b c,wV V1 b.v,wV V1 c.v];simp only[zG,ag];split<;>rfl
def Mz (b:OpsOk a4)(c:OpsOk a6)(d:dt a4<=1500)(e:dt a6<=1500):vp a0 a1 a2 a3 a4 a5 a6 a7 a8=O (if mO a0 (dt a1) (dt a2) a3 a4 a5 a6 a7 a8≠0 then(0,0)else((di a4).1,(di a6).1)):=by
 unfold vp;have:=b.len;have:=c.len;rw[AQ b c d e,Df d b.v,Df e c.v];simp only[zG,ag];split<;>rfl
def Mq (b:OpsOk a4)(d:OpsOk a6)(h:mO a0 (dt a1) (dt a2) a3 a4 a5 a6 a7 a8=0):tJ a0 a1 a2 a3 a4 a5 a6 a7 a8=O (((dt a2:Nat):Int),((dt a1:Nat):Int),a3,a5,max a3 a5,((dt a1:Nat):Int),((dt a2:Nat):Int),ri a0 a4 a6,rh a0 (dt a1) a3 a4):=by
 have f:=zO b d h;have e:=f.mode;have j:=f.regs;have k:=f.xs;have o:=f.w;have p:=f.w';unfold tJ ri rh;rw[Wf b d,zF (λc=>c h)];simp only[zG,ag];rw[ad (n:=(di a4).1+a3) V1,ad (n:=(di a4).1+(di a6).1) V1,ad (n:=(dt a1:Int)+1) V1];split
 .rfl
 .rfl
def pre (L:Zd):Nat->Int
 |0=>0
 |i+1=>pre L i+L.getD i 0
def UD {L:Zd}(b: ∀j,0<=L.getD j 0/\L.getD j 0<=1000000000000): ∀i,0<=pre L i/\pre L i<=1000000000000*i
 |0=>⟨dC _,dC _⟩
 |i+1=>by
  have:=UD b i;have:=b i;simp only[pre];omega
def Sx {b0 b1 b2 b3 c d f h b n:Int}(o: ∀j,0<=([b0,b1,b2,b3,c,d,f,h,b*n]:Zd).getD j 0/\([b0,b1,b2,b3,c,d,f,h,b*n]:Zd).getD j 0<=1000000000000):yP b0 b1 b2 b3 c d f h b n=O ((cV 10).map (pre [b0,b1,b2,b3,c,d,f,h,b*n])):=by
 generalize q:([b0,b1,b2,b3,c,d,f,h,b*n]:Zd)=L at*;have r:=UD o
 have k:am (rL b0 b1 b2 b3 c d f h b) cv (0,(pre L 0,(cV 0).map (pre L)))=O (pre L 8,(cV 8).map (pre L)):=by
  refine eZ (n:=8) (λi=>(pre L i,(cV i).map (pre L))) V1 (λi hi=> ?_) ?_
  .unfold rL;rw[ag,Zg,br (show i<9 by omega),zG]
   have e:dI [b0,b1,b2,b3,c,d,f,h,b] i 0=L.getD i 0:=by
    subst q;rcases(show i=0∨i=1∨i=2∨i=3∨i=4∨i=5∨i=6∨i=7 by omega)with rfl|rfl|rfl|rfl|rfl|rfl|rfl|rfl<;>rfl
   have s:=r i;have p:=o i;rw[e,bn V3 V1,ad (n:=pre L i+L.getD i 0) V1,ad (n:=(i:Int)+1) V1,eD,dL];rfl
  .unfold rL;rw[ag,Zh]
 unfold yP;have k:am (rL b0 b1 b2 b3 c d f h b) cv ((0,0,[]))=_:=k;rw[k];have s:=r 8;have p:=o 8;have e:L.getD 8 0=b*n:=by subst q;rfl
 rw[e]at p;simp only[zG];rw[bn V2 V1,bn V2 V1,ad (n:=b*n) V1,ad (n:=pre L 8+b*n) V1];show _=O ((cV (8+1+1)).map (pre L));rw[eD (n:=8+1),eD (n:=8),dL,dL];show _=O (((cV 8).map (pre L)++[pre L 8])++[pre L 8+L.getD 8 0]);rw[e]
def XX {b0 b1 b2 b3 b c d e f n:Int}(h: ∀j,0<=([b0,b1,b2,b3,b,c,d,e,f*n]:Zd).getD j 0/\([b0,b1,b2,b3,b,c,d,e,f*n]:Zd).getD j 0<=1000000000000):wm b0 b1 b2 b3 b c d e f n=O (b0+b1+b2+b3+b+c+d+e+f*n):=by
 unfold wm;rw[Sx h];show O (0+b0+b1+b2+b3+b+c+d+e+f*n)=_;rw[cN]
def bi2 {b0 b1 b2 b3 b c d e f:Int}{p:Int->Prop}(h:p b0)(k:p b1)(o:p b2)(q:p b3)(r:p b)(s:p c)(u:p d)(y:p e)(z:p f)(A:p 0): ∀j,p (([b0,b1,b2,b3,b,c,d,e,f]:Zd).getD j 0)
 |0=>h
 |1=>k
 |2=>o
 |3=>q
 |4=>r
 |5=>s
 |6=>u
 |7=>y
 |8=>z
 |j+9=>by
  show p ((([]:Zd)).getD j 0);rw[List.getD_nil];exact A
def Qi {s n:Int}(c:0<=s/\s<=100000)(b:0<=n/\n<=1048576):0<=s*n/\s*n<=1000000000000:=by
 have d:=cW c.1 b.1;have e:=Int.mul_le_mul c.2 b.2 b.1 V1;omega
structure SFacts (x t:Nat)(a3 a5 tp sl:Int):Prop where
 xs:1<=x/\x<=64
 ts:t<=64
 r:1<=a3/\a3<=64
 r':1<=a5/\a5<=64
 tp:0<=tp/\tp<=131072
 sl:1<=sl/\sl<=100000
def MS (b:OpsOk a4)(c:OpsOk a6)(h:mO a0 x t a3 a4 a5 a6 a7 a8=0):SFacts x t a3 a5 (ri a0 a4 a6) (rh a0 x a3 a4):=by
 have f:=zO b c h;have d:=f.mode;have e:=f.regs;have j:=f.xs;have k:=f.w;have o:=f.w';refine⟨f.xs,f.ts,f.regs,f.regs', ?_, ?_⟩
 .unfold ri;split<;>omega
 .unfold rh;split<;>omega
def UR {tp sl n:Int}(s:SFacts x t a3 a5 tp sl)(b:0<=n/\n<=1048576): ∀j,0<=([(t:Int),x,a3,a5,max a3 a5,x,t,tp,sl*n]:Zd).getD j 0/\([(t:Int),x,a3,a5,max a3 a5,x,t,tp,sl*n]:Zd).getD j 0<=1000000000000:=by
 have c:=s.xs;have d:=s.ts;have e:=s.r;have f:=s.r';have h:=s.tp;have k:=s.sl;exact bi2 (p:=λy=>0<=y/\y<=1000000000000) V1 V1 V1 V1 V1 V1 V1 V1 (Qi V1 b) V1
def aQ4 {c b n:Int}(s:SFacts x t a3 a5 c b)(d:0<=n/\n<=1048576):wm t x a3 a5 (max a3 a5) x t c b n=O (rZ x t a3 a5+c+n*b):=by
 rw[XX (UR s d)];unfold rZ;rw[dD b n]
 congr 1
 omega
def SH {c b:Int}(h:SFacts (dt a1) (dt a2) a3 a5 c b):vS a0 a1 a2 a3 a4 a5 a6 a7 a8=O (rZ (dt a1) (dt a2) a3 a5):=by
 have d:=h.xs;have e:=h.ts;have f:=h.r;have j:=h.r';unfold vS rZ;rw[ad (n:=2*(dt a2:Int)) V1,ad (n:=2*(dt a1:Int)) V1,ad (n:=2*(dt a2:Int)+2*(dt a1:Int)) V1,ad (n:=2*(dt a2:Int)+2*(dt a1:Int)+a3) V1,ad (n:=2*(dt a2:Int)+2*(dt a1:Int)+a3+a5) V1,Zi]
def UO (b:OpsOk a4)(d:OpsOk a6)(e:dt a4<=1500)(k:dt a6<=1500)(h:mO a0 (dt a1) (dt a2) a3 a4 a5 a6 a7 a8=0):xY a0 a1 a2 a3 a4 a5 a6 a7 a8=O (ri a0 a4 a6):=by
 have f:=zO b d h;have j:=f.w;have o:=f.w';unfold xY ri;rw[Mz b d e k,zF (λc=>c h)];simp only[zG,ag];rw[Zi];split<;>rfl
def UN (b:OpsOk a4)(d:OpsOk a6)(e:dt a4<=1500)(k:dt a6<=1500)(h:mO a0 (dt a1) (dt a2) a3 a4 a5 a6 a7 a8=0):xX a0 a1 a2 a3 a4 a5 a6 a7 a8=O (rh a0 (dt a1) a3 a4):=by
 have f:=zO b d h;have o:=f.regs;have p:=f.xs;have j:=f.w;have q:=f.w';unfold xX rh;rw[Mz b d e k,zF (λc=>c h)];simp only[zG,ag];rw[ad (n:=(di a4).1+a3) V1,Zi];split<;>rfl
def least (a0 a7:Int):Int:=if a0=3 then a7 else 1
def eo (a0:Int)(x t:Nat)(a3:Int)(a4:List bz)(a5:Int)(a6:List bz)(a7 a8:Int):Int×Int×Int×Int×Int:=
 if mO a0 x t a3 a4 a5 a6 a7 a8≠0 then(0,0,0,0,mO a0 x t a3 a4 a5 a6 a7 a8)
 else if a8<rZ x t a3 a5+ri a0 a4 a6+least a0 a7*rh a0 x a3 a4 then(0,0,0,0,13)
 else(rZ x t a3 a5,ri a0 a4 a6,rh a0 x a3 a4,if a0=3 then a7 else(a8-rZ x t a3 a5-ri a0 a4 a6) / rh a0 x a3 a4,0)
def ai2 {d b n:Int}(s:SFacts x t a3 a5 d b):am (tI (t:Int) (x:Int) a3 a5 (max a3 a5) (x:Int) (t:Int) d b) cv (0,0,d,b,n)=O (rZ x t a3 a5,d,b,n):=by
 have f:=UR (n:=1) s V1;have k:=UD f
 have h:pre [(t:Int),x,a3,a5,max a3 a5,x,t,d,b*1] 7=rZ x t a3 a5:=by
  show 0+(t:Int)+x+a3+a5+max a3 a5+x+t=_;unfold rZ;omega
 rw[<-h];generalize j:([(t:Int),x,a3,a5,max a3 a5,x,t,d,b*1]:Zd)=L at*;refine eZ (n:=7) (λi=>(pre L i,d,b,n)) (c:=(pre L 7,d,b,n)) V1 (λi hi=> ?_) ?_
 .unfold tI;rw[ag,Zg,br (show i<9 by omega),zG]
  have e:dI [(t:Int),x,a3,a5,max a3 a5,x,t,d,b] i 0=L.getD i 0:=by
   subst j;rcases(show i=0∨i=1∨i=2∨i=3∨i=4∨i=5∨i=6 by omega)with rfl|rfl|rfl|rfl|rfl|rfl|rfl<;>rfl
  have o:=k i;have p:=f i;rw[e,ad (n:=pre L i+L.getD i 0) V1,ad (n:=(i:Int)+1) V1];rfl
 .unfold tI;rw[ag,Zh]
def B8 (e:OpsOk a4)(j:OpsOk a6):gA a0 a1 a2 a3 a4 a5 a6 a7 a8=O (eo a0 (dt a1) (dt a2) a3 a4 a5 a6 a7 a8):=by
 unfold gA eo;rw[C4 e j,zG];by_cases h:mO a0 (dt a1) (dt a2) a3 a4 a5 a6 a7 a8=0
 .rw[zA (λc=>c h),zD,zF (λc=>c h),Mq e j h];have s:=MS e j h;have f:=zO e j h;have z:=f.mode;have A:=f.len;have B:=f.bud;have C:=s.xs;have D:=s.ts;have E:=s.r;have F:=s.r';have I:=s.tp;have J:=s.sl
  have u:(cond (Zc (a0=3)) (O a7) (O (1:Int)))=O (least a0 a7):=by
   unfold least;rw[ag];split<;>rfl
  have y:0<=least a0 a7/\least a0 a7<=65535:=by unfold least;split<;>omega
  simp only[zG];rw[u,zG,aQ4 s V1,zG,ai2 s];simp only[zG,ag];by_cases c:a8<rZ (dt a1) (dt a2) a3 a5+ri a0 a4 a6+least a0 a7*rh a0 (dt a1) a3 a4
  .rw[zE c,zE c]
  .rw[zF c,zF c];have q:0<=rZ (dt a1) (dt a2) a3 a5/\rZ (dt a1) (dt a2) a3 a5<=1000:=by unfold rZ;omega
   by_cases b:a0=3
   .rw[zF (λk=>k b),zE b];unfold least;rw[zE b]
   .rw[zE b,zF b,aN2 V1];unfold least at c;rw[zF b]at c;generalize rZ (dt a1) (dt a2) a3 a5=d at*;generalize ri a0 a4 a6=tp at*;generalize rh a0 (dt a1) a3 a4=sl at*;rw[ad (n:=a8-d) V1,ad (n:=a8-d-tp) V1,Wu V1];have o:0<=(a8-d-tp) / sl:=dU V1 V1;have p:(a8-d-tp) / sl<=a8-d-tp:=dT _ V1;rw[Zi]
 .rw[zB h,zC,zE h]
def UM (j:OpsOk a4)(o:OpsOk a6)(q:dt a4<=1500)(u:dt a6<=1500):qN a0 a1 a2 a3 a4 a5 a6 a7 a8=O (eo a0 (dt a1) (dt a2) a3 a4 a5 a6 a7 a8):=by
 unfold qN eo;rw[AQ j o q u,zG];by_cases h:mO a0 (dt a1) (dt a2) a3 a4 a5 a6 a7 a8=0
 .have s:=MS j o h;have f:=zO j o h;rw[zA (λc=>c h),zD,zF (λc=>c h),SH s,UO j o q u h,UN j o q u h];have K:=f.mode;have L:=f.len;have M:=f.bud;have B:=s.xs;have N:=s.ts;have C:=s.r;have Q:=s.r';have T:=s.tp;have V:=s.sl;have E:0<=rZ (dt a1) (dt a2) a3 a5/\rZ (dt a1) (dt a2) a3 a5<=1000:=by unfold rZ;omega
  have I:0<=least a0 a7/\least a0 a7<=65535:=by unfold least;split<;>omega
  simp only[zG];generalize rZ (dt a1) (dt a2) a3 a5=b at*;generalize ri a0 a4 a6=tp at*;generalize rh a0 (dt a1) a3 a4=sl at*
  have F:(cond (Zc (a0=3)) (O ((b,tp,sl,a7):Int×Int×Int×Int)) (O (b,tp,sl,1)))=O (b,tp,sl,least a0 a7):=by
   unfold least;rw[ag];split<;>rfl
  rw[F,zG];have y:=Qi (s:=sl) (n:=least a0 a7) V1 V1;rw[dD]at y;rw[ad (n:=b+tp) V1,ad (n:=least a0 a7*sl) V1,Zi,ag];by_cases c:a8<b+tp+least a0 a7*sl
  .rw[zE c,zE c]
  .rw[zF c,zF c];by_cases e:a0=3
   .have d:am (oS a0 a8) cv (b,tp,sl,least a0 a7)=O (b,tp,sl,least a0 a7):=by
     rw[show cv=18446744073709551615+1 from rfl,bm];unfold oS;rw[ag,zF (λk=>k e)];rfl
    rw[d,zE e];unfold least;rw[zE e];rfl
   .have d:am (oS a0 a8) cv (b,tp,sl,least a0 a7)=O (b,tp,sl,(a8-b-tp) / sl):=by
     refine Qf (λst=> ∃n:Int,st=(b,tp,sl,n)/\1<=n/\n<=1048577/\b+tp+n*sl<=a8) (λst=>eL (2000000-st.2.2.2)) ⟨least a0 a7,rfl,by unfold least;rw[zF e];omega,V1,V1⟩ V3 ?_;rintro _ ⟨n,rfl,X,n2,n3⟩;unfold oS;simp only;have y:=Qi (s:=sl) (n:=n+1-2) V1 V1;have W:(n+1)*sl=sl*(n+1-2)+2*sl:=by rw[Int.mul_sub,dD];omega
     have J:(n+1)*sl=n*sl+sl:=by rw[Int.add_mul,Int.one_mul]
     rw[ag,zE e,ad (n:=n+1) V1,ad (n:=b+tp) V1,ad (n:=(n+1)*sl) V1,Zi,ag]
     have z:n<=n*sl:=by
      have:=dE (show 1<=sl by omega) (show 0<=n by omega);omega
     by_cases p:b+tp+(n+1)*sl<=a8
     .rw[zE p];left;exact⟨_,rfl,⟨n+1,rfl,V1,V1,p⟩,by simp only;omega⟩
     .rw[zF p];right
      have D:(a8-b-tp) / sl=n:=by
       have A:a8-b-tp=(a8-b-tp-n*sl)+n*sl:=by omega
       rw[A,Int.add_mul_ediv_right _ _ V1,Int.ediv_eq_zero_of_lt V1 V1,cN]
      rw[D]
    rw[d,zF e];rfl
 .rw[zB h,zC,zE h]
end
def Reach {α γ:Type}(f:α->Option (α⊕γ))(k:Nat)(s c:α):Prop:= ∀b,am f (b+k) s=am f b c
def Reach.refl {α γ:Type}{f:α->Option (α⊕γ)}{s:α}:Reach f 0 s s:=λ_=>rfl
def Reach.trans {α γ:Type}{f:α->Option (α⊕γ)}{k c:Nat}{s e b:α}(h:Reach f k s e)(j:Reach f c e b):Reach f (k+c) s b:=by
 intro d;rw[show d+(k+c)=(d+c)+k by omega,h,j]
def Reach.one {α γ:Type}{f:α->Option (α⊕γ)}{s b:α}(h:f s=O (.inl b)):Reach f 1 s b:=by
 intro c;rw[bm,h];rfl
section
variable {l:List bz}
def aX1 (d:l.length<=8192)(b:st.length<=8192)(hi:i<l.length)(c:0<l[i].1/\l[i].1<7)(e:out.length=l.length):
  db l ((i:Int),Za,out,st,st)=O (.inl (((i+1:Nat):Int),Za,out.set i (-1),st,st)):=by
 simp only[db];rw[zB (show(i:Int)<(l.length:Int)by omega),zC,cg hi];simp only[zG];generalize f:l[i]=x at*;rw[zA (show¬x.1<0 by omega),zD,zA (show¬7<x.1 by omega),zD,zA (show¬x.1=0 by omega)];simp only[zD,zG,cb];rw[br (show i<out.length by omega)];simp only[zG];rw[aD (show i<out.length by omega)];simp only[zG];rw[zA (show¬x.1=7 by omega)];simp only[zD];rw[ad (n:=(i:Int)+1) V1];rfl
def ax5 (d:dt l<=8192)(c:dt st<=8192)(hi:i<dt l)(b:l[i].1=7)(e:dt out=dt l):
  db l ((i:Int),Za,out,st,st)=O (.inl (((i+1:Nat):Int),Za,out.set i (-1),st++[(i:Int)],st++[(i:Int)])):=by
 simp only[db];rw[zB (show(i:Int)<(dt l:Int)by omega),zC,cg hi,zG];generalize f:l[i]=x at*;rw[zA (show¬x.1<0 by omega),zD,zA (show¬7<x.1 by omega),zD,zA (show¬x.1=0 by omega)];simp only[zD,zG,cb];rw[br (show i<(dt out) by omega),zG,aD (show i<(dt out) by omega),zG,zB b];simp only[zC];rw[bn V1 V1,bn V1 V1,ad (n:=(i:Int)+1) V1];rfl
def ag4 {q:Nat}(h:l.length<=8192)(f:st.length<8192)(hi:i<l.length)(e:l[i].1=0)(j:out.length=l.length)(k:q<l.length):
  db l ((i:Int),Za,out,st++[(q:Int)],st++[(q:Int)])=O (.inl (((i+1:Nat):Int),Za,((out.set i (-1)).set i (q:Int)).set q (i:Int),st,st)):=by
 have b:(st++[(q:Int)]).length=st.length+1:=by simp
 simp only[db];rw[zB (show(i:Int)<(l.length:Int)by omega),zC,cg hi];simp only[zG];generalize o:l[i]=x at*;rw[zA (show¬x.1<0 by omega),zD,zA (show¬7<x.1 by omega),zD,zB e];simp only[zC,zG,cb];rw[zA (show¬((st++[(q:Int)]).length:Int)=0 by omega),zD];rw[ad (n:=((st++[(q:Int)]).length:Int)-1) V1,Zl,cf];simp only[zG,cb];have d:Zc (x.1=7)=Zb:=zA V1;rw[br (show i<out.length by omega)];simp only[zG];rw[aD (show i<out.length by omega)];simp only[zG];rw[d,zD,show((st++[(q:Int)]).length:Int)-1=(st.length:Int)by rw[b];omega,br (show st.length<(st++[(q:Int)]).length by omega)];simp only[zG];rw[cL (aB _),bD];simp only[eM,zG]
 rw[cf,br (show i<(out.set i (-1)).length by simp;omega)];simp only[zG];rw[aD (show i<(out.set i (-1)).length by simp;omega)];simp only[zG];rw[br (show q<((out.set i (-1)).set i ((q:Nat):Int)).length by simp;omega)];simp only[zG];rw[aD (show q<((out.set i (-1)).set i ((q:Nat):Int)).length by simp;omega)];simp only[zG]
 have c:(st++[(q:Int)]).take ((st.length:Int).toNat-0)=st:=by
  rw[show(st.length:Int).toNat-0=st.length by omega,dP];rfl
 rw[c,ad (n:=(i:Int)+1) V1];rfl
def Qk (D:dt l<=8192): ∀(k:Nat) (A seg B:List bz) (out st:Zd),dt seg<=k->l=A++seg++B->bu seg 0=O 0->dt out=dt l->dt st<=dt A->
  ∃f,Reach (db l) (dt seg) ((dt A:Int),Za,out,st,st) (((dt A+dt seg:Nat):Int),Za,f,st,st)/\(dt f)=dt l/\
   (∀j,¬(dt A<=j/\j<dt A+dt seg)->f[j]?=out[j]?)/\∀j,dt A<=j->j<dt A+dt seg->(y:j<dt l)->l[j].1=7->∀inner e rest,l.drop (j+1)=inner++e::rest->e.1=0->bu inner 0=O 0->f[j]?=O ((j+1+dt inner:Nat):Int)
 |k,A,[],B,out,st,_,b,M,E,hst=>⟨out,Reach.refl,E,λj _=>rfl,λj h1 h2=>by simp at h2;omega⟩
 |0,A,o::seg,B,out,st,p,_,_,_,_=>by simp at p
 |k+1,A,o::seg,B,out,st,p,b,M,E,hst=>by
  simp only[cD]at p⊢;have L:dt l=dt A+(dt seg+1)+dt B:=by rw[b];simp;omega
  have s:dt A<dt l:=by omega
  have h:l[dt A]=o:=by
   have:l[dt A]?=O o:=by
    rw[b,cK,cL (aB _),bD];rfl
   rw[aD s]at this;injection this
  by_cases r:o.1=7
  .have hs1:bu seg 1=O 0:=by
    simp only[bu]at M;rw[Zh,Zh,zE r]at M;exact M
   have⟨inner,e,rest,h1,h2,h3,h4⟩:=Dj _ seg 0 (aB _) hs1;subst h1;simp only[cM,cD]at p L⊢
   have hd:l.drop (dt A+1)=inner++e::(rest++B):=by
    rw[b,cK,dG,dH V1,show dt A+1-dt A=1 by omega];simp
   have u:dt (A++[o])=dt A+1:=by simp
   have⟨S1,W,l1,N,F⟩:=Qk D k (A++[o]) inner (e::(rest++B)) (out.set (dt A) (-1)) (st++[(dt A:Int)]) V1 (by rw[b];simp) h3 (by simp[E]) V3;rw[u]at W N F;have K:dt A+1+dt inner<dt l:=by omega
   have J:l[dt A+1+dt inner]=e:=by
    have h5:(l.drop (dt A+1))[dt inner]?=O e:=by
     rw[hd,cL (aB _),bD];rfl
    rw[dJ,aD K]at h5;injection h5
   have c1:=ag4 (st:=st) D V1 K (by rw[J];exact h2) l1 s;have hA2:dt (A++o::(inner++[e]))=dt A+1+dt inner+1:=by simp;omega
   have⟨S2,r2,l3,k2,g2⟩:=Qk D k (A++o::(inner++[e])) rest B (((S1.set (dt A+1+dt inner) (-1)).set (dt A+1+dt inner) (dt A:Int)).set (dt A) ((dt A+1+dt inner:Nat):Int)) st V1 (by rw[b];simp) h4 (by simp[l1]) V1;rw[hA2]at r2 k2 g2;refine⟨S2, ?_,l3,λj y=> ?_,λj h5 h6 y p c X d Q T V=> ?_⟩
   .have h0:=Reach.one (ax5 (out:=out) (st:=st) D V1 s (by rw[h];exact r) E);have I:=((h0.trans W).trans (Reach.one c1)).trans r2;rw[show 1+dt inner+1+dt rest=dt inner+(dt rest+1)+1 by omega,show dt A+1+dt inner+1+dt rest=dt A+(dt inner+(dt rest+1)+1)by omega]at I;exact I
   .rw[k2 j V1,cB V1,cB V1,cB V1,N j V1,cB V1]
   .by_cases z:dt A+1+dt inner+1<=j
    .exact g2 j z V1 y p c X d Q T V
    .rw[k2 j V1];by_cases q:dt A=j
     .subst q;rw[cY V3];have:=yr (hd.symm.trans Q) h3 V h2 T;subst this;rfl
     .have hj3:j<dt A+1+dt inner:=by
       by_cases C:j<dt A+1+dt inner
       .exact C
       .exfalso;have C:j=dt A+1+dt inner:=by omega
        subst C;rw[J]at p;omega
      rw[cB q,cB V1,cB V1];exact F j V1 hj3 y p c X d Q T V
  .obtain⟨hsr,hko,_⟩:=NN M r;have u:dt (A++[o])=dt A+1:=by simp
   have c1:=aX1 (out:=out) (st:=st) D V1 s (by rw[h];exact hko) E;have⟨S1,W,l1,N,F⟩:=Qk D k (A++[o]) seg B (out.set (dt A) (-1)) st V1 (by rw[b];simp) hsr (by simp[E]) V1;rw[u]at W N F;refine⟨S1, ?_,l1,λj y=> ?_,λj h5 h6 y p c X d Q T V=> ?_⟩
   .have I:=(Reach.one c1).trans W;rw[show 1+dt seg=dt seg+1 by omega,show dt A+1+dt seg=dt A+(dt seg+1)by omega]at I;exact I
   .rw[N j V1,cB V1]
   .by_cases z:dt A+1<=j
    .exact F j z V1 y p c X d Q T V
    .have q:j=dt A:=by omega
     subst q;exact(r (by rw[<-h];exact p)).elim
def Kh (o:dt l<=8192)(p:bu l 0=O 0): ∃m,kn l=O (0,m)/\MOK l m:=by
 have⟨S',j,q,y,f⟩:=Qk (l:=l) o _ [] l [] (bB (eL ((dt l:Int))) (0:Int)) [] (aB _) V2 p V2 V2;rw[show(dt ([]:List bz))+dt l=(dt l) by simp]at j f
 have b:am (db l) cv ((0:Int),Za,bB (eL ((dt l:Int))) (0:Int),([]:Zd),([]:Zd))=O (Za,S',[],[]):=by
  have h:=j (18446744073709551616-dt l);rw[show 18446744073709551616-dt l+dt l=cv by unfold cv;omega,show 18446744073709551616-dt l=(18446744073709551615-dt l)+1 by omega]at h;refine h.trans ?_;rw[bm];simp only[db];rw[Ze,zD];rfl
 refine⟨S', ?_,⟨q,λi hi k c e d r s u=>f i (cU _) hi hi k c e d r s u⟩⟩;unfold kn;rw[zB (show(0:Int)<=(dt l:Int)by omega),zB (show(dt l:Int)<=(dt l:Int)by omega),zB (show 8*(dt l:Int)<=140737488355328 by omega)];show gd Za _=_;rw[cf,b];rfl
end
section
variable {l:List bz}
def af4 {sz:Zd}{pre:List (Int×Int)}(C:l.length<=8192)(D:pre.length<=8192)(hi:i<l.length):
  cr l ((i:Int),sz,rds,pre++[(a,w)])=(cond (Zc (l[i].1=7))
   (O (.inl (((i+1:Nat):Int),sz,rds,pre++[(a,w)]++[((i:Int),0)])))
   (cond (Zc (l[i].1=0))
    ((rd l a).bind λs=>
    (tW w s.2.2.2.2).bind λb=>
    cond (!b.2)
     (O (.inr ((9,sz,rds,pre++[(a,w)]))))
     ((ix a sz.length).bind λf=>
     (sz[f]?).bind λz=>
     (ix a rds.length).bind λh=>
     (rds[h]?).bind λA=>
     gd (dv 0 (pre.length:Int) (pre.length+1)) ((ix (zH zI ((pre.length:Int)-1)) pre.length).bind λo=>
     ((pre++[(a,w)])[(0+o)]?).bind λu=>
     (yS ([u.2,b.1])).bind λp=>
     (ix (zH zI ((pre.length:Int)-1)) pre.length).bind λj=>
     ((pre++[(a,w)])[(0+j)]?).bind λy=>
     O (.inl (((i+1:Nat):Int),(dM sz f b.1),(dM rds h w),(List.take pre.length ((dM (pre++[(a,w)]) (0+j) ((y.1,p))))))))))
    ((jN l[i].1 l[i].2.1 l[i].2.2.1 l[i].2.2.2.1 l[i].2.2.2.2).bind λq=>
    cond (q.2)
     ((ix (i:Int) sz.length).bind λk=>
     (sz[k]?).bind λB=>
     O (.inl (((i+1:Nat):Int),(dM sz k 1),rds,pre++[(a,zH zI (w+1))])))
     (O (.inl (((i+1:Nat):Int),sz,rds,pre++[(a,w)])))))):=by
 have d:(pre++[(a,w)]).length=pre.length+1:=by simp
 have c:(pre++[(a,w)])[pre.length]?=O (a,w):=by
  rw[cL (aB _),bD];rfl
 have e: ∀r,(pre++[(a,w)]).set pre.length (a,r)=pre++[(a,r)]:=by
  intro r;rw[dN _ _ (aB _),bD];rfl
 simp only[cr];rw[zB (show(i:Int)<(l.length:Int)by omega),zC,cg hi];simp only[zG];rw[d,ad (n:=((pre.length+1:Nat):Int)-1) V1,show((pre.length+1:Nat):Int)-1=(pre.length:Int)by omega,br (show pre.length<pre.length+1 by omega)];simp only[zG];rw[c,ad (n:=(i:Int)+1) V1,bn V1 V1,show(i:Int)+1=((i+1:Nat):Int)by omega];simp only[zG];rw[e,show((pre.length:Int).toNat-0)=pre.length by omega]
def bi0 {sz:Zd}{pre:List (Int×Int)}(c:dt l<=8192)(d:dt pre<=8192)(hi:i<dt l)(b:0<l[i].1/\l[i].1<7)(e:dt sz=dt l)(f:0<=w/\w<=1000000000):
  cr l ((i:Int),sz,rds,pre++[(a,w)])=O (.inl (((i+1:Nat):Int),sz.set i 1,rds,pre++[(a,w+1)])):=by
 rw[af4 c d hi,Ze,Ze];simp only[zD];rw[Gw b];simp only[zG,zC];rw[br (show i<(dt sz) by omega),zG,aD (show i<(dt sz) by omega),zG,ad (n:=w+1) V1]
def aO5 {sz:Zd}{pre:List (Int×Int)}(c:dt l<=8192)(d:dt pre<=8192)(hi:i<dt l)(b:l[i].1=7):
  cr l ((i:Int),sz,rds,pre++[(a,w)])=O (.inl (((i+1:Nat):Int),sz,rds,pre++[(a,w)]++[((i:Int),0)])):=by
 rw[af4 c d hi,zB b,zC]
def aw8 {b:Nat}{sz:Zd}{pre:List (Int×Int)}{w2 n:Int}(p:l.length<=8192)(y:pre.length<8192)(hi:i<l.length)(o:l[i].1=0)(c:b<l.length)(s:sz.length=l.length)(r:rds.length=l.length)(k:0<=w/\w<=1000000000)(u:0<=w2/\w2<=1000000000)
  (j:0<=l[b].2.2.2.2/\l[b].2.2.2.2<=18446744073709551615) (h:At w l[b].2.2.2.2=O n):
  cr l ((i:Int),sz,rds,pre++[(a,w2)]++[((b:Int),w)])=O (.inl (((i+1:Nat):Int),sz.set b n,rds.set b w,pre++[(a,w2+n)])):=by
 have e:(pre++[(a,w2)]).length=pre.length+1:=by simp
 rw[af4 p V1 hi,Ze,zB o];simp only[zD,zC];rw[cg c];simp only[zG];rw[MU ⟨k.1,V1⟩ j,h];have q:=Hy k.1 j.1 h;simp only[zG,dA,zD];rw[br (show b<sz.length by omega)];simp only[zG];rw[aD (show b<sz.length by omega)];simp only[zG];rw[br (show b<rds.length by omega)];simp only[zG];rw[aD (show b<rds.length by omega)];simp only[zG];rw[Zl,cf,e,ad (n:=((pre.length+1:Nat):Int)-1) V1,show((pre.length+1:Nat):Int)-1=(pre.length:Int)by omega,br (show pre.length<pre.length+1 by omega)];simp only[zG,cS]
 have d:(pre++[(a,w2)]++[((b:Int),w)])[pre.length]?=O (a,w2):=by
  rw[cK,cL (aB _),bD];rfl
 rw[d];simp only[zG];rw[S4 _ _ V1 q];simp only[zG]
 have f:((pre++[(a,w2)]++[((b:Int),w)]).set pre.length (a,w2+n)).take (pre.length+1)=pre++[(a,w2+n)]:=by
  rw[cK,dN _ _ (aB _),bD];show(pre++[(a,w2+n),((b:Int),w)]).take (pre.length+1)=_;rw[show [(a,w2+n),((b:Int),w)]=[(a,w2+n)]++[((b:Int),w)]from rfl,<-cK,dP];simp
 rw[f]
def aJ1 (l:List bz)(j:Nat)(a b:Int):Prop:= ∀h:j<dt l,(l[j].1=7->∀c e d,l.drop (j+1)=c++e::d->e.1=0->bu c 0=O 0->Q9 c=O b/\At b l[j].2.2.2.2=O a)/\(l[j].1≠7->b=0/\a=if l[j].1=0 then 0 else 1)
def VS (N:dt l<=8192)(hv: ∀o∈l,0<=o.2.2.2.2/\o.2.2.2.2<=18446744073709551615): ∀(k:Nat) (A seg B:List bz) (S R:Zd) (pre:List (Int×Int)) (p w t:Int),dt seg<=k->l=A++seg++B->bu seg 0=O 0->Q9 seg=O t->dt S=dt l->dt R=dt l->dt pre<=dt A->0<=w/\w<=65537*dt A->(∀j,dt A<=j->j<dt A+dt seg->S[j]?=O 0/\R[j]?=O 0)->
  ∃S' R',Reach (cr l) (dt seg) ((dt A:Int),S,R,pre++[(p,w)]) (((dt A+dt seg:Nat):Int),S',R',pre++[(p,w+t)])/\(dt S')=dt l/\(dt R')=dt l/\(0<=t/\t<=65537*dt seg)/\
   (∀j,¬(dt A<=j/\j<dt A+dt seg)->S'[j]?=S[j]?/\R'[j]?=R[j]?)/\∀j,dt A<=j->j<dt A+dt seg->∃a b,S'[j]?=O a/\R'[j]?=O b/\aJ1 l j a b
 |k,A,[],B,S,R,pre,p,w,t,_,d,Q,q,hS,hR,hpre,hw,I=>by
  cases q;refine⟨S,R, ?_,hS,hR,⟨dC _,V2⟩,λj _=>⟨rfl,rfl⟩,λj h1 M=> ?_⟩
  .rw[dB];exact Reach.refl
  .simp at M;omega
 |0,A,o::seg,B,S,R,pre,p,w,t,hk,_,_,_,_,_,_,_,_=>by simp at hk
 |k+1,A,o::seg,B,S,R,pre,p,w,t,hk,d,Q,q,hS,hR,hpre,hw,I=>by
  simp only[cD]at hk I⊢;have hlen:dt l=dt A+(dt seg+1)+dt B:=by rw[d];simp;omega
  have D:dt A<dt l:=by omega
  have f:l[dt A]=o:=by
   have:l[dt A]?=O o:=by
    rw[d,cK,cL (aB _),bD];rfl
   rw[aD D]at this;injection this
  by_cases u:o.1=7
  .have hs1:bu seg 1=O 0:=by
    simp only[bu]at Q;rw[Zh,Zh,zE u]at Q;exact Q
   have⟨c,e,r,h1,M,h3,h4⟩:=Dj _ seg 0 (aB _) hs1;subst h1;simp only[cM,cD]at hk I hlen⊢;have⟨L,hQ⟩:=O1 Q u M h3;rw[hQ]at q;obtain⟨wi,hwi,q⟩:=ah q;obtain⟨b,hb,q⟩:=ah q;cases s:Q9 r with
   |none=>rw[s]at q;cases q
   |some tr=>
   rw[s]at q;injection q with q
   have q:b+tr=t:=q;have hov:0<=o.2.2.2.2/\o.2.2.2.2<=18446744073709551615:=by rw[<-f];exact hv _ (cP D)
   have hd:l.drop (dt A+1)=c++e::(r++B):=by
    rw[d,cK,dG,dH V1,show dt A+1-dt A=1 by omega];simp
   have F:dt (A++[o])=dt A+1:=by simp
   have⟨S1,R1,r1,l1,l2,⟨t1,t2⟩,y,T⟩:=VS N hv k (A++[o]) c (e::(r++B)) S R (pre++[(p,w)]) (dt A:Int) 0 wi V1 Zt h3 hwi hS hR V3 V1 (λj z E=>I j V1 V1);rw[F]at r1 y T;have hei:dt A+1+dt c<dt l:=by omega
   have J:l[dt A+1+dt c]=e:=by
    have z:(l.drop (dt A+1))[dt c]?=O e:=by
     rw[hd,cL (aB _),bD];rfl
    rw[dJ,aD hei]at z;injection z
   have hbn:=Hy t1 hov.1 hb;have c1:=aw8 (pre:=pre) (a:=p) (w2:=w) N V1 hei (by rw[J];exact M) D l1 l2 (w:=0+wi) V1 V1 (by rw[f];exact hov) (n:=b) (by rw[f,cN];exact hb);have X:dt (A++o::(c++[e]))=dt A+1+dt c+1:=by simp;omega
   have⟨S2,R2,r2,l3,l4,⟨t3,t4⟩,k2,g2⟩:=VS N hv k (A++o::(c++[e])) r B (S1.set (dt A) b) (R1.set (dt A) (0+wi)) pre p (w+b) tr V1 Zt L s (by simp[l1]) (by simp[l2]) V1 V1 (λj z E=>by
    rw[X]at z E;rw[cB V1,cB V1,(y j V1).1,(y j V1).2]
    exact I j V1 V1)
   rw[X]at r2 k2 g2;refine⟨S2,R2, ?_,l3,l4,⟨V1,V1⟩,λj hj=> ?_,λj z E=> ?_⟩
   .have h0:=Reach.one (aO5 (sz:=S) (rds:=R) (pre:=pre) (a:=p) (w:=w) N V1 D (by rw[f];exact u));have W:=((h0.trans r1).trans (Reach.one c1)).trans r2;rw[show 1+dt c+1+dt r=dt c+(dt r+1)+1 by omega,cQ,q,show dt A+1+dt c+1+dt r=dt A+(dt c+(dt r+1)+1)by omega]at W;exact W
   .rw[(k2 j V1).1,(k2 j V1).2,cB V1,cB V1,(y j V1).1,(y j V1).2];exact⟨rfl,rfl⟩
   .by_cases K:dt A+1+dt c+1<=j
    .exact g2 j K V1
    .rw[(k2 j V1).1,(k2 j V1).2];by_cases C:dt A=j
     .subst C;rw[cY V1,cY V1];refine⟨_,_,rfl,rfl,λh=>⟨λ_ inner' e' rest' p1 p2 p3=> ?_,λV=>(V (by rw[f];exact u)).elim⟩⟩;have:=yr (hd.symm.trans p1) h3 p3 M p2;subst this;rw[cN,f];exact⟨hwi,hb⟩
     .rw[cB C,cB C];by_cases hj3:j<dt A+1+dt c
      .exact T j V1 hj3
      .have hj4:j=dt A+1+dt c:=by omega
       subst hj4;rw[(y _ V1).1,(y _ V1).2,(I _ z E).1,(I _ z E).2];refine⟨0,0,rfl,rfl,λh=>⟨λV=> ?_,λ_=>⟨rfl, ?_⟩⟩⟩
       .rw[J]at V;omega
       .rw[J,zE M]
  .obtain⟨L,hko,hQ⟩:=NN Q u;rw[hQ]at q;cases s:Q9 seg with
   |none=>rw[s]at q;cases q
   |some tr=>
   rw[s]at q;injection q with q
   have q:1+tr=t:=q;have F:dt (A++[o])=dt A+1:=by simp
   have c1:=bi0 (sz:=S) (rds:=R) (pre:=pre) (a:=p) (w:=w) N V1 D (by rw[f];exact hko) hS V1
   have⟨S1,R1,r1,l1,l2,⟨t1,t2⟩,y,T⟩:=VS N hv k (A++[o]) seg B (S.set (dt A) 1) R pre p (w+1) tr V1 Zt L s (by simp[hS]) hR V1 V1 (λj z E=>by
    rw[F]at z E;rw[cB V1]
    exact I j V1 V1)
   rw[F]at r1 y T;refine⟨S1,R1, ?_,l1,l2,⟨V1,V1⟩,λj hj=> ?_,λj z E=> ?_⟩
   .have W:=(Reach.one c1).trans r1;rw[show 1+dt seg=dt seg+1 by omega,cQ,q,show dt A+1+dt seg=dt A+(dt seg+1)by omega]at W;exact W
   .rw[(y j V1).1,(y j V1).2,cB V1];exact⟨rfl,rfl⟩
   .by_cases K:dt A+1<=j
    .exact T j K V1
    .have C:j=dt A:=by omega
     subst C;rw[(y _ V1).1,(y _ V1).2,cY V1,(I _ z E).2];refine⟨1,0,rfl,rfl,λh=>⟨λV=>(u (by rw[<-f];exact V)).elim,λ_=>⟨rfl, ?_⟩⟩⟩;rw[f,Zh]
end
def QH {l:List bz}(K:dt l<=4096)(B: ∀o∈l,0<=o.2.2.2.2/\o.2.2.2.2<=18446744073709551615):
  ∃r,kR l=O r/\r.1=(di l).1/\r.2.1=(di l).2/\(((di l).2≠0/\r.2.2=([],[]))∨((di l).2=0/\bu l 0=O 0/\(dt r.2.2.1)=dt l/\(dt r.2.2.2)=dt l/\∀j,j<dt l->∃a b,r.2.2.1[j]?=O a/\r.2.2.2[j]?=O b/\aJ1 l j a b)):=by
 have f:=wV V1 B;unfold gk at f;obtain⟨r,d,f⟩:=ah f;injection f with f
 refine⟨r,d,by rw[<-f],by rw[<-f], ?_⟩;unfold kR at d;have⟨m,E⟩:=zR (l:=l) V1;rw[E]at d;by_cases k:bu l 0=O 0
 .simp only[zE k]at d;simp only[zG]at d;rw[zA V2,zD,zB (show(0:Int)<=(dt l:Int)by omega),zB (show(dt l:Int)<=(dt l:Int)by omega),zB (show 8*(dt l:Int)<=140737488355328 by omega)]at d;have q: ∀{β:Type} {y:Option β},gd (dQ 1 (Sh.w (.int .i64))&&Za&&Za&&Za&&Nat.ble 1 8) y=y:=λ{β y}=>rfl
  rw[q,q]at d;cases u:Q9 l with
  |none=>
   have e:di l=(0,9):=by unfold di;rw[zE k,u]
   left;refine⟨by rw[e];simp, ?_⟩;obtain⟨c,J,d⟩:=ah d;obtain⟨p,D,d⟩:=ah d;rw[ag]at d;split at d
   .injection d with d
    rw[<-d]
   .rename_i M;exfalso;obtain⟨j,s,d⟩:=ah d;obtain⟨x,L,d⟩:=ah d;injection d with d
    rw[<-d,e]at f;injection f with _ f
    cases f
  |some t=>
   have⟨S',R',C,F,I,⟨Q,T⟩,N,z⟩:=VS (l:=l) V1 B _ [] l [] (bB (eL ((dt l:Int))) (0:Int)) (bB (eL ((dt l:Int))) (0:Int)) [] 0 0 t (aB _) V2 k u V2 V2 V2 V2 (λj _ s=>by
    rw[List.getElem?_replicate,zE (by simpa using s)]
    exact⟨rfl,rfl⟩)
   rw[show(dt ([]:List bz))+dt l=(dt l) by simp]at C z
   have h:am (cr l) cv ((0:Int),bB (eL ((dt l:Int))) (0:Int),bB (eL ((dt l:Int))) (0:Int),[((0:Int),(0:Int))])=O (0,S',R',[(0,0+t)]):=by
    have A:=C (18446744073709551616-dt l);rw[show 18446744073709551616-dt l+dt l=cv by unfold cv;omega,show 18446744073709551616-dt l=(18446744073709551615-dt l)+1 by omega]at A;refine A.trans ?_;rw[bm];simp only[cr];rw[Ze,zD];rfl
   rw[h,cN]at d;have d:(((ek (cond (Zc (65536<t)) (O (9:Int)) (O 0)) λp=>cond (Zc (p≠0)) (O ((0:Int),p,([]:Zd),([]:Zd))) (O (t,0,S',R')))))=O r:=d;rw[ag]at d;have e:di l=if 65536<t then(0,9)else(t,0):=by unfold di;rw[zE k,u]
   by_cases c:65536<t
   .rw[zE c]at d e;left;injection d with d
    rw[<-d,e];exact⟨V2,rfl⟩
   .rw[zF c]at d e;right;injection d with d
    rw[<-d,e];exact⟨rfl,k,F,I,λj s=>z j (cU _) s⟩
 .simp only[zF k]at d;left;have e:di l=(0,6):=by unfold di;rw[zF k]
  have d:O ((0:Int),(6:Int),([]:Zd),([]:Zd))=O r:=d;injection d with d
  rw[<-d,e];exact⟨V2,rfl⟩
abbrev xi :=Int×Int×Int×Int×Int×Int
inductive Fo where
 |nil
 |op (o:bz) (r:Fo)
 |rep (o:bz) (b:Fo) (e:bz) (r:Fo)
def Ae (o:bz):Nat:=eL o.2.2.2.2
def cj (o:bz)(b:Nat):xi:=(o.1,o.2.1,o.2.2.1,o.2.2.2.1,o.2.2.2.2,(b:Int))
namespace Fo
def src :Fo->List bz
 | .nil=>[]
 | .op o r=>o::r.src
 | .rep o b e r=>o::(b.src++e::r.src)
def Ok :Fo->Prop
 | .nil=>True
 | .op o r=>(0<o.1/\o.1<7)/\r.Ok
 | .rep o b e r=>(o.1=7/\e.1=0)/\b.Ok/\r.Ok
def n :Fo->Nat
 | .nil=>0
 | .op _ r=>1+r.n
 | .rep o b _ r=>b.n*Ae o+r.n
def len :Fo->Nat
 | .nil=>0
 | .op _ r=>r.len+1
 | .rep _ b _ r=>b.len+r.len+2
def hi :Fo->Nat
 | .nil=>0
 | .op _ r=>r.hi
 | .rep _ b _ r=>max (b.hi+1) r.hi
def bare :Fo->Fo
 | .nil=> .nil
 | .op o r=> .op o r.bare
 | .rep o b e r=>if b.n*Ae o=0 then r.bare else .rep o b.bare e r.bare
def unroll :Fo->List bz
 | .nil=>[]
 | .op o r=>o::r.unroll
 | .rep o b _ r=>(bB (Ae o) b.unroll).flatten++r.unroll
def code :Fo->Nat->List xi
 | .nil,_=>[]
 | .op o r,p=>cj o 0::r.code (p+1)
 | .rep o b e r,p=>cj o (p+b.len+2)::(b.code (p+1)++cj e (p+1)::r.code (p+b.len+2))
def Pos :Fo->Prop
 | .nil=>True
 | .op _ r=>r.Pos
 | .rep o b _ r=>0<b.n*Ae o/\b.Pos/\r.Pos
def steps :Fo->Nat
 | .nil=>0
 | .op _ r=>1+r.steps
 | .rep o b _ r=>1+Ae o*(b.steps+1)+r.steps
def src_len : ∀f:Fo,dt f.src=f.len
 | .nil=>rfl
 | .op o r=>by simp only[src,len,cD,src_len r]
 | .rep o b e r=>by simp only[src,len,cD,cM,src_len r,src_len b];omega
def code_len : ∀(f:Fo) (p:Nat),dt (f.code p)=f.len
 | .nil,_=>rfl
 | .op o r,p=>by simp only[code,len,cD,code_len r]
 | .rep o b e r,p=>by simp only[code,len,cD,cM,code_len r,code_len b];omega
def scan_src : ∀(f:Fo),f.Ok->∀(r:List bz) (d:Nat),bu (f.src++r) d=bu r d
 | .nil,_,r,d=>rfl
 | .op o f,h,r,d=>by
  have⟨j,c⟩:=h;simp only[src,cO,bu];rw[Zh,Zh,Zh];exact scan_src f c r d
 | .rep o b e f,h,r,d=>by
  have⟨⟨j,c⟩,k,p⟩:=h;simp only[src,cO,cK,bu];rw[Zh,Zh,zE j,scan_src b k];simp only[bu];rw[Zh,zE c,Zh];exact scan_src f p r d
def scan0 {f:Fo}(h:f.Ok):bu f.src 0=O 0:=by
 have:=scan_src f h [] 0;rw[dF]at this;exact this
def parse : ∀(N:Nat) (l:List bz),dt l<=N->bu l 0=O 0->∃f:Fo,f.Ok/\f.src=l
 |_,[],_,_=>⟨.nil,trivial,rfl⟩
 |0,o::l,h,_=>by simp at h
 |N+1,o::l,h,j=>by
  simp only[cD]at h;by_cases q:o.1=7
  .have s:bu l 1=O 0:=by
    simp only[bu]at j;rw[Zh,Zh,zE q]at j;exact j
   have⟨c,e,d,k,p,B,C⟩:=Dj _ l 0 (aB _) s;subst k;simp only[cM,cD]at h;have⟨b,z,A⟩:=parse N c V1 B;have⟨r,u,y⟩:=parse N d V1 C;exact⟨.rep o b e r,⟨⟨q,p⟩,z,u⟩,by simp only[src,A,y]⟩
  .obtain⟨k,p,_⟩:=NN j q;have⟨r,u,y⟩:=parse N l V1 k;exact⟨.op o r,⟨p,u⟩,by simp only[src,y]⟩
def Q9_n : ∀(f:Fo),f.Ok->(∀o∈f.src,0<=o.2.2.2.2)->∀{t:Int},Q9 f.src=O t->t=(f.n:Int)
 | .nil,_,_,t,h=>by
  injection h with h
  exact h.symm
 | .op o r,h,u,t,d=>by
  have⟨z,p⟩:=h;have A:=scan0 (f:= .op o r) ⟨z,p⟩;have⟨_,_,q⟩:=NN (o:=o) (s:=r.src) A V1;have d:Q9 (o::r.src)=O t:=d;rw[q]at d;cases k:Q9 r.src with
  |none=>rw[k]at d;cases d
  |some m=>
   rw[k]at d;injection d with d
   have:=Q9_n r p (λx y=>u x (List.mem_cons_of_mem _ y)) k;subst this;rw[<-d];show(1:Int)+(r.n:Int)=((1+r.n:Nat):Int);omega
 | .rep o b e r,h,u,t,d=>by
  have⟨⟨z,p⟩,q,C⟩:=h;have A:=scan0 (f:= .rep o b e r) ⟨⟨z,p⟩,q,C⟩;have⟨_,I⟩:=O1 (o:=o) (e:=e) (inner:=b.src) (rest:=r.src) A z p (scan0 q);have d:Q9 (o::(b.src++e::r.src))=O t:=d;rw[I]at d;obtain⟨w,J,d⟩:=ah d;obtain⟨c,j,d⟩:=ah d;cases k:Q9 r.src with
  |none=>rw[k]at d;cases d
  |some m=>
   rw[k]at d;injection d with d
   have D:=Q9_n r C (λx y=>u x (by simp only[src];simp[y])) k;have E:=Q9_n b q (λx y=>u x (by simp only[src];simp[y])) J;have B:0<=o.2.2.2.2:=u o (by simp[src])
   have F:c=(b.n:Int)*(Ae o:Int):=by
    unfold At at j;rw[E]at j;unfold Ae;rw[dW B];split at j
    .rename_i K;injection j with j
     rw[K,Int.zero_mul,j]
    split at j
    .cases j
    split at j
    .cases j
    .injection j with j
     exact j.symm
   rw[<-d,D,F];show(b.n:Int)*(Ae o:Int)+(r.n:Int)=((b.n*Ae o+r.n:Nat):Int);simp
def hmax_src : ∀(f:Fo),f.Ok->∀(r:List bz) (d m:Nat),hmax (f.src++r) d m=hmax r d (max m (if f.hi=0 then 0 else d+f.hi))
 | .nil,_,r,d,m=>by
  simp only[src,cR,hi,zE];rw[Nat.max_zero]
 | .op o f,h,r,d,m=>by
  have⟨j,c⟩:=h;simp only[src,cO,hmax,hi];rw[Zh,Zh];exact hmax_src f c r d m
 | .rep o b e f,h,r,d,m=>by
  have⟨⟨j,c⟩,p,q⟩:=h;simp only[src,cO,cK,hmax,hi];rw[zE j,hmax_src b p];simp only[hmax];rw[Zh,zE c,eS,hmax_src f q]
  congr 1
  have k:(if max (b.hi+1) f.hi=0 then 0 else d+max (b.hi+1) f.hi)=d+max (b.hi+1) f.hi:=zF V1;refine Eq.trans ?_ (congrArg (max m) k.symm);split<;>split<;>omega
def hi_le {f:Fo}(h:f.Ok):f.hi<=hmax f.src 0 0:=by
 have:=hmax_src f h [] 0 0;rw[dF]at this;rw[this];simp only[hmax];split<;>omega
def bare_n : ∀f:Fo,f.bare.n=f.n
 | .nil=>rfl
 | .op o r=>by simp only[bare,n,bare_n r]
 | .rep o b e r=>by
  simp only[bare,n];split
  .rename_i h;rw[h,bare_n r,cS]
  .simp only[n,bare_n b,bare_n r]
def unroll_len : ∀f:Fo,dt f.unroll=f.n
 | .nil=>rfl
 | .op o r=>by simp only[unroll,n,cD,unroll_len r];omega
 | .rep o b e r=>by
  simp only[unroll,n,cM,unroll_len r];rw[eN,eO,eR,unroll_len b,eG]
def bare_unroll : ∀f:Fo,f.bare.unroll=f.unroll
 | .nil=>rfl
 | .op o r=>by simp only[bare,unroll,bare_unroll r]
 | .rep o b e r=>by
  simp only[bare,unroll];split
  .rename_i h
   have c:dt ((bB (Ae o) b.unroll).flatten)=0:=by
    rw[eN,eO,eR,unroll_len b,eG,h]
   rw[List.eq_nil_of_length_eq_zero c,cR,bare_unroll r]
  .simp only[unroll,bare_unroll b,bare_unroll r]
def bare_ok : ∀f:Fo,f.Ok->f.bare.Ok
 | .nil,_=>trivial
 | .op o r,h=>⟨h.1,bare_ok r h.2⟩
 | .rep o b e r,h=>by
  simp only[bare];split
  .exact bare_ok r h.2.2
  .exact⟨h.1,bare_ok b h.2.1,bare_ok r h.2.2⟩
def bare_pos : ∀f:Fo,f.bare.Pos
 | .nil=>trivial
 | .op o r=>bare_pos r
 | .rep o b e r=>by
  simp only[bare];split
  .exact bare_pos r
  .rename_i h;exact⟨by rw[bare_n];omega,bare_pos b,bare_pos r⟩
def bare_hi : ∀f:Fo,f.bare.hi<=f.hi
 | .nil=>aB _
 | .op o r=>bare_hi r
 | .rep o b e r=>by
  simp only[bare,hi];have c:=bare_hi b;have d:=bare_hi r;split
  .omega
  .simp only[hi];omega
def bare_len : ∀f:Fo,f.bare.len<=f.len
 | .nil=>aB _
 | .op o r=>by simp only[bare,len];exact Nat.succ_le_succ (bare_len r)
 | .rep o b e r=>by
  simp only[bare,len];have c:=bare_len b;have d:=bare_len r;split
  .omega
  .simp only[len];omega
def bare_mem : ∀(f:Fo) {o:bz},o∈f.bare.src->o∈f.src
 | .nil,o,h=>h
 | .op o r,x,h=>by
  simp only[bare,src,eC]at h⊢;rcases h with h|h
  .exact .inl h
  .exact .inr (bare_mem r h)
 | .rep o b e r,x,h=>by
  simp only[bare]at h;split at h
  .simp only[src,eC,eP];exact .inr (.inr (.inr (bare_mem r h)))
  .simp only[src,eC,eP]at h⊢;rcases h with h|h|h|h
   .exact .inl h
   .exact .inr (.inl (bare_mem b h))
   .exact .inr (.inr (.inl h))
   .exact .inr (.inr (.inr (bare_mem r h)))
def steps_le : ∀f:Fo,f.Pos->f.steps<=(2*f.len+1)*f.n
 | .nil,_=>aB _
 | .op o r,h=>by
  have c:=steps_le r h;simp only[steps,len,n];rw[eF,dS];have:(2*r.len+1)*r.n<=(2*(r.len+1)+1)*r.n:=eH _ V1;omega
 | .rep o b e r,h=>by
  have⟨c,d,j⟩:=h;have p:=steps_le b d;have y:=steps_le r j;simp only[steps,len,n]
  have s:0<Ae o:=by
   rcases dR (Ae o)with h0|h0
   .rw[h0]at c;simp at c
   .exact h0
  have k:0<b.n:=by
   rcases dR b.n with h0|h0
   .rw[h0]at c;simp at c
   .exact h0
  have u:Ae o<=b.n*Ae o:=Nat.le_mul_of_pos_left _ k
  have z:Ae o*(b.steps+1)<=(2*b.len+1)*(b.n*Ae o)+b.n*Ae o:=by
   rw[eF,dS];have:Ae o*b.steps<=Ae o*((2*b.len+1)*b.n):=Nat.mul_le_mul_left _ p
   have q:Ae o*((2*b.len+1)*b.n)=(2*b.len+1)*(b.n*Ae o):=by
    rw[eG,Nat.mul_assoc]
   omega
  have A:(2*r.len+1)*r.n<=(2*(b.len+r.len+2)+1)*r.n:=eH _ V1;have B:(2*b.len+3)*(b.n*Ae o)<=(2*(b.len+r.len+2)+1)*(b.n*Ae o):=eH _ V1
  have C:(2*b.len+3)*(b.n*Ae o)=(2*b.len+1)*(b.n*Ae o)+b.n*Ae o+b.n*Ae o:=by
   rw[show 2*b.len+3=(2*b.len+1)+1+1 by omega,Nat.add_mul,Nat.add_mul,Nat.one_mul]
  rw[eF (2*(b.len+r.len+2)+1)];generalize Ae o*(b.steps+1)=D at*;generalize (2*(b.len+r.len+2)+1)*(b.n*Ae o)=E at*;generalize (2*(b.len+r.len+2)+1)*r.n=F at*;generalize (2*r.len+1)*r.n=I at*;generalize (2*b.len+3)*(b.n*Ae o)=J at*;generalize (2*b.len+1)*(b.n*Ae o)=K at*;omega
end Fo
def upd (l:Nat->Int)(j:Nat)(v:Int):Nat->Int:=λi=>cond (dQ j i) v (l i)
def oZ (l:Nat->Int)(j:Nat)(v:Int):upd l j v j=v:=by
 unfold upd;rw[Nat.beq_refl];rfl
def Jm {l:Nat->Int}{j:Nat}(h:i≠j):upd l j v i=l i:=by
 unfold upd;cases b:dQ j i with
 |true=>exact(h (Nat.eq_of_beq_eq_true b).symm).elim
 |false=>rfl
def Sj (o:bz):Prop:=0<=o.2.2.2.2/\o.2.2.2.2<=18446744073709551615
structure Runs {Z γ S:Type}(g:Z->Option (Z⊕γ))(code:List xi)(st:Nat->Nat->(Nat->Int)->S->Z)(stp:bz->S->S)(Vd:Nat->S->Prop)(good:bz->Prop):Prop where
 op: ∀{p d l s m o to},code[p]?=O (cj o to)->good o->(0<o.1/\o.1<7)->d<=8->Vd (1+m) s->g (st p d l s)=O (.inl (st (p+1) d l (stp o s)))/\Vd m (stp o s)
 rep: ∀{p d l s m o to},code[p]?=O (cj o to)->o.1=7->d<8->Vd m s->g (st p d l s)=O (.inl (st (p+1) (d+1) (upd l d o.2.2.2.2) s))
 nxt: ∀{p d l s m e to},code[p]?=O (cj e to)->e.1=0->d<8->1<l d->l d<=18446744073709551615->Vd m s->g (st p (d+1) l s)=O (.inl (st to (d+1) (upd l d (l d-1)) s))
 out: ∀{p d l s m e to},code[p]?=O (cj e to)->e.1=0->d<8->l d=1->Vd m s->g (st p (d+1) l s)=O (.inl (st (p+1) d (upd l d (l d-1)) s))
section
variable {Z γ S:Type} {g:Z->Option (Z⊕γ)} {code:List xi} {st:Nat->Nat->(Nat->Int)->S->Z} {stp:bz->S->S} {Vd:Nat->S->Prop} {good:bz->Prop}
def Ud (stp:bz->S->S)(l:List bz)(s:S):S:=l.foldl (λs o=>stp o s) s
def VE (l r:List bz)(s:S):Ud stp (l++r) s=Ud stp r (Ud stp l s):=List.foldl_append
def FA {A B:List xi}{x:xi}{r:List xi}{p:Nat}(b:code=A++(x::r)++B)(c:dt A=p):code[p]?=O x:=by
 subst c;rw[b,cK,cL (aB _),bD];rfl
def rounds (C:Runs g code st stp Vd good){p q d t n:Nat}{e:bz}{u:List bz}(A:d<8)(b:code[q]?=O (cj e p))(B:e.1=0)
  (z: ∀(l:Nat->Int) (s:S) (m:Nat),Vd (n+m) s->∃l',(∀i,i<d+1->l' i=l i)/\Reach g t (st p (d+1) l s) (st q (d+1) l' (Ud stp u s))/\Vd m (Ud stp u s)):
  ∀(k:Nat) (l:Nat->Int) (s:S) (m:Nat),k<18446744073709551615->l d=((k+1:Nat):Int)->Vd (n*(k+1)+m) s->
   ∃l',(∀i,i<d->l' i=l i)/\Reach g ((k+1)*(t+1)) (st p (d+1) l s) (st (q+1) d l' (Ud stp (bB (k+1) u).flatten s))/\Vd m (Ud stp (bB (k+1) u).flatten s)
 |0,l,s,m,K,D,o=>by
  have⟨c,h,r,j⟩:=z l s m (by rw[cS,dS]at o;exact o);have E:(bB (0+1) u).flatten=u:=by simp
  rw[E];have f:c d=1:=by rw[h d V1,D];rfl
  refine⟨upd c d (c d-1),λi hi=>by rw[Jm V1,h i V1], ?_,j⟩;have y:=r.trans (Reach.one (C.out (l:=c) b B A f j));rw[show(0+1)*(t+1)=t+1 by omega];exact y
 |k+1,l,s,m,K,D,o=>by
  have L:n*(k+1+1)+m=n+(n*(k+1)+m):=by rw[Nat.mul_succ n (k+1)];omega
  rw[L]at o;have⟨c,h,r,j⟩:=z l s _ o;have f:c d=((k+1+1:Nat):Int):=by rw[h d V1,D]
  have y:=r.trans (Reach.one (C.nxt (l:=c) b B A V1 V1 j));have⟨M,F,I,J⟩:=rounds C A b B z k (upd c d (c d-1)) (Ud stp u s) m V1 (by rw[oZ,f];omega) j;have E:(bB (k+1+1) u).flatten=u++(bB (k+1) u).flatten:=by rw[List.replicate_succ,List.flatten_cons]
  rw[E,VE];refine⟨M,λi hi=>by rw[F i hi,Jm V1,h i V1], ?_,J⟩;rw[show(k+1+1)*(t+1)=t+1+(k+1)*(t+1)by rw[Nat.succ_mul (k+1)];omega];exact y.trans I
def MK (C:Runs g code st stp Vd good): ∀(f:Fo) {A B:List xi} {p d:Nat} {l:Nat->Int} {s:S} {m:Nat},code=A++f.code p++B->dt A=p->f.Ok->f.Pos->d+f.hi<=8->(∀o∈f.src,good o/\Sj o)->Vd (f.n+m) s->
  ∃l',(∀i,i<d->l' i=l i)/\Reach g f.steps (st p d l s) (st (p+f.len) d l' (Ud stp f.unroll s))/\Vd m (Ud stp f.unroll s)
 | .nil,A,B,p,d,l,s,m,y,z,h,J,E,c,j=>by
  refine⟨l,λ_ _=>rfl,Reach.refl, ?_⟩;have:Fo.nil.n+m=m:=cS m;rw[this]at j;exact j
 | .op o r,A,B,p,d,l,s,m,y,z,h,J,E,c,j=>by
  simp only[Fo.n,Nat.add_assoc]at j;simp only[Fo.hi]at E;have⟨K,L⟩:=C.op (d:=d) (l:=l) (FA y z) (c o ZX).1 h.1 V1 j;have T:dt (A++[cj o 0])=p+1:=by simp[z]
  have⟨l',M,N,Q⟩:=MK C r (A:=A++[cj o 0]) (B:=B) (p:=p+1) (d:=d) (l:=l) (by rw[y];simp[Fo.code]) T h.2 J E (λx I=>c x (by simp[Fo.src,I])) L;refine⟨l',M, ?_,Q⟩;have:=(Reach.one K).trans N;simp only[Fo.steps,Fo.len];rw[show p+(r.len+1)=p+1+r.len by omega];exact this
 | .rep o b e r,A,B,p,d,l,s,m,y,z,h,J,E,c,j=>by
  have⟨⟨k1,k2⟩,k3,k4⟩:=h;have⟨q1,q2,q3⟩:=J;simp only[Fo.n,Nat.add_assoc]at j;simp only[Fo.hi]at E;have F:=(c o ZX).2;unfold Sj at F;have hvo:((Ae o:Nat):Int)=o.2.2.2.2:=dW F.1
  have hv0:0<Ae o:=by
   rcases dR (Ae o)with h0|h0
   .rw[h0]at q1;simp at q1
   .exact h0
  obtain⟨k,h⟩: ∃k,Ae o=k+1:=⟨Ae o-1,V1⟩
  have K:=C.rep (d:=d) (l:=l) (FA y z) k1 V1 j;have T:dt (A++[cj o (p+b.len+2)])=p+1:=by simp[z]
  have X:code=(A++[cj o (p+b.len+2)])++b.code (p+1)++(cj e (p+1)::r.code (p+b.len+2)++B):=by rw[y];simp[Fo.code]
  have hce:code=(A++cj o (p+b.len+2)::b.code (p+1))++(cj e (p+1)::r.code (p+b.len+2))++B:=by rw[y];simp[Fo.code]
  have V:dt (A++cj o (p+b.len+2)::b.code (p+1))=p+1+b.len:=by simp[z,Fo.code_len];omega
  have D:=FA hce V
  have⟨l1,L,M,N⟩:=rounds C (p:=p+1) (q:=p+1+b.len) (d:=d) (t:=b.steps) (n:=b.n) (e:=e) (u:=b.unroll) V1 D k2
   (λl s m hm=>MK C b X T k3 q2 V1 (λx I=>c x (by simp[Fo.src,I])) hm) k (upd l d o.2.2.2.2) s (r.n+m) V1 (by rw[oZ,<-hvo,h]) (by rw[<-h];exact j)
  have hcr:code=(A++cj o (p+b.len+2)::(b.code (p+1)++[cj e (p+1)]))++r.code (p+b.len+2)++B:=by rw[y];simp[Fo.code]
  have W:dt (A++cj o (p+b.len+2)::(b.code (p+1)++[cj e (p+1)]))=p+b.len+2:=by simp[z,Fo.code_len];omega
  have⟨l2,Q,h6,h7⟩:=MK C r (d:=d) (l:=l1) hcr W k4 q3 V1 (λx I=>c x (by simp[Fo.src,I])) N;simp only[Fo.unroll,Fo.steps,Fo.len];rw[VE,h];refine⟨l2,λi hi=>by rw[Q i hi,L i hi,Jm V1], ?_,h7⟩;have h8:=((Reach.one K).trans M).trans (show Reach g r.steps (st (p+1+b.len+1) d l1 _) _ from by rw[show p+1+b.len+1=p+b.len+2 by omega];exact h6);rw[show p+(b.len+r.len+2)=p+b.len+2+r.len by omega];exact h8
end
structure Backs {Z γ S:Type}(g:Z->Option (Z⊕γ))(code:List xi)(st:Nat->Nat->(Nat->Int)->S->Z)(stp:bz->S->S)(Vd:Nat->S->Prop)(good:bz->Prop):Prop where
 op: ∀{p d l s m o to},code[p]?=O (cj o to)->good o->(0<o.1/\o.1<7)->d<=8->Vd (1+m) s->g (st (p+1) d l s)=O (.inl (st p d l (stp o s)))/\Vd m (stp o s)
 rep: ∀{p q d l s m o e to},code[p]?=O (cj e (q+1))->e.1=0->code[q]?=O (cj o to)->d<8->Vd m s->g (st (p+1) d l s)=O (.inl (st p (d+1) (upd l d o.2.2.2.2) s))
 nxt: ∀{p d l s m o to},code[p]?=O (cj o (to+1))->to<=dt code->o.1=7->d<8->1<l d->l d<=18446744073709551615->Vd m s->g (st (p+1) (d+1) l s)=O (.inl (st to (d+1) (upd l d (l d-1)) s))
 out: ∀{p d l s m o to},code[p]?=O (cj o (to+1))->o.1=7->d<8->l d=1->Vd m s->g (st (p+1) (d+1) l s)=O (.inl (st p d (upd l d (l d-1)) s))
section
variable {Z γ S:Type} {g:Z->Option (Z⊕γ)} {code:List xi} {st:Nat->Nat->(Nat->Int)->S->Z} {stp:bz->S->S} {Vd:Nat->S->Prop} {good:bz->Prop}
def Nu (stp:bz->S->S)(l:List bz)(s:S):S:=l.foldr stp s
def Vp (l r:List bz)(s:S):Nu stp (l++r) s=Nu stp l (Nu stp r s):=List.foldr_append
def Wk (B:Backs g code st stp Vd good){p q d t n:Nat}{o:bz}{u:List bz}(F:q<=dt code)(A:d<8)(b:code[p]?=O (cj o (q+1)))(D:o.1=7)
  (z: ∀(l:Nat->Int) (s:S) (m:Nat),Vd (n+m) s->∃l',(∀i,i<d+1->l' i=l i)/\Reach g t (st q (d+1) l s) (st (p+1) (d+1) l' (Nu stp u s))/\Vd m (Nu stp u s)):
  ∀(k:Nat) (l:Nat->Int) (s:S) (m:Nat),k<18446744073709551615->l d=((k+1:Nat):Int)->Vd (n*(k+1)+m) s->
   ∃l',(∀i,i<d->l' i=l i)/\Reach g ((k+1)*(t+1)) (st q (d+1) l s) (st p d l' (Nu stp (bB (k+1) u).flatten s))/\Vd m (Nu stp (bB (k+1) u).flatten s)
 |0,l,s,m,L,C,j=>by
  have⟨c,f,r,h⟩:=z l s m (by rw[cS,dS]at j;exact j);have E:(bB (0+1) u).flatten=u:=by simp
  rw[E];have e:c d=1:=by rw[f d V1,C];rfl
  refine⟨upd c d (c d-1),λi hi=>by rw[Jm V1,f i V1], ?_,h⟩;have y:=r.trans (Reach.one (B.out (l:=c) b D A e h));rw[show(0+1)*(t+1)=t+1 by omega];exact y
 |k+1,l,s,m,L,C,j=>by
  have M:n*(k+1+1)+m=n+(n*(k+1)+m):=by rw[Nat.mul_succ n (k+1)];omega
  rw[M]at j;have⟨c,f,r,h⟩:=z l s _ j;have e:c d=((k+1+1:Nat):Int):=by rw[f d V1,C]
  have y:=r.trans (Reach.one (B.nxt (l:=c) b F D A V1 V1 h));have⟨N,I,J,K⟩:=Wk B F A b D z k (upd c d (c d-1)) (Nu stp u s) m V1 (by rw[oZ,e];omega) h;have E:(bB (k+1+1) u).flatten=(bB (k+1) u).flatten++u:=by rw[eQ,List.flatten_append];simp
  rw[E,Vp];refine⟨N,λi hi=>by rw[I i hi,Jm V1,f i V1], ?_,K⟩;rw[show(k+1+1)*(t+1)=t+1+(k+1)*(t+1)by rw[Nat.succ_mul (k+1)];omega];exact y.trans J
def Hx (E:Backs g code st stp Vd good): ∀(f:Fo) {A B:List xi} {p d:Nat} {l:Nat->Int} {s:S} {m:Nat},code=A++f.code p++B->A.length=p->f.Ok->f.Pos->d+f.hi<=8->(∀o∈f.src,good o/\Sj o)->Vd (f.n+m) s->
  ∃l',(∀i,i<d->l' i=l i)/\Reach g f.steps (st (p+f.len) d l s) (st p d l' (Nu stp f.unroll s))/\Vd m (Nu stp f.unroll s)
 | .nil,A,B,p,d,l,s,m,y,C,h,K,F,c,D=>by
  refine⟨l,λ_ _=>rfl,Reach.refl, ?_⟩;have:Fo.nil.n+m=m:=cS m;rw[this]at D;exact D
 | .op o r,A,B,p,d,l,s,m,y,C,h,K,F,c,D=>by
  simp only[Fo.n]at D;simp only[Fo.hi]at F;have V:(A++[cj o 0]).length=p+1:=by simp[C]
  obtain⟨l',N,Q,T⟩:=Hx E r (A:=A++[cj o 0]) (B:=B) (p:=p+1) (d:=d) (l:=l) (m:=1+m) (by rw[y];simp[Fo.code]) V h.2 K F (λx J=>c x (by simp[Fo.src,J])) (by rw[show r.n+(1+m)=1+r.n+m by omega];exact D);obtain⟨L,M⟩:=E.op (d:=d) (l:=l') (FA y C) (c o ZX).1 h.1 V1 T;refine⟨l',N, ?_,M⟩;have:=Q.trans (Reach.one L);simp only[Fo.steps,Fo.len];rw[show p+(r.len+1)=p+1+r.len by omega,Nat.add_comm 1];exact this
 | .rep o b e r,A,B,p,d,l,s,m,y,C,h,K,F,c,D=>by
  obtain⟨⟨k1,k2⟩,k3,k4⟩:=h;obtain⟨q1,q2,q3⟩:=K;simp only[Fo.n]at D;simp only[Fo.hi]at F;have I:=(c o ZX).2;unfold Sj at I;have hvo:((Ae o:Nat):Int)=o.2.2.2.2:=dW I.1
  have hv0:0<Ae o:=by
   rcases dR (Ae o)with h0|h0
   .rw[h0]at q1;simp at q1
   .exact h0
  obtain⟨k,h⟩: ∃k,Ae o=k+1:=⟨Ae o-1,V1⟩
  have j:=FA y C;have V:(A++[cj o (p+b.len+2)]).length=p+1:=by simp[C]
  have hcb:code=(A++[cj o (p+b.len+2)])++b.code (p+1)++(cj e (p+1)::r.code (p+b.len+2)++B):=by rw[y];simp[Fo.code]
  have hce:code=(A++cj o (p+b.len+2)::b.code (p+1))++(cj e (p+1)::r.code (p+b.len+2))++B:=by rw[y];simp[Fo.code]
  have W:(A++cj o (p+b.len+2)::b.code (p+1)).length=p+1+b.len:=by simp[C,Fo.code_len];omega
  have z:=FA hce W;have hcr:code=(A++cj o (p+b.len+2)::(b.code (p+1)++[cj e (p+1)]))++r.code (p+b.len+2)++B:=by rw[y];simp[Fo.code]
  have X:(A++cj o (p+b.len+2)::(b.code (p+1)++[cj e (p+1)])).length=p+b.len+2:=by simp[C,Fo.code_len];omega
  obtain⟨l2,T,h6,h7⟩:=Hx E r (d:=d) (l:=l) (m:=b.n*Ae o+m) hcr X k4 q3 V1 (λx J=>c x (by simp[Fo.src,J])) (by rw[show r.n+(b.n*Ae o+m)=b.n*Ae o+r.n+m by omega];exact D);have L:=E.rep (d:=d) (l:=l2) z k2 j V1 h7
  obtain⟨l1,M,N,Q⟩:=Wk E (p:=p) (q:=p+1+b.len) (d:=d) (t:=b.steps) (n:=b.n) (o:=o) (u:=b.unroll) (Nat.le_of_lt (List.getElem?_eq_some_iff.1 z).1) V1 (by rw[j];congr 2;omega) k1
   (λl s m hm=>Hx E b hcb V k3 q2 V1 (λx J=>c x (by simp[Fo.src,J])) hm) k (upd l2 d o.2.2.2.2) _ m V1 (by rw[oZ,<-hvo,h]) (by rw[<-h];exact h7)
  simp only[Fo.unroll,Fo.steps,Fo.len];rw[Vp,h];refine⟨l1,λi hi=>by rw[M i hi,Jm V1,T i hi], ?_,Q⟩;have h8:=(h6.trans (show Reach g 1 _ _ from by rw[show p+b.len+2=p+1+b.len+1 by omega];exact Reach.one L)).trans N;rw[show p+(b.len+r.len+2)=p+b.len+2+r.len by omega,show 1+(k+1)*(b.steps+1)+r.steps=r.steps+1+(k+1)*(b.steps+1)by omega];exact h8
end
end
end Go.V
