/- A part of the proof. No condition. -/
import Derived.Test.YtknphpcjacoaeaaGreatD3
import Derived.Test.YtknphpcjacoaeaaGreatA9
import Derived.KernelRfl
set_option linter.unusedVariables false
set_option linter.unusedSimpArgs false
set_option linter.unusedSectionVars false
namespace Go.V
open Go.Ab
open Option renaming some->O,none->Y
open Bool renaming true->Za,false->Zb
open Decidable renaming decide->Zc
variable {i t x:Nat}{a v w:Int}{out rds st:Zd}
section
open Go.IntKind renaming wrap -> zH, i64 -> zI, u64 -> zJ
open Bool renaming not_true -> iM
open Int renaming zero_add -> fB, add_assoc -> iA, mul_comm -> iF, mul_nonneg -> iG, add_zero -> iN, ediv_le_self -> iO, ediv_nonneg -> iP, le_refl -> iQ, mul_le_mul_of_nonneg_left -> iR, mul_ediv_self_le -> lD, toNat_of_nonneg -> lE, eq_ofNat_of_zero_le -> lO, toNat_natCast -> lP
open List renaming getElem?_eq_getElem -> aD, replicate -> bB, getElem?_set_ne -> cB, length_cons -> cD, append_assoc -> dB, getElem?_append_right -> dD, length_append -> eD, range -> fD, cons_append -> gB, getElem_mem -> gD, nil_append -> iB, getElem_cons_drop -> iD, drop_length -> iH, getD -> iI, getElem?_set_self -> iJ, length -> iK, map_append -> iL, append_nil -> iS, drop_append -> iT, drop_of_length_le -> iU, getElem?_drop -> iV, length_drop -> iW, range_succ -> iX, set -> iY, set_append_right -> iZ, take_append_drop -> jB, take_left' -> jD, any_cons -> lF, any_nil -> lG, dropLast_concat_getLast -> lH, length_take -> lI, mem_cons -> lJ, take_succ_eq_append_getElem -> lK, getElem?_cons_zero -> lQ, length_flatten -> lR, map_replicate -> lS, mem_append -> lT, replicate_succ' -> lU, sum_replicate_nat -> lV
open Nat renaming le_refl -> aB, sub_self -> bD, zero_add -> iC, zero_le -> iE, beq -> kB, eq_zero_or_pos -> kD, mul_one -> lB, mul_add -> lL, mul_comm -> lM, mul_le_mul_right -> lN, add_sub_cancel -> lW
set_option maxRecDepth 100000
abbrev bu :=Int×Int×Int×Int×Int
def br :List bu->Nat->Option Nat
 |[],d=>O d
 |o::r,d=>if o.1<0∨7<o.1 then Y else if o.1=0 then(if d=0 then Y else br r (d-1))else if o.1=7 then br r (d+1)else br r d
theorem vy : ∀(l r:List bu) (d:Nat),br (l++r) d=(br l d).bind (br r)
 |[],r,d=>rfl
 |o::l,r,d=>by
  simp only[gB,br];split
  .rfl
  split
  .split
   .rfl
   .exact vy l r _
  split
  .exact vy l r _
  .exact vy l r _
theorem LL : ∀(l:List bu) (d e:Nat),br l d=O e->br l (d+1)=O (e+1)
 |[],d,e,h=>by
  injection h with h
  subst h;rfl
 |o::l,d,e,h=>by
  simp only[br]at h⊢;split at h
  .cases h
  rename_i c;rw[zF c];split at h
  .rename_i f;rw[zE f];split at h
   .cases h
   .rename_i b;rw[Zh];have:=LL l _ _ h
    rwa [show d-1+1=d+1-1 by omega]at this
  rename_i f;rw[zF f];split at h
  .rename_i b;rw[zE b];exact LL l _ _ h
  .rename_i b;rw[zF b];exact LL l _ _ h
def aY4 (l:List bu)(s:Int×Bool×(Zd)×(Zd)×Zd):Prop:=
 ∃(i:Nat) (out st:Zd),i<=l.length/\s=((i:Int),Za,out,st,st)/\out.length=l.length/\(∀x∈st,0<=x/\x<l.length)/\st.length<=i/\br (l.drop i) st.length=br l 0
theorem aN7 (h:st≠[]): ∃pre x,st=pre++[x]:=⟨st.dropLast,st.getLast h,(lH h).symm⟩
theorem XY {l:List bu}(J:l.length<=100000)(s:Int×Bool×(Zd)×(Zd)×Zd)(h:aY4 l s):
  (∃b,cq l s=O (.inl b)/\aY4 l b/\l.length-b.1.toNat<l.length-s.1.toNat)∨∃c,cq l s=O (.inr c)/\((c.1=Zb/\br l 0=Y)∨(c.1=Za/\br l 0=O c.2.2.1.length)):=by
 obtain⟨i,out,st,hi,rfl,A,j,B,d⟩:=h;by_cases c:i<l.length
 .have o:l.drop i=l[i]::l.drop (i+1):=(iD c).symm;rw[o]at d;simp only[cq];rw[zB (show(i:Int)<(l.length:Int)by omega),zC,bh c];simp only[zG];generalize L:l[i]=x at*;simp only[br]at d;by_cases D:x.1<0
  .rw[zE (.inl D)]at d;rw[zB D];simp only[zC,zG,ej];exact .inr ⟨_,rfl, .inl ⟨rfl,d.symm⟩⟩
  rw[zA D,zD];by_cases k:7<x.1
  .rw[zE (.inr k)]at d;rw[zB k];simp only[zC,zG,bg,ej];exact .inr ⟨_,rfl, .inl ⟨rfl,d.symm⟩⟩
  rw[zA k,zD];rw[Zh]at d;by_cases u:x.1=0
  .rw[zE u]at d;rw[zB u];simp only[zC,zG,bg];by_cases p:st.length=0
   .rw[zE p]at d;rw[zB (show(st.length:Int)=0 by omega)];simp only[zC,zG,ej];exact .inr ⟨_,rfl, .inl ⟨rfl,d.symm⟩⟩
   .rw[zF p]at d;rw[zA (show¬(st.length:Int)=0 by omega),zD];rw[ad (n:=(st.length:Int)-1) (by omega),Zk,bw];simp only[zG,bg];obtain⟨pre,q,rfl⟩:=aN7 (st:=st) (by intro e;subst e;exact p rfl);have H:=j q (by simp);have f:(pre++[q]).length=pre.length+1:=by simp
    have K:(((pre++[q]).length:Int)-1).toNat-0=pre.length:=by rw[f];omega
    have E:Zc (x.1=7)=Zb:=zA (by omega);rw[bi (show i<out.length by omega)];simp only[zG];rw[aD (show i<out.length by omega)];simp only[zG];rw[E,zD,show((pre++[q]).length:Int)-1=(pre.length:Int)by rw[f];omega,bi (show pre.length<(pre++[q]).length by omega)];simp only[zG];rw[dD (aB _),bD];simp only[lQ,zG];rw[bw,bi (show i<(out.set i (-1)).length by simp;omega)];simp only[zG];rw[aD (show i<(out.set i (-1)).length by simp;omega)];simp only[zG];obtain⟨r,rfl⟩:=lO H.1;have I:r<out.length:=by omega
    rw[bi (show r<((out.set i (-1)).set i ((r:Nat):Int)).length by simp;omega)];simp only[zG];rw[aD (show r<((out.set i (-1)).set i ((r:Nat):Int)).length by simp;omega)];simp only[zG]
    have C:(pre++[(r:Int)]).take ((pre.length:Int).toNat-0)=pre:=by
     rw[show(pre.length:Int).toNat-0=pre.length by omega,jD];rfl
    rw[C,ad (n:=(i:Int)+1) (by omega)];refine .inl ⟨_,rfl,⟨i+1,_,pre,c,rfl,by simp[A],λy hy=>j y (by simp[hy]),by rw[f]at B;omega, ?_⟩,by simp;omega⟩;rw[f]at d;exact d
  .rw[zF u]at d;have F:Zc (x.1=0)=Zb:=zA u;rw[F];simp only[zD,zG,bg];rw[bi (show i<out.length by omega)];simp only[zG];rw[aD (show i<out.length by omega)];simp only[zG];by_cases k:x.1=7
   .rw[zE k]at d;rw[zB k];simp only[zC];rw[ca (by omega) (by omega),ca (by omega) (by omega),ad (n:=(i:Int)+1) (by omega)];refine .inl ⟨_,rfl,⟨i+1,_,st++[(i:Int)],c,rfl,by simp[A],λy hy=> ?_,by simp;omega, ?_⟩,by simp;omega⟩
    .rcases List.mem_append.1 hy with hy|hy
     .exact j y hy
     .simp at hy;subst hy;omega
    .rw[eD];exact d
   .rw[zF k]at d;rw[zA k];simp only[zD];rw[ad (n:=(i:Int)+1) (by omega)];exact .inl ⟨_,rfl,⟨i+1,_,st,c,rfl,by simp[A],j,by omega,d⟩,by simp;omega⟩
 .have z:i=l.length:=by omega
  subst z;rw[iH]at d;simp only[cq];rw[zA (show¬(l.length:Int)<(l.length:Int)by omega),zD];exact .inr ⟨_,rfl, .inr ⟨rfl,d.symm⟩⟩
theorem Kp {l:List bu}(o:l.length<=100000): ∃m,pv l=O (if br l 0=O 0 then 0 else 6,m):=by
 unfold pv;rw[zB (show(0:Int)<=(l.length:Int)by omega),zB (show(l.length:Int)<=(l.length:Int)by omega),zB (show 8*(l.length:Int)<=140737488355328 by omega)];show∃m,gd Za _=_
 rw[bw]
 obtain⟨c,k,h⟩:=qR (f:=cq l) (a:=((0:Int),Za,bB ((l.length:Int)).toNat (0:Int),([]:Zd),([]:Zd))) (aY4 l) (λs=>l.length-s.1.toNat) (λc=>(c.1=Zb/\br l 0=Y)∨(c.1=Za/\br l 0=O c.2.2.1.length))
  ⟨0,_,[],iE _,rfl,by simp,(λx q=>by cases q),aB _,rfl⟩ (by simp;omega) (λs p=>XY o s p)
 rw[k];simp only[zG];rcases h with⟨b,d⟩|⟨b,d⟩
 .rw[b,d];exact⟨_,rfl⟩
 .rw[b,d,zC];by_cases j:c.2.2.1.length=0
  .rw[zB (show(c.2.2.1.length:Int)=0 by omega),zE (by rw[j])];exact⟨_,rfl⟩
  .rw[zA (show¬(c.2.2.1.length:Int)=0 by omega),zF (by intro e;injection e with e;exact j e)];exact⟨_,rfl⟩
def DA (w v:Int):Option Int:=if w=0 then O 0 else if 65536<w then Y else if 65536 / w<v then Y else O (w*v)
def wj :List bu->List (Int×Int)->Option (List (Int×Int))
 |[],st=>O st
 |o::r,(v,w)::st=>if o.1=7 then wj r ((o.2.2.2.2,0)::(v,w)::st)else if o.1=0 then(match DA w v,st with
   |some n,(c,d)::b=>wj r ((c,d+n)::b)
   |_,_=>Y)
  else wj r ((v,w+1)::st)
 |_::_,[]=>Y
theorem Qy (s:0<=w/\w<=10000000000)(f:0<=v/\v<=18446744073709551615):xI w v=O (match DA w v with
  |some n=>(n,Za)
  |none=>(0,Zb)):=by
 unfold xI DA;simp only[ag];by_cases b:w=0
 .rw[zE b,zE b]
 rw[zF b,zF b];by_cases c:65536<w
 .rw[zE c,zE c]
 rw[zF c,zF c,zB (show w≠0 from b),bw,ac8 (by omega)];have h:0<=65536 / w:=iP (by omega) (by omega);have j:65536 / w<=65536:=iO _ (by omega);rw[ad (n:=65536 / w) (by omega),Zj];by_cases d:65536 / w<v
 .rw[zE d,zE d]
 .rw[zF d,zF d]
  have o:w*v<=65536:=by
   have e:v<=65536 / w:=by omega
   have p:=iR e (show 0<=w by omega);have q:=lD (x:=65536) (k:=w) (by omega);omega
  have r:=iG (show 0<=w by omega) f.1;rw[ad (n:=v) (by omega),ad (n:=w*v) (by omega)]
theorem La {n:Int}(d:0<=w)(c:0<=v)(h:DA w v=O n):0<=n/\n<=65536:=by
 unfold DA at h;split at h
 .injection h with h;subst h;omega
 split at h
 .cases h
 split at h
 .cases h
 rename_i e f j;injection h with h
 subst h;have b:v<=65536 / w:=by omega
 have o:=iR b (show 0<=w by omega);have p:=lD (x:=65536) (k:=w) (by omega);exact⟨iG d c,by omega⟩
theorem J2 {k:Int}(h:0<k/\k<7)(d a b v:Int):ny k d a b v=O (d,Za):=by
 unfold ny wu;simp only[ag];have:k=1∨k=2∨k=3∨k=4∨k=5∨k=6:=by omega
 rcases this with rfl|rfl|rfl|rfl|rfl|rfl<;>rfl
theorem WO (a b:Int)(e:0<=a/\a<=1000000000000)(j:0<=b/\b<=65536):Cp [a,b]=O (a+b):=by
 unfold Cp
 have d:am (Ei [a,b]) cj (0,0)=O (a+b):=by
  have h:=cx (f:=Ei [a,b]) (n:=2) (λi=>match i with|0=>0|1=>a|_=>a+b) (c:=a+b) (by omega) ?_ ?_
  .exact h
  .intro i hi
   match i,hi with
   |0,_=>
    show O (Sum.inl (zH zI 1,zH zI (0+a)))=_;rw[Zi,Zi,fB];rfl
   |1,_=>
    show O (Sum.inl (zH zI 2,zH zI (a+b)))=_;rw[Zi,Zi];rfl
  .rfl
 rw[d];rfl
def aN6 (l:List bu)(op:List (Int×Int)):List (Int×Int):=op.reverse.map λp=>((l.getD p.1.toNat (0,0,0,0,0)).2.2.2.2,p.2)
theorem Cg (l:List bu)(pre:List (Int×Int))(p:Int×Int):aN6 l (pre++[p])=((l.getD p.1.toNat (0,0,0,0,0)).2.2.2.2,p.2)::aN6 l pre:=by
 unfold aN6;rw[List.reverse_append,iL];rfl
def aY7 (l:List bu)(s:Int×(Zd)×(Zd)×List (Int×Int)):Prop:=
 ∃(i:Nat) (sz rd:Zd) (b:List (Int×Int)),i<=l.length/\s=((i:Int),sz,rd,b)/\sz.length=l.length/\rd.length=l.length/\b≠[]/\b.length<=i+1/\(∀p∈b,0<=p.1/\p.1<max (l.length:Int) 1/\0<=p.2/\p.2<=65537*i)/\
  br (l.drop i) (b.length-1)=O 0/\wj (l.drop i) (aN6 l b)=wj l [((l.getD 0 (0,0,0,0,0)).2.2.2.2,0)]
theorem Y5 {l:List bu}(h:i<l.length):l.getD i (0,0,0,0,0)=l[i]:=by
 rw[List.getD_eq_getElem?_getD,aD h];rfl
theorem Uk {l:List bu}(hl:l.length<=100000)(hv: ∀o∈l,0<=o.2.2.2.2/\o.2.2.2.2<=18446744073709551615)(s:Int×(Zd)×(Zd)×List (Int×Int))(h:aY7 l s):
  (∃b,cl l s=O (.inl b)/\aY7 l b/\l.length-b.1.toNat<l.length-s.1.toNat)∨
  ∃c,cl l s=O (.inr c)/\((c.1=9/\wj l [((l.getD 0 (0,0,0,0,0)).2.2.2.2,0)]=Y)∨(c.1=0/\∃p:Int×Int,c.2.2.2=[p]/\0<=p.2/\wj l [((l.getD 0 (0,0,0,0,0)).2.2.2.2,0)]=O [((l.getD p.1.toNat (0,0,0,0,0)).2.2.2.2,p.2)])):=by
 obtain⟨i,sz,rds,op,hi,rfl,I,H,L,hol,A,j,f⟩:=h;obtain⟨pre,⟨r,w⟩,rfl⟩: ∃pre x,op=pre++[x]:=⟨op.dropLast,op.getLast L,(lH L).symm⟩
 have q:=A (r,w) (by simp);simp only at q;have z:(pre++[(r,w)]).length=pre.length+1:=by simp
 rw[z]at hol j;rw[lW]at j
 have C:(pre++[(r,w)])[pre.length]?=O (r,w):=by
  rw[dD (aB _),bD];rfl
 by_cases c:i<l.length
 .have F:l.drop i=l[i]::l.drop (i+1):=(iD c).symm;have hlv:=hv _ (gD c);have U:l.getD i (0,0,0,0,0)=l[i]:=Y5 c;rw[F]at j f;rw[Cg]at f;simp only[cl];rw[zB (show(i:Int)<(l.length:Int)by omega),zC,bh c];simp only[zG];generalize hx:l[i]=x at*;simp only[br]at j;simp only[wj]at f
  have hk: ¬(x.1<0∨7<x.1):=by
   intro hk;rw[zE hk]at j;cases j
  rw[zF hk]at j;rw[z,ad (n:=((pre.length+1:Nat):Int)-1) (by omega),show((pre.length+1:Nat):Int)-1=(pre.length:Int)by omega,bi (show pre.length<pre.length+1 by omega)];simp only[zG];by_cases J:x.1=7
  .rw[Zh,zE J]at j;rw[zE J]at f;rw[zB J,zC,ca (by omega) (by omega),ad (n:=(i:Int)+1) (by omega)];refine .inl ⟨_,rfl,⟨i+1,sz,rds,pre++[(r,w)]++[((i:Int),0)],c,rfl,I,H,by simp,by simp;omega,λp hp=> ?_, ?_, ?_⟩,by simp;omega⟩
   .rcases List.mem_append.1 hp with hp|hp
    .have:=A p hp;omega
    .simp at hp;subst hp;simp only;omega
   .rw[eD,z];exact j
   .rw[Cg,Cg];simp only[lP];rw[U];exact f
  .rw[zF J]at f;rw[zA J,zD];by_cases T:x.1=0
   .rw[zE T]at j f;rw[zB T,zC]
    have M:pre.length≠0:=by
     intro e;rw[zE e]at j;cases j
    rw[zF M]at j
    obtain⟨d,⟨k,u⟩,rfl⟩: ∃d x,pre=d++[x]:=by
     have D:pre≠[]:=by intro e;subst e;exact M rfl
     exact⟨pre.dropLast,pre.getLast D,(lH D).symm⟩
    have K:(d++[(k,u)]).length=d.length+1:=by simp
    have B:=A (k,u) (by simp);simp only at B;obtain⟨y,rfl⟩:=lO q.1;have E:y<l.length:=by omega
    rw[C];simp only[zG];rw[bh E];simp only[zG];have Q:=hv _ (gD E);rw[Qy ⟨q.2.2.1,by omega⟩ Q];simp only[zG];rw[Cg]at f;simp only[lP]at f;rw[Y5 E]at f;cases V:DA w l[y].2.2.2.2 with
    |none=>
     rw[V]at f;simp only[Bool.not_false,zC];exact .inr ⟨_,rfl, .inl ⟨rfl,f.symm⟩⟩
    |some n=>
     rw[V]at f;have hn:=La q.2.2.1 Q.1 V;simp only[iM,zD];rw[bi (show y<sz.length by omega)];simp only[zG];rw[aD (show y<sz.length by omega)];simp only[zG];rw[bi (show y<rds.length by omega)];simp only[zG];rw[aD (show y<rds.length by omega)];simp only[zG];rw[Zk,bw];have e1:((d++[(k,u)]).length:Int).toNat-0=d.length+1:=by rw[K];omega
     rw[e1,ad (n:=((d.length+1:Nat):Int)-1) (by omega),show((d.length+1:Nat):Int)-1=(d.length:Int)by omega,bi (show d.length<d.length+1 by omega)];simp only[zG,iC]
     have W:(d++[(k,u)]++[((y:Int),w)])[d.length]?=O (k,u):=by
      rw[dB,dD (aB _),bD];rfl
     rw[W];simp only[zG];rw[WO _ _ (by omega) hn];simp only[zG]
     have htk:((d++[(k,u)]++[((y:Int),w)]).set d.length (k,u+n)).take (d.length+1)=d++[(k,u+n)]:=by
      rw[dB,iZ _ _ (aB _),bD];show(d++[(k,u+n),((y:Int),w)]).take (d.length+1)=_;rw[show [(k,u+n),((y:Int),w)]=[(k,u+n)]++[((y:Int),w)]from rfl,<-dB,jD];simp
     rw[htk,ad (n:=(i:Int)+1) (by omega)];refine .inl ⟨_,rfl,⟨i+1,_,_,d++[(k,u+n)],c,rfl,by simp[I],by simp[H],by simp,by simp;omega,λp hp=> ?_, ?_, ?_⟩,by simp;omega⟩
     .rcases List.mem_append.1 hp with hp|hp
      .have:=A p (by simp[hp]);omega
      .simp at hp;subst hp;simp only;omega
     .rw[K]at j;rw[eD];exact j
     .rw[Cg];exact f
   .rw[zF T]at j f;rw[zF J]at j;rw[zA T,zD,J2 (by omega)];simp only[zG,zC];rw[bi (show i<sz.length by omega)];simp only[zG];rw[aD (show i<sz.length by omega)];simp only[zG];rw[C];simp only[zG];rw[ad (n:=w+1) (by omega),ad (n:=(i:Int)+1) (by omega)]
    have N:(pre++[(r,w)]).set pre.length (r,w+1)=pre++[(r,w+1)]:=by
     rw[iZ _ _ (aB _),bD];rfl
    rw[N];refine .inl ⟨_,rfl,⟨i+1,_,rds,pre++[(r,w+1)],c,rfl,by simp[I],H,by simp,by simp;omega,λp hp=> ?_, ?_, ?_⟩,by simp;omega⟩
    .rcases List.mem_append.1 hp with hp|hp
     .have:=A p (by simp[hp]);omega
     .simp at hp;subst hp;simp only;omega
    .rw[eD];exact j
    .rw[Cg];exact f
 .have X:i=l.length:=by omega
  subst X;rw[iH]at j f;simp only[cl];rw[zA (show¬(l.length:Int)<(l.length:Int)by omega),zD]
  have hp:pre=[]:=by
   have j:O pre.length=O 0:=j;injection j with j
   exact List.length_eq_zero_iff.1 j
  subst hp;refine .inr ⟨_,rfl, .inr ⟨rfl,(r,w),rfl,q.2.2.1, ?_⟩⟩;rw[<-f];rfl
def Q9 (l:List bu):Option Int:=(wj l [((l.getD 0 (0,0,0,0,0)).2.2.2.2,0)]).bind λst=>match st with
 |[p]=>O p.2
 |_=>Y
def dg (l:List bu):Int×Int:=if br l 0=O 0 then(match Q9 l with
 |some w=>if 65536<w then(0,9)else(w,0)
 |none=>(0,9))else(0,6)
theorem AI {l:List bu}(q:l.length<=100000)(E: ∀o∈l,0<=o.2.2.2.2/\o.2.2.2.2<=18446744073709551615):iu l=O (dg l):=by
 unfold iu oz;obtain⟨m,D⟩:=Kp q;rw[D];unfold dg;by_cases k:br l 0=O 0
 .simp only[zE k];simp only[zG];rw[zA (by simp),zD];rw[zB (show(0:Int)<=(l.length:Int)by omega),zB (show(l.length:Int)<=(l.length:Int)by omega),zB (show 8*(l.length:Int)<=140737488355328 by omega)];have b: ∀{β:Type} {y:Option β},gd (kB 1 (Sh.w (.int .i64))&&Za&&Za&&Za&&Nat.ble 1 8) y=y:=λ{β y}=>rfl
  rw[b,b]
  obtain⟨c,C,h⟩:=qR (f:=cl l) (a:=((0:Int),bB ((l.length:Int)).toNat (0:Int),bB ((l.length:Int)).toNat (0:Int),[((0:Int),(0:Int))])) (aY7 l) (λs=>l.length-s.1.toNat) _
   ⟨0,_,_,[(0,0)],iE _,rfl,by simp,by simp,by simp,by simp,(λp r=>by simp at r;subst r;simp only;omega),k,rfl⟩ (by simp;omega) (λs h=>Uk q E s h)
  rw[C];simp only[zG];unfold Q9;rcases h with⟨j,z⟩|⟨j,p,A,F,B⟩
  .rw[j,z];rfl
  .rw[j,B,A];show((((cond (Zc (65536<p.2)) (O (9:Int)) (O 0)).bind λd=>cond (Zc (d≠0)) (O ((0:Int),d,([]:Zd),([]:Zd))) (O (p.2,0,c.2.1,c.2.2.1))).bind λu=>O (u.1,u.2.1)))=O (if 65536<p.2 then(0,9)else(p.2,0));rw[ag];by_cases e:65536<p.2
   .rw[zE e,zE e];rfl
   .rw[zF e,zF e];rfl
 .simp only[zF k];rfl
theorem Fg : ∀(l r:List bu) (st:List (Int×Int)),wj (l++r) st=(wj l st).bind (wj r)
 |[],r,st=>rfl
 |o::l,r,[]=>rfl
 |o::l,r,(v,w)::st=>by
  simp only[gB,wj];split
  .exact Fg l r _
  split
  .split
   .exact Fg l r _
   .rfl
  .exact Fg l r _
def aa1 (v w:Int)(b:List (Int×Int)):List (Int×Int)->List (Int×Int)
 |[]=>[]
 |[p]=>(v,w+p.2)::b
 |p::q::r=>p::aa1 v w b (q::r)
theorem RW (v w:Int)(c:List (Int×Int))(p:Int×Int): ∀d:List (Int×Int),aa1 v w c (d++[p])=d++(v,w+p.2)::c
 |[]=>rfl
 |[a]=>rfl
 |a::b::r=>by
  show a::aa1 v w c (b::r++[p])=_;rw[RW v w c p (b::r)];rfl
theorem wR (v w:Int)(b:List (Int×Int)): ∀(l:List bu) (e:List (Int×Int)) (n0:Int) (d:Nat),br l e.length=O d->wj l (e++(v,w+n0)::b)=(wj l (e++[(0,n0)])).map (aa1 v w b)
 |[],e,n0,d,_=>by
  show O _=O _;rw[RW]
 |o::l,[],n0,d,h=>by
  simp only[br,List.length_nil]at h;simp only[iB,wj];split at h
  .cases h
  split at h
  .rw[zE trivial]at h;cases h
  rename_i p f;split at h
  .rename_i c;rw[zE c,zE c];exact wR v w b l [(o.2.2.2.2,0)] n0 d h
  .rename_i c;rw[zF c,zF f,zF c,zF f,iA];exact wR v w b l [] (n0+1) d h
 |o::l,(j,k)::e,n0,d,h=>by
  simp only[br,cD]at h;simp only[gB,wj];split at h
  .cases h
  split at h
  .rename_i p f;rw[Zh]at h;rw[Zh,zE f,Zh,zE f];cases r:DA k j with
   |none=>rfl
   |some n=>
    cases e with
    |nil=>
     simp only[iB];rw[iA];exact wR v w b l [] (n0+n) d h
    |cons q e=>
     simp only[gB];exact wR v w b l ((q.1,q.2+n)::e) n0 d h
  rename_i p f;split at h
  .rename_i c;rw[zE c,zE c];exact wR v w b l ((o.2.2.2.2,0)::(j,k)::e) n0 d h
  .rename_i c;rw[zF c,zF f,zF c,zF f];exact wR v w b l ((j,k+1)::e) n0 d h
theorem LJ : ∀(l:List bu) (st b:List (Int×Int)) (d f:Nat),st.length=d+1->br l d=O f->wj l st=O b->b.length=f+1
 |[],st,b,d,f,h,c,e=>by
  injection c with c
  injection e with e
  subst c;subst e;exact h
 |o::l,[],b,d,f,h,_,_=>by simp at h
 |o::l,(v,w)::st,b,d,f,h,c,e=>by
  simp only[br]at c;simp only[wj]at e;simp only[cD,Nat.add_right_cancel_iff]at h;split at c
  .cases c
  split at c
  .rename_i p k;split at c
   .cases c
   rw[Zh,zE k]at e;split at e
   .rename_i j _ _ n r s q _;exact LJ l _ b (d-1) f (by simp at h⊢;omega) c e
   .cases e
  rename_i p k;split at c
  .rename_i j;rw[zE j]at e;exact LJ l _ b (d+1) f (by simp;omega) c e
  .rename_i j;rw[zF j,zF k]at e;exact LJ l _ b d f (by simp;omega) c e
theorem Ou : ∀(l:List bu) (st b:List (Int×Int)),(∀o∈l,0<=o.2.2.2.2)->(∀p∈st,0<=p.1/\0<=p.2)->wj l st=O b->∀p∈b,0<=p.2
 |[],st,b,_,h,c=>by
  injection c with c
  subst c;exact λp hp=>(h p hp).2
 |o::l,[],b,_,_,c=>by cases c
 |o::l,(v,w)::st,b,q,h,c=>by
  have f:=h (v,w) (by simp);have d: ∀p∈st,0<=p.1/\0<=p.2:=λp hp=>h p (by simp[hp])
  have e: ∀k∈l,0<=k.2.2.2.2:=λk j=>q k (by simp[j])
  simp only at f;simp only[wj]at c;split at c
  .refine Ou l _ b e (λp hp=> ?_) c;rcases List.mem_cons.1 hp with rfl|hp
   .exact⟨q o (by simp),iQ _⟩
   .exact h p hp
  split at c
  .split at c
   .rename_i n u y s r;have z:=La f.2 f.1 r;refine Ou l _ b e (λp hp=> ?_) c;rcases List.mem_cons.1 hp with rfl|hp
    .have:=d (u,y) (by simp);simp only at this⊢;omega
    .exact d p (by simp[hp])
   .cases c
  .refine Ou l _ b e (λp hp=> ?_) c;rcases List.mem_cons.1 hp with rfl|hp
   .simp only;omega
   .exact h p (by simp[hp])
theorem J9 {l:List bu}(h:br l 0=O 0)(v w:Int)(b:List (Int×Int)):wj l ((v,w)::b)=(Q9 l).map λm=>(v,w+m)::b:=by
 have c:=wR v w b l [] 0 0 h;rw[iB,iB,iN]at c;have d:=wR ((l.getD 0 (0,0,0,0,0)).2.2.2.2) 0 [] l [] 0 0 h;rw[iB,iB,iN]at d;unfold Q9;rw[c,d];cases f:wj l [(0,0)]with
 |none=>rfl
 |some st=>
  have e:=LJ l _ st 0 0 rfl h f
  match st,e with
  |[p],_=>
   show O ((v,w+p.2)::b)=O ((v,w+(0+p.2))::b);rw[fB]
theorem Na {l:List bu}(e: ∀o∈l,0<=o.2.2.2.2){m:Int}(h:br l 0=O 0)(d:Q9 l=O m):0<=m:=by
 have b:=J9 h 0 0 [];rw[d]at b;have:=Ou l _ _ e (λp c=>by simp at c;subst c;simp) b (0,0+m) (by simp);simp only at this;omega
theorem Ku {l:List bu}(y:l.length<=100000):ud l=O (Zc (br l 0=O 0)):=by
 unfold ud
 obtain⟨c,r,h⟩:=qR (f:=AR l) (a:=((0:Int),(0:Int))) (λs=> ∃i d:Nat,i<=l.length/\d<=i/\s=((i:Int),(d:Int))/\br (l.drop i) d=br l 0) (λs=>l.length-s.1.toNat)
  (λc=>(c= .inl Zb/\br l 0=Y)∨∃d:Nat,c= .inr (d:Int)/\br l 0=O d) ⟨0,0,iE _,aB _,rfl,rfl⟩ (by simp;omega) (by
  rintro _ ⟨i,d,hi,u,rfl,b⟩;simp only[AR,ag];by_cases c:i<l.length
  .rw[(iD c).symm]at b;rw[Zg,bh c];simp only[zG];generalize l[i]=x at*;simp only[br]at b;by_cases p:x.1<0
   .rw[zE (.inl p)]at b;rw[zE p];exact .inr ⟨_,rfl, .inl ⟨rfl,b.symm⟩⟩
   rw[zF p];by_cases q:7<x.1
   .rw[zE (.inr q)]at b;rw[zE q];exact .inr ⟨_,rfl, .inl ⟨rfl,b.symm⟩⟩
   rw[Zh]at b;rw[zF q];by_cases o:x.1=0
   .rw[zE o]at b;rw[Zh];simp only[zG];rw[zE o,ad (n:=(d:Int)-1) (by omega),ad (n:=(i:Int)+1) (by omega)];by_cases k:d=0
    .rw[zE k]at b;rw[Zg];exact .inr ⟨_,rfl, .inl ⟨rfl,b.symm⟩⟩
    .rw[zF k]at b;rw[Zh];exact .inl ⟨_,rfl,⟨i+1,d-1,c,by omega,by rw[show((d-1:Nat):Int)=(d:Int)-1 by omega];rfl,b⟩,by simp;omega⟩
   .rw[zF o]at b;by_cases j:x.1=7
    .rw[zE j]at b;rw[zE j];simp only[zG];rw[zF o,ad (n:=(d:Int)+1) (by omega),ad (n:=(i:Int)+1) (by omega),Zh];exact .inl ⟨_,rfl,⟨i+1,d+1,c,by omega,rfl,b⟩,by simp;omega⟩
    .rw[zF j]at b;rw[zF j];simp only[zG];rw[zF o,ad (n:=(i:Int)+1) (by omega),Zh];exact .inl ⟨_,rfl,⟨i+1,d,c,by omega,rfl,b⟩,by simp;omega⟩
  .have:i=l.length:=by omega
   subst this;rw[iH]at b;rw[Zh]
   exact .inr ⟨_,rfl, .inr ⟨d,rfl,b.symm⟩⟩)
 rw[r];rcases h with⟨rfl,h⟩|⟨d,rfl,h⟩
 .rw[h];rfl
 .rw[h];show O (Zc ((d:Int)=0))=O (Zc (O d=O 0))
  congr 1
  rw[decide_eq_decide];constructor
  .intro e;have:d=0:=by omega
   rw[this]
  .intro e;injection e with e;omega
theorem GD : ∀(n:Nat) (s:List bu) (d:Nat),s.length<=n->br s (d+1)=O 0->∃inner e rest,s=inner++e::rest/\e.1=0/\br inner 0=O 0/\br rest d=O 0
 |n,[],d,_,h=>by
  injection h with h
  omega
 |0,o::s,d,f,_=>by simp at f
 |n+1,o::s,d,f,h=>by
  simp only[cD]at f;simp only[br]at h;split at h
  .cases h
  rename_i B;split at h
  .rename_i j;rw[Zh]at h;exact⟨[],o,s,rfl,j,rfl,h⟩
  rename_i j;split at h
  .rename_i r;obtain⟨p,b,q,k,u,y,z⟩:=GD n s (d+1) (by omega) h;have c:q.length<=n:=by rw[k]at f;simp at f;omega
   obtain⟨A,C,I,D,E,F,H⟩:=GD n q d c z;refine⟨o::p++b::A,C,I, ?_,E, ?_,H⟩
   .rw[k,D];simp
   .show br (o::(p++b::A)) 0=_;simp only[br];rw[zF B,zF j,zE r,vy,LL _ _ _ y];show br (b::A) 1=_;simp only[br];rw[Zh,zE u,Zh];exact F
  .rename_i r;obtain⟨p,b,q,k,u,y,z⟩:=GD n s d (by omega) h;refine⟨o::p,b,q,by rw[k];rfl,u, ?_,z⟩;simp only[br];rw[zF B,zF j,zF r];exact y
theorem B8 {s u E F:List bu}{e1 y:bu}(h:s++e1::E=u++y::F)(z:br s 0=O 0)(A:br u 0=O 0)(p:e1.1=0)(r:y.1=0):s=u:=by
 have k: ∀{a b:List bu} {e:bu} {x:List bu},a++e::x=b->e.1=0->br a 0=O 0->br b 0=O 0->False:=by
  intro a b e x o D C f;rw[<-o,vy,C]at f;have f:br (e::x) 0=O 0:=f;simp only[br]at f;rw[Zh,zE D,zE trivial]at f;cases f
 rcases List.append_eq_append_iff.1 h with⟨j,d,c⟩|⟨j,d,c⟩
 .cases j with
  |nil=>rw[iS]at d;exact d.symm
  |cons q j=>
   rw[gB]at c;injection c with c B
   subst c;exact(k d.symm p z A).elim
 .cases j with
  |nil=>rw[iS]at d;exact d
  |cons q j=>
   rw[gB]at c;injection c with c B
   subst c;exact(k d.symm r A z).elim
theorem O9 {l:List bu}(h:br l 0=O 0)(hi:i<=l.length): ∃d,br (l.take i) 0=O d/\br (l.drop i) d=O 0:=by
 rw[<-jB i l,vy]at h;obtain⟨d,b,c⟩:=ah h;exact⟨d,b,c⟩
theorem Vp {l:List bu}(h:br l 0=O 0)(hi:i<l.length)(k:l[i].1=7): ∃inner e rest,l.drop (i+1)=inner++e::rest/\e.1=0/\br inner 0=O 0:=by
 obtain⟨d,_,b⟩:=O9 h (i:=i) (by omega);rw[(iD hi).symm]at b;simp only[br]at b;rw[Zh,Zh,zE k]at b;obtain⟨inner,e,rest,c,f,j,_⟩:=GD _ _ d (aB _) b;exact⟨inner,e,rest,c,f,j⟩
structure MOK (l:List bu)(m:Zd):Prop where
 len:m.length=l.length
 at': ∀i,(hi:i<l.length)->l[i].1=7->∀inner e rest,l.drop (i+1)=inner++e::rest->e.1=0->br inner 0=O 0->m[i]?=O ((i+1+inner.length:Nat):Int)
theorem aM9 {l:List bu}(L:l.length<=100000)(hi:i<l.length){inner rest:List bu}{e:bu}(h:l.drop (i+1)=inner++e::rest)(H:e.1=0)(E:br inner 0=O 0):am (qF l) cj (1,(i:Int))=O ((i+1+inner.length:Nat):Int):=by
 have D:l.length=i+1+inner.length+1+rest.length:=by
  have:=congrArg iK h;rw[iW]at this;simp at this;omega
 have r: ∀j,j<inner.length+1->∃x,rd l ((i+1+j:Nat):Int)=O x/\(inner++e::rest)[j]?=O x:=by
  intro j q;have s:i+1+j<l.length:=by omega
  refine⟨l[i+1+j],bh s, ?_⟩;rw[<-h,iV,aD s]
 have u: ∀j,j<=inner.length->∃d,br (inner.take j) 0=O d:=by
  intro j q;obtain⟨d,b,_⟩:=O9 E q;exact⟨d,b⟩
 let c:Nat->Nat:=λj=>(br (inner.take j) 0).getD 0
 have o: ∀j,j<=inner.length->br (inner.take j) 0=O (c j):=by
  intro j q;obtain⟨d,F⟩:=u j q;show _=O ((br (inner.take j) 0).getD 0);rw[F];rfl
 have A: ∀j,c j<=j∨inner.length<j:=by
  intro j;induction j with
  |zero=>exact .inl (aB _)
  |succ j M=>
   by_cases q:j+1<=inner.length
   .left;have b:=o (j+1) q;rw[lK (show j<inner.length by omega),vy,o j (by omega)]at b;have b:br [inner[j]] (c j)=O (c (j+1)):=b;simp only[br]at b;split at b
    .cases b
    split at b
    .split at b
     .cases b
     .injection b with b;omega
    split at b
    .injection b with b;omega
    .injection b with b;omega
   .right;omega
 refine C4 (f:=qF l) (n:=inner.length+1) (λj=>if j<=inner.length then((1+c j:Nat),((i+j:Nat):Int))else(0,((i+1+inner.length:Nat):Int))) (by omega) (λj q=> ?_) ?_
 .have K:=A j;rw[zE (show j<=inner.length by omega)];obtain⟨x,B,k⟩:=r j (by omega);simp only[qF,ag];rw[Zg,ad (n:=((i+j:Nat):Int)+1) (by omega),show((i+j:Nat):Int)+1=((i+1+j:Nat):Int)by omega,B];simp only[zG];by_cases p:j<inner.length
  .rw[List.getElem?_append_left p,aD p]at k;injection k with k
   have b:=o (j+1) p;rw[lK p,vy,o j (by omega)]at b;have b:br [inner[j]] (c j)=O (c (j+1)):=b;rw[k]at b;simp only[br]at b;rw[zE (show j+1<=inner.length by omega)];split at b
   .cases b
   split at b
   .rename_i J y;split at b
    .cases b
    .injection b with b
     rw[Zh,zE y,Zi]
     congr 3<;>omega
   rename_i J y;split at b
   .rename_i C;injection b with b
    rw[zE C,zF y,Zi]
    congr 3<;>omega
   .rename_i C;injection b with b
    rw[zF C,zF y]
    congr 3<;>omega
  .have z:j=inner.length:=by omega
   subst z;rw[dD (aB _),bD]at k;injection k with k
   subst k
   have I:c inner.length=0:=by
    have:=o inner.length (aB _);rw[List.take_length,E]at this;injection this with this
    exact this.symm
   rw[Zh,zE H,zF (show¬inner.length+1<=inner.length by omega),I,Zi];rfl
 .rw[Zh];simp only[qF,ag];rw[Zh]
theorem IB {l:List bu}(J:l.length<=100000):(br l 0=O 0/\∃m,mM l=O (0,m)/\MOK l m)∨(br l 0≠O 0/\mM l=O (6,[])):=by
 unfold mM;rw[Ku J];simp only[zG];by_cases z:br l 0=O 0
 .left;refine⟨z, ?_⟩;rw[zB z];simp only[iM,zD]
  have U:am (qE l) cj (0,[])=O (bB l.length (-1)):=by
   have h:=cx (f:=qE l) (n:=l.length) (λi=>bB i (-1:Int)) (c:=bB l.length (-1)) (by omega) ?_ ?_
   .exact h
   .intro i hi;simp only[qE,ag];rw[Zg,ca (by simp;omega) (by omega),Zi,lU];rfl
   .simp only[qE,ag];rw[Zh]
  rw[U];simp only[zG]
  obtain⟨c,V,h⟩:=qR (f:=yU l) (a:=((0:Int),bB l.length (-1:Int))) (λs=> ∃(i:Nat) (out:Zd),i<=l.length/\s=((i:Int),out)/\out.length=l.length/\∀j,j<i->(y:j<l.length)->l[j].1=7->∀b e o,l.drop (j+1)=b++e::o->e.1=0->br b 0=O 0->out[j]?=O ((j+1+b.length:Nat):Int)) (λs=>l.length-s.1.toNat)
   (λc=>MOK l c) ⟨0,_,iE _,rfl,by simp,λj y=>by omega⟩ (by simp;omega) (by
   rintro _ ⟨i,out,hi,rfl,H,k⟩;simp only[yU,ag];by_cases c:i<l.length
   .rw[Zg,bh c];simp only[zG];by_cases C:l[i].1=7
    .obtain⟨b,e,o,A,D,I⟩:=Vp z c C
     have K:l.length=i+1+b.length+1+o.length:=by
      have:=congrArg iK A;rw[iW]at this;simp at this;omega
     rw[zF (by simp[C]),aM9 J c A D I];simp only[zG];rw[bi (show i<out.length by omega)];simp only[zG];rw[aD (show i<out.length by omega)];simp only[zG];rw[bi (show i+1+b.length<(out.set i ((i+1+b.length:Nat):Int)).length by simp;omega)];simp only[zG];rw[aD (show i+1+b.length<(out.set i ((i+1+b.length:Nat):Int)).length by simp;omega)];simp only[zG];rw[ad (n:=(i:Int)+1) (by omega)];refine .inl ⟨_,rfl,⟨i+1,_,c,rfl,by simp[H],λj y r d q Q u L M N=> ?_⟩,by simp;omega⟩
     have E:l[i+1+b.length].1=0:=by
      have B:(l.drop (i+1))[b.length]?=O e:=by
       rw[A,dD (aB _),bD];rfl
      rw[iV,aD (show i+1+b.length<l.length by omega)]at B;injection B with B
      rw[B];exact D
     have F:i+1+b.length≠j:=by
      intro T;subst T;rw[E]at d;cases d
     rw[cB F];by_cases p:i=j
     .subst p;have:=B8 (A.symm.trans L) I N D M;subst this;rw[iJ (by omega)]
     .rw[cB p];exact k j (by omega) r d q Q u L M N
    .rw[zE C,ad (n:=(i:Int)+1) (by omega)];refine .inl ⟨_,rfl,⟨i+1,out,c,rfl,H,λj y r d=> ?_⟩,by simp;omega⟩;by_cases p:j=i
     .subst p;exact(C d).elim
     .exact k j (by omega) r d
   .have:i=l.length:=by omega
    subst this;rw[Zh]
    exact .inr ⟨_,rfl,H,λj y d=>k j y y d⟩)
  rw[V];exact⟨c,rfl,h⟩
 .right;refine⟨z, ?_⟩;rw[zA z];rfl
theorem aa4 {α β:Type}{f:α->β}(c: ∀a b,f a=f b->a=b){x y:Option α}(h:x.map f=y.map f):x=y:=by
 cases x with
 |none=>cases y with
  |none=>rfl
  |some b=>cases h
 |some a=>cases y with
  |none=>cases h
  |some b=>
   injection h with h
   rw[c _ _ h]
theorem Wh (v c:Int)(d:List (Int×Int)): ∀a b:Int,(v,c+a)::d=(v,c+b)::d->a=b:=by
 intro a b h;injection h with h
 injection h with _ h
 omega
theorem Rv {o:bu}{s:List bu}(h:br (o::s) 0=O 0)(d:o.1≠7):br s 0=O 0/\(0<o.1/\o.1<7)/\Q9 (o::s)=(Q9 s).map (1+ ·):=by
 have c:=J9 h 0 0 [];simp only[br]at h;split at h
 .cases h
 rename_i e;split at h
 .rw[zE trivial]at h;cases h
 rename_i b;refine⟨h,by omega,aa4 (Wh 0 0 []) ?_⟩;rw[<-c];simp only[wj];rw[zF d,zF b,J9 h];cases Q9 s with
 |none=>rfl
 |some m=>
  show O [((0:Int),0+1+m)]=O [((0:Int),0+(1+m))];rw[iA]
theorem SO {o e:bu}{inner rest:List bu}(h:br (o::(inner++e::rest)) 0=O 0)(d:o.1=7)(c:e.1=0)(hi:br inner 0=O 0):
  br rest 0=O 0/\Q9 (o::(inner++e::rest))=(Q9 inner).bind λw=>(DA w o.2.2.2.2).bind λb=>(Q9 rest).map (b+ ·):=by
 have f:=J9 h 0 0 [];simp only[br]at h;rw[Zh,Zh,zE d,vy,LL _ _ _ hi]at h;have h:br (e::rest) 1=O 0:=h;simp only[br]at h;rw[Zh,zE c,Zh]at h;have h:br rest 0=O 0:=h;refine⟨h,aa4 (Wh 0 0 []) ?_⟩;rw[<-f];simp only[wj];rw[zE d,Fg,J9 hi];cases Q9 inner with
 |none=>rfl
 |some w=>
  show wj (e::rest) [(o.2.2.2.2,0+w),(0,0)]=_;simp only[wj];rw[Zh,zE c,fB];simp only[zG];cases DA w o.2.2.2.2 with
  |none=>rfl
  |some b=>
   simp only[zG];rw[J9 h];cases Q9 rest with
   |none=>rfl
   |some m=>
    show O [((0:Int),0+b+m)]=O [((0:Int),0+(b+m))];rw[iA]
theorem Ya {k:Int}(h:0<k/\k<7): ∃x,i4 k=O (Za,x):=by
 have:k=1∨k=2∨k=3∨k=4∨k=5∨k=6:=by omega
 rcases this with rfl|rfl|rfl|rfl|rfl|rfl<;>exact⟨_,rfl⟩
def KA (t:Int):Int:=if 65536<t then 65537 else t
def af6 (w v:Int):Int:=if KA w=0 then 0 else if v=0 then 0 else if 65536<v then 65537 else if 65536<KA w*v then 65537 else KA w*v
theorem Lb {b:Int}(o:0<=w)(u:0<=v)(h:DA w v=O b):af6 w v=b/\w<=65536:=by
 unfold DA at h;unfold af6;split at h
 .rename_i c;injection h with h
  subst h;subst c;exact⟨by rw[zE (show KA 0=0 from rfl)],by omega⟩
 split at h
 .cases h
 split at h
 .cases h
 rename_i c e p;injection h with h
 have j:KA w=w:=zF e;rw[j,zF c];have s:65536 / w<=65536:=iO _ (by omega);have f:v<=65536 / w:=by omega
 have q:=iR f o;have r:=lD (x:=65536) (k:=w) c;refine⟨?_,by omega⟩;by_cases d:v=0
 .rw[zE d,<-h,d,Int.mul_zero]
 .rw[zF d,Zh,Zh,h]
theorem aq6 (k:0<=w)(p:0<=v)(h:DA w v=Y):65536<w∨af6 w v=65537:=by
 unfold DA at h;split at h
 .cases h
 rename_i e;split at h
 .rename_i c;exact .inl c
 rename_i c;split at h
 .rename_i f;right;unfold af6;have j:KA w=w:=zF c;have b:=Int.lt_mul_of_ediv_lt (show 0<w by omega) f;rw[iF]at b;have o:0<=65536 / w:=iP (by omega) k;rw[j,zF e,Zh];by_cases d:65536<v
  .rw[zE d]
  .rw[zF d,zE b]
 .cases h
def WOK (l:List bu)(m:Zd)(N:Nat):Prop:= ∀f,2*N<f->∀A seg B,l=A++seg++B->seg.length<N->br seg 0=O 0->
 ∃r,(bt f).1 l m (A.length:Int) ((A.length+seg.length:Nat):Int)=O r/\0<=r/\r<=65537/\∀t,Q9 seg=O t->r=KA t
section
variable {l:List bu} {m:Zd}
theorem Vq (W:l.length<=1000)(J: ∀o∈l,0<=o.2.2.2.2/\o.2.2.2.2<=18446744073709551615)(A:MOK l m){N:Nat}(h:WOK l m N){f:Nat}(V:2*N+1<f)(hi:i<l.length)(I:l[i].1=7){inner rest:List bu}{e:bu}(p:l.drop (i+1)=inner++e::rest)(H:e.1=0)(B:br inner 0=O 0)(F:inner.length<N):
  ∃r,(bt f).2 l m (i:Int)=O r/\0<=r/\r<=65537/\∀w,Q9 inner=O w->r=af6 w l[i].2.2.2.2:=by
 obtain⟨g,rfl⟩: ∃g,f=g+1:=⟨f-1,by omega⟩
 have z:l.length=i+1+inner.length+1+rest.length:=by
  have:=congrArg iK p;rw[iW]at this;simp at this;omega
 have q:=A.at' i hi I inner e rest p H B
 have b:l=l.take (i+1)++inner++e::rest:=by
  rw[dB,<-p,jB]
 have E:(l.take (i+1)).length=i+1:=by rw[lI];omega
 obtain⟨d,u,y,C,D⟩:=h g (by omega) (l.take (i+1)) inner (e::rest) b F B;rw[E]at u
 have s:rd m (i:Int)=O ((i+1+inner.length:Nat):Int):=by
  have j:i<m.length:=by rw[A.len];exact hi
  rw[bh j,<-q,aD j]
 have c:=J _ (gD hi);show∃r,D7 ((bt g).1) ((bt g).2) l m i=O r/\_
 unfold D7;rw[s];simp only[zG];rw[ad (n:=(i:Int)+1) (by omega),show(i:Int)+1=((i+1:Nat):Int)by omega,u];simp only[zG,ag];rw[bh hi];simp only[zG];generalize l[i].2.2.2.2=v at*
 have k:(if d=0 then O 0 else if v=0 then O 0 else if 65536<v then O 65537 else if 65536<IntKind.i64.wrap (d*zH zI v)then O 65537 else O (zH zI (d*zH zI v)))=
   O (if d=0 then 0 else if v=0 then 0 else if 65536<v then 65537 else if 65536<d*v then 65537 else d*v):=by
  split
  .rfl
  split
  .rfl
  split
  .rfl
  rename_i L M Q;have T:=Int.mul_le_mul C (show v<=65536 by omega) c.1 (by omega);have U:=iG y c.1;rw[ad (n:=v) (by omega),Zi];split<;>rfl
 rw[k];refine⟨_,rfl, ?_, ?_,λw K=> ?_⟩
 .split
  .omega
  split
  .omega
  split
  .omega
  split
  .omega
  .exact iG y c.1
 .split
  .omega
  split
  .omega
  split
  .omega
  split<;>omega
 .rw[D w K];rfl
theorem IS (hl:l.length<=1000)(E: ∀o∈l,0<=o.2.2.2.2/\o.2.2.2.2<=18446744073709551615)(V:MOK l m){N:Nat}(h:WOK l m N){g:Nat}(hg:2*N+1<g)(hi:Nat): ∀(k:Nat) (pre seg B:List bu) (n:Int) (F:Nat),l=pre++seg++B->seg.length<=k->seg.length<=N->seg.length<F->br seg 0=O 0->hi=pre.length+seg.length->0<=n/\n<=65536->
  ∃c,am (sY ((bt g).2) l m hi) F ((pre.length:Int),n)=O c/\(c= .inl ()∨∃r,c= .inr r/\0<=r/\r<=65536)/\∀t,Q9 seg=O t->c=if 65536<n+t then .inl ()else .inr (n+t)
 |k,pre,[],B,n,0,_,_,_,z,_,_,_=>by simp at z
 |k,pre,[],B,n,F+1,d,_,_,_,L,hh,hn=>by
  refine⟨.inr n, ?_, .inr ⟨n,rfl,hn⟩,λt j=> ?_⟩
  .rw[cg];simp only[sY,ag];rw[zF (by simp at hh;omega)];rfl
  .injection j with j
   subst j;rw[iN,Zh]
 |0,pre,o::seg,B,n,F,_,hk,_,_,_,_,_=>by simp at hk
 |k+1,pre,o::seg,B,n,0,_,_,_,z,_,_,_=>by simp at z
 |k+1,pre,o::seg,B,n,F+1,d,hk,hN,z,L,hh,hn=>by
  simp only[cD]at hk hN z hh;have U:l.length=pre.length+(seg.length+1)+B.length:=by rw[d];simp;omega
  have A:pre.length<l.length:=by omega
  have s:l[pre.length]=o:=by
   have:l[pre.length]?=O o:=by
    rw[d,dB,dD (aB _),bD];rfl
   rw[aD A]at this;injection this
  have W:0<=o.2.2.2.2/\o.2.2.2.2<=18446744073709551615:=by rw[<-s];exact E _ (gD A)
  rw[cg];simp only[sY,ag];rw[Zg,bh A,s];simp only[zG];by_cases u:o.1=7
  .
   rw[zE u]
   have hs1:br seg 1=O 0:=by
    simp only[br]at L;rw[Zh,Zh,zE u]at L;exact L
   obtain⟨f,e,q,h1,h2,Q,h4⟩:=GD _ seg 0 (aB _) hs1;subst h1;simp only[eD,cD]at hk hN z hh U
   have hd:l.drop (pre.length+1)=f++e::(q++B):=by
    rw[d,dB,iT,iU (by omega),show pre.length+1-pre.length=1 by omega];simp
   obtain⟨r9,b1,b2,b3,b4⟩:=Vq hl E V h hg A (by rw[s];exact u) hd h2 Q (by omega);rw[s]at b4;rw[b1];simp only[zG];have hmi:=V.at' pre.length A (by rw[s];exact u) f e (q++B) hd h2 Q
   have hrd:rd m (pre.length:Int)=O ((pre.length+1+f.length:Nat):Int):=by
    have D:pre.length<m.length:=by rw[V.len];exact A
    rw[bh D,<-hmi,aD D]
   rw[hrd];simp only[zG];rw[ad (n:=n+r9) (by omega),ad (n:=((pre.length+1+f.length:Nat):Int)+1) (by omega)];obtain⟨C,T⟩:=SO L u h2 Q;by_cases K:65536<n+r9
   .rw[zE K];refine⟨.inl (),rfl, .inl rfl,λt j=> ?_⟩;rw[T]at j;obtain⟨w,hw,j⟩:=ah j;obtain⟨b,hb,j⟩:=ah j;have H:=Na (l:=f) (λI y=>(E I (by rw[d];simp[y])).1) Q hw;obtain⟨e1,_⟩:=Lb H W.1 hb;rw[b4 w hw,e1]at K;cases p:Q9 q with
    |none=>rw[p]at j;cases j
    |some J=>
     rw[p]at j;injection j with j
     have j:b+J=t:=j;have:=Na (l:=q) (λI y=>(E I (by rw[d];simp[y])).1) C p;rw[Zg]
   .rw[zF K];simp only[zG,bc];have X:(pre++o::(f++[e])).length=pre.length+1+f.length+1:=by simp;omega
    obtain⟨c,M,d2,d3⟩:=IS hl E V h hg hi k (pre++o::(f++[e])) q B (n+r9) F (by rw[d];simp) (by omega) (by omega) (by omega) C (by rw[X];omega) (by omega);rw[X]at M;refine⟨c,by rw[show((pre.length+1+f.length:Nat):Int)+1=((pre.length+1+f.length+1:Nat):Int)by omega];exact M,d2,λt j=> ?_⟩;rw[T]at j;obtain⟨w,hw,j⟩:=ah j;obtain⟨b,hb,j⟩:=ah j;have H:=Na (l:=f) (λI y=>(E I (by rw[d];simp[y])).1) Q hw;obtain⟨e1,_⟩:=Lb H W.1 hb;have hr9:r9=b:=by rw[b4 w hw,e1]
    cases p:Q9 q with
    |none=>rw[p]at j;cases j
    |some J=>
     rw[p]at j;injection j with j
     have:=d3 J p;rw[this,<-j,hr9,iA]
  .rw[zF u];obtain⟨C,hko,T⟩:=Rv L u;obtain⟨x,hx⟩:=Ya hko;rw[hx];simp only[zG,zC];rw[ad (n:=n+1) (by omega),ad (n:=(pre.length:Int)+1) (by omega)];by_cases K:65536<n+1
   .rw[zE K];refine⟨.inl (),rfl, .inl rfl,λt j=> ?_⟩;rw[T]at j;cases p:Q9 seg with
    |none=>rw[p]at j;cases j
    |some J=>
     rw[p]at j;injection j with j
     have j:1+J=t:=j;have:=Na (l:=seg) (λI y=>(E I (by rw[d];simp[y])).1) C p;rw[Zg]
   .rw[zF K];simp only[zG,bc];have X:(pre++[o]).length=pre.length+1:=by simp
    obtain⟨c,M,d2,d3⟩:=IS hl E V h hg hi k (pre++[o]) seg B (n+1) F (by rw[d];simp) (by omega) (by omega) (by omega) C (by rw[X];omega) (by omega);rw[X]at M;refine⟨c,M,d2,λt j=> ?_⟩;rw[T]at j;cases p:Q9 seg with
    |none=>rw[p]at j;cases j
    |some J=>
     rw[p]at j;injection j with j
     rw[d3 J p,<-j,iA]
theorem wok (j:l.length<=1000)(p: ∀o∈l,0<=o.2.2.2.2/\o.2.2.2.2<=18446744073709551615)(k:MOK l m): ∀N,WOK l m N
 |0=>λ_ _ _ _ _ _ h=>absurd h (Nat.not_lt_zero _)
 |N+1=>λf E A seg B b D y=>by
  obtain⟨g,rfl⟩: ∃g,f=g+1:=⟨f-1,by omega⟩
  show∃r,Ci ((bt g).1) ((bt g).2) l m _ _=O r/\_
  unfold Ci
  have z:seg.length<=1000:=by
   have:=congrArg iK b;simp at this;omega
  obtain⟨c,q,s,e⟩:=IS j p k (wok j p k N) (g:=g) (by omega) (A.length+seg.length) _ A seg B 0 cj b (aB _) (by omega) (by unfold cj;omega) y rfl (by omega);rw[q];simp only[zG];rcases s with rfl|⟨r,rfl,u,C⟩
  .refine⟨65537,rfl,by omega,by omega,λt d=> ?_⟩;have:=e t d;rw[fB]at this;unfold KA;split at this
   .rename_i c;rw[zE c]
   .cases this
  .refine⟨r,rfl,u,by omega,λt d=> ?_⟩;have:=e t d;rw[fB]at this;unfold KA;split at this
   .cases this
   .rename_i c;injection this with this
    rw[zF c,this]
end
theorem VT {δ:Type}{f:Int->Option (Int⊕δ)}(n:Nat)(z:n<9223372036854775808)(b:Nat->Prop)(c e:δ)
  (s: ∀i:Nat,i<n->¬b i->f (i:Int)=O (.inl ((i+1:Nat):Int))) (A: ∀i:Nat,i<n->b i->f (i:Int)=O (.inr c)) (y:f (n:Int)=O (.inr e)):
  (∃i,i<n/\b i/\(∀j,j<i->¬b j)/\am f cj 0=O c)∨((∀j,j<n->¬b j)/\am f cj 0=O e):=by
 by_cases h: ∃i,i<n/\b i
 .obtain⟨i,k,o⟩:=h
  have q: ∃i,i<n/\b i/\∀j,j<i->¬b j:=by
   induction i using Nat.strongRecOn with
   |ind i B=>
    by_cases d: ∃j,j<i/\b j
    .obtain⟨j,p,u⟩:=d;exact B j p (by omega) u
    .exact⟨i,k,o,λj h p=>d ⟨j,h,p⟩⟩
  obtain⟨i,k,o,p⟩:=q;exact .inl ⟨i,k,o,p,oi (n:=i) (by omega) (λj d=>s j (by omega) (p j d)) (A i k o)⟩
 .have r: ∀j,j<n->¬b j:=λj k o=>h ⟨j,k,o⟩
  exact .inr ⟨r,oi (n:=n) z (λj d=>s j d (r j d)) y⟩
theorem aI8 {seg pre inner rest:List bu}{o e:bu}{t:Int}(f:Q9 seg=O t)(s:seg=pre++o::(inner++e::rest))(r:o.1=7)(q:e.1=0)(hi:br inner 0=O 0):
  ∃w b,Q9 inner=O w/\DA w o.2.2.2.2=O b:=by
 unfold Q9 at f;rw[s,Fg]at f;obtain⟨st,k,u⟩:=ah f;obtain⟨d,y,c⟩:=ah k;cases d with
 |nil=>simp[wj]at c
 |cons p d=>
  simp only[wj]at c;rw[zE r,Fg,J9 hi]at c;cases j:Q9 inner with
  |none=>rw[j]at c;cases c
  |some w=>
   rw[j]at c;have c:wj (e::rest) ((o.2.2.2.2,0+w)::(p.1,p.2)::d)=O st:=c;simp only[wj]at c;rw[Zh,zE q,fB]at c;cases h:DA w o.2.2.2.2 with
   |none=>rw[h]at c;cases c
   |some b=>exact⟨w,b,rfl,h⟩
theorem TF : ∀(n:Nat) (seg:List bu),seg.length<=n->br seg 0=O 0->Q9 seg=Y->∃pre o inner e rest w,seg=pre++o::(inner++e::rest)/\o.1=7/\e.1=0/\br inner 0=O 0/\Q9 inner=O w/\DA w o.2.2.2.2=Y
 |n,[],_,_,c=>by cases c
 |0,o::s,h,_,_=>by simp at h
 |n+1,o::s,I,k,c=>by
  simp only[cD]at I;by_cases z:o.1=7
  .have C:br s 1=O 0:=by
    simp only[br]at k;rw[Zh,Zh,zE z]at k;exact k
   obtain⟨inner,e,rest,J,F,A,K⟩:=GD _ s 0 (aB _) C;subst J;simp only[eD,cD]at I;obtain⟨d,B⟩:=SO k z F A;rw[B]at c;cases D:Q9 inner with
   |none=>
    obtain⟨pre,q,p,f,y,w,r,u⟩:=TF n inner (by omega) A D;exact⟨o::pre,q,p,f,y++e::rest,w,by rw[r];simp,u⟩
   |some w=>
    rw[D]at c;simp only[zG]at c;cases H:DA w o.2.2.2.2 with
    |none=>exact⟨[],o,inner,e,rest,w,rfl,z,F,A,D,H⟩
    |some b=>
     rw[H]at c;simp only[zG]at c;cases j:Q9 rest with
     |some t=>rw[j]at c;cases c
     |none=>
      obtain⟨pre,q,p,f,y,E,r,u⟩:=TF n rest (by omega) d j;exact⟨o::(inner++e::pre),q,p,f,y,E,by rw[r];simp,u⟩
  .obtain⟨d,_,B⟩:=Rv k z;rw[B]at c;cases j:Q9 s with
   |some t=>rw[j]at c;cases c
   |none=>
    obtain⟨pre,q,p,f,y,E,r,u⟩:=TF n s (by omega) d j;exact⟨o::pre,q,p,f,y,E,by rw[r];rfl,u⟩
section
variable {l:List bu} {m:Zd}
theorem Gh (I:l.length<=100)(q: ∀o∈l,0<=o.2.2.2.2/\o.2.2.2.2<=18446744073709551615)(j:MOK l m)(D:br l 0=O 0)(hi:i<l.length)(p:l[i].1=7):
  ∃inner e rest b w r,l.drop (i+1)=inner++e::rest/\e.1=0/\br inner 0=O 0/\m[i]?=O r/\r=((i+1+inner.length:Nat):Int)/\pW l m (i:Int)=O b/\qG l m ((i+1:Nat):Int) r=O w/\0<=b/\0<=w/\
   ∀t,Q9 inner=O t->b=af6 t l[i].2.2.2.2/\w=KA t:=by
 obtain⟨inner,e,rest,h,k,c⟩:=Vp D hi p
 have s:l.length=i+1+inner.length+1+rest.length:=by
  have:=congrArg iK h;rw[iW]at this;simp at this;omega
 have d:l=l.take (i+1)++inner++e::rest:=by
  rw[dB,<-h,jB]
 have C:(l.take (i+1)).length=i+1:=by rw[lI];omega
 obtain⟨b,z,A,H,B⟩:=Vq (by omega) q j (wok (by omega) q j 101) (f:=400) (by omega) hi p h k c (by omega);obtain⟨w,y,E,J,F⟩:=wok (by omega) q j 101 400 (by omega) (l.take (i+1)) inner (e::rest) d (by omega) c;rw[C]at y;exact⟨inner,e,rest,b,w,_,h,k,c,j.at' i hi p inner e rest h k c,rfl,z,y,A,E,λt u=>⟨B t u,F t u⟩⟩
theorem Yc (V:l.length<=100)(y: ∀o∈l,0<=o.2.2.2.2/\o.2.2.2.2<=18446744073709551615)(F:MOK l m)(M:br l 0=O 0):
  am (nq l (0,m)) cj 0=O (match Q9 l with|some _=> .inr ()|none=> .inl ()):=by
 have H:=VT (f:=nq l (0,m)) l.length (by omega)
  (λi=> ∃hi:i<l.length,l[i].1=7/\∃b w A,m[i]?=O A/\pW l m (i:Int)=O b/\qG l m ((i+1:Nat):Int) A=O w/\(65536<b∨65536<w)) (.inl ()) (.inr ())
  (λi hi hn=>by
   unfold nq;simp only[ag];rw[Zg,bh hi];simp only[zG];by_cases k:l[i].1=7
   .obtain⟨c,e,j,b,w,A,L,q2,q3,r,q5,u,D,q8⟩:=Gh V y F M hi k;rw[zE k,u];simp only[zG];rw[zF (λh=>hn ⟨hi,k,b,w,A,r,u,D, .inl h⟩),bi (show i<m.length by rw[F.len];exact hi)];simp only[zG];rw[r];simp only[zG];rw[ad (n:=(i:Int)+1) (by omega),show(i:Int)+1=((i+1:Nat):Int)by omega,D];simp only[zG];rw[zF (λh=>hn ⟨hi,k,b,w,A,r,u,D, .inr h⟩)]
   .rw[zF k,ad (n:=(i:Int)+1) (by omega)]
    rfl)
  (λi _ hst=>by
   obtain⟨hi,k,b,w,A,r,u,D,q8⟩:=hst;unfold nq;simp only[ag];rw[Zg,bh hi];simp only[zG];rw[zE k,u];simp only[zG];by_cases hb:65536<b
   .rw[zE hb]
   .rw[zF hb,bi (show i<m.length by rw[F.len];exact hi)];simp only[zG];rw[r];simp only[zG];rw[ad (n:=(i:Int)+1) (by omega),show(i:Int)+1=((i+1:Nat):Int)by omega,D];simp only[zG]
    rw[Zg])
  (by
   unfold nq;simp only[ag]
   rw[Zh])
 cases hq:Q9 l with
 |some t=>
  rcases H with⟨i,h1,⟨hi,k,b,w,A,r,u,D,q8⟩,_⟩|⟨_,h⟩
  .exfalso;obtain⟨c,e,j,b',w',I,p1,p2,Q,E,p5,J,K,p8,p9,C⟩:=Gh V y F M hi k
   have d:l=l.take i++l[i]::(c++e::j):=by
    rw[<-p1,iD hi,jB]
   obtain⟨w0,b0,g1,g2⟩:=aI8 hq d k p2 Q;obtain⟨T,U⟩:=C w0 g1;have q: ∀B∈c,0<=B.2.2.2.2:=λB z=>(y B (by rw[d];simp[z])).1
   have s:=Na q Q g1;obtain⟨x1,x2⟩:=Lb s (y _ (gD hi)).1 g2;obtain⟨x3,x4⟩:=La s (y _ (gD hi)).1 g2;rw[r]at E;injection E with E
   rw[u]at J;injection J with J
   rw[<-E,D]at K;injection K with K
   have X:KA w0=w0:=zF (by omega);rw[X]at U;omega
  .exact h
 |none=>
  rcases H with⟨_,_,_,_,h⟩|⟨h,_⟩
  .exact h
  .exfalso;obtain⟨pre,o,c,e,j,w,L,q2,q3,r,q5,u⟩:=TF _ l (aB _) M hq;have hi:pre.length<l.length:=by rw[L];simp
   have p:l[pre.length]=o:=by
    have:l[pre.length]?=O o:=by
     rw[L,dD (aB _),bD];rfl
    rw[aD hi]at this;injection this
   have k:l[pre.length].1=7:=by rw[p];exact q2
   have hd:l.drop (pre.length+1)=c++e::j:=by
    rw[L,iT,iU (by omega),show pre.length+1-pre.length=1 by omega];simp
   obtain⟨N,e',rest',b',w',I,p1,p2,Q,E,p5,J,K,p8,p9,C⟩:=Gh V y F M hi k;have:=B8 (hd.symm.trans p1) r Q q3 p2;subst this;obtain⟨T,U⟩:=C w q5;have q: ∀B∈c,0<=B.2.2.2.2:=λB z=>(y B (by rw[L];simp[z])).1
   have s:=Na q r q5;rw[p]at T;have W:0<=o.2.2.2.2:=by rw[<-p];exact(y _ (gD hi)).1
   refine h _ hi ⟨hi,k,b',w',I,E,J,K, ?_⟩;rcases aq6 s W u with x|x
   .right;rw[U];unfold KA;rw[zE x];omega
   .left;rw[T,x];omega
theorem B6 (p:l.length<=100)(h: ∀o∈l,0<=o.2.2.2.2/\o.2.2.2.2<=18446744073709551615):ou l=O (dg l):=by
 unfold ou dg;rcases IB (l:=l) (by omega)with⟨b,m,f,d⟩|⟨b,f⟩
 .rw[f,zE b];simp only[zG];rw[zA (by simp),zD,Yc p h d b];cases k:Q9 l with
  |none=>rfl
  |some t=>
   have s:=Na (λo q=>(h o q).1) b k;simp only[zG,bc];obtain⟨w,j,u,y,r⟩:=wok (by omega) h d 101 400 (by omega) [] l [] (by simp) (by omega) b
   have j:qG l m 0 (l.length:Int)=O w:=by
    rw[<-j];show _=(bt 400).1 l m 0 ((0+l.length:Nat):Int);rw[iC];rfl
   rw[j];simp only[zG,ag];have e:=r t k;unfold KA at e;by_cases c:65536<t
   .rw[zE c]at e;rw[zE c,Zg]
   .rw[zF c]at e;rw[zF c,Zh,e]
 .rw[f,zF b];rfl
end
theorem Cb {α δ:Type}{f:Int->Option (Int⊕δ)}{l:List α}(p:α->Bool)(c:Nat->δ)(e:δ)(C:l.length<1000000)
  (q: ∀i,(hi:i<l.length)->f (i:Int)=O (if p l[i]then .inr (c i)else .inl ((i+1:Nat):Int))) (y:f (l.length:Int)=O (.inr e)):
  (l.any p=Za/\∃i:Nat,am f cj 0=O (c i))∨(l.any p=Zb/\am f cj 0=O e):=by
 by_cases h: ∃i,∃hi:i<l.length,p l[i]=Za
 .left
  have o: ∃i,(∃hi:i<l.length,p l[i]=Za)/\∀j,j<i->¬∃b:j<l.length,p l[j]=Za:=by
   obtain⟨i,hi⟩:=h;induction i using Nat.strongRecOn with
   |ind i B=>
    by_cases b: ∃j,j<i/\∃b:j<l.length,p l[j]=Za
    .obtain⟨j,k,u⟩:=b;exact B j k u
    .exact⟨i,hi,λj h k=>b ⟨j,h,k⟩⟩
  obtain⟨i,⟨hi,r⟩,s⟩:=o;refine⟨List.any_eq_true.2 ⟨l[i],gD hi,r⟩,i,oi (n:=i) (by omega) (λj b=> ?_) ?_⟩
  .rw[q j (by omega),zF (λd=>s j b ⟨by omega,d⟩)]
  .rw[q i hi,zE r]
 .right;refine⟨?_,oi (n:=l.length) (by omega) (λj b=> ?_) y⟩
  .rw[Bool.eq_false_iff];intro z;obtain⟨x,A,d⟩:=List.any_eq_true.1 z;obtain⟨i,hi,rfl⟩:=List.getElem_of_mem A;exact h ⟨i,hi,d⟩
  .rw[q j b,zF (λd=>h ⟨j,b,d⟩)]
def bx (k:Int):Bool×Bool×Bool×Bool:=if k=1∨k=2∨k=3 then(Za,Za,Za,Zb)else if k=4∨k=6 then(Za,Za,Zb,Zb)else if k=5 then(Za,Zb,Zb,Za)else if k=7 then(Zb,Zb,Zb,Za)else(Zb,Zb,Zb,Zb)
theorem Gu (k:Int):k=1∨k=2∨k=3∨k=4∨k=5∨k=6∨k=7∨(¬k=1/\¬k=2/\¬k=3/\¬k=4/\¬k=5/\¬k=6/\¬k=7):=by omega
theorem R8 (k:Int):wu k=O (bx k):=by
 rcases Gu k with rfl|rfl|rfl|rfl|rfl|rfl|rfl|⟨b,c,d,e,f,h,j⟩
 any_goals rfl
 simp[wu,bx,b,c,d,e,f,h,j]
theorem EI (k:Int):i4 k=O (bx k):=by
 rcases Gu k with rfl|rfl|rfl|rfl|rfl|rfl|rfl|⟨b,c,d,e,f,j,o⟩
 any_goals rfl
 by_cases h:1<=k
 .simp[i4,bx,b,c,d,e,f,j,o,h,show¬k<=3 by omega,bc]
 .simp[i4,bx,b,c,d,e,f,j,o,h,bc]
def Hx (n:Int)(q:Bool):Bool:=if q then Zc (0<=n/\n<=2147483647)else Zc (n=0)
theorem N6 (n:Int)(q:Bool):np n q=O (Hx n q):=by
 unfold np Hx;cases q
 .rfl
 .by_cases h:0<=n<;>simp[h]
def zr (o:bu):Bool:=Zc (0<=o.1/\o.1<8)&&(Hx o.2.1 (bx o.1).1&&(Hx o.2.2.1 (bx o.1).2.1&&(Hx o.2.2.2.1 (bx o.1).2.2.1&&((bx o.1).2.2.2||Zc (o.2.2.2.2=0)))))
theorem Ut (o:bu):xl o.1 o.2.1 o.2.2.1 o.2.2.2.1 o.2.2.2.2=O (zr o):=by
 unfold xl Cl zr
 have j:(cond (Zc (0<=o.1)) (O (Zc (o.1<8))) (O Zb))=O (Zc (0<=o.1/\o.1<8)):=by
  by_cases h:0<=o.1<;>simp[h]
 rw[R8,j];simp only[zG,N6];generalize Zc (0<=o.1/\o.1<8)=b;generalize Hx o.2.1 (bx o.1).1=c;generalize Hx o.2.2.1 (bx o.1).2.1=d;generalize Hx o.2.2.2.1 (bx o.1).2.2.1=e;generalize (bx o.1).2.2.2=f;cases b<;>cases c<;>cases d<;>cases e<;>cases f<;>rfl
theorem Wp (o:bu):zy o.1 o.2.1 o.2.2.1 o.2.2.2.1 o.2.2.2.2=O (zr o):=by
 unfold zy;simp only[ag];by_cases y:o.1<0
 .rw[zE y];unfold zr;rw[zA (show¬(0<=o.1/\o.1<8)by omega)];rfl
 rw[zF y];by_cases z:7<o.1
 .rw[zE z];unfold zr;rw[zA (show¬(0<=o.1/\o.1<8)by omega)];rfl
 rw[zF z,EI];simp only[zG]
 have c:=Cb (f:=uc o.2.1 o.2.2.1 o.2.2.2.1 (bx o.1)) (l:=[(o.2.1,(bx o.1).1),(o.2.2.1,(bx o.1).2.1),(o.2.2.2.1,(bx o.1).2.2.1)]) (λp=> !Hx p.1 p.2) (λ_=> .inl Zb) (.inr ()) (by simp)
  (λi hi=>by
   unfold uc;have hi:i<3:=hi;rw[ag,Zg,bi (show i<3 from hi),bi (show i<4 by omega)];simp only[zG,ag]
   have A:iI [o.2.1,o.2.2.1,o.2.2.2.1] i 0=([(o.2.1,(bx o.1).1),(o.2.2.1,(bx o.1).2.1),(o.2.2.2.1,(bx o.1).2.2.1)][i]).1:=by
    rcases(show i=0∨i=1∨i=2 by omega)with rfl|rfl|rfl<;>rfl
   have B:iI [(bx o.1).1,(bx o.1).2.1,(bx o.1).2.2.1,(bx o.1).2.2.2] i Zb=([(o.2.1,(bx o.1).1),(o.2.2.1,(bx o.1).2.1),(o.2.2.2.1,(bx o.1).2.2.1)][i]).2:=by
    rcases(show i=0∨i=1∨i=2 by omega)with rfl|rfl|rfl<;>rfl
   rw[A,B,ad (n:=(i:Int)+1) (by omega),show(i:Int)+1=((i+1:Nat):Int)by omega];generalize [(o.2.1,(bx o.1).1),(o.2.2.1,(bx o.1).2.1),(o.2.2.2.1,(bx o.1).2.2.1)][i]=x;obtain⟨n,q⟩:=x;simp only[Hx];by_cases r:n<0
   .rw[zE r,zE];cases q
    .simp;omega
    .simp;omega
   rw[zF r];by_cases s:2147483647<n
   .rw[zE s,zE];cases q
    .simp;omega
    .simp;omega
   rw[zF s];cases q with
   |true=>
    rw[zB (show 0<=n/\n<=2147483647 by omega)];rfl
   |false=>
    by_cases u:n=0
    .subst u;rfl
    .simp[u])
  (by
   unfold uc
   rw[ag,zF (by simp)])
 unfold zr;rw[zB (show 0<=o.1/\o.1<8 by omega)]
 have b:([(o.2.1,(bx o.1).1),(o.2.2.1,(bx o.1).2.1),(o.2.2.2.1,(bx o.1).2.2.1)].any λp=> !Hx p.1 p.2)= !(Hx o.2.1 (bx o.1).1&&(Hx o.2.2.1 (bx o.1).2.1&&Hx o.2.2.2.1 (bx o.1).2.2.1)):=by
  simp[List.any,Bool.not_and]
 rw[b]at c;generalize Hx o.2.1 (bx o.1).1=d at*;generalize Hx o.2.2.1 (bx o.1).2.1=e at*;generalize Hx o.2.2.2.1 (bx o.1).2.2.1=j at*;rcases c with⟨h,_,k⟩|⟨h,k⟩
 .rw[k];cases d<;>cases e<;>cases j<;>first|rfl|cases h
 .rw[k]
  have:d=Za/\e=Za/\j=Za:=by
   cases d<;>cases e<;>cases j<;>first|exact⟨rfl,rfl,rfl⟩|cases h
  obtain⟨rfl,rfl,rfl⟩:=this;simp only[zG,bc];cases(bx o.1).2.2.2<;>rfl
theorem Gi (b:Bool)(e:Int):jr b e=O (if b then e else 0):=by cases b<;>rfl
def Nt (l:List bu):Bool:=Zc (br l 0=O 0)&& !(l.any λo=> !zr o)
theorem Kh {R:Int}{l:List bu}(e:l.length<=100):ke R l=O (if Nt l then 0 else 6):=by
 unfold ke;obtain⟨m,d⟩:=Kp (l:=l) (by omega);rw[d];simp only[zG,Gi];rw[Ze,zD,ag];unfold Nt;by_cases b:br l 0=O 0
 .rw[zE b,zF (by simp),zB b];unfold jq mb
  rcases Cb (f:=ff l) (l:=l) (λo=> !zr o) (λi=> .inl (i:Int)) (.inr ()) (by omega) (λi hi=>by
   unfold ff;rw[ag,Zg,bh hi];simp only[zG];unfold rk;rw[Ut,ad (n:=(i:Int)+1) (by omega)];simp only[zG]
   cases zr l[i]<;>rfl) (by
   unfold ff
   rw[ag,Zh])with⟨h,i,c⟩|⟨h,c⟩
  .rw[c,h];simp only[zG,bc];rw[Zf];rfl
  .rw[c,h];rfl
 .rw[zF b,zE (by simp),zA b];rfl
theorem Ye {R:Int}{l:List bu}(c:l.length<=100):BD R l=O (Nt l):=by
 unfold BD Nt;rw[Ze,zD,Ku (by omega)];simp only[zG];cases Zc (br l 0=O 0)with
 |false=>rfl
 |true=>
  rcases Cb (f:=vD l) (l:=l) (λo=> !zr o) (λi=> .inl Zb) (.inr ()) (by omega) (λi hi=>by
   unfold vD;rw[ag,Zg,bh hi];simp only[zG];rw[Wp,ad (n:=(i:Int)+1) (by omega)];simp only[zG]
   cases zr l[i]<;>rfl) (by
   unfold vD
   rw[ag,Zh])with⟨h,i,b⟩|⟨h,b⟩
  .rw[b,h];rfl
  .rw[b,h];rfl
def Up (R:Int)(o:bu):Bool:=((bx o.1).1&&Zc (R<=o.2.1))||((bx o.1).2.1&&Zc (R<=o.2.2.1))||((bx o.1).2.2.1&&Zc (R<=o.2.2.2.1))
def LH (R:Int)(l:List bu):Bool:=Zc (1<=R/\R<=64)&& !(l.any (Up R))
theorem Qk (x y:Int):bq [x,y]=O [y,x]:=by kernel_rfl
theorem Wy (x:Int):bq [x]=O [x]:=by kernel_rfl
theorem Qj :bq []=O []:=by kernel_rfl
theorem Us (o:bu):xk o.1 o.2.1 o.2.2.1 o.2.2.2.1 o.2.2.2.2=O (if(bx o.1).2.1 then(if(bx o.1).2.2.1 then [o.2.2.1,o.2.2.2.1]else [o.2.2.1])else []):=by
 obtain⟨k,d,a,b,v⟩:=o;simp only;rcases Gu k with rfl|rfl|rfl|rfl|rfl|rfl|rfl|⟨c,e,f,h,p,j,q⟩
 .exact(show _=(bq [b,a]).bind _ from rfl).trans (by rw[Qk];rfl)
 .exact(show _=(bq [b,a]).bind _ from rfl).trans (by rw[Qk];rfl)
 .exact(show _=(bq [b,a]).bind _ from rfl).trans (by rw[Qk];rfl)
 .exact(show _=(bq [a]).bind _ from rfl).trans (by rw[Wy];rfl)
 .exact(show _=(bq []).bind _ from rfl).trans (by rw[Qj];rfl)
 .exact(show _=(bq [a]).bind _ from rfl).trans (by rw[Wy];rfl)
 .exact(show _=(bq []).bind _ from rfl).trans (by rw[Qj];rfl)
 .unfold xk;simp only[zA c,zA e,zA f,zA h,zA j,zD,zG,bc,Qj];simp[bx,c,e,f,h,p,j,q]
theorem TN (l:Zd)(R:Int)(p:List bu)(c:l.length<1000):fi l R p=O (l.any λn=>Zc (R<=n)):=by
 unfold fi oA
 rcases Cb (f:=je l R p) (l:=l) (λn=>Zc (R<=n)) (λi=> .inl (i:Int)) (.inr ()) (by omega) (λi hi=>by
  unfold je;rw[ag,Zg,bh hi];simp only[zG];unfold mQ;rw[ad (n:=(i:Int)+1) (by omega)];simp only[zG]
  cases Zc (R<=l[i])<;>rfl) (by
  unfold je
  rw[ag,Zh])with⟨h,i,b⟩|⟨h,b⟩
 .rw[b,h];simp only[zG,bc];rw[Zf]
 .rw[b,h];rfl
theorem Wx (o:bu)(R:Int)(p:List bu):lg o.1 o.2.1 o.2.2.1 o.2.2.2.1 o.2.2.2.2 R p=O (Up R o):=by
 unfold lg ny;rw[Us,R8];unfold Up;simp only[zG];obtain⟨k,d,a,b,v⟩:=o;simp only
 have s:(bx k).2.2.1=Za->(bx k).2.1=Za:=by
  unfold bx;split
  .intro _;rfl
  split
  .intro _;rfl
  split
  .intro h;cases h
  split<;>intro h<;>cases h
 have u:(bx k).2.1=Za->(bx k).1=Za:=by
  unfold bx;split
  .intro _;rfl
  split
  .intro _;rfl
  split
  .intro h;cases h
  split<;>intro h<;>cases h
 generalize (bx k).1=f at*;generalize (bx k).2.1=j at*;generalize (bx k).2.2.1=q at*
 have c: ∀l:Zd,l.length<1000->∀r,(l.any λn=>Zc (R<=n))=r->((fi l R p).bind λe=>O e)=O r:=by
  intro l A r B;rw[TN l R p A,B];rfl
 cases f<;>cases j<;>cases q<;>first
  |(cases u rfl)
  |(cases s rfl)
  |skip
 .refine c [] (by simp) _ ?_;generalize Zc (R<=d)=x;generalize Zc (R<=a)=y;generalize Zc (R<=b)=z;cases x<;>cases y<;>cases z<;>rfl
 .refine c [d] (by simp) _ ?_;simp only[lF,lG];generalize Zc (R<=d)=x;generalize Zc (R<=a)=y;generalize Zc (R<=b)=z;cases x<;>cases y<;>cases z<;>rfl
 .refine c [a,d] (by simp) _ ?_;simp only[lF,lG];generalize Zc (R<=d)=x;generalize Zc (R<=a)=y;generalize Zc (R<=b)=z;cases x<;>cases y<;>cases z<;>rfl
 .refine c [a,b,d] (by simp) _ ?_;simp only[lF,lG];generalize Zc (R<=d)=x;generalize Zc (R<=a)=y;generalize Zc (R<=b)=z;cases x<;>cases y<;>cases z<;>rfl
theorem A1 {R:Int}{l:List bu}(e:l.length<=100):fj R l=O (if LH R l then 0 else 7):=by
 unfold fj LH;simp only[Gi,zG,ag];by_cases c:R<1
 .rw[zE c,zA (show¬(1<=R/\R<=64)by omega)];rfl
 rw[zF c];by_cases d:64<R
 .rw[zE d,zA (show¬(1<=R/\R<=64)by omega)];rfl
 rw[zF d,zB (show 1<=R/\R<=64 by omega)];unfold i5 jx
 rcases Cb (f:=ey l R l) (l:=l) (Up R) (λi=> .inl (i:Int)) (.inr ()) (by omega) (λi hi=>by
  unfold ey;rw[ag,Zg,bh hi];simp only[zG];rw[Wx,ad (n:=(i:Int)+1) (by omega)];simp only[zG]
  cases Up R l[i]<;>rfl) (by
  unfold ey
  rw[ag,Zh])with⟨h,i,b⟩|⟨h,b⟩
 .rw[b,h];simp only[zG,bc];rw[Zf];rfl
 .rw[b,h];rfl
theorem N9 {R:Int}{l:List bu}(k:l.length<=100):td R l=O (LH R l):=by
 unfold td LH;simp only[ag];by_cases c:R<1
 .rw[zE c,zA (show¬(1<=R/\R<=64)by omega)];rfl
 rw[zF c];by_cases d:64<R
 .rw[zE d,zA (show¬(1<=R/\R<=64)by omega)];rfl
 rw[zF d,zB (show 1<=R/\R<=64 by omega)]
 rcases Cb (f:=pz R l) (l:=l) (Up R) (λi=> .inl Zb) (.inr ()) (by omega) (λi hi=>by
  unfold pz;rw[ag,Zg,bh hi];simp only[zG];rw[EI,ad (n:=(i:Int)+1) (by omega)];simp only[zG];unfold Up;generalize l[i]=o;generalize Zc (R<=o.2.1)=x;generalize Zc (R<=o.2.2.1)=y;generalize Zc (R<=o.2.2.2.1)=z;generalize (bx o.1).1=e;generalize (bx o.1).2.1=j;generalize (bx o.1).2.2.1=b3
  cases e<;>cases j<;>cases b3<;>cases x<;>cases y<;>cases z<;>rfl) (by
  unfold pz
  rw[ag,Zh])with⟨h,i,b⟩|⟨h,b⟩
 .rw[b,h];rfl
 .rw[b,h];rfl
def hmax :List bu->Nat->Nat->Nat
 |[],_,m=>m
 |o::r,d,m=>if o.1=7 then hmax r (d+1) (max m (d+1))else if o.1=0 then hmax r (d-1) m else hmax r d m
def aY3 (l:List bu)(s:Int×Bool×Int×Zd):Prop:=
 ∃(i m:Nat) (st:Zd),i<=l.length/\s=((i:Int),Za,(m:Int),st)/\st.length<=i/\m<=i/\br (l.drop i) st.length=br l 0/\hmax (l.drop i) st.length m=hmax l 0 0
theorem ag0 {l:List bu}(A:l.length<=100000)(s:Int×Bool×Int×Zd)(h:aY3 l s):
  (∃b,qC l s=O (.inl b)/\aY3 l b/\l.length-b.1.toNat<l.length-s.1.toNat)∨∃c,qC l s=O (.inr c)/\((c.1=Zb/\br l 0=Y)∨(c.1=Za/\br l 0=O c.2.2.length/\c.2.1=(hmax l 0 0:Int))):=by
 obtain⟨i,m,st,hi,rfl,z,y,d,e⟩:=h;by_cases c:i<l.length
 .have j:l.drop i=l[i]::l.drop (i+1):=(iD c).symm;rw[j]at d e;simp only[qC];rw[zB (show(i:Int)<(l.length:Int)by omega),zC,bh c];simp only[zG];generalize B:l[i]=x at*;simp only[br]at d;simp only[hmax]at e;by_cases r:x.1<0
  .rw[zE (.inl r)]at d;rw[zB r];simp only[zC,zG,ej];exact .inr ⟨_,rfl, .inl ⟨rfl,d.symm⟩⟩
  rw[zA r,zD];by_cases f:7<x.1
  .rw[zE (.inr f)]at d;rw[zB f];simp only[zC,zG,bg,ej];exact .inr ⟨_,rfl, .inl ⟨rfl,d.symm⟩⟩
  rw[zA f,zD];rw[Zh]at d;by_cases o:x.1=0
  .rw[zE o]at d;rw[Zh,zE o]at e;rw[zB o];simp only[zC,zG,bg];by_cases p:st.length=0
   .rw[zE p]at d;rw[zB (show(st.length:Int)=0 by omega)];simp only[zC,zG,ej];exact .inr ⟨_,rfl, .inl ⟨rfl,d.symm⟩⟩
   .rw[zF p]at d;rw[zA (show¬(st.length:Int)=0 by omega),zD];rw[ad (n:=(st.length:Int)-1) (by omega),Zk,bw];simp only[zG,bg];rw[zA (show¬x.1=7 by omega)];simp only[zD];rw[ad (n:=(i:Int)+1) (by omega)]
    have k:(st.take (((st.length:Int)-1).toNat-0)).length=st.length-1:=by
     rw[lI];omega
    refine .inl ⟨_,rfl,⟨i+1,m,_,c,rfl,by rw[k];omega,by omega,by rw[k];exact d,by rw[k];exact e⟩,by simp;omega⟩
  .rw[zF o]at d;have u:Zc (x.1=0)=Zb:=zA o;rw[u];simp only[zD,zG,bg];by_cases f:x.1=7
   .rw[zE f]at d e;rw[zB f];simp only[zC];rw[ca (by omega) (by omega),ad (n:=(i:Int)+1) (by omega),ad (n:=(st.length:Int)+1) (by omega)];refine .inl ⟨_,rfl,⟨i+1,max m (st.length+1),st++[(i:Int)],c, ?_,by simp;omega,by omega,by rw[eD];exact d,by rw[eD];exact e⟩,by simp;omega⟩;rw[show((max m (st.length+1):Nat):Int)=max (m:Int) ((st.length:Int)+1)by omega];rfl
   .rw[zF f]at d e;rw[zF o]at e;rw[zA f];simp only[zD];rw[ad (n:=(i:Int)+1) (by omega)];exact .inl ⟨_,rfl,⟨i+1,m,st,c,rfl,by omega,by omega,d,e⟩,by simp;omega⟩
 .have q:i=l.length:=by omega
  subst q;rw[iH]at d e;simp only[qC];rw[zA (show¬(l.length:Int)<(l.length:Int)by omega),zD];have e:m=hmax l 0 0:=e;exact .inr ⟨_,rfl, .inr ⟨rfl,d.symm,by rw[<-e]⟩⟩
def Ps (l:List bu):Int×Int:=if br l 0=O 0 then((hmax l 0 0:Int),0)else(0,6)
theorem ai3 {l:List bu}(p:l.length<=100000):DG l=O (Ps l):=by
 unfold DG Ps
 obtain⟨c,o,h⟩:=qR (f:=qC l) (a:=((0:Int),Za,(0:Int),([]:Zd))) (aY3 l) (λs=>l.length-s.1.toNat) (λc=>(c.1=Zb/\br l 0=Y)∨(c.1=Za/\br l 0=O c.2.2.length/\c.2.1=(hmax l 0 0:Int)))
  ⟨0,0,[],iE _,rfl,aB _,aB _,rfl,rfl⟩ (by simp;omega) (λs q=>ag0 p s q)
 rw[o];simp only[zG];rcases h with⟨b,d⟩|⟨b,d,k⟩
 .rw[b,d];rfl
 .rw[b,d,zC];by_cases j:c.2.2.length=0
  .rw[zB (show(c.2.2.length:Int)=0 by omega),zE (by rw[j]),k];rfl
  .rw[zA (show¬(c.2.2.length:Int)=0 by omega),zF (by intro e;injection e with e;exact j e)];rfl
def KI (l:List bu)(i:Nat):Nat:=(br (l.take i) 0).getD 0
theorem Vz {l:List bu}(c:br l 0=O 0)(hi:i<=l.length):br (l.take i) 0=O (KI l i):=by
 obtain⟨d,b,_⟩:=O9 c hi;unfold KI;rw[b];rfl
theorem Pv {l:List bu}(e:br l 0=O 0)(hi:i<l.length):(l[i].1=7/\KI l (i+1)=KI l i+1)∨(l[i].1=0/\0<KI l i/\KI l (i+1)=KI l i-1)∨(l[i].1≠7/\l[i].1≠0/\KI l (i+1)=KI l i):=by
 have b:=Vz e (i:=i+1) (by omega);rw[lK hi,vy,Vz e (by omega)]at b;have b:br [l[i]] (KI l i)=O (KI l (i+1)):=b;simp only[br]at b;split at b
 .cases b
 split at b
 .rename_i f c;split at b
  .cases b
  .injection b with b
   exact .inr (.inl ⟨c,by omega,b.symm⟩)
 rename_i f c;split at b
 .rename_i d;injection b with b
  exact .inl ⟨d,b.symm⟩
 .rename_i d;injection b with b
  exact .inr (.inr ⟨d,c,b.symm⟩)
theorem ar8 {l:List bu}(c:br l 0=O 0): ∀i,i<=l.length->KI l i<=i
 |0,_=>aB _
 |i+1,h=>by
  have:=ar8 c i (by omega);rcases Pv c (i:=i) (by omega)with⟨_,b⟩|⟨_,_,b⟩|⟨_,_,b⟩<;>omega
theorem Uz {l:List bu}(k:l.length<=100000)(h:br l 0=O 0){n:Nat}(o:n<=l.length):xp l (n:Int)=O (KI l n:Int):=by
 unfold xp;have e:am (py l (n:Int)) cj (0,((KI l 0:Nat):Int))=O ((KI l n:Nat):Int):=cx (n:=n) (λi=>((KI l i:Nat):Int)) (c:=((KI l n:Nat):Int)) (by omega) (λi hi=> ?_) ?_
 .show((am (py l (n:Int)) cj (0,((KI l 0:Nat):Int))).bind _)=_;rw[e];rfl
 .unfold py;simp only[ag];rw[Zg,bh (show i<l.length by omega)];simp only[zG];have j:=ar8 h i (by omega);rw[ad (n:=(i:Int)+1) (by omega)];rcases Pv h (i:=i) (by omega)with⟨b,d⟩|⟨b,f,d⟩|⟨b,f,d⟩
  .rw[zE b,Zh,ad (n:=((KI l i:Nat):Int)+1) (by omega),d];rfl
  .rw[Zh,zE b,ad (n:=((KI l i:Nat):Int)-1) (by omega),d,show((KI l i-1:Nat):Int)=(KI l i:Int)-1 by omega];rfl
  .rw[zF b,zF f,d];rfl
 .unfold py;simp only[ag];rw[Zh]
def E5 (l:List bu):Nat->Nat
 |0=>0
 |i+1=>max (E5 l i) (KI l i)
theorem RR {l:List bu}(j:br l 0=O 0): ∀k i,i+k=l.length->hmax (l.drop i) (KI l i) (E5 l (i+1))=E5 l (l.length+1)
 |0,i,h=>by
  have:i=l.length:=by omega
  subst this;rw[iH];rfl
 |k+1,i,h=>by
  rw[(iD (show i<l.length by omega)).symm];simp only[hmax];have d:=RR j k (i+1) (by omega);have e:E5 l (i+1+1)=max (E5 l (i+1)) (KI l (i+1)):=rfl;have o:E5 l (i+1)=max (E5 l i) (KI l i):=rfl;rcases Pv j (i:=i) (by omega)with⟨b,c⟩|⟨b,f,c⟩|⟨b,f,c⟩
  .rw[zE b,<-c,<-e];exact d
  .rw[Zh,zE b,<-c,show E5 l (i+1)=E5 l (i+1+1)by rw[e];omega];exact d
  .rw[zF b,zF f];rw[c,show E5 l (i+1+1)=E5 l (i+1)by rw[e];omega]at d;exact d
theorem Yb {l:List bu}(e:l.length<=100000):BB l=O (Ps l):=by
 unfold BB Ps;rw[Ku e];simp only[zG];by_cases b:br l 0=O 0
 .rw[zB b,zE b];simp only[iM,zD];have d:am (sv l) cj (0,((E5 l 0:Nat):Int))=O ((E5 l (l.length+1):Nat):Int):=cx (n:=l.length+1) (λi=>((E5 l i:Nat):Int)) (c:=((E5 l (l.length+1):Nat):Int)) (by omega) (λi hi=> ?_) ?_
  .show((am (sv l) cj (0,((E5 l 0:Nat):Int))).bind _)=_;rw[d];have h:=RR b l.length 0 (by omega);have f:KI l 0=0:=rfl;have j:E5 l (0+1)=0:=rfl;rw[f,j,List.drop_zero]at h;rw[h];rfl
  .unfold sv;simp only[ag];rw[Zg,Uz e b (by omega)];simp only[zG];rw[ad (n:=(i:Int)+1) (by omega)];show _=O (Sum.inl (((i+1:Nat):Int),((max (E5 l i) (KI l i):Nat):Int)));rw[show((max (E5 l i) (KI l i):Nat):Int)=max (E5 l i:Int) (KI l i:Int)by omega];rfl
  .unfold sv;simp only[ag];rw[Zh]
 .rw[zA b,zF b];rfl
structure OpsOk (l:List bu):Prop where
 len:l.length<=100
 v: ∀o∈l,0<=o.2.2.2.2/\o.2.2.2.2<=18446744073709551615
def N1 (l:List bu):Int:=if Nt l then 0 else 6
def MD (R:Int)(l:List bu):Int:=if LH R l then 0 else 7
def ME (l:List bu):Int:=if 8<(Ps l).1 then 8 else 0
def L3 (l:List bu):Int:=(dg l).2
def C9 (R:Int)(l:List bu):Int:=if N1 l≠0 then N1 l else if MD R l≠0 then MD R l else if ME l≠0 then ME l else L3 l
def uV (R:Int)(l:List bu)(Q:Int)(k:List bu):Int:=if N1 l≠0 then N1 l else if N1 k≠0 then N1 k else if MD R l≠0 then MD R l else if MD Q k≠0 then MD Q k else if ME l≠0 then ME l else if ME k≠0 then ME k else if L3 l≠0 then L3 l else L3 k
theorem Ih {R:Int}{l:List bu}(h:OpsOk l):jg R l=O (ME l):=by
 unfold jg ME;have:=h.len;rw[ai3 (by omega)];simp only[zG,Gi];by_cases c:8<(Ps l).1<;>simp[c]
theorem Gj {R:Int}{l:List bu}(h:OpsOk l):iw R l=O (L3 l):=by
 unfold iw L3;have:=h.len;rw[AI (by omega) h.v];rfl
theorem Rg {R:Int}{l:List bu}(h:OpsOk l):vB R l=O (C9 R l):=by
 unfold vB C9;rw[Kh h.len,A1 h.len,Ih h,Gj h];simp only[zG,ag];show(if N1 l≠0 then O (N1 l)else if MD R l≠0 then O (MD R l)else if ME l≠0 then O (ME l)else if L3 l≠0 then O (L3 l)else O 0)=_;split
 .rfl
 split
 .rfl
 split
 .rfl
 split
 .rfl
 .rename_i h;rw[show L3 l=0 by omega]
theorem XA {R Q:Int}{l k:List bu}(h:OpsOk l)(b:OpsOk k):Bx R l Q k=O (uV R l Q k):=by
 unfold Bx uV;rw[Kh h.len,A1 h.len,Ih h,Gj h,Kh b.len,A1 b.len,Ih b,Gj b];simp only[zG,ag];show(if N1 l≠0 then O (N1 l)else if N1 k≠0 then O (N1 k)else if MD R l≠0 then O (MD R l)else if MD Q k≠0 then O (MD Q k)else if ME l≠0 then O (ME l)else if ME k≠0 then O (ME k)else if L3 l≠0 then O (L3 l)else if L3 k≠0 then O (L3 k)else O 0)=_;split
 .rfl
 split
 .rfl
 split
 .rfl
 split
 .rfl
 split
 .rfl
 split
 .rfl
 split
 .rfl
 split
 .rfl
 .rename_i h;rw[show L3 k=0 by omega]
def RZ (R:Int)(l:List bu)(n:Nat):Int:=if n=0 then N1 l else if n=1 then MD R l else if n=2 then ME l else L3 l
theorem Kv {R:Int}{l:List bu}(h:OpsOk l)(n:Nat):ug R l (n:Int)=O (RZ R l n):=by
 unfold ug RZ;have:=h.len;simp only[ag];by_cases b:n=0
 .rw[Zg,zE b,Ye h.len];unfold N1;simp only[zG];cases Nt l<;>rfl
 rw[Zh,zF b];by_cases c:n=1
 .rw[Zg,zE c,N9 h.len];unfold MD;simp only[zG];cases LH R l<;>rfl
 rw[Zh,zF c];by_cases d:n=2
 .rw[Zg,zE d,Yb (by omega)];unfold ME;simp only[zG];split<;>rfl
 rw[Zh,zF d,B6 h.len h.v];rfl
theorem Rp {R:Int}{l:List bu}(h:OpsOk l):vC R l=O (C9 R l):=by
 have b: ∀n:Nat,n<4->mB R l (n:Int)=O (if RZ R l n≠0 then .inr (.inl (RZ R l n))else .inl ((n+1:Nat):Int)):=by
  intro n p;unfold mB;simp only[ag];rw[Zg,Kv h];simp only[zG];rw[ad (n:=(n:Int)+1) (by omega)];split<;>rfl
 have c:mB R l 4=O (.inr (.inr ())):=rfl;unfold vC C9
 have e:am (mB R l) cj 0=O (if N1 l≠0 then .inl (N1 l)else if MD R l≠0 then .inl (MD R l)else if ME l≠0 then .inl (ME l)else if L3 l≠0 then .inl (L3 l)else .inr ()):=by
  have o:cj=18446744073709551611+1+1+1+1+1:=rfl;rw[o,cg];have d:=b 0 (by omega);have f:=b 1 (by omega);have j:=b 2 (by omega);have k:=b 3 (by omega);rw[show RZ R l 0=N1 l from rfl]at d;rw[show RZ R l 1=MD R l from rfl]at f;rw[show RZ R l 2=ME l from rfl]at j;rw[show RZ R l 3=L3 l from rfl]at k;have d:mB R l 0=_:=d;rw[d];simp only[zG];split
  .rfl
  simp only[bc];rw[cg,f];simp only[zG];split
  .rfl
  simp only[bc];rw[cg,j];simp only[zG];split
  .rfl
  simp only[bc];rw[cg,k];simp only[zG];split
  .rfl
  simp only[bc];rw[cg,show(((3+1:Nat):Int))=4 from rfl,c];rfl
 rw[e];simp only[zG];split
 .rfl
 split
 .rfl
 split
 .rfl
 split
 .rfl
 .rename_i h;rw[show L3 l=0 by omega];rfl
theorem Yd {R Q:Int}{l k:List bu}(h:OpsOk l)(p:OpsOk k):BC R l Q k=O (uV R l Q k):=by
 have b: ∀n:Nat,n<4->pj R l Q k (n:Int)=O (if RZ R l n≠0 then .inr (.inl (RZ R l n))else if RZ Q k n≠0 then .inr (.inl (RZ Q k n))else .inl ((n+1:Nat):Int)):=by
  intro n r;unfold pj;simp only[ag];rw[Zg,Kv h,Kv p];simp only[zG];rw[ad (n:=(n:Int)+1) (by omega)];split
  .rfl
  split<;>rfl
 have c:pj R l Q k 4=O (.inr (.inr ())):=rfl;unfold BC uV
 have e:am (pj R l Q k) cj 0=O (if N1 l≠0 then .inl (N1 l)else if N1 k≠0 then .inl (N1 k)else if MD R l≠0 then .inl (MD R l)else if MD Q k≠0 then .inl (MD Q k)else if ME l≠0 then .inl (ME l)else if ME k≠0 then .inl (ME k)else if L3 l≠0 then .inl (L3 l)else if L3 k≠0 then .inl (L3 k)else .inr ()):=by
  have q:cj=18446744073709551611+1+1+1+1+1:=rfl;rw[q,cg];have d:=b 0 (by omega);have f:=b 1 (by omega);have j:=b 2 (by omega);have o:=b 3 (by omega);rw[show RZ R l 0=N1 l from rfl,show RZ Q k 0=N1 k from rfl]at d;rw[show RZ R l 1=MD R l from rfl,show RZ Q k 1=MD Q k from rfl]at f;rw[show RZ R l 2=ME l from rfl,show RZ Q k 2=ME k from rfl]at j;rw[show RZ R l 3=L3 l from rfl,show RZ Q k 3=L3 k from rfl]at o;have d:pj R l Q k 0=_:=d;rw[d];simp only[zG];split
  .rfl
  split
  .rfl
  simp only[bc];rw[cg,f];simp only[zG];split
  .rfl
  split
  .rfl
  simp only[bc];rw[cg,j];simp only[zG];split
  .rfl
  split
  .rfl
  simp only[bc];rw[cg,o];simp only[zG];split
  .rfl
  split
  .rfl
  simp only[bc];rw[cg,show(((3+1:Nat):Int))=4 from rfl,c];rfl
 rw[e];simp only[zG];split
 .rfl
 split
 .rfl
 split
 .rfl
 split
 .rfl
 split
 .rfl
 split
 .rfl
 split
 .rfl
 split
 .rfl
 .rename_i h;rw[show L3 k=0 by omega];rfl
theorem aH2 (a0:Int)(a1:List bu)(a2:Int)(a3:List bu)(a4 a5:Int): ∃d,w9 a0 a1 a2 a3 a4 a5=O d/\uf a0 a1 a2 a3 a4 a5=O d:=by
 unfold w9 uf;simp only[Gi,zG,ag];by_cases b:a4<1
 .rw[zE b,zE b];exact⟨_,rfl,rfl⟩
 rw[zF b,zF b];by_cases c:64<a4
 .rw[zE c,zE c];exact⟨_,rfl,rfl⟩
 rw[zF c,zF c];by_cases e:a5<0
 .rw[zE e,zE e];exact⟨_,rfl,rfl⟩
 rw[zF e,zF e];by_cases f:64<a5
 .rw[zE f];simp only[zG];rw[ag,zE f];exact⟨_,rfl,rfl⟩
 rw[zF f];simp only[zG];rw[ag,zF f];by_cases h:a0<IntKind.i64.wrap (zH zI (a4+a5)+1)
 .rw[zE h,zE h];exact⟨_,rfl,rfl⟩
 rw[zF h,zF h];by_cases j:a2<IntKind.i64.wrap (a4+a5)
 .rw[zE j,zB j];exact⟨_,rfl,rfl⟩
 .rw[zF j,zA j];exact⟨_,rfl,rfl⟩
def DW (s l x t:Int):Int:=if x<1 then 10 else if 64<x then 10 else if t<0 then 10 else if 64<t then 10 else if s<IntKind.i64.wrap (zH zI (x+t)+1)then 10 else if l<IntKind.i64.wrap (x+t)then 10 else 0
theorem P8 (a0:Int)(a1:List bu)(a2:Int)(a3:List bu)(a4 a5:Int):uf a0 a1 a2 a3 a4 a5=O (DW a0 a2 a4 a5):=by
 unfold uf DW;simp only[ag];split
 .rfl
 split
 .rfl
 split
 .rfl
 split
 .rfl
 split
 .rfl
 split<;>rfl
theorem Xz (a0:Int)(a1:List bu)(a2:Int)(a3:List bu)(a4 a5:Int):w9 a0 a1 a2 a3 a4 a5=O (DW a0 a2 a4 a5):=by
 obtain⟨d,b,c⟩:=aH2 a0 a1 a2 a3 a4 a5;rw[b,<-c,P8]
def hk0 (m:Int):Int:=if m<1 then 5 else if 3<m then 5 else 0
def hk3 (m n:Int):Int:=if n<0 then 11 else if(if m=2 then 0 else 65535)<n then 11 else 0
def hk4 (b:Int):Int:=if b<0 then 12 else if 1048576<b then 12 else 0
def A5 (m:Int)(x t:Nat)(R:Int)(l:List bu)(Q:Int)(k:List bu)(n b:Int):Int:=if hk0 m≠0 then hk0 m else if uV R l Q k≠0 then uV R l Q k else if DW R Q x t≠0 then DW R Q x t else if hk3 m n≠0 then hk3 m n else hk4 b
theorem Ir (b:Bool)(e:Int):oc b e=O (if b then e else 0):=by cases b<;>rfl
section
variable {a0:Int} {a1 a2:Zd} {a3:Int} {a4:List bu} {a5:Int} {a6:List bu} {a7 a8:Int}
theorem ba8 :mW a0 a1 a2 a3 a4 a5 a6 a7 a8=O (hk0 a0):=by
 unfold mW hk0;simp only[Ir,zG,ag];split
 .rfl
 .by_cases c:3<a0<;>simp[c]
theorem XT (b:OpsOk a4)(c:OpsOk a6):jo a0 a1 a2 a3 a4 a5 a6 a7 a8=O (uV a3 a4 a5 a6):=by
 unfold jo;rw[XA b c];rfl
theorem ba7 :mV a0 a1 a2 a3 a4 a5 a6 a7 a8=O (DW a3 a5 (a1.length:Nat) (a2.length:Nat)):=by
 unfold mV;rw[Xz];rfl
theorem at4 :lX a0 a1 a2 a3 a4 a5 a6 a7 a8=O (hk3 a0 a7):=by
 unfold lX hk3;simp only[Ir,zG,ag];by_cases b:a0=2
 .rw[zE b,zE b];simp only[zG];split
  .rfl
  .by_cases c:0<a7<;>simp[c]
 .rw[zF b,zF b];simp only[zG];split
  .rfl
  .by_cases c:65535<a7<;>simp[c]
theorem at3 :lz a0 a1 a2 a3 a4 a5 a6 a7 a8=O (hk4 a8):=by
 unfold lz hk4;simp only[Ir,zG,ag];split
 .rfl
 .by_cases c:1048576<a8<;>simp[c]
theorem Ln (j:OpsOk a4)(o:OpsOk a6):tx a0 a1 a2 a3 a4 a5 a6 a7 a8=O (A5 a0 a1.length a2.length a3 a4 a5 a6 a7 a8):=by
 have c:ly a0 a1 a2 a3 a4 a5 a6 a7 a8 0=O (if hk0 a0≠0 then .inr (.inl (hk0 a0))else .inl 1):=by
  show((mW a0 a1 a2 a3 a4 a5 a6 a7 a8).bind λr=>cond (Zc (r≠0)) _ _)=_;rw[ba8];simp only[zG,ag];split<;>rfl
 have d:ly a0 a1 a2 a3 a4 a5 a6 a7 a8 1=O (if uV a3 a4 a5 a6≠0 then .inr (.inl (uV a3 a4 a5 a6))else .inl 2):=by
  show((jo a0 a1 a2 a3 a4 a5 a6 a7 a8).bind λr=>cond (Zc (r≠0)) _ _)=_;rw[XT j o];simp only[zG,ag];split<;>rfl
 have e:ly a0 a1 a2 a3 a4 a5 a6 a7 a8 2=O (if DW a3 a5 (a1.length:Nat) (a2.length:Nat)≠0 then .inr (.inl (DW a3 a5 (a1.length:Nat) (a2.length:Nat)))else .inl 3):=by
  show((mV a0 a1 a2 a3 a4 a5 a6 a7 a8).bind λr=>cond (Zc (r≠0)) _ _)=_;rw[ba7];simp only[zG,ag];split<;>rfl
 have f:ly a0 a1 a2 a3 a4 a5 a6 a7 a8 3=O (if hk3 a0 a7≠0 then .inr (.inl (hk3 a0 a7))else .inl 4):=by
  show((lX a0 a1 a2 a3 a4 a5 a6 a7 a8).bind λr=>cond (Zc (r≠0)) _ _)=_;rw[at4];simp only[zG,ag];split<;>rfl
 have k:ly a0 a1 a2 a3 a4 a5 a6 a7 a8 4=O (if hk4 a8≠0 then .inr (.inl (hk4 a8))else .inl 5):=by
  show((lz a0 a1 a2 a3 a4 a5 a6 a7 a8).bind λr=>cond (Zc (r≠0)) _ _)=_;rw[at3];simp only[zG,ag];split<;>rfl
 have b:ly a0 a1 a2 a3 a4 a5 a6 a7 a8 5=O (.inr (.inr ())):=rfl;unfold tx A5;have p:cj=18446744073709551610+1+1+1+1+1+1:=rfl;rw[p,cg,c];simp only[zG];split
 .rfl
 simp only[bc];rw[cg,d];simp only[zG];split
 .rfl
 simp only[bc];rw[cg,e];simp only[zG];split
 .rfl
 simp only[bc];rw[cg,f];simp only[zG];split
 .rfl
 simp only[bc];rw[cg,k];simp only[zG];split
 .rfl
 .rename_i h;simp only[bc];rw[cg,b];rw[show hk4 a8=0 by omega];rfl
theorem NC (o:OpsOk a4)(p:OpsOk a6):vh a0 a1 a2 a3 a4 a5 a6 a7 a8=O (A5 a0 a1.length a2.length a3 a4 a5 a6 a7 a8):=by
 unfold vh A5;rw[Yd o p,P8];simp only[zG,ag];unfold hk0;by_cases c:a0<1
 .rw[zE c,zE c];rfl
 rw[zF c,zF c];by_cases d:3<a0
 .rw[zE d,zE d];rfl
 rw[zF d,zF d];rw[zF (show¬(0:Int)≠0 by simp)];by_cases e:uV a3 a4 a5 a6≠0
 .rw[zE e,zE e]
 rw[zF e,zF e];by_cases f:DW a3 a5 (a1.length:Nat) (a2.length:Nat)≠0
 .rw[zE f,zE f]
 rw[zF f,zF f];unfold hk3 hk4;by_cases h:a7<0
 .rw[zE h,zE h];rfl
 rw[zF h,zF h];by_cases j:a0=2
 .rw[zE j,zE j];by_cases k:0<a7
  .rw[zE k,zE (show(11:Int)≠0 by simp)];by_cases b:65535<a7
   .rw[zE b]
   .rw[zF b,Zg]
  .rw[zF k,zF (show¬(0:Int)≠0 by simp),zF (show¬65535<a7 by omega),zF (show¬a7≠0 by omega)];split
   .rfl
   .split<;>rfl
 .rw[zF j,zF j];by_cases b:65535<a7
  .rw[zE b,zE b];rfl
  .rw[zF b,zF b,zF (show¬(0:Int)≠0 by simp)];split
   .rfl
   .split<;>rfl
structure HFacts (a0:Int)(x t:Nat)(a3:Int)(a4:List bu)(a5:Int)(a6:List bu)(a7 a8:Int):Prop where
 mode:1<=a0/\a0<=3
 regs:1<=a3/\a3<=64
 regs':1<=a5/\a5<=64
 xs:1<=x/\x<=64
 ts:t<=64
 w:0<=(dg a4).1/\(dg a4).1<=65536
 w':0<=(dg a6).1/\(dg a6).1<=65536
 len:0<=a7/\a7<=65535
 bud:0<=a8/\a8<=1048576
theorem VS {R:Int}{l:List bu}(h:MD R l=0):1<=R/\R<=64:=by
 unfold MD at h;split at h
 .rename_i b;unfold LH at b;rw[Bool.and_eq_true]at b;exact of_decide_eq_true b.1
 .cases h
theorem QK {l:List bu}(h:OpsOk l):0<=(dg l).1/\(dg l).1<=65536:=by
 unfold dg;split
 .rename_i d;split
  .rename_i w c;have:=Na (λo b=>(h.v o b).1) d c;split
   .simp
   .simp;omega
  .simp
 .simp
theorem aj0 {R Q:Int}{l k:List bu}(h:uV R l Q k=0):(1<=R/\R<=64)/\(1<=Q/\Q<=64):=by
 unfold uV at h;split at h
 .rename_i c;exact(c h).elim
 split at h
 .rename_i c;exact(c h).elim
 split at h
 .rename_i c;exact(c h).elim
 split at h
 .rename_i c;exact(c h).elim
 rename_i b d;exact⟨VS (l:=l) (by omega),VS (l:=k) (by omega)⟩
theorem Gq (j:OpsOk a4)(k:OpsOk a6)(h:A5 a0 x t a3 a4 a5 a6 a7 a8=0):HFacts a0 x t a3 a4 a5 a6 a7 a8:=by
 unfold A5 at h;split at h
 .rename_i c;exact(c h).elim
 split at h
 .rename_i c;exact(c h).elim
 split at h
 .rename_i c;exact(c h).elim
 split at h
 .rename_i c;exact(c h).elim
 rename_i e q b d;obtain⟨o,p⟩:=aj0 (show uV a3 a4 a5 a6=0 by omega);have e:hk0 a0=0:=by omega
 have b:DW a3 a5 x t=0:=by omega
 have d:hk3 a0 a7=0:=by omega
 unfold hk0 at e;unfold hk3 at d;unfold hk4 at h;unfold DW at b;refine⟨?_,o,p, ?_, ?_,QK j,QK k, ?_, ?_⟩
 .split at e
  .omega
  split at e<;>omega
 .split at b
  .omega
  split at b<;>omega
 .split at b
  .omega
  split at b
  .omega
  split at b
  .omega
  split at b<;>omega
 .split at d
  .omega
  by_cases f:a0=2
  .rw[zE f]at d;split at d<;>omega
  .rw[zF f]at d;split at d<;>omega
 .split at h
  .omega
  split at h<;>omega
def ri (a0:Int)(a4 a6:List bu):Int:=if a0=3 then(dg a6).1 else(dg a4).1+(dg a6).1
def rh (a0:Int)(x:Nat)(a3:Int)(a4:List bu):Int:=if a0=3 then(dg a4).1+a3 else x+1
def sX (x t:Nat)(a3 a5:Int):Int:=2*t+2*x+a3+a5+max a3 a5
theorem ab5 (b:OpsOk a4)(c:OpsOk a6):mA a0 a1 a2 a3 a4 a5 a6 a7 a8=O (if A5 a0 a1.length a2.length a3 a4 a5 a6 a7 a8≠0 then(0,0)else((dg a4).1,(dg a6).1)):=by
 unfold mA;have:=b.len;have:=c.len;rw[Ln b c,AI (by omega) b.v,AI (by omega) c.v];simp only[zG,ag];split<;>rfl
theorem LG (b:OpsOk a4)(c:OpsOk a6):rJ a0 a1 a2 a3 a4 a5 a6 a7 a8=O (if A5 a0 a1.length a2.length a3 a4 a5 a6 a7 a8≠0 then(0,0)else((dg a4).1,(dg a6).1)):=by
 unfold rJ;have:=b.len;have:=c.len;rw[NC b c,B6 b.len b.v,B6 c.len c.v];simp only[zG,ag];split<;>rfl
theorem Kr (b:OpsOk a4)(d:OpsOk a6)(h:A5 a0 a1.length a2.length a3 a4 a5 a6 a7 a8=0):xn a0 a1 a2 a3 a4 a5 a6 a7 a8=O (((a2.length:Nat):Int),((a1.length:Nat):Int),a3,a5,max a3 a5,((a1.length:Nat):Int),((a2.length:Nat):Int),ri a0 a4 a6,rh a0 a1.length a3 a4):=by
 have f:=Gq b d h;have e:=f.mode;have j:=f.regs;have k:=f.xs;have o:=f.w;have p:=f.w';unfold xn ri rh;rw[ab5 b d,zF (λc=>c h)];simp only[zG,ag];rw[ad (n:=(dg a4).1+a3) (by omega),ad (n:=(dg a4).1+(dg a6).1) (by omega),ad (n:=(a1.length:Int)+1) (by omega)];split
 .rfl
 .rfl
def pre (L:Zd):Nat->Int
 |0=>0
 |i+1=>pre L i+L.getD i 0
theorem Uu {L:Zd}(b: ∀j,0<=L.getD j 0/\L.getD j 0<=1000000000000): ∀i,0<=pre L i/\pre L i<=1000000000000*i
 |0=>⟨iQ _,iQ _⟩
 |i+1=>by
  have:=Uu b i;have:=b i;simp only[pre];omega
theorem P2 {b0 b1 b2 b3 c d f h b n:Int}(o: ∀j,0<=([b0,b1,b2,b3,c,d,f,h,b*n]:Zd).getD j 0/\([b0,b1,b2,b3,c,d,f,h,b*n]:Zd).getD j 0<=1000000000000):Cm b0 b1 b2 b3 c d f h b n=O ((fD 10).map (pre [b0,b1,b2,b3,c,d,f,h,b*n])):=by
 generalize q:([b0,b1,b2,b3,c,d,f,h,b*n]:Zd)=L at*;have r:=Uu o
 have k:am (vb b0 b1 b2 b3 c d f h b) cj (0,(pre L 0,(fD 0).map (pre L)))=O (pre L 8,(fD 8).map (pre L)):=by
  refine cx (n:=8) (λi=>(pre L i,(fD i).map (pre L))) (by omega) (λi hi=> ?_) ?_
  .unfold vb;rw[ag,Zg,bi (show i<9 by omega)];simp only[zG]
   have e:iI [b0,b1,b2,b3,c,d,f,h,b] i 0=L.getD i 0:=by
    subst q;rcases(show i=0∨i=1∨i=2∨i=3∨i=4∨i=5∨i=6∨i=7 by omega)with rfl|rfl|rfl|rfl|rfl|rfl|rfl|rfl<;>rfl
   have s:=r i;have p:=o i;rw[e];rw[ca (by simp;omega) (by omega),ad (n:=pre L i+L.getD i 0) (by omega),ad (n:=(i:Int)+1) (by omega),iX,iL];rfl
  .unfold vb;rw[ag,Zh]
 unfold Cm;have k:am (vb b0 b1 b2 b3 c d f h b) cj ((0,0,[]))=_:=k;rw[k];have s:=r 8;have p:=o 8;have e:L.getD 8 0=b*n:=by subst q;rfl
 rw[e]at p;simp only[zG];rw[ca (by simp) (by omega),ca (by simp) (by omega),ad (n:=b*n) (by omega),ad (n:=pre L 8+b*n) (by omega)];show _=O ((fD (8+1+1)).map (pre L));rw[iX (n:=8+1),iX (n:=8),iL,iL];show _=O (((fD 8).map (pre L)++[pre L 8])++[pre L 8+L.getD 8 0]);rw[e]
theorem aj3 {b0 b1 b2 b3 b c d e f n:Int}(h: ∀j,0<=([b0,b1,b2,b3,b,c,d,e,f*n]:Zd).getD j 0/\([b0,b1,b2,b3,b,c,d,e,f*n]:Zd).getD j 0<=1000000000000):Ae b0 b1 b2 b3 b c d e f n=O (b0+b1+b2+b3+b+c+d+e+f*n):=by
 unfold Ae;rw[P2 h];show O (0+b0+b1+b2+b3+b+c+d+e+f*n)=_;rw[fB]
theorem bz9 {b0 b1 b2 b3 b c d e f:Int}{p:Int->Prop}(h:p b0)(k:p b1)(o:p b2)(q:p b3)(r:p b)(s:p c)(u:p d)(y:p e)(z:p f)(A:p 0): ∀j,p (([b0,b1,b2,b3,b,c,d,e,f]:Zd).getD j 0)
 |0=>h
 |1=>k
 |2=>o
 |3=>q
 |4=>r
 |5=>s
 |6=>u
 |7=>y
 |8=>z
 |j+9=>by
  show p ((([]:Zd)).getD j 0);rw[List.getD_nil];exact A
theorem PV {s n:Int}(c:0<=s/\s<=100000)(b:0<=n/\n<=1048576):0<=s*n/\s*n<=1000000000000:=by
 have d:=iG c.1 b.1;have e:=Int.mul_le_mul c.2 b.2 b.1 (by omega);omega
structure SFacts (x t:Nat)(a3 a5 tp sl:Int):Prop where
 xs:1<=x/\x<=64
 ts:t<=64
 r:1<=a3/\a3<=64
 r':1<=a5/\a5<=64
 tp:0<=tp/\tp<=131072
 sl:1<=sl/\sl<=100000
theorem MT (b:OpsOk a4)(c:OpsOk a6)(h:A5 a0 x t a3 a4 a5 a6 a7 a8=0):SFacts x t a3 a5 (ri a0 a4 a6) (rh a0 x a3 a4):=by
 have f:=Gq b c h;have d:=f.mode;have e:=f.regs;have j:=f.xs;have k:=f.w;have o:=f.w';refine⟨f.xs,f.ts,f.regs,f.regs', ?_, ?_⟩
 .unfold ri;split<;>omega
 .unfold rh;split<;>omega
theorem UG {tp sl n:Int}(s:SFacts x t a3 a5 tp sl)(b:0<=n/\n<=1048576): ∀j,0<=([(t:Int),x,a3,a5,max a3 a5,x,t,tp,sl*n]:Zd).getD j 0/\([(t:Int),x,a3,a5,max a3 a5,x,t,tp,sl*n]:Zd).getD j 0<=1000000000000:=by
 have c:=s.xs;have d:=s.ts;have e:=s.r;have f:=s.r';have h:=s.tp;have k:=s.sl;exact bz9 (p:=λy=>0<=y/\y<=1000000000000) (by omega) (by omega) (by omega) (by omega) (by omega) (by omega) (by omega) (by omega) (PV (by omega) b) (by omega)
theorem bd5 {b sl n:Int}(s:SFacts x t a3 a5 b sl)(c:0<=n/\n<=1048576):Ae t x a3 a5 (max a3 a5) x t b sl n=O (sX x t a3 a5+b+n*sl):=by
 rw[aj3 (UG s c)];unfold sX;rw[iF sl n]
 congr 1
 omega
theorem Wt {b sl:Int}(h:SFacts a1.length a2.length a3 a5 b sl):zO a0 a1 a2 a3 a4 a5 a6 a7 a8=O (sX a1.length a2.length a3 a5):=by
 have c:=h.xs;have d:=h.ts;have e:=h.r;have f:=h.r';unfold zO sX;rw[ad (n:=2*(a2.length:Int)) (by omega),ad (n:=2*(a1.length:Int)) (by omega),ad (n:=2*(a2.length:Int)+2*(a1.length:Int)) (by omega),ad (n:=2*(a2.length:Int)+2*(a1.length:Int)+a3) (by omega),ad (n:=2*(a2.length:Int)+2*(a1.length:Int)+a3+a5) (by omega),Zi]
theorem Yl (b:OpsOk a4)(d:OpsOk a6)(h:A5 a0 a1.length a2.length a3 a4 a5 a6 a7 a8=0):BN a0 a1 a2 a3 a4 a5 a6 a7 a8=O (ri a0 a4 a6):=by
 have f:=Gq b d h;have e:=f.w;have j:=f.w';unfold BN ri;rw[LG b d,zF (λc=>c h)];simp only[zG,ag];rw[Zi];split<;>rfl
theorem Yk (b:OpsOk a4)(d:OpsOk a6)(h:A5 a0 a1.length a2.length a3 a4 a5 a6 a7 a8=0):BM a0 a1 a2 a3 a4 a5 a6 a7 a8=O (rh a0 a1.length a3 a4):=by
 have f:=Gq b d h;have e:=f.regs;have j:=f.xs;have k:=f.w;have o:=f.w';unfold BM rh;rw[LG b d,zF (λc=>c h)];simp only[zG,ag];rw[ad (n:=(dg a4).1+a3) (by omega),Zi];split<;>rfl
def least (a0 a7:Int):Int:=if a0=3 then a7 else 1
def oX (a0:Int)(x t:Nat)(a3:Int)(a4:List bu)(a5:Int)(a6:List bu)(a7 a8:Int):Int×Int×Int×Int×Int:=
 if A5 a0 x t a3 a4 a5 a6 a7 a8≠0 then(0,0,0,0,A5 a0 x t a3 a4 a5 a6 a7 a8)
 else if a8<sX x t a3 a5+ri a0 a4 a6+least a0 a7*rh a0 x a3 a4 then(0,0,0,0,13)
 else(sX x t a3 a5,ri a0 a4 a6,rh a0 x a3 a4,if a0=3 then a7 else(a8-sX x t a3 a5-ri a0 a4 a6) / rh a0 x a3 a4,0)
theorem ay3 {b sl n:Int}(s:SFacts x t a3 a5 b sl):am (xm (t:Int) (x:Int) a3 a5 (max a3 a5) (x:Int) (t:Int) b sl) cj (0,0,b,sl,n)=O (sX x t a3 a5,b,sl,n):=by
 have d:=UG (n:=1) s (by omega);have j:=Uu d
 have f:pre [(t:Int),x,a3,a5,max a3 a5,x,t,b,sl*1] 7=sX x t a3 a5:=by
  show 0+(t:Int)+x+a3+a5+max a3 a5+x+t=_;unfold sX;omega
 rw[<-f];generalize h:([(t:Int),x,a3,a5,max a3 a5,x,t,b,sl*1]:Zd)=L at*;refine cx (n:=7) (λi=>(pre L i,b,sl,n)) (c:=(pre L 7,b,sl,n)) (by omega) (λi hi=> ?_) ?_
 .unfold xm;rw[ag,Zg,bi (show i<9 by omega)];simp only[zG]
  have e:iI [(t:Int),x,a3,a5,max a3 a5,x,t,b,sl] i 0=L.getD i 0:=by
   subst h;rcases(show i=0∨i=1∨i=2∨i=3∨i=4∨i=5∨i=6 by omega)with rfl|rfl|rfl|rfl|rfl|rfl|rfl<;>rfl
  have k:=j i;have o:=d i;rw[e,ad (n:=pre L i+L.getD i 0) (by omega),ad (n:=(i:Int)+1) (by omega)];rfl
 .unfold xm;rw[ag,Zh]
theorem MJ (e:OpsOk a4)(j:OpsOk a6):wv a0 a1 a2 a3 a4 a5 a6 a7 a8=O (oX a0 a1.length a2.length a3 a4 a5 a6 a7 a8):=by
 unfold wv oX;rw[Ln e j];simp only[zG];by_cases h:A5 a0 a1.length a2.length a3 a4 a5 a6 a7 a8=0
 .rw[zA (λc=>c h),zD,zF (λc=>c h),Kr e j h];have s:=MT e j h;have f:=Gq e j h;have z:=f.mode;have A:=f.len;have B:=f.bud;have C:=s.xs;have D:=s.ts;have E:=s.r;have F:=s.r';have H:=s.tp;have I:=s.sl
  have u:(cond (Zc (a0=3)) (O a7) (O (1:Int)))=O (least a0 a7):=by
   unfold least;rw[ag];split<;>rfl
  have y:0<=least a0 a7/\least a0 a7<=65535:=by unfold least;split<;>omega
  simp only[zG];rw[u];simp only[zG];rw[bd5 s (by omega)];simp only[zG];rw[ay3 s];simp only[zG,ag];by_cases c:a8<sX a1.length a2.length a3 a5+ri a0 a4 a6+least a0 a7*rh a0 a1.length a3 a4
  .rw[zE c,zE c]
  .rw[zF c,zF c];have q:0<=sX a1.length a2.length a3 a5/\sX a1.length a2.length a3 a5<=1000:=by unfold sX;omega
   by_cases b:a0=3
   .rw[zF (λk=>k b),zE b];unfold least;rw[zE b]
   .rw[zE b,zF b,ba6 (by omega)];unfold least at c;rw[zF b]at c;generalize sX a1.length a2.length a3 a5=d at*;generalize ri a0 a4 a6=tp at*;generalize rh a0 a1.length a3 a4=sl at*;rw[ad (n:=a8-d) (by omega),ad (n:=a8-d-tp) (by omega),ac8 (by omega)];have o:0<=(a8-d-tp) / sl:=iP (by omega) (by omega);have p:(a8-d-tp) / sl<=a8-d-tp:=iO _ (by omega);rw[Zi]
 .rw[zB h,zC,zE h]
theorem Gz (j:OpsOk a4)(o:OpsOk a6):xD a0 a1 a2 a3 a4 a5 a6 a7 a8=O (oX a0 a1.length a2.length a3 a4 a5 a6 a7 a8):=by
 unfold xD oX;rw[NC j o];simp only[zG];by_cases h:A5 a0 a1.length a2.length a3 a4 a5 a6 a7 a8=0
 .have s:=MT j o h;have f:=Gq j o h;rw[zA (λc=>c h),zD,zF (λc=>c h),Wt s,Yl j o h,Yk j o h];have E:=f.mode;have F:=f.len;have H:=f.bud;have I:=s.xs;have J:=s.ts;have K:=s.r;have L:=s.r';have M:=s.tp;have N:=s.sl;have A:0<=sX a1.length a2.length a3 a5/\sX a1.length a2.length a3 a5<=1000:=by unfold sX;omega
  have C:0<=least a0 a7/\least a0 a7<=65535:=by unfold least;split<;>omega
  simp only[zG];generalize sX a1.length a2.length a3 a5=b at*;generalize ri a0 a4 a6=tp at*;generalize rh a0 a1.length a3 a4=sl at*
  have B:(cond (Zc (a0=3)) (O ((b,tp,sl,a7):Int×Int×Int×Int)) (O (b,tp,sl,1)))=O (b,tp,sl,least a0 a7):=by
   unfold least;rw[ag];split<;>rfl
  rw[B];simp only[zG];have q:=PV (s:=sl) (n:=least a0 a7) (by omega) (by omega);rw[iF]at q;rw[ad (n:=b+tp) (by omega),ad (n:=least a0 a7*sl) (by omega),Zi,ag];by_cases c:a8<b+tp+least a0 a7*sl
  .rw[zE c,zE c]
  .rw[zF c,zF c];by_cases e:a0=3
   .have d:am (sy a0 a8) cj (b,tp,sl,least a0 a7)=O (b,tp,sl,least a0 a7):=by
     rw[show cj=18446744073709551615+1 from rfl,cg];unfold sy;rw[ag,zF (λk=>k e)];rfl
    rw[d,zE e];unfold least;rw[zE e];rfl
   .have d:am (sy a0 a8) cj (b,tp,sl,least a0 a7)=O (b,tp,sl,(a8-b-tp) / sl):=by
     refine Oo (λst=> ∃n:Int,st=(b,tp,sl,n)/\1<=n/\n<=1048577/\b+tp+n*sl<=a8) (λst=>(2000000-st.2.2.2).toNat) ⟨least a0 a7,rfl,by unfold least;rw[zF e];omega,by omega,by omega⟩ (by simp;omega) ?_;rintro _ ⟨n,rfl,T,U,V⟩;unfold sy;simp only;have q:=PV (s:=sl) (n:=n+1-2) (by omega) (by omega);have Q:(n+1)*sl=sl*(n+1-2)+2*sl:=by rw[Int.mul_sub,iF];omega
     have D:(n+1)*sl=n*sl+sl:=by rw[Int.add_mul,Int.one_mul]
     rw[ag,zE e,ad (n:=n+1) (by omega),ad (n:=b+tp) (by omega),ad (n:=(n+1)*sl) (by omega),Zi,ag]
     have u:n<=n*sl:=by
      have:=iR (show 1<=sl by omega) (show 0<=n by omega);omega
     by_cases p:b+tp+(n+1)*sl<=a8
     .rw[zE p];left;exact⟨_,rfl,⟨n+1,rfl,by omega,by omega,p⟩,by simp only;omega⟩
     .rw[zF p];right
      have z:(a8-b-tp) / sl=n:=by
       have y:a8-b-tp=(a8-b-tp-n*sl)+n*sl:=by omega
       rw[y,Int.add_mul_ediv_right _ _ (by omega),Int.ediv_eq_zero_of_lt (by omega) (by omega),fB]
      rw[z]
    rw[d,zF e];rfl
 .rw[zB h,zC,zE h]
theorem aj2 (j:OpsOk a4)(k:OpsOk a6): ∃r,sE a0 a1 a2 a3 a4 a5 a6 a7 a8=O r/\tD a0 a1 a2 a3 a4 a5 a6 a7 a8=O r/\r.2.length<=10:=by
 unfold sE tD;rw[MJ j k,Gz j k];simp only[zG,ag];by_cases h:(oX a0 a1.length a2.length a3 a4 a5 a6 a7 a8).2.2.2.2≠0
 .rw[zE h,zE h];exact⟨_,rfl,rfl,by simp⟩
 rw[zF h,zF h]
 have b:A5 a0 a1.length a2.length a3 a4 a5 a6 a7 a8=0:=by
  by_cases b:A5 a0 a1.length a2.length a3 a4 a5 a6 a7 a8=0
  .exact b
  .exfalso;apply h;unfold oX;rw[zE b];exact b
 have s:=MT j k b;have f:=Gq j k b;rw[Kr j k b];simp only[zG];have J:=f.mode;have K:=f.len;have M:=f.bud;have N:=s.xs;have Q:=s.ts;have T:=s.r;have U:=s.r';have V:=s.tp;have W:=s.sl;have E:0<=sX a1.length a2.length a3 a5/\sX a1.length a2.length a3 a5<=1000:=by unfold sX;omega
 have q:(oX a0 a1.length a2.length a3 a4 a5 a6 a7 a8).2.1=ri a0 a4 a6/\(oX a0 a1.length a2.length a3 a4 a5 a6 a7 a8).2.2.1=rh a0 a1.length a3 a4/\0<=(oX a0 a1.length a2.length a3 a4 a5 a6 a7 a8).2.2.2.1/\(oX a0 a1.length a2.length a3 a4 a5 a6 a7 a8).2.2.2.1<=1048576:=by
  unfold oX at h⊢;rw[zF (λc=>c b)]at h⊢;split at h
  .exact(h (by simp)).elim
  .rename_i c;rw[zF c];refine⟨rfl,rfl, ?_, ?_⟩
   .simp only;split
    .omega
    .rename_i o;unfold least at c;rw[zF o]at c;exact iP (by omega) (by omega)
   .simp only;split
    .omega
    .rename_i o;unfold least at c;rw[zF o]at c;have D:(a8-sX a1.length a2.length a3 a5-ri a0 a4 a6) / rh a0 a1.length a3 a4<=a8-sX a1.length a2.length a3 a5-ri a0 a4 a6:=iO _ (by omega);omega
 obtain⟨H,I,y,z⟩:=q;generalize oX a0 a1.length a2.length a3 a4 a5 a6 a7 a8=d at*;have p:=UG (n:=d.2.2.2.1) s ⟨y,z⟩;have F:=Uu p;rw[P2 p];refine⟨(0,_),rfl, ?_,by simp⟩;have u:=PV (s:=rh a0 a1.length a3 a4) (n:=d.2.2.2.1) (by omega) ⟨y,z⟩;generalize C:([(a2.length:Int),a1.length,a3,a5,max a3 a5,a1.length,a2.length,ri a0 a4 a6,rh a0 a1.length a3 a4*d.2.2.2.1]:Zd)=L at*
 have e:am (pA a1 a2 a3 a5 d) cj (0,(fD (0+1)).map (pre L))=O ((fD 10).map (pre L)):=by
  refine cx (n:=9) (λi=>(fD (i+1)).map (pre L)) (by omega) (λi hi=> ?_) ?_
  .unfold pA;rw[ag,Zg,bi (show i<((fD (i+1)).map (pre L)).length by simp),bi (show i<9 by omega)];simp only[zG]
   have A:((fD (i+1)).map (pre L))[i]?=O (pre L i):=by
    rw[List.getElem?_map,List.getElem?_range (by omega)];rfl
   rw[A];simp only[zG]
   have B:iI [((a2.length:Nat):Int),((a1.length:Nat):Int),a3,a5,max a3 a5,((a1.length:Nat):Int),((a2.length:Nat):Int),d.2.1,zH zI (d.2.2.2.1*d.2.2.1)] i 0=L.getD i 0:=by
    rw[H,I,iF,Zi];rw[C]
   have X:=F i;have h2:=p i;rw[B,ca (by simp;omega) (by omega),ad (n:=pre L i+L.getD i 0) (by omega),ad (n:=(i:Int)+1) (by omega),iX (n:=i+1),iL];rfl
  .unfold pA;rw[ag,Zh]
 have e:am (pA a1 a2 a3 a5 d) cj (0,[0])=_:=e;rw[e];rfl
end
def Reach {α γ:Type}(f:α->Option (α⊕γ))(k:Nat)(s c:α):Prop:= ∀b,am f (b+k) s=am f b c
theorem Reach.refl {α γ:Type}{f:α->Option (α⊕γ)}{s:α}:Reach f 0 s s:=λ_=>rfl
theorem Reach.trans {α γ:Type}{f:α->Option (α⊕γ)}{k c:Nat}{s e b:α}(h:Reach f k s e)(j:Reach f c e b):Reach f (k+c) s b:=by
 intro d;rw[show d+(k+c)=(d+c)+k by omega,h,j]
theorem Reach.one {α γ:Type}{f:α->Option (α⊕γ)}{s b:α}(h:f s=O (.inl b)):Reach f 1 s b:=by
 intro c;rw[cg,h];rfl
section
variable {l:List bu}
theorem bm1 (d:l.length<=1000)(b:st.length<=1000)(hi:i<l.length)(c:0<l[i].1/\l[i].1<7)(e:out.length=l.length):
  cq l ((i:Int),Za,out,st,st)=O (.inl (((i+1:Nat):Int),Za,out.set i (-1),st,st)):=by
 simp only[cq];rw[zB (show(i:Int)<(l.length:Int)by omega),zC,bh hi];simp only[zG];generalize f:l[i]=x at*;rw[zA (show¬x.1<0 by omega),zD,zA (show¬7<x.1 by omega),zD,zA (show¬x.1=0 by omega)];simp only[zD,zG,bg];rw[bi (show i<out.length by omega)];simp only[zG];rw[aD (show i<out.length by omega)];simp only[zG];rw[zA (show¬x.1=7 by omega)];simp only[zD];rw[ad (n:=(i:Int)+1) (by omega)];rfl
theorem aK5 (d:l.length<=1000)(c:st.length<=1000)(hi:i<l.length)(b:l[i].1=7)(e:out.length=l.length):
  cq l ((i:Int),Za,out,st,st)=O (.inl (((i+1:Nat):Int),Za,out.set i (-1),st++[(i:Int)],st++[(i:Int)])):=by
 simp only[cq];rw[zB (show(i:Int)<(l.length:Int)by omega),zC,bh hi];simp only[zG];generalize f:l[i]=x at*;rw[zA (show¬x.1<0 by omega),zD,zA (show¬7<x.1 by omega),zD,zA (show¬x.1=0 by omega)];simp only[zD,zG,bg];rw[bi (show i<out.length by omega)];simp only[zG];rw[aD (show i<out.length by omega)];simp only[zG];rw[zB b];simp only[zC];rw[ca (by omega) (by omega),ca (by omega) (by omega),ad (n:=(i:Int)+1) (by omega)];rfl
theorem aw3 {q:Nat}(h:l.length<=1000)(f:st.length<1000)(hi:i<l.length)(e:l[i].1=0)(j:out.length=l.length)(k:q<l.length):
  cq l ((i:Int),Za,out,st++[(q:Int)],st++[(q:Int)])=O (.inl (((i+1:Nat):Int),Za,((out.set i (-1)).set i (q:Int)).set q (i:Int),st,st)):=by
 have b:(st++[(q:Int)]).length=st.length+1:=by simp
 simp only[cq];rw[zB (show(i:Int)<(l.length:Int)by omega),zC,bh hi];simp only[zG];generalize o:l[i]=x at*;rw[zA (show¬x.1<0 by omega),zD,zA (show¬7<x.1 by omega),zD,zB e];simp only[zC,zG,bg];rw[zA (show¬((st++[(q:Int)]).length:Int)=0 by omega),zD];rw[ad (n:=((st++[(q:Int)]).length:Int)-1) (by omega),Zk,bw];simp only[zG,bg];have d:Zc (x.1=7)=Zb:=zA (by omega);rw[bi (show i<out.length by omega)];simp only[zG];rw[aD (show i<out.length by omega)];simp only[zG];rw[d,zD,show((st++[(q:Int)]).length:Int)-1=(st.length:Int)by rw[b];omega,bi (show st.length<(st++[(q:Int)]).length by omega)];simp only[zG];rw[dD (aB _),bD];simp only[lQ,zG]
 rw[bw,bi (show i<(out.set i (-1)).length by simp;omega)];simp only[zG];rw[aD (show i<(out.set i (-1)).length by simp;omega)];simp only[zG];rw[bi (show q<((out.set i (-1)).set i ((q:Nat):Int)).length by simp;omega)];simp only[zG];rw[aD (show q<((out.set i (-1)).set i ((q:Nat):Int)).length by simp;omega)];simp only[zG]
 have c:(st++[(q:Int)]).take ((st.length:Int).toNat-0)=st:=by
  rw[show(st.length:Int).toNat-0=st.length by omega,jD];rfl
 rw[c,ad (n:=(i:Int)+1) (by omega)];rfl
theorem Un (D:l.length<=1000): ∀(k:Nat) (A seg B:List bu) (out st:Zd),seg.length<=k->l=A++seg++B->br seg 0=O 0->out.length=l.length->st.length<=A.length->
  ∃f,Reach (cq l) seg.length ((A.length:Int),Za,out,st,st) (((A.length+seg.length:Nat):Int),Za,f,st,st)/\f.length=l.length/\
   (∀j,¬(A.length<=j/\j<A.length+seg.length)->f[j]?=out[j]?)/\∀j,A.length<=j->j<A.length+seg.length->(y:j<l.length)->l[j].1=7->∀inner e rest,l.drop (j+1)=inner++e::rest->e.1=0->br inner 0=O 0->f[j]?=O ((j+1+inner.length:Nat):Int)
 |k,A,[],B,out,st,_,b,L,E,hst=>⟨out,Reach.refl,E,λj _=>rfl,λj h1 W=>by simp at W;omega⟩
 |0,A,o::seg,B,out,st,p,_,_,_,_=>by simp at p
 |k+1,A,o::seg,B,out,st,p,b,L,E,hst=>by
  simp only[cD]at p⊢;have K:l.length=A.length+(seg.length+1)+B.length:=by rw[b];simp;omega
  have s:A.length<l.length:=by omega
  have h:l[A.length]=o:=by
   have:l[A.length]?=O o:=by
    rw[b,dB,dD (aB _),bD];rfl
   rw[aD s]at this;injection this
  by_cases r:o.1=7
  .have hs1:br seg 1=O 0:=by
    simp only[br]at L;rw[Zh,Zh,zE r]at L;exact L
   obtain⟨inner,e,rest,h1,W,h3,h4⟩:=GD _ seg 0 (aB _) hs1;subst h1;simp only[eD,cD]at p K⊢
   have hd:l.drop (A.length+1)=inner++e::(rest++B):=by
    rw[b,dB,iT,iU (by omega),show A.length+1-A.length=1 by omega];simp
   have u:(A++[o]).length=A.length+1:=by simp
   obtain⟨S1,U,l1,M,F⟩:=Un D k (A++[o]) inner (e::(rest++B)) (out.set A.length (-1)) (st++[(A.length:Int)]) (by omega) (by rw[b];simp) h3 (by simp[E]) (by simp;omega);rw[u]at U M F;have J:A.length+1+inner.length<l.length:=by omega
   have I:l[A.length+1+inner.length]=e:=by
    have X:(l.drop (A.length+1))[inner.length]?=O e:=by
     rw[hd,dD (aB _),bD];rfl
    rw[iV,aD J]at X;injection X
   have c1:=aw3 (st:=st) D (by omega) J (by rw[I];exact W) l1 s;have hA2:(A++o::(inner++[e])).length=A.length+1+inner.length+1:=by simp;omega
   obtain⟨S2,r2,l3,k2,g2⟩:=Un D k (A++o::(inner++[e])) rest B (((S1.set (A.length+1+inner.length) (-1)).set (A.length+1+inner.length) (A.length:Int)).set A.length ((A.length+1+inner.length:Nat):Int)) st (by omega) (by rw[b];simp) h4 (by simp[l1]) (by omega);rw[hA2]at r2 k2 g2;refine⟨S2, ?_,l3,λj y=> ?_,λj X h6 y p c V d N Q T=> ?_⟩
   .have h0:=Reach.one (aK5 (out:=out) (st:=st) D (by omega) s (by rw[h];exact r) E);have H:=((h0.trans U).trans (Reach.one c1)).trans r2;rw[show 1+inner.length+1+rest.length=inner.length+(rest.length+1)+1 by omega,show A.length+1+inner.length+1+rest.length=A.length+(inner.length+(rest.length+1)+1)by omega]at H;exact H
   .rw[k2 j (by omega),cB (by omega),cB (by omega),cB (by omega),M j (by omega),cB (by omega)]
   .by_cases z:A.length+1+inner.length+1<=j
    .exact g2 j z (by omega) y p c V d N Q T
    .rw[k2 j (by omega)];by_cases q:A.length=j
     .subst q;rw[iJ (by simp;omega)];have:=B8 (hd.symm.trans N) h3 T W Q;subst this;rfl
     .have hj3:j<A.length+1+inner.length:=by
       by_cases C:j<A.length+1+inner.length
       .exact C
       .exfalso;have C:j=A.length+1+inner.length:=by omega
        subst C;rw[I]at p;omega
      rw[cB q,cB (by omega),cB (by omega)];exact F j (by omega) hj3 y p c V d N Q T
  .obtain⟨hsr,hko,_⟩:=Rv L r;have u:(A++[o]).length=A.length+1:=by simp
   have c1:=bm1 (out:=out) (st:=st) D (by omega) s (by rw[h];exact hko) E;obtain⟨S1,U,l1,M,F⟩:=Un D k (A++[o]) seg B (out.set A.length (-1)) st (by omega) (by rw[b];simp) hsr (by simp[E]) (by omega);rw[u]at U M F;refine⟨S1, ?_,l1,λj y=> ?_,λj X h6 y p c V d N Q T=> ?_⟩
   .have H:=(Reach.one c1).trans U;rw[show 1+seg.length=seg.length+1 by omega,show A.length+1+seg.length=A.length+(seg.length+1)by omega]at H;exact H
   .rw[M j (by omega),cB (by omega)]
   .by_cases z:A.length+1<=j
    .exact F j z (by omega) y p c V d N Q T
    .have q:j=A.length:=by omega
     subst q;exact(r (by rw[<-h];exact p)).elim
theorem N2 (o:l.length<=1000)(p:br l 0=O 0): ∃m,pv l=O (0,m)/\MOK l m:=by
 obtain⟨S',j,q,y,f⟩:=Un (l:=l) o _ [] l [] (bB ((l.length:Int)).toNat (0:Int)) [] (aB _) (by simp) p (by simp) (by simp);rw[show([]:List bu).length+l.length=l.length by simp]at j f
 have b:am (cq l) cj ((0:Int),Za,bB ((l.length:Int)).toNat (0:Int),([]:Zd),([]:Zd))=O (Za,S',[],[]):=by
  have h:=j (18446744073709551616-l.length);rw[show 18446744073709551616-l.length+l.length=cj by unfold cj;omega,show 18446744073709551616-l.length=(18446744073709551615-l.length)+1 by omega]at h;refine h.trans ?_;rw[cg];simp only[cq];rw[Ze,zD];rfl
 refine⟨S', ?_,⟨q,λi hi k c e d r s u=>f i (iE _) hi hi k c e d r s u⟩⟩;unfold pv;rw[zB (show(0:Int)<=(l.length:Int)by omega),zB (show(l.length:Int)<=(l.length:Int)by omega),zB (show 8*(l.length:Int)<=140737488355328 by omega)];show gd Za _=_;rw[bw,b];rfl
end
section
variable {l:List bu}
theorem av1 {sz:Zd}{pre:List (Int×Int)}(C:l.length<=1000)(D:pre.length<=1000)(hi:i<l.length):
  cl l ((i:Int),sz,rds,pre++[(a,w)])=(cond (Zc (l[i].1=7))
   (O (.inl (((i+1:Nat):Int),sz,rds,pre++[(a,w)]++[((i:Int),0)])))
   (cond (Zc (l[i].1=0))
    ((rd l a).bind λs=>
    (xI w s.2.2.2.2).bind λb=>
    cond (!b.2)
     (O (.inr ((9,sz,rds,pre++[(a,w)]))))
     ((ix a sz.length).bind λf=>
     (sz[f]?).bind λz=>
     (ix a rds.length).bind λh=>
     (rds[h]?).bind λA=>
     gd (gy 0 (pre.length:Int) (pre.length+1)) ((ix (zH zI ((pre.length:Int)-1)) pre.length).bind λo=>
     ((pre++[(a,w)])[(0+o)]?).bind λu=>
     (Cp ([u.2,b.1])).bind λp=>
     (ix (zH zI ((pre.length:Int)-1)) pre.length).bind λj=>
     ((pre++[(a,w)])[(0+j)]?).bind λy=>
     O (.inl (((i+1:Nat):Int),(iY sz f b.1),(iY rds h w),(List.take pre.length ((iY (pre++[(a,w)]) (0+j) ((y.1,p))))))))))
    ((ny l[i].1 l[i].2.1 l[i].2.2.1 l[i].2.2.2.1 l[i].2.2.2.2).bind λq=>
    cond (q.2)
     ((ix (i:Int) sz.length).bind λk=>
     (sz[k]?).bind λB=>
     O (.inl (((i+1:Nat):Int),(iY sz k 1),rds,pre++[(a,zH zI (w+1))])))
     (O (.inl (((i+1:Nat):Int),sz,rds,pre++[(a,w)])))))):=by
 have d:(pre++[(a,w)]).length=pre.length+1:=by simp
 have c:(pre++[(a,w)])[pre.length]?=O (a,w):=by
  rw[dD (aB _),bD];rfl
 have e: ∀r,(pre++[(a,w)]).set pre.length (a,r)=pre++[(a,r)]:=by
  intro r;rw[iZ _ _ (aB _),bD];rfl
 simp only[cl];rw[zB (show(i:Int)<(l.length:Int)by omega),zC,bh hi];simp only[zG];rw[d,ad (n:=((pre.length+1:Nat):Int)-1) (by omega),show((pre.length+1:Nat):Int)-1=(pre.length:Int)by omega,bi (show pre.length<pre.length+1 by omega)];simp only[zG];rw[c,ad (n:=(i:Int)+1) (by omega),ca (by omega) (by omega),show(i:Int)+1=((i+1:Nat):Int)by omega];simp only[zG];rw[e,show((pre.length:Int).toNat-0)=pre.length by omega]
theorem bz6 {sz:Zd}{pre:List (Int×Int)}(c:l.length<=1000)(d:pre.length<=1000)(hi:i<l.length)(b:0<l[i].1/\l[i].1<7)(e:sz.length=l.length)(f:0<=w/\w<=1000000000):
  cl l ((i:Int),sz,rds,pre++[(a,w)])=O (.inl (((i+1:Nat):Int),sz.set i 1,rds,pre++[(a,w+1)])):=by
 rw[av1 c d hi,Ze,Ze];simp only[zD];rw[J2 b];simp only[zG,zC];rw[bi (show i<sz.length by omega)];simp only[zG];rw[aD (show i<sz.length by omega)];simp only[zG];rw[ad (n:=w+1) (by omega)]
theorem bb7 {sz:Zd}{pre:List (Int×Int)}(c:l.length<=1000)(d:pre.length<=1000)(hi:i<l.length)(b:l[i].1=7):
  cl l ((i:Int),sz,rds,pre++[(a,w)])=O (.inl (((i+1:Nat):Int),sz,rds,pre++[(a,w)]++[((i:Int),0)])):=by
 rw[av1 c d hi,zB b,zC]
theorem aJ8 {b:Nat}{sz:Zd}{pre:List (Int×Int)}{w2 n:Int}(p:l.length<=1000)(y:pre.length<1000)(hi:i<l.length)(o:l[i].1=0)(c:b<l.length)(s:sz.length=l.length)(r:rds.length=l.length)(k:0<=w/\w<=1000000000)(u:0<=w2/\w2<=1000000000)
  (j:0<=l[b].2.2.2.2/\l[b].2.2.2.2<=18446744073709551615) (h:DA w l[b].2.2.2.2=O n):
  cl l ((i:Int),sz,rds,pre++[(a,w2)]++[((b:Int),w)])=O (.inl (((i+1:Nat):Int),sz.set b n,rds.set b w,pre++[(a,w2+n)])):=by
 have e:(pre++[(a,w2)]).length=pre.length+1:=by simp
 rw[av1 p (by omega) hi,Ze,zB o];simp only[zD,zC];rw[bh c];simp only[zG];rw[Qy ⟨k.1,by omega⟩ j,h];have q:=La k.1 j.1 h;simp only[zG,iM,zD];rw[bi (show b<sz.length by omega)];simp only[zG];rw[aD (show b<sz.length by omega)];simp only[zG];rw[bi (show b<rds.length by omega)];simp only[zG];rw[aD (show b<rds.length by omega)];simp only[zG];rw[Zk,bw,e,ad (n:=((pre.length+1:Nat):Int)-1) (by omega),show((pre.length+1:Nat):Int)-1=(pre.length:Int)by omega,bi (show pre.length<pre.length+1 by omega)];simp only[zG,iC]
 have d:(pre++[(a,w2)]++[((b:Int),w)])[pre.length]?=O (a,w2):=by
  rw[dB,dD (aB _),bD];rfl
 rw[d];simp only[zG];rw[WO _ _ (by omega) q];simp only[zG]
 have f:((pre++[(a,w2)]++[((b:Int),w)]).set pre.length (a,w2+n)).take (pre.length+1)=pre++[(a,w2+n)]:=by
  rw[dB,iZ _ _ (aB _),bD];show(pre++[(a,w2+n),((b:Int),w)]).take (pre.length+1)=_;rw[show [(a,w2+n),((b:Int),w)]=[(a,w2+n)]++[((b:Int),w)]from rfl,<-dB,jD];simp
 rw[f]
def aY5 (l:List bu)(j:Nat)(a b:Int):Prop:= ∀h:j<l.length,(l[j].1=7->∀c e d,l.drop (j+1)=c++e::d->e.1=0->br c 0=O 0->Q9 c=O b/\DA b l[j].2.2.2.2=O a)/\(l[j].1≠7->b=0/\a=if l[j].1=0 then 0 else 1)
theorem aa3 (M:l.length<=1000)(hv: ∀o∈l,0<=o.2.2.2.2/\o.2.2.2.2<=18446744073709551615): ∀(k:Nat) (A seg B:List bu) (S R:Zd) (pre:List (Int×Int)) (p w t:Int),seg.length<=k->l=A++seg++B->br seg 0=O 0->Q9 seg=O t->S.length=l.length->R.length=l.length->pre.length<=A.length->0<=w/\w<=65537*A.length->(∀j,A.length<=j->j<A.length+seg.length->S[j]?=O 0/\R[j]?=O 0)->
  ∃S' R',Reach (cl l) seg.length ((A.length:Int),S,R,pre++[(p,w)]) (((A.length+seg.length:Nat):Int),S',R',pre++[(p,w+t)])/\S'.length=l.length/\R'.length=l.length/\(0<=t/\t<=65537*seg.length)/\
   (∀j,¬(A.length<=j/\j<A.length+seg.length)->S'[j]?=S[j]?/\R'[j]?=R[j]?)/\∀j,A.length<=j->j<A.length+seg.length->∃a b,S'[j]?=O a/\R'[j]?=O b/\aY5 l j a b
 |k,A,[],B,S,R,pre,p,w,t,_,d,N,q,W,hR,hpre,hw,H=>by
  injection q with q
  subst q;refine⟨S,R, ?_,W,hR,⟨iQ _,by simp⟩,λj _=>⟨rfl,rfl⟩,λj h1 L=> ?_⟩
  .rw[iN];exact Reach.refl
  .simp at L;omega
 |0,A,o::seg,B,S,R,pre,p,w,t,hk,_,_,_,_,_,_,_,_=>by simp at hk
 |k+1,A,o::seg,B,S,R,pre,p,w,t,hk,d,N,q,W,hR,hpre,hw,H=>by
  simp only[cD]at hk H⊢;have hlen:l.length=A.length+(seg.length+1)+B.length:=by rw[d];simp;omega
  have D:A.length<l.length:=by omega
  have f:l[A.length]=o:=by
   have:l[A.length]?=O o:=by
    rw[d,dB,dD (aB _),bD];rfl
   rw[aD D]at this;injection this
  by_cases u:o.1=7
  .have hs1:br seg 1=O 0:=by
    simp only[br]at N;rw[Zh,Zh,zE u]at N;exact N
   obtain⟨c,e,r,h1,L,h3,h4⟩:=GD _ seg 0 (aB _) hs1;subst h1;simp only[eD,cD]at hk H hlen⊢;obtain⟨K,hQ⟩:=SO N u L h3;rw[hQ]at q;obtain⟨wi,hwi,q⟩:=ah q;obtain⟨b,hb,q⟩:=ah q;cases s:Q9 r with
   |none=>rw[s]at q;cases q
   |some tr=>
   rw[s]at q;injection q with q
   have q:b+tr=t:=q;have hov:0<=o.2.2.2.2/\o.2.2.2.2<=18446744073709551615:=by rw[<-f];exact hv _ (gD D)
   have hd:l.drop (A.length+1)=c++e::(r++B):=by
    rw[d,dB,iT,iU (by omega),show A.length+1-A.length=1 by omega];simp
   have F:(A++[o]).length=A.length+1:=by simp
   obtain⟨S1,R1,r1,l1,l2,⟨t1,t2⟩,y,Q⟩:=aa3 M hv k (A++[o]) c (e::(r++B)) S R (pre++[(p,w)]) (A.length:Int) 0 wi (by omega) (by rw[d];simp) h3 hwi W hR (by simp;omega) (by omega) (λj z E=>H j (by omega) (by omega));rw[F]at r1 y Q;have X:A.length+1+c.length<l.length:=by omega
   have I:l[A.length+1+c.length]=e:=by
    have z:(l.drop (A.length+1))[c.length]?=O e:=by
     rw[hd,dD (aB _),bD];rfl
    rw[iV,aD X]at z;injection z
   have hbn:=La t1 hov.1 hb;have c1:=aJ8 (pre:=pre) (a:=p) (w2:=w) M (by omega) X (by rw[I];exact L) D l1 l2 (w:=0+wi) (by omega) (by omega) (by rw[f];exact hov) (n:=b) (by rw[f,fB];exact hb);have V:(A++o::(c++[e])).length=A.length+1+c.length+1:=by simp;omega
   obtain⟨S2,R2,r2,l3,l4,⟨t3,t4⟩,k2,g2⟩:=aa3 M hv k (A++o::(c++[e])) r B (S1.set A.length b) (R1.set A.length (0+wi)) pre p (w+b) tr (by omega) (by rw[d];simp) K s (by simp[l1]) (by simp[l2]) (by omega) (by omega) (λj z E=>by
    rw[V]at z E;rw[cB (by omega),cB (by omega),(y j (by omega)).1,(y j (by omega)).2]
    exact H j (by omega) (by omega))
   rw[V]at r2 k2 g2;refine⟨S2,R2, ?_,l3,l4,⟨by omega,by omega⟩,λj hj=> ?_,λj z E=> ?_⟩
   .have h0:=Reach.one (bb7 (sz:=S) (rds:=R) (pre:=pre) (a:=p) (w:=w) M (by omega) D (by rw[f];exact u));have U:=((h0.trans r1).trans (Reach.one c1)).trans r2;rw[show 1+c.length+1+r.length=c.length+(r.length+1)+1 by omega,iA,q,show A.length+1+c.length+1+r.length=A.length+(c.length+(r.length+1)+1)by omega]at U;exact U
   .rw[(k2 j (by omega)).1,(k2 j (by omega)).2,cB (by omega),cB (by omega),(y j (by omega)).1,(y j (by omega)).2];exact⟨rfl,rfl⟩
   .by_cases J:A.length+1+c.length+1<=j
    .exact g2 j J (by omega)
    .rw[(k2 j (by omega)).1,(k2 j (by omega)).2];by_cases C:A.length=j
     .subst C;rw[iJ (by omega),iJ (by omega)];refine⟨_,_,rfl,rfl,λh=>⟨λ_ inner' e' rest' p1 p2 p3=> ?_,λT=>(T (by rw[f];exact u)).elim⟩⟩;have:=B8 (hd.symm.trans p1) h3 p3 L p2;subst this;rw[fB,f];exact⟨hwi,hb⟩
     .rw[cB C,cB C];by_cases hj3:j<A.length+1+c.length
      .exact Q j (by omega) hj3
      .have hj4:j=A.length+1+c.length:=by omega
       subst hj4;rw[(y _ (by omega)).1,(y _ (by omega)).2,(H _ z E).1,(H _ z E).2];refine⟨0,0,rfl,rfl,λh=>⟨λT=> ?_,λ_=>⟨rfl, ?_⟩⟩⟩
       .rw[I]at T;omega
       .rw[I,zE L]
  .obtain⟨K,hko,hQ⟩:=Rv N u;rw[hQ]at q;cases s:Q9 seg with
   |none=>rw[s]at q;cases q
   |some tr=>
   rw[s]at q;injection q with q
   have q:1+tr=t:=q;have F:(A++[o]).length=A.length+1:=by simp
   have c1:=bz6 (sz:=S) (rds:=R) (pre:=pre) (a:=p) (w:=w) M (by omega) D (by rw[f];exact hko) W (by omega)
   obtain⟨S1,R1,r1,l1,l2,⟨t1,t2⟩,y,Q⟩:=aa3 M hv k (A++[o]) seg B (S.set A.length 1) R pre p (w+1) tr (by omega) (by rw[d];simp) K s (by simp[W]) hR (by omega) (by omega) (λj z E=>by
    rw[F]at z E;rw[cB (by omega)]
    exact H j (by omega) (by omega))
   rw[F]at r1 y Q;refine⟨S1,R1, ?_,l1,l2,⟨by omega,by omega⟩,λj hj=> ?_,λj z E=> ?_⟩
   .have U:=(Reach.one c1).trans r1;rw[show 1+seg.length=seg.length+1 by omega,iA,q,show A.length+1+seg.length=A.length+(seg.length+1)by omega]at U;exact U
   .rw[(y j (by omega)).1,(y j (by omega)).2,cB (by omega)];exact⟨rfl,rfl⟩
   .by_cases J:A.length+1<=j
    .exact Q j J (by omega)
    .have C:j=A.length:=by omega
     subst C;rw[(y _ (by omega)).1,(y _ (by omega)).2,iJ (by omega),(H _ z E).2];refine⟨1,0,rfl,rfl,λh=>⟨λT=>(u (by rw[<-f];exact T)).elim,λ_=>⟨rfl, ?_⟩⟩⟩;rw[f,Zh]
end
theorem LM {l:List bu}(J:l.length<=100)(B: ∀o∈l,0<=o.2.2.2.2/\o.2.2.2.2<=18446744073709551615):
  ∃r,oz l=O r/\r.1=(dg l).1/\r.2.1=(dg l).2/\(((dg l).2≠0/\r.2.2=([],[]))∨((dg l).2=0/\br l 0=O 0/\r.2.2.1.length=l.length/\r.2.2.2.length=l.length/\∀j,j<l.length->∃a b,r.2.2.1[j]?=O a/\r.2.2.2[j]?=O b/\aY5 l j a b)):=by
 have f:=AI (by omega) B;unfold iu at f;obtain⟨r,d,f⟩:=ah f;injection f with f
 refine⟨r,d,by rw[<-f],by rw[<-f], ?_⟩;unfold oz at d;obtain⟨m,E⟩:=Kp (l:=l) (by omega);rw[E]at d;by_cases k:br l 0=O 0
 .simp only[zE k]at d;simp only[zG]at d;rw[zA (by simp),zD]at d;rw[zB (show(0:Int)<=(l.length:Int)by omega),zB (show(l.length:Int)<=(l.length:Int)by omega),zB (show 8*(l.length:Int)<=140737488355328 by omega)]at d;have q: ∀{β:Type} {y:Option β},gd (kB 1 (Sh.w (.int .i64))&&Za&&Za&&Za&&Nat.ble 1 8) y=y:=λ{β y}=>rfl
  rw[q,q]at d;cases u:Q9 l with
  |none=>
   have e:dg l=(0,9):=by unfold dg;rw[zE k,u]
   left;refine⟨by rw[e];simp, ?_⟩;obtain⟨c,I,d⟩:=ah d;obtain⟨p,D,d⟩:=ah d;rw[ag]at d;split at d
   .injection d with d
    rw[<-d]
   .rename_i L;exfalso;obtain⟨j,s,d⟩:=ah d;obtain⟨x,K,d⟩:=ah d;injection d with d
    rw[<-d,e]at f;injection f with _ f
    cases f
  |some t=>
   obtain⟨S',R',C,F,H,⟨N,Q⟩,M,z⟩:=aa3 (l:=l) (by omega) B _ [] l [] (bB ((l.length:Int)).toNat (0:Int)) (bB ((l.length:Int)).toNat (0:Int)) [] 0 0 t (aB _) (by simp) k u (by simp) (by simp) (by simp) (by simp) (λj _ s=>by
    rw[List.getElem?_replicate,zE (by simpa using s)]
    exact⟨rfl,rfl⟩)
   rw[show([]:List bu).length+l.length=l.length by simp]at C z
   have h:am (cl l) cj ((0:Int),bB ((l.length:Int)).toNat (0:Int),bB ((l.length:Int)).toNat (0:Int),[((0:Int),(0:Int))])=O (0,S',R',[(0,0+t)]):=by
    have A:=C (18446744073709551616-l.length);rw[show 18446744073709551616-l.length+l.length=cj by unfold cj;omega,show 18446744073709551616-l.length=(18446744073709551615-l.length)+1 by omega]at A;refine A.trans ?_;rw[cg];simp only[cl];rw[Ze,zD];rfl
   rw[h,fB]at d;have d:((((cond (Zc (65536<t)) (O (9:Int)) (O 0)).bind λp=>cond (Zc (p≠0)) (O ((0:Int),p,([]:Zd),([]:Zd))) (O (t,0,S',R')))))=O r:=d;rw[ag]at d;have e:dg l=if 65536<t then(0,9)else(t,0):=by unfold dg;rw[zE k,u]
   by_cases c:65536<t
   .rw[zE c]at d e;left;injection d with d
    rw[<-d,e];exact⟨by simp,rfl⟩
   .rw[zF c]at d e;right;injection d with d
    rw[<-d,e];exact⟨rfl,k,F,H,λj s=>z j (iE _) s⟩
 .simp only[zF k]at d;left;have e:dg l=(0,6):=by unfold dg;rw[zF k]
  have d:O ((0:Int),(6:Int),([]:Zd),([]:Zd))=O r:=d;injection d with d
  rw[<-d,e];exact⟨by simp,rfl⟩
abbrev AV :=Int×Int×Int×Int×Int×Int
inductive Fo where
 |nil
 |op (o:bu) (r:Fo)
 |rep (o:bu) (b:Fo) (e:bu) (r:Fo)
def tt (o:bu):Nat:=o.2.2.2.2.toNat
def ce (o:bu)(b:Nat):AV:=(o.1,o.2.1,o.2.2.1,o.2.2.2.1,o.2.2.2.2,(b:Int))
namespace Fo
def src :Fo->List bu
 | .nil=>[]
 | .op o r=>o::r.src
 | .rep o b e r=>o::(b.src++e::r.src)
def Ok :Fo->Prop
 | .nil=>True
 | .op o r=>(0<o.1/\o.1<7)/\r.Ok
 | .rep o b e r=>(o.1=7/\e.1=0)/\b.Ok/\r.Ok
def n :Fo->Nat
 | .nil=>0
 | .op _ r=>1+r.n
 | .rep o b _ r=>b.n*tt o+r.n
def len :Fo->Nat
 | .nil=>0
 | .op _ r=>r.len+1
 | .rep _ b _ r=>b.len+r.len+2
def hi :Fo->Nat
 | .nil=>0
 | .op _ r=>r.hi
 | .rep _ b _ r=>max (b.hi+1) r.hi
def bare :Fo->Fo
 | .nil=> .nil
 | .op o r=> .op o r.bare
 | .rep o b e r=>if b.n*tt o=0 then r.bare else .rep o b.bare e r.bare
def unroll :Fo->List bu
 | .nil=>[]
 | .op o r=>o::r.unroll
 | .rep o b _ r=>(bB (tt o) b.unroll).flatten++r.unroll
def code :Fo->Nat->List AV
 | .nil,_=>[]
 | .op o r,p=>ce o 0::r.code (p+1)
 | .rep o b e r,p=>ce o (p+b.len+2)::(b.code (p+1)++ce e (p+1)::r.code (p+b.len+2))
def Pos :Fo->Prop
 | .nil=>True
 | .op _ r=>r.Pos
 | .rep o b _ r=>0<b.n*tt o/\b.Pos/\r.Pos
def steps :Fo->Nat
 | .nil=>0
 | .op _ r=>1+r.steps
 | .rep o b _ r=>1+tt o*(b.steps+1)+r.steps
theorem src_len : ∀f:Fo,f.src.length=f.len
 | .nil=>rfl
 | .op o r=>by simp only[src,len,cD,src_len r]
 | .rep o b e r=>by simp only[src,len,cD,eD,src_len r,src_len b];omega
theorem code_len : ∀(f:Fo) (p:Nat),(f.code p).length=f.len
 | .nil,_=>rfl
 | .op o r,p=>by simp only[code,len,cD,code_len r]
 | .rep o b e r,p=>by simp only[code,len,cD,eD,code_len r,code_len b];omega
theorem scan_src : ∀(f:Fo),f.Ok->∀(r:List bu) (d:Nat),br (f.src++r) d=br r d
 | .nil,_,r,d=>rfl
 | .op o f,h,r,d=>by
  obtain⟨j,c⟩:=h;simp only[src,gB,br];rw[Zh,Zh,Zh];exact scan_src f c r d
 | .rep o b e f,h,r,d=>by
  obtain⟨⟨j,c⟩,k,p⟩:=h;simp only[src,gB,dB,br];rw[Zh,Zh,zE j,scan_src b k];simp only[br];rw[Zh,zE c,Zh];exact scan_src f p r d
theorem scan0 {f:Fo}(h:f.Ok):br f.src 0=O 0:=by
 have:=scan_src f h [] 0;rw[iS]at this;exact this
theorem parse : ∀(N:Nat) (l:List bu),l.length<=N->br l 0=O 0->∃f:Fo,f.Ok/\f.src=l
 |_,[],_,_=>⟨.nil,trivial,rfl⟩
 |0,o::l,h,_=>by simp at h
 |N+1,o::l,h,j=>by
  simp only[cD]at h;by_cases q:o.1=7
  .have s:br l 1=O 0:=by
    simp only[br]at j;rw[Zh,Zh,zE q]at j;exact j
   obtain⟨c,e,d,k,p,B,C⟩:=GD _ l 0 (aB _) s;subst k;simp only[eD,cD]at h;obtain⟨b,z,A⟩:=parse N c (by omega) B;obtain⟨r,u,y⟩:=parse N d (by omega) C;exact⟨.rep o b e r,⟨⟨q,p⟩,z,u⟩,by simp only[src,A,y]⟩
  .obtain⟨k,p,_⟩:=Rv j q;obtain⟨r,u,y⟩:=parse N l (by omega) k;exact⟨.op o r,⟨p,u⟩,by simp only[src,y]⟩
theorem Q9_n : ∀(f:Fo),f.Ok->(∀o∈f.src,0<=o.2.2.2.2)->∀{t:Int},Q9 f.src=O t->t=(f.n:Int)
 | .nil,_,_,t,h=>by
  injection h with h
  exact h.symm
 | .op o r,h,u,t,d=>by
  obtain⟨z,p⟩:=h;have A:=scan0 (f:= .op o r) ⟨z,p⟩;obtain⟨_,_,q⟩:=Rv (o:=o) (s:=r.src) A (by omega);have d:Q9 (o::r.src)=O t:=d;rw[q]at d;cases k:Q9 r.src with
  |none=>rw[k]at d;cases d
  |some m=>
   rw[k]at d;injection d with d
   have:=Q9_n r p (λx y=>u x (List.mem_cons_of_mem _ y)) k;subst this;rw[<-d];show(1:Int)+(r.n:Int)=((1+r.n:Nat):Int);omega
 | .rep o b e r,h,u,t,d=>by
  obtain⟨⟨z,p⟩,q,C⟩:=h;have A:=scan0 (f:= .rep o b e r) ⟨⟨z,p⟩,q,C⟩;obtain⟨_,H⟩:=SO (o:=o) (e:=e) (inner:=b.src) (rest:=r.src) A z p (scan0 q);have d:Q9 (o::(b.src++e::r.src))=O t:=d;rw[H]at d;obtain⟨w,I,d⟩:=ah d;obtain⟨c,j,d⟩:=ah d;cases k:Q9 r.src with
  |none=>rw[k]at d;cases d
  |some m=>
   rw[k]at d;injection d with d
   have D:=Q9_n r C (λx y=>u x (by simp only[src];simp[y])) k;have E:=Q9_n b q (λx y=>u x (by simp only[src];simp[y])) I;have B:0<=o.2.2.2.2:=u o (by simp[src])
   have F:c=(b.n:Int)*(tt o:Int):=by
    unfold DA at j;rw[E]at j;unfold tt;rw[lE B];split at j
    .rename_i J;injection j with j
     rw[J,Int.zero_mul,j]
    split at j
    .cases j
    split at j
    .cases j
    .injection j with j
     exact j.symm
   rw[<-d,D,F];show(b.n:Int)*(tt o:Int)+(r.n:Int)=((b.n*tt o+r.n:Nat):Int);simp
theorem hmax_src : ∀(f:Fo),f.Ok->∀(r:List bu) (d m:Nat),hmax (f.src++r) d m=hmax r d (max m (if f.hi=0 then 0 else d+f.hi))
 | .nil,_,r,d,m=>by
  simp only[src,iB,hi,zE];rw[Nat.max_zero]
 | .op o f,h,r,d,m=>by
  obtain⟨j,c⟩:=h;simp only[src,gB,hmax,hi];rw[Zh,Zh];exact hmax_src f c r d m
 | .rep o b e f,h,r,d,m=>by
  obtain⟨⟨j,c⟩,p,q⟩:=h;simp only[src,gB,dB,hmax,hi];rw[zE j,hmax_src b p];simp only[hmax];rw[Zh,zE c,lW,hmax_src f q]
  congr 1
  have k:(if max (b.hi+1) f.hi=0 then 0 else d+max (b.hi+1) f.hi)=d+max (b.hi+1) f.hi:=zF (by omega);refine Eq.trans ?_ (congrArg (max m) k.symm);split<;>split<;>omega
theorem hi_le {f:Fo}(h:f.Ok):f.hi<=hmax f.src 0 0:=by
 have:=hmax_src f h [] 0 0;rw[iS]at this;rw[this];simp only[hmax];split<;>omega
theorem bare_n : ∀f:Fo,f.bare.n=f.n
 | .nil=>rfl
 | .op o r=>by simp only[bare,n,bare_n r]
 | .rep o b e r=>by
  simp only[bare,n];split
  .rename_i h;rw[h,bare_n r,iC]
  .simp only[n,bare_n b,bare_n r]
theorem oK : ∀f:Fo,f.unroll.length=f.n
 | .nil=>rfl
 | .op o r=>by simp only[unroll,n,cD,oK r];omega
 | .rep o b e r=>by
  simp only[unroll,n,eD,oK r];rw[lR,lS,lV,oK b,lM]
theorem bare_unroll : ∀f:Fo,f.bare.unroll=f.unroll
 | .nil=>rfl
 | .op o r=>by simp only[bare,unroll,bare_unroll r]
 | .rep o b e r=>by
  simp only[bare,unroll];split
  .rename_i h
   have c:((bB (tt o) b.unroll).flatten).length=0:=by
    rw[lR,lS,lV,oK b,lM,h]
   rw[List.eq_nil_of_length_eq_zero c,iB,bare_unroll r]
  .simp only[unroll,bare_unroll b,bare_unroll r]
theorem bare_ok : ∀f:Fo,f.Ok->f.bare.Ok
 | .nil,_=>trivial
 | .op o r,h=>⟨h.1,bare_ok r h.2⟩
 | .rep o b e r,h=>by
  simp only[bare];split
  .exact bare_ok r h.2.2
  .exact⟨h.1,bare_ok b h.2.1,bare_ok r h.2.2⟩
theorem bare_pos : ∀f:Fo,f.bare.Pos
 | .nil=>trivial
 | .op o r=>bare_pos r
 | .rep o b e r=>by
  simp only[bare];split
  .exact bare_pos r
  .rename_i h;exact⟨by rw[bare_n];omega,bare_pos b,bare_pos r⟩
theorem bare_hi : ∀f:Fo,f.bare.hi<=f.hi
 | .nil=>aB _
 | .op o r=>bare_hi r
 | .rep o b e r=>by
  simp only[bare,hi];have c:=bare_hi b;have d:=bare_hi r;split
  .omega
  .simp only[hi];omega
theorem bare_len : ∀f:Fo,f.bare.len<=f.len
 | .nil=>aB _
 | .op o r=>by simp only[bare,len];exact Nat.succ_le_succ (bare_len r)
 | .rep o b e r=>by
  simp only[bare,len];have c:=bare_len b;have d:=bare_len r;split
  .omega
  .simp only[len];omega
theorem bare_mem : ∀(f:Fo) {o:bu},o∈f.bare.src->o∈f.src
 | .nil,o,h=>h
 | .op o r,x,h=>by
  simp only[bare,src,lJ]at h⊢;rcases h with h|h
  .exact .inl h
  .exact .inr (bare_mem r h)
 | .rep o b e r,x,h=>by
  simp only[bare]at h;split at h
  .simp only[src,lJ,lT];exact .inr (.inr (.inr (bare_mem r h)))
  .simp only[src,lJ,lT]at h⊢;rcases h with h|h|h|h
   .exact .inl h
   .exact .inr (.inl (bare_mem b h))
   .exact .inr (.inr (.inl h))
   .exact .inr (.inr (.inr (bare_mem r h)))
theorem steps_le : ∀f:Fo,f.Pos->f.steps<=(2*f.len+1)*f.n
 | .nil,_=>aB _
 | .op o r,h=>by
  have c:=steps_le r h;simp only[steps,len,n];rw[lL,lB];have:(2*r.len+1)*r.n<=(2*(r.len+1)+1)*r.n:=lN _ (by omega);omega
 | .rep o b e r,h=>by
  obtain⟨c,d,j⟩:=h;have p:=steps_le b d;have y:=steps_le r j;simp only[steps,len,n]
  have s:0<tt o:=by
   rcases kD (tt o)with h0|h0
   .rw[h0]at c;simp at c
   .exact h0
  have k:0<b.n:=by
   rcases kD b.n with h0|h0
   .rw[h0]at c;simp at c
   .exact h0
  have u:tt o<=b.n*tt o:=Nat.le_mul_of_pos_left _ k
  have z:tt o*(b.steps+1)<=(2*b.len+1)*(b.n*tt o)+b.n*tt o:=by
   rw[lL,lB];have:tt o*b.steps<=tt o*((2*b.len+1)*b.n):=Nat.mul_le_mul_left _ p
   have q:tt o*((2*b.len+1)*b.n)=(2*b.len+1)*(b.n*tt o):=by
    rw[lM,Nat.mul_assoc]
   omega
  have A:(2*r.len+1)*r.n<=(2*(b.len+r.len+2)+1)*r.n:=lN _ (by omega);have B:(2*b.len+3)*(b.n*tt o)<=(2*(b.len+r.len+2)+1)*(b.n*tt o):=lN _ (by omega)
  have C:(2*b.len+3)*(b.n*tt o)=(2*b.len+1)*(b.n*tt o)+b.n*tt o+b.n*tt o:=by
   rw[show 2*b.len+3=(2*b.len+1)+1+1 by omega,Nat.add_mul,Nat.add_mul,Nat.one_mul]
  rw[lL (2*(b.len+r.len+2)+1)];generalize tt o*(b.steps+1)=D at*;generalize (2*(b.len+r.len+2)+1)*(b.n*tt o)=E at*;generalize (2*(b.len+r.len+2)+1)*r.n=F at*;generalize (2*r.len+1)*r.n=H at*;generalize (2*b.len+3)*(b.n*tt o)=I at*;generalize (2*b.len+1)*(b.n*tt o)=J at*;omega
end Fo
def upd (l:Nat->Int)(j:Nat)(v:Int):Nat->Int:=λi=>cond (kB j i) v (l i)
theorem sC (l:Nat->Int)(j:Nat)(v:Int):upd l j v j=v:=by
 unfold upd;rw[Nat.beq_refl];rfl
theorem M2 {l:Nat->Int}{j:Nat}(h:i≠j):upd l j v i=l i:=by
 unfold upd;cases b:kB j i with
 |true=>exact(h (Nat.eq_of_beq_eq_true b).symm).elim
 |false=>rfl
def Uq (o:bu):Prop:=0<=o.2.2.2.2/\o.2.2.2.2<=18446744073709551615
structure Runs {Z γ S:Type}(g:Z->Option (Z⊕γ))(code:List AV)(st:Nat->Nat->(Nat->Int)->S->Z)(stp:bu->S->S)(Vd:Nat->S->Prop)(good:bu->Prop):Prop where
 op: ∀{p d l s m o to},code[p]?=O (ce o to)->good o->(0<o.1/\o.1<7)->d<=8->Vd (1+m) s->g (st p d l s)=O (.inl (st (p+1) d l (stp o s)))/\Vd m (stp o s)
 rep: ∀{p d l s m o to},code[p]?=O (ce o to)->o.1=7->d<8->Vd m s->g (st p d l s)=O (.inl (st (p+1) (d+1) (upd l d o.2.2.2.2) s))
 nxt: ∀{p d l s m e to},code[p]?=O (ce e to)->e.1=0->d<8->1<l d->l d<=18446744073709551615->Vd m s->g (st p (d+1) l s)=O (.inl (st to (d+1) (upd l d (l d-1)) s))
 out: ∀{p d l s m e to},code[p]?=O (ce e to)->e.1=0->d<8->l d=1->Vd m s->g (st p (d+1) l s)=O (.inl (st (p+1) d (upd l d (l d-1)) s))
section
variable {Z γ S:Type} {g:Z->Option (Z⊕γ)} {code:List AV} {st:Nat->Nat->(Nat->Int)->S->Z} {stp:bu->S->S} {Vd:Nat->S->Prop} {good:bu->Prop}
def AN (stp:bu->S->S)(l:List bu)(s:S):S:=l.foldl (λs o=>stp o s) s
theorem Oj (l r:List bu)(s:S):AN stp (l++r) s=AN stp r (AN stp l s):=List.foldl_append
theorem I4 {A B:List AV}{x:AV}{r:List AV}{p:Nat}(b:code=A++(x::r)++B)(c:A.length=p):code[p]?=O x:=by
 subst c;rw[b,dB,dD (aB _),bD];rfl
theorem rounds (C:Runs g code st stp Vd good){p q d t n:Nat}{e:bu}{u:List bu}(A:d<8)(b:code[q]?=O (ce e p))(B:e.1=0)
  (z: ∀(l:Nat->Int) (s:S) (m:Nat),Vd (n+m) s->∃l',(∀i,i<d+1->l' i=l i)/\Reach g t (st p (d+1) l s) (st q (d+1) l' (AN stp u s))/\Vd m (AN stp u s)):
  ∀(k:Nat) (l:Nat->Int) (s:S) (m:Nat),k<18446744073709551615->l d=((k+1:Nat):Int)->Vd (n*(k+1)+m) s->
   ∃l',(∀i,i<d->l' i=l i)/\Reach g ((k+1)*(t+1)) (st p (d+1) l s) (st (q+1) d l' (AN stp (bB (k+1) u).flatten s))/\Vd m (AN stp (bB (k+1) u).flatten s)
 |0,l,s,m,J,D,o=>by
  obtain⟨c,h,r,j⟩:=z l s m (by rw[iC,lB]at o;exact o);have E:(bB (0+1) u).flatten=u:=by simp
  rw[E];have f:c d=1:=by rw[h d (by omega),D];rfl
  refine⟨upd c d (c d-1),λi hi=>by rw[M2 (by omega),h i (by omega)], ?_,j⟩;have y:=r.trans (Reach.one (C.out (l:=c) b B A f j));rw[show(0+1)*(t+1)=t+1 by omega];exact y
 |k+1,l,s,m,J,D,o=>by
  have K:n*(k+1+1)+m=n+(n*(k+1)+m):=by rw[Nat.mul_succ n (k+1)];omega
  rw[K]at o;obtain⟨c,h,r,j⟩:=z l s _ o;have f:c d=((k+1+1:Nat):Int):=by rw[h d (by omega),D]
  have y:=r.trans (Reach.one (C.nxt (l:=c) b B A (by omega) (by omega) j));obtain⟨L,F,H,I⟩:=rounds C A b B z k (upd c d (c d-1)) (AN stp u s) m (by omega) (by rw[sC,f];omega) j;have E:(bB (k+1+1) u).flatten=u++(bB (k+1) u).flatten:=by rw[List.replicate_succ,List.flatten_cons]
  rw[E,Oj];refine⟨L,λi hi=>by rw[F i hi,M2 (by omega),h i (by omega)], ?_,I⟩;rw[show(k+1+1)*(t+1)=t+1+(k+1)*(t+1)by rw[Nat.succ_mul (k+1)];omega];exact y.trans H
theorem Qp (C:Runs g code st stp Vd good): ∀(f:Fo) {A B:List AV} {p d:Nat} {l:Nat->Int} {s:S} {m:Nat},code=A++f.code p++B->A.length=p->f.Ok->f.Pos->d+f.hi<=8->(∀o∈f.src,good o/\Uq o)->Vd (f.n+m) s->
  ∃l',(∀i,i<d->l' i=l i)/\Reach g f.steps (st p d l s) (st (p+f.len) d l' (AN stp f.unroll s))/\Vd m (AN stp f.unroll s)
 | .nil,A,B,p,d,l,s,m,y,z,h,I,E,c,j=>by
  refine⟨l,λ_ _=>rfl,Reach.refl, ?_⟩;have:Fo.nil.n+m=m:=iC m;rw[this]at j;exact j
 | .op o r,A,B,p,d,l,s,m,y,z,h,I,E,c,j=>by
  simp only[Fo.n,Nat.add_assoc]at j;simp only[Fo.hi]at E;obtain⟨J,K⟩:=C.op (d:=d) (l:=l) (I4 y z) (c o (by simp[Fo.src])).1 h.1 (by omega) j;have Q:(A++[ce o 0]).length=p+1:=by simp[z]
  obtain⟨l',L,M,N⟩:=Qp C r (A:=A++[ce o 0]) (B:=B) (p:=p+1) (d:=d) (l:=l) (by rw[y];simp[Fo.code]) Q h.2 I E (λx H=>c x (by simp[Fo.src,H])) K;refine⟨l',L, ?_,N⟩;have:=(Reach.one J).trans M;simp only[Fo.steps,Fo.len];rw[show p+(r.len+1)=p+1+r.len by omega];exact this
 | .rep o b e r,A,B,p,d,l,s,m,y,z,h,I,E,c,j=>by
  obtain⟨⟨k1,k2⟩,k3,k4⟩:=h;obtain⟨q1,q2,q3⟩:=I;simp only[Fo.n,Nat.add_assoc]at j;simp only[Fo.hi]at E;have F:=(c o (by simp[Fo.src])).2;unfold Uq at F;have hvo:((tt o:Nat):Int)=o.2.2.2.2:=lE F.1
  have hv0:0<tt o:=by
   rcases kD (tt o)with h0|h0
   .rw[h0]at q1;simp at q1
   .exact h0
  obtain⟨k,h⟩: ∃k,tt o=k+1:=⟨tt o-1,by omega⟩
  have J:=C.rep (d:=d) (l:=l) (I4 y z) k1 (by omega) j;have Q:(A++[ce o (p+b.len+2)]).length=p+1:=by simp[z]
  have V:code=(A++[ce o (p+b.len+2)])++b.code (p+1)++(ce e (p+1)::r.code (p+b.len+2)++B):=by rw[y];simp[Fo.code]
  have W:code=(A++ce o (p+b.len+2)::b.code (p+1))++(ce e (p+1)::r.code (p+b.len+2))++B:=by rw[y];simp[Fo.code]
  have T:(A++ce o (p+b.len+2)::b.code (p+1)).length=p+1+b.len:=by simp[z,Fo.code_len];omega
  have D:=I4 W T
  obtain⟨l1,K,L,M⟩:=rounds C (p:=p+1) (q:=p+1+b.len) (d:=d) (t:=b.steps) (n:=b.n) (e:=e) (u:=b.unroll) (by omega) D k2
   (λl s m hm=>Qp C b V Q k3 q2 (by omega) (λx H=>c x (by simp[Fo.src,H])) hm) k (upd l d o.2.2.2.2) s (r.n+m) (by omega) (by rw[sC,<-hvo,h]) (by rw[<-h];exact j)
  have X:code=(A++ce o (p+b.len+2)::(b.code (p+1)++[ce e (p+1)]))++r.code (p+b.len+2)++B:=by rw[y];simp[Fo.code]
  have U:(A++ce o (p+b.len+2)::(b.code (p+1)++[ce e (p+1)])).length=p+b.len+2:=by simp[z,Fo.code_len];omega
  obtain⟨l2,N,h6,h7⟩:=Qp C r (d:=d) (l:=l1) X U k4 q3 (by omega) (λx H=>c x (by simp[Fo.src,H])) M;simp only[Fo.unroll,Fo.steps,Fo.len];rw[Oj,h];refine⟨l2,λi hi=>by rw[N i hi,K i hi,M2 (by omega)], ?_,h7⟩;have h8:=((Reach.one J).trans L).trans (show Reach g r.steps (st (p+1+b.len+1) d l1 _) _ from by rw[show p+1+b.len+1=p+b.len+2 by omega];exact h6);rw[show p+(b.len+r.len+2)=p+b.len+2+r.len by omega];exact h8
end
structure Backs {Z γ S:Type}(g:Z->Option (Z⊕γ))(code:List AV)(st:Nat->Nat->(Nat->Int)->S->Z)(stp:bu->S->S)(Vd:Nat->S->Prop)(good:bu->Prop):Prop where
 op: ∀{p d l s m o to},code[p]?=O (ce o to)->good o->(0<o.1/\o.1<7)->d<=8->Vd (1+m) s->g (st (p+1) d l s)=O (.inl (st p d l (stp o s)))/\Vd m (stp o s)
 rep: ∀{p q d l s m o e to},code[p]?=O (ce e (q+1))->e.1=0->code[q]?=O (ce o to)->d<8->Vd m s->g (st (p+1) d l s)=O (.inl (st p (d+1) (upd l d o.2.2.2.2) s))
 nxt: ∀{p d l s m o to},code[p]?=O (ce o (to+1))->to<=code.length->o.1=7->d<8->1<l d->l d<=18446744073709551615->Vd m s->g (st (p+1) (d+1) l s)=O (.inl (st to (d+1) (upd l d (l d-1)) s))
 out: ∀{p d l s m o to},code[p]?=O (ce o (to+1))->o.1=7->d<8->l d=1->Vd m s->g (st (p+1) (d+1) l s)=O (.inl (st p d (upd l d (l d-1)) s))
section
variable {Z γ S:Type} {g:Z->Option (Z⊕γ)} {code:List AV} {st:Nat->Nat->(Nat->Int)->S->Z} {stp:bu->S->S} {Vd:Nat->S->Prop} {good:bu->Prop}
def DB (stp:bu->S->S)(l:List bu)(s:S):S:=l.foldr stp s
theorem TG (l r:List bu)(s:S):DB stp (l++r) s=DB stp l (DB stp r s):=List.foldr_append
theorem ac0 (B:Backs g code st stp Vd good){p q d t n:Nat}{o:bu}{u:List bu}(F:q<=code.length)(A:d<8)(b:code[p]?=O (ce o (q+1)))(D:o.1=7)
  (z: ∀(l:Nat->Int) (s:S) (m:Nat),Vd (n+m) s->∃l',(∀i,i<d+1->l' i=l i)/\Reach g t (st q (d+1) l s) (st (p+1) (d+1) l' (DB stp u s))/\Vd m (DB stp u s)):
  ∀(k:Nat) (l:Nat->Int) (s:S) (m:Nat),k<18446744073709551615->l d=((k+1:Nat):Int)->Vd (n*(k+1)+m) s->
   ∃l',(∀i,i<d->l' i=l i)/\Reach g ((k+1)*(t+1)) (st q (d+1) l s) (st p d l' (DB stp (bB (k+1) u).flatten s))/\Vd m (DB stp (bB (k+1) u).flatten s)
 |0,l,s,m,K,C,j=>by
  obtain⟨c,f,r,h⟩:=z l s m (by rw[iC,lB]at j;exact j);have E:(bB (0+1) u).flatten=u:=by simp
  rw[E];have e:c d=1:=by rw[f d (by omega),C];rfl
  refine⟨upd c d (c d-1),λi hi=>by rw[M2 (by omega),f i (by omega)], ?_,h⟩;have y:=r.trans (Reach.one (B.out (l:=c) b D A e h));rw[show(0+1)*(t+1)=t+1 by omega];exact y
 |k+1,l,s,m,K,C,j=>by
  have L:n*(k+1+1)+m=n+(n*(k+1)+m):=by rw[Nat.mul_succ n (k+1)];omega
  rw[L]at j;obtain⟨c,f,r,h⟩:=z l s _ j;have e:c d=((k+1+1:Nat):Int):=by rw[f d (by omega),C]
  have y:=r.trans (Reach.one (B.nxt (l:=c) b F D A (by omega) (by omega) h));obtain⟨M,H,I,J⟩:=ac0 B F A b D z k (upd c d (c d-1)) (DB stp u s) m (by omega) (by rw[sC,e];omega) h;have E:(bB (k+1+1) u).flatten=(bB (k+1) u).flatten++u:=by rw[lU,List.flatten_append];simp
  rw[E,TG];refine⟨M,λi hi=>by rw[H i hi,M2 (by omega),f i (by omega)], ?_,J⟩;rw[show(k+1+1)*(t+1)=t+1+(k+1)*(t+1)by rw[Nat.succ_mul (k+1)];omega];exact y.trans I
theorem K9 (E:Backs g code st stp Vd good): ∀(f:Fo) {A B:List AV} {p d:Nat} {l:Nat->Int} {s:S} {m:Nat},code=A++f.code p++B->A.length=p->f.Ok->f.Pos->d+f.hi<=8->(∀o∈f.src,good o/\Uq o)->Vd (f.n+m) s->
  ∃l',(∀i,i<d->l' i=l i)/\Reach g f.steps (st (p+f.len) d l s) (st p d l' (DB stp f.unroll s))/\Vd m (DB stp f.unroll s)
 | .nil,A,B,p,d,l,s,m,y,C,h,J,F,c,D=>by
  refine⟨l,λ_ _=>rfl,Reach.refl, ?_⟩;have:Fo.nil.n+m=m:=iC m;rw[this]at D;exact D
 | .op o r,A,B,p,d,l,s,m,y,C,h,J,F,c,D=>by
  simp only[Fo.n]at D;simp only[Fo.hi]at F;have T:(A++[ce o 0]).length=p+1:=by simp[C]
  obtain⟨l',M,N,Q⟩:=K9 E r (A:=A++[ce o 0]) (B:=B) (p:=p+1) (d:=d) (l:=l) (m:=1+m) (by rw[y];simp[Fo.code]) T h.2 J F (λx I=>c x (by simp[Fo.src,I])) (by rw[show r.n+(1+m)=1+r.n+m by omega];exact D);obtain⟨K,L⟩:=E.op (d:=d) (l:=l') (I4 y C) (c o (by simp[Fo.src])).1 h.1 (by omega) Q;refine⟨l',M, ?_,L⟩;have:=N.trans (Reach.one K);simp only[Fo.steps,Fo.len];rw[show p+(r.len+1)=p+1+r.len by omega,Nat.add_comm 1];exact this
 | .rep o b e r,A,B,p,d,l,s,m,y,C,h,J,F,c,D=>by
  obtain⟨⟨k1,k2⟩,k3,k4⟩:=h;obtain⟨q1,q2,q3⟩:=J;simp only[Fo.n]at D;simp only[Fo.hi]at F;have H:=(c o (by simp[Fo.src])).2;unfold Uq at H;have hvo:((tt o:Nat):Int)=o.2.2.2.2:=lE H.1
  have hv0:0<tt o:=by
   rcases kD (tt o)with h0|h0
   .rw[h0]at q1;simp at q1
   .exact h0
  obtain⟨k,h⟩: ∃k,tt o=k+1:=⟨tt o-1,by omega⟩
  have j:=I4 y C;have T:(A++[ce o (p+b.len+2)]).length=p+1:=by simp[C]
  have W:code=(A++[ce o (p+b.len+2)])++b.code (p+1)++(ce e (p+1)::r.code (p+b.len+2)++B):=by rw[y];simp[Fo.code]
  have X:code=(A++ce o (p+b.len+2)::b.code (p+1))++(ce e (p+1)::r.code (p+b.len+2))++B:=by rw[y];simp[Fo.code]
  have U:(A++ce o (p+b.len+2)::b.code (p+1)).length=p+1+b.len:=by simp[C,Fo.code_len];omega
  have z:=I4 X U;have hcr:code=(A++ce o (p+b.len+2)::(b.code (p+1)++[ce e (p+1)]))++r.code (p+b.len+2)++B:=by rw[y];simp[Fo.code]
  have V:(A++ce o (p+b.len+2)::(b.code (p+1)++[ce e (p+1)])).length=p+b.len+2:=by simp[C,Fo.code_len];omega
  obtain⟨l2,Q,h6,h7⟩:=K9 E r (d:=d) (l:=l) (m:=b.n*tt o+m) hcr V k4 q3 (by omega) (λx I=>c x (by simp[Fo.src,I])) (by rw[show r.n+(b.n*tt o+m)=b.n*tt o+r.n+m by omega];exact D);have K:=E.rep (d:=d) (l:=l2) z k2 j (by omega) h7
  obtain⟨l1,L,M,N⟩:=ac0 E (p:=p) (q:=p+1+b.len) (d:=d) (t:=b.steps) (n:=b.n) (o:=o) (u:=b.unroll) (Nat.le_of_lt (List.getElem?_eq_some_iff.1 z).1) (by omega) (by rw[j];congr 2;omega) k1
   (λl s m hm=>K9 E b W T k3 q2 (by omega) (λx I=>c x (by simp[Fo.src,I])) hm) k (upd l2 d o.2.2.2.2) _ m (by omega) (by rw[sC,<-hvo,h]) (by rw[<-h];exact h7)
  simp only[Fo.unroll,Fo.steps,Fo.len];rw[TG,h];refine⟨l1,λi hi=>by rw[L i hi,M2 (by omega),Q i hi], ?_,N⟩;have h8:=(h6.trans (show Reach g 1 _ _ from by rw[show p+b.len+2=p+1+b.len+1 by omega];exact Reach.one K)).trans M;rw[show p+(b.len+r.len+2)=p+b.len+2+r.len by omega,show 1+(k+1)*(b.steps+1)+r.steps=r.steps+1+(k+1)*(b.steps+1)by omega];exact h8
end
end
end Go.V
