/- A part of the proof. No condition. -/
import Derived.Test.YtekbakifagogaaaGreatDoorD3
import Derived.Test.YtekbakifagogaaaGreatDoorA10
import Derived.KernelRfl
set_option linter.unusedVariables false
set_option linter.unusedSimpArgs false
set_option linter.unusedSectionVars false
namespace Go.V
open Go.Ab
open Option renaming some->O,none->Y
open Bool renaming true->Za,false->Zb
open Decidable renaming decide->Zc
variable {i t x:Nat}{a v w:Int}{out rds st:Zd}
section
open Go.IntKind renaming wrap -> zH, i64 -> zI, u64 -> zJ
open Bool renaming not_true -> dA
open Int renaming zero_add -> cN, add_assoc -> cQ, mul_nonneg -> cW, add_zero -> dB, le_refl -> dC, mul_comm -> dD, mul_le_mul_of_nonneg_left -> dE, ediv_le_self -> dT, ediv_nonneg -> dU, mul_ediv_self_le -> dV, toNat_of_nonneg -> dW, eq_ofNat_of_zero_le -> eI, toNat_natCast -> eJ
open List renaming getElem?_eq_getElem -> aD, replicate -> bB, getElem?_set_ne -> cB, length_cons -> cD, append_assoc -> cK, getElem?_append_right -> cL, length_append -> cM, cons_append -> cO, getElem_mem -> cP, nil_append -> cR, getElem_cons_drop -> cT, range -> cV, drop_length -> cX, getElem?_set_self -> cY, length -> cZ, append_nil -> dF, drop_append -> dG, drop_of_length_le -> dH, getD -> dI, getElem?_drop -> dJ, length_drop -> dK, map_append -> dL, set -> dM, set_append_right -> dN, take_append_drop -> dO, take_left' -> dP, any_cons -> dX, any_nil -> dY, dropLast_concat_getLast -> dZ, length_take -> eA, mem_cons -> eC, range_succ -> eD, take_succ_eq_append_getElem -> eE, getElem?_cons_zero -> eM, length_flatten -> eN, map_replicate -> eO, mem_append -> eP, replicate_succ' -> eQ, sum_replicate_nat -> eR
open Nat renaming le_refl -> aB, sub_self -> bD, zero_add -> cS, zero_le -> cU, beq -> dQ, eq_zero_or_pos -> dR, mul_one -> dS, mul_add -> eF, mul_comm -> eG, mul_le_mul_right -> eH, add_sub_cancel -> eS
set_option maxRecDepth 100000
abbrev ci :=Int×Int×Int×Int×Int
def bm :List ci->Nat->Option Nat
 |[],d=>O d
 |o::r,d=>if o.1<0∨7<o.1 then Y else if o.1=0 then(if d=0 then Y else bm r (d-1))else if o.1=7 then bm r (d+1)else bm r d
theorem rf : ∀(l r:List ci) (d:Nat),bm (l++r) d=(bm l d).bind (bm r)
 |[],r,d=>rfl
 |o::l,r,d=>by
  simp only[cO,bm];split
  .rfl
  split
  .split
   .rfl
   .exact rf l r _
  split
  .exact rf l r _
  .exact rf l r _
theorem Hh : ∀(l:List ci) (d e:Nat),bm l d=O e->bm l (d+1)=O (e+1)
 |[],d,e,h=>by
  injection h with h
  subst h;rfl
 |o::l,d,e,h=>by
  simp only[bm]at h⊢;split at h
  .cases h
  rename_i c;rw[zF c];split at h
  .rename_i f;rw[zE f];split at h
   .cases h
   .rename_i b;rw[Zh];have:=Hh l _ _ h
    rwa [show d-1+1=d+1-1 by omega]at this
  rename_i f;rw[zF f];split at h
  .rename_i b;rw[zE b];exact Hh l _ _ h
  .rename_i b;rw[zF b];exact Hh l _ _ h
def ax2 (l:List ci)(s:Int×Bool×(Zd)×(Zd)×Zd):Prop:=
 ∃(i:Nat) (out st:Zd),i<=l.length/\s=((i:Int),Za,out,st,st)/\out.length=l.length/\(∀x∈st,0<=x/\x<l.length)/\st.length<=i/\bm (l.drop i) st.length=bm l 0
theorem ap7 (h:st≠[]): ∃pre x,st=pre++[x]:=⟨st.dropLast,st.getLast h,(dZ h).symm⟩
theorem SE {l:List ci}(J:l.length<=3518437208780)(s:Int×Bool×(Zd)×(Zd)×Zd)(h:ax2 l s):
  (∃b,cw l s=O (.inl b)/\ax2 l b/\l.length-b.1.toNat<l.length-s.1.toNat)∨∃c,cw l s=O (.inr c)/\((c.1=Zb/\bm l 0=Y)∨(c.1=Za/\bm l 0=O c.2.2.1.length)):=by
 obtain⟨i,out,st,hi,rfl,A,j,B,d⟩:=h;by_cases c:i<l.length
 .have o:l.drop i=l[i]::l.drop (i+1):=(cT c).symm;rw[o]at d;simp only[cw];rw[zB (show(i:Int)<(l.length:Int)by omega),zC,cn c];simp only[zG];generalize L:l[i]=x at*;simp only[bm]at d;by_cases D:x.1<0
  .rw[zE (.inl D)]at d;rw[zB D];simp only[zC,zG,gH];exact .inr ⟨_,rfl, .inl ⟨rfl,d.symm⟩⟩
  rw[zA D,zD];by_cases k:7<x.1
  .rw[zE (.inr k)]at d;rw[zB k];simp only[zC,zG,cb,gH];exact .inr ⟨_,rfl, .inl ⟨rfl,d.symm⟩⟩
  rw[zA k,zD];rw[Zh]at d;by_cases u:x.1=0
  .rw[zE u]at d;rw[zB u];simp only[zC,zG,cb];by_cases p:st.length=0
   .rw[zE p]at d;rw[zB (show(st.length:Int)=0 by omega)];simp only[zC,zG,gH];exact .inr ⟨_,rfl, .inl ⟨rfl,d.symm⟩⟩
   .rw[zF p]at d;rw[zA (show¬(st.length:Int)=0 by omega),zD];rw[ad (n:=(st.length:Int)-1) (by omega),Zk,bz];simp only[zG,cb];obtain⟨pre,q,rfl⟩:=ap7 (st:=st) (by intro e;subst e;exact p rfl);have H:=j q (by simp);have f:(pre++[q]).length=pre.length+1:=by simp
    have K:(((pre++[q]).length:Int)-1).toNat-0=pre.length:=by rw[f];omega
    have E:Zc (x.1=7)=Zb:=zA (by omega);rw[bp (show i<out.length by omega)];simp only[zG];rw[aD (show i<out.length by omega)];simp only[zG];rw[E,zD,show((pre++[q]).length:Int)-1=(pre.length:Int)by rw[f];omega,bp (show pre.length<(pre++[q]).length by omega)];simp only[zG];rw[cL (aB _),bD];simp only[eM,zG];rw[bz,bp (show i<(out.set i (-1)).length by simp;omega)];simp only[zG];rw[aD (show i<(out.set i (-1)).length by simp;omega)];simp only[zG];obtain⟨r,rfl⟩:=eI H.1;have I:r<out.length:=by omega
    rw[bp (show r<((out.set i (-1)).set i ((r:Nat):Int)).length by simp;omega)];simp only[zG];rw[aD (show r<((out.set i (-1)).set i ((r:Nat):Int)).length by simp;omega)];simp only[zG]
    have C:(pre++[(r:Int)]).take ((pre.length:Int).toNat-0)=pre:=by
     rw[show(pre.length:Int).toNat-0=pre.length by omega,dP];rfl
    rw[C,ad (n:=(i:Int)+1) (by omega)];refine .inl ⟨_,rfl,⟨i+1,_,pre,c,rfl,by simp[A],λy hy=>j y (by simp[hy]),by rw[f]at B;omega, ?_⟩,by simp;omega⟩;rw[f]at d;exact d
  .rw[zF u]at d;have F:Zc (x.1=0)=Zb:=zA u;rw[F];simp only[zD,zG,cb];rw[bp (show i<out.length by omega)];simp only[zG];rw[aD (show i<out.length by omega)];simp only[zG];by_cases k:x.1=7
   .rw[zE k]at d;rw[zB k];simp only[zC];rw[bt (by omega) (by omega),bt (by omega) (by omega),ad (n:=(i:Int)+1) (by omega)];refine .inl ⟨_,rfl,⟨i+1,_,st++[(i:Int)],c,rfl,by simp[A],λy hy=> ?_,by simp;omega, ?_⟩,by simp;omega⟩
    .rcases List.mem_append.1 hy with hy|hy
     .exact j y hy
     .simp at hy;subst hy;omega
    .rw[cM];exact d
   .rw[zF k]at d;rw[zA k];simp only[zD];rw[ad (n:=(i:Int)+1) (by omega)];exact .inl ⟨_,rfl,⟨i+1,_,st,c,rfl,by simp[A],j,by omega,d⟩,by simp;omega⟩
 .have z:i=l.length:=by omega
  subst z;rw[cX]at d;simp only[cw];rw[zA (show¬(l.length:Int)<(l.length:Int)by omega),zD];exact .inr ⟨_,rfl, .inr ⟨rfl,d.symm⟩⟩
theorem yG {l:List ci}(o:l.length<=3518437208780): ∃m,jN l=O (if bm l 0=O 0 then 0 else 6,m):=by
 unfold jN;rw[zB (show(0:Int)<=(l.length:Int)by omega),zB (show(l.length:Int)<=(l.length:Int)by omega),zB (show 8*(l.length:Int)<=140737488355328 by omega)];show∃m,gd Za _=_
 rw[bz]
 obtain⟨c,k,h⟩:=re (f:=cw l) (a:=((0:Int),Za,bB ((l.length:Int)).toNat (0:Int),([]:Zd),([]:Zd))) (ax2 l) (λs=>l.length-s.1.toNat) (λc=>(c.1=Zb/\bm l 0=Y)∨(c.1=Za/\bm l 0=O c.2.2.1.length))
  ⟨0,_,[],cU _,rfl,by simp,(λx q=>by cases q),aB _,rfl⟩ (by simp;omega) (λs p=>SE o s p)
 rw[k];simp only[zG];rcases h with⟨b,d⟩|⟨b,d⟩
 .rw[b,d];exact⟨_,rfl⟩
 .rw[b,d,zC];by_cases j:c.2.2.1.length=0
  .rw[zB (show(c.2.2.1.length:Int)=0 by omega),zE (by rw[j])];exact⟨_,rfl⟩
  .rw[zA (show¬(c.2.2.1.length:Int)=0 by omega),zF (by intro e;injection e with e;exact j e)];exact⟨_,rfl⟩
def zj (w v:Int):Option Int:=if w=0 then O 0 else if 65536<w then Y else if 65536 / w<v then Y else O (w*v)
def rQ :List ci->List (Int×Int)->Option (List (Int×Int))
 |[],st=>O st
 |o::r,(v,w)::st=>if o.1=7 then rQ r ((o.2.2.2.2,0)::(v,w)::st)else if o.1=0 then(match zj w v,st with
   |some n,(c,d)::b=>rQ r ((c,d+n)::b)
   |_,_=>Y)
  else rQ r ((v,w+1)::st)
 |_::_,[]=>Y
theorem LL (s:0<=w/\w<=10000000000)(f:0<=v/\v<=18446744073709551615):tb w v=O (match zj w v with
  |some n=>(n,Za)
  |none=>(0,Zb)):=by
 unfold tb zj;simp only[ag];by_cases b:w=0
 .rw[zE b,zE b]
 rw[zF b,zF b];by_cases c:65536<w
 .rw[zE c,zE c]
 rw[zF c,zF c,zB (show w≠0 from b),bz,UF (by omega)];have h:0<=65536 / w:=dU (by omega) (by omega);have j:65536 / w<=65536:=dT _ (by omega);rw[ad (n:=65536 / w) (by omega),Zj];by_cases d:65536 / w<v
 .rw[zE d,zE d]
 .rw[zF d,zF d]
  have o:w*v<=65536:=by
   have e:v<=65536 / w:=by omega
   have p:=dE e (show 0<=w by omega);have q:=dV (x:=65536) (k:=w) (by omega);omega
  have r:=cW (show 0<=w by omega) f.1;rw[ad (n:=v) (by omega),ad (n:=w*v) (by omega)]
theorem GG {n:Int}(d:0<=w)(c:0<=v)(h:zj w v=O n):0<=n/\n<=65536:=by
 unfold zj at h;split at h
 .injection h with h;subst h;omega
 split at h
 .cases h
 split at h
 .cases h
 rename_i e f j;injection h with h
 subst h;have b:v<=65536 / w:=by omega
 have o:=dE b (show 0<=w by omega);have p:=dV (x:=65536) (k:=w) (by omega);exact⟨cW d c,by omega⟩
theorem FH {k:Int}(h:0<k/\k<7)(d a b v:Int):jq k d a b v=O (d,Za):=by
 unfold jq pp;simp only[ag];have:k=1∨k=2∨k=3∨k=4∨k=5∨k=6:=by omega
 rcases this with rfl|rfl|rfl|rfl|rfl|rfl<;>rfl
theorem Rl (a b:Int)(e:0<=a/\a<=1000000000000)(j:0<=b/\b<=65536):xX [a,b]=O (a+b):=by
 unfold xX
 have d:aq (Ae [a,b]) cx (0,0)=O (a+b):=by
  have h:=fP (f:=Ae [a,b]) (n:=2) (λi=>match i with|0=>0|1=>a|_=>a+b) (c:=a+b) (by omega) ?_ ?_
  .exact h
  .intro i hi
   match i,hi with
   |0,_=>
    show O (Sum.inl (zH zI 1,zH zI (0+a)))=_;rw[Zi,Zi,cN];rfl
   |1,_=>
    show O (Sum.inl (zH zI 2,zH zI (a+b)))=_;rw[Zi,Zi];rfl
  .rfl
 rw[d];rfl
def ap6 (l:List ci)(op:List (Int×Int)):List (Int×Int):=op.reverse.map λp=>((l.getD p.1.toNat (0,0,0,0,0)).2.2.2.2,p.2)
theorem xM (l:List ci)(pre:List (Int×Int))(p:Int×Int):ap6 l (pre++[p])=((l.getD p.1.toNat (0,0,0,0,0)).2.2.2.2,p.2)::ap6 l pre:=by
 unfold ap6;rw[List.reverse_append,dL];rfl
def ax7 (l:List ci)(s:Int×(Zd)×(Zd)×List (Int×Int)):Prop:=
 ∃(i:Nat) (sz rd:Zd) (b:List (Int×Int)),i<=l.length/\s=((i:Int),sz,rd,b)/\sz.length=l.length/\rd.length=l.length/\b≠[]/\b.length<=i+1/\(∀p∈b,0<=p.1/\p.1<max (l.length:Int) 1/\0<=p.2/\p.2<=65537*i)/\
  bm (l.drop i) (b.length-1)=O 0/\rQ (l.drop i) (ap6 l b)=rQ l [((l.getD 0 (0,0,0,0,0)).2.2.2.2,0)]
theorem TU {l:List ci}(h:i<l.length):l.getD i (0,0,0,0,0)=l[i]:=by
 rw[List.getD_eq_getElem?_getD,aD h];rfl
theorem OX {l:List ci}(hl:l.length<=100000)(hv: ∀o∈l,0<=o.2.2.2.2/\o.2.2.2.2<=18446744073709551615)(s:Int×(Zd)×(Zd)×List (Int×Int))(h:ax7 l s):
  (∃b,ck l s=O (.inl b)/\ax7 l b/\l.length-b.1.toNat<l.length-s.1.toNat)∨
  ∃c,ck l s=O (.inr c)/\((c.1=9/\rQ l [((l.getD 0 (0,0,0,0,0)).2.2.2.2,0)]=Y)∨(c.1=0/\∃p:Int×Int,c.2.2.2=[p]/\0<=p.2/\rQ l [((l.getD 0 (0,0,0,0,0)).2.2.2.2,0)]=O [((l.getD p.1.toNat (0,0,0,0,0)).2.2.2.2,p.2)])):=by
 obtain⟨i,sz,rds,op,hi,rfl,I,H,L,hol,A,j,f⟩:=h;obtain⟨pre,⟨r,w⟩,rfl⟩: ∃pre x,op=pre++[x]:=⟨op.dropLast,op.getLast L,(dZ L).symm⟩
 have q:=A (r,w) (by simp);simp only at q;have z:(pre++[(r,w)]).length=pre.length+1:=by simp
 rw[z]at hol j;rw[eS]at j
 have C:(pre++[(r,w)])[pre.length]?=O (r,w):=by
  rw[cL (aB _),bD];rfl
 by_cases c:i<l.length
 .have F:l.drop i=l[i]::l.drop (i+1):=(cT c).symm;have hlv:=hv _ (cP c);have V:l.getD i (0,0,0,0,0)=l[i]:=TU c;rw[F]at j f;rw[xM]at f;simp only[ck];rw[zB (show(i:Int)<(l.length:Int)by omega),zC,cn c];simp only[zG];generalize hx:l[i]=x at*;simp only[bm]at j;simp only[rQ]at f
  have hk: ¬(x.1<0∨7<x.1):=by
   intro hk;rw[zE hk]at j;cases j
  rw[zF hk]at j;rw[z,ad (n:=((pre.length+1:Nat):Int)-1) (by omega),show((pre.length+1:Nat):Int)-1=(pre.length:Int)by omega,bp (show pre.length<pre.length+1 by omega)];simp only[zG];by_cases J:x.1=7
  .rw[Zh,zE J]at j;rw[zE J]at f;rw[zB J,zC,bt (by omega) (by omega),ad (n:=(i:Int)+1) (by omega)];refine .inl ⟨_,rfl,⟨i+1,sz,rds,pre++[(r,w)]++[((i:Int),0)],c,rfl,I,H,by simp,by simp;omega,λp hp=> ?_, ?_, ?_⟩,by simp;omega⟩
   .rcases List.mem_append.1 hp with hp|hp
    .have:=A p hp;omega
    .simp at hp;subst hp;simp only;omega
   .rw[cM,z];exact j
   .rw[xM,xM];simp only[eJ];rw[V];exact f
  .rw[zF J]at f;rw[zA J,zD];by_cases T:x.1=0
   .rw[zE T]at j f;rw[zB T,zC]
    have M:pre.length≠0:=by
     intro e;rw[zE e]at j;cases j
    rw[zF M]at j
    obtain⟨d,⟨k,u⟩,rfl⟩: ∃d x,pre=d++[x]:=by
     have D:pre≠[]:=by intro e;subst e;exact M rfl
     exact⟨pre.dropLast,pre.getLast D,(dZ D).symm⟩
    have K:(d++[(k,u)]).length=d.length+1:=by simp
    have B:=A (k,u) (by simp);simp only at B;obtain⟨y,rfl⟩:=eI q.1;have E:y<l.length:=by omega
    rw[C];simp only[zG];rw[cn E];simp only[zG];have Q:=hv _ (cP E);rw[LL ⟨q.2.2.1,by omega⟩ Q];simp only[zG];rw[xM]at f;simp only[eJ]at f;rw[TU E]at f;cases W:zj w l[y].2.2.2.2 with
    |none=>
     rw[W]at f;simp only[Bool.not_false,zC];exact .inr ⟨_,rfl, .inl ⟨rfl,f.symm⟩⟩
    |some n=>
     rw[W]at f;have hn:=GG q.2.2.1 Q.1 W;simp only[dA,zD];rw[bp (show y<sz.length by omega)];simp only[zG];rw[aD (show y<sz.length by omega)];simp only[zG];rw[bp (show y<rds.length by omega)];simp only[zG];rw[aD (show y<rds.length by omega)];simp only[zG];rw[Zk,bz];have e1:((d++[(k,u)]).length:Int).toNat-0=d.length+1:=by rw[K];omega
     rw[e1,ad (n:=((d.length+1:Nat):Int)-1) (by omega),show((d.length+1:Nat):Int)-1=(d.length:Int)by omega,bp (show d.length<d.length+1 by omega)];simp only[zG,cS]
     have X:(d++[(k,u)]++[((y:Int),w)])[d.length]?=O (k,u):=by
      rw[cK,cL (aB _),bD];rfl
     rw[X];simp only[zG];rw[Rl _ _ (by omega) hn];simp only[zG]
     have htk:((d++[(k,u)]++[((y:Int),w)]).set d.length (k,u+n)).take (d.length+1)=d++[(k,u+n)]:=by
      rw[cK,dN _ _ (aB _),bD];show(d++[(k,u+n),((y:Int),w)]).take (d.length+1)=_;rw[show [(k,u+n),((y:Int),w)]=[(k,u+n)]++[((y:Int),w)]from rfl,<-cK,dP];simp
     rw[htk,ad (n:=(i:Int)+1) (by omega)];refine .inl ⟨_,rfl,⟨i+1,_,_,d++[(k,u+n)],c,rfl,by simp[I],by simp[H],by simp,by simp;omega,λp hp=> ?_, ?_, ?_⟩,by simp;omega⟩
     .rcases List.mem_append.1 hp with hp|hp
      .have:=A p (by simp[hp]);omega
      .simp at hp;subst hp;simp only;omega
     .rw[K]at j;rw[cM];exact j
     .rw[xM];exact f
   .rw[zF T]at j f;rw[zF J]at j;rw[zA T,zD,FH (by omega)];simp only[zG,zC];rw[bp (show i<sz.length by omega)];simp only[zG];rw[aD (show i<sz.length by omega)];simp only[zG];rw[C];simp only[zG];rw[ad (n:=w+1) (by omega),ad (n:=(i:Int)+1) (by omega)]
    have N:(pre++[(r,w)]).set pre.length (r,w+1)=pre++[(r,w+1)]:=by
     rw[dN _ _ (aB _),bD];rfl
    rw[N];refine .inl ⟨_,rfl,⟨i+1,_,rds,pre++[(r,w+1)],c,rfl,by simp[I],H,by simp,by simp;omega,λp hp=> ?_, ?_, ?_⟩,by simp;omega⟩
    .rcases List.mem_append.1 hp with hp|hp
     .have:=A p (by simp[hp]);omega
     .simp at hp;subst hp;simp only;omega
    .rw[cM];exact j
    .rw[xM];exact f
 .have hi':i=l.length:=by omega
  subst hi';rw[cX]at j f;simp only[ck];rw[zA (show¬(l.length:Int)<(l.length:Int)by omega),zD]
  have hp:pre=[]:=by
   have j:O pre.length=O 0:=j;injection j with j
   exact List.length_eq_zero_iff.1 j
  subst hp;refine .inr ⟨_,rfl, .inr ⟨rfl,(r,w),rfl,q.2.2.1, ?_⟩⟩;rw[<-f];rfl
def Q9 (l:List ci):Option Int:=(rQ l [((l.getD 0 (0,0,0,0,0)).2.2.2.2,0)]).bind λst=>match st with
 |[p]=>O p.2
 |_=>Y
def da (l:List ci):Int×Int:=if bm l 0=O 0 then(match Q9 l with
 |some w=>if 65536<w then(0,9)else(w,0)
 |none=>(0,9))else(0,6)
theorem vY {l:List ci}(C:l.length<=100000)(E: ∀o∈l,0<=o.2.2.2.2/\o.2.2.2.2<=18446744073709551615):gb l=O (da l):=by
 unfold gb kl;obtain⟨m,D⟩:=yG (l:=l) (by omega);rw[D];unfold da;by_cases k:bm l 0=O 0
 .simp only[zE k];simp only[zG];rw[zA (by simp),zD];rw[zB (show(0:Int)<=(l.length:Int)by omega),zB (show(l.length:Int)<=(l.length:Int)by omega),zB (show 8*(l.length:Int)<=140737488355328 by omega)];have b: ∀{β:Type} {y:Option β},gd (dQ 1 (Sh.w (.int .i64))&&Za&&Za&&Za&&Nat.ble 1 8) y=y:=λ{β y}=>rfl
  rw[b,b]
  obtain⟨c,B,h⟩:=re (f:=ck l) (a:=((0:Int),bB ((l.length:Int)).toNat (0:Int),bB ((l.length:Int)).toNat (0:Int),[((0:Int),(0:Int))])) (ax7 l) (λs=>l.length-s.1.toNat) _
   ⟨0,_,_,[(0,0)],cU _,rfl,by simp,by simp,by simp,by simp,(λp q=>by simp at q;subst q;simp only;omega),k,rfl⟩ (by simp;omega) (λs h=>OX C E s h)
  rw[B];simp only[zG];unfold Q9;rcases h with⟨j,u⟩|⟨j,p,z,F,A⟩
  .rw[j,u];rfl
  .rw[j,A,z];show((((cond (Zc (65536<p.2)) (O (9:Int)) (O 0)).bind λd=>cond (Zc (d≠0)) (O ((0:Int),d,([]:Zd),([]:Zd))) (O (p.2,0,c.2.1,c.2.2.1))).bind λr=>O (r.1,r.2.1)))=O (if 65536<p.2 then(0,9)else(p.2,0));rw[ag];by_cases e:65536<p.2
   .rw[zE e,zE e];rfl
   .rw[zF e,zF e];rfl
 .simp only[zF k];rfl
theorem Bg : ∀(l r:List ci) (st:List (Int×Int)),rQ (l++r) st=(rQ l st).bind (rQ r)
 |[],r,st=>rfl
 |o::l,r,[]=>rfl
 |o::l,r,(v,w)::st=>by
  simp only[cO,rQ];split
  .exact Bg l r _
  split
  .split
   .exact Bg l r _
   .rfl
  .exact Bg l r _
def Uc (v w:Int)(b:List (Int×Int)):List (Int×Int)->List (Int×Int)
 |[]=>[]
 |[p]=>(v,w+p.2)::b
 |p::q::r=>p::Uc v w b (q::r)
theorem Nc (v w:Int)(c:List (Int×Int))(p:Int×Int): ∀d:List (Int×Int),Uc v w c (d++[p])=d++(v,w+p.2)::c
 |[]=>rfl
 |[a]=>rfl
 |a::b::r=>by
  show a::Uc v w c (b::r++[p])=_;rw[Nc v w c p (b::r)];rfl
theorem su (v w:Int)(b:List (Int×Int)): ∀(l:List ci) (f:List (Int×Int)) (d:Int) (e:Nat),bm l f.length=O e->rQ l (f++(v,w+d)::b)=(rQ l (f++[(0,d)])).map (Uc v w b)
 |[],f,d,e,_=>by
  show O _=O _;rw[Nc]
 |o::l,[],d,e,h=>by
  simp only[bm,List.length_nil]at h;simp only[cR,rQ];split at h
  .cases h
  split at h
  .rw[zE trivial]at h;cases h
  rename_i r j;split at h
  .rename_i c;rw[zE c,zE c];exact su v w b l [(o.2.2.2.2,0)] d e h
  .rename_i c;rw[zF c,zF j,zF c,zF j,cQ];exact su v w b l [] (d+1) e h
 |o::l,(k,p)::f,d,e,h=>by
  simp only[bm,cD]at h;simp only[cO,rQ];split at h
  .cases h
  split at h
  .rename_i r j;rw[Zh]at h;rw[Zh,zE j,Zh,zE j];cases s:zj p k with
   |none=>rfl
   |some n=>
    cases f with
    |nil=>
     simp only[cR];rw[cQ];exact su v w b l [] (d+n) e h
    |cons q f=>
     simp only[cO];exact su v w b l ((q.1,q.2+n)::f) d e h
  rename_i r j;split at h
  .rename_i c;rw[zE c,zE c];exact su v w b l ((o.2.2.2.2,0)::(k,p)::f) d e h
  .rename_i c;rw[zF c,zF j,zF c,zF j];exact su v w b l ((k,p+1)::f) d e h
theorem Hg : ∀(l:List ci) (st b:List (Int×Int)) (d f:Nat),st.length=d+1->bm l d=O f->rQ l st=O b->b.length=f+1
 |[],st,b,d,f,h,c,e=>by
  injection c with c
  injection e with e
  subst c;subst e;exact h
 |o::l,[],b,d,f,h,_,_=>by simp at h
 |o::l,(v,w)::st,b,d,f,h,c,e=>by
  simp only[bm]at c;simp only[rQ]at e;simp only[cD,Nat.add_right_cancel_iff]at h;split at c
  .cases c
  split at c
  .rename_i p k;split at c
   .cases c
   rw[Zh,zE k]at e;split at e
   .rename_i j _ _ n r s q _;exact Hg l _ b (d-1) f (by simp at h⊢;omega) c e
   .cases e
  rename_i p k;split at c
  .rename_i j;rw[zE j]at e;exact Hg l _ b (d+1) f (by simp;omega) c e
  .rename_i j;rw[zF j,zF k]at e;exact Hg l _ b d f (by simp;omega) c e
theorem JO : ∀(l:List ci) (st b:List (Int×Int)),(∀o∈l,0<=o.2.2.2.2)->(∀p∈st,0<=p.1/\0<=p.2)->rQ l st=O b->∀p∈b,0<=p.2
 |[],st,b,_,h,c=>by
  injection c with c
  subst c;exact λp hp=>(h p hp).2
 |o::l,[],b,_,_,c=>by cases c
 |o::l,(v,w)::st,b,q,h,c=>by
  have f:=h (v,w) (by simp);have d: ∀p∈st,0<=p.1/\0<=p.2:=λp hp=>h p (by simp[hp])
  have e: ∀k∈l,0<=k.2.2.2.2:=λk j=>q k (by simp[j])
  simp only at f;simp only[rQ]at c;split at c
  .refine JO l _ b e (λp hp=> ?_) c;rcases List.mem_cons.1 hp with rfl|hp
   .exact⟨q o (by simp),dC _⟩
   .exact h p hp
  split at c
  .split at c
   .rename_i n u y s r;have z:=GG f.2 f.1 r;refine JO l _ b e (λp hp=> ?_) c;rcases List.mem_cons.1 hp with rfl|hp
    .have:=d (u,y) (by simp);simp only at this⊢;omega
    .exact d p (by simp[hp])
   .cases c
  .refine JO l _ b e (λp hp=> ?_) c;rcases List.mem_cons.1 hp with rfl|hp
   .simp only;omega
   .exact h p (by simp[hp])
theorem FL {l:List ci}(h:bm l 0=O 0)(v w:Int)(b:List (Int×Int)):rQ l ((v,w)::b)=(Q9 l).map λm=>(v,w+m)::b:=by
 have c:=su v w b l [] 0 0 h;rw[cR,cR,dB]at c;have d:=su ((l.getD 0 (0,0,0,0,0)).2.2.2.2) 0 [] l [] 0 0 h;rw[cR,cR,dB]at d;unfold Q9;rw[c,d];cases f:rQ l [(0,0)]with
 |none=>rfl
 |some st=>
  have e:=Hg l _ st 0 0 rfl h f
  match st,e with
  |[p],_=>
   show O ((v,w+p.2)::b)=O ((v,w+(0+p.2))::b);rw[cN]
theorem IA {l:List ci}(e: ∀o∈l,0<=o.2.2.2.2){m:Int}(h:bm l 0=O 0)(d:Q9 l=O m):0<=m:=by
 have b:=FL h 0 0 [];rw[d]at b;have:=JO l _ _ e (λp c=>by simp at c;subst c;simp) b (0,0+m) (by simp);simp only at this;omega
theorem F8 {l:List ci}(y:l.length<=100000):qa l=O (Zc (bm l 0=O 0)):=by
 unfold qa
 obtain⟨c,r,h⟩:=re (f:=wl l) (a:=((0:Int),(0:Int))) (λs=> ∃i d:Nat,i<=l.length/\d<=i/\s=((i:Int),(d:Int))/\bm (l.drop i) d=bm l 0) (λs=>l.length-s.1.toNat)
  (λc=>(c= .inl Zb/\bm l 0=Y)∨∃d:Nat,c= .inr (d:Int)/\bm l 0=O d) ⟨0,0,cU _,aB _,rfl,rfl⟩ (by simp;omega) (by
  rintro _ ⟨i,d,hi,u,rfl,b⟩;simp only[wl,ag];by_cases c:i<l.length
  .rw[(cT c).symm]at b;rw[Zg,cn c];simp only[zG];generalize l[i]=x at*;simp only[bm]at b;by_cases p:x.1<0
   .rw[zE (.inl p)]at b;rw[zE p];exact .inr ⟨_,rfl, .inl ⟨rfl,b.symm⟩⟩
   rw[zF p];by_cases q:7<x.1
   .rw[zE (.inr q)]at b;rw[zE q];exact .inr ⟨_,rfl, .inl ⟨rfl,b.symm⟩⟩
   rw[Zh]at b;rw[zF q];by_cases o:x.1=0
   .rw[zE o]at b;rw[Zh];simp only[zG];rw[zE o,ad (n:=(d:Int)-1) (by omega),ad (n:=(i:Int)+1) (by omega)];by_cases k:d=0
    .rw[zE k]at b;rw[Zg];exact .inr ⟨_,rfl, .inl ⟨rfl,b.symm⟩⟩
    .rw[zF k]at b;rw[Zh];exact .inl ⟨_,rfl,⟨i+1,d-1,c,by omega,by rw[show((d-1:Nat):Int)=(d:Int)-1 by omega];rfl,b⟩,by simp;omega⟩
   .rw[zF o]at b;by_cases j:x.1=7
    .rw[zE j]at b;rw[zE j];simp only[zG];rw[zF o,ad (n:=(d:Int)+1) (by omega),ad (n:=(i:Int)+1) (by omega),Zh];exact .inl ⟨_,rfl,⟨i+1,d+1,c,by omega,rfl,b⟩,by simp;omega⟩
    .rw[zF j]at b;rw[zF j];simp only[zG];rw[zF o,ad (n:=(i:Int)+1) (by omega),Zh];exact .inl ⟨_,rfl,⟨i+1,d,c,by omega,rfl,b⟩,by simp;omega⟩
  .have:i=l.length:=by omega
   subst this;rw[cX]at b;rw[Zh]
   exact .inr ⟨_,rfl, .inr ⟨d,rfl,b.symm⟩⟩)
 rw[r];rcases h with⟨rfl,h⟩|⟨d,rfl,h⟩
 .rw[h];rfl
 .rw[h];show O (Zc ((d:Int)=0))=O (Zc (O d=O 0))
  congr 1
  rw[decide_eq_decide];constructor
  .intro e;have:d=0:=by omega
   rw[this]
  .intro e;injection e with e;omega
theorem Cs : ∀(n:Nat) (s:List ci) (d:Nat),s.length<=n->bm s (d+1)=O 0->∃inner e rest,s=inner++e::rest/\e.1=0/\bm inner 0=O 0/\bm rest d=O 0
 |n,[],d,_,h=>by
  injection h with h
  omega
 |0,o::s,d,f,_=>by simp at f
 |n+1,o::s,d,f,h=>by
  simp only[cD]at f;simp only[bm]at h;split at h
  .cases h
  rename_i B;split at h
  .rename_i j;rw[Zh]at h;exact⟨[],o,s,rfl,j,rfl,h⟩
  rename_i j;split at h
  .rename_i r;obtain⟨p,b,q,k,u,y,z⟩:=Cs n s (d+1) (by omega) h;have c:q.length<=n:=by rw[k]at f;simp at f;omega
   obtain⟨A,C,I,D,E,F,H⟩:=Cs n q d c z;refine⟨o::p++b::A,C,I, ?_,E, ?_,H⟩
   .rw[k,D];simp
   .show bm (o::(p++b::A)) 0=_;simp only[bm];rw[zF B,zF j,zE r,rf,Hh _ _ _ y];show bm (b::A) 1=_;simp only[bm];rw[Zh,zE u,Zh];exact F
  .rename_i r;obtain⟨p,b,q,k,u,y,z⟩:=Cs n s d (by omega) h;refine⟨o::p,b,q,by rw[k];rfl,u, ?_,z⟩;simp only[bm];rw[zF B,zF j,zF r];exact y
theorem xz {s u E F:List ci}{e1 y:ci}(h:s++e1::E=u++y::F)(z:bm s 0=O 0)(A:bm u 0=O 0)(p:e1.1=0)(r:y.1=0):s=u:=by
 have k: ∀{a b:List ci} {e:ci} {x:List ci},a++e::x=b->e.1=0->bm a 0=O 0->bm b 0=O 0->False:=by
  intro a b e x o D C f;rw[<-o,rf,C]at f;have f:bm (e::x) 0=O 0:=f;simp only[bm]at f;rw[Zh,zE D,zE trivial]at f;cases f
 rcases List.append_eq_append_iff.1 h with⟨j,d,c⟩|⟨j,d,c⟩
 .cases j with
  |nil=>rw[dF]at d;exact d.symm
  |cons q j=>
   rw[cO]at c;injection c with c B
   subst c;exact(k d.symm p z A).elim
 .cases j with
  |nil=>rw[dF]at d;exact d
  |cons q j=>
   rw[cO]at c;injection c with c B
   subst c;exact(k d.symm r A z).elim
theorem Kp {l:List ci}(h:bm l 0=O 0)(hi:i<=l.length): ∃d,bm (l.take i) 0=O d/\bm (l.drop i) d=O 0:=by
 rw[<-dO i l,rf]at h;obtain⟨d,b,c⟩:=ah h;exact⟨d,b,c⟩
theorem PY {l:List ci}(h:bm l 0=O 0)(hi:i<l.length)(k:l[i].1=7): ∃inner e rest,l.drop (i+1)=inner++e::rest/\e.1=0/\bm inner 0=O 0:=by
 obtain⟨d,_,b⟩:=Kp h (i:=i) (by omega);rw[(cT hi).symm]at b;simp only[bm]at b;rw[Zh,Zh,zE k]at b;obtain⟨inner,e,rest,c,f,j,_⟩:=Cs _ _ d (aB _) b;exact⟨inner,e,rest,c,f,j⟩
structure MOK (l:List ci)(m:Zd):Prop where
 len:m.length=l.length
 at': ∀i,(hi:i<l.length)->l[i].1=7->∀inner e rest,l.drop (i+1)=inner++e::rest->e.1=0->bm inner 0=O 0->m[i]?=O ((i+1+inner.length:Nat):Int)
theorem ao5 {l:List ci}(L:l.length<=100000)(hi:i<l.length){inner rest:List ci}{e:ci}(h:l.drop (i+1)=inner++e::rest)(H:e.1=0)(E:bm inner 0=O 0):aq (mr l) cx (1,(i:Int))=O ((i+1+inner.length:Nat):Int):=by
 have D:l.length=i+1+inner.length+1+rest.length:=by
  have:=congrArg cZ h;rw[dK]at this;simp at this;omega
 have r: ∀j,j<inner.length+1->∃x,rd l ((i+1+j:Nat):Int)=O x/\(inner++e::rest)[j]?=O x:=by
  intro j q;have s:i+1+j<l.length:=by omega
  refine⟨l[i+1+j],cn s, ?_⟩;rw[<-h,dJ,aD s]
 have u: ∀j,j<=inner.length->∃d,bm (inner.take j) 0=O d:=by
  intro j q;obtain⟨d,b,_⟩:=Kp E q;exact⟨d,b⟩
 let c:Nat->Nat:=λj=>(bm (inner.take j) 0).getD 0
 have o: ∀j,j<=inner.length->bm (inner.take j) 0=O (c j):=by
  intro j q;obtain⟨d,F⟩:=u j q;show _=O ((bm (inner.take j) 0).getD 0);rw[F];rfl
 have A: ∀j,c j<=j∨inner.length<j:=by
  intro j;induction j with
  |zero=>exact .inl (aB _)
  |succ j M=>
   by_cases q:j+1<=inner.length
   .left;have b:=o (j+1) q;rw[eE (show j<inner.length by omega),rf,o j (by omega)]at b;have b:bm [inner[j]] (c j)=O (c (j+1)):=b;simp only[bm]at b;split at b
    .cases b
    split at b
    .split at b
     .cases b
     .injection b with b;omega
    split at b
    .injection b with b;omega
    .injection b with b;omega
   .right;omega
 refine F1 (f:=mr l) (n:=inner.length+1) (λj=>if j<=inner.length then((1+c j:Nat),((i+j:Nat):Int))else(0,((i+1+inner.length:Nat):Int))) (by omega) (λj q=> ?_) ?_
 .have K:=A j;rw[zE (show j<=inner.length by omega)];obtain⟨x,B,k⟩:=r j (by omega);simp only[mr,ag];rw[Zg,ad (n:=((i+j:Nat):Int)+1) (by omega),show((i+j:Nat):Int)+1=((i+1+j:Nat):Int)by omega,B];simp only[zG];by_cases p:j<inner.length
  .rw[List.getElem?_append_left p,aD p]at k;injection k with k
   have b:=o (j+1) p;rw[eE p,rf,o j (by omega)]at b;have b:bm [inner[j]] (c j)=O (c (j+1)):=b;rw[k]at b;simp only[bm]at b;rw[zE (show j+1<=inner.length by omega)];split at b
   .cases b
   split at b
   .rename_i J y;split at b
    .cases b
    .injection b with b
     rw[Zh,zE y,Zi]
     congr 3<;>omega
   rename_i J y;split at b
   .rename_i C;injection b with b
    rw[zE C,zF y,Zi]
    congr 3<;>omega
   .rename_i C;injection b with b
    rw[zF C,zF y]
    congr 3<;>omega
  .have z:j=inner.length:=by omega
   subst z;rw[cL (aB _),bD]at k;injection k with k
   subst k
   have I:c inner.length=0:=by
    have:=o inner.length (aB _);rw[List.take_length,E]at this;injection this with this
    exact this.symm
   rw[Zh,zE H,zF (show¬inner.length+1<=inner.length by omega),I,Zi];rfl
 .rw[Zh];simp only[mr,ag];rw[Zh]
theorem QY {l:List ci}(J:l.length<=100000):(bm l 0=O 0/\∃m,qO l=O (0,m)/\MOK l m)∨(bm l 0≠O 0/\qO l=O (6,[])):=by
 unfold qO;rw[F8 J];simp only[zG];by_cases z:bm l 0=O 0
 .left;refine⟨z, ?_⟩;rw[zB z];simp only[dA,zD]
  have V:aq (mq l) cx (0,[])=O (bB l.length (-1)):=by
   have h:=fP (f:=mq l) (n:=l.length) (λi=>bB i (-1:Int)) (c:=bB l.length (-1)) (by omega) ?_ ?_
   .exact h
   .intro i hi;simp only[mq,ag];rw[Zg,bt (by simp;omega) (by omega),Zi,eQ];rfl
   .simp only[mq,ag];rw[Zh]
  rw[V];simp only[zG]
  obtain⟨c,W,h⟩:=re (f:=ux l) (a:=((0:Int),bB l.length (-1:Int))) (λs=> ∃(i:Nat) (out:Zd),i<=l.length/\s=((i:Int),out)/\out.length=l.length/\∀j,j<i->(y:j<l.length)->l[j].1=7->∀b e o,l.drop (j+1)=b++e::o->e.1=0->bm b 0=O 0->out[j]?=O ((j+1+b.length:Nat):Int)) (λs=>l.length-s.1.toNat)
   (λc=>MOK l c) ⟨0,_,cU _,rfl,by simp,λj y=>by omega⟩ (by simp;omega) (by
   rintro _ ⟨i,out,hi,rfl,H,k⟩;simp only[ux,ag];by_cases c:i<l.length
   .rw[Zg,cn c];simp only[zG];by_cases C:l[i].1=7
    .obtain⟨b,e,o,A,D,I⟩:=PY z c C
     have K:l.length=i+1+b.length+1+o.length:=by
      have:=congrArg cZ A;rw[dK]at this;simp at this;omega
     rw[zF (by simp[C]),ao5 J c A D I];simp only[zG];rw[bp (show i<out.length by omega)];simp only[zG];rw[aD (show i<out.length by omega)];simp only[zG];rw[bp (show i+1+b.length<(out.set i ((i+1+b.length:Nat):Int)).length by simp;omega)];simp only[zG];rw[aD (show i+1+b.length<(out.set i ((i+1+b.length:Nat):Int)).length by simp;omega)];simp only[zG];rw[ad (n:=(i:Int)+1) (by omega)];refine .inl ⟨_,rfl,⟨i+1,_,c,rfl,by simp[H],λj y r d q Q u L M N=> ?_⟩,by simp;omega⟩
     have E:l[i+1+b.length].1=0:=by
      have B:(l.drop (i+1))[b.length]?=O e:=by
       rw[A,cL (aB _),bD];rfl
      rw[dJ,aD (show i+1+b.length<l.length by omega)]at B;injection B with B
      rw[B];exact D
     have F:i+1+b.length≠j:=by
      intro T;subst T;rw[E]at d;cases d
     rw[cB F];by_cases p:i=j
     .subst p;have:=xz (A.symm.trans L) I N D M;subst this;rw[cY (by omega)]
     .rw[cB p];exact k j (by omega) r d q Q u L M N
    .rw[zE C,ad (n:=(i:Int)+1) (by omega)];refine .inl ⟨_,rfl,⟨i+1,out,c,rfl,H,λj y r d=> ?_⟩,by simp;omega⟩;by_cases p:j=i
     .subst p;exact(C d).elim
     .exact k j (by omega) r d
   .have:i=l.length:=by omega
    subst this;rw[Zh]
    exact .inr ⟨_,rfl,H,λj y d=>k j y y d⟩)
  rw[W];exact⟨c,rfl,h⟩
 .right;refine⟨z, ?_⟩;rw[zA z];rfl
theorem Ug {α β:Type}{f:α->β}(c: ∀a b,f a=f b->a=b){x y:Option α}(h:x.map f=y.map f):x=y:=by
 cases x with
 |none=>cases y with
  |none=>rfl
  |some b=>cases h
 |some a=>cases y with
  |none=>cases h
  |some b=>
   injection h with h
   rw[c _ _ h]
theorem QM (v c:Int)(d:List (Int×Int)): ∀a b:Int,(v,c+a)::d=(v,c+b)::d->a=b:=by
 intro a b h;injection h with h
 injection h with _ h
 omega
theorem MH {o:ci}{s:List ci}(h:bm (o::s) 0=O 0)(d:o.1≠7):bm s 0=O 0/\(0<o.1/\o.1<7)/\Q9 (o::s)=(Q9 s).map (1+ ·):=by
 have c:=FL h 0 0 [];simp only[bm]at h;split at h
 .cases h
 rename_i e;split at h
 .rw[zE trivial]at h;cases h
 rename_i b;refine⟨h,by omega,Ug (QM 0 0 []) ?_⟩;rw[<-c];simp only[rQ];rw[zF d,zF b,FL h];cases Q9 s with
 |none=>rfl
 |some m=>
  show O [((0:Int),0+1+m)]=O [((0:Int),0+(1+m))];rw[cQ]
theorem NM {o e:ci}{inner rest:List ci}(h:bm (o::(inner++e::rest)) 0=O 0)(d:o.1=7)(c:e.1=0)(hi:bm inner 0=O 0):
  bm rest 0=O 0/\Q9 (o::(inner++e::rest))=(Q9 inner).bind λw=>(zj w o.2.2.2.2).bind λb=>(Q9 rest).map (b+ ·):=by
 have f:=FL h 0 0 [];simp only[bm]at h;rw[Zh,Zh,zE d,rf,Hh _ _ _ hi]at h;have h:bm (e::rest) 1=O 0:=h;simp only[bm]at h;rw[Zh,zE c,Zh]at h;have h:bm rest 0=O 0:=h;refine⟨h,Ug (QM 0 0 []) ?_⟩;rw[<-f];simp only[rQ];rw[zE d,Bg,FL hi];cases Q9 inner with
 |none=>rfl
 |some w=>
  show rQ (e::rest) [(o.2.2.2.2,0+w),(0,0)]=_;simp only[rQ];rw[Zh,zE c,cN];simp only[zG];cases zj w o.2.2.2.2 with
  |none=>rfl
  |some b=>
   simp only[zG];rw[FL h];cases Q9 rest with
   |none=>rfl
   |some m=>
    show O [((0:Int),0+b+m)]=O [((0:Int),0+(b+m))];rw[cQ]
theorem SS {k:Int}(h:0<k/\k<7): ∃x,jO k=O (Za,x):=by
 have:k=1∨k=2∨k=3∨k=4∨k=5∨k=6:=by omega
 rcases this with rfl|rfl|rfl|rfl|rfl|rfl<;>exact⟨_,rfl⟩
def Ig (t:Int):Int:=if 65536<t then 65537 else t
def Vk (w v:Int):Int:=if Ig w=0 then 0 else if v=0 then 0 else if 65536<v then 65537 else if 65536<Ig w*v then 65537 else Ig w*v
theorem KB {b:Int}(o:0<=w)(u:0<=v)(h:zj w v=O b):Vk w v=b/\w<=65536:=by
 unfold zj at h;unfold Vk;split at h
 .rename_i c;injection h with h
  subst h;subst c;exact⟨by rw[zE (show Ig 0=0 from rfl)],by omega⟩
 split at h
 .cases h
 split at h
 .cases h
 rename_i c e p;injection h with h
 have j:Ig w=w:=zF e;rw[j,zF c];have s:65536 / w<=65536:=dT _ (by omega);have f:v<=65536 / w:=by omega
 have q:=dE f o;have r:=dV (x:=65536) (k:=w) c;refine⟨?_,by omega⟩;by_cases d:v=0
 .rw[zE d,<-h,d,Int.mul_zero]
 .rw[zF d,Zh,Zh,h]
theorem Xi (k:0<=w)(p:0<=v)(h:zj w v=Y):65536<w∨Vk w v=65537:=by
 unfold zj at h;split at h
 .cases h
 rename_i e;split at h
 .rename_i c;exact .inl c
 rename_i c;split at h
 .rename_i f;right;unfold Vk;have j:Ig w=w:=zF c;have b:=Int.lt_mul_of_ediv_lt (show 0<w by omega) f;rw[dD]at b;have o:0<=65536 / w:=dU (by omega) k;rw[j,zF e,Zh];by_cases d:65536<v
  .rw[zE d]
  .rw[zF d,zE b]
 .cases h
def WOK (l:List ci)(m:Zd)(N:Nat):Prop:= ∀f,2*N<f->∀A seg B,l=A++seg++B->seg.length<N->bm seg 0=O 0->
 ∃r,(bx f).1 l m (A.length:Int) ((A.length+seg.length:Nat):Int)=O r/\0<=r/\r<=65537/\∀t,Q9 seg=O t->r=Ig t
section
variable {l:List ci} {m:Zd}
theorem PZ (X:l.length<=2000)(J: ∀o∈l,0<=o.2.2.2.2/\o.2.2.2.2<=18446744073709551615)(A:MOK l m){N:Nat}(h:WOK l m N){f:Nat}(W:2*N+1<f)(hi:i<l.length)(I:l[i].1=7){inner rest:List ci}{e:ci}(p:l.drop (i+1)=inner++e::rest)(H:e.1=0)(B:bm inner 0=O 0)(F:inner.length<N):
  ∃r,(bx f).2 l m (i:Int)=O r/\0<=r/\r<=65537/\∀w,Q9 inner=O w->r=Vk w l[i].2.2.2.2:=by
 obtain⟨g,rfl⟩: ∃g,f=g+1:=⟨f-1,by omega⟩
 have z:l.length=i+1+inner.length+1+rest.length:=by
  have:=congrArg cZ p;rw[dK]at this;simp at this;omega
 have q:=A.at' i hi I inner e rest p H B
 have b:l=l.take (i+1)++inner++e::rest:=by
  rw[cK,<-p,dO]
 have E:(l.take (i+1)).length=i+1:=by rw[eA];omega
 obtain⟨d,u,y,C,D⟩:=h g (by omega) (l.take (i+1)) inner (e::rest) b F B;rw[E]at u
 have s:rd m (i:Int)=O ((i+1+inner.length:Nat):Int):=by
  have j:i<m.length:=by rw[A.len];exact hi
  rw[cn j,<-q,aD j]
 have c:=J _ (cP hi);show∃r,zT ((bx g).1) ((bx g).2) l m i=O r/\_
 unfold zT;rw[s];simp only[zG];rw[ad (n:=(i:Int)+1) (by omega),show(i:Int)+1=((i+1:Nat):Int)by omega,u];simp only[zG,ag];rw[cn hi];simp only[zG];generalize l[i].2.2.2.2=v at*
 have k:(if d=0 then O 0 else if v=0 then O 0 else if 65536<v then O 65537 else if 65536<IntKind.i64.wrap (d*zH zI v)then O 65537 else O (zH zI (d*zH zI v)))=
   O (if d=0 then 0 else if v=0 then 0 else if 65536<v then 65537 else if 65536<d*v then 65537 else d*v):=by
  split
  .rfl
  split
  .rfl
  split
  .rfl
  rename_i L M Q;have T:=Int.mul_le_mul C (show v<=65536 by omega) c.1 (by omega);have V:=cW y c.1;rw[ad (n:=v) (by omega),Zi];split<;>rfl
 rw[k];refine⟨_,rfl, ?_, ?_,λw K=> ?_⟩
 .split
  .omega
  split
  .omega
  split
  .omega
  split
  .omega
  .exact cW y c.1
 .split
  .omega
  split
  .omega
  split
  .omega
  split<;>omega
 .rw[D w K];rfl
theorem EC (hl:l.length<=2000)(E: ∀o∈l,0<=o.2.2.2.2/\o.2.2.2.2<=18446744073709551615)(W:MOK l m){N:Nat}(h:WOK l m N){g:Nat}(hg:2*N+1<g)(hi:Nat): ∀(k:Nat) (pre seg B:List ci) (n:Int) (F:Nat),l=pre++seg++B->seg.length<=k->seg.length<=N->seg.length<F->bm seg 0=O 0->hi=pre.length+seg.length->0<=n/\n<=65536->
  ∃c,aq (oU ((bx g).2) l m hi) F ((pre.length:Int),n)=O c/\(c= .inl ()∨∃r,c= .inr r/\0<=r/\r<=65536)/\∀t,Q9 seg=O t->c=if 65536<n+t then .inl ()else .inr (n+t)
 |k,pre,[],B,n,0,_,_,_,z,_,_,_=>by simp at z
 |k,pre,[],B,n,F+1,d,_,_,_,L,hh,hn=>by
  refine⟨.inr n, ?_, .inr ⟨n,rfl,hn⟩,λt j=> ?_⟩
  .rw[bj];simp only[oU,ag];rw[zF (by simp at hh;omega)];rfl
  .injection j with j
   subst j;rw[dB,Zh]
 |0,pre,o::seg,B,n,F,_,hk,_,_,_,_,_=>by simp at hk
 |k+1,pre,o::seg,B,n,0,_,_,_,z,_,_,_=>by simp at z
 |k+1,pre,o::seg,B,n,F+1,d,hk,hN,z,L,hh,hn=>by
  simp only[cD]at hk hN z hh;have V:l.length=pre.length+(seg.length+1)+B.length:=by rw[d];simp;omega
  have A:pre.length<l.length:=by omega
  have s:l[pre.length]=o:=by
   have:l[pre.length]?=O o:=by
    rw[d,cK,cL (aB _),bD];rfl
   rw[aD A]at this;injection this
  have X:0<=o.2.2.2.2/\o.2.2.2.2<=18446744073709551615:=by rw[<-s];exact E _ (cP A)
  rw[bj];simp only[oU,ag];rw[Zg,cn A,s];simp only[zG];by_cases u:o.1=7
  .
   rw[zE u]
   have hs1:bm seg 1=O 0:=by
    simp only[bm]at L;rw[Zh,Zh,zE u]at L;exact L
   obtain⟨f,e,q,h1,h2,Q,h4⟩:=Cs _ seg 0 (aB _) hs1;subst h1;simp only[cM,cD]at hk hN z hh V
   have hd:l.drop (pre.length+1)=f++e::(q++B):=by
    rw[d,cK,dG,dH (by omega),show pre.length+1-pre.length=1 by omega];simp
   obtain⟨r9,b1,b2,b3,b4⟩:=PZ hl E W h hg A (by rw[s];exact u) hd h2 Q (by omega);rw[s]at b4;rw[b1];simp only[zG];have hmi:=W.at' pre.length A (by rw[s];exact u) f e (q++B) hd h2 Q
   have hrd:rd m (pre.length:Int)=O ((pre.length+1+f.length:Nat):Int):=by
    have D:pre.length<m.length:=by rw[W.len];exact A
    rw[cn D,<-hmi,aD D]
   rw[hrd];simp only[zG];rw[ad (n:=n+r9) (by omega),ad (n:=((pre.length+1+f.length:Nat):Int)+1) (by omega)];obtain⟨C,T⟩:=NM L u h2 Q;by_cases K:65536<n+r9
   .rw[zE K];refine⟨.inl (),rfl, .inl rfl,λt j=> ?_⟩;rw[T]at j;obtain⟨w,hw,j⟩:=ah j;obtain⟨b,hb,j⟩:=ah j;have H:=IA (l:=f) (λI y=>(E I (by rw[d];simp[y])).1) Q hw;obtain⟨e1,_⟩:=KB H X.1 hb;rw[b4 w hw,e1]at K;cases p:Q9 q with
    |none=>rw[p]at j;cases j
    |some J=>
     rw[p]at j;injection j with j
     have j:b+J=t:=j;have:=IA (l:=q) (λI y=>(E I (by rw[d];simp[y])).1) C p;rw[Zg]
   .rw[zF K];simp only[zG,bc];have hp:(pre++o::(f++[e])).length=pre.length+1+f.length+1:=by simp;omega
    obtain⟨c,M,d2,d3⟩:=EC hl E W h hg hi k (pre++o::(f++[e])) q B (n+r9) F (by rw[d];simp) (by omega) (by omega) (by omega) C (by rw[hp];omega) (by omega);rw[hp]at M;refine⟨c,by rw[show((pre.length+1+f.length:Nat):Int)+1=((pre.length+1+f.length+1:Nat):Int)by omega];exact M,d2,λt j=> ?_⟩;rw[T]at j;obtain⟨w,hw,j⟩:=ah j;obtain⟨b,hb,j⟩:=ah j;have H:=IA (l:=f) (λI y=>(E I (by rw[d];simp[y])).1) Q hw;obtain⟨e1,_⟩:=KB H X.1 hb;have hr9:r9=b:=by rw[b4 w hw,e1]
    cases p:Q9 q with
    |none=>rw[p]at j;cases j
    |some J=>
     rw[p]at j;injection j with j
     have:=d3 J p;rw[this,<-j,hr9,cQ]
  .rw[zF u];obtain⟨C,hko,T⟩:=MH L u;obtain⟨x,hx⟩:=SS hko;rw[hx];simp only[zG,zC];rw[ad (n:=n+1) (by omega),ad (n:=(pre.length:Int)+1) (by omega)];by_cases K:65536<n+1
   .rw[zE K];refine⟨.inl (),rfl, .inl rfl,λt j=> ?_⟩;rw[T]at j;cases p:Q9 seg with
    |none=>rw[p]at j;cases j
    |some J=>
     rw[p]at j;injection j with j
     have j:1+J=t:=j;have:=IA (l:=seg) (λI y=>(E I (by rw[d];simp[y])).1) C p;rw[Zg]
   .rw[zF K];simp only[zG,bc];have hp:(pre++[o]).length=pre.length+1:=by simp
    obtain⟨c,M,d2,d3⟩:=EC hl E W h hg hi k (pre++[o]) seg B (n+1) F (by rw[d];simp) (by omega) (by omega) (by omega) C (by rw[hp];omega) (by omega);rw[hp]at M;refine⟨c,M,d2,λt j=> ?_⟩;rw[T]at j;cases p:Q9 seg with
    |none=>rw[p]at j;cases j
    |some J=>
     rw[p]at j;injection j with j
     rw[d3 J p,<-j,cQ]
theorem wok (j:l.length<=2000)(p: ∀o∈l,0<=o.2.2.2.2/\o.2.2.2.2<=18446744073709551615)(k:MOK l m): ∀N,WOK l m N
 |0=>λ_ _ _ _ _ _ h=>absurd h (Nat.not_lt_zero _)
 |N+1=>λf E A seg B b D y=>by
  obtain⟨g,rfl⟩: ∃g,f=g+1:=⟨f-1,by omega⟩
  show∃r,xQ ((bx g).1) ((bx g).2) l m _ _=O r/\_
  unfold xQ
  have z:seg.length<=2000:=by
   have:=congrArg cZ b;simp at this;omega
  obtain⟨c,q,s,e⟩:=EC j p k (wok j p k N) (g:=g) (by omega) (A.length+seg.length) _ A seg B 0 cx b (aB _) (by omega) (by unfold cx;omega) y rfl (by omega);rw[q];simp only[zG];rcases s with rfl|⟨r,rfl,u,C⟩
  .refine⟨65537,rfl,by omega,by omega,λt d=> ?_⟩;have:=e t d;rw[cN]at this;unfold Ig;split at this
   .rename_i c;rw[zE c]
   .cases this
  .refine⟨r,rfl,u,by omega,λt d=> ?_⟩;have:=e t d;rw[cN]at this;unfold Ig;split at this
   .cases this
   .rename_i c;injection this with this
    rw[zF c,this]
end
theorem Qu {δ:Type}{f:Int->Option (Int⊕δ)}(n:Nat)(z:n<9223372036854775808)(b:Nat->Prop)(c e:δ)
  (s: ∀i:Nat,i<n->¬b i->f (i:Int)=O (.inl ((i+1:Nat):Int))) (A: ∀i:Nat,i<n->b i->f (i:Int)=O (.inr c)) (y:f (n:Int)=O (.inr e)):
  (∃i,i<n/\b i/\(∀j,j<i->¬b j)/\aq f cx 0=O c)∨((∀j,j<n->¬b j)/\aq f cx 0=O e):=by
 by_cases h: ∃i,i<n/\b i
 .obtain⟨i,k,o⟩:=h
  have q: ∃i,i<n/\b i/\∀j,j<i->¬b j:=by
   induction i using Nat.strongRecOn with
   |ind i B=>
    by_cases d: ∃j,j<i/\b j
    .obtain⟨j,p,u⟩:=d;exact B j p (by omega) u
    .exact⟨i,k,o,λj h p=>d ⟨j,h,p⟩⟩
  obtain⟨i,k,o,p⟩:=q;exact .inl ⟨i,k,o,p,sq (n:=i) (by omega) (λj d=>s j (by omega) (p j d)) (A i k o)⟩
 .have r: ∀j,j<n->¬b j:=λj k o=>h ⟨j,k,o⟩
  exact .inr ⟨r,sq (n:=n) z (λj d=>s j d (r j d)) y⟩
theorem ah4 {seg pre inner rest:List ci}{o e:ci}{t:Int}(f:Q9 seg=O t)(s:seg=pre++o::(inner++e::rest))(r:o.1=7)(q:e.1=0)(hi:bm inner 0=O 0):
  ∃w b,Q9 inner=O w/\zj w o.2.2.2.2=O b:=by
 unfold Q9 at f;rw[s,Bg]at f;obtain⟨st,k,u⟩:=ah f;obtain⟨d,y,c⟩:=ah k;cases d with
 |nil=>simp[rQ]at c
 |cons p d=>
  simp only[rQ]at c;rw[zE r,Bg,FL hi]at c;cases j:Q9 inner with
  |none=>rw[j]at c;cases c
  |some w=>
   rw[j]at c;have c:rQ (e::rest) ((o.2.2.2.2,0+w)::(p.1,p.2)::d)=O st:=c;simp only[rQ]at c;rw[Zh,zE q,cN]at c;cases h:zj w o.2.2.2.2 with
   |none=>rw[h]at c;cases c
   |some b=>exact⟨w,b,rfl,h⟩
theorem Ou : ∀(n:Nat) (seg:List ci),seg.length<=n->bm seg 0=O 0->Q9 seg=Y->∃pre o inner e rest w,seg=pre++o::(inner++e::rest)/\o.1=7/\e.1=0/\bm inner 0=O 0/\Q9 inner=O w/\zj w o.2.2.2.2=Y
 |n,[],_,_,c=>by cases c
 |0,o::s,h,_,_=>by simp at h
 |n+1,o::s,I,k,c=>by
  simp only[cD]at I;by_cases z:o.1=7
  .have C:bm s 1=O 0:=by
    simp only[bm]at k;rw[Zh,Zh,zE z]at k;exact k
   obtain⟨inner,e,rest,J,F,A,K⟩:=Cs _ s 0 (aB _) C;subst J;simp only[cM,cD]at I;obtain⟨d,B⟩:=NM k z F A;rw[B]at c;cases D:Q9 inner with
   |none=>
    obtain⟨pre,q,p,f,y,w,r,u⟩:=Ou n inner (by omega) A D;exact⟨o::pre,q,p,f,y++e::rest,w,by rw[r];simp,u⟩
   |some w=>
    rw[D]at c;simp only[zG]at c;cases H:zj w o.2.2.2.2 with
    |none=>exact⟨[],o,inner,e,rest,w,rfl,z,F,A,D,H⟩
    |some b=>
     rw[H]at c;simp only[zG]at c;cases j:Q9 rest with
     |some t=>rw[j]at c;cases c
     |none=>
      obtain⟨pre,q,p,f,y,E,r,u⟩:=Ou n rest (by omega) d j;exact⟨o::(inner++e::pre),q,p,f,y,E,by rw[r];simp,u⟩
  .obtain⟨d,_,B⟩:=MH k z;rw[B]at c;cases j:Q9 s with
   |some t=>rw[j]at c;cases c
   |none=>
    obtain⟨pre,q,p,f,y,E,r,u⟩:=Ou n s (by omega) d j;exact⟨o::pre,q,p,f,y,E,by rw[r];rfl,u⟩
section
variable {l:List ci} {m:Zd}
theorem FT (I:l.length<=1500)(q: ∀o∈l,0<=o.2.2.2.2/\o.2.2.2.2<=18446744073709551615)(j:MOK l m)(D:bm l 0=O 0)(hi:i<l.length)(p:l[i].1=7):
  ∃inner e rest b w r,l.drop (i+1)=inner++e::rest/\e.1=0/\bm inner 0=O 0/\m[i]?=O r/\r=((i+1+inner.length:Nat):Int)/\uZ l m (i:Int)=O b/\mv l m ((i+1:Nat):Int) r=O w/\0<=b/\0<=w/\
   ∀t,Q9 inner=O t->b=Vk t l[i].2.2.2.2/\w=Ig t:=by
 obtain⟨inner,e,rest,h,k,c⟩:=PY D hi p
 have s:l.length=i+1+inner.length+1+rest.length:=by
  have:=congrArg cZ h;rw[dK]at this;simp at this;omega
 have d:l=l.take (i+1)++inner++e::rest:=by
  rw[cK,<-h,dO]
 have C:(l.take (i+1)).length=i+1:=by rw[eA];omega
 obtain⟨b,z,A,H,B⟩:=PZ (by omega) q j (wok (by omega) q j 1501) (f:=4000) (by omega) hi p h k c (by omega);obtain⟨w,y,E,J,F⟩:=wok (by omega) q j 1501 4000 (by omega) (l.take (i+1)) inner (e::rest) d (by omega) c;rw[C]at y;exact⟨inner,e,rest,b,w,_,h,k,c,j.at' i hi p inner e rest h k c,rfl,z,y,A,E,λt u=>⟨B t u,F t u⟩⟩
theorem SW (W:l.length<=1500)(y: ∀o∈l,0<=o.2.2.2.2/\o.2.2.2.2<=18446744073709551615)(F:MOK l m)(M:bm l 0=O 0):
  aq (jk l (0,m)) cx 0=O (match Q9 l with|some _=> .inr ()|none=> .inl ()):=by
 have H:=Qu (f:=jk l (0,m)) l.length (by omega)
  (λi=> ∃hi:i<l.length,l[i].1=7/\∃b w A,m[i]?=O A/\uZ l m (i:Int)=O b/\mv l m ((i+1:Nat):Int) A=O w/\(65536<b∨65536<w)) (.inl ()) (.inr ())
  (λi hi hn=>by
   unfold jk;simp only[ag];rw[Zg,cn hi];simp only[zG];by_cases k:l[i].1=7
   .obtain⟨c,e,j,b,w,A,L,q2,q3,r,q5,u,D,q8⟩:=FT W y F M hi k;rw[zE k,u];simp only[zG];rw[zF (λh=>hn ⟨hi,k,b,w,A,r,u,D, .inl h⟩),bp (show i<m.length by rw[F.len];exact hi)];simp only[zG];rw[r];simp only[zG];rw[ad (n:=(i:Int)+1) (by omega),show(i:Int)+1=((i+1:Nat):Int)by omega,D];simp only[zG];rw[zF (λh=>hn ⟨hi,k,b,w,A,r,u,D, .inr h⟩)]
   .rw[zF k,ad (n:=(i:Int)+1) (by omega)]
    rfl)
  (λi _ hst=>by
   obtain⟨hi,k,b,w,A,r,u,D,q8⟩:=hst;unfold jk;simp only[ag];rw[Zg,cn hi];simp only[zG];rw[zE k,u];simp only[zG];by_cases hb:65536<b
   .rw[zE hb]
   .rw[zF hb,bp (show i<m.length by rw[F.len];exact hi)];simp only[zG];rw[r];simp only[zG];rw[ad (n:=(i:Int)+1) (by omega),show(i:Int)+1=((i+1:Nat):Int)by omega,D];simp only[zG]
    rw[Zg])
  (by
   unfold jk;simp only[ag]
   rw[Zh])
 cases hq:Q9 l with
 |some t=>
  rcases H with⟨i,h1,⟨hi,k,b,w,A,r,u,D,q8⟩,_⟩|⟨_,h⟩
  .exfalso;obtain⟨c,e,j,b',w',I,p1,p2,Q,E,p5,J,K,p8,p9,C⟩:=FT W y F M hi k
   have d:l=l.take i++l[i]::(c++e::j):=by
    rw[<-p1,cT hi,dO]
   obtain⟨w0,b0,g1,g2⟩:=ah4 hq d k p2 Q;obtain⟨T,V⟩:=C w0 g1;have q: ∀B∈c,0<=B.2.2.2.2:=λB z=>(y B (by rw[d];simp[z])).1
   have s:=IA q Q g1;obtain⟨x1,x2⟩:=KB s (y _ (cP hi)).1 g2;obtain⟨x3,x4⟩:=GG s (y _ (cP hi)).1 g2;rw[r]at E;injection E with E
   rw[u]at J;injection J with J
   rw[<-E,D]at K;injection K with K
   have hs9:Ig w0=w0:=zF (by omega);rw[hs9]at V;omega
  .exact h
 |none=>
  rcases H with⟨_,_,_,_,h⟩|⟨h,_⟩
  .exact h
  .exfalso;obtain⟨pre,o,c,e,j,w,L,q2,q3,r,q5,u⟩:=Ou _ l (aB _) M hq;have hi:pre.length<l.length:=by rw[L];simp
   have p:l[pre.length]=o:=by
    have:l[pre.length]?=O o:=by
     rw[L,cL (aB _),bD];rfl
    rw[aD hi]at this;injection this
   have k:l[pre.length].1=7:=by rw[p];exact q2
   have hd:l.drop (pre.length+1)=c++e::j:=by
    rw[L,dG,dH (by omega),show pre.length+1-pre.length=1 by omega];simp
   obtain⟨N,e',rest',b',w',I,p1,p2,Q,E,p5,J,K,p8,p9,C⟩:=FT W y F M hi k;have:=xz (hd.symm.trans p1) r Q q3 p2;subst this;obtain⟨T,V⟩:=C w q5;have q: ∀B∈c,0<=B.2.2.2.2:=λB z=>(y B (by rw[L];simp[z])).1
   have s:=IA q r q5;rw[p]at T;have X:0<=o.2.2.2.2:=by rw[<-p];exact(y _ (cP hi)).1
   refine h _ hi ⟨hi,k,b',w',I,E,J,K, ?_⟩;rcases Xi s X u with x|x
   .right;rw[V];unfold Ig;rw[zE x];omega
   .left;rw[T,x];omega
theorem Co (p:l.length<=1500)(h: ∀o∈l,0<=o.2.2.2.2/\o.2.2.2.2<=18446744073709551615):mt l=O (da l):=by
 unfold mt da;rcases QY (l:=l) (by omega)with⟨b,m,f,d⟩|⟨b,f⟩
 .rw[f,zE b];simp only[zG];rw[zA (by simp),zD,SW p h d b];cases k:Q9 l with
  |none=>rfl
  |some t=>
   have s:=IA (λo q=>(h o q).1) b k;simp only[zG,bc];obtain⟨w,j,u,y,r⟩:=wok (by omega) h d 1501 4000 (by omega) [] l [] (by simp) (by omega) b
   have j:mv l m 0 (l.length:Int)=O w:=by
    rw[<-j];show _=(bx 4000).1 l m 0 ((0+l.length:Nat):Int);rw[cS];rfl
   rw[j];simp only[zG,ag];have e:=r t k;unfold Ig at e;by_cases c:65536<t
   .rw[zE c]at e;rw[zE c,Zg]
   .rw[zF c]at e;rw[zF c,Zh,e]
 .rw[f,zF b];rfl
end
theorem xE {α δ:Type}{f:Int->Option (Int⊕δ)}{l:List α}(p:α->Bool)(c:Nat->δ)(e:δ)(C:l.length<1000000)
  (q: ∀i,(hi:i<l.length)->f (i:Int)=O (if p l[i]then .inr (c i)else .inl ((i+1:Nat):Int))) (y:f (l.length:Int)=O (.inr e)):
  (l.any p=Za/\∃i:Nat,aq f cx 0=O (c i))∨(l.any p=Zb/\aq f cx 0=O e):=by
 by_cases h: ∃i,∃hi:i<l.length,p l[i]=Za
 .left
  have o: ∃i,(∃hi:i<l.length,p l[i]=Za)/\∀j,j<i->¬∃b:j<l.length,p l[j]=Za:=by
   obtain⟨i,hi⟩:=h;induction i using Nat.strongRecOn with
   |ind i B=>
    by_cases b: ∃j,j<i/\∃b:j<l.length,p l[j]=Za
    .obtain⟨j,k,u⟩:=b;exact B j k u
    .exact⟨i,hi,λj h k=>b ⟨j,h,k⟩⟩
  obtain⟨i,⟨hi,r⟩,s⟩:=o;refine⟨List.any_eq_true.2 ⟨l[i],cP hi,r⟩,i,sq (n:=i) (by omega) (λj b=> ?_) ?_⟩
  .rw[q j (by omega),zF (λd=>s j b ⟨by omega,d⟩)]
  .rw[q i hi,zE r]
 .right;refine⟨?_,sq (n:=l.length) (by omega) (λj b=> ?_) y⟩
  .rw[Bool.eq_false_iff];intro z;obtain⟨x,A,d⟩:=List.any_eq_true.1 z;obtain⟨i,hi,rfl⟩:=List.getElem_of_mem A;exact h ⟨i,hi,d⟩
  .rw[q j b,zF (λd=>h ⟨j,b,d⟩)]
def bl (k:Int):Bool×Bool×Bool×Bool:=if k=1∨k=2∨k=3 then(Za,Za,Za,Zb)else if k=4∨k=6 then(Za,Za,Zb,Zb)else if k=5 then(Za,Zb,Zb,Za)else if k=7 then(Zb,Zb,Zb,Za)else(Zb,Zb,Zb,Zb)
theorem Cj (k:Int):k=1∨k=2∨k=3∨k=4∨k=5∨k=6∨k=7∨(¬k=1/\¬k=2/\¬k=3/\¬k=4/\¬k=5/\¬k=6/\¬k=7):=by omega
theorem H9 (k:Int):pp k=O (bl k):=by
 rcases Cj k with rfl|rfl|rfl|rfl|rfl|rfl|rfl|⟨b,c,d,e,f,h,j⟩
 any_goals rfl
 simp[pp,bl,b,c,d,e,f,h,j]
theorem AF (k:Int):jO k=O (bl k):=by
 rcases Cj k with rfl|rfl|rfl|rfl|rfl|rfl|rfl|⟨b,c,d,e,f,j,o⟩
 any_goals rfl
 by_cases h:1<=k
 .simp[jO,bl,b,c,d,e,f,j,o,h,show¬k<=3 by omega,bc]
 .simp[jO,bl,b,c,d,e,f,j,o,h,bc]
def Dk (n:Int)(q:Bool):Bool:=if q then Zc (0<=n/\n<=2147483647)else Zc (n=0)
theorem Jw (n:Int)(q:Bool):jj n q=O (Dk n q):=by
 unfold jj Dk;cases q
 .rfl
 .by_cases h:0<=n<;>simp[h]
def tS (o:ci):Bool:=Zc (0<=o.1/\o.1<8)&&(Dk o.2.1 (bl o.1).1&&(Dk o.2.2.1 (bl o.1).2.1&&(Dk o.2.2.2.1 (bl o.1).2.2.1&&((bl o.1).2.2.2||Zc (o.2.2.2.2=0)))))
theorem O5 (o:ci):sR o.1 o.2.1 o.2.2.1 o.2.2.2.1 o.2.2.2.2=O (tS o):=by
 unfold sR xT tS
 have j:(cond (Zc (0<=o.1)) (O (Zc (o.1<8))) (O Zb))=O (Zc (0<=o.1/\o.1<8)):=by
  by_cases h:0<=o.1<;>simp[h]
 rw[H9,j];simp only[zG,Jw];generalize Zc (0<=o.1/\o.1<8)=b;generalize Dk o.2.1 (bl o.1).1=c;generalize Dk o.2.2.1 (bl o.1).2.1=d;generalize Dk o.2.2.2.1 (bl o.1).2.2.1=e;generalize (bl o.1).2.2.2=f;cases b<;>cases c<;>cases d<;>cases e<;>cases f<;>rfl
theorem QX (o:ci):uY o.1 o.2.1 o.2.2.1 o.2.2.2.1 o.2.2.2.2=O (tS o):=by
 unfold uY;simp only[ag];by_cases y:o.1<0
 .rw[zE y];unfold tS;rw[zA (show¬(0<=o.1/\o.1<8)by omega)];rfl
 rw[zF y];by_cases z:7<o.1
 .rw[zE z];unfold tS;rw[zA (show¬(0<=o.1/\o.1<8)by omega)];rfl
 rw[zF z,AF];simp only[zG]
 have c:=xE (f:=pZ o.2.1 o.2.2.1 o.2.2.2.1 (bl o.1)) (l:=[(o.2.1,(bl o.1).1),(o.2.2.1,(bl o.1).2.1),(o.2.2.2.1,(bl o.1).2.2.1)]) (λp=> !Dk p.1 p.2) (λ_=> .inl Zb) (.inr ()) (by simp)
  (λi hi=>by
   unfold pZ;have hi:i<3:=hi;rw[ag,Zg,bp (show i<3 from hi),bp (show i<4 by omega)];simp only[zG,ag]
   have A:dI [o.2.1,o.2.2.1,o.2.2.2.1] i 0=([(o.2.1,(bl o.1).1),(o.2.2.1,(bl o.1).2.1),(o.2.2.2.1,(bl o.1).2.2.1)][i]).1:=by
    rcases(show i=0∨i=1∨i=2 by omega)with rfl|rfl|rfl<;>rfl
   have B:dI [(bl o.1).1,(bl o.1).2.1,(bl o.1).2.2.1,(bl o.1).2.2.2] i Zb=([(o.2.1,(bl o.1).1),(o.2.2.1,(bl o.1).2.1),(o.2.2.2.1,(bl o.1).2.2.1)][i]).2:=by
    rcases(show i=0∨i=1∨i=2 by omega)with rfl|rfl|rfl<;>rfl
   rw[A,B,ad (n:=(i:Int)+1) (by omega),show(i:Int)+1=((i+1:Nat):Int)by omega];generalize [(o.2.1,(bl o.1).1),(o.2.2.1,(bl o.1).2.1),(o.2.2.2.1,(bl o.1).2.2.1)][i]=x;obtain⟨n,q⟩:=x;simp only[Dk];by_cases r:n<0
   .rw[zE r,zE];cases q
    .simp;omega
    .simp;omega
   rw[zF r];by_cases s:2147483647<n
   .rw[zE s,zE];cases q
    .simp;omega
    .simp;omega
   rw[zF s];cases q with
   |true=>
    rw[zB (show 0<=n/\n<=2147483647 by omega)];rfl
   |false=>
    by_cases u:n=0
    .subst u;rfl
    .simp[u])
  (by
   unfold pZ
   rw[ag,zF (by simp)])
 unfold tS;rw[zB (show 0<=o.1/\o.1<8 by omega)]
 have b:([(o.2.1,(bl o.1).1),(o.2.2.1,(bl o.1).2.1),(o.2.2.2.1,(bl o.1).2.2.1)].any λp=> !Dk p.1 p.2)= !(Dk o.2.1 (bl o.1).1&&(Dk o.2.2.1 (bl o.1).2.1&&Dk o.2.2.2.1 (bl o.1).2.2.1)):=by
  simp[List.any,Bool.not_and]
 rw[b]at c;generalize Dk o.2.1 (bl o.1).1=d at*;generalize Dk o.2.2.1 (bl o.1).2.1=e at*;generalize Dk o.2.2.2.1 (bl o.1).2.2.1=j at*;rcases c with⟨h,_,k⟩|⟨h,k⟩
 .rw[k];cases d<;>cases e<;>cases j<;>first|rfl|cases h
 .rw[k]
  have:d=Za/\e=Za/\j=Za:=by
   cases d<;>cases e<;>cases j<;>first|exact⟨rfl,rfl,rfl⟩|cases h
  obtain⟨rfl,rfl,rfl⟩:=this;simp only[zG,bc];cases(bl o.1).2.2.2<;>rfl
theorem B6 (b:Bool)(e:Int):gF b e=O (if b then e else 0):=by cases b<;>rfl
def GP (l:List ci):Bool:=Zc (bm l 0=O 0)&& !(l.any λo=> !tS o)
theorem FU {R:Int}{l:List ci}(e:l.length<=4096):gM R l=O (if GP l then 0 else 6):=by
 unfold gM;obtain⟨m,d⟩:=yG (l:=l) (by omega);rw[d];simp only[zG,B6];rw[Ze,zD,ag];unfold GP;by_cases b:bm l 0=O 0
 .rw[zE b,zF (by simp),zB b];unfold gE iy
  rcases xE (f:=ew l) (l:=l) (λo=> !tS o) (λi=> .inl (i:Int)) (.inr ()) (by omega) (λi hi=>by
   unfold ew;rw[ag,Zg,cn hi];simp only[zG];unfold mU;rw[O5,ad (n:=(i:Int)+1) (by omega)];simp only[zG]
   cases tS l[i]<;>rfl) (by
   unfold ew
   rw[ag,Zh])with⟨h,i,c⟩|⟨h,c⟩
  .rw[c,h];simp only[zG,bc];rw[Zf];rfl
  .rw[c,h];rfl
 .rw[zF b,zE (by simp),zA b];rfl
theorem SY {R:Int}{l:List ci}(c:l.length<=1500):w8 R l=O (GP l):=by
 unfold w8 GP;rw[Ze,zD,F8 (by omega)];simp only[zG];cases Zc (bm l 0=O 0)with
 |false=>rfl
 |true=>
  rcases xE (f:=rr l) (l:=l) (λo=> !tS o) (λi=> .inl Zb) (.inr ()) (by omega) (λi hi=>by
   unfold rr;rw[ag,Zg,cn hi];simp only[zG];rw[QX,ad (n:=(i:Int)+1) (by omega)];simp only[zG]
   cases tS l[i]<;>rfl) (by
   unfold rr
   rw[ag,Zh])with⟨h,i,b⟩|⟨h,b⟩
  .rw[b,h];rfl
  .rw[b,h];rfl
def O2 (R:Int)(o:ci):Bool:=((bl o.1).1&&Zc (R<=o.2.1))||((bl o.1).2.1&&Zc (R<=o.2.2.1))||((bl o.1).2.2.1&&Zc (R<=o.2.2.2.1))
def Hb (R:Int)(l:List ci):Bool:=Zc (1<=R/\R<=64)&& !(l.any (O2 R))
theorem Lt (x y:Int):br [x,y]=O [y,x]:=by kernel_rfl
theorem Q4 (x:Int):br [x]=O [x]:=by kernel_rfl
theorem Ls :br []=O []:=by kernel_rfl
theorem O4 (o:ci):sQ o.1 o.2.1 o.2.2.1 o.2.2.2.1 o.2.2.2.2=O (if(bl o.1).2.1 then(if(bl o.1).2.2.1 then [o.2.2.1,o.2.2.2.1]else [o.2.2.1])else []):=by
 obtain⟨k,d,a,b,v⟩:=o;simp only;rcases Cj k with rfl|rfl|rfl|rfl|rfl|rfl|rfl|⟨c,e,f,h,p,j,q⟩
 .exact(show _=(br [b,a]).bind _ from rfl).trans (by rw[Lt];rfl)
 .exact(show _=(br [b,a]).bind _ from rfl).trans (by rw[Lt];rfl)
 .exact(show _=(br [b,a]).bind _ from rfl).trans (by rw[Lt];rfl)
 .exact(show _=(br [a]).bind _ from rfl).trans (by rw[Q4];rfl)
 .exact(show _=(br []).bind _ from rfl).trans (by rw[Ls];rfl)
 .exact(show _=(br [a]).bind _ from rfl).trans (by rw[Q4];rfl)
 .exact(show _=(br []).bind _ from rfl).trans (by rw[Ls];rfl)
 .unfold sQ;simp only[zA c,zA e,zA f,zA h,zA j,zD,zG,bc,Ls];simp[bl,c,e,f,h,p,j,q]
theorem OB (l:Zd)(R:Int)(p:List ci)(c:l.length<2000):eW l R p=O (l.any λn=>Zc (R<=n)):=by
 unfold eW kn
 rcases xE (f:=gp l R p) (l:=l) (λn=>Zc (R<=n)) (λi=> .inl (i:Int)) (.inr ()) (by omega) (λi hi=>by
  unfold gp;rw[ag,Zg,cn hi];simp only[zG];unfold i4;rw[ad (n:=(i:Int)+1) (by omega)];simp only[zG]
  cases Zc (R<=l[i])<;>rfl) (by
  unfold gp
  rw[ag,Zh])with⟨h,i,b⟩|⟨h,b⟩
 .rw[b,h];simp only[zG,bc];rw[Zf]
 .rw[b,h];rfl
theorem Q2 (o:ci)(R:Int)(p:List ci):hC o.1 o.2.1 o.2.2.1 o.2.2.2.1 o.2.2.2.2 R p=O (O2 R o):=by
 unfold hC jq;rw[O4,H9];unfold O2;simp only[zG];obtain⟨k,d,a,b,v⟩:=o;simp only
 have s:(bl k).2.2.1=Za->(bl k).2.1=Za:=by
  unfold bl;split
  .intro _;rfl
  split
  .intro _;rfl
  split
  .intro h;cases h
  split<;>intro h<;>cases h
 have u:(bl k).2.1=Za->(bl k).1=Za:=by
  unfold bl;split
  .intro _;rfl
  split
  .intro _;rfl
  split
  .intro h;cases h
  split<;>intro h<;>cases h
 generalize (bl k).1=f at*;generalize (bl k).2.1=j at*;generalize (bl k).2.2.1=q at*
 have c: ∀l:Zd,l.length<2000->∀r,(l.any λn=>Zc (R<=n))=r->((eW l R p).bind λe=>O e)=O r:=by
  intro l A r B;rw[OB l R p A,B];rfl
 cases f<;>cases j<;>cases q<;>first
  |(cases u rfl)
  |(cases s rfl)
  |skip
 .refine c [] (by simp) _ ?_;generalize Zc (R<=d)=x;generalize Zc (R<=a)=y;generalize Zc (R<=b)=z;cases x<;>cases y<;>cases z<;>rfl
 .refine c [d] (by simp) _ ?_;simp only[dX,dY];generalize Zc (R<=d)=x;generalize Zc (R<=a)=y;generalize Zc (R<=b)=z;cases x<;>cases y<;>cases z<;>rfl
 .refine c [a,d] (by simp) _ ?_;simp only[dX,dY];generalize Zc (R<=d)=x;generalize Zc (R<=a)=y;generalize Zc (R<=b)=z;cases x<;>cases y<;>cases z<;>rfl
 .refine c [a,b,d] (by simp) _ ?_;simp only[dX,dY];generalize Zc (R<=d)=x;generalize Zc (R<=a)=y;generalize Zc (R<=b)=z;cases x<;>cases y<;>cases z<;>rfl
theorem wv {R:Int}{l:List ci}(e:l.length<=4096):eX R l=O (if Hb R l then 0 else 7):=by
 unfold eX Hb;simp only[B6,zG,ag];by_cases c:R<1
 .rw[zE c,zA (show¬(1<=R/\R<=64)by omega)];rfl
 rw[zF c];by_cases d:64<R
 .rw[zE d,zA (show¬(1<=R/\R<=64)by omega)];rfl
 rw[zF d,zB (show 1<=R/\R<=64 by omega)];unfold gg gJ
 rcases xE (f:=eg l R l) (l:=l) (O2 R) (λi=> .inl (i:Int)) (.inr ()) (by omega) (λi hi=>by
  unfold eg;rw[ag,Zg,cn hi];simp only[zG];rw[Q2,ad (n:=(i:Int)+1) (by omega)];simp only[zG]
  cases O2 R l[i]<;>rfl) (by
  unfold eg
  rw[ag,Zh])with⟨h,i,b⟩|⟨h,b⟩
 .rw[b,h];simp only[zG,bc];rw[Zf];rfl
 .rw[b,h];rfl
theorem Jz {R:Int}{l:List ci}(k:l.length<=1500):pa R l=O (Hb R l):=by
 unfold pa Hb;simp only[ag];by_cases c:R<1
 .rw[zE c,zA (show¬(1<=R/\R<=64)by omega)];rfl
 rw[zF c];by_cases d:64<R
 .rw[zE d,zA (show¬(1<=R/\R<=64)by omega)];rfl
 rw[zF d,zB (show 1<=R/\R<=64 by omega)]
 rcases xE (f:=lq R l) (l:=l) (O2 R) (λi=> .inl Zb) (.inr ()) (by omega) (λi hi=>by
  unfold lq;rw[ag,Zg,cn hi];simp only[zG];rw[AF,ad (n:=(i:Int)+1) (by omega)];simp only[zG];unfold O2;generalize l[i]=o;generalize Zc (R<=o.2.1)=x;generalize Zc (R<=o.2.2.1)=y;generalize Zc (R<=o.2.2.2.1)=z;generalize (bl o.1).1=e;generalize (bl o.1).2.1=j;generalize (bl o.1).2.2.1=b3
  cases e<;>cases j<;>cases b3<;>cases x<;>cases y<;>cases z<;>rfl) (by
  unfold lq
  rw[ag,Zh])with⟨h,i,b⟩|⟨h,b⟩
 .rw[b,h];rfl
 .rw[b,h];rfl
def hmax :List ci->Nat->Nat->Nat
 |[],_,m=>m
 |o::r,d,m=>if o.1=7 then hmax r (d+1) (max m (d+1))else if o.1=0 then hmax r (d-1) m else hmax r d m
def ax1 (l:List ci)(s:Int×Bool×Int×Zd):Prop:=
 ∃(i m:Nat) (st:Zd),i<=l.length/\s=((i:Int),Za,(m:Int),st)/\st.length<=i/\m<=i/\bm (l.drop i) st.length=bm l 0/\hmax (l.drop i) st.length m=hmax l 0 0
theorem Vt {l:List ci}(A:l.length<=100000)(s:Int×Bool×Int×Zd)(h:ax1 l s):
  (∃b,mp l s=O (.inl b)/\ax1 l b/\l.length-b.1.toNat<l.length-s.1.toNat)∨∃c,mp l s=O (.inr c)/\((c.1=Zb/\bm l 0=Y)∨(c.1=Za/\bm l 0=O c.2.2.length/\c.2.1=(hmax l 0 0:Int))):=by
 obtain⟨i,m,st,hi,rfl,z,y,d,e⟩:=h;by_cases c:i<l.length
 .have j:l.drop i=l[i]::l.drop (i+1):=(cT c).symm;rw[j]at d e;simp only[mp];rw[zB (show(i:Int)<(l.length:Int)by omega),zC,cn c];simp only[zG];generalize B:l[i]=x at*;simp only[bm]at d;simp only[hmax]at e;by_cases r:x.1<0
  .rw[zE (.inl r)]at d;rw[zB r];simp only[zC,zG,gH];exact .inr ⟨_,rfl, .inl ⟨rfl,d.symm⟩⟩
  rw[zA r,zD];by_cases f:7<x.1
  .rw[zE (.inr f)]at d;rw[zB f];simp only[zC,zG,cb,gH];exact .inr ⟨_,rfl, .inl ⟨rfl,d.symm⟩⟩
  rw[zA f,zD];rw[Zh]at d;by_cases o:x.1=0
  .rw[zE o]at d;rw[Zh,zE o]at e;rw[zB o];simp only[zC,zG,cb];by_cases p:st.length=0
   .rw[zE p]at d;rw[zB (show(st.length:Int)=0 by omega)];simp only[zC,zG,gH];exact .inr ⟨_,rfl, .inl ⟨rfl,d.symm⟩⟩
   .rw[zF p]at d;rw[zA (show¬(st.length:Int)=0 by omega),zD];rw[ad (n:=(st.length:Int)-1) (by omega),Zk,bz];simp only[zG,cb];rw[zA (show¬x.1=7 by omega)];simp only[zD];rw[ad (n:=(i:Int)+1) (by omega)]
    have k:(st.take (((st.length:Int)-1).toNat-0)).length=st.length-1:=by
     rw[eA];omega
    refine .inl ⟨_,rfl,⟨i+1,m,_,c,rfl,by rw[k];omega,by omega,by rw[k];exact d,by rw[k];exact e⟩,by simp;omega⟩
  .rw[zF o]at d;have u:Zc (x.1=0)=Zb:=zA o;rw[u];simp only[zD,zG,cb];by_cases f:x.1=7
   .rw[zE f]at d e;rw[zB f];simp only[zC];rw[bt (by omega) (by omega),ad (n:=(i:Int)+1) (by omega),ad (n:=(st.length:Int)+1) (by omega)];refine .inl ⟨_,rfl,⟨i+1,max m (st.length+1),st++[(i:Int)],c, ?_,by simp;omega,by omega,by rw[cM];exact d,by rw[cM];exact e⟩,by simp;omega⟩;rw[show((max m (st.length+1):Nat):Int)=max (m:Int) ((st.length:Int)+1)by omega];rfl
   .rw[zF f]at d e;rw[zF o]at e;rw[zA f];simp only[zD];rw[ad (n:=(i:Int)+1) (by omega)];exact .inl ⟨_,rfl,⟨i+1,m,st,c,rfl,by omega,by omega,d,e⟩,by simp;omega⟩
 .have q:i=l.length:=by omega
  subst q;rw[cX]at d e;simp only[mp];rw[zA (show¬(l.length:Int)<(l.length:Int)by omega),zD];have e:m=hmax l 0 0:=e;exact .inr ⟨_,rfl, .inr ⟨rfl,d.symm,by rw[<-e]⟩⟩
def KK (l:List ci):Int×Int:=if bm l 0=O 0 then((hmax l 0 0:Int),0)else(0,6)
theorem V0 {l:List ci}(p:l.length<=100000):zn l=O (KK l):=by
 unfold zn KK
 obtain⟨c,o,h⟩:=re (f:=mp l) (a:=((0:Int),Za,(0:Int),([]:Zd))) (ax1 l) (λs=>l.length-s.1.toNat) (λc=>(c.1=Zb/\bm l 0=Y)∨(c.1=Za/\bm l 0=O c.2.2.length/\c.2.1=(hmax l 0 0:Int)))
  ⟨0,0,[],cU _,rfl,aB _,aB _,rfl,rfl⟩ (by simp;omega) (λs q=>Vt p s q)
 rw[o];simp only[zG];rcases h with⟨b,d⟩|⟨b,d,k⟩
 .rw[b,d];rfl
 .rw[b,d,zC];by_cases j:c.2.2.length=0
  .rw[zB (show(c.2.2.length:Int)=0 by omega),zE (by rw[j]),k];rfl
  .rw[zA (show¬(c.2.2.length:Int)=0 by omega),zF (by intro e;injection e with e;exact j e)];rfl
def Gl (l:List ci)(i:Nat):Nat:=(bm (l.take i) 0).getD 0
theorem P8 {l:List ci}(c:bm l 0=O 0)(hi:i<=l.length):bm (l.take i) 0=O (Gl l i):=by
 obtain⟨d,b,_⟩:=Kp c hi;unfold Gl;rw[b];rfl
theorem KL {l:List ci}(e:bm l 0=O 0)(hi:i<l.length):(l[i].1=7/\Gl l (i+1)=Gl l i+1)∨(l[i].1=0/\0<Gl l i/\Gl l (i+1)=Gl l i-1)∨(l[i].1≠7/\l[i].1≠0/\Gl l (i+1)=Gl l i):=by
 have b:=P8 e (i:=i+1) (by omega);rw[eE hi,rf,P8 e (by omega)]at b;have b:bm [l[i]] (Gl l i)=O (Gl l (i+1)):=b;simp only[bm]at b;split at b
 .cases b
 split at b
 .rename_i f c;split at b
  .cases b
  .injection b with b
   exact .inr (.inl ⟨c,by omega,b.symm⟩)
 rename_i f c;split at b
 .rename_i d;injection b with b
  exact .inl ⟨d,b.symm⟩
 .rename_i d;injection b with b
  exact .inr (.inr ⟨d,c,b.symm⟩)
theorem Xv {l:List ci}(c:bm l 0=O 0): ∀i,i<=l.length->Gl l i<=i
 |0,_=>aB _
 |i+1,h=>by
  have:=Xv c i (by omega);rcases KL c (i:=i) (by omega)with⟨_,b⟩|⟨_,_,b⟩|⟨_,_,b⟩<;>omega
theorem Pc {l:List ci}(k:l.length<=100000)(h:bm l 0=O 0){n:Nat}(o:n<=l.length):sV l (n:Int)=O (Gl l n:Int):=by
 unfold sV;have e:aq (lm l (n:Int)) cx (0,((Gl l 0:Nat):Int))=O ((Gl l n:Nat):Int):=fP (n:=n) (λi=>((Gl l i:Nat):Int)) (c:=((Gl l n:Nat):Int)) (by omega) (λi hi=> ?_) ?_
 .show((aq (lm l (n:Int)) cx (0,((Gl l 0:Nat):Int))).bind _)=_;rw[e];rfl
 .unfold lm;simp only[ag];rw[Zg,cn (show i<l.length by omega)];simp only[zG];have j:=Xv h i (by omega);rw[ad (n:=(i:Int)+1) (by omega)];rcases KL h (i:=i) (by omega)with⟨b,d⟩|⟨b,f,d⟩|⟨b,f,d⟩
  .rw[zE b,Zh,ad (n:=((Gl l i:Nat):Int)+1) (by omega),d];rfl
  .rw[Zh,zE b,ad (n:=((Gl l i:Nat):Int)-1) (by omega),d,show((Gl l i-1:Nat):Int)=(Gl l i:Int)-1 by omega];rfl
  .rw[zF b,zF f,d];rfl
 .unfold lm;simp only[ag];rw[Zh]
def A3 (l:List ci):Nat->Nat
 |0=>0
 |i+1=>max (A3 l i) (Gl l i)
theorem M7 {l:List ci}(j:bm l 0=O 0): ∀k i,i+k=l.length->hmax (l.drop i) (Gl l i) (A3 l (i+1))=A3 l (l.length+1)
 |0,i,h=>by
  have:i=l.length:=by omega
  subst this;rw[cX];rfl
 |k+1,i,h=>by
  rw[(cT (show i<l.length by omega)).symm];simp only[hmax];have d:=M7 j k (i+1) (by omega);have e:A3 l (i+1+1)=max (A3 l (i+1)) (Gl l (i+1)):=rfl;have o:A3 l (i+1)=max (A3 l i) (Gl l i):=rfl;rcases KL j (i:=i) (by omega)with⟨b,c⟩|⟨b,f,c⟩|⟨b,f,c⟩
  .rw[zE b,<-c,<-e];exact d
  .rw[Zh,zE b,<-c,show A3 l (i+1)=A3 l (i+1+1)by rw[e];omega];exact d
  .rw[zF b,zF f];rw[c,show A3 l (i+1+1)=A3 l (i+1)by rw[e];omega]at d;exact d
theorem SV {l:List ci}(e:l.length<=100000):w6 l=O (KK l):=by
 unfold w6 KK;rw[F8 e];simp only[zG];by_cases b:bm l 0=O 0
 .rw[zB b,zE b];simp only[dA,zD];have d:aq (od l) cx (0,((A3 l 0:Nat):Int))=O ((A3 l (l.length+1):Nat):Int):=fP (n:=l.length+1) (λi=>((A3 l i:Nat):Int)) (c:=((A3 l (l.length+1):Nat):Int)) (by omega) (λi hi=> ?_) ?_
  .show((aq (od l) cx (0,((A3 l 0:Nat):Int))).bind _)=_;rw[d];have h:=M7 b l.length 0 (by omega);have e0:Gl l 0=0:=rfl;have f:A3 l (0+1)=0:=rfl;rw[e0,f,List.drop_zero]at h;rw[h];rfl
  .unfold od;simp only[ag];rw[Zg,Pc e b (by omega)];simp only[zG];rw[ad (n:=(i:Int)+1) (by omega)];show _=O (Sum.inl (((i+1:Nat):Int),((max (A3 l i) (Gl l i):Nat):Int)));rw[show((max (A3 l i) (Gl l i):Nat):Int)=max (A3 l i:Int) (Gl l i:Int)by omega];rfl
  .unfold od;simp only[ag];rw[Zh]
 .rw[zA b,zF b];rfl
structure OpsOk (l:List ci):Prop where
 len:l.length<=4096
 v: ∀o∈l,0<=o.2.2.2.2/\o.2.2.2.2<=18446744073709551615
def IS (l:List ci):Int:=if GP l then 0 else 6
def H4 (R:Int)(l:List ci):Int:=if Hb R l then 0 else 7
def H5 (l:List ci):Int:=if 8<(KK l).1 then 8 else 0
def H6 (l:List ci):Int:=(da l).2
def Cl (R:Int)(l:List ci):Int:=if IS l≠0 then IS l else if H4 R l≠0 then H4 R l else if H5 l≠0 then H5 l else H6 l
def lS (R:Int)(l:List ci)(Q:Int)(k:List ci):Int:=if IS l≠0 then IS l else if IS k≠0 then IS k else if H4 R l≠0 then H4 R l else if H4 Q k≠0 then H4 Q k else if H5 l≠0 then H5 l else if H5 k≠0 then H5 k else if H6 l≠0 then H6 l else H6 k
theorem DZ {R:Int}{l:List ci}(h:OpsOk l):gv R l=O (H5 l):=by
 unfold gv H5;have:=h.len;rw[V0 (by omega)];simp only[zG,B6];by_cases c:8<(KK l).1<;>simp[c]
theorem B7 {R:Int}{l:List ci}(h:OpsOk l):gc R l=O (H6 l):=by
 unfold gc H6;have:=h.len;rw[vY (by omega) h.v];rfl
theorem Ms {R:Int}{l:List ci}(h:OpsOk l):rl R l=O (Cl R l):=by
 unfold rl Cl;rw[FU h.len,wv h.len,DZ h,B7 h];simp only[zG,ag];show(if IS l≠0 then O (IS l)else if H4 R l≠0 then O (H4 R l)else if H5 l≠0 then O (H5 l)else if H6 l≠0 then O (H6 l)else O 0)=_;split
 .rfl
 split
 .rfl
 split
 .rfl
 split
 .rfl
 .rename_i h;rw[show H6 l=0 by omega]
theorem Si {R Q:Int}{l k:List ci}(h:OpsOk l)(b:OpsOk k):wY R l Q k=O (lS R l Q k):=by
 unfold wY lS;rw[FU h.len,wv h.len,DZ h,B7 h,FU b.len,wv b.len,DZ b,B7 b];simp only[zG,ag];show(if IS l≠0 then O (IS l)else if IS k≠0 then O (IS k)else if H4 R l≠0 then O (H4 R l)else if H4 Q k≠0 then O (H4 Q k)else if H5 l≠0 then O (H5 l)else if H5 k≠0 then O (H5 k)else if H6 l≠0 then O (H6 l)else if H6 k≠0 then O (H6 k)else O 0)=_;split
 .rfl
 split
 .rfl
 split
 .rfl
 split
 .rfl
 split
 .rfl
 split
 .rfl
 split
 .rfl
 split
 .rfl
 .rename_i h;rw[show H6 k=0 by omega]
def Ue (R:Int)(l:List ci)(n:Nat):Int:=if n=0 then IS l else if n=1 then H4 R l else if n=2 then H5 l else H6 l
theorem Lo {R:Int}{l:List ci}(h:OpsOk l)(b:l.length<=1500)(n:Nat):sW R l (n:Int)=O (Ue R l n):=by
 unfold sW Ue;have:=h.len;simp only[ag];by_cases c:n=0
 .rw[Zg,zE c,SY b];unfold IS;simp only[zG];cases GP l<;>rfl
 rw[Zh,zF c];by_cases d:n=1
 .rw[Zg,zE d,Jz b];unfold H4;simp only[zG];cases Hb R l<;>rfl
 rw[Zh,zF d];by_cases e:n=2
 .rw[Zg,zE e,SV (by omega)];unfold H5;simp only[zG];split<;>rfl
 rw[Zh,zF e,Co b h.v];rfl
theorem SX {R Q:Int}{l k:List ci}(h:OpsOk l)(q:OpsOk k)(e:l.length<=1500)(f:k.length<=1500):w7 R l Q k=O (lS R l Q k):=by
 have b: ∀n:Nat,n<4->lg R l Q k (n:Int)=O (if Ue R l n≠0 then .inr (.inl (Ue R l n))else if Ue Q k n≠0 then .inr (.inl (Ue Q k n))else .inl ((n+1:Nat):Int)):=by
  intro n s;unfold lg;simp only[ag];rw[Zg,Lo h e,Lo q f];simp only[zG];rw[ad (n:=(n:Int)+1) (by omega)];split
  .rfl
  split<;>rfl
 have c:lg R l Q k 4=O (.inr (.inr ())):=rfl;unfold w7 lS
 have j:aq (lg R l Q k) cx 0=O (if IS l≠0 then .inl (IS l)else if IS k≠0 then .inl (IS k)else if H4 R l≠0 then .inl (H4 R l)else if H4 Q k≠0 then .inl (H4 Q k)else if H5 l≠0 then .inl (H5 l)else if H5 k≠0 then .inl (H5 k)else if H6 l≠0 then .inl (H6 l)else if H6 k≠0 then .inl (H6 k)else .inr ()):=by
  have r:cx=18446744073709551611+1+1+1+1+1:=rfl;rw[r,bj];have d:=b 0 (by omega);have e:=b 1 (by omega);have o:=b 2 (by omega);have p:=b 3 (by omega);rw[show Ue R l 0=IS l from rfl,show Ue Q k 0=IS k from rfl]at d;rw[show Ue R l 1=H4 R l from rfl,show Ue Q k 1=H4 Q k from rfl]at e;rw[show Ue R l 2=H5 l from rfl,show Ue Q k 2=H5 k from rfl]at o;rw[show Ue R l 3=H6 l from rfl,show Ue Q k 3=H6 k from rfl]at p;have d:lg R l Q k 0=_:=d;rw[d];simp only[zG];split
  .rfl
  split
  .rfl
  simp only[bc];rw[bj,e];simp only[zG];split
  .rfl
  split
  .rfl
  simp only[bc];rw[bj,o];simp only[zG];split
  .rfl
  split
  .rfl
  simp only[bc];rw[bj,p];simp only[zG];split
  .rfl
  split
  .rfl
  simp only[bc];rw[bj,show(((3+1:Nat):Int))=4 from rfl,c];rfl
 rw[j];simp only[zG];split
 .rfl
 split
 .rfl
 split
 .rfl
 split
 .rfl
 split
 .rfl
 split
 .rfl
 split
 .rfl
 split
 .rfl
 .rename_i h;rw[show H6 k=0 by omega];rfl
abbrev aV3 :Sh:= .list (.pair (.int .i64) (.pair (.int .i64) (.pair (.int .i64) (.pair (.int .i64) (.int .u64)))))
theorem O6 {l:List ci}(f:UW aV3 l)(h:l.length<=100):OpsOk l:=⟨by omega,λo b=>(f.2 o b).2.2.2.2⟩
theorem af1 (a0:Int)(a1:List ci)(a2:Int)(a3:List ci)(a4 a5:Int): ∃d,sE a0 a1 a2 a3 a4 a5=O d/\qb a0 a1 a2 a3 a4 a5=O d:=by
 unfold sE qb;simp only[B6,zG,ag];by_cases b:a4<1
 .rw[zE b,zE b];exact⟨_,rfl,rfl⟩
 rw[zF b,zF b];by_cases c:64<a4
 .rw[zE c,zE c];exact⟨_,rfl,rfl⟩
 rw[zF c,zF c];by_cases e:a5<0
 .rw[zE e,zE e];exact⟨_,rfl,rfl⟩
 rw[zF e,zF e];by_cases f:64<a5
 .rw[zE f];simp only[zG];rw[ag,zE f];exact⟨_,rfl,rfl⟩
 rw[zF f];simp only[zG];rw[ag,zF f];by_cases h:a0<IntKind.i64.wrap (zH zI (a4+a5)+1)
 .rw[zE h,zE h];exact⟨_,rfl,rfl⟩
 rw[zF h,zF h];by_cases j:a2<IntKind.i64.wrap (a4+a5)
 .rw[zE j,zB j];exact⟨_,rfl,rfl⟩
 .rw[zF j,zA j];exact⟨_,rfl,rfl⟩
theorem XU (l:List ci):IS l=0∨IS l=6:=by unfold IS;split<;>simp
theorem XV (R:Int)(l:List ci):H4 R l=0∨H4 R l=7:=by unfold H4;split<;>simp
theorem XW (l:List ci):H5 l=0∨H5 l=8:=by unfold H5;split<;>simp
def vQ (s l x t:Int):Int:=if x<1 then 10 else if 64<x then 10 else if t<0 then 10 else if 64<t then 10 else if s<IntKind.i64.wrap (zH zI (x+t)+1)then 10 else if l<IntKind.i64.wrap (x+t)then 10 else 0
theorem Ln (a0:Int)(a1:List ci)(a2:Int)(a3:List ci)(a4 a5:Int):qb a0 a1 a2 a3 a4 a5=O (vQ a0 a2 a4 a5):=by
 unfold qb vQ;simp only[ag];split
 .rfl
 split
 .rfl
 split
 .rfl
 split
 .rfl
 split
 .rfl
 split<;>rfl
theorem Sg (a0:Int)(a1:List ci)(a2:Int)(a3:List ci)(a4 a5:Int):sE a0 a1 a2 a3 a4 a5=O (vQ a0 a2 a4 a5):=by
 obtain⟨d,b,c⟩:=af1 a0 a1 a2 a3 a4 a5;rw[b,<-c,Ln]
def hk0 (m:Int):Int:=if m<1 then 5 else if 3<m then 5 else 0
def hk3 (m n:Int):Int:=if n<0 then 11 else if(if m=2 then 0 else 65535)<n then 11 else 0
def hk4 (b:Int):Int:=if b<0 then 12 else if 1048576<b then 12 else 0
def rb (m:Int)(x t:Nat)(R:Int)(l:List ci)(Q:Int)(k:List ci)(n b:Int):Int:=if hk0 m≠0 then hk0 m else if lS R l Q k≠0 then lS R l Q k else if vQ R Q x t≠0 then vQ R Q x t else if hk3 m n≠0 then hk3 m n else hk4 b
theorem Ea (b:Bool)(e:Int):jT b e=O (if b then e else 0):=by cases b<;>rfl
section
variable {a0:Int} {a1 a2:Zd} {a3:Int} {a4:List ci} {a5:Int} {a6:List ci} {a7 a8:Int}
theorem aA9 :ja a0 a1 a2 a3 a4 a5 a6 a7 a8=O (hk0 a0):=by
 unfold ja hk0;simp only[Ea,zG,ag];split
 .rfl
 .by_cases c:3<a0<;>simp[c]
theorem Sy (b:OpsOk a4)(c:OpsOk a6):gD a0 a1 a2 a3 a4 a5 a6 a7 a8=O (lS a3 a4 a5 a6):=by
 unfold gD;rw[Si b c];rfl
theorem aA8 :i9 a0 a1 a2 a3 a4 a5 a6 a7 a8=O (vQ a3 a5 (a1.length:Nat) (a2.length:Nat)):=by
 unfold i9;rw[Sg];rfl
theorem XF :ip a0 a1 a2 a3 a4 a5 a6 a7 a8=O (hk3 a0 a7):=by
 unfold ip hk3;simp only[Ea,zG,ag];by_cases b:a0=2
 .rw[zE b,zE b];simp only[zG];split
  .rfl
  .by_cases c:0<a7<;>simp[c]
 .rw[zF b,zF b];simp only[zG];split
  .rfl
  .by_cases c:65535<a7<;>simp[c]
theorem XE :io a0 a1 a2 a3 a4 a5 a6 a7 a8=O (hk4 a8):=by
 unfold io hk4;simp only[Ea,zG,ag];split
 .rfl
 .by_cases c:1048576<a8<;>simp[c]
theorem Cd (j:OpsOk a4)(o:OpsOk a6):kf a0 a1 a2 a3 a4 a5 a6 a7 a8=O (rb a0 a1.length a2.length a3 a4 a5 a6 a7 a8):=by
 have c:il a0 a1 a2 a3 a4 a5 a6 a7 a8 0=O (if hk0 a0≠0 then .inr (.inl (hk0 a0))else .inl 1):=by
  show((ja a0 a1 a2 a3 a4 a5 a6 a7 a8).bind λr=>cond (Zc (r≠0)) _ _)=_;rw[aA9];simp only[zG,ag];split<;>rfl
 have d:il a0 a1 a2 a3 a4 a5 a6 a7 a8 1=O (if lS a3 a4 a5 a6≠0 then .inr (.inl (lS a3 a4 a5 a6))else .inl 2):=by
  show((gD a0 a1 a2 a3 a4 a5 a6 a7 a8).bind λr=>cond (Zc (r≠0)) _ _)=_;rw[Sy j o];simp only[zG,ag];split<;>rfl
 have e:il a0 a1 a2 a3 a4 a5 a6 a7 a8 2=O (if vQ a3 a5 (a1.length:Nat) (a2.length:Nat)≠0 then .inr (.inl (vQ a3 a5 (a1.length:Nat) (a2.length:Nat)))else .inl 3):=by
  show((i9 a0 a1 a2 a3 a4 a5 a6 a7 a8).bind λr=>cond (Zc (r≠0)) _ _)=_;rw[aA8];simp only[zG,ag];split<;>rfl
 have f:il a0 a1 a2 a3 a4 a5 a6 a7 a8 3=O (if hk3 a0 a7≠0 then .inr (.inl (hk3 a0 a7))else .inl 4):=by
  show((ip a0 a1 a2 a3 a4 a5 a6 a7 a8).bind λr=>cond (Zc (r≠0)) _ _)=_;rw[XF];simp only[zG,ag];split<;>rfl
 have k:il a0 a1 a2 a3 a4 a5 a6 a7 a8 4=O (if hk4 a8≠0 then .inr (.inl (hk4 a8))else .inl 5):=by
  show((io a0 a1 a2 a3 a4 a5 a6 a7 a8).bind λr=>cond (Zc (r≠0)) _ _)=_;rw[XE];simp only[zG,ag];split<;>rfl
 have b:il a0 a1 a2 a3 a4 a5 a6 a7 a8 5=O (.inr (.inr ())):=rfl;unfold kf rb;have p:cx=18446744073709551610+1+1+1+1+1+1:=rfl;rw[p,bj,c];simp only[zG];split
 .rfl
 simp only[bc];rw[bj,d];simp only[zG];split
 .rfl
 simp only[bc];rw[bj,e];simp only[zG];split
 .rfl
 simp only[bc];rw[bj,f];simp only[zG];split
 .rfl
 simp only[bc];rw[bj,k];simp only[zG];split
 .rfl
 .rename_i h;simp only[bc];rw[bj,b];rw[show hk4 a8=0 by omega];rfl
theorem Ej (q:OpsOk a4)(r:OpsOk a6)(o:a4.length<=1500)(p:a6.length<=1500):lL a0 a1 a2 a3 a4 a5 a6 a7 a8=O (rb a0 a1.length a2.length a3 a4 a5 a6 a7 a8):=by
 unfold lL rb;rw[SX q r o p,Ln];simp only[zG,ag];unfold hk0;by_cases c:a0<1
 .rw[zE c,zE c];rfl
 rw[zF c,zF c];by_cases d:3<a0
 .rw[zE d,zE d];rfl
 rw[zF d,zF d];rw[zF (show¬(0:Int)≠0 by simp)];by_cases e:lS a3 a4 a5 a6≠0
 .rw[zE e,zE e]
 rw[zF e,zF e];by_cases f:vQ a3 a5 (a1.length:Nat) (a2.length:Nat)≠0
 .rw[zE f,zE f]
 rw[zF f,zF f];unfold hk3 hk4;by_cases h:a7<0
 .rw[zE h,zE h];rfl
 rw[zF h,zF h];by_cases j:a0=2
 .rw[zE j,zE j];by_cases k:0<a7
  .rw[zE k,zE (show(11:Int)≠0 by simp)];by_cases b:65535<a7
   .rw[zE b]
   .rw[zF b,Zg]
  .rw[zF k,zF (show¬(0:Int)≠0 by simp),zF (show¬65535<a7 by omega),zF (show¬a7≠0 by omega)];split
   .rfl
   .split<;>rfl
 .rw[zF j,zF j];by_cases b:65535<a7
  .rw[zE b,zE b];rfl
  .rw[zF b,zF b,zF (show¬(0:Int)≠0 by simp)];split
   .rfl
   .split<;>rfl
structure HFacts (a0:Int)(x t:Nat)(a3:Int)(a4:List ci)(a5:Int)(a6:List ci)(a7 a8:Int):Prop where
 mode:1<=a0/\a0<=3
 regs:1<=a3/\a3<=64
 regs':1<=a5/\a5<=64
 xs:1<=x/\x<=64
 ts:t<=64
 w:0<=(da a4).1/\(da a4).1<=65536
 w':0<=(da a6).1/\(da a6).1<=65536
 len:0<=a7/\a7<=65535
 bud:0<=a8/\a8<=1048576
theorem Qs {R:Int}{l:List ci}(h:H4 R l=0):1<=R/\R<=64:=by
 unfold H4 at h;split at h
 .rename_i b;unfold Hb at b;rw[Bool.and_eq_true]at b;exact of_decide_eq_true b.1
 .cases h
theorem LV {l:List ci}(h:OpsOk l):0<=(da l).1/\(da l).1<=65536:=by
 unfold da;split
 .rename_i d;split
  .rename_i w c;have:=IA (λo b=>(h.v o b).1) d c;split
   .simp
   .simp;omega
  .simp
 .simp
theorem Wj {R Q:Int}{l k:List ci}(h:lS R l Q k=0):(1<=R/\R<=64)/\(1<=Q/\Q<=64):=by
 unfold lS at h;split at h
 .rename_i c;exact(c h).elim
 split at h
 .rename_i c;exact(c h).elim
 split at h
 .rename_i c;exact(c h).elim
 split at h
 .rename_i c;exact(c h).elim
 rename_i b d;exact⟨Qs (l:=l) (by omega),Qs (l:=k) (by omega)⟩
theorem Ce (j:OpsOk a4)(k:OpsOk a6)(h:rb a0 x t a3 a4 a5 a6 a7 a8=0):HFacts a0 x t a3 a4 a5 a6 a7 a8:=by
 unfold rb at h;split at h
 .rename_i c;exact(c h).elim
 split at h
 .rename_i c;exact(c h).elim
 split at h
 .rename_i c;exact(c h).elim
 split at h
 .rename_i c;exact(c h).elim
 rename_i e q b d;obtain⟨o,p⟩:=Wj (show lS a3 a4 a5 a6=0 by omega);have e:hk0 a0=0:=by omega
 have b:vQ a3 a5 x t=0:=by omega
 have d:hk3 a0 a7=0:=by omega
 unfold hk0 at e;unfold hk3 at d;unfold hk4 at h;unfold vQ at b;refine⟨?_,o,p, ?_, ?_,LV j,LV k, ?_, ?_⟩
 .split at e
  .omega
  split at e<;>omega
 .split at b
  .omega
  split at b<;>omega
 .split at b
  .omega
  split at b
  .omega
  split at b
  .omega
  split at b<;>omega
 .split at d
  .omega
  by_cases f:a0=2
  .rw[zE f]at d;split at d<;>omega
  .rw[zF f]at d;split at d<;>omega
 .split at h
  .omega
  split at h<;>omega
def qt (a0:Int)(a4 a6:List ci):Int:=if a0=3 then(da a6).1 else(da a4).1+(da a6).1
def qs (a0:Int)(x:Nat)(a3:Int)(a4:List ci):Int:=if a0=3 then(da a4).1+a3 else x+1
def qZ (x t:Nat)(a3 a5:Int):Int:=2*t+2*x+a3+a5+max a3 a5
theorem Ur (b:OpsOk a4)(c:OpsOk a6):iQ a0 a1 a2 a3 a4 a5 a6 a7 a8=O (if rb a0 a1.length a2.length a3 a4 a5 a6 a7 a8≠0 then(0,0)else((da a4).1,(da a6).1)):=by
 unfold iQ;have:=b.len;have:=c.len;rw[Cd b c,vY (by omega) b.v,vY (by omega) c.v];simp only[zG,ag];split<;>rfl
theorem Lp (b:OpsOk a4)(c:OpsOk a6)(d:a4.length<=1500)(e:a6.length<=1500):uy a0 a1 a2 a3 a4 a5 a6 a7 a8=O (if rb a0 a1.length a2.length a3 a4 a5 a6 a7 a8≠0 then(0,0)else((da a4).1,(da a6).1)):=by
 unfold uy;have:=b.len;have:=c.len;rw[Ej b c d e,Co d b.v,Co e c.v];simp only[zG,ag];split<;>rfl
theorem Lj (b:OpsOk a4)(d:OpsOk a6)(h:rb a0 a1.length a2.length a3 a4 a5 a6 a7 a8=0):sT a0 a1 a2 a3 a4 a5 a6 a7 a8=O (((a2.length:Nat):Int),((a1.length:Nat):Int),a3,a5,max a3 a5,((a1.length:Nat):Int),((a2.length:Nat):Int),qt a0 a4 a6,qs a0 a1.length a3 a4):=by
 have f:=Ce b d h;have e:=f.mode;have j:=f.regs;have k:=f.xs;have o:=f.w;have p:=f.w';unfold sT qt qs;rw[Ur b d,zF (λc=>c h)];simp only[zG,ag];rw[ad (n:=(da a4).1+a3) (by omega),ad (n:=(da a4).1+(da a6).1) (by omega),ad (n:=(a1.length:Int)+1) (by omega)];split
 .rfl
 .rfl
def pre (L:Zd):Nat->Int
 |0=>0
 |i+1=>pre L i+L.getD i 0
theorem SP {L:Zd}(b: ∀j,0<=L.getD j 0/\L.getD j 0<=1000000000000): ∀i,0<=pre L i/\pre L i<=1000000000000*i
 |0=>⟨dC _,dC _⟩
 |i+1=>by
  have:=SP b i;have:=b i;simp only[pre];omega
theorem QP {b0 b1 b2 b3 c d f h b n:Int}(o: ∀j,0<=([b0,b1,b2,b3,c,d,f,h,b*n]:Zd).getD j 0/\([b0,b1,b2,b3,c,d,f,h,b*n]:Zd).getD j 0<=1000000000000):xU b0 b1 b2 b3 c d f h b n=O ((cV 10).map (pre [b0,b1,b2,b3,c,d,f,h,b*n])):=by
 generalize q:([b0,b1,b2,b3,c,d,f,h,b*n]:Zd)=L at*;have r:=SP o
 have k:aq (qN b0 b1 b2 b3 c d f h b) cx (0,(pre L 0,(cV 0).map (pre L)))=O (pre L 8,(cV 8).map (pre L)):=by
  refine fP (n:=8) (λi=>(pre L i,(cV i).map (pre L))) (by omega) (λi hi=> ?_) ?_
  .unfold qN;rw[ag,Zg,bp (show i<9 by omega)];simp only[zG]
   have e:dI [b0,b1,b2,b3,c,d,f,h,b] i 0=L.getD i 0:=by
    subst q;rcases(show i=0∨i=1∨i=2∨i=3∨i=4∨i=5∨i=6∨i=7 by omega)with rfl|rfl|rfl|rfl|rfl|rfl|rfl|rfl<;>rfl
   have s:=r i;have p:=o i;rw[e];rw[bt (by simp;omega) (by omega),ad (n:=pre L i+L.getD i 0) (by omega),ad (n:=(i:Int)+1) (by omega),eD,dL];rfl
  .unfold qN;rw[ag,Zh]
 unfold xU;have k:aq (qN b0 b1 b2 b3 c d f h b) cx ((0,0,[]))=_:=k;rw[k];have s:=r 8;have p:=o 8;have e:L.getD 8 0=b*n:=by subst q;rfl
 rw[e]at p;simp only[zG];rw[bt (by simp) (by omega),bt (by simp) (by omega),ad (n:=b*n) (by omega),ad (n:=pre L 8+b*n) (by omega)];show _=O ((cV (8+1+1)).map (pre L));rw[eD (n:=8+1),eD (n:=8),dL,dL];show _=O (((cV 8).map (pre L)++[pre L 8])++[pre L 8+L.getD 8 0]);rw[e]
theorem Wl {b0 b1 b2 b3 b c d e f n:Int}(h: ∀j,0<=([b0,b1,b2,b3,b,c,d,e,f*n]:Zd).getD j 0/\([b0,b1,b2,b3,b,c,d,e,f*n]:Zd).getD j 0<=1000000000000):vu b0 b1 b2 b3 b c d e f n=O (b0+b1+b2+b3+b+c+d+e+f*n):=by
 unfold vu;rw[QP h];show O (0+b0+b1+b2+b3+b+c+d+e+f*n)=_;rw[cN]
theorem aU4 {b0 b1 b2 b3 b c d e f:Int}{p:Int->Prop}(h:p b0)(k:p b1)(o:p b2)(q:p b3)(r:p b)(s:p c)(u:p d)(y:p e)(z:p f)(A:p 0): ∀j,p (([b0,b1,b2,b3,b,c,d,e,f]:Zd).getD j 0)
 |0=>h
 |1=>k
 |2=>o
 |3=>q
 |4=>r
 |5=>s
 |6=>u
 |7=>y
 |8=>z
 |j+9=>by
  show p ((([]:Zd)).getD j 0);rw[List.getD_nil];exact A
theorem OZ {s n:Int}(c:0<=s/\s<=100000)(b:0<=n/\n<=1048576):0<=s*n/\s*n<=1000000000000:=by
 have d:=cW c.1 b.1;have e:=Int.mul_le_mul c.2 b.2 b.1 (by omega);omega
structure SFacts (x t:Nat)(a3 a5 tp sl:Int):Prop where
 xs:1<=x/\x<=64
 ts:t<=64
 r:1<=a3/\a3<=64
 r':1<=a5/\a5<=64
 tp:0<=tp/\tp<=131072
 sl:1<=sl/\sl<=100000
theorem LJ (b:OpsOk a4)(c:OpsOk a6)(h:rb a0 x t a3 a4 a5 a6 a7 a8=0):SFacts x t a3 a5 (qt a0 a4 a6) (qs a0 x a3 a4):=by
 have f:=Ce b c h;have d:=f.mode;have e:=f.regs;have j:=f.xs;have k:=f.w;have o:=f.w';refine⟨f.xs,f.ts,f.regs,f.regs', ?_, ?_⟩
 .unfold qt;split<;>omega
 .unfold qs;split<;>omega
theorem S9 {tp sl n:Int}(s:SFacts x t a3 a5 tp sl)(b:0<=n/\n<=1048576): ∀j,0<=([(t:Int),x,a3,a5,max a3 a5,x,t,tp,sl*n]:Zd).getD j 0/\([(t:Int),x,a3,a5,max a3 a5,x,t,tp,sl*n]:Zd).getD j 0<=1000000000000:=by
 have c:=s.xs;have d:=s.ts;have e:=s.r;have f:=s.r';have h:=s.tp;have k:=s.sl;exact aU4 (p:=λy=>0<=y/\y<=1000000000000) (by omega) (by omega) (by omega) (by omega) (by omega) (by omega) (by omega) (by omega) (OZ (by omega) b) (by omega)
theorem aD5 {c b n:Int}(s:SFacts x t a3 a5 c b)(d:0<=n/\n<=1048576):vu t x a3 a5 (max a3 a5) x t c b n=O (qZ x t a3 a5+c+n*b):=by
 rw[Wl (S9 s d)];unfold qZ;rw[dD b n]
 congr 1
 omega
theorem QZ {c b:Int}(h:SFacts a1.length a2.length a3 a5 c b):u9 a0 a1 a2 a3 a4 a5 a6 a7 a8=O (qZ a1.length a2.length a3 a5):=by
 have d:=h.xs;have e:=h.ts;have f:=h.r;have j:=h.r';unfold u9 qZ;rw[ad (n:=2*(a2.length:Int)) (by omega),ad (n:=2*(a1.length:Int)) (by omega),ad (n:=2*(a2.length:Int)+2*(a1.length:Int)) (by omega),ad (n:=2*(a2.length:Int)+2*(a1.length:Int)+a3) (by omega),ad (n:=2*(a2.length:Int)+2*(a1.length:Int)+a3+a5) (by omega),Zi]
theorem S5 (b:OpsOk a4)(d:OpsOk a6)(e:a4.length<=1500)(k:a6.length<=1500)(h:rb a0 a1.length a2.length a3 a4 a5 a6 a7 a8=0):xd a0 a1 a2 a3 a4 a5 a6 a7 a8=O (qt a0 a4 a6):=by
 have f:=Ce b d h;have j:=f.w;have o:=f.w';unfold xd qt;rw[Lp b d e k,zF (λc=>c h)];simp only[zG,ag];rw[Zi];split<;>rfl
theorem S4 (b:OpsOk a4)(d:OpsOk a6)(e:a4.length<=1500)(k:a6.length<=1500)(h:rb a0 a1.length a2.length a3 a4 a5 a6 a7 a8=0):xc a0 a1 a2 a3 a4 a5 a6 a7 a8=O (qs a0 a1.length a3 a4):=by
 have f:=Ce b d h;have o:=f.regs;have p:=f.xs;have j:=f.w;have q:=f.w';unfold xc qs;rw[Lp b d e k,zF (λc=>c h)];simp only[zG,ag];rw[ad (n:=(da a4).1+a3) (by omega),Zi];split<;>rfl
def least (a0 a7:Int):Int:=if a0=3 then a7 else 1
def fi (a0:Int)(x t:Nat)(a3:Int)(a4:List ci)(a5:Int)(a6:List ci)(a7 a8:Int):Int×Int×Int×Int×Int:=
 if rb a0 x t a3 a4 a5 a6 a7 a8≠0 then(0,0,0,0,rb a0 x t a3 a4 a5 a6 a7 a8)
 else if a8<qZ x t a3 a5+qt a0 a4 a6+least a0 a7*qs a0 x a3 a4 then(0,0,0,0,13)
 else(qZ x t a3 a5,qt a0 a4 a6,qs a0 x a3 a4,if a0=3 then a7 else(a8-qZ x t a3 a5-qt a0 a4 a6) / qs a0 x a3 a4,0)
theorem Yw {d b n:Int}(s:SFacts x t a3 a5 d b):aq (sS (t:Int) (x:Int) a3 a5 (max a3 a5) (x:Int) (t:Int) d b) cx (0,0,d,b,n)=O (qZ x t a3 a5,d,b,n):=by
 have f:=S9 (n:=1) s (by omega);have k:=SP f
 have h:pre [(t:Int),x,a3,a5,max a3 a5,x,t,d,b*1] 7=qZ x t a3 a5:=by
  show 0+(t:Int)+x+a3+a5+max a3 a5+x+t=_;unfold qZ;omega
 rw[<-h];generalize j:([(t:Int),x,a3,a5,max a3 a5,x,t,d,b*1]:Zd)=L at*;refine fP (n:=7) (λi=>(pre L i,d,b,n)) (c:=(pre L 7,d,b,n)) (by omega) (λi hi=> ?_) ?_
 .unfold sS;rw[ag,Zg,bp (show i<9 by omega)];simp only[zG]
  have e:dI [(t:Int),x,a3,a5,max a3 a5,x,t,d,b] i 0=L.getD i 0:=by
   subst j;rcases(show i=0∨i=1∨i=2∨i=3∨i=4∨i=5∨i=6 by omega)with rfl|rfl|rfl|rfl|rfl|rfl|rfl<;>rfl
  have o:=k i;have p:=f i;rw[e,ad (n:=pre L i+L.getD i 0) (by omega),ad (n:=(i:Int)+1) (by omega)];rfl
 .unfold sS;rw[ag,Zh]
theorem Be (e:OpsOk a4)(j:OpsOk a6):gm a0 a1 a2 a3 a4 a5 a6 a7 a8=O (fi a0 a1.length a2.length a3 a4 a5 a6 a7 a8):=by
 unfold gm fi;rw[Cd e j];simp only[zG];by_cases h:rb a0 a1.length a2.length a3 a4 a5 a6 a7 a8=0
 .rw[zA (λc=>c h),zD,zF (λc=>c h),Lj e j h];have s:=LJ e j h;have f:=Ce e j h;have z:=f.mode;have A:=f.len;have B:=f.bud;have C:=s.xs;have D:=s.ts;have E:=s.r;have F:=s.r';have H:=s.tp;have I:=s.sl
  have u:(cond (Zc (a0=3)) (O a7) (O (1:Int)))=O (least a0 a7):=by
   unfold least;rw[ag];split<;>rfl
  have y:0<=least a0 a7/\least a0 a7<=65535:=by unfold least;split<;>omega
  simp only[zG];rw[u];simp only[zG];rw[aD5 s (by omega)];simp only[zG];rw[Yw s];simp only[zG,ag];by_cases c:a8<qZ a1.length a2.length a3 a5+qt a0 a4 a6+least a0 a7*qs a0 a1.length a3 a4
  .rw[zE c,zE c]
  .rw[zF c,zF c];have q:0<=qZ a1.length a2.length a3 a5/\qZ a1.length a2.length a3 a5<=1000:=by unfold qZ;omega
   by_cases b:a0=3
   .rw[zF (λk=>k b),zE b];unfold least;rw[zE b]
   .rw[zE b,zF b,aA7 (by omega)];unfold least at c;rw[zF b]at c;generalize qZ a1.length a2.length a3 a5=d at*;generalize qt a0 a4 a6=tp at*;generalize qs a0 a1.length a3 a4=sl at*;rw[ad (n:=a8-d) (by omega),ad (n:=a8-d-tp) (by omega),UF (by omega)];have o:0<=(a8-d-tp) / sl:=dU (by omega) (by omega);have p:(a8-d-tp) / sl<=a8-d-tp:=dT _ (by omega);rw[Zi]
 .rw[zB h,zC,zE h]
theorem SZ (j:OpsOk a4)(o:OpsOk a6)(q:a4.length<=1500)(u:a6.length<=1500):qc a0 a1 a2 a3 a4 a5 a6 a7 a8=O (fi a0 a1.length a2.length a3 a4 a5 a6 a7 a8):=by
 unfold qc fi;rw[Ej j o q u];simp only[zG];by_cases h:rb a0 a1.length a2.length a3 a4 a5 a6 a7 a8=0
 .have s:=LJ j o h;have f:=Ce j o h;rw[zA (λc=>c h),zD,zF (λc=>c h),QZ s,S5 j o q u h,S4 j o q u h];have J:=f.mode;have K:=f.len;have L:=f.bud;have B:=s.xs;have M:=s.ts;have C:=s.r;have N:=s.r';have Q:=s.tp;have T:=s.sl;have E:0<=qZ a1.length a2.length a3 a5/\qZ a1.length a2.length a3 a5<=1000:=by unfold qZ;omega
  have H:0<=least a0 a7/\least a0 a7<=65535:=by unfold least;split<;>omega
  simp only[zG];generalize qZ a1.length a2.length a3 a5=b at*;generalize qt a0 a4 a6=tp at*;generalize qs a0 a1.length a3 a4=sl at*
  have F:(cond (Zc (a0=3)) (O ((b,tp,sl,a7):Int×Int×Int×Int)) (O (b,tp,sl,1)))=O (b,tp,sl,least a0 a7):=by
   unfold least;rw[ag];split<;>rfl
  rw[F];simp only[zG];have y:=OZ (s:=sl) (n:=least a0 a7) (by omega) (by omega);rw[dD]at y;rw[ad (n:=b+tp) (by omega),ad (n:=least a0 a7*sl) (by omega),Zi,ag];by_cases c:a8<b+tp+least a0 a7*sl
  .rw[zE c,zE c]
  .rw[zF c,zF c];by_cases e:a0=3
   .have d:aq (oe a0 a8) cx (b,tp,sl,least a0 a7)=O (b,tp,sl,least a0 a7):=by
     rw[show cx=18446744073709551615+1 from rfl,bj];unfold oe;rw[ag,zF (λk=>k e)];rfl
    rw[d,zE e];unfold least;rw[zE e];rfl
   .have d:aq (oe a0 a8) cx (b,tp,sl,least a0 a7)=O (b,tp,sl,(a8-b-tp) / sl):=by
     refine OW (λst=> ∃n:Int,st=(b,tp,sl,n)/\1<=n/\n<=1048577/\b+tp+n*sl<=a8) (λst=>(2000000-st.2.2.2).toNat) ⟨least a0 a7,rfl,by unfold least;rw[zF e];omega,by omega,by omega⟩ (by simp;omega) ?_;rintro _ ⟨n,rfl,W,X,n3⟩;unfold oe;simp only;have y:=OZ (s:=sl) (n:=n+1-2) (by omega) (by omega);have V:(n+1)*sl=sl*(n+1-2)+2*sl:=by rw[Int.mul_sub,dD];omega
     have I:(n+1)*sl=n*sl+sl:=by rw[Int.add_mul,Int.one_mul]
     rw[ag,zE e,ad (n:=n+1) (by omega),ad (n:=b+tp) (by omega),ad (n:=(n+1)*sl) (by omega),Zi,ag]
     have z:n<=n*sl:=by
      have:=dE (show 1<=sl by omega) (show 0<=n by omega);omega
     by_cases p:b+tp+(n+1)*sl<=a8
     .rw[zE p];left;exact⟨_,rfl,⟨n+1,rfl,by omega,by omega,p⟩,by simp only;omega⟩
     .rw[zF p];right
      have D:(a8-b-tp) / sl=n:=by
       have A:a8-b-tp=(a8-b-tp-n*sl)+n*sl:=by omega
       rw[A,Int.add_mul_ediv_right _ _ (by omega),Int.ediv_eq_zero_of_lt (by omega) (by omega),cN]
      rw[D]
    rw[d,zF e];rfl
 .rw[zB h,zC,zE h]
end
def Reach {α γ:Type}(f:α->Option (α⊕γ))(k:Nat)(s c:α):Prop:= ∀b,aq f (b+k) s=aq f b c
theorem Reach.refl {α γ:Type}{f:α->Option (α⊕γ)}{s:α}:Reach f 0 s s:=λ_=>rfl
theorem Reach.trans {α γ:Type}{f:α->Option (α⊕γ)}{k c:Nat}{s e b:α}(h:Reach f k s e)(j:Reach f c e b):Reach f (k+c) s b:=by
 intro d;rw[show d+(k+c)=(d+c)+k by omega,h,j]
theorem Reach.one {α γ:Type}{f:α->Option (α⊕γ)}{s b:α}(h:f s=O (.inl b)):Reach f 1 s b:=by
 intro c;rw[bj,h];rfl
section
variable {l:List ci}
theorem aJ9 (d:l.length<=8192)(b:st.length<=8192)(hi:i<l.length)(c:0<l[i].1/\l[i].1<7)(e:out.length=l.length):
  cw l ((i:Int),Za,out,st,st)=O (.inl (((i+1:Nat):Int),Za,out.set i (-1),st,st)):=by
 simp only[cw];rw[zB (show(i:Int)<(l.length:Int)by omega),zC,cn hi];simp only[zG];generalize f:l[i]=x at*;rw[zA (show¬x.1<0 by omega),zD,zA (show¬7<x.1 by omega),zD,zA (show¬x.1=0 by omega)];simp only[zD,zG,cb];rw[bp (show i<out.length by omega)];simp only[zG];rw[aD (show i<out.length by omega)];simp only[zG];rw[zA (show¬x.1=7 by omega)];simp only[zD];rw[ad (n:=(i:Int)+1) (by omega)];rfl
theorem aj9 (d:l.length<=8192)(c:st.length<=8192)(hi:i<l.length)(b:l[i].1=7)(e:out.length=l.length):
  cw l ((i:Int),Za,out,st,st)=O (.inl (((i+1:Nat):Int),Za,out.set i (-1),st++[(i:Int)],st++[(i:Int)])):=by
 simp only[cw];rw[zB (show(i:Int)<(l.length:Int)by omega),zC,cn hi];simp only[zG];generalize f:l[i]=x at*;rw[zA (show¬x.1<0 by omega),zD,zA (show¬7<x.1 by omega),zD,zA (show¬x.1=0 by omega)];simp only[zD,zG,cb];rw[bp (show i<out.length by omega)];simp only[zG];rw[aD (show i<out.length by omega)];simp only[zG];rw[zB b];simp only[zC];rw[bt (by omega) (by omega),bt (by omega) (by omega),ad (n:=(i:Int)+1) (by omega)];rfl
theorem Yd {q:Nat}(h:l.length<=8192)(f:st.length<8192)(hi:i<l.length)(e:l[i].1=0)(j:out.length=l.length)(k:q<l.length):
  cw l ((i:Int),Za,out,st++[(q:Int)],st++[(q:Int)])=O (.inl (((i+1:Nat):Int),Za,((out.set i (-1)).set i (q:Int)).set q (i:Int),st,st)):=by
 have b:(st++[(q:Int)]).length=st.length+1:=by simp
 simp only[cw];rw[zB (show(i:Int)<(l.length:Int)by omega),zC,cn hi];simp only[zG];generalize o:l[i]=x at*;rw[zA (show¬x.1<0 by omega),zD,zA (show¬7<x.1 by omega),zD,zB e];simp only[zC,zG,cb];rw[zA (show¬((st++[(q:Int)]).length:Int)=0 by omega),zD];rw[ad (n:=((st++[(q:Int)]).length:Int)-1) (by omega),Zk,bz];simp only[zG,cb];have d:Zc (x.1=7)=Zb:=zA (by omega);rw[bp (show i<out.length by omega)];simp only[zG];rw[aD (show i<out.length by omega)];simp only[zG];rw[d,zD,show((st++[(q:Int)]).length:Int)-1=(st.length:Int)by rw[b];omega,bp (show st.length<(st++[(q:Int)]).length by omega)];simp only[zG];rw[cL (aB _),bD];simp only[eM,zG]
 rw[bz,bp (show i<(out.set i (-1)).length by simp;omega)];simp only[zG];rw[aD (show i<(out.set i (-1)).length by simp;omega)];simp only[zG];rw[bp (show q<((out.set i (-1)).set i ((q:Nat):Int)).length by simp;omega)];simp only[zG];rw[aD (show q<((out.set i (-1)).set i ((q:Nat):Int)).length by simp;omega)];simp only[zG]
 have c:(st++[(q:Int)]).take ((st.length:Int).toNat-0)=st:=by
  rw[show(st.length:Int).toNat-0=st.length by omega,dP];rfl
 rw[c,ad (n:=(i:Int)+1) (by omega)];rfl
theorem O1 (D:l.length<=8192): ∀(k:Nat) (A seg B:List ci) (out st:Zd),seg.length<=k->l=A++seg++B->bm seg 0=O 0->out.length=l.length->st.length<=A.length->
  ∃f,Reach (cw l) seg.length ((A.length:Int),Za,out,st,st) (((A.length+seg.length:Nat):Int),Za,f,st,st)/\f.length=l.length/\
   (∀j,¬(A.length<=j/\j<A.length+seg.length)->f[j]?=out[j]?)/\∀j,A.length<=j->j<A.length+seg.length->(y:j<l.length)->l[j].1=7->∀inner e rest,l.drop (j+1)=inner++e::rest->e.1=0->bm inner 0=O 0->f[j]?=O ((j+1+inner.length:Nat):Int)
 |k,A,[],B,out,st,_,b,L,E,hst=>⟨out,Reach.refl,E,λj _=>rfl,λj h1 X=>by simp at X;omega⟩
 |0,A,o::seg,B,out,st,p,_,_,_,_=>by simp at p
 |k+1,A,o::seg,B,out,st,p,b,L,E,hst=>by
  simp only[cD]at p⊢;have K:l.length=A.length+(seg.length+1)+B.length:=by rw[b];simp;omega
  have s:A.length<l.length:=by omega
  have h:l[A.length]=o:=by
   have:l[A.length]?=O o:=by
    rw[b,cK,cL (aB _),bD];rfl
   rw[aD s]at this;injection this
  by_cases r:o.1=7
  .have hs1:bm seg 1=O 0:=by
    simp only[bm]at L;rw[Zh,Zh,zE r]at L;exact L
   obtain⟨inner,e,rest,h1,X,h3,h4⟩:=Cs _ seg 0 (aB _) hs1;subst h1;simp only[cM,cD]at p K⊢
   have hd:l.drop (A.length+1)=inner++e::(rest++B):=by
    rw[b,cK,dG,dH (by omega),show A.length+1-A.length=1 by omega];simp
   have u:(A++[o]).length=A.length+1:=by simp
   obtain⟨S1,V,l1,M,F⟩:=O1 D k (A++[o]) inner (e::(rest++B)) (out.set A.length (-1)) (st++[(A.length:Int)]) (by omega) (by rw[b];simp) h3 (by simp[E]) (by simp;omega);rw[u]at V M F;have J:A.length+1+inner.length<l.length:=by omega
   have I:l[A.length+1+inner.length]=e:=by
    have h5:(l.drop (A.length+1))[inner.length]?=O e:=by
     rw[hd,cL (aB _),bD];rfl
    rw[dJ,aD J]at h5;injection h5
   have c1:=Yd (st:=st) D (by omega) J (by rw[I];exact X) l1 s;have hA2:(A++o::(inner++[e])).length=A.length+1+inner.length+1:=by simp;omega
   obtain⟨S2,r2,l3,k2,g2⟩:=O1 D k (A++o::(inner++[e])) rest B (((S1.set (A.length+1+inner.length) (-1)).set (A.length+1+inner.length) (A.length:Int)).set A.length ((A.length+1+inner.length:Nat):Int)) st (by omega) (by rw[b];simp) h4 (by simp[l1]) (by omega);rw[hA2]at r2 k2 g2;refine⟨S2, ?_,l3,λj y=> ?_,λj h5 h6 y p c W d N Q T=> ?_⟩
   .have h0:=Reach.one (aj9 (out:=out) (st:=st) D (by omega) s (by rw[h];exact r) E);have H:=((h0.trans V).trans (Reach.one c1)).trans r2;rw[show 1+inner.length+1+rest.length=inner.length+(rest.length+1)+1 by omega,show A.length+1+inner.length+1+rest.length=A.length+(inner.length+(rest.length+1)+1)by omega]at H;exact H
   .rw[k2 j (by omega),cB (by omega),cB (by omega),cB (by omega),M j (by omega),cB (by omega)]
   .by_cases z:A.length+1+inner.length+1<=j
    .exact g2 j z (by omega) y p c W d N Q T
    .rw[k2 j (by omega)];by_cases q:A.length=j
     .subst q;rw[cY (by simp;omega)];have:=xz (hd.symm.trans N) h3 T X Q;subst this;rfl
     .have hj3:j<A.length+1+inner.length:=by
       by_cases C:j<A.length+1+inner.length
       .exact C
       .exfalso;have C:j=A.length+1+inner.length:=by omega
        subst C;rw[I]at p;omega
      rw[cB q,cB (by omega),cB (by omega)];exact F j (by omega) hj3 y p c W d N Q T
  .obtain⟨hsr,hko,_⟩:=MH L r;have u:(A++[o]).length=A.length+1:=by simp
   have c1:=aJ9 (out:=out) (st:=st) D (by omega) s (by rw[h];exact hko) E;obtain⟨S1,V,l1,M,F⟩:=O1 D k (A++[o]) seg B (out.set A.length (-1)) st (by omega) (by rw[b];simp) hsr (by simp[E]) (by omega);rw[u]at V M F;refine⟨S1, ?_,l1,λj y=> ?_,λj h5 h6 y p c W d N Q T=> ?_⟩
   .have H:=(Reach.one c1).trans V;rw[show 1+seg.length=seg.length+1 by omega,show A.length+1+seg.length=A.length+(seg.length+1)by omega]at H;exact H
   .rw[M j (by omega),cB (by omega)]
   .by_cases z:A.length+1<=j
    .exact F j z (by omega) y p c W d N Q T
    .have q:j=A.length:=by omega
     subst q;exact(r (by rw[<-h];exact p)).elim
theorem Js (o:l.length<=8192)(p:bm l 0=O 0): ∃m,jN l=O (0,m)/\MOK l m:=by
 obtain⟨S',j,q,y,f⟩:=O1 (l:=l) o _ [] l [] (bB ((l.length:Int)).toNat (0:Int)) [] (aB _) (by simp) p (by simp) (by simp);rw[show([]:List ci).length+l.length=l.length by simp]at j f
 have b:aq (cw l) cx ((0:Int),Za,bB ((l.length:Int)).toNat (0:Int),([]:Zd),([]:Zd))=O (Za,S',[],[]):=by
  have h:=j (18446744073709551616-l.length);rw[show 18446744073709551616-l.length+l.length=cx by unfold cx;omega,show 18446744073709551616-l.length=(18446744073709551615-l.length)+1 by omega]at h;refine h.trans ?_;rw[bj];simp only[cw];rw[Ze,zD];rfl
 refine⟨S', ?_,⟨q,λi hi k c e d r s u=>f i (cU _) hi hi k c e d r s u⟩⟩;unfold jN;rw[zB (show(0:Int)<=(l.length:Int)by omega),zB (show(l.length:Int)<=(l.length:Int)by omega),zB (show 8*(l.length:Int)<=140737488355328 by omega)];show gd Za _=_;rw[bz,b];rfl
end
section
variable {l:List ci}
theorem X1 {sz:Zd}{pre:List (Int×Int)}(C:l.length<=8192)(D:pre.length<=8192)(hi:i<l.length):
  ck l ((i:Int),sz,rds,pre++[(a,w)])=(cond (Zc (l[i].1=7))
   (O (.inl (((i+1:Nat):Int),sz,rds,pre++[(a,w)]++[((i:Int),0)])))
   (cond (Zc (l[i].1=0))
    ((rd l a).bind λs=>
    (tb w s.2.2.2.2).bind λb=>
    cond (!b.2)
     (O (.inr ((9,sz,rds,pre++[(a,w)]))))
     ((ix a sz.length).bind λf=>
     (sz[f]?).bind λz=>
     (ix a rds.length).bind λh=>
     (rds[h]?).bind λA=>
     gd (ej 0 (pre.length:Int) (pre.length+1)) ((ix (zH zI ((pre.length:Int)-1)) pre.length).bind λo=>
     ((pre++[(a,w)])[(0+o)]?).bind λu=>
     (xX ([u.2,b.1])).bind λp=>
     (ix (zH zI ((pre.length:Int)-1)) pre.length).bind λj=>
     ((pre++[(a,w)])[(0+j)]?).bind λy=>
     O (.inl (((i+1:Nat):Int),(dM sz f b.1),(dM rds h w),(List.take pre.length ((dM (pre++[(a,w)]) (0+j) ((y.1,p))))))))))
    ((jq l[i].1 l[i].2.1 l[i].2.2.1 l[i].2.2.2.1 l[i].2.2.2.2).bind λq=>
    cond (q.2)
     ((ix (i:Int) sz.length).bind λk=>
     (sz[k]?).bind λB=>
     O (.inl (((i+1:Nat):Int),(dM sz k 1),rds,pre++[(a,zH zI (w+1))])))
     (O (.inl (((i+1:Nat):Int),sz,rds,pre++[(a,w)])))))):=by
 have d:(pre++[(a,w)]).length=pre.length+1:=by simp
 have c:(pre++[(a,w)])[pre.length]?=O (a,w):=by
  rw[cL (aB _),bD];rfl
 have e: ∀r,(pre++[(a,w)]).set pre.length (a,r)=pre++[(a,r)]:=by
  intro r;rw[dN _ _ (aB _),bD];rfl
 simp only[ck];rw[zB (show(i:Int)<(l.length:Int)by omega),zC,cn hi];simp only[zG];rw[d,ad (n:=((pre.length+1:Nat):Int)-1) (by omega),show((pre.length+1:Nat):Int)-1=(pre.length:Int)by omega,bp (show pre.length<pre.length+1 by omega)];simp only[zG];rw[c,ad (n:=(i:Int)+1) (by omega),bt (by omega) (by omega),show(i:Int)+1=((i+1:Nat):Int)by omega];simp only[zG];rw[e,show((pre.length:Int).toNat-0)=pre.length by omega]
theorem aU2 {sz:Zd}{pre:List (Int×Int)}(c:l.length<=8192)(d:pre.length<=8192)(hi:i<l.length)(b:0<l[i].1/\l[i].1<7)(e:sz.length=l.length)(f:0<=w/\w<=1000000000):
  ck l ((i:Int),sz,rds,pre++[(a,w)])=O (.inl (((i+1:Nat):Int),sz.set i 1,rds,pre++[(a,w+1)])):=by
 rw[X1 c d hi,Ze,Ze];simp only[zD];rw[FH b];simp only[zG,zC];rw[bp (show i<sz.length by omega)];simp only[zG];rw[aD (show i<sz.length by omega)];simp only[zG];rw[ad (n:=w+1) (by omega)]
theorem aB9 {sz:Zd}{pre:List (Int×Int)}(c:l.length<=8192)(d:pre.length<=8192)(hi:i<l.length)(b:l[i].1=7):
  ck l ((i:Int),sz,rds,pre++[(a,w)])=O (.inl (((i+1:Nat):Int),sz,rds,pre++[(a,w)]++[((i:Int),0)])):=by
 rw[X1 c d hi,zB b,zC]
theorem aj0 {b:Nat}{sz:Zd}{pre:List (Int×Int)}{w2 n:Int}(p:l.length<=8192)(y:pre.length<8192)(hi:i<l.length)(o:l[i].1=0)(c:b<l.length)(s:sz.length=l.length)(r:rds.length=l.length)(k:0<=w/\w<=1000000000)(u:0<=w2/\w2<=1000000000)
  (j:0<=l[b].2.2.2.2/\l[b].2.2.2.2<=18446744073709551615) (h:zj w l[b].2.2.2.2=O n):
  ck l ((i:Int),sz,rds,pre++[(a,w2)]++[((b:Int),w)])=O (.inl (((i+1:Nat):Int),sz.set b n,rds.set b w,pre++[(a,w2+n)])):=by
 have e:(pre++[(a,w2)]).length=pre.length+1:=by simp
 rw[X1 p (by omega) hi,Ze,zB o];simp only[zD,zC];rw[cn c];simp only[zG];rw[LL ⟨k.1,by omega⟩ j,h];have q:=GG k.1 j.1 h;simp only[zG,dA,zD];rw[bp (show b<sz.length by omega)];simp only[zG];rw[aD (show b<sz.length by omega)];simp only[zG];rw[bp (show b<rds.length by omega)];simp only[zG];rw[aD (show b<rds.length by omega)];simp only[zG];rw[Zk,bz,e,ad (n:=((pre.length+1:Nat):Int)-1) (by omega),show((pre.length+1:Nat):Int)-1=(pre.length:Int)by omega,bp (show pre.length<pre.length+1 by omega)];simp only[zG,cS]
 have d:(pre++[(a,w2)]++[((b:Int),w)])[pre.length]?=O (a,w2):=by
  rw[cK,cL (aB _),bD];rfl
 rw[d];simp only[zG];rw[Rl _ _ (by omega) q];simp only[zG]
 have f:((pre++[(a,w2)]++[((b:Int),w)]).set pre.length (a,w2+n)).take (pre.length+1)=pre++[(a,w2+n)]:=by
  rw[cK,dN _ _ (aB _),bD];show(pre++[(a,w2+n),((b:Int),w)]).take (pre.length+1)=_;rw[show [(a,w2+n),((b:Int),w)]=[(a,w2+n)]++[((b:Int),w)]from rfl,<-cK,dP];simp
 rw[f]
def ax3 (l:List ci)(j:Nat)(a b:Int):Prop:= ∀h:j<l.length,(l[j].1=7->∀c e d,l.drop (j+1)=c++e::d->e.1=0->bm c 0=O 0->Q9 c=O b/\zj b l[j].2.2.2.2=O a)/\(l[j].1≠7->b=0/\a=if l[j].1=0 then 0 else 1)
theorem Uf (M:l.length<=8192)(hv: ∀o∈l,0<=o.2.2.2.2/\o.2.2.2.2<=18446744073709551615): ∀(k:Nat) (A seg B:List ci) (S R:Zd) (pre:List (Int×Int)) (p w t:Int),seg.length<=k->l=A++seg++B->bm seg 0=O 0->Q9 seg=O t->S.length=l.length->R.length=l.length->pre.length<=A.length->0<=w/\w<=65537*A.length->(∀j,A.length<=j->j<A.length+seg.length->S[j]?=O 0/\R[j]?=O 0)->
  ∃S' R',Reach (ck l) seg.length ((A.length:Int),S,R,pre++[(p,w)]) (((A.length+seg.length:Nat):Int),S',R',pre++[(p,w+t)])/\S'.length=l.length/\R'.length=l.length/\(0<=t/\t<=65537*seg.length)/\
   (∀j,¬(A.length<=j/\j<A.length+seg.length)->S'[j]?=S[j]?/\R'[j]?=R[j]?)/\∀j,A.length<=j->j<A.length+seg.length->∃a b,S'[j]?=O a/\R'[j]?=O b/\ax3 l j a b
 |k,A,[],B,S,R,pre,p,w,t,_,d,N,q,X,hR,hpre,hw,H=>by
  injection q with q
  subst q;refine⟨S,R, ?_,X,hR,⟨dC _,by simp⟩,λj _=>⟨rfl,rfl⟩,λj h1 L=> ?_⟩
  .rw[dB];exact Reach.refl
  .simp at L;omega
 |0,A,o::seg,B,S,R,pre,p,w,t,hk,_,_,_,_,_,_,_,_=>by simp at hk
 |k+1,A,o::seg,B,S,R,pre,p,w,t,hk,d,N,q,X,hR,hpre,hw,H=>by
  simp only[cD]at hk H⊢;have hlen:l.length=A.length+(seg.length+1)+B.length:=by rw[d];simp;omega
  have D:A.length<l.length:=by omega
  have f:l[A.length]=o:=by
   have:l[A.length]?=O o:=by
    rw[d,cK,cL (aB _),bD];rfl
   rw[aD D]at this;injection this
  by_cases u:o.1=7
  .have hs1:bm seg 1=O 0:=by
    simp only[bm]at N;rw[Zh,Zh,zE u]at N;exact N
   obtain⟨c,e,r,h1,L,h3,h4⟩:=Cs _ seg 0 (aB _) hs1;subst h1;simp only[cM,cD]at hk H hlen⊢;obtain⟨K,hQ⟩:=NM N u L h3;rw[hQ]at q;obtain⟨wi,hwi,q⟩:=ah q;obtain⟨b,hb,q⟩:=ah q;cases s:Q9 r with
   |none=>rw[s]at q;cases q
   |some tr=>
   rw[s]at q;injection q with q
   have q:b+tr=t:=q;have hov:0<=o.2.2.2.2/\o.2.2.2.2<=18446744073709551615:=by rw[<-f];exact hv _ (cP D)
   have hd:l.drop (A.length+1)=c++e::(r++B):=by
    rw[d,cK,dG,dH (by omega),show A.length+1-A.length=1 by omega];simp
   have F:(A++[o]).length=A.length+1:=by simp
   obtain⟨S1,R1,r1,l1,l2,⟨t1,t2⟩,y,Q⟩:=Uf M hv k (A++[o]) c (e::(r++B)) S R (pre++[(p,w)]) (A.length:Int) 0 wi (by omega) (by rw[d];simp) h3 hwi X hR (by simp;omega) (by omega) (λj z E=>H j (by omega) (by omega));rw[F]at r1 y Q;have hei:A.length+1+c.length<l.length:=by omega
   have I:l[A.length+1+c.length]=e:=by
    have z:(l.drop (A.length+1))[c.length]?=O e:=by
     rw[hd,cL (aB _),bD];rfl
    rw[dJ,aD hei]at z;injection z
   have hbn:=GG t1 hov.1 hb;have c1:=aj0 (pre:=pre) (a:=p) (w2:=w) M (by omega) hei (by rw[I];exact L) D l1 l2 (w:=0+wi) (by omega) (by omega) (by rw[f];exact hov) (n:=b) (by rw[f,cN];exact hb);have W:(A++o::(c++[e])).length=A.length+1+c.length+1:=by simp;omega
   obtain⟨S2,R2,r2,l3,l4,⟨t3,t4⟩,k2,g2⟩:=Uf M hv k (A++o::(c++[e])) r B (S1.set A.length b) (R1.set A.length (0+wi)) pre p (w+b) tr (by omega) (by rw[d];simp) K s (by simp[l1]) (by simp[l2]) (by omega) (by omega) (λj z E=>by
    rw[W]at z E;rw[cB (by omega),cB (by omega),(y j (by omega)).1,(y j (by omega)).2]
    exact H j (by omega) (by omega))
   rw[W]at r2 k2 g2;refine⟨S2,R2, ?_,l3,l4,⟨by omega,by omega⟩,λj hj=> ?_,λj z E=> ?_⟩
   .have h0:=Reach.one (aB9 (sz:=S) (rds:=R) (pre:=pre) (a:=p) (w:=w) M (by omega) D (by rw[f];exact u));have V:=((h0.trans r1).trans (Reach.one c1)).trans r2;rw[show 1+c.length+1+r.length=c.length+(r.length+1)+1 by omega,cQ,q,show A.length+1+c.length+1+r.length=A.length+(c.length+(r.length+1)+1)by omega]at V;exact V
   .rw[(k2 j (by omega)).1,(k2 j (by omega)).2,cB (by omega),cB (by omega),(y j (by omega)).1,(y j (by omega)).2];exact⟨rfl,rfl⟩
   .by_cases J:A.length+1+c.length+1<=j
    .exact g2 j J (by omega)
    .rw[(k2 j (by omega)).1,(k2 j (by omega)).2];by_cases C:A.length=j
     .subst C;rw[cY (by omega),cY (by omega)];refine⟨_,_,rfl,rfl,λh=>⟨λ_ inner' e' rest' p1 p2 p3=> ?_,λT=>(T (by rw[f];exact u)).elim⟩⟩;have:=xz (hd.symm.trans p1) h3 p3 L p2;subst this;rw[cN,f];exact⟨hwi,hb⟩
     .rw[cB C,cB C];by_cases hj3:j<A.length+1+c.length
      .exact Q j (by omega) hj3
      .have hj4:j=A.length+1+c.length:=by omega
       subst hj4;rw[(y _ (by omega)).1,(y _ (by omega)).2,(H _ z E).1,(H _ z E).2];refine⟨0,0,rfl,rfl,λh=>⟨λT=> ?_,λ_=>⟨rfl, ?_⟩⟩⟩
       .rw[I]at T;omega
       .rw[I,zE L]
  .obtain⟨K,hko,hQ⟩:=MH N u;rw[hQ]at q;cases s:Q9 seg with
   |none=>rw[s]at q;cases q
   |some tr=>
   rw[s]at q;injection q with q
   have q:1+tr=t:=q;have F:(A++[o]).length=A.length+1:=by simp
   have c1:=aU2 (sz:=S) (rds:=R) (pre:=pre) (a:=p) (w:=w) M (by omega) D (by rw[f];exact hko) X (by omega)
   obtain⟨S1,R1,r1,l1,l2,⟨t1,t2⟩,y,Q⟩:=Uf M hv k (A++[o]) seg B (S.set A.length 1) R pre p (w+1) tr (by omega) (by rw[d];simp) K s (by simp[X]) hR (by omega) (by omega) (λj z E=>by
    rw[F]at z E;rw[cB (by omega)]
    exact H j (by omega) (by omega))
   rw[F]at r1 y Q;refine⟨S1,R1, ?_,l1,l2,⟨by omega,by omega⟩,λj hj=> ?_,λj z E=> ?_⟩
   .have V:=(Reach.one c1).trans r1;rw[show 1+seg.length=seg.length+1 by omega,cQ,q,show A.length+1+seg.length=A.length+(seg.length+1)by omega]at V;exact V
   .rw[(y j (by omega)).1,(y j (by omega)).2,cB (by omega)];exact⟨rfl,rfl⟩
   .by_cases J:A.length+1<=j
    .exact Q j J (by omega)
    .have C:j=A.length:=by omega
     subst C;rw[(y _ (by omega)).1,(y _ (by omega)).2,cY (by omega),(H _ z E).2];refine⟨1,0,rfl,rfl,λh=>⟨λT=>(u (by rw[<-f];exact T)).elim,λ_=>⟨rfl, ?_⟩⟩⟩;rw[f,Zh]
end
theorem Pl {l:List ci}(J:l.length<=4096)(B: ∀o∈l,0<=o.2.2.2.2/\o.2.2.2.2<=18446744073709551615):
  ∃r,kl l=O r/\r.1=(da l).1/\r.2.1=(da l).2/\(((da l).2≠0/\r.2.2=([],[]))∨((da l).2=0/\bm l 0=O 0/\r.2.2.1.length=l.length/\r.2.2.2.length=l.length/\∀j,j<l.length->∃a b,r.2.2.1[j]?=O a/\r.2.2.2[j]?=O b/\ax3 l j a b)):=by
 have f:=vY (by omega) B;unfold gb at f;obtain⟨r,d,f⟩:=ah f;injection f with f
 refine⟨r,d,by rw[<-f],by rw[<-f], ?_⟩;unfold kl at d;obtain⟨m,E⟩:=yG (l:=l) (by omega);rw[E]at d;by_cases k:bm l 0=O 0
 .simp only[zE k]at d;simp only[zG]at d;rw[zA (by simp),zD]at d;rw[zB (show(0:Int)<=(l.length:Int)by omega),zB (show(l.length:Int)<=(l.length:Int)by omega),zB (show 8*(l.length:Int)<=140737488355328 by omega)]at d;have q: ∀{β:Type} {y:Option β},gd (dQ 1 (Sh.w (.int .i64))&&Za&&Za&&Za&&Nat.ble 1 8) y=y:=λ{β y}=>rfl
  rw[q,q]at d;cases u:Q9 l with
  |none=>
   have e:da l=(0,9):=by unfold da;rw[zE k,u]
   left;refine⟨by rw[e];simp, ?_⟩;obtain⟨c,I,d⟩:=ah d;obtain⟨p,D,d⟩:=ah d;rw[ag]at d;split at d
   .injection d with d
    rw[<-d]
   .rename_i L;exfalso;obtain⟨j,s,d⟩:=ah d;obtain⟨x,K,d⟩:=ah d;injection d with d
    rw[<-d,e]at f;injection f with _ f
    cases f
  |some t=>
   obtain⟨S',R',C,F,H,⟨N,Q⟩,M,z⟩:=Uf (l:=l) (by omega) B _ [] l [] (bB ((l.length:Int)).toNat (0:Int)) (bB ((l.length:Int)).toNat (0:Int)) [] 0 0 t (aB _) (by simp) k u (by simp) (by simp) (by simp) (by simp) (λj _ s=>by
    rw[List.getElem?_replicate,zE (by simpa using s)]
    exact⟨rfl,rfl⟩)
   rw[show([]:List ci).length+l.length=l.length by simp]at C z
   have h:aq (ck l) cx ((0:Int),bB ((l.length:Int)).toNat (0:Int),bB ((l.length:Int)).toNat (0:Int),[((0:Int),(0:Int))])=O (0,S',R',[(0,0+t)]):=by
    have A:=C (18446744073709551616-l.length);rw[show 18446744073709551616-l.length+l.length=cx by unfold cx;omega,show 18446744073709551616-l.length=(18446744073709551615-l.length)+1 by omega]at A;refine A.trans ?_;rw[bj];simp only[ck];rw[Ze,zD];rfl
   rw[h,cN]at d;have d:((((cond (Zc (65536<t)) (O (9:Int)) (O 0)).bind λp=>cond (Zc (p≠0)) (O ((0:Int),p,([]:Zd),([]:Zd))) (O (t,0,S',R')))))=O r:=d;rw[ag]at d;have e:da l=if 65536<t then(0,9)else(t,0):=by unfold da;rw[zE k,u]
   by_cases c:65536<t
   .rw[zE c]at d e;left;injection d with d
    rw[<-d,e];exact⟨by simp,rfl⟩
   .rw[zF c]at d e;right;injection d with d
    rw[<-d,e];exact⟨rfl,k,F,H,λj s=>z j (cU _) s⟩
 .simp only[zF k]at d;left;have e:da l=(0,6):=by unfold da;rw[zF k]
  have d:O ((0:Int),(6:Int),([]:Zd),([]:Zd))=O r:=d;injection d with d
  rw[<-d,e];exact⟨by simp,rfl⟩
abbrev wo :=Int×Int×Int×Int×Int×Int
inductive Fo where
 |nil
 |op (o:ci) (r:Fo)
 |rep (o:ci) (b:Fo) (e:ci) (r:Fo)
def yR (o:ci):Nat:=o.2.2.2.2.toNat
def ce (o:ci)(b:Nat):wo:=(o.1,o.2.1,o.2.2.1,o.2.2.2.1,o.2.2.2.2,(b:Int))
namespace Fo
def src :Fo->List ci
 | .nil=>[]
 | .op o r=>o::r.src
 | .rep o b e r=>o::(b.src++e::r.src)
def Ok :Fo->Prop
 | .nil=>True
 | .op o r=>(0<o.1/\o.1<7)/\r.Ok
 | .rep o b e r=>(o.1=7/\e.1=0)/\b.Ok/\r.Ok
def n :Fo->Nat
 | .nil=>0
 | .op _ r=>1+r.n
 | .rep o b _ r=>b.n*yR o+r.n
def len :Fo->Nat
 | .nil=>0
 | .op _ r=>r.len+1
 | .rep _ b _ r=>b.len+r.len+2
def hi :Fo->Nat
 | .nil=>0
 | .op _ r=>r.hi
 | .rep _ b _ r=>max (b.hi+1) r.hi
def bare :Fo->Fo
 | .nil=> .nil
 | .op o r=> .op o r.bare
 | .rep o b e r=>if b.n*yR o=0 then r.bare else .rep o b.bare e r.bare
def unroll :Fo->List ci
 | .nil=>[]
 | .op o r=>o::r.unroll
 | .rep o b _ r=>(bB (yR o) b.unroll).flatten++r.unroll
def code :Fo->Nat->List wo
 | .nil,_=>[]
 | .op o r,p=>ce o 0::r.code (p+1)
 | .rep o b e r,p=>ce o (p+b.len+2)::(b.code (p+1)++ce e (p+1)::r.code (p+b.len+2))
def Pos :Fo->Prop
 | .nil=>True
 | .op _ r=>r.Pos
 | .rep o b _ r=>0<b.n*yR o/\b.Pos/\r.Pos
def steps :Fo->Nat
 | .nil=>0
 | .op _ r=>1+r.steps
 | .rep o b _ r=>1+yR o*(b.steps+1)+r.steps
theorem src_len : ∀f:Fo,f.src.length=f.len
 | .nil=>rfl
 | .op o r=>by simp only[src,len,cD,src_len r]
 | .rep o b e r=>by simp only[src,len,cD,cM,src_len r,src_len b];omega
theorem code_len : ∀(f:Fo) (p:Nat),(f.code p).length=f.len
 | .nil,_=>rfl
 | .op o r,p=>by simp only[code,len,cD,code_len r]
 | .rep o b e r,p=>by simp only[code,len,cD,cM,code_len r,code_len b];omega
theorem scan_src : ∀(f:Fo),f.Ok->∀(r:List ci) (d:Nat),bm (f.src++r) d=bm r d
 | .nil,_,r,d=>rfl
 | .op o f,h,r,d=>by
  obtain⟨j,c⟩:=h;simp only[src,cO,bm];rw[Zh,Zh,Zh];exact scan_src f c r d
 | .rep o b e f,h,r,d=>by
  obtain⟨⟨j,c⟩,k,p⟩:=h;simp only[src,cO,cK,bm];rw[Zh,Zh,zE j,scan_src b k];simp only[bm];rw[Zh,zE c,Zh];exact scan_src f p r d
theorem scan0 {f:Fo}(h:f.Ok):bm f.src 0=O 0:=by
 have:=scan_src f h [] 0;rw[dF]at this;exact this
theorem parse : ∀(N:Nat) (l:List ci),l.length<=N->bm l 0=O 0->∃f:Fo,f.Ok/\f.src=l
 |_,[],_,_=>⟨.nil,trivial,rfl⟩
 |0,o::l,h,_=>by simp at h
 |N+1,o::l,h,j=>by
  simp only[cD]at h;by_cases q:o.1=7
  .have s:bm l 1=O 0:=by
    simp only[bm]at j;rw[Zh,Zh,zE q]at j;exact j
   obtain⟨c,e,d,k,p,B,C⟩:=Cs _ l 0 (aB _) s;subst k;simp only[cM,cD]at h;obtain⟨b,z,A⟩:=parse N c (by omega) B;obtain⟨r,u,y⟩:=parse N d (by omega) C;exact⟨.rep o b e r,⟨⟨q,p⟩,z,u⟩,by simp only[src,A,y]⟩
  .obtain⟨k,p,_⟩:=MH j q;obtain⟨r,u,y⟩:=parse N l (by omega) k;exact⟨.op o r,⟨p,u⟩,by simp only[src,y]⟩
theorem Q9_n : ∀(f:Fo),f.Ok->(∀o∈f.src,0<=o.2.2.2.2)->∀{t:Int},Q9 f.src=O t->t=(f.n:Int)
 | .nil,_,_,t,h=>by
  injection h with h
  exact h.symm
 | .op o r,h,u,t,d=>by
  obtain⟨z,p⟩:=h;have A:=scan0 (f:= .op o r) ⟨z,p⟩;obtain⟨_,_,q⟩:=MH (o:=o) (s:=r.src) A (by omega);have d:Q9 (o::r.src)=O t:=d;rw[q]at d;cases k:Q9 r.src with
  |none=>rw[k]at d;cases d
  |some m=>
   rw[k]at d;injection d with d
   have:=Q9_n r p (λx y=>u x (List.mem_cons_of_mem _ y)) k;subst this;rw[<-d];show(1:Int)+(r.n:Int)=((1+r.n:Nat):Int);omega
 | .rep o b e r,h,u,t,d=>by
  obtain⟨⟨z,p⟩,q,C⟩:=h;have A:=scan0 (f:= .rep o b e r) ⟨⟨z,p⟩,q,C⟩;obtain⟨_,H⟩:=NM (o:=o) (e:=e) (inner:=b.src) (rest:=r.src) A z p (scan0 q);have d:Q9 (o::(b.src++e::r.src))=O t:=d;rw[H]at d;obtain⟨w,I,d⟩:=ah d;obtain⟨c,j,d⟩:=ah d;cases k:Q9 r.src with
  |none=>rw[k]at d;cases d
  |some m=>
   rw[k]at d;injection d with d
   have D:=Q9_n r C (λx y=>u x (by simp only[src];simp[y])) k;have E:=Q9_n b q (λx y=>u x (by simp only[src];simp[y])) I;have B:0<=o.2.2.2.2:=u o (by simp[src])
   have F:c=(b.n:Int)*(yR o:Int):=by
    unfold zj at j;rw[E]at j;unfold yR;rw[dW B];split at j
    .rename_i J;injection j with j
     rw[J,Int.zero_mul,j]
    split at j
    .cases j
    split at j
    .cases j
    .injection j with j
     exact j.symm
   rw[<-d,D,F];show(b.n:Int)*(yR o:Int)+(r.n:Int)=((b.n*yR o+r.n:Nat):Int);simp
theorem hmax_src : ∀(f:Fo),f.Ok->∀(r:List ci) (d m:Nat),hmax (f.src++r) d m=hmax r d (max m (if f.hi=0 then 0 else d+f.hi))
 | .nil,_,r,d,m=>by
  simp only[src,cR,hi,zE];rw[Nat.max_zero]
 | .op o f,h,r,d,m=>by
  obtain⟨j,c⟩:=h;simp only[src,cO,hmax,hi];rw[Zh,Zh];exact hmax_src f c r d m
 | .rep o b e f,h,r,d,m=>by
  obtain⟨⟨j,c⟩,k,p⟩:=h;simp only[src,cO,cK,hmax,hi];rw[zE j,hmax_src b k];simp only[hmax];rw[Zh,zE c,eS,hmax_src f p]
  congr 1
  have e0:(if max (b.hi+1) f.hi=0 then 0 else d+max (b.hi+1) f.hi)=d+max (b.hi+1) f.hi:=zF (by omega);refine Eq.trans ?_ (congrArg (max m) e0.symm);split<;>split<;>omega
theorem hi_le {f:Fo}(h:f.Ok):f.hi<=hmax f.src 0 0:=by
 have:=hmax_src f h [] 0 0;rw[dF]at this;rw[this];simp only[hmax];split<;>omega
theorem bare_n : ∀f:Fo,f.bare.n=f.n
 | .nil=>rfl
 | .op o r=>by simp only[bare,n,bare_n r]
 | .rep o b e r=>by
  simp only[bare,n];split
  .rename_i h;rw[h,bare_n r,cS]
  .simp only[n,bare_n b,bare_n r]
theorem unroll_len : ∀f:Fo,f.unroll.length=f.n
 | .nil=>rfl
 | .op o r=>by simp only[unroll,n,cD,unroll_len r];omega
 | .rep o b e r=>by
  simp only[unroll,n,cM,unroll_len r];rw[eN,eO,eR,unroll_len b,eG]
theorem bare_unroll : ∀f:Fo,f.bare.unroll=f.unroll
 | .nil=>rfl
 | .op o r=>by simp only[bare,unroll,bare_unroll r]
 | .rep o b e r=>by
  simp only[bare,unroll];split
  .rename_i h
   have c:((bB (yR o) b.unroll).flatten).length=0:=by
    rw[eN,eO,eR,unroll_len b,eG,h]
   rw[List.eq_nil_of_length_eq_zero c,cR,bare_unroll r]
  .simp only[unroll,bare_unroll b,bare_unroll r]
theorem bare_ok : ∀f:Fo,f.Ok->f.bare.Ok
 | .nil,_=>trivial
 | .op o r,h=>⟨h.1,bare_ok r h.2⟩
 | .rep o b e r,h=>by
  simp only[bare];split
  .exact bare_ok r h.2.2
  .exact⟨h.1,bare_ok b h.2.1,bare_ok r h.2.2⟩
theorem bare_pos : ∀f:Fo,f.bare.Pos
 | .nil=>trivial
 | .op o r=>bare_pos r
 | .rep o b e r=>by
  simp only[bare];split
  .exact bare_pos r
  .rename_i h;exact⟨by rw[bare_n];omega,bare_pos b,bare_pos r⟩
theorem bare_hi : ∀f:Fo,f.bare.hi<=f.hi
 | .nil=>aB _
 | .op o r=>bare_hi r
 | .rep o b e r=>by
  simp only[bare,hi];have c:=bare_hi b;have d:=bare_hi r;split
  .omega
  .simp only[hi];omega
theorem bare_len : ∀f:Fo,f.bare.len<=f.len
 | .nil=>aB _
 | .op o r=>by simp only[bare,len];exact Nat.succ_le_succ (bare_len r)
 | .rep o b e r=>by
  simp only[bare,len];have c:=bare_len b;have d:=bare_len r;split
  .omega
  .simp only[len];omega
theorem bare_mem : ∀(f:Fo) {o:ci},o∈f.bare.src->o∈f.src
 | .nil,o,h=>h
 | .op o r,x,h=>by
  simp only[bare,src,eC]at h⊢;rcases h with h|h
  .exact .inl h
  .exact .inr (bare_mem r h)
 | .rep o b e r,x,h=>by
  simp only[bare]at h;split at h
  .simp only[src,eC,eP];exact .inr (.inr (.inr (bare_mem r h)))
  .simp only[src,eC,eP]at h⊢;rcases h with h|h|h|h
   .exact .inl h
   .exact .inr (.inl (bare_mem b h))
   .exact .inr (.inr (.inl h))
   .exact .inr (.inr (.inr (bare_mem r h)))
theorem steps_le : ∀f:Fo,f.Pos->f.steps<=(2*f.len+1)*f.n
 | .nil,_=>aB _
 | .op o r,h=>by
  have c:=steps_le r h;simp only[steps,len,n];rw[eF,dS];have:(2*r.len+1)*r.n<=(2*(r.len+1)+1)*r.n:=eH _ (by omega);omega
 | .rep o b e r,h=>by
  obtain⟨c,d,j⟩:=h;have p:=steps_le b d;have y:=steps_le r j;simp only[steps,len,n]
  have s:0<yR o:=by
   rcases dR (yR o)with h0|h0
   .rw[h0]at c;simp at c
   .exact h0
  have k:0<b.n:=by
   rcases dR b.n with h0|h0
   .rw[h0]at c;simp at c
   .exact h0
  have u:yR o<=b.n*yR o:=Nat.le_mul_of_pos_left _ k
  have z:yR o*(b.steps+1)<=(2*b.len+1)*(b.n*yR o)+b.n*yR o:=by
   rw[eF,dS];have:yR o*b.steps<=yR o*((2*b.len+1)*b.n):=Nat.mul_le_mul_left _ p
   have q:yR o*((2*b.len+1)*b.n)=(2*b.len+1)*(b.n*yR o):=by
    rw[eG,Nat.mul_assoc]
   omega
  have A:(2*r.len+1)*r.n<=(2*(b.len+r.len+2)+1)*r.n:=eH _ (by omega);have B:(2*b.len+3)*(b.n*yR o)<=(2*(b.len+r.len+2)+1)*(b.n*yR o):=eH _ (by omega)
  have C:(2*b.len+3)*(b.n*yR o)=(2*b.len+1)*(b.n*yR o)+b.n*yR o+b.n*yR o:=by
   rw[show 2*b.len+3=(2*b.len+1)+1+1 by omega,Nat.add_mul,Nat.add_mul,Nat.one_mul]
  rw[eF (2*(b.len+r.len+2)+1)];generalize yR o*(b.steps+1)=D at*;generalize (2*(b.len+r.len+2)+1)*(b.n*yR o)=E at*;generalize (2*(b.len+r.len+2)+1)*r.n=F at*;generalize (2*r.len+1)*r.n=H at*;generalize (2*b.len+3)*(b.n*yR o)=I at*;generalize (2*b.len+1)*(b.n*yR o)=J at*;omega
end Fo
def upd (l:Nat->Int)(j:Nat)(v:Int):Nat->Int:=λi=>cond (dQ j i) v (l i)
theorem om (l:Nat->Int)(j:Nat)(v:Int):upd l j v j=v:=by
 unfold upd;rw[Nat.beq_refl];rfl
theorem It {l:Nat->Int}{j:Nat}(h:i≠j):upd l j v i=l i:=by
 unfold upd;cases b:dQ j i with
 |true=>exact(h (Nat.eq_of_beq_eq_true b).symm).elim
 |false=>rfl
def okV (o:ci):Prop:=0<=o.2.2.2.2/\o.2.2.2.2<=18446744073709551615
structure Runs {Z γ S:Type}(g:Z->Option (Z⊕γ))(code:List wo)(st:Nat->Nat->(Nat->Int)->S->Z)(stp:ci->S->S)(Vd:Nat->S->Prop)(good:ci->Prop):Prop where
 op: ∀{p d l s m o to},code[p]?=O (ce o to)->good o->(0<o.1/\o.1<7)->d<=8->Vd (1+m) s->g (st p d l s)=O (.inl (st (p+1) d l (stp o s)))/\Vd m (stp o s)
 rep: ∀{p d l s m o to},code[p]?=O (ce o to)->o.1=7->d<8->Vd m s->g (st p d l s)=O (.inl (st (p+1) (d+1) (upd l d o.2.2.2.2) s))
 nxt: ∀{p d l s m e to},code[p]?=O (ce e to)->e.1=0->d<8->1<l d->l d<=18446744073709551615->Vd m s->g (st p (d+1) l s)=O (.inl (st to (d+1) (upd l d (l d-1)) s))
 out: ∀{p d l s m e to},code[p]?=O (ce e to)->e.1=0->d<8->l d=1->Vd m s->g (st p (d+1) l s)=O (.inl (st (p+1) d (upd l d (l d-1)) s))
section
variable {Z γ S:Type} {g:Z->Option (Z⊕γ)} {code:List wo} {st:Nat->Nat->(Nat->Int)->S->Z} {stp:ci->S->S} {Vd:Nat->S->Prop} {good:ci->Prop}
def WO (stp:ci->S->S)(l:List ci)(s:S):S:=l.foldl (λs o=>stp o s) s
theorem TQ (l r:List ci)(s:S):WO stp (l++r) s=WO stp r (WO stp l s):=List.foldl_append
theorem EN {A B:List wo}{x:wo}{r:List wo}{p:Nat}(b:code=A++(x::r)++B)(c:A.length=p):code[p]?=O x:=by
 subst c;rw[b,cK,cL (aB _),bD];rfl
theorem rounds (C:Runs g code st stp Vd good){p q d t n:Nat}{e:ci}{u:List ci}(A:d<8)(b:code[q]?=O (ce e p))(B:e.1=0)
  (z: ∀(l:Nat->Int) (s:S) (m:Nat),Vd (n+m) s->∃l',(∀i,i<d+1->l' i=l i)/\Reach g t (st p (d+1) l s) (st q (d+1) l' (WO stp u s))/\Vd m (WO stp u s)):
  ∀(k:Nat) (l:Nat->Int) (s:S) (m:Nat),k<18446744073709551615->l d=((k+1:Nat):Int)->Vd (n*(k+1)+m) s->
   ∃l',(∀i,i<d->l' i=l i)/\Reach g ((k+1)*(t+1)) (st p (d+1) l s) (st (q+1) d l' (WO stp (bB (k+1) u).flatten s))/\Vd m (WO stp (bB (k+1) u).flatten s)
 |0,l,s,m,J,D,o=>by
  obtain⟨c,h,r,j⟩:=z l s m (by rw[cS,dS]at o;exact o);have E:(bB (0+1) u).flatten=u:=by simp
  rw[E];have f:c d=1:=by rw[h d (by omega),D];rfl
  refine⟨upd c d (c d-1),λi hi=>by rw[It (by omega),h i (by omega)], ?_,j⟩;have y:=r.trans (Reach.one (C.out (l:=c) b B A f j));rw[show(0+1)*(t+1)=t+1 by omega];exact y
 |k+1,l,s,m,J,D,o=>by
  have K:n*(k+1+1)+m=n+(n*(k+1)+m):=by rw[Nat.mul_succ n (k+1)];omega
  rw[K]at o;obtain⟨c,h,r,j⟩:=z l s _ o;have f:c d=((k+1+1:Nat):Int):=by rw[h d (by omega),D]
  have y:=r.trans (Reach.one (C.nxt (l:=c) b B A (by omega) (by omega) j));obtain⟨L,F,H,I⟩:=rounds C A b B z k (upd c d (c d-1)) (WO stp u s) m (by omega) (by rw[om,f];omega) j;have E:(bB (k+1+1) u).flatten=u++(bB (k+1) u).flatten:=by rw[List.replicate_succ,List.flatten_cons]
  rw[E,TQ];refine⟨L,λi hi=>by rw[F i hi,It (by omega),h i (by omega)], ?_,I⟩;rw[show(k+1+1)*(t+1)=t+1+(k+1)*(t+1)by rw[Nat.succ_mul (k+1)];omega];exact y.trans H
theorem Lz (C:Runs g code st stp Vd good): ∀(f:Fo) {A B:List wo} {p d:Nat} {l:Nat->Int} {s:S} {m:Nat},code=A++f.code p++B->A.length=p->f.Ok->f.Pos->d+f.hi<=8->(∀o∈f.src,good o/\okV o)->Vd (f.n+m) s->
  ∃l',(∀i,i<d->l' i=l i)/\Reach g f.steps (st p d l s) (st (p+f.len) d l' (WO stp f.unroll s))/\Vd m (WO stp f.unroll s)
 | .nil,A,B,p,d,l,s,m,y,z,h,I,E,c,j=>by
  refine⟨l,λ_ _=>rfl,Reach.refl, ?_⟩;have:Fo.nil.n+m=m:=cS m;rw[this]at j;exact j
 | .op o r,A,B,p,d,l,s,m,y,z,h,I,E,c,j=>by
  simp only[Fo.n,Nat.add_assoc]at j;simp only[Fo.hi]at E;obtain⟨J,K⟩:=C.op (d:=d) (l:=l) (EN y z) (c o (by simp[Fo.src])).1 h.1 (by omega) j;have Q:(A++[ce o 0]).length=p+1:=by simp[z]
  obtain⟨l',L,M,N⟩:=Lz C r (A:=A++[ce o 0]) (B:=B) (p:=p+1) (d:=d) (l:=l) (by rw[y];simp[Fo.code]) Q h.2 I E (λx H=>c x (by simp[Fo.src,H])) K;refine⟨l',L, ?_,N⟩;have:=(Reach.one J).trans M;simp only[Fo.steps,Fo.len];rw[show p+(r.len+1)=p+1+r.len by omega];exact this
 | .rep o b e r,A,B,p,d,l,s,m,y,z,h,I,E,c,j=>by
  obtain⟨⟨k1,k2⟩,k3,k4⟩:=h;obtain⟨q1,q2,q3⟩:=I;simp only[Fo.n,Nat.add_assoc]at j;simp only[Fo.hi]at E;have F:=(c o (by simp[Fo.src])).2;unfold okV at F;have hvo:((yR o:Nat):Int)=o.2.2.2.2:=dW F.1
  have hv0:0<yR o:=by
   rcases dR (yR o)with h0|h0
   .rw[h0]at q1;simp at q1
   .exact h0
  obtain⟨k,h⟩: ∃k,yR o=k+1:=⟨yR o-1,by omega⟩
  have J:=C.rep (d:=d) (l:=l) (EN y z) k1 (by omega) j;have Q:(A++[ce o (p+b.len+2)]).length=p+1:=by simp[z]
  have W:code=(A++[ce o (p+b.len+2)])++b.code (p+1)++(ce e (p+1)::r.code (p+b.len+2)++B):=by rw[y];simp[Fo.code]
  have X:code=(A++ce o (p+b.len+2)::b.code (p+1))++(ce e (p+1)::r.code (p+b.len+2))++B:=by rw[y];simp[Fo.code]
  have T:(A++ce o (p+b.len+2)::b.code (p+1)).length=p+1+b.len:=by simp[z,Fo.code_len];omega
  have D:=EN X T
  obtain⟨l1,K,L,M⟩:=rounds C (p:=p+1) (q:=p+1+b.len) (d:=d) (t:=b.steps) (n:=b.n) (e:=e) (u:=b.unroll) (by omega) D k2
   (λl s m hm=>Lz C b W Q k3 q2 (by omega) (λx H=>c x (by simp[Fo.src,H])) hm) k (upd l d o.2.2.2.2) s (r.n+m) (by omega) (by rw[om,<-hvo,h]) (by rw[<-h];exact j)
  have hcr:code=(A++ce o (p+b.len+2)::(b.code (p+1)++[ce e (p+1)]))++r.code (p+b.len+2)++B:=by rw[y];simp[Fo.code]
  have V:(A++ce o (p+b.len+2)::(b.code (p+1)++[ce e (p+1)])).length=p+b.len+2:=by simp[z,Fo.code_len];omega
  obtain⟨l2,N,h6,h7⟩:=Lz C r (d:=d) (l:=l1) hcr V k4 q3 (by omega) (λx H=>c x (by simp[Fo.src,H])) M;simp only[Fo.unroll,Fo.steps,Fo.len];rw[TQ,h];refine⟨l2,λi hi=>by rw[N i hi,K i hi,It (by omega)], ?_,h7⟩;have h8:=((Reach.one J).trans L).trans (show Reach g r.steps (st (p+1+b.len+1) d l1 _) _ from by rw[show p+1+b.len+1=p+b.len+2 by omega];exact h6);rw[show p+(b.len+r.len+2)=p+b.len+2+r.len by omega];exact h8
end
structure Backs {Z γ S:Type}(g:Z->Option (Z⊕γ))(code:List wo)(st:Nat->Nat->(Nat->Int)->S->Z)(stp:ci->S->S)(Vd:Nat->S->Prop)(good:ci->Prop):Prop where
 op: ∀{p d l s m o to},code[p]?=O (ce o to)->good o->(0<o.1/\o.1<7)->d<=8->Vd (1+m) s->g (st (p+1) d l s)=O (.inl (st p d l (stp o s)))/\Vd m (stp o s)
 rep: ∀{p q d l s m o e to},code[p]?=O (ce e (q+1))->e.1=0->code[q]?=O (ce o to)->d<8->Vd m s->g (st (p+1) d l s)=O (.inl (st p (d+1) (upd l d o.2.2.2.2) s))
 nxt: ∀{p d l s m o to},code[p]?=O (ce o (to+1))->to<=code.length->o.1=7->d<8->1<l d->l d<=18446744073709551615->Vd m s->g (st (p+1) (d+1) l s)=O (.inl (st to (d+1) (upd l d (l d-1)) s))
 out: ∀{p d l s m o to},code[p]?=O (ce o (to+1))->o.1=7->d<8->l d=1->Vd m s->g (st (p+1) (d+1) l s)=O (.inl (st p d (upd l d (l d-1)) s))
section
variable {Z γ S:Type} {g:Z->Option (Z⊕γ)} {code:List wo} {st:Nat->Nat->(Nat->Int)->S->Z} {stp:ci->S->S} {Vd:Nat->S->Prop} {good:ci->Prop}
def Xj (stp:ci->S->S)(l:List ci)(s:S):S:=l.foldr stp s
theorem TC (l r:List ci)(s:S):Xj stp (l++r) s=Xj stp l (Xj stp r s):=List.foldr_append
theorem Uw (B:Backs g code st stp Vd good){p q d t n:Nat}{o:ci}{u:List ci}(F:q<=code.length)(A:d<8)(b:code[p]?=O (ce o (q+1)))(D:o.1=7)
  (z: ∀(l:Nat->Int) (s:S) (m:Nat),Vd (n+m) s->∃l',(∀i,i<d+1->l' i=l i)/\Reach g t (st q (d+1) l s) (st (p+1) (d+1) l' (Xj stp u s))/\Vd m (Xj stp u s)):
  ∀(k:Nat) (l:Nat->Int) (s:S) (m:Nat),k<18446744073709551615->l d=((k+1:Nat):Int)->Vd (n*(k+1)+m) s->
   ∃l',(∀i,i<d->l' i=l i)/\Reach g ((k+1)*(t+1)) (st q (d+1) l s) (st p d l' (Xj stp (bB (k+1) u).flatten s))/\Vd m (Xj stp (bB (k+1) u).flatten s)
 |0,l,s,m,K,C,j=>by
  obtain⟨c,f,r,h⟩:=z l s m (by rw[cS,dS]at j;exact j);have E:(bB (0+1) u).flatten=u:=by simp
  rw[E];have e:c d=1:=by rw[f d (by omega),C];rfl
  refine⟨upd c d (c d-1),λi hi=>by rw[It (by omega),f i (by omega)], ?_,h⟩;have y:=r.trans (Reach.one (B.out (l:=c) b D A e h));rw[show(0+1)*(t+1)=t+1 by omega];exact y
 |k+1,l,s,m,K,C,j=>by
  have L:n*(k+1+1)+m=n+(n*(k+1)+m):=by rw[Nat.mul_succ n (k+1)];omega
  rw[L]at j;obtain⟨c,f,r,h⟩:=z l s _ j;have e:c d=((k+1+1:Nat):Int):=by rw[f d (by omega),C]
  have y:=r.trans (Reach.one (B.nxt (l:=c) b F D A (by omega) (by omega) h));obtain⟨M,H,I,J⟩:=Uw B F A b D z k (upd c d (c d-1)) (Xj stp u s) m (by omega) (by rw[om,e];omega) h;have E:(bB (k+1+1) u).flatten=(bB (k+1) u).flatten++u:=by rw[eQ,List.flatten_append];simp
  rw[E,TC];refine⟨M,λi hi=>by rw[H i hi,It (by omega),f i (by omega)], ?_,J⟩;rw[show(k+1+1)*(t+1)=t+1+(k+1)*(t+1)by rw[Nat.succ_mul (k+1)];omega];exact y.trans I
theorem GF (E:Backs g code st stp Vd good): ∀(f:Fo) {A B:List wo} {p d:Nat} {l:Nat->Int} {s:S} {m:Nat},code=A++f.code p++B->A.length=p->f.Ok->f.Pos->d+f.hi<=8->(∀o∈f.src,good o/\okV o)->Vd (f.n+m) s->
  ∃l',(∀i,i<d->l' i=l i)/\Reach g f.steps (st (p+f.len) d l s) (st p d l' (Xj stp f.unroll s))/\Vd m (Xj stp f.unroll s)
 | .nil,A,B,p,d,l,s,m,y,C,h,J,F,c,D=>by
  refine⟨l,λ_ _=>rfl,Reach.refl, ?_⟩;have:Fo.nil.n+m=m:=cS m;rw[this]at D;exact D
 | .op o r,A,B,p,d,l,s,m,y,C,h,J,F,c,D=>by
  simp only[Fo.n]at D;simp only[Fo.hi]at F;have T:(A++[ce o 0]).length=p+1:=by simp[C]
  obtain⟨l',M,N,Q⟩:=GF E r (A:=A++[ce o 0]) (B:=B) (p:=p+1) (d:=d) (l:=l) (m:=1+m) (by rw[y];simp[Fo.code]) T h.2 J F (λx I=>c x (by simp[Fo.src,I])) (by rw[show r.n+(1+m)=1+r.n+m by omega];exact D);obtain⟨K,L⟩:=E.op (d:=d) (l:=l') (EN y C) (c o (by simp[Fo.src])).1 h.1 (by omega) Q;refine⟨l',M, ?_,L⟩;have:=N.trans (Reach.one K);simp only[Fo.steps,Fo.len];rw[show p+(r.len+1)=p+1+r.len by omega,Nat.add_comm 1];exact this
 | .rep o b e r,A,B,p,d,l,s,m,y,C,h,J,F,c,D=>by
  obtain⟨⟨k1,k2⟩,k3,k4⟩:=h;obtain⟨q1,q2,q3⟩:=J;simp only[Fo.n]at D;simp only[Fo.hi]at F;have H:=(c o (by simp[Fo.src])).2;unfold okV at H;have hvo:((yR o:Nat):Int)=o.2.2.2.2:=dW H.1
  have hv0:0<yR o:=by
   rcases dR (yR o)with h0|h0
   .rw[h0]at q1;simp at q1
   .exact h0
  obtain⟨k,h⟩: ∃k,yR o=k+1:=⟨yR o-1,by omega⟩
  have j:=EN y C;have T:(A++[ce o (p+b.len+2)]).length=p+1:=by simp[C]
  have X:code=(A++[ce o (p+b.len+2)])++b.code (p+1)++(ce e (p+1)::r.code (p+b.len+2)++B):=by rw[y];simp[Fo.code]
  have hce:code=(A++ce o (p+b.len+2)::b.code (p+1))++(ce e (p+1)::r.code (p+b.len+2))++B:=by rw[y];simp[Fo.code]
  have V:(A++ce o (p+b.len+2)::b.code (p+1)).length=p+1+b.len:=by simp[C,Fo.code_len];omega
  have z:=EN hce V;have hcr:code=(A++ce o (p+b.len+2)::(b.code (p+1)++[ce e (p+1)]))++r.code (p+b.len+2)++B:=by rw[y];simp[Fo.code]
  have W:(A++ce o (p+b.len+2)::(b.code (p+1)++[ce e (p+1)])).length=p+b.len+2:=by simp[C,Fo.code_len];omega
  obtain⟨l2,Q,h6,h7⟩:=GF E r (d:=d) (l:=l) (m:=b.n*yR o+m) hcr W k4 q3 (by omega) (λx I=>c x (by simp[Fo.src,I])) (by rw[show r.n+(b.n*yR o+m)=b.n*yR o+r.n+m by omega];exact D);have K:=E.rep (d:=d) (l:=l2) z k2 j (by omega) h7
  obtain⟨l1,L,M,N⟩:=Uw E (p:=p) (q:=p+1+b.len) (d:=d) (t:=b.steps) (n:=b.n) (o:=o) (u:=b.unroll) (Nat.le_of_lt (List.getElem?_eq_some_iff.1 z).1) (by omega) (by rw[j];congr 2;omega) k1
   (λl s m hm=>GF E b X T k3 q2 (by omega) (λx I=>c x (by simp[Fo.src,I])) hm) k (upd l2 d o.2.2.2.2) _ m (by omega) (by rw[om,<-hvo,h]) (by rw[<-h];exact h7)
  simp only[Fo.unroll,Fo.steps,Fo.len];rw[TC,h];refine⟨l1,λi hi=>by rw[L i hi,It (by omega),Q i hi], ?_,N⟩;have h8:=(h6.trans (show Reach g 1 _ _ from by rw[show p+b.len+2=p+1+b.len+1 by omega];exact Reach.one K)).trans M;rw[show p+(b.len+r.len+2)=p+b.len+2+r.len by omega,show 1+(k+1)*(b.steps+1)+r.steps=r.steps+1+(k+1)*(b.steps+1)by omega];exact h8
end
end
end Go.V
