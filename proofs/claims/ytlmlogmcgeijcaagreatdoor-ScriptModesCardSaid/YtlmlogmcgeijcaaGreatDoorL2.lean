/- A part of the proof. No condition. -/
import Derived.Test.YtlmlogmcgeijcaaGreatDoorD3
import Derived.Test.YtlmlogmcgeijcaaGreatDoorA10
import Derived.KernelRfl
set_option linter.unusedVariables false
set_option linter.unusedSimpArgs false
set_option linter.unusedSectionVars false
namespace Go.V
open Go.Ab
open Option renaming some->O,none->Y
open Bool renaming true->Za,false->Zb
open Decidable renaming decide->Zc
variable {i t x:Nat}{a v w:Int}{out rds st:Zd}
set_option maxRecDepth 100000
section
open Go.IntKind renaming wrap -> zH, i64 -> zI, u64 -> zJ
open Bool renaming not_true -> dB
open Int renaming zero_add -> cN, add_assoc -> cQ, mul_nonneg -> cW, add_zero -> dC, le_refl -> dD, ediv_le_self -> dS, ediv_nonneg -> dT, mul_ediv_self_le -> dU, mul_le_mul_of_nonneg_left -> dV, toNat_of_nonneg -> dW, eq_ofNat_of_zero_le -> eI, toNat_natCast -> eJ
open List renaming getElem?_eq_getElem -> aD, replicate -> bB, getElem?_set_ne -> cB, length_cons -> cD, append_assoc -> cK, getElem?_append_right -> cL, length_append -> cM, cons_append -> cO, getElem_mem -> cP, nil_append -> cR, getElem_cons_drop -> cT, range -> cV, drop_length -> cX, getElem?_set_self -> cY, length -> cZ, mem_cons -> dA, append_nil -> dE, drop_append -> dF, drop_of_length_le -> dG, getD -> dH, getElem?_drop -> dI, length_drop -> dJ, map_append -> dK, set -> dL, set_append_right -> dM, take_append_drop -> dN, take_left' -> dO, any_cons -> dX, any_nil -> dY, dropLast_concat_getLast -> dZ, length_take -> eA, mem_append -> eC, range_succ -> eD, take_succ_eq_append_getElem -> eE, getElem?_cons_zero -> eM, length_flatten -> eN, map_replicate -> eO, replicate_succ' -> eP, sum_replicate_nat -> eQ
open Nat renaming le_refl -> aB, sub_self -> bD, zero_add -> cS, zero_le -> cU, beq -> dP, eq_zero_or_pos -> dQ, mul_one -> dR, mul_add -> eF, mul_comm -> eG, mul_le_mul_right -> eH, add_sub_cancel -> eR
abbrev bx :=Int×Int×Int×Int×Int
def bm :List bx->Nat->Option Nat
 |[],d=>O d
 |o::r,d=>if o.1<0∨7<o.1 then Y else if o.1=0 then(if d=0 then Y else bm r (d-1))else if o.1=7 then bm r (d+1)else bm r d
theorem qz : ∀(l r:List bx) (d:Nat),bm (l++r) d=(bm l d).bind (bm r)
 |[],r,d=>rfl
 |o::l,r,d=>by
  simp only[cO,bm];split
  .rfl
  split
  .split
   .rfl
   .exact qz l r _
  split
  .exact qz l r _
  .exact qz l r _
theorem Hh : ∀(l:List bx) (d e:Nat),bm l d=O e->bm l (d+1)=O (e+1)
 |[],d,e,h=>by
  injection h with h
  subst h;rfl
 |o::l,d,e,h=>by
  simp only[bm]at h⊢;split at h
  .cases h
  rename_i c;rw[zF c];split at h
  .rename_i f;rw[zE f];split at h
   .cases h
   .rename_i b;rw[Zh];have:=Hh l _ _ h
    rwa [show d-1+1=d+1-1 by omega]at this
  rename_i f;rw[zF f];split at h
  .rename_i b;rw[zE b];exact Hh l _ _ h
  .rename_i b;rw[zF b];exact Hh l _ _ h
def ax5 (l:List bx)(s:Int×Bool×(Zd)×(Zd)×Zd):Prop:=
 ∃(i:Nat) (out st:Zd),i<=l.length/\s=((i:Int),Za,out,st,st)/\out.length=l.length/\(∀x∈st,0<=x/\x<l.length)/\st.length<=i/\bm (l.drop i) st.length=bm l 0
theorem ar3 (h:st≠[]): ∃pre x,st=pre++[x]:=⟨st.dropLast,st.getLast h,(dZ h).symm⟩
theorem SU {l:List bx}(J:l.length<=3518437208780)(s:Int×Bool×(Zd)×(Zd)×Zd)(h:ax5 l s):
  (∃b,cy l s=O (.inl b)/\ax5 l b/\l.length-b.1.toNat<l.length-s.1.toNat)∨∃c,cy l s=O (.inr c)/\((c.1=Zb/\bm l 0=Y)∨(c.1=Za/\bm l 0=O c.2.2.1.length)):=by
 obtain⟨i,out,st,hi,rfl,A,j,B,d⟩:=h;by_cases c:i<l.length
 .have o:l.drop i=l[i]::l.drop (i+1):=(cT c).symm;rw[o]at d;simp only[cy];rw[zB (show(i:Int)<(l.length:Int)by omega),zC,cl c];simp only[zG];generalize L:l[i]=x at*;simp only[bm]at d;by_cases D:x.1<0
  .rw[zE (.inl D)]at d;rw[zB D];simp only[zC,zG,iw];exact .inr ⟨_,rfl, .inl ⟨rfl,d.symm⟩⟩
  rw[zA D,zD];by_cases k:7<x.1
  .rw[zE (.inr k)]at d;rw[zB k];simp only[zC,zG,ck,iw];exact .inr ⟨_,rfl, .inl ⟨rfl,d.symm⟩⟩
  rw[zA k,zD];rw[Zh]at d;by_cases u:x.1=0
  .rw[zE u]at d;rw[zB u];simp only[zC,zG,ck];by_cases p:st.length=0
   .rw[zE p]at d;rw[zB (show(st.length:Int)=0 by omega)];simp only[zC,zG,iw];exact .inr ⟨_,rfl, .inl ⟨rfl,d.symm⟩⟩
   .rw[zF p]at d;rw[zA (show¬(st.length:Int)=0 by omega),zD];rw[ad (n:=(st.length:Int)-1) (by omega),Zl,ci];simp only[zG,ck];obtain⟨pre,q,rfl⟩:=ar3 (st:=st) (by intro e;subst e;exact p rfl);have H:=j q (by simp);have f:(pre++[q]).length=pre.length+1:=by simp
    have K:(((pre++[q]).length:Int)-1).toNat-0=pre.length:=by rw[f];omega
    have E:Zc (x.1=7)=Zb:=zA (by omega);rw[bq (show i<out.length by omega)];simp only[zG];rw[aD (show i<out.length by omega)];simp only[zG];rw[E,zD,show((pre++[q]).length:Int)-1=(pre.length:Int)by rw[f];omega,bq (show pre.length<(pre++[q]).length by omega)];simp only[zG];rw[cL (aB _),bD];simp only[eM,zG];rw[ci,bq (show i<(out.set i (-1)).length by simp;omega)];simp only[zG];rw[aD (show i<(out.set i (-1)).length by simp;omega)];simp only[zG];obtain⟨r,rfl⟩:=eI H.1;have I:r<out.length:=by omega
    rw[bq (show r<((out.set i (-1)).set i ((r:Nat):Int)).length by simp;omega)];simp only[zG];rw[aD (show r<((out.set i (-1)).set i ((r:Nat):Int)).length by simp;omega)];simp only[zG]
    have C:(pre++[(r:Int)]).take ((pre.length:Int).toNat-0)=pre:=by
     rw[show(pre.length:Int).toNat-0=pre.length by omega,dO];rfl
    rw[C,ad (n:=(i:Int)+1) (by omega)];refine .inl ⟨_,rfl,⟨i+1,_,pre,c,rfl,by simp[A],λy hy=>j y (by simp[hy]),by rw[f]at B;omega, ?_⟩,by simp;omega⟩;rw[f]at d;exact d
  .rw[zF u]at d;have F:Zc (x.1=0)=Zb:=zA u;rw[F];simp only[zD,zG,ck];rw[bq (show i<out.length by omega)];simp only[zG];rw[aD (show i<out.length by omega)];simp only[zG];by_cases k:x.1=7
   .rw[zE k]at d;rw[zB k];simp only[zC];rw[bp (by omega) (by omega),bp (by omega) (by omega),ad (n:=(i:Int)+1) (by omega)];refine .inl ⟨_,rfl,⟨i+1,_,st++[(i:Int)],c,rfl,by simp[A],λy hy=> ?_,by simp;omega, ?_⟩,by simp;omega⟩
    .rcases List.mem_append.1 hy with hy|hy
     .exact j y hy
     .simp at hy;subst hy;omega
    .rw[cM];exact d
   .rw[zF k]at d;rw[zA k];simp only[zD];rw[ad (n:=(i:Int)+1) (by omega)];exact .inl ⟨_,rfl,⟨i+1,_,st,c,rfl,by simp[A],j,by omega,d⟩,by simp;omega⟩
 .have z:i=l.length:=by omega
  subst z;rw[cX]at d;simp only[cy];rw[zA (show¬(l.length:Int)<(l.length:Int)by omega),zD];exact .inr ⟨_,rfl, .inr ⟨rfl,d.symm⟩⟩
theorem yx {l:List bx}(o:l.length<=3518437208780): ∃m,jQ l=O (if bm l 0=O 0 then 0 else 6,m):=by
 unfold jQ;rw[zB (show(0:Int)<=(l.length:Int)by omega),zB (show(l.length:Int)<=(l.length:Int)by omega),zB (show 8*(l.length:Int)<=140737488355328 by omega)];show∃m,gd Za _=_
 rw[ci]
 obtain⟨c,k,h⟩:=tj (f:=cy l) (a:=((0:Int),Za,bB ((l.length:Int)).toNat (0:Int),([]:Zd),([]:Zd))) (ax5 l) (λs=>l.length-s.1.toNat) (λc=>(c.1=Zb/\bm l 0=Y)∨(c.1=Za/\bm l 0=O c.2.2.1.length))
  ⟨0,_,[],cU _,rfl,by simp,(λx q=>by cases q),aB _,rfl⟩ (by simp;omega) (λs p=>SU o s p)
 rw[k];simp only[zG];rcases h with⟨b,d⟩|⟨b,d⟩
 .rw[b,d];exact⟨_,rfl⟩
 .rw[b,d,zC];by_cases j:c.2.2.1.length=0
  .rw[zB (show(c.2.2.1.length:Int)=0 by omega),zE (by rw[j])];exact⟨_,rfl⟩
  .rw[zA (show¬(c.2.2.1.length:Int)=0 by omega),zF (by intro e;injection e with e;exact j e)];exact⟨_,rfl⟩
def yX (w v:Int):Option Int:=if w=0 then O 0 else if 65536<w then Y else if 65536 / w<v then Y else O (w*v)
def qZ :List bx->List (Int×Int)->Option (List (Int×Int))
 |[],st=>O st
 |o::r,(v,w)::st=>if o.1=7 then qZ r ((o.2.2.2.2,0)::(v,w)::st)else if o.1=0 then(match yX w v,st with
   |some n,(c,d)::b=>qZ r ((c,d+n)::b)
   |_,_=>Y)
  else qZ r ((v,w+1)::st)
 |_::_,[]=>Y
theorem LX (s:0<=w/\w<=10000000000)(f:0<=v/\v<=18446744073709551615):sy w v=O (match yX w v with
  |some n=>(n,Za)
  |none=>(0,Zb)):=by
 unfold sy yX;simp only[ag];by_cases b:w=0
 .rw[zE b,zE b]
 rw[zF b,zF b];by_cases c:65536<w
 .rw[zE c,zE c]
 rw[zF c,zF c,zB (show w≠0 from b),ci,U2 (by omega)];have h:0<=65536 / w:=dT (by omega) (by omega);have j:65536 / w<=65536:=dS _ (by omega);rw[ad (n:=65536 / w) (by omega),Zk];by_cases d:65536 / w<v
 .rw[zE d,zE d]
 .rw[zF d,zF d]
  have o:w*v<=65536:=by
   have e:v<=65536 / w:=by omega
   have p:=dV e (show 0<=w by omega);have q:=dU (x:=65536) (k:=w) (by omega);omega
  have r:=cW (show 0<=w by omega) f.1;rw[ad (n:=v) (by omega),ad (n:=w*v) (by omega)]
theorem GB {n:Int}(d:0<=w)(c:0<=v)(h:yX w v=O n):0<=n/\n<=65536:=by
 unfold yX at h;split at h
 .injection h with h;subst h;omega
 split at h
 .cases h
 split at h
 .cases h
 rename_i e f j;injection h with h
 subst h;have b:v<=65536 / w:=by omega
 have o:=dV b (show 0<=w by omega);have p:=dU (x:=65536) (k:=w) (by omega);exact⟨cW d c,by omega⟩
theorem FC {k:Int}(h:0<k/\k<7)(d a b v:Int):ju k d a b v=O (d,Za):=by
 unfold ju oT;simp only[ag];have:k=1∨k=2∨k=3∨k=4∨k=5∨k=6:=by omega
 rcases this with rfl|rfl|rfl|rfl|rfl|rfl<;>rfl
theorem RA (a b:Int)(e:0<=a/\a<=1000000000000)(j:0<=b/\b<=65536):xJ [a,b]=O (a+b):=by
 unfold xJ
 have d:aq (zW [a,b]) di (0,0)=O (a+b):=by
  have h:=fj (f:=zW [a,b]) (n:=2) (λi=>match i with|0=>0|1=>a|_=>a+b) (c:=a+b) (by omega) ?_ ?_
  .exact h
  .intro i hi
   match i,hi with
   |0,_=>
    show O (Sum.inl (zH zI 1,zH zI (0+a)))=_;rw[Zi,Zi,cN];rfl
   |1,_=>
    show O (Sum.inl (zH zI 2,zH zI (a+b)))=_;rw[Zi,Zi];rfl
  .rfl
 rw[d];rfl
def ar2 (l:List bx)(op:List (Int×Int)):List (Int×Int):=op.reverse.map λp=>((l.getD p.1.toNat (0,0,0,0,0)).2.2.2.2,p.2)
theorem xz (l:List bx)(pre:List (Int×Int))(p:Int×Int):ar2 l (pre++[p])=((l.getD p.1.toNat (0,0,0,0,0)).2.2.2.2,p.2)::ar2 l pre:=by
 unfold ar2;rw[List.reverse_append,dK];rfl
def ay0 (l:List bx)(s:Int×(Zd)×(Zd)×List (Int×Int)):Prop:=
 ∃(i:Nat) (sz rd:Zd) (b:List (Int×Int)),i<=l.length/\s=((i:Int),sz,rd,b)/\sz.length=l.length/\rd.length=l.length/\b≠[]/\b.length<=i+1/\(∀p∈b,0<=p.1/\p.1<max (l.length:Int) 1/\0<=p.2/\p.2<=65537*i)/\
  bm (l.drop i) (b.length-1)=O 0/\qZ (l.drop i) (ar2 l b)=qZ l [((l.getD 0 (0,0,0,0,0)).2.2.2.2,0)]
theorem Un {l:List bx}(h:i<l.length):l.getD i (0,0,0,0,0)=l[i]:=by
 rw[List.getD_eq_getElem?_getD,aD h];rfl
theorem O2 {l:List bx}(hl:l.length<=100000)(hv: ∀o∈l,0<=o.2.2.2.2/\o.2.2.2.2<=18446744073709551615)(s:Int×(Zd)×(Zd)×List (Int×Int))(h:ay0 l s):
  (∃b,cn l s=O (.inl b)/\ay0 l b/\l.length-b.1.toNat<l.length-s.1.toNat)∨
  ∃c,cn l s=O (.inr c)/\((c.1=9/\qZ l [((l.getD 0 (0,0,0,0,0)).2.2.2.2,0)]=Y)∨(c.1=0/\∃p:Int×Int,c.2.2.2=[p]/\0<=p.2/\qZ l [((l.getD 0 (0,0,0,0,0)).2.2.2.2,0)]=O [((l.getD p.1.toNat (0,0,0,0,0)).2.2.2.2,p.2)])):=by
 obtain⟨i,sz,rds,op,hi,rfl,I,H,L,hol,A,j,f⟩:=h;obtain⟨pre,⟨r,w⟩,rfl⟩: ∃pre x,op=pre++[x]:=⟨op.dropLast,op.getLast L,(dZ L).symm⟩
 have q:=A (r,w) (by simp);simp only at q;have z:(pre++[(r,w)]).length=pre.length+1:=by simp
 rw[z]at hol j;rw[eR]at j
 have C:(pre++[(r,w)])[pre.length]?=O (r,w):=by
  rw[cL (aB _),bD];rfl
 by_cases c:i<l.length
 .have F:l.drop i=l[i]::l.drop (i+1):=(cT c).symm;have hlv:=hv _ (cP c);have V:l.getD i (0,0,0,0,0)=l[i]:=Un c;rw[F]at j f;rw[xz]at f;simp only[cn];rw[zB (show(i:Int)<(l.length:Int)by omega),zC,cl c];simp only[zG];generalize hx:l[i]=x at*;simp only[bm]at j;simp only[qZ]at f
  have hk: ¬(x.1<0∨7<x.1):=by
   intro hk;rw[zE hk]at j;cases j
  rw[zF hk]at j;rw[z,ad (n:=((pre.length+1:Nat):Int)-1) (by omega),show((pre.length+1:Nat):Int)-1=(pre.length:Int)by omega,bq (show pre.length<pre.length+1 by omega)];simp only[zG];by_cases J:x.1=7
  .rw[Zh,zE J]at j;rw[zE J]at f;rw[zB J,zC,bp (by omega) (by omega),ad (n:=(i:Int)+1) (by omega)];refine .inl ⟨_,rfl,⟨i+1,sz,rds,pre++[(r,w)]++[((i:Int),0)],c,rfl,I,H,by simp,by simp;omega,λp hp=> ?_, ?_, ?_⟩,by simp;omega⟩
   .rcases List.mem_append.1 hp with hp|hp
    .have:=A p hp;omega
    .simp at hp;subst hp;simp only;omega
   .rw[cM,z];exact j
   .rw[xz,xz];simp only[eJ];rw[V];exact f
  .rw[zF J]at f;rw[zA J,zD];by_cases T:x.1=0
   .rw[zE T]at j f;rw[zB T,zC]
    have M:pre.length≠0:=by
     intro e;rw[zE e]at j;cases j
    rw[zF M]at j
    obtain⟨d,⟨k,u⟩,rfl⟩: ∃d x,pre=d++[x]:=by
     have D:pre≠[]:=by intro e;subst e;exact M rfl
     exact⟨pre.dropLast,pre.getLast D,(dZ D).symm⟩
    have K:(d++[(k,u)]).length=d.length+1:=by simp
    have B:=A (k,u) (by simp);simp only at B;obtain⟨y,rfl⟩:=eI q.1;have E:y<l.length:=by omega
    rw[C];simp only[zG];rw[cl E];simp only[zG];have Q:=hv _ (cP E);rw[LX ⟨q.2.2.1,by omega⟩ Q];simp only[zG];rw[xz]at f;simp only[eJ]at f;rw[Un E]at f;cases W:yX w l[y].2.2.2.2 with
    |none=>
     rw[W]at f;simp only[Bool.not_false,zC];exact .inr ⟨_,rfl, .inl ⟨rfl,f.symm⟩⟩
    |some n=>
     rw[W]at f;have hn:=GB q.2.2.1 Q.1 W;simp only[dB,zD];rw[bq (show y<sz.length by omega)];simp only[zG];rw[aD (show y<sz.length by omega)];simp only[zG];rw[bq (show y<rds.length by omega)];simp only[zG];rw[aD (show y<rds.length by omega)];simp only[zG];rw[Zl,ci];have e1:((d++[(k,u)]).length:Int).toNat-0=d.length+1:=by rw[K];omega
     rw[e1,ad (n:=((d.length+1:Nat):Int)-1) (by omega),show((d.length+1:Nat):Int)-1=(d.length:Int)by omega,bq (show d.length<d.length+1 by omega)];simp only[zG,cS]
     have X:(d++[(k,u)]++[((y:Int),w)])[d.length]?=O (k,u):=by
      rw[cK,cL (aB _),bD];rfl
     rw[X];simp only[zG];rw[RA _ _ (by omega) hn];simp only[zG]
     have htk:((d++[(k,u)]++[((y:Int),w)]).set d.length (k,u+n)).take (d.length+1)=d++[(k,u+n)]:=by
      rw[cK,dM _ _ (aB _),bD];show(d++[(k,u+n),((y:Int),w)]).take (d.length+1)=_;rw[show [(k,u+n),((y:Int),w)]=[(k,u+n)]++[((y:Int),w)]from rfl,<-cK,dO];simp
     rw[htk,ad (n:=(i:Int)+1) (by omega)];refine .inl ⟨_,rfl,⟨i+1,_,_,d++[(k,u+n)],c,rfl,by simp[I],by simp[H],by simp,by simp;omega,λp hp=> ?_, ?_, ?_⟩,by simp;omega⟩
     .rcases List.mem_append.1 hp with hp|hp
      .have:=A p (by simp[hp]);omega
      .simp at hp;subst hp;simp only;omega
     .rw[K]at j;rw[cM];exact j
     .rw[xz];exact f
   .rw[zF T]at j f;rw[zF J]at j;rw[zA T,zD,FC (by omega)];simp only[zG,zC];rw[bq (show i<sz.length by omega)];simp only[zG];rw[aD (show i<sz.length by omega)];simp only[zG];rw[C];simp only[zG];rw[ad (n:=w+1) (by omega),ad (n:=(i:Int)+1) (by omega)]
    have N:(pre++[(r,w)]).set pre.length (r,w+1)=pre++[(r,w+1)]:=by
     rw[dM _ _ (aB _),bD];rfl
    rw[N];refine .inl ⟨_,rfl,⟨i+1,_,rds,pre++[(r,w+1)],c,rfl,by simp[I],H,by simp,by simp;omega,λp hp=> ?_, ?_, ?_⟩,by simp;omega⟩
    .rcases List.mem_append.1 hp with hp|hp
     .have:=A p (by simp[hp]);omega
     .simp at hp;subst hp;simp only;omega
    .rw[cM];exact j
    .rw[xz];exact f
 .have hi':i=l.length:=by omega
  subst hi';rw[cX]at j f;simp only[cn];rw[zA (show¬(l.length:Int)<(l.length:Int)by omega),zD]
  have hp:pre=[]:=by
   have j:O pre.length=O 0:=j;injection j with j
   exact List.length_eq_zero_iff.1 j
  subst hp;refine .inr ⟨_,rfl, .inr ⟨rfl,(r,w),rfl,q.2.2.1, ?_⟩⟩;rw[<-f];rfl
def Q9 (l:List bx):Option Int:=(qZ l [((l.getD 0 (0,0,0,0,0)).2.2.2.2,0)]).bind λst=>match st with
 |[p]=>O p.2
 |_=>Y
def du (l:List bx):Int×Int:=if bm l 0=O 0 then(match Q9 l with
 |some w=>if 65536<w then(0,9)else(w,0)
 |none=>(0,9))else(0,6)
theorem vD {l:List bx}(C:l.length<=100000)(E: ∀o∈l,0<=o.2.2.2.2/\o.2.2.2.2<=18446744073709551615):fQ l=O (du l):=by
 unfold fQ ko;obtain⟨m,D⟩:=yx (l:=l) (by omega);rw[D];unfold du;by_cases k:bm l 0=O 0
 .simp only[zE k];simp only[zG];rw[zA (by simp),zD];rw[zB (show(0:Int)<=(l.length:Int)by omega),zB (show(l.length:Int)<=(l.length:Int)by omega),zB (show 8*(l.length:Int)<=140737488355328 by omega)];have b: ∀{β:Type} {y:Option β},gd (dP 1 (Sh.w (.int .i64))&&Za&&Za&&Za&&Nat.ble 1 8) y=y:=λ{β y}=>rfl
  rw[b,b]
  obtain⟨c,B,h⟩:=tj (f:=cn l) (a:=((0:Int),bB ((l.length:Int)).toNat (0:Int),bB ((l.length:Int)).toNat (0:Int),[((0:Int),(0:Int))])) (ay0 l) (λs=>l.length-s.1.toNat) _
   ⟨0,_,_,[(0,0)],cU _,rfl,by simp,by simp,by simp,by simp,(λp q=>by simp at q;subst q;simp only;omega),k,rfl⟩ (by simp;omega) (λs h=>O2 C E s h)
  rw[B];simp only[zG];unfold Q9;rcases h with⟨j,u⟩|⟨j,p,z,F,A⟩
  .rw[j,u];rfl
  .rw[j,A,z];show((((cond (Zc (65536<p.2)) (O (9:Int)) (O 0)).bind λd=>cond (Zc (d≠0)) (O ((0:Int),d,([]:Zd),([]:Zd))) (O (p.2,0,c.2.1,c.2.2.1))).bind λr=>O (r.1,r.2.1)))=O (if 65536<p.2 then(0,9)else(p.2,0));rw[ag];by_cases e:65536<p.2
   .rw[zE e,zE e];rfl
   .rw[zF e,zF e];rfl
 .simp only[zF k];rfl
theorem Bc : ∀(l r:List bx) (st:List (Int×Int)),qZ (l++r) st=(qZ l st).bind (qZ r)
 |[],r,st=>rfl
 |o::l,r,[]=>rfl
 |o::l,r,(v,w)::st=>by
  simp only[cO,qZ];split
  .exact Bc l r _
  split
  .split
   .exact Bc l r _
   .rfl
  .exact Bc l r _
def Uv (v w:Int)(b:List (Int×Int)):List (Int×Int)->List (Int×Int)
 |[]=>[]
 |[p]=>(v,w+p.2)::b
 |p::q::r=>p::Uv v w b (q::r)
theorem Np (v w:Int)(c:List (Int×Int))(p:Int×Int): ∀d:List (Int×Int),Uv v w c (d++[p])=d++(v,w+p.2)::c
 |[]=>rfl
 |[a]=>rfl
 |a::b::r=>by
  show a::Uv v w c (b::r++[p])=_;rw[Np v w c p (b::r)];rfl
theorem rG (v w:Int)(b:List (Int×Int)): ∀(l:List bx) (f:List (Int×Int)) (d:Int) (e:Nat),bm l f.length=O e->qZ l (f++(v,w+d)::b)=(qZ l (f++[(0,d)])).map (Uv v w b)
 |[],f,d,e,_=>by
  show O _=O _;rw[Np]
 |o::l,[],d,e,h=>by
  simp only[bm,List.length_nil]at h;simp only[cR,qZ];split at h
  .cases h
  split at h
  .rw[zE trivial]at h;cases h
  rename_i r j;split at h
  .rename_i c;rw[zE c,zE c];exact rG v w b l [(o.2.2.2.2,0)] d e h
  .rename_i c;rw[zF c,zF j,zF c,zF j,cQ];exact rG v w b l [] (d+1) e h
 |o::l,(k,p)::f,d,e,h=>by
  simp only[bm,cD]at h;simp only[cO,qZ];split at h
  .cases h
  split at h
  .rename_i r j;rw[Zh]at h;rw[Zh,zE j,Zh,zE j];cases s:yX p k with
   |none=>rfl
   |some n=>
    cases f with
    |nil=>
     simp only[cR];rw[cQ];exact rG v w b l [] (d+n) e h
    |cons q f=>
     simp only[cO];exact rG v w b l ((q.1,q.2+n)::f) d e h
  rename_i r j;split at h
  .rename_i c;rw[zE c,zE c];exact rG v w b l ((o.2.2.2.2,0)::(k,p)::f) d e h
  .rename_i c;rw[zF c,zF j,zF c,zF j];exact rG v w b l ((k,p+1)::f) d e h
theorem Hg : ∀(l:List bx) (st b:List (Int×Int)) (d f:Nat),st.length=d+1->bm l d=O f->qZ l st=O b->b.length=f+1
 |[],st,b,d,f,h,c,e=>by
  injection c with c
  injection e with e
  subst c;subst e;exact h
 |o::l,[],b,d,f,h,_,_=>by simp at h
 |o::l,(v,w)::st,b,d,f,h,c,e=>by
  simp only[bm]at c;simp only[qZ]at e;simp only[cD,Nat.add_right_cancel_iff]at h;split at c
  .cases c
  split at c
  .rename_i p k;split at c
   .cases c
   rw[Zh,zE k]at e;split at e
   .rename_i j _ _ n r s q _;exact Hg l _ b (d-1) f (by simp at h⊢;omega) c e
   .cases e
  rename_i p k;split at c
  .rename_i j;rw[zE j]at e;exact Hg l _ b (d+1) f (by simp;omega) c e
  .rename_i j;rw[zF j,zF k]at e;exact Hg l _ b d f (by simp;omega) c e
theorem J4 : ∀(l:List bx) (st b:List (Int×Int)),(∀o∈l,0<=o.2.2.2.2)->(∀p∈st,0<=p.1/\0<=p.2)->qZ l st=O b->∀p∈b,0<=p.2
 |[],st,b,_,h,c=>by
  injection c with c
  subst c;exact λp hp=>(h p hp).2
 |o::l,[],b,_,_,c=>by cases c
 |o::l,(v,w)::st,b,q,h,c=>by
  have f:=h (v,w) (by simp);have d: ∀p∈st,0<=p.1/\0<=p.2:=λp hp=>h p (by simp[hp])
  have e: ∀k∈l,0<=k.2.2.2.2:=λk j=>q k (by simp[j])
  simp only at f;simp only[qZ]at c;split at c
  .refine J4 l _ b e (λp hp=> ?_) c;rcases List.mem_cons.1 hp with rfl|hp
   .exact⟨q o (by simp),dD _⟩
   .exact h p hp
  split at c
  .split at c
   .rename_i n u y s r;have z:=GB f.2 f.1 r;refine J4 l _ b e (λp hp=> ?_) c;rcases List.mem_cons.1 hp with rfl|hp
    .have:=d (u,y) (by simp);simp only at this⊢;omega
    .exact d p (by simp[hp])
   .cases c
  .refine J4 l _ b e (λp hp=> ?_) c;rcases List.mem_cons.1 hp with rfl|hp
   .simp only;omega
   .exact h p (by simp[hp])
theorem FG {l:List bx}(h:bm l 0=O 0)(v w:Int)(b:List (Int×Int)):qZ l ((v,w)::b)=(Q9 l).map λm=>(v,w+m)::b:=by
 have c:=rG v w b l [] 0 0 h;rw[cR,cR,dC]at c;have d:=rG ((l.getD 0 (0,0,0,0,0)).2.2.2.2) 0 [] l [] 0 0 h;rw[cR,cR,dC]at d;unfold Q9;rw[c,d];cases f:qZ l [(0,0)]with
 |none=>rfl
 |some st=>
  have e:=Hg l _ st 0 0 rfl h f
  match st,e with
  |[p],_=>
   show O ((v,w+p.2)::b)=O ((v,w+(0+p.2))::b);rw[cN]
theorem II {l:List bx}(e: ∀o∈l,0<=o.2.2.2.2){m:Int}(h:bm l 0=O 0)(d:Q9 l=O m):0<=m:=by
 have b:=FG h 0 0 [];rw[d]at b;have:=J4 l _ _ e (λp c=>by simp at c;subst c;simp) b (0,0+m) (by simp);simp only at this;omega
theorem F1 {l:List bx}(y:l.length<=100000):pH l=O (Zc (bm l 0=O 0)):=by
 unfold pH
 obtain⟨c,r,h⟩:=tj (f:=vQ l) (a:=((0:Int),(0:Int))) (λs=> ∃i d:Nat,i<=l.length/\d<=i/\s=((i:Int),(d:Int))/\bm (l.drop i) d=bm l 0) (λs=>l.length-s.1.toNat)
  (λc=>(c= .inl Zb/\bm l 0=Y)∨∃d:Nat,c= .inr (d:Int)/\bm l 0=O d) ⟨0,0,cU _,aB _,rfl,rfl⟩ (by simp;omega) (by
  rintro _ ⟨i,d,hi,u,rfl,b⟩;simp only[vQ,ag];by_cases c:i<l.length
  .rw[(cT c).symm]at b;rw[Zg,cl c];simp only[zG];generalize l[i]=x at*;simp only[bm]at b;by_cases p:x.1<0
   .rw[zE (.inl p)]at b;rw[zE p];exact .inr ⟨_,rfl, .inl ⟨rfl,b.symm⟩⟩
   rw[zF p];by_cases q:7<x.1
   .rw[zE (.inr q)]at b;rw[zE q];exact .inr ⟨_,rfl, .inl ⟨rfl,b.symm⟩⟩
   rw[Zh]at b;rw[zF q];by_cases o:x.1=0
   .rw[zE o]at b;rw[Zh];simp only[zG];rw[zE o,ad (n:=(d:Int)-1) (by omega),ad (n:=(i:Int)+1) (by omega)];by_cases k:d=0
    .rw[zE k]at b;rw[Zg];exact .inr ⟨_,rfl, .inl ⟨rfl,b.symm⟩⟩
    .rw[zF k]at b;rw[Zh];exact .inl ⟨_,rfl,⟨i+1,d-1,c,by omega,by rw[show((d-1:Nat):Int)=(d:Int)-1 by omega];rfl,b⟩,by simp;omega⟩
   .rw[zF o]at b;by_cases j:x.1=7
    .rw[zE j]at b;rw[zE j];simp only[zG];rw[zF o,ad (n:=(d:Int)+1) (by omega),ad (n:=(i:Int)+1) (by omega),Zh];exact .inl ⟨_,rfl,⟨i+1,d+1,c,by omega,rfl,b⟩,by simp;omega⟩
    .rw[zF j]at b;rw[zF j];simp only[zG];rw[zF o,ad (n:=(i:Int)+1) (by omega),Zh];exact .inl ⟨_,rfl,⟨i+1,d,c,by omega,rfl,b⟩,by simp;omega⟩
  .have:i=l.length:=by omega
   subst this;rw[cX]at b;rw[Zh]
   exact .inr ⟨_,rfl, .inr ⟨d,rfl,b.symm⟩⟩)
 rw[r];rcases h with⟨rfl,h⟩|⟨d,rfl,h⟩
 .rw[h];rfl
 .rw[h];show O (Zc ((d:Int)=0))=O (Zc (O d=O 0))
  congr 1
  rw[decide_eq_decide];constructor
  .intro e;have:d=0:=by omega
   rw[this]
  .intro e;injection e with e;omega
theorem Cj : ∀(n:Nat) (s:List bx) (d:Nat),s.length<=n->bm s (d+1)=O 0->∃inner e rest,s=inner++e::rest/\e.1=0/\bm inner 0=O 0/\bm rest d=O 0
 |n,[],d,_,h=>by
  injection h with h
  omega
 |0,o::s,d,f,_=>by simp at f
 |n+1,o::s,d,f,h=>by
  simp only[cD]at f;simp only[bm]at h;split at h
  .cases h
  rename_i B;split at h
  .rename_i j;rw[Zh]at h;exact⟨[],o,s,rfl,j,rfl,h⟩
  rename_i j;split at h
  .rename_i r;obtain⟨p,b,q,k,u,y,z⟩:=Cj n s (d+1) (by omega) h;have c:q.length<=n:=by rw[k]at f;simp at f;omega
   obtain⟨A,C,I,D,E,F,H⟩:=Cj n q d c z;refine⟨o::p++b::A,C,I, ?_,E, ?_,H⟩
   .rw[k,D];simp
   .show bm (o::(p++b::A)) 0=_;simp only[bm];rw[zF B,zF j,zE r,qz,Hh _ _ _ y];show bm (b::A) 1=_;simp only[bm];rw[Zh,zE u,Zh];exact F
  .rename_i r;obtain⟨p,b,q,k,u,y,z⟩:=Cj n s d (by omega) h;refine⟨o::p,b,q,by rw[k];rfl,u, ?_,z⟩;simp only[bm];rw[zF B,zF j,zF r];exact y
theorem xi {s u E F:List bx}{e1 y:bx}(h:s++e1::E=u++y::F)(z:bm s 0=O 0)(A:bm u 0=O 0)(p:e1.1=0)(r:y.1=0):s=u:=by
 have k: ∀{a b:List bx} {e:bx} {x:List bx},a++e::x=b->e.1=0->bm a 0=O 0->bm b 0=O 0->False:=by
  intro a b e x o D C f;rw[<-o,qz,C]at f;have f:bm (e::x) 0=O 0:=f;simp only[bm]at f;rw[Zh,zE D,zE trivial]at f;cases f
 rcases List.append_eq_append_iff.1 h with⟨j,d,c⟩|⟨j,d,c⟩
 .cases j with
  |nil=>rw[dE]at d;exact d.symm
  |cons q j=>
   rw[cO]at c;injection c with c B
   subst c;exact(k d.symm p z A).elim
 .cases j with
  |nil=>rw[dE]at d;exact d
  |cons q j=>
   rw[cO]at c;injection c with c B
   subst c;exact(k d.symm r A z).elim
theorem KD {l:List bx}(h:bm l 0=O 0)(hi:i<=l.length): ∃d,bm (l.take i) 0=O d/\bm (l.drop i) d=O 0:=by
 rw[<-dN i l,qz]at h;obtain⟨d,b,c⟩:=ah h;exact⟨d,b,c⟩
theorem P3 {l:List bx}(h:bm l 0=O 0)(hi:i<l.length)(k:l[i].1=7): ∃inner e rest,l.drop (i+1)=inner++e::rest/\e.1=0/\bm inner 0=O 0:=by
 obtain⟨d,_,b⟩:=KD h (i:=i) (by omega);rw[(cT hi).symm]at b;simp only[bm]at b;rw[Zh,Zh,zE k]at b;obtain⟨inner,e,rest,c,f,j,_⟩:=Cj _ _ d (aB _) b;exact⟨inner,e,rest,c,f,j⟩
structure MOK (l:List bx)(m:Zd):Prop where
 len:m.length=l.length
 at': ∀i,(hi:i<l.length)->l[i].1=7->∀inner e rest,l.drop (i+1)=inner++e::rest->e.1=0->bm inner 0=O 0->m[i]?=O ((i+1+inner.length:Nat):Int)
theorem aq5 {l:List bx}(L:l.length<=100000)(hi:i<l.length){inner rest:List bx}{e:bx}(h:l.drop (i+1)=inner++e::rest)(H:e.1=0)(E:bm inner 0=O 0):aq (mw l) di (1,(i:Int))=O ((i+1+inner.length:Nat):Int):=by
 have D:l.length=i+1+inner.length+1+rest.length:=by
  have:=congrArg cZ h;rw[dJ]at this;simp at this;omega
 have r: ∀j,j<inner.length+1->∃x,rd l ((i+1+j:Nat):Int)=O x/\(inner++e::rest)[j]?=O x:=by
  intro j q;have s:i+1+j<l.length:=by omega
  refine⟨l[i+1+j],cl s, ?_⟩;rw[<-h,dI,aD s]
 have u: ∀j,j<=inner.length->∃d,bm (inner.take j) 0=O d:=by
  intro j q;obtain⟨d,b,_⟩:=KD E q;exact⟨d,b⟩
 let c:Nat->Nat:=λj=>(bm (inner.take j) 0).getD 0
 have o: ∀j,j<=inner.length->bm (inner.take j) 0=O (c j):=by
  intro j q;obtain⟨d,F⟩:=u j q;show _=O ((bm (inner.take j) 0).getD 0);rw[F];rfl
 have A: ∀j,c j<=j∨inner.length<j:=by
  intro j;induction j with
  |zero=>exact .inl (aB _)
  |succ j M=>
   by_cases q:j+1<=inner.length
   .left;have b:=o (j+1) q;rw[eE (show j<inner.length by omega),qz,o j (by omega)]at b;have b:bm [inner[j]] (c j)=O (c (j+1)):=b;simp only[bm]at b;split at b
    .cases b
    split at b
    .split at b
     .cases b
     .injection b with b;omega
    split at b
    .injection b with b;omega
    .injection b with b;omega
   .right;omega
 refine FW (f:=mw l) (n:=inner.length+1) (λj=>if j<=inner.length then((1+c j:Nat),((i+j:Nat):Int))else(0,((i+1+inner.length:Nat):Int))) (by omega) (λj q=> ?_) ?_
 .have K:=A j;rw[zE (show j<=inner.length by omega)];obtain⟨x,B,k⟩:=r j (by omega);simp only[mw,ag];rw[Zg,ad (n:=((i+j:Nat):Int)+1) (by omega),show((i+j:Nat):Int)+1=((i+1+j:Nat):Int)by omega,B];simp only[zG];by_cases p:j<inner.length
  .rw[List.getElem?_append_left p,aD p]at k;injection k with k
   have b:=o (j+1) p;rw[eE p,qz,o j (by omega)]at b;have b:bm [inner[j]] (c j)=O (c (j+1)):=b;rw[k]at b;simp only[bm]at b;rw[zE (show j+1<=inner.length by omega)];split at b
   .cases b
   split at b
   .rename_i J y;split at b
    .cases b
    .injection b with b
     rw[Zh,zE y,Zi]
     congr 3<;>omega
   rename_i J y;split at b
   .rename_i C;injection b with b
    rw[zE C,zF y,Zi]
    congr 3<;>omega
   .rename_i C;injection b with b
    rw[zF C,zF y]
    congr 3<;>omega
  .have z:j=inner.length:=by omega
   subst z;rw[cL (aB _),bD]at k;injection k with k
   subst k
   have I:c inner.length=0:=by
    have:=o inner.length (aB _);rw[List.take_length,E]at this;injection this with this
    exact this.symm
   rw[Zh,zE H,zF (show¬inner.length+1<=inner.length by omega),I,Zi];rfl
 .rw[Zh];simp only[mw,ag];rw[Zh]
theorem Rb {l:List bx}(J:l.length<=100000):(bm l 0=O 0/\∃m,qm l=O (0,m)/\MOK l m)∨(bm l 0≠O 0/\qm l=O (6,[])):=by
 unfold qm;rw[F1 J];simp only[zG];by_cases z:bm l 0=O 0
 .left;refine⟨z, ?_⟩;rw[zB z];simp only[dB,zD]
  have V:aq (mv l) di (0,[])=O (bB l.length (-1)):=by
   have h:=fj (f:=mv l) (n:=l.length) (λi=>bB i (-1:Int)) (c:=bB l.length (-1)) (by omega) ?_ ?_
   .exact h
   .intro i hi;simp only[mv,ag];rw[Zg,bp (by simp;omega) (by omega),Zi,eP];rfl
   .simp only[mv,ag];rw[Zh]
  rw[V];simp only[zG]
  obtain⟨c,W,h⟩:=tj (f:=ub l) (a:=((0:Int),bB l.length (-1:Int))) (λs=> ∃(i:Nat) (out:Zd),i<=l.length/\s=((i:Int),out)/\out.length=l.length/\∀j,j<i->(y:j<l.length)->l[j].1=7->∀b e o,l.drop (j+1)=b++e::o->e.1=0->bm b 0=O 0->out[j]?=O ((j+1+b.length:Nat):Int)) (λs=>l.length-s.1.toNat)
   (λc=>MOK l c) ⟨0,_,cU _,rfl,by simp,λj y=>by omega⟩ (by simp;omega) (by
   rintro _ ⟨i,out,hi,rfl,H,k⟩;simp only[ub,ag];by_cases c:i<l.length
   .rw[Zg,cl c];simp only[zG];by_cases C:l[i].1=7
    .obtain⟨b,e,o,A,D,I⟩:=P3 z c C
     have K:l.length=i+1+b.length+1+o.length:=by
      have:=congrArg cZ A;rw[dJ]at this;simp at this;omega
     rw[zF (by simp[C]),aq5 J c A D I];simp only[zG];rw[bq (show i<out.length by omega)];simp only[zG];rw[aD (show i<out.length by omega)];simp only[zG];rw[bq (show i+1+b.length<(out.set i ((i+1+b.length:Nat):Int)).length by simp;omega)];simp only[zG];rw[aD (show i+1+b.length<(out.set i ((i+1+b.length:Nat):Int)).length by simp;omega)];simp only[zG];rw[ad (n:=(i:Int)+1) (by omega)];refine .inl ⟨_,rfl,⟨i+1,_,c,rfl,by simp[H],λj y r d q Q u L M N=> ?_⟩,by simp;omega⟩
     have E:l[i+1+b.length].1=0:=by
      have B:(l.drop (i+1))[b.length]?=O e:=by
       rw[A,cL (aB _),bD];rfl
      rw[dI,aD (show i+1+b.length<l.length by omega)]at B;injection B with B
      rw[B];exact D
     have F:i+1+b.length≠j:=by
      intro T;subst T;rw[E]at d;cases d
     rw[cB F];by_cases p:i=j
     .subst p;have:=xi (A.symm.trans L) I N D M;subst this;rw[cY (by omega)]
     .rw[cB p];exact k j (by omega) r d q Q u L M N
    .rw[zE C,ad (n:=(i:Int)+1) (by omega)];refine .inl ⟨_,rfl,⟨i+1,out,c,rfl,H,λj y r d=> ?_⟩,by simp;omega⟩;by_cases p:j=i
     .subst p;exact(C d).elim
     .exact k j (by omega) r d
   .have:i=l.length:=by omega
    subst this;rw[Zh]
    exact .inr ⟨_,rfl,H,λj y d=>k j y y d⟩)
  rw[W];exact⟨c,rfl,h⟩
 .right;refine⟨z, ?_⟩;rw[zA z];rfl
theorem UA {α β:Type}{f:α->β}(c: ∀a b,f a=f b->a=b){x y:Option α}(h:x.map f=y.map f):x=y:=by
 cases x with
 |none=>cases y with
  |none=>rfl
  |some b=>cases h
 |some a=>cases y with
  |none=>cases h
  |some b=>
   injection h with h
   rw[c _ _ h]
theorem QY (v c:Int)(d:List (Int×Int)): ∀a b:Int,(v,c+a)::d=(v,c+b)::d->a=b:=by
 intro a b h;injection h with h
 injection h with _ h
 omega
theorem MQ {o:bx}{s:List bx}(h:bm (o::s) 0=O 0)(d:o.1≠7):bm s 0=O 0/\(0<o.1/\o.1<7)/\Q9 (o::s)=(Q9 s).map (1+ ·):=by
 have c:=FG h 0 0 [];simp only[bm]at h;split at h
 .cases h
 rename_i e;split at h
 .rw[zE trivial]at h;cases h
 rename_i b;refine⟨h,by omega,UA (QY 0 0 []) ?_⟩;rw[<-c];simp only[qZ];rw[zF d,zF b,FG h];cases Q9 s with
 |none=>rfl
 |some m=>
  show O [((0:Int),0+1+m)]=O [((0:Int),0+(1+m))];rw[cQ]
theorem N3 {o e:bx}{inner rest:List bx}(h:bm (o::(inner++e::rest)) 0=O 0)(d:o.1=7)(c:e.1=0)(hi:bm inner 0=O 0):
  bm rest 0=O 0/\Q9 (o::(inner++e::rest))=(Q9 inner).bind λw=>(yX w o.2.2.2.2).bind λb=>(Q9 rest).map (b+ ·):=by
 have f:=FG h 0 0 [];simp only[bm]at h;rw[Zh,Zh,zE d,qz,Hh _ _ _ hi]at h;have h:bm (e::rest) 1=O 0:=h;simp only[bm]at h;rw[Zh,zE c,Zh]at h;have h:bm rest 0=O 0:=h;refine⟨h,UA (QY 0 0 []) ?_⟩;rw[<-f];simp only[qZ];rw[zE d,Bc,FG hi];cases Q9 inner with
 |none=>rfl
 |some w=>
  show qZ (e::rest) [(o.2.2.2.2,0+w),(0,0)]=_;simp only[qZ];rw[Zh,zE c,cN];simp only[zG];cases yX w o.2.2.2.2 with
  |none=>rfl
  |some b=>
   simp only[zG];rw[FG h];cases Q9 rest with
   |none=>rfl
   |some m=>
    show O [((0:Int),0+b+m)]=O [((0:Int),0+(b+m))];rw[cQ]
theorem Td {k:Int}(h:0<k/\k<7): ∃x,jR k=O (Za,x):=by
 have:k=1∨k=2∨k=3∨k=4∨k=5∨k=6:=by omega
 rcases this with rfl|rfl|rfl|rfl|rfl|rfl<;>exact⟨_,rfl⟩
def In (t:Int):Int:=if 65536<t then 65537 else t
def Vw (w v:Int):Int:=if In w=0 then 0 else if v=0 then 0 else if 65536<v then 65537 else if 65536<In w*v then 65537 else In w*v
theorem KN {b:Int}(o:0<=w)(u:0<=v)(h:yX w v=O b):Vw w v=b/\w<=65536:=by
 unfold yX at h;unfold Vw;split at h
 .rename_i c;injection h with h
  subst h;subst c;exact⟨by rw[zE (show In 0=0 from rfl)],by omega⟩
 split at h
 .cases h
 split at h
 .cases h
 rename_i c e p;injection h with h
 have j:In w=w:=zF e;rw[j,zF c];have s:65536 / w<=65536:=dS _ (by omega);have f:v<=65536 / w:=by omega
 have q:=dV f o;have r:=dU (x:=65536) (k:=w) c;refine⟨?_,by omega⟩;by_cases d:v=0
 .rw[zE d,<-h,d,Int.mul_zero]
 .rw[zF d,Zh,Zh,h]
theorem Xx (k:0<=w)(p:0<=v)(h:yX w v=Y):65536<w∨Vw w v=65537:=by
 unfold yX at h;split at h
 .cases h
 rename_i e;split at h
 .rename_i c;exact .inl c
 rename_i c;split at h
 .rename_i f;right;unfold Vw;have j:In w=w:=zF c;have b:=Int.lt_mul_of_ediv_lt (show 0<w by omega) f;rw[Int.mul_comm]at b;have o:0<=65536 / w:=dT (by omega) k;rw[j,zF e,Zh];by_cases d:65536<v
  .rw[zE d]
  .rw[zF d,zE b]
 .cases h
def WOK (l:List bx)(m:Zd)(N:Nat):Prop:= ∀f,2*N<f->∀A seg B,l=A++seg++B->seg.length<N->bm seg 0=O 0->
 ∃r,(bz f).1 l m (A.length:Int) ((A.length+seg.length:Nat):Int)=O r/\0<=r/\r<=65537/\∀t,Q9 seg=O t->r=In t
section
variable {l:List bx} {m:Zd}
theorem P4 (X:l.length<=2000)(J: ∀o∈l,0<=o.2.2.2.2/\o.2.2.2.2<=18446744073709551615)(A:MOK l m){N:Nat}(h:WOK l m N){f:Nat}(W:2*N+1<f)(hi:i<l.length)(I:l[i].1=7){inner rest:List bx}{e:bx}(p:l.drop (i+1)=inner++e::rest)(H:e.1=0)(B:bm inner 0=O 0)(F:inner.length<N):
  ∃r,(bz f).2 l m (i:Int)=O r/\0<=r/\r<=65537/\∀w,Q9 inner=O w->r=Vw w l[i].2.2.2.2:=by
 obtain⟨g,rfl⟩: ∃g,f=g+1:=⟨f-1,by omega⟩
 have z:l.length=i+1+inner.length+1+rest.length:=by
  have:=congrArg cZ p;rw[dJ]at this;simp at this;omega
 have q:=A.at' i hi I inner e rest p H B
 have b:l=l.take (i+1)++inner++e::rest:=by
  rw[cK,<-p,dN]
 have E:(l.take (i+1)).length=i+1:=by rw[eA];omega
 obtain⟨d,u,y,C,D⟩:=h g (by omega) (l.take (i+1)) inner (e::rest) b F B;rw[E]at u
 have s:rd m (i:Int)=O ((i+1+inner.length:Nat):Int):=by
  have j:i<m.length:=by rw[A.len];exact hi
  rw[cl j,<-q,aD j]
 have c:=J _ (cP hi);show∃r,zP ((bz g).1) ((bz g).2) l m i=O r/\_
 unfold zP;rw[s];simp only[zG];rw[ad (n:=(i:Int)+1) (by omega),show(i:Int)+1=((i+1:Nat):Int)by omega,u];simp only[zG,ag];rw[cl hi];simp only[zG];generalize l[i].2.2.2.2=v at*
 have k:(if d=0 then O 0 else if v=0 then O 0 else if 65536<v then O 65537 else if 65536<IntKind.i64.wrap (d*zH zI v)then O 65537 else O (zH zI (d*zH zI v)))=
   O (if d=0 then 0 else if v=0 then 0 else if 65536<v then 65537 else if 65536<d*v then 65537 else d*v):=by
  split
  .rfl
  split
  .rfl
  split
  .rfl
  rename_i L M Q;have T:=Int.mul_le_mul C (show v<=65536 by omega) c.1 (by omega);have V:=cW y c.1;rw[ad (n:=v) (by omega),Zi];split<;>rfl
 rw[k];refine⟨_,rfl, ?_, ?_,λw K=> ?_⟩
 .split
  .omega
  split
  .omega
  split
  .omega
  split
  .omega
  .exact cW y c.1
 .split
  .omega
  split
  .omega
  split
  .omega
  split<;>omega
 .rw[D w K];rfl
theorem Eo (hl:l.length<=2000)(E: ∀o∈l,0<=o.2.2.2.2/\o.2.2.2.2<=18446744073709551615)(W:MOK l m){N:Nat}(h:WOK l m N){g:Nat}(hg:2*N+1<g)(hi:Nat): ∀(k:Nat) (pre seg B:List bx) (n:Int) (F:Nat),l=pre++seg++B->seg.length<=k->seg.length<=N->seg.length<F->bm seg 0=O 0->hi=pre.length+seg.length->0<=n/\n<=65536->
  ∃c,aq (oD ((bz g).2) l m hi) F ((pre.length:Int),n)=O c/\(c= .inl ()∨∃r,c= .inr r/\0<=r/\r<=65536)/\∀t,Q9 seg=O t->c=if 65536<n+t then .inl ()else .inr (n+t)
 |k,pre,[],B,n,0,_,_,_,z,_,_,_=>by simp at z
 |k,pre,[],B,n,F+1,d,_,_,_,L,hh,hn=>by
  refine⟨.inr n, ?_, .inr ⟨n,rfl,hn⟩,λt j=> ?_⟩
  .rw[cb];simp only[oD,ag];rw[zF (by simp at hh;omega)];rfl
  .injection j with j
   subst j;rw[dC,Zh]
 |0,pre,o::seg,B,n,F,_,hk,_,_,_,_,_=>by simp at hk
 |k+1,pre,o::seg,B,n,0,_,_,_,z,_,_,_=>by simp at z
 |k+1,pre,o::seg,B,n,F+1,d,hk,hN,z,L,hh,hn=>by
  simp only[cD]at hk hN z hh;have V:l.length=pre.length+(seg.length+1)+B.length:=by rw[d];simp;omega
  have A:pre.length<l.length:=by omega
  have s:l[pre.length]=o:=by
   have:l[pre.length]?=O o:=by
    rw[d,cK,cL (aB _),bD];rfl
   rw[aD A]at this;injection this
  have X:0<=o.2.2.2.2/\o.2.2.2.2<=18446744073709551615:=by rw[<-s];exact E _ (cP A)
  rw[cb];simp only[oD,ag];rw[Zg,cl A,s];simp only[zG];by_cases u:o.1=7
  .
   rw[zE u]
   have hs1:bm seg 1=O 0:=by
    simp only[bm]at L;rw[Zh,Zh,zE u]at L;exact L
   obtain⟨f,e,q,h1,h2,Q,h4⟩:=Cj _ seg 0 (aB _) hs1;subst h1;simp only[cM,cD]at hk hN z hh V
   have hd:l.drop (pre.length+1)=f++e::(q++B):=by
    rw[d,cK,dF,dG (by omega),show pre.length+1-pre.length=1 by omega];simp
   obtain⟨r9,b1,b2,b3,b4⟩:=P4 hl E W h hg A (by rw[s];exact u) hd h2 Q (by omega);rw[s]at b4;rw[b1];simp only[zG];have hmi:=W.at' pre.length A (by rw[s];exact u) f e (q++B) hd h2 Q
   have hrd:rd m (pre.length:Int)=O ((pre.length+1+f.length:Nat):Int):=by
    have D:pre.length<m.length:=by rw[W.len];exact A
    rw[cl D,<-hmi,aD D]
   rw[hrd];simp only[zG];rw[ad (n:=n+r9) (by omega),ad (n:=((pre.length+1+f.length:Nat):Int)+1) (by omega)];obtain⟨C,T⟩:=N3 L u h2 Q;by_cases K:65536<n+r9
   .rw[zE K];refine⟨.inl (),rfl, .inl rfl,λt j=> ?_⟩;rw[T]at j;obtain⟨w,hw,j⟩:=ah j;obtain⟨b,hb,j⟩:=ah j;have H:=II (l:=f) (λI y=>(E I (by rw[d];simp[y])).1) Q hw;obtain⟨e1,_⟩:=KN H X.1 hb;rw[b4 w hw,e1]at K;cases p:Q9 q with
    |none=>rw[p]at j;cases j
    |some J=>
     rw[p]at j;injection j with j
     have j:b+J=t:=j;have:=II (l:=q) (λI y=>(E I (by rw[d];simp[y])).1) C p;rw[Zg]
   .rw[zF K];simp only[zG,bk];have hp:(pre++o::(f++[e])).length=pre.length+1+f.length+1:=by simp;omega
    obtain⟨c,M,d2,d3⟩:=Eo hl E W h hg hi k (pre++o::(f++[e])) q B (n+r9) F (by rw[d];simp) (by omega) (by omega) (by omega) C (by rw[hp];omega) (by omega);rw[hp]at M;refine⟨c,by rw[show((pre.length+1+f.length:Nat):Int)+1=((pre.length+1+f.length+1:Nat):Int)by omega];exact M,d2,λt j=> ?_⟩;rw[T]at j;obtain⟨w,hw,j⟩:=ah j;obtain⟨b,hb,j⟩:=ah j;have H:=II (l:=f) (λI y=>(E I (by rw[d];simp[y])).1) Q hw;obtain⟨e1,_⟩:=KN H X.1 hb;have hr9:r9=b:=by rw[b4 w hw,e1]
    cases p:Q9 q with
    |none=>rw[p]at j;cases j
    |some J=>
     rw[p]at j;injection j with j
     have:=d3 J p;rw[this,<-j,hr9,cQ]
  .rw[zF u];obtain⟨C,hko,T⟩:=MQ L u;obtain⟨x,hx⟩:=Td hko;rw[hx];simp only[zG,zC];rw[ad (n:=n+1) (by omega),ad (n:=(pre.length:Int)+1) (by omega)];by_cases K:65536<n+1
   .rw[zE K];refine⟨.inl (),rfl, .inl rfl,λt j=> ?_⟩;rw[T]at j;cases p:Q9 seg with
    |none=>rw[p]at j;cases j
    |some J=>
     rw[p]at j;injection j with j
     have j:1+J=t:=j;have:=II (l:=seg) (λI y=>(E I (by rw[d];simp[y])).1) C p;rw[Zg]
   .rw[zF K];simp only[zG,bk];have hp:(pre++[o]).length=pre.length+1:=by simp
    obtain⟨c,M,d2,d3⟩:=Eo hl E W h hg hi k (pre++[o]) seg B (n+1) F (by rw[d];simp) (by omega) (by omega) (by omega) C (by rw[hp];omega) (by omega);rw[hp]at M;refine⟨c,M,d2,λt j=> ?_⟩;rw[T]at j;cases p:Q9 seg with
    |none=>rw[p]at j;cases j
    |some J=>
     rw[p]at j;injection j with j
     rw[d3 J p,<-j,cQ]
theorem wok (j:l.length<=2000)(p: ∀o∈l,0<=o.2.2.2.2/\o.2.2.2.2<=18446744073709551615)(k:MOK l m): ∀N,WOK l m N
 |0=>λ_ _ _ _ _ _ h=>absurd h (Nat.not_lt_zero _)
 |N+1=>λf E A seg B b D y=>by
  obtain⟨g,rfl⟩: ∃g,f=g+1:=⟨f-1,by omega⟩
  show∃r,xC ((bz g).1) ((bz g).2) l m _ _=O r/\_
  unfold xC
  have z:seg.length<=2000:=by
   have:=congrArg cZ b;simp at this;omega
  obtain⟨c,q,s,e⟩:=Eo j p k (wok j p k N) (g:=g) (by omega) (A.length+seg.length) _ A seg B 0 di b (aB _) (by omega) (by unfold di;omega) y rfl (by omega);rw[q];simp only[zG];rcases s with rfl|⟨r,rfl,u,C⟩
  .refine⟨65537,rfl,by omega,by omega,λt d=> ?_⟩;have:=e t d;rw[cN]at this;unfold In;split at this
   .rename_i c;rw[zE c]
   .cases this
  .refine⟨r,rfl,u,by omega,λt d=> ?_⟩;have:=e t d;rw[cN]at this;unfold In;split at this
   .cases this
   .rename_i c;injection this with this
    rw[zF c,this]
end
theorem QF {δ:Type}{f:Int->Option (Int⊕δ)}(n:Nat)(z:n<9223372036854775808)(b:Nat->Prop)(c e:δ)
  (s: ∀i:Nat,i<n->¬b i->f (i:Int)=O (.inl ((i+1:Nat):Int))) (A: ∀i:Nat,i<n->b i->f (i:Int)=O (.inr c)) (y:f (n:Int)=O (.inr e)):
  (∃i,i<n/\b i/\(∀j,j<i->¬b j)/\aq f di 0=O c)∨((∀j,j<n->¬b j)/\aq f di 0=O e):=by
 by_cases h: ∃i,i<n/\b i
 .obtain⟨i,k,o⟩:=h
  have q: ∃i,i<n/\b i/\∀j,j<i->¬b j:=by
   induction i using Nat.strongRecOn with
   |ind i B=>
    by_cases d: ∃j,j<i/\b j
    .obtain⟨j,p,u⟩:=d;exact B j p (by omega) u
    .exact⟨i,k,o,λj h p=>d ⟨j,h,p⟩⟩
  obtain⟨i,k,o,p⟩:=q;exact .inl ⟨i,k,o,p,pO (n:=i) (by omega) (λj d=>s j (by omega) (p j d)) (A i k o)⟩
 .have r: ∀j,j<n->¬b j:=λj k o=>h ⟨j,k,o⟩
  exact .inr ⟨r,pO (n:=n) z (λj d=>s j d (r j d)) y⟩
theorem aj1 {seg pre inner rest:List bx}{o e:bx}{t:Int}(f:Q9 seg=O t)(s:seg=pre++o::(inner++e::rest))(r:o.1=7)(q:e.1=0)(hi:bm inner 0=O 0):
  ∃w b,Q9 inner=O w/\yX w o.2.2.2.2=O b:=by
 unfold Q9 at f;rw[s,Bc]at f;obtain⟨st,k,u⟩:=ah f;obtain⟨d,y,c⟩:=ah k;cases d with
 |nil=>simp[qZ]at c
 |cons p d=>
  simp only[qZ]at c;rw[zE r,Bc,FG hi]at c;cases j:Q9 inner with
  |none=>rw[j]at c;cases c
  |some w=>
   rw[j]at c;have c:qZ (e::rest) ((o.2.2.2.2,0+w)::(p.1,p.2)::d)=O st:=c;simp only[qZ]at c;rw[Zh,zE q,cN]at c;cases h:yX w o.2.2.2.2 with
   |none=>rw[h]at c;cases c
   |some b=>exact⟨w,b,rfl,h⟩
theorem OC : ∀(n:Nat) (seg:List bx),seg.length<=n->bm seg 0=O 0->Q9 seg=Y->∃pre o inner e rest w,seg=pre++o::(inner++e::rest)/\o.1=7/\e.1=0/\bm inner 0=O 0/\Q9 inner=O w/\yX w o.2.2.2.2=Y
 |n,[],_,_,c=>by cases c
 |0,o::s,h,_,_=>by simp at h
 |n+1,o::s,I,k,c=>by
  simp only[cD]at I;by_cases z:o.1=7
  .have C:bm s 1=O 0:=by
    simp only[bm]at k;rw[Zh,Zh,zE z]at k;exact k
   obtain⟨inner,e,rest,J,F,A,K⟩:=Cj _ s 0 (aB _) C;subst J;simp only[cM,cD]at I;obtain⟨d,B⟩:=N3 k z F A;rw[B]at c;cases D:Q9 inner with
   |none=>
    obtain⟨pre,q,p,f,y,w,r,u⟩:=OC n inner (by omega) A D;exact⟨o::pre,q,p,f,y++e::rest,w,by rw[r];simp,u⟩
   |some w=>
    rw[D]at c;simp only[zG]at c;cases H:yX w o.2.2.2.2 with
    |none=>exact⟨[],o,inner,e,rest,w,rfl,z,F,A,D,H⟩
    |some b=>
     rw[H]at c;simp only[zG]at c;cases j:Q9 rest with
     |some t=>rw[j]at c;cases c
     |none=>
      obtain⟨pre,q,p,f,y,E,r,u⟩:=OC n rest (by omega) d j;exact⟨o::(inner++e::pre),q,p,f,y,E,by rw[r];simp,u⟩
  .obtain⟨d,_,B⟩:=MQ k z;rw[B]at c;cases j:Q9 s with
   |some t=>rw[j]at c;cases c
   |none=>
    obtain⟨pre,q,p,f,y,E,r,u⟩:=OC n s (by omega) d j;exact⟨o::pre,q,p,f,y,E,by rw[r];rfl,u⟩
section
variable {l:List bx} {m:Zd}
theorem FM (I:l.length<=1500)(q: ∀o∈l,0<=o.2.2.2.2/\o.2.2.2.2<=18446744073709551615)(j:MOK l m)(D:bm l 0=O 0)(hi:i<l.length)(p:l[i].1=7):
  ∃inner e rest b w r,l.drop (i+1)=inner++e::rest/\e.1=0/\bm inner 0=O 0/\m[i]?=O r/\r=((i+1+inner.length:Nat):Int)/\uI l m (i:Int)=O b/\mz l m ((i+1:Nat):Int) r=O w/\0<=b/\0<=w/\
   ∀t,Q9 inner=O t->b=Vw t l[i].2.2.2.2/\w=In t:=by
 obtain⟨inner,e,rest,h,k,c⟩:=P3 D hi p
 have s:l.length=i+1+inner.length+1+rest.length:=by
  have:=congrArg cZ h;rw[dJ]at this;simp at this;omega
 have d:l=l.take (i+1)++inner++e::rest:=by
  rw[cK,<-h,dN]
 have C:(l.take (i+1)).length=i+1:=by rw[eA];omega
 obtain⟨b,z,A,H,B⟩:=P4 (by omega) q j (wok (by omega) q j 1501) (f:=4000) (by omega) hi p h k c (by omega);obtain⟨w,y,E,J,F⟩:=wok (by omega) q j 1501 4000 (by omega) (l.take (i+1)) inner (e::rest) d (by omega) c;rw[C]at y;exact⟨inner,e,rest,b,w,_,h,k,c,j.at' i hi p inner e rest h k c,rfl,z,y,A,E,λt u=>⟨B t u,F t u⟩⟩
theorem Tf (W:l.length<=1500)(y: ∀o∈l,0<=o.2.2.2.2/\o.2.2.2.2<=18446744073709551615)(F:MOK l m)(M:bm l 0=O 0):
  aq (jo l (0,m)) di 0=O (match Q9 l with|some _=> .inr ()|none=> .inl ()):=by
 have H:=QF (f:=jo l (0,m)) l.length (by omega)
  (λi=> ∃hi:i<l.length,l[i].1=7/\∃b w A,m[i]?=O A/\uI l m (i:Int)=O b/\mz l m ((i+1:Nat):Int) A=O w/\(65536<b∨65536<w)) (.inl ()) (.inr ())
  (λi hi hn=>by
   unfold jo;simp only[ag];rw[Zg,cl hi];simp only[zG];by_cases k:l[i].1=7
   .obtain⟨c,e,j,b,w,A,L,q2,q3,r,q5,u,D,q8⟩:=FM W y F M hi k;rw[zE k,u];simp only[zG];rw[zF (λh=>hn ⟨hi,k,b,w,A,r,u,D, .inl h⟩),bq (show i<m.length by rw[F.len];exact hi)];simp only[zG];rw[r];simp only[zG];rw[ad (n:=(i:Int)+1) (by omega),show(i:Int)+1=((i+1:Nat):Int)by omega,D];simp only[zG];rw[zF (λh=>hn ⟨hi,k,b,w,A,r,u,D, .inr h⟩)]
   .rw[zF k,ad (n:=(i:Int)+1) (by omega)]
    rfl)
  (λi _ hst=>by
   obtain⟨hi,k,b,w,A,r,u,D,q8⟩:=hst;unfold jo;simp only[ag];rw[Zg,cl hi];simp only[zG];rw[zE k,u];simp only[zG];by_cases hb:65536<b
   .rw[zE hb]
   .rw[zF hb,bq (show i<m.length by rw[F.len];exact hi)];simp only[zG];rw[r];simp only[zG];rw[ad (n:=(i:Int)+1) (by omega),show(i:Int)+1=((i+1:Nat):Int)by omega,D];simp only[zG]
    rw[Zg])
  (by
   unfold jo;simp only[ag]
   rw[Zh])
 cases hq:Q9 l with
 |some t=>
  rcases H with⟨i,h1,⟨hi,k,b,w,A,r,u,D,q8⟩,_⟩|⟨_,h⟩
  .exfalso;obtain⟨c,e,j,b',w',I,p1,p2,Q,E,p5,J,K,p8,p9,C⟩:=FM W y F M hi k
   have d:l=l.take i++l[i]::(c++e::j):=by
    rw[<-p1,cT hi,dN]
   obtain⟨w0,b0,g1,g2⟩:=aj1 hq d k p2 Q;obtain⟨T,V⟩:=C w0 g1;have q: ∀B∈c,0<=B.2.2.2.2:=λB z=>(y B (by rw[d];simp[z])).1
   have s:=II q Q g1;obtain⟨x1,x2⟩:=KN s (y _ (cP hi)).1 g2;obtain⟨x3,x4⟩:=GB s (y _ (cP hi)).1 g2;rw[r]at E;injection E with E
   rw[u]at J;injection J with J
   rw[<-E,D]at K;injection K with K
   have hs9:In w0=w0:=zF (by omega);rw[hs9]at V;omega
  .exact h
 |none=>
  rcases H with⟨_,_,_,_,h⟩|⟨h,_⟩
  .exact h
  .exfalso;obtain⟨pre,o,c,e,j,w,L,q2,q3,r,q5,u⟩:=OC _ l (aB _) M hq;have hi:pre.length<l.length:=by rw[L];simp
   have p:l[pre.length]=o:=by
    have:l[pre.length]?=O o:=by
     rw[L,cL (aB _),bD];rfl
    rw[aD hi]at this;injection this
   have k:l[pre.length].1=7:=by rw[p];exact q2
   have hd:l.drop (pre.length+1)=c++e::j:=by
    rw[L,dF,dG (by omega),show pre.length+1-pre.length=1 by omega];simp
   obtain⟨N,e',rest',b',w',I,p1,p2,Q,E,p5,J,K,p8,p9,C⟩:=FM W y F M hi k;have:=xi (hd.symm.trans p1) r Q q3 p2;subst this;obtain⟨T,V⟩:=C w q5;have q: ∀B∈c,0<=B.2.2.2.2:=λB z=>(y B (by rw[L];simp[z])).1
   have s:=II q r q5;rw[p]at T;have X:0<=o.2.2.2.2:=by rw[<-p];exact(y _ (cP hi)).1
   refine h _ hi ⟨hi,k,b',w',I,E,J,K, ?_⟩;rcases Xx s X u with x|x
   .right;rw[V];unfold In;rw[zE x];omega
   .left;rw[T,x];omega
theorem Cf (p:l.length<=1500)(h: ∀o∈l,0<=o.2.2.2.2/\o.2.2.2.2<=18446744073709551615):my l=O (du l):=by
 unfold my du;rcases Rb (l:=l) (by omega)with⟨b,m,f,d⟩|⟨b,f⟩
 .rw[f,zE b];simp only[zG];rw[zA (by simp),zD,Tf p h d b];cases k:Q9 l with
  |none=>rfl
  |some t=>
   have s:=II (λo q=>(h o q).1) b k;simp only[zG,bk];obtain⟨w,j,u,y,r⟩:=wok (by omega) h d 1501 4000 (by omega) [] l [] (by simp) (by omega) b
   have j:mz l m 0 (l.length:Int)=O w:=by
    rw[<-j];show _=(bz 4000).1 l m 0 ((0+l.length:Nat):Int);rw[cS];rfl
   rw[j];simp only[zG,ag];have e:=r t k;unfold In at e;by_cases c:65536<t
   .rw[zE c]at e;rw[zE c,Zg]
   .rw[zF c]at e;rw[zF c,Zh,e]
 .rw[f,zF b];rfl
end
theorem xp {α δ:Type}{f:Int->Option (Int⊕δ)}{l:List α}(p:α->Bool)(c:Nat->δ)(e:δ)(C:l.length<1000000)
  (q: ∀i,(hi:i<l.length)->f (i:Int)=O (if p l[i]then .inr (c i)else .inl ((i+1:Nat):Int))) (y:f (l.length:Int)=O (.inr e)):
  (l.any p=Za/\∃i:Nat,aq f di 0=O (c i))∨(l.any p=Zb/\aq f di 0=O e):=by
 by_cases h: ∃i,∃hi:i<l.length,p l[i]=Za
 .left
  have o: ∃i,(∃hi:i<l.length,p l[i]=Za)/\∀j,j<i->¬∃b:j<l.length,p l[j]=Za:=by
   obtain⟨i,hi⟩:=h;induction i using Nat.strongRecOn with
   |ind i B=>
    by_cases b: ∃j,j<i/\∃b:j<l.length,p l[j]=Za
    .obtain⟨j,k,u⟩:=b;exact B j k u
    .exact⟨i,hi,λj h k=>b ⟨j,h,k⟩⟩
  obtain⟨i,⟨hi,r⟩,s⟩:=o;refine⟨List.any_eq_true.2 ⟨l[i],cP hi,r⟩,i,pO (n:=i) (by omega) (λj b=> ?_) ?_⟩
  .rw[q j (by omega),zF (λd=>s j b ⟨by omega,d⟩)]
  .rw[q i hi,zE r]
 .right;refine⟨?_,pO (n:=l.length) (by omega) (λj b=> ?_) y⟩
  .rw[Bool.eq_false_iff];intro z;obtain⟨x,A,d⟩:=List.any_eq_true.1 z;obtain⟨i,hi,rfl⟩:=List.getElem_of_mem A;exact h ⟨i,hi,d⟩
  .rw[q j b,zF (λd=>h ⟨j,b,d⟩)]
def az (k:Int):Bool×Bool×Bool×Bool:=if k=1∨k=2∨k=3 then(Za,Za,Za,Zb)else if k=4∨k=6 then(Za,Za,Zb,Zb)else if k=5 then(Za,Zb,Zb,Za)else if k=7 then(Zb,Zb,Zb,Za)else(Zb,Zb,Zb,Zb)
theorem Cb (k:Int):k=1∨k=2∨k=3∨k=4∨k=5∨k=6∨k=7∨(¬k=1/\¬k=2/\¬k=3/\¬k=4/\¬k=5/\¬k=6/\¬k=7):=by omega
theorem If (k:Int):oT k=O (az k):=by
 rcases Cb k with rfl|rfl|rfl|rfl|rfl|rfl|rfl|⟨b,c,d,e,f,h,j⟩
 any_goals rfl
 simp[oT,az,b,c,d,e,f,h,j]
theorem Aw (k:Int):jR k=O (az k):=by
 rcases Cb k with rfl|rfl|rfl|rfl|rfl|rfl|rfl|⟨b,c,d,e,f,j,o⟩
 any_goals rfl
 by_cases h:1<=k
 .simp[jR,az,b,c,d,e,f,j,o,h,show¬k<=3 by omega,bk]
 .simp[jR,az,b,c,d,e,f,j,o,h,bk]
def A9 (n:Int)(q:Bool):Bool:=if q then Zc (0<=n/\n<=2147483647)else Zc (n=0)
theorem JI (n:Int)(q:Bool):jm n q=O (A9 n q):=by
 unfold jm A9;cases q
 .rfl
 .by_cases h:0<=n<;>simp[h]
def jU (o:bx):Bool:=Zc (0<=o.1/\o.1<8)&&(A9 o.2.1 (az o.1).1&&(A9 o.2.2.1 (az o.1).2.1&&(A9 o.2.2.2.1 (az o.1).2.2.1&&((az o.1).2.2.2||Zc (o.2.2.2.2=0)))))
theorem Pa (o:bx):se o.1 o.2.1 o.2.2.1 o.2.2.2.1 o.2.2.2.2=O (jU o):=by
 unfold se xF jU
 have j:(cond (Zc (0<=o.1)) (O (Zc (o.1<8))) (O Zb))=O (Zc (0<=o.1/\o.1<8)):=by
  by_cases h:0<=o.1<;>simp[h]
 rw[If,j];simp only[zG,JI];generalize Zc (0<=o.1/\o.1<8)=b;generalize A9 o.2.1 (az o.1).1=c;generalize A9 o.2.2.1 (az o.1).2.1=d;generalize A9 o.2.2.2.1 (az o.1).2.2.1=e;generalize (az o.1).2.2.2=f;cases b<;>cases c<;>cases d<;>cases e<;>cases f<;>rfl
theorem I3 (o:bx):ql o.1 o.2.1 o.2.2.1 o.2.2.2.1 o.2.2.2.2=O (jU o):=by
 unfold ql;simp only[ag];by_cases y:o.1<0
 .rw[zE y];unfold jU;rw[zA (show¬(0<=o.1/\o.1<8)by omega)];rfl
 rw[zF y];by_cases z:7<o.1
 .rw[zE z];unfold jU;rw[zA (show¬(0<=o.1/\o.1<8)by omega)];rfl
 rw[zF z,Aw];simp only[zG]
 have c:=xp (f:=pG o.2.1 o.2.2.1 o.2.2.2.1 (az o.1)) (l:=[(o.2.1,(az o.1).1),(o.2.2.1,(az o.1).2.1),(o.2.2.2.1,(az o.1).2.2.1)]) (λp=> !A9 p.1 p.2) (λ_=> .inl Zb) (.inr ()) (by simp)
  (λi hi=>by
   unfold pG;have hi:i<3:=hi;rw[ag,Zg,bq (show i<3 from hi),bq (show i<4 by omega)];simp only[zG,ag]
   have A:dH [o.2.1,o.2.2.1,o.2.2.2.1] i 0=([(o.2.1,(az o.1).1),(o.2.2.1,(az o.1).2.1),(o.2.2.2.1,(az o.1).2.2.1)][i]).1:=by
    rcases(show i=0∨i=1∨i=2 by omega)with rfl|rfl|rfl<;>rfl
   have B:dH [(az o.1).1,(az o.1).2.1,(az o.1).2.2.1,(az o.1).2.2.2] i Zb=([(o.2.1,(az o.1).1),(o.2.2.1,(az o.1).2.1),(o.2.2.2.1,(az o.1).2.2.1)][i]).2:=by
    rcases(show i=0∨i=1∨i=2 by omega)with rfl|rfl|rfl<;>rfl
   rw[A,B,ad (n:=(i:Int)+1) (by omega),show(i:Int)+1=((i+1:Nat):Int)by omega];generalize [(o.2.1,(az o.1).1),(o.2.2.1,(az o.1).2.1),(o.2.2.2.1,(az o.1).2.2.1)][i]=x;obtain⟨n,q⟩:=x;simp only[A9];by_cases r:n<0
   .rw[zE r,zE];cases q
    .simp;omega
    .simp;omega
   rw[zF r];by_cases s:2147483647<n
   .rw[zE s,zE];cases q
    .simp;omega
    .simp;omega
   rw[zF s];cases q with
   |true=>
    rw[zB (show 0<=n/\n<=2147483647 by omega)];rfl
   |false=>
    by_cases u:n=0
    .subst u;rfl
    .simp[u])
  (by
   unfold pG
   rw[ag,zF (by simp)])
 unfold jU;rw[zB (show 0<=o.1/\o.1<8 by omega)]
 have b:([(o.2.1,(az o.1).1),(o.2.2.1,(az o.1).2.1),(o.2.2.2.1,(az o.1).2.2.1)].any λp=> !A9 p.1 p.2)= !(A9 o.2.1 (az o.1).1&&(A9 o.2.2.1 (az o.1).2.1&&A9 o.2.2.2.1 (az o.1).2.2.1)):=by
  simp[List.any,Bool.not_and]
 rw[b]at c;generalize A9 o.2.1 (az o.1).1=d at*;generalize A9 o.2.2.1 (az o.1).2.1=e at*;generalize A9 o.2.2.2.1 (az o.1).2.2.1=j at*;rcases c with⟨h,_,k⟩|⟨h,k⟩
 .rw[k];cases d<;>cases e<;>cases j<;>first|rfl|cases h
 .rw[k]
  have:d=Za/\e=Za/\j=Za:=by
   cases d<;>cases e<;>cases j<;>first|exact⟨rfl,rfl,rfl⟩|cases h
  obtain⟨rfl,rfl,rfl⟩:=this;simp only[zG,bk];cases(az o.1).2.2.2<;>rfl
theorem BZ (b:Bool)(e:Int):gv b e=O (if b then e else 0):=by cases b<;>rfl
def yt (l:List bx):Bool:=Zc (bm l 0=O 0)&& !(l.any λo=> !jU o)
theorem FN {R:Int}{l:List bx}(e:l.length<=4096):gC R l=O (if yt l then 0 else 6):=by
 unfold gC;obtain⟨m,d⟩:=yx (l:=l) (by omega);rw[d];simp only[zG,BZ];rw[Ze,zD,ag];unfold yt;by_cases b:bm l 0=O 0
 .rw[zE b,zF (by simp),zB b];unfold gu ig
  rcases xp (f:=eT l) (l:=l) (λo=> !jU o) (λi=> .inl (i:Int)) (.inr ()) (by omega) (λi hi=>by
   unfold eT;rw[ag,Zg,cl hi];simp only[zG];unfold mT;rw[Pa,ad (n:=(i:Int)+1) (by omega)];simp only[zG]
   cases jU l[i]<;>rfl) (by
   unfold eT
   rw[ag,Zh])with⟨h,i,c⟩|⟨h,c⟩
  .rw[c,h];simp only[zG,bk];rw[Zf];rfl
  .rw[c,h];rfl
 .rw[zF b,zE (by simp),zA b];rfl
theorem Th {R:Int}{l:List bx}(c:l.length<=1500):wQ R l=O (yt l):=by
 unfold wQ yt;rw[Ze,zD,F1 (by omega)];simp only[zG];cases Zc (bm l 0=O 0)with
 |false=>rfl
 |true=>
  rcases xp (f:=qH l) (l:=l) (λo=> !jU o) (λi=> .inl Zb) (.inr ()) (by omega) (λi hi=>by
   unfold qH;rw[ag,Zg,cl hi];simp only[zG];rw[I3,ad (n:=(i:Int)+1) (by omega)];simp only[zG]
   cases jU l[i]<;>rfl) (by
   unfold qH
   rw[ag,Zh])with⟨h,i,b⟩|⟨h,b⟩
  .rw[b,h];rfl
  .rw[b,h];rfl
def O6 (R:Int)(o:bx):Bool:=((az o.1).1&&Zc (R<=o.2.1))||((az o.1).2.1&&Zc (R<=o.2.2.1))||((az o.1).2.2.1&&Zc (R<=o.2.2.2.1))
def Hb (R:Int)(l:List bx):Bool:=Zc (1<=R/\R<=64)&& !(l.any (O6 R))
theorem LG (x y:Int):bt [x,y]=O [y,x]:=by kernel_rfl
theorem Re (x:Int):bt [x]=O [x]:=by kernel_rfl
theorem LF :bt []=O []:=by kernel_rfl
theorem O9 (o:bx):sd o.1 o.2.1 o.2.2.1 o.2.2.2.1 o.2.2.2.2=O (if(az o.1).2.1 then(if(az o.1).2.2.1 then [o.2.2.1,o.2.2.2.1]else [o.2.2.1])else []):=by
 obtain⟨k,d,a,b,v⟩:=o;simp only;rcases Cb k with rfl|rfl|rfl|rfl|rfl|rfl|rfl|⟨c,e,f,h,p,j,q⟩
 .exact(show _=(bt [b,a]).bind _ from rfl).trans (by rw[LG];rfl)
 .exact(show _=(bt [b,a]).bind _ from rfl).trans (by rw[LG];rfl)
 .exact(show _=(bt [b,a]).bind _ from rfl).trans (by rw[LG];rfl)
 .exact(show _=(bt [a]).bind _ from rfl).trans (by rw[Re];rfl)
 .exact(show _=(bt []).bind _ from rfl).trans (by rw[LF];rfl)
 .exact(show _=(bt [a]).bind _ from rfl).trans (by rw[Re];rfl)
 .exact(show _=(bt []).bind _ from rfl).trans (by rw[LF];rfl)
 .unfold sd;simp only[zA c,zA e,zA f,zA h,zA j,zD,zG,bk,LF];simp[az,c,e,f,h,p,j,q]
theorem OL (l:Zd)(R:Int)(p:List bx)(c:l.length<2000):eX l R p=O (l.any λn=>Zc (R<=n)):=by
 unfold eX kq
 rcases xp (f:=gh l R p) (l:=l) (λn=>Zc (R<=n)) (λi=> .inl (i:Int)) (.inr ()) (by omega) (λi hi=>by
  unfold gh;rw[ag,Zg,cl hi];simp only[zG];unfold iZ;rw[ad (n:=(i:Int)+1) (by omega)];simp only[zG]
  cases Zc (R<=l[i])<;>rfl) (by
  unfold gh
  rw[ag,Zh])with⟨h,i,b⟩|⟨h,b⟩
 .rw[b,h];simp only[zG,bk];rw[Zf]
 .rw[b,h];rfl
theorem Rc (o:bx)(R:Int)(p:List bx):gS o.1 o.2.1 o.2.2.1 o.2.2.2.1 o.2.2.2.2 R p=O (O6 R o):=by
 unfold gS ju;rw[O9,If];unfold O6;simp only[zG];obtain⟨k,d,a,b,v⟩:=o;simp only
 have s:(az k).2.2.1=Za->(az k).2.1=Za:=by
  unfold az;split
  .intro _;rfl
  split
  .intro _;rfl
  split
  .intro h;cases h
  split<;>intro h<;>cases h
 have u:(az k).2.1=Za->(az k).1=Za:=by
  unfold az;split
  .intro _;rfl
  split
  .intro _;rfl
  split
  .intro h;cases h
  split<;>intro h<;>cases h
 generalize (az k).1=f at*;generalize (az k).2.1=j at*;generalize (az k).2.2.1=q at*
 have c: ∀l:Zd,l.length<2000->∀r,(l.any λn=>Zc (R<=n))=r->((eX l R p).bind λe=>O e)=O r:=by
  intro l A r B;rw[OL l R p A,B];rfl
 cases f<;>cases j<;>cases q<;>first
  |(cases u rfl)
  |(cases s rfl)
  |skip
 .refine c [] (by simp) _ ?_;generalize Zc (R<=d)=x;generalize Zc (R<=a)=y;generalize Zc (R<=b)=z;cases x<;>cases y<;>cases z<;>rfl
 .refine c [d] (by simp) _ ?_;simp only[dX,dY];generalize Zc (R<=d)=x;generalize Zc (R<=a)=y;generalize Zc (R<=b)=z;cases x<;>cases y<;>cases z<;>rfl
 .refine c [a,d] (by simp) _ ?_;simp only[dX,dY];generalize Zc (R<=d)=x;generalize Zc (R<=a)=y;generalize Zc (R<=b)=z;cases x<;>cases y<;>cases z<;>rfl
 .refine c [a,b,d] (by simp) _ ?_;simp only[dX,dY];generalize Zc (R<=d)=x;generalize Zc (R<=a)=y;generalize Zc (R<=b)=z;cases x<;>cases y<;>cases z<;>rfl
theorem vY {R:Int}{l:List bx}(e:l.length<=4096):eZ R l=O (if Hb R l then 0 else 7):=by
 unfold eZ Hb;simp only[BZ,zG,ag];by_cases c:R<1
 .rw[zE c,zA (show¬(1<=R/\R<=64)by omega)];rfl
 rw[zF c];by_cases d:64<R
 .rw[zE d,zA (show¬(1<=R/\R<=64)by omega)];rfl
 rw[zF d,zB (show 1<=R/\R<=64 by omega)];unfold fZ gz
 rcases xp (f:=ej l R l) (l:=l) (O6 R) (λi=> .inl (i:Int)) (.inr ()) (by omega) (λi hi=>by
  unfold ej;rw[ag,Zg,cl hi];simp only[zG];rw[Rc,ad (n:=(i:Int)+1) (by omega)];simp only[zG]
  cases O6 R l[i]<;>rfl) (by
  unfold ej
  rw[ag,Zh])with⟨h,i,b⟩|⟨h,b⟩
 .rw[b,h];simp only[zG,bk];rw[Zf];rfl
 .rw[b,h];rfl
theorem JK {R:Int}{l:List bx}(k:l.length<=1500):oJ R l=O (Hb R l):=by
 unfold oJ Hb;simp only[ag];by_cases c:R<1
 .rw[zE c,zA (show¬(1<=R/\R<=64)by omega)];rfl
 rw[zF c];by_cases d:64<R
 .rw[zE d,zA (show¬(1<=R/\R<=64)by omega)];rfl
 rw[zF d,zB (show 1<=R/\R<=64 by omega)]
 rcases xp (f:=lz R l) (l:=l) (O6 R) (λi=> .inl Zb) (.inr ()) (by omega) (λi hi=>by
  unfold lz;rw[ag,Zg,cl hi];simp only[zG];rw[Aw,ad (n:=(i:Int)+1) (by omega)];simp only[zG];unfold O6;generalize l[i]=o;generalize Zc (R<=o.2.1)=x;generalize Zc (R<=o.2.2.1)=y;generalize Zc (R<=o.2.2.2.1)=z;generalize (az o.1).1=e;generalize (az o.1).2.1=j;generalize (az o.1).2.2.1=b3
  cases e<;>cases j<;>cases b3<;>cases x<;>cases y<;>cases z<;>rfl) (by
  unfold lz
  rw[ag,Zh])with⟨h,i,b⟩|⟨h,b⟩
 .rw[b,h];rfl
 .rw[b,h];rfl
def hmax :List bx->Nat->Nat->Nat
 |[],_,m=>m
 |o::r,d,m=>if o.1=7 then hmax r (d+1) (max m (d+1))else if o.1=0 then hmax r (d-1) m else hmax r d m
def ax3 (l:List bx)(s:Int×Bool×Int×Zd):Prop:=
 ∃(i m:Nat) (st:Zd),i<=l.length/\s=((i:Int),Za,(m:Int),st)/\st.length<=i/\m<=i/\bm (l.drop i) st.length=bm l 0/\hmax (l.drop i) st.length m=hmax l 0 0
theorem VE {l:List bx}(A:l.length<=100000)(s:Int×Bool×Int×Zd)(h:ax3 l s):
  (∃b,mr l s=O (.inl b)/\ax3 l b/\l.length-b.1.toNat<l.length-s.1.toNat)∨∃c,mr l s=O (.inr c)/\((c.1=Zb/\bm l 0=Y)∨(c.1=Za/\bm l 0=O c.2.2.length/\c.2.1=(hmax l 0 0:Int))):=by
 obtain⟨i,m,st,hi,rfl,z,y,d,e⟩:=h;by_cases c:i<l.length
 .have j:l.drop i=l[i]::l.drop (i+1):=(cT c).symm;rw[j]at d e;simp only[mr];rw[zB (show(i:Int)<(l.length:Int)by omega),zC,cl c];simp only[zG];generalize B:l[i]=x at*;simp only[bm]at d;simp only[hmax]at e;by_cases r:x.1<0
  .rw[zE (.inl r)]at d;rw[zB r];simp only[zC,zG,iw];exact .inr ⟨_,rfl, .inl ⟨rfl,d.symm⟩⟩
  rw[zA r,zD];by_cases f:7<x.1
  .rw[zE (.inr f)]at d;rw[zB f];simp only[zC,zG,ck,iw];exact .inr ⟨_,rfl, .inl ⟨rfl,d.symm⟩⟩
  rw[zA f,zD];rw[Zh]at d;by_cases o:x.1=0
  .rw[zE o]at d;rw[Zh,zE o]at e;rw[zB o];simp only[zC,zG,ck];by_cases p:st.length=0
   .rw[zE p]at d;rw[zB (show(st.length:Int)=0 by omega)];simp only[zC,zG,iw];exact .inr ⟨_,rfl, .inl ⟨rfl,d.symm⟩⟩
   .rw[zF p]at d;rw[zA (show¬(st.length:Int)=0 by omega),zD];rw[ad (n:=(st.length:Int)-1) (by omega),Zl,ci];simp only[zG,ck];rw[zA (show¬x.1=7 by omega)];simp only[zD];rw[ad (n:=(i:Int)+1) (by omega)]
    have k:(st.take (((st.length:Int)-1).toNat-0)).length=st.length-1:=by
     rw[eA];omega
    refine .inl ⟨_,rfl,⟨i+1,m,_,c,rfl,by rw[k];omega,by omega,by rw[k];exact d,by rw[k];exact e⟩,by simp;omega⟩
  .rw[zF o]at d;have u:Zc (x.1=0)=Zb:=zA o;rw[u];simp only[zD,zG,ck];by_cases f:x.1=7
   .rw[zE f]at d e;rw[zB f];simp only[zC];rw[bp (by omega) (by omega),ad (n:=(i:Int)+1) (by omega),ad (n:=(st.length:Int)+1) (by omega)];refine .inl ⟨_,rfl,⟨i+1,max m (st.length+1),st++[(i:Int)],c, ?_,by simp;omega,by omega,by rw[cM];exact d,by rw[cM];exact e⟩,by simp;omega⟩;rw[show((max m (st.length+1):Nat):Int)=max (m:Int) ((st.length:Int)+1)by omega];rfl
   .rw[zF f]at d e;rw[zF o]at e;rw[zA f];simp only[zD];rw[ad (n:=(i:Int)+1) (by omega)];exact .inl ⟨_,rfl,⟨i+1,m,st,c,rfl,by omega,by omega,d,e⟩,by simp;omega⟩
 .have q:i=l.length:=by omega
  subst q;rw[cX]at d e;simp only[mr];rw[zA (show¬(l.length:Int)<(l.length:Int)by omega),zD];have e:m=hmax l 0 0:=e;exact .inr ⟨_,rfl, .inr ⟨rfl,d.symm,by rw[<-e]⟩⟩
def KW (l:List bx):Int×Int:=if bm l 0=O 0 then((hmax l 0 0:Int),0)else(0,6)
theorem Wj {l:List bx}(p:l.length<=100000):zc l=O (KW l):=by
 unfold zc KW
 obtain⟨c,o,h⟩:=tj (f:=mr l) (a:=((0:Int),Za,(0:Int),([]:Zd))) (ax3 l) (λs=>l.length-s.1.toNat) (λc=>(c.1=Zb/\bm l 0=Y)∨(c.1=Za/\bm l 0=O c.2.2.length/\c.2.1=(hmax l 0 0:Int)))
  ⟨0,0,[],cU _,rfl,aB _,aB _,rfl,rfl⟩ (by simp;omega) (λs q=>VE p s q)
 rw[o];simp only[zG];rcases h with⟨b,d⟩|⟨b,d,k⟩
 .rw[b,d];rfl
 .rw[b,d,zC];by_cases j:c.2.2.length=0
  .rw[zB (show(c.2.2.length:Int)=0 by omega),zE (by rw[j]),k];rfl
  .rw[zA (show¬(c.2.2.length:Int)=0 by omega),zF (by intro e;injection e with e;exact j e)];rfl
def Gc (l:List bx)(i:Nat):Nat:=(bm (l.take i) 0).getD 0
theorem Qd {l:List bx}(c:bm l 0=O 0)(hi:i<=l.length):bm (l.take i) 0=O (Gc l i):=by
 obtain⟨d,b,_⟩:=KD c hi;unfold Gc;rw[b];rfl
theorem KX {l:List bx}(e:bm l 0=O 0)(hi:i<l.length):(l[i].1=7/\Gc l (i+1)=Gc l i+1)∨(l[i].1=0/\0<Gc l i/\Gc l (i+1)=Gc l i-1)∨(l[i].1≠7/\l[i].1≠0/\Gc l (i+1)=Gc l i):=by
 have b:=Qd e (i:=i+1) (by omega);rw[eE hi,qz,Qd e (by omega)]at b;have b:bm [l[i]] (Gc l i)=O (Gc l (i+1)):=b;simp only[bm]at b;split at b
 .cases b
 split at b
 .rename_i f c;split at b
  .cases b
  .injection b with b
   exact .inr (.inl ⟨c,by omega,b.symm⟩)
 rename_i f c;split at b
 .rename_i d;injection b with b
  exact .inl ⟨d,b.symm⟩
 .rename_i d;injection b with b
  exact .inr (.inr ⟨d,c,b.symm⟩)
theorem XM {l:List bx}(c:bm l 0=O 0): ∀i,i<=l.length->Gc l i<=i
 |0,_=>aB _
 |i+1,h=>by
  have:=XM c i (by omega);rcases KX c (i:=i) (by omega)with⟨_,b⟩|⟨_,_,b⟩|⟨_,_,b⟩<;>omega
theorem Ph {l:List bx}(k:l.length<=100000)(h:bm l 0=O 0){n:Nat}(o:n<=l.length):sj l (n:Int)=O (Gc l n:Int):=by
 unfold sj;have e:aq (ly l (n:Int)) di (0,((Gc l 0:Nat):Int))=O ((Gc l n:Nat):Int):=fj (n:=n) (λi=>((Gc l i:Nat):Int)) (c:=((Gc l n:Nat):Int)) (by omega) (λi hi=> ?_) ?_
 .show((aq (ly l (n:Int)) di (0,((Gc l 0:Nat):Int))).bind _)=_;rw[e];rfl
 .unfold ly;simp only[ag];rw[Zg,cl (show i<l.length by omega)];simp only[zG];have j:=XM h i (by omega);rw[ad (n:=(i:Int)+1) (by omega)];rcases KX h (i:=i) (by omega)with⟨b,d⟩|⟨b,f,d⟩|⟨b,f,d⟩
  .rw[zE b,Zh,ad (n:=((Gc l i:Nat):Int)+1) (by omega),d];rfl
  .rw[Zh,zE b,ad (n:=((Gc l i:Nat):Int)-1) (by omega),d,show((Gc l i-1:Nat):Int)=(Gc l i:Int)-1 by omega];rfl
  .rw[zF b,zF f,d];rfl
 .unfold ly;simp only[ag];rw[Zh]
def AV (l:List bx):Nat->Nat
 |0=>0
 |i+1=>max (AV l i) (Gc l i)
theorem Nk {l:List bx}(j:bm l 0=O 0): ∀k i,i+k=l.length->hmax (l.drop i) (Gc l i) (AV l (i+1))=AV l (l.length+1)
 |0,i,h=>by
  have:i=l.length:=by omega
  subst this;rw[cX];rfl
 |k+1,i,h=>by
  rw[(cT (show i<l.length by omega)).symm];simp only[hmax];have d:=Nk j k (i+1) (by omega);have e:AV l (i+1+1)=max (AV l (i+1)) (Gc l (i+1)):=rfl;have o:AV l (i+1)=max (AV l i) (Gc l i):=rfl;rcases KX j (i:=i) (by omega)with⟨b,c⟩|⟨b,f,c⟩|⟨b,f,c⟩
  .rw[zE b,<-c,<-e];exact d
  .rw[Zh,zE b,<-c,show AV l (i+1)=AV l (i+1+1)by rw[e];omega];exact d
  .rw[zF b,zF f];rw[c,show AV l (i+1+1)=AV l (i+1)by rw[e];omega]at d;exact d
theorem Te {l:List bx}(e:l.length<=100000):wO l=O (KW l):=by
 unfold wO KW;rw[F1 e];simp only[zG];by_cases b:bm l 0=O 0
 .rw[zB b,zE b];simp only[dB,zD];have d:aq (nP l) di (0,((AV l 0:Nat):Int))=O ((AV l (l.length+1):Nat):Int):=fj (n:=l.length+1) (λi=>((AV l i:Nat):Int)) (c:=((AV l (l.length+1):Nat):Int)) (by omega) (λi hi=> ?_) ?_
  .show((aq (nP l) di (0,((AV l 0:Nat):Int))).bind _)=_;rw[d];have h:=Nk b l.length 0 (by omega);have e0:Gc l 0=0:=rfl;have f:AV l (0+1)=0:=rfl;rw[e0,f,List.drop_zero]at h;rw[h];rfl
  .unfold nP;simp only[ag];rw[Zg,Ph e b (by omega)];simp only[zG];rw[ad (n:=(i:Int)+1) (by omega)];show _=O (Sum.inl (((i+1:Nat):Int),((max (AV l i) (Gc l i):Nat):Int)));rw[show((max (AV l i) (Gc l i):Nat):Int)=max (AV l i:Int) (Gc l i:Int)by omega];rfl
  .unfold nP;simp only[ag];rw[Zh]
 .rw[zA b,zF b];rfl
structure OpsOk (l:List bx):Prop where
 len:l.length<=4096
 v: ∀o∈l,0<=o.2.2.2.2/\o.2.2.2.2<=18446744073709551615
def JY (l:List bx):Int:=if yt l then 0 else 6
def JZ (R:Int)(l:List bx):Int:=if Hb R l then 0 else 7
def J0 (l:List bx):Int:=if 8<(KW l).1 then 8 else 0
def J1 (l:List bx):Int:=(du l).2
def Cd (R:Int)(l:List bx):Int:=if JY l≠0 then JY l else if JZ R l≠0 then JZ R l else if J0 l≠0 then J0 l else J1 l
def lU (R:Int)(l:List bx)(Q:Int)(k:List bx):Int:=if JY l≠0 then JY l else if JY k≠0 then JY k else if JZ R l≠0 then JZ R l else if JZ Q k≠0 then JZ Q k else if J0 l≠0 then J0 l else if J0 k≠0 then J0 k else if J1 l≠0 then J1 l else J1 k
theorem DQ {R:Int}{l:List bx}(h:OpsOk l):gj R l=O (J0 l):=by
 unfold gj J0;have:=h.len;rw[Wj (by omega)];simp only[zG,BZ];by_cases c:8<(KW l).1<;>simp[c]
theorem B0 {R:Int}{l:List bx}(h:OpsOk l):fR R l=O (J1 l):=by
 unfold fR J1;have:=h.len;rw[vD (by omega) h.v];rfl
theorem ME {R:Int}{l:List bx}(h:OpsOk l):qD R l=O (Cd R l):=by
 unfold qD Cd;rw[FN h.len,vY h.len,DQ h,B0 h];simp only[zG,ag];show(if JY l≠0 then O (JY l)else if JZ R l≠0 then O (JZ R l)else if J0 l≠0 then O (J0 l)else if J1 l≠0 then O (J1 l)else O 0)=_;split
 .rfl
 split
 .rfl
 split
 .rfl
 split
 .rfl
 .rename_i h;rw[show J1 l=0 by omega]
theorem Sz {R Q:Int}{l k:List bx}(h:OpsOk l)(b:OpsOk k):wM R l Q k=O (lU R l Q k):=by
 unfold wM lU;rw[FN h.len,vY h.len,DQ h,B0 h,FN b.len,vY b.len,DQ b,B0 b];simp only[zG,ag];show(if JY l≠0 then O (JY l)else if JY k≠0 then O (JY k)else if JZ R l≠0 then O (JZ R l)else if JZ Q k≠0 then O (JZ Q k)else if J0 l≠0 then O (J0 l)else if J0 k≠0 then O (J0 k)else if J1 l≠0 then O (J1 l)else if J1 k≠0 then O (J1 k)else O 0)=_;split
 .rfl
 split
 .rfl
 split
 .rfl
 split
 .rfl
 split
 .rfl
 split
 .rfl
 split
 .rfl
 split
 .rfl
 .rename_i h;rw[show J1 k=0 by omega]
def Ux (R:Int)(l:List bx)(n:Nat):Int:=if n=0 then JY l else if n=1 then JZ R l else if n=2 then J0 l else J1 l
theorem LA {R:Int}{l:List bx}(h:OpsOk l)(b:l.length<=1500)(n:Nat):sm R l (n:Int)=O (Ux R l n):=by
 unfold sm Ux;have:=h.len;simp only[ag];by_cases c:n=0
 .rw[Zg,zE c,Th b];unfold JY;simp only[zG];cases yt l<;>rfl
 rw[Zh,zF c];by_cases d:n=1
 .rw[Zg,zE d,JK b];unfold JZ;simp only[zG];cases Hb R l<;>rfl
 rw[Zh,zF d];by_cases e:n=2
 .rw[Zg,zE e,Te (by omega)];unfold J0;simp only[zG];split<;>rfl
 rw[Zh,zF e,Cf b h.v];rfl
theorem Tg {R Q:Int}{l k:List bx}(h:OpsOk l)(q:OpsOk k)(e:l.length<=1500)(f:k.length<=1500):wP R l Q k=O (lU R l Q k):=by
 have b: ∀n:Nat,n<4->lj R l Q k (n:Int)=O (if Ux R l n≠0 then .inr (.inl (Ux R l n))else if Ux Q k n≠0 then .inr (.inl (Ux Q k n))else .inl ((n+1:Nat):Int)):=by
  intro n s;unfold lj;simp only[ag];rw[Zg,LA h e,LA q f];simp only[zG];rw[ad (n:=(n:Int)+1) (by omega)];split
  .rfl
  split<;>rfl
 have c:lj R l Q k 4=O (.inr (.inr ())):=rfl;unfold wP lU
 have j:aq (lj R l Q k) di 0=O (if JY l≠0 then .inl (JY l)else if JY k≠0 then .inl (JY k)else if JZ R l≠0 then .inl (JZ R l)else if JZ Q k≠0 then .inl (JZ Q k)else if J0 l≠0 then .inl (J0 l)else if J0 k≠0 then .inl (J0 k)else if J1 l≠0 then .inl (J1 l)else if J1 k≠0 then .inl (J1 k)else .inr ()):=by
  have r:di=18446744073709551611+1+1+1+1+1:=rfl;rw[r,cb];have d:=b 0 (by omega);have e:=b 1 (by omega);have o:=b 2 (by omega);have p:=b 3 (by omega);rw[show Ux R l 0=JY l from rfl,show Ux Q k 0=JY k from rfl]at d;rw[show Ux R l 1=JZ R l from rfl,show Ux Q k 1=JZ Q k from rfl]at e;rw[show Ux R l 2=J0 l from rfl,show Ux Q k 2=J0 k from rfl]at o;rw[show Ux R l 3=J1 l from rfl,show Ux Q k 3=J1 k from rfl]at p;have d:lj R l Q k 0=_:=d;rw[d];simp only[zG];split
  .rfl
  split
  .rfl
  simp only[bk];rw[cb,e];simp only[zG];split
  .rfl
  split
  .rfl
  simp only[bk];rw[cb,o];simp only[zG];split
  .rfl
  split
  .rfl
  simp only[bk];rw[cb,p];simp only[zG];split
  .rfl
  split
  .rfl
  simp only[bk];rw[cb,show(((3+1:Nat):Int))=4 from rfl,c];rfl
 rw[j];simp only[zG];split
 .rfl
 split
 .rfl
 split
 .rfl
 split
 .rfl
 split
 .rfl
 split
 .rfl
 split
 .rfl
 split
 .rfl
 .rename_i h;rw[show J1 k=0 by omega];rfl
abbrev aW1 :Sh:= .list (.pair (.int .i64) (.pair (.int .i64) (.pair (.int .i64) (.pair (.int .i64) (.int .u64)))))
theorem Pb {l:List bx}(f:Vh aW1 l)(h:l.length<=100):OpsOk l:=⟨by omega,λo b=>(f.2 o b).2.2.2.2⟩
theorem ag7 (a0:Int)(a1:List bx)(a2:Int)(a3:List bx)(a4 a5:Int): ∃d,rQ a0 a1 a2 a3 a4 a5=O d/\pI a0 a1 a2 a3 a4 a5=O d:=by
 unfold rQ pI;simp only[BZ,zG,ag];by_cases b:a4<1
 .rw[zE b,zE b];exact⟨_,rfl,rfl⟩
 rw[zF b,zF b];by_cases c:64<a4
 .rw[zE c,zE c];exact⟨_,rfl,rfl⟩
 rw[zF c,zF c];by_cases e:a5<0
 .rw[zE e,zE e];exact⟨_,rfl,rfl⟩
 rw[zF e,zF e];by_cases f:64<a5
 .rw[zE f];simp only[zG];rw[ag,zE f];exact⟨_,rfl,rfl⟩
 rw[zF f];simp only[zG];rw[ag,zF f];by_cases h:a0<IntKind.i64.wrap (zH zI (a4+a5)+1)
 .rw[zE h,zE h];exact⟨_,rfl,rfl⟩
 rw[zF h,zF h];by_cases j:a2<IntKind.i64.wrap (a4+a5)
 .rw[zE j,zB j];exact⟨_,rfl,rfl⟩
 .rw[zF j,zA j];exact⟨_,rfl,rfl⟩
def yn (s l x t:Int):Int:=if x<1 then 10 else if 64<x then 10 else if t<0 then 10 else if 64<t then 10 else if s<IntKind.i64.wrap (zH zI (x+t)+1)then 10 else if l<IntKind.i64.wrap (x+t)then 10 else 0
theorem Lz (a0:Int)(a1:List bx)(a2:Int)(a3:List bx)(a4 a5:Int):pI a0 a1 a2 a3 a4 a5=O (yn a0 a2 a4 a5):=by
 unfold pI yn;simp only[ag];split
 .rfl
 split
 .rfl
 split
 .rfl
 split
 .rfl
 split
 .rfl
 split<;>rfl
theorem Sy (a0:Int)(a1:List bx)(a2:Int)(a3:List bx)(a4 a5:Int):rQ a0 a1 a2 a3 a4 a5=O (yn a0 a2 a4 a5):=by
 obtain⟨d,b,c⟩:=ag7 a0 a1 a2 a3 a4 a5;rw[b,<-c,Lz]
def hk0 (m:Int):Int:=if m<1 then 5 else if 3<m then 5 else 0
def hk3 (m n:Int):Int:=if n<0 then 11 else if(if m=2 then 0 else 65535)<n then 11 else 0
def hk4 (b:Int):Int:=if b<0 then 12 else if 1048576<b then 12 else 0
def pu (m:Int)(x t:Nat)(R:Int)(l:List bx)(Q:Int)(k:List bx)(n b:Int):Int:=if hk0 m≠0 then hk0 m else if lU R l Q k≠0 then lU R l Q k else if yn R Q x t≠0 then yn R Q x t else if hk3 m n≠0 then hk3 m n else hk4 b
theorem DZ (b:Bool)(e:Int):jX b e=O (if b then e else 0):=by cases b<;>rfl
section
variable {a0:Int} {a1 a2:Zd} {a3:Int} {a4:List bx} {a5:Int} {a6:List bx} {a7 a8:Int}
theorem aB4 :i8 a0 a1 a2 a3 a4 a5 a6 a7 a8=O (hk0 a0):=by
 unfold i8 hk0;simp only[DZ,zG,ag];split
 .rfl
 .by_cases c:3<a0<;>simp[c]
theorem SL (b:OpsOk a4)(c:OpsOk a6):gr a0 a1 a2 a3 a4 a5 a6 a7 a8=O (lU a3 a4 a5 a6):=by
 unfold gr;rw[Sz b c];rfl
theorem aB3 :i7 a0 a1 a2 a3 a4 a5 a6 a7 a8=O (yn a3 a5 (a1.length:Nat) (a2.length:Nat)):=by
 unfold i7;rw[Sy];rfl
theorem XZ :ic a0 a1 a2 a3 a4 a5 a6 a7 a8=O (hk3 a0 a7):=by
 unfold ic hk3;simp only[DZ,zG,ag];by_cases b:a0=2
 .rw[zE b,zE b];simp only[zG];split
  .rfl
  .by_cases c:0<a7<;>simp[c]
 .rw[zF b,zF b];simp only[zG];split
  .rfl
  .by_cases c:65535<a7<;>simp[c]
theorem XY :ib a0 a1 a2 a3 a4 a5 a6 a7 a8=O (hk4 a8):=by
 unfold ib hk4;simp only[DZ,zG,ag];split
 .rfl
 .by_cases c:1048576<a8<;>simp[c]
theorem B7 (j:OpsOk a4)(o:OpsOk a6):kj a0 a1 a2 a3 a4 a5 a6 a7 a8=O (pu a0 a1.length a2.length a3 a4 a5 a6 a7 a8):=by
 have c:ia a0 a1 a2 a3 a4 a5 a6 a7 a8 0=O (if hk0 a0≠0 then .inr (.inl (hk0 a0))else .inl 1):=by
  show((i8 a0 a1 a2 a3 a4 a5 a6 a7 a8).bind λr=>cond (Zc (r≠0)) _ _)=_;rw[aB4];simp only[zG,ag];split<;>rfl
 have d:ia a0 a1 a2 a3 a4 a5 a6 a7 a8 1=O (if lU a3 a4 a5 a6≠0 then .inr (.inl (lU a3 a4 a5 a6))else .inl 2):=by
  show((gr a0 a1 a2 a3 a4 a5 a6 a7 a8).bind λr=>cond (Zc (r≠0)) _ _)=_;rw[SL j o];simp only[zG,ag];split<;>rfl
 have e:ia a0 a1 a2 a3 a4 a5 a6 a7 a8 2=O (if yn a3 a5 (a1.length:Nat) (a2.length:Nat)≠0 then .inr (.inl (yn a3 a5 (a1.length:Nat) (a2.length:Nat)))else .inl 3):=by
  show((i7 a0 a1 a2 a3 a4 a5 a6 a7 a8).bind λr=>cond (Zc (r≠0)) _ _)=_;rw[aB3];simp only[zG,ag];split<;>rfl
 have f:ia a0 a1 a2 a3 a4 a5 a6 a7 a8 3=O (if hk3 a0 a7≠0 then .inr (.inl (hk3 a0 a7))else .inl 4):=by
  show((ic a0 a1 a2 a3 a4 a5 a6 a7 a8).bind λr=>cond (Zc (r≠0)) _ _)=_;rw[XZ];simp only[zG,ag];split<;>rfl
 have k:ia a0 a1 a2 a3 a4 a5 a6 a7 a8 4=O (if hk4 a8≠0 then .inr (.inl (hk4 a8))else .inl 5):=by
  show((ib a0 a1 a2 a3 a4 a5 a6 a7 a8).bind λr=>cond (Zc (r≠0)) _ _)=_;rw[XY];simp only[zG,ag];split<;>rfl
 have b:ia a0 a1 a2 a3 a4 a5 a6 a7 a8 5=O (.inr (.inr ())):=rfl;unfold kj pu;have p:di=18446744073709551610+1+1+1+1+1+1:=rfl;rw[p,cb,c];simp only[zG];split
 .rfl
 simp only[bk];rw[cb,d];simp only[zG];split
 .rfl
 simp only[bk];rw[cb,e];simp only[zG];split
 .rfl
 simp only[bk];rw[cb,f];simp only[zG];split
 .rfl
 simp only[bk];rw[cb,k];simp only[zG];split
 .rfl
 .rename_i h;simp only[bk];rw[cb,b];rw[show hk4 a8=0 by omega];rfl
theorem I4 (q:OpsOk a4)(r:OpsOk a6)(o:a4.length<=1500)(p:a6.length<=1500):qo a0 a1 a2 a3 a4 a5 a6 a7 a8=O (pu a0 a1.length a2.length a3 a4 a5 a6 a7 a8):=by
 unfold qo pu;rw[Tg q r o p,Lz];simp only[zG,ag];unfold hk0;by_cases c:a0<1
 .rw[zE c,zE c];rfl
 rw[zF c,zF c];by_cases d:3<a0
 .rw[zE d,zE d];rfl
 rw[zF d,zF d];rw[zF (show¬(0:Int)≠0 by simp)];by_cases e:lU a3 a4 a5 a6≠0
 .rw[zE e,zE e]
 rw[zF e,zF e];by_cases f:yn a3 a5 (a1.length:Nat) (a2.length:Nat)≠0
 .rw[zE f,zE f]
 rw[zF f,zF f];unfold hk3 hk4;by_cases h:a7<0
 .rw[zE h,zE h];rfl
 rw[zF h,zF h];by_cases j:a0=2
 .rw[zE j,zE j];by_cases k:0<a7
  .rw[zE k,zE (show(11:Int)≠0 by simp)];by_cases b:65535<a7
   .rw[zE b]
   .rw[zF b,Zg]
  .rw[zF k,zF (show¬(0:Int)≠0 by simp),zF (show¬65535<a7 by omega),zF (show¬a7≠0 by omega)];split
   .rfl
   .split<;>rfl
 .rw[zF j,zF j];by_cases b:65535<a7
  .rw[zE b,zE b];rfl
  .rw[zF b,zF b,zF (show¬(0:Int)≠0 by simp)];split
   .rfl
   .split<;>rfl
structure HFacts (a0:Int)(x t:Nat)(a3:Int)(a4:List bx)(a5:Int)(a6:List bx)(a7 a8:Int):Prop where
 mode:1<=a0/\a0<=3
 regs:1<=a3/\a3<=64
 regs':1<=a5/\a5<=64
 xs:1<=x/\x<=64
 ts:t<=64
 w:0<=(du a4).1/\(du a4).1<=65536
 w':0<=(du a6).1/\(du a6).1<=65536
 len:0<=a7/\a7<=65535
 bud:0<=a8/\a8<=1048576
theorem QC {R:Int}{l:List bx}(h:JZ R l=0):1<=R/\R<=64:=by
 unfold JZ at h;split at h
 .rename_i b;unfold Hb at b;rw[Bool.and_eq_true]at b;exact of_decide_eq_true b.1
 .cases h
theorem Mb {l:List bx}(h:OpsOk l):0<=(du l).1/\(du l).1<=65536:=by
 unfold du;split
 .rename_i d;split
  .rename_i w c;have:=II (λo b=>(h.v o b).1) d c;split
   .simp
   .simp;omega
  .simp
 .simp
theorem Wu {R Q:Int}{l k:List bx}(h:lU R l Q k=0):(1<=R/\R<=64)/\(1<=Q/\Q<=64):=by
 unfold lU at h;split at h
 .rename_i c;exact(c h).elim
 split at h
 .rename_i c;exact(c h).elim
 split at h
 .rename_i c;exact(c h).elim
 split at h
 .rename_i c;exact(c h).elim
 rename_i b d;exact⟨QC (l:=l) (by omega),QC (l:=k) (by omega)⟩
theorem FR (j:OpsOk a4)(k:OpsOk a6)(h:pu a0 x t a3 a4 a5 a6 a7 a8=0):HFacts a0 x t a3 a4 a5 a6 a7 a8:=by
 unfold pu at h;split at h
 .rename_i c;exact(c h).elim
 split at h
 .rename_i c;exact(c h).elim
 split at h
 .rename_i c;exact(c h).elim
 split at h
 .rename_i c;exact(c h).elim
 rename_i e q b d;obtain⟨o,p⟩:=Wu (show lU a3 a4 a5 a6=0 by omega);have e:hk0 a0=0:=by omega
 have b:yn a3 a5 x t=0:=by omega
 have d:hk3 a0 a7=0:=by omega
 unfold hk0 at e;unfold hk3 at d;unfold hk4 at h;unfold yn at b;refine⟨?_,o,p, ?_, ?_,Mb j,Mb k, ?_, ?_⟩
 .split at e
  .omega
  split at e<;>omega
 .split at b
  .omega
  split at b<;>omega
 .split at b
  .omega
  split at b
  .omega
  split at b
  .omega
  split at b<;>omega
 .split at d
  .omega
  by_cases f:a0=2
  .rw[zE f]at d;split at d<;>omega
  .rw[zF f]at d;split at d<;>omega
 .split at h
  .omega
  split at h<;>omega
def tv (a0:Int)(a4 a6:List bx):Int:=if a0=3 then(du a6).1 else(du a4).1+(du a6).1
def tu (a0:Int)(x:Nat)(a3:Int)(a4:List bx):Int:=if a0=3 then(du a4).1+a3 else x+1
def vw (x t:Nat)(a3 a5:Int):Int:=2*t+2*x+a3+a5+max a3 a5
theorem UL (b:OpsOk a4)(c:OpsOk a6):iJ a0 a1 a2 a3 a4 a5 a6 a7 a8=O (if pu a0 a1.length a2.length a3 a4 a5 a6 a7 a8≠0 then(0,0)else((du a4).1,(du a6).1)):=by
 unfold iJ;have:=b.len;have:=c.len;rw[B7 b c,vD (by omega) b.v,vD (by omega) c.v];simp only[zG,ag];split<;>rfl
theorem YT (b:OpsOk a4)(c:OpsOk a6)(d:a4.length<=1500)(e:a6.length<=1500):Bk a0 a1 a2 a3 a4 a5 a6 a7 a8=O (if pu a0 a1.length a2.length a3 a4 a5 a6 a7 a8≠0 then(0,0)else((du a4).1,(du a6).1)):=by
 unfold Bk;have:=b.len;have:=c.len;rw[I4 b c d e,Cf d b.v,Cf e c.v];simp only[zG,ag];split<;>rfl
theorem Lu (b:OpsOk a4)(d:OpsOk a6)(h:pu a0 a1.length a2.length a3 a4 a5 a6 a7 a8=0):sg a0 a1 a2 a3 a4 a5 a6 a7 a8=O (((a2.length:Nat):Int),((a1.length:Nat):Int),a3,a5,max a3 a5,((a1.length:Nat):Int),((a2.length:Nat):Int),tv a0 a4 a6,tu a0 a1.length a3 a4):=by
 have f:=FR b d h;have e:=f.mode;have j:=f.regs;have k:=f.xs;have o:=f.w;have p:=f.w';unfold sg tv tu;rw[UL b d,zF (λc=>c h)];simp only[zG,ag];rw[ad (n:=(du a4).1+a3) (by omega),ad (n:=(du a4).1+(du a6).1) (by omega),ad (n:=(a1.length:Int)+1) (by omega)];split
 .rfl
 .rfl
def pre (L:Zd):Nat->Int
 |0=>0
 |i+1=>pre L i+L.getD i 0
theorem Tb {L:Zd}(b: ∀j,0<=L.getD j 0/\L.getD j 0<=1000000000000): ∀i,0<=pre L i/\pre L i<=1000000000000*i
 |0=>⟨dD _,dD _⟩
 |i+1=>by
  have:=Tb b i;have:=b i;simp only[pre];omega
theorem Q2 {b0 b1 b2 b3 c d f h b n:Int}(o: ∀j,0<=([b0,b1,b2,b3,c,d,f,h,b*n]:Zd).getD j 0/\([b0,b1,b2,b3,c,d,f,h,b*n]:Zd).getD j 0<=1000000000000):xG b0 b1 b2 b3 c d f h b n=O ((cV 10).map (pre [b0,b1,b2,b3,c,d,f,h,b*n])):=by
 generalize q:([b0,b1,b2,b3,c,d,f,h,b*n]:Zd)=L at*;have r:=Tb o
 have k:aq (qk b0 b1 b2 b3 c d f h b) di (0,(pre L 0,(cV 0).map (pre L)))=O (pre L 8,(cV 8).map (pre L)):=by
  refine fj (n:=8) (λi=>(pre L i,(cV i).map (pre L))) (by omega) (λi hi=> ?_) ?_
  .unfold qk;rw[ag,Zg,bq (show i<9 by omega)];simp only[zG]
   have e:dH [b0,b1,b2,b3,c,d,f,h,b] i 0=L.getD i 0:=by
    subst q;rcases(show i=0∨i=1∨i=2∨i=3∨i=4∨i=5∨i=6∨i=7 by omega)with rfl|rfl|rfl|rfl|rfl|rfl|rfl|rfl<;>rfl
   have s:=r i;have p:=o i;rw[e];rw[bp (by simp;omega) (by omega),ad (n:=pre L i+L.getD i 0) (by omega),ad (n:=(i:Int)+1) (by omega),eD,dK];rfl
  .unfold qk;rw[ag,Zh]
 unfold xG;have k:aq (qk b0 b1 b2 b3 c d f h b) di ((0,0,[]))=_:=k;rw[k];have s:=r 8;have p:=o 8;have e:L.getD 8 0=b*n:=by subst q;rfl
 rw[e]at p;simp only[zG];rw[bp (by simp) (by omega),bp (by simp) (by omega),ad (n:=b*n) (by omega),ad (n:=pre L 8+b*n) (by omega)];show _=O ((cV (8+1+1)).map (pre L));rw[eD (n:=8+1),eD (n:=8),dK,dK];show _=O (((cV 8).map (pre L)++[pre L 8])++[pre L 8+L.getD 8 0]);rw[e]
theorem Ww {b0 b1 b2 b3 b c d e f n:Int}(h: ∀j,0<=([b0,b1,b2,b3,b,c,d,e,f*n]:Zd).getD j 0/\([b0,b1,b2,b3,b,c,d,e,f*n]:Zd).getD j 0<=1000000000000):uZ b0 b1 b2 b3 b c d e f n=O (b0+b1+b2+b3+b+c+d+e+f*n):=by
 unfold uZ;rw[Q2 h];show O (0+b0+b1+b2+b3+b+c+d+e+f*n)=_;rw[cN]
theorem aV2 {b0 b1 b2 b3 b c d e f:Int}{p:Int->Prop}(h:p b0)(k:p b1)(o:p b2)(q:p b3)(r:p b)(s:p c)(u:p d)(y:p e)(z:p f)(A:p 0): ∀j,p (([b0,b1,b2,b3,b,c,d,e,f]:Zd).getD j 0)
 |0=>h
 |1=>k
 |2=>o
 |3=>q
 |4=>r
 |5=>s
 |6=>u
 |7=>y
 |8=>z
 |j+9=>by
  show p ((([]:Zd)).getD j 0);rw[List.getD_nil];exact A
theorem Ym {s n:Int}(c:0<=s/\s<=100000)(b:0<=n/\n<=1048576):0<=s*n/\s*n<=1000000000000:=by
 have d:=cW c.1 b.1;have e:=Int.mul_le_mul c.2 b.2 b.1 (by omega);omega
structure SFacts (x t:Nat)(a3 a5 tp sl:Int):Prop where
 xs:1<=x/\x<=64
 ts:t<=64
 r:1<=a3/\a3<=64
 r':1<=a5/\a5<=64
 tp:0<=tp/\tp<=131072
 sl:1<=sl/\sl<=100000
theorem Pq (b:OpsOk a4)(c:OpsOk a6)(h:pu a0 x t a3 a4 a5 a6 a7 a8=0):SFacts x t a3 a5 (tv a0 a4 a6) (tu a0 x a3 a4):=by
 have f:=FR b c h;have d:=f.mode;have e:=f.regs;have j:=f.xs;have k:=f.w;have o:=f.w';refine⟨f.xs,f.ts,f.regs,f.regs', ?_, ?_⟩
 .unfold tv;split<;>omega
 .unfold tu;split<;>omega
theorem Tk {tp sl n:Int}(s:SFacts x t a3 a5 tp sl)(b:0<=n/\n<=1048576): ∀j,0<=([(t:Int),x,a3,a5,max a3 a5,x,t,tp,sl*n]:Zd).getD j 0/\([(t:Int),x,a3,a5,max a3 a5,x,t,tp,sl*n]:Zd).getD j 0<=1000000000000:=by
 have c:=s.xs;have d:=s.ts;have e:=s.r;have f:=s.r';have h:=s.tp;have k:=s.sl;exact aV2 (p:=λy=>0<=y/\y<=1000000000000) (by omega) (by omega) (by omega) (by omega) (by omega) (by omega) (by omega) (by omega) (Ym (by omega) b) (by omega)
theorem aE5 {c b n:Int}(s:SFacts x t a3 a5 c b)(d:0<=n/\n<=1048576):uZ t x a3 a5 (max a3 a5) x t c b n=O (vw x t a3 a5+c+n*b):=by
 rw[Ww (Tk s d)];unfold vw;rw[Int.mul_comm b n]
 congr 1
 omega
def least (a0 a7:Int):Int:=if a0=3 then a7 else 1
def fJ (a0:Int)(x t:Nat)(a3:Int)(a4:List bx)(a5:Int)(a6:List bx)(a7 a8:Int):Int×Int×Int×Int×Int:=
 if pu a0 x t a3 a4 a5 a6 a7 a8≠0 then(0,0,0,0,pu a0 x t a3 a4 a5 a6 a7 a8)
 else if a8<vw x t a3 a5+tv a0 a4 a6+least a0 a7*tu a0 x a3 a4 then(0,0,0,0,13)
 else(vw x t a3 a5,tv a0 a4 a6,tu a0 x a3 a4,if a0=3 then a7 else(a8-vw x t a3 a5-tv a0 a4 a6) / tu a0 x a3 a4,0)
theorem YM {d b n:Int}(s:SFacts x t a3 a5 d b):aq (sf (t:Int) (x:Int) a3 a5 (max a3 a5) (x:Int) (t:Int) d b) di (0,0,d,b,n)=O (vw x t a3 a5,d,b,n):=by
 have f:=Tk (n:=1) s (by omega);have k:=Tb f
 have h:pre [(t:Int),x,a3,a5,max a3 a5,x,t,d,b*1] 7=vw x t a3 a5:=by
  show 0+(t:Int)+x+a3+a5+max a3 a5+x+t=_;unfold vw;omega
 rw[<-h];generalize j:([(t:Int),x,a3,a5,max a3 a5,x,t,d,b*1]:Zd)=L at*;refine fj (n:=7) (λi=>(pre L i,d,b,n)) (c:=(pre L 7,d,b,n)) (by omega) (λi hi=> ?_) ?_
 .unfold sf;rw[ag,Zg,bq (show i<9 by omega)];simp only[zG]
  have e:dH [(t:Int),x,a3,a5,max a3 a5,x,t,d,b] i 0=L.getD i 0:=by
   subst j;rcases(show i=0∨i=1∨i=2∨i=3∨i=4∨i=5∨i=6 by omega)with rfl|rfl|rfl|rfl|rfl|rfl|rfl<;>rfl
  have o:=k i;have p:=f i;rw[e,ad (n:=pre L i+L.getD i 0) (by omega),ad (n:=(i:Int)+1) (by omega)];rfl
 .unfold sf;rw[ag,Zh]
theorem A7 (e:OpsOk a4)(j:OpsOk a6):gg a0 a1 a2 a3 a4 a5 a6 a7 a8=O (fJ a0 a1.length a2.length a3 a4 a5 a6 a7 a8):=by
 unfold gg fJ;rw[B7 e j];simp only[zG];by_cases h:pu a0 a1.length a2.length a3 a4 a5 a6 a7 a8=0
 .rw[zA (λc=>c h),zD,zF (λc=>c h),Lu e j h];have s:=Pq e j h;have f:=FR e j h;have z:=f.mode;have A:=f.len;have B:=f.bud;have C:=s.xs;have D:=s.ts;have E:=s.r;have F:=s.r';have H:=s.tp;have I:=s.sl
  have u:(cond (Zc (a0=3)) (O a7) (O (1:Int)))=O (least a0 a7):=by
   unfold least;rw[ag];split<;>rfl
  have y:0<=least a0 a7/\least a0 a7<=65535:=by unfold least;split<;>omega
  simp only[zG];rw[u];simp only[zG];rw[aE5 s (by omega)];simp only[zG];rw[YM s];simp only[zG,ag];by_cases c:a8<vw a1.length a2.length a3 a5+tv a0 a4 a6+least a0 a7*tu a0 a1.length a3 a4
  .rw[zE c,zE c]
  .rw[zF c,zF c];have q:0<=vw a1.length a2.length a3 a5/\vw a1.length a2.length a3 a5<=1000:=by unfold vw;omega
   by_cases b:a0=3
   .rw[zF (λk=>k b),zE b];unfold least;rw[zE b]
   .rw[zE b,zF b,OW (by omega)];unfold least at c;rw[zF b]at c;generalize vw a1.length a2.length a3 a5=d at*;generalize tv a0 a4 a6=tp at*;generalize tu a0 a1.length a3 a4=sl at*;rw[ad (n:=a8-d) (by omega),ad (n:=a8-d-tp) (by omega),U2 (by omega)];have o:0<=(a8-d-tp) / sl:=dT (by omega) (by omega);have p:(a8-d-tp) / sl<=a8-d-tp:=dS _ (by omega);rw[Zi]
 .rw[zB h,zC,zE h]
end
def Reach {α γ:Type}(f:α->Option (α⊕γ))(k:Nat)(s c:α):Prop:= ∀b,aq f (b+k) s=aq f b c
theorem Reach.refl {α γ:Type}{f:α->Option (α⊕γ)}{s:α}:Reach f 0 s s:=λ_=>rfl
theorem Reach.trans {α γ:Type}{f:α->Option (α⊕γ)}{k c:Nat}{s e b:α}(h:Reach f k s e)(j:Reach f c e b):Reach f (k+c) s b:=by
 intro d;rw[show d+(k+c)=(d+c)+k by omega,h,j]
theorem Reach.one {α γ:Type}{f:α->Option (α⊕γ)}{s b:α}(h:f s=O (.inl b)):Reach f 1 s b:=by
 intro c;rw[cb,h];rfl
section
variable {l:List bx}
theorem aM0 (d:l.length<=8192)(b:st.length<=8192)(hi:i<l.length)(c:0<l[i].1/\l[i].1<7)(e:out.length=l.length):
  cy l ((i:Int),Za,out,st,st)=O (.inl (((i+1:Nat):Int),Za,out.set i (-1),st,st)):=by
 simp only[cy];rw[zB (show(i:Int)<(l.length:Int)by omega),zC,cl hi];simp only[zG];generalize f:l[i]=x at*;rw[zA (show¬x.1<0 by omega),zD,zA (show¬7<x.1 by omega),zD,zA (show¬x.1=0 by omega)];simp only[zD,zG,ck];rw[bq (show i<out.length by omega)];simp only[zG];rw[aD (show i<out.length by omega)];simp only[zG];rw[zA (show¬x.1=7 by omega)];simp only[zD];rw[ad (n:=(i:Int)+1) (by omega)];rfl
theorem am7 (d:l.length<=8192)(c:st.length<=8192)(hi:i<l.length)(b:l[i].1=7)(e:out.length=l.length):
  cy l ((i:Int),Za,out,st,st)=O (.inl (((i+1:Nat):Int),Za,out.set i (-1),st++[(i:Int)],st++[(i:Int)])):=by
 simp only[cy];rw[zB (show(i:Int)<(l.length:Int)by omega),zC,cl hi];simp only[zG];generalize f:l[i]=x at*;rw[zA (show¬x.1<0 by omega),zD,zA (show¬7<x.1 by omega),zD,zA (show¬x.1=0 by omega)];simp only[zD,zG,ck];rw[bq (show i<out.length by omega)];simp only[zG];rw[aD (show i<out.length by omega)];simp only[zG];rw[zB b];simp only[zC];rw[bp (by omega) (by omega),bp (by omega) (by omega),ad (n:=(i:Int)+1) (by omega)];rfl
theorem Yu {q:Nat}(h:l.length<=8192)(f:st.length<8192)(hi:i<l.length)(e:l[i].1=0)(j:out.length=l.length)(k:q<l.length):
  cy l ((i:Int),Za,out,st++[(q:Int)],st++[(q:Int)])=O (.inl (((i+1:Nat):Int),Za,((out.set i (-1)).set i (q:Int)).set q (i:Int),st,st)):=by
 have b:(st++[(q:Int)]).length=st.length+1:=by simp
 simp only[cy];rw[zB (show(i:Int)<(l.length:Int)by omega),zC,cl hi];simp only[zG];generalize o:l[i]=x at*;rw[zA (show¬x.1<0 by omega),zD,zA (show¬7<x.1 by omega),zD,zB e];simp only[zC,zG,ck];rw[zA (show¬((st++[(q:Int)]).length:Int)=0 by omega),zD];rw[ad (n:=((st++[(q:Int)]).length:Int)-1) (by omega),Zl,ci];simp only[zG,ck];have d:Zc (x.1=7)=Zb:=zA (by omega);rw[bq (show i<out.length by omega)];simp only[zG];rw[aD (show i<out.length by omega)];simp only[zG];rw[d,zD,show((st++[(q:Int)]).length:Int)-1=(st.length:Int)by rw[b];omega,bq (show st.length<(st++[(q:Int)]).length by omega)];simp only[zG];rw[cL (aB _),bD];simp only[eM,zG]
 rw[ci,bq (show i<(out.set i (-1)).length by simp;omega)];simp only[zG];rw[aD (show i<(out.set i (-1)).length by simp;omega)];simp only[zG];rw[bq (show q<((out.set i (-1)).set i ((q:Nat):Int)).length by simp;omega)];simp only[zG];rw[aD (show q<((out.set i (-1)).set i ((q:Nat):Int)).length by simp;omega)];simp only[zG]
 have c:(st++[(q:Int)]).take ((st.length:Int).toNat-0)=st:=by
  rw[show(st.length:Int).toNat-0=st.length by omega,dO];rfl
 rw[c,ad (n:=(i:Int)+1) (by omega)];rfl
theorem O5 (D:l.length<=8192): ∀(k:Nat) (A seg B:List bx) (out st:Zd),seg.length<=k->l=A++seg++B->bm seg 0=O 0->out.length=l.length->st.length<=A.length->
  ∃f,Reach (cy l) seg.length ((A.length:Int),Za,out,st,st) (((A.length+seg.length:Nat):Int),Za,f,st,st)/\f.length=l.length/\
   (∀j,¬(A.length<=j/\j<A.length+seg.length)->f[j]?=out[j]?)/\∀j,A.length<=j->j<A.length+seg.length->(y:j<l.length)->l[j].1=7->∀inner e rest,l.drop (j+1)=inner++e::rest->e.1=0->bm inner 0=O 0->f[j]?=O ((j+1+inner.length:Nat):Int)
 |k,A,[],B,out,st,_,b,L,E,hst=>⟨out,Reach.refl,E,λj _=>rfl,λj h1 X=>by simp at X;omega⟩
 |0,A,o::seg,B,out,st,p,_,_,_,_=>by simp at p
 |k+1,A,o::seg,B,out,st,p,b,L,E,hst=>by
  simp only[cD]at p⊢;have K:l.length=A.length+(seg.length+1)+B.length:=by rw[b];simp;omega
  have s:A.length<l.length:=by omega
  have h:l[A.length]=o:=by
   have:l[A.length]?=O o:=by
    rw[b,cK,cL (aB _),bD];rfl
   rw[aD s]at this;injection this
  by_cases r:o.1=7
  .have hs1:bm seg 1=O 0:=by
    simp only[bm]at L;rw[Zh,Zh,zE r]at L;exact L
   obtain⟨inner,e,rest,h1,X,h3,h4⟩:=Cj _ seg 0 (aB _) hs1;subst h1;simp only[cM,cD]at p K⊢
   have hd:l.drop (A.length+1)=inner++e::(rest++B):=by
    rw[b,cK,dF,dG (by omega),show A.length+1-A.length=1 by omega];simp
   have u:(A++[o]).length=A.length+1:=by simp
   obtain⟨S1,V,l1,M,F⟩:=O5 D k (A++[o]) inner (e::(rest++B)) (out.set A.length (-1)) (st++[(A.length:Int)]) (by omega) (by rw[b];simp) h3 (by simp[E]) (by simp;omega);rw[u]at V M F;have J:A.length+1+inner.length<l.length:=by omega
   have I:l[A.length+1+inner.length]=e:=by
    have h5:(l.drop (A.length+1))[inner.length]?=O e:=by
     rw[hd,cL (aB _),bD];rfl
    rw[dI,aD J]at h5;injection h5
   have c1:=Yu (st:=st) D (by omega) J (by rw[I];exact X) l1 s;have hA2:(A++o::(inner++[e])).length=A.length+1+inner.length+1:=by simp;omega
   obtain⟨S2,r2,l3,k2,g2⟩:=O5 D k (A++o::(inner++[e])) rest B (((S1.set (A.length+1+inner.length) (-1)).set (A.length+1+inner.length) (A.length:Int)).set A.length ((A.length+1+inner.length:Nat):Int)) st (by omega) (by rw[b];simp) h4 (by simp[l1]) (by omega);rw[hA2]at r2 k2 g2;refine⟨S2, ?_,l3,λj y=> ?_,λj h5 h6 y p c W d N Q T=> ?_⟩
   .have h0:=Reach.one (am7 (out:=out) (st:=st) D (by omega) s (by rw[h];exact r) E);have H:=((h0.trans V).trans (Reach.one c1)).trans r2;rw[show 1+inner.length+1+rest.length=inner.length+(rest.length+1)+1 by omega,show A.length+1+inner.length+1+rest.length=A.length+(inner.length+(rest.length+1)+1)by omega]at H;exact H
   .rw[k2 j (by omega),cB (by omega),cB (by omega),cB (by omega),M j (by omega),cB (by omega)]
   .by_cases z:A.length+1+inner.length+1<=j
    .exact g2 j z (by omega) y p c W d N Q T
    .rw[k2 j (by omega)];by_cases q:A.length=j
     .subst q;rw[cY (by simp;omega)];have:=xi (hd.symm.trans N) h3 T X Q;subst this;rfl
     .have hj3:j<A.length+1+inner.length:=by
       by_cases C:j<A.length+1+inner.length
       .exact C
       .exfalso;have C:j=A.length+1+inner.length:=by omega
        subst C;rw[I]at p;omega
      rw[cB q,cB (by omega),cB (by omega)];exact F j (by omega) hj3 y p c W d N Q T
  .obtain⟨hsr,hko,_⟩:=MQ L r;have u:(A++[o]).length=A.length+1:=by simp
   have c1:=aM0 (out:=out) (st:=st) D (by omega) s (by rw[h];exact hko) E;obtain⟨S1,V,l1,M,F⟩:=O5 D k (A++[o]) seg B (out.set A.length (-1)) st (by omega) (by rw[b];simp) hsr (by simp[E]) (by omega);rw[u]at V M F;refine⟨S1, ?_,l1,λj y=> ?_,λj h5 h6 y p c W d N Q T=> ?_⟩
   .have H:=(Reach.one c1).trans V;rw[show 1+seg.length=seg.length+1 by omega,show A.length+1+seg.length=A.length+(seg.length+1)by omega]at H;exact H
   .rw[M j (by omega),cB (by omega)]
   .by_cases z:A.length+1<=j
    .exact F j z (by omega) y p c W d N Q T
    .have q:j=A.length:=by omega
     subst q;exact(r (by rw[<-h];exact p)).elim
theorem JD (o:l.length<=8192)(p:bm l 0=O 0): ∃m,jQ l=O (0,m)/\MOK l m:=by
 obtain⟨S',j,q,y,f⟩:=O5 (l:=l) o _ [] l [] (bB ((l.length:Int)).toNat (0:Int)) [] (aB _) (by simp) p (by simp) (by simp);rw[show([]:List bx).length+l.length=l.length by simp]at j f
 have b:aq (cy l) di ((0:Int),Za,bB ((l.length:Int)).toNat (0:Int),([]:Zd),([]:Zd))=O (Za,S',[],[]):=by
  have h:=j (18446744073709551616-l.length);rw[show 18446744073709551616-l.length+l.length=di by unfold di;omega,show 18446744073709551616-l.length=(18446744073709551615-l.length)+1 by omega]at h;refine h.trans ?_;rw[cb];simp only[cy];rw[Ze,zD];rfl
 refine⟨S', ?_,⟨q,λi hi k c e d r s u=>f i (cU _) hi hi k c e d r s u⟩⟩;unfold jQ;rw[zB (show(0:Int)<=(l.length:Int)by omega),zB (show(l.length:Int)<=(l.length:Int)by omega),zB (show 8*(l.length:Int)<=140737488355328 by omega)];show gd Za _=_;rw[ci,b];rfl
end
section
variable {l:List bx}
theorem Yh {sz:Zd}{pre:List (Int×Int)}(C:l.length<=8192)(D:pre.length<=8192)(hi:i<l.length):
  cn l ((i:Int),sz,rds,pre++[(a,w)])=(cond (Zc (l[i].1=7))
   (O (.inl (((i+1:Nat):Int),sz,rds,pre++[(a,w)]++[((i:Int),0)])))
   (cond (Zc (l[i].1=0))
    ((rd l a).bind λs=>
    (sy w s.2.2.2.2).bind λb=>
    cond (!b.2)
     (O (.inr ((9,sz,rds,pre++[(a,w)]))))
     ((ix a sz.length).bind λf=>
     (sz[f]?).bind λz=>
     (ix a rds.length).bind λh=>
     (rds[h]?).bind λA=>
     gd (eY 0 (pre.length:Int) (pre.length+1)) ((ix (zH zI ((pre.length:Int)-1)) pre.length).bind λo=>
     ((pre++[(a,w)])[(0+o)]?).bind λu=>
     (xJ ([u.2,b.1])).bind λp=>
     (ix (zH zI ((pre.length:Int)-1)) pre.length).bind λj=>
     ((pre++[(a,w)])[(0+j)]?).bind λy=>
     O (.inl (((i+1:Nat):Int),(dL sz f b.1),(dL rds h w),(List.take pre.length ((dL (pre++[(a,w)]) (0+j) ((y.1,p))))))))))
    ((ju l[i].1 l[i].2.1 l[i].2.2.1 l[i].2.2.2.1 l[i].2.2.2.2).bind λq=>
    cond (q.2)
     ((ix (i:Int) sz.length).bind λk=>
     (sz[k]?).bind λB=>
     O (.inl (((i+1:Nat):Int),(dL sz k 1),rds,pre++[(a,zH zI (w+1))])))
     (O (.inl (((i+1:Nat):Int),sz,rds,pre++[(a,w)])))))):=by
 have d:(pre++[(a,w)]).length=pre.length+1:=by simp
 have c:(pre++[(a,w)])[pre.length]?=O (a,w):=by
  rw[cL (aB _),bD];rfl
 have e: ∀r,(pre++[(a,w)]).set pre.length (a,r)=pre++[(a,r)]:=by
  intro r;rw[dM _ _ (aB _),bD];rfl
 simp only[cn];rw[zB (show(i:Int)<(l.length:Int)by omega),zC,cl hi];simp only[zG];rw[d,ad (n:=((pre.length+1:Nat):Int)-1) (by omega),show((pre.length+1:Nat):Int)-1=(pre.length:Int)by omega,bq (show pre.length<pre.length+1 by omega)];simp only[zG];rw[c,ad (n:=(i:Int)+1) (by omega),bp (by omega) (by omega),show(i:Int)+1=((i+1:Nat):Int)by omega];simp only[zG];rw[e,show((pre.length:Int).toNat-0)=pre.length by omega]
theorem aV1 {sz:Zd}{pre:List (Int×Int)}(c:l.length<=8192)(d:pre.length<=8192)(hi:i<l.length)(b:0<l[i].1/\l[i].1<7)(e:sz.length=l.length)(f:0<=w/\w<=1000000000):
  cn l ((i:Int),sz,rds,pre++[(a,w)])=O (.inl (((i+1:Nat):Int),sz.set i 1,rds,pre++[(a,w+1)])):=by
 rw[Yh c d hi,Ze,Ze];simp only[zD];rw[FC b];simp only[zG,zC];rw[bq (show i<sz.length by omega)];simp only[zG];rw[aD (show i<sz.length by omega)];simp only[zG];rw[ad (n:=w+1) (by omega)]
theorem aC7 {sz:Zd}{pre:List (Int×Int)}(c:l.length<=8192)(d:pre.length<=8192)(hi:i<l.length)(b:l[i].1=7):
  cn l ((i:Int),sz,rds,pre++[(a,w)])=O (.inl (((i+1:Nat):Int),sz,rds,pre++[(a,w)]++[((i:Int),0)])):=by
 rw[Yh c d hi,zB b,zC]
theorem al8 {b:Nat}{sz:Zd}{pre:List (Int×Int)}{w2 n:Int}(p:l.length<=8192)(y:pre.length<8192)(hi:i<l.length)(o:l[i].1=0)(c:b<l.length)(s:sz.length=l.length)(r:rds.length=l.length)(k:0<=w/\w<=1000000000)(u:0<=w2/\w2<=1000000000)
  (j:0<=l[b].2.2.2.2/\l[b].2.2.2.2<=18446744073709551615) (h:yX w l[b].2.2.2.2=O n):
  cn l ((i:Int),sz,rds,pre++[(a,w2)]++[((b:Int),w)])=O (.inl (((i+1:Nat):Int),sz.set b n,rds.set b w,pre++[(a,w2+n)])):=by
 have e:(pre++[(a,w2)]).length=pre.length+1:=by simp
 rw[Yh p (by omega) hi,Ze,zB o];simp only[zD,zC];rw[cl c];simp only[zG];rw[LX ⟨k.1,by omega⟩ j,h];have q:=GB k.1 j.1 h;simp only[zG,dB,zD];rw[bq (show b<sz.length by omega)];simp only[zG];rw[aD (show b<sz.length by omega)];simp only[zG];rw[bq (show b<rds.length by omega)];simp only[zG];rw[aD (show b<rds.length by omega)];simp only[zG];rw[Zl,ci,e,ad (n:=((pre.length+1:Nat):Int)-1) (by omega),show((pre.length+1:Nat):Int)-1=(pre.length:Int)by omega,bq (show pre.length<pre.length+1 by omega)];simp only[zG,cS]
 have d:(pre++[(a,w2)]++[((b:Int),w)])[pre.length]?=O (a,w2):=by
  rw[cK,cL (aB _),bD];rfl
 rw[d];simp only[zG];rw[RA _ _ (by omega) q];simp only[zG]
 have f:((pre++[(a,w2)]++[((b:Int),w)]).set pre.length (a,w2+n)).take (pre.length+1)=pre++[(a,w2+n)]:=by
  rw[cK,dM _ _ (aB _),bD];show(pre++[(a,w2+n),((b:Int),w)]).take (pre.length+1)=_;rw[show [(a,w2+n),((b:Int),w)]=[(a,w2+n)]++[((b:Int),w)]from rfl,<-cK,dO];simp
 rw[f]
def ax6 (l:List bx)(j:Nat)(a b:Int):Prop:= ∀h:j<l.length,(l[j].1=7->∀c e d,l.drop (j+1)=c++e::d->e.1=0->bm c 0=O 0->Q9 c=O b/\yX b l[j].2.2.2.2=O a)/\(l[j].1≠7->b=0/\a=if l[j].1=0 then 0 else 1)
theorem Uz (M:l.length<=8192)(hv: ∀o∈l,0<=o.2.2.2.2/\o.2.2.2.2<=18446744073709551615): ∀(k:Nat) (A seg B:List bx) (S R:Zd) (pre:List (Int×Int)) (p w t:Int),seg.length<=k->l=A++seg++B->bm seg 0=O 0->Q9 seg=O t->S.length=l.length->R.length=l.length->pre.length<=A.length->0<=w/\w<=65537*A.length->(∀j,A.length<=j->j<A.length+seg.length->S[j]?=O 0/\R[j]?=O 0)->
  ∃S' R',Reach (cn l) seg.length ((A.length:Int),S,R,pre++[(p,w)]) (((A.length+seg.length:Nat):Int),S',R',pre++[(p,w+t)])/\S'.length=l.length/\R'.length=l.length/\(0<=t/\t<=65537*seg.length)/\
   (∀j,¬(A.length<=j/\j<A.length+seg.length)->S'[j]?=S[j]?/\R'[j]?=R[j]?)/\∀j,A.length<=j->j<A.length+seg.length->∃a b,S'[j]?=O a/\R'[j]?=O b/\ax6 l j a b
 |k,A,[],B,S,R,pre,p,w,t,_,d,N,q,X,hR,hpre,hw,H=>by
  injection q with q
  subst q;refine⟨S,R, ?_,X,hR,⟨dD _,by simp⟩,λj _=>⟨rfl,rfl⟩,λj h1 L=> ?_⟩
  .rw[dC];exact Reach.refl
  .simp at L;omega
 |0,A,o::seg,B,S,R,pre,p,w,t,hk,_,_,_,_,_,_,_,_=>by simp at hk
 |k+1,A,o::seg,B,S,R,pre,p,w,t,hk,d,N,q,X,hR,hpre,hw,H=>by
  simp only[cD]at hk H⊢;have hlen:l.length=A.length+(seg.length+1)+B.length:=by rw[d];simp;omega
  have D:A.length<l.length:=by omega
  have f:l[A.length]=o:=by
   have:l[A.length]?=O o:=by
    rw[d,cK,cL (aB _),bD];rfl
   rw[aD D]at this;injection this
  by_cases u:o.1=7
  .have hs1:bm seg 1=O 0:=by
    simp only[bm]at N;rw[Zh,Zh,zE u]at N;exact N
   obtain⟨c,e,r,h1,L,h3,h4⟩:=Cj _ seg 0 (aB _) hs1;subst h1;simp only[cM,cD]at hk H hlen⊢;obtain⟨K,hQ⟩:=N3 N u L h3;rw[hQ]at q;obtain⟨wi,hwi,q⟩:=ah q;obtain⟨b,hb,q⟩:=ah q;cases s:Q9 r with
   |none=>rw[s]at q;cases q
   |some tr=>
   rw[s]at q;injection q with q
   have q:b+tr=t:=q;have hov:0<=o.2.2.2.2/\o.2.2.2.2<=18446744073709551615:=by rw[<-f];exact hv _ (cP D)
   have hd:l.drop (A.length+1)=c++e::(r++B):=by
    rw[d,cK,dF,dG (by omega),show A.length+1-A.length=1 by omega];simp
   have F:(A++[o]).length=A.length+1:=by simp
   obtain⟨S1,R1,r1,l1,l2,⟨t1,t2⟩,y,Q⟩:=Uz M hv k (A++[o]) c (e::(r++B)) S R (pre++[(p,w)]) (A.length:Int) 0 wi (by omega) (by rw[d];simp) h3 hwi X hR (by simp;omega) (by omega) (λj z E=>H j (by omega) (by omega));rw[F]at r1 y Q;have hei:A.length+1+c.length<l.length:=by omega
   have I:l[A.length+1+c.length]=e:=by
    have z:(l.drop (A.length+1))[c.length]?=O e:=by
     rw[hd,cL (aB _),bD];rfl
    rw[dI,aD hei]at z;injection z
   have hbn:=GB t1 hov.1 hb;have c1:=al8 (pre:=pre) (a:=p) (w2:=w) M (by omega) hei (by rw[I];exact L) D l1 l2 (w:=0+wi) (by omega) (by omega) (by rw[f];exact hov) (n:=b) (by rw[f,cN];exact hb);have W:(A++o::(c++[e])).length=A.length+1+c.length+1:=by simp;omega
   obtain⟨S2,R2,r2,l3,l4,⟨t3,t4⟩,k2,g2⟩:=Uz M hv k (A++o::(c++[e])) r B (S1.set A.length b) (R1.set A.length (0+wi)) pre p (w+b) tr (by omega) (by rw[d];simp) K s (by simp[l1]) (by simp[l2]) (by omega) (by omega) (λj z E=>by
    rw[W]at z E;rw[cB (by omega),cB (by omega),(y j (by omega)).1,(y j (by omega)).2]
    exact H j (by omega) (by omega))
   rw[W]at r2 k2 g2;refine⟨S2,R2, ?_,l3,l4,⟨by omega,by omega⟩,λj hj=> ?_,λj z E=> ?_⟩
   .have h0:=Reach.one (aC7 (sz:=S) (rds:=R) (pre:=pre) (a:=p) (w:=w) M (by omega) D (by rw[f];exact u));have V:=((h0.trans r1).trans (Reach.one c1)).trans r2;rw[show 1+c.length+1+r.length=c.length+(r.length+1)+1 by omega,cQ,q,show A.length+1+c.length+1+r.length=A.length+(c.length+(r.length+1)+1)by omega]at V;exact V
   .rw[(k2 j (by omega)).1,(k2 j (by omega)).2,cB (by omega),cB (by omega),(y j (by omega)).1,(y j (by omega)).2];exact⟨rfl,rfl⟩
   .by_cases J:A.length+1+c.length+1<=j
    .exact g2 j J (by omega)
    .rw[(k2 j (by omega)).1,(k2 j (by omega)).2];by_cases C:A.length=j
     .subst C;rw[cY (by omega),cY (by omega)];refine⟨_,_,rfl,rfl,λh=>⟨λ_ inner' e' rest' p1 p2 p3=> ?_,λT=>(T (by rw[f];exact u)).elim⟩⟩;have:=xi (hd.symm.trans p1) h3 p3 L p2;subst this;rw[cN,f];exact⟨hwi,hb⟩
     .rw[cB C,cB C];by_cases hj3:j<A.length+1+c.length
      .exact Q j (by omega) hj3
      .have hj4:j=A.length+1+c.length:=by omega
       subst hj4;rw[(y _ (by omega)).1,(y _ (by omega)).2,(H _ z E).1,(H _ z E).2];refine⟨0,0,rfl,rfl,λh=>⟨λT=> ?_,λ_=>⟨rfl, ?_⟩⟩⟩
       .rw[I]at T;omega
       .rw[I,zE L]
  .obtain⟨K,hko,hQ⟩:=MQ N u;rw[hQ]at q;cases s:Q9 seg with
   |none=>rw[s]at q;cases q
   |some tr=>
   rw[s]at q;injection q with q
   have q:1+tr=t:=q;have F:(A++[o]).length=A.length+1:=by simp
   have c1:=aV1 (sz:=S) (rds:=R) (pre:=pre) (a:=p) (w:=w) M (by omega) D (by rw[f];exact hko) X (by omega)
   obtain⟨S1,R1,r1,l1,l2,⟨t1,t2⟩,y,Q⟩:=Uz M hv k (A++[o]) seg B (S.set A.length 1) R pre p (w+1) tr (by omega) (by rw[d];simp) K s (by simp[X]) hR (by omega) (by omega) (λj z E=>by
    rw[F]at z E;rw[cB (by omega)]
    exact H j (by omega) (by omega))
   rw[F]at r1 y Q;refine⟨S1,R1, ?_,l1,l2,⟨by omega,by omega⟩,λj hj=> ?_,λj z E=> ?_⟩
   .have V:=(Reach.one c1).trans r1;rw[show 1+seg.length=seg.length+1 by omega,cQ,q,show A.length+1+seg.length=A.length+(seg.length+1)by omega]at V;exact V
   .rw[(y j (by omega)).1,(y j (by omega)).2,cB (by omega)];exact⟨rfl,rfl⟩
   .by_cases J:A.length+1<=j
    .exact Q j J (by omega)
    .have C:j=A.length:=by omega
     subst C;rw[(y _ (by omega)).1,(y _ (by omega)).2,cY (by omega),(H _ z E).2];refine⟨1,0,rfl,rfl,λh=>⟨λT=>(u (by rw[<-f];exact T)).elim,λ_=>⟨rfl, ?_⟩⟩⟩;rw[f,Zh]
end
theorem Pr {l:List bx}(J:l.length<=4096)(B: ∀o∈l,0<=o.2.2.2.2/\o.2.2.2.2<=18446744073709551615):
  ∃r,ko l=O r/\r.1=(du l).1/\r.2.1=(du l).2/\(((du l).2≠0/\r.2.2=([],[]))∨((du l).2=0/\bm l 0=O 0/\r.2.2.1.length=l.length/\r.2.2.2.length=l.length/\∀j,j<l.length->∃a b,r.2.2.1[j]?=O a/\r.2.2.2[j]?=O b/\ax6 l j a b)):=by
 have f:=vD (by omega) B;unfold fQ at f;obtain⟨r,d,f⟩:=ah f;injection f with f
 refine⟨r,d,by rw[<-f],by rw[<-f], ?_⟩;unfold ko at d;obtain⟨m,E⟩:=yx (l:=l) (by omega);rw[E]at d;by_cases k:bm l 0=O 0
 .simp only[zE k]at d;simp only[zG]at d;rw[zA (by simp),zD]at d;rw[zB (show(0:Int)<=(l.length:Int)by omega),zB (show(l.length:Int)<=(l.length:Int)by omega),zB (show 8*(l.length:Int)<=140737488355328 by omega)]at d;have q: ∀{β:Type} {y:Option β},gd (dP 1 (Sh.w (.int .i64))&&Za&&Za&&Za&&Nat.ble 1 8) y=y:=λ{β y}=>rfl
  rw[q,q]at d;cases u:Q9 l with
  |none=>
   have e:du l=(0,9):=by unfold du;rw[zE k,u]
   left;refine⟨by rw[e];simp, ?_⟩;obtain⟨c,I,d⟩:=ah d;obtain⟨p,D,d⟩:=ah d;rw[ag]at d;split at d
   .injection d with d
    rw[<-d]
   .rename_i L;exfalso;obtain⟨j,s,d⟩:=ah d;obtain⟨x,K,d⟩:=ah d;injection d with d
    rw[<-d,e]at f;injection f with _ f
    cases f
  |some t=>
   obtain⟨S',R',C,F,H,⟨N,Q⟩,M,z⟩:=Uz (l:=l) (by omega) B _ [] l [] (bB ((l.length:Int)).toNat (0:Int)) (bB ((l.length:Int)).toNat (0:Int)) [] 0 0 t (aB _) (by simp) k u (by simp) (by simp) (by simp) (by simp) (λj _ s=>by
    rw[List.getElem?_replicate,zE (by simpa using s)]
    exact⟨rfl,rfl⟩)
   rw[show([]:List bx).length+l.length=l.length by simp]at C z
   have h:aq (cn l) di ((0:Int),bB ((l.length:Int)).toNat (0:Int),bB ((l.length:Int)).toNat (0:Int),[((0:Int),(0:Int))])=O (0,S',R',[(0,0+t)]):=by
    have A:=C (18446744073709551616-l.length);rw[show 18446744073709551616-l.length+l.length=di by unfold di;omega,show 18446744073709551616-l.length=(18446744073709551615-l.length)+1 by omega]at A;refine A.trans ?_;rw[cb];simp only[cn];rw[Ze,zD];rfl
   rw[h,cN]at d;have d:((((cond (Zc (65536<t)) (O (9:Int)) (O 0)).bind λp=>cond (Zc (p≠0)) (O ((0:Int),p,([]:Zd),([]:Zd))) (O (t,0,S',R')))))=O r:=d;rw[ag]at d;have e:du l=if 65536<t then(0,9)else(t,0):=by unfold du;rw[zE k,u]
   by_cases c:65536<t
   .rw[zE c]at d e;left;injection d with d
    rw[<-d,e];exact⟨by simp,rfl⟩
   .rw[zF c]at d e;right;injection d with d
    rw[<-d,e];exact⟨rfl,k,F,H,λj s=>z j (cU _) s⟩
 .simp only[zF k]at d;left;have e:du l=(0,6):=by unfold du;rw[zF k]
  have d:O ((0:Int),(6:Int),([]:Zd),([]:Zd))=O r:=d;injection d with d
  rw[<-d,e];exact⟨by simp,rfl⟩
abbrev vT :=Int×Int×Int×Int×Int×Int
inductive Fo where
 |nil
 |op (o:bx) (r:Fo)
 |rep (o:bx) (b:Fo) (e:bx) (r:Fo)
def yI (o:bx):Nat:=o.2.2.2.2.toNat
def ce (o:bx)(b:Nat):vT:=(o.1,o.2.1,o.2.2.1,o.2.2.2.1,o.2.2.2.2,(b:Int))
namespace Fo
def src :Fo->List bx
 | .nil=>[]
 | .op o r=>o::r.src
 | .rep o b e r=>o::(b.src++e::r.src)
def Ok :Fo->Prop
 | .nil=>True
 | .op o r=>(0<o.1/\o.1<7)/\r.Ok
 | .rep o b e r=>(o.1=7/\e.1=0)/\b.Ok/\r.Ok
def n :Fo->Nat
 | .nil=>0
 | .op _ r=>1+r.n
 | .rep o b _ r=>b.n*yI o+r.n
def len :Fo->Nat
 | .nil=>0
 | .op _ r=>r.len+1
 | .rep _ b _ r=>b.len+r.len+2
def hi :Fo->Nat
 | .nil=>0
 | .op _ r=>r.hi
 | .rep _ b _ r=>max (b.hi+1) r.hi
def bare :Fo->Fo
 | .nil=> .nil
 | .op o r=> .op o r.bare
 | .rep o b e r=>if b.n*yI o=0 then r.bare else .rep o b.bare e r.bare
def unroll :Fo->List bx
 | .nil=>[]
 | .op o r=>o::r.unroll
 | .rep o b _ r=>(bB (yI o) b.unroll).flatten++r.unroll
def code :Fo->Nat->List vT
 | .nil,_=>[]
 | .op o r,p=>ce o 0::r.code (p+1)
 | .rep o b e r,p=>ce o (p+b.len+2)::(b.code (p+1)++ce e (p+1)::r.code (p+b.len+2))
def Pos :Fo->Prop
 | .nil=>True
 | .op _ r=>r.Pos
 | .rep o b _ r=>0<b.n*yI o/\b.Pos/\r.Pos
def steps :Fo->Nat
 | .nil=>0
 | .op _ r=>1+r.steps
 | .rep o b _ r=>1+yI o*(b.steps+1)+r.steps
theorem src_len : ∀f:Fo,f.src.length=f.len
 | .nil=>rfl
 | .op o r=>by simp only[src,len,cD,src_len r]
 | .rep o b e r=>by simp only[src,len,cD,cM,src_len r,src_len b];omega
theorem code_len : ∀(f:Fo) (p:Nat),(f.code p).length=f.len
 | .nil,_=>rfl
 | .op o r,p=>by simp only[code,len,cD,code_len r]
 | .rep o b e r,p=>by simp only[code,len,cD,cM,code_len r,code_len b];omega
theorem scan_src : ∀(f:Fo),f.Ok->∀(r:List bx) (d:Nat),bm (f.src++r) d=bm r d
 | .nil,_,r,d=>rfl
 | .op o f,h,r,d=>by
  obtain⟨j,c⟩:=h;simp only[src,cO,bm];rw[Zh,Zh,Zh];exact scan_src f c r d
 | .rep o b e f,h,r,d=>by
  obtain⟨⟨j,c⟩,k,p⟩:=h;simp only[src,cO,cK,bm];rw[Zh,Zh,zE j,scan_src b k];simp only[bm];rw[Zh,zE c,Zh];exact scan_src f p r d
theorem scan0 {f:Fo}(h:f.Ok):bm f.src 0=O 0:=by
 have:=scan_src f h [] 0;rw[dE]at this;exact this
theorem parse : ∀(N:Nat) (l:List bx),l.length<=N->bm l 0=O 0->∃f:Fo,f.Ok/\f.src=l
 |_,[],_,_=>⟨.nil,trivial,rfl⟩
 |0,o::l,h,_=>by simp at h
 |N+1,o::l,h,j=>by
  simp only[cD]at h;by_cases q:o.1=7
  .have s:bm l 1=O 0:=by
    simp only[bm]at j;rw[Zh,Zh,zE q]at j;exact j
   obtain⟨c,e,d,k,p,B,C⟩:=Cj _ l 0 (aB _) s;subst k;simp only[cM,cD]at h;obtain⟨b,z,A⟩:=parse N c (by omega) B;obtain⟨r,u,y⟩:=parse N d (by omega) C;exact⟨.rep o b e r,⟨⟨q,p⟩,z,u⟩,by simp only[src,A,y]⟩
  .obtain⟨k,p,_⟩:=MQ j q;obtain⟨r,u,y⟩:=parse N l (by omega) k;exact⟨.op o r,⟨p,u⟩,by simp only[src,y]⟩
theorem Q9_n : ∀(f:Fo),f.Ok->(∀o∈f.src,0<=o.2.2.2.2)->∀{t:Int},Q9 f.src=O t->t=(f.n:Int)
 | .nil,_,_,t,h=>by
  injection h with h
  exact h.symm
 | .op o r,h,u,t,d=>by
  obtain⟨z,p⟩:=h;have A:=scan0 (f:= .op o r) ⟨z,p⟩;obtain⟨_,_,q⟩:=MQ (o:=o) (s:=r.src) A (by omega);have d:Q9 (o::r.src)=O t:=d;rw[q]at d;cases k:Q9 r.src with
  |none=>rw[k]at d;cases d
  |some m=>
   rw[k]at d;injection d with d
   have:=Q9_n r p (λx y=>u x (List.mem_cons_of_mem _ y)) k;subst this;rw[<-d];show(1:Int)+(r.n:Int)=((1+r.n:Nat):Int);omega
 | .rep o b e r,h,u,t,d=>by
  obtain⟨⟨z,p⟩,q,C⟩:=h;have A:=scan0 (f:= .rep o b e r) ⟨⟨z,p⟩,q,C⟩;obtain⟨_,H⟩:=N3 (o:=o) (e:=e) (inner:=b.src) (rest:=r.src) A z p (scan0 q);have d:Q9 (o::(b.src++e::r.src))=O t:=d;rw[H]at d;obtain⟨w,I,d⟩:=ah d;obtain⟨c,j,d⟩:=ah d;cases k:Q9 r.src with
  |none=>rw[k]at d;cases d
  |some m=>
   rw[k]at d;injection d with d
   have D:=Q9_n r C (λx y=>u x (by simp only[src];simp[y])) k;have E:=Q9_n b q (λx y=>u x (by simp only[src];simp[y])) I;have B:0<=o.2.2.2.2:=u o (by simp[src])
   have F:c=(b.n:Int)*(yI o:Int):=by
    unfold yX at j;rw[E]at j;unfold yI;rw[dW B];split at j
    .rename_i J;injection j with j
     rw[J,Int.zero_mul,j]
    split at j
    .cases j
    split at j
    .cases j
    .injection j with j
     exact j.symm
   rw[<-d,D,F];show(b.n:Int)*(yI o:Int)+(r.n:Int)=((b.n*yI o+r.n:Nat):Int);simp
theorem hmax_src : ∀(f:Fo),f.Ok->∀(r:List bx) (d m:Nat),hmax (f.src++r) d m=hmax r d (max m (if f.hi=0 then 0 else d+f.hi))
 | .nil,_,r,d,m=>by
  simp only[src,cR,hi,zE];rw[Nat.max_zero]
 | .op o f,h,r,d,m=>by
  obtain⟨j,c⟩:=h;simp only[src,cO,hmax,hi];rw[Zh,Zh];exact hmax_src f c r d m
 | .rep o b e f,h,r,d,m=>by
  obtain⟨⟨j,c⟩,k,p⟩:=h;simp only[src,cO,cK,hmax,hi];rw[zE j,hmax_src b k];simp only[hmax];rw[Zh,zE c,eR,hmax_src f p]
  congr 1
  have e0:(if max (b.hi+1) f.hi=0 then 0 else d+max (b.hi+1) f.hi)=d+max (b.hi+1) f.hi:=zF (by omega);refine Eq.trans ?_ (congrArg (max m) e0.symm);split<;>split<;>omega
theorem hi_le {f:Fo}(h:f.Ok):f.hi<=hmax f.src 0 0:=by
 have:=hmax_src f h [] 0 0;rw[dE]at this;rw[this];simp only[hmax];split<;>omega
theorem bare_n : ∀f:Fo,f.bare.n=f.n
 | .nil=>rfl
 | .op o r=>by simp only[bare,n,bare_n r]
 | .rep o b e r=>by
  simp only[bare,n];split
  .rename_i h;rw[h,bare_n r,cS]
  .simp only[n,bare_n b,bare_n r]
theorem nL : ∀f:Fo,f.unroll.length=f.n
 | .nil=>rfl
 | .op o r=>by simp only[unroll,n,cD,nL r];omega
 | .rep o b e r=>by
  simp only[unroll,n,cM,nL r];rw[eN,eO,eQ,nL b,eG]
theorem bare_unroll : ∀f:Fo,f.bare.unroll=f.unroll
 | .nil=>rfl
 | .op o r=>by simp only[bare,unroll,bare_unroll r]
 | .rep o b e r=>by
  simp only[bare,unroll];split
  .rename_i h
   have c:((bB (yI o) b.unroll).flatten).length=0:=by
    rw[eN,eO,eQ,nL b,eG,h]
   rw[List.eq_nil_of_length_eq_zero c,cR,bare_unroll r]
  .simp only[unroll,bare_unroll b,bare_unroll r]
theorem bare_ok : ∀f:Fo,f.Ok->f.bare.Ok
 | .nil,_=>trivial
 | .op o r,h=>⟨h.1,bare_ok r h.2⟩
 | .rep o b e r,h=>by
  simp only[bare];split
  .exact bare_ok r h.2.2
  .exact⟨h.1,bare_ok b h.2.1,bare_ok r h.2.2⟩
theorem bare_pos : ∀f:Fo,f.bare.Pos
 | .nil=>trivial
 | .op o r=>bare_pos r
 | .rep o b e r=>by
  simp only[bare];split
  .exact bare_pos r
  .rename_i h;exact⟨by rw[bare_n];omega,bare_pos b,bare_pos r⟩
theorem bare_hi : ∀f:Fo,f.bare.hi<=f.hi
 | .nil=>aB _
 | .op o r=>bare_hi r
 | .rep o b e r=>by
  simp only[bare,hi];have c:=bare_hi b;have d:=bare_hi r;split
  .omega
  .simp only[hi];omega
theorem bare_len : ∀f:Fo,f.bare.len<=f.len
 | .nil=>aB _
 | .op o r=>by simp only[bare,len];exact Nat.succ_le_succ (bare_len r)
 | .rep o b e r=>by
  simp only[bare,len];have c:=bare_len b;have d:=bare_len r;split
  .omega
  .simp only[len];omega
theorem bare_mem : ∀(f:Fo) {o:bx},o∈f.bare.src->o∈f.src
 | .nil,o,h=>h
 | .op o r,x,h=>by
  simp only[bare,src,dA]at h⊢;rcases h with h|h
  .exact .inl h
  .exact .inr (bare_mem r h)
 | .rep o b e r,x,h=>by
  simp only[bare]at h;split at h
  .simp only[src,dA,eC];exact .inr (.inr (.inr (bare_mem r h)))
  .simp only[src,dA,eC]at h⊢;rcases h with h|h|h|h
   .exact .inl h
   .exact .inr (.inl (bare_mem b h))
   .exact .inr (.inr (.inl h))
   .exact .inr (.inr (.inr (bare_mem r h)))
theorem pD : ∀(f:Fo),f.Ok->∀{o:bx},o∈f.unroll->o∈f.src/\0<o.1/\o.1<7
 | .nil,_,o,h=>by cases h
 | .op o r,c,x,h=>by
  simp only[unroll,src,dA]at h⊢;rcases h with rfl|h
  .exact⟨.inl rfl,c.1⟩
  .have:=pD r c.2 h;exact⟨.inr this.1,this.2⟩
 | .rep o b e r,c,x,h=>by
  simp only[unroll,src,dA,eC]at h⊢;rcases h with h|h
  .obtain⟨l,j,d⟩:=List.mem_flatten.1 h;rw[List.eq_of_mem_replicate j]at d;have:=pD b c.2.1 d;exact⟨.inr (.inl this.1),this.2⟩
  .have:=pD r c.2.2 h;exact⟨.inr (.inr (.inr this.1)),this.2⟩
theorem steps_le : ∀f:Fo,f.Pos->f.steps<=(2*f.len+1)*f.n
 | .nil,_=>aB _
 | .op o r,h=>by
  have c:=steps_le r h;simp only[steps,len,n];rw[eF,dR];have:(2*r.len+1)*r.n<=(2*(r.len+1)+1)*r.n:=eH _ (by omega);omega
 | .rep o b e r,h=>by
  obtain⟨c,d,j⟩:=h;have p:=steps_le b d;have y:=steps_le r j;simp only[steps,len,n]
  have s:0<yI o:=by
   rcases dQ (yI o)with h0|h0
   .rw[h0]at c;simp at c
   .exact h0
  have k:0<b.n:=by
   rcases dQ b.n with h0|h0
   .rw[h0]at c;simp at c
   .exact h0
  have u:yI o<=b.n*yI o:=Nat.le_mul_of_pos_left _ k
  have z:yI o*(b.steps+1)<=(2*b.len+1)*(b.n*yI o)+b.n*yI o:=by
   rw[eF,dR];have:yI o*b.steps<=yI o*((2*b.len+1)*b.n):=Nat.mul_le_mul_left _ p
   have q:yI o*((2*b.len+1)*b.n)=(2*b.len+1)*(b.n*yI o):=by
    rw[eG,Nat.mul_assoc]
   omega
  have A:(2*r.len+1)*r.n<=(2*(b.len+r.len+2)+1)*r.n:=eH _ (by omega);have B:(2*b.len+3)*(b.n*yI o)<=(2*(b.len+r.len+2)+1)*(b.n*yI o):=eH _ (by omega)
  have C:(2*b.len+3)*(b.n*yI o)=(2*b.len+1)*(b.n*yI o)+b.n*yI o+b.n*yI o:=by
   rw[show 2*b.len+3=(2*b.len+1)+1+1 by omega,Nat.add_mul,Nat.add_mul,Nat.one_mul]
  rw[eF (2*(b.len+r.len+2)+1)];generalize yI o*(b.steps+1)=D at*;generalize (2*(b.len+r.len+2)+1)*(b.n*yI o)=E at*;generalize (2*(b.len+r.len+2)+1)*r.n=F at*;generalize (2*r.len+1)*r.n=H at*;generalize (2*b.len+3)*(b.n*yI o)=I at*;generalize (2*b.len+1)*(b.n*yI o)=J at*;omega
end Fo
def upd (l:Nat->Int)(j:Nat)(v:Int):Nat->Int:=λi=>cond (dP j i) v (l i)
theorem nV (l:Nat->Int)(j:Nat)(v:Int):upd l j v j=v:=by
 unfold upd;rw[Nat.beq_refl];rfl
theorem Iy {l:Nat->Int}{j:Nat}(h:i≠j):upd l j v i=l i:=by
 unfold upd;cases b:dP j i with
 |true=>exact(h (Nat.eq_of_beq_eq_true b).symm).elim
 |false=>rfl
def S5 (o:bx):Prop:=0<=o.2.2.2.2/\o.2.2.2.2<=18446744073709551615
structure Runs {Z γ S:Type}(g:Z->Option (Z⊕γ))(code:List vT)(st:Nat->Nat->(Nat->Int)->S->Z)(stp:bx->S->S)(Vd:Nat->S->Prop)(good:bx->Prop):Prop where
 op: ∀{p d l s m o to},code[p]?=O (ce o to)->good o->(0<o.1/\o.1<7)->d<=8->Vd (1+m) s->g (st p d l s)=O (.inl (st (p+1) d l (stp o s)))/\Vd m (stp o s)
 rep: ∀{p d l s m o to},code[p]?=O (ce o to)->o.1=7->d<8->Vd m s->g (st p d l s)=O (.inl (st (p+1) (d+1) (upd l d o.2.2.2.2) s))
 nxt: ∀{p d l s m e to},code[p]?=O (ce e to)->e.1=0->d<8->1<l d->l d<=18446744073709551615->Vd m s->g (st p (d+1) l s)=O (.inl (st to (d+1) (upd l d (l d-1)) s))
 out: ∀{p d l s m e to},code[p]?=O (ce e to)->e.1=0->d<8->l d=1->Vd m s->g (st p (d+1) l s)=O (.inl (st (p+1) d (upd l d (l d-1)) s))
section
variable {Z γ S:Type} {g:Z->Option (Z⊕γ)} {code:List vT} {st:Nat->Nat->(Nat->Int)->S->Z} {stp:bx->S->S} {Vd:Nat->S->Prop} {good:bx->Prop}
def Ge (stp:bx->S->S)(l:List bx)(s:S):S:=l.foldl (λs o=>stp o s) s
theorem OV (l r:List bx)(s:S):Ge stp (l++r) s=Ge stp r (Ge stp l s):=List.foldl_append
theorem EB {A B:List vT}{x:vT}{r:List vT}{p:Nat}(b:code=A++(x::r)++B)(c:A.length=p):code[p]?=O x:=by
 subst c;rw[b,cK,cL (aB _),bD];rfl
theorem rounds (C:Runs g code st stp Vd good){p q d t n:Nat}{e:bx}{u:List bx}(A:d<8)(b:code[q]?=O (ce e p))(B:e.1=0)
  (z: ∀(l:Nat->Int) (s:S) (m:Nat),Vd (n+m) s->∃l',(∀i,i<d+1->l' i=l i)/\Reach g t (st p (d+1) l s) (st q (d+1) l' (Ge stp u s))/\Vd m (Ge stp u s)):
  ∀(k:Nat) (l:Nat->Int) (s:S) (m:Nat),k<18446744073709551615->l d=((k+1:Nat):Int)->Vd (n*(k+1)+m) s->
   ∃l',(∀i,i<d->l' i=l i)/\Reach g ((k+1)*(t+1)) (st p (d+1) l s) (st (q+1) d l' (Ge stp (bB (k+1) u).flatten s))/\Vd m (Ge stp (bB (k+1) u).flatten s)
 |0,l,s,m,J,D,o=>by
  obtain⟨c,h,r,j⟩:=z l s m (by rw[cS,dR]at o;exact o);have E:(bB (0+1) u).flatten=u:=by simp
  rw[E];have f:c d=1:=by rw[h d (by omega),D];rfl
  refine⟨upd c d (c d-1),λi hi=>by rw[Iy (by omega),h i (by omega)], ?_,j⟩;have y:=r.trans (Reach.one (C.out (l:=c) b B A f j));rw[show(0+1)*(t+1)=t+1 by omega];exact y
 |k+1,l,s,m,J,D,o=>by
  have K:n*(k+1+1)+m=n+(n*(k+1)+m):=by rw[Nat.mul_succ n (k+1)];omega
  rw[K]at o;obtain⟨c,h,r,j⟩:=z l s _ o;have f:c d=((k+1+1:Nat):Int):=by rw[h d (by omega),D]
  have y:=r.trans (Reach.one (C.nxt (l:=c) b B A (by omega) (by omega) j));obtain⟨L,F,H,I⟩:=rounds C A b B z k (upd c d (c d-1)) (Ge stp u s) m (by omega) (by rw[nV,f];omega) j;have E:(bB (k+1+1) u).flatten=u++(bB (k+1) u).flatten:=by rw[List.replicate_succ,List.flatten_cons]
  rw[E,OV];refine⟨L,λi hi=>by rw[F i hi,Iy (by omega),h i (by omega)], ?_,I⟩;rw[show(k+1+1)*(t+1)=t+1+(k+1)*(t+1)by rw[Nat.succ_mul (k+1)];omega];exact y.trans H
theorem LK (C:Runs g code st stp Vd good): ∀(f:Fo) {A B:List vT} {p d:Nat} {l:Nat->Int} {s:S} {m:Nat},code=A++f.code p++B->A.length=p->f.Ok->f.Pos->d+f.hi<=8->(∀o∈f.src,good o/\S5 o)->Vd (f.n+m) s->
  ∃l',(∀i,i<d->l' i=l i)/\Reach g f.steps (st p d l s) (st (p+f.len) d l' (Ge stp f.unroll s))/\Vd m (Ge stp f.unroll s)
 | .nil,A,B,p,d,l,s,m,y,z,h,I,E,c,j=>by
  refine⟨l,λ_ _=>rfl,Reach.refl, ?_⟩;have:Fo.nil.n+m=m:=cS m;rw[this]at j;exact j
 | .op o r,A,B,p,d,l,s,m,y,z,h,I,E,c,j=>by
  simp only[Fo.n,Nat.add_assoc]at j;simp only[Fo.hi]at E;obtain⟨J,K⟩:=C.op (d:=d) (l:=l) (EB y z) (c o (by simp[Fo.src])).1 h.1 (by omega) j;have Q:(A++[ce o 0]).length=p+1:=by simp[z]
  obtain⟨l',L,M,N⟩:=LK C r (A:=A++[ce o 0]) (B:=B) (p:=p+1) (d:=d) (l:=l) (by rw[y];simp[Fo.code]) Q h.2 I E (λx H=>c x (by simp[Fo.src,H])) K;refine⟨l',L, ?_,N⟩;have:=(Reach.one J).trans M;simp only[Fo.steps,Fo.len];rw[show p+(r.len+1)=p+1+r.len by omega];exact this
 | .rep o b e r,A,B,p,d,l,s,m,y,z,h,I,E,c,j=>by
  obtain⟨⟨k1,k2⟩,k3,k4⟩:=h;obtain⟨q1,q2,q3⟩:=I;simp only[Fo.n,Nat.add_assoc]at j;simp only[Fo.hi]at E;have F:=(c o (by simp[Fo.src])).2;unfold S5 at F;have hvo:((yI o:Nat):Int)=o.2.2.2.2:=dW F.1
  have hv0:0<yI o:=by
   rcases dQ (yI o)with h0|h0
   .rw[h0]at q1;simp at q1
   .exact h0
  obtain⟨k,h⟩: ∃k,yI o=k+1:=⟨yI o-1,by omega⟩
  have J:=C.rep (d:=d) (l:=l) (EB y z) k1 (by omega) j;have Q:(A++[ce o (p+b.len+2)]).length=p+1:=by simp[z]
  have W:code=(A++[ce o (p+b.len+2)])++b.code (p+1)++(ce e (p+1)::r.code (p+b.len+2)++B):=by rw[y];simp[Fo.code]
  have X:code=(A++ce o (p+b.len+2)::b.code (p+1))++(ce e (p+1)::r.code (p+b.len+2))++B:=by rw[y];simp[Fo.code]
  have T:(A++ce o (p+b.len+2)::b.code (p+1)).length=p+1+b.len:=by simp[z,Fo.code_len];omega
  have D:=EB X T
  obtain⟨l1,K,L,M⟩:=rounds C (p:=p+1) (q:=p+1+b.len) (d:=d) (t:=b.steps) (n:=b.n) (e:=e) (u:=b.unroll) (by omega) D k2
   (λl s m hm=>LK C b W Q k3 q2 (by omega) (λx H=>c x (by simp[Fo.src,H])) hm) k (upd l d o.2.2.2.2) s (r.n+m) (by omega) (by rw[nV,<-hvo,h]) (by rw[<-h];exact j)
  have hcr:code=(A++ce o (p+b.len+2)::(b.code (p+1)++[ce e (p+1)]))++r.code (p+b.len+2)++B:=by rw[y];simp[Fo.code]
  have V:(A++ce o (p+b.len+2)::(b.code (p+1)++[ce e (p+1)])).length=p+b.len+2:=by simp[z,Fo.code_len];omega
  obtain⟨l2,N,h6,h7⟩:=LK C r (d:=d) (l:=l1) hcr V k4 q3 (by omega) (λx H=>c x (by simp[Fo.src,H])) M;simp only[Fo.unroll,Fo.steps,Fo.len];rw[OV,h];refine⟨l2,λi hi=>by rw[N i hi,K i hi,Iy (by omega)], ?_,h7⟩;have h8:=((Reach.one J).trans L).trans (show Reach g r.steps (st (p+1+b.len+1) d l1 _) _ from by rw[show p+1+b.len+1=p+b.len+2 by omega];exact h6);rw[show p+(b.len+r.len+2)=p+b.len+2+r.len by omega];exact h8
end
structure Backs {Z γ S:Type}(g:Z->Option (Z⊕γ))(code:List vT)(st:Nat->Nat->(Nat->Int)->S->Z)(stp:bx->S->S)(Vd:Nat->S->Prop)(good:bx->Prop):Prop where
 op: ∀{p d l s m o to},code[p]?=O (ce o to)->good o->(0<o.1/\o.1<7)->d<=8->Vd (1+m) s->g (st (p+1) d l s)=O (.inl (st p d l (stp o s)))/\Vd m (stp o s)
 rep: ∀{p q d l s m o e to},code[p]?=O (ce e (q+1))->e.1=0->code[q]?=O (ce o to)->d<8->Vd m s->g (st (p+1) d l s)=O (.inl (st p (d+1) (upd l d o.2.2.2.2) s))
 nxt: ∀{p d l s m o to},code[p]?=O (ce o (to+1))->to<=code.length->o.1=7->d<8->1<l d->l d<=18446744073709551615->Vd m s->g (st (p+1) (d+1) l s)=O (.inl (st to (d+1) (upd l d (l d-1)) s))
 out: ∀{p d l s m o to},code[p]?=O (ce o (to+1))->o.1=7->d<8->l d=1->Vd m s->g (st (p+1) (d+1) l s)=O (.inl (st p d (upd l d (l d-1)) s))
section
variable {Z γ S:Type} {g:Z->Option (Z⊕γ)} {code:List vT} {st:Nat->Nat->(Nat->Int)->S->Z} {stp:bx->S->S} {Vd:Nat->S->Prop} {good:bx->Prop}
def C8 (stp:bx->S->S)(l:List bx)(s:S):S:=l.foldr stp s
theorem OE (l r:List bx)(s:S):C8 stp (l++r) s=C8 stp l (C8 stp r s):=List.foldr_append
theorem UR (B:Backs g code st stp Vd good){p q d t n:Nat}{o:bx}{u:List bx}(F:q<=code.length)(A:d<8)(b:code[p]?=O (ce o (q+1)))(D:o.1=7)
  (z: ∀(l:Nat->Int) (s:S) (m:Nat),Vd (n+m) s->∃l',(∀i,i<d+1->l' i=l i)/\Reach g t (st q (d+1) l s) (st (p+1) (d+1) l' (C8 stp u s))/\Vd m (C8 stp u s)):
  ∀(k:Nat) (l:Nat->Int) (s:S) (m:Nat),k<18446744073709551615->l d=((k+1:Nat):Int)->Vd (n*(k+1)+m) s->
   ∃l',(∀i,i<d->l' i=l i)/\Reach g ((k+1)*(t+1)) (st q (d+1) l s) (st p d l' (C8 stp (bB (k+1) u).flatten s))/\Vd m (C8 stp (bB (k+1) u).flatten s)
 |0,l,s,m,K,C,j=>by
  obtain⟨c,f,r,h⟩:=z l s m (by rw[cS,dR]at j;exact j);have E:(bB (0+1) u).flatten=u:=by simp
  rw[E];have e:c d=1:=by rw[f d (by omega),C];rfl
  refine⟨upd c d (c d-1),λi hi=>by rw[Iy (by omega),f i (by omega)], ?_,h⟩;have y:=r.trans (Reach.one (B.out (l:=c) b D A e h));rw[show(0+1)*(t+1)=t+1 by omega];exact y
 |k+1,l,s,m,K,C,j=>by
  have L:n*(k+1+1)+m=n+(n*(k+1)+m):=by rw[Nat.mul_succ n (k+1)];omega
  rw[L]at j;obtain⟨c,f,r,h⟩:=z l s _ j;have e:c d=((k+1+1:Nat):Int):=by rw[f d (by omega),C]
  have y:=r.trans (Reach.one (B.nxt (l:=c) b F D A (by omega) (by omega) h));obtain⟨M,H,I,J⟩:=UR B F A b D z k (upd c d (c d-1)) (C8 stp u s) m (by omega) (by rw[nV,e];omega) h;have E:(bB (k+1+1) u).flatten=(bB (k+1) u).flatten++u:=by rw[eP,List.flatten_append];simp
  rw[E,OE];refine⟨M,λi hi=>by rw[H i hi,Iy (by omega),f i (by omega)], ?_,J⟩;rw[show(k+1+1)*(t+1)=t+1+(k+1)*(t+1)by rw[Nat.succ_mul (k+1)];omega];exact y.trans I
theorem GA (E:Backs g code st stp Vd good): ∀(f:Fo) {A B:List vT} {p d:Nat} {l:Nat->Int} {s:S} {m:Nat},code=A++f.code p++B->A.length=p->f.Ok->f.Pos->d+f.hi<=8->(∀o∈f.src,good o/\S5 o)->Vd (f.n+m) s->
  ∃l',(∀i,i<d->l' i=l i)/\Reach g f.steps (st (p+f.len) d l s) (st p d l' (C8 stp f.unroll s))/\Vd m (C8 stp f.unroll s)
 | .nil,A,B,p,d,l,s,m,y,C,h,J,F,c,D=>by
  refine⟨l,λ_ _=>rfl,Reach.refl, ?_⟩;have:Fo.nil.n+m=m:=cS m;rw[this]at D;exact D
 | .op o r,A,B,p,d,l,s,m,y,C,h,J,F,c,D=>by
  simp only[Fo.n]at D;simp only[Fo.hi]at F;have T:(A++[ce o 0]).length=p+1:=by simp[C]
  obtain⟨l',M,N,Q⟩:=GA E r (A:=A++[ce o 0]) (B:=B) (p:=p+1) (d:=d) (l:=l) (m:=1+m) (by rw[y];simp[Fo.code]) T h.2 J F (λx I=>c x (by simp[Fo.src,I])) (by rw[show r.n+(1+m)=1+r.n+m by omega];exact D);obtain⟨K,L⟩:=E.op (d:=d) (l:=l') (EB y C) (c o (by simp[Fo.src])).1 h.1 (by omega) Q;refine⟨l',M, ?_,L⟩;have:=N.trans (Reach.one K);simp only[Fo.steps,Fo.len];rw[show p+(r.len+1)=p+1+r.len by omega,Nat.add_comm 1];exact this
 | .rep o b e r,A,B,p,d,l,s,m,y,C,h,J,F,c,D=>by
  obtain⟨⟨k1,k2⟩,k3,k4⟩:=h;obtain⟨q1,q2,q3⟩:=J;simp only[Fo.n]at D;simp only[Fo.hi]at F;have H:=(c o (by simp[Fo.src])).2;unfold S5 at H;have hvo:((yI o:Nat):Int)=o.2.2.2.2:=dW H.1
  have hv0:0<yI o:=by
   rcases dQ (yI o)with h0|h0
   .rw[h0]at q1;simp at q1
   .exact h0
  obtain⟨k,h⟩: ∃k,yI o=k+1:=⟨yI o-1,by omega⟩
  have j:=EB y C;have T:(A++[ce o (p+b.len+2)]).length=p+1:=by simp[C]
  have X:code=(A++[ce o (p+b.len+2)])++b.code (p+1)++(ce e (p+1)::r.code (p+b.len+2)++B):=by rw[y];simp[Fo.code]
  have hce:code=(A++ce o (p+b.len+2)::b.code (p+1))++(ce e (p+1)::r.code (p+b.len+2))++B:=by rw[y];simp[Fo.code]
  have V:(A++ce o (p+b.len+2)::b.code (p+1)).length=p+1+b.len:=by simp[C,Fo.code_len];omega
  have z:=EB hce V;have hcr:code=(A++ce o (p+b.len+2)::(b.code (p+1)++[ce e (p+1)]))++r.code (p+b.len+2)++B:=by rw[y];simp[Fo.code]
  have W:(A++ce o (p+b.len+2)::(b.code (p+1)++[ce e (p+1)])).length=p+b.len+2:=by simp[C,Fo.code_len];omega
  obtain⟨l2,Q,h6,h7⟩:=GA E r (d:=d) (l:=l) (m:=b.n*yI o+m) hcr W k4 q3 (by omega) (λx I=>c x (by simp[Fo.src,I])) (by rw[show r.n+(b.n*yI o+m)=b.n*yI o+r.n+m by omega];exact D);have K:=E.rep (d:=d) (l:=l2) z k2 j (by omega) h7
  obtain⟨l1,L,M,N⟩:=UR E (p:=p) (q:=p+1+b.len) (d:=d) (t:=b.steps) (n:=b.n) (o:=o) (u:=b.unroll) (Nat.le_of_lt (List.getElem?_eq_some_iff.1 z).1) (by omega) (by rw[j];congr 2;omega) k1
   (λl s m hm=>GA E b X T k3 q2 (by omega) (λx I=>c x (by simp[Fo.src,I])) hm) k (upd l2 d o.2.2.2.2) _ m (by omega) (by rw[nV,<-hvo,h]) (by rw[<-h];exact h7)
  simp only[Fo.unroll,Fo.steps,Fo.len];rw[OE,h];refine⟨l1,λi hi=>by rw[L i hi,Iy (by omega),Q i hi], ?_,N⟩;have h8:=(h6.trans (show Reach g 1 _ _ from by rw[show p+b.len+2=p+1+b.len+1 by omega];exact Reach.one K)).trans M;rw[show p+(b.len+r.len+2)=p+b.len+2+r.len by omega,show 1+(k+1)*(b.steps+1)+r.steps=r.steps+1+(k+1)*(b.steps+1)by omega];exact h8
end
end
end Go.V
