/- A part of the proofs of this claim: what functions of the program answer on an abstract machine, and plain laws. No condition. -/
import Derived.Test.YtgigjokffalgkaaGreatD2
import Derived.Test.YtgigjokffalgkaaGreatA6
import Derived.KernelRfl
set_option linter.unusedVariables false
set_option linter.unusedSimpArgs false
set_option linter.unusedSectionVars false
namespace Go.V
open Go.Ab
open Option renaming some->C,none->O
open Bool renaming true->Za,false->Zb
open Decidable renaming decide->Zc
section
open Go.IntKind renaming wrap -> zH, i64 -> zI, u64 -> zJ
open Bool renaming not_true -> hC
open Int renaming zero_add -> eD, add_assoc -> gD, mul_comm -> gS, mul_nonneg -> gT, add_zero -> hO, ediv_le_self -> hX, ediv_nonneg -> hY, le_refl -> hZ, mul_le_mul_of_nonneg_left -> iA, mul_ediv_self_le -> iO, toNat_of_nonneg -> iP, eq_ofNat_of_zero_le -> iZ, toNat_natCast -> jA
open List renaming getElem?_eq_getElem -> aD, replicate -> bB, getElem?_set_ne -> cB, length_cons -> cD, append_assoc -> dB, getElem?_append_right -> dD, length_append -> eB, range -> fB, cons_append -> fD, getElem_mem -> gB, nil_append -> gO, getElem_cons_drop -> gQ, drop_length -> gU, getD -> gV, getElem?_set_self -> gW, length -> gX, map_append -> gY, mem_cons -> gZ, append_nil -> iB, drop_append -> iC, drop_of_length_le -> iD, getElem?_drop -> iE, length_drop -> iF, range_succ -> iG, set -> iH, set_append_right -> iI, take_append_drop -> iJ, take_left' -> iK, any_cons -> iQ, any_nil -> iR, dropLast_concat_getLast -> iS, length_take -> iT, mem_append -> iU, take_succ_eq_append_getElem -> iV, getElem?_cons_zero -> jB, length_flatten -> jC, map_replicate -> jD, replicate_succ' -> jE, sum_replicate_nat -> jF
open Nat renaming le_refl -> aB, sub_self -> bD, zero_add -> gP, zero_le -> gR, beq -> iL, eq_zero_or_pos -> iM, mul_one -> iN, mul_add -> iW, mul_comm -> iX, mul_le_mul_right -> iY, add_sub_cancel -> jG
set_option maxRecDepth 100000
abbrev cq :=Int×Int×Int×Int×Int
def co :List cq->Nat->Option Nat
 |[],d=>C d
 |o::r,d=>if o.1<0∨7<o.1 then O else if o.1=0 then(if d=0 then O else co r (d-1))else if o.1=7 then co r (d+1)else co r d
theorem qJ : ∀(l r:List cq) (d:Nat),co (l++r) d=(co l d).bind (co r)
 |[],r,d=>rfl
 |o::l,r,d=>by
  simp only[fD,co];split
  .rfl
  split
  .split
   .rfl
   .exact qJ l r _
  split
  .exact qJ l r _
  .exact qJ l r _
theorem aV5 : ∀(l:List cq) (d d':Nat),co l d=C d'->co l (d+1)=C (d'+1)
 |[],d,d',h=>by
  injection h with h
  subst h;rfl
 |o::l,d,d',h=>by
  simp only[co]at h⊢;split at h
  .cases h
  rename_i c;rw[zF c];split at h
  .rename_i c2;rw[zE c2];split at h
   .cases h
   .rename_i c3;rw[zF (by omega)];have:=aV5 l _ _ h
    rwa [show d-1+1=d+1-1 by omega]at this
  rename_i c2;rw[zF c2];split at h
  .rename_i c3;rw[zE c3];exact aV5 l _ _ h
  .rename_i c3;rw[zF c3];exact aV5 l _ _ h
def dp7 (l:List cq)(s:Int×Bool×(Zd)×(Zd)×Zd):Prop:=
 ∃(i:Nat) (out st:Zd),i<=l.length/\s=((i:Int),Za,out,st,st)/\out.length=l.length/\(∀x∈st,0<=x/\x<l.length)/\st.length<=i/\co (l.drop i) st.length=co l 0
theorem dj2 {st:Zd}(h:st≠[]): ∃pre x,st=pre++[x]:=⟨st.dropLast,st.getLast h,(iS h).symm⟩
theorem cx3 {l:List cq}(hl:l.length<=100000)(s:Int×Bool×(Zd)×(Zd)×Zd)(h:dp7 l s):
  (∃b,dv l s=C (.inl b)/\dp7 l b/\l.length-b.1.toNat<l.length-s.1.toNat)∨∃c,dv l s=C (.inr c)/\((c.1=Zb/\co l 0=O)∨(c.1=Za/\co l 0=C c.2.2.1.length)):=by
 obtain⟨i,out,st,hi,rfl,ho,hst,hsl,hsc⟩:=h;by_cases c:i<l.length
 .have hdrop:l.drop i=l[i]::l.drop (i+1):=(gQ c).symm;rw[hdrop]at hsc;simp only[dv];rw[zB (show(i:Int)<(l.length:Int)by omega),zC,ci c];simp only[zG];generalize hx:l[i]=x at*;simp only[co]at hsc;by_cases k0:x.1<0
  .rw[zE (.inl k0)]at hsc;rw[zB k0];simp only[zC,zG,de];exact .inr ⟨_,rfl, .inl ⟨rfl,hsc.symm⟩⟩
  rw[zA k0,zD];by_cases k7:7<x.1
  .rw[zE (.inr k7)]at hsc;rw[zB k7];simp only[zC,zG,cn,de];exact .inr ⟨_,rfl, .inl ⟨rfl,hsc.symm⟩⟩
  rw[zA k7,zD];rw[zF (by omega)]at hsc;by_cases kz:x.1=0
  .rw[zE kz]at hsc;rw[zB kz];simp only[zC,zG,cn];by_cases hs0:st.length=0
   .rw[zE hs0]at hsc;rw[zB (show(st.length:Int)=0 by omega)];simp only[zC,zG,de];exact .inr ⟨_,rfl, .inl ⟨rfl,hsc.symm⟩⟩
   .rw[zF hs0]at hsc;rw[zA (show¬(st.length:Int)=0 by omega),zD];rw[bq (n:=(st.length:Int)-1) (by omega),lF (by omega),fq];simp only[zG,cn];obtain⟨pre,q,rfl⟩:=dj2 (st:=st) (by intro e;subst e;exact hs0 rfl);have hq:=hst q (by simp);have hlen:(pre++[q]).length=pre.length+1:=by simp
    have ht:(((pre++[q]).length:Int)-1).toNat-0=pre.length:=by rw[hlen];omega
    have e7:Zc (x.1=7)=Zb:=zA (by omega);rw[cl (show i<out.length by omega)];simp only[zG];rw[aD (show i<out.length by omega)];simp only[zG];rw[e7,zD,show((pre++[q]).length:Int)-1=(pre.length:Int)by rw[hlen];omega,cl (show pre.length<(pre++[q]).length by omega)];simp only[zG];rw[dD (aB _),bD];simp only[jB,zG];rw[fq,cl (show i<(out.set i (-1)).length by simp;omega)];simp only[zG];rw[aD (show i<(out.set i (-1)).length by simp;omega)];simp only[zG];obtain⟨qn,rfl⟩:=iZ hq.1;have hqn:qn<out.length:=by omega
    rw[cl (show qn<((out.set i (-1)).set i ((qn:Nat):Int)).length by simp;omega)];simp only[zG];rw[aD (show qn<((out.set i (-1)).set i ((qn:Nat):Int)).length by simp;omega)];simp only[zG]
    have htk:(pre++[(qn:Int)]).take ((pre.length:Int).toNat-0)=pre:=by
     rw[show(pre.length:Int).toNat-0=pre.length by omega,iK];rfl
    rw[htk,bq (n:=(i:Int)+1) (by omega)];refine .inl ⟨_,rfl,⟨i+1,_,pre,c,rfl,by simp[ho],λy hy=>hst y (by simp[hy]),by rw[hlen]at hsl;omega, ?_⟩,by simp;omega⟩;rw[hlen]at hsc;exact hsc
  .rw[zF kz]at hsc;have ez:Zc (x.1=0)=Zb:=zA kz;rw[ez];simp only[zD,zG,cn];rw[cl (show i<out.length by omega)];simp only[zG];rw[aD (show i<out.length by omega)];simp only[zG];by_cases k7:x.1=7
   .rw[zE k7]at hsc;rw[zB k7];simp only[zC];rw[dh (by omega) (by omega),dh (by omega) (by omega),bq (n:=(i:Int)+1) (by omega)];refine .inl ⟨_,rfl,⟨i+1,_,st++[(i:Int)],c,rfl,by simp[ho],λy hy=> ?_,by simp;omega, ?_⟩,by simp;omega⟩
    .rcases List.mem_append.1 hy with hy|hy
     .exact hst y hy
     .simp at hy;subst hy;omega
    .rw[eB];exact hsc
   .rw[zF k7]at hsc;rw[zA k7];simp only[zD];rw[bq (n:=(i:Int)+1) (by omega)];exact .inl ⟨_,rfl,⟨i+1,_,st,c,rfl,by simp[ho],hst,by omega,hsc⟩,by simp;omega⟩
 .have hi':i=l.length:=by omega
  subst hi';rw[gU]at hsc;simp only[dv];rw[zA (show¬(l.length:Int)<(l.length:Int)by omega),zD];exact .inr ⟨_,rfl, .inr ⟨rfl,hsc.symm⟩⟩
theorem aM3 {l:List cq}(hl:l.length<=100000): ∃m,lT l=C (if co l 0=C 0 then 0 else 6,m):=by
 unfold lT;rw[zB (show(0:Int)<=(l.length:Int)by omega),zB (show(l.length:Int)<=(l.length:Int)by omega),zB (show 8*(l.length:Int)<=140737488355328 by omega)];show∃m,gd Za _=_
 rw[fq]
 obtain⟨c,hc,h⟩:=lx (f:=dv l) (a:=((0:Int),Za,bB ((l.length:Int)).toNat (0:Int),([]:Zd),([]:Zd))) (dp7 l) (λs=>l.length-s.1.toNat) (λc=>(c.1=Zb/\co l 0=O)∨(c.1=Za/\co l 0=C c.2.2.1.length))
  ⟨0,_,[],gR _,rfl,by simp,(λx hx=>by cases hx),aB _,rfl⟩ (by simp;omega) (λs hs=>cx3 hl s hs)
 rw[hc];simp only[zG];rcases h with⟨h1,h2⟩|⟨h1,h2⟩
 .rw[h1,h2];exact⟨_,rfl⟩
 .rw[h1,h2,zC];by_cases c0:c.2.2.1.length=0
  .rw[zB (show(c.2.2.1.length:Int)=0 by omega),zE (by rw[c0])];exact⟨_,rfl⟩
  .rw[zA (show¬(c.2.2.1.length:Int)=0 by omega),zF (by intro e;injection e with e;exact c0 e)];exact⟨_,rfl⟩
def yZ (w v:Int):Option Int:=if w=0 then C 0 else if 65536<w then O else if 65536 / w<v then O else C (w*v)
def rD :List cq->List (Int×Int)->Option (List (Int×Int))
 |[],st=>C st
 |o::r,(v,w)::st=>if o.1=7 then rD r ((o.2.2.2.2,0)::(v,w)::st)else if o.1=0 then(match yZ w v,st with
   |some n,(v',w')::st'=>rD r ((v',w'+n)::st')
   |_,_=>O)
  else rD r ((v,w+1)::st)
 |_::_,[]=>O
theorem bz1 {w v:Int}(hw:0<=w/\w<=10000000000)(hv:0<=v/\v<=18446744073709551615):sT w v=C (match yZ w v with
  |some n=>(n,Za)
  |none=>(0,Zb)):=by
 unfold sT yZ;simp only[bv];by_cases c1:w=0
 .rw[zE c1,zE c1]
 rw[zF c1,zF c1];by_cases c2:65536<w
 .rw[zE c2,zE c2]
 rw[zF c2,zF c2,zB (show w≠0 from c1),fq,cG3 (by omega)];have h1:0<=65536 / w:=hY (by omega) (by omega);have h2:65536 / w<=65536:=hX _ (by omega);rw[bq (n:=65536 / w) (by omega),nZ (by omega)];by_cases c3:65536 / w<v
 .rw[zE c3,zE c3]
 .rw[zF c3,zF c3]
  have h3:w*v<=65536:=by
   have h4:v<=65536 / w:=by omega
   have h5:=iA h4 (show 0<=w by omega);have h6:=iO (x:=65536) (k:=w) (by omega);omega
  have h7:=gT (show 0<=w by omega) hv.1;rw[bq (n:=v) (by omega),bq (n:=w*v) (by omega)]
theorem aS2 {w v n:Int}(hw:0<=w)(hv:0<=v)(h:yZ w v=C n):0<=n/\n<=65536:=by
 unfold yZ at h;split at h
 .injection h with h;subst h;omega
 split at h
 .cases h
 split at h
 .cases h
 rename_i c1 c2 c3;injection h with h
 subst h;have h4:v<=65536 / w:=by omega
 have h5:=iA h4 (show 0<=w by omega);have h6:=iO (x:=65536) (k:=w) (by omega);exact⟨gT hw hv,by omega⟩
theorem aJ1 {k:Int}(h:0<k/\k<7)(d a b v:Int):ko k d a b v=C (d,Za):=by
 unfold ko rJ;simp only[bv];have:k=1∨k=2∨k=3∨k=4∨k=5∨k=6:=by omega
 rcases this with rfl|rfl|rfl|rfl|rfl|rfl<;>rfl
theorem cq7 (a b:Int)(ha:0<=a/\a<=1000000000000)(hb:0<=b/\b<=65536):xM [a,b]=C (a+b):=by
 unfold xM
 have hl:ca (aa2 [a,b]) dq (0,0)=C (a+b):=by
  have h:=ff (f:=aa2 [a,b]) (n:=2) (λi=>match i with|0=>0|1=>a|_=>a+b) (c:=a+b) (by omega) ?_ ?_
  .exact h
  .intro i hi
   match i,hi with
   |0,_=>
    show C (Sum.inl (zH zI 1,zH zI (0+a)))=_;rw[bq (by omega),bq (by omega),eD];rfl
   |1,_=>
    show C (Sum.inl (zH zI 2,zH zI (a+b)))=_;rw[bq (by omega),bq (by omega)];rfl
  .rfl
 rw[hl];rfl
def dj1 (l:List cq)(op:List (Int×Int)):List (Int×Int):=op.reverse.map λp=>((l.getD p.1.toNat (0,0,0,0,0)).2.2.2.2,p.2)
theorem xG (l:List cq)(pre:List (Int×Int))(p:Int×Int):dj1 l (pre++[p])=((l.getD p.1.toNat (0,0,0,0,0)).2.2.2.2,p.2)::dj1 l pre:=by
 unfold dj1;rw[List.reverse_append,gY];rfl
def dq2 (l:List cq)(s:Int×(Zd)×(Zd)×List (Int×Int)):Prop:=
 ∃(i:Nat) (sz rd:Zd) (op:List (Int×Int)),i<=l.length/\s=((i:Int),sz,rd,op)/\sz.length=l.length/\rd.length=l.length/\op≠[]/\op.length<=i+1/\(∀p∈op,0<=p.1/\p.1<max (l.length:Int) 1/\0<=p.2/\p.2<=65537*i)/\
  co (l.drop i) (op.length-1)=C 0/\rD (l.drop i) (dj1 l op)=rD l [((l.getD 0 (0,0,0,0,0)).2.2.2.2,0)]
theorem cD1 {l:List cq}{i:Nat}(h:i<l.length):l.getD i (0,0,0,0,0)=l[i]:=by
 rw[List.getD_eq_getElem?_getD,aD h];rfl
theorem cb4 {l:List cq}(hl:l.length<=100000)(hv: ∀o∈l,0<=o.2.2.2.2/\o.2.2.2.2<=18446744073709551615)(s:Int×(Zd)×(Zd)×List (Int×Int))(h:dq2 l s):
  (∃b,dk l s=C (.inl b)/\dq2 l b/\l.length-b.1.toNat<l.length-s.1.toNat)∨
  ∃c,dk l s=C (.inr c)/\((c.1=9/\rD l [((l.getD 0 (0,0,0,0,0)).2.2.2.2,0)]=O)∨(c.1=0/\∃p:Int×Int,c.2.2.2=[p]/\0<=p.2/\rD l [((l.getD 0 (0,0,0,0,0)).2.2.2.2,0)]=C [((l.getD p.1.toNat (0,0,0,0,0)).2.2.2.2,p.2)])):=by
 obtain⟨i,sz,rds,op,hi,rfl,hsz,hrd,hne,hol,hop,hsc,hrun⟩:=h;obtain⟨pre,⟨at',w⟩,rfl⟩: ∃pre x,op=pre++[x]:=⟨op.dropLast,op.getLast hne,(iS hne).symm⟩
 have hlast:=hop (at',w) (by simp);simp only at hlast;have hlen:(pre++[(at',w)]).length=pre.length+1:=by simp
 rw[hlen]at hol hsc;rw[jG]at hsc
 have hget:(pre++[(at',w)])[pre.length]?=C (at',w):=by
  rw[dD (aB _),bD];rfl
 by_cases c:i<l.length
 .have hdrop:l.drop i=l[i]::l.drop (i+1):=(gQ c).symm;have hlv:=hv _ (gB c);have hDi:l.getD i (0,0,0,0,0)=l[i]:=cD1 c;rw[hdrop]at hsc hrun;rw[xG]at hrun;simp only[dk];rw[zB (show(i:Int)<(l.length:Int)by omega),zC,ci c];simp only[zG];generalize hx:l[i]=x at*;simp only[co]at hsc;simp only[rD]at hrun
  have hk: ¬(x.1<0∨7<x.1):=by
   intro hk;rw[zE hk]at hsc;cases hsc
  rw[zF hk]at hsc;rw[hlen,bq (n:=((pre.length+1:Nat):Int)-1) (by omega),show((pre.length+1:Nat):Int)-1=(pre.length:Int)by omega,cl (show pre.length<pre.length+1 by omega)];simp only[zG];by_cases k7:x.1=7
  .rw[zF (by omega),zE k7]at hsc;rw[zE k7]at hrun;rw[zB k7,zC,dh (by omega) (by omega),bq (n:=(i:Int)+1) (by omega)];refine .inl ⟨_,rfl,⟨i+1,sz,rds,pre++[(at',w)]++[((i:Int),0)],c,rfl,hsz,hrd,by simp,by simp;omega,λp hp=> ?_, ?_, ?_⟩,by simp;omega⟩
   .rcases List.mem_append.1 hp with hp|hp
    .have:=hop p hp;omega
    .simp at hp;subst hp;simp only;omega
   .rw[eB,hlen];exact hsc
   .rw[xG,xG];simp only[jA];rw[hDi];exact hrun
  .rw[zF k7]at hrun;rw[zA k7,zD];by_cases kz:x.1=0
   .rw[zE kz]at hsc hrun;rw[zB kz,zC]
    have hp0:pre.length≠0:=by
     intro e;rw[zE e]at hsc;cases hsc
    rw[zF hp0]at hsc
    obtain⟨pre2,⟨at2,w2⟩,rfl⟩: ∃pre2 x,pre=pre2++[x]:=by
     have hne2:pre≠[]:=by intro e;subst e;exact hp0 rfl
     exact⟨pre.dropLast,pre.getLast hne2,(iS hne2).symm⟩
    have hl2:(pre2++[(at2,w2)]).length=pre2.length+1:=by simp
    have hlast2:=hop (at2,w2) (by simp);simp only at hlast2;obtain⟨an,rfl⟩:=iZ hlast.1;have han:an<l.length:=by omega
    rw[hget];simp only[zG];rw[ci han];simp only[zG];have hvv:=hv _ (gB han);rw[bz1 ⟨hlast.2.2.1,by omega⟩ hvv];simp only[zG];rw[xG]at hrun;simp only[jA]at hrun;rw[cD1 han]at hrun;cases hb:yZ w l[an].2.2.2.2 with
    |none=>
     rw[hb]at hrun;simp only[Bool.not_false,zC];exact .inr ⟨_,rfl, .inl ⟨rfl,hrun.symm⟩⟩
    |some n=>
     rw[hb]at hrun;have hn:=aS2 hlast.2.2.1 hvv.1 hb;simp only[hC,zD];rw[cl (show an<sz.length by omega)];simp only[zG];rw[aD (show an<sz.length by omega)];simp only[zG];rw[cl (show an<rds.length by omega)];simp only[zG];rw[aD (show an<rds.length by omega)];simp only[zG];rw[lF (by omega),fq];have e1:((pre2++[(at2,w2)]).length:Int).toNat-0=pre2.length+1:=by rw[hl2];omega
     rw[e1,bq (n:=((pre2.length+1:Nat):Int)-1) (by omega),show((pre2.length+1:Nat):Int)-1=(pre2.length:Int)by omega,cl (show pre2.length<pre2.length+1 by omega)];simp only[zG,gP]
     have hg2:(pre2++[(at2,w2)]++[((an:Int),w)])[pre2.length]?=C (at2,w2):=by
      rw[dB,dD (aB _),bD];rfl
     rw[hg2];simp only[zG];rw[cq7 _ _ (by omega) hn];simp only[zG]
     have htk:((pre2++[(at2,w2)]++[((an:Int),w)]).set pre2.length (at2,w2+n)).take (pre2.length+1)=pre2++[(at2,w2+n)]:=by
      rw[dB,iI _ _ (aB _),bD];show(pre2++[(at2,w2+n),((an:Int),w)]).take (pre2.length+1)=_;rw[show [(at2,w2+n),((an:Int),w)]=[(at2,w2+n)]++[((an:Int),w)]from rfl,<-dB,iK];simp
     rw[htk,bq (n:=(i:Int)+1) (by omega)];refine .inl ⟨_,rfl,⟨i+1,_,_,pre2++[(at2,w2+n)],c,rfl,by simp[hsz],by simp[hrd],by simp,by simp;omega,λp hp=> ?_, ?_, ?_⟩,by simp;omega⟩
     .rcases List.mem_append.1 hp with hp|hp
      .have:=hop p (by simp[hp]);omega
      .simp at hp;subst hp;simp only;omega
     .rw[hl2]at hsc;rw[eB];exact hsc
     .rw[xG];exact hrun
   .rw[zF kz]at hsc hrun;rw[zF k7]at hsc;rw[zA kz,zD,aJ1 (by omega)];simp only[zG,zC];rw[cl (show i<sz.length by omega)];simp only[zG];rw[aD (show i<sz.length by omega)];simp only[zG];rw[hget];simp only[zG];rw[bq (n:=w+1) (by omega),bq (n:=(i:Int)+1) (by omega)]
    have hset:(pre++[(at',w)]).set pre.length (at',w+1)=pre++[(at',w+1)]:=by
     rw[iI _ _ (aB _),bD];rfl
    rw[hset];refine .inl ⟨_,rfl,⟨i+1,_,rds,pre++[(at',w+1)],c,rfl,by simp[hsz],hrd,by simp,by simp;omega,λp hp=> ?_, ?_, ?_⟩,by simp;omega⟩
    .rcases List.mem_append.1 hp with hp|hp
     .have:=hop p (by simp[hp]);omega
     .simp at hp;subst hp;simp only;omega
    .rw[eB];exact hsc
    .rw[xG];exact hrun
 .have hi':i=l.length:=by omega
  subst hi';rw[gU]at hsc hrun;simp only[dk];rw[zA (show¬(l.length:Int)<(l.length:Int)by omega),zD]
  have hp:pre=[]:=by
   have hsc:C pre.length=C 0:=hsc;injection hsc with hsc
   exact List.length_eq_zero_iff.1 hsc
  subst hp;refine .inr ⟨_,rfl, .inr ⟨rfl,(at',w),rfl,hlast.2.2.1, ?_⟩⟩;rw[<-hrun];rfl
def Q9 (l:List cq):Option Int:=(rD l [((l.getD 0 (0,0,0,0,0)).2.2.2.2,0)]).bind λst=>match st with
 |[p]=>C p.2
 |_=>O
def eg (l:List cq):Int×Int:=if co l 0=C 0 then(match Q9 l with
 |some w=>if 65536<w then(0,9)else(w,0)
 |none=>(0,9))else(0,6)
theorem vx {l:List cq}(hl:l.length<=100000)(hv: ∀o∈l,0<=o.2.2.2.2/\o.2.2.2.2<=18446744073709551615):jq l=C (eg l):=by
 unfold jq lb;obtain⟨m,hm⟩:=aM3 hl;rw[hm];unfold eg;by_cases hs:co l 0=C 0
 .simp only[zE hs];simp only[zG];rw[zA (by simp),zD];rw[zB (show(0:Int)<=(l.length:Int)by omega),zB (show(l.length:Int)<=(l.length:Int)by omega),zB (show 8*(l.length:Int)<=140737488355328 by omega)];have hgd: ∀{β:Type} {y:Option β},gd (iL 1 (Sh.w (.int .i64))&&Za&&Za&&Za&&Nat.ble 1 8) y=y:=λ{β y}=>rfl
  rw[hgd,hgd]
  obtain⟨c,hc,h⟩:=lx (f:=dk l) (a:=((0:Int),bB ((l.length:Int)).toNat (0:Int),bB ((l.length:Int)).toNat (0:Int),[((0:Int),(0:Int))])) (dq2 l) (λs=>l.length-s.1.toNat) _
   ⟨0,_,_,[(0,0)],gR _,rfl,by simp,by simp,by simp,by simp,(λp hp=>by simp at hp;subst hp;simp only;omega),hs,rfl⟩ (by simp;omega) (λs h=>cb4 hl hv s h)
  rw[hc];simp only[zG];unfold Q9;rcases h with⟨h1,h2⟩|⟨h1,p,h3,h4,h5⟩
  .rw[h1,h2];rfl
  .rw[h1,h5,h3];show((((cond (Zc (65536<p.2)) (C (9:Int)) (C 0)).bind λs36=>cond (Zc (s36≠0)) (C ((0:Int),s36,([]:Zd),([]:Zd))) (C (p.2,0,c.2.1,c.2.2.1))).bind λr1=>C (r1.1,r1.2.1)))=C (if 65536<p.2 then(0,9)else(p.2,0));rw[bv];by_cases c6:65536<p.2
   .rw[zE c6,zE c6];rfl
   .rw[zF c6,zF c6];rfl
 .simp only[zF hs];rfl
theorem af4 : ∀(l r:List cq) (st:List (Int×Int)),rD (l++r) st=(rD l st).bind (rD r)
 |[],r,st=>rfl
 |o::l,r,[]=>rfl
 |o::l,r,(v,w)::st=>by
  simp only[fD,rD];split
  .exact af4 l r _
  split
  .split
   .exact af4 l r _
   .rfl
  .exact af4 l r _
def cD8 (v w:Int)(base:List (Int×Int)):List (Int×Int)->List (Int×Int)
 |[]=>[]
 |[p]=>(v,w+p.2)::base
 |p::q::r=>p::cD8 v w base (q::r)
theorem bK9 (v w:Int)(base:List (Int×Int))(p:Int×Int): ∀fs:List (Int×Int),cD8 v w base (fs++[p])=fs++(v,w+p.2)::base
 |[]=>rfl
 |[a]=>rfl
 |a::b::r=>by
  show a::cD8 v w base (b::r++[p])=_;rw[bK9 v w base p (b::r)];rfl
theorem rV (v w:Int)(base:List (Int×Int)): ∀(l:List cq) (fs:List (Int×Int)) (n0:Int) (d':Nat),co l fs.length=C d'->rD l (fs++(v,w+n0)::base)=(rD l (fs++[(0,n0)])).map (cD8 v w base)
 |[],fs,n0,d',_=>by
  show C _=C _;rw[bK9]
 |o::l,[],n0,d',h=>by
  simp only[co,List.length_nil]at h;simp only[gO,rD];split at h
  .cases h
  split at h
  .rw[zE trivial]at h;cases h
  rename_i c1 c2;split at h
  .rename_i c3;rw[zE c3,zE c3];exact rV v w base l [(o.2.2.2.2,0)] n0 d' h
  .rename_i c3;rw[zF c3,zF c2,zF c3,zF c2,gD];exact rV v w base l [] (n0+1) d' h
 |o::l,(fv,fw)::fs,n0,d',h=>by
  simp only[co,cD]at h;simp only[fD,rD];split at h
  .cases h
  split at h
  .rename_i c1 c2;rw[zF (by omega)]at h;rw[zF (by omega),zE c2,zF (by omega),zE c2];cases hb:yZ fw fv with
   |none=>rfl
   |some n=>
    cases fs with
    |nil=>
     simp only[gO];rw[gD];exact rV v w base l [] (n0+n) d' h
    |cons q fs=>
     simp only[fD];exact rV v w base l ((q.1,q.2+n)::fs) n0 d' h
  rename_i c1 c2;split at h
  .rename_i c3;rw[zE c3,zE c3];exact rV v w base l ((o.2.2.2.2,0)::(fv,fw)::fs) n0 d' h
  .rename_i c3;rw[zF c3,zF c2,zF c3,zF c2];exact rV v w base l ((fv,fw+1)::fs) n0 d' h
theorem aV3 : ∀(l:List cq) (st st':List (Int×Int)) (d d':Nat),st.length=d+1->co l d=C d'->rD l st=C st'->st'.length=d'+1
 |[],st,st',d,d',h1,h2,h3=>by
  injection h2 with h2
  injection h3 with h3
  subst h2;subst h3;exact h1
 |o::l,[],st',d,d',h1,_,_=>by simp at h1
 |o::l,(v,w)::st,st',d,d',h1,h2,h3=>by
  simp only[co]at h2;simp only[rD]at h3;simp only[cD,Nat.add_right_cancel_iff]at h1;split at h2
  .cases h2
  split at h2
  .rename_i c1 c2;split at h2
   .cases h2
   rw[zF (by omega),zE c2]at h3;split at h3
   .rename_i c3 _ _ n v' w' st2 _;exact aV3 l _ st' (d-1) d' (by simp at h1⊢;omega) h2 h3
   .cases h3
  rename_i c1 c2;split at h2
  .rename_i c3;rw[zE c3]at h3;exact aV3 l _ st' (d+1) d' (by simp;omega) h2 h3
  .rename_i c3;rw[zF c3,zF c2]at h3;exact aV3 l _ st' d d' (by simp;omega) h2 h3
theorem bm1 : ∀(l:List cq) (st st':List (Int×Int)),(∀o∈l,0<=o.2.2.2.2)->(∀p∈st,0<=p.1/\0<=p.2)->rD l st=C st'->∀p∈st',0<=p.2
 |[],st,st',_,h,h3=>by
  injection h3 with h3
  subst h3;exact λp hp=>(h p hp).2
 |o::l,[],st',_,_,h3=>by cases h3
 |o::l,(v,w)::st,st',ho,h,h3=>by
  have hvw:=h (v,w) (by simp);have hrest: ∀p∈st,0<=p.1/\0<=p.2:=λp hp=>h p (by simp[hp])
  have hol: ∀o'∈l,0<=o'.2.2.2.2:=λo' ho'=>ho o' (by simp[ho'])
  simp only at hvw;simp only[rD]at h3;split at h3
  .refine bm1 l _ st' hol (λp hp=> ?_) h3;rcases List.mem_cons.1 hp with rfl|hp
   .exact⟨ho o (by simp),hZ _⟩
   .exact h p hp
  split at h3
  .split at h3
   .rename_i n v' w' st2 hb;have hn:=aS2 hvw.2 hvw.1 hb;refine bm1 l _ st' hol (λp hp=> ?_) h3;rcases List.mem_cons.1 hp with rfl|hp
    .have:=hrest (v',w') (by simp);simp only at this⊢;omega
    .exact hrest p (by simp[hp])
   .cases h3
  .refine bm1 l _ st' hol (λp hp=> ?_) h3;rcases List.mem_cons.1 hp with rfl|hp
   .simp only;omega
   .exact h p (by simp[hp])
theorem aK4 {l:List cq}(h:co l 0=C 0)(v w:Int)(base:List (Int×Int)):rD l ((v,w)::base)=(Q9 l).map λm=>(v,w+m)::base:=by
 have h1:=rV v w base l [] 0 0 h;rw[gO,gO,hO]at h1;have h2:=rV ((l.getD 0 (0,0,0,0,0)).2.2.2.2) 0 [] l [] 0 0 h;rw[gO,gO,hO]at h2;unfold Q9;rw[h1,h2];cases hr:rD l [(0,0)]with
 |none=>rfl
 |some st=>
  have hl:=aV3 l _ st 0 0 rfl h hr
  match st,hl with
  |[p],_=>
   show C ((v,w+p.2)::base)=C ((v,w+(0+p.2))::base);rw[eD]
theorem bd0 {l:List cq}(hv: ∀o∈l,0<=o.2.2.2.2){m:Int}(h:co l 0=C 0)(hq:Q9 l=C m):0<=m:=by
 have h1:=aK4 h 0 0 [];rw[hq]at h1;have:=bm1 l _ _ hv (λp hp=>by simp at hp;subst hp;simp) h1 (0,0+m) (by simp);simp only at this;omega
theorem aM8 {l:List cq}(hl:l.length<=100000):pw l=C (Zc (co l 0=C 0)):=by
 unfold pw
 obtain⟨c,hc,h⟩:=lx (f:=vG l) (a:=((0:Int),(0:Int))) (λs=> ∃i d:Nat,i<=l.length/\d<=i/\s=((i:Int),(d:Int))/\co (l.drop i) d=co l 0) (λs=>l.length-s.1.toNat)
  (λc=>(c= .inl Zb/\co l 0=O)∨∃d:Nat,c= .inr (d:Int)/\co l 0=C d) ⟨0,0,gR _,aB _,rfl,rfl⟩ (by simp;omega) (by
  rintro _ ⟨i,d,hi,hd,rfl,hs⟩;simp only[vG,bv];by_cases c:i<l.length
  .rw[(gQ c).symm]at hs;rw[zE (by omega),ci c];simp only[zG];generalize l[i]=x at*;simp only[co]at hs;by_cases k0:x.1<0
   .rw[zE (.inl k0)]at hs;rw[zE k0];exact .inr ⟨_,rfl, .inl ⟨rfl,hs.symm⟩⟩
   rw[zF k0];by_cases k7:7<x.1
   .rw[zE (.inr k7)]at hs;rw[zE k7];exact .inr ⟨_,rfl, .inl ⟨rfl,hs.symm⟩⟩
   rw[zF (by omega)]at hs;rw[zF k7];by_cases kz:x.1=0
   .rw[zE kz]at hs;rw[zF (by omega)];simp only[zG];rw[zE kz,bq (n:=(d:Int)-1) (by omega),bq (n:=(i:Int)+1) (by omega)];by_cases hd0:d=0
    .rw[zE hd0]at hs;rw[zE (by omega)];exact .inr ⟨_,rfl, .inl ⟨rfl,hs.symm⟩⟩
    .rw[zF hd0]at hs;rw[zF (by omega)];exact .inl ⟨_,rfl,⟨i+1,d-1,c,by omega,by rw[show((d-1:Nat):Int)=(d:Int)-1 by omega];rfl,hs⟩,by simp;omega⟩
   .rw[zF kz]at hs;by_cases k77:x.1=7
    .rw[zE k77]at hs;rw[zE k77];simp only[zG];rw[zF kz,bq (n:=(d:Int)+1) (by omega),bq (n:=(i:Int)+1) (by omega),zF (by omega)];exact .inl ⟨_,rfl,⟨i+1,d+1,c,by omega,rfl,hs⟩,by simp;omega⟩
    .rw[zF k77]at hs;rw[zF k77];simp only[zG];rw[zF kz,bq (n:=(i:Int)+1) (by omega),zF (by omega)];exact .inl ⟨_,rfl,⟨i+1,d,c,by omega,rfl,hs⟩,by simp;omega⟩
  .have:i=l.length:=by omega
   subst this;rw[gU]at hs;rw[zF (by omega)]
   exact .inr ⟨_,rfl, .inr ⟨d,rfl,hs.symm⟩⟩)
 rw[hc];rcases h with⟨rfl,h⟩|⟨d,rfl,h⟩
 .rw[h];rfl
 .rw[h];show C (Zc ((d:Int)=0))=C (Zc (C d=C 0))
  congr 1
  rw[decide_eq_decide];constructor
  .intro e;have:d=0:=by omega
   rw[this]
  .intro e;injection e with e;omega
theorem an3 : ∀(n:Nat) (s:List cq) (d:Nat),s.length<=n->co s (d+1)=C 0->∃inner e rest,s=inner++e::rest/\e.1=0/\co inner 0=C 0/\co rest d=C 0
 |n,[],d,_,h=>by
  injection h with h
  omega
 |0,o::s,d,hn,_=>by simp at hn
 |n+1,o::s,d,hn,h=>by
  simp only[cD]at hn;simp only[co]at h;split at h
  .cases h
  rename_i c1;split at h
  .rename_i c2;rw[zF (by omega)]at h;exact⟨[],o,s,rfl,c2,rfl,h⟩
  rename_i c2;split at h
  .rename_i c3;obtain⟨i1,e1,r1,h1,h2,h3,h4⟩:=an3 n s (d+1) (by omega) h;have hlen:r1.length<=n:=by rw[h1]at hn;simp at hn;omega
   obtain⟨i2,e2,r2,h5,h6,h7,h8⟩:=an3 n r1 d hlen h4;refine⟨o::i1++e1::i2,e2,r2, ?_,h6, ?_,h8⟩
   .rw[h1,h5];simp
   .show co (o::(i1++e1::i2)) 0=_;simp only[co];rw[zF c1,zF c2,zE c3,qJ,aV5 _ _ _ h3];show co (e1::i2) 1=_;simp only[co];rw[zF (by omega),zE h2,zF (by omega)];exact h7
  .rename_i c3;obtain⟨i1,e1,r1,h1,h2,h3,h4⟩:=an3 n s d (by omega) h;refine⟨o::i1,e1,r1,by rw[h1];rfl,h2, ?_,h4⟩;simp only[co];rw[zF c1,zF c2,zF c3];exact h3
theorem xy {i1 i2 r1 r2:List cq}{e1 e2:cq}(h:i1++e1::r1=i2++e2::r2)(h1:co i1 0=C 0)(h2:co i2 0=C 0)(he1:e1.1=0)(he2:e2.1=0):i1=i2:=by
 have key: ∀{a b:List cq} {e:cq} {x:List cq},a++e::x=b->e.1=0->co a 0=C 0->co b 0=C 0->False:=by
  intro a b e x hab he ha hb;rw[<-hab,qJ,ha]at hb;have hb:co (e::x) 0=C 0:=hb;simp only[co]at hb;rw[zF (by omega),zE he,zE trivial]at hb;cases hb
 rcases List.append_eq_append_iff.1 h with⟨a',h3,h4⟩|⟨a',h3,h4⟩
 .cases a' with
  |nil=>rw[iB]at h3;exact h3.symm
  |cons q a'=>
   rw[fD]at h4;injection h4 with h4 h5
   subst h4;exact(key h3.symm he1 h1 h2).elim
 .cases a' with
  |nil=>rw[iB]at h3;exact h3
  |cons q a'=>
   rw[fD]at h4;injection h4 with h4 h5
   subst h4;exact(key h3.symm he2 h2 h1).elim
theorem br4 {l:List cq}(h:co l 0=C 0){i:Nat}(hi:i<=l.length): ∃d,co (l.take i) 0=C d/\co (l.drop i) d=C 0:=by
 rw[<-iJ i l,qJ]at h;obtain⟨d,h1,h2⟩:=bx h;exact⟨d,h1,h2⟩
theorem cj6 {l:List cq}(h:co l 0=C 0){i:Nat}(hi:i<l.length)(hk:l[i].1=7): ∃inner e rest,l.drop (i+1)=inner++e::rest/\e.1=0/\co inner 0=C 0:=by
 obtain⟨d,_,h2⟩:=br4 h (i:=i) (by omega);rw[(gQ hi).symm]at h2;simp only[co]at h2;rw[zF (by omega),zF (by omega),zE hk]at h2;obtain⟨inner,e,rest,h3,h4,h5,_⟩:=an3 _ _ d (aB _) h2;exact⟨inner,e,rest,h3,h4,h5⟩
structure MOK (l:List cq)(m:Zd):Prop where
 len:m.length=l.length
 at': ∀i,(hi:i<l.length)->l[i].1=7->∀inner e rest,l.drop (i+1)=inner++e::rest->e.1=0->co inner 0=C 0->m[i]?=C ((i+1+inner.length:Nat):Int)
theorem di5 {l:List cq}(hl:l.length<=100000){i:Nat}(hi:i<l.length){inner rest:List cq}{e:cq}(h:l.drop (i+1)=inner++e::rest)(he:e.1=0)(hs:co inner 0=C 0):ca (mQ l) dq (1,(i:Int))=C ((i+1+inner.length:Nat):Int):=by
 have hlen:l.length=i+1+inner.length+1+rest.length:=by
  have:=congrArg gX h;rw[iF]at this;simp at this;omega
 have hget: ∀j,j<inner.length+1->∃x,rd l ((i+1+j:Nat):Int)=C x/\(inner++e::rest)[j]?=C x:=by
  intro j hj;have hlt:i+1+j<l.length:=by omega
  refine⟨l[i+1+j],ci hlt, ?_⟩;rw[<-h,iE,aD hlt]
 have hpre: ∀j,j<=inner.length->∃d,co (inner.take j) 0=C d:=by
  intro j hj;obtain⟨d,h1,_⟩:=br4 hs hj;exact⟨d,h1⟩
 let hs':Nat->Nat:=λj=>(co (inner.take j) 0).getD 0
 have hhs: ∀j,j<=inner.length->co (inner.take j) 0=C (hs' j):=by
  intro j hj;obtain⟨d,hd⟩:=hpre j hj;show _=C ((co (inner.take j) 0).getD 0);rw[hd];rfl
 have hle: ∀j,hs' j<=j∨inner.length<j:=by
  intro j;induction j with
  |zero=>exact .inl (aB _)
  |succ j ih=>
   by_cases hj:j+1<=inner.length
   .left;have h1:=hhs (j+1) hj;rw[iV (show j<inner.length by omega),qJ,hhs j (by omega)]at h1;have h1:co [inner[j]] (hs' j)=C (hs' (j+1)):=h1;simp only[co]at h1;split at h1
    .cases h1
    split at h1
    .split at h1
     .cases h1
     .injection h1 with h1;omega
    split at h1
    .injection h1 with h1;omega
    .injection h1 with h1;omega
   .right;omega
 refine nL (f:=mQ l) (n:=inner.length+1) (λj=>if j<=inner.length then((1+hs' j:Nat),((i+j:Nat):Int))else(0,((i+1+inner.length:Nat):Int))) (by omega) (λj hj=> ?_) ?_
 .have hb:=hle j;rw[zE (show j<=inner.length by omega)];obtain⟨x,hx1,hx2⟩:=hget j (by omega);simp only[mQ,bv];rw[zE (by omega),bq (n:=((i+j:Nat):Int)+1) (by omega),show((i+j:Nat):Int)+1=((i+1+j:Nat):Int)by omega,hx1];simp only[zG];by_cases hj2:j<inner.length
  .rw[List.getElem?_append_left hj2,aD hj2]at hx2;injection hx2 with hx2
   have h1:=hhs (j+1) hj2;rw[iV hj2,qJ,hhs j (by omega)]at h1;have h1:co [inner[j]] (hs' j)=C (hs' (j+1)):=h1;rw[hx2]at h1;simp only[co]at h1;rw[zE (show j+1<=inner.length by omega)];split at h1
   .cases h1
   split at h1
   .rename_i k1 k2;split at h1
    .cases h1
    .injection h1 with h1
     rw[zF (by omega),zE k2,bq (by omega)]
     congr 3<;>omega
   rename_i k1 k2;split at h1
   .rename_i k3;injection h1 with h1
    rw[zE k3,zF k2,bq (by omega)]
    congr 3<;>omega
   .rename_i k3;injection h1 with h1
    rw[zF k3,zF k2]
    congr 3<;>omega
  .have hje:j=inner.length:=by omega
   subst hje;rw[dD (aB _),bD]at hx2;injection hx2 with hx2
   subst hx2
   have hz:hs' inner.length=0:=by
    have:=hhs inner.length (aB _);rw[List.take_length,hs]at this;injection this with this
    exact this.symm
   rw[zF (by omega),zE he,zF (show¬inner.length+1<=inner.length by omega),hz,bq (by omega)];rfl
 .rw[zF (by omega)];simp only[mQ,bv];rw[zF (by omega)]
theorem az8 {l:List cq}(hl:l.length<=100000):(co l 0=C 0/\∃m,jU l=C (0,m)/\MOK l m)∨(co l 0≠C 0/\jU l=C (6,[])):=by
 unfold jU;rw[aM8 hl];simp only[zG];by_cases hs:co l 0=C 0
 .left;refine⟨hs, ?_⟩;rw[zB hs];simp only[hC,zD]
  have h0:ca (mP l) dq (0,[])=C (bB l.length (-1)):=by
   have h:=ff (f:=mP l) (n:=l.length) (λi=>bB i (-1:Int)) (c:=bB l.length (-1)) (by omega) ?_ ?_
   .exact h
   .intro i hi;simp only[mP,bv];rw[zE (by omega),dh (by simp;omega) (by omega),bq (by omega),jE];rfl
   .simp only[mP,bv];rw[zF (by omega)]
  rw[h0];simp only[zG]
  obtain⟨c,hc,h⟩:=lx (f:=tZ l) (a:=((0:Int),bB l.length (-1:Int))) (λs=> ∃(i:Nat) (out:Zd),i<=l.length/\s=((i:Int),out)/\out.length=l.length/\∀j,j<i->(hj:j<l.length)->l[j].1=7->∀inner e rest,l.drop (j+1)=inner++e::rest->e.1=0->co inner 0=C 0->out[j]?=C ((j+1+inner.length:Nat):Int)) (λs=>l.length-s.1.toNat)
   (λc=>MOK l c) ⟨0,_,gR _,rfl,by simp,λj hj=>by omega⟩ (by simp;omega) (by
   rintro _ ⟨i,out,hi,rfl,ho,hout⟩;simp only[tZ,bv];by_cases c:i<l.length
   .rw[zE (by omega),ci c];simp only[zG];by_cases hk:l[i].1=7
    .obtain⟨inner,e,rest,h1,h2,h3⟩:=cj6 hs c hk
     have hlen:l.length=i+1+inner.length+1+rest.length:=by
      have:=congrArg gX h1;rw[iF]at this;simp at this;omega
     rw[zF (by simp[hk]),di5 hl c h1 h2 h3];simp only[zG];rw[cl (show i<out.length by omega)];simp only[zG];rw[aD (show i<out.length by omega)];simp only[zG];rw[cl (show i+1+inner.length<(out.set i ((i+1+inner.length:Nat):Int)).length by simp;omega)];simp only[zG];rw[aD (show i+1+inner.length<(out.set i ((i+1+inner.length:Nat):Int)).length by simp;omega)];simp only[zG];rw[bq (n:=(i:Int)+1) (by omega)];refine .inl ⟨_,rfl,⟨i+1,_,c,rfl,by simp[ho],λj hj hjl hjk inner' e' rest' q1 q2 q3=> ?_⟩,by simp;omega⟩
     have hke:l[i+1+inner.length].1=0:=by
      have h4:(l.drop (i+1))[inner.length]?=C e:=by
       rw[h1,dD (aB _),bD];rfl
      rw[iE,aD (show i+1+inner.length<l.length by omega)]at h4;injection h4 with h4
      rw[h4];exact h2
     have hne:i+1+inner.length≠j:=by
      intro e4;subst e4;rw[hke]at hjk;cases hjk
     rw[cB hne];by_cases hji:i=j
     .subst hji;have:=xy (h1.symm.trans q1) h3 q3 h2 q2;subst this;rw[gW (by omega)]
     .rw[cB hji];exact hout j (by omega) hjl hjk inner' e' rest' q1 q2 q3
    .rw[zE hk,bq (n:=(i:Int)+1) (by omega)];refine .inl ⟨_,rfl,⟨i+1,out,c,rfl,ho,λj hj hjl hjk=> ?_⟩,by simp;omega⟩;by_cases hji:j=i
     .subst hji;exact(hk hjk).elim
     .exact hout j (by omega) hjl hjk
   .have:i=l.length:=by omega
    subst this;rw[zF (by omega)]
    exact .inr ⟨_,rfl,ho,λj hj hjk=>hout j hj hj hjk⟩)
  rw[hc];exact⟨c,rfl,h⟩
 .right;refine⟨hs, ?_⟩;rw[zA hs];rfl
theorem cE1 {α β:Type}{f:α->β}(hf: ∀a b,f a=f b->a=b){x y:Option α}(h:x.map f=y.map f):x=y:=by
 cases x with
 |none=>cases y with
  |none=>rfl
  |some b=>cases h
 |some a=>cases y with
  |none=>cases h
  |some b=>
   injection h with h
   rw[hf _ _ h]
theorem cn7 (v c:Int)(base:List (Int×Int)): ∀a b:Int,(v,c+a)::base=(v,c+b)::base->a=b:=by
 intro a b h;injection h with h
 injection h with _ h
 omega
theorem bI5 {o:cq}{s:List cq}(h:co (o::s) 0=C 0)(hk:o.1≠7):co s 0=C 0/\(0<o.1/\o.1<7)/\Q9 (o::s)=(Q9 s).map (1+ ·):=by
 have h1:=aK4 h 0 0 [];simp only[co]at h;split at h
 .cases h
 rename_i c1;split at h
 .rw[zE trivial]at h;cases h
 rename_i c2;refine⟨h,by omega,cE1 (cn7 0 0 []) ?_⟩;rw[<-h1];simp only[rD];rw[zF hk,zF c2,aK4 h];cases Q9 s with
 |none=>rfl
 |some m=>
  show C [((0:Int),0+1+m)]=C [((0:Int),0+(1+m))];rw[gD]
theorem bU0 {o e:cq}{inner rest:List cq}(h:co (o::(inner++e::rest)) 0=C 0)(hk:o.1=7)(he:e.1=0)(hi:co inner 0=C 0):
  co rest 0=C 0/\Q9 (o::(inner++e::rest))=(Q9 inner).bind λw=>(yZ w o.2.2.2.2).bind λb=>(Q9 rest).map (b+ ·):=by
 have h1:=aK4 h 0 0 [];simp only[co]at h;rw[zF (by omega),zF (by omega),zE hk,qJ,aV5 _ _ _ hi]at h;have h:co (e::rest) 1=C 0:=h;simp only[co]at h;rw[zF (by omega),zE he,zF (by omega)]at h;have h:co rest 0=C 0:=h;refine⟨h,cE1 (cn7 0 0 []) ?_⟩;rw[<-h1];simp only[rD];rw[zE hk,af4,aK4 hi];cases Q9 inner with
 |none=>rfl
 |some w=>
  show rD (e::rest) [(o.2.2.2.2,0+w),(0,0)]=_;simp only[rD];rw[zF (by omega),zE he,eD];simp only[zG];cases yZ w o.2.2.2.2 with
  |none=>rfl
  |some b=>
   simp only[zG];rw[aK4 h];cases Q9 rest with
   |none=>rfl
   |some m=>
    show C [((0:Int),0+b+m)]=C [((0:Int),0+(b+m))];rw[gD]
theorem cy1 {k:Int}(h:0<k/\k<7): ∃x,ik k=C (Za,x):=by
 have:k=1∨k=2∨k=3∨k=4∨k=5∨k=6:=by omega
 rcases this with rfl|rfl|rfl|rfl|rfl|rfl<;>exact⟨_,rfl⟩
def aN2 (t:Int):Int:=if 65536<t then 65537 else t
def cI4 (w v:Int):Int:=if aN2 w=0 then 0 else if v=0 then 0 else if 65536<v then 65537 else if 65536<aN2 w*v then 65537 else aN2 w*v
theorem aS3 {w v b:Int}(hw:0<=w)(hv:0<=v)(h:yZ w v=C b):cI4 w v=b/\w<=65536:=by
 unfold yZ at h;unfold cI4;split at h
 .rename_i c1;injection h with h
  subst h;subst c1;exact⟨by rw[zE (show aN2 0=0 from rfl)],by omega⟩
 split at h
 .cases h
 split at h
 .cases h
 rename_i c1 c2 c3;injection h with h
 have hs:aN2 w=w:=zF c2;rw[hs,zF c1];have hd:65536 / w<=65536:=hX _ (by omega);have h4:v<=65536 / w:=by omega
 have h5:=iA h4 hw;have h6:=iO (x:=65536) (k:=w) c1;refine⟨?_,by omega⟩;by_cases c4:v=0
 .rw[zE c4,<-h,c4,Int.mul_zero]
 .rw[zF c4,zF (by omega),zF (by omega),h]
theorem cR2 {w v:Int}(hw:0<=w)(hv:0<=v)(h:yZ w v=O):65536<w∨cI4 w v=65537:=by
 unfold yZ at h;split at h
 .cases h
 rename_i c1;split at h
 .rename_i c2;exact .inl c2
 rename_i c2;split at h
 .rename_i c3;right;unfold cI4;have hs:aN2 w=w:=zF c2;have hlt:=Int.lt_mul_of_ediv_lt (show 0<w by omega) c3;rw[gS]at hlt;have hd:0<=65536 / w:=hY (by omega) hw;rw[hs,zF c1,zF (by omega)];by_cases c4:65536<v
  .rw[zE c4]
  .rw[zF c4,zE hlt]
 .cases h
def WOK (l:List cq)(m:Zd)(N:Nat):Prop:= ∀f,2*N<f->∀A seg B,l=A++seg++B->seg.length<N->co seg 0=C 0->
 ∃r,(cr f).1 l m (A.length:Int) ((A.length+seg.length:Nat):Int)=C r/\0<=r/\r<=65537/\∀t,Q9 seg=C t->r=aN2 t
section
variable {l:List cq} {m:Zd}
theorem cj7 (hl:l.length<=1000)(hv: ∀o∈l,0<=o.2.2.2.2/\o.2.2.2.2<=18446744073709551615)(hm:MOK l m){N:Nat}(h:WOK l m N){f:Nat}(hf:2*N+1<f){i:Nat}(hi:i<l.length)(hk:l[i].1=7){inner rest:List cq}{e:cq}(hd:l.drop (i+1)=inner++e::rest)(he:e.1=0)(hs:co inner 0=C 0)(hN:inner.length<N):
  ∃r,(cr f).2 l m (i:Int)=C r/\0<=r/\r<=65537/\∀w,Q9 inner=C w->r=cI4 w l[i].2.2.2.2:=by
 obtain⟨g,rfl⟩: ∃g,f=g+1:=⟨f-1,by omega⟩
 have hlen:l.length=i+1+inner.length+1+rest.length:=by
  have:=congrArg gX hd;rw[iF]at this;simp at this;omega
 have hmi:=hm.at' i hi hk inner e rest hd he hs
 have hsplit:l=l.take (i+1)++inner++e::rest:=by
  rw[dB,<-hd,iJ]
 have hA:(l.take (i+1)).length=i+1:=by rw[iT];omega
 obtain⟨r4,h1,h2,h3,h4⟩:=h g (by omega) (l.take (i+1)) inner (e::rest) hsplit hN hs;rw[hA]at h1
 have hrd:rd m (i:Int)=C ((i+1+inner.length:Nat):Int):=by
  have hlt:i<m.length:=by rw[hm.len];exact hi
  rw[ci hlt,<-hmi,aD hlt]
 have hvi:=hv _ (gB hi);show∃r,zV ((cr g).1) ((cr g).2) l m i=C r/\_
 unfold zV;rw[hrd];simp only[zG];rw[bq (n:=(i:Int)+1) (by omega),show(i:Int)+1=((i+1:Nat):Int)by omega,h1];simp only[zG,bv];rw[ci hi];simp only[zG];generalize l[i].2.2.2.2=v at*
 have hval:(if r4=0 then C 0 else if v=0 then C 0 else if 65536<v then C 65537 else if 65536<IntKind.i64.wrap (r4*zH zI v)then C 65537 else C (zH zI (r4*zH zI v)))=
   C (if r4=0 then 0 else if v=0 then 0 else if 65536<v then 65537 else if 65536<r4*v then 65537 else r4*v):=by
  split
  .rfl
  split
  .rfl
  split
  .rfl
  rename_i c1 c2 c3;have h5:=Int.mul_le_mul h3 (show v<=65536 by omega) hvi.1 (by omega);have h6:=gT h2 hvi.1;rw[bq (n:=v) (by omega),bq (by omega)];split<;>rfl
 rw[hval];refine⟨_,rfl, ?_, ?_,λw hw=> ?_⟩
 .split
  .omega
  split
  .omega
  split
  .omega
  split
  .omega
  .exact gT h2 hvi.1
 .split
  .omega
  split
  .omega
  split
  .omega
  split<;>omega
 .rw[h4 w hw];rfl
theorem aB3 (hl:l.length<=1000)(hv: ∀o∈l,0<=o.2.2.2.2/\o.2.2.2.2<=18446744073709551615)(hm:MOK l m){N:Nat}(h:WOK l m N){g:Nat}(hg:2*N+1<g)(hi:Nat): ∀(k:Nat) (pre seg B:List cq) (n:Int) (fu:Nat),l=pre++seg++B->seg.length<=k->seg.length<=N->seg.length<fu->co seg 0=C 0->hi=pre.length+seg.length->0<=n/\n<=65536->
  ∃c,ca (oC ((cr g).2) l m hi) fu ((pre.length:Int),n)=C c/\(c= .inl ()∨∃r,c= .inr r/\0<=r/\r<=65536)/\∀t,Q9 seg=C t->c=if 65536<n+t then .inl ()else .inr (n+t)
 |k,pre,[],B,n,0,_,_,_,hfu,_,_,_=>by simp at hfu
 |k,pre,[],B,n,fu+1,hsplit,_,_,_,hs,hh,hn=>by
  refine⟨.inr n, ?_, .inr ⟨n,rfl,hn⟩,λt ht=> ?_⟩
  .rw[df];simp only[oC,bv];rw[zF (by simp at hh;omega)];rfl
  .injection ht with ht
   subst ht;rw[hO,zF (by omega)]
 |0,pre,o::seg,B,n,fu,_,hk,_,_,_,_,_=>by simp at hk
 |k+1,pre,o::seg,B,n,0,_,_,_,hfu,_,_,_=>by simp at hfu
 |k+1,pre,o::seg,B,n,fu+1,hsplit,hk,hN,hfu,hs,hh,hn=>by
  simp only[cD]at hk hN hfu hh;have hlen:l.length=pre.length+(seg.length+1)+B.length:=by rw[hsplit];simp;omega
  have hlt:pre.length<l.length:=by omega
  have hget:l[pre.length]=o:=by
   have:l[pre.length]?=C o:=by
    rw[hsplit,dB,dD (aB _),bD];rfl
   rw[aD hlt]at this;injection this
  have hov:0<=o.2.2.2.2/\o.2.2.2.2<=18446744073709551615:=by rw[<-hget];exact hv _ (gB hlt)
  rw[df];simp only[oC,bv];rw[zE (by omega),ci hlt,hget];simp only[zG];by_cases hk7:o.1=7
  .
   rw[zE hk7]
   have hs1:co seg 1=C 0:=by
    simp only[co]at hs;rw[zF (by omega),zF (by omega),zE hk7]at hs;exact hs
   obtain⟨inner,e,rest,h1,h2,h3,h4⟩:=an3 _ seg 0 (aB _) hs1;subst h1;simp only[eB,cD]at hk hN hfu hh hlen
   have hd:l.drop (pre.length+1)=inner++e::(rest++B):=by
    rw[hsplit,dB,iC,iD (by omega),show pre.length+1-pre.length=1 by omega];simp
   obtain⟨r9,b1,b2,b3,b4⟩:=cj7 hl hv hm h hg hlt (by rw[hget];exact hk7) hd h2 h3 (by omega);rw[hget]at b4;rw[b1];simp only[zG];have hmi:=hm.at' pre.length hlt (by rw[hget];exact hk7) inner e (rest++B) hd h2 h3
   have hrd:rd m (pre.length:Int)=C ((pre.length+1+inner.length:Nat):Int):=by
    have hlt':pre.length<m.length:=by rw[hm.len];exact hlt
    rw[ci hlt',<-hmi,aD hlt']
   rw[hrd];simp only[zG];rw[bq (n:=n+r9) (by omega),bq (n:=((pre.length+1+inner.length:Nat):Int)+1) (by omega)];obtain⟨hsr,hQ⟩:=bU0 hs hk7 h2 h3;by_cases c1:65536<n+r9
   .rw[zE c1];refine⟨.inl (),rfl, .inl rfl,λt ht=> ?_⟩;rw[hQ]at ht;obtain⟨w,hw,ht⟩:=bx ht;obtain⟨b,hb,ht⟩:=bx ht;have hw0:=bd0 (l:=inner) (λo' ho'=>(hv o' (by rw[hsplit];simp[ho'])).1) h3 hw;obtain⟨e1,_⟩:=aS3 hw0 hov.1 hb;rw[b4 w hw,e1]at c1;cases hqr:Q9 rest with
    |none=>rw[hqr]at ht;cases ht
    |some tr=>
     rw[hqr]at ht;injection ht with ht
     have ht:b+tr=t:=ht;have:=bd0 (l:=rest) (λo' ho'=>(hv o' (by rw[hsplit];simp[ho'])).1) hsr hqr;rw[zE (by omega)]
   .rw[zF c1];simp only[zG,ck];have hp:(pre++o::(inner++[e])).length=pre.length+1+inner.length+1:=by simp;omega
    obtain⟨c,d1,d2,d3⟩:=aB3 hl hv hm h hg hi k (pre++o::(inner++[e])) rest B (n+r9) fu (by rw[hsplit];simp) (by omega) (by omega) (by omega) hsr (by rw[hp];omega) (by omega);rw[hp]at d1;refine⟨c,by rw[show((pre.length+1+inner.length:Nat):Int)+1=((pre.length+1+inner.length+1:Nat):Int)by omega];exact d1,d2,λt ht=> ?_⟩;rw[hQ]at ht;obtain⟨w,hw,ht⟩:=bx ht;obtain⟨b,hb,ht⟩:=bx ht;have hw0:=bd0 (l:=inner) (λo' ho'=>(hv o' (by rw[hsplit];simp[ho'])).1) h3 hw;obtain⟨e1,_⟩:=aS3 hw0 hov.1 hb;have hr9:r9=b:=by rw[b4 w hw,e1]
    cases hqr:Q9 rest with
    |none=>rw[hqr]at ht;cases ht
    |some tr=>
     rw[hqr]at ht;injection ht with ht
     have:=d3 tr hqr;rw[this,<-ht,hr9,gD]
  .rw[zF hk7];obtain⟨hsr,hko,hQ⟩:=bI5 hs hk7;obtain⟨x,hx⟩:=cy1 hko;rw[hx];simp only[zG,zC];rw[bq (n:=n+1) (by omega),bq (n:=(pre.length:Int)+1) (by omega)];by_cases c1:65536<n+1
   .rw[zE c1];refine⟨.inl (),rfl, .inl rfl,λt ht=> ?_⟩;rw[hQ]at ht;cases hqr:Q9 seg with
    |none=>rw[hqr]at ht;cases ht
    |some tr=>
     rw[hqr]at ht;injection ht with ht
     have ht:1+tr=t:=ht;have:=bd0 (l:=seg) (λo' ho'=>(hv o' (by rw[hsplit];simp[ho'])).1) hsr hqr;rw[zE (by omega)]
   .rw[zF c1];simp only[zG,ck];have hp:(pre++[o]).length=pre.length+1:=by simp
    obtain⟨c,d1,d2,d3⟩:=aB3 hl hv hm h hg hi k (pre++[o]) seg B (n+1) fu (by rw[hsplit];simp) (by omega) (by omega) (by omega) hsr (by rw[hp];omega) (by omega);rw[hp]at d1;refine⟨c,d1,d2,λt ht=> ?_⟩;rw[hQ]at ht;cases hqr:Q9 seg with
    |none=>rw[hqr]at ht;cases ht
    |some tr=>
     rw[hqr]at ht;injection ht with ht
     rw[d3 tr hqr,<-ht,gD]
theorem wok (hl:l.length<=1000)(hv: ∀o∈l,0<=o.2.2.2.2/\o.2.2.2.2<=18446744073709551615)(hm:MOK l m): ∀N,WOK l m N
 |0=>λ_ _ _ _ _ _ h=>absurd h (Nat.not_lt_zero _)
 |N+1=>λf hf A seg B hs0 hN hs=>by
  obtain⟨g,rfl⟩: ∃g,f=g+1:=⟨f-1,by omega⟩
  show∃r,xH ((cr g).1) ((cr g).2) l m _ _=C r/\_
  unfold xH
  have hsl:seg.length<=1000:=by
   have:=congrArg gX hs0;simp at this;omega
  obtain⟨c,h1,h2,h3⟩:=aB3 hl hv hm (wok hl hv hm N) (g:=g) (by omega) (A.length+seg.length) _ A seg B 0 dq hs0 (aB _) (by omega) (by unfold dq;omega) hs rfl (by omega);rw[h1];simp only[zG];rcases h2 with rfl|⟨r,rfl,h4,h5⟩
  .refine⟨65537,rfl,by omega,by omega,λt ht=> ?_⟩;have:=h3 t ht;rw[eD]at this;unfold aN2;split at this
   .rename_i c;rw[zE c]
   .cases this
  .refine⟨r,rfl,h4,by omega,λt ht=> ?_⟩;have:=h3 t ht;rw[eD]at this;unfold aN2;split at this
   .cases this
   .rename_i c;injection this with this
    rw[zF c,this]
end
theorem bf2 {δ:Type}{f:Int->Option (Int⊕δ)}(n:Nat)(hn:n<9223372036854775808)(stop:Nat->Prop)(c e:δ)
  (hs: ∀i:Nat,i<n->¬stop i->f (i:Int)=C (.inl ((i+1:Nat):Int))) (hx: ∀i:Nat,i<n->stop i->f (i:Int)=C (.inr c)) (he:f (n:Int)=C (.inr e)):
  (∃i,i<n/\stop i/\(∀j,j<i->¬stop j)/\ca f dq 0=C c)∨((∀j,j<n->¬stop j)/\ca f dq 0=C e):=by
 by_cases h: ∃i,i<n/\stop i
 .obtain⟨i,h1,h2⟩:=h
  have hex: ∃i,i<n/\stop i/\∀j,j<i->¬stop j:=by
   induction i using Nat.strongRecOn with
   |ind i ih=>
    by_cases hj: ∃j,j<i/\stop j
    .obtain⟨j,h3,h4⟩:=hj;exact ih j h3 (by omega) h4
    .exact⟨i,h1,h2,λj h h3=>hj ⟨j,h,h3⟩⟩
  obtain⟨i,h1,h2,h3⟩:=hex;exact .inl ⟨i,h1,h2,h3,ug (n:=i) (by omega) (λj hj=>hs j (by omega) (h3 j hj)) (hx i h1 h2)⟩
 .have h': ∀j,j<n->¬stop j:=λj h1 h2=>h ⟨j,h1,h2⟩
  exact .inr ⟨h',ug (n:=n) hn (λj hj=>hs j hj (h' j hj)) he⟩
theorem de0 {seg pre inner rest:List cq}{o e:cq}{t:Int}(hq:Q9 seg=C t)(hs:seg=pre++o::(inner++e::rest))(ho:o.1=7)(he:e.1=0)(hi:co inner 0=C 0):
  ∃w b,Q9 inner=C w/\yZ w o.2.2.2.2=C b:=by
 unfold Q9 at hq;rw[hs,af4]at hq;obtain⟨st,h1,h2⟩:=bx hq;obtain⟨st1,h3,h4⟩:=bx h1;cases st1 with
 |nil=>simp[rD]at h4
 |cons p st1=>
  simp only[rD]at h4;rw[zE ho,af4,aK4 hi]at h4;cases hw:Q9 inner with
  |none=>rw[hw]at h4;cases h4
  |some w=>
   rw[hw]at h4;have h4:rD (e::rest) ((o.2.2.2.2,0+w)::(p.1,p.2)::st1)=C st:=h4;simp only[rD]at h4;rw[zF (by omega),zE he,eD]at h4;cases hb:yZ w o.2.2.2.2 with
   |none=>rw[hb]at h4;cases h4
   |some b=>exact⟨w,b,rfl,hb⟩
theorem bZ0 : ∀(n:Nat) (seg:List cq),seg.length<=n->co seg 0=C 0->Q9 seg=O->∃pre o inner e rest w,seg=pre++o::(inner++e::rest)/\o.1=7/\e.1=0/\co inner 0=C 0/\Q9 inner=C w/\yZ w o.2.2.2.2=O
 |n,[],_,_,hq=>by cases hq
 |0,o::s,h,_,_=>by simp at h
 |n+1,o::s,hn,hs,hq=>by
  simp only[cD]at hn;by_cases hk:o.1=7
  .have hs1:co s 1=C 0:=by
    simp only[co]at hs;rw[zF (by omega),zF (by omega),zE hk]at hs;exact hs
   obtain⟨inner,e,rest,h1,h2,h3,h4⟩:=an3 _ s 0 (aB _) hs1;subst h1;simp only[eB,cD]at hn;obtain⟨hsr,hQ⟩:=bU0 hs hk h2 h3;rw[hQ]at hq;cases hw:Q9 inner with
   |none=>
    obtain⟨pre,o',i',e',r',w,q1,q2⟩:=bZ0 n inner (by omega) h3 hw;exact⟨o::pre,o',i',e',r'++e::rest,w,by rw[q1];simp,q2⟩
   |some w=>
    rw[hw]at hq;simp only[zG]at hq;cases hb:yZ w o.2.2.2.2 with
    |none=>exact⟨[],o,inner,e,rest,w,rfl,hk,h2,h3,hw,hb⟩
    |some b=>
     rw[hb]at hq;simp only[zG]at hq;cases hr:Q9 rest with
     |some t=>rw[hr]at hq;cases hq
     |none=>
      obtain⟨pre,o',i',e',r',w',q1,q2⟩:=bZ0 n rest (by omega) hsr hr;exact⟨o::(inner++e::pre),o',i',e',r',w',by rw[q1];simp,q2⟩
  .obtain⟨hsr,_,hQ⟩:=bI5 hs hk;rw[hQ]at hq;cases hr:Q9 s with
   |some t=>rw[hr]at hq;cases hq
   |none=>
    obtain⟨pre,o',i',e',r',w',q1,q2⟩:=bZ0 n s (by omega) hsr hr;exact⟨o::pre,o',i',e',r',w',by rw[q1];rfl,q2⟩
section
variable {l:List cq} {m:Zd}
theorem al4 (hl:l.length<=100)(hv: ∀o∈l,0<=o.2.2.2.2/\o.2.2.2.2<=18446744073709551615)(hm:MOK l m)(hs:co l 0=C 0){i:Nat}(hi:i<l.length)(hk:l[i].1=7):
  ∃inner e rest b w mi,l.drop (i+1)=inner++e::rest/\e.1=0/\co inner 0=C 0/\m[i]?=C mi/\mi=((i+1+inner.length:Nat):Int)/\mr l m (i:Int)=C b/\mR l m ((i+1:Nat):Int) mi=C w/\0<=b/\0<=w/\
   ∀t,Q9 inner=C t->b=cI4 t l[i].2.2.2.2/\w=aN2 t:=by
 obtain⟨inner,e,rest,hd,he,hi0⟩:=cj6 hs hi hk
 have hlen:l.length=i+1+inner.length+1+rest.length:=by
  have:=congrArg gX hd;rw[iF]at this;simp at this;omega
 have hsplit:l=l.take (i+1)++inner++e::rest:=by
  rw[dB,<-hd,iJ]
 have hA:(l.take (i+1)).length=i+1:=by rw[iT];omega
 obtain⟨b,b1,b2,b3,b4⟩:=cj7 (by omega) hv hm (wok (by omega) hv hm 101) (f:=400) (by omega) hi hk hd he hi0 (by omega);obtain⟨w,w1,w2,w3,w4⟩:=wok (by omega) hv hm 101 400 (by omega) (l.take (i+1)) inner (e::rest) hsplit (by omega) hi0;rw[hA]at w1;exact⟨inner,e,rest,b,w,_,hd,he,hi0,hm.at' i hi hk inner e rest hd he hi0,rfl,b1,w1,b2,w2,λt ht=>⟨b4 t ht,w4 t ht⟩⟩
theorem cy3 (hl:l.length<=100)(hv: ∀o∈l,0<=o.2.2.2.2/\o.2.2.2.2<=18446744073709551615)(hm:MOK l m)(hs:co l 0=C 0):
  ca (kn l (0,m)) dq 0=C (match Q9 l with|some _=> .inr ()|none=> .inl ()):=by
 have key:=bf2 (f:=kn l (0,m)) l.length (by omega)
  (λi=> ∃hi:i<l.length,l[i].1=7/\∃b w mi,m[i]?=C mi/\mr l m (i:Int)=C b/\mR l m ((i+1:Nat):Int) mi=C w/\(65536<b∨65536<w)) (.inl ()) (.inr ())
  (λi hi hn=>by
   unfold kn;simp only[bv];rw[zE (by omega),ci hi];simp only[zG];by_cases hk:l[i].1=7
   .obtain⟨inner,e,rest,b,w,mi,q1,q2,q3,q4,q5,q6,q7,q8⟩:=al4 hl hv hm hs hi hk;rw[zE hk,q6];simp only[zG];rw[zF (λh=>hn ⟨hi,hk,b,w,mi,q4,q6,q7, .inl h⟩),cl (show i<m.length by rw[hm.len];exact hi)];simp only[zG];rw[q4];simp only[zG];rw[bq (n:=(i:Int)+1) (by omega),show(i:Int)+1=((i+1:Nat):Int)by omega,q7];simp only[zG];rw[zF (λh=>hn ⟨hi,hk,b,w,mi,q4,q6,q7, .inr h⟩)]
   .rw[zF hk,bq (n:=(i:Int)+1) (by omega)]
    rfl)
  (λi _ hst=>by
   obtain⟨hi,hk,b,w,mi,q4,q6,q7,q8⟩:=hst;unfold kn;simp only[bv];rw[zE (by omega),ci hi];simp only[zG];rw[zE hk,q6];simp only[zG];by_cases hb:65536<b
   .rw[zE hb]
   .rw[zF hb,cl (show i<m.length by rw[hm.len];exact hi)];simp only[zG];rw[q4];simp only[zG];rw[bq (n:=(i:Int)+1) (by omega),show(i:Int)+1=((i+1:Nat):Int)by omega,q7];simp only[zG]
    rw[zE (by omega)])
  (by
   unfold kn;simp only[bv]
   rw[zF (by omega)])
 cases hq:Q9 l with
 |some t=>
  rcases key with⟨i,h1,⟨hi,hk,b,w,mi,q4,q6,q7,q8⟩,_⟩|⟨_,h⟩
  .exfalso;obtain⟨inner,e,rest,b',w',mi',p1,p2,p3,p4,p5,p6,p7,p8,p9,p10⟩:=al4 hl hv hm hs hi hk
   have hsplit:l=l.take i++l[i]::(inner++e::rest):=by
    rw[<-p1,gQ hi,iJ]
   obtain⟨w0,b0,g1,g2⟩:=de0 hq hsplit hk p2 p3;obtain⟨e1,e2⟩:=p10 w0 g1;have hmem: ∀o'∈inner,0<=o'.2.2.2.2:=λo' ho'=>(hv o' (by rw[hsplit];simp[ho'])).1
   have hw0:=bd0 hmem p3 g1;obtain⟨x1,x2⟩:=aS3 hw0 (hv _ (gB hi)).1 g2;obtain⟨x3,x4⟩:=aS2 hw0 (hv _ (gB hi)).1 g2;rw[q4]at p4;injection p4 with p4
   rw[q6]at p6;injection p6 with p6
   rw[<-p4,q7]at p7;injection p7 with p7
   have hs9:aN2 w0=w0:=zF (by omega);rw[hs9]at e2;omega
  .exact h
 |none=>
  rcases key with⟨_,_,_,_,h⟩|⟨h,_⟩
  .exact h
  .exfalso;obtain⟨pre,o,inner,e,rest,w,q1,q2,q3,q4,q5,q6⟩:=bZ0 _ l (aB _) hs hq;have hi:pre.length<l.length:=by rw[q1];simp
   have hget:l[pre.length]=o:=by
    have:l[pre.length]?=C o:=by
     rw[q1,dD (aB _),bD];rfl
    rw[aD hi]at this;injection this
   have hk:l[pre.length].1=7:=by rw[hget];exact q2
   have hd:l.drop (pre.length+1)=inner++e::rest:=by
    rw[q1,iC,iD (by omega),show pre.length+1-pre.length=1 by omega];simp
   obtain⟨inner',e',rest',b',w',mi',p1,p2,p3,p4,p5,p6,p7,p8,p9,p10⟩:=al4 hl hv hm hs hi hk;have:=xy (hd.symm.trans p1) q4 p3 q3 p2;subst this;obtain⟨e1,e2⟩:=p10 w q5;have hmem: ∀o'∈inner,0<=o'.2.2.2.2:=λo' ho'=>(hv o' (by rw[q1];simp[ho'])).1
   have hw0:=bd0 hmem q4 q5;rw[hget]at e1;have hov:0<=o.2.2.2.2:=by rw[<-hget];exact(hv _ (gB hi)).1
   refine h _ hi ⟨hi,hk,b',w',mi',p4,p6,p7, ?_⟩;rcases cR2 hw0 hov q6 with x|x
   .right;rw[e2];unfold aN2;rw[zE x];omega
   .left;rw[e1,x];omega
theorem xw (hl:l.length<=100)(hv: ∀o∈l,0<=o.2.2.2.2/\o.2.2.2.2<=18446744073709551615):kY l=C (eg l):=by
 unfold kY eg;rcases az8 (l:=l) (by omega)with⟨hs,m,hm,hok⟩|⟨hs,hm⟩
 .rw[hm,zE hs];simp only[zG];rw[zA (by simp),zD,cy3 hl hv hok hs];cases hq:Q9 l with
  |none=>rfl
  |some t=>
   have ht:=bd0 (λo ho=>(hv o ho).1) hs hq;simp only[zG,ck];obtain⟨w,w1,w2,w3,w4⟩:=wok (by omega) hv hok 101 400 (by omega) [] l [] (by simp) (by omega) hs
   have w1:mR l m 0 (l.length:Int)=C w:=by
    rw[<-w1];show _=(cr 400).1 l m 0 ((0+l.length:Nat):Int);rw[gP];rfl
   rw[w1];simp only[zG,bv];have e2:=w4 t hq;unfold aN2 at e2;by_cases c:65536<t
   .rw[zE c]at e2;rw[zE c,zE (by omega)]
   .rw[zF c]at e2;rw[zF c,zF (by omega),e2]
 .rw[hm,zF hs];rfl
end
theorem ud {α δ:Type}{f:Int->Option (Int⊕δ)}{l:List α}(p:α->Bool)(c:Nat->δ)(e:δ)(hl:l.length<1000000)
  (hf: ∀i,(hi:i<l.length)->f (i:Int)=C (if p l[i]then .inr (c i)else .inl ((i+1:Nat):Int))) (he:f (l.length:Int)=C (.inr e)):
  (l.any p=Za/\∃i:Nat,ca f dq 0=C (c i))∨(l.any p=Zb/\ca f dq 0=C e):=by
 by_cases h: ∃i,∃hi:i<l.length,p l[i]=Za
 .left
  have hex: ∃i,(∃hi:i<l.length,p l[i]=Za)/\∀j,j<i->¬∃hj:j<l.length,p l[j]=Za:=by
   obtain⟨i,hi⟩:=h;induction i using Nat.strongRecOn with
   |ind i ih=>
    by_cases hj: ∃j,j<i/\∃hj:j<l.length,p l[j]=Za
    .obtain⟨j,h3,h4⟩:=hj;exact ih j h3 h4
    .exact⟨i,hi,λj h h3=>hj ⟨j,h,h3⟩⟩
  obtain⟨i,⟨hi,h1⟩,h2⟩:=hex;refine⟨List.any_eq_true.2 ⟨l[i],gB hi,h1⟩,i,ug (n:=i) (by omega) (λj hj=> ?_) ?_⟩
  .rw[hf j (by omega),zF (λhp=>h2 j hj ⟨by omega,hp⟩)]
  .rw[hf i hi,zE h1]
 .right;refine⟨?_,ug (n:=l.length) (by omega) (λj hj=> ?_) he⟩
  .rw[Bool.eq_false_iff];intro ht;obtain⟨x,hx,hp⟩:=List.any_eq_true.1 ht;obtain⟨i,hi,rfl⟩:=List.getElem_of_mem hx;exact h ⟨i,hi,hp⟩
  .rw[hf j hj,zF (λhp=>h ⟨j,hj,hp⟩)]
def cw (k:Int):Bool×Bool×Bool×Bool:=if k=1∨k=2∨k=3 then(Za,Za,Za,Zb)else if k=4∨k=6 then(Za,Za,Zb,Zb)else if k=5 then(Za,Zb,Zb,Za)else if k=7 then(Zb,Zb,Zb,Za)else(Zb,Zb,Zb,Zb)
theorem am4 (k:Int):k=1∨k=2∨k=3∨k=4∨k=5∨k=6∨k=7∨(¬k=1/\¬k=2/\¬k=3/\¬k=4/\¬k=5/\¬k=6/\¬k=7):=by omega
theorem bL7 (k:Int):rJ k=C (cw k):=by
 rcases am4 k with rfl|rfl|rfl|rfl|rfl|rfl|rfl|⟨h1,h2,h3,h4,h5,h6,h7⟩
 any_goals rfl
 simp[rJ,cw,h1,h2,h3,h4,h5,h6,h7]
theorem ac3 (k:Int):ik k=C (cw k):=by
 rcases am4 k with rfl|rfl|rfl|rfl|rfl|rfl|rfl|⟨h1,h2,h3,h4,h5,h6,h7⟩
 any_goals rfl
 by_cases h:1<=k
 .simp[ik,cw,h1,h2,h3,h4,h5,h6,h7,h,show¬k<=3 by omega,ck]
 .simp[ik,cw,h1,h2,h3,h4,h5,h6,h7,h,ck]
def as8 (n:Int)(q:Bool):Bool:=if q then Zc (0<=n/\n<=2147483647)else Zc (n=0)
theorem bk3 (n:Int)(q:Bool):kl n q=C (as8 n q):=by
 unfold kl as8;cases q
 .rfl
 .by_cases h:0<=n<;>simp[h]
def ul (o:cq):Bool:=Zc (0<=o.1/\o.1<8)&&(as8 o.2.1 (cw o.1).1&&(as8 o.2.2.1 (cw o.1).2.1&&(as8 o.2.2.2.1 (cw o.1).2.2.1&&((cw o.1).2.2.2||Zc (o.2.2.2.2=0)))))
theorem cc1 (o:cq):sy o.1 o.2.1 o.2.2.1 o.2.2.2.1 o.2.2.2.2=C (ul o):=by
 unfold sy xI ul
 have hk:(cond (Zc (0<=o.1)) (C (Zc (o.1<8))) (C Zb))=C (Zc (0<=o.1/\o.1<8)):=by
  by_cases h:0<=o.1<;>simp[h]
 rw[bL7,hk];simp only[zG,bk3];generalize Zc (0<=o.1/\o.1<8)=b1;generalize as8 o.2.1 (cw o.1).1=b2;generalize as8 o.2.2.1 (cw o.1).2.1=b3;generalize as8 o.2.2.2.1 (cw o.1).2.2.1=b4;generalize (cw o.1).2.2.2=b5;cases b1<;>cases b2<;>cases b3<;>cases b4<;>cases b5<;>rfl
theorem co7 (o:cq):uu o.1 o.2.1 o.2.2.1 o.2.2.2.1 o.2.2.2.2=C (ul o):=by
 unfold uu;simp only[bv];by_cases h1:o.1<0
 .rw[zE h1];unfold ul;rw[zA (show¬(0<=o.1/\o.1<8)by omega)];rfl
 rw[zF h1];by_cases h2:7<o.1
 .rw[zE h2];unfold ul;rw[zA (show¬(0<=o.1/\o.1<8)by omega)];rfl
 rw[zF h2,ac3];simp only[zG]
 have key:=ud (f:=pv o.2.1 o.2.2.1 o.2.2.2.1 (cw o.1)) (l:=[(o.2.1,(cw o.1).1),(o.2.2.1,(cw o.1).2.1),(o.2.2.2.1,(cw o.1).2.2.1)]) (λp=> !as8 p.1 p.2) (λ_=> .inl Zb) (.inr ()) (by simp)
  (λi hi=>by
   unfold pv;have hi:i<3:=hi;rw[bv,zE (by omega),cl (show i<3 from hi),cl (show i<4 by omega)];simp only[zG,bv]
   have e1:gV [o.2.1,o.2.2.1,o.2.2.2.1] i 0=([(o.2.1,(cw o.1).1),(o.2.2.1,(cw o.1).2.1),(o.2.2.2.1,(cw o.1).2.2.1)][i]).1:=by
    rcases(show i=0∨i=1∨i=2 by omega)with rfl|rfl|rfl<;>rfl
   have e2:gV [(cw o.1).1,(cw o.1).2.1,(cw o.1).2.2.1,(cw o.1).2.2.2] i Zb=([(o.2.1,(cw o.1).1),(o.2.2.1,(cw o.1).2.1),(o.2.2.2.1,(cw o.1).2.2.1)][i]).2:=by
    rcases(show i=0∨i=1∨i=2 by omega)with rfl|rfl|rfl<;>rfl
   rw[e1,e2,bq (n:=(i:Int)+1) (by omega),show(i:Int)+1=((i+1:Nat):Int)by omega];generalize [(o.2.1,(cw o.1).1),(o.2.2.1,(cw o.1).2.1),(o.2.2.2.1,(cw o.1).2.2.1)][i]=x;obtain⟨n,q⟩:=x;simp only[as8];by_cases c1:n<0
   .rw[zE c1,zE];cases q
    .simp;omega
    .simp;omega
   rw[zF c1];by_cases c2:2147483647<n
   .rw[zE c2,zE];cases q
    .simp;omega
    .simp;omega
   rw[zF c2];cases q with
   |true=>
    rw[zB (show 0<=n/\n<=2147483647 by omega)];rfl
   |false=>
    by_cases c3:n=0
    .subst c3;rfl
    .simp[c3])
  (by
   unfold pv
   rw[bv,zF (by simp)])
 unfold ul;rw[zB (show 0<=o.1/\o.1<8 by omega)]
 have hany:([(o.2.1,(cw o.1).1),(o.2.2.1,(cw o.1).2.1),(o.2.2.2.1,(cw o.1).2.2.1)].any λp=> !as8 p.1 p.2)= !(as8 o.2.1 (cw o.1).1&&(as8 o.2.2.1 (cw o.1).2.1&&as8 o.2.2.2.1 (cw o.1).2.2.1)):=by
  simp[List.any,Bool.not_and]
 rw[hany]at key;generalize as8 o.2.1 (cw o.1).1=b2 at*;generalize as8 o.2.2.1 (cw o.1).2.1=b3 at*;generalize as8 o.2.2.2.1 (cw o.1).2.2.1=b4 at*;rcases key with⟨h,_,hk⟩|⟨h,hk⟩
 .rw[hk];cases b2<;>cases b3<;>cases b4<;>first|rfl|cases h
 .rw[hk]
  have:b2=Za/\b3=Za/\b4=Za:=by
   cases b2<;>cases b3<;>cases b4<;>first|exact⟨rfl,rfl,rfl⟩|cases h
  obtain⟨rfl,rfl,rfl⟩:=this;simp only[zG,ck];cases(cw o.1).2.2.2<;>rfl
theorem al5 (b:Bool)(e:Int):i9 b e=C (if b then e else 0):=by cases b<;>rfl
def be9 (l:List cq):Bool:=Zc (co l 0=C 0)&& !(l.any λo=> !ul o)
theorem aL1 {R:Int}{l:List cq}(hl:l.length<=100):je R l=C (if be9 l then 0 else 6):=by
 unfold je;obtain⟨m,hm⟩:=aM3 (l:=l) (by omega);rw[hm];simp only[zG,al5];rw[zA (by omega),zD,bv];unfold be9;by_cases hs:co l 0=C 0
 .rw[zE hs,zF (by simp),zB hs];unfold i7 jz
  rcases ud (f:=fp l) (l:=l) (λo=> !ul o) (λi=> .inl (i:Int)) (.inr ()) (by omega) (λi hi=>by
   unfold fp;rw[bv,zE (by omega),ci hi];simp only[zG];unfold nr;rw[cc1,bq (n:=(i:Int)+1) (by omega)];simp only[zG]
   cases ul l[i]<;>rfl) (by
   unfold fp
   rw[bv,zF (by omega)])with⟨h,i,hk⟩|⟨h,hk⟩
  .rw[hk,h];simp only[zG,ck];rw[zB (by omega)];rfl
  .rw[hk,h];rfl
 .rw[zF hs,zE (by simp),zA hs];rfl
theorem cy5 {R:Int}{l:List cq}(hl:l.length<=100):wJ R l=C (be9 l):=by
 unfold wJ be9;rw[zA (by omega),zD,aM8 (by omega)];simp only[zG];cases Zc (co l 0=C 0)with
 |false=>rfl
 |true=>
  rcases ud (f:=qR l) (l:=l) (λo=> !ul o) (λi=> .inl Zb) (.inr ()) (by omega) (λi hi=>by
   unfold qR;rw[bv,zE (by omega),ci hi];simp only[zG];rw[co7,bq (n:=(i:Int)+1) (by omega)];simp only[zG]
   cases ul l[i]<;>rfl) (by
   unfold qR
   rw[bv,zF (by omega)])with⟨h,i,hk⟩|⟨h,hk⟩
  .rw[hk,h];rfl
  .rw[hk,h];rfl
def cb7 (R:Int)(o:cq):Bool:=((cw o.1).1&&Zc (R<=o.2.1))||((cw o.1).2.1&&Zc (R<=o.2.2.1))||((cw o.1).2.2.1&&Zc (R<=o.2.2.2.1))
def aV0 (R:Int)(l:List cq):Bool:=Zc (1<=R/\R<=64)&& !(l.any (cb7 R))
theorem by0 (x y:Int):cm [x,y]=C [y,x]:=by kernel_rfl
theorem cp5 (x:Int):cm [x]=C [x]:=by kernel_rfl
theorem bx9 :cm []=C []:=by kernel_rfl
theorem cc0 (o:cq):sw o.1 o.2.1 o.2.2.1 o.2.2.2.1 o.2.2.2.2=C (if(cw o.1).2.1 then(if(cw o.1).2.2.1 then [o.2.2.1,o.2.2.2.1]else [o.2.2.1])else []):=by
 obtain⟨k,d,a,b,v⟩:=o;simp only;rcases am4 k with rfl|rfl|rfl|rfl|rfl|rfl|rfl|⟨h1,h2,h3,h4,h5,h6,h7⟩
 .exact(show _=(cm [b,a]).bind _ from rfl).trans (by rw[by0];rfl)
 .exact(show _=(cm [b,a]).bind _ from rfl).trans (by rw[by0];rfl)
 .exact(show _=(cm [b,a]).bind _ from rfl).trans (by rw[by0];rfl)
 .exact(show _=(cm [a]).bind _ from rfl).trans (by rw[cp5];rfl)
 .exact(show _=(cm []).bind _ from rfl).trans (by rw[bx9];rfl)
 .exact(show _=(cm [a]).bind _ from rfl).trans (by rw[cp5];rfl)
 .exact(show _=(cm []).bind _ from rfl).trans (by rw[bx9];rfl)
 .unfold sw;simp only[zA h1,zA h2,zA h3,zA h4,zA h6,zD,zG,ck,bx9];simp[cw,h1,h2,h3,h4,h5,h6,h7]
theorem bZ6 (l:Zd)(R:Int)(p:List cq)(hl:l.length<1000):gb l R p=C (l.any λn=>Zc (R<=n)):=by
 unfold gb ld
 rcases ud (f:=ir l R p) (l:=l) (λn=>Zc (R<=n)) (λi=> .inl (i:Int)) (.inr ()) (by omega) (λi hi=>by
  unfold ir;rw[bv,zE (by omega),ci hi];simp only[zG];unfold jX;rw[bq (n:=(i:Int)+1) (by omega)];simp only[zG]
  cases Zc (R<=l[i])<;>rfl) (by
  unfold ir
  rw[bv,zF (by omega)])with⟨h,i,hk⟩|⟨h,hk⟩
 .rw[hk,h];simp only[zG,ck];rw[zB (by omega)]
 .rw[hk,h];rfl
theorem cp3 (o:cq)(R:Int)(p:List cq):jk o.1 o.2.1 o.2.2.1 o.2.2.2.1 o.2.2.2.2 R p=C (cb7 R o):=by
 unfold jk ko;rw[cc0,bL7];unfold cb7;simp only[zG];obtain⟨k,d,a,b,v⟩:=o;simp only
 have h1:(cw k).2.2.1=Za->(cw k).2.1=Za:=by
  unfold cw;split
  .intro _;rfl
  split
  .intro _;rfl
  split
  .intro h;cases h
  split<;>intro h<;>cases h
 have h2:(cw k).2.1=Za->(cw k).1=Za:=by
  unfold cw;split
  .intro _;rfl
  split
  .intro _;rfl
  split
  .intro h;cases h
  split<;>intro h<;>cases h
 generalize (cw k).1=b1 at*;generalize (cw k).2.1=b2 at*;generalize (cw k).2.2.1=b3 at*
 have hs: ∀l:Zd,l.length<1000->∀r,(l.any λn=>Zc (R<=n))=r->((gb l R p).bind λr10=>C r10)=C r:=by
  intro l hl r hr;rw[bZ6 l R p hl,hr];rfl
 cases b1<;>cases b2<;>cases b3<;>first
  |(cases h2 rfl)
  |(cases h1 rfl)
  |skip
 .refine hs [] (by simp) _ ?_;generalize Zc (R<=d)=x;generalize Zc (R<=a)=y;generalize Zc (R<=b)=z;cases x<;>cases y<;>cases z<;>rfl
 .refine hs [d] (by simp) _ ?_;simp only[iQ,iR];generalize Zc (R<=d)=x;generalize Zc (R<=a)=y;generalize Zc (R<=b)=z;cases x<;>cases y<;>cases z<;>rfl
 .refine hs [a,d] (by simp) _ ?_;simp only[iQ,iR];generalize Zc (R<=d)=x;generalize Zc (R<=a)=y;generalize Zc (R<=b)=z;cases x<;>cases y<;>cases z<;>rfl
 .refine hs [a,b,d] (by simp) _ ?_;simp only[iQ,iR];generalize Zc (R<=d)=x;generalize Zc (R<=a)=y;generalize Zc (R<=b)=z;cases x<;>cases y<;>cases z<;>rfl
theorem vO {R:Int}{l:List cq}(hl:l.length<=100):gc R l=C (if aV0 R l then 0 else 7):=by
 unfold gc aV0;simp only[al5,zG,bv];by_cases c1:R<1
 .rw[zE c1,zA (show¬(1<=R/\R<=64)by omega)];rfl
 rw[zF c1];by_cases c2:64<R
 .rw[zE c2,zA (show¬(1<=R/\R<=64)by omega)];rfl
 rw[zF c2,zB (show 1<=R/\R<=64 by omega)];unfold io jd
 rcases ud (f:=fd l R l) (l:=l) (cb7 R) (λi=> .inl (i:Int)) (.inr ()) (by omega) (λi hi=>by
  unfold fd;rw[bv,zE (by omega),ci hi];simp only[zG];rw[cp3,bq (n:=(i:Int)+1) (by omega)];simp only[zG]
  cases cb7 R l[i]<;>rfl) (by
  unfold fd
  rw[bv,zF (by omega)])with⟨h,i,hk⟩|⟨h,hk⟩
 .rw[hk,h];simp only[zG,ck];rw[zB (by omega)];rfl
 .rw[hk,h];rfl
theorem bk5 {R:Int}{l:List cq}(hl:l.length<=100):oG R l=C (aV0 R l):=by
 unfold oG aV0;simp only[bv];by_cases c1:R<1
 .rw[zE c1,zA (show¬(1<=R/\R<=64)by omega)];rfl
 rw[zF c1];by_cases c2:64<R
 .rw[zE c2,zA (show¬(1<=R/\R<=64)by omega)];rfl
 rw[zF c2,zB (show 1<=R/\R<=64 by omega)]
 rcases ud (f:=lV R l) (l:=l) (cb7 R) (λi=> .inl Zb) (.inr ()) (by omega) (λi hi=>by
  unfold lV;rw[bv,zE (by omega),ci hi];simp only[zG];rw[ac3,bq (n:=(i:Int)+1) (by omega)];simp only[zG];unfold cb7;generalize l[i]=o;generalize Zc (R<=o.2.1)=x;generalize Zc (R<=o.2.2.1)=y;generalize Zc (R<=o.2.2.2.1)=z;generalize (cw o.1).1=b1;generalize (cw o.1).2.1=b2;generalize (cw o.1).2.2.1=b3
  cases b1<;>cases b2<;>cases b3<;>cases x<;>cases y<;>cases z<;>rfl) (by
  unfold lV
  rw[bv,zF (by omega)])with⟨h,i,hk⟩|⟨h,hk⟩
 .rw[hk,h];rfl
 .rw[hk,h];rfl
def hmax :List cq->Nat->Nat->Nat
 |[],_,m=>m
 |o::r,d,m=>if o.1=7 then hmax r (d+1) (max m (d+1))else if o.1=0 then hmax r (d-1) m else hmax r d m
def dp6 (l:List cq)(s:Int×Bool×Int×Zd):Prop:=
 ∃(i m:Nat) (st:Zd),i<=l.length/\s=((i:Int),Za,(m:Int),st)/\st.length<=i/\m<=i/\co (l.drop i) st.length=co l 0/\hmax (l.drop i) st.length m=hmax l 0 0
theorem cI8 {l:List cq}(hl:l.length<=100000)(s:Int×Bool×Int×Zd)(h:dp6 l s):
  (∃b,mO l s=C (.inl b)/\dp6 l b/\l.length-b.1.toNat<l.length-s.1.toNat)∨∃c,mO l s=C (.inr c)/\((c.1=Zb/\co l 0=O)∨(c.1=Za/\co l 0=C c.2.2.length/\c.2.1=(hmax l 0 0:Int))):=by
 obtain⟨i,m,st,hi,rfl,hsl,hml,hsc,hhm⟩:=h;by_cases c:i<l.length
 .have hdrop:l.drop i=l[i]::l.drop (i+1):=(gQ c).symm;rw[hdrop]at hsc hhm;simp only[mO];rw[zB (show(i:Int)<(l.length:Int)by omega),zC,ci c];simp only[zG];generalize hx:l[i]=x at*;simp only[co]at hsc;simp only[hmax]at hhm;by_cases k0:x.1<0
  .rw[zE (.inl k0)]at hsc;rw[zB k0];simp only[zC,zG,de];exact .inr ⟨_,rfl, .inl ⟨rfl,hsc.symm⟩⟩
  rw[zA k0,zD];by_cases k7:7<x.1
  .rw[zE (.inr k7)]at hsc;rw[zB k7];simp only[zC,zG,cn,de];exact .inr ⟨_,rfl, .inl ⟨rfl,hsc.symm⟩⟩
  rw[zA k7,zD];rw[zF (by omega)]at hsc;by_cases kz:x.1=0
  .rw[zE kz]at hsc;rw[zF (by omega),zE kz]at hhm;rw[zB kz];simp only[zC,zG,cn];by_cases hs0:st.length=0
   .rw[zE hs0]at hsc;rw[zB (show(st.length:Int)=0 by omega)];simp only[zC,zG,de];exact .inr ⟨_,rfl, .inl ⟨rfl,hsc.symm⟩⟩
   .rw[zF hs0]at hsc;rw[zA (show¬(st.length:Int)=0 by omega),zD];rw[bq (n:=(st.length:Int)-1) (by omega),lF (by omega),fq];simp only[zG,cn];rw[zA (show¬x.1=7 by omega)];simp only[zD];rw[bq (n:=(i:Int)+1) (by omega)]
    have hlt:(st.take (((st.length:Int)-1).toNat-0)).length=st.length-1:=by
     rw[iT];omega
    refine .inl ⟨_,rfl,⟨i+1,m,_,c,rfl,by rw[hlt];omega,by omega,by rw[hlt];exact hsc,by rw[hlt];exact hhm⟩,by simp;omega⟩
  .rw[zF kz]at hsc;have ez:Zc (x.1=0)=Zb:=zA kz;rw[ez];simp only[zD,zG,cn];by_cases k7:x.1=7
   .rw[zE k7]at hsc hhm;rw[zB k7];simp only[zC];rw[dh (by omega) (by omega),bq (n:=(i:Int)+1) (by omega),bq (n:=(st.length:Int)+1) (by omega)];refine .inl ⟨_,rfl,⟨i+1,max m (st.length+1),st++[(i:Int)],c, ?_,by simp;omega,by omega,by rw[eB];exact hsc,by rw[eB];exact hhm⟩,by simp;omega⟩;rw[show((max m (st.length+1):Nat):Int)=max (m:Int) ((st.length:Int)+1)by omega];rfl
   .rw[zF k7]at hsc hhm;rw[zF kz]at hhm;rw[zA k7];simp only[zD];rw[bq (n:=(i:Int)+1) (by omega)];exact .inl ⟨_,rfl,⟨i+1,m,st,c,rfl,by omega,by omega,hsc,hhm⟩,by simp;omega⟩
 .have hi':i=l.length:=by omega
  subst hi';rw[gU]at hsc hhm;simp only[mO];rw[zA (show¬(l.length:Int)<(l.length:Int)by omega),zD];have hhm:m=hmax l 0 0:=hhm;exact .inr ⟨_,rfl, .inr ⟨rfl,hsc.symm,by rw[<-hhm]⟩⟩
def bt3 (l:List cq):Int×Int:=if co l 0=C 0 then((hmax l 0 0:Int),0)else(0,6)
theorem cK9 {l:List cq}(hl:l.length<=100000):zk l=C (bt3 l):=by
 unfold zk bt3
 obtain⟨c,hc,h⟩:=lx (f:=mO l) (a:=((0:Int),Za,(0:Int),([]:Zd))) (dp6 l) (λs=>l.length-s.1.toNat) (λc=>(c.1=Zb/\co l 0=O)∨(c.1=Za/\co l 0=C c.2.2.length/\c.2.1=(hmax l 0 0:Int)))
  ⟨0,0,[],gR _,rfl,aB _,aB _,rfl,rfl⟩ (by simp;omega) (λs hs=>cI8 hl s hs)
 rw[hc];simp only[zG];rcases h with⟨h1,h2⟩|⟨h1,h2,h3⟩
 .rw[h1,h2];rfl
 .rw[h1,h2,zC];by_cases c0:c.2.2.length=0
  .rw[zB (show(c.2.2.length:Int)=0 by omega),zE (by rw[c0]),h3];rfl
  .rw[zA (show¬(c.2.2.length:Int)=0 by omega),zF (by intro e;injection e with e;exact c0 e)];rfl
def dpt (l:List cq)(i:Nat):Nat:=(co (l.take i) 0).getD 0
theorem ck9 {l:List cq}(hs:co l 0=C 0){i:Nat}(hi:i<=l.length):co (l.take i) 0=C (dpt l i):=by
 obtain⟨d,h1,_⟩:=br4 hs hi;unfold dpt;rw[h1];rfl
theorem bt5 {l:List cq}(hs:co l 0=C 0){i:Nat}(hi:i<l.length):(l[i].1=7/\dpt l (i+1)=dpt l i+1)∨(l[i].1=0/\0<dpt l i/\dpt l (i+1)=dpt l i-1)∨(l[i].1≠7/\l[i].1≠0/\dpt l (i+1)=dpt l i):=by
 have h1:=ck9 hs (i:=i+1) (by omega);rw[iV hi,qJ,ck9 hs (by omega)]at h1;have h1:co [l[i]] (dpt l i)=C (dpt l (i+1)):=h1;simp only[co]at h1;split at h1
 .cases h1
 split at h1
 .rename_i k1 k2;split at h1
  .cases h1
  .injection h1 with h1
   exact .inr (.inl ⟨k2,by omega,h1.symm⟩)
 rename_i k1 k2;split at h1
 .rename_i k3;injection h1 with h1
  exact .inl ⟨k3,h1.symm⟩
 .rename_i k3;injection h1 with h1
  exact .inr (.inr ⟨k3,k2,h1.symm⟩)
theorem cR9 {l:List cq}(hs:co l 0=C 0): ∀i,i<=l.length->dpt l i<=i
 |0,_=>aB _
 |i+1,h=>by
  have:=cR9 hs i (by omega);rcases bt5 hs (i:=i) (by omega)with⟨_,h2⟩|⟨_,_,h2⟩|⟨_,_,h2⟩<;>omega
theorem cc9 {l:List cq}(hl:l.length<=100000)(hs:co l 0=C 0){n:Nat}(hn:n<=l.length):sC l (n:Int)=C (dpt l n:Int):=by
 unfold sC;have key:ca (lU l (n:Int)) dq (0,((dpt l 0:Nat):Int))=C ((dpt l n:Nat):Int):=ff (n:=n) (λi=>((dpt l i:Nat):Int)) (c:=((dpt l n:Nat):Int)) (by omega) (λi hi=> ?_) ?_
 .show((ca (lU l (n:Int)) dq (0,((dpt l 0:Nat):Int))).bind _)=_;rw[key];rfl
 .unfold lU;simp only[bv];rw[zE (by omega),ci (show i<l.length by omega)];simp only[zG];have hd:=cR9 hs i (by omega);rw[bq (n:=(i:Int)+1) (by omega)];rcases bt5 hs (i:=i) (by omega)with⟨h1,h2⟩|⟨h1,h3,h2⟩|⟨h1,h3,h2⟩
  .rw[zE h1,zF (by omega),bq (n:=((dpt l i:Nat):Int)+1) (by omega),h2];rfl
  .rw[zF (by omega),zE h1,bq (n:=((dpt l i:Nat):Int)-1) (by omega),h2,show((dpt l i-1:Nat):Int)=(dpt l i:Int)-1 by omega];rfl
  .rw[zF h1,zF h3,h2];rfl
 .unfold lU;simp only[bv];rw[zF (by omega)]
def ae6 (l:List cq):Nat->Nat
 |0=>0
 |i+1=>max (ae6 l i) (dpt l i)
theorem bK5 {l:List cq}(hs:co l 0=C 0): ∀k i,i+k=l.length->hmax (l.drop i) (dpt l i) (ae6 l (i+1))=ae6 l (l.length+1)
 |0,i,h=>by
  have:i=l.length:=by omega
  subst this;rw[gU];rfl
 |k+1,i,h=>by
  rw[(gQ (show i<l.length by omega)).symm];simp only[hmax];have ih:=bK5 hs k (i+1) (by omega);have e:ae6 l (i+1+1)=max (ae6 l (i+1)) (dpt l (i+1)):=rfl;have e2:ae6 l (i+1)=max (ae6 l i) (dpt l i):=rfl;rcases bt5 hs (i:=i) (by omega)with⟨h1,h2⟩|⟨h1,h3,h2⟩|⟨h1,h3,h2⟩
  .rw[zE h1,<-h2,<-e];exact ih
  .rw[zF (by omega),zE h1,<-h2,show ae6 l (i+1)=ae6 l (i+1+1)by rw[e];omega];exact ih
  .rw[zF h1,zF h3];rw[h2,show ae6 l (i+1+1)=ae6 l (i+1)by rw[e];omega]at ih;exact ih
theorem cy2 {l:List cq}(hl:l.length<=100000):wH l=C (bt3 l):=by
 unfold wH bt3;rw[aM8 hl];simp only[zG];by_cases hs:co l 0=C 0
 .rw[zB hs,zE hs];simp only[hC,zD];have key:ca (nP l) dq (0,((ae6 l 0:Nat):Int))=C ((ae6 l (l.length+1):Nat):Int):=ff (n:=l.length+1) (λi=>((ae6 l i:Nat):Int)) (c:=((ae6 l (l.length+1):Nat):Int)) (by omega) (λi hi=> ?_) ?_
  .show((ca (nP l) dq (0,((ae6 l 0:Nat):Int))).bind _)=_;rw[key];have h:=bK5 hs l.length 0 (by omega);have e0:dpt l 0=0:=rfl;have e1:ae6 l (0+1)=0:=rfl;rw[e0,e1,List.drop_zero]at h;rw[h];rfl
  .unfold nP;simp only[bv];rw[zE (by omega),cc9 hl hs (by omega)];simp only[zG];rw[bq (n:=(i:Int)+1) (by omega)];show _=C (Sum.inl (((i+1:Nat):Int),((max (ae6 l i) (dpt l i):Nat):Int)));rw[show((max (ae6 l i) (dpt l i):Nat):Int)=max (ae6 l i:Int) (dpt l i:Int)by omega];rfl
  .unfold nP;simp only[bv];rw[zF (by omega)]
 .rw[zA hs,zF hs];rfl
structure OpsOk (l:List cq):Prop where
 len:l.length<=100
 v: ∀o∈l,0<=o.2.2.2.2/\o.2.2.2.2<=18446744073709551615
def lk0 (l:List cq):Int:=if be9 l then 0 else 6
def lk1 (R:Int)(l:List cq):Int:=if aV0 R l then 0 else 7
def lk2 (l:List cq):Int:=if 8<(bt3 l).1 then 8 else 0
def lk3 (l:List cq):Int:=(eg l).2
def yA (R:Int)(l:List cq):Int:=if lk0 l≠0 then lk0 l else if lk1 R l≠0 then lk1 R l else if lk2 l≠0 then lk2 l else lk3 l
def qo (R:Int)(l:List cq)(Q:Int)(k:List cq):Int:=if lk0 l≠0 then lk0 l else if lk0 k≠0 then lk0 k else if lk1 R l≠0 then lk1 R l else if lk1 Q k≠0 then lk1 Q k else if lk2 l≠0 then lk2 l else if lk2 k≠0 then lk2 k else if lk3 l≠0 then lk3 l else lk3 k
theorem ax8 {R:Int}{l:List cq}(h:OpsOk l):iv R l=C (lk2 l):=by
 unfold iv lk2;have:=h.len;rw[cK9 (by omega)];simp only[zG,al5];by_cases c:8<(bt3 l).1<;>simp[c]
theorem al6 {R:Int}{l:List cq}(h:OpsOk l):ig R l=C (lk3 l):=by
 unfold ig lk3;have:=h.len;rw[vx (by omega) h.v];rfl
theorem bH3 {R:Int}{l:List cq}(h:OpsOk l):qO R l=C (yA R l):=by
 unfold qO yA;rw[aL1 h.len,vO h.len,ax8 h,al6 h];simp only[zG,bv];show(if lk0 l≠0 then C (lk0 l)else if lk1 R l≠0 then C (lk1 R l)else if lk2 l≠0 then C (lk2 l)else if lk3 l≠0 then C (lk3 l)else C 0)=_;split
 .rfl
 split
 .rfl
 split
 .rfl
 split
 .rfl
 .rename_i h;rw[show lk3 l=0 by omega]
theorem cv0 {R Q:Int}{l k:List cq}(h:OpsOk l)(h':OpsOk k):wE R l Q k=C (qo R l Q k):=by
 unfold wE qo;rw[aL1 h.len,vO h.len,ax8 h,al6 h,aL1 h'.len,vO h'.len,ax8 h',al6 h'];simp only[zG,bv];show(if lk0 l≠0 then C (lk0 l)else if lk0 k≠0 then C (lk0 k)else if lk1 R l≠0 then C (lk1 R l)else if lk1 Q k≠0 then C (lk1 Q k)else if lk2 l≠0 then C (lk2 l)else if lk2 k≠0 then C (lk2 k)else if lk3 l≠0 then C (lk3 l)else if lk3 k≠0 then C (lk3 k)else C 0)=_;split
 .rfl
 split
 .rfl
 split
 .rfl
 split
 .rfl
 split
 .rfl
 split
 .rfl
 split
 .rfl
 split
 .rfl
 .rename_i h;rw[show lk3 k=0 by omega]
def lkN (R:Int)(l:List cq)(n:Nat):Int:=if n=0 then lk0 l else if n=1 then lk1 R l else if n=2 then lk2 l else lk3 l
theorem aM9 {R:Int}{l:List cq}(h:OpsOk l)(n:Nat):pz R l (n:Int)=C (lkN R l n):=by
 unfold pz lkN;have:=h.len;simp only[bv];by_cases c0:n=0
 .rw[zE (by omega),zE c0,cy5 h.len];unfold lk0;simp only[zG];cases be9 l<;>rfl
 rw[zF (by omega),zF c0];by_cases c1:n=1
 .rw[zE (by omega),zE c1,bk5 h.len];unfold lk1;simp only[zG];cases aV0 R l<;>rfl
 rw[zF (by omega),zF c1];by_cases c2:n=2
 .rw[zE (by omega),zE c2,cy2 (by omega)];unfold lk2;simp only[zG];split<;>rfl
 rw[zF (by omega),zF c2,xw h.len h.v];rfl
theorem bI1 {R:Int}{l:List cq}(h:OpsOk l):qQ R l=C (yA R l):=by
 have hstep: ∀n:Nat,n<4->jM R l (n:Int)=C (if lkN R l n≠0 then .inr (.inl (lkN R l n))else .inl ((n+1:Nat):Int)):=by
  intro n hn;unfold jM;simp only[bv];rw[zE (by omega),aM9 h];simp only[zG];rw[bq (n:=(n:Int)+1) (by omega)];split<;>rfl
 have hend:jM R l 4=C (.inr (.inr ())):=rfl;unfold qQ yA
 have key:ca (jM R l) dq 0=C (if lk0 l≠0 then .inl (lk0 l)else if lk1 R l≠0 then .inl (lk1 R l)else if lk2 l≠0 then .inl (lk2 l)else if lk3 l≠0 then .inl (lk3 l)else .inr ()):=by
  have hB:dq=18446744073709551611+1+1+1+1+1:=rfl;rw[hB,df];have h0:=hstep 0 (by omega);have h1:=hstep 1 (by omega);have h2:=hstep 2 (by omega);have h3:=hstep 3 (by omega);rw[show lkN R l 0=lk0 l from rfl]at h0;rw[show lkN R l 1=lk1 R l from rfl]at h1;rw[show lkN R l 2=lk2 l from rfl]at h2;rw[show lkN R l 3=lk3 l from rfl]at h3;have h0:jM R l 0=_:=h0;rw[h0];simp only[zG];split
  .rfl
  simp only[ck];rw[df,h1];simp only[zG];split
  .rfl
  simp only[ck];rw[df,h2];simp only[zG];split
  .rfl
  simp only[ck];rw[df,h3];simp only[zG];split
  .rfl
  simp only[ck];rw[df,show(((3+1:Nat):Int))=4 from rfl,hend];rfl
 rw[key];simp only[zG];split
 .rfl
 split
 .rfl
 split
 .rfl
 split
 .rfl
 .rename_i h;rw[show lk3 l=0 by omega];rfl
theorem cy4 {R Q:Int}{l k:List cq}(h:OpsOk l)(h':OpsOk k):wI R l Q k=C (qo R l Q k):=by
 have hstep: ∀n:Nat,n<4->lN R l Q k (n:Int)=C (if lkN R l n≠0 then .inr (.inl (lkN R l n))else if lkN Q k n≠0 then .inr (.inl (lkN Q k n))else .inl ((n+1:Nat):Int)):=by
  intro n hn;unfold lN;simp only[bv];rw[zE (by omega),aM9 h,aM9 h'];simp only[zG];rw[bq (n:=(n:Int)+1) (by omega)];split
  .rfl
  split<;>rfl
 have hend:lN R l Q k 4=C (.inr (.inr ())):=rfl;unfold wI qo
 have key:ca (lN R l Q k) dq 0=C (if lk0 l≠0 then .inl (lk0 l)else if lk0 k≠0 then .inl (lk0 k)else if lk1 R l≠0 then .inl (lk1 R l)else if lk1 Q k≠0 then .inl (lk1 Q k)else if lk2 l≠0 then .inl (lk2 l)else if lk2 k≠0 then .inl (lk2 k)else if lk3 l≠0 then .inl (lk3 l)else if lk3 k≠0 then .inl (lk3 k)else .inr ()):=by
  have hB:dq=18446744073709551611+1+1+1+1+1:=rfl;rw[hB,df];have h0:=hstep 0 (by omega);have h1:=hstep 1 (by omega);have h2:=hstep 2 (by omega);have h3:=hstep 3 (by omega);rw[show lkN R l 0=lk0 l from rfl,show lkN Q k 0=lk0 k from rfl]at h0;rw[show lkN R l 1=lk1 R l from rfl,show lkN Q k 1=lk1 Q k from rfl]at h1;rw[show lkN R l 2=lk2 l from rfl,show lkN Q k 2=lk2 k from rfl]at h2;rw[show lkN R l 3=lk3 l from rfl,show lkN Q k 3=lk3 k from rfl]at h3;have h0:lN R l Q k 0=_:=h0;rw[h0];simp only[zG];split
  .rfl
  split
  .rfl
  simp only[ck];rw[df,h1];simp only[zG];split
  .rfl
  split
  .rfl
  simp only[ck];rw[df,h2];simp only[zG];split
  .rfl
  split
  .rfl
  simp only[ck];rw[df,h3];simp only[zG];split
  .rfl
  split
  .rfl
  simp only[ck];rw[df,show(((3+1:Nat):Int))=4 from rfl,hend];rfl
 rw[key];simp only[zG];split
 .rfl
 split
 .rfl
 split
 .rfl
 split
 .rfl
 split
 .rfl
 split
 .rfl
 split
 .rfl
 split
 .rfl
 .rename_i h;rw[show lk3 k=0 by omega];rfl
abbrev dG1 :Sh:= .list (.pair (.int .i64) (.pair (.int .i64) (.pair (.int .i64) (.pair (.int .i64) (.int .u64)))))
theorem cc2 {l:List cq}(f:cG9 dG1 l)(h:l.length<=100):OpsOk l:=⟨h,λo ho=>(f.2 o ho).2.2.2.2⟩
theorem dc5 (a0:Int)(a1:List cq)(a2:Int)(a3:List cq)(a4 a5:Int): ∃d,sa a0 a1 a2 a3 a4 a5=C d/\py a0 a1 a2 a3 a4 a5=C d:=by
 unfold sa py;simp only[al5,zG,bv];by_cases c1:a4<1
 .rw[zE c1,zE c1];exact⟨_,rfl,rfl⟩
 rw[zF c1,zF c1];by_cases c2:64<a4
 .rw[zE c2,zE c2];exact⟨_,rfl,rfl⟩
 rw[zF c2,zF c2];by_cases c3:a5<0
 .rw[zE c3,zE c3];exact⟨_,rfl,rfl⟩
 rw[zF c3,zF c3];by_cases c4:64<a5
 .rw[zE c4];simp only[zG];rw[bv,zE c4];exact⟨_,rfl,rfl⟩
 rw[zF c4];simp only[zG];rw[bv,zF c4];by_cases c5:a0<IntKind.i64.wrap (zH zI (a4+a5)+1)
 .rw[zE c5,zE c5];exact⟨_,rfl,rfl⟩
 rw[zF c5,zF c5];by_cases c6:a2<IntKind.i64.wrap (a4+a5)
 .rw[zE c6,zB c6];exact⟨_,rfl,rfl⟩
 .rw[zF c6,zA c6];exact⟨_,rfl,rfl⟩
def zM (s l x t:Int):Int:=if x<1 then 10 else if 64<x then 10 else if t<0 then 10 else if 64<t then 10 else if s<IntKind.i64.wrap (zH zI (x+t)+1)then 10 else if l<IntKind.i64.wrap (x+t)then 10 else 0
theorem bw9 (a0:Int)(a1:List cq)(a2:Int)(a3:List cq)(a4 a5:Int):py a0 a1 a2 a3 a4 a5=C (zM a0 a2 a4 a5):=by
 unfold py zM;simp only[bv];split
 .rfl
 split
 .rfl
 split
 .rfl
 split
 .rfl
 split
 .rfl
 split<;>rfl
theorem cu9 (a0:Int)(a1:List cq)(a2:Int)(a3:List cq)(a4 a5:Int):sa a0 a1 a2 a3 a4 a5=C (zM a0 a2 a4 a5):=by
 obtain⟨d,h1,h2⟩:=dc5 a0 a1 a2 a3 a4 a5;rw[h1,<-h2,bw9]
def hk0 (m:Int):Int:=if m<1 then 5 else if 3<m then 5 else 0
def hk3 (m n:Int):Int:=if n<0 then 11 else if(if m=2 then 0 else 65535)<n then 11 else 0
def hk4 (b:Int):Int:=if b<0 then 12 else if 1048576<b then 12 else 0
def xq (m:Int)(x t:Nat)(R:Int)(l:List cq)(Q:Int)(k:List cq)(n b:Int):Int:=if hk0 m≠0 then hk0 m else if qo R l Q k≠0 then qo R l Q k else if zM R Q x t≠0 then zM R Q x t else if hk3 m n≠0 then hk3 m n else hk4 b
theorem ay8 (b:Bool)(e:Int):kO b e=C (if b then e else 0):=by cases b<;>rfl
section
variable {a0:Int} {a1 a2:Zd} {a3:Int} {a4:List cq} {a5:Int} {a6:List cq} {a7 a8:Int}
theorem dr5 :jZ a0 a1 a2 a3 a4 a5 a6 a7 a8=C (hk0 a0):=by
 unfold jZ hk0;simp only[ay8,zG,bv];split
 .rfl
 .by_cases c:3<a0<;>simp[c]
theorem cw4 (h4:OpsOk a4)(h6:OpsOk a6):iz a0 a1 a2 a3 a4 a5 a6 a7 a8=C (qo a3 a4 a5 a6):=by
 unfold iz;rw[cv0 h4 h6];rfl
theorem dr4 :jY a0 a1 a2 a3 a4 a5 a6 a7 a8=C (zM a3 a5 (a1.length:Nat) (a2.length:Nat)):=by
 unfold jY;rw[cu9];rfl
theorem cS9 :jw a0 a1 a2 a3 a4 a5 a6 a7 a8=C (hk3 a0 a7):=by
 unfold jw hk3;simp only[ay8,zG,bv];by_cases c0:a0=2
 .rw[zE c0,zE c0];simp only[zG];split
  .rfl
  .by_cases c:0<a7<;>simp[c]
 .rw[zF c0,zF c0];simp only[zG];split
  .rfl
  .by_cases c:65535<a7<;>simp[c]
theorem cS8 :jv a0 a1 a2 a3 a4 a5 a6 a7 a8=C (hk4 a8):=by
 unfold jv hk4;simp only[ay8,zG,bv];split
 .rfl
 .by_cases c:1048576<a8<;>simp[c]
theorem aT1 (h4:OpsOk a4)(h6:OpsOk a6):oS a0 a1 a2 a3 a4 a5 a6 a7 a8=C (xq a0 a1.length a2.length a3 a4 a5 a6 a7 a8):=by
 have h0:ju a0 a1 a2 a3 a4 a5 a6 a7 a8 0=C (if hk0 a0≠0 then .inr (.inl (hk0 a0))else .inl 1):=by
  show((jZ a0 a1 a2 a3 a4 a5 a6 a7 a8).bind λr=>cond (Zc (r≠0)) _ _)=_;rw[dr5];simp only[zG,bv];split<;>rfl
 have h1:ju a0 a1 a2 a3 a4 a5 a6 a7 a8 1=C (if qo a3 a4 a5 a6≠0 then .inr (.inl (qo a3 a4 a5 a6))else .inl 2):=by
  show((iz a0 a1 a2 a3 a4 a5 a6 a7 a8).bind λr=>cond (Zc (r≠0)) _ _)=_;rw[cw4 h4 h6];simp only[zG,bv];split<;>rfl
 have h2:ju a0 a1 a2 a3 a4 a5 a6 a7 a8 2=C (if zM a3 a5 (a1.length:Nat) (a2.length:Nat)≠0 then .inr (.inl (zM a3 a5 (a1.length:Nat) (a2.length:Nat)))else .inl 3):=by
  show((jY a0 a1 a2 a3 a4 a5 a6 a7 a8).bind λr=>cond (Zc (r≠0)) _ _)=_;rw[dr4];simp only[zG,bv];split<;>rfl
 have h3:ju a0 a1 a2 a3 a4 a5 a6 a7 a8 3=C (if hk3 a0 a7≠0 then .inr (.inl (hk3 a0 a7))else .inl 4):=by
  show((jw a0 a1 a2 a3 a4 a5 a6 a7 a8).bind λr=>cond (Zc (r≠0)) _ _)=_;rw[cS9];simp only[zG,bv];split<;>rfl
 have h5:ju a0 a1 a2 a3 a4 a5 a6 a7 a8 4=C (if hk4 a8≠0 then .inr (.inl (hk4 a8))else .inl 5):=by
  show((jv a0 a1 a2 a3 a4 a5 a6 a7 a8).bind λr=>cond (Zc (r≠0)) _ _)=_;rw[cS8];simp only[zG,bv];split<;>rfl
 have hend:ju a0 a1 a2 a3 a4 a5 a6 a7 a8 5=C (.inr (.inr ())):=rfl;unfold oS xq;have hB:dq=18446744073709551610+1+1+1+1+1+1:=rfl;rw[hB,df,h0];simp only[zG];split
 .rfl
 simp only[ck];rw[df,h1];simp only[zG];split
 .rfl
 simp only[ck];rw[df,h2];simp only[zG];split
 .rfl
 simp only[ck];rw[df,h3];simp only[zG];split
 .rfl
 simp only[ck];rw[df,h5];simp only[zG];split
 .rfl
 .rename_i h;simp only[ck];rw[df,hend];rw[show hk4 a8=0 by omega];rfl
theorem bf8 (h4:OpsOk a4)(h6:OpsOk a6):qx a0 a1 a2 a3 a4 a5 a6 a7 a8=C (xq a0 a1.length a2.length a3 a4 a5 a6 a7 a8):=by
 unfold qx xq;rw[cy4 h4 h6,bw9];simp only[zG,bv];unfold hk0;by_cases c1:a0<1
 .rw[zE c1,zE c1];rfl
 rw[zF c1,zF c1];by_cases c2:3<a0
 .rw[zE c2,zE c2];rfl
 rw[zF c2,zF c2];rw[zF (show¬(0:Int)≠0 by simp)];by_cases c3:qo a3 a4 a5 a6≠0
 .rw[zE c3,zE c3]
 rw[zF c3,zF c3];by_cases c4:zM a3 a5 (a1.length:Nat) (a2.length:Nat)≠0
 .rw[zE c4,zE c4]
 rw[zF c4,zF c4];unfold hk3 hk4;by_cases c5:a7<0
 .rw[zE c5,zE c5];rfl
 rw[zF c5,zF c5];by_cases c6:a0=2
 .rw[zE c6,zE c6];by_cases c7:0<a7
  .rw[zE c7,zE (show(11:Int)≠0 by simp)];by_cases c8:65535<a7
   .rw[zE c8]
   .rw[zF c8,zE (by omega)]
  .rw[zF c7,zF (show¬(0:Int)≠0 by simp),zF (show¬65535<a7 by omega),zF (show¬a7≠0 by omega)];split
   .rfl
   .split<;>rfl
 .rw[zF c6,zF c6];by_cases c8:65535<a7
  .rw[zE c8,zE c8];rfl
  .rw[zF c8,zF c8,zF (show¬(0:Int)≠0 by simp)];split
   .rfl
   .split<;>rfl
structure HFacts (a0:Int)(x t:Nat)(a3:Int)(a4:List cq)(a5:Int)(a6:List cq)(a7 a8:Int):Prop where
 mode:1<=a0/\a0<=3
 regs:1<=a3/\a3<=64
 regs':1<=a5/\a5<=64
 xs:1<=x/\x<=64
 ts:t<=64
 w:0<=(eg a4).1/\(eg a4).1<=65536
 w':0<=(eg a6).1/\(eg a6).1<=65536
 len:0<=a7/\a7<=65535
 bud:0<=a8/\a8<=1048576
theorem cm5 {R:Int}{l:List cq}(h:lk1 R l=0):1<=R/\R<=64:=by
 unfold lk1 at h;split at h
 .rename_i hb;unfold aV0 at hb;rw[Bool.and_eq_true]at hb;exact of_decide_eq_true hb.1
 .cases h
theorem bA1 {l:List cq}(h:OpsOk l):0<=(eg l).1/\(eg l).1<=65536:=by
 unfold eg;split
 .rename_i hs;split
  .rename_i w hq;have:=bd0 (λo ho=>(h.v o ho).1) hs hq;split
   .simp
   .simp;omega
  .simp
 .simp
theorem cL6 {R Q:Int}{l k:List cq}(h:qo R l Q k=0):(1<=R/\R<=64)/\(1<=Q/\Q<=64):=by
 unfold qo at h;split at h
 .rename_i c;exact(c h).elim
 split at h
 .rename_i c;exact(c h).elim
 split at h
 .rename_i c;exact(c h).elim
 split at h
 .rename_i c;exact(c h).elim
 rename_i c1 c2;exact⟨cm5 (l:=l) (by omega),cm5 (l:=k) (by omega)⟩
theorem am1 (h4:OpsOk a4)(h6:OpsOk a6){x t:Nat}(h:xq a0 x t a3 a4 a5 a6 a7 a8=0):HFacts a0 x t a3 a4 a5 a6 a7 a8:=by
 unfold xq at h;split at h
 .rename_i c;exact(c h).elim
 split at h
 .rename_i c;exact(c h).elim
 split at h
 .rename_i c;exact(c h).elim
 split at h
 .rename_i c;exact(c h).elim
 rename_i c0 c1 c2 c3;obtain⟨r1,r2⟩:=cL6 (show qo a3 a4 a5 a6=0 by omega);have c0:hk0 a0=0:=by omega
 have c2:zM a3 a5 x t=0:=by omega
 have c3:hk3 a0 a7=0:=by omega
 unfold hk0 at c0;unfold hk3 at c3;unfold hk4 at h;unfold zM at c2;refine⟨?_,r1,r2, ?_, ?_,bA1 h4,bA1 h6, ?_, ?_⟩
 .split at c0
  .omega
  split at c0<;>omega
 .split at c2
  .omega
  split at c2<;>omega
 .split at c2
  .omega
  split at c2
  .omega
  split at c2
  .omega
  split at c2<;>omega
 .split at c3
  .omega
  by_cases k3:a0=2
  .rw[zE k3]at c3;split at c3<;>omega
  .rw[zF k3]at c3;split at c3<;>omega
 .split at h
  .omega
  split at h<;>omega
def nY (a0:Int)(a4 a6:List cq):Int:=if a0=3 then(eg a6).1 else(eg a4).1+(eg a6).1
def oM (a0:Int)(x:Nat)(a3:Int)(a4:List cq):Int:=if a0=3 then(eg a4).1+a3 else x+1
def oN (x t:Nat)(a3 a5:Int):Int:=2*t+2*x+a3+a5+max a3 a5
theorem cF1 (h4:OpsOk a4)(h6:OpsOk a6):ob a0 a1 a2 a3 a4 a5 a6 a7 a8=C (if xq a0 a1.length a2.length a3 a4 a5 a6 a7 a8≠0 then(0,0)else((eg a4).1,(eg a6).1)):=by
 unfold ob;have:=h4.len;have:=h6.len;rw[aT1 h4 h6,vx (by omega) h4.v,vx (by omega) h6.v];simp only[zG,bv];split<;>rfl
theorem aU8 (h4:OpsOk a4)(h6:OpsOk a6):ny a0 a1 a2 a3 a4 a5 a6 a7 a8=C (if xq a0 a1.length a2.length a3 a4 a5 a6 a7 a8≠0 then(0,0)else((eg a4).1,(eg a6).1)):=by
 unfold ny;have:=h4.len;have:=h6.len;rw[bf8 h4 h6,xw h4.len h4.v,xw h6.len h6.v];simp only[zG,bv];split<;>rfl
theorem aM5 (h4:OpsOk a4)(h6:OpsOk a6)(h:xq a0 a1.length a2.length a3 a4 a5 a6 a7 a8=0):sB a0 a1 a2 a3 a4 a5 a6 a7 a8=C (((a2.length:Nat):Int),((a1.length:Nat):Int),a3,a5,max a3 a5,((a1.length:Nat):Int),((a2.length:Nat):Int),nY a0 a4 a6,oM a0 a1.length a3 a4):=by
 have f:=am1 h4 h6 h;have g1:=f.mode;have g2:=f.regs;have g3:=f.xs;have g4:=f.w;have g5:=f.w';unfold sB nY oM;rw[cF1 h4 h6,zF (λc=>c h)];simp only[zG,bv];rw[bq (n:=(eg a4).1+a3) (by omega),bq (n:=(eg a4).1+(eg a6).1) (by omega),bq (n:=(a1.length:Int)+1) (by omega)];split
 .rfl
 .rfl
def pre (L:Zd):Nat->Int
 |0=>0
 |i+1=>pre L i+L.getD i 0
theorem cc3 {L:Zd}(hb: ∀j,0<=L.getD j 0/\L.getD j 0<=1000000000000): ∀i,0<=pre L i/\pre L i<=1000000000000*i
 |0=>⟨hZ _,hZ _⟩
 |i+1=>by
  have:=cc3 hb i;have:=hb i;simp only[pre];omega
theorem bw3 {b0 b1 b2 b3 b4 b5 b6 b7 b8 n:Int}(hb: ∀j,0<=([b0,b1,b2,b3,b4,b5,b6,b7,b8*n]:Zd).getD j 0/\([b0,b1,b2,b3,b4,b5,b6,b7,b8*n]:Zd).getD j 0<=1000000000000):xJ b0 b1 b2 b3 b4 b5 b6 b7 b8 n=C ((fB 10).map (pre [b0,b1,b2,b3,b4,b5,b6,b7,b8*n])):=by
 generalize hL:([b0,b1,b2,b3,b4,b5,b6,b7,b8*n]:Zd)=L at*;have hp:=cc3 hb
 have key:ca (qt b0 b1 b2 b3 b4 b5 b6 b7 b8) dq (0,(pre L 0,(fB 0).map (pre L)))=C (pre L 8,(fB 8).map (pre L)):=by
  refine ff (n:=8) (λi=>(pre L i,(fB i).map (pre L))) (by omega) (λi hi=> ?_) ?_
  .unfold qt;rw[bv,zE (by omega),cl (show i<9 by omega)];simp only[zG]
   have e:gV [b0,b1,b2,b3,b4,b5,b6,b7,b8] i 0=L.getD i 0:=by
    subst hL;rcases(show i=0∨i=1∨i=2∨i=3∨i=4∨i=5∨i=6∨i=7 by omega)with rfl|rfl|rfl|rfl|rfl|rfl|rfl|rfl<;>rfl
   have h1:=hp i;have h2:=hb i;rw[e];rw[dh (by simp;omega) (by omega),bq (n:=pre L i+L.getD i 0) (by omega),bq (n:=(i:Int)+1) (by omega),iG,gY];rfl
  .unfold qt;rw[bv,zF (by omega)]
 unfold xJ;have key:ca (qt b0 b1 b2 b3 b4 b5 b6 b7 b8) dq ((0,0,[]))=_:=key;rw[key];have h1:=hp 8;have h2:=hb 8;have e:L.getD 8 0=b8*n:=by subst hL;rfl
 rw[e]at h2;simp only[zG];rw[dh (by simp) (by omega),dh (by simp) (by omega),bq (n:=b8*n) (by omega),bq (n:=pre L 8+b8*n) (by omega)];show _=C ((fB (8+1+1)).map (pre L));rw[iG (n:=8+1),iG (n:=8),gY,gY];show _=C (((fB 8).map (pre L)++[pre L 8])++[pre L 8+L.getD 8 0]);rw[e]
theorem cM0 {b0 b1 b2 b3 b4 b5 b6 b7 b8 n:Int}(hb: ∀j,0<=([b0,b1,b2,b3,b4,b5,b6,b7,b8*n]:Zd).getD j 0/\([b0,b1,b2,b3,b4,b5,b6,b7,b8*n]:Zd).getD j 0<=1000000000000):uO b0 b1 b2 b3 b4 b5 b6 b7 b8 n=C (b0+b1+b2+b3+b4+b5+b6+b7+b8*n):=by
 unfold uO;rw[bw3 hb];show C (0+b0+b1+b2+b3+b4+b5+b6+b7+b8*n)=_;rw[eD]
theorem dF2 {b0 b1 b2 b3 b4 b5 b6 b7 b8:Int}{p:Int->Prop}(h:p b0)(h1:p b1)(h2:p b2)(h3:p b3)(h4:p b4)(h5:p b5)(h6:p b6)(h7:p b7)(h8:p b8)(hz:p 0): ∀j,p (([b0,b1,b2,b3,b4,b5,b6,b7,b8]:Zd).getD j 0)
 |0=>h
 |1=>h1
 |2=>h2
 |3=>h3
 |4=>h4
 |5=>h5
 |6=>h6
 |7=>h7
 |8=>h8
 |j+9=>by
  show p ((([]:Zd)).getD j 0);rw[List.getD_nil];exact hz
theorem bv7 {s n:Int}(hs:0<=s/\s<=100000)(hn:0<=n/\n<=1048576):0<=s*n/\s*n<=1000000000000:=by
 have h1:=gT hs.1 hn.1;have h2:=Int.mul_le_mul hs.2 hn.2 hn.1 (by omega);omega
structure SFacts (x t:Nat)(a3 a5 tp sl:Int):Prop where
 xs:1<=x/\x<=64
 ts:t<=64
 r:1<=a3/\a3<=64
 r':1<=a5/\a5<=64
 tp:0<=tp/\tp<=131072
 sl:1<=sl/\sl<=100000
theorem bb2 (h4:OpsOk a4)(h6:OpsOk a6){x t:Nat}(h:xq a0 x t a3 a4 a5 a6 a7 a8=0):SFacts x t a3 a5 (nY a0 a4 a6) (oM a0 x a3 a4):=by
 have f:=am1 h4 h6 h;have g1:=f.mode;have g2:=f.regs;have g3:=f.xs;have g4:=f.w;have g5:=f.w';refine⟨f.xs,f.ts,f.regs,f.regs', ?_, ?_⟩
 .unfold nY;split<;>omega
 .unfold oM;split<;>omega
theorem cd4 {x t:Nat}{tp sl n:Int}(s:SFacts x t a3 a5 tp sl)(hn:0<=n/\n<=1048576): ∀j,0<=([(t:Int),x,a3,a5,max a3 a5,x,t,tp,sl*n]:Zd).getD j 0/\([(t:Int),x,a3,a5,max a3 a5,x,t,tp,sl*n]:Zd).getD j 0<=1000000000000:=by
 have g1:=s.xs;have g2:=s.ts;have g3:=s.r;have g4:=s.r';have g5:=s.tp;have g6:=s.sl;exact dF2 (p:=λy=>0<=y/\y<=1000000000000) (by omega) (by omega) (by omega) (by omega) (by omega) (by omega) (by omega) (by omega) (bv7 (by omega) hn) (by omega)
theorem du0 {x t:Nat}{tp sl n:Int}(s:SFacts x t a3 a5 tp sl)(hn:0<=n/\n<=1048576):uO t x a3 a5 (max a3 a5) x t tp sl n=C (oN x t a3 a5+tp+n*sl):=by
 rw[cM0 (cd4 s hn)];unfold oN;rw[gS sl n]
 congr 1
 omega
theorem cp1 {tp sl:Int}(h:SFacts a1.length a2.length a3 a5 tp sl):uy a0 a1 a2 a3 a4 a5 a6 a7 a8=C (oN a1.length a2.length a3 a5):=by
 have g1:=h.xs;have g2:=h.ts;have g3:=h.r;have g4:=h.r';unfold uy oN;rw[bq (n:=2*(a2.length:Int)) (by omega),bq (n:=2*(a1.length:Int)) (by omega),bq (n:=2*(a2.length:Int)+2*(a1.length:Int)) (by omega),bq (n:=2*(a2.length:Int)+2*(a1.length:Int)+a3) (by omega),bq (n:=2*(a2.length:Int)+2*(a1.length:Int)+a3+a5) (by omega),bq (by omega)]
theorem cz2 (h4:OpsOk a4)(h6:OpsOk a6)(h:xq a0 a1.length a2.length a3 a4 a5 a6 a7 a8=0):wZ a0 a1 a2 a3 a4 a5 a6 a7 a8=C (nY a0 a4 a6):=by
 have f:=am1 h4 h6 h;have g4:=f.w;have g5:=f.w';unfold wZ nY;rw[aU8 h4 h6,zF (λc=>c h)];simp only[zG,bv];rw[bq (by omega)];split<;>rfl
theorem cz1 (h4:OpsOk a4)(h6:OpsOk a6)(h:xq a0 a1.length a2.length a3 a4 a5 a6 a7 a8=0):wY a0 a1 a2 a3 a4 a5 a6 a7 a8=C (oM a0 a1.length a3 a4):=by
 have f:=am1 h4 h6 h;have g2:=f.regs;have g3:=f.xs;have g4:=f.w;have g5:=f.w';unfold wY oM;rw[aU8 h4 h6,zF (λc=>c h)];simp only[zG,bv];rw[bq (n:=(eg a4).1+a3) (by omega),bq (by omega)];split<;>rfl
def least (a0 a7:Int):Int:=if a0=3 then a7 else 1
def jc (a0:Int)(x t:Nat)(a3:Int)(a4:List cq)(a5:Int)(a6:List cq)(a7 a8:Int):Int×Int×Int×Int×Int:=
 if xq a0 x t a3 a4 a5 a6 a7 a8≠0 then(0,0,0,0,xq a0 x t a3 a4 a5 a6 a7 a8)
 else if a8<oN x t a3 a5+nY a0 a4 a6+least a0 a7*oM a0 x a3 a4 then(0,0,0,0,13)
 else(oN x t a3 a5,nY a0 a4 a6,oM a0 x a3 a4,if a0=3 then a7 else(a8-oN x t a3 a5-nY a0 a4 a6) / oM a0 x a3 a4,0)
theorem cW9 {x t:Nat}{tp sl n:Int}(s:SFacts x t a3 a5 tp sl):ca (sA (t:Int) (x:Int) a3 a5 (max a3 a5) (x:Int) (t:Int) tp sl) dq (0,0,tp,sl,n)=C (oN x t a3 a5,tp,sl,n):=by
 have hb:=cd4 (n:=1) s (by omega);have hp:=cc3 hb
 have e7:pre [(t:Int),x,a3,a5,max a3 a5,x,t,tp,sl*1] 7=oN x t a3 a5:=by
  show 0+(t:Int)+x+a3+a5+max a3 a5+x+t=_;unfold oN;omega
 rw[<-e7];generalize hL:([(t:Int),x,a3,a5,max a3 a5,x,t,tp,sl*1]:Zd)=L at*;refine ff (n:=7) (λi=>(pre L i,tp,sl,n)) (c:=(pre L 7,tp,sl,n)) (by omega) (λi hi=> ?_) ?_
 .unfold sA;rw[bv,zE (by omega),cl (show i<9 by omega)];simp only[zG]
  have e:gV [(t:Int),x,a3,a5,max a3 a5,x,t,tp,sl] i 0=L.getD i 0:=by
   subst hL;rcases(show i=0∨i=1∨i=2∨i=3∨i=4∨i=5∨i=6 by omega)with rfl|rfl|rfl|rfl|rfl|rfl|rfl<;>rfl
  have h1:=hp i;have h2:=hb i;rw[e,bq (n:=pre L i+L.getD i 0) (by omega),bq (n:=(i:Int)+1) (by omega)];rfl
 .unfold sA;rw[bv,zF (by omega)]
theorem ba2 (h4:OpsOk a4)(h6:OpsOk a6):rK a0 a1 a2 a3 a4 a5 a6 a7 a8=C (jc a0 a1.length a2.length a3 a4 a5 a6 a7 a8):=by
 unfold rK jc;rw[aT1 h4 h6];simp only[zG];by_cases h:xq a0 a1.length a2.length a3 a4 a5 a6 a7 a8=0
 .rw[zA (λc=>c h),zD,zF (λc=>c h),aM5 h4 h6 h];have s:=bb2 h4 h6 h;have f:=am1 h4 h6 h;have g1:=f.mode;have g2:=f.len;have g3:=f.bud;have g4:=s.xs;have g5:=s.ts;have g6:=s.r;have g7:=s.r';have g8:=s.tp;have g9:=s.sl
  have hl:(cond (Zc (a0=3)) (C a7) (C (1:Int)))=C (least a0 a7):=by
   unfold least;rw[bv];split<;>rfl
  have hln:0<=least a0 a7/\least a0 a7<=65535:=by unfold least;split<;>omega
  simp only[zG];rw[hl];simp only[zG];rw[du0 s (by omega)];simp only[zG];rw[cW9 s];simp only[zG,bv];by_cases c:a8<oN a1.length a2.length a3 a5+nY a0 a4 a6+least a0 a7*oM a0 a1.length a3 a4
  .rw[zE c,zE c]
  .rw[zF c,zF c];have hfx:0<=oN a1.length a2.length a3 a5/\oN a1.length a2.length a3 a5<=1000:=by unfold oN;omega
   by_cases c3:a0=3
   .rw[zF (λk=>k c3),zE c3];unfold least;rw[zE c3]
   .rw[zE c3,zF c3,dr2 (by omega)];unfold least at c;rw[zF c3]at c;generalize oN a1.length a2.length a3 a5=fx at*;generalize nY a0 a4 a6=tp at*;generalize oM a0 a1.length a3 a4=sl at*;rw[bq (n:=a8-fx) (by omega),bq (n:=a8-fx-tp) (by omega),cG3 (by omega)];have hd1:0<=(a8-fx-tp) / sl:=hY (by omega) (by omega);have hd2:(a8-fx-tp) / sl<=a8-fx-tp:=hX _ (by omega);rw[bq (by omega)]
 .rw[zB h,zC,zE h]
theorem yC (h4:OpsOk a4)(h6:OpsOk a6):pH a0 a1 a2 a3 a4 a5 a6 a7 a8=C (jc a0 a1.length a2.length a3 a4 a5 a6 a7 a8):=by
 unfold pH jc;rw[bf8 h4 h6];simp only[zG];by_cases h:xq a0 a1.length a2.length a3 a4 a5 a6 a7 a8=0
 .have s:=bb2 h4 h6 h;have f:=am1 h4 h6 h;rw[zA (λc=>c h),zD,zF (λc=>c h),cp1 s,cz2 h4 h6 h,cz1 h4 h6 h];have g1:=f.mode;have g2:=f.len;have g3:=f.bud;have g4:=s.xs;have g5:=s.ts;have g6:=s.r;have g7:=s.r';have g8:=s.tp;have g9:=s.sl;have hfx:0<=oN a1.length a2.length a3 a5/\oN a1.length a2.length a3 a5<=1000:=by unfold oN;omega
  have hln:0<=least a0 a7/\least a0 a7<=65535:=by unfold least;split<;>omega
  simp only[zG];generalize oN a1.length a2.length a3 a5=fx at*;generalize nY a0 a4 a6=tp at*;generalize oM a0 a1.length a3 a4=sl at*
  have hl:(cond (Zc (a0=3)) (C ((fx,tp,sl,a7):Int×Int×Int×Int)) (C (fx,tp,sl,1)))=C (fx,tp,sl,least a0 a7):=by
   unfold least;rw[bv];split<;>rfl
  rw[hl];simp only[zG];have hm:=bv7 (s:=sl) (n:=least a0 a7) (by omega) (by omega);rw[gS]at hm;rw[bq (n:=fx+tp) (by omega),bq (n:=least a0 a7*sl) (by omega),bq (by omega),bv];by_cases c:a8<fx+tp+least a0 a7*sl
  .rw[zE c,zE c]
  .rw[zF c,zF c];by_cases c3:a0=3
   .have key:ca (nV a0 a8) dq (fx,tp,sl,least a0 a7)=C (fx,tp,sl,least a0 a7):=by
     rw[show dq=18446744073709551615+1 from rfl,df];unfold nV;rw[bv,zF (λk=>k c3)];rfl
    rw[key,zE c3];unfold least;rw[zE c3];rfl
   .have key:ca (nV a0 a8) dq (fx,tp,sl,least a0 a7)=C (fx,tp,sl,(a8-fx-tp) / sl):=by
     refine df3 (λst=> ∃n:Int,st=(fx,tp,sl,n)/\1<=n/\n<=1048577/\fx+tp+n*sl<=a8) (λst=>(2000000-st.2.2.2).toNat) ⟨least a0 a7,rfl,by unfold least;rw[zF c3];omega,by omega,by omega⟩ (by simp;omega) ?_;rintro _ ⟨n,rfl,n1,n2,n3⟩;unfold nV;simp only;have hm:=bv7 (s:=sl) (n:=n+1-2) (by omega) (by omega);have hx:(n+1)*sl=sl*(n+1-2)+2*sl:=by rw[Int.mul_sub,gS];omega
     have hx2:(n+1)*sl=n*sl+sl:=by rw[Int.add_mul,Int.one_mul]
     rw[bv,zE c3,bq (n:=n+1) (by omega),bq (n:=fx+tp) (by omega),bq (n:=(n+1)*sl) (by omega),bq (by omega),bv]
     have hnsl:n<=n*sl:=by
      have:=iA (show 1<=sl by omega) (show 0<=n by omega);omega
     by_cases c5:fx+tp+(n+1)*sl<=a8
     .rw[zE c5];left;exact⟨_,rfl,⟨n+1,rfl,by omega,by omega,c5⟩,by simp only;omega⟩
     .rw[zF c5];right
      have hd:(a8-fx-tp) / sl=n:=by
       have e1:a8-fx-tp=(a8-fx-tp-n*sl)+n*sl:=by omega
       rw[e1,Int.add_mul_ediv_right _ _ (by omega),Int.ediv_eq_zero_of_lt (by omega) (by omega),eD]
      rw[hd]
    rw[key,zF c3];rfl
 .rw[zB h,zC,zE h]
theorem cL9 (h4:OpsOk a4)(h6:OpsOk a6): ∃r,oc a0 a1 a2 a3 a4 a5 a6 a7 a8=C r/\mT a0 a1 a2 a3 a4 a5 a6 a7 a8=C r/\r.2.length<=10:=by
 unfold oc mT;rw[ba2 h4 h6,yC h4 h6];simp only[zG,bv];by_cases h:(jc a0 a1.length a2.length a3 a4 a5 a6 a7 a8).2.2.2.2≠0
 .rw[zE h,zE h];exact⟨_,rfl,rfl,by simp⟩
 rw[zF h,zF h]
 have hc:xq a0 a1.length a2.length a3 a4 a5 a6 a7 a8=0:=by
  by_cases hc:xq a0 a1.length a2.length a3 a4 a5 a6 a7 a8=0
  .exact hc
  .exfalso;apply h;unfold jc;rw[zE hc];exact hc
 have s:=bb2 h4 h6 hc;have f:=am1 h4 h6 hc;rw[aM5 h4 h6 hc];simp only[zG];have g1:=f.mode;have g2:=f.len;have g3:=f.bud;have g4:=s.xs;have g5:=s.ts;have g6:=s.r;have g7:=s.r';have g8:=s.tp;have g9:=s.sl;have hfx:0<=oN a1.length a2.length a3 a5/\oN a1.length a2.length a3 a5<=1000:=by unfold oN;omega
 have hpl:(jc a0 a1.length a2.length a3 a4 a5 a6 a7 a8).2.1=nY a0 a4 a6/\(jc a0 a1.length a2.length a3 a4 a5 a6 a7 a8).2.2.1=oM a0 a1.length a3 a4/\0<=(jc a0 a1.length a2.length a3 a4 a5 a6 a7 a8).2.2.2.1/\(jc a0 a1.length a2.length a3 a4 a5 a6 a7 a8).2.2.2.1<=1048576:=by
  unfold jc at h⊢;rw[zF (λc=>c hc)]at h⊢;split at h
  .exact(h (by simp)).elim
  .rename_i c;rw[zF c];refine⟨rfl,rfl, ?_, ?_⟩
   .simp only;split
    .omega
    .rename_i c3;unfold least at c;rw[zF c3]at c;exact hY (by omega) (by omega)
   .simp only;split
    .omega
    .rename_i c3;unfold least at c;rw[zF c3]at c;have hd2:(a8-oN a1.length a2.length a3 a5-nY a0 a4 a6) / oM a0 a1.length a3 a4<=a8-oN a1.length a2.length a3 a5-nY a0 a4 a6:=hX _ (by omega);omega
 obtain⟨p1,p2,p3,p4⟩:=hpl;generalize jc a0 a1.length a2.length a3 a4 a5 a6 a7 a8=pl at*;have hb:=cd4 (n:=pl.2.2.2.1) s ⟨p3,p4⟩;have hp:=cc3 hb;rw[bw3 hb];refine⟨(0,_),rfl, ?_,by simp⟩;have hmul:=bv7 (s:=oM a0 a1.length a3 a4) (n:=pl.2.2.2.1) (by omega) ⟨p3,p4⟩;generalize hL:([(a2.length:Int),a1.length,a3,a5,max a3 a5,a1.length,a2.length,nY a0 a4 a6,oM a0 a1.length a3 a4*pl.2.2.2.1]:Zd)=L at*
 have key:ca (lX a1 a2 a3 a5 pl) dq (0,(fB (0+1)).map (pre L))=C ((fB 10).map (pre L)):=by
  refine ff (n:=9) (λi=>(fB (i+1)).map (pre L)) (by omega) (λi hi=> ?_) ?_
  .unfold lX;rw[bv,zE (by omega),cl (show i<((fB (i+1)).map (pre L)).length by simp),cl (show i<9 by omega)];simp only[zG]
   have e1:((fB (i+1)).map (pre L))[i]?=C (pre L i):=by
    rw[List.getElem?_map,List.getElem?_range (by omega)];rfl
   rw[e1];simp only[zG]
   have e2:gV [((a2.length:Nat):Int),((a1.length:Nat):Int),a3,a5,max a3 a5,((a1.length:Nat):Int),((a2.length:Nat):Int),pl.2.1,zH zI (pl.2.2.2.1*pl.2.2.1)] i 0=L.getD i 0:=by
    rw[p1,p2,gS,bq (by omega)];rw[hL]
   have h1:=hp i;have h2:=hb i;rw[e2,dh (by simp;omega) (by omega),bq (n:=pre L i+L.getD i 0) (by omega),bq (n:=(i:Int)+1) (by omega),iG (n:=i+1),gY];rfl
  .unfold lX;rw[bv,zF (by omega)]
 have key:ca (lX a1 a2 a3 a5 pl) dq (0,[0])=_:=key;rw[key];rfl
end
def Reach {α γ:Type}(f:α->Option (α⊕γ))(k:Nat)(s s':α):Prop:= ∀fu,ca f (fu+k) s=ca f fu s'
theorem Reach.refl {α γ:Type}{f:α->Option (α⊕γ)}{s:α}:Reach f 0 s s:=λ_=>rfl
theorem Reach.trans {α γ:Type}{f:α->Option (α⊕γ)}{k k':Nat}{s s' s'':α}(h:Reach f k s s')(h':Reach f k' s' s''):Reach f (k+k') s s'':=by
 intro fu;rw[show fu+(k+k')=(fu+k')+k by omega,h,h']
theorem Reach.one {α γ:Type}{f:α->Option (α⊕γ)}{s s':α}(h:f s=C (.inl s')):Reach f 1 s s':=by
 intro fu;rw[df,h];rfl
section
variable {l:List cq}
theorem dz3 {i:Nat}{out st:Zd}(hl:l.length<=1000)(hst:st.length<=1000)(hi:i<l.length)(hk:0<l[i].1/\l[i].1<7)(ho:out.length=l.length):
  dv l ((i:Int),Za,out,st,st)=C (.inl (((i+1:Nat):Int),Za,out.set i (-1),st,st)):=by
 simp only[dv];rw[zB (show(i:Int)<(l.length:Int)by omega),zC,ci hi];simp only[zG];generalize hx:l[i]=x at*;rw[zA (show¬x.1<0 by omega),zD,zA (show¬7<x.1 by omega),zD,zA (show¬x.1=0 by omega)];simp only[zD,zG,cn];rw[cl (show i<out.length by omega)];simp only[zG];rw[aD (show i<out.length by omega)];simp only[zG];rw[zA (show¬x.1=7 by omega)];simp only[zD];rw[bq (n:=(i:Int)+1) (by omega)];rfl
theorem dg2 {i:Nat}{out st:Zd}(hl:l.length<=1000)(hst:st.length<=1000)(hi:i<l.length)(hk:l[i].1=7)(ho:out.length=l.length):
  dv l ((i:Int),Za,out,st,st)=C (.inl (((i+1:Nat):Int),Za,out.set i (-1),st++[(i:Int)],st++[(i:Int)])):=by
 simp only[dv];rw[zB (show(i:Int)<(l.length:Int)by omega),zC,ci hi];simp only[zG];generalize hx:l[i]=x at*;rw[zA (show¬x.1<0 by omega),zD,zA (show¬7<x.1 by omega),zD,zA (show¬x.1=0 by omega)];simp only[zD,zG,cn];rw[cl (show i<out.length by omega)];simp only[zG];rw[aD (show i<out.length by omega)];simp only[zG];rw[zB hk];simp only[zC];rw[dh (by omega) (by omega),dh (by omega) (by omega),bq (n:=(i:Int)+1) (by omega)];rfl
theorem cV7 {i q:Nat}{out st:Zd}(hl:l.length<=1000)(hst:st.length<1000)(hi:i<l.length)(hk:l[i].1=0)(ho:out.length=l.length)(hq:q<l.length):
  dv l ((i:Int),Za,out,st++[(q:Int)],st++[(q:Int)])=C (.inl (((i+1:Nat):Int),Za,((out.set i (-1)).set i (q:Int)).set q (i:Int),st,st)):=by
 have hlen:(st++[(q:Int)]).length=st.length+1:=by simp
 simp only[dv];rw[zB (show(i:Int)<(l.length:Int)by omega),zC,ci hi];simp only[zG];generalize hx:l[i]=x at*;rw[zA (show¬x.1<0 by omega),zD,zA (show¬7<x.1 by omega),zD,zB hk];simp only[zC,zG,cn];rw[zA (show¬((st++[(q:Int)]).length:Int)=0 by omega),zD];rw[bq (n:=((st++[(q:Int)]).length:Int)-1) (by omega),lF (by omega),fq];simp only[zG,cn];have e7:Zc (x.1=7)=Zb:=zA (by omega);rw[cl (show i<out.length by omega)];simp only[zG];rw[aD (show i<out.length by omega)];simp only[zG];rw[e7,zD,show((st++[(q:Int)]).length:Int)-1=(st.length:Int)by rw[hlen];omega,cl (show st.length<(st++[(q:Int)]).length by omega)];simp only[zG];rw[dD (aB _),bD];simp only[jB,zG]
 rw[fq,cl (show i<(out.set i (-1)).length by simp;omega)];simp only[zG];rw[aD (show i<(out.set i (-1)).length by simp;omega)];simp only[zG];rw[cl (show q<((out.set i (-1)).set i ((q:Nat):Int)).length by simp;omega)];simp only[zG];rw[aD (show q<((out.set i (-1)).set i ((q:Nat):Int)).length by simp;omega)];simp only[zG]
 have htk:(st++[(q:Int)]).take ((st.length:Int).toNat-0)=st:=by
  rw[show(st.length:Int).toNat-0=st.length by omega,iK];rfl
 rw[htk,bq (n:=(i:Int)+1) (by omega)];rfl
theorem cb6 (hl:l.length<=1000): ∀(k:Nat) (A seg B:List cq) (out st:Zd),seg.length<=k->l=A++seg++B->co seg 0=C 0->out.length=l.length->st.length<=A.length->
  ∃out',Reach (dv l) seg.length ((A.length:Int),Za,out,st,st) (((A.length+seg.length:Nat):Int),Za,out',st,st)/\out'.length=l.length/\
   (∀j,¬(A.length<=j/\j<A.length+seg.length)->out'[j]?=out[j]?)/\∀j,A.length<=j->j<A.length+seg.length->(hj:j<l.length)->l[j].1=7->∀inner e rest,l.drop (j+1)=inner++e::rest->e.1=0->co inner 0=C 0->out'[j]?=C ((j+1+inner.length:Nat):Int)
 |k,A,[],B,out,st,_,hsplit,hs,ho,hst=>⟨out,Reach.refl,ho,λj _=>rfl,λj h1 h2=>by simp at h2;omega⟩
 |0,A,o::seg,B,out,st,hk,_,_,_,_=>by simp at hk
 |k+1,A,o::seg,B,out,st,hk,hsplit,hs,ho,hst=>by
  simp only[cD]at hk⊢;have hlen:l.length=A.length+(seg.length+1)+B.length:=by rw[hsplit];simp;omega
  have hlt:A.length<l.length:=by omega
  have hget:l[A.length]=o:=by
   have:l[A.length]?=C o:=by
    rw[hsplit,dB,dD (aB _),bD];rfl
   rw[aD hlt]at this;injection this
  by_cases hk7:o.1=7
  .have hs1:co seg 1=C 0:=by
    simp only[co]at hs;rw[zF (by omega),zF (by omega),zE hk7]at hs;exact hs
   obtain⟨inner,e,rest,h1,h2,h3,h4⟩:=an3 _ seg 0 (aB _) hs1;subst h1;simp only[eB,cD]at hk hlen⊢
   have hd:l.drop (A.length+1)=inner++e::(rest++B):=by
    rw[hsplit,dB,iC,iD (by omega),show A.length+1-A.length=1 by omega];simp
   have hA1:(A++[o]).length=A.length+1:=by simp
   obtain⟨S1,r1,l1,k1,g1⟩:=cb6 hl k (A++[o]) inner (e::(rest++B)) (out.set A.length (-1)) (st++[(A.length:Int)]) (by omega) (by rw[hsplit];simp) h3 (by simp[ho]) (by simp;omega);rw[hA1]at r1 k1 g1;have hei:A.length+1+inner.length<l.length:=by omega
   have hee:l[A.length+1+inner.length]=e:=by
    have h5:(l.drop (A.length+1))[inner.length]?=C e:=by
     rw[hd,dD (aB _),bD];rfl
    rw[iE,aD hei]at h5;injection h5
   have c1:=cV7 (st:=st) hl (by omega) hei (by rw[hee];exact h2) l1 hlt;have hA2:(A++o::(inner++[e])).length=A.length+1+inner.length+1:=by simp;omega
   obtain⟨S2,r2,l3,k2,g2⟩:=cb6 hl k (A++o::(inner++[e])) rest B (((S1.set (A.length+1+inner.length) (-1)).set (A.length+1+inner.length) (A.length:Int)).set A.length ((A.length+1+inner.length:Nat):Int)) st (by omega) (by rw[hsplit];simp) h4 (by simp[l1]) (by omega);rw[hA2]at r2 k2 g2;refine⟨S2, ?_,l3,λj hj=> ?_,λj h5 h6 hj hk inner' e' rest' p1 p2 p3=> ?_⟩
   .have h0:=Reach.one (dg2 (out:=out) (st:=st) hl (by omega) hlt (by rw[hget];exact hk7) ho);have h7:=((h0.trans r1).trans (Reach.one c1)).trans r2;rw[show 1+inner.length+1+rest.length=inner.length+(rest.length+1)+1 by omega,show A.length+1+inner.length+1+rest.length=A.length+(inner.length+(rest.length+1)+1)by omega]at h7;exact h7
   .rw[k2 j (by omega),cB (by omega),cB (by omega),cB (by omega),k1 j (by omega),cB (by omega)]
   .by_cases hj1:A.length+1+inner.length+1<=j
    .exact g2 j hj1 (by omega) hj hk inner' e' rest' p1 p2 p3
    .rw[k2 j (by omega)];by_cases hj2:A.length=j
     .subst hj2;rw[gW (by simp;omega)];have:=xy (hd.symm.trans p1) h3 p3 h2 p2;subst this;rfl
     .have hj3:j<A.length+1+inner.length:=by
       by_cases hj4:j<A.length+1+inner.length
       .exact hj4
       .exfalso;have hj4:j=A.length+1+inner.length:=by omega
        subst hj4;rw[hee]at hk;omega
      rw[cB hj2,cB (by omega),cB (by omega)];exact g1 j (by omega) hj3 hj hk inner' e' rest' p1 p2 p3
  .obtain⟨hsr,hko,_⟩:=bI5 hs hk7;have hA1:(A++[o]).length=A.length+1:=by simp
   have c1:=dz3 (out:=out) (st:=st) hl (by omega) hlt (by rw[hget];exact hko) ho;obtain⟨S1,r1,l1,k1,g1⟩:=cb6 hl k (A++[o]) seg B (out.set A.length (-1)) st (by omega) (by rw[hsplit];simp) hsr (by simp[ho]) (by omega);rw[hA1]at r1 k1 g1;refine⟨S1, ?_,l1,λj hj=> ?_,λj h5 h6 hj hk inner' e' rest' p1 p2 p3=> ?_⟩
   .have h7:=(Reach.one c1).trans r1;rw[show 1+seg.length=seg.length+1 by omega,show A.length+1+seg.length=A.length+(seg.length+1)by omega]at h7;exact h7
   .rw[k1 j (by omega),cB (by omega)]
   .by_cases hj1:A.length+1<=j
    .exact g1 j hj1 (by omega) hj hk inner' e' rest' p1 p2 p3
    .have hj2:j=A.length:=by omega
     subst hj2;exact(hk7 (by rw[<-hget];exact hk)).elim
theorem bj8 (hl:l.length<=1000)(hs:co l 0=C 0): ∃m,lT l=C (0,m)/\MOK l m:=by
 obtain⟨S',r1,l1,k1,g1⟩:=cb6 (l:=l) hl _ [] l [] (bB ((l.length:Int)).toNat (0:Int)) [] (aB _) (by simp) hs (by simp) (by simp);rw[show([]:List cq).length+l.length=l.length by simp]at r1 g1
 have hloop:ca (dv l) dq ((0:Int),Za,bB ((l.length:Int)).toNat (0:Int),([]:Zd),([]:Zd))=C (Za,S',[],[]):=by
  have h1:=r1 (18446744073709551616-l.length);rw[show 18446744073709551616-l.length+l.length=dq by unfold dq;omega,show 18446744073709551616-l.length=(18446744073709551615-l.length)+1 by omega]at h1;refine h1.trans ?_;rw[df];simp only[dv];rw[zA (by omega),zD];rfl
 refine⟨S', ?_,⟨l1,λi hi hk inner e rest p1 p2 p3=>g1 i (gR _) hi hi hk inner e rest p1 p2 p3⟩⟩;unfold lT;rw[zB (show(0:Int)<=(l.length:Int)by omega),zB (show(l.length:Int)<=(l.length:Int)by omega),zB (show 8*(l.length:Int)<=140737488355328 by omega)];show gd Za _=_;rw[fq,hloop];rfl
end
section
variable {l:List cq}
theorem cU4 {i:Nat}{sz rds:Zd}{pre:List (Int×Int)}{a w:Int}(hl:l.length<=1000)(hp:pre.length<=1000)(hi:i<l.length):
  dk l ((i:Int),sz,rds,pre++[(a,w)])=(cond (Zc (l[i].1=7))
   (C (.inl (((i+1:Nat):Int),sz,rds,pre++[(a,w)]++[((i:Int),0)])))
   (cond (Zc (l[i].1=0))
    ((rd l a).bind λx14=>
    (sT w x14.2.2.2.2).bind λr15=>
    cond (!r15.2)
     (C (.inr ((9,sz,rds,pre++[(a,w)]))))
     ((ix a sz.length).bind λj19=>
     (sz[j19]?).bind λx20=>
     (ix a rds.length).bind λj21=>
     (rds[j21]?).bind λx22=>
     gd (lq 0 (pre.length:Int) (pre.length+1)) ((ix (zH zI ((pre.length:Int)-1)) pre.length).bind λj23=>
     ((pre++[(a,w)])[(0+j23)]?).bind λx24=>
     (xM ([x24.2,r15.1])).bind λr25=>
     (ix (zH zI ((pre.length:Int)-1)) pre.length).bind λj26=>
     ((pre++[(a,w)])[(0+j26)]?).bind λx27=>
     C (.inl (((i+1:Nat):Int),(iH sz j19 r15.1),(iH rds j21 w),(List.take pre.length ((iH (pre++[(a,w)]) (0+j26) ((x27.1,r25))))))))))
    ((ko l[i].1 l[i].2.1 l[i].2.2.1 l[i].2.2.2.1 l[i].2.2.2.2).bind λr28=>
    cond (r28.2)
     ((ix (i:Int) sz.length).bind λj29=>
     (sz[j29]?).bind λx30=>
     C (.inl (((i+1:Nat):Int),(iH sz j29 1),rds,pre++[(a,zH zI (w+1))])))
     (C (.inl (((i+1:Nat):Int),sz,rds,pre++[(a,w)])))))):=by
 have hlen:(pre++[(a,w)]).length=pre.length+1:=by simp
 have hget:(pre++[(a,w)])[pre.length]?=C (a,w):=by
  rw[dD (aB _),bD];rfl
 have hset: ∀w',(pre++[(a,w)]).set pre.length (a,w')=pre++[(a,w')]:=by
  intro w';rw[iI _ _ (aB _),bD];rfl
 simp only[dk];rw[zB (show(i:Int)<(l.length:Int)by omega),zC,ci hi];simp only[zG];rw[hlen,bq (n:=((pre.length+1:Nat):Int)-1) (by omega),show((pre.length+1:Nat):Int)-1=(pre.length:Int)by omega,cl (show pre.length<pre.length+1 by omega)];simp only[zG];rw[hget,bq (n:=(i:Int)+1) (by omega),dh (by omega) (by omega),show(i:Int)+1=((i+1:Nat):Int)by omega];simp only[zG];rw[hset,show((pre.length:Int).toNat-0)=pre.length by omega]
theorem dF0 {i:Nat}{sz rds:Zd}{pre:List (Int×Int)}{a w:Int}(hl:l.length<=1000)(hp:pre.length<=1000)(hi:i<l.length)(hk:0<l[i].1/\l[i].1<7)(hsz:sz.length=l.length)(hw:0<=w/\w<=1000000000):
  dk l ((i:Int),sz,rds,pre++[(a,w)])=C (.inl (((i+1:Nat):Int),sz.set i 1,rds,pre++[(a,w+1)])):=by
 rw[cU4 hl hp hi,zA (by omega),zA (by omega)];simp only[zD];rw[aJ1 hk];simp only[zG,zC];rw[cl (show i<sz.length by omega)];simp only[zG];rw[aD (show i<sz.length by omega)];simp only[zG];rw[bq (n:=w+1) (by omega)]
theorem ds8 {i:Nat}{sz rds:Zd}{pre:List (Int×Int)}{a w:Int}(hl:l.length<=1000)(hp:pre.length<=1000)(hi:i<l.length)(hk:l[i].1=7):
  dk l ((i:Int),sz,rds,pre++[(a,w)])=C (.inl (((i+1:Nat):Int),sz,rds,pre++[(a,w)]++[((i:Int),0)])):=by
 rw[cU4 hl hp hi,zB hk,zC]
theorem df5 {i an:Nat}{sz rds:Zd}{pre:List (Int×Int)}{a w w2 n:Int}(hl:l.length<=1000)(hp:pre.length<1000)(hi:i<l.length)(hk:l[i].1=0)(han:an<l.length)(hsz:sz.length=l.length)(hrd:rds.length=l.length)(hw:0<=w/\w<=1000000000)(hw2:0<=w2/\w2<=1000000000)
  (hv:0<=l[an].2.2.2.2/\l[an].2.2.2.2<=18446744073709551615) (hb:yZ w l[an].2.2.2.2=C n):
  dk l ((i:Int),sz,rds,pre++[(a,w2)]++[((an:Int),w)])=C (.inl (((i+1:Nat):Int),sz.set an n,rds.set an w,pre++[(a,w2+n)])):=by
 have hl2:(pre++[(a,w2)]).length=pre.length+1:=by simp
 rw[cU4 hl (by omega) hi,zA (by omega),zB hk];simp only[zD,zC];rw[ci han];simp only[zG];rw[bz1 ⟨hw.1,by omega⟩ hv,hb];have hn:=aS2 hw.1 hv.1 hb;simp only[zG,hC,zD];rw[cl (show an<sz.length by omega)];simp only[zG];rw[aD (show an<sz.length by omega)];simp only[zG];rw[cl (show an<rds.length by omega)];simp only[zG];rw[aD (show an<rds.length by omega)];simp only[zG];rw[lF (by omega),fq,hl2,bq (n:=((pre.length+1:Nat):Int)-1) (by omega),show((pre.length+1:Nat):Int)-1=(pre.length:Int)by omega,cl (show pre.length<pre.length+1 by omega)];simp only[zG,gP]
 have hg2:(pre++[(a,w2)]++[((an:Int),w)])[pre.length]?=C (a,w2):=by
  rw[dB,dD (aB _),bD];rfl
 rw[hg2];simp only[zG];rw[cq7 _ _ (by omega) hn];simp only[zG]
 have htk:((pre++[(a,w2)]++[((an:Int),w)]).set pre.length (a,w2+n)).take (pre.length+1)=pre++[(a,w2+n)]:=by
  rw[dB,iI _ _ (aB _),bD];show(pre++[(a,w2+n),((an:Int),w)]).take (pre.length+1)=_;rw[show [(a,w2+n),((an:Int),w)]=[(a,w2+n)]++[((an:Int),w)]from rfl,<-dB,iK];simp
 rw[htk]
def dp8 (l:List cq)(j:Nat)(a b:Int):Prop:= ∀h:j<l.length,(l[j].1=7->∀inner e rest,l.drop (j+1)=inner++e::rest->e.1=0->co inner 0=C 0->Q9 inner=C b/\yZ b l[j].2.2.2.2=C a)/\(l[j].1≠7->b=0/\a=if l[j].1=0 then 0 else 1)
theorem cE0 (hl:l.length<=1000)(hv: ∀o∈l,0<=o.2.2.2.2/\o.2.2.2.2<=18446744073709551615): ∀(k:Nat) (A seg B:List cq) (S R:Zd) (pre:List (Int×Int)) (p w t:Int),seg.length<=k->l=A++seg++B->co seg 0=C 0->Q9 seg=C t->S.length=l.length->R.length=l.length->pre.length<=A.length->0<=w/\w<=65537*A.length->(∀j,A.length<=j->j<A.length+seg.length->S[j]?=C 0/\R[j]?=C 0)->
  ∃S' R',Reach (dk l) seg.length ((A.length:Int),S,R,pre++[(p,w)]) (((A.length+seg.length:Nat):Int),S',R',pre++[(p,w+t)])/\S'.length=l.length/\R'.length=l.length/\(0<=t/\t<=65537*seg.length)/\
   (∀j,¬(A.length<=j/\j<A.length+seg.length)->S'[j]?=S[j]?/\R'[j]?=R[j]?)/\∀j,A.length<=j->j<A.length+seg.length->∃a b,S'[j]?=C a/\R'[j]?=C b/\dp8 l j a b
 |k,A,[],B,S,R,pre,p,w,t,_,hsplit,hs,hq,hS,hR,hpre,hw,hz=>by
  injection hq with hq
  subst hq;refine⟨S,R, ?_,hS,hR,⟨hZ _,by simp⟩,λj _=>⟨rfl,rfl⟩,λj h1 h2=> ?_⟩
  .rw[hO];exact Reach.refl
  .simp at h2;omega
 |0,A,o::seg,B,S,R,pre,p,w,t,hk,_,_,_,_,_,_,_,_=>by simp at hk
 |k+1,A,o::seg,B,S,R,pre,p,w,t,hk,hsplit,hs,hq,hS,hR,hpre,hw,hz=>by
  simp only[cD]at hk hz⊢;have hlen:l.length=A.length+(seg.length+1)+B.length:=by rw[hsplit];simp;omega
  have hlt:A.length<l.length:=by omega
  have hget:l[A.length]=o:=by
   have:l[A.length]?=C o:=by
    rw[hsplit,dB,dD (aB _),bD];rfl
   rw[aD hlt]at this;injection this
  by_cases hk7:o.1=7
  .have hs1:co seg 1=C 0:=by
    simp only[co]at hs;rw[zF (by omega),zF (by omega),zE hk7]at hs;exact hs
   obtain⟨inner,e,rest,h1,h2,h3,h4⟩:=an3 _ seg 0 (aB _) hs1;subst h1;simp only[eB,cD]at hk hz hlen⊢;obtain⟨hsr,hQ⟩:=bU0 hs hk7 h2 h3;rw[hQ]at hq;obtain⟨wi,hwi,hq⟩:=bx hq;obtain⟨b,hb,hq⟩:=bx hq;cases hqr:Q9 rest with
   |none=>rw[hqr]at hq;cases hq
   |some tr=>
   rw[hqr]at hq;injection hq with hq
   have hq:b+tr=t:=hq;have hov:0<=o.2.2.2.2/\o.2.2.2.2<=18446744073709551615:=by rw[<-hget];exact hv _ (gB hlt)
   have hd:l.drop (A.length+1)=inner++e::(rest++B):=by
    rw[hsplit,dB,iC,iD (by omega),show A.length+1-A.length=1 by omega];simp
   have hA1:(A++[o]).length=A.length+1:=by simp
   obtain⟨S1,R1,r1,l1,l2,⟨t1,t2⟩,k1,g1⟩:=cE0 hl hv k (A++[o]) inner (e::(rest++B)) S R (pre++[(p,w)]) (A.length:Int) 0 wi (by omega) (by rw[hsplit];simp) h3 hwi hS hR (by simp;omega) (by omega) (λj h5 h6=>hz j (by omega) (by omega));rw[hA1]at r1 k1 g1;have hei:A.length+1+inner.length<l.length:=by omega
   have hee:l[A.length+1+inner.length]=e:=by
    have h5:(l.drop (A.length+1))[inner.length]?=C e:=by
     rw[hd,dD (aB _),bD];rfl
    rw[iE,aD hei]at h5;injection h5
   have hbn:=aS2 t1 hov.1 hb;have c1:=df5 (pre:=pre) (a:=p) (w2:=w) hl (by omega) hei (by rw[hee];exact h2) hlt l1 l2 (w:=0+wi) (by omega) (by omega) (by rw[hget];exact hov) (n:=b) (by rw[hget,eD];exact hb);have hA2:(A++o::(inner++[e])).length=A.length+1+inner.length+1:=by simp;omega
   obtain⟨S2,R2,r2,l3,l4,⟨t3,t4⟩,k2,g2⟩:=cE0 hl hv k (A++o::(inner++[e])) rest B (S1.set A.length b) (R1.set A.length (0+wi)) pre p (w+b) tr (by omega) (by rw[hsplit];simp) hsr hqr (by simp[l1]) (by simp[l2]) (by omega) (by omega) (λj h5 h6=>by
    rw[hA2]at h5 h6;rw[cB (by omega),cB (by omega),(k1 j (by omega)).1,(k1 j (by omega)).2]
    exact hz j (by omega) (by omega))
   rw[hA2]at r2 k2 g2;refine⟨S2,R2, ?_,l3,l4,⟨by omega,by omega⟩,λj hj=> ?_,λj h5 h6=> ?_⟩
   .have h0:=Reach.one (ds8 (sz:=S) (rds:=R) (pre:=pre) (a:=p) (w:=w) hl (by omega) hlt (by rw[hget];exact hk7));have h7:=((h0.trans r1).trans (Reach.one c1)).trans r2;rw[show 1+inner.length+1+rest.length=inner.length+(rest.length+1)+1 by omega,gD,hq,show A.length+1+inner.length+1+rest.length=A.length+(inner.length+(rest.length+1)+1)by omega]at h7;exact h7
   .rw[(k2 j (by omega)).1,(k2 j (by omega)).2,cB (by omega),cB (by omega),(k1 j (by omega)).1,(k1 j (by omega)).2];exact⟨rfl,rfl⟩
   .by_cases hj1:A.length+1+inner.length+1<=j
    .exact g2 j hj1 (by omega)
    .rw[(k2 j (by omega)).1,(k2 j (by omega)).2];by_cases hj2:A.length=j
     .subst hj2;rw[gW (by omega),gW (by omega)];refine⟨_,_,rfl,rfl,λh=>⟨λ_ inner' e' rest' p1 p2 p3=> ?_,λh'=>(h' (by rw[hget];exact hk7)).elim⟩⟩;have:=xy (hd.symm.trans p1) h3 p3 h2 p2;subst this;rw[eD,hget];exact⟨hwi,hb⟩
     .rw[cB hj2,cB hj2];by_cases hj3:j<A.length+1+inner.length
      .exact g1 j (by omega) hj3
      .have hj4:j=A.length+1+inner.length:=by omega
       subst hj4;rw[(k1 _ (by omega)).1,(k1 _ (by omega)).2,(hz _ h5 h6).1,(hz _ h5 h6).2];refine⟨0,0,rfl,rfl,λh=>⟨λh'=> ?_,λ_=>⟨rfl, ?_⟩⟩⟩
       .rw[hee]at h';omega
       .rw[hee,zE h2]
  .obtain⟨hsr,hko,hQ⟩:=bI5 hs hk7;rw[hQ]at hq;cases hqr:Q9 seg with
   |none=>rw[hqr]at hq;cases hq
   |some tr=>
   rw[hqr]at hq;injection hq with hq
   have hq:1+tr=t:=hq;have hA1:(A++[o]).length=A.length+1:=by simp
   have c1:=dF0 (sz:=S) (rds:=R) (pre:=pre) (a:=p) (w:=w) hl (by omega) hlt (by rw[hget];exact hko) hS (by omega)
   obtain⟨S1,R1,r1,l1,l2,⟨t1,t2⟩,k1,g1⟩:=cE0 hl hv k (A++[o]) seg B (S.set A.length 1) R pre p (w+1) tr (by omega) (by rw[hsplit];simp) hsr hqr (by simp[hS]) hR (by omega) (by omega) (λj h5 h6=>by
    rw[hA1]at h5 h6;rw[cB (by omega)]
    exact hz j (by omega) (by omega))
   rw[hA1]at r1 k1 g1;refine⟨S1,R1, ?_,l1,l2,⟨by omega,by omega⟩,λj hj=> ?_,λj h5 h6=> ?_⟩
   .have h7:=(Reach.one c1).trans r1;rw[show 1+seg.length=seg.length+1 by omega,gD,hq,show A.length+1+seg.length=A.length+(seg.length+1)by omega]at h7;exact h7
   .rw[(k1 j (by omega)).1,(k1 j (by omega)).2,cB (by omega)];exact⟨rfl,rfl⟩
   .by_cases hj1:A.length+1<=j
    .exact g1 j hj1 (by omega)
    .have hj2:j=A.length:=by omega
     subst hj2;rw[(k1 _ (by omega)).1,(k1 _ (by omega)).2,gW (by omega),(hz _ h5 h6).2];refine⟨1,0,rfl,rfl,λh=>⟨λh'=>(hk7 (by rw[<-hget];exact h')).elim,λ_=>⟨rfl, ?_⟩⟩⟩;rw[hget,zF (by omega)]
end
theorem aV6 {l:List cq}(hl:l.length<=100)(hv: ∀o∈l,0<=o.2.2.2.2/\o.2.2.2.2<=18446744073709551615):
  ∃r,lb l=C r/\r.1=(eg l).1/\r.2.1=(eg l).2/\(((eg l).2≠0/\r.2.2=([],[]))∨((eg l).2=0/\co l 0=C 0/\r.2.2.1.length=l.length/\r.2.2.2.length=l.length/\∀j,j<l.length->∃a b,r.2.2.1[j]?=C a/\r.2.2.2[j]?=C b/\dp8 l j a b)):=by
 have hW:=vx (by omega) hv;unfold jq at hW;obtain⟨r,hr,hW⟩:=bx hW;injection hW with hW
 refine⟨r,hr,by rw[<-hW],by rw[<-hW], ?_⟩;unfold lb at hr;obtain⟨m,hm⟩:=aM3 (l:=l) (by omega);rw[hm]at hr;by_cases hs:co l 0=C 0
 .simp only[zE hs]at hr;simp only[zG]at hr;rw[zA (by simp),zD]at hr;rw[zB (show(0:Int)<=(l.length:Int)by omega),zB (show(l.length:Int)<=(l.length:Int)by omega),zB (show 8*(l.length:Int)<=140737488355328 by omega)]at hr;have hgd: ∀{β:Type} {y:Option β},gd (iL 1 (Sh.w (.int .i64))&&Za&&Za&&Za&&Nat.ble 1 8) y=y:=λ{β y}=>rfl
  rw[hgd,hgd]at hr;cases hq:Q9 l with
  |none=>
   have hw9:eg l=(0,9):=by unfold eg;rw[zE hs,hq]
   left;refine⟨by rw[hw9];simp, ?_⟩;obtain⟨c,hc,hr⟩:=bx hr;obtain⟨s36,h36,hr⟩:=bx hr;rw[bv]at hr;split at hr
   .injection hr with hr
    rw[<-hr]
   .rename_i hz;exfalso;obtain⟨j,hj,hr⟩:=bx hr;obtain⟨x,hx,hr⟩:=bx hr;injection hr with hr
    rw[<-hr,hw9]at hW;injection hW with _ hW
    cases hW
  |some t=>
   obtain⟨S',R',r1,l1,l2,⟨t1,t2⟩,k1,g1⟩:=cE0 (l:=l) (by omega) hv _ [] l [] (bB ((l.length:Int)).toNat (0:Int)) (bB ((l.length:Int)).toNat (0:Int)) [] 0 0 t (aB _) (by simp) hs hq (by simp) (by simp) (by simp) (by simp) (λj _ hj=>by
    rw[List.getElem?_replicate,zE (by simpa using hj)]
    exact⟨rfl,rfl⟩)
   rw[show([]:List cq).length+l.length=l.length by simp]at r1 g1
   have hloop:ca (dk l) dq ((0:Int),bB ((l.length:Int)).toNat (0:Int),bB ((l.length:Int)).toNat (0:Int),[((0:Int),(0:Int))])=C (0,S',R',[(0,0+t)]):=by
    have h1:=r1 (18446744073709551616-l.length);rw[show 18446744073709551616-l.length+l.length=dq by unfold dq;omega,show 18446744073709551616-l.length=(18446744073709551615-l.length)+1 by omega]at h1;refine h1.trans ?_;rw[df];simp only[dk];rw[zA (by omega),zD];rfl
   rw[hloop,eD]at hr;have hr:((((cond (Zc (65536<t)) (C (9:Int)) (C 0)).bind λs36=>cond (Zc (s36≠0)) (C ((0:Int),s36,([]:Zd),([]:Zd))) (C (t,0,S',R')))))=C r:=hr;rw[bv]at hr;have hw9:eg l=if 65536<t then(0,9)else(t,0):=by unfold eg;rw[zE hs,hq]
   by_cases c:65536<t
   .rw[zE c]at hr hw9;left;injection hr with hr
    rw[<-hr,hw9];exact⟨by simp,rfl⟩
   .rw[zF c]at hr hw9;right;injection hr with hr
    rw[<-hr,hw9];exact⟨rfl,hs,l1,l2,λj hj=>g1 j (gR _) hj⟩
 .simp only[zF hs]at hr;left;have hw9:eg l=(0,6):=by unfold eg;rw[zF hs]
  have hr:C ((0:Int),(6:Int),([]:Zd),([]:Zd))=C r:=hr;injection hr with hr
  rw[<-hr,hw9];exact⟨by simp,rfl⟩
abbrev xg :=Int×Int×Int×Int×Int×Int
inductive Fo where
 |nil
 |op (o:cq) (r:Fo)
 |rep (o:cq) (b:Fo) (e:cq) (r:Fo)
def oQ (o:cq):Nat:=o.2.2.2.2.toNat
def di (o:cq)(to:Nat):xg:=(o.1,o.2.1,o.2.2.1,o.2.2.2.1,o.2.2.2.2,(to:Int))
namespace Fo
def src :Fo->List cq
 | .nil=>[]
 | .op o r=>o::r.src
 | .rep o b e r=>o::(b.src++e::r.src)
def Ok :Fo->Prop
 | .nil=>True
 | .op o r=>(0<o.1/\o.1<7)/\r.Ok
 | .rep o b e r=>(o.1=7/\e.1=0)/\b.Ok/\r.Ok
def n :Fo->Nat
 | .nil=>0
 | .op _ r=>1+r.n
 | .rep o b _ r=>b.n*oQ o+r.n
def len :Fo->Nat
 | .nil=>0
 | .op _ r=>r.len+1
 | .rep _ b _ r=>b.len+r.len+2
def hi :Fo->Nat
 | .nil=>0
 | .op _ r=>r.hi
 | .rep _ b _ r=>max (b.hi+1) r.hi
def bare :Fo->Fo
 | .nil=> .nil
 | .op o r=> .op o r.bare
 | .rep o b e r=>if b.n*oQ o=0 then r.bare else .rep o b.bare e r.bare
def unroll :Fo->List cq
 | .nil=>[]
 | .op o r=>o::r.unroll
 | .rep o b _ r=>(bB (oQ o) b.unroll).flatten++r.unroll
def code :Fo->Nat->List xg
 | .nil,_=>[]
 | .op o r,p=>di o 0::r.code (p+1)
 | .rep o b e r,p=>di o (p+b.len+2)::(b.code (p+1)++di e (p+1)::r.code (p+b.len+2))
def Pos :Fo->Prop
 | .nil=>True
 | .op _ r=>r.Pos
 | .rep o b _ r=>0<b.n*oQ o/\b.Pos/\r.Pos
def steps :Fo->Nat
 | .nil=>0
 | .op _ r=>1+r.steps
 | .rep o b _ r=>1+oQ o*(b.steps+1)+r.steps
theorem src_len : ∀f:Fo,f.src.length=f.len
 | .nil=>rfl
 | .op o r=>by simp only[src,len,cD,src_len r]
 | .rep o b e r=>by simp only[src,len,cD,eB,src_len r,src_len b];omega
theorem code_len : ∀(f:Fo) (p:Nat),(f.code p).length=f.len
 | .nil,_=>rfl
 | .op o r,p=>by simp only[code,len,cD,code_len r]
 | .rep o b e r,p=>by simp only[code,len,cD,eB,code_len r,code_len b];omega
theorem scan_src : ∀(f:Fo),f.Ok->∀(r:List cq) (d:Nat),co (f.src++r) d=co r d
 | .nil,_,r,d=>rfl
 | .op o f,h,r,d=>by
  obtain⟨h1,h2⟩:=h;simp only[src,fD,co];rw[zF (by omega),zF (by omega),zF (by omega)];exact scan_src f h2 r d
 | .rep o b e f,h,r,d=>by
  obtain⟨⟨h1,h2⟩,h3,h4⟩:=h;simp only[src,fD,dB,co];rw[zF (by omega),zF (by omega),zE h1,scan_src b h3];simp only[co];rw[zF (by omega),zE h2,zF (by omega)];exact scan_src f h4 r d
theorem scan0 {f:Fo}(h:f.Ok):co f.src 0=C 0:=by
 have:=scan_src f h [] 0;rw[iB]at this;exact this
theorem parse : ∀(N:Nat) (l:List cq),l.length<=N->co l 0=C 0->∃f:Fo,f.Ok/\f.src=l
 |_,[],_,_=>⟨.nil,trivial,rfl⟩
 |0,o::l,h,_=>by simp at h
 |N+1,o::l,h,hs=>by
  simp only[cD]at h;by_cases hk:o.1=7
  .have hs1:co l 1=C 0:=by
    simp only[co]at hs;rw[zF (by omega),zF (by omega),zE hk]at hs;exact hs
   obtain⟨inner,e,rest,h1,h2,h3,h4⟩:=an3 _ l 0 (aB _) hs1;subst h1;simp only[eB,cD]at h;obtain⟨b,b1,b2⟩:=parse N inner (by omega) h3;obtain⟨r,r1,r2⟩:=parse N rest (by omega) h4;exact⟨.rep o b e r,⟨⟨hk,h2⟩,b1,r1⟩,by simp only[src,b2,r2]⟩
  .obtain⟨h1,h2,_⟩:=bI5 hs hk;obtain⟨r,r1,r2⟩:=parse N l (by omega) h1;exact⟨.op o r,⟨h2,r1⟩,by simp only[src,r2]⟩
theorem Q9_n : ∀(f:Fo),f.Ok->(∀o∈f.src,0<=o.2.2.2.2)->∀{t:Int},Q9 f.src=C t->t=(f.n:Int)
 | .nil,_,_,t,h=>by
  injection h with h
  exact h.symm
 | .op o r,h,hv,t,hq=>by
  obtain⟨h1,h2⟩:=h;have hs:=scan0 (f:= .op o r) ⟨h1,h2⟩;obtain⟨_,_,h3⟩:=bI5 (o:=o) (s:=r.src) hs (by omega);have hq:Q9 (o::r.src)=C t:=hq;rw[h3]at hq;cases hr:Q9 r.src with
  |none=>rw[hr]at hq;cases hq
  |some m=>
   rw[hr]at hq;injection hq with hq
   have:=Q9_n r h2 (λx hx=>hv x (List.mem_cons_of_mem _ hx)) hr;subst this;rw[<-hq];show(1:Int)+(r.n:Int)=((1+r.n:Nat):Int);omega
 | .rep o b e r,h,hv,t,hq=>by
  obtain⟨⟨h1,h2⟩,h3,h4⟩:=h;have hs:=scan0 (f:= .rep o b e r) ⟨⟨h1,h2⟩,h3,h4⟩;obtain⟨_,h5⟩:=bU0 (o:=o) (e:=e) (inner:=b.src) (rest:=r.src) hs h1 h2 (scan0 h3);have hq:Q9 (o::(b.src++e::r.src))=C t:=hq;rw[h5]at hq;obtain⟨w,hw,hq⟩:=bx hq;obtain⟨c,hc,hq⟩:=bx hq;cases hr:Q9 r.src with
  |none=>rw[hr]at hq;cases hq
  |some m=>
   rw[hr]at hq;injection hq with hq
   have e1:=Q9_n r h4 (λx hx=>hv x (by simp only[src];simp[hx])) hr;have e2:=Q9_n b h3 (λx hx=>hv x (by simp only[src];simp[hx])) hw;have hv0:0<=o.2.2.2.2:=hv o (by simp[src])
   have e3:c=(b.n:Int)*(oQ o:Int):=by
    unfold yZ at hc;rw[e2]at hc;unfold oQ;rw[iP hv0];split at hc
    .rename_i hz;injection hc with hc
     rw[hz,Int.zero_mul,hc]
    split at hc
    .cases hc
    split at hc
    .cases hc
    .injection hc with hc
     exact hc.symm
   rw[<-hq,e1,e3];show(b.n:Int)*(oQ o:Int)+(r.n:Int)=((b.n*oQ o+r.n:Nat):Int);simp
theorem hmax_src : ∀(f:Fo),f.Ok->∀(r:List cq) (d m:Nat),hmax (f.src++r) d m=hmax r d (max m (if f.hi=0 then 0 else d+f.hi))
 | .nil,_,r,d,m=>by
  simp only[src,gO,hi,zE];rw[Nat.max_zero]
 | .op o f,h,r,d,m=>by
  obtain⟨h1,h2⟩:=h;simp only[src,fD,hmax,hi];rw[zF (by omega),zF (by omega)];exact hmax_src f h2 r d m
 | .rep o b e f,h,r,d,m=>by
  obtain⟨⟨h1,h2⟩,h3,h4⟩:=h;simp only[src,fD,dB,hmax,hi];rw[zE h1,hmax_src b h3];simp only[hmax];rw[zF (by omega),zE h2,jG,hmax_src f h4]
  congr 1
  have e0:(if max (b.hi+1) f.hi=0 then 0 else d+max (b.hi+1) f.hi)=d+max (b.hi+1) f.hi:=zF (by omega);refine Eq.trans ?_ (congrArg (max m) e0.symm);split<;>split<;>omega
theorem hi_le {f:Fo}(h:f.Ok):f.hi<=hmax f.src 0 0:=by
 have:=hmax_src f h [] 0 0;rw[iB]at this;rw[this];simp only[hmax];split<;>omega
theorem bare_n : ∀f:Fo,f.bare.n=f.n
 | .nil=>rfl
 | .op o r=>by simp only[bare,n,bare_n r]
 | .rep o b e r=>by
  simp only[bare,n];split
  .rename_i h;rw[h,bare_n r,gP]
  .simp only[n,bare_n b,bare_n r]
theorem lA : ∀f:Fo,f.unroll.length=f.n
 | .nil=>rfl
 | .op o r=>by simp only[unroll,n,cD,lA r];omega
 | .rep o b e r=>by
  simp only[unroll,n,eB,lA r];rw[jC,jD,jF,lA b,iX]
theorem bare_unroll : ∀f:Fo,f.bare.unroll=f.unroll
 | .nil=>rfl
 | .op o r=>by simp only[bare,unroll,bare_unroll r]
 | .rep o b e r=>by
  simp only[bare,unroll];split
  .rename_i h
   have h1:((bB (oQ o) b.unroll).flatten).length=0:=by
    rw[jC,jD,jF,lA b,iX,h]
   rw[List.eq_nil_of_length_eq_zero h1,gO,bare_unroll r]
  .simp only[unroll,bare_unroll b,bare_unroll r]
theorem bare_ok : ∀f:Fo,f.Ok->f.bare.Ok
 | .nil,_=>trivial
 | .op o r,h=>⟨h.1,bare_ok r h.2⟩
 | .rep o b e r,h=>by
  simp only[bare];split
  .exact bare_ok r h.2.2
  .exact⟨h.1,bare_ok b h.2.1,bare_ok r h.2.2⟩
theorem bare_pos : ∀f:Fo,f.bare.Pos
 | .nil=>trivial
 | .op o r=>bare_pos r
 | .rep o b e r=>by
  simp only[bare];split
  .exact bare_pos r
  .rename_i h;exact⟨by rw[bare_n];omega,bare_pos b,bare_pos r⟩
theorem bare_hi : ∀f:Fo,f.bare.hi<=f.hi
 | .nil=>aB _
 | .op o r=>bare_hi r
 | .rep o b e r=>by
  simp only[bare,hi];have h1:=bare_hi b;have h2:=bare_hi r;split
  .omega
  .simp only[hi];omega
theorem bare_len : ∀f:Fo,f.bare.len<=f.len
 | .nil=>aB _
 | .op o r=>by simp only[bare,len];exact Nat.succ_le_succ (bare_len r)
 | .rep o b e r=>by
  simp only[bare,len];have h1:=bare_len b;have h2:=bare_len r;split
  .omega
  .simp only[len];omega
theorem bare_mem : ∀(f:Fo) {o:cq},o∈f.bare.src->o∈f.src
 | .nil,o,h=>h
 | .op o r,x,h=>by
  simp only[bare,src,gZ]at h⊢;rcases h with h|h
  .exact .inl h
  .exact .inr (bare_mem r h)
 | .rep o b e r,x,h=>by
  simp only[bare]at h;split at h
  .simp only[src,gZ,iU];exact .inr (.inr (.inr (bare_mem r h)))
  .simp only[src,gZ,iU]at h⊢;rcases h with h|h|h|h
   .exact .inl h
   .exact .inr (.inl (bare_mem b h))
   .exact .inr (.inr (.inl h))
   .exact .inr (.inr (.inr (bare_mem r h)))
theorem nN : ∀(f:Fo),f.Ok->∀{o:cq},o∈f.unroll->o∈f.src/\0<o.1/\o.1<7
 | .nil,_,o,h=>by cases h
 | .op o r,hk,x,h=>by
  simp only[unroll,src,gZ]at h⊢;rcases h with rfl|h
  .exact⟨.inl rfl,hk.1⟩
  .have:=nN r hk.2 h;exact⟨.inr this.1,this.2⟩
 | .rep o b e r,hk,x,h=>by
  simp only[unroll,src,gZ,iU]at h⊢;rcases h with h|h
  .obtain⟨l,hl,hx⟩:=List.mem_flatten.1 h;rw[List.eq_of_mem_replicate hl]at hx;have:=nN b hk.2.1 hx;exact⟨.inr (.inl this.1),this.2⟩
  .have:=nN r hk.2.2 h;exact⟨.inr (.inr (.inr this.1)),this.2⟩
theorem steps_le : ∀f:Fo,f.Pos->f.steps<=(2*f.len+1)*f.n
 | .nil,_=>aB _
 | .op o r,h=>by
  have h1:=steps_le r h;simp only[steps,len,n];rw[iW,iN];have:(2*r.len+1)*r.n<=(2*(r.len+1)+1)*r.n:=iY _ (by omega);omega
 | .rep o b e r,h=>by
  obtain⟨h1,h2,h3⟩:=h;have i1:=steps_le b h2;have i2:=steps_le r h3;simp only[steps,len,n]
  have hv:0<oQ o:=by
   rcases iM (oQ o)with h0|h0
   .rw[h0]at h1;simp at h1
   .exact h0
  have hb:0<b.n:=by
   rcases iM b.n with h0|h0
   .rw[h0]at h1;simp at h1
   .exact h0
  have hx:oQ o<=b.n*oQ o:=Nat.le_mul_of_pos_left _ hb
  have j1:oQ o*(b.steps+1)<=(2*b.len+1)*(b.n*oQ o)+b.n*oQ o:=by
   rw[iW,iN];have:oQ o*b.steps<=oQ o*((2*b.len+1)*b.n):=Nat.mul_le_mul_left _ i1
   have e1:oQ o*((2*b.len+1)*b.n)=(2*b.len+1)*(b.n*oQ o):=by
    rw[iX,Nat.mul_assoc]
   omega
  have j2:(2*r.len+1)*r.n<=(2*(b.len+r.len+2)+1)*r.n:=iY _ (by omega);have j3:(2*b.len+3)*(b.n*oQ o)<=(2*(b.len+r.len+2)+1)*(b.n*oQ o):=iY _ (by omega)
  have j4:(2*b.len+3)*(b.n*oQ o)=(2*b.len+1)*(b.n*oQ o)+b.n*oQ o+b.n*oQ o:=by
   rw[show 2*b.len+3=(2*b.len+1)+1+1 by omega,Nat.add_mul,Nat.add_mul,Nat.one_mul]
  rw[iW (2*(b.len+r.len+2)+1)];generalize oQ o*(b.steps+1)=y1 at*;generalize (2*(b.len+r.len+2)+1)*(b.n*oQ o)=y2 at*;generalize (2*(b.len+r.len+2)+1)*r.n=y3 at*;generalize (2*r.len+1)*r.n=y4 at*;generalize (2*b.len+3)*(b.n*oQ o)=y5 at*;generalize (2*b.len+1)*(b.n*oQ o)=y6 at*;omega
end Fo
def upd (l:Nat->Int)(j:Nat)(v:Int):Nat->Int:=λi=>cond (iL j i) v (l i)
theorem qL (l:Nat->Int)(j:Nat)(v:Int):upd l j v j=v:=by
 unfold upd;rw[Nat.beq_refl];rfl
theorem bc0 {l:Nat->Int}{j i:Nat}{v:Int}(h:i≠j):upd l j v i=l i:=by
 unfold upd;cases hb:iL j i with
 |true=>exact(h (Nat.eq_of_beq_eq_true hb).symm).elim
 |false=>rfl
def okV (o:cq):Prop:=0<=o.2.2.2.2/\o.2.2.2.2<=18446744073709551615
structure Runs {Y γ S:Type}(g:Y->Option (Y⊕γ))(code:List xg)(st:Nat->Nat->(Nat->Int)->S->Y)(stp:cq->S->S)(Vd:Nat->S->Prop)(good:cq->Prop):Prop where
 op: ∀{p d l s m o to},code[p]?=C (di o to)->good o->(0<o.1/\o.1<7)->d<=8->Vd (1+m) s->g (st p d l s)=C (.inl (st (p+1) d l (stp o s)))/\Vd m (stp o s)
 rep: ∀{p d l s m o to},code[p]?=C (di o to)->o.1=7->d<8->Vd m s->g (st p d l s)=C (.inl (st (p+1) (d+1) (upd l d o.2.2.2.2) s))
 nxt: ∀{p d l s m e to},code[p]?=C (di e to)->e.1=0->d<8->1<l d->l d<=18446744073709551615->Vd m s->g (st p (d+1) l s)=C (.inl (st to (d+1) (upd l d (l d-1)) s))
 out: ∀{p d l s m e to},code[p]?=C (di e to)->e.1=0->d<8->l d=1->Vd m s->g (st p (d+1) l s)=C (.inl (st (p+1) d (upd l d (l d-1)) s))
section
variable {Y γ S:Type} {g:Y->Option (Y⊕γ)} {code:List xg} {st:Nat->Nat->(Nat->Int)->S->Y} {stp:cq->S->S} {Vd:Nat->S->Prop} {good:cq->Prop}
def vC (stp:cq->S->S)(l:List cq)(s:S):S:=l.foldl (λs o=>stp o s) s
theorem bl4 (l r:List cq)(s:S):vC stp (l++r) s=vC stp r (vC stp l s):=List.foldl_append
theorem aC2 {A B:List xg}{x:xg}{r:List xg}{p:Nat}(hc:code=A++(x::r)++B)(hp:A.length=p):code[p]?=C x:=by
 subst hp;rw[hc,dB,dD (aB _),bD];rfl
theorem rounds (hg:Runs g code st stp Vd good){p q d t n:Nat}{e:cq}{u:List cq}(hd:d<8)(hend:code[q]?=C (di e p))(he:e.1=0)
  (hb: ∀(l:Nat->Int) (s:S) (m:Nat),Vd (n+m) s->∃l',(∀i,i<d+1->l' i=l i)/\Reach g t (st p (d+1) l s) (st q (d+1) l' (vC stp u s))/\Vd m (vC stp u s)):
  ∀(k:Nat) (l:Nat->Int) (s:S) (m:Nat),k<18446744073709551615->l d=((k+1:Nat):Int)->Vd (n*(k+1)+m) s->
   ∃l',(∀i,i<d->l' i=l i)/\Reach g ((k+1)*(t+1)) (st p (d+1) l s) (st (q+1) d l' (vC stp (bB (k+1) u).flatten s))/\Vd m (vC stp (bB (k+1) u).flatten s)
 |0,l,s,m,hk,hl,hv=>by
  obtain⟨l1,h1,h2,h3⟩:=hb l s m (by rw[gP,iN]at hv;exact hv);have hu:(bB (0+1) u).flatten=u:=by simp
  rw[hu];have hl1:l1 d=1:=by rw[h1 d (by omega),hl];rfl
  refine⟨upd l1 d (l1 d-1),λi hi=>by rw[bc0 (by omega),h1 i (by omega)], ?_,h3⟩;have h4:=h2.trans (Reach.one (hg.out (l:=l1) hend he hd hl1 h3));rw[show(0+1)*(t+1)=t+1 by omega];exact h4
 |k+1,l,s,m,hk,hl,hv=>by
  have hn:n*(k+1+1)+m=n+(n*(k+1)+m):=by rw[Nat.mul_succ n (k+1)];omega
  rw[hn]at hv;obtain⟨l1,h1,h2,h3⟩:=hb l s _ hv;have hl1:l1 d=((k+1+1:Nat):Int):=by rw[h1 d (by omega),hl]
  have h4:=h2.trans (Reach.one (hg.nxt (l:=l1) hend he hd (by omega) (by omega) h3));obtain⟨l2,h5,h6,h7⟩:=rounds hg hd hend he hb k (upd l1 d (l1 d-1)) (vC stp u s) m (by omega) (by rw[qL,hl1];omega) h3;have hu:(bB (k+1+1) u).flatten=u++(bB (k+1) u).flatten:=by rw[List.replicate_succ,List.flatten_cons]
  rw[hu,bl4];refine⟨l2,λi hi=>by rw[h5 i hi,bc0 (by omega),h1 i (by omega)], ?_,h7⟩;rw[show(k+1+1)*(t+1)=t+1+(k+1)*(t+1)by rw[Nat.succ_mul (k+1)];omega];exact h4.trans h6
theorem by3 (hg:Runs g code st stp Vd good): ∀(f:Fo) {A B:List xg} {p d:Nat} {l:Nat->Int} {s:S} {m:Nat},code=A++f.code p++B->A.length=p->f.Ok->f.Pos->d+f.hi<=8->(∀o∈f.src,good o/\okV o)->Vd (f.n+m) s->
  ∃l',(∀i,i<d->l' i=l i)/\Reach g f.steps (st p d l s) (st (p+f.len) d l' (vC stp f.unroll s))/\Vd m (vC stp f.unroll s)
 | .nil,A,B,p,d,l,s,m,hc,hp,hk,hq,hh,hgd,hv=>by
  refine⟨l,λ_ _=>rfl,Reach.refl, ?_⟩;have:Fo.nil.n+m=m:=gP m;rw[this]at hv;exact hv
 | .op o r,A,B,p,d,l,s,m,hc,hp,hk,hq,hh,hgd,hv=>by
  simp only[Fo.n,Nat.add_assoc]at hv;simp only[Fo.hi]at hh;obtain⟨h1,h2⟩:=hg.op (d:=d) (l:=l) (aC2 hc hp) (hgd o (by simp[Fo.src])).1 hk.1 (by omega) hv;have hA:(A++[di o 0]).length=p+1:=by simp[hp]
  obtain⟨l',h3,h4,h5⟩:=by3 hg r (A:=A++[di o 0]) (B:=B) (p:=p+1) (d:=d) (l:=l) (by rw[hc];simp[Fo.code]) hA hk.2 hq hh (λx hx=>hgd x (by simp[Fo.src,hx])) h2;refine⟨l',h3, ?_,h5⟩;have:=(Reach.one h1).trans h4;simp only[Fo.steps,Fo.len];rw[show p+(r.len+1)=p+1+r.len by omega];exact this
 | .rep o b e r,A,B,p,d,l,s,m,hc,hp,hk,hq,hh,hgd,hv=>by
  obtain⟨⟨k1,k2⟩,k3,k4⟩:=hk;obtain⟨q1,q2,q3⟩:=hq;simp only[Fo.n,Nat.add_assoc]at hv;simp only[Fo.hi]at hh;have hov:=(hgd o (by simp[Fo.src])).2;unfold okV at hov;have hvo:((oQ o:Nat):Int)=o.2.2.2.2:=iP hov.1
  have hv0:0<oQ o:=by
   rcases iM (oQ o)with h0|h0
   .rw[h0]at q1;simp at q1
   .exact h0
  obtain⟨k,hk⟩: ∃k,oQ o=k+1:=⟨oQ o-1,by omega⟩
  have h1:=hg.rep (d:=d) (l:=l) (aC2 hc hp) k1 (by omega) hv;have hA:(A++[di o (p+b.len+2)]).length=p+1:=by simp[hp]
  have hcb:code=(A++[di o (p+b.len+2)])++b.code (p+1)++(di e (p+1)::r.code (p+b.len+2)++B):=by rw[hc];simp[Fo.code]
  have hce:code=(A++di o (p+b.len+2)::b.code (p+1))++(di e (p+1)::r.code (p+b.len+2))++B:=by rw[hc];simp[Fo.code]
  have hAe:(A++di o (p+b.len+2)::b.code (p+1)).length=p+1+b.len:=by simp[hp,Fo.code_len];omega
  have hend:=aC2 hce hAe
  obtain⟨l1,h2,h3,h4⟩:=rounds hg (p:=p+1) (q:=p+1+b.len) (d:=d) (t:=b.steps) (n:=b.n) (e:=e) (u:=b.unroll) (by omega) hend k2
   (λl s m hm=>by3 hg b hcb hA k3 q2 (by omega) (λx hx=>hgd x (by simp[Fo.src,hx])) hm) k (upd l d o.2.2.2.2) s (r.n+m) (by omega) (by rw[qL,<-hvo,hk]) (by rw[<-hk];exact hv)
  have hcr:code=(A++di o (p+b.len+2)::(b.code (p+1)++[di e (p+1)]))++r.code (p+b.len+2)++B:=by rw[hc];simp[Fo.code]
  have hAr:(A++di o (p+b.len+2)::(b.code (p+1)++[di e (p+1)])).length=p+b.len+2:=by simp[hp,Fo.code_len];omega
  obtain⟨l2,h5,h6,h7⟩:=by3 hg r (d:=d) (l:=l1) hcr hAr k4 q3 (by omega) (λx hx=>hgd x (by simp[Fo.src,hx])) h4;simp only[Fo.unroll,Fo.steps,Fo.len];rw[bl4,hk];refine⟨l2,λi hi=>by rw[h5 i hi,h2 i hi,bc0 (by omega)], ?_,h7⟩;have h8:=((Reach.one h1).trans h3).trans (show Reach g r.steps (st (p+1+b.len+1) d l1 _) _ from by rw[show p+1+b.len+1=p+b.len+2 by omega];exact h6);rw[show p+(b.len+r.len+2)=p+b.len+2+r.len by omega];exact h8
end
structure Backs {Y γ S:Type}(g:Y->Option (Y⊕γ))(code:List xg)(st:Nat->Nat->(Nat->Int)->S->Y)(stp:cq->S->S)(Vd:Nat->S->Prop)(good:cq->Prop):Prop where
 op: ∀{p d l s m o to},code[p]?=C (di o to)->good o->(0<o.1/\o.1<7)->d<=8->Vd (1+m) s->g (st (p+1) d l s)=C (.inl (st p d l (stp o s)))/\Vd m (stp o s)
 rep: ∀{p q d l s m o e to},code[p]?=C (di e (q+1))->e.1=0->code[q]?=C (di o to)->d<8->Vd m s->g (st (p+1) d l s)=C (.inl (st p (d+1) (upd l d o.2.2.2.2) s))
 nxt: ∀{p d l s m o to},code[p]?=C (di o (to+1))->to<=code.length->o.1=7->d<8->1<l d->l d<=18446744073709551615->Vd m s->g (st (p+1) (d+1) l s)=C (.inl (st to (d+1) (upd l d (l d-1)) s))
 out: ∀{p d l s m o to},code[p]?=C (di o (to+1))->o.1=7->d<8->l d=1->Vd m s->g (st (p+1) (d+1) l s)=C (.inl (st p d (upd l d (l d-1)) s))
section
variable {Y γ S:Type} {g:Y->Option (Y⊕γ)} {code:List xg} {st:Nat->Nat->(Nat->Int)->S->Y} {stp:cq->S->S} {Vd:Nat->S->Prop} {good:cq->Prop}
def zc (stp:cq->S->S)(l:List cq)(s:S):S:=l.foldr stp s
theorem bZ1 (l r:List cq)(s:S):zc stp (l++r) s=zc stp l (zc stp r s):=List.foldr_append
theorem cF3 (hg:Backs g code st stp Vd good){p q d t n:Nat}{o:cq}{u:List cq}(hq:q<=code.length)(hd:d<8)(hbeg:code[p]?=C (di o (q+1)))(ho:o.1=7)
  (hb: ∀(l:Nat->Int) (s:S) (m:Nat),Vd (n+m) s->∃l',(∀i,i<d+1->l' i=l i)/\Reach g t (st q (d+1) l s) (st (p+1) (d+1) l' (zc stp u s))/\Vd m (zc stp u s)):
  ∀(k:Nat) (l:Nat->Int) (s:S) (m:Nat),k<18446744073709551615->l d=((k+1:Nat):Int)->Vd (n*(k+1)+m) s->
   ∃l',(∀i,i<d->l' i=l i)/\Reach g ((k+1)*(t+1)) (st q (d+1) l s) (st p d l' (zc stp (bB (k+1) u).flatten s))/\Vd m (zc stp (bB (k+1) u).flatten s)
 |0,l,s,m,hk,hl,hv=>by
  obtain⟨l1,h1,h2,h3⟩:=hb l s m (by rw[gP,iN]at hv;exact hv);have hu:(bB (0+1) u).flatten=u:=by simp
  rw[hu];have hl1:l1 d=1:=by rw[h1 d (by omega),hl];rfl
  refine⟨upd l1 d (l1 d-1),λi hi=>by rw[bc0 (by omega),h1 i (by omega)], ?_,h3⟩;have h4:=h2.trans (Reach.one (hg.out (l:=l1) hbeg ho hd hl1 h3));rw[show(0+1)*(t+1)=t+1 by omega];exact h4
 |k+1,l,s,m,hk,hl,hv=>by
  have hn:n*(k+1+1)+m=n+(n*(k+1)+m):=by rw[Nat.mul_succ n (k+1)];omega
  rw[hn]at hv;obtain⟨l1,h1,h2,h3⟩:=hb l s _ hv;have hl1:l1 d=((k+1+1:Nat):Int):=by rw[h1 d (by omega),hl]
  have h4:=h2.trans (Reach.one (hg.nxt (l:=l1) hbeg hq ho hd (by omega) (by omega) h3));obtain⟨l2,h5,h6,h7⟩:=cF3 hg hq hd hbeg ho hb k (upd l1 d (l1 d-1)) (zc stp u s) m (by omega) (by rw[qL,hl1];omega) h3;have hu:(bB (k+1+1) u).flatten=(bB (k+1) u).flatten++u:=by rw[jE,List.flatten_append];simp
  rw[hu,bZ1];refine⟨l2,λi hi=>by rw[h5 i hi,bc0 (by omega),h1 i (by omega)], ?_,h7⟩;rw[show(k+1+1)*(t+1)=t+1+(k+1)*(t+1)by rw[Nat.succ_mul (k+1)];omega];exact h4.trans h6
theorem bl0 (hg:Backs g code st stp Vd good): ∀(f:Fo) {A B:List xg} {p d:Nat} {l:Nat->Int} {s:S} {m:Nat},code=A++f.code p++B->A.length=p->f.Ok->f.Pos->d+f.hi<=8->(∀o∈f.src,good o/\okV o)->Vd (f.n+m) s->
  ∃l',(∀i,i<d->l' i=l i)/\Reach g f.steps (st (p+f.len) d l s) (st p d l' (zc stp f.unroll s))/\Vd m (zc stp f.unroll s)
 | .nil,A,B,p,d,l,s,m,hc,hp,hk,hq,hh,hgd,hv=>by
  refine⟨l,λ_ _=>rfl,Reach.refl, ?_⟩;have:Fo.nil.n+m=m:=gP m;rw[this]at hv;exact hv
 | .op o r,A,B,p,d,l,s,m,hc,hp,hk,hq,hh,hgd,hv=>by
  simp only[Fo.n]at hv;simp only[Fo.hi]at hh;have hA:(A++[di o 0]).length=p+1:=by simp[hp]
  obtain⟨l',h3,h4,h5⟩:=bl0 hg r (A:=A++[di o 0]) (B:=B) (p:=p+1) (d:=d) (l:=l) (m:=1+m) (by rw[hc];simp[Fo.code]) hA hk.2 hq hh (λx hx=>hgd x (by simp[Fo.src,hx])) (by rw[show r.n+(1+m)=1+r.n+m by omega];exact hv);obtain⟨h1,h2⟩:=hg.op (d:=d) (l:=l') (aC2 hc hp) (hgd o (by simp[Fo.src])).1 hk.1 (by omega) h5;refine⟨l',h3, ?_,h2⟩;have:=h4.trans (Reach.one h1);simp only[Fo.steps,Fo.len];rw[show p+(r.len+1)=p+1+r.len by omega,Nat.add_comm 1];exact this
 | .rep o b e r,A,B,p,d,l,s,m,hc,hp,hk,hq,hh,hgd,hv=>by
  obtain⟨⟨k1,k2⟩,k3,k4⟩:=hk;obtain⟨q1,q2,q3⟩:=hq;simp only[Fo.n]at hv;simp only[Fo.hi]at hh;have hov:=(hgd o (by simp[Fo.src])).2;unfold okV at hov;have hvo:((oQ o:Nat):Int)=o.2.2.2.2:=iP hov.1
  have hv0:0<oQ o:=by
   rcases iM (oQ o)with h0|h0
   .rw[h0]at q1;simp at q1
   .exact h0
  obtain⟨k,hk⟩: ∃k,oQ o=k+1:=⟨oQ o-1,by omega⟩
  have hbeg:=aC2 hc hp;have hA:(A++[di o (p+b.len+2)]).length=p+1:=by simp[hp]
  have hcb:code=(A++[di o (p+b.len+2)])++b.code (p+1)++(di e (p+1)::r.code (p+b.len+2)++B):=by rw[hc];simp[Fo.code]
  have hce:code=(A++di o (p+b.len+2)::b.code (p+1))++(di e (p+1)::r.code (p+b.len+2))++B:=by rw[hc];simp[Fo.code]
  have hAe:(A++di o (p+b.len+2)::b.code (p+1)).length=p+1+b.len:=by simp[hp,Fo.code_len];omega
  have hend:=aC2 hce hAe;have hcr:code=(A++di o (p+b.len+2)::(b.code (p+1)++[di e (p+1)]))++r.code (p+b.len+2)++B:=by rw[hc];simp[Fo.code]
  have hAr:(A++di o (p+b.len+2)::(b.code (p+1)++[di e (p+1)])).length=p+b.len+2:=by simp[hp,Fo.code_len];omega
  obtain⟨l2,h5,h6,h7⟩:=bl0 hg r (d:=d) (l:=l) (m:=b.n*oQ o+m) hcr hAr k4 q3 (by omega) (λx hx=>hgd x (by simp[Fo.src,hx])) (by rw[show r.n+(b.n*oQ o+m)=b.n*oQ o+r.n+m by omega];exact hv);have h1:=hg.rep (d:=d) (l:=l2) hend k2 hbeg (by omega) h7
  obtain⟨l1,h2,h3,h4⟩:=cF3 hg (p:=p) (q:=p+1+b.len) (d:=d) (t:=b.steps) (n:=b.n) (o:=o) (u:=b.unroll) (Nat.le_of_lt (List.getElem?_eq_some_iff.1 hend).1) (by omega) (by rw[hbeg];congr 2;omega) k1
   (λl s m hm=>bl0 hg b hcb hA k3 q2 (by omega) (λx hx=>hgd x (by simp[Fo.src,hx])) hm) k (upd l2 d o.2.2.2.2) _ m (by omega) (by rw[qL,<-hvo,hk]) (by rw[<-hk];exact h7)
  simp only[Fo.unroll,Fo.steps,Fo.len];rw[bZ1,hk];refine⟨l1,λi hi=>by rw[h2 i hi,bc0 (by omega),h5 i hi], ?_,h4⟩;have h8:=(h6.trans (show Reach g 1 _ _ from by rw[show p+b.len+2=p+1+b.len+1 by omega];exact Reach.one h1)).trans h3;rw[show p+(b.len+r.len+2)=p+b.len+2+r.len by omega,show 1+(k+1)*(b.steps+1)+r.steps=r.steps+1+(k+1)*(b.steps+1)by omega];exact h8
end
end
end Go.V
