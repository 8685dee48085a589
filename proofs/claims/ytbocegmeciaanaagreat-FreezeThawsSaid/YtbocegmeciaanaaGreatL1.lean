/- A part of the proofs of this claim: what functions of the program answer on an abstract machine, and plain laws. No condition. -/
import Derived.Test.YtbocegmeciaanaaGreatD2
import Derived.Test.YtbocegmeciaanaaGreatA6
import Derived.KernelRfl
set_option linter.unusedVariables false
set_option linter.unusedSimpArgs false
set_option linter.unusedSectionVars false
namespace Go.V
open Go.Ab
open Option renaming some->C,none->O
open Bool renaming true->Za,false->Zb
open Decidable renaming decide->Zc
section
open Go.IntKind renaming wrap -> wB, i64 -> wC, u64 -> wD
open Bool renaming not_true -> iN
open Int renaming zero_add -> fB, add_assoc -> iA, mul_comm -> iF, mul_nonneg -> iG, add_zero -> iO, ediv_le_self -> iP, ediv_nonneg -> iQ, le_refl -> iR, mul_le_mul_of_nonneg_left -> iS, mul_ediv_self_le -> mB, toNat_of_nonneg -> mD, eq_ofNat_of_zero_le -> rD, toNat_natCast -> sB
open List renaming getElem?_eq_getElem -> aD, replicate -> bB, getElem?_set_ne -> cB, length_cons -> cD, append_assoc -> dB, getElem?_append_right -> dD, length_append -> eD, range -> fD, cons_append -> gB, getElem_mem -> gD, nil_append -> iB, getElem_cons_drop -> iD, drop_length -> iH, getD -> iI, getElem?_set_self -> iJ, length -> iK, map_append -> iL, mem_cons -> iM, append_nil -> iT, drop_append -> iU, drop_of_length_le -> iV, getElem?_drop -> iW, length_drop -> iX, range_succ -> iY, set -> iZ, set_append_right -> jB, take_append_drop -> jD, take_left' -> kB, any_cons -> nB, any_nil -> nD, dropLast_concat_getLast -> oB, length_take -> oD, mem_append -> pB, take_succ_eq_append_getElem -> pD, getElem?_cons_zero -> sD, length_flatten -> tB, map_replicate -> tD, replicate_succ' -> uA, sum_replicate_nat -> uB
open Nat renaming le_refl -> aB, sub_self -> bD, zero_add -> iC, zero_le -> iE, beq -> kD, eq_zero_or_pos -> lB, mul_one -> lD, mul_add -> qB, mul_comm -> qD, mul_le_mul_right -> rB, add_sub_cancel -> uC
set_option maxRecDepth 100000
abbrev df :=Int×Int×Int×Int×Int
def dj :List df->Nat->Option Nat
 |[],d=>C d
 |o::r,d=>if o.1<0∨7<o.1 then O else if o.1=0 then(if d=0 then O else dj r (d-1))else if o.1=7 then dj r (d+1)else dj r d
theorem zp : ∀(l r:List df) (d:Nat),dj (l++r) d=(dj l d).bind (dj r)
 |[],r,d=>rfl
 |o::l,r,d=>by
  simp only[gB,dj];split
  .rfl
  split
  .split
   .rfl
   .exact zp l r _
  split
  .exact zp l r _
  .exact zp l r _
theorem by6 : ∀(l:List df) (d d':Nat),dj l d=C d'->dj l (d+1)=C (d'+1)
 |[],d,d',h=>by
  injection h with h
  subst h;rfl
 |o::l,d,d',h=>by
  simp only[dj]at h⊢;split at h
  .cases h
  rename_i c;rw[xD c];split at h
  .rename_i c2;rw[xB c2];split at h
   .cases h
   .rename_i c3;rw[xD (by omega)];have:=by6 l _ _ h
    rwa [show d-1+1=d+1-1 by omega]at this
  rename_i c2;rw[xD c2];split at h
  .rename_i c3;rw[xB c3];exact by6 l _ _ h
  .rename_i c3;rw[xD c3];exact by6 l _ _ h
def dJ1 (l:List df)(s:Int×Bool×(Zd)×(Zd)×Zd):Prop:=
 ∃(i:Nat) (out st:Zd),i<=l.length/\s=((i:Int),Za,out,st,st)/\out.length=l.length/\(∀x∈st,0<=x/\x<l.length)/\st.length<=i/\dj (l.drop i) st.length=dj l 0
theorem dC9 {st:Zd}(h:st≠[]): ∃pre x,st=pre++[x]:=⟨st.dropLast,st.getLast h,(oB h).symm⟩
theorem cR0 {l:List df}(hl:l.length<=100000)(s:Int×Bool×(Zd)×(Zd)×Zd)(h:dJ1 l s):
  (∃b,fh l s=C (.inl b)/\dJ1 l b/\l.length-b.1.toNat<l.length-s.1.toNat)∨∃c,fh l s=C (.inr c)/\((c.1=Zb/\dj l 0=O)∨(c.1=Za/\dj l 0=C c.2.2.1.length)):=by
 obtain⟨i,out,st,hi,rfl,ho,hst,hsl,hsc⟩:=h;by_cases c:i<l.length
 .have hdrop:l.drop i=l[i]::l.drop (i+1):=(iD c).symm;rw[hdrop]at hsc;simp only[fh];rw[zD (show(i:Int)<(l.length:Int)by omega),yB,dh c];simp only[wA];generalize hx:l[i]=x at*;simp only[dj]at hsc;by_cases k0:x.1<0
  .rw[xB (.inl k0)]at hsc;rw[zD k0];simp only[yB,wA,dg];exact .inr ⟨_,rfl, .inl ⟨rfl,hsc.symm⟩⟩
  rw[zB k0,yD];by_cases k7:7<x.1
  .rw[xB (.inr k7)]at hsc;rw[zD k7];simp only[yB,wA,cq,dg];exact .inr ⟨_,rfl, .inl ⟨rfl,hsc.symm⟩⟩
  rw[zB k7,yD];rw[xD (by omega)]at hsc;by_cases kz:x.1=0
  .rw[xB kz]at hsc;rw[zD kz];simp only[yB,wA,cq];by_cases hs0:st.length=0
   .rw[xB hs0]at hsc;rw[zD (show(st.length:Int)=0 by omega)];simp only[yB,wA,dg];exact .inr ⟨_,rfl, .inl ⟨rfl,hsc.symm⟩⟩
   .rw[xD hs0]at hsc;rw[zB (show¬(st.length:Int)=0 by omega),yD];rw[bg (n:=(st.length:Int)-1) (by omega),i7 (by omega),fg];simp only[wA,cq];obtain⟨pre,q,rfl⟩:=dC9 (st:=st) (by intro e;subst e;exact hs0 rfl);have hq:=hst q (by simp);have hlen:(pre++[q]).length=pre.length+1:=by simp
    have ht:(((pre++[q]).length:Int)-1).toNat-0=pre.length:=by rw[hlen];omega
    have e7:Zc (x.1=7)=Zb:=zB (by omega);rw[cw (show i<out.length by omega)];simp only[wA];rw[aD (show i<out.length by omega)];simp only[wA];rw[e7,yD,show((pre++[q]).length:Int)-1=(pre.length:Int)by rw[hlen];omega,cw (show pre.length<(pre++[q]).length by omega)];simp only[wA];rw[dD (aB _),bD];simp only[sD,wA];rw[fg,cw (show i<(out.set i (-1)).length by simp;omega)];simp only[wA];rw[aD (show i<(out.set i (-1)).length by simp;omega)];simp only[wA];obtain⟨qn,rfl⟩:=rD hq.1;have hqn:qn<out.length:=by omega
    rw[cw (show qn<((out.set i (-1)).set i ((qn:Nat):Int)).length by simp;omega)];simp only[wA];rw[aD (show qn<((out.set i (-1)).set i ((qn:Nat):Int)).length by simp;omega)];simp only[wA]
    have htk:(pre++[(qn:Int)]).take ((pre.length:Int).toNat-0)=pre:=by
     rw[show(pre.length:Int).toNat-0=pre.length by omega,kB];rfl
    rw[htk,bg (n:=(i:Int)+1) (by omega)];refine .inl ⟨_,rfl,⟨i+1,_,pre,c,rfl,by simp[ho],λy hy=>hst y (by simp[hy]),by rw[hlen]at hsl;omega, ?_⟩,by simp;omega⟩;rw[hlen]at hsc;exact hsc
  .rw[xD kz]at hsc;have ez:Zc (x.1=0)=Zb:=zB kz;rw[ez];simp only[yD,wA,cq];rw[cw (show i<out.length by omega)];simp only[wA];rw[aD (show i<out.length by omega)];simp only[wA];by_cases k7:x.1=7
   .rw[xB k7]at hsc;rw[zD k7];simp only[yB];rw[ej (by omega) (by omega),ej (by omega) (by omega),bg (n:=(i:Int)+1) (by omega)];refine .inl ⟨_,rfl,⟨i+1,_,st++[(i:Int)],c,rfl,by simp[ho],λy hy=> ?_,by simp;omega, ?_⟩,by simp;omega⟩
    .rcases List.mem_append.1 hy with hy|hy
     .exact hst y hy
     .simp at hy;subst hy;omega
    .rw[eD];exact hsc
   .rw[xD k7]at hsc;rw[zB k7];simp only[yD];rw[bg (n:=(i:Int)+1) (by omega)];exact .inl ⟨_,rfl,⟨i+1,_,st,c,rfl,by simp[ho],hst,by omega,hsc⟩,by simp;omega⟩
 .have hi':i=l.length:=by omega
  subst hi';rw[iH]at hsc;simp only[fh];rw[zB (show¬(l.length:Int)<(l.length:Int)by omega),yD];exact .inr ⟨_,rfl, .inr ⟨rfl,hsc.symm⟩⟩
theorem bp8 {l:List df}(hl:l.length<=100000): ∃m,rz l=C (if dj l 0=C 0 then 0 else 6,m):=by
 unfold rz;rw[zD (show(0:Int)<=(l.length:Int)by omega),zD (show(l.length:Int)<=(l.length:Int)by omega),zD (show 8*(l.length:Int)<=140737488355328 by omega)];show∃m,gd Za _=_
 rw[fg]
 obtain⟨c,hc,h⟩:=ap4 (f:=fh l) (a:=((0:Int),Za,bB ((l.length:Int)).toNat (0:Int),([]:Zd),([]:Zd))) (dJ1 l) (λs=>l.length-s.1.toNat) (λc=>(c.1=Zb/\dj l 0=O)∨(c.1=Za/\dj l 0=C c.2.2.1.length))
  ⟨0,_,[],iE _,rfl,by simp,(λx hx=>by cases hx),aB _,rfl⟩ (by simp;omega) (λs hs=>cR0 hl s hs)
 rw[hc];simp only[wA];rcases h with⟨h1,h2⟩|⟨h1,h2⟩
 .rw[h1,h2];exact⟨_,rfl⟩
 .rw[h1,h2,yB];by_cases c0:c.2.2.1.length=0
  .rw[zD (show(c.2.2.1.length:Int)=0 by omega),xB (by rw[c0])];exact⟨_,rfl⟩
  .rw[zB (show¬(c.2.2.1.length:Int)=0 by omega),xD (by intro e;injection e with e;exact c0 e)];exact⟨_,rfl⟩
def aE5 (w v:Int):Option Int:=if w=0 then C 0 else if 65536<w then O else if 65536 / w<v then O else C (w*v)
def ab3 :List df->List (Int×Int)->Option (List (Int×Int))
 |[],st=>C st
 |o::r,(v,w)::st=>if o.1=7 then ab3 r ((o.2.2.2.2,0)::(v,w)::st)else if o.1=0 then(match aE5 w v,st with
   |some n,(v',w')::st'=>ab3 r ((v',w'+n)::st')
   |_,_=>O)
  else ab3 r ((v,w+1)::st)
 |_::_,[]=>O
theorem bZ4 {w v:Int}(hw:0<=w/\w<=10000000000)(hv:0<=v/\v<=18446744073709551615):ag1 w v=C (match aE5 w v with
  |some n=>(n,Za)
  |none=>(0,Zb)):=by
 unfold ag1 aE5;simp only[cd];by_cases c1:w=0
 .rw[xB c1,xB c1]
 rw[xD c1,xD c1];by_cases c2:65536<w
 .rw[xB c2,xB c2]
 rw[xD c2,xD c2,zD (show w≠0 from c1),fg,da4 (by omega)];have h1:0<=65536 / w:=iQ (by omega) (by omega);have h2:65536 / w<=65536:=iP _ (by omega);rw[bg (n:=65536 / w) (by omega),gq (by omega)];by_cases c3:65536 / w<v
 .rw[xB c3,xB c3]
 .rw[xD c3,xD c3]
  have h3:w*v<=65536:=by
   have h4:v<=65536 / w:=by omega
   have h5:=iS h4 (show 0<=w by omega);have h6:=mB (x:=65536) (k:=w) (by omega);omega
  have h7:=iG (show 0<=w by omega) hv.1;rw[bg (n:=v) (by omega),bg (n:=w*v) (by omega)]
theorem bv1 {w v n:Int}(hw:0<=w)(hv:0<=v)(h:aE5 w v=C n):0<=n/\n<=65536:=by
 unfold aE5 at h;split at h
 .injection h with h;subst h;omega
 split at h
 .cases h
 split at h
 .cases h
 rename_i c1 c2 c3;injection h with h
 subst h;have h4:v<=65536 / w:=by omega
 have h5:=iS h4 (show 0<=w by omega);have h6:=mB (x:=65536) (k:=w) (by omega);exact⟨iG hw hv,by omega⟩
theorem bm9 {k:Int}(h:0<k/\k<7)(d a b v:Int):oi k d a b v=C (d,Za):=by
 unfold oi ab5;simp only[cd];have:k=1∨k=2∨k=3∨k=4∨k=5∨k=6:=by omega
 rcases this with rfl|rfl|rfl|rfl|rfl|rfl<;>rfl
theorem cK8 (a b:Int)(ha:0<=a/\a<=1000000000000)(hb:0<=b/\b<=65536):ay7 [a,b]=C (a+b):=by
 unfold ay7
 have hl:cj (aH8 [a,b]) gi (0,0)=C (a+b):=by
  have h:=gl (f:=aH8 [a,b]) (n:=2) (λi=>match i with|0=>0|1=>a|_=>a+b) (c:=a+b) (by omega) ?_ ?_
  .exact h
  .intro i hi
   match i,hi with
   |0,_=>
    show C (Sum.inl (wB wC 1,wB wC (0+a)))=_;rw[bg (by omega),bg (by omega),fB];rfl
   |1,_=>
    show C (Sum.inl (wB wC 2,wB wC (a+b)))=_;rw[bg (by omega),bg (by omega)];rfl
  .rfl
 rw[hl];rfl
def dC8 (l:List df)(op:List (Int×Int)):List (Int×Int):=op.reverse.map λp=>((l.getD p.1.toNat (0,0,0,0,0)).2.2.2.2,p.2)
theorem ay0 (l:List df)(pre:List (Int×Int))(p:Int×Int):dC8 l (pre++[p])=((l.getD p.1.toNat (0,0,0,0,0)).2.2.2.2,p.2)::dC8 l pre:=by
 unfold dC8;rw[List.reverse_append,iL];rfl
def dJ4 (l:List df)(s:Int×(Zd)×(Zd)×List (Int×Int)):Prop:=
 ∃(i:Nat) (sz rd:Zd) (op:List (Int×Int)),i<=l.length/\s=((i:Int),sz,rd,op)/\sz.length=l.length/\rd.length=l.length/\op≠[]/\op.length<=i+1/\(∀p∈op,0<=p.1/\p.1<max (l.length:Int) 1/\0<=p.2/\p.2<=65537*i)/\
  dj (l.drop i) (op.length-1)=C 0/\ab3 (l.drop i) (dC8 l op)=ab3 l [((l.getD 0 (0,0,0,0,0)).2.2.2.2,0)]
theorem cW9 {l:List df}{i:Nat}(h:i<l.length):l.getD i (0,0,0,0,0)=l[i]:=by
 rw[List.getD_eq_getElem?_getD,aD h];rfl
theorem cw9 {l:List df}(hl:l.length<=100000)(hv: ∀o∈l,0<=o.2.2.2.2/\o.2.2.2.2<=18446744073709551615)(s:Int×(Zd)×(Zd)×List (Int×Int))(h:dJ4 l s):
  (∃b,eu l s=C (.inl b)/\dJ4 l b/\l.length-b.1.toNat<l.length-s.1.toNat)∨
  ∃c,eu l s=C (.inr c)/\((c.1=9/\ab3 l [((l.getD 0 (0,0,0,0,0)).2.2.2.2,0)]=O)∨(c.1=0/\∃p:Int×Int,c.2.2.2=[p]/\0<=p.2/\ab3 l [((l.getD 0 (0,0,0,0,0)).2.2.2.2,0)]=C [((l.getD p.1.toNat (0,0,0,0,0)).2.2.2.2,p.2)])):=by
 obtain⟨i,sz,rds,op,hi,rfl,hsz,hrd,hne,hol,hop,hsc,hrun⟩:=h;obtain⟨pre,⟨at',w⟩,rfl⟩: ∃pre x,op=pre++[x]:=⟨op.dropLast,op.getLast hne,(oB hne).symm⟩
 have hlast:=hop (at',w) (by simp);simp only at hlast;have hlen:(pre++[(at',w)]).length=pre.length+1:=by simp
 rw[hlen]at hol hsc;rw[uC]at hsc
 have hget:(pre++[(at',w)])[pre.length]?=C (at',w):=by
  rw[dD (aB _),bD];rfl
 by_cases c:i<l.length
 .have hdrop:l.drop i=l[i]::l.drop (i+1):=(iD c).symm;have hlv:=hv _ (gD c);have hDi:l.getD i (0,0,0,0,0)=l[i]:=cW9 c;rw[hdrop]at hsc hrun;rw[ay0]at hrun;simp only[eu];rw[zD (show(i:Int)<(l.length:Int)by omega),yB,dh c];simp only[wA];generalize hx:l[i]=x at*;simp only[dj]at hsc;simp only[ab3]at hrun
  have hk: ¬(x.1<0∨7<x.1):=by
   intro hk;rw[xB hk]at hsc;cases hsc
  rw[xD hk]at hsc;rw[hlen,bg (n:=((pre.length+1:Nat):Int)-1) (by omega),show((pre.length+1:Nat):Int)-1=(pre.length:Int)by omega,cw (show pre.length<pre.length+1 by omega)];simp only[wA];by_cases k7:x.1=7
  .rw[xD (by omega),xB k7]at hsc;rw[xB k7]at hrun;rw[zD k7,yB,ej (by omega) (by omega),bg (n:=(i:Int)+1) (by omega)];refine .inl ⟨_,rfl,⟨i+1,sz,rds,pre++[(at',w)]++[((i:Int),0)],c,rfl,hsz,hrd,by simp,by simp;omega,λp hp=> ?_, ?_, ?_⟩,by simp;omega⟩
   .rcases List.mem_append.1 hp with hp|hp
    .have:=hop p hp;omega
    .simp at hp;subst hp;simp only;omega
   .rw[eD,hlen];exact hsc
   .rw[ay0,ay0];simp only[sB];rw[hDi];exact hrun
  .rw[xD k7]at hrun;rw[zB k7,yD];by_cases kz:x.1=0
   .rw[xB kz]at hsc hrun;rw[zD kz,yB]
    have hp0:pre.length≠0:=by
     intro e;rw[xB e]at hsc;cases hsc
    rw[xD hp0]at hsc
    obtain⟨pre2,⟨at2,w2⟩,rfl⟩: ∃pre2 x,pre=pre2++[x]:=by
     have hne2:pre≠[]:=by intro e;subst e;exact hp0 rfl
     exact⟨pre.dropLast,pre.getLast hne2,(oB hne2).symm⟩
    have hl2:(pre2++[(at2,w2)]).length=pre2.length+1:=by simp
    have hlast2:=hop (at2,w2) (by simp);simp only at hlast2;obtain⟨an,rfl⟩:=rD hlast.1;have han:an<l.length:=by omega
    rw[hget];simp only[wA];rw[dh han];simp only[wA];have hvv:=hv _ (gD han);rw[bZ4 ⟨hlast.2.2.1,by omega⟩ hvv];simp only[wA];rw[ay0]at hrun;simp only[sB]at hrun;rw[cW9 han]at hrun;cases hb:aE5 w l[an].2.2.2.2 with
    |none=>
     rw[hb]at hrun;simp only[Bool.not_false,yB];exact .inr ⟨_,rfl, .inl ⟨rfl,hrun.symm⟩⟩
    |some n=>
     rw[hb]at hrun;have hn:=bv1 hlast.2.2.1 hvv.1 hb;simp only[iN,yD];rw[cw (show an<sz.length by omega)];simp only[wA];rw[aD (show an<sz.length by omega)];simp only[wA];rw[cw (show an<rds.length by omega)];simp only[wA];rw[aD (show an<rds.length by omega)];simp only[wA];rw[i7 (by omega),fg];have e1:((pre2++[(at2,w2)]).length:Int).toNat-0=pre2.length+1:=by rw[hl2];omega
     rw[e1,bg (n:=((pre2.length+1:Nat):Int)-1) (by omega),show((pre2.length+1:Nat):Int)-1=(pre2.length:Int)by omega,cw (show pre2.length<pre2.length+1 by omega)];simp only[wA,iC]
     have hg2:(pre2++[(at2,w2)]++[((an:Int),w)])[pre2.length]?=C (at2,w2):=by
      rw[dB,dD (aB _),bD];rfl
     rw[hg2];simp only[wA];rw[cK8 _ _ (by omega) hn];simp only[wA]
     have htk:((pre2++[(at2,w2)]++[((an:Int),w)]).set pre2.length (at2,w2+n)).take (pre2.length+1)=pre2++[(at2,w2+n)]:=by
      rw[dB,jB _ _ (aB _),bD];show(pre2++[(at2,w2+n),((an:Int),w)]).take (pre2.length+1)=_;rw[show [(at2,w2+n),((an:Int),w)]=[(at2,w2+n)]++[((an:Int),w)]from rfl,<-dB,kB];simp
     rw[htk,bg (n:=(i:Int)+1) (by omega)];refine .inl ⟨_,rfl,⟨i+1,_,_,pre2++[(at2,w2+n)],c,rfl,by simp[hsz],by simp[hrd],by simp,by simp;omega,λp hp=> ?_, ?_, ?_⟩,by simp;omega⟩
     .rcases List.mem_append.1 hp with hp|hp
      .have:=hop p (by simp[hp]);omega
      .simp at hp;subst hp;simp only;omega
     .rw[hl2]at hsc;rw[eD];exact hsc
     .rw[ay0];exact hrun
   .rw[xD kz]at hsc hrun;rw[xD k7]at hsc;rw[zB kz,yD,bm9 (by omega)];simp only[wA,yB];rw[cw (show i<sz.length by omega)];simp only[wA];rw[aD (show i<sz.length by omega)];simp only[wA];rw[hget];simp only[wA];rw[bg (n:=w+1) (by omega),bg (n:=(i:Int)+1) (by omega)]
    have hset:(pre++[(at',w)]).set pre.length (at',w+1)=pre++[(at',w+1)]:=by
     rw[jB _ _ (aB _),bD];rfl
    rw[hset];refine .inl ⟨_,rfl,⟨i+1,_,rds,pre++[(at',w+1)],c,rfl,by simp[hsz],hrd,by simp,by simp;omega,λp hp=> ?_, ?_, ?_⟩,by simp;omega⟩
    .rcases List.mem_append.1 hp with hp|hp
     .have:=hop p (by simp[hp]);omega
     .simp at hp;subst hp;simp only;omega
    .rw[eD];exact hsc
    .rw[ay0];exact hrun
 .have hi':i=l.length:=by omega
  subst hi';rw[iH]at hsc hrun;simp only[eu];rw[zB (show¬(l.length:Int)<(l.length:Int)by omega),yD]
  have hp:pre=[]:=by
   have hsc:C pre.length=C 0:=hsc;injection hsc with hsc
   exact List.length_eq_zero_iff.1 hsc
  subst hp;refine .inr ⟨_,rfl, .inr ⟨rfl,(at',w),rfl,hlast.2.2.1, ?_⟩⟩;rw[<-hrun];rfl
def Q9 (l:List df):Option Int:=(ab3 l [((l.getD 0 (0,0,0,0,0)).2.2.2.2,0)]).bind λst=>match st with
 |[p]=>C p.2
 |_=>O
def gb (l:List df):Int×Int:=if dj l 0=C 0 then(match Q9 l with
 |some w=>if 65536<w then(0,9)else(w,0)
 |none=>(0,9))else(0,6)
theorem ap8 {l:List df}(hl:l.length<=100000)(hv: ∀o∈l,0<=o.2.2.2.2/\o.2.2.2.2<=18446744073709551615):kc l=C (gb l):=by
 unfold kc pw;obtain⟨m,hm⟩:=bp8 hl;rw[hm];unfold gb;by_cases hs:dj l 0=C 0
 .simp only[xB hs];simp only[wA];rw[zB (by simp),yD];rw[zD (show(0:Int)<=(l.length:Int)by omega),zD (show(l.length:Int)<=(l.length:Int)by omega),zD (show 8*(l.length:Int)<=140737488355328 by omega)];have hgd: ∀{β:Type} {y:Option β},gd (kD 1 (Sh.w (.int .i64))&&Za&&Za&&Za&&Nat.ble 1 8) y=y:=λ{β y}=>rfl
  rw[hgd,hgd]
  obtain⟨c,hc,h⟩:=ap4 (f:=eu l) (a:=((0:Int),bB ((l.length:Int)).toNat (0:Int),bB ((l.length:Int)).toNat (0:Int),[((0:Int),(0:Int))])) (dJ4 l) (λs=>l.length-s.1.toNat) _
   ⟨0,_,_,[(0,0)],iE _,rfl,by simp,by simp,by simp,by simp,(λp hp=>by simp at hp;subst hp;simp only;omega),hs,rfl⟩ (by simp;omega) (λs h=>cw9 hl hv s h)
  rw[hc];simp only[wA];unfold Q9;rcases h with⟨h1,h2⟩|⟨h1,p,h3,h4,h5⟩
  .rw[h1,h2];rfl
  .rw[h1,h5,h3];show((((cond (Zc (65536<p.2)) (C (9:Int)) (C 0)).bind λs36=>cond (Zc (s36≠0)) (C ((0:Int),s36,([]:Zd),([]:Zd))) (C (p.2,0,c.2.1,c.2.2.1))).bind λr1=>C (r1.1,r1.2.1)))=C (if 65536<p.2 then(0,9)else(p.2,0));rw[cd];by_cases c6:65536<p.2
   .rw[xB c6,xB c6];rfl
   .rw[xD c6,xD c6];rfl
 .simp only[xD hs];rfl
theorem aM9 : ∀(l r:List df) (st:List (Int×Int)),ab3 (l++r) st=(ab3 l st).bind (ab3 r)
 |[],r,st=>rfl
 |o::l,r,[]=>rfl
 |o::l,r,(v,w)::st=>by
  simp only[gB,ab3];split
  .exact aM9 l r _
  split
  .split
   .exact aM9 l r _
   .rfl
  .exact aM9 l r _
def cX7 (v w:Int)(base:List (Int×Int)):List (Int×Int)->List (Int×Int)
 |[]=>[]
 |[p]=>(v,w+p.2)::base
 |p::q::r=>p::cX7 v w base (q::r)
theorem ci9 (v w:Int)(base:List (Int×Int))(p:Int×Int): ∀fs:List (Int×Int),cX7 v w base (fs++[p])=fs++(v,w+p.2)::base
 |[]=>rfl
 |[a]=>rfl
 |a::b::r=>by
  show a::cX7 v w base (b::r++[p])=_;rw[ci9 v w base p (b::r)];rfl
theorem ad2 (v w:Int)(base:List (Int×Int)): ∀(l:List df) (fs:List (Int×Int)) (n0:Int) (d':Nat),dj l fs.length=C d'->ab3 l (fs++(v,w+n0)::base)=(ab3 l (fs++[(0,n0)])).map (cX7 v w base)
 |[],fs,n0,d',_=>by
  show C _=C _;rw[ci9]
 |o::l,[],n0,d',h=>by
  simp only[dj,List.length_nil]at h;simp only[iB,ab3];split at h
  .cases h
  split at h
  .rw[xB trivial]at h;cases h
  rename_i c1 c2;split at h
  .rename_i c3;rw[xB c3,xB c3];exact ad2 v w base l [(o.2.2.2.2,0)] n0 d' h
  .rename_i c3;rw[xD c3,xD c2,xD c3,xD c2,iA];exact ad2 v w base l [] (n0+1) d' h
 |o::l,(fv,fw)::fs,n0,d',h=>by
  simp only[dj,cD]at h;simp only[gB,ab3];split at h
  .cases h
  split at h
  .rename_i c1 c2;rw[xD (by omega)]at h;rw[xD (by omega),xB c2,xD (by omega),xB c2];cases hb:aE5 fw fv with
   |none=>rfl
   |some n=>
    cases fs with
    |nil=>
     simp only[iB];rw[iA];exact ad2 v w base l [] (n0+n) d' h
    |cons q fs=>
     simp only[gB];exact ad2 v w base l ((q.1,q.2+n)::fs) n0 d' h
  rename_i c1 c2;split at h
  .rename_i c3;rw[xB c3,xB c3];exact ad2 v w base l ((o.2.2.2.2,0)::(fv,fw)::fs) n0 d' h
  .rename_i c3;rw[xD c3,xD c2,xD c3,xD c2];exact ad2 v w base l ((fv,fw+1)::fs) n0 d' h
theorem by4 : ∀(l:List df) (st st':List (Int×Int)) (d d':Nat),st.length=d+1->dj l d=C d'->ab3 l st=C st'->st'.length=d'+1
 |[],st,st',d,d',h1,h2,h3=>by
  injection h2 with h2
  injection h3 with h3
  subst h2;subst h3;exact h1
 |o::l,[],st',d,d',h1,_,_=>by simp at h1
 |o::l,(v,w)::st,st',d,d',h1,h2,h3=>by
  simp only[dj]at h2;simp only[ab3]at h3;simp only[cD,Nat.add_right_cancel_iff]at h1;split at h2
  .cases h2
  split at h2
  .rename_i c1 c2;split at h2
   .cases h2
   rw[xD (by omega),xB c2]at h3;split at h3
   .rename_i c3 _ _ n v' w' st2 _;exact by4 l _ st' (d-1) d' (by simp at h1⊢;omega) h2 h3
   .cases h3
  rename_i c1 c2;split at h2
  .rename_i c3;rw[xB c3]at h3;exact by4 l _ st' (d+1) d' (by simp;omega) h2 h3
  .rename_i c3;rw[xD c3,xD c2]at h3;exact by4 l _ st' d d' (by simp;omega) h2 h3
theorem bN2 : ∀(l:List df) (st st':List (Int×Int)),(∀o∈l,0<=o.2.2.2.2)->(∀p∈st,0<=p.1/\0<=p.2)->ab3 l st=C st'->∀p∈st',0<=p.2
 |[],st,st',_,h,h3=>by
  injection h3 with h3
  subst h3;exact λp hp=>(h p hp).2
 |o::l,[],st',_,_,h3=>by cases h3
 |o::l,(v,w)::st,st',ho,h,h3=>by
  have hvw:=h (v,w) (by simp);have hrest: ∀p∈st,0<=p.1/\0<=p.2:=λp hp=>h p (by simp[hp])
  have hol: ∀o'∈l,0<=o'.2.2.2.2:=λo' ho'=>ho o' (by simp[ho'])
  simp only at hvw;simp only[ab3]at h3;split at h3
  .refine bN2 l _ st' hol (λp hp=> ?_) h3;rcases List.mem_cons.1 hp with rfl|hp
   .exact⟨ho o (by simp),iR _⟩
   .exact h p hp
  split at h3
  .split at h3
   .rename_i n v' w' st2 hb;have hn:=bv1 hvw.2 hvw.1 hb;refine bN2 l _ st' hol (λp hp=> ?_) h3;rcases List.mem_cons.1 hp with rfl|hp
    .have:=hrest (v',w') (by simp);simp only at this⊢;omega
    .exact hrest p (by simp[hp])
   .cases h3
  .refine bN2 l _ st' hol (λp hp=> ?_) h3;rcases List.mem_cons.1 hp with rfl|hp
   .simp only;omega
   .exact h p (by simp[hp])
theorem bn8 {l:List df}(h:dj l 0=C 0)(v w:Int)(base:List (Int×Int)):ab3 l ((v,w)::base)=(Q9 l).map λm=>(v,w+m)::base:=by
 have h1:=ad2 v w base l [] 0 0 h;rw[iB,iB,iO]at h1;have h2:=ad2 ((l.getD 0 (0,0,0,0,0)).2.2.2.2) 0 [] l [] 0 0 h;rw[iB,iB,iO]at h2;unfold Q9;rw[h1,h2];cases hr:ab3 l [(0,0)]with
 |none=>rfl
 |some st=>
  have hl:=by4 l _ st 0 0 rfl h hr
  match st,hl with
  |[p],_=>
   show C ((v,w+p.2)::base)=C ((v,w+(0+p.2))::base);rw[fB]
theorem bG0 {l:List df}(hv: ∀o∈l,0<=o.2.2.2.2){m:Int}(h:dj l 0=C 0)(hq:Q9 l=C m):0<=m:=by
 have h1:=bn8 h 0 0 [];rw[hq]at h1;have:=bN2 l _ _ hv (λp hp=>by simp at hp;subst hp;simp) h1 (0,0+m) (by simp);simp only at this;omega
theorem bq3 {l:List df}(hl:l.length<=100000):xi l=C (Zc (dj l 0=C 0)):=by
 unfold xi
 obtain⟨c,hc,h⟩:=ap4 (f:=aq6 l) (a:=((0:Int),(0:Int))) (λs=> ∃i d:Nat,i<=l.length/\d<=i/\s=((i:Int),(d:Int))/\dj (l.drop i) d=dj l 0) (λs=>l.length-s.1.toNat)
  (λc=>(c= .inl Zb/\dj l 0=O)∨∃d:Nat,c= .inr (d:Int)/\dj l 0=C d) ⟨0,0,iE _,aB _,rfl,rfl⟩ (by simp;omega) (by
  rintro _ ⟨i,d,hi,hd,rfl,hs⟩;simp only[aq6,cd];by_cases c:i<l.length
  .rw[(iD c).symm]at hs;rw[xB (by omega),dh c];simp only[wA];generalize l[i]=x at*;simp only[dj]at hs;by_cases k0:x.1<0
   .rw[xB (.inl k0)]at hs;rw[xB k0];exact .inr ⟨_,rfl, .inl ⟨rfl,hs.symm⟩⟩
   rw[xD k0];by_cases k7:7<x.1
   .rw[xB (.inr k7)]at hs;rw[xB k7];exact .inr ⟨_,rfl, .inl ⟨rfl,hs.symm⟩⟩
   rw[xD (by omega)]at hs;rw[xD k7];by_cases kz:x.1=0
   .rw[xB kz]at hs;rw[xD (by omega)];simp only[wA];rw[xB kz,bg (n:=(d:Int)-1) (by omega),bg (n:=(i:Int)+1) (by omega)];by_cases hd0:d=0
    .rw[xB hd0]at hs;rw[xB (by omega)];exact .inr ⟨_,rfl, .inl ⟨rfl,hs.symm⟩⟩
    .rw[xD hd0]at hs;rw[xD (by omega)];exact .inl ⟨_,rfl,⟨i+1,d-1,c,by omega,by rw[show((d-1:Nat):Int)=(d:Int)-1 by omega];rfl,hs⟩,by simp;omega⟩
   .rw[xD kz]at hs;by_cases k77:x.1=7
    .rw[xB k77]at hs;rw[xB k77];simp only[wA];rw[xD kz,bg (n:=(d:Int)+1) (by omega),bg (n:=(i:Int)+1) (by omega),xD (by omega)];exact .inl ⟨_,rfl,⟨i+1,d+1,c,by omega,rfl,hs⟩,by simp;omega⟩
    .rw[xD k77]at hs;rw[xD k77];simp only[wA];rw[xD kz,bg (n:=(i:Int)+1) (by omega),xD (by omega)];exact .inl ⟨_,rfl,⟨i+1,d,c,by omega,rfl,hs⟩,by simp;omega⟩
  .have:i=l.length:=by omega
   subst this;rw[iH]at hs;rw[xD (by omega)]
   exact .inr ⟨_,rfl, .inr ⟨d,rfl,hs.symm⟩⟩)
 rw[hc];rcases h with⟨rfl,h⟩|⟨d,rfl,h⟩
 .rw[h];rfl
 .rw[h];show C (Zc ((d:Int)=0))=C (Zc (C d=C 0))
  congr 1
  rw[decide_eq_decide];constructor
  .intro e;have:d=0:=by omega
   rw[this]
  .intro e;injection e with e;omega
theorem aU3 : ∀(n:Nat) (s:List df) (d:Nat),s.length<=n->dj s (d+1)=C 0->∃inner e rest,s=inner++e::rest/\e.1=0/\dj inner 0=C 0/\dj rest d=C 0
 |n,[],d,_,h=>by
  injection h with h
  omega
 |0,o::s,d,hn,_=>by simp at hn
 |n+1,o::s,d,hn,h=>by
  simp only[cD]at hn;simp only[dj]at h;split at h
  .cases h
  rename_i c1;split at h
  .rename_i c2;rw[xD (by omega)]at h;exact⟨[],o,s,rfl,c2,rfl,h⟩
  rename_i c2;split at h
  .rename_i c3;obtain⟨i1,e1,r1,h1,h2,h3,h4⟩:=aU3 n s (d+1) (by omega) h;have hlen:r1.length<=n:=by rw[h1]at hn;simp at hn;omega
   obtain⟨i2,e2,r2,h5,h6,h7,h8⟩:=aU3 n r1 d hlen h4;refine⟨o::i1++e1::i2,e2,r2, ?_,h6, ?_,h8⟩
   .rw[h1,h5];simp
   .show dj (o::(i1++e1::i2)) 0=_;simp only[dj];rw[xD c1,xD c2,xB c3,zp,by6 _ _ _ h3];show dj (e1::i2) 1=_;simp only[dj];rw[xD (by omega),xB h2,xD (by omega)];exact h7
  .rename_i c3;obtain⟨i1,e1,r1,h1,h2,h3,h4⟩:=aU3 n s d (by omega) h;refine⟨o::i1,e1,r1,by rw[h1];rfl,h2, ?_,h4⟩;simp only[dj];rw[xD c1,xD c2,xD c3];exact h3
theorem ax0 {i1 i2 r1 r2:List df}{e1 e2:df}(h:i1++e1::r1=i2++e2::r2)(h1:dj i1 0=C 0)(h2:dj i2 0=C 0)(he1:e1.1=0)(he2:e2.1=0):i1=i2:=by
 have key: ∀{a b:List df} {e:df} {x:List df},a++e::x=b->e.1=0->dj a 0=C 0->dj b 0=C 0->False:=by
  intro a b e x hab he ha hb;rw[<-hab,zp,ha]at hb;have hb:dj (e::x) 0=C 0:=hb;simp only[dj]at hb;rw[xD (by omega),xB he,xB trivial]at hb;cases hb
 rcases List.append_eq_append_iff.1 h with⟨a',h3,h4⟩|⟨a',h3,h4⟩
 .cases a' with
  |nil=>rw[iT]at h3;exact h3.symm
  |cons q a'=>
   rw[gB]at h4;injection h4 with h4 h5
   subst h4;exact(key h3.symm he1 h1 h2).elim
 .cases a' with
  |nil=>rw[iT]at h3;exact h3
  |cons q a'=>
   rw[gB]at h4;injection h4 with h4 h5
   subst h4;exact(key h3.symm he2 h2 h1).elim
theorem bR7 {l:List df}(h:dj l 0=C 0){i:Nat}(hi:i<=l.length): ∃d,dj (l.take i) 0=C d/\dj (l.drop i) d=C 0:=by
 rw[<-jD i l,zp]at h;obtain⟨d,h1,h2⟩:=cf h;exact⟨d,h1,h2⟩
theorem cD5 {l:List df}(h:dj l 0=C 0){i:Nat}(hi:i<l.length)(hk:l[i].1=7): ∃inner e rest,l.drop (i+1)=inner++e::rest/\e.1=0/\dj inner 0=C 0:=by
 obtain⟨d,_,h2⟩:=bR7 h (i:=i) (by omega);rw[(iD hi).symm]at h2;simp only[dj]at h2;rw[xD (by omega),xD (by omega),xB hk]at h2;obtain⟨inner,e,rest,h3,h4,h5,_⟩:=aU3 _ _ d (aB _) h2;exact⟨inner,e,rest,h3,h4,h5⟩
structure MOK (l:List df)(m:Zd):Prop where
 len:m.length=l.length
 at': ∀i,(hi:i<l.length)->l[i].1=7->∀inner e rest,l.drop (i+1)=inner++e::rest->e.1=0->dj inner 0=C 0->m[i]?=C ((i+1+inner.length:Nat):Int)
theorem dC4 {l:List df}(hl:l.length<=100000){i:Nat}(hi:i<l.length){inner rest:List df}{e:df}(h:l.drop (i+1)=inner++e::rest)(he:e.1=0)(hs:dj inner 0=C 0):cj (uk l) gi (1,(i:Int))=C ((i+1+inner.length:Nat):Int):=by
 have hlen:l.length=i+1+inner.length+1+rest.length:=by
  have:=congrArg iK h;rw[iX]at this;simp at this;omega
 have hget: ∀j,j<inner.length+1->∃x,rd l ((i+1+j:Nat):Int)=C x/\(inner++e::rest)[j]?=C x:=by
  intro j hj;have hlt:i+1+j<l.length:=by omega
  refine⟨l[i+1+j],dh hlt, ?_⟩;rw[<-h,iW,aD hlt]
 have hpre: ∀j,j<=inner.length->∃d,dj (inner.take j) 0=C d:=by
  intro j hj;obtain⟨d,h1,_⟩:=bR7 hs hj;exact⟨d,h1⟩
 let hs':Nat->Nat:=λj=>(dj (inner.take j) 0).getD 0
 have hhs: ∀j,j<=inner.length->dj (inner.take j) 0=C (hs' j):=by
  intro j hj;obtain⟨d,hd⟩:=hpre j hj;show _=C ((dj (inner.take j) 0).getD 0);rw[hd];rfl
 have hle: ∀j,hs' j<=j∨inner.length<j:=by
  intro j;induction j with
  |zero=>exact .inl (aB _)
  |succ j ih=>
   by_cases hj:j+1<=inner.length
   .left;have h1:=hhs (j+1) hj;rw[pD (show j<inner.length by omega),zp,hhs j (by omega)]at h1;have h1:dj [inner[j]] (hs' j)=C (hs' (j+1)):=h1;simp only[dj]at h1;split at h1
    .cases h1
    split at h1
    .split at h1
     .cases h1
     .injection h1 with h1;omega
    split at h1
    .injection h1 with h1;omega
    .injection h1 with h1;omega
   .right;omega
 refine aB8 (f:=uk l) (n:=inner.length+1) (λj=>if j<=inner.length then((1+hs' j:Nat),((i+j:Nat):Int))else(0,((i+1+inner.length:Nat):Int))) (by omega) (λj hj=> ?_) ?_
 .have hb:=hle j;rw[xB (show j<=inner.length by omega)];obtain⟨x,hx1,hx2⟩:=hget j (by omega);simp only[uk,cd];rw[xB (by omega),bg (n:=((i+j:Nat):Int)+1) (by omega),show((i+j:Nat):Int)+1=((i+1+j:Nat):Int)by omega,hx1];simp only[wA];by_cases hj2:j<inner.length
  .rw[List.getElem?_append_left hj2,aD hj2]at hx2;injection hx2 with hx2
   have h1:=hhs (j+1) hj2;rw[pD hj2,zp,hhs j (by omega)]at h1;have h1:dj [inner[j]] (hs' j)=C (hs' (j+1)):=h1;rw[hx2]at h1;simp only[dj]at h1;rw[xB (show j+1<=inner.length by omega)];split at h1
   .cases h1
   split at h1
   .rename_i k1 k2;split at h1
    .cases h1
    .injection h1 with h1
     rw[xD (by omega),xB k2,bg (by omega)]
     congr 3<;>omega
   rename_i k1 k2;split at h1
   .rename_i k3;injection h1 with h1
    rw[xB k3,xD k2,bg (by omega)]
    congr 3<;>omega
   .rename_i k3;injection h1 with h1
    rw[xD k3,xD k2]
    congr 3<;>omega
  .have hje:j=inner.length:=by omega
   subst hje;rw[dD (aB _),bD]at hx2;injection hx2 with hx2
   subst hx2
   have hz:hs' inner.length=0:=by
    have:=hhs inner.length (aB _);rw[List.take_length,hs]at this;injection this with this
    exact this.symm
   rw[xD (by omega),xB he,xD (show¬inner.length+1<=inner.length by omega),hz,bg (by omega)];rfl
 .rw[xD (by omega)];simp only[uk,cd];rw[xD (by omega)]
theorem be6 {l:List df}(hl:l.length<=100000):(dj l 0=C 0/\∃m,ng l=C (0,m)/\MOK l m)∨(dj l 0≠C 0/\ng l=C (6,[])):=by
 unfold ng;rw[bq3 hl];simp only[wA];by_cases hs:dj l 0=C 0
 .left;refine⟨hs, ?_⟩;rw[zD hs];simp only[iN,yD]
  have h0:cj (uj l) gi (0,[])=C (bB l.length (-1)):=by
   have h:=gl (f:=uj l) (n:=l.length) (λi=>bB i (-1:Int)) (c:=bB l.length (-1)) (by omega) ?_ ?_
   .exact h
   .intro i hi;simp only[uj,cd];rw[xB (by omega),ej (by simp;omega) (by omega),bg (by omega),uA];rfl
   .simp only[uj,cd];rw[xD (by omega)]
  rw[h0];simp only[wA]
  obtain⟨c,hc,h⟩:=ap4 (f:=aj6 l) (a:=((0:Int),bB l.length (-1:Int))) (λs=> ∃(i:Nat) (out:Zd),i<=l.length/\s=((i:Int),out)/\out.length=l.length/\∀j,j<i->(hj:j<l.length)->l[j].1=7->∀inner e rest,l.drop (j+1)=inner++e::rest->e.1=0->dj inner 0=C 0->out[j]?=C ((j+1+inner.length:Nat):Int)) (λs=>l.length-s.1.toNat)
   (λc=>MOK l c) ⟨0,_,iE _,rfl,by simp,λj hj=>by omega⟩ (by simp;omega) (by
   rintro _ ⟨i,out,hi,rfl,ho,hout⟩;simp only[aj6,cd];by_cases c:i<l.length
   .rw[xB (by omega),dh c];simp only[wA];by_cases hk:l[i].1=7
    .obtain⟨inner,e,rest,h1,h2,h3⟩:=cD5 hs c hk
     have hlen:l.length=i+1+inner.length+1+rest.length:=by
      have:=congrArg iK h1;rw[iX]at this;simp at this;omega
     rw[xD (by simp[hk]),dC4 hl c h1 h2 h3];simp only[wA];rw[cw (show i<out.length by omega)];simp only[wA];rw[aD (show i<out.length by omega)];simp only[wA];rw[cw (show i+1+inner.length<(out.set i ((i+1+inner.length:Nat):Int)).length by simp;omega)];simp only[wA];rw[aD (show i+1+inner.length<(out.set i ((i+1+inner.length:Nat):Int)).length by simp;omega)];simp only[wA];rw[bg (n:=(i:Int)+1) (by omega)];refine .inl ⟨_,rfl,⟨i+1,_,c,rfl,by simp[ho],λj hj hjl hjk inner' e' rest' q1 q2 q3=> ?_⟩,by simp;omega⟩
     have hke:l[i+1+inner.length].1=0:=by
      have h4:(l.drop (i+1))[inner.length]?=C e:=by
       rw[h1,dD (aB _),bD];rfl
      rw[iW,aD (show i+1+inner.length<l.length by omega)]at h4;injection h4 with h4
      rw[h4];exact h2
     have hne:i+1+inner.length≠j:=by
      intro e4;subst e4;rw[hke]at hjk;cases hjk
     rw[cB hne];by_cases hji:i=j
     .subst hji;have:=ax0 (h1.symm.trans q1) h3 q3 h2 q2;subst this;rw[iJ (by omega)]
     .rw[cB hji];exact hout j (by omega) hjl hjk inner' e' rest' q1 q2 q3
    .rw[xB hk,bg (n:=(i:Int)+1) (by omega)];refine .inl ⟨_,rfl,⟨i+1,out,c,rfl,ho,λj hj hjl hjk=> ?_⟩,by simp;omega⟩;by_cases hji:j=i
     .subst hji;exact(hk hjk).elim
     .exact hout j (by omega) hjl hjk
   .have:i=l.length:=by omega
    subst this;rw[xD (by omega)]
    exact .inr ⟨_,rfl,ho,λj hj hjk=>hout j hj hj hjk⟩)
  rw[hc];exact⟨c,rfl,h⟩
 .right;refine⟨hs, ?_⟩;rw[zB hs];rfl
theorem cY0 {α β:Type}{f:α->β}(hf: ∀a b,f a=f b->a=b){x y:Option α}(h:x.map f=y.map f):x=y:=by
 cases x with
 |none=>cases y with
  |none=>rfl
  |some b=>cases h
 |some a=>cases y with
  |none=>cases h
  |some b=>
   injection h with h
   rw[hf _ _ h]
theorem cH7 (v c:Int)(base:List (Int×Int)): ∀a b:Int,(v,c+a)::base=(v,c+b)::base->a=b:=by
 intro a b h;injection h with h
 injection h with _ h
 omega
theorem cg0 {o:df}{s:List df}(h:dj (o::s) 0=C 0)(hk:o.1≠7):dj s 0=C 0/\(0<o.1/\o.1<7)/\Q9 (o::s)=(Q9 s).map (1+ ·):=by
 have h1:=bn8 h 0 0 [];simp only[dj]at h;split at h
 .cases h
 rename_i c1;split at h
 .rw[xB trivial]at h;cases h
 rename_i c2;refine⟨h,by omega,cY0 (cH7 0 0 []) ?_⟩;rw[<-h1];simp only[ab3];rw[xD hk,xD c2,bn8 h];cases Q9 s with
 |none=>rfl
 |some m=>
  show C [((0:Int),0+1+m)]=C [((0:Int),0+(1+m))];rw[iA]
theorem cr0 {o e:df}{inner rest:List df}(h:dj (o::(inner++e::rest)) 0=C 0)(hk:o.1=7)(he:e.1=0)(hi:dj inner 0=C 0):
  dj rest 0=C 0/\Q9 (o::(inner++e::rest))=(Q9 inner).bind λw=>(aE5 w o.2.2.2.2).bind λb=>(Q9 rest).map (b+ ·):=by
 have h1:=bn8 h 0 0 [];simp only[dj]at h;rw[xD (by omega),xD (by omega),xB hk,zp,by6 _ _ _ hi]at h;have h:dj (e::rest) 1=C 0:=h;simp only[dj]at h;rw[xD (by omega),xB he,xD (by omega)]at h;have h:dj rest 0=C 0:=h;refine⟨h,cY0 (cH7 0 0 []) ?_⟩;rw[<-h1];simp only[ab3];rw[xB hk,aM9,bn8 hi];cases Q9 inner with
 |none=>rfl
 |some w=>
  show ab3 (e::rest) [(o.2.2.2.2,0+w),(0,0)]=_;simp only[ab3];rw[xD (by omega),xB he,fB];simp only[wA];cases aE5 w o.2.2.2.2 with
  |none=>rfl
  |some b=>
   simp only[wA];rw[bn8 h];cases Q9 rest with
   |none=>rfl
   |some m=>
    show C [((0:Int),0+b+m)]=C [((0:Int),0+(b+m))];rw[iA]
theorem cR8 {k:Int}(h:0<k/\k<7): ∃x,jj k=C (Za,x):=by
 have:k=1∨k=2∨k=3∨k=4∨k=5∨k=6:=by omega
 rcases this with rfl|rfl|rfl|rfl|rfl|rfl<;>exact⟨_,rfl⟩
def br0 (t:Int):Int:=if 65536<t then 65537 else t
def dc2 (w v:Int):Int:=if br0 w=0 then 0 else if v=0 then 0 else if 65536<v then 65537 else if 65536<br0 w*v then 65537 else br0 w*v
theorem bv4 {w v b:Int}(hw:0<=w)(hv:0<=v)(h:aE5 w v=C b):dc2 w v=b/\w<=65536:=by
 unfold aE5 at h;unfold dc2;split at h
 .rename_i c1;injection h with h
  subst h;subst c1;exact⟨by rw[xB (show br0 0=0 from rfl)],by omega⟩
 split at h
 .cases h
 split at h
 .cases h
 rename_i c1 c2 c3;injection h with h
 have hs:br0 w=w:=xD c2;rw[hs,xD c1];have hd:65536 / w<=65536:=iP _ (by omega);have h4:v<=65536 / w:=by omega
 have h5:=iS h4 hw;have h6:=mB (x:=65536) (k:=w) c1;refine⟨?_,by omega⟩;by_cases c4:v=0
 .rw[xB c4,<-h,c4,Int.mul_zero]
 .rw[xD c4,xD (by omega),xD (by omega),h]
theorem dk3 {w v:Int}(hw:0<=w)(hv:0<=v)(h:aE5 w v=O):65536<w∨dc2 w v=65537:=by
 unfold aE5 at h;split at h
 .cases h
 rename_i c1;split at h
 .rename_i c2;exact .inl c2
 rename_i c2;split at h
 .rename_i c3;right;unfold dc2;have hs:br0 w=w:=xD c2;have hlt:=Int.lt_mul_of_ediv_lt (show 0<w by omega) c3;rw[iF]at hlt;have hd:0<=65536 / w:=iQ (by omega) hw;rw[hs,xD c1,xD (by omega)];by_cases c4:65536<v
  .rw[xB c4]
  .rw[xD c4,xB hlt]
 .cases h
def WOK (l:List df)(m:Zd)(N:Nat):Prop:= ∀f,2*N<f->∀A seg B,l=A++seg++B->seg.length<N->dj seg 0=C 0->
 ∃r,(dn f).1 l m (A.length:Int) ((A.length+seg.length:Nat):Int)=C r/\0<=r/\r<=65537/\∀t,Q9 seg=C t->r=br0 t
section
variable {l:List df} {m:Zd}
theorem cD6 (hl:l.length<=1000)(hv: ∀o∈l,0<=o.2.2.2.2/\o.2.2.2.2<=18446744073709551615)(hm:MOK l m){N:Nat}(h:WOK l m N){f:Nat}(hf:2*N+1<f){i:Nat}(hi:i<l.length)(hk:l[i].1=7){inner rest:List df}{e:df}(hd:l.drop (i+1)=inner++e::rest)(he:e.1=0)(hs:dj inner 0=C 0)(hN:inner.length<N):
  ∃r,(dn f).2 l m (i:Int)=C r/\0<=r/\r<=65537/\∀w,Q9 inner=C w->r=dc2 w l[i].2.2.2.2:=by
 obtain⟨g,rfl⟩: ∃g,f=g+1:=⟨f-1,by omega⟩
 have hlen:l.length=i+1+inner.length+1+rest.length:=by
  have:=congrArg iK hd;rw[iX]at this;simp at this;omega
 have hmi:=hm.at' i hi hk inner e rest hd he hs
 have hsplit:l=l.take (i+1)++inner++e::rest:=by
  rw[dB,<-hd,jD]
 have hA:(l.take (i+1)).length=i+1:=by rw[oD];omega
 obtain⟨r4,h1,h2,h3,h4⟩:=h g (by omega) (l.take (i+1)) inner (e::rest) hsplit hN hs;rw[hA]at h1
 have hrd:rd m (i:Int)=C ((i+1+inner.length:Nat):Int):=by
  have hlt:i<m.length:=by rw[hm.len];exact hi
  rw[dh hlt,<-hmi,aD hlt]
 have hvi:=hv _ (gD hi);show∃r,aH2 ((dn g).1) ((dn g).2) l m i=C r/\_
 unfold aH2;rw[hrd];simp only[wA];rw[bg (n:=(i:Int)+1) (by omega),show(i:Int)+1=((i+1:Nat):Int)by omega,h1];simp only[wA,cd];rw[dh hi];simp only[wA];generalize l[i].2.2.2.2=v at*
 have hval:(if r4=0 then C 0 else if v=0 then C 0 else if 65536<v then C 65537 else if 65536<IntKind.i64.wrap (r4*wB wC v)then C 65537 else C (wB wC (r4*wB wC v)))=
   C (if r4=0 then 0 else if v=0 then 0 else if 65536<v then 65537 else if 65536<r4*v then 65537 else r4*v):=by
  split
  .rfl
  split
  .rfl
  split
  .rfl
  rename_i c1 c2 c3;have h5:=Int.mul_le_mul h3 (show v<=65536 by omega) hvi.1 (by omega);have h6:=iG h2 hvi.1;rw[bg (n:=v) (by omega),bg (by omega)];split<;>rfl
 rw[hval];refine⟨_,rfl, ?_, ?_,λw hw=> ?_⟩
 .split
  .omega
  split
  .omega
  split
  .omega
  split
  .omega
  .exact iG h2 hvi.1
 .split
  .omega
  split
  .omega
  split
  .omega
  split<;>omega
 .rw[h4 w hw];rfl
theorem bg0 (hl:l.length<=1000)(hv: ∀o∈l,0<=o.2.2.2.2/\o.2.2.2.2<=18446744073709551615)(hm:MOK l m){N:Nat}(h:WOK l m N){g:Nat}(hg:2*N+1<g)(hi:Nat): ∀(k:Nat) (pre seg B:List df) (n:Int) (fu:Nat),l=pre++seg++B->seg.length<=k->seg.length<=N->seg.length<fu->dj seg 0=C 0->hi=pre.length+seg.length->0<=n/\n<=65536->
  ∃c,cj (wk ((dn g).2) l m hi) fu ((pre.length:Int),n)=C c/\(c= .inl ()∨∃r,c= .inr r/\0<=r/\r<=65536)/\∀t,Q9 seg=C t->c=if 65536<n+t then .inl ()else .inr (n+t)
 |k,pre,[],B,n,0,_,_,_,hfu,_,_,_=>by simp at hfu
 |k,pre,[],B,n,fu+1,hsplit,_,_,_,hs,hh,hn=>by
  refine⟨.inr n, ?_, .inr ⟨n,rfl,hn⟩,λt ht=> ?_⟩
  .rw[eo];simp only[wk,cd];rw[xD (by simp at hh;omega)];rfl
  .injection ht with ht
   subst ht;rw[iO,xD (by omega)]
 |0,pre,o::seg,B,n,fu,_,hk,_,_,_,_,_=>by simp at hk
 |k+1,pre,o::seg,B,n,0,_,_,_,hfu,_,_,_=>by simp at hfu
 |k+1,pre,o::seg,B,n,fu+1,hsplit,hk,hN,hfu,hs,hh,hn=>by
  simp only[cD]at hk hN hfu hh;have hlen:l.length=pre.length+(seg.length+1)+B.length:=by rw[hsplit];simp;omega
  have hlt:pre.length<l.length:=by omega
  have hget:l[pre.length]=o:=by
   have:l[pre.length]?=C o:=by
    rw[hsplit,dB,dD (aB _),bD];rfl
   rw[aD hlt]at this;injection this
  have hov:0<=o.2.2.2.2/\o.2.2.2.2<=18446744073709551615:=by rw[<-hget];exact hv _ (gD hlt)
  rw[eo];simp only[wk,cd];rw[xB (by omega),dh hlt,hget];simp only[wA];by_cases hk7:o.1=7
  .
   rw[xB hk7]
   have hs1:dj seg 1=C 0:=by
    simp only[dj]at hs;rw[xD (by omega),xD (by omega),xB hk7]at hs;exact hs
   obtain⟨inner,e,rest,h1,h2,h3,h4⟩:=aU3 _ seg 0 (aB _) hs1;subst h1;simp only[eD,cD]at hk hN hfu hh hlen
   have hd:l.drop (pre.length+1)=inner++e::(rest++B):=by
    rw[hsplit,dB,iU,iV (by omega),show pre.length+1-pre.length=1 by omega];simp
   obtain⟨r9,b1,b2,b3,b4⟩:=cD6 hl hv hm h hg hlt (by rw[hget];exact hk7) hd h2 h3 (by omega);rw[hget]at b4;rw[b1];simp only[wA];have hmi:=hm.at' pre.length hlt (by rw[hget];exact hk7) inner e (rest++B) hd h2 h3
   have hrd:rd m (pre.length:Int)=C ((pre.length+1+inner.length:Nat):Int):=by
    have hlt':pre.length<m.length:=by rw[hm.len];exact hlt
    rw[dh hlt',<-hmi,aD hlt']
   rw[hrd];simp only[wA];rw[bg (n:=n+r9) (by omega),bg (n:=((pre.length+1+inner.length:Nat):Int)+1) (by omega)];obtain⟨hsr,hQ⟩:=cr0 hs hk7 h2 h3;by_cases c1:65536<n+r9
   .rw[xB c1];refine⟨.inl (),rfl, .inl rfl,λt ht=> ?_⟩;rw[hQ]at ht;obtain⟨w,hw,ht⟩:=cf ht;obtain⟨b,hb,ht⟩:=cf ht;have hw0:=bG0 (l:=inner) (λo' ho'=>(hv o' (by rw[hsplit];simp[ho'])).1) h3 hw;obtain⟨e1,_⟩:=bv4 hw0 hov.1 hb;rw[b4 w hw,e1]at c1;cases hqr:Q9 rest with
    |none=>rw[hqr]at ht;cases ht
    |some tr=>
     rw[hqr]at ht;injection ht with ht
     have ht:b+tr=t:=ht;have:=bG0 (l:=rest) (λo' ho'=>(hv o' (by rw[hsplit];simp[ho'])).1) hsr hqr;rw[xB (by omega)]
   .rw[xD c1];simp only[wA,da];have hp:(pre++o::(inner++[e])).length=pre.length+1+inner.length+1:=by simp;omega
    obtain⟨c,d1,d2,d3⟩:=bg0 hl hv hm h hg hi k (pre++o::(inner++[e])) rest B (n+r9) fu (by rw[hsplit];simp) (by omega) (by omega) (by omega) hsr (by rw[hp];omega) (by omega);rw[hp]at d1;refine⟨c,by rw[show((pre.length+1+inner.length:Nat):Int)+1=((pre.length+1+inner.length+1:Nat):Int)by omega];exact d1,d2,λt ht=> ?_⟩;rw[hQ]at ht;obtain⟨w,hw,ht⟩:=cf ht;obtain⟨b,hb,ht⟩:=cf ht;have hw0:=bG0 (l:=inner) (λo' ho'=>(hv o' (by rw[hsplit];simp[ho'])).1) h3 hw;obtain⟨e1,_⟩:=bv4 hw0 hov.1 hb;have hr9:r9=b:=by rw[b4 w hw,e1]
    cases hqr:Q9 rest with
    |none=>rw[hqr]at ht;cases ht
    |some tr=>
     rw[hqr]at ht;injection ht with ht
     have:=d3 tr hqr;rw[this,<-ht,hr9,iA]
  .rw[xD hk7];obtain⟨hsr,hko,hQ⟩:=cg0 hs hk7;obtain⟨x,hx⟩:=cR8 hko;rw[hx];simp only[wA,yB];rw[bg (n:=n+1) (by omega),bg (n:=(pre.length:Int)+1) (by omega)];by_cases c1:65536<n+1
   .rw[xB c1];refine⟨.inl (),rfl, .inl rfl,λt ht=> ?_⟩;rw[hQ]at ht;cases hqr:Q9 seg with
    |none=>rw[hqr]at ht;cases ht
    |some tr=>
     rw[hqr]at ht;injection ht with ht
     have ht:1+tr=t:=ht;have:=bG0 (l:=seg) (λo' ho'=>(hv o' (by rw[hsplit];simp[ho'])).1) hsr hqr;rw[xB (by omega)]
   .rw[xD c1];simp only[wA,da];have hp:(pre++[o]).length=pre.length+1:=by simp
    obtain⟨c,d1,d2,d3⟩:=bg0 hl hv hm h hg hi k (pre++[o]) seg B (n+1) fu (by rw[hsplit];simp) (by omega) (by omega) (by omega) hsr (by rw[hp];omega) (by omega);rw[hp]at d1;refine⟨c,d1,d2,λt ht=> ?_⟩;rw[hQ]at ht;cases hqr:Q9 seg with
    |none=>rw[hqr]at ht;cases ht
    |some tr=>
     rw[hqr]at ht;injection ht with ht
     rw[d3 tr hqr,<-ht,iA]
theorem wok (hl:l.length<=1000)(hv: ∀o∈l,0<=o.2.2.2.2/\o.2.2.2.2<=18446744073709551615)(hm:MOK l m): ∀N,WOK l m N
 |0=>λ_ _ _ _ _ _ h=>absurd h (Nat.not_lt_zero _)
 |N+1=>λf hf A seg B hs0 hN hs=>by
  obtain⟨g,rfl⟩: ∃g,f=g+1:=⟨f-1,by omega⟩
  show∃r,ay2 ((dn g).1) ((dn g).2) l m _ _=C r/\_
  unfold ay2
  have hsl:seg.length<=1000:=by
   have:=congrArg iK hs0;simp at this;omega
  obtain⟨c,h1,h2,h3⟩:=bg0 hl hv hm (wok hl hv hm N) (g:=g) (by omega) (A.length+seg.length) _ A seg B 0 gi hs0 (aB _) (by omega) (by unfold gi;omega) hs rfl (by omega);rw[h1];simp only[wA];rcases h2 with rfl|⟨r,rfl,h4,h5⟩
  .refine⟨65537,rfl,by omega,by omega,λt ht=> ?_⟩;have:=h3 t ht;rw[fB]at this;unfold br0;split at this
   .rename_i c;rw[xB c]
   .cases this
  .refine⟨r,rfl,h4,by omega,λt ht=> ?_⟩;have:=h3 t ht;rw[fB]at this;unfold br0;split at this
   .cases this
   .rename_i c;injection this with this
    rw[xD c,this]
end
theorem bI1 {δ:Type}{f:Int->Option (Int⊕δ)}(n:Nat)(hn:n<9223372036854775808)(stop:Nat->Prop)(c e:δ)
  (hs: ∀i:Nat,i<n->¬stop i->f (i:Int)=C (.inl ((i+1:Nat):Int))) (hx: ∀i:Nat,i<n->stop i->f (i:Int)=C (.inr c)) (he:f (n:Int)=C (.inr e)):
  (∃i,i<n/\stop i/\(∀j,j<i->¬stop j)/\cj f gi 0=C c)∨((∀j,j<n->¬stop j)/\cj f gi 0=C e):=by
 by_cases h: ∃i,i<n/\stop i
 .obtain⟨i,h1,h2⟩:=h
  have hex: ∃i,i<n/\stop i/\∀j,j<i->¬stop j:=by
   induction i using Nat.strongRecOn with
   |ind i ih=>
    by_cases hj: ∃j,j<i/\stop j
    .obtain⟨j,h3,h4⟩:=hj;exact ih j h3 (by omega) h4
    .exact⟨i,h1,h2,λj h h3=>hj ⟨j,h,h3⟩⟩
  obtain⟨i,h1,h2,h3⟩:=hex;exact .inl ⟨i,h1,h2,h3,ad1 (n:=i) (by omega) (λj hj=>hs j (by omega) (h3 j hj)) (hx i h1 h2)⟩
 .have h': ∀j,j<n->¬stop j:=λj h1 h2=>h ⟨j,h1,h2⟩
  exact .inr ⟨h',ad1 (n:=n) hn (λj hj=>hs j hj (h' j hj)) he⟩
theorem dx3 {seg pre inner rest:List df}{o e:df}{t:Int}(hq:Q9 seg=C t)(hs:seg=pre++o::(inner++e::rest))(ho:o.1=7)(he:e.1=0)(hi:dj inner 0=C 0):
  ∃w b,Q9 inner=C w/\aE5 w o.2.2.2.2=C b:=by
 unfold Q9 at hq;rw[hs,aM9]at hq;obtain⟨st,h1,h2⟩:=cf hq;obtain⟨st1,h3,h4⟩:=cf h1;cases st1 with
 |nil=>simp[ab3]at h4
 |cons p st1=>
  simp only[ab3]at h4;rw[xB ho,aM9,bn8 hi]at h4;cases hw:Q9 inner with
  |none=>rw[hw]at h4;cases h4
  |some w=>
   rw[hw]at h4;have h4:ab3 (e::rest) ((o.2.2.2.2,0+w)::(p.1,p.2)::st1)=C st:=h4;simp only[ab3]at h4;rw[xD (by omega),xB he,fB]at h4;cases hb:aE5 w o.2.2.2.2 with
   |none=>rw[hb]at h4;cases h4
   |some b=>exact⟨w,b,rfl,hb⟩
theorem cu6 : ∀(n:Nat) (seg:List df),seg.length<=n->dj seg 0=C 0->Q9 seg=O->∃pre o inner e rest w,seg=pre++o::(inner++e::rest)/\o.1=7/\e.1=0/\dj inner 0=C 0/\Q9 inner=C w/\aE5 w o.2.2.2.2=O
 |n,[],_,_,hq=>by cases hq
 |0,o::s,h,_,_=>by simp at h
 |n+1,o::s,hn,hs,hq=>by
  simp only[cD]at hn;by_cases hk:o.1=7
  .have hs1:dj s 1=C 0:=by
    simp only[dj]at hs;rw[xD (by omega),xD (by omega),xB hk]at hs;exact hs
   obtain⟨inner,e,rest,h1,h2,h3,h4⟩:=aU3 _ s 0 (aB _) hs1;subst h1;simp only[eD,cD]at hn;obtain⟨hsr,hQ⟩:=cr0 hs hk h2 h3;rw[hQ]at hq;cases hw:Q9 inner with
   |none=>
    obtain⟨pre,o',i',e',r',w,q1,q2⟩:=cu6 n inner (by omega) h3 hw;exact⟨o::pre,o',i',e',r'++e::rest,w,by rw[q1];simp,q2⟩
   |some w=>
    rw[hw]at hq;simp only[wA]at hq;cases hb:aE5 w o.2.2.2.2 with
    |none=>exact⟨[],o,inner,e,rest,w,rfl,hk,h2,h3,hw,hb⟩
    |some b=>
     rw[hb]at hq;simp only[wA]at hq;cases hr:Q9 rest with
     |some t=>rw[hr]at hq;cases hq
     |none=>
      obtain⟨pre,o',i',e',r',w',q1,q2⟩:=cu6 n rest (by omega) hsr hr;exact⟨o::(inner++e::pre),o',i',e',r',w',by rw[q1];simp,q2⟩
  .obtain⟨hsr,_,hQ⟩:=cg0 hs hk;rw[hQ]at hq;cases hr:Q9 s with
   |some t=>rw[hr]at hq;cases hq
   |none=>
    obtain⟨pre,o',i',e',r',w',q1,q2⟩:=cu6 n s (by omega) hsr hr;exact⟨o::pre,o',i',e',r',w',by rw[q1];rfl,q2⟩
section
variable {l:List df} {m:Zd}
theorem aS5 (hl:l.length<=100)(hv: ∀o∈l,0<=o.2.2.2.2/\o.2.2.2.2<=18446744073709551615)(hm:MOK l m)(hs:dj l 0=C 0){i:Nat}(hi:i<l.length)(hk:l[i].1=7):
  ∃inner e rest b w mi,l.drop (i+1)=inner++e::rest/\e.1=0/\dj inner 0=C 0/\m[i]?=C mi/\mi=((i+1+inner.length:Nat):Int)/\te l m (i:Int)=C b/\ul l m ((i+1:Nat):Int) mi=C w/\0<=b/\0<=w/\
   ∀t,Q9 inner=C t->b=dc2 t l[i].2.2.2.2/\w=br0 t:=by
 obtain⟨inner,e,rest,hd,he,hi0⟩:=cD5 hs hi hk
 have hlen:l.length=i+1+inner.length+1+rest.length:=by
  have:=congrArg iK hd;rw[iX]at this;simp at this;omega
 have hsplit:l=l.take (i+1)++inner++e::rest:=by
  rw[dB,<-hd,jD]
 have hA:(l.take (i+1)).length=i+1:=by rw[oD];omega
 obtain⟨b,b1,b2,b3,b4⟩:=cD6 (by omega) hv hm (wok (by omega) hv hm 101) (f:=400) (by omega) hi hk hd he hi0 (by omega);obtain⟨w,w1,w2,w3,w4⟩:=wok (by omega) hv hm 101 400 (by omega) (l.take (i+1)) inner (e::rest) hsplit (by omega) hi0;rw[hA]at w1;exact⟨inner,e,rest,b,w,_,hd,he,hi0,hm.at' i hi hk inner e rest hd he hi0,rfl,b1,w1,b2,w2,λt ht=>⟨b4 t ht,w4 t ht⟩⟩
theorem cS0 (hl:l.length<=100)(hv: ∀o∈l,0<=o.2.2.2.2/\o.2.2.2.2<=18446744073709551615)(hm:MOK l m)(hs:dj l 0=C 0):
  cj (oc l (0,m)) gi 0=C (match Q9 l with|some _=> .inr ()|none=> .inl ()):=by
 have key:=bI1 (f:=oc l (0,m)) l.length (by omega)
  (λi=> ∃hi:i<l.length,l[i].1=7/\∃b w mi,m[i]?=C mi/\te l m (i:Int)=C b/\ul l m ((i+1:Nat):Int) mi=C w/\(65536<b∨65536<w)) (.inl ()) (.inr ())
  (λi hi hn=>by
   unfold oc;simp only[cd];rw[xB (by omega),dh hi];simp only[wA];by_cases hk:l[i].1=7
   .obtain⟨inner,e,rest,b,w,mi,q1,q2,q3,q4,q5,q6,q7,q8⟩:=aS5 hl hv hm hs hi hk;rw[xB hk,q6];simp only[wA];rw[xD (λh=>hn ⟨hi,hk,b,w,mi,q4,q6,q7, .inl h⟩),cw (show i<m.length by rw[hm.len];exact hi)];simp only[wA];rw[q4];simp only[wA];rw[bg (n:=(i:Int)+1) (by omega),show(i:Int)+1=((i+1:Nat):Int)by omega,q7];simp only[wA];rw[xD (λh=>hn ⟨hi,hk,b,w,mi,q4,q6,q7, .inr h⟩)]
   .rw[xD hk,bg (n:=(i:Int)+1) (by omega)]
    rfl)
  (λi _ hst=>by
   obtain⟨hi,hk,b,w,mi,q4,q6,q7,q8⟩:=hst;unfold oc;simp only[cd];rw[xB (by omega),dh hi];simp only[wA];rw[xB hk,q6];simp only[wA];by_cases hb:65536<b
   .rw[xB hb]
   .rw[xD hb,cw (show i<m.length by rw[hm.len];exact hi)];simp only[wA];rw[q4];simp only[wA];rw[bg (n:=(i:Int)+1) (by omega),show(i:Int)+1=((i+1:Nat):Int)by omega,q7];simp only[wA]
    rw[xB (by omega)])
  (by
   unfold oc;simp only[cd]
   rw[xD (by omega)])
 cases hq:Q9 l with
 |some t=>
  rcases key with⟨i,h1,⟨hi,hk,b,w,mi,q4,q6,q7,q8⟩,_⟩|⟨_,h⟩
  .exfalso;obtain⟨inner,e,rest,b',w',mi',p1,p2,p3,p4,p5,p6,p7,p8,p9,p10⟩:=aS5 hl hv hm hs hi hk
   have hsplit:l=l.take i++l[i]::(inner++e::rest):=by
    rw[<-p1,iD hi,jD]
   obtain⟨w0,b0,g1,g2⟩:=dx3 hq hsplit hk p2 p3;obtain⟨e1,e2⟩:=p10 w0 g1;have hmem: ∀o'∈inner,0<=o'.2.2.2.2:=λo' ho'=>(hv o' (by rw[hsplit];simp[ho'])).1
   have hw0:=bG0 hmem p3 g1;obtain⟨x1,x2⟩:=bv4 hw0 (hv _ (gD hi)).1 g2;obtain⟨x3,x4⟩:=bv1 hw0 (hv _ (gD hi)).1 g2;rw[q4]at p4;injection p4 with p4
   rw[q6]at p6;injection p6 with p6
   rw[<-p4,q7]at p7;injection p7 with p7
   have hs9:br0 w0=w0:=xD (by omega);rw[hs9]at e2;omega
  .exact h
 |none=>
  rcases key with⟨_,_,_,_,h⟩|⟨h,_⟩
  .exact h
  .exfalso;obtain⟨pre,o,inner,e,rest,w,q1,q2,q3,q4,q5,q6⟩:=cu6 _ l (aB _) hs hq;have hi:pre.length<l.length:=by rw[q1];simp
   have hget:l[pre.length]=o:=by
    have:l[pre.length]?=C o:=by
     rw[q1,dD (aB _),bD];rfl
    rw[aD hi]at this;injection this
   have hk:l[pre.length].1=7:=by rw[hget];exact q2
   have hd:l.drop (pre.length+1)=inner++e::rest:=by
    rw[q1,iU,iV (by omega),show pre.length+1-pre.length=1 by omega];simp
   obtain⟨inner',e',rest',b',w',mi',p1,p2,p3,p4,p5,p6,p7,p8,p9,p10⟩:=aS5 hl hv hm hs hi hk;have:=ax0 (hd.symm.trans p1) q4 p3 q3 p2;subst this;obtain⟨e1,e2⟩:=p10 w q5;have hmem: ∀o'∈inner,0<=o'.2.2.2.2:=λo' ho'=>(hv o' (by rw[q1];simp[ho'])).1
   have hw0:=bG0 hmem q4 q5;rw[hget]at e1;have hov:0<=o.2.2.2.2:=by rw[<-hget];exact(hv _ (gD hi)).1
   refine h _ hi ⟨hi,hk,b',w',mi',p4,p6,p7, ?_⟩;rcases dk3 hw0 hov q6 with x|x
   .right;rw[e2];unfold br0;rw[xB x];omega
   .left;rw[e1,x];omega
theorem aw5 (hl:l.length<=100)(hv: ∀o∈l,0<=o.2.2.2.2/\o.2.2.2.2<=18446744073709551615):pu l=C (gb l):=by
 unfold pu gb;rcases be6 (l:=l) (by omega)with⟨hs,m,hm,hok⟩|⟨hs,hm⟩
 .rw[hm,xB hs];simp only[wA];rw[zB (by simp),yD,cS0 hl hv hok hs];cases hq:Q9 l with
  |none=>rfl
  |some t=>
   have ht:=bG0 (λo ho=>(hv o ho).1) hs hq;simp only[wA,da];obtain⟨w,w1,w2,w3,w4⟩:=wok (by omega) hv hok 101 400 (by omega) [] l [] (by simp) (by omega) hs
   have w1:ul l m 0 (l.length:Int)=C w:=by
    rw[<-w1];show _=(dn 400).1 l m 0 ((0+l.length:Nat):Int);rw[iC];rfl
   rw[w1];simp only[wA,cd];have e2:=w4 t hq;unfold br0 at e2;by_cases c:65536<t
   .rw[xB c]at e2;rw[xB c,xB (by omega)]
   .rw[xD c]at e2;rw[xD c,xD (by omega),e2]
 .rw[hm,xD hs];rfl
end
theorem ak0 {α δ:Type}{f:Int->Option (Int⊕δ)}{l:List α}(p:α->Bool)(c:Nat->δ)(e:δ)(hl:l.length<1000000)
  (hf: ∀i,(hi:i<l.length)->f (i:Int)=C (if p l[i]then .inr (c i)else .inl ((i+1:Nat):Int))) (he:f (l.length:Int)=C (.inr e)):
  (l.any p=Za/\∃i:Nat,cj f gi 0=C (c i))∨(l.any p=Zb/\cj f gi 0=C e):=by
 by_cases h: ∃i,∃hi:i<l.length,p l[i]=Za
 .left
  have hex: ∃i,(∃hi:i<l.length,p l[i]=Za)/\∀j,j<i->¬∃hj:j<l.length,p l[j]=Za:=by
   obtain⟨i,hi⟩:=h;induction i using Nat.strongRecOn with
   |ind i ih=>
    by_cases hj: ∃j,j<i/\∃hj:j<l.length,p l[j]=Za
    .obtain⟨j,h3,h4⟩:=hj;exact ih j h3 h4
    .exact⟨i,hi,λj h h3=>hj ⟨j,h,h3⟩⟩
  obtain⟨i,⟨hi,h1⟩,h2⟩:=hex;refine⟨List.any_eq_true.2 ⟨l[i],gD hi,h1⟩,i,ad1 (n:=i) (by omega) (λj hj=> ?_) ?_⟩
  .rw[hf j (by omega),xD (λhp=>h2 j hj ⟨by omega,hp⟩)]
  .rw[hf i hi,xB h1]
 .right;refine⟨?_,ad1 (n:=l.length) (by omega) (λj hj=> ?_) he⟩
  .rw[Bool.eq_false_iff];intro ht;obtain⟨x,hx,hp⟩:=List.any_eq_true.1 ht;obtain⟨i,hi,rfl⟩:=List.getElem_of_mem hx;exact h ⟨i,hi,hp⟩
  .rw[hf j hj,xD (λhp=>h ⟨j,hj,hp⟩)]
def dx (k:Int):Bool×Bool×Bool×Bool:=if k=1∨k=2∨k=3 then(Za,Za,Za,Zb)else if k=4∨k=6 then(Za,Za,Zb,Zb)else if k=5 then(Za,Zb,Zb,Za)else if k=7 then(Zb,Zb,Zb,Za)else(Zb,Zb,Zb,Zb)
theorem aT6 (k:Int):k=1∨k=2∨k=3∨k=4∨k=5∨k=6∨k=7∨(¬k=1/\¬k=2/\¬k=3/\¬k=4/\¬k=5/\¬k=6/\¬k=7):=by omega
theorem cj9 (k:Int):ab5 k=C (dx k):=by
 rcases aT6 k with rfl|rfl|rfl|rfl|rfl|rfl|rfl|⟨h1,h2,h3,h4,h5,h6,h7⟩
 any_goals rfl
 simp[ab5,dx,h1,h2,h3,h4,h5,h6,h7]
theorem aJ9 (k:Int):jj k=C (dx k):=by
 rcases aT6 k with rfl|rfl|rfl|rfl|rfl|rfl|rfl|⟨h1,h2,h3,h4,h5,h6,h7⟩
 any_goals rfl
 by_cases h:1<=k
 .simp[jj,dx,h1,h2,h3,h4,h5,h6,h7,h,show¬k<=3 by omega,da]
 .simp[jj,dx,h1,h2,h3,h4,h5,h6,h7,h,da]
def aZ5 (n:Int)(q:Bool):Bool:=if q then Zc (0<=n/\n<=2147483647)else Zc (n=0)
theorem bL8 (n:Int)(q:Bool):ob n q=C (aZ5 n q):=by
 unfold ob aZ5;cases q
 .rfl
 .by_cases h:0<=n<;>simp[h]
def ak6 (o:df):Bool:=Zc (0<=o.1/\o.1<8)&&(aZ5 o.2.1 (dx o.1).1&&(aZ5 o.2.2.1 (dx o.1).2.1&&(aZ5 o.2.2.2.1 (dx o.1).2.2.1&&((dx o.1).2.2.2||Zc (o.2.2.2.2=0)))))
theorem cx5 (o:df):af1 o.1 o.2.1 o.2.2.1 o.2.2.2.1 o.2.2.2.2=C (ak6 o):=by
 unfold af1 ay3 ak6
 have hk:(cond (Zc (0<=o.1)) (C (Zc (o.1<8))) (C Zb))=C (Zc (0<=o.1/\o.1<8)):=by
  by_cases h:0<=o.1<;>simp[h]
 rw[cj9,hk];simp only[wA,bL8];generalize Zc (0<=o.1/\o.1<8)=b1;generalize aZ5 o.2.1 (dx o.1).1=b2;generalize aZ5 o.2.2.1 (dx o.1).2.1=b3;generalize aZ5 o.2.2.2.1 (dx o.1).2.2.1=b4;generalize (dx o.1).2.2.2=b5;cases b1<;>cases b2<;>cases b3<;>cases b4<;>cases b5<;>rfl
theorem cI6 (o:df):al2 o.1 o.2.1 o.2.2.1 o.2.2.2.1 o.2.2.2.2=C (ak6 o):=by
 unfold al2;simp only[cd];by_cases h1:o.1<0
 .rw[xB h1];unfold ak6;rw[zB (show¬(0<=o.1/\o.1<8)by omega)];rfl
 rw[xD h1];by_cases h2:7<o.1
 .rw[xB h2];unfold ak6;rw[zB (show¬(0<=o.1/\o.1<8)by omega)];rfl
 rw[xD h2,aJ9];simp only[wA]
 have key:=ak0 (f:=xh o.2.1 o.2.2.1 o.2.2.2.1 (dx o.1)) (l:=[(o.2.1,(dx o.1).1),(o.2.2.1,(dx o.1).2.1),(o.2.2.2.1,(dx o.1).2.2.1)]) (λp=> !aZ5 p.1 p.2) (λ_=> .inl Zb) (.inr ()) (by simp)
  (λi hi=>by
   unfold xh;have hi:i<3:=hi;rw[cd,xB (by omega),cw (show i<3 from hi),cw (show i<4 by omega)];simp only[wA,cd]
   have e1:iI [o.2.1,o.2.2.1,o.2.2.2.1] i 0=([(o.2.1,(dx o.1).1),(o.2.2.1,(dx o.1).2.1),(o.2.2.2.1,(dx o.1).2.2.1)][i]).1:=by
    rcases(show i=0∨i=1∨i=2 by omega)with rfl|rfl|rfl<;>rfl
   have e2:iI [(dx o.1).1,(dx o.1).2.1,(dx o.1).2.2.1,(dx o.1).2.2.2] i Zb=([(o.2.1,(dx o.1).1),(o.2.2.1,(dx o.1).2.1),(o.2.2.2.1,(dx o.1).2.2.1)][i]).2:=by
    rcases(show i=0∨i=1∨i=2 by omega)with rfl|rfl|rfl<;>rfl
   rw[e1,e2,bg (n:=(i:Int)+1) (by omega),show(i:Int)+1=((i+1:Nat):Int)by omega];generalize [(o.2.1,(dx o.1).1),(o.2.2.1,(dx o.1).2.1),(o.2.2.2.1,(dx o.1).2.2.1)][i]=x;obtain⟨n,q⟩:=x;simp only[aZ5];by_cases c1:n<0
   .rw[xB c1,xB];cases q
    .simp;omega
    .simp;omega
   rw[xD c1];by_cases c2:2147483647<n
   .rw[xB c2,xB];cases q
    .simp;omega
    .simp;omega
   rw[xD c2];cases q with
   |true=>
    rw[zD (show 0<=n/\n<=2147483647 by omega)];rfl
   |false=>
    by_cases c3:n=0
    .subst c3;rfl
    .simp[c3])
  (by
   unfold xh
   rw[cd,xD (by simp)])
 unfold ak6;rw[zD (show 0<=o.1/\o.1<8 by omega)]
 have hany:([(o.2.1,(dx o.1).1),(o.2.2.1,(dx o.1).2.1),(o.2.2.2.1,(dx o.1).2.2.1)].any λp=> !aZ5 p.1 p.2)= !(aZ5 o.2.1 (dx o.1).1&&(aZ5 o.2.2.1 (dx o.1).2.1&&aZ5 o.2.2.2.1 (dx o.1).2.2.1)):=by
  simp[List.any,Bool.not_and]
 rw[hany]at key;generalize aZ5 o.2.1 (dx o.1).1=b2 at*;generalize aZ5 o.2.2.1 (dx o.1).2.1=b3 at*;generalize aZ5 o.2.2.2.1 (dx o.1).2.2.1=b4 at*;rcases key with⟨h,_,hk⟩|⟨h,hk⟩
 .rw[hk];cases b2<;>cases b3<;>cases b4<;>first|rfl|cases h
 .rw[hk]
  have:b2=Za/\b3=Za/\b4=Za:=by
   cases b2<;>cases b3<;>cases b4<;>first|exact⟨rfl,rfl,rfl⟩|cases h
  obtain⟨rfl,rfl,rfl⟩:=this;simp only[wA,da];cases(dx o.1).2.2.2<;>rfl
theorem aS6 (b:Bool)(e:Int):kf b e=C (if b then e else 0):=by cases b<;>rfl
def bH8 (l:List df):Bool:=Zc (dj l 0=C 0)&& !(l.any λo=> !ak6 o)
theorem bo5 {R:Int}{l:List df}(hl:l.length<=100):kr R l=C (if bH8 l then 0 else 6):=by
 unfold kr;obtain⟨m,hm⟩:=bp8 (l:=l) (by omega);rw[hm];simp only[wA,aS6];rw[zB (by omega),yD,cd];unfold bH8;by_cases hs:dj l 0=C 0
 .rw[xB hs,xD (by simp),zD hs];unfold ke ly
  rcases ak0 (f:=ib l) (l:=l) (λo=> !ak6 o) (λi=> .inl (i:Int)) (.inr ()) (by omega) (λi hi=>by
   unfold ib;rw[cd,xB (by omega),dh hi];simp only[wA];unfold uH;rw[cx5,bg (n:=(i:Int)+1) (by omega)];simp only[wA]
   cases ak6 l[i]<;>rfl) (by
   unfold ib
   rw[cd,xD (by omega)])with⟨h,i,hk⟩|⟨h,hk⟩
  .rw[hk,h];simp only[wA,da];rw[zD (by omega)];rfl
  .rw[hk,h];rfl
 .rw[xD hs,xB (by simp),zB hs];rfl
theorem cS2 {R:Int}{l:List df}(hl:l.length<=100):au1 R l=C (bH8 l):=by
 unfold au1 bH8;rw[zB (by omega),yD,bq3 (by omega)];simp only[wA];cases Zc (dj l 0=C 0)with
 |false=>rfl
 |true=>
  rcases ak0 (f:=zw l) (l:=l) (λo=> !ak6 o) (λi=> .inl Zb) (.inr ()) (by omega) (λi hi=>by
   unfold zw;rw[cd,xB (by omega),dh hi];simp only[wA];rw[cI6,bg (n:=(i:Int)+1) (by omega)];simp only[wA]
   cases ak6 l[i]<;>rfl) (by
   unfold zw
   rw[cd,xD (by omega)])with⟨h,i,hk⟩|⟨h,hk⟩
  .rw[hk,h];rfl
  .rw[hk,h];rfl
def cx2 (R:Int)(o:df):Bool:=((dx o.1).1&&Zc (R<=o.2.1))||((dx o.1).2.1&&Zc (R<=o.2.2.1))||((dx o.1).2.2.1&&Zc (R<=o.2.2.2.1))
def by1 (R:Int)(l:List df):Bool:=Zc (1<=R/\R<=64)&& !(l.any (cx2 R))
theorem bY2 (x y:Int):de [x,y]=C [y,x]:=by kernel_rfl
theorem cJ3 (x:Int):de [x]=C [x]:=by kernel_rfl
theorem bY1 :de []=C []:=by kernel_rfl
theorem cx4 (o:df):af0 o.1 o.2.1 o.2.2.1 o.2.2.2.1 o.2.2.2.2=C (if(dx o.1).2.1 then(if(dx o.1).2.2.1 then [o.2.2.1,o.2.2.2.1]else [o.2.2.1])else []):=by
 obtain⟨k,d,a,b,v⟩:=o;simp only;rcases aT6 k with rfl|rfl|rfl|rfl|rfl|rfl|rfl|⟨h1,h2,h3,h4,h5,h6,h7⟩
 .exact(show _=(de [b,a]).bind _ from rfl).trans (by rw[bY2];rfl)
 .exact(show _=(de [b,a]).bind _ from rfl).trans (by rw[bY2];rfl)
 .exact(show _=(de [b,a]).bind _ from rfl).trans (by rw[bY2];rfl)
 .exact(show _=(de [a]).bind _ from rfl).trans (by rw[cJ3];rfl)
 .exact(show _=(de []).bind _ from rfl).trans (by rw[bY1];rfl)
 .exact(show _=(de [a]).bind _ from rfl).trans (by rw[cJ3];rfl)
 .exact(show _=(de []).bind _ from rfl).trans (by rw[bY1];rfl)
 .unfold af0;simp only[zB h1,zB h2,zB h3,zB h4,zB h6,yD,wA,da,bY1];simp[dx,h1,h2,h3,h4,h5,h6,h7]
theorem cv2 (l:Zd)(R:Int)(p:List df)(hl:l.length<1000):ie l R p=C (l.any λn=>Zc (R<=n)):=by
 unfold ie px
 rcases ak0 (f:=ju l R p) (l:=l) (λn=>Zc (R<=n)) (λi=> .inl (i:Int)) (.inr ()) (by omega) (λi hi=>by
  unfold ju;rw[cd,xB (by omega),dh hi];simp only[wA];unfold ni;rw[bg (n:=(i:Int)+1) (by omega)];simp only[wA]
  cases Zc (R<=l[i])<;>rfl) (by
  unfold ju
  rw[cd,xD (by omega)])with⟨h,i,hk⟩|⟨h,hk⟩
 .rw[hk,h];simp only[wA,da];rw[zD (by omega)]
 .rw[hk,h];rfl
theorem cJ1 (o:df)(R:Int)(p:List df):lb o.1 o.2.1 o.2.2.1 o.2.2.2.1 o.2.2.2.2 R p=C (cx2 R o):=by
 unfold lb oi;rw[cx4,cj9];unfold cx2;simp only[wA];obtain⟨k,d,a,b,v⟩:=o;simp only
 have h1:(dx k).2.2.1=Za->(dx k).2.1=Za:=by
  unfold dx;split
  .intro _;rfl
  split
  .intro _;rfl
  split
  .intro h;cases h
  split<;>intro h<;>cases h
 have h2:(dx k).2.1=Za->(dx k).1=Za:=by
  unfold dx;split
  .intro _;rfl
  split
  .intro _;rfl
  split
  .intro h;cases h
  split<;>intro h<;>cases h
 generalize (dx k).1=b1 at*;generalize (dx k).2.1=b2 at*;generalize (dx k).2.2.1=b3 at*
 have hs: ∀l:Zd,l.length<1000->∀r,(l.any λn=>Zc (R<=n))=r->((ie l R p).bind λr10=>C r10)=C r:=by
  intro l hl r hr;rw[cv2 l R p hl,hr];rfl
 cases b1<;>cases b2<;>cases b3<;>first
  |(cases h2 rfl)
  |(cases h1 rfl)
  |skip
 .refine hs [] (by simp) _ ?_;generalize Zc (R<=d)=x;generalize Zc (R<=a)=y;generalize Zc (R<=b)=z;cases x<;>cases y<;>cases z<;>rfl
 .refine hs [d] (by simp) _ ?_;simp only[nB,nD];generalize Zc (R<=d)=x;generalize Zc (R<=a)=y;generalize Zc (R<=b)=z;cases x<;>cases y<;>cases z<;>rfl
 .refine hs [a,d] (by simp) _ ?_;simp only[nB,nD];generalize Zc (R<=d)=x;generalize Zc (R<=a)=y;generalize Zc (R<=b)=z;cases x<;>cases y<;>cases z<;>rfl
 .refine hs [a,b,d] (by simp) _ ?_;simp only[nB,nD];generalize Zc (R<=d)=x;generalize Zc (R<=a)=y;generalize Zc (R<=b)=z;cases x<;>cases y<;>cases z<;>rfl
theorem ar4 {R:Int}{l:List df}(hl:l.length<=100):ik R l=C (if by1 R l then 0 else 7):=by
 unfold ik by1;simp only[aS6,wA,cd];by_cases c1:R<1
 .rw[xB c1,zB (show¬(1<=R/\R<=64)by omega)];rfl
 rw[xD c1];by_cases c2:64<R
 .rw[xB c2,zB (show¬(1<=R/\R<=64)by omega)];rfl
 rw[xD c2,zD (show 1<=R/\R<=64 by omega)];unfold jl kl
 rcases ak0 (f:=gt l R l) (l:=l) (cx2 R) (λi=> .inl (i:Int)) (.inr ()) (by omega) (λi hi=>by
  unfold gt;rw[cd,xB (by omega),dh hi];simp only[wA];rw[cJ1,bg (n:=(i:Int)+1) (by omega)];simp only[wA]
  cases cx2 R l[i]<;>rfl) (by
  unfold gt
  rw[cd,xD (by omega)])with⟨h,i,hk⟩|⟨h,hk⟩
 .rw[hk,h];simp only[wA,da];rw[zD (by omega)];rfl
 .rw[hk,h];rfl
theorem bM0 {R:Int}{l:List df}(hl:l.length<=100):wq R l=C (by1 R l):=by
 unfold wq by1;simp only[cd];by_cases c1:R<1
 .rw[xB c1,zB (show¬(1<=R/\R<=64)by omega)];rfl
 rw[xD c1];by_cases c2:64<R
 .rw[xB c2,zB (show¬(1<=R/\R<=64)by omega)];rfl
 rw[xD c2,zD (show 1<=R/\R<=64 by omega)]
 rcases ak0 (f:=sg R l) (l:=l) (cx2 R) (λi=> .inl Zb) (.inr ()) (by omega) (λi hi=>by
  unfold sg;rw[cd,xB (by omega),dh hi];simp only[wA];rw[aJ9,bg (n:=(i:Int)+1) (by omega)];simp only[wA];unfold cx2;generalize l[i]=o;generalize Zc (R<=o.2.1)=x;generalize Zc (R<=o.2.2.1)=y;generalize Zc (R<=o.2.2.2.1)=z;generalize (dx o.1).1=b1;generalize (dx o.1).2.1=b2;generalize (dx o.1).2.2.1=b3
  cases b1<;>cases b2<;>cases b3<;>cases x<;>cases y<;>cases z<;>rfl) (by
  unfold sg
  rw[cd,xD (by omega)])with⟨h,i,hk⟩|⟨h,hk⟩
 .rw[hk,h];rfl
 .rw[hk,h];rfl
def hmax :List df->Nat->Nat->Nat
 |[],_,m=>m
 |o::r,d,m=>if o.1=7 then hmax r (d+1) (max m (d+1))else if o.1=0 then hmax r (d-1) m else hmax r d m
def dJ0 (l:List df)(s:Int×Bool×Int×Zd):Prop:=
 ∃(i m:Nat) (st:Zd),i<=l.length/\s=((i:Int),Za,(m:Int),st)/\st.length<=i/\m<=i/\dj (l.drop i) st.length=dj l 0/\hmax (l.drop i) st.length m=hmax l 0 0
theorem dc7 {l:List df}(hl:l.length<=100000)(s:Int×Bool×Int×Zd)(h:dJ0 l s):
  (∃b,ui l s=C (.inl b)/\dJ0 l b/\l.length-b.1.toNat<l.length-s.1.toNat)∨∃c,ui l s=C (.inr c)/\((c.1=Zb/\dj l 0=O)∨(c.1=Za/\dj l 0=C c.2.2.length/\c.2.1=(hmax l 0 0:Int))):=by
 obtain⟨i,m,st,hi,rfl,hsl,hml,hsc,hhm⟩:=h;by_cases c:i<l.length
 .have hdrop:l.drop i=l[i]::l.drop (i+1):=(iD c).symm;rw[hdrop]at hsc hhm;simp only[ui];rw[zD (show(i:Int)<(l.length:Int)by omega),yB,dh c];simp only[wA];generalize hx:l[i]=x at*;simp only[dj]at hsc;simp only[hmax]at hhm;by_cases k0:x.1<0
  .rw[xB (.inl k0)]at hsc;rw[zD k0];simp only[yB,wA,dg];exact .inr ⟨_,rfl, .inl ⟨rfl,hsc.symm⟩⟩
  rw[zB k0,yD];by_cases k7:7<x.1
  .rw[xB (.inr k7)]at hsc;rw[zD k7];simp only[yB,wA,cq,dg];exact .inr ⟨_,rfl, .inl ⟨rfl,hsc.symm⟩⟩
  rw[zB k7,yD];rw[xD (by omega)]at hsc;by_cases kz:x.1=0
  .rw[xB kz]at hsc;rw[xD (by omega),xB kz]at hhm;rw[zD kz];simp only[yB,wA,cq];by_cases hs0:st.length=0
   .rw[xB hs0]at hsc;rw[zD (show(st.length:Int)=0 by omega)];simp only[yB,wA,dg];exact .inr ⟨_,rfl, .inl ⟨rfl,hsc.symm⟩⟩
   .rw[xD hs0]at hsc;rw[zB (show¬(st.length:Int)=0 by omega),yD];rw[bg (n:=(st.length:Int)-1) (by omega),i7 (by omega),fg];simp only[wA,cq];rw[zB (show¬x.1=7 by omega)];simp only[yD];rw[bg (n:=(i:Int)+1) (by omega)]
    have hlt:(st.take (((st.length:Int)-1).toNat-0)).length=st.length-1:=by
     rw[oD];omega
    refine .inl ⟨_,rfl,⟨i+1,m,_,c,rfl,by rw[hlt];omega,by omega,by rw[hlt];exact hsc,by rw[hlt];exact hhm⟩,by simp;omega⟩
  .rw[xD kz]at hsc;have ez:Zc (x.1=0)=Zb:=zB kz;rw[ez];simp only[yD,wA,cq];by_cases k7:x.1=7
   .rw[xB k7]at hsc hhm;rw[zD k7];simp only[yB];rw[ej (by omega) (by omega),bg (n:=(i:Int)+1) (by omega),bg (n:=(st.length:Int)+1) (by omega)];refine .inl ⟨_,rfl,⟨i+1,max m (st.length+1),st++[(i:Int)],c, ?_,by simp;omega,by omega,by rw[eD];exact hsc,by rw[eD];exact hhm⟩,by simp;omega⟩;rw[show((max m (st.length+1):Nat):Int)=max (m:Int) ((st.length:Int)+1)by omega];rfl
   .rw[xD k7]at hsc hhm;rw[xD kz]at hhm;rw[zB k7];simp only[yD];rw[bg (n:=(i:Int)+1) (by omega)];exact .inl ⟨_,rfl,⟨i+1,m,st,c,rfl,by omega,by omega,hsc,hhm⟩,by simp;omega⟩
 .have hi':i=l.length:=by omega
  subst hi';rw[iH]at hsc hhm;simp only[ui];rw[zB (show¬(l.length:Int)<(l.length:Int)by omega),yD];have hhm:m=hmax l 0 0:=hhm;exact .inr ⟨_,rfl, .inr ⟨rfl,hsc.symm,by rw[<-hhm]⟩⟩
def bT2 (l:List df):Int×Int:=if dj l 0=C 0 then((hmax l 0 0:Int),0)else(0,6)
theorem de8 {l:List df}(hl:l.length<=100000):aE8 l=C (bT2 l):=by
 unfold aE8 bT2
 obtain⟨c,hc,h⟩:=ap4 (f:=ui l) (a:=((0:Int),Za,(0:Int),([]:Zd))) (dJ0 l) (λs=>l.length-s.1.toNat) (λc=>(c.1=Zb/\dj l 0=O)∨(c.1=Za/\dj l 0=C c.2.2.length/\c.2.1=(hmax l 0 0:Int)))
  ⟨0,0,[],iE _,rfl,aB _,aB _,rfl,rfl⟩ (by simp;omega) (λs hs=>dc7 hl s hs)
 rw[hc];simp only[wA];rcases h with⟨h1,h2⟩|⟨h1,h2,h3⟩
 .rw[h1,h2];rfl
 .rw[h1,h2,yB];by_cases c0:c.2.2.length=0
  .rw[zD (show(c.2.2.length:Int)=0 by omega),xB (by rw[c0]),h3];rfl
  .rw[zB (show¬(c.2.2.length:Int)=0 by omega),xD (by intro e;injection e with e;exact c0 e)];rfl
def dpt (l:List df)(i:Nat):Nat:=(dj (l.take i) 0).getD 0
theorem cE5 {l:List df}(hs:dj l 0=C 0){i:Nat}(hi:i<=l.length):dj (l.take i) 0=C (dpt l i):=by
 obtain⟨d,h1,_⟩:=bR7 hs hi;unfold dpt;rw[h1];rfl
theorem bT3 {l:List df}(hs:dj l 0=C 0){i:Nat}(hi:i<l.length):(l[i].1=7/\dpt l (i+1)=dpt l i+1)∨(l[i].1=0/\0<dpt l i/\dpt l (i+1)=dpt l i-1)∨(l[i].1≠7/\l[i].1≠0/\dpt l (i+1)=dpt l i):=by
 have h1:=cE5 hs (i:=i+1) (by omega);rw[pD hi,zp,cE5 hs (by omega)]at h1;have h1:dj [l[i]] (dpt l i)=C (dpt l (i+1)):=h1;simp only[dj]at h1;split at h1
 .cases h1
 split at h1
 .rename_i k1 k2;split at h1
  .cases h1
  .injection h1 with h1
   exact .inr (.inl ⟨k2,by omega,h1.symm⟩)
 rename_i k1 k2;split at h1
 .rename_i k3;injection h1 with h1
  exact .inl ⟨k3,h1.symm⟩
 .rename_i k3;injection h1 with h1
  exact .inr (.inr ⟨k3,k2,h1.symm⟩)
theorem dl0 {l:List df}(hs:dj l 0=C 0): ∀i,i<=l.length->dpt l i<=i
 |0,_=>aB _
 |i+1,h=>by
  have:=dl0 hs i (by omega);rcases bT3 hs (i:=i) (by omega)with⟨_,h2⟩|⟨_,_,h2⟩|⟨_,_,h2⟩<;>omega
theorem cy3 {l:List df}(hl:l.length<=100000)(hs:dj l 0=C 0){n:Nat}(hn:n<=l.length):af4 l (n:Int)=C (dpt l n:Int):=by
 unfold af4;have key:cj (sf l (n:Int)) gi (0,((dpt l 0:Nat):Int))=C ((dpt l n:Nat):Int):=gl (n:=n) (λi=>((dpt l i:Nat):Int)) (c:=((dpt l n:Nat):Int)) (by omega) (λi hi=> ?_) ?_
 .show((cj (sf l (n:Int)) gi (0,((dpt l 0:Nat):Int))).bind _)=_;rw[key];rfl
 .unfold sf;simp only[cd];rw[xB (by omega),dh (show i<l.length by omega)];simp only[wA];have hd:=dl0 hs i (by omega);rw[bg (n:=(i:Int)+1) (by omega)];rcases bT3 hs (i:=i) (by omega)with⟨h1,h2⟩|⟨h1,h3,h2⟩|⟨h1,h3,h2⟩
  .rw[xB h1,xD (by omega),bg (n:=((dpt l i:Nat):Int)+1) (by omega),h2];rfl
  .rw[xD (by omega),xB h1,bg (n:=((dpt l i:Nat):Int)-1) (by omega),h2,show((dpt l i-1:Nat):Int)=(dpt l i:Int)-1 by omega];rfl
  .rw[xD h1,xD h3,h2];rfl
 .unfold sf;simp only[cd];rw[xD (by omega)]
def aM1 (l:List df):Nat->Nat
 |0=>0
 |i+1=>max (aM1 l i) (dpt l i)
theorem ci5 {l:List df}(hs:dj l 0=C 0): ∀k i,i+k=l.length->hmax (l.drop i) (dpt l i) (aM1 l (i+1))=aM1 l (l.length+1)
 |0,i,h=>by
  have:i=l.length:=by omega
  subst this;rw[iH];rfl
 |k+1,i,h=>by
  rw[(iD (show i<l.length by omega)).symm];simp only[hmax];have ih:=ci5 hs k (i+1) (by omega);have e:aM1 l (i+1+1)=max (aM1 l (i+1)) (dpt l (i+1)):=rfl;have e2:aM1 l (i+1)=max (aM1 l i) (dpt l i):=rfl;rcases bT3 hs (i:=i) (by omega)with⟨h1,h2⟩|⟨h1,h3,h2⟩|⟨h1,h3,h2⟩
  .rw[xB h1,<-h2,<-e];exact ih
  .rw[xD (by omega),xB h1,<-h2,show aM1 l (i+1)=aM1 l (i+1+1)by rw[e];omega];exact ih
  .rw[xD h1,xD h3];rw[h2,show aM1 l (i+1+1)=aM1 l (i+1)by rw[e];omega]at ih;exact ih
theorem cR9 {l:List df}(hl:l.length<=100000):at9 l=C (bT2 l):=by
 unfold at9 bT2;rw[bq3 hl];simp only[wA];by_cases hs:dj l 0=C 0
 .rw[zD hs,xB hs];simp only[iN,yD];have key:cj (vk l) gi (0,((aM1 l 0:Nat):Int))=C ((aM1 l (l.length+1):Nat):Int):=gl (n:=l.length+1) (λi=>((aM1 l i:Nat):Int)) (c:=((aM1 l (l.length+1):Nat):Int)) (by omega) (λi hi=> ?_) ?_
  .show((cj (vk l) gi (0,((aM1 l 0:Nat):Int))).bind _)=_;rw[key];have h:=ci5 hs l.length 0 (by omega);have e0:dpt l 0=0:=rfl;have e1:aM1 l (0+1)=0:=rfl;rw[e0,e1,List.drop_zero]at h;rw[h];rfl
  .unfold vk;simp only[cd];rw[xB (by omega),cy3 hl hs (by omega)];simp only[wA];rw[bg (n:=(i:Int)+1) (by omega)];show _=C (Sum.inl (((i+1:Nat):Int),((max (aM1 l i) (dpt l i):Nat):Int)));rw[show((max (aM1 l i) (dpt l i):Nat):Int)=max (aM1 l i:Int) (dpt l i:Int)by omega];rfl
  .unfold vk;simp only[cd];rw[xD (by omega)]
 .rw[zB hs,xD hs];rfl
structure OpsOk (l:List df):Prop where
 len:l.length<=100
 v: ∀o∈l,0<=o.2.2.2.2/\o.2.2.2.2<=18446744073709551615
def lk0 (l:List df):Int:=if bH8 l then 0 else 6
def lk1 (R:Int)(l:List df):Int:=if by1 R l then 0 else 7
def lk2 (l:List df):Int:=if 8<(bT2 l).1 then 8 else 0
def lk3 (l:List df):Int:=(gb l).2
def aC1 (R:Int)(l:List df):Int:=if lk0 l≠0 then lk0 l else if lk1 R l≠0 then lk1 R l else if lk2 l≠0 then lk2 l else lk3 l
def yn (R:Int)(l:List df)(Q:Int)(k:List df):Int:=if lk0 l≠0 then lk0 l else if lk0 k≠0 then lk0 k else if lk1 R l≠0 then lk1 R l else if lk1 Q k≠0 then lk1 Q k else if lk2 l≠0 then lk2 l else if lk2 k≠0 then lk2 k else if lk3 l≠0 then lk3 l else lk3 k
theorem bc8 {R:Int}{l:List df}(h:OpsOk l):jw R l=C (lk2 l):=by
 unfold jw lk2;have:=h.len;rw[de8 (by omega)];simp only[wA,aS6];by_cases c:8<(bT2 l).1<;>simp[c]
theorem aS7 {R:Int}{l:List df}(h:OpsOk l):jg R l=C (lk3 l):=by
 unfold jg lk3;have:=h.len;rw[ap8 (by omega) h.v];rfl
theorem ce6 {R:Int}{l:List df}(h:OpsOk l):zt R l=C (aC1 R l):=by
 unfold zt aC1;rw[bo5 h.len,ar4 h.len,bc8 h,aS7 h];simp only[wA,cd];show(if lk0 l≠0 then C (lk0 l)else if lk1 R l≠0 then C (lk1 R l)else if lk2 l≠0 then C (lk2 l)else if lk3 l≠0 then C (lk3 l)else C 0)=_;split
 .rfl
 split
 .rfl
 split
 .rfl
 split
 .rfl
 .rename_i h;rw[show lk3 l=0 by omega]
theorem cP0 {R Q:Int}{l k:List df}(h:OpsOk l)(h':OpsOk k):at7 R l Q k=C (yn R l Q k):=by
 unfold at7 yn;rw[bo5 h.len,ar4 h.len,bc8 h,aS7 h,bo5 h'.len,ar4 h'.len,bc8 h',aS7 h'];simp only[wA,cd];show(if lk0 l≠0 then C (lk0 l)else if lk0 k≠0 then C (lk0 k)else if lk1 R l≠0 then C (lk1 R l)else if lk1 Q k≠0 then C (lk1 Q k)else if lk2 l≠0 then C (lk2 l)else if lk2 k≠0 then C (lk2 k)else if lk3 l≠0 then C (lk3 l)else if lk3 k≠0 then C (lk3 k)else C 0)=_;split
 .rfl
 split
 .rfl
 split
 .rfl
 split
 .rfl
 split
 .rfl
 split
 .rfl
 split
 .rfl
 split
 .rfl
 .rename_i h;rw[show lk3 k=0 by omega]
def lkN (R:Int)(l:List df)(n:Nat):Int:=if n=0 then lk0 l else if n=1 then lk1 R l else if n=2 then lk2 l else lk3 l
theorem bq4 {R:Int}{l:List df}(h:OpsOk l)(n:Nat):xl R l (n:Int)=C (lkN R l n):=by
 unfold xl lkN;have:=h.len;simp only[cd];by_cases c0:n=0
 .rw[xB (by omega),xB c0,cS2 h.len];unfold lk0;simp only[wA];cases bH8 l<;>rfl
 rw[xD (by omega),xD c0];by_cases c1:n=1
 .rw[xB (by omega),xB c1,bM0 h.len];unfold lk1;simp only[wA];cases by1 R l<;>rfl
 rw[xD (by omega),xD c1];by_cases c2:n=2
 .rw[xB (by omega),xB c2,cR9 (by omega)];unfold lk2;simp only[wA];split<;>rfl
 rw[xD (by omega),xD c2,aw5 h.len h.v];rfl
theorem cf5 {R:Int}{l:List df}(h:OpsOk l):zu R l=C (aC1 R l):=by
 have hstep: ∀n:Nat,n<4->mp R l (n:Int)=C (if lkN R l n≠0 then .inr (.inl (lkN R l n))else .inl ((n+1:Nat):Int)):=by
  intro n hn;unfold mp;simp only[cd];rw[xB (by omega),bq4 h];simp only[wA];rw[bg (n:=(n:Int)+1) (by omega)];split<;>rfl
 have hend:mp R l 4=C (.inr (.inr ())):=rfl;unfold zu aC1
 have key:cj (mp R l) gi 0=C (if lk0 l≠0 then .inl (lk0 l)else if lk1 R l≠0 then .inl (lk1 R l)else if lk2 l≠0 then .inl (lk2 l)else if lk3 l≠0 then .inl (lk3 l)else .inr ()):=by
  have hB:gi=18446744073709551611+1+1+1+1+1:=rfl;rw[hB,eo];have h0:=hstep 0 (by omega);have h1:=hstep 1 (by omega);have h2:=hstep 2 (by omega);have h3:=hstep 3 (by omega);rw[show lkN R l 0=lk0 l from rfl]at h0;rw[show lkN R l 1=lk1 R l from rfl]at h1;rw[show lkN R l 2=lk2 l from rfl]at h2;rw[show lkN R l 3=lk3 l from rfl]at h3;have h0:mp R l 0=_:=h0;rw[h0];simp only[wA];split
  .rfl
  simp only[da];rw[eo,h1];simp only[wA];split
  .rfl
  simp only[da];rw[eo,h2];simp only[wA];split
  .rfl
  simp only[da];rw[eo,h3];simp only[wA];split
  .rfl
  simp only[da];rw[eo,show(((3+1:Nat):Int))=4 from rfl,hend];rfl
 rw[key];simp only[wA];split
 .rfl
 split
 .rfl
 split
 .rfl
 split
 .rfl
 .rename_i h;rw[show lk3 l=0 by omega];rfl
theorem cS1 {R Q:Int}{l k:List df}(h:OpsOk l)(h':OpsOk k):au0 R l Q k=C (yn R l Q k):=by
 have hstep: ∀n:Nat,n<4->rn R l Q k (n:Int)=C (if lkN R l n≠0 then .inr (.inl (lkN R l n))else if lkN Q k n≠0 then .inr (.inl (lkN Q k n))else .inl ((n+1:Nat):Int)):=by
  intro n hn;unfold rn;simp only[cd];rw[xB (by omega),bq4 h,bq4 h'];simp only[wA];rw[bg (n:=(n:Int)+1) (by omega)];split
  .rfl
  split<;>rfl
 have hend:rn R l Q k 4=C (.inr (.inr ())):=rfl;unfold au0 yn
 have key:cj (rn R l Q k) gi 0=C (if lk0 l≠0 then .inl (lk0 l)else if lk0 k≠0 then .inl (lk0 k)else if lk1 R l≠0 then .inl (lk1 R l)else if lk1 Q k≠0 then .inl (lk1 Q k)else if lk2 l≠0 then .inl (lk2 l)else if lk2 k≠0 then .inl (lk2 k)else if lk3 l≠0 then .inl (lk3 l)else if lk3 k≠0 then .inl (lk3 k)else .inr ()):=by
  have hB:gi=18446744073709551611+1+1+1+1+1:=rfl;rw[hB,eo];have h0:=hstep 0 (by omega);have h1:=hstep 1 (by omega);have h2:=hstep 2 (by omega);have h3:=hstep 3 (by omega);rw[show lkN R l 0=lk0 l from rfl,show lkN Q k 0=lk0 k from rfl]at h0;rw[show lkN R l 1=lk1 R l from rfl,show lkN Q k 1=lk1 Q k from rfl]at h1;rw[show lkN R l 2=lk2 l from rfl,show lkN Q k 2=lk2 k from rfl]at h2;rw[show lkN R l 3=lk3 l from rfl,show lkN Q k 3=lk3 k from rfl]at h3;have h0:rn R l Q k 0=_:=h0;rw[h0];simp only[wA];split
  .rfl
  split
  .rfl
  simp only[da];rw[eo,h1];simp only[wA];split
  .rfl
  split
  .rfl
  simp only[da];rw[eo,h2];simp only[wA];split
  .rfl
  split
  .rfl
  simp only[da];rw[eo,h3];simp only[wA];split
  .rfl
  split
  .rfl
  simp only[da];rw[eo,show(((3+1:Nat):Int))=4 from rfl,hend];rfl
 rw[key];simp only[wA];split
 .rfl
 split
 .rfl
 split
 .rfl
 split
 .rfl
 split
 .rfl
 split
 .rfl
 split
 .rfl
 split
 .rfl
 .rename_i h;rw[show lk3 k=0 by omega];rfl
abbrev dZ8 :Sh:= .list (.pair (.int .i64) (.pair (.int .i64) (.pair (.int .i64) (.pair (.int .i64) (.int .u64)))))
theorem cx6 {l:List df}(f:da9 dZ8 l)(h:l.length<=100):OpsOk l:=⟨h,λo ho=>(f.2 o ho).2.2.2.2⟩
theorem dv7 (a0:Int)(a1:List df)(a2:Int)(a3:List df)(a4 a5:Int): ∃d,ae2 a0 a1 a2 a3 a4 a5=C d/\xk a0 a1 a2 a3 a4 a5=C d:=by
 unfold ae2 xk;simp only[aS6,wA,cd];by_cases c1:a4<1
 .rw[xB c1,xB c1];exact⟨_,rfl,rfl⟩
 rw[xD c1,xD c1];by_cases c2:64<a4
 .rw[xB c2,xB c2];exact⟨_,rfl,rfl⟩
 rw[xD c2,xD c2];by_cases c3:a5<0
 .rw[xB c3,xB c3];exact⟨_,rfl,rfl⟩
 rw[xD c3,xD c3];by_cases c4:64<a5
 .rw[xB c4];simp only[wA];rw[cd,xB c4];exact⟨_,rfl,rfl⟩
 rw[xD c4];simp only[wA];rw[cd,xD c4];by_cases c5:a0<IntKind.i64.wrap (wB wC (a4+a5)+1)
 .rw[xB c5,xB c5];exact⟨_,rfl,rfl⟩
 rw[xD c5,xD c5];by_cases c6:a2<IntKind.i64.wrap (a4+a5)
 .rw[xB c6,zD c6];exact⟨_,rfl,rfl⟩
 .rw[xD c6,zB c6];exact⟨_,rfl,rfl⟩
def aG1 (s l x t:Int):Int:=if x<1 then 10 else if 64<x then 10 else if t<0 then 10 else if 64<t then 10 else if s<IntKind.i64.wrap (wB wC (x+t)+1)then 10 else if l<IntKind.i64.wrap (x+t)then 10 else 0
theorem bX1 (a0:Int)(a1:List df)(a2:Int)(a3:List df)(a4 a5:Int):xk a0 a1 a2 a3 a4 a5=C (aG1 a0 a2 a4 a5):=by
 unfold xk aG1;simp only[cd];split
 .rfl
 split
 .rfl
 split
 .rfl
 split
 .rfl
 split
 .rfl
 split<;>rfl
theorem cO9 (a0:Int)(a1:List df)(a2:Int)(a3:List df)(a4 a5:Int):ae2 a0 a1 a2 a3 a4 a5=C (aG1 a0 a2 a4 a5):=by
 obtain⟨d,h1,h2⟩:=dv7 a0 a1 a2 a3 a4 a5;rw[h1,<-h2,bX1]
def hk0 (m:Int):Int:=if m<1 then 5 else if 3<m then 5 else 0
def hk3 (m n:Int):Int:=if n<0 then 11 else if(if m=2 then 0 else 65535)<n then 11 else 0
def hk4 (b:Int):Int:=if b<0 then 12 else if 1048576<b then 12 else 0
def aw2 (m:Int)(x t:Nat)(R:Int)(l:List df)(Q:Int)(k:List df)(n b:Int):Int:=if hk0 m≠0 then hk0 m else if yn R l Q k≠0 then yn R l Q k else if aG1 R Q x t≠0 then aG1 R Q x t else if hk3 m n≠0 then hk3 m n else hk4 b
theorem bd7 (b:Bool)(e:Int):pi b e=C (if b then e else 0):=by cases b<;>rfl
section
variable {a0:Int} {a1 a2:Zd} {a3:Int} {a4:List df} {a5:Int} {a6:List df} {a7 a8:Int}
theorem dL2 :nr a0 a1 a2 a3 a4 a5 a6 a7 a8=C (hk0 a0):=by
 unfold nr hk0;simp only[bd7,wA,cd];split
 .rfl
 .by_cases c:3<a0<;>simp[c]
theorem cQ2 (h4:OpsOk a4)(h6:OpsOk a6):jy a0 a1 a2 a3 a4 a5 a6 a7 a8=C (yn a3 a4 a5 a6):=by
 unfold jy;rw[cP0 h4 h6];rfl
theorem dL1 :nq a0 a1 a2 a3 a4 a5 a6 a7 a8=C (aG1 a3 a5 (a1.length:Nat) (a2.length:Nat)):=by
 unfold nq;rw[cO9];rfl
theorem dm0 :lr a0 a1 a2 a3 a4 a5 a6 a7 a8=C (hk3 a0 a7):=by
 unfold lr hk3;simp only[bd7,wA,cd];by_cases c0:a0=2
 .rw[xB c0,xB c0];simp only[wA];split
  .rfl
  .by_cases c:0<a7<;>simp[c]
 .rw[xD c0,xD c0];simp only[wA];split
  .rfl
  .by_cases c:65535<a7<;>simp[c]
theorem dl9 :lq a0 a1 a2 a3 a4 a5 a6 a7 a8=C (hk4 a8):=by
 unfold lq hk4;simp only[bd7,wA,cd];split
 .rfl
 .by_cases c:1048576<a8<;>simp[c]
theorem bw2 (h4:OpsOk a4)(h6:OpsOk a6):wI a0 a1 a2 a3 a4 a5 a6 a7 a8=C (aw2 a0 a1.length a2.length a3 a4 a5 a6 a7 a8):=by
 have h0:lm a0 a1 a2 a3 a4 a5 a6 a7 a8 0=C (if hk0 a0≠0 then .inr (.inl (hk0 a0))else .inl 1):=by
  show((nr a0 a1 a2 a3 a4 a5 a6 a7 a8).bind λr=>cond (Zc (r≠0)) _ _)=_;rw[dL2];simp only[wA,cd];split<;>rfl
 have h1:lm a0 a1 a2 a3 a4 a5 a6 a7 a8 1=C (if yn a3 a4 a5 a6≠0 then .inr (.inl (yn a3 a4 a5 a6))else .inl 2):=by
  show((jy a0 a1 a2 a3 a4 a5 a6 a7 a8).bind λr=>cond (Zc (r≠0)) _ _)=_;rw[cQ2 h4 h6];simp only[wA,cd];split<;>rfl
 have h2:lm a0 a1 a2 a3 a4 a5 a6 a7 a8 2=C (if aG1 a3 a5 (a1.length:Nat) (a2.length:Nat)≠0 then .inr (.inl (aG1 a3 a5 (a1.length:Nat) (a2.length:Nat)))else .inl 3):=by
  show((nq a0 a1 a2 a3 a4 a5 a6 a7 a8).bind λr=>cond (Zc (r≠0)) _ _)=_;rw[dL1];simp only[wA,cd];split<;>rfl
 have h3:lm a0 a1 a2 a3 a4 a5 a6 a7 a8 3=C (if hk3 a0 a7≠0 then .inr (.inl (hk3 a0 a7))else .inl 4):=by
  show((lr a0 a1 a2 a3 a4 a5 a6 a7 a8).bind λr=>cond (Zc (r≠0)) _ _)=_;rw[dm0];simp only[wA,cd];split<;>rfl
 have h5:lm a0 a1 a2 a3 a4 a5 a6 a7 a8 4=C (if hk4 a8≠0 then .inr (.inl (hk4 a8))else .inl 5):=by
  show((lq a0 a1 a2 a3 a4 a5 a6 a7 a8).bind λr=>cond (Zc (r≠0)) _ _)=_;rw[dl9];simp only[wA,cd];split<;>rfl
 have hend:lm a0 a1 a2 a3 a4 a5 a6 a7 a8 5=C (.inr (.inr ())):=rfl;unfold wI aw2;have hB:gi=18446744073709551610+1+1+1+1+1+1:=rfl;rw[hB,eo,h0];simp only[wA];split
 .rfl
 simp only[da];rw[eo,h1];simp only[wA];split
 .rfl
 simp only[da];rw[eo,h2];simp only[wA];split
 .rfl
 simp only[da];rw[eo,h3];simp only[wA];split
 .rfl
 simp only[da];rw[eo,h5];simp only[wA];split
 .rfl
 .rename_i h;simp only[da];rw[eo,hend];rw[show hk4 a8=0 by omega];rfl
theorem bI6 (h4:OpsOk a4)(h6:OpsOk a6):zc a0 a1 a2 a3 a4 a5 a6 a7 a8=C (aw2 a0 a1.length a2.length a3 a4 a5 a6 a7 a8):=by
 unfold zc aw2;rw[cS1 h4 h6,bX1];simp only[wA,cd];unfold hk0;by_cases c1:a0<1
 .rw[xB c1,xB c1];rfl
 rw[xD c1,xD c1];by_cases c2:3<a0
 .rw[xB c2,xB c2];rfl
 rw[xD c2,xD c2];rw[xD (show¬(0:Int)≠0 by simp)];by_cases c3:yn a3 a4 a5 a6≠0
 .rw[xB c3,xB c3]
 rw[xD c3,xD c3];by_cases c4:aG1 a3 a5 (a1.length:Nat) (a2.length:Nat)≠0
 .rw[xB c4,xB c4]
 rw[xD c4,xD c4];unfold hk3 hk4;by_cases c5:a7<0
 .rw[xB c5,xB c5];rfl
 rw[xD c5,xD c5];by_cases c6:a0=2
 .rw[xB c6,xB c6];by_cases c7:0<a7
  .rw[xB c7,xB (show(11:Int)≠0 by simp)];by_cases c8:65535<a7
   .rw[xB c8]
   .rw[xD c8,xB (by omega)]
  .rw[xD c7,xD (show¬(0:Int)≠0 by simp),xD (show¬65535<a7 by omega),xD (show¬a7≠0 by omega)];split
   .rfl
   .split<;>rfl
 .rw[xD c6,xD c6];by_cases c8:65535<a7
  .rw[xB c8,xB c8];rfl
  .rw[xD c8,xD c8,xD (show¬(0:Int)≠0 by simp)];split
   .rfl
   .split<;>rfl
structure HFacts (a0:Int)(x t:Nat)(a3:Int)(a4:List df)(a5:Int)(a6:List df)(a7 a8:Int):Prop where
 mode:1<=a0/\a0<=3
 regs:1<=a3/\a3<=64
 regs':1<=a5/\a5<=64
 xs:1<=x/\x<=64
 ts:t<=64
 w:0<=(gb a4).1/\(gb a4).1<=65536
 w':0<=(gb a6).1/\(gb a6).1<=65536
 len:0<=a7/\a7<=65535
 bud:0<=a8/\a8<=1048576
theorem cG5 {R:Int}{l:List df}(h:lk1 R l=0):1<=R/\R<=64:=by
 unfold lk1 at h;split at h
 .rename_i hb;unfold by1 at hb;rw[Bool.and_eq_true]at hb;exact of_decide_eq_true hb.1
 .cases h
theorem ca3 {l:List df}(h:OpsOk l):0<=(gb l).1/\(gb l).1<=65536:=by
 unfold gb;split
 .rename_i hs;split
  .rename_i w hq;have:=bG0 (λo ho=>(h.v o ho).1) hs hq;split
   .simp
   .simp;omega
  .simp
 .simp
theorem df7 {R Q:Int}{l k:List df}(h:yn R l Q k=0):(1<=R/\R<=64)/\(1<=Q/\Q<=64):=by
 unfold yn at h;split at h
 .rename_i c;exact(c h).elim
 split at h
 .rename_i c;exact(c h).elim
 split at h
 .rename_i c;exact(c h).elim
 split at h
 .rename_i c;exact(c h).elim
 rename_i c1 c2;exact⟨cG5 (l:=l) (by omega),cG5 (l:=k) (by omega)⟩
theorem aT2 (h4:OpsOk a4)(h6:OpsOk a6){x t:Nat}(h:aw2 a0 x t a3 a4 a5 a6 a7 a8=0):HFacts a0 x t a3 a4 a5 a6 a7 a8:=by
 unfold aw2 at h;split at h
 .rename_i c;exact(c h).elim
 split at h
 .rename_i c;exact(c h).elim
 split at h
 .rename_i c;exact(c h).elim
 split at h
 .rename_i c;exact(c h).elim
 rename_i c0 c1 c2 c3;obtain⟨r1,r2⟩:=df7 (show yn a3 a4 a5 a6=0 by omega);have c0:hk0 a0=0:=by omega
 have c2:aG1 a3 a5 x t=0:=by omega
 have c3:hk3 a0 a7=0:=by omega
 unfold hk0 at c0;unfold hk3 at c3;unfold hk4 at h;unfold aG1 at c2;refine⟨?_,r1,r2, ?_, ?_,ca3 h4,ca3 h6, ?_, ?_⟩
 .split at c0
  .omega
  split at c0<;>omega
 .split at c2
  .omega
  split at c2<;>omega
 .split at c2
  .omega
  split at c2
  .omega
  split at c2
  .omega
  split at c2<;>omega
 .split at c3
  .omega
  by_cases k3:a0=2
  .rw[xB k3]at c3;split at c3<;>omega
  .rw[xD k3]at c3;split at c3<;>omega
 .split at h
  .omega
  split at h<;>omega
def vp (a0:Int)(a4 a6:List df):Int:=if a0=3 then(gb a6).1 else(gb a4).1+(gb a6).1
def wz (a0:Int)(x:Nat)(a3:Int)(a4:List df):Int:=if a0=3 then(gb a4).1+a3 else x+1
def wE (x t:Nat)(a3 a5:Int):Int:=2*t+2*x+a3+a5+max a3 a5
theorem cZ1 (h4:OpsOk a4)(h6:OpsOk a6):pn a0 a1 a2 a3 a4 a5 a6 a7 a8=C (if aw2 a0 a1.length a2.length a3 a4 a5 a6 a7 a8≠0 then(0,0)else((gb a4).1,(gb a6).1)):=by
 unfold pn;have:=h4.len;have:=h6.len;rw[bw2 h4 h6,ap8 (by omega) h4.v,ap8 (by omega) h6.v];simp only[wA,cd];split<;>rfl
theorem by0 (h4:OpsOk a4)(h6:OpsOk a6):uR a0 a1 a2 a3 a4 a5 a6 a7 a8=C (if aw2 a0 a1.length a2.length a3 a4 a5 a6 a7 a8≠0 then(0,0)else((gb a4).1,(gb a6).1)):=by
 unfold uR;have:=h4.len;have:=h6.len;rw[bI6 h4 h6,aw5 h4.len h4.v,aw5 h6.len h6.v];simp only[wA,cd];split<;>rfl
theorem bq0 (h4:OpsOk a4)(h6:OpsOk a6)(h:aw2 a0 a1.length a2.length a3 a4 a5 a6 a7 a8=0):af3 a0 a1 a2 a3 a4 a5 a6 a7 a8=C (((a2.length:Nat):Int),((a1.length:Nat):Int),a3,a5,max a3 a5,((a1.length:Nat):Int),((a2.length:Nat):Int),vp a0 a4 a6,wz a0 a1.length a3 a4):=by
 have f:=aT2 h4 h6 h;have g1:=f.mode;have g2:=f.regs;have g3:=f.xs;have g4:=f.w;have g5:=f.w';unfold af3 vp wz;rw[cZ1 h4 h6,xD (λc=>c h)];simp only[wA,cd];rw[bg (n:=(gb a4).1+a3) (by omega),bg (n:=(gb a4).1+(gb a6).1) (by omega),bg (n:=(a1.length:Int)+1) (by omega)];split
 .rfl
 .rfl
def pre (L:Zd):Nat->Int
 |0=>0
 |i+1=>pre L i+L.getD i 0
theorem cx7 {L:Zd}(hb: ∀j,0<=L.getD j 0/\L.getD j 0<=1000000000000): ∀i,0<=pre L i/\pre L i<=1000000000000*i
 |0=>⟨iR _,iR _⟩
 |i+1=>by
  have:=cx7 hb i;have:=hb i;simp only[pre];omega
theorem bW5 {b0 b1 b2 b3 b4 b5 b6 b7 b8 n:Int}(hb: ∀j,0<=([b0,b1,b2,b3,b4,b5,b6,b7,b8*n]:Zd).getD j 0/\([b0,b1,b2,b3,b4,b5,b6,b7,b8*n]:Zd).getD j 0<=1000000000000):ay4 b0 b1 b2 b3 b4 b5 b6 b7 b8 n=C ((fD 10).map (pre [b0,b1,b2,b3,b4,b5,b6,b7,b8*n])):=by
 generalize hL:([b0,b1,b2,b3,b4,b5,b6,b7,b8*n]:Zd)=L at*;have hp:=cx7 hb
 have key:cj (yw b0 b1 b2 b3 b4 b5 b6 b7 b8) gi (0,(pre L 0,(fD 0).map (pre L)))=C (pre L 8,(fD 8).map (pre L)):=by
  refine gl (n:=8) (λi=>(pre L i,(fD i).map (pre L))) (by omega) (λi hi=> ?_) ?_
  .unfold yw;rw[cd,xB (by omega),cw (show i<9 by omega)];simp only[wA]
   have e:iI [b0,b1,b2,b3,b4,b5,b6,b7,b8] i 0=L.getD i 0:=by
    subst hL;rcases(show i=0∨i=1∨i=2∨i=3∨i=4∨i=5∨i=6∨i=7 by omega)with rfl|rfl|rfl|rfl|rfl|rfl|rfl|rfl<;>rfl
   have h1:=hp i;have h2:=hb i;rw[e];rw[ej (by simp;omega) (by omega),bg (n:=pre L i+L.getD i 0) (by omega),bg (n:=(i:Int)+1) (by omega),iY,iL];rfl
  .unfold yw;rw[cd,xD (by omega)]
 unfold ay4;have key:cj (yw b0 b1 b2 b3 b4 b5 b6 b7 b8) gi ((0,0,[]))=_:=key;rw[key];have h1:=hp 8;have h2:=hb 8;have e:L.getD 8 0=b8*n:=by subst hL;rfl
 rw[e]at h2;simp only[wA];rw[ej (by simp) (by omega),ej (by simp) (by omega),bg (n:=b8*n) (by omega),bg (n:=pre L 8+b8*n) (by omega)];show _=C ((fD (8+1+1)).map (pre L));rw[iY (n:=8+1),iY (n:=8),iL,iL];show _=C (((fD 8).map (pre L)++[pre L 8])++[pre L 8+L.getD 8 0]);rw[e]
theorem dg0 {b0 b1 b2 b3 b4 b5 b6 b7 b8 n:Int}(hb: ∀j,0<=([b0,b1,b2,b3,b4,b5,b6,b7,b8*n]:Zd).getD j 0/\([b0,b1,b2,b3,b4,b5,b6,b7,b8*n]:Zd).getD j 0<=1000000000000):am8 b0 b1 b2 b3 b4 b5 b6 b7 b8 n=C (b0+b1+b2+b3+b4+b5+b6+b7+b8*n):=by
 unfold am8;rw[bW5 hb];show C (0+b0+b1+b2+b3+b4+b5+b6+b7+b8*n)=_;rw[fB]
theorem dY9 {b0 b1 b2 b3 b4 b5 b6 b7 b8:Int}{p:Int->Prop}(h:p b0)(h1:p b1)(h2:p b2)(h3:p b3)(h4:p b4)(h5:p b5)(h6:p b6)(h7:p b7)(h8:p b8)(hz:p 0): ∀j,p (([b0,b1,b2,b3,b4,b5,b6,b7,b8]:Zd).getD j 0)
 |0=>h
 |1=>h1
 |2=>h2
 |3=>h3
 |4=>h4
 |5=>h5
 |6=>h6
 |7=>h7
 |8=>h8
 |j+9=>by
  show p ((([]:Zd)).getD j 0);rw[List.getD_nil];exact hz
theorem bV8 {s n:Int}(hs:0<=s/\s<=100000)(hn:0<=n/\n<=1048576):0<=s*n/\s*n<=1000000000000:=by
 have h1:=iG hs.1 hn.1;have h2:=Int.mul_le_mul hs.2 hn.2 hn.1 (by omega);omega
structure SFacts (x t:Nat)(a3 a5 tp sl:Int):Prop where
 xs:1<=x/\x<=64
 ts:t<=64
 r:1<=a3/\a3<=64
 r':1<=a5/\a5<=64
 tp:0<=tp/\tp<=131072
 sl:1<=sl/\sl<=100000
theorem bE6 (h4:OpsOk a4)(h6:OpsOk a6){x t:Nat}(h:aw2 a0 x t a3 a4 a5 a6 a7 a8=0):SFacts x t a3 a5 (vp a0 a4 a6) (wz a0 x a3 a4):=by
 have f:=aT2 h4 h6 h;have g1:=f.mode;have g2:=f.regs;have g3:=f.xs;have g4:=f.w;have g5:=f.w';refine⟨f.xs,f.ts,f.regs,f.regs', ?_, ?_⟩
 .unfold vp;split<;>omega
 .unfold wz;split<;>omega
theorem cy9 {x t:Nat}{tp sl n:Int}(s:SFacts x t a3 a5 tp sl)(hn:0<=n/\n<=1048576): ∀j,0<=([(t:Int),x,a3,a5,max a3 a5,x,t,tp,sl*n]:Zd).getD j 0/\([(t:Int),x,a3,a5,max a3 a5,x,t,tp,sl*n]:Zd).getD j 0<=1000000000000:=by
 have g1:=s.xs;have g2:=s.ts;have g3:=s.r;have g4:=s.r';have g5:=s.tp;have g6:=s.sl;exact dY9 (p:=λy=>0<=y/\y<=1000000000000) (by omega) (by omega) (by omega) (by omega) (by omega) (by omega) (by omega) (by omega) (bV8 (by omega) hn) (by omega)
theorem dN4 {x t:Nat}{tp sl n:Int}(s:SFacts x t a3 a5 tp sl)(hn:0<=n/\n<=1048576):am8 t x a3 a5 (max a3 a5) x t tp sl n=C (wE x t a3 a5+tp+n*sl):=by
 rw[dg0 (cy9 s hn)];unfold wE;rw[iF sl n]
 congr 1
 omega
theorem cI9 {tp sl:Int}(h:SFacts a1.length a2.length a3 a5 tp sl):al6 a0 a1 a2 a3 a4 a5 a6 a7 a8=C (wE a1.length a2.length a3 a5):=by
 have g1:=h.xs;have g2:=h.ts;have g3:=h.r;have g4:=h.r';unfold al6 wE;rw[bg (n:=2*(a2.length:Int)) (by omega),bg (n:=2*(a1.length:Int)) (by omega),bg (n:=2*(a2.length:Int)+2*(a1.length:Int)) (by omega),bg (n:=2*(a2.length:Int)+2*(a1.length:Int)+a3) (by omega),bg (n:=2*(a2.length:Int)+2*(a1.length:Int)+a3+a5) (by omega),bg (by omega)]
theorem cT0 (h4:OpsOk a4)(h6:OpsOk a6)(h:aw2 a0 a1.length a2.length a3 a4 a5 a6 a7 a8=0):av0 a0 a1 a2 a3 a4 a5 a6 a7 a8=C (vp a0 a4 a6):=by
 have f:=aT2 h4 h6 h;have g4:=f.w;have g5:=f.w';unfold av0 vp;rw[by0 h4 h6,xD (λc=>c h)];simp only[wA,cd];rw[bg (by omega)];split<;>rfl
theorem cS9 (h4:OpsOk a4)(h6:OpsOk a6)(h:aw2 a0 a1.length a2.length a3 a4 a5 a6 a7 a8=0):au9 a0 a1 a2 a3 a4 a5 a6 a7 a8=C (wz a0 a1.length a3 a4):=by
 have f:=aT2 h4 h6 h;have g2:=f.regs;have g3:=f.xs;have g4:=f.w;have g5:=f.w';unfold au9 wz;rw[by0 h4 h6,xD (λc=>c h)];simp only[wA,cd];rw[bg (n:=(gb a4).1+a3) (by omega),bg (by omega)];split<;>rfl
def least (a0 a7:Int):Int:=if a0=3 then a7 else 1
def jp (a0:Int)(x t:Nat)(a3:Int)(a4:List df)(a5:Int)(a6:List df)(a7 a8:Int):Int×Int×Int×Int×Int:=
 if aw2 a0 x t a3 a4 a5 a6 a7 a8≠0 then(0,0,0,0,aw2 a0 x t a3 a4 a5 a6 a7 a8)
 else if a8<wE x t a3 a5+vp a0 a4 a6+least a0 a7*wz a0 x a3 a4 then(0,0,0,0,13)
 else(wE x t a3 a5,vp a0 a4 a6,wz a0 x a3 a4,if a0=3 then a7 else(a8-wE x t a3 a5-vp a0 a4 a6) / wz a0 x a3 a4,0)
theorem dq4 {x t:Nat}{tp sl n:Int}(s:SFacts x t a3 a5 tp sl):cj (af2 (t:Int) (x:Int) a3 a5 (max a3 a5) (x:Int) (t:Int) tp sl) gi (0,0,tp,sl,n)=C (wE x t a3 a5,tp,sl,n):=by
 have hb:=cy9 (n:=1) s (by omega);have hp:=cx7 hb
 have e7:pre [(t:Int),x,a3,a5,max a3 a5,x,t,tp,sl*1] 7=wE x t a3 a5:=by
  show 0+(t:Int)+x+a3+a5+max a3 a5+x+t=_;unfold wE;omega
 rw[<-e7];generalize hL:([(t:Int),x,a3,a5,max a3 a5,x,t,tp,sl*1]:Zd)=L at*;refine gl (n:=7) (λi=>(pre L i,tp,sl,n)) (c:=(pre L 7,tp,sl,n)) (by omega) (λi hi=> ?_) ?_
 .unfold af2;rw[cd,xB (by omega),cw (show i<9 by omega)];simp only[wA]
  have e:iI [(t:Int),x,a3,a5,max a3 a5,x,t,tp,sl] i 0=L.getD i 0:=by
   subst hL;rcases(show i=0∨i=1∨i=2∨i=3∨i=4∨i=5∨i=6 by omega)with rfl|rfl|rfl|rfl|rfl|rfl|rfl<;>rfl
  have h1:=hp i;have h2:=hb i;rw[e,bg (n:=pre L i+L.getD i 0) (by omega),bg (n:=(i:Int)+1) (by omega)];rfl
 .unfold af2;rw[cd,xD (by omega)]
theorem bD6 (h4:OpsOk a4)(h6:OpsOk a6):ab6 a0 a1 a2 a3 a4 a5 a6 a7 a8=C (jp a0 a1.length a2.length a3 a4 a5 a6 a7 a8):=by
 unfold ab6 jp;rw[bw2 h4 h6];simp only[wA];by_cases h:aw2 a0 a1.length a2.length a3 a4 a5 a6 a7 a8=0
 .rw[zB (λc=>c h),yD,xD (λc=>c h),bq0 h4 h6 h];have s:=bE6 h4 h6 h;have f:=aT2 h4 h6 h;have g1:=f.mode;have g2:=f.len;have g3:=f.bud;have g4:=s.xs;have g5:=s.ts;have g6:=s.r;have g7:=s.r';have g8:=s.tp;have g9:=s.sl
  have hl:(cond (Zc (a0=3)) (C a7) (C (1:Int)))=C (least a0 a7):=by
   unfold least;rw[cd];split<;>rfl
  have hln:0<=least a0 a7/\least a0 a7<=65535:=by unfold least;split<;>omega
  simp only[wA];rw[hl];simp only[wA];rw[dN4 s (by omega)];simp only[wA];rw[dq4 s];simp only[wA,cd];by_cases c:a8<wE a1.length a2.length a3 a5+vp a0 a4 a6+least a0 a7*wz a0 a1.length a3 a4
  .rw[xB c,xB c]
  .rw[xD c,xD c];have hfx:0<=wE a1.length a2.length a3 a5/\wE a1.length a2.length a3 a5<=1000:=by unfold wE;omega
   by_cases c3:a0=3
   .rw[xD (λk=>k c3),xB c3];unfold least;rw[xB c3]
   .rw[xB c3,xD c3,dL0 (by omega)];unfold least at c;rw[xD c3]at c;generalize wE a1.length a2.length a3 a5=fx at*;generalize vp a0 a4 a6=tp at*;generalize wz a0 a1.length a3 a4=sl at*;rw[bg (n:=a8-fx) (by omega),bg (n:=a8-fx-tp) (by omega),da4 (by omega)];have hd1:0<=(a8-fx-tp) / sl:=iQ (by omega) (by omega);have hd2:(a8-fx-tp) / sl<=a8-fx-tp:=iP _ (by omega);rw[bg (by omega)]
 .rw[zD h,yB,xB h]
theorem aC4 (h4:OpsOk a4)(h6:OpsOk a6):xq a0 a1 a2 a3 a4 a5 a6 a7 a8=C (jp a0 a1.length a2.length a3 a4 a5 a6 a7 a8):=by
 unfold xq jp;rw[bI6 h4 h6];simp only[wA];by_cases h:aw2 a0 a1.length a2.length a3 a4 a5 a6 a7 a8=0
 .have s:=bE6 h4 h6 h;have f:=aT2 h4 h6 h;rw[zB (λc=>c h),yD,xD (λc=>c h),cI9 s,cT0 h4 h6 h,cS9 h4 h6 h];have g1:=f.mode;have g2:=f.len;have g3:=f.bud;have g4:=s.xs;have g5:=s.ts;have g6:=s.r;have g7:=s.r';have g8:=s.tp;have g9:=s.sl;have hfx:0<=wE a1.length a2.length a3 a5/\wE a1.length a2.length a3 a5<=1000:=by unfold wE;omega
  have hln:0<=least a0 a7/\least a0 a7<=65535:=by unfold least;split<;>omega
  simp only[wA];generalize wE a1.length a2.length a3 a5=fx at*;generalize vp a0 a4 a6=tp at*;generalize wz a0 a1.length a3 a4=sl at*
  have hl:(cond (Zc (a0=3)) (C ((fx,tp,sl,a7):Int×Int×Int×Int)) (C (fx,tp,sl,1)))=C (fx,tp,sl,least a0 a7):=by
   unfold least;rw[cd];split<;>rfl
  rw[hl];simp only[wA];have hm:=bV8 (s:=sl) (n:=least a0 a7) (by omega) (by omega);rw[iF]at hm;rw[bg (n:=fx+tp) (by omega),bg (n:=least a0 a7*sl) (by omega),bg (by omega),cd];by_cases c:a8<fx+tp+least a0 a7*sl
  .rw[xB c,xB c]
  .rw[xD c,xD c];by_cases c3:a0=3
   .have key:cj (vm a0 a8) gi (fx,tp,sl,least a0 a7)=C (fx,tp,sl,least a0 a7):=by
     rw[show gi=18446744073709551615+1 from rfl,eo];unfold vm;rw[cd,xD (λk=>k c3)];rfl
    rw[key,xB c3];unfold least;rw[xB c3];rfl
   .have key:cj (vm a0 a8) gi (fx,tp,sl,least a0 a7)=C (fx,tp,sl,(a8-fx-tp) / sl):=by
     refine dy5 (λst=> ∃n:Int,st=(fx,tp,sl,n)/\1<=n/\n<=1048577/\fx+tp+n*sl<=a8) (λst=>(2000000-st.2.2.2).toNat) ⟨least a0 a7,rfl,by unfold least;rw[xD c3];omega,by omega,by omega⟩ (by simp;omega) ?_;rintro _ ⟨n,rfl,n1,n2,n3⟩;unfold vm;simp only;have hm:=bV8 (s:=sl) (n:=n+1-2) (by omega) (by omega);have hx:(n+1)*sl=sl*(n+1-2)+2*sl:=by rw[Int.mul_sub,iF];omega
     have hx2:(n+1)*sl=n*sl+sl:=by rw[Int.add_mul,Int.one_mul]
     rw[cd,xB c3,bg (n:=n+1) (by omega),bg (n:=fx+tp) (by omega),bg (n:=(n+1)*sl) (by omega),bg (by omega),cd]
     have hnsl:n<=n*sl:=by
      have:=iS (show 1<=sl by omega) (show 0<=n by omega);omega
     by_cases c5:fx+tp+(n+1)*sl<=a8
     .rw[xB c5];left;exact⟨_,rfl,⟨n+1,rfl,by omega,by omega,c5⟩,by simp only;omega⟩
     .rw[xD c5];right
      have hd:(a8-fx-tp) / sl=n:=by
       have e1:a8-fx-tp=(a8-fx-tp-n*sl)+n*sl:=by omega
       rw[e1,Int.add_mul_ediv_right _ _ (by omega),Int.ediv_eq_zero_of_lt (by omega) (by omega),fB]
      rw[hd]
    rw[key,xD c3];rfl
 .rw[zD h,yB,xB h]
theorem df9 (h4:OpsOk a4)(h6:OpsOk a6): ∃r,vt a0 a1 a2 a3 a4 a5 a6 a7 a8=C r/\wK a0 a1 a2 a3 a4 a5 a6 a7 a8=C r/\r.2.length<=10:=by
 unfold vt wK;rw[bD6 h4 h6,aC4 h4 h6];simp only[wA,cd];by_cases h:(jp a0 a1.length a2.length a3 a4 a5 a6 a7 a8).2.2.2.2≠0
 .rw[xB h,xB h];exact⟨_,rfl,rfl,by simp⟩
 rw[xD h,xD h]
 have hc:aw2 a0 a1.length a2.length a3 a4 a5 a6 a7 a8=0:=by
  by_cases hc:aw2 a0 a1.length a2.length a3 a4 a5 a6 a7 a8=0
  .exact hc
  .exfalso;apply h;unfold jp;rw[xB hc];exact hc
 have s:=bE6 h4 h6 hc;have f:=aT2 h4 h6 hc;rw[bq0 h4 h6 hc];simp only[wA];have g1:=f.mode;have g2:=f.len;have g3:=f.bud;have g4:=s.xs;have g5:=s.ts;have g6:=s.r;have g7:=s.r';have g8:=s.tp;have g9:=s.sl;have hfx:0<=wE a1.length a2.length a3 a5/\wE a1.length a2.length a3 a5<=1000:=by unfold wE;omega
 have hpl:(jp a0 a1.length a2.length a3 a4 a5 a6 a7 a8).2.1=vp a0 a4 a6/\(jp a0 a1.length a2.length a3 a4 a5 a6 a7 a8).2.2.1=wz a0 a1.length a3 a4/\0<=(jp a0 a1.length a2.length a3 a4 a5 a6 a7 a8).2.2.2.1/\(jp a0 a1.length a2.length a3 a4 a5 a6 a7 a8).2.2.2.1<=1048576:=by
  unfold jp at h⊢;rw[xD (λc=>c hc)]at h⊢;split at h
  .exact(h (by simp)).elim
  .rename_i c;rw[xD c];refine⟨rfl,rfl, ?_, ?_⟩
   .simp only;split
    .omega
    .rename_i c3;unfold least at c;rw[xD c3]at c;exact iQ (by omega) (by omega)
   .simp only;split
    .omega
    .rename_i c3;unfold least at c;rw[xD c3]at c;have hd2:(a8-wE a1.length a2.length a3 a5-vp a0 a4 a6) / wz a0 a1.length a3 a4<=a8-wE a1.length a2.length a3 a5-vp a0 a4 a6:=iP _ (by omega);omega
 obtain⟨p1,p2,p3,p4⟩:=hpl;generalize jp a0 a1.length a2.length a3 a4 a5 a6 a7 a8=pl at*;have hb:=cy9 (n:=pl.2.2.2.1) s ⟨p3,p4⟩;have hp:=cx7 hb;rw[bW5 hb];refine⟨(0,_),rfl, ?_,by simp⟩;have hmul:=bV8 (s:=wz a0 a1.length a3 a4) (n:=pl.2.2.2.1) (by omega) ⟨p3,p4⟩;generalize hL:([(a2.length:Int),a1.length,a3,a5,max a3 a5,a1.length,a2.length,vp a0 a4 a6,wz a0 a1.length a3 a4*pl.2.2.2.1]:Zd)=L at*
 have key:cj (si a1 a2 a3 a5 pl) gi (0,(fD (0+1)).map (pre L))=C ((fD 10).map (pre L)):=by
  refine gl (n:=9) (λi=>(fD (i+1)).map (pre L)) (by omega) (λi hi=> ?_) ?_
  .unfold si;rw[cd,xB (by omega),cw (show i<((fD (i+1)).map (pre L)).length by simp),cw (show i<9 by omega)];simp only[wA]
   have e1:((fD (i+1)).map (pre L))[i]?=C (pre L i):=by
    rw[List.getElem?_map,List.getElem?_range (by omega)];rfl
   rw[e1];simp only[wA]
   have e2:iI [((a2.length:Nat):Int),((a1.length:Nat):Int),a3,a5,max a3 a5,((a1.length:Nat):Int),((a2.length:Nat):Int),pl.2.1,wB wC (pl.2.2.2.1*pl.2.2.1)] i 0=L.getD i 0:=by
    rw[p1,p2,iF,bg (by omega)];rw[hL]
   have h1:=hp i;have h2:=hb i;rw[e2,ej (by simp;omega) (by omega),bg (n:=pre L i+L.getD i 0) (by omega),bg (n:=(i:Int)+1) (by omega),iY (n:=i+1),iL];rfl
  .unfold si;rw[cd,xD (by omega)]
 have key:cj (si a1 a2 a3 a5 pl) gi (0,[0])=_:=key;rw[key];rfl
end
def Reach {α γ:Type}(f:α->Option (α⊕γ))(k:Nat)(s s':α):Prop:= ∀fu,cj f (fu+k) s=cj f fu s'
theorem Reach.refl {α γ:Type}{f:α->Option (α⊕γ)}{s:α}:Reach f 0 s s:=λ_=>rfl
theorem Reach.trans {α γ:Type}{f:α->Option (α⊕γ)}{k k':Nat}{s s' s'':α}(h:Reach f k s s')(h':Reach f k' s' s''):Reach f (k+k') s s'':=by
 intro fu;rw[show fu+(k+k')=(fu+k')+k by omega,h,h']
theorem Reach.one {α γ:Type}{f:α->Option (α⊕γ)}{s s':α}(h:f s=C (.inl s')):Reach f 1 s s':=by
 intro fu;rw[eo,h];rfl
section
variable {l:List df}
theorem dS7 {i:Nat}{out st:Zd}(hl:l.length<=1000)(hst:st.length<=1000)(hi:i<l.length)(hk:0<l[i].1/\l[i].1<7)(ho:out.length=l.length):
  fh l ((i:Int),Za,out,st,st)=C (.inl (((i+1:Nat):Int),Za,out.set i (-1),st,st)):=by
 simp only[fh];rw[zD (show(i:Int)<(l.length:Int)by omega),yB,dh hi];simp only[wA];generalize hx:l[i]=x at*;rw[zB (show¬x.1<0 by omega),yD,zB (show¬7<x.1 by omega),yD,zB (show¬x.1=0 by omega)];simp only[yD,wA,cq];rw[cw (show i<out.length by omega)];simp only[wA];rw[aD (show i<out.length by omega)];simp only[wA];rw[zB (show¬x.1=7 by omega)];simp only[yD];rw[bg (n:=(i:Int)+1) (by omega)];rfl
theorem dz5 {i:Nat}{out st:Zd}(hl:l.length<=1000)(hst:st.length<=1000)(hi:i<l.length)(hk:l[i].1=7)(ho:out.length=l.length):
  fh l ((i:Int),Za,out,st,st)=C (.inl (((i+1:Nat):Int),Za,out.set i (-1),st++[(i:Int)],st++[(i:Int)])):=by
 simp only[fh];rw[zD (show(i:Int)<(l.length:Int)by omega),yB,dh hi];simp only[wA];generalize hx:l[i]=x at*;rw[zB (show¬x.1<0 by omega),yD,zB (show¬7<x.1 by omega),yD,zB (show¬x.1=0 by omega)];simp only[yD,wA,cq];rw[cw (show i<out.length by omega)];simp only[wA];rw[aD (show i<out.length by omega)];simp only[wA];rw[zD hk];simp only[yB];rw[ej (by omega) (by omega),ej (by omega) (by omega),bg (n:=(i:Int)+1) (by omega)];rfl
theorem dp1 {i q:Nat}{out st:Zd}(hl:l.length<=1000)(hst:st.length<1000)(hi:i<l.length)(hk:l[i].1=0)(ho:out.length=l.length)(hq:q<l.length):
  fh l ((i:Int),Za,out,st++[(q:Int)],st++[(q:Int)])=C (.inl (((i+1:Nat):Int),Za,((out.set i (-1)).set i (q:Int)).set q (i:Int),st,st)):=by
 have hlen:(st++[(q:Int)]).length=st.length+1:=by simp
 simp only[fh];rw[zD (show(i:Int)<(l.length:Int)by omega),yB,dh hi];simp only[wA];generalize hx:l[i]=x at*;rw[zB (show¬x.1<0 by omega),yD,zB (show¬7<x.1 by omega),yD,zD hk];simp only[yB,wA,cq];rw[zB (show¬((st++[(q:Int)]).length:Int)=0 by omega),yD];rw[bg (n:=((st++[(q:Int)]).length:Int)-1) (by omega),i7 (by omega),fg];simp only[wA,cq];have e7:Zc (x.1=7)=Zb:=zB (by omega);rw[cw (show i<out.length by omega)];simp only[wA];rw[aD (show i<out.length by omega)];simp only[wA];rw[e7,yD,show((st++[(q:Int)]).length:Int)-1=(st.length:Int)by rw[hlen];omega,cw (show st.length<(st++[(q:Int)]).length by omega)];simp only[wA];rw[dD (aB _),bD];simp only[sD,wA]
 rw[fg,cw (show i<(out.set i (-1)).length by simp;omega)];simp only[wA];rw[aD (show i<(out.set i (-1)).length by simp;omega)];simp only[wA];rw[cw (show q<((out.set i (-1)).set i ((q:Nat):Int)).length by simp;omega)];simp only[wA];rw[aD (show q<((out.set i (-1)).set i ((q:Nat):Int)).length by simp;omega)];simp only[wA]
 have htk:(st++[(q:Int)]).take ((st.length:Int).toNat-0)=st:=by
  rw[show(st.length:Int).toNat-0=st.length by omega,kB];rfl
 rw[htk,bg (n:=(i:Int)+1) (by omega)];rfl
theorem cx1 (hl:l.length<=1000): ∀(k:Nat) (A seg B:List df) (out st:Zd),seg.length<=k->l=A++seg++B->dj seg 0=C 0->out.length=l.length->st.length<=A.length->
  ∃out',Reach (fh l) seg.length ((A.length:Int),Za,out,st,st) (((A.length+seg.length:Nat):Int),Za,out',st,st)/\out'.length=l.length/\
   (∀j,¬(A.length<=j/\j<A.length+seg.length)->out'[j]?=out[j]?)/\∀j,A.length<=j->j<A.length+seg.length->(hj:j<l.length)->l[j].1=7->∀inner e rest,l.drop (j+1)=inner++e::rest->e.1=0->dj inner 0=C 0->out'[j]?=C ((j+1+inner.length:Nat):Int)
 |k,A,[],B,out,st,_,hsplit,hs,ho,hst=>⟨out,Reach.refl,ho,λj _=>rfl,λj h1 h2=>by simp at h2;omega⟩
 |0,A,o::seg,B,out,st,hk,_,_,_,_=>by simp at hk
 |k+1,A,o::seg,B,out,st,hk,hsplit,hs,ho,hst=>by
  simp only[cD]at hk⊢;have hlen:l.length=A.length+(seg.length+1)+B.length:=by rw[hsplit];simp;omega
  have hlt:A.length<l.length:=by omega
  have hget:l[A.length]=o:=by
   have:l[A.length]?=C o:=by
    rw[hsplit,dB,dD (aB _),bD];rfl
   rw[aD hlt]at this;injection this
  by_cases hk7:o.1=7
  .have hs1:dj seg 1=C 0:=by
    simp only[dj]at hs;rw[xD (by omega),xD (by omega),xB hk7]at hs;exact hs
   obtain⟨inner,e,rest,h1,h2,h3,h4⟩:=aU3 _ seg 0 (aB _) hs1;subst h1;simp only[eD,cD]at hk hlen⊢
   have hd:l.drop (A.length+1)=inner++e::(rest++B):=by
    rw[hsplit,dB,iU,iV (by omega),show A.length+1-A.length=1 by omega];simp
   have hA1:(A++[o]).length=A.length+1:=by simp
   obtain⟨S1,r1,l1,k1,g1⟩:=cx1 hl k (A++[o]) inner (e::(rest++B)) (out.set A.length (-1)) (st++[(A.length:Int)]) (by omega) (by rw[hsplit];simp) h3 (by simp[ho]) (by simp;omega);rw[hA1]at r1 k1 g1;have hei:A.length+1+inner.length<l.length:=by omega
   have hee:l[A.length+1+inner.length]=e:=by
    have h5:(l.drop (A.length+1))[inner.length]?=C e:=by
     rw[hd,dD (aB _),bD];rfl
    rw[iW,aD hei]at h5;injection h5
   have c1:=dp1 (st:=st) hl (by omega) hei (by rw[hee];exact h2) l1 hlt;have hA2:(A++o::(inner++[e])).length=A.length+1+inner.length+1:=by simp;omega
   obtain⟨S2,r2,l3,k2,g2⟩:=cx1 hl k (A++o::(inner++[e])) rest B (((S1.set (A.length+1+inner.length) (-1)).set (A.length+1+inner.length) (A.length:Int)).set A.length ((A.length+1+inner.length:Nat):Int)) st (by omega) (by rw[hsplit];simp) h4 (by simp[l1]) (by omega);rw[hA2]at r2 k2 g2;refine⟨S2, ?_,l3,λj hj=> ?_,λj h5 h6 hj hk inner' e' rest' p1 p2 p3=> ?_⟩
   .have h0:=Reach.one (dz5 (out:=out) (st:=st) hl (by omega) hlt (by rw[hget];exact hk7) ho);have h7:=((h0.trans r1).trans (Reach.one c1)).trans r2;rw[show 1+inner.length+1+rest.length=inner.length+(rest.length+1)+1 by omega,show A.length+1+inner.length+1+rest.length=A.length+(inner.length+(rest.length+1)+1)by omega]at h7;exact h7
   .rw[k2 j (by omega),cB (by omega),cB (by omega),cB (by omega),k1 j (by omega),cB (by omega)]
   .by_cases hj1:A.length+1+inner.length+1<=j
    .exact g2 j hj1 (by omega) hj hk inner' e' rest' p1 p2 p3
    .rw[k2 j (by omega)];by_cases hj2:A.length=j
     .subst hj2;rw[iJ (by simp;omega)];have:=ax0 (hd.symm.trans p1) h3 p3 h2 p2;subst this;rfl
     .have hj3:j<A.length+1+inner.length:=by
       by_cases hj4:j<A.length+1+inner.length
       .exact hj4
       .exfalso;have hj4:j=A.length+1+inner.length:=by omega
        subst hj4;rw[hee]at hk;omega
      rw[cB hj2,cB (by omega),cB (by omega)];exact g1 j (by omega) hj3 hj hk inner' e' rest' p1 p2 p3
  .obtain⟨hsr,hko,_⟩:=cg0 hs hk7;have hA1:(A++[o]).length=A.length+1:=by simp
   have c1:=dS7 (out:=out) (st:=st) hl (by omega) hlt (by rw[hget];exact hko) ho;obtain⟨S1,r1,l1,k1,g1⟩:=cx1 hl k (A++[o]) seg B (out.set A.length (-1)) st (by omega) (by rw[hsplit];simp) hsr (by simp[ho]) (by omega);rw[hA1]at r1 k1 g1;refine⟨S1, ?_,l1,λj hj=> ?_,λj h5 h6 hj hk inner' e' rest' p1 p2 p3=> ?_⟩
   .have h7:=(Reach.one c1).trans r1;rw[show 1+seg.length=seg.length+1 by omega,show A.length+1+seg.length=A.length+(seg.length+1)by omega]at h7;exact h7
   .rw[k1 j (by omega),cB (by omega)]
   .by_cases hj1:A.length+1<=j
    .exact g1 j hj1 (by omega) hj hk inner' e' rest' p1 p2 p3
    .have hj2:j=A.length:=by omega
     subst hj2;exact(hk7 (by rw[<-hget];exact hk)).elim
theorem bL4 (hl:l.length<=1000)(hs:dj l 0=C 0): ∃m,rz l=C (0,m)/\MOK l m:=by
 obtain⟨S',r1,l1,k1,g1⟩:=cx1 (l:=l) hl _ [] l [] (bB ((l.length:Int)).toNat (0:Int)) [] (aB _) (by simp) hs (by simp) (by simp);rw[show([]:List df).length+l.length=l.length by simp]at r1 g1
 have hloop:cj (fh l) gi ((0:Int),Za,bB ((l.length:Int)).toNat (0:Int),([]:Zd),([]:Zd))=C (Za,S',[],[]):=by
  have h1:=r1 (18446744073709551616-l.length);rw[show 18446744073709551616-l.length+l.length=gi by unfold gi;omega,show 18446744073709551616-l.length=(18446744073709551615-l.length)+1 by omega]at h1;refine h1.trans ?_;rw[eo];simp only[fh];rw[zB (by omega),yD];rfl
 refine⟨S', ?_,⟨l1,λi hi hk inner e rest p1 p2 p3=>g1 i (iE _) hi hi hk inner e rest p1 p2 p3⟩⟩;unfold rz;rw[zD (show(0:Int)<=(l.length:Int)by omega),zD (show(l.length:Int)<=(l.length:Int)by omega),zD (show 8*(l.length:Int)<=140737488355328 by omega)];show gd Za _=_;rw[fg,hloop];rfl
end
section
variable {l:List df}
theorem dn6 {i:Nat}{sz rds:Zd}{pre:List (Int×Int)}{a w:Int}(hl:l.length<=1000)(hp:pre.length<=1000)(hi:i<l.length):
  eu l ((i:Int),sz,rds,pre++[(a,w)])=(cond (Zc (l[i].1=7))
   (C (.inl (((i+1:Nat):Int),sz,rds,pre++[(a,w)]++[((i:Int),0)])))
   (cond (Zc (l[i].1=0))
    ((rd l a).bind λx14=>
    (ag1 w x14.2.2.2.2).bind λr15=>
    cond (!r15.2)
     (C (.inr ((9,sz,rds,pre++[(a,w)]))))
     ((ix a sz.length).bind λj19=>
     (sz[j19]?).bind λx20=>
     (ix a rds.length).bind λj21=>
     (rds[j21]?).bind λx22=>
     gd (md 0 (pre.length:Int) (pre.length+1)) ((ix (wB wC ((pre.length:Int)-1)) pre.length).bind λj23=>
     ((pre++[(a,w)])[(0+j23)]?).bind λx24=>
     (ay7 ([x24.2,r15.1])).bind λr25=>
     (ix (wB wC ((pre.length:Int)-1)) pre.length).bind λj26=>
     ((pre++[(a,w)])[(0+j26)]?).bind λx27=>
     C (.inl (((i+1:Nat):Int),(iZ sz j19 r15.1),(iZ rds j21 w),(List.take pre.length ((iZ (pre++[(a,w)]) (0+j26) ((x27.1,r25))))))))))
    ((oi l[i].1 l[i].2.1 l[i].2.2.1 l[i].2.2.2.1 l[i].2.2.2.2).bind λr28=>
    cond (r28.2)
     ((ix (i:Int) sz.length).bind λj29=>
     (sz[j29]?).bind λx30=>
     C (.inl (((i+1:Nat):Int),(iZ sz j29 1),rds,pre++[(a,wB wC (w+1))])))
     (C (.inl (((i+1:Nat):Int),sz,rds,pre++[(a,w)])))))):=by
 have hlen:(pre++[(a,w)]).length=pre.length+1:=by simp
 have hget:(pre++[(a,w)])[pre.length]?=C (a,w):=by
  rw[dD (aB _),bD];rfl
 have hset: ∀w',(pre++[(a,w)]).set pre.length (a,w')=pre++[(a,w')]:=by
  intro w';rw[jB _ _ (aB _),bD];rfl
 simp only[eu];rw[zD (show(i:Int)<(l.length:Int)by omega),yB,dh hi];simp only[wA];rw[hlen,bg (n:=((pre.length+1:Nat):Int)-1) (by omega),show((pre.length+1:Nat):Int)-1=(pre.length:Int)by omega,cw (show pre.length<pre.length+1 by omega)];simp only[wA];rw[hget,bg (n:=(i:Int)+1) (by omega),ej (by omega) (by omega),show(i:Int)+1=((i+1:Nat):Int)by omega];simp only[wA];rw[hset,show((pre.length:Int).toNat-0)=pre.length by omega]
theorem dY8 {i:Nat}{sz rds:Zd}{pre:List (Int×Int)}{a w:Int}(hl:l.length<=1000)(hp:pre.length<=1000)(hi:i<l.length)(hk:0<l[i].1/\l[i].1<7)(hsz:sz.length=l.length)(hw:0<=w/\w<=1000000000):
  eu l ((i:Int),sz,rds,pre++[(a,w)])=C (.inl (((i+1:Nat):Int),sz.set i 1,rds,pre++[(a,w+1)])):=by
 rw[dn6 hl hp hi,zB (by omega),zB (by omega)];simp only[yD];rw[bm9 hk];simp only[wA,yB];rw[cw (show i<sz.length by omega)];simp only[wA];rw[aD (show i<sz.length by omega)];simp only[wA];rw[bg (n:=w+1) (by omega)]
theorem dM0 {i:Nat}{sz rds:Zd}{pre:List (Int×Int)}{a w:Int}(hl:l.length<=1000)(hp:pre.length<=1000)(hi:i<l.length)(hk:l[i].1=7):
  eu l ((i:Int),sz,rds,pre++[(a,w)])=C (.inl (((i+1:Nat):Int),sz,rds,pre++[(a,w)]++[((i:Int),0)])):=by
 rw[dn6 hl hp hi,zD hk,yB]
theorem dy7 {i an:Nat}{sz rds:Zd}{pre:List (Int×Int)}{a w w2 n:Int}(hl:l.length<=1000)(hp:pre.length<1000)(hi:i<l.length)(hk:l[i].1=0)(han:an<l.length)(hsz:sz.length=l.length)(hrd:rds.length=l.length)(hw:0<=w/\w<=1000000000)(hw2:0<=w2/\w2<=1000000000)
  (hv:0<=l[an].2.2.2.2/\l[an].2.2.2.2<=18446744073709551615) (hb:aE5 w l[an].2.2.2.2=C n):
  eu l ((i:Int),sz,rds,pre++[(a,w2)]++[((an:Int),w)])=C (.inl (((i+1:Nat):Int),sz.set an n,rds.set an w,pre++[(a,w2+n)])):=by
 have hl2:(pre++[(a,w2)]).length=pre.length+1:=by simp
 rw[dn6 hl (by omega) hi,zB (by omega),zD hk];simp only[yD,yB];rw[dh han];simp only[wA];rw[bZ4 ⟨hw.1,by omega⟩ hv,hb];have hn:=bv1 hw.1 hv.1 hb;simp only[wA,iN,yD];rw[cw (show an<sz.length by omega)];simp only[wA];rw[aD (show an<sz.length by omega)];simp only[wA];rw[cw (show an<rds.length by omega)];simp only[wA];rw[aD (show an<rds.length by omega)];simp only[wA];rw[i7 (by omega),fg,hl2,bg (n:=((pre.length+1:Nat):Int)-1) (by omega),show((pre.length+1:Nat):Int)-1=(pre.length:Int)by omega,cw (show pre.length<pre.length+1 by omega)];simp only[wA,iC]
 have hg2:(pre++[(a,w2)]++[((an:Int),w)])[pre.length]?=C (a,w2):=by
  rw[dB,dD (aB _),bD];rfl
 rw[hg2];simp only[wA];rw[cK8 _ _ (by omega) hn];simp only[wA]
 have htk:((pre++[(a,w2)]++[((an:Int),w)]).set pre.length (a,w2+n)).take (pre.length+1)=pre++[(a,w2+n)]:=by
  rw[dB,jB _ _ (aB _),bD];show(pre++[(a,w2+n),((an:Int),w)]).take (pre.length+1)=_;rw[show [(a,w2+n),((an:Int),w)]=[(a,w2+n)]++[((an:Int),w)]from rfl,<-dB,kB];simp
 rw[htk]
def dJ2 (l:List df)(j:Nat)(a b:Int):Prop:= ∀h:j<l.length,(l[j].1=7->∀inner e rest,l.drop (j+1)=inner++e::rest->e.1=0->dj inner 0=C 0->Q9 inner=C b/\aE5 b l[j].2.2.2.2=C a)/\(l[j].1≠7->b=0/\a=if l[j].1=0 then 0 else 1)
theorem cX9 (hl:l.length<=1000)(hv: ∀o∈l,0<=o.2.2.2.2/\o.2.2.2.2<=18446744073709551615): ∀(k:Nat) (A seg B:List df) (S R:Zd) (pre:List (Int×Int)) (p w t:Int),seg.length<=k->l=A++seg++B->dj seg 0=C 0->Q9 seg=C t->S.length=l.length->R.length=l.length->pre.length<=A.length->0<=w/\w<=65537*A.length->(∀j,A.length<=j->j<A.length+seg.length->S[j]?=C 0/\R[j]?=C 0)->
  ∃S' R',Reach (eu l) seg.length ((A.length:Int),S,R,pre++[(p,w)]) (((A.length+seg.length:Nat):Int),S',R',pre++[(p,w+t)])/\S'.length=l.length/\R'.length=l.length/\(0<=t/\t<=65537*seg.length)/\
   (∀j,¬(A.length<=j/\j<A.length+seg.length)->S'[j]?=S[j]?/\R'[j]?=R[j]?)/\∀j,A.length<=j->j<A.length+seg.length->∃a b,S'[j]?=C a/\R'[j]?=C b/\dJ2 l j a b
 |k,A,[],B,S,R,pre,p,w,t,_,hsplit,hs,hq,hS,hR,hpre,hw,hz=>by
  injection hq with hq
  subst hq;refine⟨S,R, ?_,hS,hR,⟨iR _,by simp⟩,λj _=>⟨rfl,rfl⟩,λj h1 h2=> ?_⟩
  .rw[iO];exact Reach.refl
  .simp at h2;omega
 |0,A,o::seg,B,S,R,pre,p,w,t,hk,_,_,_,_,_,_,_,_=>by simp at hk
 |k+1,A,o::seg,B,S,R,pre,p,w,t,hk,hsplit,hs,hq,hS,hR,hpre,hw,hz=>by
  simp only[cD]at hk hz⊢;have hlen:l.length=A.length+(seg.length+1)+B.length:=by rw[hsplit];simp;omega
  have hlt:A.length<l.length:=by omega
  have hget:l[A.length]=o:=by
   have:l[A.length]?=C o:=by
    rw[hsplit,dB,dD (aB _),bD];rfl
   rw[aD hlt]at this;injection this
  by_cases hk7:o.1=7
  .have hs1:dj seg 1=C 0:=by
    simp only[dj]at hs;rw[xD (by omega),xD (by omega),xB hk7]at hs;exact hs
   obtain⟨inner,e,rest,h1,h2,h3,h4⟩:=aU3 _ seg 0 (aB _) hs1;subst h1;simp only[eD,cD]at hk hz hlen⊢;obtain⟨hsr,hQ⟩:=cr0 hs hk7 h2 h3;rw[hQ]at hq;obtain⟨wi,hwi,hq⟩:=cf hq;obtain⟨b,hb,hq⟩:=cf hq;cases hqr:Q9 rest with
   |none=>rw[hqr]at hq;cases hq
   |some tr=>
   rw[hqr]at hq;injection hq with hq
   have hq:b+tr=t:=hq;have hov:0<=o.2.2.2.2/\o.2.2.2.2<=18446744073709551615:=by rw[<-hget];exact hv _ (gD hlt)
   have hd:l.drop (A.length+1)=inner++e::(rest++B):=by
    rw[hsplit,dB,iU,iV (by omega),show A.length+1-A.length=1 by omega];simp
   have hA1:(A++[o]).length=A.length+1:=by simp
   obtain⟨S1,R1,r1,l1,l2,⟨t1,t2⟩,k1,g1⟩:=cX9 hl hv k (A++[o]) inner (e::(rest++B)) S R (pre++[(p,w)]) (A.length:Int) 0 wi (by omega) (by rw[hsplit];simp) h3 hwi hS hR (by simp;omega) (by omega) (λj h5 h6=>hz j (by omega) (by omega));rw[hA1]at r1 k1 g1;have hei:A.length+1+inner.length<l.length:=by omega
   have hee:l[A.length+1+inner.length]=e:=by
    have h5:(l.drop (A.length+1))[inner.length]?=C e:=by
     rw[hd,dD (aB _),bD];rfl
    rw[iW,aD hei]at h5;injection h5
   have hbn:=bv1 t1 hov.1 hb;have c1:=dy7 (pre:=pre) (a:=p) (w2:=w) hl (by omega) hei (by rw[hee];exact h2) hlt l1 l2 (w:=0+wi) (by omega) (by omega) (by rw[hget];exact hov) (n:=b) (by rw[hget,fB];exact hb);have hA2:(A++o::(inner++[e])).length=A.length+1+inner.length+1:=by simp;omega
   obtain⟨S2,R2,r2,l3,l4,⟨t3,t4⟩,k2,g2⟩:=cX9 hl hv k (A++o::(inner++[e])) rest B (S1.set A.length b) (R1.set A.length (0+wi)) pre p (w+b) tr (by omega) (by rw[hsplit];simp) hsr hqr (by simp[l1]) (by simp[l2]) (by omega) (by omega) (λj h5 h6=>by
    rw[hA2]at h5 h6;rw[cB (by omega),cB (by omega),(k1 j (by omega)).1,(k1 j (by omega)).2]
    exact hz j (by omega) (by omega))
   rw[hA2]at r2 k2 g2;refine⟨S2,R2, ?_,l3,l4,⟨by omega,by omega⟩,λj hj=> ?_,λj h5 h6=> ?_⟩
   .have h0:=Reach.one (dM0 (sz:=S) (rds:=R) (pre:=pre) (a:=p) (w:=w) hl (by omega) hlt (by rw[hget];exact hk7));have h7:=((h0.trans r1).trans (Reach.one c1)).trans r2;rw[show 1+inner.length+1+rest.length=inner.length+(rest.length+1)+1 by omega,iA,hq,show A.length+1+inner.length+1+rest.length=A.length+(inner.length+(rest.length+1)+1)by omega]at h7;exact h7
   .rw[(k2 j (by omega)).1,(k2 j (by omega)).2,cB (by omega),cB (by omega),(k1 j (by omega)).1,(k1 j (by omega)).2];exact⟨rfl,rfl⟩
   .by_cases hj1:A.length+1+inner.length+1<=j
    .exact g2 j hj1 (by omega)
    .rw[(k2 j (by omega)).1,(k2 j (by omega)).2];by_cases hj2:A.length=j
     .subst hj2;rw[iJ (by omega),iJ (by omega)];refine⟨_,_,rfl,rfl,λh=>⟨λ_ inner' e' rest' p1 p2 p3=> ?_,λh'=>(h' (by rw[hget];exact hk7)).elim⟩⟩;have:=ax0 (hd.symm.trans p1) h3 p3 h2 p2;subst this;rw[fB,hget];exact⟨hwi,hb⟩
     .rw[cB hj2,cB hj2];by_cases hj3:j<A.length+1+inner.length
      .exact g1 j (by omega) hj3
      .have hj4:j=A.length+1+inner.length:=by omega
       subst hj4;rw[(k1 _ (by omega)).1,(k1 _ (by omega)).2,(hz _ h5 h6).1,(hz _ h5 h6).2];refine⟨0,0,rfl,rfl,λh=>⟨λh'=> ?_,λ_=>⟨rfl, ?_⟩⟩⟩
       .rw[hee]at h';omega
       .rw[hee,xB h2]
  .obtain⟨hsr,hko,hQ⟩:=cg0 hs hk7;rw[hQ]at hq;cases hqr:Q9 seg with
   |none=>rw[hqr]at hq;cases hq
   |some tr=>
   rw[hqr]at hq;injection hq with hq
   have hq:1+tr=t:=hq;have hA1:(A++[o]).length=A.length+1:=by simp
   have c1:=dY8 (sz:=S) (rds:=R) (pre:=pre) (a:=p) (w:=w) hl (by omega) hlt (by rw[hget];exact hko) hS (by omega)
   obtain⟨S1,R1,r1,l1,l2,⟨t1,t2⟩,k1,g1⟩:=cX9 hl hv k (A++[o]) seg B (S.set A.length 1) R pre p (w+1) tr (by omega) (by rw[hsplit];simp) hsr hqr (by simp[hS]) hR (by omega) (by omega) (λj h5 h6=>by
    rw[hA1]at h5 h6;rw[cB (by omega)]
    exact hz j (by omega) (by omega))
   rw[hA1]at r1 k1 g1;refine⟨S1,R1, ?_,l1,l2,⟨by omega,by omega⟩,λj hj=> ?_,λj h5 h6=> ?_⟩
   .have h7:=(Reach.one c1).trans r1;rw[show 1+seg.length=seg.length+1 by omega,iA,hq,show A.length+1+seg.length=A.length+(seg.length+1)by omega]at h7;exact h7
   .rw[(k1 j (by omega)).1,(k1 j (by omega)).2,cB (by omega)];exact⟨rfl,rfl⟩
   .by_cases hj1:A.length+1<=j
    .exact g1 j hj1 (by omega)
    .have hj2:j=A.length:=by omega
     subst hj2;rw[(k1 _ (by omega)).1,(k1 _ (by omega)).2,iJ (by omega),(hz _ h5 h6).2];refine⟨1,0,rfl,rfl,λh=>⟨λh'=>(hk7 (by rw[<-hget];exact h')).elim,λ_=>⟨rfl, ?_⟩⟩⟩;rw[hget,xD (by omega)]
end
theorem by7 {l:List df}(hl:l.length<=100)(hv: ∀o∈l,0<=o.2.2.2.2/\o.2.2.2.2<=18446744073709551615):
  ∃r,pw l=C r/\r.1=(gb l).1/\r.2.1=(gb l).2/\(((gb l).2≠0/\r.2.2=([],[]))∨((gb l).2=0/\dj l 0=C 0/\r.2.2.1.length=l.length/\r.2.2.2.length=l.length/\∀j,j<l.length->∃a b,r.2.2.1[j]?=C a/\r.2.2.2[j]?=C b/\dJ2 l j a b)):=by
 have hW:=ap8 (by omega) hv;unfold kc at hW;obtain⟨r,hr,hW⟩:=cf hW;injection hW with hW
 refine⟨r,hr,by rw[<-hW],by rw[<-hW], ?_⟩;unfold pw at hr;obtain⟨m,hm⟩:=bp8 (l:=l) (by omega);rw[hm]at hr;by_cases hs:dj l 0=C 0
 .simp only[xB hs]at hr;simp only[wA]at hr;rw[zB (by simp),yD]at hr;rw[zD (show(0:Int)<=(l.length:Int)by omega),zD (show(l.length:Int)<=(l.length:Int)by omega),zD (show 8*(l.length:Int)<=140737488355328 by omega)]at hr;have hgd: ∀{β:Type} {y:Option β},gd (kD 1 (Sh.w (.int .i64))&&Za&&Za&&Za&&Nat.ble 1 8) y=y:=λ{β y}=>rfl
  rw[hgd,hgd]at hr;cases hq:Q9 l with
  |none=>
   have hw9:gb l=(0,9):=by unfold gb;rw[xB hs,hq]
   left;refine⟨by rw[hw9];simp, ?_⟩;obtain⟨c,hc,hr⟩:=cf hr;obtain⟨s36,h36,hr⟩:=cf hr;rw[cd]at hr;split at hr
   .injection hr with hr
    rw[<-hr]
   .rename_i hz;exfalso;obtain⟨j,hj,hr⟩:=cf hr;obtain⟨x,hx,hr⟩:=cf hr;injection hr with hr
    rw[<-hr,hw9]at hW;injection hW with _ hW
    cases hW
  |some t=>
   obtain⟨S',R',r1,l1,l2,⟨t1,t2⟩,k1,g1⟩:=cX9 (l:=l) (by omega) hv _ [] l [] (bB ((l.length:Int)).toNat (0:Int)) (bB ((l.length:Int)).toNat (0:Int)) [] 0 0 t (aB _) (by simp) hs hq (by simp) (by simp) (by simp) (by simp) (λj _ hj=>by
    rw[List.getElem?_replicate,xB (by simpa using hj)]
    exact⟨rfl,rfl⟩)
   rw[show([]:List df).length+l.length=l.length by simp]at r1 g1
   have hloop:cj (eu l) gi ((0:Int),bB ((l.length:Int)).toNat (0:Int),bB ((l.length:Int)).toNat (0:Int),[((0:Int),(0:Int))])=C (0,S',R',[(0,0+t)]):=by
    have h1:=r1 (18446744073709551616-l.length);rw[show 18446744073709551616-l.length+l.length=gi by unfold gi;omega,show 18446744073709551616-l.length=(18446744073709551615-l.length)+1 by omega]at h1;refine h1.trans ?_;rw[eo];simp only[eu];rw[zB (by omega),yD];rfl
   rw[hloop,fB]at hr;have hr:((((cond (Zc (65536<t)) (C (9:Int)) (C 0)).bind λs36=>cond (Zc (s36≠0)) (C ((0:Int),s36,([]:Zd),([]:Zd))) (C (t,0,S',R')))))=C r:=hr;rw[cd]at hr;have hw9:gb l=if 65536<t then(0,9)else(t,0):=by unfold gb;rw[xB hs,hq]
   by_cases c:65536<t
   .rw[xB c]at hr hw9;left;injection hr with hr
    rw[<-hr,hw9];exact⟨by simp,rfl⟩
   .rw[xD c]at hr hw9;right;injection hr with hr
    rw[<-hr,hw9];exact⟨rfl,hs,l1,l2,λj hj=>g1 j (iE _) hj⟩
 .simp only[xD hs]at hr;left;have hw9:gb l=(0,6):=by unfold gb;rw[xD hs]
  have hr:C ((0:Int),(6:Int),([]:Zd),([]:Zd))=C r:=hr;injection hr with hr
  rw[<-hr,hw9];exact⟨by simp,rfl⟩
abbrev aq9 :=Int×Int×Int×Int×Int×Int
inductive Fo where
 |nil
 |op (o:df) (r:Fo)
 |rep (o:df) (b:Fo) (e:df) (r:Fo)
def wG (o:df):Nat:=o.2.2.2.2.toNat
def eg (o:df)(to:Nat):aq9:=(o.1,o.2.1,o.2.2.1,o.2.2.2.1,o.2.2.2.2,(to:Int))
namespace Fo
def src :Fo->List df
 | .nil=>[]
 | .op o r=>o::r.src
 | .rep o b e r=>o::(b.src++e::r.src)
def Ok :Fo->Prop
 | .nil=>True
 | .op o r=>(0<o.1/\o.1<7)/\r.Ok
 | .rep o b e r=>(o.1=7/\e.1=0)/\b.Ok/\r.Ok
def n :Fo->Nat
 | .nil=>0
 | .op _ r=>1+r.n
 | .rep o b _ r=>b.n*wG o+r.n
def len :Fo->Nat
 | .nil=>0
 | .op _ r=>r.len+1
 | .rep _ b _ r=>b.len+r.len+2
def hi :Fo->Nat
 | .nil=>0
 | .op _ r=>r.hi
 | .rep _ b _ r=>max (b.hi+1) r.hi
def bare :Fo->Fo
 | .nil=> .nil
 | .op o r=> .op o r.bare
 | .rep o b e r=>if b.n*wG o=0 then r.bare else .rep o b.bare e r.bare
def unroll :Fo->List df
 | .nil=>[]
 | .op o r=>o::r.unroll
 | .rep o b _ r=>(bB (wG o) b.unroll).flatten++r.unroll
def code :Fo->Nat->List aq9
 | .nil,_=>[]
 | .op o r,p=>eg o 0::r.code (p+1)
 | .rep o b e r,p=>eg o (p+b.len+2)::(b.code (p+1)++eg e (p+1)::r.code (p+b.len+2))
def Pos :Fo->Prop
 | .nil=>True
 | .op _ r=>r.Pos
 | .rep o b _ r=>0<b.n*wG o/\b.Pos/\r.Pos
def steps :Fo->Nat
 | .nil=>0
 | .op _ r=>1+r.steps
 | .rep o b _ r=>1+wG o*(b.steps+1)+r.steps
theorem src_len : ∀f:Fo,f.src.length=f.len
 | .nil=>rfl
 | .op o r=>by simp only[src,len,cD,src_len r]
 | .rep o b e r=>by simp only[src,len,cD,eD,src_len r,src_len b];omega
theorem code_len : ∀(f:Fo) (p:Nat),(f.code p).length=f.len
 | .nil,_=>rfl
 | .op o r,p=>by simp only[code,len,cD,code_len r]
 | .rep o b e r,p=>by simp only[code,len,cD,eD,code_len r,code_len b];omega
theorem scan_src : ∀(f:Fo),f.Ok->∀(r:List df) (d:Nat),dj (f.src++r) d=dj r d
 | .nil,_,r,d=>rfl
 | .op o f,h,r,d=>by
  obtain⟨h1,h2⟩:=h;simp only[src,gB,dj];rw[xD (by omega),xD (by omega),xD (by omega)];exact scan_src f h2 r d
 | .rep o b e f,h,r,d=>by
  obtain⟨⟨h1,h2⟩,h3,h4⟩:=h;simp only[src,gB,dB,dj];rw[xD (by omega),xD (by omega),xB h1,scan_src b h3];simp only[dj];rw[xD (by omega),xB h2,xD (by omega)];exact scan_src f h4 r d
theorem scan0 {f:Fo}(h:f.Ok):dj f.src 0=C 0:=by
 have:=scan_src f h [] 0;rw[iT]at this;exact this
theorem parse : ∀(N:Nat) (l:List df),l.length<=N->dj l 0=C 0->∃f:Fo,f.Ok/\f.src=l
 |_,[],_,_=>⟨.nil,trivial,rfl⟩
 |0,o::l,h,_=>by simp at h
 |N+1,o::l,h,hs=>by
  simp only[cD]at h;by_cases hk:o.1=7
  .have hs1:dj l 1=C 0:=by
    simp only[dj]at hs;rw[xD (by omega),xD (by omega),xB hk]at hs;exact hs
   obtain⟨inner,e,rest,h1,h2,h3,h4⟩:=aU3 _ l 0 (aB _) hs1;subst h1;simp only[eD,cD]at h;obtain⟨b,b1,b2⟩:=parse N inner (by omega) h3;obtain⟨r,r1,r2⟩:=parse N rest (by omega) h4;exact⟨.rep o b e r,⟨⟨hk,h2⟩,b1,r1⟩,by simp only[src,b2,r2]⟩
  .obtain⟨h1,h2,_⟩:=cg0 hs hk;obtain⟨r,r1,r2⟩:=parse N l (by omega) h1;exact⟨.op o r,⟨h2,r1⟩,by simp only[src,r2]⟩
theorem Q9_n : ∀(f:Fo),f.Ok->(∀o∈f.src,0<=o.2.2.2.2)->∀{t:Int},Q9 f.src=C t->t=(f.n:Int)
 | .nil,_,_,t,h=>by
  injection h with h
  exact h.symm
 | .op o r,h,hv,t,hq=>by
  obtain⟨h1,h2⟩:=h;have hs:=scan0 (f:= .op o r) ⟨h1,h2⟩;obtain⟨_,_,h3⟩:=cg0 (o:=o) (s:=r.src) hs (by omega);have hq:Q9 (o::r.src)=C t:=hq;rw[h3]at hq;cases hr:Q9 r.src with
  |none=>rw[hr]at hq;cases hq
  |some m=>
   rw[hr]at hq;injection hq with hq
   have:=Q9_n r h2 (λx hx=>hv x (List.mem_cons_of_mem _ hx)) hr;subst this;rw[<-hq];show(1:Int)+(r.n:Int)=((1+r.n:Nat):Int);omega
 | .rep o b e r,h,hv,t,hq=>by
  obtain⟨⟨h1,h2⟩,h3,h4⟩:=h;have hs:=scan0 (f:= .rep o b e r) ⟨⟨h1,h2⟩,h3,h4⟩;obtain⟨_,h5⟩:=cr0 (o:=o) (e:=e) (inner:=b.src) (rest:=r.src) hs h1 h2 (scan0 h3);have hq:Q9 (o::(b.src++e::r.src))=C t:=hq;rw[h5]at hq;obtain⟨w,hw,hq⟩:=cf hq;obtain⟨c,hc,hq⟩:=cf hq;cases hr:Q9 r.src with
  |none=>rw[hr]at hq;cases hq
  |some m=>
   rw[hr]at hq;injection hq with hq
   have e1:=Q9_n r h4 (λx hx=>hv x (by simp only[src];simp[hx])) hr;have e2:=Q9_n b h3 (λx hx=>hv x (by simp only[src];simp[hx])) hw;have hv0:0<=o.2.2.2.2:=hv o (by simp[src])
   have e3:c=(b.n:Int)*(wG o:Int):=by
    unfold aE5 at hc;rw[e2]at hc;unfold wG;rw[mD hv0];split at hc
    .rename_i hz;injection hc with hc
     rw[hz,Int.zero_mul,hc]
    split at hc
    .cases hc
    split at hc
    .cases hc
    .injection hc with hc
     exact hc.symm
   rw[<-hq,e1,e3];show(b.n:Int)*(wG o:Int)+(r.n:Int)=((b.n*wG o+r.n:Nat):Int);simp
theorem hmax_src : ∀(f:Fo),f.Ok->∀(r:List df) (d m:Nat),hmax (f.src++r) d m=hmax r d (max m (if f.hi=0 then 0 else d+f.hi))
 | .nil,_,r,d,m=>by
  simp only[src,iB,hi,xB];rw[Nat.max_zero]
 | .op o f,h,r,d,m=>by
  obtain⟨h1,h2⟩:=h;simp only[src,gB,hmax,hi];rw[xD (by omega),xD (by omega)];exact hmax_src f h2 r d m
 | .rep o b e f,h,r,d,m=>by
  obtain⟨⟨h1,h2⟩,h3,h4⟩:=h;simp only[src,gB,dB,hmax,hi];rw[xB h1,hmax_src b h3];simp only[hmax];rw[xD (by omega),xB h2,uC,hmax_src f h4]
  congr 1
  have e0:(if max (b.hi+1) f.hi=0 then 0 else d+max (b.hi+1) f.hi)=d+max (b.hi+1) f.hi:=xD (by omega);refine Eq.trans ?_ (congrArg (max m) e0.symm);split<;>split<;>omega
theorem hi_le {f:Fo}(h:f.Ok):f.hi<=hmax f.src 0 0:=by
 have:=hmax_src f h [] 0 0;rw[iT]at this;rw[this];simp only[hmax];split<;>omega
theorem bare_n : ∀f:Fo,f.bare.n=f.n
 | .nil=>rfl
 | .op o r=>by simp only[bare,n,bare_n r]
 | .rep o b e r=>by
  simp only[bare,n];split
  .rename_i h;rw[h,bare_n r,iC]
  .simp only[n,bare_n b,bare_n r]
theorem qm : ∀f:Fo,f.unroll.length=f.n
 | .nil=>rfl
 | .op o r=>by simp only[unroll,n,cD,qm r];omega
 | .rep o b e r=>by
  simp only[unroll,n,eD,qm r];rw[tB,tD,uB,qm b,qD]
theorem bare_unroll : ∀f:Fo,f.bare.unroll=f.unroll
 | .nil=>rfl
 | .op o r=>by simp only[bare,unroll,bare_unroll r]
 | .rep o b e r=>by
  simp only[bare,unroll];split
  .rename_i h
   have h1:((bB (wG o) b.unroll).flatten).length=0:=by
    rw[tB,tD,uB,qm b,qD,h]
   rw[List.eq_nil_of_length_eq_zero h1,iB,bare_unroll r]
  .simp only[unroll,bare_unroll b,bare_unroll r]
theorem bare_ok : ∀f:Fo,f.Ok->f.bare.Ok
 | .nil,_=>trivial
 | .op o r,h=>⟨h.1,bare_ok r h.2⟩
 | .rep o b e r,h=>by
  simp only[bare];split
  .exact bare_ok r h.2.2
  .exact⟨h.1,bare_ok b h.2.1,bare_ok r h.2.2⟩
theorem bare_pos : ∀f:Fo,f.bare.Pos
 | .nil=>trivial
 | .op o r=>bare_pos r
 | .rep o b e r=>by
  simp only[bare];split
  .exact bare_pos r
  .rename_i h;exact⟨by rw[bare_n];omega,bare_pos b,bare_pos r⟩
theorem bare_hi : ∀f:Fo,f.bare.hi<=f.hi
 | .nil=>aB _
 | .op o r=>bare_hi r
 | .rep o b e r=>by
  simp only[bare,hi];have h1:=bare_hi b;have h2:=bare_hi r;split
  .omega
  .simp only[hi];omega
theorem bare_len : ∀f:Fo,f.bare.len<=f.len
 | .nil=>aB _
 | .op o r=>by simp only[bare,len];exact Nat.succ_le_succ (bare_len r)
 | .rep o b e r=>by
  simp only[bare,len];have h1:=bare_len b;have h2:=bare_len r;split
  .omega
  .simp only[len];omega
theorem bare_mem : ∀(f:Fo) {o:df},o∈f.bare.src->o∈f.src
 | .nil,o,h=>h
 | .op o r,x,h=>by
  simp only[bare,src,iM]at h⊢;rcases h with h|h
  .exact .inl h
  .exact .inr (bare_mem r h)
 | .rep o b e r,x,h=>by
  simp only[bare]at h;split at h
  .simp only[src,iM,pB];exact .inr (.inr (.inr (bare_mem r h)))
  .simp only[src,iM,pB]at h⊢;rcases h with h|h|h|h
   .exact .inl h
   .exact .inr (.inl (bare_mem b h))
   .exact .inr (.inr (.inl h))
   .exact .inr (.inr (.inr (bare_mem r h)))
theorem vh : ∀(f:Fo),f.Ok->∀{o:df},o∈f.unroll->o∈f.src/\0<o.1/\o.1<7
 | .nil,_,o,h=>by cases h
 | .op o r,hk,x,h=>by
  simp only[unroll,src,iM]at h⊢;rcases h with rfl|h
  .exact⟨.inl rfl,hk.1⟩
  .have:=vh r hk.2 h;exact⟨.inr this.1,this.2⟩
 | .rep o b e r,hk,x,h=>by
  simp only[unroll,src,iM,pB]at h⊢;rcases h with h|h
  .obtain⟨l,hl,hx⟩:=List.mem_flatten.1 h;rw[List.eq_of_mem_replicate hl]at hx;have:=vh b hk.2.1 hx;exact⟨.inr (.inl this.1),this.2⟩
  .have:=vh r hk.2.2 h;exact⟨.inr (.inr (.inr this.1)),this.2⟩
theorem steps_le : ∀f:Fo,f.Pos->f.steps<=(2*f.len+1)*f.n
 | .nil,_=>aB _
 | .op o r,h=>by
  have h1:=steps_le r h;simp only[steps,len,n];rw[qB,lD];have:(2*r.len+1)*r.n<=(2*(r.len+1)+1)*r.n:=rB _ (by omega);omega
 | .rep o b e r,h=>by
  obtain⟨h1,h2,h3⟩:=h;have i1:=steps_le b h2;have i2:=steps_le r h3;simp only[steps,len,n]
  have hv:0<wG o:=by
   rcases lB (wG o)with h0|h0
   .rw[h0]at h1;simp at h1
   .exact h0
  have hb:0<b.n:=by
   rcases lB b.n with h0|h0
   .rw[h0]at h1;simp at h1
   .exact h0
  have hx:wG o<=b.n*wG o:=Nat.le_mul_of_pos_left _ hb
  have j1:wG o*(b.steps+1)<=(2*b.len+1)*(b.n*wG o)+b.n*wG o:=by
   rw[qB,lD];have:wG o*b.steps<=wG o*((2*b.len+1)*b.n):=Nat.mul_le_mul_left _ i1
   have e1:wG o*((2*b.len+1)*b.n)=(2*b.len+1)*(b.n*wG o):=by
    rw[qD,Nat.mul_assoc]
   omega
  have j2:(2*r.len+1)*r.n<=(2*(b.len+r.len+2)+1)*r.n:=rB _ (by omega);have j3:(2*b.len+3)*(b.n*wG o)<=(2*(b.len+r.len+2)+1)*(b.n*wG o):=rB _ (by omega)
  have j4:(2*b.len+3)*(b.n*wG o)=(2*b.len+1)*(b.n*wG o)+b.n*wG o+b.n*wG o:=by
   rw[show 2*b.len+3=(2*b.len+1)+1+1 by omega,Nat.add_mul,Nat.add_mul,Nat.one_mul]
  rw[qB (2*(b.len+r.len+2)+1)];generalize wG o*(b.steps+1)=y1 at*;generalize (2*(b.len+r.len+2)+1)*(b.n*wG o)=y2 at*;generalize (2*(b.len+r.len+2)+1)*r.n=y3 at*;generalize (2*r.len+1)*r.n=y4 at*;generalize (2*b.len+3)*(b.n*wG o)=y5 at*;generalize (2*b.len+1)*(b.n*wG o)=y6 at*;omega
end Fo
def upd (l:Nat->Int)(j:Nat)(v:Int):Nat->Int:=λi=>cond (kD j i) v (l i)
theorem vq (l:Nat->Int)(j:Nat)(v:Int):upd l j v j=v:=by
 unfold upd;rw[Nat.beq_refl];rfl
theorem bF4 {l:Nat->Int}{j i:Nat}{v:Int}(h:i≠j):upd l j v i=l i:=by
 unfold upd;cases hb:kD j i with
 |true=>exact(h (Nat.eq_of_beq_eq_true hb).symm).elim
 |false=>rfl
def okV (o:df):Prop:=0<=o.2.2.2.2/\o.2.2.2.2<=18446744073709551615
structure Runs {Y γ S:Type}(g:Y->Option (Y⊕γ))(code:List aq9)(st:Nat->Nat->(Nat->Int)->S->Y)(stp:df->S->S)(Vd:Nat->S->Prop)(good:df->Prop):Prop where
 op: ∀{p d l s m o to},code[p]?=C (eg o to)->good o->(0<o.1/\o.1<7)->d<=8->Vd (1+m) s->g (st p d l s)=C (.inl (st (p+1) d l (stp o s)))/\Vd m (stp o s)
 rep: ∀{p d l s m o to},code[p]?=C (eg o to)->o.1=7->d<8->Vd m s->g (st p d l s)=C (.inl (st (p+1) (d+1) (upd l d o.2.2.2.2) s))
 nxt: ∀{p d l s m e to},code[p]?=C (eg e to)->e.1=0->d<8->1<l d->l d<=18446744073709551615->Vd m s->g (st p (d+1) l s)=C (.inl (st to (d+1) (upd l d (l d-1)) s))
 out: ∀{p d l s m e to},code[p]?=C (eg e to)->e.1=0->d<8->l d=1->Vd m s->g (st p (d+1) l s)=C (.inl (st (p+1) d (upd l d (l d-1)) s))
section
variable {Y γ S:Type} {g:Y->Option (Y⊕γ)} {code:List aq9} {st:Nat->Nat->(Nat->Int)->S->Y} {stp:df->S->S} {Vd:Nat->S->Prop} {good:df->Prop}
def fwd (stp:df->S->S)(l:List df)(s:S):S:=l.foldl (λs o=>stp o s) s
theorem bM7 (l r:List df)(s:S):fwd stp (l++r) s=fwd stp r (fwd stp l s):=List.foldl_append
theorem bg7 {A B:List aq9}{x:aq9}{r:List aq9}{p:Nat}(hc:code=A++(x::r)++B)(hp:A.length=p):code[p]?=C x:=by
 subst hp;rw[hc,dB,dD (aB _),bD];rfl
theorem rounds (hg:Runs g code st stp Vd good){p q d t n:Nat}{e:df}{u:List df}(hd:d<8)(hend:code[q]?=C (eg e p))(he:e.1=0)
  (hb: ∀(l:Nat->Int) (s:S) (m:Nat),Vd (n+m) s->∃l',(∀i,i<d+1->l' i=l i)/\Reach g t (st p (d+1) l s) (st q (d+1) l' (fwd stp u s))/\Vd m (fwd stp u s)):
  ∀(k:Nat) (l:Nat->Int) (s:S) (m:Nat),k<18446744073709551615->l d=((k+1:Nat):Int)->Vd (n*(k+1)+m) s->
   ∃l',(∀i,i<d->l' i=l i)/\Reach g ((k+1)*(t+1)) (st p (d+1) l s) (st (q+1) d l' (fwd stp (bB (k+1) u).flatten s))/\Vd m (fwd stp (bB (k+1) u).flatten s)
 |0,l,s,m,hk,hl,hv=>by
  obtain⟨l1,h1,h2,h3⟩:=hb l s m (by rw[iC,lD]at hv;exact hv);have hu:(bB (0+1) u).flatten=u:=by simp
  rw[hu];have hl1:l1 d=1:=by rw[h1 d (by omega),hl];rfl
  refine⟨upd l1 d (l1 d-1),λi hi=>by rw[bF4 (by omega),h1 i (by omega)], ?_,h3⟩;have h4:=h2.trans (Reach.one (hg.out (l:=l1) hend he hd hl1 h3));rw[show(0+1)*(t+1)=t+1 by omega];exact h4
 |k+1,l,s,m,hk,hl,hv=>by
  have hn:n*(k+1+1)+m=n+(n*(k+1)+m):=by rw[Nat.mul_succ n (k+1)];omega
  rw[hn]at hv;obtain⟨l1,h1,h2,h3⟩:=hb l s _ hv;have hl1:l1 d=((k+1+1:Nat):Int):=by rw[h1 d (by omega),hl]
  have h4:=h2.trans (Reach.one (hg.nxt (l:=l1) hend he hd (by omega) (by omega) h3));obtain⟨l2,h5,h6,h7⟩:=rounds hg hd hend he hb k (upd l1 d (l1 d-1)) (fwd stp u s) m (by omega) (by rw[vq,hl1];omega) h3;have hu:(bB (k+1+1) u).flatten=u++(bB (k+1) u).flatten:=by rw[List.replicate_succ,List.flatten_cons]
  rw[hu,bM7];refine⟨l2,λi hi=>by rw[h5 i hi,bF4 (by omega),h1 i (by omega)], ?_,h7⟩;rw[show(k+1+1)*(t+1)=t+1+(k+1)*(t+1)by rw[Nat.succ_mul (k+1)];omega];exact h4.trans h6
theorem bY5 (hg:Runs g code st stp Vd good): ∀(f:Fo) {A B:List aq9} {p d:Nat} {l:Nat->Int} {s:S} {m:Nat},code=A++f.code p++B->A.length=p->f.Ok->f.Pos->d+f.hi<=8->(∀o∈f.src,good o/\okV o)->Vd (f.n+m) s->
  ∃l',(∀i,i<d->l' i=l i)/\Reach g f.steps (st p d l s) (st (p+f.len) d l' (fwd stp f.unroll s))/\Vd m (fwd stp f.unroll s)
 | .nil,A,B,p,d,l,s,m,hc,hp,hk,hq,hh,hgd,hv=>by
  refine⟨l,λ_ _=>rfl,Reach.refl, ?_⟩;have:Fo.nil.n+m=m:=iC m;rw[this]at hv;exact hv
 | .op o r,A,B,p,d,l,s,m,hc,hp,hk,hq,hh,hgd,hv=>by
  simp only[Fo.n,Nat.add_assoc]at hv;simp only[Fo.hi]at hh;obtain⟨h1,h2⟩:=hg.op (d:=d) (l:=l) (bg7 hc hp) (hgd o (by simp[Fo.src])).1 hk.1 (by omega) hv;have hA:(A++[eg o 0]).length=p+1:=by simp[hp]
  obtain⟨l',h3,h4,h5⟩:=bY5 hg r (A:=A++[eg o 0]) (B:=B) (p:=p+1) (d:=d) (l:=l) (by rw[hc];simp[Fo.code]) hA hk.2 hq hh (λx hx=>hgd x (by simp[Fo.src,hx])) h2;refine⟨l',h3, ?_,h5⟩;have:=(Reach.one h1).trans h4;simp only[Fo.steps,Fo.len];rw[show p+(r.len+1)=p+1+r.len by omega];exact this
 | .rep o b e r,A,B,p,d,l,s,m,hc,hp,hk,hq,hh,hgd,hv=>by
  obtain⟨⟨k1,k2⟩,k3,k4⟩:=hk;obtain⟨q1,q2,q3⟩:=hq;simp only[Fo.n,Nat.add_assoc]at hv;simp only[Fo.hi]at hh;have hov:=(hgd o (by simp[Fo.src])).2;unfold okV at hov;have hvo:((wG o:Nat):Int)=o.2.2.2.2:=mD hov.1
  have hv0:0<wG o:=by
   rcases lB (wG o)with h0|h0
   .rw[h0]at q1;simp at q1
   .exact h0
  obtain⟨k,hk⟩: ∃k,wG o=k+1:=⟨wG o-1,by omega⟩
  have h1:=hg.rep (d:=d) (l:=l) (bg7 hc hp) k1 (by omega) hv;have hA:(A++[eg o (p+b.len+2)]).length=p+1:=by simp[hp]
  have hcb:code=(A++[eg o (p+b.len+2)])++b.code (p+1)++(eg e (p+1)::r.code (p+b.len+2)++B):=by rw[hc];simp[Fo.code]
  have hce:code=(A++eg o (p+b.len+2)::b.code (p+1))++(eg e (p+1)::r.code (p+b.len+2))++B:=by rw[hc];simp[Fo.code]
  have hAe:(A++eg o (p+b.len+2)::b.code (p+1)).length=p+1+b.len:=by simp[hp,Fo.code_len];omega
  have hend:=bg7 hce hAe
  obtain⟨l1,h2,h3,h4⟩:=rounds hg (p:=p+1) (q:=p+1+b.len) (d:=d) (t:=b.steps) (n:=b.n) (e:=e) (u:=b.unroll) (by omega) hend k2
   (λl s m hm=>bY5 hg b hcb hA k3 q2 (by omega) (λx hx=>hgd x (by simp[Fo.src,hx])) hm) k (upd l d o.2.2.2.2) s (r.n+m) (by omega) (by rw[vq,<-hvo,hk]) (by rw[<-hk];exact hv)
  have hcr:code=(A++eg o (p+b.len+2)::(b.code (p+1)++[eg e (p+1)]))++r.code (p+b.len+2)++B:=by rw[hc];simp[Fo.code]
  have hAr:(A++eg o (p+b.len+2)::(b.code (p+1)++[eg e (p+1)])).length=p+b.len+2:=by simp[hp,Fo.code_len];omega
  obtain⟨l2,h5,h6,h7⟩:=bY5 hg r (d:=d) (l:=l1) hcr hAr k4 q3 (by omega) (λx hx=>hgd x (by simp[Fo.src,hx])) h4;simp only[Fo.unroll,Fo.steps,Fo.len];rw[bM7,hk];refine⟨l2,λi hi=>by rw[h5 i hi,h2 i hi,bF4 (by omega)], ?_,h7⟩;have h8:=((Reach.one h1).trans h3).trans (show Reach g r.steps (st (p+1+b.len+1) d l1 _) _ from by rw[show p+1+b.len+1=p+b.len+2 by omega];exact h6);rw[show p+(b.len+r.len+2)=p+b.len+2+r.len by omega];exact h8
end
structure Backs {Y γ S:Type}(g:Y->Option (Y⊕γ))(code:List aq9)(st:Nat->Nat->(Nat->Int)->S->Y)(stp:df->S->S)(Vd:Nat->S->Prop)(good:df->Prop):Prop where
 op: ∀{p d l s m o to},code[p]?=C (eg o to)->good o->(0<o.1/\o.1<7)->d<=8->Vd (1+m) s->g (st (p+1) d l s)=C (.inl (st p d l (stp o s)))/\Vd m (stp o s)
 rep: ∀{p q d l s m o e to},code[p]?=C (eg e (q+1))->e.1=0->code[q]?=C (eg o to)->d<8->Vd m s->g (st (p+1) d l s)=C (.inl (st p (d+1) (upd l d o.2.2.2.2) s))
 nxt: ∀{p d l s m o to},code[p]?=C (eg o (to+1))->to<=code.length->o.1=7->d<8->1<l d->l d<=18446744073709551615->Vd m s->g (st (p+1) (d+1) l s)=C (.inl (st to (d+1) (upd l d (l d-1)) s))
 out: ∀{p d l s m o to},code[p]?=C (eg o (to+1))->o.1=7->d<8->l d=1->Vd m s->g (st (p+1) (d+1) l s)=C (.inl (st p d (upd l d (l d-1)) s))
section
variable {Y γ S:Type} {g:Y->Option (Y⊕γ)} {code:List aq9} {st:Nat->Nat->(Nat->Int)->S->Y} {stp:df->S->S} {Vd:Nat->S->Prop} {good:df->Prop}
def bwd (stp:df->S->S)(l:List df)(s:S):S:=l.foldr stp s
theorem cu7 (l r:List df)(s:S):bwd stp (l++r) s=bwd stp l (bwd stp r s):=List.foldr_append
theorem cZ5 (hg:Backs g code st stp Vd good){p q d t n:Nat}{o:df}{u:List df}(hq:q<=code.length)(hd:d<8)(hbeg:code[p]?=C (eg o (q+1)))(ho:o.1=7)
  (hb: ∀(l:Nat->Int) (s:S) (m:Nat),Vd (n+m) s->∃l',(∀i,i<d+1->l' i=l i)/\Reach g t (st q (d+1) l s) (st (p+1) (d+1) l' (bwd stp u s))/\Vd m (bwd stp u s)):
  ∀(k:Nat) (l:Nat->Int) (s:S) (m:Nat),k<18446744073709551615->l d=((k+1:Nat):Int)->Vd (n*(k+1)+m) s->
   ∃l',(∀i,i<d->l' i=l i)/\Reach g ((k+1)*(t+1)) (st q (d+1) l s) (st p d l' (bwd stp (bB (k+1) u).flatten s))/\Vd m (bwd stp (bB (k+1) u).flatten s)
 |0,l,s,m,hk,hl,hv=>by
  obtain⟨l1,h1,h2,h3⟩:=hb l s m (by rw[iC,lD]at hv;exact hv);have hu:(bB (0+1) u).flatten=u:=by simp
  rw[hu];have hl1:l1 d=1:=by rw[h1 d (by omega),hl];rfl
  refine⟨upd l1 d (l1 d-1),λi hi=>by rw[bF4 (by omega),h1 i (by omega)], ?_,h3⟩;have h4:=h2.trans (Reach.one (hg.out (l:=l1) hbeg ho hd hl1 h3));rw[show(0+1)*(t+1)=t+1 by omega];exact h4
 |k+1,l,s,m,hk,hl,hv=>by
  have hn:n*(k+1+1)+m=n+(n*(k+1)+m):=by rw[Nat.mul_succ n (k+1)];omega
  rw[hn]at hv;obtain⟨l1,h1,h2,h3⟩:=hb l s _ hv;have hl1:l1 d=((k+1+1:Nat):Int):=by rw[h1 d (by omega),hl]
  have h4:=h2.trans (Reach.one (hg.nxt (l:=l1) hbeg hq ho hd (by omega) (by omega) h3));obtain⟨l2,h5,h6,h7⟩:=cZ5 hg hq hd hbeg ho hb k (upd l1 d (l1 d-1)) (bwd stp u s) m (by omega) (by rw[vq,hl1];omega) h3;have hu:(bB (k+1+1) u).flatten=(bB (k+1) u).flatten++u:=by rw[uA,List.flatten_append];simp
  rw[hu,cu7];refine⟨l2,λi hi=>by rw[h5 i hi,bF4 (by omega),h1 i (by omega)], ?_,h7⟩;rw[show(k+1+1)*(t+1)=t+1+(k+1)*(t+1)by rw[Nat.succ_mul (k+1)];omega];exact h4.trans h6
theorem bv0 (hg:Backs g code st stp Vd good): ∀(f:Fo) {A B:List aq9} {p d:Nat} {l:Nat->Int} {s:S} {m:Nat},code=A++f.code p++B->A.length=p->f.Ok->f.Pos->d+f.hi<=8->(∀o∈f.src,good o/\okV o)->Vd (f.n+m) s->
  ∃l',(∀i,i<d->l' i=l i)/\Reach g f.steps (st (p+f.len) d l s) (st p d l' (bwd stp f.unroll s))/\Vd m (bwd stp f.unroll s)
 | .nil,A,B,p,d,l,s,m,hc,hp,hk,hq,hh,hgd,hv=>by
  refine⟨l,λ_ _=>rfl,Reach.refl, ?_⟩;have:Fo.nil.n+m=m:=iC m;rw[this]at hv;exact hv
 | .op o r,A,B,p,d,l,s,m,hc,hp,hk,hq,hh,hgd,hv=>by
  simp only[Fo.n]at hv;simp only[Fo.hi]at hh;have hA:(A++[eg o 0]).length=p+1:=by simp[hp]
  obtain⟨l',h3,h4,h5⟩:=bv0 hg r (A:=A++[eg o 0]) (B:=B) (p:=p+1) (d:=d) (l:=l) (m:=1+m) (by rw[hc];simp[Fo.code]) hA hk.2 hq hh (λx hx=>hgd x (by simp[Fo.src,hx])) (by rw[show r.n+(1+m)=1+r.n+m by omega];exact hv);obtain⟨h1,h2⟩:=hg.op (d:=d) (l:=l') (bg7 hc hp) (hgd o (by simp[Fo.src])).1 hk.1 (by omega) h5;refine⟨l',h3, ?_,h2⟩;have:=h4.trans (Reach.one h1);simp only[Fo.steps,Fo.len];rw[show p+(r.len+1)=p+1+r.len by omega,Nat.add_comm 1];exact this
 | .rep o b e r,A,B,p,d,l,s,m,hc,hp,hk,hq,hh,hgd,hv=>by
  obtain⟨⟨k1,k2⟩,k3,k4⟩:=hk;obtain⟨q1,q2,q3⟩:=hq;simp only[Fo.n]at hv;simp only[Fo.hi]at hh;have hov:=(hgd o (by simp[Fo.src])).2;unfold okV at hov;have hvo:((wG o:Nat):Int)=o.2.2.2.2:=mD hov.1
  have hv0:0<wG o:=by
   rcases lB (wG o)with h0|h0
   .rw[h0]at q1;simp at q1
   .exact h0
  obtain⟨k,hk⟩: ∃k,wG o=k+1:=⟨wG o-1,by omega⟩
  have hbeg:=bg7 hc hp;have hA:(A++[eg o (p+b.len+2)]).length=p+1:=by simp[hp]
  have hcb:code=(A++[eg o (p+b.len+2)])++b.code (p+1)++(eg e (p+1)::r.code (p+b.len+2)++B):=by rw[hc];simp[Fo.code]
  have hce:code=(A++eg o (p+b.len+2)::b.code (p+1))++(eg e (p+1)::r.code (p+b.len+2))++B:=by rw[hc];simp[Fo.code]
  have hAe:(A++eg o (p+b.len+2)::b.code (p+1)).length=p+1+b.len:=by simp[hp,Fo.code_len];omega
  have hend:=bg7 hce hAe;have hcr:code=(A++eg o (p+b.len+2)::(b.code (p+1)++[eg e (p+1)]))++r.code (p+b.len+2)++B:=by rw[hc];simp[Fo.code]
  have hAr:(A++eg o (p+b.len+2)::(b.code (p+1)++[eg e (p+1)])).length=p+b.len+2:=by simp[hp,Fo.code_len];omega
  obtain⟨l2,h5,h6,h7⟩:=bv0 hg r (d:=d) (l:=l) (m:=b.n*wG o+m) hcr hAr k4 q3 (by omega) (λx hx=>hgd x (by simp[Fo.src,hx])) (by rw[show r.n+(b.n*wG o+m)=b.n*wG o+r.n+m by omega];exact hv);have h1:=hg.rep (d:=d) (l:=l2) hend k2 hbeg (by omega) h7
  obtain⟨l1,h2,h3,h4⟩:=cZ5 hg (p:=p) (q:=p+1+b.len) (d:=d) (t:=b.steps) (n:=b.n) (o:=o) (u:=b.unroll) (Nat.le_of_lt (List.getElem?_eq_some_iff.1 hend).1) (by omega) (by rw[hbeg];congr 2;omega) k1
   (λl s m hm=>bv0 hg b hcb hA k3 q2 (by omega) (λx hx=>hgd x (by simp[Fo.src,hx])) hm) k (upd l2 d o.2.2.2.2) _ m (by omega) (by rw[vq,<-hvo,hk]) (by rw[<-hk];exact h7)
  simp only[Fo.unroll,Fo.steps,Fo.len];rw[cu7,hk];refine⟨l1,λi hi=>by rw[h2 i hi,bF4 (by omega),h5 i hi], ?_,h4⟩;have h8:=(h6.trans (show Reach g 1 _ _ from by rw[show p+b.len+2=p+1+b.len+1 by omega];exact Reach.one h1)).trans h3;rw[show p+(b.len+r.len+2)=p+b.len+2+r.len by omega,show 1+(k+1)*(b.steps+1)+r.steps=r.steps+1+(k+1)*(b.steps+1)by omega];exact h8
end
end
end Go.V
