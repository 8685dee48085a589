/- A part of the proofs of this claim: what functions of the program answer on an abstract machine, and plain laws. No condition. -/
import Derived.Test.YtbocegmeciaanaaGreatD2
import Derived.Test.YtbocegmeciaanaaGreatA6
import Derived.KernelRfl
set_option linter.unusedVariables false
set_option linter.unusedSimpArgs false
set_option linter.unusedSectionVars false
namespace Go.V
open Go.Ab
section
open Go.IntKind renaming wrap → zH, i64 → zI, u64 → zJ
open Bool renaming not_true → hY
open Int renaming zero_add → fB, add_assoc → gP, mul_comm → gU, mul_nonneg → gV, add_zero → hZ, ediv_le_self → iA, ediv_nonneg → iB, le_refl → iC, mul_le_mul_of_nonneg_left → iD, mul_ediv_self_le → iR, toNat_of_nonneg → iS, eq_ofNat_of_zero_le → jC, toNat_natCast → jD
open List renaming getElem?_eq_getElem → aD, replicate → bB, getElem?_set_ne → cB, length_cons → cD, append_assoc → dB, getElem?_append_right → dD, length_append → eD, range → fD, cons_append → gB, getElem_mem → gD, nil_append → gQ, getElem_cons_drop → gS, drop_length → gW, getD → gX, getElem?_set_self → gY, length → gZ, map_append → hC, mem_cons → hO, append_nil → iE, drop_append → iF, drop_of_length_le → iG, getElem?_drop → iH, length_drop → iI, range_succ → iJ, set → iK, set_append_right → iL, take_append_drop → iM, take_left' → iN, any_cons → iT, any_nil → iU, dropLast_concat_getLast → iV, length_take → iW, mem_append → iX, take_succ_eq_append_getElem → iY, getElem?_cons_zero → jE, length_flatten → jF, map_replicate → jG, replicate_succ' → jH, sum_replicate_nat → jI
open Nat renaming le_refl → aB, sub_self → bD, zero_add → gR, zero_le → gT, beq → iO, eq_zero_or_pos → iP, mul_one → iQ, mul_add → iZ, mul_comm → jA, mul_le_mul_right → jB, add_sub_cancel → jJ
set_option maxRecDepth 100000
abbrev cu :=Int×Int×Int×Int×Int
def cl :List cu→Nat→Option Nat
 |[],d=>some d
 |o::r,d=>if o.1<0∨7<o.1 then none else if o.1=0 then(if d=0 then none else cl r (d-1))else if o.1=7 then cl r (d+1)else cl r d
theorem qt : ∀(l r:List cu) (d:Nat),cl (l++r) d=(cl l d).bind (cl r)
 |[],r,d=>rfl
 |o::l,r,d=>by
  simp only[gB,cl];split
  ·rfl
  split
  ·split
   ·rfl
   ·exact qt l r _
  split
  ·exact qt l r _
  ·exact qt l r _
theorem aJ4 : ∀(l:List cu) (d d':Nat),cl l d=some d'→cl l (d+1)=some (d'+1)
 |[],d,d',h=>by
  injection h with h
  subst h;rfl
 |o::l,d,d',h=>by
  simp only[cl]at h⊢;split at h
  ·cases h
  rename_i c;rw[zF c];split at h
  ·rename_i c2;rw[zE c2];split at h
   ·cases h
   ·rename_i c3;rw[zF (by omega)];have:=aJ4 l _ _ h
    rwa [show d-1+1=d+1-1 by omega]at this
  rename_i c2;rw[zF c2];split at h
  ·rename_i c3;rw[zE c3];exact aJ4 l _ _ h
  ·rename_i c3;rw[zF c3];exact aJ4 l _ _ h
def cU2 (l:List cu)(s:Int×Bool×(List Int)×(List Int)×List Int):Prop:=
 ∃(i:Nat) (out st:List Int),i≤l.length∧s=((i:Int),true,out,st,st)∧out.length=l.length∧(∀x∈st,0≤x∧x<l.length)∧st.length≤i∧cl (l.drop i) st.length=cl l 0
theorem cO1 {st:List Int}(h:st≠[]): ∃pre x,st=pre++[x]:=⟨st.dropLast,st.getLast h,(iV h).symm⟩
theorem cb2 {l:List cu}(hl:l.length≤100000)(s:Int×Bool×(List Int)×(List Int)×List Int)(h:cU2 l s):
  (∃b,dq l s=some (.inl b)∧cU2 l b∧l.length-b.1.toNat<l.length-s.1.toNat)∨∃c,dq l s=some (.inr c)∧((c.1=false∧cl l 0=none)∨(c.1=true∧cl l 0=some c.2.2.1.length)):=by
 obtain⟨i,out,st,hi,rfl,ho,hst,hsl,hsc⟩:=h;by_cases c:i<l.length
 ·have hdrop:l.drop i=l[i]::l.drop (i+1):=(gS c).symm;rw[hdrop]at hsc;simp only[dq];rw[zB (show(i:Int)<(l.length:Int)by omega),zC,ci c];simp only[zG];generalize hx:l[i]=x at*;simp only[cl]at hsc;by_cases k0:x.1<0
  ·rw[zE (.inl k0)]at hsc;rw[zB k0];simp only[zC,zG,di];exact .inr ⟨_,rfl, .inl ⟨rfl,hsc.symm⟩⟩
  rw[zA k0,zD];by_cases k7:7<x.1
  ·rw[zE (.inr k7)]at hsc;rw[zB k7];simp only[zC,zG,cn,di];exact .inr ⟨_,rfl, .inl ⟨rfl,hsc.symm⟩⟩
  rw[zA k7,zD];rw[zF (by omega)]at hsc;by_cases kz:x.1=0
  ·rw[zE kz]at hsc;rw[zB kz];simp only[zC,zG,cn];by_cases hs0:st.length=0
   ·rw[zE hs0]at hsc;rw[zB (show(st.length:Int)=0 by omega)];simp only[zC,zG,di];exact .inr ⟨_,rfl, .inl ⟨rfl,hsc.symm⟩⟩
   ·rw[zF hs0]at hsc;rw[zA (show¬(st.length:Int)=0 by omega),zD];rw[bk (n:=(st.length:Int)-1) (by omega),iw (by omega),ei];simp only[zG,cn];obtain⟨pre,q,rfl⟩:=cO1 (st:=st) (by intro e;subst e;exact hs0 rfl);have hq:=hst q (by simp);have hlen:(pre++[q]).length=pre.length+1:=by simp
    have ht:(((pre++[q]).length:Int)-1).toNat-0=pre.length:=by rw[hlen];omega
    have e7:decide (x.1=7)=false:=zA (by omega);rw[cd (show i<out.length by omega)];simp only[zG];rw[aD (show i<out.length by omega)];simp only[zG];rw[e7,zD,show((pre++[q]).length:Int)-1=(pre.length:Int)by rw[hlen];omega,cd (show pre.length<(pre++[q]).length by omega)];simp only[zG];rw[dD (aB _),bD];simp only[jE,zG];rw[ei,cd (show i<(out.set i (-1)).length by simp;omega)];simp only[zG];rw[aD (show i<(out.set i (-1)).length by simp;omega)];simp only[zG];obtain⟨qn,rfl⟩:=jC hq.1;have hqn:qn<out.length:=by omega
    rw[cd (show qn<((out.set i (-1)).set i ((qn:Nat):Int)).length by simp;omega)];simp only[zG];rw[aD (show qn<((out.set i (-1)).set i ((qn:Nat):Int)).length by simp;omega)];simp only[zG]
    have htk:(pre++[(qn:Int)]).take ((pre.length:Int).toNat-0)=pre:=by
     rw[show(pre.length:Int).toNat-0=pre.length by omega,iN];rfl
    rw[htk,bk (n:=(i:Int)+1) (by omega)];refine .inl ⟨_,rfl,⟨i+1,_,pre,c,rfl,by simp[ho],fun y hy=>hst y (by simp[hy]),by rw[hlen]at hsl;omega, ?_⟩,by simp;omega⟩;rw[hlen]at hsc;exact hsc
  ·rw[zF kz]at hsc;have ez:decide (x.1=0)=false:=zA kz;rw[ez];simp only[zD,zG,cn];rw[cd (show i<out.length by omega)];simp only[zG];rw[aD (show i<out.length by omega)];simp only[zG];by_cases k7:x.1=7
   ·rw[zE k7]at hsc;rw[zB k7];simp only[zC];rw[dk (by omega) (by omega),dk (by omega) (by omega),bk (n:=(i:Int)+1) (by omega)];refine .inl ⟨_,rfl,⟨i+1,_,st++[(i:Int)],c,rfl,by simp[ho],fun y hy=> ?_,by simp;omega, ?_⟩,by simp;omega⟩
    ·rcases List.mem_append.1 hy with hy|hy
     ·exact hst y hy
     ·simp at hy;subst hy;omega
    ·rw[eD];exact hsc
   ·rw[zF k7]at hsc;rw[zA k7];simp only[zD];rw[bk (n:=(i:Int)+1) (by omega)];exact .inl ⟨_,rfl,⟨i+1,_,st,c,rfl,by simp[ho],hst,by omega,hsc⟩,by simp;omega⟩
 ·have hi':i=l.length:=by omega
  subst hi';rw[gW]at hsc;simp only[dq];rw[zA (show¬(l.length:Int)<(l.length:Int)by omega),zD];exact .inr ⟨_,rfl, .inr ⟨rfl,hsc.symm⟩⟩
theorem aB6 {l:List cu}(hl:l.length≤100000): ∃m,lT l=some (if cl l 0=some 0 then 0 else 6,m):=by
 unfold lT;rw[zB (show(0:Int)≤(l.length:Int)by omega),zB (show(l.length:Int)≤(l.length:Int)by omega),zB (show 8*(l.length:Int)≤140737488355328 by omega)];show∃m,gd true _=_
 rw[ei]
 obtain⟨c,hc,h⟩:=qr (f:=dq l) (a:=((0:Int),true,bB ((l.length:Int)).toNat (0:Int),([]:List Int),([]:List Int))) (cU2 l) (fun s=>l.length-s.1.toNat) (fun c=>(c.1=false∧cl l 0=none)∨(c.1=true∧cl l 0=some c.2.2.1.length))
  ⟨0,_,[],gT _,rfl,by simp,(fun x hx=>by cases hx),aB _,rfl⟩ (by simp;omega) (fun s hs=>cb2 hl s hs)
 rw[hc];simp only[zG];rcases h with⟨h1,h2⟩|⟨h1,h2⟩
 ·rw[h1,h2];exact⟨_,rfl⟩
 ·rw[h1,h2,zC];by_cases c0:c.2.2.1.length=0
  ·rw[zB (show(c.2.2.1.length:Int)=0 by omega),zE (by rw[c0])];exact⟨_,rfl⟩
  ·rw[zA (show¬(c.2.2.1.length:Int)=0 by omega),zF (by intro e;injection e with e;exact c0 e)];exact⟨_,rfl⟩
def xO (w v:Int):Option Int:=if w=0 then some 0 else if 65536<w then none else if 65536 / w<v then none else some (w*v)
def qP :List cu→List (Int×Int)→Option (List (Int×Int))
 |[],st=>some st
 |o::r,(v,w)::st=>if o.1=7 then qP r ((o.2.2.2.2,0)::(v,w)::st)else if o.1=0 then(match xO w v,st with
   |some n,(v',w')::st'=>qP r ((v',w'+n)::st')
   |_,_=>none)
  else qP r ((v,w+1)::st)
 |_::_,[]=>none
theorem bk0 {w v:Int}(hw:0≤w∧w≤10000000000)(hv:0≤v∧v≤18446744073709551615):sf w v=some (match xO w v with
  |some n=>(n,true)
  |none=>(0,false)):=by
 unfold sf xO;simp only[br];by_cases c1:w=0
 ·rw[zE c1,zE c1]
 rw[zF c1,zF c1];by_cases c2:65536<w
 ·rw[zE c2,zE c2]
 rw[zF c2,zF c2,zB (show w≠0 from c1),ei,ck4 (by omega)];have h1:0≤65536 / w:=iB (by omega) (by omega);have h2:65536 / w≤65536:=iA _ (by omega);rw[bk (n:=65536 / w) (by omega),qv (by omega)];by_cases c3:65536 / w<v
 ·rw[zE c3,zE c3]
 ·rw[zF c3,zF c3]
  have h3:w*v≤65536:=by
   have h4:v≤65536 / w:=by omega
   have h5:=iD h4 (show 0≤w by omega);have h6:=iR (x:=65536) (k:=w) (by omega);omega
  have h7:=gV (show 0≤w by omega) hv.1;rw[bk (n:=v) (by omega),bk (n:=w*v) (by omega)]
theorem aF9 {w v n:Int}(hw:0≤w)(hv:0≤v)(h:xO w v=some n):0≤n∧n≤65536:=by
 unfold xO at h;split at h
 ·injection h with h;subst h;omega
 split at h
 ·cases h
 split at h
 ·cases h
 rename_i c1 c2 c3;injection h with h
 subst h;have h4:v≤65536 / w:=by omega
 have h5:=iD h4 (show 0≤w by omega);have h6:=iR (x:=65536) (k:=w) (by omega);exact⟨gV hw hv,by omega⟩
theorem ay9 {k:Int}(h:0<k∧k<7)(d a b v:Int):kA k d a b v=some (d,true):=by
 unfold kA qW;simp only[br];have:k=1∨k=2∨k=3∨k=4∨k=5∨k=6:=by omega
 rcases this with rfl|rfl|rfl|rfl|rfl|rfl<;>rfl
theorem bV1 (a b:Int)(ha:0≤a∧a≤1000000000000)(hb:0≤b∧b≤65536):wD [a,b]=some (a+b):=by
 unfold wD
 have hl:bt (yt [a,b]) dy (0,0)=some (a+b):=by
  have h:=ff (f:=yt [a,b]) (n:=2) (fun i=>match i with|0=>0|1=>a|_=>a+b) (c:=a+b) (by omega) ?_ ?_
  ·exact h
  ·intro i hi
   match i,hi with
   |0,_=>
    show some (Sum.inl (zH zI 1,zH zI (0+a)))=_;rw[bk (by omega),bk (by omega),fB];rfl
   |1,_=>
    show some (Sum.inl (zH zI 2,zH zI (a+b)))=_;rw[bk (by omega),bk (by omega)];rfl
  ·rfl
 rw[hl];rfl
def cO0 (l:List cu)(op:List (Int×Int)):List (Int×Int):=op.reverse.map fun p=>((l.getD p.1.toNat (0,0,0,0,0)).2.2.2.2,p.2)
theorem wz (l:List cu)(pre:List (Int×Int))(p:Int×Int):cO0 l (pre++[p])=((l.getD p.1.toNat (0,0,0,0,0)).2.2.2.2,p.2)::cO0 l pre:=by
 unfold cO0;rw[List.reverse_append,hC];rfl
def cU4 (l:List cu)(s:Int×(List Int)×(List Int)×List (Int×Int)):Prop:=
 ∃(i:Nat) (sz rd:List Int) (op:List (Int×Int)),i≤l.length∧s=((i:Int),sz,rd,op)∧sz.length=l.length∧rd.length=l.length∧op≠[]∧op.length≤i+1∧(∀p∈op,0≤p.1∧p.1<max (l.length:Int) 1∧0≤p.2∧p.2≤65537*i)∧
  cl (l.drop i) (op.length-1)=some 0∧qP (l.drop i) (cO0 l op)=qP l [((l.getD 0 (0,0,0,0,0)).2.2.2.2,0)]
theorem ch1 {l:List cu}{i:Nat}(h:i<l.length):l.getD i (0,0,0,0,0)=l[i]:=by
 rw[List.getD_eq_getElem?_getD,aD h];rfl
theorem bG9 {l:List cu}(hl:l.length≤100000)(hv: ∀o∈l,0≤o.2.2.2.2∧o.2.2.2.2≤18446744073709551615)(s:Int×(List Int)×(List Int)×List (Int×Int))(h:cU4 l s):
  (∃b,dg l s=some (.inl b)∧cU4 l b∧l.length-b.1.toNat<l.length-s.1.toNat)∨
  ∃c,dg l s=some (.inr c)∧((c.1=9∧qP l [((l.getD 0 (0,0,0,0,0)).2.2.2.2,0)]=none)∨(c.1=0∧∃p:Int×Int,c.2.2.2=[p]∧0≤p.2∧qP l [((l.getD 0 (0,0,0,0,0)).2.2.2.2,0)]=some [((l.getD p.1.toNat (0,0,0,0,0)).2.2.2.2,p.2)])):=by
 obtain⟨i,sz,rds,op,hi,rfl,hsz,hrd,hne,hol,hop,hsc,hrun⟩:=h;obtain⟨pre,⟨at',w⟩,rfl⟩: ∃pre x,op=pre++[x]:=⟨op.dropLast,op.getLast hne,(iV hne).symm⟩
 have hlast:=hop (at',w) (by simp);simp only at hlast;have hlen:(pre++[(at',w)]).length=pre.length+1:=by simp
 rw[hlen]at hol hsc;rw[jJ]at hsc
 have hget:(pre++[(at',w)])[pre.length]?=some (at',w):=by
  rw[dD (aB _),bD];rfl
 by_cases c:i<l.length
 ·have hdrop:l.drop i=l[i]::l.drop (i+1):=(gS c).symm;have hlv:=hv _ (gD c);have hDi:l.getD i (0,0,0,0,0)=l[i]:=ch1 c;rw[hdrop]at hsc hrun;rw[wz]at hrun;simp only[dg];rw[zB (show(i:Int)<(l.length:Int)by omega),zC,ci c];simp only[zG];generalize hx:l[i]=x at*;simp only[cl]at hsc;simp only[qP]at hrun
  have hk: ¬(x.1<0∨7<x.1):=by
   intro hk;rw[zE hk]at hsc;cases hsc
  rw[zF hk]at hsc;rw[hlen,bk (n:=((pre.length+1:Nat):Int)-1) (by omega),show((pre.length+1:Nat):Int)-1=(pre.length:Int)by omega,cd (show pre.length<pre.length+1 by omega)];simp only[zG];by_cases k7:x.1=7
  ·rw[zF (by omega),zE k7]at hsc;rw[zE k7]at hrun;rw[zB k7,zC,dk (by omega) (by omega),bk (n:=(i:Int)+1) (by omega)];refine .inl ⟨_,rfl,⟨i+1,sz,rds,pre++[(at',w)]++[((i:Int),0)],c,rfl,hsz,hrd,by simp,by simp;omega,fun p hp=> ?_, ?_, ?_⟩,by simp;omega⟩
   ·rcases List.mem_append.1 hp with hp|hp
    ·have:=hop p hp;omega
    ·simp at hp;subst hp;simp only;omega
   ·rw[eD,hlen];exact hsc
   ·rw[wz,wz];simp only[jD];rw[hDi];exact hrun
  ·rw[zF k7]at hrun;rw[zA k7,zD];by_cases kz:x.1=0
   ·rw[zE kz]at hsc hrun;rw[zB kz,zC]
    have hp0:pre.length≠0:=by
     intro e;rw[zE e]at hsc;cases hsc
    rw[zF hp0]at hsc
    obtain⟨pre2,⟨at2,w2⟩,rfl⟩: ∃pre2 x,pre=pre2++[x]:=by
     have hne2:pre≠[]:=by intro e;subst e;exact hp0 rfl
     exact⟨pre.dropLast,pre.getLast hne2,(iV hne2).symm⟩
    have hl2:(pre2++[(at2,w2)]).length=pre2.length+1:=by simp
    have hlast2:=hop (at2,w2) (by simp);simp only at hlast2;obtain⟨an,rfl⟩:=jC hlast.1;have han:an<l.length:=by omega
    rw[hget];simp only[zG];rw[ci han];simp only[zG];have hvv:=hv _ (gD han);rw[bk0 ⟨hlast.2.2.1,by omega⟩ hvv];simp only[zG];rw[wz]at hrun;simp only[jD]at hrun;rw[ch1 han]at hrun;cases hb:xO w l[an].2.2.2.2 with
    |none=>
     rw[hb]at hrun;simp only[Bool.not_false,zC];exact .inr ⟨_,rfl, .inl ⟨rfl,hrun.symm⟩⟩
    |some n=>
     rw[hb]at hrun;have hn:=aF9 hlast.2.2.1 hvv.1 hb;simp only[hY,zD];rw[cd (show an<sz.length by omega)];simp only[zG];rw[aD (show an<sz.length by omega)];simp only[zG];rw[cd (show an<rds.length by omega)];simp only[zG];rw[aD (show an<rds.length by omega)];simp only[zG];rw[iw (by omega),ei];have e1:((pre2++[(at2,w2)]).length:Int).toNat-0=pre2.length+1:=by rw[hl2];omega
     rw[e1,bk (n:=((pre2.length+1:Nat):Int)-1) (by omega),show((pre2.length+1:Nat):Int)-1=(pre2.length:Int)by omega,cd (show pre2.length<pre2.length+1 by omega)];simp only[zG,gR]
     have hg2:(pre2++[(at2,w2)]++[((an:Int),w)])[pre2.length]?=some (at2,w2):=by
      rw[dB,dD (aB _),bD];rfl
     rw[hg2];simp only[zG];rw[bV1 _ _ (by omega) hn];simp only[zG]
     have htk:((pre2++[(at2,w2)]++[((an:Int),w)]).set pre2.length (at2,w2+n)).take (pre2.length+1)=pre2++[(at2,w2+n)]:=by
      rw[dB,iL _ _ (aB _),bD];show(pre2++[(at2,w2+n),((an:Int),w)]).take (pre2.length+1)=_;rw[show [(at2,w2+n),((an:Int),w)]=[(at2,w2+n)]++[((an:Int),w)]from rfl,←dB,iN];simp
     rw[htk,bk (n:=(i:Int)+1) (by omega)];refine .inl ⟨_,rfl,⟨i+1,_,_,pre2++[(at2,w2+n)],c,rfl,by simp[hsz],by simp[hrd],by simp,by simp;omega,fun p hp=> ?_, ?_, ?_⟩,by simp;omega⟩
     ·rcases List.mem_append.1 hp with hp|hp
      ·have:=hop p (by simp[hp]);omega
      ·simp at hp;subst hp;simp only;omega
     ·rw[hl2]at hsc;rw[eD];exact hsc
     ·rw[wz];exact hrun
   ·rw[zF kz]at hsc hrun;rw[zF k7]at hsc;rw[zA kz,zD,ay9 (by omega)];simp only[zG,zC];rw[cd (show i<sz.length by omega)];simp only[zG];rw[aD (show i<sz.length by omega)];simp only[zG];rw[hget];simp only[zG];rw[bk (n:=w+1) (by omega),bk (n:=(i:Int)+1) (by omega)]
    have hset:(pre++[(at',w)]).set pre.length (at',w+1)=pre++[(at',w+1)]:=by
     rw[iL _ _ (aB _),bD];rfl
    rw[hset];refine .inl ⟨_,rfl,⟨i+1,_,rds,pre++[(at',w+1)],c,rfl,by simp[hsz],hrd,by simp,by simp;omega,fun p hp=> ?_, ?_, ?_⟩,by simp;omega⟩
    ·rcases List.mem_append.1 hp with hp|hp
     ·have:=hop p (by simp[hp]);omega
     ·simp at hp;subst hp;simp only;omega
    ·rw[eD];exact hsc
    ·rw[wz];exact hrun
 ·have hi':i=l.length:=by omega
  subst hi';rw[gW]at hsc hrun;simp only[dg];rw[zA (show¬(l.length:Int)<(l.length:Int)by omega),zD]
  have hp:pre=[]:=by
   have hsc:some pre.length=some 0:=hsc;injection hsc with hsc
   exact List.length_eq_zero_iff.1 hsc
  subst hp;refine .inr ⟨_,rfl, .inr ⟨rfl,(at',w),rfl,hlast.2.2.1, ?_⟩⟩;rw[←hrun];rfl
def Q9 (l:List cu):Option Int:=(qP l [((l.getD 0 (0,0,0,0,0)).2.2.2.2,0)]).bind fun st=>match st with
 |[p]=>some p.2
 |_=>none
def ej (l:List cu):Int×Int:=if cl l 0=some 0 then(match Q9 l with
 |some w=>if 65536<w then(0,9)else(w,0)
 |none=>(0,9))else(0,6)
theorem uz {l:List cu}(hl:l.length≤100000)(hv: ∀o∈l,0≤o.2.2.2.2∧o.2.2.2.2≤18446744073709551615):jf l=some (ej l):=by
 unfold jf li;obtain⟨m,hm⟩:=aB6 hl;rw[hm];unfold ej;by_cases hs:cl l 0=some 0
 ·simp only[zE hs];simp only[zG];rw[zA (by simp),zD];rw[zB (show(0:Int)≤(l.length:Int)by omega),zB (show(l.length:Int)≤(l.length:Int)by omega),zB (show 8*(l.length:Int)≤140737488355328 by omega)];have hgd: ∀{β:Type} {y:Option β},gd (iO 1 (Sh.w (.int .i64))&&true&&true&&true&&Nat.ble 1 8) y=y:=fun {β y}=>rfl
  rw[hgd,hgd]
  obtain⟨c,hc,h⟩:=qr (f:=dg l) (a:=((0:Int),bB ((l.length:Int)).toNat (0:Int),bB ((l.length:Int)).toNat (0:Int),[((0:Int),(0:Int))])) (cU4 l) (fun s=>l.length-s.1.toNat) _
   ⟨0,_,_,[(0,0)],gT _,rfl,by simp,by simp,by simp,by simp,(fun p hp=>by simp at hp;subst hp;simp only;omega),hs,rfl⟩ (by simp;omega) (fun s h=>bG9 hl hv s h)
  rw[hc];simp only[zG];unfold Q9;rcases h with⟨h1,h2⟩|⟨h1,p,h3,h4,h5⟩
  ·rw[h1,h2];rfl
  ·rw[h1,h5,h3];show((((cond (decide (65536<p.2)) (some (9:Int)) (some 0)).bind fun s36=>cond (decide (s36≠0)) (some ((0:Int),s36,([]:List Int),([]:List Int))) (some (p.2,0,c.2.1,c.2.2.1))).bind fun r1=>some (r1.1,r1.2.1)))=some (if 65536<p.2 then(0,9)else(p.2,0));rw[br];by_cases c6:65536<p.2
   ·rw[zE c6,zE c6];rfl
   ·rw[zF c6,zF c6];rfl
 ·simp only[zF hs];rfl
theorem zL : ∀(l r:List cu) (st:List (Int×Int)),qP (l++r) st=(qP l st).bind (qP r)
 |[],r,st=>rfl
 |o::l,r,[]=>rfl
 |o::l,r,(v,w)::st=>by
  simp only[gB,qP];split
  ·exact zL l r _
  split
  ·split
   ·exact zL l r _
   ·rfl
  ·exact zL l r _
def ci0 (v w:Int)(base:List (Int×Int)):List (Int×Int)→List (Int×Int)
 |[]=>[]
 |[p]=>(v,w+p.2)::base
 |p::q::r=>p::ci0 v w base (q::r)
theorem bt5 (v w:Int)(base:List (Int×Int))(p:Int×Int): ∀fs:List (Int×Int),ci0 v w base (fs++[p])=fs++(v,w+p.2)::base
 |[]=>rfl
 |[a]=>rfl
 |a::b::r=>by
  show a::ci0 v w base (b::r++[p])=_;rw[bt5 v w base p (b::r)];rfl
theorem rz (v w:Int)(base:List (Int×Int)): ∀(l:List cu) (fs:List (Int×Int)) (n0:Int) (d':Nat),cl l fs.length=some d'→qP l (fs++(v,w+n0)::base)=(qP l (fs++[(0,n0)])).map (ci0 v w base)
 |[],fs,n0,d',_=>by
  show some _=some _;rw[bt5]
 |o::l,[],n0,d',h=>by
  simp only[cl,List.length_nil]at h;simp only[gQ,qP];split at h
  ·cases h
  split at h
  ·rw[zE trivial]at h;cases h
  rename_i c1 c2;split at h
  ·rename_i c3;rw[zE c3,zE c3];exact rz v w base l [(o.2.2.2.2,0)] n0 d' h
  ·rename_i c3;rw[zF c3,zF c2,zF c3,zF c2,gP];exact rz v w base l [] (n0+1) d' h
 |o::l,(fv,fw)::fs,n0,d',h=>by
  simp only[cl,cD]at h;simp only[gB,qP];split at h
  ·cases h
  split at h
  ·rename_i c1 c2;rw[zF (by omega)]at h;rw[zF (by omega),zE c2,zF (by omega),zE c2];cases hb:xO fw fv with
   |none=>rfl
   |some n=>
    cases fs with
    |nil=>
     simp only[gQ];rw[gP];exact rz v w base l [] (n0+n) d' h
    |cons q fs=>
     simp only[gB];exact rz v w base l ((q.1,q.2+n)::fs) n0 d' h
  rename_i c1 c2;split at h
  ·rename_i c3;rw[zE c3,zE c3];exact rz v w base l ((o.2.2.2.2,0)::(fv,fw)::fs) n0 d' h
  ·rename_i c3;rw[zF c3,zF c2,zF c3,zF c2];exact rz v w base l ((fv,fw+1)::fs) n0 d' h
theorem aJ2 : ∀(l:List cu) (st st':List (Int×Int)) (d d':Nat),st.length=d+1→cl l d=some d'→qP l st=some st'→st'.length=d'+1
 |[],st,st',d,d',h1,h2,h3=>by
  injection h2 with h2
  injection h3 with h3
  subst h2;subst h3;exact h1
 |o::l,[],st',d,d',h1,_,_=>by simp at h1
 |o::l,(v,w)::st,st',d,d',h1,h2,h3=>by
  simp only[cl]at h2;simp only[qP]at h3;simp only[cD,Nat.add_right_cancel_iff]at h1;split at h2
  ·cases h2
  split at h2
  ·rename_i c1 c2;split at h2
   ·cases h2
   rw[zF (by omega),zE c2]at h3;split at h3
   ·rename_i c3 _ _ n v' w' st2 _;exact aJ2 l _ st' (d-1) d' (by simp at h1⊢;omega) h2 h3
   ·cases h3
  rename_i c1 c2;split at h2
  ·rename_i c3;rw[zE c3]at h3;exact aJ2 l _ st' (d+1) d' (by simp;omega) h2 h3
  ·rename_i c3;rw[zF c3,zF c2]at h3;exact aJ2 l _ st' d d' (by simp;omega) h2 h3
theorem aY3 : ∀(l:List cu) (st st':List (Int×Int)),(∀o∈l,0≤o.2.2.2.2)→(∀p∈st,0≤p.1∧0≤p.2)→qP l st=some st'→∀p∈st',0≤p.2
 |[],st,st',_,h,h3=>by
  injection h3 with h3
  subst h3;exact fun p hp=>(h p hp).2
 |o::l,[],st',_,_,h3=>by cases h3
 |o::l,(v,w)::st,st',ho,h,h3=>by
  have hvw:=h (v,w) (by simp);have hrest: ∀p∈st,0≤p.1∧0≤p.2:=fun p hp=>h p (by simp[hp])
  have hol: ∀o'∈l,0≤o'.2.2.2.2:=fun o' ho'=>ho o' (by simp[ho'])
  simp only at hvw;simp only[qP]at h3;split at h3
  ·refine aY3 l _ st' hol (fun p hp=> ?_) h3;rcases List.mem_cons.1 hp with rfl|hp
   ·exact⟨ho o (by simp),iC _⟩
   ·exact h p hp
  split at h3
  ·split at h3
   ·rename_i n v' w' st2 hb;have hn:=aF9 hvw.2 hvw.1 hb;refine aY3 l _ st' hol (fun p hp=> ?_) h3;rcases List.mem_cons.1 hp with rfl|hp
    ·have:=hrest (v',w') (by simp);simp only at this⊢;omega
    ·exact hrest p (by simp[hp])
   ·cases h3
  ·refine aY3 l _ st' hol (fun p hp=> ?_) h3;rcases List.mem_cons.1 hp with rfl|hp
   ·simp only;omega
   ·exact h p (by simp[hp])
theorem az8 {l:List cu}(h:cl l 0=some 0)(v w:Int)(base:List (Int×Int)):qP l ((v,w)::base)=(Q9 l).map fun m=>(v,w+m)::base:=by
 have h1:=rz v w base l [] 0 0 h;rw[gQ,gQ,hZ]at h1;have h2:=rz ((l.getD 0 (0,0,0,0,0)).2.2.2.2) 0 [] l [] 0 0 h;rw[gQ,gQ,hZ]at h2;unfold Q9;rw[h1,h2];cases hr:qP l [(0,0)]with
 |none=>rfl
 |some st=>
  have hl:=aJ2 l _ st 0 0 rfl h hr
  match st,hl with
  |[p],_=>
   show some ((v,w+p.2)::base)=some ((v,w+(0+p.2))::base);rw[fB]
theorem aQ4 {l:List cu}(hv: ∀o∈l,0≤o.2.2.2.2){m:Int}(h:cl l 0=some 0)(hq:Q9 l=some m):0≤m:=by
 have h1:=az8 h 0 0 [];rw[hq]at h1;have:=aY3 l _ _ hv (fun p hp=>by simp at hp;subst hp;simp) h1 (0,0+m) (by simp);simp only at this;omega
theorem aC1 {l:List cu}(hl:l.length≤100000):po l=some (decide (cl l 0=some 0)):=by
 unfold po
 obtain⟨c,hc,h⟩:=qr (f:=uH l) (a:=((0:Int),(0:Int))) (fun s=> ∃i d:Nat,i≤l.length∧d≤i∧s=((i:Int),(d:Int))∧cl (l.drop i) d=cl l 0) (fun s=>l.length-s.1.toNat)
  (fun c=>(c= .inl false∧cl l 0=none)∨∃d:Nat,c= .inr (d:Int)∧cl l 0=some d) ⟨0,0,gT _,aB _,rfl,rfl⟩ (by simp;omega) (by
  rintro _ ⟨i,d,hi,hd,rfl,hs⟩;simp only[uH,br];by_cases c:i<l.length
  ·rw[(gS c).symm]at hs;rw[zE (by omega),ci c];simp only[zG];generalize l[i]=x at*;simp only[cl]at hs;by_cases k0:x.1<0
   ·rw[zE (.inl k0)]at hs;rw[zE k0];exact .inr ⟨_,rfl, .inl ⟨rfl,hs.symm⟩⟩
   rw[zF k0];by_cases k7:7<x.1
   ·rw[zE (.inr k7)]at hs;rw[zE k7];exact .inr ⟨_,rfl, .inl ⟨rfl,hs.symm⟩⟩
   rw[zF (by omega)]at hs;rw[zF k7];by_cases kz:x.1=0
   ·rw[zE kz]at hs;rw[zF (by omega)];simp only[zG];rw[zE kz,bk (n:=(d:Int)-1) (by omega),bk (n:=(i:Int)+1) (by omega)];by_cases hd0:d=0
    ·rw[zE hd0]at hs;rw[zE (by omega)];exact .inr ⟨_,rfl, .inl ⟨rfl,hs.symm⟩⟩
    ·rw[zF hd0]at hs;rw[zF (by omega)];exact .inl ⟨_,rfl,⟨i+1,d-1,c,by omega,by rw[show((d-1:Nat):Int)=(d:Int)-1 by omega];rfl,hs⟩,by simp;omega⟩
   ·rw[zF kz]at hs;by_cases k77:x.1=7
    ·rw[zE k77]at hs;rw[zE k77];simp only[zG];rw[zF kz,bk (n:=(d:Int)+1) (by omega),bk (n:=(i:Int)+1) (by omega),zF (by omega)];exact .inl ⟨_,rfl,⟨i+1,d+1,c,by omega,rfl,hs⟩,by simp;omega⟩
    ·rw[zF k77]at hs;rw[zF k77];simp only[zG];rw[zF kz,bk (n:=(i:Int)+1) (by omega),zF (by omega)];exact .inl ⟨_,rfl,⟨i+1,d,c,by omega,rfl,hs⟩,by simp;omega⟩
  ·have:i=l.length:=by omega
   subst this;rw[gW]at hs;rw[zF (by omega)]
   exact .inr ⟨_,rfl, .inr ⟨d,rfl,hs.symm⟩⟩)
 rw[hc];rcases h with⟨rfl,h⟩|⟨d,rfl,h⟩
 ·rw[h];rfl
 ·rw[h];show some (decide ((d:Int)=0))=some (decide (some d=some 0))
  congr 1
  rw[decide_eq_decide];constructor
  ·intro e;have:d=0:=by omega
   rw[this]
  ·intro e;injection e with e;omega
theorem ag1 : ∀(n:Nat) (s:List cu) (d:Nat),s.length≤n→cl s (d+1)=some 0→∃inner e rest,s=inner++e::rest∧e.1=0∧cl inner 0=some 0∧cl rest d=some 0
 |n,[],d,_,h=>by
  injection h with h
  omega
 |0,o::s,d,hn,_=>by simp at hn
 |n+1,o::s,d,hn,h=>by
  simp only[cD]at hn;simp only[cl]at h;split at h
  ·cases h
  rename_i c1;split at h
  ·rename_i c2;rw[zF (by omega)]at h;exact⟨[],o,s,rfl,c2,rfl,h⟩
  rename_i c2;split at h
  ·rename_i c3;obtain⟨i1,e1,r1,h1,h2,h3,h4⟩:=ag1 n s (d+1) (by omega) h;have hlen:r1.length≤n:=by rw[h1]at hn;simp at hn;omega
   obtain⟨i2,e2,r2,h5,h6,h7,h8⟩:=ag1 n r1 d hlen h4;refine⟨o::i1++e1::i2,e2,r2, ?_,h6, ?_,h8⟩
   ·rw[h1,h5];simp
   ·show cl (o::(i1++e1::i2)) 0=_;simp only[cl];rw[zF c1,zF c2,zE c3,qt,aJ4 _ _ _ h3];show cl (e1::i2) 1=_;simp only[cl];rw[zF (by omega),zE h2,zF (by omega)];exact h7
  ·rename_i c3;obtain⟨i1,e1,r1,h1,h2,h3,h4⟩:=ag1 n s d (by omega) h;refine⟨o::i1,e1,r1,by rw[h1];rfl,h2, ?_,h4⟩;simp only[cl];rw[zF c1,zF c2,zF c3];exact h3
theorem wc {i1 i2 r1 r2:List cu}{e1 e2:cu}(h:i1++e1::r1=i2++e2::r2)(h1:cl i1 0=some 0)(h2:cl i2 0=some 0)(he1:e1.1=0)(he2:e2.1=0):i1=i2:=by
 have key: ∀{a b:List cu} {e:cu} {x:List cu},a++e::x=b→e.1=0→cl a 0=some 0→cl b 0=some 0→False:=by
  intro a b e x hab he ha hb;rw[←hab,qt,ha]at hb;have hb:cl (e::x) 0=some 0:=hb;simp only[cl]at hb;rw[zF (by omega),zE he,zE trivial]at hb;cases hb
 rcases List.append_eq_append_iff.1 h with⟨a',h3,h4⟩|⟨a',h3,h4⟩
 ·cases a' with
  |nil=>rw[iE]at h3;exact h3.symm
  |cons q a'=>
   rw[gB]at h4;injection h4 with h4 h5
   subst h4;exact(key h3.symm he1 h1 h2).elim
 ·cases a' with
  |nil=>rw[iE]at h3;exact h3
  |cons q a'=>
   rw[gB]at h4;injection h4 with h4 h5
   subst h4;exact(key h3.symm he2 h2 h1).elim
theorem bc4 {l:List cu}(h:cl l 0=some 0){i:Nat}(hi:i≤l.length): ∃d,cl (l.take i) 0=some d∧cl (l.drop i) d=some 0:=by
 rw[←iM i l,qt]at h;obtain⟨d,h1,h2⟩:=bn h;exact⟨d,h1,h2⟩
theorem bO0 {l:List cu}(h:cl l 0=some 0){i:Nat}(hi:i<l.length)(hk:l[i].1=7): ∃inner e rest,l.drop (i+1)=inner++e::rest∧e.1=0∧cl inner 0=some 0:=by
 obtain⟨d,_,h2⟩:=bc4 h (i:=i) (by omega);rw[(gS hi).symm]at h2;simp only[cl]at h2;rw[zF (by omega),zF (by omega),zE hk]at h2;obtain⟨inner,e,rest,h3,h4,h5,_⟩:=ag1 _ _ d (aB _) h2;exact⟨inner,e,rest,h3,h4,h5⟩
structure MOK (l:List cu)(m:List Int):Prop where
 len:m.length=l.length
 at': ∀i,(hi:i<l.length)→l[i].1=7→∀inner e rest,l.drop (i+1)=inner++e::rest→e.1=0→cl inner 0=some 0→m[i]?=some ((i+1+inner.length:Nat):Int)
theorem cN5 {l:List cu}(hl:l.length≤100000){i:Nat}(hi:i<l.length){inner rest:List cu}{e:cu}(h:l.drop (i+1)=inner++e::rest)(he:e.1=0)(hs:cl inner 0=some 0):bt (mT l) dy (1,(i:Int))=some ((i+1+inner.length:Nat):Int):=by
 have hlen:l.length=i+1+inner.length+1+rest.length:=by
  have:=congrArg gZ h;rw[iI]at this;simp at this;omega
 have hget: ∀j,j<inner.length+1→∃x,rd l ((i+1+j:Nat):Int)=some x∧(inner++e::rest)[j]?=some x:=by
  intro j hj;have hlt:i+1+j<l.length:=by omega
  refine⟨l[i+1+j],ci hlt, ?_⟩;rw[←h,iH,aD hlt]
 have hpre: ∀j,j≤inner.length→∃d,cl (inner.take j) 0=some d:=by
  intro j hj;obtain⟨d,h1,_⟩:=bc4 hs hj;exact⟨d,h1⟩
 let hs':Nat→Nat:=fun j=>(cl (inner.take j) 0).getD 0
 have hhs: ∀j,j≤inner.length→cl (inner.take j) 0=some (hs' j):=by
  intro j hj;obtain⟨d,hd⟩:=hpre j hj;show _=some ((cl (inner.take j) 0).getD 0);rw[hd];rfl
 have hle: ∀j,hs' j≤j∨inner.length<j:=by
  intro j;induction j with
  |zero=>exact .inl (aB _)
  |succ j ih=>
   by_cases hj:j+1≤inner.length
   ·left;have h1:=hhs (j+1) hj;rw[iY (show j<inner.length by omega),qt,hhs j (by omega)]at h1;have h1:cl [inner[j]] (hs' j)=some (hs' (j+1)):=h1;simp only[cl]at h1;split at h1
    ·cases h1
    split at h1
    ·split at h1
     ·cases h1
     ·injection h1 with h1;omega
    split at h1
    ·injection h1 with h1;omega
    ·injection h1 with h1;omega
   ·right;omega
 refine xl (f:=mT l) (n:=inner.length+1) (fun j=>if j≤inner.length then((1+hs' j:Nat),((i+j:Nat):Int))else(0,((i+1+inner.length:Nat):Int))) (by omega) (fun j hj=> ?_) ?_
 ·have hb:=hle j;rw[zE (show j≤inner.length by omega)];obtain⟨x,hx1,hx2⟩:=hget j (by omega);simp only[mT,br];rw[zE (by omega),bk (n:=((i+j:Nat):Int)+1) (by omega),show((i+j:Nat):Int)+1=((i+1+j:Nat):Int)by omega,hx1];simp only[zG];by_cases hj2:j<inner.length
  ·rw[List.getElem?_append_left hj2,aD hj2]at hx2;injection hx2 with hx2
   have h1:=hhs (j+1) hj2;rw[iY hj2,qt,hhs j (by omega)]at h1;have h1:cl [inner[j]] (hs' j)=some (hs' (j+1)):=h1;rw[hx2]at h1;simp only[cl]at h1;rw[zE (show j+1≤inner.length by omega)];split at h1
   ·cases h1
   split at h1
   ·rename_i k1 k2;split at h1
    ·cases h1
    ·injection h1 with h1
     rw[zF (by omega),zE k2,bk (by omega)]
     congr 3<;>omega
   rename_i k1 k2;split at h1
   ·rename_i k3;injection h1 with h1
    rw[zE k3,zF k2,bk (by omega)]
    congr 3<;>omega
   ·rename_i k3;injection h1 with h1
    rw[zF k3,zF k2]
    congr 3<;>omega
  ·have hje:j=inner.length:=by omega
   subst hje;rw[dD (aB _),bD]at hx2;injection hx2 with hx2
   subst hx2
   have hz:hs' inner.length=0:=by
    have:=hhs inner.length (aB _);rw[List.take_length,hs]at this;injection this with this
    exact this.symm
   rw[zF (by omega),zE he,zF (show¬inner.length+1≤inner.length by omega),hz,bk (by omega)];rfl
 ·rw[zF (by omega)];simp only[mT,br];rw[zF (by omega)]
theorem ar3 {l:List cu}(hl:l.length≤100000):(cl l 0=some 0∧∃m,kc l=some (0,m)∧MOK l m)∨(cl l 0≠some 0∧kc l=some (6,[])):=by
 unfold kc;rw[aC1 hl];simp only[zG];by_cases hs:cl l 0=some 0
 ·left;refine⟨hs, ?_⟩;rw[zB hs];simp only[hY,zD]
  have h0:bt (mS l) dy (0,[])=some (bB l.length (-1)):=by
   have h:=ff (f:=mS l) (n:=l.length) (fun i=>bB i (-1:Int)) (c:=bB l.length (-1)) (by omega) ?_ ?_
   ·exact h
   ·intro i hi;simp only[mS,br];rw[zE (by omega),dk (by simp;omega) (by omega),bk (by omega),jH];rfl
   ·simp only[mS,br];rw[zF (by omega)]
  rw[h0];simp only[zG]
  obtain⟨c,hc,h⟩:=qr (f:=tb l) (a:=((0:Int),bB l.length (-1:Int))) (fun s=> ∃(i:Nat) (out:List Int),i≤l.length∧s=((i:Int),out)∧out.length=l.length∧∀j,j<i→(hj:j<l.length)→l[j].1=7→∀inner e rest,l.drop (j+1)=inner++e::rest→e.1=0→cl inner 0=some 0→out[j]?=some ((j+1+inner.length:Nat):Int)) (fun s=>l.length-s.1.toNat)
   (fun c=>MOK l c) ⟨0,_,gT _,rfl,by simp,fun j hj=>by omega⟩ (by simp;omega) (by
   rintro _ ⟨i,out,hi,rfl,ho,hout⟩;simp only[tb,br];by_cases c:i<l.length
   ·rw[zE (by omega),ci c];simp only[zG];by_cases hk:l[i].1=7
    ·obtain⟨inner,e,rest,h1,h2,h3⟩:=bO0 hs c hk
     have hlen:l.length=i+1+inner.length+1+rest.length:=by
      have:=congrArg gZ h1;rw[iI]at this;simp at this;omega
     rw[zF (by simp[hk]),cN5 hl c h1 h2 h3];simp only[zG];rw[cd (show i<out.length by omega)];simp only[zG];rw[aD (show i<out.length by omega)];simp only[zG];rw[cd (show i+1+inner.length<(out.set i ((i+1+inner.length:Nat):Int)).length by simp;omega)];simp only[zG];rw[aD (show i+1+inner.length<(out.set i ((i+1+inner.length:Nat):Int)).length by simp;omega)];simp only[zG];rw[bk (n:=(i:Int)+1) (by omega)];refine .inl ⟨_,rfl,⟨i+1,_,c,rfl,by simp[ho],fun j hj hjl hjk inner' e' rest' q1 q2 q3=> ?_⟩,by simp;omega⟩
     have hke:l[i+1+inner.length].1=0:=by
      have h4:(l.drop (i+1))[inner.length]?=some e:=by
       rw[h1,dD (aB _),bD];rfl
      rw[iH,aD (show i+1+inner.length<l.length by omega)]at h4;injection h4 with h4
      rw[h4];exact h2
     have hne:i+1+inner.length≠j:=by
      intro e4;subst e4;rw[hke]at hjk;cases hjk
     rw[cB hne];by_cases hji:i=j
     ·subst hji;have:=wc (h1.symm.trans q1) h3 q3 h2 q2;subst this;rw[gY (by omega)]
     ·rw[cB hji];exact hout j (by omega) hjl hjk inner' e' rest' q1 q2 q3
    ·rw[zE hk,bk (n:=(i:Int)+1) (by omega)];refine .inl ⟨_,rfl,⟨i+1,out,c,rfl,ho,fun j hj hjl hjk=> ?_⟩,by simp;omega⟩;by_cases hji:j=i
     ·subst hji;exact(hk hjk).elim
     ·exact hout j (by omega) hjl hjk
   ·have:i=l.length:=by omega
    subst this;rw[zF (by omega)]
    exact .inr ⟨_,rfl,ho,fun j hj hjk=>hout j hj hj hjk⟩)
  rw[hc];exact⟨c,rfl,h⟩
 ·right;refine⟨hs, ?_⟩;rw[zA hs];rfl
theorem ci3 {α β:Type}{f:α→β}(hf: ∀a b,f a=f b→a=b){x y:Option α}(h:x.map f=y.map f):x=y:=by
 cases x with
 |none=>cases y with
  |none=>rfl
  |some b=>cases h
 |some a=>cases y with
  |none=>cases h
  |some b=>
   injection h with h
   rw[hf _ _ h]
theorem bS1 (v c:Int)(base:List (Int×Int)): ∀a b:Int,(v,c+a)::base=(v,c+b)::base→a=b:=by
 intro a b h;injection h with h
 injection h with _ h
 omega
theorem bq9 {o:cu}{s:List cu}(h:cl (o::s) 0=some 0)(hk:o.1≠7):cl s 0=some 0∧(0<o.1∧o.1<7)∧Q9 (o::s)=(Q9 s).map (1+ ·):=by
 have h1:=az8 h 0 0 [];simp only[cl]at h;split at h
 ·cases h
 rename_i c1;split at h
 ·rw[zE trivial]at h;cases h
 rename_i c2;refine⟨h,by omega,ci3 (bS1 0 0 []) ?_⟩;rw[←h1];simp only[qP];rw[zF hk,zF c2,az8 h];cases Q9 s with
 |none=>rfl
 |some m=>
  show some [((0:Int),0+1+m)]=some [((0:Int),0+(1+m))];rw[gP]
theorem bB0 {o e:cu}{inner rest:List cu}(h:cl (o::(inner++e::rest)) 0=some 0)(hk:o.1=7)(he:e.1=0)(hi:cl inner 0=some 0):
  cl rest 0=some 0∧Q9 (o::(inner++e::rest))=(Q9 inner).bind fun w=>(xO w o.2.2.2.2).bind fun b=>(Q9 rest).map (b+ ·):=by
 have h1:=az8 h 0 0 [];simp only[cl]at h;rw[zF (by omega),zF (by omega),zE hk,qt,aJ4 _ _ _ hi]at h;have h:cl (e::rest) 1=some 0:=h;simp only[cl]at h;rw[zF (by omega),zE he,zF (by omega)]at h;have h:cl rest 0=some 0:=h;refine⟨h,ci3 (bS1 0 0 []) ?_⟩;rw[←h1];simp only[qP];rw[zE hk,zL,az8 hi];cases Q9 inner with
 |none=>rfl
 |some w=>
  show qP (e::rest) [(o.2.2.2.2,0+w),(0,0)]=_;simp only[qP];rw[zF (by omega),zE he,fB];simp only[zG];cases xO w o.2.2.2.2 with
  |none=>rfl
  |some b=>
   simp only[zG];rw[az8 h];cases Q9 rest with
   |none=>rfl
   |some m=>
    show some [((0:Int),0+b+m)]=some [((0:Int),0+(b+m))];rw[gP]
theorem cc1 {k:Int}(h:0<k∧k<7): ∃x,ir k=some (true,x):=by
 have:k=1∨k=2∨k=3∨k=4∨k=5∨k=6:=by omega
 rcases this with rfl|rfl|rfl|rfl|rfl|rfl<;>exact⟨_,rfl⟩
def aC6 (t:Int):Int:=if 65536<t then 65537 else t
def cm4 (w v:Int):Int:=if aC6 w=0 then 0 else if v=0 then 0 else if 65536<v then 65537 else if 65536<aC6 w*v then 65537 else aC6 w*v
theorem aG2 {w v b:Int}(hw:0≤w)(hv:0≤v)(h:xO w v=some b):cm4 w v=b∧w≤65536:=by
 unfold xO at h;unfold cm4;split at h
 ·rename_i c1;injection h with h
  subst h;subst c1;exact⟨by rw[zE (show aC6 0=0 from rfl)],by omega⟩
 split at h
 ·cases h
 split at h
 ·cases h
 rename_i c1 c2 c3;injection h with h
 have hs:aC6 w=w:=zF c2;rw[hs,zF c1];have hd:65536 / w≤65536:=iA _ (by omega);have h4:v≤65536 / w:=by omega
 have h5:=iD h4 hw;have h6:=iR (x:=65536) (k:=w) c1;refine⟨?_,by omega⟩;by_cases c4:v=0
 ·rw[zE c4,←h,c4,Int.mul_zero]
 ·rw[zF c4,zF (by omega),zF (by omega),h]
theorem cv4 {w v:Int}(hw:0≤w)(hv:0≤v)(h:xO w v=none):65536<w∨cm4 w v=65537:=by
 unfold xO at h;split at h
 ·cases h
 rename_i c1;split at h
 ·rename_i c2;exact .inl c2
 rename_i c2;split at h
 ·rename_i c3;right;unfold cm4;have hs:aC6 w=w:=zF c2;have hlt:=Int.lt_mul_of_ediv_lt (show 0<w by omega) c3;rw[gU]at hlt;have hd:0≤65536 / w:=iB (by omega) hw;rw[hs,zF c1,zF (by omega)];by_cases c4:65536<v
  ·rw[zE c4]
  ·rw[zF c4,zE hlt]
 ·cases h
def WOK (l:List cu)(m:List Int)(N:Nat):Prop:= ∀f,2*N<f→∀A seg B,l=A++seg++B→seg.length<N→cl seg 0=some 0→
 ∃r,(co f).1 l m (A.length:Int) ((A.length+seg.length:Nat):Int)=some r∧0≤r∧r≤65537∧∀t,Q9 seg=some t→r=aC6 t
section
variable {l:List cu} {m:List Int}
theorem bO1 (hl:l.length≤1000)(hv: ∀o∈l,0≤o.2.2.2.2∧o.2.2.2.2≤18446744073709551615)(hm:MOK l m){N:Nat}(h:WOK l m N){f:Nat}(hf:2*N+1<f){i:Nat}(hi:i<l.length)(hk:l[i].1=7){inner rest:List cu}{e:cu}(hd:l.drop (i+1)=inner++e::rest)(he:e.1=0)(hs:cl inner 0=some 0)(hN:inner.length<N):
  ∃r,(co f).2 l m (i:Int)=some r∧0≤r∧r≤65537∧∀w,Q9 inner=some w→r=cm4 w l[i].2.2.2.2:=by
 obtain⟨g,rfl⟩: ∃g,f=g+1:=⟨f-1,by omega⟩
 have hlen:l.length=i+1+inner.length+1+rest.length:=by
  have:=congrArg gZ hd;rw[iI]at this;simp at this;omega
 have hmi:=hm.at' i hi hk inner e rest hd he hs
 have hsplit:l=l.take (i+1)++inner++e::rest:=by
  rw[dB,←hd,iM]
 have hA:(l.take (i+1)).length=i+1:=by rw[iW];omega
 obtain⟨r4,h1,h2,h3,h4⟩:=h g (by omega) (l.take (i+1)) inner (e::rest) hsplit hN hs;rw[hA]at h1
 have hrd:rd m (i:Int)=some ((i+1+inner.length:Nat):Int):=by
  have hlt:i<m.length:=by rw[hm.len];exact hi
  rw[ci hlt,←hmi,aD hlt]
 have hvi:=hv _ (gD hi);show∃r,ym ((co g).1) ((co g).2) l m i=some r∧_
 unfold ym;rw[hrd];simp only[zG];rw[bk (n:=(i:Int)+1) (by omega),show(i:Int)+1=((i+1:Nat):Int)by omega,h1];simp only[zG,br];rw[ci hi];simp only[zG];generalize l[i].2.2.2.2=v at*
 have hval:(if r4=0 then some 0 else if v=0 then some 0 else if 65536<v then some 65537 else if 65536<IntKind.i64.wrap (r4*zH zI v)then some 65537 else some (zH zI (r4*zH zI v)))=
   some (if r4=0 then 0 else if v=0 then 0 else if 65536<v then 65537 else if 65536<r4*v then 65537 else r4*v):=by
  split
  ·rfl
  split
  ·rfl
  split
  ·rfl
  rename_i c1 c2 c3;have h5:=Int.mul_le_mul h3 (show v≤65536 by omega) hvi.1 (by omega);have h6:=gV h2 hvi.1;rw[bk (n:=v) (by omega),bk (by omega)];split<;>rfl
 rw[hval];refine⟨_,rfl, ?_, ?_,fun w hw=> ?_⟩
 ·split
  ·omega
  split
  ·omega
  split
  ·omega
  split
  ·omega
  ·exact gV h2 hvi.1
 ·split
  ·omega
  split
  ·omega
  split
  ·omega
  split<;>omega
 ·rw[h4 w hw];rfl
theorem as5 (hl:l.length≤1000)(hv: ∀o∈l,0≤o.2.2.2.2∧o.2.2.2.2≤18446744073709551615)(hm:MOK l m){N:Nat}(h:WOK l m N){g:Nat}(hg:2*N+1<g)(hi:Nat): ∀(k:Nat) (pre seg B:List cu) (n:Int) (fu:Nat),l=pre++seg++B→seg.length≤k→seg.length≤N→seg.length<fu→cl seg 0=some 0→hi=pre.length+seg.length→0≤n∧n≤65536→
  ∃c,bt (oD ((co g).2) l m hi) fu ((pre.length:Int),n)=some c∧(c= .inl ()∨∃r,c= .inr r∧0≤r∧r≤65536)∧∀t,Q9 seg=some t→c=if 65536<n+t then .inl ()else .inr (n+t)
 |k,pre,[],B,n,0,_,_,_,hfu,_,_,_=>by simp at hfu
 |k,pre,[],B,n,fu+1,hsplit,_,_,_,hs,hh,hn=>by
  refine⟨.inr n, ?_, .inr ⟨n,rfl,hn⟩,fun t ht=> ?_⟩
  ·rw[df];simp only[oD,br];rw[zF (by simp at hh;omega)];rfl
  ·injection ht with ht
   subst ht;rw[hZ,zF (by omega)]
 |0,pre,o::seg,B,n,fu,_,hk,_,_,_,_,_=>by simp at hk
 |k+1,pre,o::seg,B,n,0,_,_,_,hfu,_,_,_=>by simp at hfu
 |k+1,pre,o::seg,B,n,fu+1,hsplit,hk,hN,hfu,hs,hh,hn=>by
  simp only[cD]at hk hN hfu hh;have hlen:l.length=pre.length+(seg.length+1)+B.length:=by rw[hsplit];simp;omega
  have hlt:pre.length<l.length:=by omega
  have hget:l[pre.length]=o:=by
   have:l[pre.length]?=some o:=by
    rw[hsplit,dB,dD (aB _),bD];rfl
   rw[aD hlt]at this;injection this
  have hov:0≤o.2.2.2.2∧o.2.2.2.2≤18446744073709551615:=by rw[←hget];exact hv _ (gD hlt)
  rw[df];simp only[oD,br];rw[zE (by omega),ci hlt,hget];simp only[zG];by_cases hk7:o.1=7
  ·
   rw[zE hk7]
   have hs1:cl seg 1=some 0:=by
    simp only[cl]at hs;rw[zF (by omega),zF (by omega),zE hk7]at hs;exact hs
   obtain⟨inner,e,rest,h1,h2,h3,h4⟩:=ag1 _ seg 0 (aB _) hs1;subst h1;simp only[eD,cD]at hk hN hfu hh hlen
   have hd:l.drop (pre.length+1)=inner++e::(rest++B):=by
    rw[hsplit,dB,iF,iG (by omega),show pre.length+1-pre.length=1 by omega];simp
   obtain⟨r9,b1,b2,b3,b4⟩:=bO1 hl hv hm h hg hlt (by rw[hget];exact hk7) hd h2 h3 (by omega);rw[hget]at b4;rw[b1];simp only[zG];have hmi:=hm.at' pre.length hlt (by rw[hget];exact hk7) inner e (rest++B) hd h2 h3
   have hrd:rd m (pre.length:Int)=some ((pre.length+1+inner.length:Nat):Int):=by
    have hlt':pre.length<m.length:=by rw[hm.len];exact hlt
    rw[ci hlt',←hmi,aD hlt']
   rw[hrd];simp only[zG];rw[bk (n:=n+r9) (by omega),bk (n:=((pre.length+1+inner.length:Nat):Int)+1) (by omega)];obtain⟨hsr,hQ⟩:=bB0 hs hk7 h2 h3;by_cases c1:65536<n+r9
   ·rw[zE c1];refine⟨.inl (),rfl, .inl rfl,fun t ht=> ?_⟩;rw[hQ]at ht;obtain⟨w,hw,ht⟩:=bn ht;obtain⟨b,hb,ht⟩:=bn ht;have hw0:=aQ4 (l:=inner) (fun o' ho'=>(hv o' (by rw[hsplit];simp[ho'])).1) h3 hw;obtain⟨e1,_⟩:=aG2 hw0 hov.1 hb;rw[b4 w hw,e1]at c1;cases hqr:Q9 rest with
    |none=>rw[hqr]at ht;cases ht
    |some tr=>
     rw[hqr]at ht;injection ht with ht
     have ht:b+tr=t:=ht;have:=aQ4 (l:=rest) (fun o' ho'=>(hv o' (by rw[hsplit];simp[ho'])).1) hsr hqr;rw[zE (by omega)]
   ·rw[zF c1];simp only[zG,cj];have hp:(pre++o::(inner++[e])).length=pre.length+1+inner.length+1:=by simp;omega
    obtain⟨c,d1,d2,d3⟩:=as5 hl hv hm h hg hi k (pre++o::(inner++[e])) rest B (n+r9) fu (by rw[hsplit];simp) (by omega) (by omega) (by omega) hsr (by rw[hp];omega) (by omega);rw[hp]at d1;refine⟨c,by rw[show((pre.length+1+inner.length:Nat):Int)+1=((pre.length+1+inner.length+1:Nat):Int)by omega];exact d1,d2,fun t ht=> ?_⟩;rw[hQ]at ht;obtain⟨w,hw,ht⟩:=bn ht;obtain⟨b,hb,ht⟩:=bn ht;have hw0:=aQ4 (l:=inner) (fun o' ho'=>(hv o' (by rw[hsplit];simp[ho'])).1) h3 hw;obtain⟨e1,_⟩:=aG2 hw0 hov.1 hb;have hr9:r9=b:=by rw[b4 w hw,e1]
    cases hqr:Q9 rest with
    |none=>rw[hqr]at ht;cases ht
    |some tr=>
     rw[hqr]at ht;injection ht with ht
     have:=d3 tr hqr;rw[this,←ht,hr9,gP]
  ·rw[zF hk7];obtain⟨hsr,hko,hQ⟩:=bq9 hs hk7;obtain⟨x,hx⟩:=cc1 hko;rw[hx];simp only[zG,zC];rw[bk (n:=n+1) (by omega),bk (n:=(pre.length:Int)+1) (by omega)];by_cases c1:65536<n+1
   ·rw[zE c1];refine⟨.inl (),rfl, .inl rfl,fun t ht=> ?_⟩;rw[hQ]at ht;cases hqr:Q9 seg with
    |none=>rw[hqr]at ht;cases ht
    |some tr=>
     rw[hqr]at ht;injection ht with ht
     have ht:1+tr=t:=ht;have:=aQ4 (l:=seg) (fun o' ho'=>(hv o' (by rw[hsplit];simp[ho'])).1) hsr hqr;rw[zE (by omega)]
   ·rw[zF c1];simp only[zG,cj];have hp:(pre++[o]).length=pre.length+1:=by simp
    obtain⟨c,d1,d2,d3⟩:=as5 hl hv hm h hg hi k (pre++[o]) seg B (n+1) fu (by rw[hsplit];simp) (by omega) (by omega) (by omega) hsr (by rw[hp];omega) (by omega);rw[hp]at d1;refine⟨c,d1,d2,fun t ht=> ?_⟩;rw[hQ]at ht;cases hqr:Q9 seg with
    |none=>rw[hqr]at ht;cases ht
    |some tr=>
     rw[hqr]at ht;injection ht with ht
     rw[d3 tr hqr,←ht,gP]
theorem wok (hl:l.length≤1000)(hv: ∀o∈l,0≤o.2.2.2.2∧o.2.2.2.2≤18446744073709551615)(hm:MOK l m): ∀N,WOK l m N
 |0=>fun _ _ _ _ _ _ h=>absurd h (Nat.not_lt_zero _)
 |N+1=>fun f hf A seg B hs0 hN hs=>by
  obtain⟨g,rfl⟩: ∃g,f=g+1:=⟨f-1,by omega⟩
  show∃r,wA ((co g).1) ((co g).2) l m _ _=some r∧_
  unfold wA
  have hsl:seg.length≤1000:=by
   have:=congrArg gZ hs0;simp at this;omega
  obtain⟨c,h1,h2,h3⟩:=as5 hl hv hm (wok hl hv hm N) (g:=g) (by omega) (A.length+seg.length) _ A seg B 0 dy hs0 (aB _) (by omega) (by unfold dy;omega) hs rfl (by omega);rw[h1];simp only[zG];rcases h2 with rfl|⟨r,rfl,h4,h5⟩
  ·refine⟨65537,rfl,by omega,by omega,fun t ht=> ?_⟩;have:=h3 t ht;rw[fB]at this;unfold aC6;split at this
   ·rename_i c;rw[zE c]
   ·cases this
  ·refine⟨r,rfl,h4,by omega,fun t ht=> ?_⟩;have:=h3 t ht;rw[fB]at this;unfold aC6;split at this
   ·cases this
   ·rename_i c;injection this with this
    rw[zF c,this]
end
theorem aS7 {δ:Type}{f:Int→Option (Int⊕δ)}(n:Nat)(hn:n<9223372036854775808)(stop:Nat→Prop)(c e:δ)
  (hs: ∀i:Nat,i<n→¬stop i→f (i:Int)=some (.inl ((i+1:Nat):Int))) (hx: ∀i:Nat,i<n→stop i→f (i:Int)=some (.inr c)) (he:f (n:Int)=some (.inr e)):
  (∃i,i<n∧stop i∧(∀j,j<i→¬stop j)∧bt f dy 0=some c)∨((∀j,j<n→¬stop j)∧bt f dy 0=some e):=by
 by_cases h: ∃i,i<n∧stop i
 ·obtain⟨i,h1,h2⟩:=h
  have hex: ∃i,i<n∧stop i∧∀j,j<i→¬stop j:=by
   induction i using Nat.strongRecOn with
   |ind i ih=>
    by_cases hj: ∃j,j<i∧stop j
    ·obtain⟨j,h3,h4⟩:=hj;exact ih j h3 (by omega) h4
    ·exact⟨i,h1,h2,fun j h h3=>hj ⟨j,h,h3⟩⟩
  obtain⟨i,h1,h2,h3⟩:=hex;exact .inl ⟨i,h1,h2,h3,ru (n:=i) (by omega) (fun j hj=>hs j (by omega) (h3 j hj)) (hx i h1 h2)⟩
 ·have h': ∀j,j<n→¬stop j:=fun j h1 h2=>h ⟨j,h1,h2⟩
  exact .inr ⟨h',ru (n:=n) hn (fun j hj=>hs j hj (h' j hj)) he⟩
theorem cI7 {seg pre inner rest:List cu}{o e:cu}{t:Int}(hq:Q9 seg=some t)(hs:seg=pre++o::(inner++e::rest))(ho:o.1=7)(he:e.1=0)(hi:cl inner 0=some 0):
  ∃w b,Q9 inner=some w∧xO w o.2.2.2.2=some b:=by
 unfold Q9 at hq;rw[hs,zL]at hq;obtain⟨st,h1,h2⟩:=bn hq;obtain⟨st1,h3,h4⟩:=bn h1;cases st1 with
 |nil=>simp[qP]at h4
 |cons p st1=>
  simp only[qP]at h4;rw[zE ho,zL,az8 hi]at h4;cases hw:Q9 inner with
  |none=>rw[hw]at h4;cases h4
  |some w=>
   rw[hw]at h4;have h4:qP (e::rest) ((o.2.2.2.2,0+w)::(p.1,p.2)::st1)=some st:=h4;simp only[qP]at h4;rw[zF (by omega),zE he,fB]at h4;cases hb:xO w o.2.2.2.2 with
   |none=>rw[hb]at h4;cases h4
   |some b=>exact⟨w,b,rfl,hb⟩
theorem bE6 : ∀(n:Nat) (seg:List cu),seg.length≤n→cl seg 0=some 0→Q9 seg=none→∃pre o inner e rest w,seg=pre++o::(inner++e::rest)∧o.1=7∧e.1=0∧cl inner 0=some 0∧Q9 inner=some w∧xO w o.2.2.2.2=none
 |n,[],_,_,hq=>by cases hq
 |0,o::s,h,_,_=>by simp at h
 |n+1,o::s,hn,hs,hq=>by
  simp only[cD]at hn;by_cases hk:o.1=7
  ·have hs1:cl s 1=some 0:=by
    simp only[cl]at hs;rw[zF (by omega),zF (by omega),zE hk]at hs;exact hs
   obtain⟨inner,e,rest,h1,h2,h3,h4⟩:=ag1 _ s 0 (aB _) hs1;subst h1;simp only[eD,cD]at hn;obtain⟨hsr,hQ⟩:=bB0 hs hk h2 h3;rw[hQ]at hq;cases hw:Q9 inner with
   |none=>
    obtain⟨pre,o',i',e',r',w,q1,q2⟩:=bE6 n inner (by omega) h3 hw;exact⟨o::pre,o',i',e',r'++e::rest,w,by rw[q1];simp,q2⟩
   |some w=>
    rw[hw]at hq;simp only[zG]at hq;cases hb:xO w o.2.2.2.2 with
    |none=>exact⟨[],o,inner,e,rest,w,rfl,hk,h2,h3,hw,hb⟩
    |some b=>
     rw[hb]at hq;simp only[zG]at hq;cases hr:Q9 rest with
     |some t=>rw[hr]at hq;cases hq
     |none=>
      obtain⟨pre,o',i',e',r',w',q1,q2⟩:=bE6 n rest (by omega) hsr hr;exact⟨o::(inner++e::pre),o',i',e',r',w',by rw[q1];simp,q2⟩
  ·obtain⟨hsr,_,hQ⟩:=bq9 hs hk;rw[hQ]at hq;cases hr:Q9 s with
   |some t=>rw[hr]at hq;cases hq
   |none=>
    obtain⟨pre,o',i',e',r',w',q1,q2⟩:=bE6 n s (by omega) hsr hr;exact⟨o::pre,o',i',e',r',w',by rw[q1];rfl,q2⟩
section
variable {l:List cu} {m:List Int}
theorem ae3 (hl:l.length≤100)(hv: ∀o∈l,0≤o.2.2.2.2∧o.2.2.2.2≤18446744073709551615)(hm:MOK l m)(hs:cl l 0=some 0){i:Nat}(hi:i<l.length)(hk:l[i].1=7):
  ∃inner e rest b w mi,l.drop (i+1)=inner++e::rest∧e.1=0∧cl inner 0=some 0∧m[i]?=some mi∧mi=((i+1+inner.length:Nat):Int)∧mw l m (i:Int)=some b∧mU l m ((i+1:Nat):Int) mi=some w∧0≤b∧0≤w∧
   ∀t,Q9 inner=some t→b=cm4 t l[i].2.2.2.2∧w=aC6 t:=by
 obtain⟨inner,e,rest,hd,he,hi0⟩:=bO0 hs hi hk
 have hlen:l.length=i+1+inner.length+1+rest.length:=by
  have:=congrArg gZ hd;rw[iI]at this;simp at this;omega
 have hsplit:l=l.take (i+1)++inner++e::rest:=by
  rw[dB,←hd,iM]
 have hA:(l.take (i+1)).length=i+1:=by rw[iW];omega
 obtain⟨b,b1,b2,b3,b4⟩:=bO1 (by omega) hv hm (wok (by omega) hv hm 101) (f:=400) (by omega) hi hk hd he hi0 (by omega);obtain⟨w,w1,w2,w3,w4⟩:=wok (by omega) hv hm 101 400 (by omega) (l.take (i+1)) inner (e::rest) hsplit (by omega) hi0;rw[hA]at w1;exact⟨inner,e,rest,b,w,_,hd,he,hi0,hm.at' i hi hk inner e rest hd he hi0,rfl,b1,w1,b2,w2,fun t ht=>⟨b4 t ht,w4 t ht⟩⟩
theorem cc3 (hl:l.length≤100)(hv: ∀o∈l,0≤o.2.2.2.2∧o.2.2.2.2≤18446744073709551615)(hm:MOK l m)(hs:cl l 0=some 0):
  bt (kw l (0,m)) dy 0=some (match Q9 l with|some _=> .inr ()|none=> .inl ()):=by
 have key:=aS7 (f:=kw l (0,m)) l.length (by omega)
  (fun i=> ∃hi:i<l.length,l[i].1=7∧∃b w mi,m[i]?=some mi∧mw l m (i:Int)=some b∧mU l m ((i+1:Nat):Int) mi=some w∧(65536<b∨65536<w)) (.inl ()) (.inr ())
  (fun i hi hn=>by
   unfold kw;simp only[br];rw[zE (by omega),ci hi];simp only[zG];by_cases hk:l[i].1=7
   ·obtain⟨inner,e,rest,b,w,mi,q1,q2,q3,q4,q5,q6,q7,q8⟩:=ae3 hl hv hm hs hi hk;rw[zE hk,q6];simp only[zG];rw[zF (fun h=>hn ⟨hi,hk,b,w,mi,q4,q6,q7, .inl h⟩),cd (show i<m.length by rw[hm.len];exact hi)];simp only[zG];rw[q4];simp only[zG];rw[bk (n:=(i:Int)+1) (by omega),show(i:Int)+1=((i+1:Nat):Int)by omega,q7];simp only[zG];rw[zF (fun h=>hn ⟨hi,hk,b,w,mi,q4,q6,q7, .inr h⟩)]
   ·rw[zF hk,bk (n:=(i:Int)+1) (by omega)]
    rfl)
  (fun i _ hst=>by
   obtain⟨hi,hk,b,w,mi,q4,q6,q7,q8⟩:=hst;unfold kw;simp only[br];rw[zE (by omega),ci hi];simp only[zG];rw[zE hk,q6];simp only[zG];by_cases hb:65536<b
   ·rw[zE hb]
   ·rw[zF hb,cd (show i<m.length by rw[hm.len];exact hi)];simp only[zG];rw[q4];simp only[zG];rw[bk (n:=(i:Int)+1) (by omega),show(i:Int)+1=((i+1:Nat):Int)by omega,q7];simp only[zG]
    rw[zE (by omega)])
  (by
   unfold kw;simp only[br]
   rw[zF (by omega)])
 cases hq:Q9 l with
 |some t=>
  rcases key with⟨i,h1,⟨hi,hk,b,w,mi,q4,q6,q7,q8⟩,_⟩|⟨_,h⟩
  ·exfalso;obtain⟨inner,e,rest,b',w',mi',p1,p2,p3,p4,p5,p6,p7,p8,p9,p10⟩:=ae3 hl hv hm hs hi hk
   have hsplit:l=l.take i++l[i]::(inner++e::rest):=by
    rw[←p1,gS hi,iM]
   obtain⟨w0,b0,g1,g2⟩:=cI7 hq hsplit hk p2 p3;obtain⟨e1,e2⟩:=p10 w0 g1;have hmem: ∀o'∈inner,0≤o'.2.2.2.2:=fun o' ho'=>(hv o' (by rw[hsplit];simp[ho'])).1
   have hw0:=aQ4 hmem p3 g1;obtain⟨x1,x2⟩:=aG2 hw0 (hv _ (gD hi)).1 g2;obtain⟨x3,x4⟩:=aF9 hw0 (hv _ (gD hi)).1 g2;rw[q4]at p4;injection p4 with p4
   rw[q6]at p6;injection p6 with p6
   rw[←p4,q7]at p7;injection p7 with p7
   have hs9:aC6 w0=w0:=zF (by omega);rw[hs9]at e2;omega
  ·exact h
 |none=>
  rcases key with⟨_,_,_,_,h⟩|⟨h,_⟩
  ·exact h
  ·exfalso;obtain⟨pre,o,inner,e,rest,w,q1,q2,q3,q4,q5,q6⟩:=bE6 _ l (aB _) hs hq;have hi:pre.length<l.length:=by rw[q1];simp
   have hget:l[pre.length]=o:=by
    have:l[pre.length]?=some o:=by
     rw[q1,dD (aB _),bD];rfl
    rw[aD hi]at this;injection this
   have hk:l[pre.length].1=7:=by rw[hget];exact q2
   have hd:l.drop (pre.length+1)=inner++e::rest:=by
    rw[q1,iF,iG (by omega),show pre.length+1-pre.length=1 by omega];simp
   obtain⟨inner',e',rest',b',w',mi',p1,p2,p3,p4,p5,p6,p7,p8,p9,p10⟩:=ae3 hl hv hm hs hi hk;have:=wc (hd.symm.trans p1) q4 p3 q3 p2;subst this;obtain⟨e1,e2⟩:=p10 w q5;have hmem: ∀o'∈inner,0≤o'.2.2.2.2:=fun o' ho'=>(hv o' (by rw[q1];simp[ho'])).1
   have hw0:=aQ4 hmem q4 q5;rw[hget]at e1;have hov:0≤o.2.2.2.2:=by rw[←hget];exact(hv _ (gD hi)).1
   refine h _ hi ⟨hi,hk,b',w',mi',p4,p6,p7, ?_⟩;rcases cv4 hw0 hov q6 with x|x
   ·right;rw[e2];unfold aC6;rw[zE x];omega
   ·left;rw[e1,x];omega
theorem vY (hl:l.length≤100)(hv: ∀o∈l,0≤o.2.2.2.2∧o.2.2.2.2≤18446744073709551615):lg l=some (ej l):=by
 unfold lg ej;rcases ar3 (l:=l) (by omega)with⟨hs,m,hm,hok⟩|⟨hs,hm⟩
 ·rw[hm,zE hs];simp only[zG];rw[zA (by simp),zD,cc3 hl hv hok hs];cases hq:Q9 l with
  |none=>rfl
  |some t=>
   have ht:=aQ4 (fun o ho=>(hv o ho).1) hs hq;simp only[zG,cj];obtain⟨w,w1,w2,w3,w4⟩:=wok (by omega) hv hok 101 400 (by omega) [] l [] (by simp) (by omega) hs
   have w1:mU l m 0 (l.length:Int)=some w:=by
    rw[←w1];show _=(co 400).1 l m 0 ((0+l.length:Nat):Int);rw[gR];rfl
   rw[w1];simp only[zG,br];have e2:=w4 t hq;unfold aC6 at e2;by_cases c:65536<t
   ·rw[zE c]at e2;rw[zE c,zE (by omega)]
   ·rw[zF c]at e2;rw[zF c,zF (by omega),e2]
 ·rw[hm,zF hs];rfl
end
theorem te {α δ:Type}{f:Int→Option (Int⊕δ)}{l:List α}(p:α→Bool)(c:Nat→δ)(e:δ)(hl:l.length<1000000)
  (hf: ∀i,(hi:i<l.length)→f (i:Int)=some (if p l[i]then .inr (c i)else .inl ((i+1:Nat):Int))) (he:f (l.length:Int)=some (.inr e)):
  (l.any p=true∧∃i:Nat,bt f dy 0=some (c i))∨(l.any p=false∧bt f dy 0=some e):=by
 by_cases h: ∃i,∃hi:i<l.length,p l[i]=true
 ·left
  have hex: ∃i,(∃hi:i<l.length,p l[i]=true)∧∀j,j<i→¬∃hj:j<l.length,p l[j]=true:=by
   obtain⟨i,hi⟩:=h;induction i using Nat.strongRecOn with
   |ind i ih=>
    by_cases hj: ∃j,j<i∧∃hj:j<l.length,p l[j]=true
    ·obtain⟨j,h3,h4⟩:=hj;exact ih j h3 h4
    ·exact⟨i,hi,fun j h h3=>hj ⟨j,h,h3⟩⟩
  obtain⟨i,⟨hi,h1⟩,h2⟩:=hex;refine⟨List.any_eq_true.2 ⟨l[i],gD hi,h1⟩,i,ru (n:=i) (by omega) (fun j hj=> ?_) ?_⟩
  ·rw[hf j (by omega),zF (fun hp=>h2 j hj ⟨by omega,hp⟩)]
  ·rw[hf i hi,zE h1]
 ·right;refine⟨?_,ru (n:=l.length) (by omega) (fun j hj=> ?_) he⟩
  ·rw[Bool.eq_false_iff];intro ht;obtain⟨x,hx,hp⟩:=List.any_eq_true.1 ht;obtain⟨i,hi,rfl⟩:=List.getElem_of_mem hx;exact h ⟨i,hi,hp⟩
  ·rw[hf j hj,zF (fun hp=>h ⟨j,hj,hp⟩)]
def cx (k:Int):Bool×Bool×Bool×Bool:=if k=1∨k=2∨k=3 then(true,true,true,false)else if k=4∨k=6 then(true,true,false,false)else if k=5 then(true,false,false,true)else if k=7 then(false,false,false,true)else(false,false,false,false)
theorem af2 (k:Int):k=1∨k=2∨k=3∨k=4∨k=5∨k=6∨k=7∨(¬k=1∧¬k=2∧¬k=3∧¬k=4∧¬k=5∧¬k=6∧¬k=7):=by omega
theorem bu3 (k:Int):qW k=some (cx k):=by
 rcases af2 k with rfl|rfl|rfl|rfl|rfl|rfl|rfl|⟨h1,h2,h3,h4,h5,h6,h7⟩
 any_goals rfl
 simp[qW,cx,h1,h2,h3,h4,h5,h6,h7]
theorem yO (k:Int):ir k=some (cx k):=by
 rcases af2 k with rfl|rfl|rfl|rfl|rfl|rfl|rfl|⟨h1,h2,h3,h4,h5,h6,h7⟩
 any_goals rfl
 by_cases h:1≤k
 ·simp[ir,cx,h1,h2,h3,h4,h5,h6,h7,h,show¬k≤3 by omega,cj]
 ·simp[ir,cx,h1,h2,h3,h4,h5,h6,h7,h,cj]
def al2 (n:Int)(q:Bool):Bool:=if q then decide (0≤n∧n≤2147483647)else decide (n=0)
theorem aW8 (n:Int)(q:Bool):kv n q=some (al2 n q):=by
 unfold kv al2;cases q
 ·rfl
 ·by_cases h:0≤n<;>simp[h]
def tn (o:cu):Bool:=decide (0≤o.1∧o.1<8)&&(al2 o.2.1 (cx o.1).1&&(al2 o.2.2.1 (cx o.1).2.1&&(al2 o.2.2.2.1 (cx o.1).2.2.1&&((cx o.1).2.2.2||decide (o.2.2.2.2=0)))))
theorem bH6 (o:cu):rT o.1 o.2.1 o.2.2.1 o.2.2.2.1 o.2.2.2.2=some (tn o):=by
 unfold rT wB tn
 have hk:(cond (decide (0≤o.1)) (some (decide (o.1<8))) (some false))=some (decide (0≤o.1∧o.1<8)):=by
  by_cases h:0≤o.1<;>simp[h]
 rw[bu3,hk];simp only[zG,aW8];generalize decide (0≤o.1∧o.1<8)=b1;generalize al2 o.2.1 (cx o.1).1=b2;generalize al2 o.2.2.1 (cx o.1).2.1=b3;generalize al2 o.2.2.2.1 (cx o.1).2.2.1=b4;generalize (cx o.1).2.2.2=b5;cases b1<;>cases b2<;>cases b3<;>cases b4<;>cases b5<;>rfl
theorem bT0 (o:cu):tx o.1 o.2.1 o.2.2.1 o.2.2.2.1 o.2.2.2.2=some (tn o):=by
 unfold tx;simp only[br];by_cases h1:o.1<0
 ·rw[zE h1];unfold tn;rw[zA (show¬(0≤o.1∧o.1<8)by omega)];rfl
 rw[zF h1];by_cases h2:7<o.1
 ·rw[zE h2];unfold tn;rw[zA (show¬(0≤o.1∧o.1<8)by omega)];rfl
 rw[zF h2,yO];simp only[zG]
 have key:=te (f:=pn o.2.1 o.2.2.1 o.2.2.2.1 (cx o.1)) (l:=[(o.2.1,(cx o.1).1),(o.2.2.1,(cx o.1).2.1),(o.2.2.2.1,(cx o.1).2.2.1)]) (fun p=> !al2 p.1 p.2) (fun _=> .inl false) (.inr ()) (by simp)
  (fun i hi=>by
   unfold pn;have hi:i<3:=hi;rw[br,zE (by omega),cd (show i<3 from hi),cd (show i<4 by omega)];simp only[zG,br]
   have e1:gX [o.2.1,o.2.2.1,o.2.2.2.1] i 0=([(o.2.1,(cx o.1).1),(o.2.2.1,(cx o.1).2.1),(o.2.2.2.1,(cx o.1).2.2.1)][i]).1:=by
    rcases(show i=0∨i=1∨i=2 by omega)with rfl|rfl|rfl<;>rfl
   have e2:gX [(cx o.1).1,(cx o.1).2.1,(cx o.1).2.2.1,(cx o.1).2.2.2] i false=([(o.2.1,(cx o.1).1),(o.2.2.1,(cx o.1).2.1),(o.2.2.2.1,(cx o.1).2.2.1)][i]).2:=by
    rcases(show i=0∨i=1∨i=2 by omega)with rfl|rfl|rfl<;>rfl
   rw[e1,e2,bk (n:=(i:Int)+1) (by omega),show(i:Int)+1=((i+1:Nat):Int)by omega];generalize [(o.2.1,(cx o.1).1),(o.2.2.1,(cx o.1).2.1),(o.2.2.2.1,(cx o.1).2.2.1)][i]=x;obtain⟨n,q⟩:=x;simp only[al2];by_cases c1:n<0
   ·rw[zE c1,zE];cases q
    ·simp;omega
    ·simp;omega
   rw[zF c1];by_cases c2:2147483647<n
   ·rw[zE c2,zE];cases q
    ·simp;omega
    ·simp;omega
   rw[zF c2];cases q with
   |true=>
    rw[zB (show 0≤n∧n≤2147483647 by omega)];rfl
   |false=>
    by_cases c3:n=0
    ·subst c3;rfl
    ·simp[c3])
  (by
   unfold pn
   rw[br,zF (by simp)])
 unfold tn;rw[zB (show 0≤o.1∧o.1<8 by omega)]
 have hany:([(o.2.1,(cx o.1).1),(o.2.2.1,(cx o.1).2.1),(o.2.2.2.1,(cx o.1).2.2.1)].any fun p=> !al2 p.1 p.2)= !(al2 o.2.1 (cx o.1).1&&(al2 o.2.2.1 (cx o.1).2.1&&al2 o.2.2.2.1 (cx o.1).2.2.1)):=by
  simp[List.any,Bool.not_and]
 rw[hany]at key;generalize al2 o.2.1 (cx o.1).1=b2 at*;generalize al2 o.2.2.1 (cx o.1).2.1=b3 at*;generalize al2 o.2.2.2.1 (cx o.1).2.2.1=b4 at*;rcases key with⟨h,_,hk⟩|⟨h,hk⟩
 ·rw[hk];cases b2<;>cases b3<;>cases b4<;>first|rfl|cases h
 ·rw[hk]
  have:b2=true∧b3=true∧b4=true:=by
   cases b2<;>cases b3<;>cases b4<;>first|exact⟨rfl,rfl,rfl⟩|cases h
  obtain⟨rfl,rfl,rfl⟩:=this;simp only[zG,cj];cases(cx o.1).2.2.2<;>rfl
theorem ae4 (b:Bool)(e:Int):ji b e=some (if b then e else 0):=by cases b<;>rfl
def aS4 (l:List cu):Bool:=decide (cl l 0=some 0)&& !(l.any fun o=> !tn o)
theorem aA4 {R:Int}{l:List cu}(hl:l.length≤100):jq R l=some (if aS4 l then 0 else 6):=by
 unfold jq;obtain⟨m,hm⟩:=aB6 (l:=l) (by omega);rw[hm];simp only[zG,ae4];rw[zA (by omega),zD,br];unfold aS4;by_cases hs:cl l 0=some 0
 ·rw[zE hs,zF (by simp),zB hs];unfold jg jN
  rcases te (f:=ge l) (l:=l) (fun o=> !tn o) (fun i=> .inl (i:Int)) (.inr ()) (by omega) (fun i hi=>by
   unfold ge;rw[br,zE (by omega),ci hi];simp only[zG];unfold nu;rw[bH6,bk (n:=(i:Int)+1) (by omega)];simp only[zG]
   cases tn l[i]<;>rfl) (by
   unfold ge
   rw[br,zF (by omega)])with⟨h,i,hk⟩|⟨h,hk⟩
  ·rw[hk,h];simp only[zG,cj];rw[zB (by omega)];rfl
  ·rw[hk,h];rfl
 ·rw[zF hs,zE (by simp),zA hs];rfl
theorem cc5 {R:Int}{l:List cu}(hl:l.length≤100):vw R l=some (aS4 l):=by
 unfold vw aS4;rw[zA (by omega),zD,aC1 (by omega)];simp only[zG];cases decide (cl l 0=some 0)with
 |false=>rfl
 |true=>
  rcases te (f:=qy l) (l:=l) (fun o=> !tn o) (fun i=> .inl false) (.inr ()) (by omega) (fun i hi=>by
   unfold qy;rw[br,zE (by omega),ci hi];simp only[zG];rw[bT0,bk (n:=(i:Int)+1) (by omega)];simp only[zG]
   cases tn l[i]<;>rfl) (by
   unfold qy
   rw[br,zF (by omega)])with⟨h,i,hk⟩|⟨h,hk⟩
  ·rw[hk,h];rfl
  ·rw[hk,h];rfl
def bH2 (R:Int)(o:cu):Bool:=((cx o.1).1&&decide (R≤o.2.1))||((cx o.1).2.1&&decide (R≤o.2.2.1))||((cx o.1).2.2.1&&decide (R≤o.2.2.2.1))
def aI9 (R:Int)(l:List cu):Bool:=decide (1≤R∧R≤64)&& !(l.any (bH2 R))
theorem bi8 (x y:Int):cg [x,y]=some [y,x]:=by kernel_rfl
theorem bT8 (x:Int):cg [x]=some [x]:=by kernel_rfl
theorem bi7 :cg []=some []:=by kernel_rfl
theorem bH5 (o:cu):rS o.1 o.2.1 o.2.2.1 o.2.2.2.1 o.2.2.2.2=some (if(cx o.1).2.1 then(if(cx o.1).2.2.1 then [o.2.2.1,o.2.2.2.1]else [o.2.2.1])else []):=by
 obtain⟨k,d,a,b,v⟩:=o;simp only;rcases af2 k with rfl|rfl|rfl|rfl|rfl|rfl|rfl|⟨h1,h2,h3,h4,h5,h6,h7⟩
 ·exact(show _=(cg [b,a]).bind _ from rfl).trans (by rw[bi8];rfl)
 ·exact(show _=(cg [b,a]).bind _ from rfl).trans (by rw[bi8];rfl)
 ·exact(show _=(cg [b,a]).bind _ from rfl).trans (by rw[bi8];rfl)
 ·exact(show _=(cg [a]).bind _ from rfl).trans (by rw[bT8];rfl)
 ·exact(show _=(cg []).bind _ from rfl).trans (by rw[bi7];rfl)
 ·exact(show _=(cg [a]).bind _ from rfl).trans (by rw[bT8];rfl)
 ·exact(show _=(cg []).bind _ from rfl).trans (by rw[bi7];rfl)
 ·unfold rS;simp only[zA h1,zA h2,zA h3,zA h4,zA h6,zD,zG,cj,bi7];simp[cx,h1,h2,h3,h4,h5,h6,h7]
theorem bF2 (l:List Int)(R:Int)(p:List cu)(hl:l.length<1000):gg l R p=some (l.any fun n=>decide (R≤n)):=by
 unfold gg lj
 rcases te (f:=i4 l R p) (l:=l) (fun n=>decide (R≤n)) (fun i=> .inl (i:Int)) (.inr ()) (by omega) (fun i hi=>by
  unfold i4;rw[br,zE (by omega),ci hi];simp only[zG];unfold kf;rw[bk (n:=(i:Int)+1) (by omega)];simp only[zG]
  cases decide (R≤l[i])<;>rfl) (by
  unfold i4
  rw[br,zF (by omega)])with⟨h,i,hk⟩|⟨h,hk⟩
 ·rw[hk,h];simp only[zG,cj];rw[zB (by omega)]
 ·rw[hk,h];rfl
theorem bT6 (o:cu)(R:Int)(p:List cu):jv o.1 o.2.1 o.2.2.1 o.2.2.2.1 o.2.2.2.2 R p=some (bH2 R o):=by
 unfold jv kA;rw[bH5,bu3];unfold bH2;simp only[zG];obtain⟨k,d,a,b,v⟩:=o;simp only
 have h1:(cx k).2.2.1=true→(cx k).2.1=true:=by
  unfold cx;split
  ·intro _;rfl
  split
  ·intro _;rfl
  split
  ·intro h;cases h
  split<;>intro h<;>cases h
 have h2:(cx k).2.1=true→(cx k).1=true:=by
  unfold cx;split
  ·intro _;rfl
  split
  ·intro _;rfl
  split
  ·intro h;cases h
  split<;>intro h<;>cases h
 generalize (cx k).1=b1 at*;generalize (cx k).2.1=b2 at*;generalize (cx k).2.2.1=b3 at*
 have hs: ∀l:List Int,l.length<1000→∀r,(l.any fun n=>decide (R≤n))=r→((gg l R p).bind fun r10=>some r10)=some r:=by
  intro l hl r hr;rw[bF2 l R p hl,hr];rfl
 cases b1<;>cases b2<;>cases b3<;>first
  |(cases h2 rfl)
  |(cases h1 rfl)
  |skip
 ·refine hs [] (by simp) _ ?_;generalize decide (R≤d)=x;generalize decide (R≤a)=y;generalize decide (R≤b)=z;cases x<;>cases y<;>cases z<;>rfl
 ·refine hs [d] (by simp) _ ?_;simp only[iT,iU];generalize decide (R≤d)=x;generalize decide (R≤a)=y;generalize decide (R≤b)=z;cases x<;>cases y<;>cases z<;>rfl
 ·refine hs [a,d] (by simp) _ ?_;simp only[iT,iU];generalize decide (R≤d)=x;generalize decide (R≤a)=y;generalize decide (R≤b)=z;cases x<;>cases y<;>cases z<;>rfl
 ·refine hs [a,b,d] (by simp) _ ?_;simp only[iT,iU];generalize decide (R≤d)=x;generalize decide (R≤a)=y;generalize decide (R≤b)=z;cases x<;>cases y<;>cases z<;>rfl
theorem uP {R:Int}{l:List cu}(hl:l.length≤100):gi R l=some (if aI9 R l then 0 else 7):=by
 unfold gi aI9;simp only[ae4,zG,br];by_cases c1:R<1
 ·rw[zE c1,zA (show¬(1≤R∧R≤64)by omega)];rfl
 rw[zF c1];by_cases c2:64<R
 ·rw[zE c2,zA (show¬(1≤R∧R≤64)by omega)];rfl
 rw[zF c2,zB (show 1≤R∧R≤64 by omega)];unfold iv jl
 rcases te (f:=fi l R l) (l:=l) (bH2 R) (fun i=> .inl (i:Int)) (.inr ()) (by omega) (fun i hi=>by
  unfold fi;rw[br,zE (by omega),ci hi];simp only[zG];rw[bT6,bk (n:=(i:Int)+1) (by omega)];simp only[zG]
  cases bH2 R l[i]<;>rfl) (by
  unfold fi
  rw[br,zF (by omega)])with⟨h,i,hk⟩|⟨h,hk⟩
 ·rw[hk,h];simp only[zG,cj];rw[zB (by omega)];rfl
 ·rw[hk,h];rfl
theorem aX0 {R:Int}{l:List cu}(hl:l.length≤100):oF R l=some (aI9 R l):=by
 unfold oF aI9;simp only[br];by_cases c1:R<1
 ·rw[zE c1,zA (show¬(1≤R∧R≤64)by omega)];rfl
 rw[zF c1];by_cases c2:64<R
 ·rw[zE c2,zA (show¬(1≤R∧R≤64)by omega)];rfl
 rw[zF c2,zB (show 1≤R∧R≤64 by omega)]
 rcases te (f:=lX R l) (l:=l) (bH2 R) (fun i=> .inl false) (.inr ()) (by omega) (fun i hi=>by
  unfold lX;rw[br,zE (by omega),ci hi];simp only[zG];rw[yO,bk (n:=(i:Int)+1) (by omega)];simp only[zG];unfold bH2;generalize l[i]=o;generalize decide (R≤o.2.1)=x;generalize decide (R≤o.2.2.1)=y;generalize decide (R≤o.2.2.2.1)=z;generalize (cx o.1).1=b1;generalize (cx o.1).2.1=b2;generalize (cx o.1).2.2.1=b3
  cases b1<;>cases b2<;>cases b3<;>cases x<;>cases y<;>cases z<;>rfl) (by
  unfold lX
  rw[br,zF (by omega)])with⟨h,i,hk⟩|⟨h,hk⟩
 ·rw[hk,h];rfl
 ·rw[hk,h];rfl
def hmax :List cu→Nat→Nat→Nat
 |[],_,m=>m
 |o::r,d,m=>if o.1=7 then hmax r (d+1) (max m (d+1))else if o.1=0 then hmax r (d-1) m else hmax r d m
def cU1 (l:List cu)(s:Int×Bool×Int×List Int):Prop:=
 ∃(i m:Nat) (st:List Int),i≤l.length∧s=((i:Int),true,(m:Int),st)∧st.length≤i∧m≤i∧cl (l.drop i) st.length=cl l 0∧hmax (l.drop i) st.length m=hmax l 0 0
theorem cn2 {l:List cu}(hl:l.length≤100000)(s:Int×Bool×Int×List Int)(h:cU1 l s):
  (∃b,mR l s=some (.inl b)∧cU1 l b∧l.length-b.1.toNat<l.length-s.1.toNat)∨∃c,mR l s=some (.inr c)∧((c.1=false∧cl l 0=none)∨(c.1=true∧cl l 0=some c.2.2.length∧c.2.1=(hmax l 0 0:Int))):=by
 obtain⟨i,m,st,hi,rfl,hsl,hml,hsc,hhm⟩:=h;by_cases c:i<l.length
 ·have hdrop:l.drop i=l[i]::l.drop (i+1):=(gS c).symm;rw[hdrop]at hsc hhm;simp only[mR];rw[zB (show(i:Int)<(l.length:Int)by omega),zC,ci c];simp only[zG];generalize hx:l[i]=x at*;simp only[cl]at hsc;simp only[hmax]at hhm;by_cases k0:x.1<0
  ·rw[zE (.inl k0)]at hsc;rw[zB k0];simp only[zC,zG,di];exact .inr ⟨_,rfl, .inl ⟨rfl,hsc.symm⟩⟩
  rw[zA k0,zD];by_cases k7:7<x.1
  ·rw[zE (.inr k7)]at hsc;rw[zB k7];simp only[zC,zG,cn,di];exact .inr ⟨_,rfl, .inl ⟨rfl,hsc.symm⟩⟩
  rw[zA k7,zD];rw[zF (by omega)]at hsc;by_cases kz:x.1=0
  ·rw[zE kz]at hsc;rw[zF (by omega),zE kz]at hhm;rw[zB kz];simp only[zC,zG,cn];by_cases hs0:st.length=0
   ·rw[zE hs0]at hsc;rw[zB (show(st.length:Int)=0 by omega)];simp only[zC,zG,di];exact .inr ⟨_,rfl, .inl ⟨rfl,hsc.symm⟩⟩
   ·rw[zF hs0]at hsc;rw[zA (show¬(st.length:Int)=0 by omega),zD];rw[bk (n:=(st.length:Int)-1) (by omega),iw (by omega),ei];simp only[zG,cn];rw[zA (show¬x.1=7 by omega)];simp only[zD];rw[bk (n:=(i:Int)+1) (by omega)]
    have hlt:(st.take (((st.length:Int)-1).toNat-0)).length=st.length-1:=by
     rw[iW];omega
    refine .inl ⟨_,rfl,⟨i+1,m,_,c,rfl,by rw[hlt];omega,by omega,by rw[hlt];exact hsc,by rw[hlt];exact hhm⟩,by simp;omega⟩
  ·rw[zF kz]at hsc;have ez:decide (x.1=0)=false:=zA kz;rw[ez];simp only[zD,zG,cn];by_cases k7:x.1=7
   ·rw[zE k7]at hsc hhm;rw[zB k7];simp only[zC];rw[dk (by omega) (by omega),bk (n:=(i:Int)+1) (by omega),bk (n:=(st.length:Int)+1) (by omega)];refine .inl ⟨_,rfl,⟨i+1,max m (st.length+1),st++[(i:Int)],c, ?_,by simp;omega,by omega,by rw[eD];exact hsc,by rw[eD];exact hhm⟩,by simp;omega⟩;rw[show((max m (st.length+1):Nat):Int)=max (m:Int) ((st.length:Int)+1)by omega];rfl
   ·rw[zF k7]at hsc hhm;rw[zF kz]at hhm;rw[zA k7];simp only[zD];rw[bk (n:=(i:Int)+1) (by omega)];exact .inl ⟨_,rfl,⟨i+1,m,st,c,rfl,by omega,by omega,hsc,hhm⟩,by simp;omega⟩
 ·have hi':i=l.length:=by omega
  subst hi';rw[gW]at hsc hhm;simp only[mR];rw[zA (show¬(l.length:Int)<(l.length:Int)by omega),zD];have hhm:m=hmax l 0 0:=hhm;exact .inr ⟨_,rfl, .inr ⟨rfl,hsc.symm,by rw[←hhm]⟩⟩
def bd9 (l:List cu):Int×Int:=if cl l 0=some 0 then((hmax l 0 0:Int),0)else(0,6)
theorem cp5 {l:List cu}(hl:l.length≤100000):xR l=some (bd9 l):=by
 unfold xR bd9
 obtain⟨c,hc,h⟩:=qr (f:=mR l) (a:=((0:Int),true,(0:Int),([]:List Int))) (cU1 l) (fun s=>l.length-s.1.toNat) (fun c=>(c.1=false∧cl l 0=none)∨(c.1=true∧cl l 0=some c.2.2.length∧c.2.1=(hmax l 0 0:Int)))
  ⟨0,0,[],gT _,rfl,aB _,aB _,rfl,rfl⟩ (by simp;omega) (fun s hs=>cn2 hl s hs)
 rw[hc];simp only[zG];rcases h with⟨h1,h2⟩|⟨h1,h2,h3⟩
 ·rw[h1,h2];rfl
 ·rw[h1,h2,zC];by_cases c0:c.2.2.length=0
  ·rw[zB (show(c.2.2.length:Int)=0 by omega),zE (by rw[c0]),h3];rfl
  ·rw[zA (show¬(c.2.2.length:Int)=0 by omega),zF (by intro e;injection e with e;exact c0 e)];rfl
def dpt (l:List cu)(i:Nat):Nat:=(cl (l.take i) 0).getD 0
theorem bP1 {l:List cu}(hs:cl l 0=some 0){i:Nat}(hi:i≤l.length):cl (l.take i) 0=some (dpt l i):=by
 obtain⟨d,h1,_⟩:=bc4 hs hi;unfold dpt;rw[h1];rfl
theorem be0 {l:List cu}(hs:cl l 0=some 0){i:Nat}(hi:i<l.length):(l[i].1=7∧dpt l (i+1)=dpt l i+1)∨(l[i].1=0∧0<dpt l i∧dpt l (i+1)=dpt l i-1)∨(l[i].1≠7∧l[i].1≠0∧dpt l (i+1)=dpt l i):=by
 have h1:=bP1 hs (i:=i+1) (by omega);rw[iY hi,qt,bP1 hs (by omega)]at h1;have h1:cl [l[i]] (dpt l i)=some (dpt l (i+1)):=h1;simp only[cl]at h1;split at h1
 ·cases h1
 split at h1
 ·rename_i k1 k2;split at h1
  ·cases h1
  ·injection h1 with h1
   exact .inr (.inl ⟨k2,by omega,h1.symm⟩)
 rename_i k1 k2;split at h1
 ·rename_i k3;injection h1 with h1
  exact .inl ⟨k3,h1.symm⟩
 ·rename_i k3;injection h1 with h1
  exact .inr (.inr ⟨k3,k2,h1.symm⟩)
theorem cw1 {l:List cu}(hs:cl l 0=some 0): ∀i,i≤l.length→dpt l i≤i
 |0,_=>aB _
 |i+1,h=>by
  have:=cw1 hs i (by omega);rcases be0 hs (i:=i) (by omega)with⟨_,h2⟩|⟨_,_,h2⟩|⟨_,_,h2⟩<;>omega
theorem bI3 {l:List cu}(hl:l.length≤100000)(hs:cl l 0=some 0){n:Nat}(hn:n≤l.length):rW l (n:Int)=some (dpt l n:Int):=by
 unfold rW;have key:bt (lW l (n:Int)) dy (0,((dpt l 0:Nat):Int))=some ((dpt l n:Nat):Int):=ff (n:=n) (fun i=>((dpt l i:Nat):Int)) (c:=((dpt l n:Nat):Int)) (by omega) (fun i hi=> ?_) ?_
 ·show((bt (lW l (n:Int)) dy (0,((dpt l 0:Nat):Int))).bind _)=_;rw[key];rfl
 ·unfold lW;simp only[br];rw[zE (by omega),ci (show i<l.length by omega)];simp only[zG];have hd:=cw1 hs i (by omega);rw[bk (n:=(i:Int)+1) (by omega)];rcases be0 hs (i:=i) (by omega)with⟨h1,h2⟩|⟨h1,h3,h2⟩|⟨h1,h3,h2⟩
  ·rw[zE h1,zF (by omega),bk (n:=((dpt l i:Nat):Int)+1) (by omega),h2];rfl
  ·rw[zF (by omega),zE h1,bk (n:=((dpt l i:Nat):Int)-1) (by omega),h2,show((dpt l i-1:Nat):Int)=(dpt l i:Int)-1 by omega];rfl
  ·rw[zF h1,zF h3,h2];rfl
 ·unfold lW;simp only[br];rw[zF (by omega)]
def zp (l:List cu):Nat→Nat
 |0=>0
 |i+1=>max (zp l i) (dpt l i)
theorem bt1 {l:List cu}(hs:cl l 0=some 0): ∀k i,i+k=l.length→hmax (l.drop i) (dpt l i) (zp l (i+1))=zp l (l.length+1)
 |0,i,h=>by
  have:i=l.length:=by omega
  subst this;rw[gW];rfl
 |k+1,i,h=>by
  rw[(gS (show i<l.length by omega)).symm];simp only[hmax];have ih:=bt1 hs k (i+1) (by omega);have e:zp l (i+1+1)=max (zp l (i+1)) (dpt l (i+1)):=rfl;have e2:zp l (i+1)=max (zp l i) (dpt l i):=rfl;rcases be0 hs (i:=i) (by omega)with⟨h1,h2⟩|⟨h1,h3,h2⟩|⟨h1,h3,h2⟩
  ·rw[zE h1,←h2,←e];exact ih
  ·rw[zF (by omega),zE h1,←h2,show zp l (i+1)=zp l (i+1+1)by rw[e];omega];exact ih
  ·rw[zF h1,zF h3];rw[h2,show zp l (i+1+1)=zp l (i+1)by rw[e];omega]at ih;exact ih
theorem cc2 {l:List cu}(hl:l.length≤100000):vt l=some (bd9 l):=by
 unfold vt bd9;rw[aC1 hl];simp only[zG];by_cases hs:cl l 0=some 0
 ·rw[zB hs,zE hs];simp only[hY,zD];have key:bt (nX l) dy (0,((zp l 0:Nat):Int))=some ((zp l (l.length+1):Nat):Int):=ff (n:=l.length+1) (fun i=>((zp l i:Nat):Int)) (c:=((zp l (l.length+1):Nat):Int)) (by omega) (fun i hi=> ?_) ?_
  ·show((bt (nX l) dy (0,((zp l 0:Nat):Int))).bind _)=_;rw[key];have h:=bt1 hs l.length 0 (by omega);have e0:dpt l 0=0:=rfl;have e1:zp l (0+1)=0:=rfl;rw[e0,e1,List.drop_zero]at h;rw[h];rfl
  ·unfold nX;simp only[br];rw[zE (by omega),bI3 hl hs (by omega)];simp only[zG];rw[bk (n:=(i:Int)+1) (by omega)];show _=some (Sum.inl (((i+1:Nat):Int),((max (zp l i) (dpt l i):Nat):Int)));rw[show((max (zp l i) (dpt l i):Nat):Int)=max (zp l i:Int) (dpt l i:Int)by omega];rfl
  ·unfold nX;simp only[br];rw[zF (by omega)]
 ·rw[zA hs,zF hs];rfl
structure OpsOk (l:List cu):Prop where
 len:l.length≤100
 v: ∀o∈l,0≤o.2.2.2.2∧o.2.2.2.2≤18446744073709551615
def lk0 (l:List cu):Int:=if aS4 l then 0 else 6
def lk1 (R:Int)(l:List cu):Int:=if aI9 R l then 0 else 7
def lk2 (l:List cu):Int:=if 8<(bd9 l).1 then 8 else 0
def lk3 (l:List cu):Int:=(ej l).2
def xo (R:Int)(l:List cu):Int:=if lk0 l≠0 then lk0 l else if lk1 R l≠0 then lk1 R l else if lk2 l≠0 then lk2 l else lk3 l
def pY (R:Int)(l:List cu)(Q:Int)(k:List cu):Int:=if lk0 l≠0 then lk0 l else if lk0 k≠0 then lk0 k else if lk1 R l≠0 then lk1 R l else if lk1 Q k≠0 then lk1 Q k else if lk2 l≠0 then lk2 l else if lk2 k≠0 then lk2 k else if lk3 l≠0 then lk3 l else lk3 k
theorem ap4 {R:Int}{l:List cu}(h:OpsOk l):ja R l=some (lk2 l):=by
 unfold ja lk2;have:=h.len;rw[cp5 (by omega)];simp only[zG,ae4];by_cases c:8<(bd9 l).1<;>simp[c]
theorem ae5 {R:Int}{l:List cu}(h:OpsOk l):ip R l=some (lk3 l):=by
 unfold ip lk3;have:=h.len;rw[uz (by omega) h.v];rfl
theorem bp5 {R:Int}{l:List cu}(h:OpsOk l):qw R l=some (xo R l):=by
 unfold qw xo;rw[aA4 h.len,uP h.len,ap4 h,ae5 h];simp only[zG,br];show(if lk0 l≠0 then some (lk0 l)else if lk1 R l≠0 then some (lk1 R l)else if lk2 l≠0 then some (lk2 l)else if lk3 l≠0 then some (lk3 l)else some 0)=_;split
 ·rfl
 split
 ·rfl
 split
 ·rfl
 split
 ·rfl
 ·rename_i h;rw[show lk3 l=0 by omega]
theorem bZ4 {R Q:Int}{l k:List cu}(h:OpsOk l)(h':OpsOk k):vp R l Q k=some (pY R l Q k):=by
 unfold vp pY;rw[aA4 h.len,uP h.len,ap4 h,ae5 h,aA4 h'.len,uP h'.len,ap4 h',ae5 h'];simp only[zG,br];show(if lk0 l≠0 then some (lk0 l)else if lk0 k≠0 then some (lk0 k)else if lk1 R l≠0 then some (lk1 R l)else if lk1 Q k≠0 then some (lk1 Q k)else if lk2 l≠0 then some (lk2 l)else if lk2 k≠0 then some (lk2 k)else if lk3 l≠0 then some (lk3 l)else if lk3 k≠0 then some (lk3 k)else some 0)=_;split
 ·rfl
 split
 ·rfl
 split
 ·rfl
 split
 ·rfl
 split
 ·rfl
 split
 ·rfl
 split
 ·rfl
 split
 ·rfl
 ·rename_i h;rw[show lk3 k=0 by omega]
def lkN (R:Int)(l:List cu)(n:Nat):Int:=if n=0 then lk0 l else if n=1 then lk1 R l else if n=2 then lk2 l else lk3 l
theorem aC2 {R:Int}{l:List cu}(h:OpsOk l)(n:Nat):pt R l (n:Int)=some (lkN R l n):=by
 unfold pt lkN;have:=h.len;simp only[br];by_cases c0:n=0
 ·rw[zE (by omega),zE c0,cc5 h.len];unfold lk0;simp only[zG];cases aS4 l<;>rfl
 rw[zF (by omega),zF c0];by_cases c1:n=1
 ·rw[zE (by omega),zE c1,aX0 h.len];unfold lk1;simp only[zG];cases aI9 R l<;>rfl
 rw[zF (by omega),zF c1];by_cases c2:n=2
 ·rw[zE (by omega),zE c2,cc2 (by omega)];unfold lk2;simp only[zG];split<;>rfl
 rw[zF (by omega),zF c2,vY h.len h.v];rfl
theorem bq5 {R:Int}{l:List cu}(h:OpsOk l):qx R l=some (xo R l):=by
 have hstep: ∀n:Nat,n<4→jU R l (n:Int)=some (if lkN R l n≠0 then .inr (.inl (lkN R l n))else .inl ((n+1:Nat):Int)):=by
  intro n hn;unfold jU;simp only[br];rw[zE (by omega),aC2 h];simp only[zG];rw[bk (n:=(n:Int)+1) (by omega)];split<;>rfl
 have hend:jU R l 4=some (.inr (.inr ())):=rfl;unfold qx xo
 have key:bt (jU R l) dy 0=some (if lk0 l≠0 then .inl (lk0 l)else if lk1 R l≠0 then .inl (lk1 R l)else if lk2 l≠0 then .inl (lk2 l)else if lk3 l≠0 then .inl (lk3 l)else .inr ()):=by
  have hB:dy=18446744073709551611+1+1+1+1+1:=rfl;rw[hB,df];have h0:=hstep 0 (by omega);have h1:=hstep 1 (by omega);have h2:=hstep 2 (by omega);have h3:=hstep 3 (by omega);rw[show lkN R l 0=lk0 l from rfl]at h0;rw[show lkN R l 1=lk1 R l from rfl]at h1;rw[show lkN R l 2=lk2 l from rfl]at h2;rw[show lkN R l 3=lk3 l from rfl]at h3;have h0:jU R l 0=_:=h0;rw[h0];simp only[zG];split
  ·rfl
  simp only[cj];rw[df,h1];simp only[zG];split
  ·rfl
  simp only[cj];rw[df,h2];simp only[zG];split
  ·rfl
  simp only[cj];rw[df,h3];simp only[zG];split
  ·rfl
  simp only[cj];rw[df,show(((3+1:Nat):Int))=4 from rfl,hend];rfl
 rw[key];simp only[zG];split
 ·rfl
 split
 ·rfl
 split
 ·rfl
 split
 ·rfl
 ·rename_i h;rw[show lk3 l=0 by omega];rfl
theorem cc4 {R Q:Int}{l k:List cu}(h:OpsOk l)(h':OpsOk k):vu R l Q k=some (pY R l Q k):=by
 have hstep: ∀n:Nat,n<4→lN R l Q k (n:Int)=some (if lkN R l n≠0 then .inr (.inl (lkN R l n))else if lkN Q k n≠0 then .inr (.inl (lkN Q k n))else .inl ((n+1:Nat):Int)):=by
  intro n hn;unfold lN;simp only[br];rw[zE (by omega),aC2 h,aC2 h'];simp only[zG];rw[bk (n:=(n:Int)+1) (by omega)];split
  ·rfl
  split<;>rfl
 have hend:lN R l Q k 4=some (.inr (.inr ())):=rfl;unfold vu pY
 have key:bt (lN R l Q k) dy 0=some (if lk0 l≠0 then .inl (lk0 l)else if lk0 k≠0 then .inl (lk0 k)else if lk1 R l≠0 then .inl (lk1 R l)else if lk1 Q k≠0 then .inl (lk1 Q k)else if lk2 l≠0 then .inl (lk2 l)else if lk2 k≠0 then .inl (lk2 k)else if lk3 l≠0 then .inl (lk3 l)else if lk3 k≠0 then .inl (lk3 k)else .inr ()):=by
  have hB:dy=18446744073709551611+1+1+1+1+1:=rfl;rw[hB,df];have h0:=hstep 0 (by omega);have h1:=hstep 1 (by omega);have h2:=hstep 2 (by omega);have h3:=hstep 3 (by omega);rw[show lkN R l 0=lk0 l from rfl,show lkN Q k 0=lk0 k from rfl]at h0;rw[show lkN R l 1=lk1 R l from rfl,show lkN Q k 1=lk1 Q k from rfl]at h1;rw[show lkN R l 2=lk2 l from rfl,show lkN Q k 2=lk2 k from rfl]at h2;rw[show lkN R l 3=lk3 l from rfl,show lkN Q k 3=lk3 k from rfl]at h3;have h0:lN R l Q k 0=_:=h0;rw[h0];simp only[zG];split
  ·rfl
  split
  ·rfl
  simp only[cj];rw[df,h1];simp only[zG];split
  ·rfl
  split
  ·rfl
  simp only[cj];rw[df,h2];simp only[zG];split
  ·rfl
  split
  ·rfl
  simp only[cj];rw[df,h3];simp only[zG];split
  ·rfl
  split
  ·rfl
  simp only[cj];rw[df,show(((3+1:Nat):Int))=4 from rfl,hend];rfl
 rw[key];simp only[zG];split
 ·rfl
 split
 ·rfl
 split
 ·rfl
 split
 ·rfl
 split
 ·rfl
 split
 ·rfl
 split
 ·rfl
 split
 ·rfl
 ·rename_i h;rw[show lk3 k=0 by omega];rfl
abbrev dl5 :Sh:= .list (.pair (.int .i64) (.pair (.int .i64) (.pair (.int .i64) (.pair (.int .i64) (.int .u64)))))
theorem bH7 {l:List cu}(f:cl0 dl5 l)(h:l.length≤100):OpsOk l:=⟨h,fun o ho=>(f.2 o ho).2.2.2.2⟩
theorem cH3 (a0:Int)(a1:List cu)(a2:Int)(a3:List cu)(a4 a5:Int): ∃d,rE a0 a1 a2 a3 a4 a5=some d∧pq a0 a1 a2 a3 a4 a5=some d:=by
 unfold rE pq;simp only[ae4,zG,br];by_cases c1:a4<1
 ·rw[zE c1,zE c1];exact⟨_,rfl,rfl⟩
 rw[zF c1,zF c1];by_cases c2:64<a4
 ·rw[zE c2,zE c2];exact⟨_,rfl,rfl⟩
 rw[zF c2,zF c2];by_cases c3:a5<0
 ·rw[zE c3,zE c3];exact⟨_,rfl,rfl⟩
 rw[zF c3,zF c3];by_cases c4:64<a5
 ·rw[zE c4];simp only[zG];rw[br,zE c4];exact⟨_,rfl,rfl⟩
 rw[zF c4];simp only[zG];rw[br,zF c4];by_cases c5:a0<IntKind.i64.wrap (zH zI (a4+a5)+1)
 ·rw[zE c5,zE c5];exact⟨_,rfl,rfl⟩
 rw[zF c5,zF c5];by_cases c6:a2<IntKind.i64.wrap (a4+a5)
 ·rw[zE c6,zB c6];exact⟨_,rfl,rfl⟩
 ·rw[zF c6,zA c6];exact⟨_,rfl,rfl⟩
def yf (s l x t:Int):Int:=if x<1 then 10 else if 64<x then 10 else if t<0 then 10 else if 64<t then 10 else if s<IntKind.i64.wrap (zH zI (x+t)+1)then 10 else if l<IntKind.i64.wrap (x+t)then 10 else 0
theorem bh8 (a0:Int)(a1:List cu)(a2:Int)(a3:List cu)(a4 a5:Int):pq a0 a1 a2 a3 a4 a5=some (yf a0 a2 a4 a5):=by
 unfold pq yf;simp only[br];split
 ·rfl
 split
 ·rfl
 split
 ·rfl
 split
 ·rfl
 split
 ·rfl
 split<;>rfl
theorem bZ3 (a0:Int)(a1:List cu)(a2:Int)(a3:List cu)(a4 a5:Int):rE a0 a1 a2 a3 a4 a5=some (yf a0 a2 a4 a5):=by
 obtain⟨d,h1,h2⟩:=cH3 a0 a1 a2 a3 a4 a5;rw[h1,←h2,bh8]
def hk0 (m:Int):Int:=if m<1 then 5 else if 3<m then 5 else 0
def hk3 (m n:Int):Int:=if n<0 then 11 else if(if m=2 then 0 else 65535)<n then 11 else 0
def hk4 (b:Int):Int:=if b<0 then 12 else if 1048576<b then 12 else 0
def vT (m:Int)(x t:Nat)(R:Int)(l:List cu)(Q:Int)(k:List cu)(n b:Int):Int:=if hk0 m≠0 then hk0 m else if pY R l Q k≠0 then pY R l Q k else if yf R Q x t≠0 then yf R Q x t else if hk3 m n≠0 then hk3 m n else hk4 b
theorem aq3 (b:Bool)(e:Int):kT b e=some (if b then e else 0):=by cases b<;>rfl
section
variable {a0:Int} {a1 a2:List Int} {a3:Int} {a4:List cu} {a5:Int} {a6:List cu} {a7 a8:Int}
theorem cX8 :kl a0 a1 a2 a3 a4 a5 a6 a7 a8=some (hk0 a0):=by
 unfold kl hk0;simp only[aq3,zG,br];split
 ·rfl
 ·by_cases c:3<a0<;>simp[c]
theorem ca6 (h4:OpsOk a4)(h6:OpsOk a6):jd a0 a1 a2 a3 a4 a5 a6 a7 a8=some (pY a3 a4 a5 a6):=by
 unfold jd;rw[bZ4 h4 h6];rfl
theorem cX7 :kj a0 a1 a2 a3 a4 a5 a6 a7 a8=some (yf a3 a5 (a1.length:Nat) (a2.length:Nat)):=by
 unfold kj;rw[bZ3];rfl
theorem cw9 :jM a0 a1 a2 a3 a4 a5 a6 a7 a8=some (hk3 a0 a7):=by
 unfold jM hk3;simp only[aq3,zG,br];by_cases c0:a0=2
 ·rw[zE c0,zE c0];simp only[zG];split
  ·rfl
  ·by_cases c:0<a7<;>simp[c]
 ·rw[zF c0,zF c0];simp only[zG];split
  ·rfl
  ·by_cases c:65535<a7<;>simp[c]
theorem cw8 :jL a0 a1 a2 a3 a4 a5 a6 a7 a8=some (hk4 a8):=by
 unfold jL hk4;simp only[aq3,zG,br];split
 ·rfl
 ·by_cases c:1048576<a8<;>simp[c]
theorem aH1 (h4:OpsOk a4)(h6:OpsOk a6):oQ a0 a1 a2 a3 a4 a5 a6 a7 a8=some (vT a0 a1.length a2.length a3 a4 a5 a6 a7 a8):=by
 have h0:jK a0 a1 a2 a3 a4 a5 a6 a7 a8 0=some (if hk0 a0≠0 then .inr (.inl (hk0 a0))else .inl 1):=by
  show((kl a0 a1 a2 a3 a4 a5 a6 a7 a8).bind fun r=>cond (decide (r≠0)) _ _)=_;rw[cX8];simp only[zG,br];split<;>rfl
 have h1:jK a0 a1 a2 a3 a4 a5 a6 a7 a8 1=some (if pY a3 a4 a5 a6≠0 then .inr (.inl (pY a3 a4 a5 a6))else .inl 2):=by
  show((jd a0 a1 a2 a3 a4 a5 a6 a7 a8).bind fun r=>cond (decide (r≠0)) _ _)=_;rw[ca6 h4 h6];simp only[zG,br];split<;>rfl
 have h2:jK a0 a1 a2 a3 a4 a5 a6 a7 a8 2=some (if yf a3 a5 (a1.length:Nat) (a2.length:Nat)≠0 then .inr (.inl (yf a3 a5 (a1.length:Nat) (a2.length:Nat)))else .inl 3):=by
  show((kj a0 a1 a2 a3 a4 a5 a6 a7 a8).bind fun r=>cond (decide (r≠0)) _ _)=_;rw[cX7];simp only[zG,br];split<;>rfl
 have h3:jK a0 a1 a2 a3 a4 a5 a6 a7 a8 3=some (if hk3 a0 a7≠0 then .inr (.inl (hk3 a0 a7))else .inl 4):=by
  show((jM a0 a1 a2 a3 a4 a5 a6 a7 a8).bind fun r=>cond (decide (r≠0)) _ _)=_;rw[cw9];simp only[zG,br];split<;>rfl
 have h5:jK a0 a1 a2 a3 a4 a5 a6 a7 a8 4=some (if hk4 a8≠0 then .inr (.inl (hk4 a8))else .inl 5):=by
  show((jL a0 a1 a2 a3 a4 a5 a6 a7 a8).bind fun r=>cond (decide (r≠0)) _ _)=_;rw[cw8];simp only[zG,br];split<;>rfl
 have hend:jK a0 a1 a2 a3 a4 a5 a6 a7 a8 5=some (.inr (.inr ())):=rfl;unfold oQ vT;have hB:dy=18446744073709551610+1+1+1+1+1+1:=rfl;rw[hB,df,h0];simp only[zG];split
 ·rfl
 simp only[cj];rw[df,h1];simp only[zG];split
 ·rfl
 simp only[cj];rw[df,h2];simp only[zG];split
 ·rfl
 simp only[cj];rw[df,h3];simp only[zG];split
 ·rfl
 simp only[cj];rw[df,h5];simp only[zG];split
 ·rfl
 ·rename_i h;simp only[cj];rw[df,hend];rw[show hk4 a8=0 by omega];rfl
theorem aT2 (h4:OpsOk a4)(h6:OpsOk a6):qg a0 a1 a2 a3 a4 a5 a6 a7 a8=some (vT a0 a1.length a2.length a3 a4 a5 a6 a7 a8):=by
 unfold qg vT;rw[cc4 h4 h6,bh8];simp only[zG,br];unfold hk0;by_cases c1:a0<1
 ·rw[zE c1,zE c1];rfl
 rw[zF c1,zF c1];by_cases c2:3<a0
 ·rw[zE c2,zE c2];rfl
 rw[zF c2,zF c2];rw[zF (show¬(0:Int)≠0 by simp)];by_cases c3:pY a3 a4 a5 a6≠0
 ·rw[zE c3,zE c3]
 rw[zF c3,zF c3];by_cases c4:yf a3 a5 (a1.length:Nat) (a2.length:Nat)≠0
 ·rw[zE c4,zE c4]
 rw[zF c4,zF c4];unfold hk3 hk4;by_cases c5:a7<0
 ·rw[zE c5,zE c5];rfl
 rw[zF c5,zF c5];by_cases c6:a0=2
 ·rw[zE c6,zE c6];by_cases c7:0<a7
  ·rw[zE c7,zE (show(11:Int)≠0 by simp)];by_cases c8:65535<a7
   ·rw[zE c8]
   ·rw[zF c8,zE (by omega)]
  ·rw[zF c7,zF (show¬(0:Int)≠0 by simp),zF (show¬65535<a7 by omega),zF (show¬a7≠0 by omega)];split
   ·rfl
   ·split<;>rfl
 ·rw[zF c6,zF c6];by_cases c8:65535<a7
  ·rw[zE c8,zE c8];rfl
  ·rw[zF c8,zF c8,zF (show¬(0:Int)≠0 by simp)];split
   ·rfl
   ·split<;>rfl
structure HFacts (a0:Int)(x t:Nat)(a3:Int)(a4:List cu)(a5:Int)(a6:List cu)(a7 a8:Int):Prop where
 mode:1≤a0∧a0≤3
 regs:1≤a3∧a3≤64
 regs':1≤a5∧a5≤64
 xs:1≤x∧x≤64
 ts:t≤64
 w:0≤(ej a4).1∧(ej a4).1≤65536
 w':0≤(ej a6).1∧(ej a6).1≤65536
 len:0≤a7∧a7≤65535
 bud:0≤a8∧a8≤1048576
theorem bQ8 {R:Int}{l:List cu}(h:lk1 R l=0):1≤R∧R≤64:=by
 unfold lk1 at h;split at h
 ·rename_i hb;unfold aI9 at hb;rw[Bool.and_eq_true]at hb;exact of_decide_eq_true hb.1
 ·cases h
theorem bl0 {l:List cu}(h:OpsOk l):0≤(ej l).1∧(ej l).1≤65536:=by
 unfold ej;split
 ·rename_i hs;split
  ·rename_i w hq;have:=aQ4 (fun o ho=>(h.v o ho).1) hs hq;split
   ·simp
   ·simp;omega
  ·simp
 ·simp
theorem cq4 {R Q:Int}{l k:List cu}(h:pY R l Q k=0):(1≤R∧R≤64)∧(1≤Q∧Q≤64):=by
 unfold pY at h;split at h
 ·rename_i c;exact(c h).elim
 split at h
 ·rename_i c;exact(c h).elim
 split at h
 ·rename_i c;exact(c h).elim
 split at h
 ·rename_i c;exact(c h).elim
 rename_i c1 c2;exact⟨bQ8 (l:=l) (by omega),bQ8 (l:=k) (by omega)⟩
theorem ae9 (h4:OpsOk a4)(h6:OpsOk a6){x t:Nat}(h:vT a0 x t a3 a4 a5 a6 a7 a8=0):HFacts a0 x t a3 a4 a5 a6 a7 a8:=by
 unfold vT at h;split at h
 ·rename_i c;exact(c h).elim
 split at h
 ·rename_i c;exact(c h).elim
 split at h
 ·rename_i c;exact(c h).elim
 split at h
 ·rename_i c;exact(c h).elim
 rename_i c0 c1 c2 c3;obtain⟨r1,r2⟩:=cq4 (show pY a3 a4 a5 a6=0 by omega);have c0:hk0 a0=0:=by omega
 have c2:yf a3 a5 x t=0:=by omega
 have c3:hk3 a0 a7=0:=by omega
 unfold hk0 at c0;unfold hk3 at c3;unfold hk4 at h;unfold yf at c2;refine⟨?_,r1,r2, ?_, ?_,bl0 h4,bl0 h6, ?_, ?_⟩
 ·split at c0
  ·omega
  split at c0<;>omega
 ·split at c2
  ·omega
  split at c2<;>omega
 ·split at c2
  ·omega
  split at c2
  ·omega
  split at c2
  ·omega
  split at c2<;>omega
 ·split at c3
  ·omega
  by_cases k3:a0=2
  ·rw[zE k3]at c3;split at c3<;>omega
  ·rw[zF k3]at c3;split at c3<;>omega
 ·split at h
  ·omega
  split at h<;>omega
def od (a0:Int)(a4 a6:List cu):Int:=if a0=3 then(ej a6).1 else(ej a4).1+(ej a6).1
def oK (a0:Int)(x:Nat)(a3:Int)(a4:List cu):Int:=if a0=3 then(ej a4).1+a3 else x+1
def oL (x t:Nat)(a3 a5:Int):Int:=2*t+2*x+a3+a5+max a3 a5
theorem cj2 (h4:OpsOk a4)(h6:OpsOk a6):kX a0 a1 a2 a3 a4 a5 a6 a7 a8=some (if vT a0 a1.length a2.length a3 a4 a5 a6 a7 a8≠0 then(0,0)else((ej a4).1,(ej a6).1)):=by
 unfold kX;have:=h4.len;have:=h6.len;rw[aH1 h4 h6,uz (by omega) h4.v,uz (by omega) h6.v];simp only[zG,br];split<;>rfl
theorem aI7 (h4:OpsOk a4)(h6:OpsOk a6):nF a0 a1 a2 a3 a4 a5 a6 a7 a8=some (if vT a0 a1.length a2.length a3 a4 a5 a6 a7 a8≠0 then(0,0)else((ej a4).1,(ej a6).1)):=by
 unfold nF;have:=h4.len;have:=h6.len;rw[aT2 h4 h6,vY h4.len h4.v,vY h6.len h6.v];simp only[zG,br];split<;>rfl
theorem aB8 (h4:OpsOk a4)(h6:OpsOk a6)(h:vT a0 a1.length a2.length a3 a4 a5 a6 a7 a8=0):rV a0 a1 a2 a3 a4 a5 a6 a7 a8=some (((a2.length:Nat):Int),((a1.length:Nat):Int),a3,a5,max a3 a5,((a1.length:Nat):Int),((a2.length:Nat):Int),od a0 a4 a6,oK a0 a1.length a3 a4):=by
 have f:=ae9 h4 h6 h;have g1:=f.mode;have g2:=f.regs;have g3:=f.xs;have g4:=f.w;have g5:=f.w';unfold rV od oK;rw[cj2 h4 h6,zF (fun c=>c h)];simp only[zG,br];rw[bk (n:=(ej a4).1+a3) (by omega),bk (n:=(ej a4).1+(ej a6).1) (by omega),bk (n:=(a1.length:Int)+1) (by omega)];split
 ·rfl
 ·rfl
def pre (L:List Int):Nat→Int
 |0=>0
 |i+1=>pre L i+L.getD i 0
theorem bH8 {L:List Int}(hb: ∀j,0≤L.getD j 0∧L.getD j 0≤1000000000000): ∀i,0≤pre L i∧pre L i≤1000000000000*i
 |0=>⟨iC _,iC _⟩
 |i+1=>by
  have:=bH8 hb i;have:=hb i;simp only[pre];omega
theorem bh2 {b0 b1 b2 b3 b4 b5 b6 b7 b8 n:Int}(hb: ∀j,0≤([b0,b1,b2,b3,b4,b5,b6,b7,b8*n]:List Int).getD j 0∧([b0,b1,b2,b3,b4,b5,b6,b7,b8*n]:List Int).getD j 0≤1000000000000):wC b0 b1 b2 b3 b4 b5 b6 b7 b8 n=some ((fD 10).map (pre [b0,b1,b2,b3,b4,b5,b6,b7,b8*n])):=by
 generalize hL:([b0,b1,b2,b3,b4,b5,b6,b7,b8*n]:List Int)=L at*;have hp:=bH8 hb
 have key:bt (qd b0 b1 b2 b3 b4 b5 b6 b7 b8) dy (0,(pre L 0,(fD 0).map (pre L)))=some (pre L 8,(fD 8).map (pre L)):=by
  refine ff (n:=8) (fun i=>(pre L i,(fD i).map (pre L))) (by omega) (fun i hi=> ?_) ?_
  ·unfold qd;rw[br,zE (by omega),cd (show i<9 by omega)];simp only[zG]
   have e:gX [b0,b1,b2,b3,b4,b5,b6,b7,b8] i 0=L.getD i 0:=by
    subst hL;rcases(show i=0∨i=1∨i=2∨i=3∨i=4∨i=5∨i=6∨i=7 by omega)with rfl|rfl|rfl|rfl|rfl|rfl|rfl|rfl<;>rfl
   have h1:=hp i;have h2:=hb i;rw[e];rw[dk (by simp;omega) (by omega),bk (n:=pre L i+L.getD i 0) (by omega),bk (n:=(i:Int)+1) (by omega),iJ,hC];rfl
  ·unfold qd;rw[br,zF (by omega)]
 unfold wC;have key:bt (qd b0 b1 b2 b3 b4 b5 b6 b7 b8) dy ((0,0,[]))=_:=key;rw[key];have h1:=hp 8;have h2:=hb 8;have e:L.getD 8 0=b8*n:=by subst hL;rfl
 rw[e]at h2;simp only[zG];rw[dk (by simp) (by omega),dk (by simp) (by omega),bk (n:=b8*n) (by omega),bk (n:=pre L 8+b8*n) (by omega)];show _=some ((fD (8+1+1)).map (pre L));rw[iJ (n:=8+1),iJ (n:=8),hC,hC];show _=some (((fD 8).map (pre L)++[pre L 8])++[pre L 8+L.getD 8 0]);rw[e]
theorem cq7 {b0 b1 b2 b3 b4 b5 b6 b7 b8 n:Int}(hb: ∀j,0≤([b0,b1,b2,b3,b4,b5,b6,b7,b8*n]:List Int).getD j 0∧([b0,b1,b2,b3,b4,b5,b6,b7,b8*n]:List Int).getD j 0≤1000000000000):tQ b0 b1 b2 b3 b4 b5 b6 b7 b8 n=some (b0+b1+b2+b3+b4+b5+b6+b7+b8*n):=by
 unfold tQ;rw[bh2 hb];show some (0+b0+b1+b2+b3+b4+b5+b6+b7+b8*n)=_;rw[fB]
theorem dk6 {b0 b1 b2 b3 b4 b5 b6 b7 b8:Int}{p:Int→Prop}(h:p b0)(h1:p b1)(h2:p b2)(h3:p b3)(h4:p b4)(h5:p b5)(h6:p b6)(h7:p b7)(h8:p b8)(hz:p 0): ∀j,p (([b0,b1,b2,b3,b4,b5,b6,b7,b8]:List Int).getD j 0)
 |0=>h
 |1=>h1
 |2=>h2
 |3=>h3
 |4=>h4
 |5=>h5
 |6=>h6
 |7=>h7
 |8=>h8
 |j+9=>by
  show p ((([]:List Int)).getD j 0);rw[List.getD_nil];exact hz
theorem bg6 {s n:Int}(hs:0≤s∧s≤100000)(hn:0≤n∧n≤1048576):0≤s*n∧s*n≤1000000000000:=by
 have h1:=gV hs.1 hn.1;have h2:=Int.mul_le_mul hs.2 hn.2 hn.1 (by omega);omega
structure SFacts (x t:Nat)(a3 a5 tp sl:Int):Prop where
 xs:1≤x∧x≤64
 ts:t≤64
 r:1≤a3∧a3≤64
 r':1≤a5∧a5≤64
 tp:0≤tp∧tp≤131072
 sl:1≤sl∧sl≤100000
theorem aO7 (h4:OpsOk a4)(h6:OpsOk a6){x t:Nat}(h:vT a0 x t a3 a4 a5 a6 a7 a8=0):SFacts x t a3 a5 (od a0 a4 a6) (oK a0 x a3 a4):=by
 have f:=ae9 h4 h6 h;have g1:=f.mode;have g2:=f.regs;have g3:=f.xs;have g4:=f.w;have g5:=f.w';refine⟨f.xs,f.ts,f.regs,f.regs', ?_, ?_⟩
 ·unfold od;split<;>omega
 ·unfold oK;split<;>omega
theorem bI8 {x t:Nat}{tp sl n:Int}(s:SFacts x t a3 a5 tp sl)(hn:0≤n∧n≤1048576): ∀j,0≤([(t:Int),x,a3,a5,max a3 a5,x,t,tp,sl*n]:List Int).getD j 0∧([(t:Int),x,a3,a5,max a3 a5,x,t,tp,sl*n]:List Int).getD j 0≤1000000000000:=by
 have g1:=s.xs;have g2:=s.ts;have g3:=s.r;have g4:=s.r';have g5:=s.tp;have g6:=s.sl;exact dk6 (p:=fun y=>0≤y∧y≤1000000000000) (by omega) (by omega) (by omega) (by omega) (by omega) (by omega) (by omega) (by omega) (bg6 (by omega) hn) (by omega)
theorem cZ9 {x t:Nat}{tp sl n:Int}(s:SFacts x t a3 a5 tp sl)(hn:0≤n∧n≤1048576):tQ t x a3 a5 (max a3 a5) x t tp sl n=some (oL x t a3 a5+tp+n*sl):=by
 rw[cq7 (bI8 s hn)];unfold oL;rw[gU sl n]
 congr 1
 omega
theorem bT4 {tp sl:Int}(h:SFacts a1.length a2.length a3 a5 tp sl):tC a0 a1 a2 a3 a4 a5 a6 a7 a8=some (oL a1.length a2.length a3 a5):=by
 have g1:=h.xs;have g2:=h.ts;have g3:=h.r;have g4:=h.r';unfold tC oL;rw[bk (n:=2*(a2.length:Int)) (by omega),bk (n:=2*(a1.length:Int)) (by omega),bk (n:=2*(a2.length:Int)+2*(a1.length:Int)) (by omega),bk (n:=2*(a2.length:Int)+2*(a1.length:Int)+a3) (by omega),bk (n:=2*(a2.length:Int)+2*(a1.length:Int)+a3+a5) (by omega),bk (by omega)]
theorem cd3 (h4:OpsOk a4)(h6:OpsOk a6)(h:vT a0 a1.length a2.length a3 a4 a5 a6 a7 a8=0):vF a0 a1 a2 a3 a4 a5 a6 a7 a8=some (od a0 a4 a6):=by
 have f:=ae9 h4 h6 h;have g4:=f.w;have g5:=f.w';unfold vF od;rw[aI7 h4 h6,zF (fun c=>c h)];simp only[zG,br];rw[bk (by omega)];split<;>rfl
theorem cd2 (h4:OpsOk a4)(h6:OpsOk a6)(h:vT a0 a1.length a2.length a3 a4 a5 a6 a7 a8=0):vE a0 a1 a2 a3 a4 a5 a6 a7 a8=some (oK a0 a1.length a3 a4):=by
 have f:=ae9 h4 h6 h;have g2:=f.regs;have g3:=f.xs;have g4:=f.w;have g5:=f.w';unfold vE oK;rw[aI7 h4 h6,zF (fun c=>c h)];simp only[zG,br];rw[bk (n:=(ej a4).1+a3) (by omega),bk (by omega)];split<;>rfl
def least (a0 a7:Int):Int:=if a0=3 then a7 else 1
def jT (a0:Int)(x t:Nat)(a3:Int)(a4:List cu)(a5:Int)(a6:List cu)(a7 a8:Int):Int×Int×Int×Int×Int:=
 if vT a0 x t a3 a4 a5 a6 a7 a8≠0 then(0,0,0,0,vT a0 x t a3 a4 a5 a6 a7 a8)
 else if a8<oL x t a3 a5+od a0 a4 a6+least a0 a7*oK a0 x a3 a4 then(0,0,0,0,13)
 else(oL x t a3 a5,od a0 a4 a6,oK a0 x a3 a4,if a0=3 then a7 else(a8-oL x t a3 a5-od a0 a4 a6) / oK a0 x a3 a4,0)
theorem cA9 {x t:Nat}{tp sl n:Int}(s:SFacts x t a3 a5 tp sl):bt (rU (t:Int) (x:Int) a3 a5 (max a3 a5) (x:Int) (t:Int) tp sl) dy (0,0,tp,sl,n)=some (oL x t a3 a5,tp,sl,n):=by
 have hb:=bI8 (n:=1) s (by omega);have hp:=bH8 hb
 have e7:pre [(t:Int),x,a3,a5,max a3 a5,x,t,tp,sl*1] 7=oL x t a3 a5:=by
  show 0+(t:Int)+x+a3+a5+max a3 a5+x+t=_;unfold oL;omega
 rw[←e7];generalize hL:([(t:Int),x,a3,a5,max a3 a5,x,t,tp,sl*1]:List Int)=L at*;refine ff (n:=7) (fun i=>(pre L i,tp,sl,n)) (c:=(pre L 7,tp,sl,n)) (by omega) (fun i hi=> ?_) ?_
 ·unfold rU;rw[br,zE (by omega),cd (show i<9 by omega)];simp only[zG]
  have e:gX [(t:Int),x,a3,a5,max a3 a5,x,t,tp,sl] i 0=L.getD i 0:=by
   subst hL;rcases(show i=0∨i=1∨i=2∨i=3∨i=4∨i=5∨i=6 by omega)with rfl|rfl|rfl|rfl|rfl|rfl|rfl<;>rfl
  have h1:=hp i;have h2:=hb i;rw[e,bk (n:=pre L i+L.getD i 0) (by omega),bk (n:=(i:Int)+1) (by omega)];rfl
 ·unfold rU;rw[br,zF (by omega)]
theorem aN9 (h4:OpsOk a4)(h6:OpsOk a6):qX a0 a1 a2 a3 a4 a5 a6 a7 a8=some (jT a0 a1.length a2.length a3 a4 a5 a6 a7 a8):=by
 unfold qX jT;rw[aH1 h4 h6];simp only[zG];by_cases h:vT a0 a1.length a2.length a3 a4 a5 a6 a7 a8=0
 ·rw[zA (fun c=>c h),zD,zF (fun c=>c h),aB8 h4 h6 h];have s:=aO7 h4 h6 h;have f:=ae9 h4 h6 h;have g1:=f.mode;have g2:=f.len;have g3:=f.bud;have g4:=s.xs;have g5:=s.ts;have g6:=s.r;have g7:=s.r';have g8:=s.tp;have g9:=s.sl
  have hl:(cond (decide (a0=3)) (some a7) (some (1:Int)))=some (least a0 a7):=by
   unfold least;rw[br];split<;>rfl
  have hln:0≤least a0 a7∧least a0 a7≤65535:=by unfold least;split<;>omega
  simp only[zG];rw[hl];simp only[zG];rw[cZ9 s (by omega)];simp only[zG];rw[cA9 s];simp only[zG,br];by_cases c:a8<oL a1.length a2.length a3 a5+od a0 a4 a6+least a0 a7*oK a0 a1.length a3 a4
  ·rw[zE c,zE c]
  ·rw[zF c,zF c];have hfx:0≤oL a1.length a2.length a3 a5∧oL a1.length a2.length a3 a5≤1000:=by unfold oL;omega
   by_cases c3:a0=3
   ·rw[zF (fun k=>k c3),zE c3];unfold least;rw[zE c3]
   ·rw[zE c3,zF c3,cX6 (by omega)];unfold least at c;rw[zF c3]at c;generalize oL a1.length a2.length a3 a5=fx at*;generalize od a0 a4 a6=tp at*;generalize oK a0 a1.length a3 a4=sl at*;rw[bk (n:=a8-fx) (by omega),bk (n:=a8-fx-tp) (by omega),ck4 (by omega)];have hd1:0≤(a8-fx-tp) / sl:=iB (by omega) (by omega);have hd2:(a8-fx-tp) / sl≤a8-fx-tp:=iA _ (by omega);rw[bk (by omega)]
 ·rw[zB h,zC,zE h]
theorem xr (h4:OpsOk a4)(h6:OpsOk a6):pz a0 a1 a2 a3 a4 a5 a6 a7 a8=some (jT a0 a1.length a2.length a3 a4 a5 a6 a7 a8):=by
 unfold pz jT;rw[aT2 h4 h6];simp only[zG];by_cases h:vT a0 a1.length a2.length a3 a4 a5 a6 a7 a8=0
 ·have s:=aO7 h4 h6 h;have f:=ae9 h4 h6 h;rw[zA (fun c=>c h),zD,zF (fun c=>c h),bT4 s,cd3 h4 h6 h,cd2 h4 h6 h];have g1:=f.mode;have g2:=f.len;have g3:=f.bud;have g4:=s.xs;have g5:=s.ts;have g6:=s.r;have g7:=s.r';have g8:=s.tp;have g9:=s.sl;have hfx:0≤oL a1.length a2.length a3 a5∧oL a1.length a2.length a3 a5≤1000:=by unfold oL;omega
  have hln:0≤least a0 a7∧least a0 a7≤65535:=by unfold least;split<;>omega
  simp only[zG];generalize oL a1.length a2.length a3 a5=fx at*;generalize od a0 a4 a6=tp at*;generalize oK a0 a1.length a3 a4=sl at*
  have hl:(cond (decide (a0=3)) (some ((fx,tp,sl,a7):Int×Int×Int×Int)) (some (fx,tp,sl,1)))=some (fx,tp,sl,least a0 a7):=by
   unfold least;rw[br];split<;>rfl
  rw[hl];simp only[zG];have hm:=bg6 (s:=sl) (n:=least a0 a7) (by omega) (by omega);rw[gU]at hm;rw[bk (n:=fx+tp) (by omega),bk (n:=least a0 a7*sl) (by omega),bk (by omega),br];by_cases c:a8<fx+tp+least a0 a7*sl
  ·rw[zE c,zE c]
  ·rw[zF c,zF c];by_cases c3:a0=3
   ·have key:bt (nZ a0 a8) dy (fx,tp,sl,least a0 a7)=some (fx,tp,sl,least a0 a7):=by
     rw[show dy=18446744073709551615+1 from rfl,df];unfold nZ;rw[br,zF (fun k=>k c3)];rfl
    rw[key,zE c3];unfold least;rw[zE c3];rfl
   ·have key:bt (nZ a0 a8) dy (fx,tp,sl,least a0 a7)=some (fx,tp,sl,(a8-fx-tp) / sl):=by
     refine cJ7 (fun st=> ∃n:Int,st=(fx,tp,sl,n)∧1≤n∧n≤1048577∧fx+tp+n*sl≤a8) (fun st=>(2000000-st.2.2.2).toNat) ⟨least a0 a7,rfl,by unfold least;rw[zF c3];omega,by omega,by omega⟩ (by simp;omega) ?_;rintro _ ⟨n,rfl,n1,n2,n3⟩;unfold nZ;simp only;have hm:=bg6 (s:=sl) (n:=n+1-2) (by omega) (by omega);have hx:(n+1)*sl=sl*(n+1-2)+2*sl:=by rw[Int.mul_sub,gU];omega
     have hx2:(n+1)*sl=n*sl+sl:=by rw[Int.add_mul,Int.one_mul]
     rw[br,zE c3,bk (n:=n+1) (by omega),bk (n:=fx+tp) (by omega),bk (n:=(n+1)*sl) (by omega),bk (by omega),br]
     have hnsl:n≤n*sl:=by
      have:=iD (show 1≤sl by omega) (show 0≤n by omega);omega
     by_cases c5:fx+tp+(n+1)*sl≤a8
     ·rw[zE c5];left;exact⟨_,rfl,⟨n+1,rfl,by omega,by omega,c5⟩,by simp only;omega⟩
     ·rw[zF c5];right
      have hd:(a8-fx-tp) / sl=n:=by
       have e1:a8-fx-tp=(a8-fx-tp-n*sl)+n*sl:=by omega
       rw[e1,Int.add_mul_ediv_right _ _ (by omega),Int.ediv_eq_zero_of_lt (by omega) (by omega),fB]
      rw[hd]
    rw[key,zF c3];rfl
 ·rw[zB h,zC,zE h]
theorem cq6 (h4:OpsOk a4)(h6:OpsOk a6): ∃r,oh a0 a1 a2 a3 a4 a5 a6 a7 a8=some r∧mW a0 a1 a2 a3 a4 a5 a6 a7 a8=some r∧r.2.length≤10:=by
 unfold oh mW;rw[aN9 h4 h6,xr h4 h6];simp only[zG,br];by_cases h:(jT a0 a1.length a2.length a3 a4 a5 a6 a7 a8).2.2.2.2≠0
 ·rw[zE h,zE h];exact⟨_,rfl,rfl,by simp⟩
 rw[zF h,zF h]
 have hc:vT a0 a1.length a2.length a3 a4 a5 a6 a7 a8=0:=by
  by_cases hc:vT a0 a1.length a2.length a3 a4 a5 a6 a7 a8=0
  ·exact hc
  ·exfalso;apply h;unfold jT;rw[zE hc];exact hc
 have s:=aO7 h4 h6 hc;have f:=ae9 h4 h6 hc;rw[aB8 h4 h6 hc];simp only[zG];have g1:=f.mode;have g2:=f.len;have g3:=f.bud;have g4:=s.xs;have g5:=s.ts;have g6:=s.r;have g7:=s.r';have g8:=s.tp;have g9:=s.sl;have hfx:0≤oL a1.length a2.length a3 a5∧oL a1.length a2.length a3 a5≤1000:=by unfold oL;omega
 have hpl:(jT a0 a1.length a2.length a3 a4 a5 a6 a7 a8).2.1=od a0 a4 a6∧(jT a0 a1.length a2.length a3 a4 a5 a6 a7 a8).2.2.1=oK a0 a1.length a3 a4∧0≤(jT a0 a1.length a2.length a3 a4 a5 a6 a7 a8).2.2.2.1∧(jT a0 a1.length a2.length a3 a4 a5 a6 a7 a8).2.2.2.1≤1048576:=by
  unfold jT at h⊢;rw[zF (fun c=>c hc)]at h⊢;split at h
  ·exact(h (by simp)).elim
  ·rename_i c;rw[zF c];refine⟨rfl,rfl, ?_, ?_⟩
   ·simp only;split
    ·omega
    ·rename_i c3;unfold least at c;rw[zF c3]at c;exact iB (by omega) (by omega)
   ·simp only;split
    ·omega
    ·rename_i c3;unfold least at c;rw[zF c3]at c;have hd2:(a8-oL a1.length a2.length a3 a5-od a0 a4 a6) / oK a0 a1.length a3 a4≤a8-oL a1.length a2.length a3 a5-od a0 a4 a6:=iA _ (by omega);omega
 obtain⟨p1,p2,p3,p4⟩:=hpl;generalize jT a0 a1.length a2.length a3 a4 a5 a6 a7 a8=pl at*;have hb:=bI8 (n:=pl.2.2.2.1) s ⟨p3,p4⟩;have hp:=bH8 hb;rw[bh2 hb];refine⟨(0,_),rfl, ?_,by simp⟩;have hmul:=bg6 (s:=oK a0 a1.length a3 a4) (n:=pl.2.2.2.1) (by omega) ⟨p3,p4⟩;generalize hL:([(a2.length:Int),a1.length,a3,a5,max a3 a5,a1.length,a2.length,od a0 a4 a6,oK a0 a1.length a3 a4*pl.2.2.2.1]:List Int)=L at*
 have key:bt (lY a1 a2 a3 a5 pl) dy (0,(fD (0+1)).map (pre L))=some ((fD 10).map (pre L)):=by
  refine ff (n:=9) (fun i=>(fD (i+1)).map (pre L)) (by omega) (fun i hi=> ?_) ?_
  ·unfold lY;rw[br,zE (by omega),cd (show i<((fD (i+1)).map (pre L)).length by simp),cd (show i<9 by omega)];simp only[zG]
   have e1:((fD (i+1)).map (pre L))[i]?=some (pre L i):=by
    rw[List.getElem?_map,List.getElem?_range (by omega)];rfl
   rw[e1];simp only[zG]
   have e2:gX [((a2.length:Nat):Int),((a1.length:Nat):Int),a3,a5,max a3 a5,((a1.length:Nat):Int),((a2.length:Nat):Int),pl.2.1,zH zI (pl.2.2.2.1*pl.2.2.1)] i 0=L.getD i 0:=by
    rw[p1,p2,gU,bk (by omega)];rw[hL]
   have h1:=hp i;have h2:=hb i;rw[e2,dk (by simp;omega) (by omega),bk (n:=pre L i+L.getD i 0) (by omega),bk (n:=(i:Int)+1) (by omega),iJ (n:=i+1),hC];rfl
  ·unfold lY;rw[br,zF (by omega)]
 have key:bt (lY a1 a2 a3 a5 pl) dy (0,[0])=_:=key;rw[key];rfl
end
def Reach {α γ:Type}(f:α→Option (α⊕γ))(k:Nat)(s s':α):Prop:= ∀fu,bt f (fu+k) s=bt f fu s'
theorem Reach.refl {α γ:Type}{f:α→Option (α⊕γ)}{s:α}:Reach f 0 s s:=fun _=>rfl
theorem Reach.trans {α γ:Type}{f:α→Option (α⊕γ)}{k k':Nat}{s s' s'':α}(h:Reach f k s s')(h':Reach f k' s' s''):Reach f (k+k') s s'':=by
 intro fu;rw[show fu+(k+k')=(fu+k')+k by omega,h,h']
theorem Reach.one {α γ:Type}{f:α→Option (α⊕γ)}{s s':α}(h:f s=some (.inl s')):Reach f 1 s s':=by
 intro fu;rw[df,h];rfl
section
variable {l:List cu}
theorem de5 {i:Nat}{out st:List Int}(hl:l.length≤1000)(hst:st.length≤1000)(hi:i<l.length)(hk:0<l[i].1∧l[i].1<7)(ho:out.length=l.length):
  dq l ((i:Int),true,out,st,st)=some (.inl (((i+1:Nat):Int),true,out.set i (-1),st,st)):=by
 simp only[dq];rw[zB (show(i:Int)<(l.length:Int)by omega),zC,ci hi];simp only[zG];generalize hx:l[i]=x at*;rw[zA (show¬x.1<0 by omega),zD,zA (show¬7<x.1 by omega),zD,zA (show¬x.1=0 by omega)];simp only[zD,zG,cn];rw[cd (show i<out.length by omega)];simp only[zG];rw[aD (show i<out.length by omega)];simp only[zG];rw[zA (show¬x.1=7 by omega)];simp only[zD];rw[bk (n:=(i:Int)+1) (by omega)];rfl
theorem cK7 {i:Nat}{out st:List Int}(hl:l.length≤1000)(hst:st.length≤1000)(hi:i<l.length)(hk:l[i].1=7)(ho:out.length=l.length):
  dq l ((i:Int),true,out,st,st)=some (.inl (((i+1:Nat):Int),true,out.set i (-1),st++[(i:Int)],st++[(i:Int)])):=by
 simp only[dq];rw[zB (show(i:Int)<(l.length:Int)by omega),zC,ci hi];simp only[zG];generalize hx:l[i]=x at*;rw[zA (show¬x.1<0 by omega),zD,zA (show¬7<x.1 by omega),zD,zA (show¬x.1=0 by omega)];simp only[zD,zG,cn];rw[cd (show i<out.length by omega)];simp only[zG];rw[aD (show i<out.length by omega)];simp only[zG];rw[zB hk];simp only[zC];rw[dk (by omega) (by omega),dk (by omega) (by omega),bk (n:=(i:Int)+1) (by omega)];rfl
theorem cz6 {i q:Nat}{out st:List Int}(hl:l.length≤1000)(hst:st.length<1000)(hi:i<l.length)(hk:l[i].1=0)(ho:out.length=l.length)(hq:q<l.length):
  dq l ((i:Int),true,out,st++[(q:Int)],st++[(q:Int)])=some (.inl (((i+1:Nat):Int),true,((out.set i (-1)).set i (q:Int)).set q (i:Int),st,st)):=by
 have hlen:(st++[(q:Int)]).length=st.length+1:=by simp
 simp only[dq];rw[zB (show(i:Int)<(l.length:Int)by omega),zC,ci hi];simp only[zG];generalize hx:l[i]=x at*;rw[zA (show¬x.1<0 by omega),zD,zA (show¬7<x.1 by omega),zD,zB hk];simp only[zC,zG,cn];rw[zA (show¬((st++[(q:Int)]).length:Int)=0 by omega),zD];rw[bk (n:=((st++[(q:Int)]).length:Int)-1) (by omega),iw (by omega),ei];simp only[zG,cn];have e7:decide (x.1=7)=false:=zA (by omega);rw[cd (show i<out.length by omega)];simp only[zG];rw[aD (show i<out.length by omega)];simp only[zG];rw[e7,zD,show((st++[(q:Int)]).length:Int)-1=(st.length:Int)by rw[hlen];omega,cd (show st.length<(st++[(q:Int)]).length by omega)];simp only[zG];rw[dD (aB _),bD];simp only[jE,zG]
 rw[ei,cd (show i<(out.set i (-1)).length by simp;omega)];simp only[zG];rw[aD (show i<(out.set i (-1)).length by simp;omega)];simp only[zG];rw[cd (show q<((out.set i (-1)).set i ((q:Nat):Int)).length by simp;omega)];simp only[zG];rw[aD (show q<((out.set i (-1)).set i ((q:Nat):Int)).length by simp;omega)];simp only[zG]
 have htk:(st++[(q:Int)]).take ((st.length:Int).toNat-0)=st:=by
  rw[show(st.length:Int).toNat-0=st.length by omega,iN];rfl
 rw[htk,bk (n:=(i:Int)+1) (by omega)];rfl
theorem bH1 (hl:l.length≤1000): ∀(k:Nat) (A seg B:List cu) (out st:List Int),seg.length≤k→l=A++seg++B→cl seg 0=some 0→out.length=l.length→st.length≤A.length→
  ∃out',Reach (dq l) seg.length ((A.length:Int),true,out,st,st) (((A.length+seg.length:Nat):Int),true,out',st,st)∧out'.length=l.length∧
   (∀j,¬(A.length≤j∧j<A.length+seg.length)→out'[j]?=out[j]?)∧∀j,A.length≤j→j<A.length+seg.length→(hj:j<l.length)→l[j].1=7→∀inner e rest,l.drop (j+1)=inner++e::rest→e.1=0→cl inner 0=some 0→out'[j]?=some ((j+1+inner.length:Nat):Int)
 |k,A,[],B,out,st,_,hsplit,hs,ho,hst=>⟨out,Reach.refl,ho,fun j _=>rfl,fun j h1 h2=>by simp at h2;omega⟩
 |0,A,o::seg,B,out,st,hk,_,_,_,_=>by simp at hk
 |k+1,A,o::seg,B,out,st,hk,hsplit,hs,ho,hst=>by
  simp only[cD]at hk⊢;have hlen:l.length=A.length+(seg.length+1)+B.length:=by rw[hsplit];simp;omega
  have hlt:A.length<l.length:=by omega
  have hget:l[A.length]=o:=by
   have:l[A.length]?=some o:=by
    rw[hsplit,dB,dD (aB _),bD];rfl
   rw[aD hlt]at this;injection this
  by_cases hk7:o.1=7
  ·have hs1:cl seg 1=some 0:=by
    simp only[cl]at hs;rw[zF (by omega),zF (by omega),zE hk7]at hs;exact hs
   obtain⟨inner,e,rest,h1,h2,h3,h4⟩:=ag1 _ seg 0 (aB _) hs1;subst h1;simp only[eD,cD]at hk hlen⊢
   have hd:l.drop (A.length+1)=inner++e::(rest++B):=by
    rw[hsplit,dB,iF,iG (by omega),show A.length+1-A.length=1 by omega];simp
   have hA1:(A++[o]).length=A.length+1:=by simp
   obtain⟨S1,r1,l1,k1,g1⟩:=bH1 hl k (A++[o]) inner (e::(rest++B)) (out.set A.length (-1)) (st++[(A.length:Int)]) (by omega) (by rw[hsplit];simp) h3 (by simp[ho]) (by simp;omega);rw[hA1]at r1 k1 g1;have hei:A.length+1+inner.length<l.length:=by omega
   have hee:l[A.length+1+inner.length]=e:=by
    have h5:(l.drop (A.length+1))[inner.length]?=some e:=by
     rw[hd,dD (aB _),bD];rfl
    rw[iH,aD hei]at h5;injection h5
   have c1:=cz6 (st:=st) hl (by omega) hei (by rw[hee];exact h2) l1 hlt;have hA2:(A++o::(inner++[e])).length=A.length+1+inner.length+1:=by simp;omega
   obtain⟨S2,r2,l3,k2,g2⟩:=bH1 hl k (A++o::(inner++[e])) rest B (((S1.set (A.length+1+inner.length) (-1)).set (A.length+1+inner.length) (A.length:Int)).set A.length ((A.length+1+inner.length:Nat):Int)) st (by omega) (by rw[hsplit];simp) h4 (by simp[l1]) (by omega);rw[hA2]at r2 k2 g2;refine⟨S2, ?_,l3,fun j hj=> ?_,fun j h5 h6 hj hk inner' e' rest' p1 p2 p3=> ?_⟩
   ·have h0:=Reach.one (cK7 (out:=out) (st:=st) hl (by omega) hlt (by rw[hget];exact hk7) ho);have h7:=((h0.trans r1).trans (Reach.one c1)).trans r2;rw[show 1+inner.length+1+rest.length=inner.length+(rest.length+1)+1 by omega,show A.length+1+inner.length+1+rest.length=A.length+(inner.length+(rest.length+1)+1)by omega]at h7;exact h7
   ·rw[k2 j (by omega),cB (by omega),cB (by omega),cB (by omega),k1 j (by omega),cB (by omega)]
   ·by_cases hj1:A.length+1+inner.length+1≤j
    ·exact g2 j hj1 (by omega) hj hk inner' e' rest' p1 p2 p3
    ·rw[k2 j (by omega)];by_cases hj2:A.length=j
     ·subst hj2;rw[gY (by simp;omega)];have:=wc (hd.symm.trans p1) h3 p3 h2 p2;subst this;rfl
     ·have hj3:j<A.length+1+inner.length:=by
       by_cases hj4:j<A.length+1+inner.length
       ·exact hj4
       ·exfalso;have hj4:j=A.length+1+inner.length:=by omega
        subst hj4;rw[hee]at hk;omega
      rw[cB hj2,cB (by omega),cB (by omega)];exact g1 j (by omega) hj3 hj hk inner' e' rest' p1 p2 p3
  ·obtain⟨hsr,hko,_⟩:=bq9 hs hk7;have hA1:(A++[o]).length=A.length+1:=by simp
   have c1:=de5 (out:=out) (st:=st) hl (by omega) hlt (by rw[hget];exact hko) ho;obtain⟨S1,r1,l1,k1,g1⟩:=bH1 hl k (A++[o]) seg B (out.set A.length (-1)) st (by omega) (by rw[hsplit];simp) hsr (by simp[ho]) (by omega);rw[hA1]at r1 k1 g1;refine⟨S1, ?_,l1,fun j hj=> ?_,fun j h5 h6 hj hk inner' e' rest' p1 p2 p3=> ?_⟩
   ·have h7:=(Reach.one c1).trans r1;rw[show 1+seg.length=seg.length+1 by omega,show A.length+1+seg.length=A.length+(seg.length+1)by omega]at h7;exact h7
   ·rw[k1 j (by omega),cB (by omega)]
   ·by_cases hj1:A.length+1≤j
    ·exact g1 j hj1 (by omega) hj hk inner' e' rest' p1 p2 p3
    ·have hj2:j=A.length:=by omega
     subst hj2;exact(hk7 (by rw[←hget];exact hk)).elim
theorem aW4 (hl:l.length≤1000)(hs:cl l 0=some 0): ∃m,lT l=some (0,m)∧MOK l m:=by
 obtain⟨S',r1,l1,k1,g1⟩:=bH1 (l:=l) hl _ [] l [] (bB ((l.length:Int)).toNat (0:Int)) [] (aB _) (by simp) hs (by simp) (by simp);rw[show([]:List cu).length+l.length=l.length by simp]at r1 g1
 have hloop:bt (dq l) dy ((0:Int),true,bB ((l.length:Int)).toNat (0:Int),([]:List Int),([]:List Int))=some (true,S',[],[]):=by
  have h1:=r1 (18446744073709551616-l.length);rw[show 18446744073709551616-l.length+l.length=dy by unfold dy;omega,show 18446744073709551616-l.length=(18446744073709551615-l.length)+1 by omega]at h1;refine h1.trans ?_;rw[df];simp only[dq];rw[zA (by omega),zD];rfl
 refine⟨S', ?_,⟨l1,fun i hi hk inner e rest p1 p2 p3=>g1 i (gT _) hi hi hk inner e rest p1 p2 p3⟩⟩;unfold lT;rw[zB (show(0:Int)≤(l.length:Int)by omega),zB (show(l.length:Int)≤(l.length:Int)by omega),zB (show 8*(l.length:Int)≤140737488355328 by omega)];show gd true _=_;rw[ei,hloop];rfl
end
section
variable {l:List cu}
theorem cy3 {i:Nat}{sz rds:List Int}{pre:List (Int×Int)}{a w:Int}(hl:l.length≤1000)(hp:pre.length≤1000)(hi:i<l.length):
  dg l ((i:Int),sz,rds,pre++[(a,w)])=(cond (decide (l[i].1=7))
   (some (.inl (((i+1:Nat):Int),sz,rds,pre++[(a,w)]++[((i:Int),0)])))
   (cond (decide (l[i].1=0))
    ((rd l a).bind fun x14=>
    (sf w x14.2.2.2.2).bind fun r15=>
    cond (!r15.2)
     (some (.inr ((9,sz,rds,pre++[(a,w)]))))
     ((ix a sz.length).bind fun j19=>
     (sz[j19]?).bind fun x20=>
     (ix a rds.length).bind fun j21=>
     (rds[j21]?).bind fun x22=>
     gd (jO 0 (pre.length:Int) (pre.length+1)) ((ix (zH zI ((pre.length:Int)-1)) pre.length).bind fun j23=>
     ((pre++[(a,w)])[(0+j23)]?).bind fun x24=>
     (wD ([x24.2,r15.1])).bind fun r25=>
     (ix (zH zI ((pre.length:Int)-1)) pre.length).bind fun j26=>
     ((pre++[(a,w)])[(0+j26)]?).bind fun x27=>
     some (.inl (((i+1:Nat):Int),(iK sz j19 r15.1),(iK rds j21 w),(List.take pre.length ((iK (pre++[(a,w)]) (0+j26) ((x27.1,r25))))))))))
    ((kA l[i].1 l[i].2.1 l[i].2.2.1 l[i].2.2.2.1 l[i].2.2.2.2).bind fun r28=>
    cond (r28.2)
     ((ix (i:Int) sz.length).bind fun j29=>
     (sz[j29]?).bind fun x30=>
     some (.inl (((i+1:Nat):Int),(iK sz j29 1),rds,pre++[(a,zH zI (w+1))])))
     (some (.inl (((i+1:Nat):Int),sz,rds,pre++[(a,w)])))))):=by
 have hlen:(pre++[(a,w)]).length=pre.length+1:=by simp
 have hget:(pre++[(a,w)])[pre.length]?=some (a,w):=by
  rw[dD (aB _),bD];rfl
 have hset: ∀w',(pre++[(a,w)]).set pre.length (a,w')=pre++[(a,w')]:=by
  intro w';rw[iL _ _ (aB _),bD];rfl
 simp only[dg];rw[zB (show(i:Int)<(l.length:Int)by omega),zC,ci hi];simp only[zG];rw[hlen,bk (n:=((pre.length+1:Nat):Int)-1) (by omega),show((pre.length+1:Nat):Int)-1=(pre.length:Int)by omega,cd (show pre.length<pre.length+1 by omega)];simp only[zG];rw[hget,bk (n:=(i:Int)+1) (by omega),dk (by omega) (by omega),show(i:Int)+1=((i+1:Nat):Int)by omega];simp only[zG];rw[hset,show((pre.length:Int).toNat-0)=pre.length by omega]
theorem dk4 {i:Nat}{sz rds:List Int}{pre:List (Int×Int)}{a w:Int}(hl:l.length≤1000)(hp:pre.length≤1000)(hi:i<l.length)(hk:0<l[i].1∧l[i].1<7)(hsz:sz.length=l.length)(hw:0≤w∧w≤1000000000):
  dg l ((i:Int),sz,rds,pre++[(a,w)])=some (.inl (((i+1:Nat):Int),sz.set i 1,rds,pre++[(a,w+1)])):=by
 rw[cy3 hl hp hi,zA (by omega),zA (by omega)];simp only[zD];rw[ay9 hk];simp only[zG,zC];rw[cd (show i<sz.length by omega)];simp only[zG];rw[aD (show i<sz.length by omega)];simp only[zG];rw[bk (n:=w+1) (by omega)]
theorem cY8 {i:Nat}{sz rds:List Int}{pre:List (Int×Int)}{a w:Int}(hl:l.length≤1000)(hp:pre.length≤1000)(hi:i<l.length)(hk:l[i].1=7):
  dg l ((i:Int),sz,rds,pre++[(a,w)])=some (.inl (((i+1:Nat):Int),sz,rds,pre++[(a,w)]++[((i:Int),0)])):=by
 rw[cy3 hl hp hi,zB hk,zC]
theorem cJ9 {i an:Nat}{sz rds:List Int}{pre:List (Int×Int)}{a w w2 n:Int}(hl:l.length≤1000)(hp:pre.length<1000)(hi:i<l.length)(hk:l[i].1=0)(han:an<l.length)(hsz:sz.length=l.length)(hrd:rds.length=l.length)(hw:0≤w∧w≤1000000000)(hw2:0≤w2∧w2≤1000000000)
  (hv:0≤l[an].2.2.2.2∧l[an].2.2.2.2≤18446744073709551615) (hb:xO w l[an].2.2.2.2=some n):
  dg l ((i:Int),sz,rds,pre++[(a,w2)]++[((an:Int),w)])=some (.inl (((i+1:Nat):Int),sz.set an n,rds.set an w,pre++[(a,w2+n)])):=by
 have hl2:(pre++[(a,w2)]).length=pre.length+1:=by simp
 rw[cy3 hl (by omega) hi,zA (by omega),zB hk];simp only[zD,zC];rw[ci han];simp only[zG];rw[bk0 ⟨hw.1,by omega⟩ hv,hb];have hn:=aF9 hw.1 hv.1 hb;simp only[zG,hY,zD];rw[cd (show an<sz.length by omega)];simp only[zG];rw[aD (show an<sz.length by omega)];simp only[zG];rw[cd (show an<rds.length by omega)];simp only[zG];rw[aD (show an<rds.length by omega)];simp only[zG];rw[iw (by omega),ei,hl2,bk (n:=((pre.length+1:Nat):Int)-1) (by omega),show((pre.length+1:Nat):Int)-1=(pre.length:Int)by omega,cd (show pre.length<pre.length+1 by omega)];simp only[zG,gR]
 have hg2:(pre++[(a,w2)]++[((an:Int),w)])[pre.length]?=some (a,w2):=by
  rw[dB,dD (aB _),bD];rfl
 rw[hg2];simp only[zG];rw[bV1 _ _ (by omega) hn];simp only[zG]
 have htk:((pre++[(a,w2)]++[((an:Int),w)]).set pre.length (a,w2+n)).take (pre.length+1)=pre++[(a,w2+n)]:=by
  rw[dB,iL _ _ (aB _),bD];show(pre++[(a,w2+n),((an:Int),w)]).take (pre.length+1)=_;rw[show [(a,w2+n),((an:Int),w)]=[(a,w2+n)]++[((an:Int),w)]from rfl,←dB,iN];simp
 rw[htk]
def cU3 (l:List cu)(j:Nat)(a b:Int):Prop:= ∀h:j<l.length,(l[j].1=7→∀inner e rest,l.drop (j+1)=inner++e::rest→e.1=0→cl inner 0=some 0→Q9 inner=some b∧xO b l[j].2.2.2.2=some a)∧(l[j].1≠7→b=0∧a=if l[j].1=0 then 0 else 1)
theorem ci2 (hl:l.length≤1000)(hv: ∀o∈l,0≤o.2.2.2.2∧o.2.2.2.2≤18446744073709551615): ∀(k:Nat) (A seg B:List cu) (S R:List Int) (pre:List (Int×Int)) (p w t:Int),seg.length≤k→l=A++seg++B→cl seg 0=some 0→Q9 seg=some t→S.length=l.length→R.length=l.length→pre.length≤A.length→0≤w∧w≤65537*A.length→(∀j,A.length≤j→j<A.length+seg.length→S[j]?=some 0∧R[j]?=some 0)→
  ∃S' R',Reach (dg l) seg.length ((A.length:Int),S,R,pre++[(p,w)]) (((A.length+seg.length:Nat):Int),S',R',pre++[(p,w+t)])∧S'.length=l.length∧R'.length=l.length∧(0≤t∧t≤65537*seg.length)∧
   (∀j,¬(A.length≤j∧j<A.length+seg.length)→S'[j]?=S[j]?∧R'[j]?=R[j]?)∧∀j,A.length≤j→j<A.length+seg.length→∃a b,S'[j]?=some a∧R'[j]?=some b∧cU3 l j a b
 |k,A,[],B,S,R,pre,p,w,t,_,hsplit,hs,hq,hS,hR,hpre,hw,hz=>by
  injection hq with hq
  subst hq;refine⟨S,R, ?_,hS,hR,⟨iC _,by simp⟩,fun j _=>⟨rfl,rfl⟩,fun j h1 h2=> ?_⟩
  ·rw[hZ];exact Reach.refl
  ·simp at h2;omega
 |0,A,o::seg,B,S,R,pre,p,w,t,hk,_,_,_,_,_,_,_,_=>by simp at hk
 |k+1,A,o::seg,B,S,R,pre,p,w,t,hk,hsplit,hs,hq,hS,hR,hpre,hw,hz=>by
  simp only[cD]at hk hz⊢;have hlen:l.length=A.length+(seg.length+1)+B.length:=by rw[hsplit];simp;omega
  have hlt:A.length<l.length:=by omega
  have hget:l[A.length]=o:=by
   have:l[A.length]?=some o:=by
    rw[hsplit,dB,dD (aB _),bD];rfl
   rw[aD hlt]at this;injection this
  by_cases hk7:o.1=7
  ·have hs1:cl seg 1=some 0:=by
    simp only[cl]at hs;rw[zF (by omega),zF (by omega),zE hk7]at hs;exact hs
   obtain⟨inner,e,rest,h1,h2,h3,h4⟩:=ag1 _ seg 0 (aB _) hs1;subst h1;simp only[eD,cD]at hk hz hlen⊢;obtain⟨hsr,hQ⟩:=bB0 hs hk7 h2 h3;rw[hQ]at hq;obtain⟨wi,hwi,hq⟩:=bn hq;obtain⟨b,hb,hq⟩:=bn hq;cases hqr:Q9 rest with
   |none=>rw[hqr]at hq;cases hq
   |some tr=>
   rw[hqr]at hq;injection hq with hq
   have hq:b+tr=t:=hq;have hov:0≤o.2.2.2.2∧o.2.2.2.2≤18446744073709551615:=by rw[←hget];exact hv _ (gD hlt)
   have hd:l.drop (A.length+1)=inner++e::(rest++B):=by
    rw[hsplit,dB,iF,iG (by omega),show A.length+1-A.length=1 by omega];simp
   have hA1:(A++[o]).length=A.length+1:=by simp
   obtain⟨S1,R1,r1,l1,l2,⟨t1,t2⟩,k1,g1⟩:=ci2 hl hv k (A++[o]) inner (e::(rest++B)) S R (pre++[(p,w)]) (A.length:Int) 0 wi (by omega) (by rw[hsplit];simp) h3 hwi hS hR (by simp;omega) (by omega) (fun j h5 h6=>hz j (by omega) (by omega));rw[hA1]at r1 k1 g1;have hei:A.length+1+inner.length<l.length:=by omega
   have hee:l[A.length+1+inner.length]=e:=by
    have h5:(l.drop (A.length+1))[inner.length]?=some e:=by
     rw[hd,dD (aB _),bD];rfl
    rw[iH,aD hei]at h5;injection h5
   have hbn:=aF9 t1 hov.1 hb;have c1:=cJ9 (pre:=pre) (a:=p) (w2:=w) hl (by omega) hei (by rw[hee];exact h2) hlt l1 l2 (w:=0+wi) (by omega) (by omega) (by rw[hget];exact hov) (n:=b) (by rw[hget,fB];exact hb);have hA2:(A++o::(inner++[e])).length=A.length+1+inner.length+1:=by simp;omega
   obtain⟨S2,R2,r2,l3,l4,⟨t3,t4⟩,k2,g2⟩:=ci2 hl hv k (A++o::(inner++[e])) rest B (S1.set A.length b) (R1.set A.length (0+wi)) pre p (w+b) tr (by omega) (by rw[hsplit];simp) hsr hqr (by simp[l1]) (by simp[l2]) (by omega) (by omega) (fun j h5 h6=>by
    rw[hA2]at h5 h6;rw[cB (by omega),cB (by omega),(k1 j (by omega)).1,(k1 j (by omega)).2]
    exact hz j (by omega) (by omega))
   rw[hA2]at r2 k2 g2;refine⟨S2,R2, ?_,l3,l4,⟨by omega,by omega⟩,fun j hj=> ?_,fun j h5 h6=> ?_⟩
   ·have h0:=Reach.one (cY8 (sz:=S) (rds:=R) (pre:=pre) (a:=p) (w:=w) hl (by omega) hlt (by rw[hget];exact hk7));have h7:=((h0.trans r1).trans (Reach.one c1)).trans r2;rw[show 1+inner.length+1+rest.length=inner.length+(rest.length+1)+1 by omega,gP,hq,show A.length+1+inner.length+1+rest.length=A.length+(inner.length+(rest.length+1)+1)by omega]at h7;exact h7
   ·rw[(k2 j (by omega)).1,(k2 j (by omega)).2,cB (by omega),cB (by omega),(k1 j (by omega)).1,(k1 j (by omega)).2];exact⟨rfl,rfl⟩
   ·by_cases hj1:A.length+1+inner.length+1≤j
    ·exact g2 j hj1 (by omega)
    ·rw[(k2 j (by omega)).1,(k2 j (by omega)).2];by_cases hj2:A.length=j
     ·subst hj2;rw[gY (by omega),gY (by omega)];refine⟨_,_,rfl,rfl,fun h=>⟨fun _ inner' e' rest' p1 p2 p3=> ?_,fun h'=>(h' (by rw[hget];exact hk7)).elim⟩⟩;have:=wc (hd.symm.trans p1) h3 p3 h2 p2;subst this;rw[fB,hget];exact⟨hwi,hb⟩
     ·rw[cB hj2,cB hj2];by_cases hj3:j<A.length+1+inner.length
      ·exact g1 j (by omega) hj3
      ·have hj4:j=A.length+1+inner.length:=by omega
       subst hj4;rw[(k1 _ (by omega)).1,(k1 _ (by omega)).2,(hz _ h5 h6).1,(hz _ h5 h6).2];refine⟨0,0,rfl,rfl,fun h=>⟨fun h'=> ?_,fun _=>⟨rfl, ?_⟩⟩⟩
       ·rw[hee]at h';omega
       ·rw[hee,zE h2]
  ·obtain⟨hsr,hko,hQ⟩:=bq9 hs hk7;rw[hQ]at hq;cases hqr:Q9 seg with
   |none=>rw[hqr]at hq;cases hq
   |some tr=>
   rw[hqr]at hq;injection hq with hq
   have hq:1+tr=t:=hq;have hA1:(A++[o]).length=A.length+1:=by simp
   have c1:=dk4 (sz:=S) (rds:=R) (pre:=pre) (a:=p) (w:=w) hl (by omega) hlt (by rw[hget];exact hko) hS (by omega)
   obtain⟨S1,R1,r1,l1,l2,⟨t1,t2⟩,k1,g1⟩:=ci2 hl hv k (A++[o]) seg B (S.set A.length 1) R pre p (w+1) tr (by omega) (by rw[hsplit];simp) hsr hqr (by simp[hS]) hR (by omega) (by omega) (fun j h5 h6=>by
    rw[hA1]at h5 h6;rw[cB (by omega)]
    exact hz j (by omega) (by omega))
   rw[hA1]at r1 k1 g1;refine⟨S1,R1, ?_,l1,l2,⟨by omega,by omega⟩,fun j hj=> ?_,fun j h5 h6=> ?_⟩
   ·have h7:=(Reach.one c1).trans r1;rw[show 1+seg.length=seg.length+1 by omega,gP,hq,show A.length+1+seg.length=A.length+(seg.length+1)by omega]at h7;exact h7
   ·rw[(k1 j (by omega)).1,(k1 j (by omega)).2,cB (by omega)];exact⟨rfl,rfl⟩
   ·by_cases hj1:A.length+1≤j
    ·exact g1 j hj1 (by omega)
    ·have hj2:j=A.length:=by omega
     subst hj2;rw[(k1 _ (by omega)).1,(k1 _ (by omega)).2,gY (by omega),(hz _ h5 h6).2];refine⟨1,0,rfl,rfl,fun h=>⟨fun h'=>(hk7 (by rw[←hget];exact h')).elim,fun _=>⟨rfl, ?_⟩⟩⟩;rw[hget,zF (by omega)]
end
theorem aJ5 {l:List cu}(hl:l.length≤100)(hv: ∀o∈l,0≤o.2.2.2.2∧o.2.2.2.2≤18446744073709551615):
  ∃r,li l=some r∧r.1=(ej l).1∧r.2.1=(ej l).2∧(((ej l).2≠0∧r.2.2=([],[]))∨((ej l).2=0∧cl l 0=some 0∧r.2.2.1.length=l.length∧r.2.2.2.length=l.length∧∀j,j<l.length→∃a b,r.2.2.1[j]?=some a∧r.2.2.2[j]?=some b∧cU3 l j a b)):=by
 have hW:=uz (by omega) hv;unfold jf at hW;obtain⟨r,hr,hW⟩:=bn hW;injection hW with hW
 refine⟨r,hr,by rw[←hW],by rw[←hW], ?_⟩;unfold li at hr;obtain⟨m,hm⟩:=aB6 (l:=l) (by omega);rw[hm]at hr;by_cases hs:cl l 0=some 0
 ·simp only[zE hs]at hr;simp only[zG]at hr;rw[zA (by simp),zD]at hr;rw[zB (show(0:Int)≤(l.length:Int)by omega),zB (show(l.length:Int)≤(l.length:Int)by omega),zB (show 8*(l.length:Int)≤140737488355328 by omega)]at hr;have hgd: ∀{β:Type} {y:Option β},gd (iO 1 (Sh.w (.int .i64))&&true&&true&&true&&Nat.ble 1 8) y=y:=fun {β y}=>rfl
  rw[hgd,hgd]at hr;cases hq:Q9 l with
  |none=>
   have hw9:ej l=(0,9):=by unfold ej;rw[zE hs,hq]
   left;refine⟨by rw[hw9];simp, ?_⟩;obtain⟨c,hc,hr⟩:=bn hr;obtain⟨s36,h36,hr⟩:=bn hr;rw[br]at hr;split at hr
   ·injection hr with hr
    rw[←hr]
   ·rename_i hz;exfalso;obtain⟨j,hj,hr⟩:=bn hr;obtain⟨x,hx,hr⟩:=bn hr;injection hr with hr
    rw[←hr,hw9]at hW;injection hW with _ hW
    cases hW
  |some t=>
   obtain⟨S',R',r1,l1,l2,⟨t1,t2⟩,k1,g1⟩:=ci2 (l:=l) (by omega) hv _ [] l [] (bB ((l.length:Int)).toNat (0:Int)) (bB ((l.length:Int)).toNat (0:Int)) [] 0 0 t (aB _) (by simp) hs hq (by simp) (by simp) (by simp) (by simp) (fun j _ hj=>by
    rw[List.getElem?_replicate,zE (by simpa using hj)]
    exact⟨rfl,rfl⟩)
   rw[show([]:List cu).length+l.length=l.length by simp]at r1 g1
   have hloop:bt (dg l) dy ((0:Int),bB ((l.length:Int)).toNat (0:Int),bB ((l.length:Int)).toNat (0:Int),[((0:Int),(0:Int))])=some (0,S',R',[(0,0+t)]):=by
    have h1:=r1 (18446744073709551616-l.length);rw[show 18446744073709551616-l.length+l.length=dy by unfold dy;omega,show 18446744073709551616-l.length=(18446744073709551615-l.length)+1 by omega]at h1;refine h1.trans ?_;rw[df];simp only[dg];rw[zA (by omega),zD];rfl
   rw[hloop,fB]at hr;have hr:((((cond (decide (65536<t)) (some (9:Int)) (some 0)).bind fun s36=>cond (decide (s36≠0)) (some ((0:Int),s36,([]:List Int),([]:List Int))) (some (t,0,S',R')))))=some r:=hr;rw[br]at hr;have hw9:ej l=if 65536<t then(0,9)else(t,0):=by unfold ej;rw[zE hs,hq]
   by_cases c:65536<t
   ·rw[zE c]at hr hw9;left;injection hr with hr
    rw[←hr,hw9];exact⟨by simp,rfl⟩
   ·rw[zF c]at hr hw9;right;injection hr with hr
    rw[←hr,hw9];exact⟨rfl,hs,l1,l2,fun j hj=>g1 j (gT _) hj⟩
 ·simp only[zF hs]at hr;left;have hw9:ej l=(0,6):=by unfold ej;rw[zF hs]
  have hr:some ((0:Int),(6:Int),([]:List Int),([]:List Int))=some r:=hr;injection hr with hr
  rw[←hr,hw9];exact⟨by simp,rfl⟩
abbrev uK :=Int×Int×Int×Int×Int×Int
inductive Fo where
 |nil
 |op (o:cu) (r:Fo)
 |rep (o:cu) (b:Fo) (e:cu) (r:Fo)
def oN (o:cu):Nat:=o.2.2.2.2.toNat
def de (o:cu)(to:Nat):uK:=(o.1,o.2.1,o.2.2.1,o.2.2.2.1,o.2.2.2.2,(to:Int))
namespace Fo
def src :Fo→List cu
 | .nil=>[]
 | .op o r=>o::r.src
 | .rep o b e r=>o::(b.src++e::r.src)
def Ok :Fo→Prop
 | .nil=>True
 | .op o r=>(0<o.1∧o.1<7)∧r.Ok
 | .rep o b e r=>(o.1=7∧e.1=0)∧b.Ok∧r.Ok
def n :Fo→Nat
 | .nil=>0
 | .op _ r=>1+r.n
 | .rep o b _ r=>b.n*oN o+r.n
def len :Fo→Nat
 | .nil=>0
 | .op _ r=>r.len+1
 | .rep _ b _ r=>b.len+r.len+2
def hi :Fo→Nat
 | .nil=>0
 | .op _ r=>r.hi
 | .rep _ b _ r=>max (b.hi+1) r.hi
def bare :Fo→Fo
 | .nil=> .nil
 | .op o r=> .op o r.bare
 | .rep o b e r=>if b.n*oN o=0 then r.bare else .rep o b.bare e r.bare
def unroll :Fo→List cu
 | .nil=>[]
 | .op o r=>o::r.unroll
 | .rep o b _ r=>(bB (oN o) b.unroll).flatten++r.unroll
def code :Fo→Nat→List uK
 | .nil,_=>[]
 | .op o r,p=>de o 0::r.code (p+1)
 | .rep o b e r,p=>de o (p+b.len+2)::(b.code (p+1)++de e (p+1)::r.code (p+b.len+2))
def Pos :Fo→Prop
 | .nil=>True
 | .op _ r=>r.Pos
 | .rep o b _ r=>0<b.n*oN o∧b.Pos∧r.Pos
def steps :Fo→Nat
 | .nil=>0
 | .op _ r=>1+r.steps
 | .rep o b _ r=>1+oN o*(b.steps+1)+r.steps
theorem src_len : ∀f:Fo,f.src.length=f.len
 | .nil=>rfl
 | .op o r=>by simp only[src,len,cD,src_len r]
 | .rep o b e r=>by simp only[src,len,cD,eD,src_len r,src_len b];omega
theorem code_len : ∀(f:Fo) (p:Nat),(f.code p).length=f.len
 | .nil,_=>rfl
 | .op o r,p=>by simp only[code,len,cD,code_len r]
 | .rep o b e r,p=>by simp only[code,len,cD,eD,code_len r,code_len b];omega
theorem scan_src : ∀(f:Fo),f.Ok→∀(r:List cu) (d:Nat),cl (f.src++r) d=cl r d
 | .nil,_,r,d=>rfl
 | .op o f,h,r,d=>by
  obtain⟨h1,h2⟩:=h;simp only[src,gB,cl];rw[zF (by omega),zF (by omega),zF (by omega)];exact scan_src f h2 r d
 | .rep o b e f,h,r,d=>by
  obtain⟨⟨h1,h2⟩,h3,h4⟩:=h;simp only[src,gB,dB,cl];rw[zF (by omega),zF (by omega),zE h1,scan_src b h3];simp only[cl];rw[zF (by omega),zE h2,zF (by omega)];exact scan_src f h4 r d
theorem scan0 {f:Fo}(h:f.Ok):cl f.src 0=some 0:=by
 have:=scan_src f h [] 0;rw[iE]at this;exact this
theorem parse : ∀(N:Nat) (l:List cu),l.length≤N→cl l 0=some 0→∃f:Fo,f.Ok∧f.src=l
 |_,[],_,_=>⟨.nil,trivial,rfl⟩
 |0,o::l,h,_=>by simp at h
 |N+1,o::l,h,hs=>by
  simp only[cD]at h;by_cases hk:o.1=7
  ·have hs1:cl l 1=some 0:=by
    simp only[cl]at hs;rw[zF (by omega),zF (by omega),zE hk]at hs;exact hs
   obtain⟨inner,e,rest,h1,h2,h3,h4⟩:=ag1 _ l 0 (aB _) hs1;subst h1;simp only[eD,cD]at h;obtain⟨b,b1,b2⟩:=parse N inner (by omega) h3;obtain⟨r,r1,r2⟩:=parse N rest (by omega) h4;exact⟨.rep o b e r,⟨⟨hk,h2⟩,b1,r1⟩,by simp only[src,b2,r2]⟩
  ·obtain⟨h1,h2,_⟩:=bq9 hs hk;obtain⟨r,r1,r2⟩:=parse N l (by omega) h1;exact⟨.op o r,⟨h2,r1⟩,by simp only[src,r2]⟩
theorem Q9_n : ∀(f:Fo),f.Ok→(∀o∈f.src,0≤o.2.2.2.2)→∀{t:Int},Q9 f.src=some t→t=(f.n:Int)
 | .nil,_,_,t,h=>by
  injection h with h
  exact h.symm
 | .op o r,h,hv,t,hq=>by
  obtain⟨h1,h2⟩:=h;have hs:=scan0 (f:= .op o r) ⟨h1,h2⟩;obtain⟨_,_,h3⟩:=bq9 (o:=o) (s:=r.src) hs (by omega);have hq:Q9 (o::r.src)=some t:=hq;rw[h3]at hq;cases hr:Q9 r.src with
  |none=>rw[hr]at hq;cases hq
  |some m=>
   rw[hr]at hq;injection hq with hq
   have:=Q9_n r h2 (fun x hx=>hv x (List.mem_cons_of_mem _ hx)) hr;subst this;rw[←hq];show(1:Int)+(r.n:Int)=((1+r.n:Nat):Int);omega
 | .rep o b e r,h,hv,t,hq=>by
  obtain⟨⟨h1,h2⟩,h3,h4⟩:=h;have hs:=scan0 (f:= .rep o b e r) ⟨⟨h1,h2⟩,h3,h4⟩;obtain⟨_,h5⟩:=bB0 (o:=o) (e:=e) (inner:=b.src) (rest:=r.src) hs h1 h2 (scan0 h3);have hq:Q9 (o::(b.src++e::r.src))=some t:=hq;rw[h5]at hq;obtain⟨w,hw,hq⟩:=bn hq;obtain⟨c,hc,hq⟩:=bn hq;cases hr:Q9 r.src with
  |none=>rw[hr]at hq;cases hq
  |some m=>
   rw[hr]at hq;injection hq with hq
   have e1:=Q9_n r h4 (fun x hx=>hv x (by simp only[src];simp[hx])) hr;have e2:=Q9_n b h3 (fun x hx=>hv x (by simp only[src];simp[hx])) hw;have hv0:0≤o.2.2.2.2:=hv o (by simp[src])
   have e3:c=(b.n:Int)*(oN o:Int):=by
    unfold xO at hc;rw[e2]at hc;unfold oN;rw[iS hv0];split at hc
    ·rename_i hz;injection hc with hc
     rw[hz,Int.zero_mul,hc]
    split at hc
    ·cases hc
    split at hc
    ·cases hc
    ·injection hc with hc
     exact hc.symm
   rw[←hq,e1,e3];show(b.n:Int)*(oN o:Int)+(r.n:Int)=((b.n*oN o+r.n:Nat):Int);simp
theorem hmax_src : ∀(f:Fo),f.Ok→∀(r:List cu) (d m:Nat),hmax (f.src++r) d m=hmax r d (max m (if f.hi=0 then 0 else d+f.hi))
 | .nil,_,r,d,m=>by
  simp only[src,gQ,hi,zE];rw[Nat.max_zero]
 | .op o f,h,r,d,m=>by
  obtain⟨h1,h2⟩:=h;simp only[src,gB,hmax,hi];rw[zF (by omega),zF (by omega)];exact hmax_src f h2 r d m
 | .rep o b e f,h,r,d,m=>by
  obtain⟨⟨h1,h2⟩,h3,h4⟩:=h;simp only[src,gB,dB,hmax,hi];rw[zE h1,hmax_src b h3];simp only[hmax];rw[zF (by omega),zE h2,jJ,hmax_src f h4]
  congr 1
  have e0:(if max (b.hi+1) f.hi=0 then 0 else d+max (b.hi+1) f.hi)=d+max (b.hi+1) f.hi:=zF (by omega);refine Eq.trans ?_ (congrArg (max m) e0.symm);split<;>split<;>omega
theorem hi_le {f:Fo}(h:f.Ok):f.hi≤hmax f.src 0 0:=by
 have:=hmax_src f h [] 0 0;rw[iE]at this;rw[this];simp only[hmax];split<;>omega
theorem bare_n : ∀f:Fo,f.bare.n=f.n
 | .nil=>rfl
 | .op o r=>by simp only[bare,n,bare_n r]
 | .rep o b e r=>by
  simp only[bare,n];split
  ·rename_i h;rw[h,bare_n r,gR]
  ·simp only[n,bare_n b,bare_n r]
theorem lF : ∀f:Fo,f.unroll.length=f.n
 | .nil=>rfl
 | .op o r=>by simp only[unroll,n,cD,lF r];omega
 | .rep o b e r=>by
  simp only[unroll,n,eD,lF r];rw[jF,jG,jI,lF b,jA]
theorem bare_unroll : ∀f:Fo,f.bare.unroll=f.unroll
 | .nil=>rfl
 | .op o r=>by simp only[bare,unroll,bare_unroll r]
 | .rep o b e r=>by
  simp only[bare,unroll];split
  ·rename_i h
   have h1:((bB (oN o) b.unroll).flatten).length=0:=by
    rw[jF,jG,jI,lF b,jA,h]
   rw[List.eq_nil_of_length_eq_zero h1,gQ,bare_unroll r]
  ·simp only[unroll,bare_unroll b,bare_unroll r]
theorem bare_ok : ∀f:Fo,f.Ok→f.bare.Ok
 | .nil,_=>trivial
 | .op o r,h=>⟨h.1,bare_ok r h.2⟩
 | .rep o b e r,h=>by
  simp only[bare];split
  ·exact bare_ok r h.2.2
  ·exact⟨h.1,bare_ok b h.2.1,bare_ok r h.2.2⟩
theorem bare_pos : ∀f:Fo,f.bare.Pos
 | .nil=>trivial
 | .op o r=>bare_pos r
 | .rep o b e r=>by
  simp only[bare];split
  ·exact bare_pos r
  ·rename_i h;exact⟨by rw[bare_n];omega,bare_pos b,bare_pos r⟩
theorem bare_hi : ∀f:Fo,f.bare.hi≤f.hi
 | .nil=>aB _
 | .op o r=>bare_hi r
 | .rep o b e r=>by
  simp only[bare,hi];have h1:=bare_hi b;have h2:=bare_hi r;split
  ·omega
  ·simp only[hi];omega
theorem bare_len : ∀f:Fo,f.bare.len≤f.len
 | .nil=>aB _
 | .op o r=>by simp only[bare,len];exact Nat.succ_le_succ (bare_len r)
 | .rep o b e r=>by
  simp only[bare,len];have h1:=bare_len b;have h2:=bare_len r;split
  ·omega
  ·simp only[len];omega
theorem bare_mem : ∀(f:Fo) {o:cu},o∈f.bare.src→o∈f.src
 | .nil,o,h=>h
 | .op o r,x,h=>by
  simp only[bare,src,hO]at h⊢;rcases h with h|h
  ·exact .inl h
  ·exact .inr (bare_mem r h)
 | .rep o b e r,x,h=>by
  simp only[bare]at h;split at h
  ·simp only[src,hO,iX];exact .inr (.inr (.inr (bare_mem r h)))
  ·simp only[src,hO,iX]at h⊢;rcases h with h|h|h|h
   ·exact .inl h
   ·exact .inr (.inl (bare_mem b h))
   ·exact .inr (.inr (.inl h))
   ·exact .inr (.inr (.inr (bare_mem r h)))
theorem nU : ∀(f:Fo),f.Ok→∀{o:cu},o∈f.unroll→o∈f.src∧0<o.1∧o.1<7
 | .nil,_,o,h=>by cases h
 | .op o r,hk,x,h=>by
  simp only[unroll,src,hO]at h⊢;rcases h with rfl|h
  ·exact⟨.inl rfl,hk.1⟩
  ·have:=nU r hk.2 h;exact⟨.inr this.1,this.2⟩
 | .rep o b e r,hk,x,h=>by
  simp only[unroll,src,hO,iX]at h⊢;rcases h with h|h
  ·obtain⟨l,hl,hx⟩:=List.mem_flatten.1 h;rw[List.eq_of_mem_replicate hl]at hx;have:=nU b hk.2.1 hx;exact⟨.inr (.inl this.1),this.2⟩
  ·have:=nU r hk.2.2 h;exact⟨.inr (.inr (.inr this.1)),this.2⟩
theorem steps_le : ∀f:Fo,f.Pos→f.steps≤(2*f.len+1)*f.n
 | .nil,_=>aB _
 | .op o r,h=>by
  have h1:=steps_le r h;simp only[steps,len,n];rw[iZ,iQ];have:(2*r.len+1)*r.n≤(2*(r.len+1)+1)*r.n:=jB _ (by omega);omega
 | .rep o b e r,h=>by
  obtain⟨h1,h2,h3⟩:=h;have i1:=steps_le b h2;have i2:=steps_le r h3;simp only[steps,len,n]
  have hv:0<oN o:=by
   rcases iP (oN o)with h0|h0
   ·rw[h0]at h1;simp at h1
   ·exact h0
  have hb:0<b.n:=by
   rcases iP b.n with h0|h0
   ·rw[h0]at h1;simp at h1
   ·exact h0
  have hx:oN o≤b.n*oN o:=Nat.le_mul_of_pos_left _ hb
  have j1:oN o*(b.steps+1)≤(2*b.len+1)*(b.n*oN o)+b.n*oN o:=by
   rw[iZ,iQ];have:oN o*b.steps≤oN o*((2*b.len+1)*b.n):=Nat.mul_le_mul_left _ i1
   have e1:oN o*((2*b.len+1)*b.n)=(2*b.len+1)*(b.n*oN o):=by
    rw[jA,Nat.mul_assoc]
   omega
  have j2:(2*r.len+1)*r.n≤(2*(b.len+r.len+2)+1)*r.n:=jB _ (by omega);have j3:(2*b.len+3)*(b.n*oN o)≤(2*(b.len+r.len+2)+1)*(b.n*oN o):=jB _ (by omega)
  have j4:(2*b.len+3)*(b.n*oN o)=(2*b.len+1)*(b.n*oN o)+b.n*oN o+b.n*oN o:=by
   rw[show 2*b.len+3=(2*b.len+1)+1+1 by omega,Nat.add_mul,Nat.add_mul,Nat.one_mul]
  rw[iZ (2*(b.len+r.len+2)+1)];generalize oN o*(b.steps+1)=y1 at*;generalize (2*(b.len+r.len+2)+1)*(b.n*oN o)=y2 at*;generalize (2*(b.len+r.len+2)+1)*r.n=y3 at*;generalize (2*r.len+1)*r.n=y4 at*;generalize (2*b.len+3)*(b.n*oN o)=y5 at*;generalize (2*b.len+1)*(b.n*oN o)=y6 at*;omega
end Fo
def upd (l:Nat→Int)(j:Nat)(v:Int):Nat→Int:=fun i=>cond (iO j i) v (l i)
theorem oe (l:Nat→Int)(j:Nat)(v:Int):upd l j v j=v:=by
 unfold upd;rw[Nat.beq_refl];rfl
theorem aP5 {l:Nat→Int}{j i:Nat}{v:Int}(h:i≠j):upd l j v i=l i:=by
 unfold upd;cases hb:iO j i with
 |true=>exact(h (Nat.eq_of_beq_eq_true hb).symm).elim
 |false=>rfl
def okV (o:cu):Prop:=0≤o.2.2.2.2∧o.2.2.2.2≤18446744073709551615
structure Runs {σ γ S:Type}(g:σ→Option (σ⊕γ))(code:List uK)(st:Nat→Nat→(Nat→Int)→S→σ)(stp:cu→S→S)(Vd:Nat→S→Prop)(good:cu→Prop):Prop where
 op: ∀{p d l s m o to},code[p]?=some (de o to)→good o→(0<o.1∧o.1<7)→d≤8→Vd (1+m) s→g (st p d l s)=some (.inl (st (p+1) d l (stp o s)))∧Vd m (stp o s)
 rep: ∀{p d l s m o to},code[p]?=some (de o to)→o.1=7→d<8→Vd m s→g (st p d l s)=some (.inl (st (p+1) (d+1) (upd l d o.2.2.2.2) s))
 nxt: ∀{p d l s m e to},code[p]?=some (de e to)→e.1=0→d<8→1<l d→l d≤18446744073709551615→Vd m s→g (st p (d+1) l s)=some (.inl (st to (d+1) (upd l d (l d-1)) s))
 out: ∀{p d l s m e to},code[p]?=some (de e to)→e.1=0→d<8→l d=1→Vd m s→g (st p (d+1) l s)=some (.inl (st (p+1) d (upd l d (l d-1)) s))
section
variable {σ γ S:Type} {g:σ→Option (σ⊕γ)} {code:List uK} {st:Nat→Nat→(Nat→Int)→S→σ} {stp:cu→S→S} {Vd:Nat→S→Prop} {good:cu→Prop}
def uE (stp:cu→S→S)(l:List cu)(s:S):S:=l.foldl (fun s o=>stp o s) s
theorem aX6 (l r:List cu)(s:S):uE stp (l++r) s=uE stp r (uE stp l s):=List.foldl_append
theorem at3 {A B:List uK}{x:uK}{r:List uK}{p:Nat}(hc:code=A++(x::r)++B)(hp:A.length=p):code[p]?=some x:=by
 subst hp;rw[hc,dB,dD (aB _),bD];rfl
theorem rounds (hg:Runs g code st stp Vd good){p q d t n:Nat}{e:cu}{u:List cu}(hd:d<8)(hend:code[q]?=some (de e p))(he:e.1=0)
  (hb: ∀(l:Nat→Int) (s:S) (m:Nat),Vd (n+m) s→∃l',(∀i,i<d+1→l' i=l i)∧Reach g t (st p (d+1) l s) (st q (d+1) l' (uE stp u s))∧Vd m (uE stp u s)):
  ∀(k:Nat) (l:Nat→Int) (s:S) (m:Nat),k<18446744073709551615→l d=((k+1:Nat):Int)→Vd (n*(k+1)+m) s→
   ∃l',(∀i,i<d→l' i=l i)∧Reach g ((k+1)*(t+1)) (st p (d+1) l s) (st (q+1) d l' (uE stp (bB (k+1) u).flatten s))∧Vd m (uE stp (bB (k+1) u).flatten s)
 |0,l,s,m,hk,hl,hv=>by
  obtain⟨l1,h1,h2,h3⟩:=hb l s m (by rw[gR,iQ]at hv;exact hv);have hu:(bB (0+1) u).flatten=u:=by simp
  rw[hu];have hl1:l1 d=1:=by rw[h1 d (by omega),hl];rfl
  refine⟨upd l1 d (l1 d-1),fun i hi=>by rw[aP5 (by omega),h1 i (by omega)], ?_,h3⟩;have h4:=h2.trans (Reach.one (hg.out (l:=l1) hend he hd hl1 h3));rw[show(0+1)*(t+1)=t+1 by omega];exact h4
 |k+1,l,s,m,hk,hl,hv=>by
  have hn:n*(k+1+1)+m=n+(n*(k+1)+m):=by rw[Nat.mul_succ n (k+1)];omega
  rw[hn]at hv;obtain⟨l1,h1,h2,h3⟩:=hb l s _ hv;have hl1:l1 d=((k+1+1:Nat):Int):=by rw[h1 d (by omega),hl]
  have h4:=h2.trans (Reach.one (hg.nxt (l:=l1) hend he hd (by omega) (by omega) h3));obtain⟨l2,h5,h6,h7⟩:=rounds hg hd hend he hb k (upd l1 d (l1 d-1)) (uE stp u s) m (by omega) (by rw[oe,hl1];omega) h3;have hu:(bB (k+1+1) u).flatten=u++(bB (k+1) u).flatten:=by rw[List.replicate_succ,List.flatten_cons]
  rw[hu,aX6];refine⟨l2,fun i hi=>by rw[h5 i hi,aP5 (by omega),h1 i (by omega)], ?_,h7⟩;rw[show(k+1+1)*(t+1)=t+1+(k+1)*(t+1)by rw[Nat.succ_mul (k+1)];omega];exact h4.trans h6
theorem bj1 (hg:Runs g code st stp Vd good): ∀(f:Fo) {A B:List uK} {p d:Nat} {l:Nat→Int} {s:S} {m:Nat},code=A++f.code p++B→A.length=p→f.Ok→f.Pos→d+f.hi≤8→(∀o∈f.src,good o∧okV o)→Vd (f.n+m) s→
  ∃l',(∀i,i<d→l' i=l i)∧Reach g f.steps (st p d l s) (st (p+f.len) d l' (uE stp f.unroll s))∧Vd m (uE stp f.unroll s)
 | .nil,A,B,p,d,l,s,m,hc,hp,hk,hq,hh,hgd,hv=>by
  refine⟨l,fun _ _=>rfl,Reach.refl, ?_⟩;have:Fo.nil.n+m=m:=gR m;rw[this]at hv;exact hv
 | .op o r,A,B,p,d,l,s,m,hc,hp,hk,hq,hh,hgd,hv=>by
  simp only[Fo.n,Nat.add_assoc]at hv;simp only[Fo.hi]at hh;obtain⟨h1,h2⟩:=hg.op (d:=d) (l:=l) (at3 hc hp) (hgd o (by simp[Fo.src])).1 hk.1 (by omega) hv;have hA:(A++[de o 0]).length=p+1:=by simp[hp]
  obtain⟨l',h3,h4,h5⟩:=bj1 hg r (A:=A++[de o 0]) (B:=B) (p:=p+1) (d:=d) (l:=l) (by rw[hc];simp[Fo.code]) hA hk.2 hq hh (fun x hx=>hgd x (by simp[Fo.src,hx])) h2;refine⟨l',h3, ?_,h5⟩;have:=(Reach.one h1).trans h4;simp only[Fo.steps,Fo.len];rw[show p+(r.len+1)=p+1+r.len by omega];exact this
 | .rep o b e r,A,B,p,d,l,s,m,hc,hp,hk,hq,hh,hgd,hv=>by
  obtain⟨⟨k1,k2⟩,k3,k4⟩:=hk;obtain⟨q1,q2,q3⟩:=hq;simp only[Fo.n,Nat.add_assoc]at hv;simp only[Fo.hi]at hh;have hov:=(hgd o (by simp[Fo.src])).2;unfold okV at hov;have hvo:((oN o:Nat):Int)=o.2.2.2.2:=iS hov.1
  have hv0:0<oN o:=by
   rcases iP (oN o)with h0|h0
   ·rw[h0]at q1;simp at q1
   ·exact h0
  obtain⟨k,hk⟩: ∃k,oN o=k+1:=⟨oN o-1,by omega⟩
  have h1:=hg.rep (d:=d) (l:=l) (at3 hc hp) k1 (by omega) hv;have hA:(A++[de o (p+b.len+2)]).length=p+1:=by simp[hp]
  have hcb:code=(A++[de o (p+b.len+2)])++b.code (p+1)++(de e (p+1)::r.code (p+b.len+2)++B):=by rw[hc];simp[Fo.code]
  have hce:code=(A++de o (p+b.len+2)::b.code (p+1))++(de e (p+1)::r.code (p+b.len+2))++B:=by rw[hc];simp[Fo.code]
  have hAe:(A++de o (p+b.len+2)::b.code (p+1)).length=p+1+b.len:=by simp[hp,Fo.code_len];omega
  have hend:=at3 hce hAe
  obtain⟨l1,h2,h3,h4⟩:=rounds hg (p:=p+1) (q:=p+1+b.len) (d:=d) (t:=b.steps) (n:=b.n) (e:=e) (u:=b.unroll) (by omega) hend k2
   (fun l s m hm=>bj1 hg b hcb hA k3 q2 (by omega) (fun x hx=>hgd x (by simp[Fo.src,hx])) hm) k (upd l d o.2.2.2.2) s (r.n+m) (by omega) (by rw[oe,←hvo,hk]) (by rw[←hk];exact hv)
  have hcr:code=(A++de o (p+b.len+2)::(b.code (p+1)++[de e (p+1)]))++r.code (p+b.len+2)++B:=by rw[hc];simp[Fo.code]
  have hAr:(A++de o (p+b.len+2)::(b.code (p+1)++[de e (p+1)])).length=p+b.len+2:=by simp[hp,Fo.code_len];omega
  obtain⟨l2,h5,h6,h7⟩:=bj1 hg r (d:=d) (l:=l1) hcr hAr k4 q3 (by omega) (fun x hx=>hgd x (by simp[Fo.src,hx])) h4;simp only[Fo.unroll,Fo.steps,Fo.len];rw[aX6,hk];refine⟨l2,fun i hi=>by rw[h5 i hi,h2 i hi,aP5 (by omega)], ?_,h7⟩;have h8:=((Reach.one h1).trans h3).trans (show Reach g r.steps (st (p+1+b.len+1) d l1 _) _ from by rw[show p+1+b.len+1=p+b.len+2 by omega];exact h6);rw[show p+(b.len+r.len+2)=p+b.len+2+r.len by omega];exact h8
end
structure Backs {σ γ S:Type}(g:σ→Option (σ⊕γ))(code:List uK)(st:Nat→Nat→(Nat→Int)→S→σ)(stp:cu→S→S)(Vd:Nat→S→Prop)(good:cu→Prop):Prop where
 op: ∀{p d l s m o to},code[p]?=some (de o to)→good o→(0<o.1∧o.1<7)→d≤8→Vd (1+m) s→g (st (p+1) d l s)=some (.inl (st p d l (stp o s)))∧Vd m (stp o s)
 rep: ∀{p q d l s m o e to},code[p]?=some (de e (q+1))→e.1=0→code[q]?=some (de o to)→d<8→Vd m s→g (st (p+1) d l s)=some (.inl (st p (d+1) (upd l d o.2.2.2.2) s))
 nxt: ∀{p d l s m o to},code[p]?=some (de o (to+1))→to≤code.length→o.1=7→d<8→1<l d→l d≤18446744073709551615→Vd m s→g (st (p+1) (d+1) l s)=some (.inl (st to (d+1) (upd l d (l d-1)) s))
 out: ∀{p d l s m o to},code[p]?=some (de o (to+1))→o.1=7→d<8→l d=1→Vd m s→g (st (p+1) (d+1) l s)=some (.inl (st p d (upd l d (l d-1)) s))
section
variable {σ γ S:Type} {g:σ→Option (σ⊕γ)} {code:List uK} {st:Nat→Nat→(Nat→Int)→S→σ} {stp:cu→S→S} {Vd:Nat→S→Prop} {good:cu→Prop}
def xP (stp:cu→S→S)(l:List cu)(s:S):S:=l.foldr stp s
theorem bE7 (l r:List cu)(s:S):xP stp (l++r) s=xP stp l (xP stp r s):=List.foldr_append
theorem cj4 (hg:Backs g code st stp Vd good){p q d t n:Nat}{o:cu}{u:List cu}(hq:q≤code.length)(hd:d<8)(hbeg:code[p]?=some (de o (q+1)))(ho:o.1=7)
  (hb: ∀(l:Nat→Int) (s:S) (m:Nat),Vd (n+m) s→∃l',(∀i,i<d+1→l' i=l i)∧Reach g t (st q (d+1) l s) (st (p+1) (d+1) l' (xP stp u s))∧Vd m (xP stp u s)):
  ∀(k:Nat) (l:Nat→Int) (s:S) (m:Nat),k<18446744073709551615→l d=((k+1:Nat):Int)→Vd (n*(k+1)+m) s→
   ∃l',(∀i,i<d→l' i=l i)∧Reach g ((k+1)*(t+1)) (st q (d+1) l s) (st p d l' (xP stp (bB (k+1) u).flatten s))∧Vd m (xP stp (bB (k+1) u).flatten s)
 |0,l,s,m,hk,hl,hv=>by
  obtain⟨l1,h1,h2,h3⟩:=hb l s m (by rw[gR,iQ]at hv;exact hv);have hu:(bB (0+1) u).flatten=u:=by simp
  rw[hu];have hl1:l1 d=1:=by rw[h1 d (by omega),hl];rfl
  refine⟨upd l1 d (l1 d-1),fun i hi=>by rw[aP5 (by omega),h1 i (by omega)], ?_,h3⟩;have h4:=h2.trans (Reach.one (hg.out (l:=l1) hbeg ho hd hl1 h3));rw[show(0+1)*(t+1)=t+1 by omega];exact h4
 |k+1,l,s,m,hk,hl,hv=>by
  have hn:n*(k+1+1)+m=n+(n*(k+1)+m):=by rw[Nat.mul_succ n (k+1)];omega
  rw[hn]at hv;obtain⟨l1,h1,h2,h3⟩:=hb l s _ hv;have hl1:l1 d=((k+1+1:Nat):Int):=by rw[h1 d (by omega),hl]
  have h4:=h2.trans (Reach.one (hg.nxt (l:=l1) hbeg hq ho hd (by omega) (by omega) h3));obtain⟨l2,h5,h6,h7⟩:=cj4 hg hq hd hbeg ho hb k (upd l1 d (l1 d-1)) (xP stp u s) m (by omega) (by rw[oe,hl1];omega) h3;have hu:(bB (k+1+1) u).flatten=(bB (k+1) u).flatten++u:=by rw[jH,List.flatten_append];simp
  rw[hu,bE7];refine⟨l2,fun i hi=>by rw[h5 i hi,aP5 (by omega),h1 i (by omega)], ?_,h7⟩;rw[show(k+1+1)*(t+1)=t+1+(k+1)*(t+1)by rw[Nat.succ_mul (k+1)];omega];exact h4.trans h6
theorem aF7 (hg:Backs g code st stp Vd good): ∀(f:Fo) {A B:List uK} {p d:Nat} {l:Nat→Int} {s:S} {m:Nat},code=A++f.code p++B→A.length=p→f.Ok→f.Pos→d+f.hi≤8→(∀o∈f.src,good o∧okV o)→Vd (f.n+m) s→
  ∃l',(∀i,i<d→l' i=l i)∧Reach g f.steps (st (p+f.len) d l s) (st p d l' (xP stp f.unroll s))∧Vd m (xP stp f.unroll s)
 | .nil,A,B,p,d,l,s,m,hc,hp,hk,hq,hh,hgd,hv=>by
  refine⟨l,fun _ _=>rfl,Reach.refl, ?_⟩;have:Fo.nil.n+m=m:=gR m;rw[this]at hv;exact hv
 | .op o r,A,B,p,d,l,s,m,hc,hp,hk,hq,hh,hgd,hv=>by
  simp only[Fo.n]at hv;simp only[Fo.hi]at hh;have hA:(A++[de o 0]).length=p+1:=by simp[hp]
  obtain⟨l',h3,h4,h5⟩:=aF7 hg r (A:=A++[de o 0]) (B:=B) (p:=p+1) (d:=d) (l:=l) (m:=1+m) (by rw[hc];simp[Fo.code]) hA hk.2 hq hh (fun x hx=>hgd x (by simp[Fo.src,hx])) (by rw[show r.n+(1+m)=1+r.n+m by omega];exact hv);obtain⟨h1,h2⟩:=hg.op (d:=d) (l:=l') (at3 hc hp) (hgd o (by simp[Fo.src])).1 hk.1 (by omega) h5;refine⟨l',h3, ?_,h2⟩;have:=h4.trans (Reach.one h1);simp only[Fo.steps,Fo.len];rw[show p+(r.len+1)=p+1+r.len by omega,Nat.add_comm 1];exact this
 | .rep o b e r,A,B,p,d,l,s,m,hc,hp,hk,hq,hh,hgd,hv=>by
  obtain⟨⟨k1,k2⟩,k3,k4⟩:=hk;obtain⟨q1,q2,q3⟩:=hq;simp only[Fo.n]at hv;simp only[Fo.hi]at hh;have hov:=(hgd o (by simp[Fo.src])).2;unfold okV at hov;have hvo:((oN o:Nat):Int)=o.2.2.2.2:=iS hov.1
  have hv0:0<oN o:=by
   rcases iP (oN o)with h0|h0
   ·rw[h0]at q1;simp at q1
   ·exact h0
  obtain⟨k,hk⟩: ∃k,oN o=k+1:=⟨oN o-1,by omega⟩
  have hbeg:=at3 hc hp;have hA:(A++[de o (p+b.len+2)]).length=p+1:=by simp[hp]
  have hcb:code=(A++[de o (p+b.len+2)])++b.code (p+1)++(de e (p+1)::r.code (p+b.len+2)++B):=by rw[hc];simp[Fo.code]
  have hce:code=(A++de o (p+b.len+2)::b.code (p+1))++(de e (p+1)::r.code (p+b.len+2))++B:=by rw[hc];simp[Fo.code]
  have hAe:(A++de o (p+b.len+2)::b.code (p+1)).length=p+1+b.len:=by simp[hp,Fo.code_len];omega
  have hend:=at3 hce hAe;have hcr:code=(A++de o (p+b.len+2)::(b.code (p+1)++[de e (p+1)]))++r.code (p+b.len+2)++B:=by rw[hc];simp[Fo.code]
  have hAr:(A++de o (p+b.len+2)::(b.code (p+1)++[de e (p+1)])).length=p+b.len+2:=by simp[hp,Fo.code_len];omega
  obtain⟨l2,h5,h6,h7⟩:=aF7 hg r (d:=d) (l:=l) (m:=b.n*oN o+m) hcr hAr k4 q3 (by omega) (fun x hx=>hgd x (by simp[Fo.src,hx])) (by rw[show r.n+(b.n*oN o+m)=b.n*oN o+r.n+m by omega];exact hv);have h1:=hg.rep (d:=d) (l:=l2) hend k2 hbeg (by omega) h7
  obtain⟨l1,h2,h3,h4⟩:=cj4 hg (p:=p) (q:=p+1+b.len) (d:=d) (t:=b.steps) (n:=b.n) (o:=o) (u:=b.unroll) (Nat.le_of_lt (List.getElem?_eq_some_iff.1 hend).1) (by omega) (by rw[hbeg];congr 2;omega) k1
   (fun l s m hm=>aF7 hg b hcb hA k3 q2 (by omega) (fun x hx=>hgd x (by simp[Fo.src,hx])) hm) k (upd l2 d o.2.2.2.2) _ m (by omega) (by rw[oe,←hvo,hk]) (by rw[←hk];exact h7)
  simp only[Fo.unroll,Fo.steps,Fo.len];rw[bE7,hk];refine⟨l1,fun i hi=>by rw[h2 i hi,aP5 (by omega),h5 i hi], ?_,h4⟩;have h8:=(h6.trans (show Reach g 1 _ _ from by rw[show p+b.len+2=p+1+b.len+1 by omega];exact Reach.one h1)).trans h3;rw[show p+(b.len+r.len+2)=p+b.len+2+r.len by omega,show 1+(k+1)*(b.steps+1)+r.steps=r.steps+1+(k+1)*(b.steps+1)by omega];exact h8
end
end
end Go.V
