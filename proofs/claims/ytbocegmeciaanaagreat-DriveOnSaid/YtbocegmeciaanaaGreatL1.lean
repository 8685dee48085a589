/- A part of the proofs of this claim: what functions of the program answer on an abstract machine, and plain laws. No condition. -/
import Derived.Test.YtbocegmeciaanaaGreatD2
import Derived.Test.YtbocegmeciaanaaGreatA6
import Derived.KernelRfl
set_option linter.unusedVariables false
set_option linter.unusedSimpArgs false
set_option linter.unusedSectionVars false
namespace Go.V
open Go.Ab
set_option maxRecDepth 100000
abbrev ec :=Int×Int×Int×Int×Int
def dg :List ec→Nat→Option Nat
 |[],d=>some d
 |o::r,d=>if o.1<0∨7<o.1 then none else if o.1=0 then(if d=0 then none else dg r (d-1))else if o.1=7 then dg r (d+1)else dg r d
theorem sj : ∀(l r:List ec) (d:Nat),dg (l++r) d=(dg l d).bind (dg r)
 |[],r,d=>rfl
 |o::l,r,d=>by
  simp only[List.cons_append,dg];split
  ·rfl
  split
  ·split
   ·rfl
   ·exact sj l r _
  split
  ·exact sj l r _
  ·exact sj l r _
theorem aF2 : ∀(l:List ec) (d d':Nat),dg l d=some d'→dg l (d+1)=some (d'+1)
 |[],d,d',h=>by
  injection h with h
  subst h;rfl
 |o::l,d,d',h=>by
  simp only[dg]at h⊢;split at h
  ·cases h
  rename_i c;rw[if_neg c];split at h
  ·rename_i c2;rw[if_pos c2];split at h
   ·cases h
   ·rename_i c3;rw[if_neg (by omega)];have:=aF2 l _ _ h
    rwa [show d-1+1=d+1-1 by omega]at this
  rename_i c2;rw[if_neg c2];split at h
  ·rename_i c3;rw[if_pos c3];exact aF2 l _ _ h
  ·rename_i c3;rw[if_neg c3];exact aF2 l _ _ h
def cr4 (l:List ec)(s:Int×Bool×(List Int)×(List Int)×List Int):Prop:=
 ∃(i:Nat) (out st:List Int),i≤l.length∧s=((i:Int),true,out,st,st)∧out.length=l.length∧(∀x∈st,0≤x∧x<l.length)∧st.length≤i∧dg (l.drop i) st.length=dg l 0
theorem cp2 {st:List Int}(h:st≠[]): ∃pre x,st=pre++[x]:=⟨st.dropLast,st.getLast h,(List.dropLast_concat_getLast h).symm⟩
theorem bH5 {l:List ec}(hl:l.length≤100000)(s:Int×Bool×(List Int)×(List Int)×List Int)(h:cr4 l s):
  (∃b,dD l s=some (.inl b)∧cr4 l b∧l.length-b.1.toNat<l.length-s.1.toNat)∨∃c,dD l s=some (.inr c)∧((c.1=false∧dg l 0=none)∨(c.1=true∧dg l 0=some c.2.2.1.length)):=by
 obtain⟨i,out,st,hi,rfl,ho,hst,hsl,hsc⟩:=h;by_cases c:i<l.length
 ·have hdrop:l.drop i=l[i]::l.drop (i+1):=(List.getElem_cons_drop c).symm;rw[hdrop]at hsc;simp only[dD];rw[decide_eq_true (show(i:Int)<(l.length:Int)by omega),cond_true,iz c];simp only[Option.bind_some];generalize hx:l[i]=x at*;simp only[dg]at hsc;by_cases k0:x.1<0
  ·rw[if_pos (.inl k0)]at hsc;rw[decide_eq_true k0];simp only[cond_true,Option.bind_some,kf];exact .inr ⟨_,rfl, .inl ⟨rfl,hsc.symm⟩⟩
  rw[decide_eq_false k0,cond_false];by_cases k7:7<x.1
  ·rw[if_pos (.inr k7)]at hsc;rw[decide_eq_true k7];simp only[cond_true,Option.bind_some,dw,kf];exact .inr ⟨_,rfl, .inl ⟨rfl,hsc.symm⟩⟩
  rw[decide_eq_false k7,cond_false];rw[if_neg (by omega)]at hsc;by_cases kz:x.1=0
  ·rw[if_pos kz]at hsc;rw[decide_eq_true kz];simp only[cond_true,Option.bind_some,dw];by_cases hs0:st.length=0
   ·rw[if_pos hs0]at hsc;rw[decide_eq_true (show(st.length:Int)=0 by omega)];simp only[cond_true,Option.bind_some,kf];exact .inr ⟨_,rfl, .inl ⟨rfl,hsc.symm⟩⟩
   ·rw[if_neg hs0]at hsc;rw[decide_eq_false (show¬(st.length:Int)=0 by omega),cond_false];rw[bD (n:=(st.length:Int)-1) (by omega),kg (by omega),gw];simp only[Option.bind_some,dw];obtain⟨pre,q,rfl⟩:=cp2 (st:=st) (by intro e;subst e;exact hs0 rfl);have hq:=hst q (by simp);have hlen:(pre++[q]).length=pre.length+1:=by simp
    have ht:(((pre++[q]).length:Int)-1).toNat-0=pre.length:=by rw[hlen];omega
    have e7:decide (x.1=7)=false:=decide_eq_false (by omega);rw[dk (show i<out.length by omega)];simp only[Option.bind_some];rw[List.getElem?_eq_getElem (show i<out.length by omega)];simp only[Option.bind_some];rw[e7,cond_false,show((pre++[q]).length:Int)-1=(pre.length:Int)by rw[hlen];omega,dk (show pre.length<(pre++[q]).length by omega)];simp only[Option.bind_some];rw[List.getElem?_append_right (Nat.le_refl _),Nat.sub_self];simp only[List.getElem?_cons_zero,Option.bind_some];rw[gw,dk (show i<(out.set i (-1)).length by simp;omega)];simp only[Option.bind_some];rw[List.getElem?_eq_getElem (show i<(out.set i (-1)).length by simp;omega)];simp only[Option.bind_some];obtain⟨qn,rfl⟩:=Int.eq_ofNat_of_zero_le hq.1;have hqn:qn<out.length:=by omega
    rw[dk (show qn<((out.set i (-1)).set i ((qn:Nat):Int)).length by simp;omega)];simp only[Option.bind_some];rw[List.getElem?_eq_getElem (show qn<((out.set i (-1)).set i ((qn:Nat):Int)).length by simp;omega)];simp only[Option.bind_some]
    have htk:(pre++[(qn:Int)]).take ((pre.length:Int).toNat-0)=pre:=by
     rw[show(pre.length:Int).toNat-0=pre.length by omega,List.take_left'];rfl
    rw[htk,bD (n:=(i:Int)+1) (by omega)];refine .inl ⟨_,rfl,⟨i+1,_,pre,c,rfl,by simp[ho],fun y hy=>hst y (by simp[hy]),by rw[hlen]at hsl;omega, ?_⟩,by simp;omega⟩;rw[hlen]at hsc;exact hsc
  ·rw[if_neg kz]at hsc;have ez:decide (x.1=0)=false:=decide_eq_false kz;rw[ez];simp only[cond_false,Option.bind_some,dw];rw[dk (show i<out.length by omega)];simp only[Option.bind_some];rw[List.getElem?_eq_getElem (show i<out.length by omega)];simp only[Option.bind_some];by_cases k7:x.1=7
   ·rw[if_pos k7]at hsc;rw[decide_eq_true k7];simp only[cond_true];rw[gv (by omega) (by omega),gv (by omega) (by omega),bD (n:=(i:Int)+1) (by omega)];refine .inl ⟨_,rfl,⟨i+1,_,st++[(i:Int)],c,rfl,by simp[ho],fun y hy=> ?_,by simp;omega, ?_⟩,by simp;omega⟩
    ·rcases List.mem_append.1 hy with hy|hy
     ·exact hst y hy
     ·simp at hy;subst hy;omega
    ·rw[List.length_append];exact hsc
   ·rw[if_neg k7]at hsc;rw[decide_eq_false k7];simp only[cond_false];rw[bD (n:=(i:Int)+1) (by omega)];exact .inl ⟨_,rfl,⟨i+1,_,st,c,rfl,by simp[ho],hst,by omega,hsc⟩,by simp;omega⟩
 ·have hi':i=l.length:=by omega
  subst hi';rw[List.drop_length]at hsc;simp only[dD];rw[decide_eq_false (show¬(l.length:Int)<(l.length:Int)by omega),cond_false];exact .inr ⟨_,rfl, .inr ⟨rfl,hsc.symm⟩⟩
theorem az4 {l:List ec}(hl:l.length≤100000): ∃m,np l=some (if dg l 0=some 0 then 0 else 6,m):=by
 unfold np;rw[decide_eq_true (show(0:Int)≤(l.length:Int)by omega),decide_eq_true (show(l.length:Int)≤(l.length:Int)by omega),decide_eq_true (show 8*(l.length:Int)≤140737488355328 by omega)];show∃m,gd true _=_
 rw[gw]
 obtain⟨c,hc,h⟩:=an9 (f:=dD l) (a:=((0:Int),true,List.replicate ((l.length:Int)).toNat (0:Int),([]:List Int),([]:List Int))) (cr4 l) (fun s=>l.length-s.1.toNat) (fun c=>(c.1=false∧dg l 0=none)∨(c.1=true∧dg l 0=some c.2.2.1.length))
  ⟨0,_,[],Nat.zero_le _,rfl,by simp,(fun x hx=>by cases hx),Nat.le_refl _,rfl⟩ (by simp;omega) (fun s hs=>bH5 hl s hs)
 rw[hc];simp only[Option.bind_some];rcases h with⟨h1,h2⟩|⟨h1,h2⟩
 ·rw[h1,h2];exact⟨_,rfl⟩
 ·rw[h1,h2,cond_true];by_cases c0:c.2.2.1.length=0
  ·rw[decide_eq_true (show(c.2.2.1.length:Int)=0 by omega),if_pos (by rw[c0])];exact⟨_,rfl⟩
  ·rw[decide_eq_false (show¬(c.2.2.1.length:Int)=0 by omega),if_neg (by intro e;injection e with e;exact c0 e)];exact⟨_,rfl⟩
def xV (w v:Int):Option Int:=if w=0 then some 0 else if 65536<w then none else if 65536 / w<v then none else some (w*v)
def sI :List ec→List (Int×Int)→Option (List (Int×Int))
 |[],st=>some st
 |o::r,(v,w)::st=>if o.1=7 then sI r ((o.2.2.2.2,0)::(v,w)::st)else if o.1=0 then(match xV w v,st with
   |some n,(v',w')::st'=>sI r ((v',w'+n)::st')
   |_,_=>none)
  else sI r ((v,w+1)::st)
 |_::_,[]=>none
theorem ba1 {w v:Int}(hw:0≤w∧w≤10000000000)(hv:0≤v∧v≤18446744073709551615):tE w v=some (match xV w v with
  |some n=>(n,true)
  |none=>(0,false)):=by
 unfold tE xV;simp only[ck];by_cases c1:w=0
 ·rw[if_pos c1,if_pos c1]
 rw[if_neg c1,if_neg c1];by_cases c2:65536<w
 ·rw[if_pos c2,if_pos c2]
 rw[if_neg c2,if_neg c2,decide_eq_true (show w≠0 from c1),gw,bP4 (by omega)];have h1:0≤65536 / w:=Int.ediv_nonneg (by omega) (by omega);have h2:65536 / w≤65536:=Int.ediv_le_self _ (by omega);rw[bD (n:=65536 / w) (by omega),ga (by omega)];by_cases c3:65536 / w<v
 ·rw[if_pos c3,if_pos c3]
 ·rw[if_neg c3,if_neg c3]
  have h3:w*v≤65536:=by
   have h4:v≤65536 / w:=by omega
   have h5:=Int.mul_le_mul_of_nonneg_left h4 (show 0≤w by omega);have h6:=Int.mul_ediv_self_le (x:=65536) (k:=w) (by omega);omega
  have h7:=Int.mul_nonneg (show 0≤w by omega) hv.1;rw[bD (n:=v) (by omega),bD (n:=w*v) (by omega)]
theorem aC2 {w v n:Int}(hw:0≤w)(hv:0≤v)(h:xV w v=some n):0≤n∧n≤65536:=by
 unfold xV at h;split at h
 ·injection h with h;subst h;omega
 split at h
 ·cases h
 split at h
 ·cases h
 rename_i c1 c2 c3;injection h with h
 subst h;have h4:v≤65536 / w:=by omega
 have h5:=Int.mul_le_mul_of_nonneg_left h4 (show 0≤w by omega);have h6:=Int.mul_ediv_self_le (x:=65536) (k:=w) (by omega);exact⟨Int.mul_nonneg hw hv,by omega⟩
theorem aw3 {k:Int}(h:0<k∧k<7)(d a b v:Int):kj k d a b v=some (d,true):=by
 unfold kj sK;simp only[ck];have:k=1∨k=2∨k=3∨k=4∨k=5∨k=6:=by omega
 rcases this with rfl|rfl|rfl|rfl|rfl|rfl<;>rfl
theorem bC2 (a b:Int)(ha:0≤a∧a≤1000000000000)(hb:0≤b∧b≤65536):wT [a,b]=some (a+b):=by
 unfold wT
 have hl:cw (yo [a,b]) iJ (0,0)=some (a+b):=by
  have h:=qD (f:=yo [a,b]) (n:=2) (fun i=>match i with|0=>0|1=>a|_=>a+b) (c:=a+b) (by omega) ?_ ?_
  ·exact h
  ·intro i hi
   match i,hi with
   |0,_=>
    show some (Sum.inl (IntKind.i64.wrap 1,IntKind.i64.wrap (0+a)))=_;rw[bD (by omega),bD (by omega),Int.zero_add];rfl
   |1,_=>
    show some (Sum.inl (IntKind.i64.wrap 2,IntKind.i64.wrap (a+b)))=_;rw[bD (by omega),bD (by omega)];rfl
  ·rfl
 rw[hl];rfl
def cp1 (l:List ec)(op:List (Int×Int)):List (Int×Int):=op.reverse.map fun p=>((l.getD p.1.toNat (0,0,0,0,0)).2.2.2.2,p.2)
theorem wN (l:List ec)(pre:List (Int×Int))(p:Int×Int):cp1 l (pre++[p])=((l.getD p.1.toNat (0,0,0,0,0)).2.2.2.2,p.2)::cp1 l pre:=by
 unfold cp1;rw[List.reverse_append,List.map_append];rfl
def cr8 (l:List ec)(s:Int×(List Int)×(List Int)×List (Int×Int)):Prop:=
 ∃(i:Nat) (sz rd:List Int) (op:List (Int×Int)),i≤l.length∧s=((i:Int),sz,rd,op)∧sz.length=l.length∧rd.length=l.length∧op≠[]∧op.length≤i+1∧(∀p∈op,0≤p.1∧p.1<max (l.length:Int) 1∧0≤p.2∧p.2≤65537*i)∧
  dg (l.drop i) (op.length-1)=some 0∧sI (l.drop i) (cp1 l op)=sI l [((l.getD 0 (0,0,0,0,0)).2.2.2.2,0)]
theorem bM2 {l:List ec}{i:Nat}(h:i<l.length):l.getD i (0,0,0,0,0)=l[i]:=by
 rw[List.getD_eq_getElem?_getD,List.getElem?_eq_getElem h];rfl
theorem bq3 {l:List ec}(hl:l.length≤100000)(hv: ∀o∈l,0≤o.2.2.2.2∧o.2.2.2.2≤18446744073709551615)(s:Int×(List Int)×(List Int)×List (Int×Int))(h:cr8 l s):
  (∃b,dx l s=some (.inl b)∧cr8 l b∧l.length-b.1.toNat<l.length-s.1.toNat)∨
  ∃c,dx l s=some (.inr c)∧((c.1=9∧sI l [((l.getD 0 (0,0,0,0,0)).2.2.2.2,0)]=none)∨(c.1=0∧∃p:Int×Int,c.2.2.2=[p]∧0≤p.2∧sI l [((l.getD 0 (0,0,0,0,0)).2.2.2.2,0)]=some [((l.getD p.1.toNat (0,0,0,0,0)).2.2.2.2,p.2)])):=by
 obtain⟨i,sz,rds,op,hi,rfl,hsz,hrd,hne,hol,hop,hsc,hrun⟩:=h;obtain⟨pre,⟨at',w⟩,rfl⟩: ∃pre x,op=pre++[x]:=⟨op.dropLast,op.getLast hne,(List.dropLast_concat_getLast hne).symm⟩
 have hlast:=hop (at',w) (by simp);simp only at hlast;have hlen:(pre++[(at',w)]).length=pre.length+1:=by simp
 rw[hlen]at hol hsc;rw[Nat.add_sub_cancel]at hsc
 have hget:(pre++[(at',w)])[pre.length]?=some (at',w):=by
  rw[List.getElem?_append_right (Nat.le_refl _),Nat.sub_self];rfl
 by_cases c:i<l.length
 ·have hdrop:l.drop i=l[i]::l.drop (i+1):=(List.getElem_cons_drop c).symm;have hlv:=hv _ (List.getElem_mem c);have hDi:l.getD i (0,0,0,0,0)=l[i]:=bM2 c;rw[hdrop]at hsc hrun;rw[wN]at hrun;simp only[dx];rw[decide_eq_true (show(i:Int)<(l.length:Int)by omega),cond_true,iz c];simp only[Option.bind_some];generalize hx:l[i]=x at*;simp only[dg]at hsc;simp only[sI]at hrun
  have hk: ¬(x.1<0∨7<x.1):=by
   intro hk;rw[if_pos hk]at hsc;cases hsc
  rw[if_neg hk]at hsc;rw[hlen,bD (n:=((pre.length+1:Nat):Int)-1) (by omega),show((pre.length+1:Nat):Int)-1=(pre.length:Int)by omega,dk (show pre.length<pre.length+1 by omega)];simp only[Option.bind_some];by_cases k7:x.1=7
  ·rw[if_neg (by omega),if_pos k7]at hsc;rw[if_pos k7]at hrun;rw[decide_eq_true k7,cond_true,gv (by omega) (by omega),bD (n:=(i:Int)+1) (by omega)];refine .inl ⟨_,rfl,⟨i+1,sz,rds,pre++[(at',w)]++[((i:Int),0)],c,rfl,hsz,hrd,by simp,by simp;omega,fun p hp=> ?_, ?_, ?_⟩,by simp;omega⟩
   ·rcases List.mem_append.1 hp with hp|hp
    ·have:=hop p hp;omega
    ·simp at hp;subst hp;simp only;omega
   ·rw[List.length_append,hlen];exact hsc
   ·rw[wN,wN];simp only[Int.toNat_natCast];rw[hDi];exact hrun
  ·rw[if_neg k7]at hrun;rw[decide_eq_false k7,cond_false];by_cases kz:x.1=0
   ·rw[if_pos kz]at hsc hrun;rw[decide_eq_true kz,cond_true]
    have hp0:pre.length≠0:=by
     intro e;rw[if_pos e]at hsc;cases hsc
    rw[if_neg hp0]at hsc
    obtain⟨pre2,⟨at2,w2⟩,rfl⟩: ∃pre2 x,pre=pre2++[x]:=by
     have hne2:pre≠[]:=by intro e;subst e;exact hp0 rfl
     exact⟨pre.dropLast,pre.getLast hne2,(List.dropLast_concat_getLast hne2).symm⟩
    have hl2:(pre2++[(at2,w2)]).length=pre2.length+1:=by simp
    have hlast2:=hop (at2,w2) (by simp);simp only at hlast2;obtain⟨an,rfl⟩:=Int.eq_ofNat_of_zero_le hlast.1;have han:an<l.length:=by omega
    rw[hget];simp only[Option.bind_some];rw[iz han];simp only[Option.bind_some];have hvv:=hv _ (List.getElem_mem han);rw[ba1 ⟨hlast.2.2.1,by omega⟩ hvv];simp only[Option.bind_some];rw[wN]at hrun;simp only[Int.toNat_natCast]at hrun;rw[bM2 han]at hrun;cases hb:xV w l[an].2.2.2.2 with
    |none=>
     rw[hb]at hrun;simp only[Bool.not_false,cond_true];exact .inr ⟨_,rfl, .inl ⟨rfl,hrun.symm⟩⟩
    |some n=>
     rw[hb]at hrun;have hn:=aC2 hlast.2.2.1 hvv.1 hb;simp only[Bool.not_true,cond_false];rw[dk (show an<sz.length by omega)];simp only[Option.bind_some];rw[List.getElem?_eq_getElem (show an<sz.length by omega)];simp only[Option.bind_some];rw[dk (show an<rds.length by omega)];simp only[Option.bind_some];rw[List.getElem?_eq_getElem (show an<rds.length by omega)];simp only[Option.bind_some];rw[kg (by omega),gw];have e1:((pre2++[(at2,w2)]).length:Int).toNat-0=pre2.length+1:=by rw[hl2];omega
     rw[e1,bD (n:=((pre2.length+1:Nat):Int)-1) (by omega),show((pre2.length+1:Nat):Int)-1=(pre2.length:Int)by omega,dk (show pre2.length<pre2.length+1 by omega)];simp only[Option.bind_some,Nat.zero_add]
     have hg2:(pre2++[(at2,w2)]++[((an:Int),w)])[pre2.length]?=some (at2,w2):=by
      rw[List.append_assoc,List.getElem?_append_right (Nat.le_refl _),Nat.sub_self];rfl
     rw[hg2];simp only[Option.bind_some];rw[bC2 _ _ (by omega) hn];simp only[Option.bind_some]
     have htk:((pre2++[(at2,w2)]++[((an:Int),w)]).set pre2.length (at2,w2+n)).take (pre2.length+1)=pre2++[(at2,w2+n)]:=by
      rw[List.append_assoc,List.set_append_right _ _ (Nat.le_refl _),Nat.sub_self];show(pre2++[(at2,w2+n),((an:Int),w)]).take (pre2.length+1)=_;rw[show [(at2,w2+n),((an:Int),w)]=[(at2,w2+n)]++[((an:Int),w)]from rfl,←List.append_assoc,List.take_left'];simp
     rw[htk,bD (n:=(i:Int)+1) (by omega)];refine .inl ⟨_,rfl,⟨i+1,_,_,pre2++[(at2,w2+n)],c,rfl,by simp[hsz],by simp[hrd],by simp,by simp;omega,fun p hp=> ?_, ?_, ?_⟩,by simp;omega⟩
     ·rcases List.mem_append.1 hp with hp|hp
      ·have:=hop p (by simp[hp]);omega
      ·simp at hp;subst hp;simp only;omega
     ·rw[hl2]at hsc;rw[List.length_append];exact hsc
     ·rw[wN];exact hrun
   ·rw[if_neg kz]at hsc hrun;rw[if_neg k7]at hsc;rw[decide_eq_false kz,cond_false,aw3 (by omega)];simp only[Option.bind_some,cond_true];rw[dk (show i<sz.length by omega)];simp only[Option.bind_some];rw[List.getElem?_eq_getElem (show i<sz.length by omega)];simp only[Option.bind_some];rw[hget];simp only[Option.bind_some];rw[bD (n:=w+1) (by omega),bD (n:=(i:Int)+1) (by omega)]
    have hset:(pre++[(at',w)]).set pre.length (at',w+1)=pre++[(at',w+1)]:=by
     rw[List.set_append_right _ _ (Nat.le_refl _),Nat.sub_self];rfl
    rw[hset];refine .inl ⟨_,rfl,⟨i+1,_,rds,pre++[(at',w+1)],c,rfl,by simp[hsz],hrd,by simp,by simp;omega,fun p hp=> ?_, ?_, ?_⟩,by simp;omega⟩
    ·rcases List.mem_append.1 hp with hp|hp
     ·have:=hop p (by simp[hp]);omega
     ·simp at hp;subst hp;simp only;omega
    ·rw[List.length_append];exact hsc
    ·rw[wN];exact hrun
 ·have hi':i=l.length:=by omega
  subst hi';rw[List.drop_length]at hsc hrun;simp only[dx];rw[decide_eq_false (show¬(l.length:Int)<(l.length:Int)by omega),cond_false]
  have hp:pre=[]:=by
   have hsc:some pre.length=some 0:=hsc;injection hsc with hsc
   exact List.length_eq_zero_iff.1 hsc
  subst hp;refine .inr ⟨_,rfl, .inr ⟨rfl,(at',w),rfl,hlast.2.2.1, ?_⟩⟩;rw[←hrun];rfl
def Q9 (l:List ec):Option Int:=(sI l [((l.getD 0 (0,0,0,0,0)).2.2.2.2,0)]).bind fun st=>match st with
 |[p]=>some p.2
 |_=>none
def ff (l:List ec):Int×Int:=if dg l 0=some 0 then(match Q9 l with
 |some w=>if 65536<w then(0,9)else(w,0)
 |none=>(0,9))else(0,6)
theorem vt {l:List ec}(hl:l.length≤100000)(hv: ∀o∈l,0≤o.2.2.2.2∧o.2.2.2.2≤18446744073709551615):ik l=some (ff l):=by
 unfold ik lx;obtain⟨m,hm⟩:=az4 hl;rw[hm];unfold ff;by_cases hs:dg l 0=some 0
 ·simp only[if_pos hs];simp only[Option.bind_some];rw[decide_eq_false (by simp),cond_false];rw[decide_eq_true (show(0:Int)≤(l.length:Int)by omega),decide_eq_true (show(l.length:Int)≤(l.length:Int)by omega),decide_eq_true (show 8*(l.length:Int)≤140737488355328 by omega)];have hgd: ∀{β:Type} {y:Option β},gd (Nat.beq 1 (Sh.w (.int .i64))&&true&&true&&true&&Nat.ble 1 8) y=y:=fun {β y}=>rfl
  rw[hgd,hgd]
  obtain⟨c,hc,h⟩:=an9 (f:=dx l) (a:=((0:Int),List.replicate ((l.length:Int)).toNat (0:Int),List.replicate ((l.length:Int)).toNat (0:Int),[((0:Int),(0:Int))])) (cr8 l) (fun s=>l.length-s.1.toNat) _
   ⟨0,_,_,[(0,0)],Nat.zero_le _,rfl,by simp,by simp,by simp,by simp,(fun p hp=>by simp at hp;subst hp;simp only;omega),hs,rfl⟩ (by simp;omega) (fun s h=>bq3 hl hv s h)
  rw[hc];simp only[Option.bind_some];unfold Q9;rcases h with⟨h1,h2⟩|⟨h1,p,h3,h4,h5⟩
  ·rw[h1,h2];rfl
  ·rw[h1,h5,h3];show((((cond (decide (65536<p.2)) (some (9:Int)) (some 0)).bind fun s36=>cond (decide (s36≠0)) (some ((0:Int),s36,([]:List Int),([]:List Int))) (some (p.2,0,c.2.1,c.2.2.1))).bind fun r1=>some (r1.1,r1.2.1)))=some (if 65536<p.2 then(0,9)else(p.2,0));rw[ck];by_cases c6:65536<p.2
   ·rw[if_pos c6,if_pos c6];rfl
   ·rw[if_neg c6,if_neg c6];rfl
 ·simp only[if_neg hs];rfl
theorem zk : ∀(l r:List ec) (st:List (Int×Int)),sI (l++r) st=(sI l st).bind (sI r)
 |[],r,st=>rfl
 |o::l,r,[]=>rfl
 |o::l,r,(v,w)::st=>by
  simp only[List.cons_append,sI];split
  ·exact zk l r _
  split
  ·split
   ·exact zk l r _
   ·rfl
  ·exact zk l r _
def bN2 (v w:Int)(base:List (Int×Int)):List (Int×Int)→List (Int×Int)
 |[]=>[]
 |[p]=>(v,w+p.2)::base
 |p::q::r=>p::bN2 v w base (q::r)
theorem bh3 (v w:Int)(base:List (Int×Int))(p:Int×Int): ∀fs:List (Int×Int),bN2 v w base (fs++[p])=fs++(v,w+p.2)::base
 |[]=>rfl
 |[a]=>rfl
 |a::b::r=>by
  show a::bN2 v w base (b::r++[p])=_;rw[bh3 v w base p (b::r)];rfl
theorem tb (v w:Int)(base:List (Int×Int)): ∀(l:List ec) (fs:List (Int×Int)) (n0:Int) (d':Nat),dg l fs.length=some d'→sI l (fs++(v,w+n0)::base)=(sI l (fs++[(0,n0)])).map (bN2 v w base)
 |[],fs,n0,d',_=>by
  show some _=some _;rw[bh3]
 |o::l,[],n0,d',h=>by
  simp only[dg,List.length_nil]at h;simp only[List.nil_append,sI];split at h
  ·cases h
  split at h
  ·rw[if_pos trivial]at h;cases h
  rename_i c1 c2;split at h
  ·rename_i c3;rw[if_pos c3,if_pos c3];exact tb v w base l [(o.2.2.2.2,0)] n0 d' h
  ·rename_i c3;rw[if_neg c3,if_neg c2,if_neg c3,if_neg c2,Int.add_assoc];exact tb v w base l [] (n0+1) d' h
 |o::l,(fv,fw)::fs,n0,d',h=>by
  simp only[dg,List.length_cons]at h;simp only[List.cons_append,sI];split at h
  ·cases h
  split at h
  ·rename_i c1 c2;rw[if_neg (by omega)]at h;rw[if_neg (by omega),if_pos c2,if_neg (by omega),if_pos c2];cases hb:xV fw fv with
   |none=>rfl
   |some n=>
    cases fs with
    |nil=>
     simp only[List.nil_append];rw[Int.add_assoc];exact tb v w base l [] (n0+n) d' h
    |cons q fs=>
     simp only[List.cons_append];exact tb v w base l ((q.1,q.2+n)::fs) n0 d' h
  rename_i c1 c2;split at h
  ·rename_i c3;rw[if_pos c3,if_pos c3];exact tb v w base l ((o.2.2.2.2,0)::(fv,fw)::fs) n0 d' h
  ·rename_i c3;rw[if_neg c3,if_neg c2,if_neg c3,if_neg c2];exact tb v w base l ((fv,fw+1)::fs) n0 d' h
theorem aF1 : ∀(l:List ec) (st st':List (Int×Int)) (d d':Nat),st.length=d+1→dg l d=some d'→sI l st=some st'→st'.length=d'+1
 |[],st,st',d,d',h1,h2,h3=>by
  injection h2 with h2
  injection h3 with h3
  subst h2;subst h3;exact h1
 |o::l,[],st',d,d',h1,_,_=>by simp at h1
 |o::l,(v,w)::st,st',d,d',h1,h2,h3=>by
  simp only[dg]at h2;simp only[sI]at h3;simp only[List.length_cons,Nat.add_right_cancel_iff]at h1;split at h2
  ·cases h2
  split at h2
  ·rename_i c1 c2;split at h2
   ·cases h2
   rw[if_neg (by omega),if_pos c2]at h3;split at h3
   ·rename_i c3 _ _ n v' w' st2 _;exact aF1 l _ st' (d-1) d' (by simp at h1⊢;omega) h2 h3
   ·cases h3
  rename_i c1 c2;split at h2
  ·rename_i c3;rw[if_pos c3]at h3;exact aF1 l _ st' (d+1) d' (by simp;omega) h2 h3
  ·rename_i c3;rw[if_neg c3,if_neg c2]at h3;exact aF1 l _ st' d d' (by simp;omega) h2 h3
theorem aQ4 : ∀(l:List ec) (st st':List (Int×Int)),(∀o∈l,0≤o.2.2.2.2)→(∀p∈st,0≤p.1∧0≤p.2)→sI l st=some st'→∀p∈st',0≤p.2
 |[],st,st',_,h,h3=>by
  injection h3 with h3
  subst h3;exact fun p hp=>(h p hp).2
 |o::l,[],st',_,_,h3=>by cases h3
 |o::l,(v,w)::st,st',ho,h,h3=>by
  have hvw:=h (v,w) (by simp);have hrest: ∀p∈st,0≤p.1∧0≤p.2:=fun p hp=>h p (by simp[hp])
  have hol: ∀o'∈l,0≤o'.2.2.2.2:=fun o' ho'=>ho o' (by simp[ho'])
  simp only at hvw;simp only[sI]at h3;split at h3
  ·refine aQ4 l _ st' hol (fun p hp=> ?_) h3;rcases List.mem_cons.1 hp with rfl|hp
   ·exact⟨ho o (by simp),Int.le_refl _⟩
   ·exact h p hp
  split at h3
  ·split at h3
   ·rename_i n v' w' st2 hb;have hn:=aC2 hvw.2 hvw.1 hb;refine aQ4 l _ st' hol (fun p hp=> ?_) h3;rcases List.mem_cons.1 hp with rfl|hp
    ·have:=hrest (v',w') (by simp);simp only at this⊢;omega
    ·exact hrest p (by simp[hp])
   ·cases h3
  ·refine aQ4 l _ st' hol (fun p hp=> ?_) h3;rcases List.mem_cons.1 hp with rfl|hp
   ·simp only;omega
   ·exact h p (by simp[hp])
theorem ax6 {l:List ec}(h:dg l 0=some 0)(v w:Int)(base:List (Int×Int)):sI l ((v,w)::base)=(Q9 l).map fun m=>(v,w+m)::base:=by
 have h1:=tb v w base l [] 0 0 h;rw[List.nil_append,List.nil_append,Int.add_zero]at h1;have h2:=tb ((l.getD 0 (0,0,0,0,0)).2.2.2.2) 0 [] l [] 0 0 h;rw[List.nil_append,List.nil_append,Int.add_zero]at h2;unfold Q9;rw[h1,h2];cases hr:sI l [(0,0)]with
 |none=>rfl
 |some st=>
  have hl:=aF1 l _ st 0 0 rfl h hr
  match st,hl with
  |[p],_=>
   show some ((v,w+p.2)::base)=some ((v,w+(0+p.2))::base);rw[Int.zero_add]
theorem aK4 {l:List ec}(hv: ∀o∈l,0≤o.2.2.2.2){m:Int}(h:dg l 0=some 0)(hq:Q9 l=some m):0≤m:=by
 have h1:=ax6 h 0 0 [];rw[hq]at h1;have:=aQ4 l _ _ hv (fun p hp=>by simp at hp;subst hp;simp) h1 (0,0+m) (by simp);simp only at this;omega
theorem az8 {l:List ec}(hl:l.length≤100000):rE l=some (decide (dg l 0=some 0)):=by
 unfold rE
 obtain⟨c,hc,h⟩:=an9 (f:=vB l) (a:=((0:Int),(0:Int))) (fun s=> ∃i d:Nat,i≤l.length∧d≤i∧s=((i:Int),(d:Int))∧dg (l.drop i) d=dg l 0) (fun s=>l.length-s.1.toNat)
  (fun c=>(c= .inl false∧dg l 0=none)∨∃d:Nat,c= .inr (d:Int)∧dg l 0=some d) ⟨0,0,Nat.zero_le _,Nat.le_refl _,rfl,rfl⟩ (by simp;omega) (by
  rintro _ ⟨i,d,hi,hd,rfl,hs⟩;simp only[vB,ck];by_cases c:i<l.length
  ·rw[(List.getElem_cons_drop c).symm]at hs;rw[if_pos (by omega),iz c];simp only[Option.bind_some];generalize l[i]=x at*;simp only[dg]at hs;by_cases k0:x.1<0
   ·rw[if_pos (.inl k0)]at hs;rw[if_pos k0];exact .inr ⟨_,rfl, .inl ⟨rfl,hs.symm⟩⟩
   rw[if_neg k0];by_cases k7:7<x.1
   ·rw[if_pos (.inr k7)]at hs;rw[if_pos k7];exact .inr ⟨_,rfl, .inl ⟨rfl,hs.symm⟩⟩
   rw[if_neg (by omega)]at hs;rw[if_neg k7];by_cases kz:x.1=0
   ·rw[if_pos kz]at hs;rw[if_neg (by omega)];simp only[Option.bind_some];rw[if_pos kz,bD (n:=(d:Int)-1) (by omega),bD (n:=(i:Int)+1) (by omega)];by_cases hd0:d=0
    ·rw[if_pos hd0]at hs;rw[if_pos (by omega)];exact .inr ⟨_,rfl, .inl ⟨rfl,hs.symm⟩⟩
    ·rw[if_neg hd0]at hs;rw[if_neg (by omega)];exact .inl ⟨_,rfl,⟨i+1,d-1,c,by omega,by rw[show((d-1:Nat):Int)=(d:Int)-1 by omega];rfl,hs⟩,by simp;omega⟩
   ·rw[if_neg kz]at hs;by_cases k77:x.1=7
    ·rw[if_pos k77]at hs;rw[if_pos k77];simp only[Option.bind_some];rw[if_neg kz,bD (n:=(d:Int)+1) (by omega),bD (n:=(i:Int)+1) (by omega),if_neg (by omega)];exact .inl ⟨_,rfl,⟨i+1,d+1,c,by omega,rfl,hs⟩,by simp;omega⟩
    ·rw[if_neg k77]at hs;rw[if_neg k77];simp only[Option.bind_some];rw[if_neg kz,bD (n:=(i:Int)+1) (by omega),if_neg (by omega)];exact .inl ⟨_,rfl,⟨i+1,d,c,by omega,rfl,hs⟩,by simp;omega⟩
  ·have:i=l.length:=by omega
   subst this;rw[List.drop_length]at hs;rw[if_neg (by omega)]
   exact .inr ⟨_,rfl, .inr ⟨d,rfl,hs.symm⟩⟩)
 rw[hc];rcases h with⟨rfl,h⟩|⟨d,rfl,h⟩
 ·rw[h];rfl
 ·rw[h];show some (decide ((d:Int)=0))=some (decide (some d=some 0))
  congr 1
  rw[decide_eq_decide];constructor
  ·intro e;have:d=0:=by omega
   rw[this]
  ·intro e;injection e with e;omega
theorem ad3 : ∀(n:Nat) (s:List ec) (d:Nat),s.length≤n→dg s (d+1)=some 0→∃inner e rest,s=inner++e::rest∧e.1=0∧dg inner 0=some 0∧dg rest d=some 0
 |n,[],d,_,h=>by
  injection h with h
  omega
 |0,o::s,d,hn,_=>by simp at hn
 |n+1,o::s,d,hn,h=>by
  simp only[List.length_cons]at hn;simp only[dg]at h;split at h
  ·cases h
  rename_i c1;split at h
  ·rename_i c2;rw[if_neg (by omega)]at h;exact⟨[],o,s,rfl,c2,rfl,h⟩
  rename_i c2;split at h
  ·rename_i c3;obtain⟨i1,e1,r1,h1,h2,h3,h4⟩:=ad3 n s (d+1) (by omega) h;have hlen:r1.length≤n:=by rw[h1]at hn;simp at hn;omega
   obtain⟨i2,e2,r2,h5,h6,h7,h8⟩:=ad3 n r1 d hlen h4;refine⟨o::i1++e1::i2,e2,r2, ?_,h6, ?_,h8⟩
   ·rw[h1,h5];simp
   ·show dg (o::(i1++e1::i2)) 0=_;simp only[dg];rw[if_neg c1,if_neg c2,if_pos c3,sj,aF2 _ _ _ h3];show dg (e1::i2) 1=_;simp only[dg];rw[if_neg (by omega),if_pos h2,if_neg (by omega)];exact h7
  ·rename_i c3;obtain⟨i1,e1,r1,h1,h2,h3,h4⟩:=ad3 n s d (by omega) h;refine⟨o::i1,e1,r1,by rw[h1];rfl,h2, ?_,h4⟩;simp only[dg];rw[if_neg c1,if_neg c2,if_neg c3];exact h3
theorem wC {i1 i2 r1 r2:List ec}{e1 e2:ec}(h:i1++e1::r1=i2++e2::r2)(h1:dg i1 0=some 0)(h2:dg i2 0=some 0)(he1:e1.1=0)(he2:e2.1=0):i1=i2:=by
 have key: ∀{a b:List ec} {e:ec} {x:List ec},a++e::x=b→e.1=0→dg a 0=some 0→dg b 0=some 0→False:=by
  intro a b e x hab he ha hb;rw[←hab,sj,ha]at hb;have hb:dg (e::x) 0=some 0:=hb;simp only[dg]at hb;rw[if_neg (by omega),if_pos he,if_pos trivial]at hb;cases hb
 rcases List.append_eq_append_iff.1 h with⟨a',h3,h4⟩|⟨a',h3,h4⟩
 ·cases a' with
  |nil=>rw[List.append_nil]at h3;exact h3.symm
  |cons q a'=>
   rw[List.cons_append]at h4;injection h4 with h4 h5
   subst h4;exact(key h3.symm he1 h1 h2).elim
 ·cases a' with
  |nil=>rw[List.append_nil]at h3;exact h3
  |cons q a'=>
   rw[List.cons_append]at h4;injection h4 with h4 h5
   subst h4;exact(key h3.symm he2 h2 h1).elim
theorem aT8 {l:List ec}(h:dg l 0=some 0){i:Nat}(hi:i≤l.length): ∃d,dg (l.take i) 0=some d∧dg (l.drop i) d=some 0:=by
 rw[←List.take_append_drop i l,sj]at h;obtain⟨d,h1,h2⟩:=ce h;exact⟨d,h1,h2⟩
theorem bv7 {l:List ec}(h:dg l 0=some 0){i:Nat}(hi:i<l.length)(hk:l[i].1=7): ∃inner e rest,l.drop (i+1)=inner++e::rest∧e.1=0∧dg inner 0=some 0:=by
 obtain⟨d,_,h2⟩:=aT8 h (i:=i) (by omega);rw[(List.getElem_cons_drop hi).symm]at h2;simp only[dg]at h2;rw[if_neg (by omega),if_neg (by omega),if_pos hk]at h2;obtain⟨inner,e,rest,h3,h4,h5,_⟩:=ad3 _ _ d (Nat.le_refl _) h2;exact⟨inner,e,rest,h3,h4,h5⟩
structure MOK (l:List ec)(m:List Int):Prop where
 len:m.length=l.length
 at': ∀i,(hi:i<l.length)→l[i].1=7→∀inner e rest,l.drop (i+1)=inner++e::rest→e.1=0→dg inner 0=some 0→m[i]?=some ((i+1+inner.length:Nat):Int)
theorem co5 {l:List ec}(hl:l.length≤100000){i:Nat}(hi:i<l.length){inner rest:List ec}{e:ec}(h:l.drop (i+1)=inner++e::rest)(he:e.1=0)(hs:dg inner 0=some 0):cw (pj l) iJ (1,(i:Int))=some ((i+1+inner.length:Nat):Int):=by
 have hlen:l.length=i+1+inner.length+1+rest.length:=by
  have:=congrArg List.length h;rw[List.length_drop]at this;simp at this;omega
 have hget: ∀j,j<inner.length+1→∃x,rd l ((i+1+j:Nat):Int)=some x∧(inner++e::rest)[j]?=some x:=by
  intro j hj;have hlt:i+1+j<l.length:=by omega
  refine⟨l[i+1+j],iz hlt, ?_⟩;rw[←h,List.getElem?_drop,List.getElem?_eq_getElem hlt]
 have hpre: ∀j,j≤inner.length→∃d,dg (inner.take j) 0=some d:=by
  intro j hj;obtain⟨d,h1,_⟩:=aT8 hs hj;exact⟨d,h1⟩
 let hs':Nat→Nat:=fun j=>(dg (inner.take j) 0).getD 0
 have hhs: ∀j,j≤inner.length→dg (inner.take j) 0=some (hs' j):=by
  intro j hj;obtain⟨d,hd⟩:=hpre j hj;show _=some ((dg (inner.take j) 0).getD 0);rw[hd];rfl
 have hle: ∀j,hs' j≤j∨inner.length<j:=by
  intro j;induction j with
  |zero=>exact .inl (Nat.le_refl _)
  |succ j ih=>
   by_cases hj:j+1≤inner.length
   ·left;have h1:=hhs (j+1) hj;rw[List.take_succ_eq_append_getElem (show j<inner.length by omega),sj,hhs j (by omega)]at h1;have h1:dg [inner[j]] (hs' j)=some (hs' (j+1)):=h1;simp only[dg]at h1;split at h1
    ·cases h1
    split at h1
    ·split at h1
     ·cases h1
     ·injection h1 with h1;omega
    split at h1
    ·injection h1 with h1;omega
    ·injection h1 with h1;omega
   ·right;omega
 refine sH (f:=pj l) (n:=inner.length+1) (fun j=>if j≤inner.length then((1+hs' j:Nat),((i+j:Nat):Int))else(0,((i+1+inner.length:Nat):Int))) (by omega) (fun j hj=> ?_) ?_
 ·have hb:=hle j;rw[if_pos (show j≤inner.length by omega)];obtain⟨x,hx1,hx2⟩:=hget j (by omega);simp only[pj,ck];rw[if_pos (by omega),bD (n:=((i+j:Nat):Int)+1) (by omega),show((i+j:Nat):Int)+1=((i+1+j:Nat):Int)by omega,hx1];simp only[Option.bind_some];by_cases hj2:j<inner.length
  ·rw[List.getElem?_append_left hj2,List.getElem?_eq_getElem hj2]at hx2;injection hx2 with hx2
   have h1:=hhs (j+1) hj2;rw[List.take_succ_eq_append_getElem hj2,sj,hhs j (by omega)]at h1;have h1:dg [inner[j]] (hs' j)=some (hs' (j+1)):=h1;rw[hx2]at h1;simp only[dg]at h1;rw[if_pos (show j+1≤inner.length by omega)];split at h1
   ·cases h1
   split at h1
   ·rename_i k1 k2;split at h1
    ·cases h1
    ·injection h1 with h1
     rw[if_neg (by omega),if_pos k2,bD (by omega)]
     congr 3<;>omega
   rename_i k1 k2;split at h1
   ·rename_i k3;injection h1 with h1
    rw[if_pos k3,if_neg k2,bD (by omega)]
    congr 3<;>omega
   ·rename_i k3;injection h1 with h1
    rw[if_neg k3,if_neg k2]
    congr 3<;>omega
  ·have hje:j=inner.length:=by omega
   subst hje;rw[List.getElem?_append_right (Nat.le_refl _),Nat.sub_self]at hx2;injection hx2 with hx2
   subst hx2
   have hz:hs' inner.length=0:=by
    have:=hhs inner.length (Nat.le_refl _);rw[List.take_length,hs]at this;injection this with this
    exact this.symm
   rw[if_neg (by omega),if_pos he,if_neg (show¬inner.length+1≤inner.length by omega),hz,bD (by omega)];rfl
 ·rw[if_neg (by omega)];simp only[pj,ck];rw[if_neg (by omega)]
theorem bA6 {l:List ec}(hl:l.length≤100000):(dg l 0=some 0∧∃m,sd l=some (0,m)∧MOK l m)∨(dg l 0≠some 0∧sd l=some (6,[])):=by
 unfold sd;rw[az8 hl];simp only[Option.bind_some];by_cases hs:dg l 0=some 0
 ·left;refine⟨hs, ?_⟩;rw[decide_eq_true hs];simp only[Bool.not_true,cond_false]
  have h0:cw (pi l) iJ (0,[])=some (List.replicate l.length (-1)):=by
   have h:=qD (f:=pi l) (n:=l.length) (fun i=>List.replicate i (-1:Int)) (c:=List.replicate l.length (-1)) (by omega) ?_ ?_
   ·exact h
   ·intro i hi;simp only[pi,ck];rw[if_pos (by omega),gv (by simp;omega) (by omega),bD (by omega),List.replicate_succ'];rfl
   ·simp only[pi,ck];rw[if_neg (by omega)]
  rw[h0];simp only[Option.bind_some]
  obtain⟨c,hc,h⟩:=an9 (f:=up l) (a:=((0:Int),List.replicate l.length (-1:Int))) (fun s=> ∃(i:Nat) (out:List Int),i≤l.length∧s=((i:Int),out)∧out.length=l.length∧∀j,j<i→(hj:j<l.length)→l[j].1=7→∀inner e rest,l.drop (j+1)=inner++e::rest→e.1=0→dg inner 0=some 0→out[j]?=some ((j+1+inner.length:Nat):Int)) (fun s=>l.length-s.1.toNat)
   (fun c=>MOK l c) ⟨0,_,Nat.zero_le _,rfl,by simp,fun j hj=>by omega⟩ (by simp;omega) (by
   rintro _ ⟨i,out,hi,rfl,ho,hout⟩;simp only[up,ck];by_cases c:i<l.length
   ·rw[if_pos (by omega),iz c];simp only[Option.bind_some];by_cases hk:l[i].1=7
    ·obtain⟨inner,e,rest,h1,h2,h3⟩:=bv7 hs c hk
     have hlen:l.length=i+1+inner.length+1+rest.length:=by
      have:=congrArg List.length h1;rw[List.length_drop]at this;simp at this;omega
     rw[if_neg (by simp[hk]),co5 hl c h1 h2 h3];simp only[Option.bind_some];rw[dk (show i<out.length by omega)];simp only[Option.bind_some];rw[List.getElem?_eq_getElem (show i<out.length by omega)];simp only[Option.bind_some];rw[dk (show i+1+inner.length<(out.set i ((i+1+inner.length:Nat):Int)).length by simp;omega)];simp only[Option.bind_some];rw[List.getElem?_eq_getElem (show i+1+inner.length<(out.set i ((i+1+inner.length:Nat):Int)).length by simp;omega)];simp only[Option.bind_some];rw[bD (n:=(i:Int)+1) (by omega)];refine .inl ⟨_,rfl,⟨i+1,_,c,rfl,by simp[ho],fun j hj hjl hjk inner' e' rest' q1 q2 q3=> ?_⟩,by simp;omega⟩
     have hke:l[i+1+inner.length].1=0:=by
      have h4:(l.drop (i+1))[inner.length]?=some e:=by
       rw[h1,List.getElem?_append_right (Nat.le_refl _),Nat.sub_self];rfl
      rw[List.getElem?_drop,List.getElem?_eq_getElem (show i+1+inner.length<l.length by omega)]at h4;injection h4 with h4
      rw[h4];exact h2
     have hne:i+1+inner.length≠j:=by
      intro e4;subst e4;rw[hke]at hjk;cases hjk
     rw[List.getElem?_set_ne hne];by_cases hji:i=j
     ·subst hji;have:=wC (h1.symm.trans q1) h3 q3 h2 q2;subst this;rw[List.getElem?_set_self (by omega)]
     ·rw[List.getElem?_set_ne hji];exact hout j (by omega) hjl hjk inner' e' rest' q1 q2 q3
    ·rw[if_pos hk,bD (n:=(i:Int)+1) (by omega)];refine .inl ⟨_,rfl,⟨i+1,out,c,rfl,ho,fun j hj hjl hjk=> ?_⟩,by simp;omega⟩;by_cases hji:j=i
     ·subst hji;exact(hk hjk).elim
     ·exact hout j (by omega) hjl hjk
   ·have:i=l.length:=by omega
    subst this;rw[if_neg (by omega)]
    exact .inr ⟨_,rfl,ho,fun j hj hjk=>hout j hj hj hjk⟩)
  rw[hc];exact⟨c,rfl,h⟩
 ·right;refine⟨hs, ?_⟩;rw[decide_eq_false hs];rfl
theorem bN6 {α β:Type}{f:α→β}(hf: ∀a b,f a=f b→a=b){x y:Option α}(h:x.map f=y.map f):x=y:=by
 cases x with
 |none=>cases y with
  |none=>rfl
  |some b=>cases h
 |some a=>cases y with
  |none=>cases h
  |some b=>
   injection h with h
   rw[hf _ _ h]
theorem bz5 (v c:Int)(base:List (Int×Int)): ∀a b:Int,(v,c+a)::base=(v,c+b)::base→a=b:=by
 intro a b h;injection h with h
 injection h with _ h
 omega
theorem be8 {o:ec}{s:List ec}(h:dg (o::s) 0=some 0)(hk:o.1≠7):dg s 0=some 0∧(0<o.1∧o.1<7)∧Q9 (o::s)=(Q9 s).map (1+ ·):=by
 have h1:=ax6 h 0 0 [];simp only[dg]at h;split at h
 ·cases h
 rename_i c1;split at h
 ·rw[if_pos trivial]at h;cases h
 rename_i c2;refine⟨h,by omega,bN6 (bz5 0 0 []) ?_⟩;rw[←h1];simp only[sI];rw[if_neg hk,if_neg c2,ax6 h];cases Q9 s with
 |none=>rfl
 |some m=>
  show some [((0:Int),0+1+m)]=some [((0:Int),0+(1+m))];rw[Int.add_assoc]
theorem bm0 {o e:ec}{inner rest:List ec}(h:dg (o::(inner++e::rest)) 0=some 0)(hk:o.1=7)(he:e.1=0)(hi:dg inner 0=some 0):
  dg rest 0=some 0∧Q9 (o::(inner++e::rest))=(Q9 inner).bind fun w=>(xV w o.2.2.2.2).bind fun b=>(Q9 rest).map (b+ ·):=by
 have h1:=ax6 h 0 0 [];simp only[dg]at h;rw[if_neg (by omega),if_neg (by omega),if_pos hk,sj,aF2 _ _ _ hi]at h;have h:dg (e::rest) 1=some 0:=h;simp only[dg]at h;rw[if_neg (by omega),if_pos he,if_neg (by omega)]at h;have h:dg rest 0=some 0:=h;refine⟨h,bN6 (bz5 0 0 []) ?_⟩;rw[←h1];simp only[sI];rw[if_pos hk,zk,ax6 hi];cases Q9 inner with
 |none=>rfl
 |some w=>
  show sI (e::rest) [(o.2.2.2.2,0+w),(0,0)]=_;simp only[sI];rw[if_neg (by omega),if_pos he,Int.zero_add];simp only[Option.bind_some];cases xV w o.2.2.2.2 with
  |none=>rfl
  |some b=>
   simp only[Option.bind_some];rw[ax6 h];cases Q9 rest with
   |none=>rfl
   |some m=>
    show some [((0:Int),0+b+m)]=some [((0:Int),0+(b+m))];rw[Int.add_assoc]
theorem bI6 {k:Int}(h:0<k∧k<7): ∃x,nq k=some (true,x):=by
 have:k=1∨k=2∨k=3∨k=4∨k=5∨k=6:=by omega
 rcases this with rfl|rfl|rfl|rfl|rfl|rfl<;>exact⟨_,rfl⟩
def aJ1 (t:Int):Int:=if 65536<t then 65537 else t
def bR1 (w v:Int):Int:=if aJ1 w=0 then 0 else if v=0 then 0 else if 65536<v then 65537 else if 65536<aJ1 w*v then 65537 else aJ1 w*v
theorem aU8 {w v b:Int}(hw:0≤w)(hv:0≤v)(h:xV w v=some b):bR1 w v=b∧w≤65536:=by
 unfold xV at h;unfold bR1;split at h
 ·rename_i c1;injection h with h
  subst h;subst c1;exact⟨by rw[if_pos (show aJ1 0=0 from rfl)],by omega⟩
 split at h
 ·cases h
 split at h
 ·cases h
 rename_i c1 c2 c3;injection h with h
 have hs:aJ1 w=w:=if_neg c2;rw[hs,if_neg c1];have hd:65536 / w≤65536:=Int.ediv_le_self _ (by omega);have h4:v≤65536 / w:=by omega
 have h5:=Int.mul_le_mul_of_nonneg_left h4 hw;have h6:=Int.mul_ediv_self_le (x:=65536) (k:=w) c1;refine⟨?_,by omega⟩;by_cases c4:v=0
 ·rw[if_pos c4,←h,c4,Int.mul_zero]
 ·rw[if_neg c4,if_neg (by omega),if_neg (by omega),h]
theorem bY4 {w v:Int}(hw:0≤w)(hv:0≤v)(h:xV w v=none):65536<w∨bR1 w v=65537:=by
 unfold xV at h;split at h
 ·cases h
 rename_i c1;split at h
 ·rename_i c2;exact .inl c2
 rename_i c2;split at h
 ·rename_i c3;right;unfold bR1;have hs:aJ1 w=w:=if_neg c2;have hlt:=Int.lt_mul_of_ediv_lt (show 0<w by omega) c3;rw[Int.mul_comm]at hlt;have hd:0≤65536 / w:=Int.ediv_nonneg (by omega) hw;rw[hs,if_neg c1,if_neg (by omega)];by_cases c4:65536<v
  ·rw[if_pos c4]
  ·rw[if_neg c4,if_pos hlt]
 ·cases h
def WOK (l:List ec)(m:List Int)(N:Nat):Prop:= ∀f,2*N<f→∀A seg B,l=A++seg++B→seg.length<N→dg seg 0=some 0→
 ∃r,(df f).1 l m (A.length:Int) ((A.length+seg.length:Nat):Int)=some r∧0≤r∧r≤65537∧∀t,Q9 seg=some t→r=aJ1 t
section
variable {l:List ec} {m:List Int}
theorem bv8 (hl:l.length≤1000)(hv: ∀o∈l,0≤o.2.2.2.2∧o.2.2.2.2≤18446744073709551615)(hm:MOK l m){N:Nat}(h:WOK l m N){f:Nat}(hf:2*N+1<f){i:Nat}(hi:i<l.length)(hk:l[i].1=7){inner rest:List ec}{e:ec}(hd:l.drop (i+1)=inner++e::rest)(he:e.1=0)(hs:dg inner 0=some 0)(hN:inner.length<N):
  ∃r,(df f).2 l m (i:Int)=some r∧0≤r∧r≤65537∧∀w,Q9 inner=some w→r=bR1 w l[i].2.2.2.2:=by
 obtain⟨g,rfl⟩: ∃g,f=g+1:=⟨f-1,by omega⟩
 have hlen:l.length=i+1+inner.length+1+rest.length:=by
  have:=congrArg List.length hd;rw[List.length_drop]at this;simp at this;omega
 have hmi:=hm.at' i hi hk inner e rest hd he hs
 have hsplit:l=l.take (i+1)++inner++e::rest:=by
  rw[List.append_assoc,←hd,List.take_append_drop]
 have hA:(l.take (i+1)).length=i+1:=by rw[List.length_take];omega
 obtain⟨r4,h1,h2,h3,h4⟩:=h g (by omega) (l.take (i+1)) inner (e::rest) hsplit hN hs;rw[hA]at h1
 have hrd:rd m (i:Int)=some ((i+1+inner.length:Nat):Int):=by
  have hlt:i<m.length:=by rw[hm.len];exact hi
  rw[iz hlt,←hmi,List.getElem?_eq_getElem hlt]
 have hvi:=hv _ (List.getElem_mem hi);show∃r,yk ((df g).1) ((df g).2) l m i=some r∧_
 unfold yk;rw[hrd];simp only[Option.bind_some];rw[bD (n:=(i:Int)+1) (by omega),show(i:Int)+1=((i+1:Nat):Int)by omega,h1];simp only[Option.bind_some,ck];rw[iz hi];simp only[Option.bind_some];generalize l[i].2.2.2.2=v at*
 have hval:(if r4=0 then some 0 else if v=0 then some 0 else if 65536<v then some 65537 else if 65536<IntKind.i64.wrap (r4*IntKind.i64.wrap v)then some 65537 else some (IntKind.i64.wrap (r4*IntKind.i64.wrap v)))=
   some (if r4=0 then 0 else if v=0 then 0 else if 65536<v then 65537 else if 65536<r4*v then 65537 else r4*v):=by
  split
  ·rfl
  split
  ·rfl
  split
  ·rfl
  rename_i c1 c2 c3;have h5:=Int.mul_le_mul h3 (show v≤65536 by omega) hvi.1 (by omega);have h6:=Int.mul_nonneg h2 hvi.1;rw[bD (n:=v) (by omega),bD (by omega)];split<;>rfl
 rw[hval];refine⟨_,rfl, ?_, ?_,fun w hw=> ?_⟩
 ·split
  ·omega
  split
  ·omega
  split
  ·omega
  split
  ·omega
  ·exact Int.mul_nonneg h2 hvi.1
 ·split
  ·omega
  split
  ·omega
  split
  ·omega
  split<;>omega
 ·rw[h4 w hw];rfl
theorem aq2 (hl:l.length≤1000)(hv: ∀o∈l,0≤o.2.2.2.2∧o.2.2.2.2≤18446744073709551615)(hm:MOK l m){N:Nat}(h:WOK l m N){g:Nat}(hg:2*N+1<g)(hi:Nat): ∀(k:Nat) (pre seg B:List ec) (n:Int) (fu:Nat),l=pre++seg++B→seg.length≤k→seg.length≤N→seg.length<fu→dg seg 0=some 0→hi=pre.length+seg.length→0≤n∧n≤65536→
  ∃c,cw (qT ((df g).2) l m hi) fu ((pre.length:Int),n)=some c∧(c= .inl ()∨∃r,c= .inr r∧0≤r∧r≤65536)∧∀t,Q9 seg=some t→c=if 65536<n+t then .inl ()else .inr (n+t)
 |k,pre,[],B,n,0,_,_,_,hfu,_,_,_=>by simp at hfu
 |k,pre,[],B,n,fu+1,hsplit,_,_,_,hs,hh,hn=>by
  refine⟨.inr n, ?_, .inr ⟨n,rfl,hn⟩,fun t ht=> ?_⟩
  ·rw[et];simp only[qT,ck];rw[if_neg (by simp at hh;omega)];rfl
  ·injection ht with ht
   subst ht;rw[Int.add_zero,if_neg (by omega)]
 |0,pre,o::seg,B,n,fu,_,hk,_,_,_,_,_=>by simp at hk
 |k+1,pre,o::seg,B,n,0,_,_,_,hfu,_,_,_=>by simp at hfu
 |k+1,pre,o::seg,B,n,fu+1,hsplit,hk,hN,hfu,hs,hh,hn=>by
  simp only[List.length_cons]at hk hN hfu hh;have hlen:l.length=pre.length+(seg.length+1)+B.length:=by rw[hsplit];simp;omega
  have hlt:pre.length<l.length:=by omega
  have hget:l[pre.length]=o:=by
   have:l[pre.length]?=some o:=by
    rw[hsplit,List.append_assoc,List.getElem?_append_right (Nat.le_refl _),Nat.sub_self];rfl
   rw[List.getElem?_eq_getElem hlt]at this;injection this
  have hov:0≤o.2.2.2.2∧o.2.2.2.2≤18446744073709551615:=by rw[←hget];exact hv _ (List.getElem_mem hlt)
  rw[et];simp only[qT,ck];rw[if_pos (by omega),iz hlt,hget];simp only[Option.bind_some];by_cases hk7:o.1=7
  ·
   rw[if_pos hk7]
   have hs1:dg seg 1=some 0:=by
    simp only[dg]at hs;rw[if_neg (by omega),if_neg (by omega),if_pos hk7]at hs;exact hs
   obtain⟨inner,e,rest,h1,h2,h3,h4⟩:=ad3 _ seg 0 (Nat.le_refl _) hs1;subst h1;simp only[List.length_append,List.length_cons]at hk hN hfu hh hlen
   have hd:l.drop (pre.length+1)=inner++e::(rest++B):=by
    rw[hsplit,List.append_assoc,List.drop_append,List.drop_of_length_le (by omega),show pre.length+1-pre.length=1 by omega];simp
   obtain⟨r9,b1,b2,b3,b4⟩:=bv8 hl hv hm h hg hlt (by rw[hget];exact hk7) hd h2 h3 (by omega);rw[hget]at b4;rw[b1];simp only[Option.bind_some];have hmi:=hm.at' pre.length hlt (by rw[hget];exact hk7) inner e (rest++B) hd h2 h3
   have hrd:rd m (pre.length:Int)=some ((pre.length+1+inner.length:Nat):Int):=by
    have hlt':pre.length<m.length:=by rw[hm.len];exact hlt
    rw[iz hlt',←hmi,List.getElem?_eq_getElem hlt']
   rw[hrd];simp only[Option.bind_some];rw[bD (n:=n+r9) (by omega),bD (n:=((pre.length+1+inner.length:Nat):Int)+1) (by omega)];obtain⟨hsr,hQ⟩:=bm0 hs hk7 h2 h3;by_cases c1:65536<n+r9
   ·rw[if_pos c1];refine⟨.inl (),rfl, .inl rfl,fun t ht=> ?_⟩;rw[hQ]at ht;obtain⟨w,hw,ht⟩:=ce ht;obtain⟨b,hb,ht⟩:=ce ht;have hw0:=aK4 (l:=inner) (fun o' ho'=>(hv o' (by rw[hsplit];simp[ho'])).1) h3 hw;obtain⟨e1,_⟩:=aU8 hw0 hov.1 hb;rw[b4 w hw,e1]at c1;cases hqr:Q9 rest with
    |none=>rw[hqr]at ht;cases ht
    |some tr=>
     rw[hqr]at ht;injection ht with ht
     have ht:b+tr=t:=ht;have:=aK4 (l:=rest) (fun o' ho'=>(hv o' (by rw[hsplit];simp[ho'])).1) hsr hqr;rw[if_pos (by omega)]
   ·rw[if_neg c1];simp only[Option.bind_some,di];have hp:(pre++o::(inner++[e])).length=pre.length+1+inner.length+1:=by simp;omega
    obtain⟨c,d1,d2,d3⟩:=aq2 hl hv hm h hg hi k (pre++o::(inner++[e])) rest B (n+r9) fu (by rw[hsplit];simp) (by omega) (by omega) (by omega) hsr (by rw[hp];omega) (by omega);rw[hp]at d1;refine⟨c,by rw[show((pre.length+1+inner.length:Nat):Int)+1=((pre.length+1+inner.length+1:Nat):Int)by omega];exact d1,d2,fun t ht=> ?_⟩;rw[hQ]at ht;obtain⟨w,hw,ht⟩:=ce ht;obtain⟨b,hb,ht⟩:=ce ht;have hw0:=aK4 (l:=inner) (fun o' ho'=>(hv o' (by rw[hsplit];simp[ho'])).1) h3 hw;obtain⟨e1,_⟩:=aU8 hw0 hov.1 hb;have hr9:r9=b:=by rw[b4 w hw,e1]
    cases hqr:Q9 rest with
    |none=>rw[hqr]at ht;cases ht
    |some tr=>
     rw[hqr]at ht;injection ht with ht
     have:=d3 tr hqr;rw[this,←ht,hr9,Int.add_assoc]
  ·rw[if_neg hk7];obtain⟨hsr,hko,hQ⟩:=be8 hs hk7;obtain⟨x,hx⟩:=bI6 hko;rw[hx];simp only[Option.bind_some,cond_true];rw[bD (n:=n+1) (by omega),bD (n:=(pre.length:Int)+1) (by omega)];by_cases c1:65536<n+1
   ·rw[if_pos c1];refine⟨.inl (),rfl, .inl rfl,fun t ht=> ?_⟩;rw[hQ]at ht;cases hqr:Q9 seg with
    |none=>rw[hqr]at ht;cases ht
    |some tr=>
     rw[hqr]at ht;injection ht with ht
     have ht:1+tr=t:=ht;have:=aK4 (l:=seg) (fun o' ho'=>(hv o' (by rw[hsplit];simp[ho'])).1) hsr hqr;rw[if_pos (by omega)]
   ·rw[if_neg c1];simp only[Option.bind_some,di];have hp:(pre++[o]).length=pre.length+1:=by simp
    obtain⟨c,d1,d2,d3⟩:=aq2 hl hv hm h hg hi k (pre++[o]) seg B (n+1) fu (by rw[hsplit];simp) (by omega) (by omega) (by omega) hsr (by rw[hp];omega) (by omega);rw[hp]at d1;refine⟨c,d1,d2,fun t ht=> ?_⟩;rw[hQ]at ht;cases hqr:Q9 seg with
    |none=>rw[hqr]at ht;cases ht
    |some tr=>
     rw[hqr]at ht;injection ht with ht
     rw[d3 tr hqr,←ht,Int.add_assoc]
theorem wok (hl:l.length≤1000)(hv: ∀o∈l,0≤o.2.2.2.2∧o.2.2.2.2≤18446744073709551615)(hm:MOK l m): ∀N,WOK l m N
 |0=>fun _ _ _ _ _ _ h=>absurd h (Nat.not_lt_zero _)
 |N+1=>fun f hf A seg B hs0 hN hs=>by
  obtain⟨g,rfl⟩: ∃g,f=g+1:=⟨f-1,by omega⟩
  show∃r,wP ((df g).1) ((df g).2) l m _ _=some r∧_
  unfold wP
  have hsl:seg.length≤1000:=by
   have:=congrArg List.length hs0;simp at this;omega
  obtain⟨c,h1,h2,h3⟩:=aq2 hl hv hm (wok hl hv hm N) (g:=g) (by omega) (A.length+seg.length) _ A seg B 0 iJ hs0 (Nat.le_refl _) (by omega) (by unfold iJ;omega) hs rfl (by omega);rw[h1];simp only[Option.bind_some];rcases h2 with rfl|⟨r,rfl,h4,h5⟩
  ·refine⟨65537,rfl,by omega,by omega,fun t ht=> ?_⟩;have:=h3 t ht;rw[Int.zero_add]at this;unfold aJ1;split at this
   ·rename_i c;rw[if_pos c]
   ·cases this
  ·refine⟨r,rfl,h4,by omega,fun t ht=> ?_⟩;have:=h3 t ht;rw[Int.zero_add]at this;unfold aJ1;split at this
   ·cases this
   ·rename_i c;injection this with this
    rw[if_neg c,this]
end
theorem by1 {δ:Type}{f:Int→Option (Int⊕δ)}(n:Nat)(hn:n<9223372036854775808)(stop:Nat→Prop)(c e:δ)
  (hs: ∀i:Nat,i<n→¬stop i→f (i:Int)=some (.inl ((i+1:Nat):Int))) (hx: ∀i:Nat,i<n→stop i→f (i:Int)=some (.inr c)) (he:f (n:Int)=some (.inr e)):
  (∃i,i<n∧stop i∧(∀j,j<i→¬stop j)∧cw f iJ 0=some c)∨((∀j,j<n→¬stop j)∧cw f iJ 0=some e):=by
 by_cases h: ∃i,i<n∧stop i
 ·obtain⟨i,h1,h2⟩:=h
  have hex: ∃i,i<n∧stop i∧∀j,j<i→¬stop j:=by
   induction i using Nat.strongRecOn with
   |ind i ih=>
    by_cases hj: ∃j,j<i∧stop j
    ·obtain⟨j,h3,h4⟩:=hj;exact ih j h3 (by omega) h4
    ·exact⟨i,h1,h2,fun j h h3=>hj ⟨j,h,h3⟩⟩
  obtain⟨i,h1,h2,h3⟩:=hex;exact .inl ⟨i,h1,h2,h3,uv (n:=i) (by omega) (fun j hj=>hs j (by omega) (h3 j hj)) (hx i h1 h2)⟩
 ·have h': ∀j,j<n→¬stop j:=fun j h1 h2=>h ⟨j,h1,h2⟩
  exact .inr ⟨h',uv (n:=n) hn (fun j hj=>hs j hj (h' j hj)) he⟩
theorem cj9 {seg pre inner rest:List ec}{o e:ec}{t:Int}(hq:Q9 seg=some t)(hs:seg=pre++o::(inner++e::rest))(ho:o.1=7)(he:e.1=0)(hi:dg inner 0=some 0):
  ∃w b,Q9 inner=some w∧xV w o.2.2.2.2=some b:=by
 unfold Q9 at hq;rw[hs,zk]at hq;obtain⟨st,h1,h2⟩:=ce hq;obtain⟨st1,h3,h4⟩:=ce h1;cases st1 with
 |nil=>simp[sI]at h4
 |cons p st1=>
  simp only[sI]at h4;rw[if_pos ho,zk,ax6 hi]at h4;cases hw:Q9 inner with
  |none=>rw[hw]at h4;cases h4
  |some w=>
   rw[hw]at h4;have h4:sI (e::rest) ((o.2.2.2.2,0+w)::(p.1,p.2)::st1)=some st:=h4;simp only[sI]at h4;rw[if_neg (by omega),if_pos he,Int.zero_add]at h4;cases hb:xV w o.2.2.2.2 with
   |none=>rw[hb]at h4;cases h4
   |some b=>exact⟨w,b,rfl,hb⟩
theorem bo3 : ∀(n:Nat) (seg:List ec),seg.length≤n→dg seg 0=some 0→Q9 seg=none→∃pre o inner e rest w,seg=pre++o::(inner++e::rest)∧o.1=7∧e.1=0∧dg inner 0=some 0∧Q9 inner=some w∧xV w o.2.2.2.2=none
 |n,[],_,_,hq=>by cases hq
 |0,o::s,h,_,_=>by simp at h
 |n+1,o::s,hn,hs,hq=>by
  simp only[List.length_cons]at hn;by_cases hk:o.1=7
  ·have hs1:dg s 1=some 0:=by
    simp only[dg]at hs;rw[if_neg (by omega),if_neg (by omega),if_pos hk]at hs;exact hs
   obtain⟨inner,e,rest,h1,h2,h3,h4⟩:=ad3 _ s 0 (Nat.le_refl _) hs1;subst h1;simp only[List.length_append,List.length_cons]at hn;obtain⟨hsr,hQ⟩:=bm0 hs hk h2 h3;rw[hQ]at hq;cases hw:Q9 inner with
   |none=>
    obtain⟨pre,o',i',e',r',w,q1,q2⟩:=bo3 n inner (by omega) h3 hw;exact⟨o::pre,o',i',e',r'++e::rest,w,by rw[q1];simp,q2⟩
   |some w=>
    rw[hw]at hq;simp only[Option.bind_some]at hq;cases hb:xV w o.2.2.2.2 with
    |none=>exact⟨[],o,inner,e,rest,w,rfl,hk,h2,h3,hw,hb⟩
    |some b=>
     rw[hb]at hq;simp only[Option.bind_some]at hq;cases hr:Q9 rest with
     |some t=>rw[hr]at hq;cases hq
     |none=>
      obtain⟨pre,o',i',e',r',w',q1,q2⟩:=bo3 n rest (by omega) hsr hr;exact⟨o::(inner++e::pre),o',i',e',r',w',by rw[q1];simp,q2⟩
  ·obtain⟨hsr,_,hQ⟩:=be8 hs hk;rw[hQ]at hq;cases hr:Q9 s with
   |some t=>rw[hr]at hq;cases hq
   |none=>
    obtain⟨pre,o',i',e',r',w',q1,q2⟩:=bo3 n s (by omega) hsr hr;exact⟨o::pre,o',i',e',r',w',by rw[q1];rfl,q2⟩
section
variable {l:List ec} {m:List Int}
theorem ay2 (hl:l.length≤100)(hv: ∀o∈l,0≤o.2.2.2.2∧o.2.2.2.2≤18446744073709551615)(hm:MOK l m)(hs:dg l 0=some 0){i:Nat}(hi:i<l.length)(hk:l[i].1=7):
  ∃inner e rest b w mi,l.drop (i+1)=inner++e::rest∧e.1=0∧dg inner 0=some 0∧m[i]?=some mi∧mi=((i+1+inner.length:Nat):Int)∧uG l m (i:Int)=some b∧pn l m ((i+1:Nat):Int) mi=some w∧0≤b∧0≤w∧
   ∀t,Q9 inner=some t→b=bR1 t l[i].2.2.2.2∧w=aJ1 t:=by
 obtain⟨inner,e,rest,hd,he,hi0⟩:=bv7 hs hi hk
 have hlen:l.length=i+1+inner.length+1+rest.length:=by
  have:=congrArg List.length hd;rw[List.length_drop]at this;simp at this;omega
 have hsplit:l=l.take (i+1)++inner++e::rest:=by
  rw[List.append_assoc,←hd,List.take_append_drop]
 have hA:(l.take (i+1)).length=i+1:=by rw[List.length_take];omega
 obtain⟨b,b1,b2,b3,b4⟩:=bv8 (by omega) hv hm (wok (by omega) hv hm 101) (f:=400) (by omega) hi hk hd he hi0 (by omega);obtain⟨w,w1,w2,w3,w4⟩:=wok (by omega) hv hm 101 400 (by omega) (l.take (i+1)) inner (e::rest) hsplit (by omega) hi0;rw[hA]at w1;exact⟨inner,e,rest,b,w,_,hd,he,hi0,hm.at' i hi hk inner e rest hd he hi0,rfl,b1,w1,b2,w2,fun t ht=>⟨b4 t ht,w4 t ht⟩⟩
theorem bI8 (hl:l.length≤100)(hv: ∀o∈l,0≤o.2.2.2.2∧o.2.2.2.2≤18446744073709551615)(hm:MOK l m)(hs:dg l 0=some 0):
  cw (kc l (0,m)) iJ 0=some (match Q9 l with|some _=> .inr ()|none=> .inl ()):=by
 have key:=by1 (f:=kc l (0,m)) l.length (by omega)
  (fun i=> ∃hi:i<l.length,l[i].1=7∧∃b w mi,m[i]?=some mi∧uG l m (i:Int)=some b∧pn l m ((i+1:Nat):Int) mi=some w∧(65536<b∨65536<w)) (.inl ()) (.inr ())
  (fun i hi hn=>by
   unfold kc;simp only[ck];rw[if_pos (by omega),iz hi];simp only[Option.bind_some];by_cases hk:l[i].1=7
   ·obtain⟨inner,e,rest,b,w,mi,q1,q2,q3,q4,q5,q6,q7,q8⟩:=ay2 hl hv hm hs hi hk;rw[if_pos hk,q6];simp only[Option.bind_some];rw[if_neg (fun h=>hn ⟨hi,hk,b,w,mi,q4,q6,q7, .inl h⟩),dk (show i<m.length by rw[hm.len];exact hi)];simp only[Option.bind_some];rw[q4];simp only[Option.bind_some];rw[bD (n:=(i:Int)+1) (by omega),show(i:Int)+1=((i+1:Nat):Int)by omega,q7];simp only[Option.bind_some];rw[if_neg (fun h=>hn ⟨hi,hk,b,w,mi,q4,q6,q7, .inr h⟩)]
   ·rw[if_neg hk,bD (n:=(i:Int)+1) (by omega)]
    rfl)
  (fun i _ hst=>by
   obtain⟨hi,hk,b,w,mi,q4,q6,q7,q8⟩:=hst;unfold kc;simp only[ck];rw[if_pos (by omega),iz hi];simp only[Option.bind_some];rw[if_pos hk,q6];simp only[Option.bind_some];by_cases hb:65536<b
   ·rw[if_pos hb]
   ·rw[if_neg hb,dk (show i<m.length by rw[hm.len];exact hi)];simp only[Option.bind_some];rw[q4];simp only[Option.bind_some];rw[bD (n:=(i:Int)+1) (by omega),show(i:Int)+1=((i+1:Nat):Int)by omega,q7];simp only[Option.bind_some]
    rw[if_pos (by omega)])
  (by
   unfold kc;simp only[ck]
   rw[if_neg (by omega)])
 cases hq:Q9 l with
 |some t=>
  rcases key with⟨i,h1,⟨hi,hk,b,w,mi,q4,q6,q7,q8⟩,_⟩|⟨_,h⟩
  ·exfalso;obtain⟨inner,e,rest,b',w',mi',p1,p2,p3,p4,p5,p6,p7,p8,p9,p10⟩:=ay2 hl hv hm hs hi hk
   have hsplit:l=l.take i++l[i]::(inner++e::rest):=by
    rw[←p1,List.getElem_cons_drop hi,List.take_append_drop]
   obtain⟨w0,b0,g1,g2⟩:=cj9 hq hsplit hk p2 p3;obtain⟨e1,e2⟩:=p10 w0 g1;have hmem: ∀o'∈inner,0≤o'.2.2.2.2:=fun o' ho'=>(hv o' (by rw[hsplit];simp[ho'])).1
   have hw0:=aK4 hmem p3 g1;obtain⟨x1,x2⟩:=aU8 hw0 (hv _ (List.getElem_mem hi)).1 g2;obtain⟨x3,x4⟩:=aC2 hw0 (hv _ (List.getElem_mem hi)).1 g2;rw[q4]at p4;injection p4 with p4
   rw[q6]at p6;injection p6 with p6
   rw[←p4,q7]at p7;injection p7 with p7
   have hs9:aJ1 w0=w0:=if_neg (by omega);rw[hs9]at e2;omega
  ·exact h
 |none=>
  rcases key with⟨_,_,_,_,h⟩|⟨h,_⟩
  ·exact h
  ·exfalso;obtain⟨pre,o,inner,e,rest,w,q1,q2,q3,q4,q5,q6⟩:=bo3 _ l (Nat.le_refl _) hs hq;have hi:pre.length<l.length:=by rw[q1];simp
   have hget:l[pre.length]=o:=by
    have:l[pre.length]?=some o:=by
     rw[q1,List.getElem?_append_right (Nat.le_refl _),Nat.sub_self];rfl
    rw[List.getElem?_eq_getElem hi]at this;injection this
   have hk:l[pre.length].1=7:=by rw[hget];exact q2
   have hd:l.drop (pre.length+1)=inner++e::rest:=by
    rw[q1,List.drop_append,List.drop_of_length_le (by omega),show pre.length+1-pre.length=1 by omega];simp
   obtain⟨inner',e',rest',b',w',mi',p1,p2,p3,p4,p5,p6,p7,p8,p9,p10⟩:=ay2 hl hv hm hs hi hk;have:=wC (hd.symm.trans p1) q4 p3 q3 p2;subst this;obtain⟨e1,e2⟩:=p10 w q5;have hmem: ∀o'∈inner,0≤o'.2.2.2.2:=fun o' ho'=>(hv o' (by rw[q1];simp[ho'])).1
   have hw0:=aK4 hmem q4 q5;rw[hget]at e1;have hov:0≤o.2.2.2.2:=by rw[←hget];exact(hv _ (List.getElem_mem hi)).1
   refine h _ hi ⟨hi,hk,b',w',mi',p4,p6,p7, ?_⟩;rcases bY4 hw0 hov q6 with x|x
   ·right;rw[e2];unfold aJ1;rw[if_pos x];omega
   ·left;rw[e1,x];omega
theorem ac9 (hl:l.length≤100)(hv: ∀o∈l,0≤o.2.2.2.2∧o.2.2.2.2≤18446744073709551615):pm l=some (ff l):=by
 unfold pm ff;rcases bA6 (l:=l) (by omega)with⟨hs,m,hm,hok⟩|⟨hs,hm⟩
 ·rw[hm,if_pos hs];simp only[Option.bind_some];rw[decide_eq_false (by simp),cond_false,bI8 hl hv hok hs];cases hq:Q9 l with
  |none=>rfl
  |some t=>
   have ht:=aK4 (fun o ho=>(hv o ho).1) hs hq;simp only[Option.bind_some,di];obtain⟨w,w1,w2,w3,w4⟩:=wok (by omega) hv hok 101 400 (by omega) [] l [] (by simp) (by omega) hs
   have w1:pn l m 0 (l.length:Int)=some w:=by
    rw[←w1];show _=(df 400).1 l m 0 ((0+l.length:Nat):Int);rw[Nat.zero_add];rfl
   rw[w1];simp only[Option.bind_some,ck];have e2:=w4 t hq;unfold aJ1 at e2;by_cases c:65536<t
   ·rw[if_pos c]at e2;rw[if_pos c,if_pos (by omega)]
   ·rw[if_neg c]at e2;rw[if_neg c,if_neg (by omega),e2]
 ·rw[hm,if_neg hs];rfl
end
theorem wG {α δ:Type}{f:Int→Option (Int⊕δ)}{l:List α}(p:α→Bool)(c:Nat→δ)(e:δ)(hl:l.length<1000000)
  (hf: ∀i,(hi:i<l.length)→f (i:Int)=some (if p l[i]then .inr (c i)else .inl ((i+1:Nat):Int))) (he:f (l.length:Int)=some (.inr e)):
  (l.any p=true∧∃i:Nat,cw f iJ 0=some (c i))∨(l.any p=false∧cw f iJ 0=some e):=by
 by_cases h: ∃i,∃hi:i<l.length,p l[i]=true
 ·left
  have hex: ∃i,(∃hi:i<l.length,p l[i]=true)∧∀j,j<i→¬∃hj:j<l.length,p l[j]=true:=by
   obtain⟨i,hi⟩:=h;induction i using Nat.strongRecOn with
   |ind i ih=>
    by_cases hj: ∃j,j<i∧∃hj:j<l.length,p l[j]=true
    ·obtain⟨j,h3,h4⟩:=hj;exact ih j h3 h4
    ·exact⟨i,hi,fun j h h3=>hj ⟨j,h,h3⟩⟩
  obtain⟨i,⟨hi,h1⟩,h2⟩:=hex;refine⟨List.any_eq_true.2 ⟨l[i],List.getElem_mem hi,h1⟩,i,uv (n:=i) (by omega) (fun j hj=> ?_) ?_⟩
  ·rw[hf j (by omega),if_neg (fun hp=>h2 j hj ⟨by omega,hp⟩)]
  ·rw[hf i hi,if_pos h1]
 ·right;refine⟨?_,uv (n:=l.length) (by omega) (fun j hj=> ?_) he⟩
  ·rw[Bool.eq_false_iff];intro ht;obtain⟨x,hx,hp⟩:=List.any_eq_true.1 ht;obtain⟨i,hi,rfl⟩:=List.getElem_of_mem hx;exact h ⟨i,hi,hp⟩
  ·rw[hf j hj,if_neg (fun hp=>h ⟨j,hj,hp⟩)]
def dp (k:Int):Bool×Bool×Bool×Bool:=if k=1∨k=2∨k=3 then(true,true,true,false)else if k=4∨k=6 then(true,true,false,false)else if k=5 then(true,false,false,true)else if k=7 then(false,false,false,true)else(false,false,false,false)
theorem ac6 (k:Int):k=1∨k=2∨k=3∨k=4∨k=5∨k=6∨k=7∨(¬k=1∧¬k=2∧¬k=3∧¬k=4∧¬k=5∧¬k=6∧¬k=7):=by omega
theorem bi2 (k:Int):sK k=some (dp k):=by
 rcases ac6 k with rfl|rfl|rfl|rfl|rfl|rfl|rfl|⟨h1,h2,h3,h4,h5,h6,h7⟩
 any_goals rfl
 simp[sK,dp,h1,h2,h3,h4,h5,h6,h7]
theorem aw4 (k:Int):nq k=some (dp k):=by
 rcases ac6 k with rfl|rfl|rfl|rfl|rfl|rfl|rfl|⟨h1,h2,h3,h4,h5,h6,h7⟩
 any_goals rfl
 by_cases h:1≤k
 ·simp[nq,dp,h1,h2,h3,h4,h5,h6,h7,h,show¬k≤3 by omega,di]
 ·simp[nq,dp,h1,h2,h3,h4,h5,h6,h7,h,di]
def ai7 (n:Int)(q:Bool):Bool:=if q then decide (0≤n∧n≤2147483647)else decide (n=0)
theorem aO7 (n:Int)(q:Bool):jD n q=some (ai7 n q):=by
 unfold jD ai7;cases q
 ·rfl
 ·by_cases h:0≤n<;>simp[h]
def uA (o:ec):Bool:=decide (0≤o.1∧o.1<8)&&(ai7 o.2.1 (dp o.1).1&&(ai7 o.2.2.1 (dp o.1).2.1&&(ai7 o.2.2.2.1 (dp o.1).2.2.1&&((dp o.1).2.2.2||decide (o.2.2.2.2=0)))))
theorem bq8 (o:ec):tz o.1 o.2.1 o.2.2.1 o.2.2.2.1 o.2.2.2.2=some (uA o):=by
 unfold tz wR uA
 have hk:(cond (decide (0≤o.1)) (some (decide (o.1<8))) (some false))=some (decide (0≤o.1∧o.1<8)):=by
  by_cases h:0≤o.1<;>simp[h]
 rw[bi2,hk];simp only[Option.bind_some,aO7];generalize decide (0≤o.1∧o.1<8)=b1;generalize ai7 o.2.1 (dp o.1).1=b2;generalize ai7 o.2.2.1 (dp o.1).2.1=b3;generalize ai7 o.2.2.2.1 (dp o.1).2.2.1=b4;generalize (dp o.1).2.2.2=b5;cases b1<;>cases b2<;>cases b3<;>cases b4<;>cases b5<;>rfl
theorem bA5 (o:ec):uF o.1 o.2.1 o.2.2.1 o.2.2.2.1 o.2.2.2.2=some (uA o):=by
 unfold uF;simp only[ck];by_cases h1:o.1<0
 ·rw[if_pos h1];unfold uA;rw[decide_eq_false (show¬(0≤o.1∧o.1<8)by omega)];rfl
 rw[if_neg h1];by_cases h2:7<o.1
 ·rw[if_pos h2];unfold uA;rw[decide_eq_false (show¬(0≤o.1∧o.1<8)by omega)];rfl
 rw[if_neg h2,aw4];simp only[Option.bind_some]
 have key:=wG (f:=rD o.2.1 o.2.2.1 o.2.2.2.1 (dp o.1)) (l:=[(o.2.1,(dp o.1).1),(o.2.2.1,(dp o.1).2.1),(o.2.2.2.1,(dp o.1).2.2.1)]) (fun p=> !ai7 p.1 p.2) (fun _=> .inl false) (.inr ()) (by simp)
  (fun i hi=>by
   unfold rD;have hi:i<3:=hi;rw[ck,if_pos (by omega),dk (show i<3 from hi),dk (show i<4 by omega)];simp only[Option.bind_some,ck]
   have e1:List.getD [o.2.1,o.2.2.1,o.2.2.2.1] i 0=([(o.2.1,(dp o.1).1),(o.2.2.1,(dp o.1).2.1),(o.2.2.2.1,(dp o.1).2.2.1)][i]).1:=by
    rcases(show i=0∨i=1∨i=2 by omega)with rfl|rfl|rfl<;>rfl
   have e2:List.getD [(dp o.1).1,(dp o.1).2.1,(dp o.1).2.2.1,(dp o.1).2.2.2] i false=([(o.2.1,(dp o.1).1),(o.2.2.1,(dp o.1).2.1),(o.2.2.2.1,(dp o.1).2.2.1)][i]).2:=by
    rcases(show i=0∨i=1∨i=2 by omega)with rfl|rfl|rfl<;>rfl
   rw[e1,e2,bD (n:=(i:Int)+1) (by omega),show(i:Int)+1=((i+1:Nat):Int)by omega];generalize [(o.2.1,(dp o.1).1),(o.2.2.1,(dp o.1).2.1),(o.2.2.2.1,(dp o.1).2.2.1)][i]=x;obtain⟨n,q⟩:=x;simp only[ai7];by_cases c1:n<0
   ·rw[if_pos c1,if_pos];cases q
    ·simp;omega
    ·simp;omega
   rw[if_neg c1];by_cases c2:2147483647<n
   ·rw[if_pos c2,if_pos];cases q
    ·simp;omega
    ·simp;omega
   rw[if_neg c2];cases q with
   |true=>
    rw[decide_eq_true (show 0≤n∧n≤2147483647 by omega)];rfl
   |false=>
    by_cases c3:n=0
    ·subst c3;rfl
    ·simp[c3])
  (by
   unfold rD
   rw[ck,if_neg (by simp)])
 unfold uA;rw[decide_eq_true (show 0≤o.1∧o.1<8 by omega)]
 have hany:([(o.2.1,(dp o.1).1),(o.2.2.1,(dp o.1).2.1),(o.2.2.2.1,(dp o.1).2.2.1)].any fun p=> !ai7 p.1 p.2)= !(ai7 o.2.1 (dp o.1).1&&(ai7 o.2.2.1 (dp o.1).2.1&&ai7 o.2.2.2.1 (dp o.1).2.2.1)):=by
  simp[List.any,Bool.not_and]
 rw[hany]at key;generalize ai7 o.2.1 (dp o.1).1=b2 at*;generalize ai7 o.2.2.1 (dp o.1).2.1=b3 at*;generalize ai7 o.2.2.2.1 (dp o.1).2.2.1=b4 at*;rcases key with⟨h,_,hk⟩|⟨h,hk⟩
 ·rw[hk];cases b2<;>cases b3<;>cases b4<;>first|rfl|cases h
 ·rw[hk]
  have:b2=true∧b3=true∧b4=true:=by
   cases b2<;>cases b3<;>cases b4<;>first|exact⟨rfl,rfl,rfl⟩|cases h
  obtain⟨rfl,rfl,rfl⟩:=this;simp only[Option.bind_some,di];cases(dp o.1).2.2.2<;>rfl
theorem ab7 (b:Bool)(e:Int):iI b e=some (if b then e else 0):=by cases b<;>rfl
def aL9 (l:List ec):Bool:=decide (dg l 0=some 0)&& !(l.any fun o=> !uA o)
theorem ay3 {R:Int}{l:List ec}(hl:l.length≤100):iP R l=some (if aL9 l then 0 else 6):=by
 unfold iP;obtain⟨m,hm⟩:=az4 (l:=l) (by omega);rw[hm];simp only[Option.bind_some,ab7];rw[decide_eq_false (by omega),cond_false,ck];unfold aL9;by_cases hs:dg l 0=some 0
 ·rw[if_pos hs,if_neg (by simp),decide_eq_true hs];unfold iH i9
  rcases wG (f:=gf l) (l:=l) (fun o=> !uA o) (fun i=> .inl (i:Int)) (.inr ()) (by omega) (fun i hi=>by
   unfold gf;rw[ck,if_pos (by omega),iz hi];simp only[Option.bind_some];unfold pU;rw[bq8,bD (n:=(i:Int)+1) (by omega)];simp only[Option.bind_some]
   cases uA l[i]<;>rfl) (by
   unfold gf
   rw[ck,if_neg (by omega)])with⟨h,i,hk⟩|⟨h,hk⟩
  ·rw[hk,h];simp only[Option.bind_some,di];rw[decide_eq_true (by omega)];rfl
  ·rw[hk,h];rfl
 ·rw[if_neg hs,if_pos (by simp),decide_eq_false hs];rfl
theorem bJ0 {R:Int}{l:List ec}(hl:l.length≤100):wm R l=some (aL9 l):=by
 unfold wm aL9;rw[decide_eq_false (by omega),cond_false,az8 (by omega)];simp only[Option.bind_some];cases decide (dg l 0=some 0)with
 |false=>rfl
 |true=>
  rcases wG (f:=sr l) (l:=l) (fun o=> !uA o) (fun i=> .inl false) (.inr ()) (by omega) (fun i hi=>by
   unfold sr;rw[ck,if_pos (by omega),iz hi];simp only[Option.bind_some];rw[bA5,bD (n:=(i:Int)+1) (by omega)];simp only[Option.bind_some]
   cases uA l[i]<;>rfl) (by
   unfold sr
   rw[ck,if_neg (by omega)])with⟨h,i,hk⟩|⟨h,hk⟩
  ·rw[hk,h];rfl
  ·rw[hk,h];rfl
def bq5 (R:Int)(o:ec):Bool:=((dp o.1).1&&decide (R≤o.2.1))||((dp o.1).2.1&&decide (R≤o.2.2.1))||((dp o.1).2.2.1&&decide (R≤o.2.2.2.1))
def aE8 (R:Int)(l:List ec):Bool:=decide (1≤R∧R≤64)&& !(l.any (bq5 R))
theorem aY8 (x y:Int):da [x,y]=some [y,x]:=by kernel_rfl
theorem bA9 (x:Int):da [x]=some [x]:=by kernel_rfl
theorem aY7 :da []=some []:=by kernel_rfl
theorem bq7 (o:ec):tx o.1 o.2.1 o.2.2.1 o.2.2.2.1 o.2.2.2.2=some (if(dp o.1).2.1 then(if(dp o.1).2.2.1 then [o.2.2.1,o.2.2.2.1]else [o.2.2.1])else []):=by
 obtain⟨k,d,a,b,v⟩:=o;simp only;rcases ac6 k with rfl|rfl|rfl|rfl|rfl|rfl|rfl|⟨h1,h2,h3,h4,h5,h6,h7⟩
 ·exact(show _=(da [b,a]).bind _ from rfl).trans (by rw[aY8];rfl)
 ·exact(show _=(da [b,a]).bind _ from rfl).trans (by rw[aY8];rfl)
 ·exact(show _=(da [b,a]).bind _ from rfl).trans (by rw[aY8];rfl)
 ·exact(show _=(da [a]).bind _ from rfl).trans (by rw[bA9];rfl)
 ·exact(show _=(da []).bind _ from rfl).trans (by rw[aY7];rfl)
 ·exact(show _=(da [a]).bind _ from rfl).trans (by rw[bA9];rfl)
 ·exact(show _=(da []).bind _ from rfl).trans (by rw[aY7];rfl)
 ·unfold tx;simp only[decide_eq_false h1,decide_eq_false h2,decide_eq_false h3,decide_eq_false h4,decide_eq_false h6,cond_false,Option.bind_some,di,aY7];simp[dp,h1,h2,h3,h4,h5,h6,h7]
theorem bo7 (l:List Int)(R:Int)(p:List ec)(hl:l.length<1000):gh l R p=some (l.any fun n=>decide (R≤n)):=by
 unfold gh ly
 rcases wG (f:=iA l R p) (l:=l) (fun n=>decide (R≤n)) (fun i=> .inl (i:Int)) (.inr ()) (by omega) (fun i hi=>by
  unfold iA;rw[ck,if_pos (by omega),iz hi];simp only[Option.bind_some];unfold jq;rw[bD (n:=(i:Int)+1) (by omega)];simp only[Option.bind_some]
  cases decide (R≤l[i])<;>rfl) (by
  unfold iA
  rw[ck,if_neg (by omega)])with⟨h,i,hk⟩|⟨h,hk⟩
 ·rw[hk,h];simp only[Option.bind_some,di];rw[decide_eq_true (by omega)]
 ·rw[hk,h];rfl
theorem bA8 (o:ec)(R:Int)(p:List ec):iW o.1 o.2.1 o.2.2.1 o.2.2.2.1 o.2.2.2.2 R p=some (bq5 R o):=by
 unfold iW kj;rw[bq7,bi2];unfold bq5;simp only[Option.bind_some];obtain⟨k,d,a,b,v⟩:=o;simp only
 have h1:(dp k).2.2.1=true→(dp k).2.1=true:=by
  unfold dp;split
  ·intro _;rfl
  split
  ·intro _;rfl
  split
  ·intro h;cases h
  split<;>intro h<;>cases h
 have h2:(dp k).2.1=true→(dp k).1=true:=by
  unfold dp;split
  ·intro _;rfl
  split
  ·intro _;rfl
  split
  ·intro h;cases h
  split<;>intro h<;>cases h
 generalize (dp k).1=b1 at*;generalize (dp k).2.1=b2 at*;generalize (dp k).2.2.1=b3 at*
 have hs: ∀l:List Int,l.length<1000→∀r,(l.any fun n=>decide (R≤n))=r→((gh l R p).bind fun r10=>some r10)=some r:=by
  intro l hl r hr;rw[bo7 l R p hl,hr];rfl
 cases b1<;>cases b2<;>cases b3<;>first
  |(cases h2 rfl)
  |(cases h1 rfl)
  |skip
 ·refine hs [] (by simp) _ ?_;generalize decide (R≤d)=x;generalize decide (R≤a)=y;generalize decide (R≤b)=z;cases x<;>cases y<;>cases z<;>rfl
 ·refine hs [d] (by simp) _ ?_;simp only[List.any_cons,List.any_nil];generalize decide (R≤d)=x;generalize decide (R≤a)=y;generalize decide (R≤b)=z;cases x<;>cases y<;>cases z<;>rfl
 ·refine hs [a,d] (by simp) _ ?_;simp only[List.any_cons,List.any_nil];generalize decide (R≤d)=x;generalize decide (R≤a)=y;generalize decide (R≤b)=z;cases x<;>cases y<;>cases z<;>rfl
 ·refine hs [a,b,d] (by simp) _ ?_;simp only[List.any_cons,List.any_nil];generalize decide (R≤d)=x;generalize decide (R≤a)=y;generalize decide (R≤b)=z;cases x<;>cases y<;>cases z<;>rfl
theorem vL {R:Int}{l:List ec}(hl:l.length≤100):gj R l=some (if aE8 R l then 0 else 7):=by
 unfold gj aE8;simp only[ab7,Option.bind_some,ck];by_cases c1:R<1
 ·rw[if_pos c1,decide_eq_false (show¬(1≤R∧R≤64)by omega)];rfl
 rw[if_neg c1];by_cases c2:64<R
 ·rw[if_pos c2,decide_eq_false (show¬(1≤R∧R≤64)by omega)];rfl
 rw[if_neg c2,decide_eq_true (show 1≤R∧R≤64 by omega)];unfold iq iK
 rcases wG (f:=fB l R l) (l:=l) (bq5 R) (fun i=> .inl (i:Int)) (.inr ()) (by omega) (fun i hi=>by
  unfold fB;rw[ck,if_pos (by omega),iz hi];simp only[Option.bind_some];rw[bA8,bD (n:=(i:Int)+1) (by omega)];simp only[Option.bind_some]
  cases bq5 R l[i]<;>rfl) (by
  unfold fB
  rw[ck,if_neg (by omega)])with⟨h,i,hk⟩|⟨h,hk⟩
 ·rw[hk,h];simp only[Option.bind_some,di];rw[decide_eq_true (by omega)];rfl
 ·rw[hk,h];rfl
theorem aP0 {R:Int}{l:List ec}(hl:l.length≤100):qV R l=some (aE8 R l):=by
 unfold qV aE8;simp only[ck];by_cases c1:R<1
 ·rw[if_pos c1,decide_eq_false (show¬(1≤R∧R≤64)by omega)];rfl
 rw[if_neg c1];by_cases c2:64<R
 ·rw[if_pos c2,decide_eq_false (show¬(1≤R∧R≤64)by omega)];rfl
 rw[if_neg c2,decide_eq_true (show 1≤R∧R≤64 by omega)]
 rcases wG (f:=nu R l) (l:=l) (bq5 R) (fun i=> .inl false) (.inr ()) (by omega) (fun i hi=>by
  unfold nu;rw[ck,if_pos (by omega),iz hi];simp only[Option.bind_some];rw[aw4,bD (n:=(i:Int)+1) (by omega)];simp only[Option.bind_some];unfold bq5;generalize l[i]=o;generalize decide (R≤o.2.1)=x;generalize decide (R≤o.2.2.1)=y;generalize decide (R≤o.2.2.2.1)=z;generalize (dp o.1).1=b1;generalize (dp o.1).2.1=b2;generalize (dp o.1).2.2.1=b3
  cases b1<;>cases b2<;>cases b3<;>cases x<;>cases y<;>cases z<;>rfl) (by
  unfold nu
  rw[ck,if_neg (by omega)])with⟨h,i,hk⟩|⟨h,hk⟩
 ·rw[hk,h];rfl
 ·rw[hk,h];rfl
def hmax :List ec→Nat→Nat→Nat
 |[],_,m=>m
 |o::r,d,m=>if o.1=7 then hmax r (d+1) (max m (d+1))else if o.1=0 then hmax r (d-1) m else hmax r d m
def cr3 (l:List ec)(s:Int×Bool×Int×List Int):Prop:=
 ∃(i m:Nat) (st:List Int),i≤l.length∧s=((i:Int),true,(m:Int),st)∧st.length≤i∧m≤i∧dg (l.drop i) st.length=dg l 0∧hmax (l.drop i) st.length m=hmax l 0 0
theorem bR6 {l:List ec}(hl:l.length≤100000)(s:Int×Bool×Int×List Int)(h:cr3 l s):
  (∃b,ph l s=some (.inl b)∧cr3 l b∧l.length-b.1.toNat<l.length-s.1.toNat)∨∃c,ph l s=some (.inr c)∧((c.1=false∧dg l 0=none)∨(c.1=true∧dg l 0=some c.2.2.length∧c.2.1=(hmax l 0 0:Int))):=by
 obtain⟨i,m,st,hi,rfl,hsl,hml,hsc,hhm⟩:=h;by_cases c:i<l.length
 ·have hdrop:l.drop i=l[i]::l.drop (i+1):=(List.getElem_cons_drop c).symm;rw[hdrop]at hsc hhm;simp only[ph];rw[decide_eq_true (show(i:Int)<(l.length:Int)by omega),cond_true,iz c];simp only[Option.bind_some];generalize hx:l[i]=x at*;simp only[dg]at hsc;simp only[hmax]at hhm;by_cases k0:x.1<0
  ·rw[if_pos (.inl k0)]at hsc;rw[decide_eq_true k0];simp only[cond_true,Option.bind_some,kf];exact .inr ⟨_,rfl, .inl ⟨rfl,hsc.symm⟩⟩
  rw[decide_eq_false k0,cond_false];by_cases k7:7<x.1
  ·rw[if_pos (.inr k7)]at hsc;rw[decide_eq_true k7];simp only[cond_true,Option.bind_some,dw,kf];exact .inr ⟨_,rfl, .inl ⟨rfl,hsc.symm⟩⟩
  rw[decide_eq_false k7,cond_false];rw[if_neg (by omega)]at hsc;by_cases kz:x.1=0
  ·rw[if_pos kz]at hsc;rw[if_neg (by omega),if_pos kz]at hhm;rw[decide_eq_true kz];simp only[cond_true,Option.bind_some,dw];by_cases hs0:st.length=0
   ·rw[if_pos hs0]at hsc;rw[decide_eq_true (show(st.length:Int)=0 by omega)];simp only[cond_true,Option.bind_some,kf];exact .inr ⟨_,rfl, .inl ⟨rfl,hsc.symm⟩⟩
   ·rw[if_neg hs0]at hsc;rw[decide_eq_false (show¬(st.length:Int)=0 by omega),cond_false];rw[bD (n:=(st.length:Int)-1) (by omega),kg (by omega),gw];simp only[Option.bind_some,dw];rw[decide_eq_false (show¬x.1=7 by omega)];simp only[cond_false];rw[bD (n:=(i:Int)+1) (by omega)]
    have hlt:(st.take (((st.length:Int)-1).toNat-0)).length=st.length-1:=by
     rw[List.length_take];omega
    refine .inl ⟨_,rfl,⟨i+1,m,_,c,rfl,by rw[hlt];omega,by omega,by rw[hlt];exact hsc,by rw[hlt];exact hhm⟩,by simp;omega⟩
  ·rw[if_neg kz]at hsc;have ez:decide (x.1=0)=false:=decide_eq_false kz;rw[ez];simp only[cond_false,Option.bind_some,dw];by_cases k7:x.1=7
   ·rw[if_pos k7]at hsc hhm;rw[decide_eq_true k7];simp only[cond_true];rw[gv (by omega) (by omega),bD (n:=(i:Int)+1) (by omega),bD (n:=(st.length:Int)+1) (by omega)];refine .inl ⟨_,rfl,⟨i+1,max m (st.length+1),st++[(i:Int)],c, ?_,by simp;omega,by omega,by rw[List.length_append];exact hsc,by rw[List.length_append];exact hhm⟩,by simp;omega⟩;rw[show((max m (st.length+1):Nat):Int)=max (m:Int) ((st.length:Int)+1)by omega];rfl
   ·rw[if_neg k7]at hsc hhm;rw[if_neg kz]at hhm;rw[decide_eq_false k7];simp only[cond_false];rw[bD (n:=(i:Int)+1) (by omega)];exact .inl ⟨_,rfl,⟨i+1,m,st,c,rfl,by omega,by omega,hsc,hhm⟩,by simp;omega⟩
 ·have hi':i=l.length:=by omega
  subst hi';rw[List.drop_length]at hsc hhm;simp only[ph];rw[decide_eq_false (show¬(l.length:Int)<(l.length:Int)by omega),cond_false];have hhm:m=hmax l 0 0:=hhm;exact .inr ⟨_,rfl, .inr ⟨rfl,hsc.symm,by rw[←hhm]⟩⟩
def aV5 (l:List ec):Int×Int:=if dg l 0=some 0 then((hmax l 0 0:Int),0)else(0,6)
theorem bT8 {l:List ec}(hl:l.length≤100000):xX l=some (aV5 l):=by
 unfold xX aV5
 obtain⟨c,hc,h⟩:=an9 (f:=ph l) (a:=((0:Int),true,(0:Int),([]:List Int))) (cr3 l) (fun s=>l.length-s.1.toNat) (fun c=>(c.1=false∧dg l 0=none)∨(c.1=true∧dg l 0=some c.2.2.length∧c.2.1=(hmax l 0 0:Int)))
  ⟨0,0,[],Nat.zero_le _,rfl,Nat.le_refl _,Nat.le_refl _,rfl,rfl⟩ (by simp;omega) (fun s hs=>bR6 hl s hs)
 rw[hc];simp only[Option.bind_some];rcases h with⟨h1,h2⟩|⟨h1,h2,h3⟩
 ·rw[h1,h2];rfl
 ·rw[h1,h2,cond_true];by_cases c0:c.2.2.length=0
  ·rw[decide_eq_true (show(c.2.2.length:Int)=0 by omega),if_pos (by rw[c0]),h3];rfl
  ·rw[decide_eq_false (show¬(c.2.2.length:Int)=0 by omega),if_neg (by intro e;injection e with e;exact c0 e)];rfl
def dpt (l:List ec)(i:Nat):Nat:=(dg (l.take i) 0).getD 0
theorem bw6 {l:List ec}(hs:dg l 0=some 0){i:Nat}(hi:i≤l.length):dg (l.take i) 0=some (dpt l i):=by
 obtain⟨d,h1,_⟩:=aT8 hs hi;unfold dpt;rw[h1];rfl
theorem aV6 {l:List ec}(hs:dg l 0=some 0){i:Nat}(hi:i<l.length):(l[i].1=7∧dpt l (i+1)=dpt l i+1)∨(l[i].1=0∧0<dpt l i∧dpt l (i+1)=dpt l i-1)∨(l[i].1≠7∧l[i].1≠0∧dpt l (i+1)=dpt l i):=by
 have h1:=bw6 hs (i:=i+1) (by omega);rw[List.take_succ_eq_append_getElem hi,sj,bw6 hs (by omega)]at h1;have h1:dg [l[i]] (dpt l i)=some (dpt l (i+1)):=h1;simp only[dg]at h1;split at h1
 ·cases h1
 split at h1
 ·rename_i k1 k2;split at h1
  ·cases h1
  ·injection h1 with h1
   exact .inr (.inl ⟨k2,by omega,h1.symm⟩)
 rename_i k1 k2;split at h1
 ·rename_i k3;injection h1 with h1
  exact .inl ⟨k3,h1.symm⟩
 ·rename_i k3;injection h1 with h1
  exact .inr (.inr ⟨k3,k2,h1.symm⟩)
theorem bZ1 {l:List ec}(hs:dg l 0=some 0): ∀i,i≤l.length→dpt l i≤i
 |0,_=>Nat.le_refl _
 |i+1,h=>by
  have:=bZ1 hs i (by omega);rcases aV6 hs (i:=i) (by omega)with⟨_,h2⟩|⟨_,_,h2⟩|⟨_,_,h2⟩<;>omega
theorem br2 {l:List ec}(hl:l.length≤100000)(hs:dg l 0=some 0){n:Nat}(hn:n≤l.length):tC l (n:Int)=some (dpt l n:Int):=by
 unfold tC;have key:cw (nr l (n:Int)) iJ (0,((dpt l 0:Nat):Int))=some ((dpt l n:Nat):Int):=qD (n:=n) (fun i=>((dpt l i:Nat):Int)) (c:=((dpt l n:Nat):Int)) (by omega) (fun i hi=> ?_) ?_
 ·show((cw (nr l (n:Int)) iJ (0,((dpt l 0:Nat):Int))).bind _)=_;rw[key];rfl
 ·unfold nr;simp only[ck];rw[if_pos (by omega),iz (show i<l.length by omega)];simp only[Option.bind_some];have hd:=bZ1 hs i (by omega);rw[bD (n:=(i:Int)+1) (by omega)];rcases aV6 hs (i:=i) (by omega)with⟨h1,h2⟩|⟨h1,h3,h2⟩|⟨h1,h3,h2⟩
  ·rw[if_pos h1,if_neg (by omega),bD (n:=((dpt l i:Nat):Int)+1) (by omega),h2];rfl
  ·rw[if_neg (by omega),if_pos h1,bD (n:=((dpt l i:Nat):Int)-1) (by omega),h2,show((dpt l i-1:Nat):Int)=(dpt l i:Int)-1 by omega];rfl
  ·rw[if_neg h1,if_neg h3,h2];rfl
 ·unfold nr;simp only[ck];rw[if_neg (by omega)]
def zd (l:List ec):Nat→Nat
 |0=>0
 |i+1=>max (zd l i) (dpt l i)
theorem bg9 {l:List ec}(hs:dg l 0=some 0): ∀k i,i+k=l.length→hmax (l.drop i) (dpt l i) (zd l (i+1))=zd l (l.length+1)
 |0,i,h=>by
  have:i=l.length:=by omega
  subst this;rw[List.drop_length];rfl
 |k+1,i,h=>by
  rw[(List.getElem_cons_drop (show i<l.length by omega)).symm];simp only[hmax];have ih:=bg9 hs k (i+1) (by omega);have e:zd l (i+1+1)=max (zd l (i+1)) (dpt l (i+1)):=rfl;have e2:zd l (i+1)=max (zd l i) (dpt l i):=rfl;rcases aV6 hs (i:=i) (by omega)with⟨h1,h2⟩|⟨h1,h3,h2⟩|⟨h1,h3,h2⟩
  ·rw[if_pos h1,←h2,←e];exact ih
  ·rw[if_neg (by omega),if_pos h1,←h2,show zd l (i+1)=zd l (i+1+1)by rw[e];omega];exact ih
  ·rw[if_neg h1,if_neg h3];rw[h2,show zd l (i+1+1)=zd l (i+1)by rw[e];omega]at ih;exact ih
theorem bI7 {l:List ec}(hl:l.length≤100000):wk l=some (aV5 l):=by
 unfold wk aV5;rw[az8 hl];simp only[Option.bind_some];by_cases hs:dg l 0=some 0
 ·rw[decide_eq_true hs,if_pos hs];simp only[Bool.not_true,cond_false];have key:cw (qA l) iJ (0,((zd l 0:Nat):Int))=some ((zd l (l.length+1):Nat):Int):=qD (n:=l.length+1) (fun i=>((zd l i:Nat):Int)) (c:=((zd l (l.length+1):Nat):Int)) (by omega) (fun i hi=> ?_) ?_
  ·show((cw (qA l) iJ (0,((zd l 0:Nat):Int))).bind _)=_;rw[key];have h:=bg9 hs l.length 0 (by omega);have e0:dpt l 0=0:=rfl;have e1:zd l (0+1)=0:=rfl;rw[e0,e1,List.drop_zero]at h;rw[h];rfl
  ·unfold qA;simp only[ck];rw[if_pos (by omega),br2 hl hs (by omega)];simp only[Option.bind_some];rw[bD (n:=(i:Int)+1) (by omega)];show _=some (Sum.inl (((i+1:Nat):Int),((max (zd l i) (dpt l i):Nat):Int)));rw[show((max (zd l i) (dpt l i):Nat):Int)=max (zd l i:Int) (dpt l i:Int)by omega];rfl
  ·unfold qA;simp only[ck];rw[if_neg (by omega)]
 ·rw[decide_eq_false hs,if_neg hs];rfl
structure OpsOk (l:List ec):Prop where
 len:l.length≤100
 v: ∀o∈l,0≤o.2.2.2.2∧o.2.2.2.2≤18446744073709551615
def lk0 (l:List ec):Int:=if aL9 l then 0 else 6
def lk1 (R:Int)(l:List ec):Int:=if aE8 R l then 0 else 7
def lk2 (l:List ec):Int:=if 8<(aV5 l).1 then 8 else 0
def lk3 (l:List ec):Int:=(ff l).2
def ac8 (R:Int)(l:List ec):Int:=if lk0 l≠0 then lk0 l else if lk1 R l≠0 then lk1 R l else if lk2 l≠0 then lk2 l else lk3 l
def rV (R:Int)(l:List ec)(Q:Int)(k:List ec):Int:=if lk0 l≠0 then lk0 l else if lk0 k≠0 then lk0 k else if lk1 R l≠0 then lk1 R l else if lk1 Q k≠0 then lk1 Q k else if lk2 l≠0 then lk2 l else if lk2 k≠0 then lk2 k else if lk3 l≠0 then lk3 l else lk3 k
theorem am6 {R:Int}{l:List ec}(h:OpsOk l):iE R l=some (lk2 l):=by
 unfold iE lk2;have:=h.len;rw[bT8 (by omega)];simp only[Option.bind_some,ab7];by_cases c:8<(aV5 l).1<;>simp[c]
theorem ab8 {R:Int}{l:List ec}(h:OpsOk l):il R l=some (lk3 l):=by
 unfold il lk3;have:=h.len;rw[vt (by omega) h.v];rfl
theorem bd7 {R:Int}{l:List ec}(h:OpsOk l):sq R l=some (ac8 R l):=by
 unfold sq ac8;rw[ay3 h.len,vL h.len,am6 h,ab8 h];simp only[Option.bind_some,ck];show(if lk0 l≠0 then some (lk0 l)else if lk1 R l≠0 then some (lk1 R l)else if lk2 l≠0 then some (lk2 l)else if lk3 l≠0 then some (lk3 l)else some 0)=_;split
 ·rfl
 split
 ·rfl
 split
 ·rfl
 split
 ·rfl
 ·rename_i h;rw[show lk3 l=0 by omega]
theorem bF7 {R Q:Int}{l k:List ec}(h:OpsOk l)(h':OpsOk k):wj R l Q k=some (rV R l Q k):=by
 unfold wj rV;rw[ay3 h.len,vL h.len,am6 h,ab8 h,ay3 h'.len,vL h'.len,am6 h',ab8 h'];simp only[Option.bind_some,ck];show(if lk0 l≠0 then some (lk0 l)else if lk0 k≠0 then some (lk0 k)else if lk1 R l≠0 then some (lk1 R l)else if lk1 Q k≠0 then some (lk1 Q k)else if lk2 l≠0 then some (lk2 l)else if lk2 k≠0 then some (lk2 k)else if lk3 l≠0 then some (lk3 l)else if lk3 k≠0 then some (lk3 k)else some 0)=_;split
 ·rfl
 split
 ·rfl
 split
 ·rfl
 split
 ·rfl
 split
 ·rfl
 split
 ·rfl
 split
 ·rfl
 split
 ·rfl
 ·rename_i h;rw[show lk3 k=0 by omega]
def lkN (R:Int)(l:List ec)(n:Nat):Int:=if n=0 then lk0 l else if n=1 then lk1 R l else if n=2 then lk2 l else lk3 l
theorem aY4 {R:Int}{l:List ec}(h:OpsOk l)(n:Nat):tD R l (n:Int)=some (lkN R l n):=by
 unfold tD lkN;have:=h.len;simp only[ck];by_cases c0:n=0
 ·rw[if_pos (by omega),if_pos c0,bJ0 h.len];unfold lk0;simp only[Option.bind_some];cases aL9 l<;>rfl
 rw[if_neg (by omega),if_neg c0];by_cases c1:n=1
 ·rw[if_pos (by omega),if_pos c1,aP0 h.len];unfold lk1;simp only[Option.bind_some];cases aE8 R l<;>rfl
 rw[if_neg (by omega),if_neg c1];by_cases c2:n=2
 ·rw[if_pos (by omega),if_pos c2,bI7 (by omega)];unfold lk2;simp only[Option.bind_some];split<;>rfl
 rw[if_neg (by omega),if_neg c2,ac9 h.len h.v];rfl
theorem bI9 {R Q:Int}{l k:List ec}(h:OpsOk l)(h':OpsOk k):wl R l Q k=some (rV R l Q k):=by
 have hstep: ∀n:Nat,n<4→ng R l Q k (n:Int)=some (if lkN R l n≠0 then .inr (.inl (lkN R l n))else if lkN Q k n≠0 then .inr (.inl (lkN Q k n))else .inl ((n+1:Nat):Int)):=by
  intro n hn;unfold ng;simp only[ck];rw[if_pos (by omega),aY4 h,aY4 h'];simp only[Option.bind_some];rw[bD (n:=(n:Int)+1) (by omega)];split
  ·rfl
  split<;>rfl
 have hend:ng R l Q k 4=some (.inr (.inr ())):=rfl;unfold wl rV
 have key:cw (ng R l Q k) iJ 0=some (if lk0 l≠0 then .inl (lk0 l)else if lk0 k≠0 then .inl (lk0 k)else if lk1 R l≠0 then .inl (lk1 R l)else if lk1 Q k≠0 then .inl (lk1 Q k)else if lk2 l≠0 then .inl (lk2 l)else if lk2 k≠0 then .inl (lk2 k)else if lk3 l≠0 then .inl (lk3 l)else if lk3 k≠0 then .inl (lk3 k)else .inr ()):=by
  have hB:iJ=18446744073709551611+1+1+1+1+1:=rfl;rw[hB,et];have h0:=hstep 0 (by omega);have h1:=hstep 1 (by omega);have h2:=hstep 2 (by omega);have h3:=hstep 3 (by omega);rw[show lkN R l 0=lk0 l from rfl,show lkN Q k 0=lk0 k from rfl]at h0;rw[show lkN R l 1=lk1 R l from rfl,show lkN Q k 1=lk1 Q k from rfl]at h1;rw[show lkN R l 2=lk2 l from rfl,show lkN Q k 2=lk2 k from rfl]at h2;rw[show lkN R l 3=lk3 l from rfl,show lkN Q k 3=lk3 k from rfl]at h3;have h0:ng R l Q k 0=_:=h0;rw[h0];simp only[Option.bind_some];split
  ·rfl
  split
  ·rfl
  simp only[di];rw[et,h1];simp only[Option.bind_some];split
  ·rfl
  split
  ·rfl
  simp only[di];rw[et,h2];simp only[Option.bind_some];split
  ·rfl
  split
  ·rfl
  simp only[di];rw[et,h3];simp only[Option.bind_some];split
  ·rfl
  split
  ·rfl
  simp only[di];rw[et,show(((3+1:Nat):Int))=4 from rfl,hend];rfl
 rw[key];simp only[Option.bind_some];split
 ·rfl
 split
 ·rfl
 split
 ·rfl
 split
 ·rfl
 split
 ·rfl
 split
 ·rfl
 split
 ·rfl
 split
 ·rfl
 ·rename_i h;rw[show lk3 k=0 by omega];rfl
abbrev cD7 :Sh:= .list (.pair (.int .i64) (.pair (.int .i64) (.pair (.int .i64) (.pair (.int .i64) (.int .u64)))))
theorem bq9 {l:List ec}(f:bP9 cD7 l)(h:l.length≤100):OpsOk l:=⟨h,fun o ho=>(f.2 o ho).2.2.2.2⟩
theorem ci4 (a0:Int)(a1:List ec)(a2:Int)(a3:List ec)(a4 a5:Int): ∃d,ti a0 a1 a2 a3 a4 a5=some d∧rF a0 a1 a2 a3 a4 a5=some d:=by
 unfold ti rF;simp only[ab7,Option.bind_some,ck];by_cases c1:a4<1
 ·rw[if_pos c1,if_pos c1];exact⟨_,rfl,rfl⟩
 rw[if_neg c1,if_neg c1];by_cases c2:64<a4
 ·rw[if_pos c2,if_pos c2];exact⟨_,rfl,rfl⟩
 rw[if_neg c2,if_neg c2];by_cases c3:a5<0
 ·rw[if_pos c3,if_pos c3];exact⟨_,rfl,rfl⟩
 rw[if_neg c3,if_neg c3];by_cases c4:64<a5
 ·rw[if_pos c4];simp only[Option.bind_some];rw[ck,if_pos c4];exact⟨_,rfl,rfl⟩
 rw[if_neg c4];simp only[Option.bind_some];rw[ck,if_neg c4];by_cases c5:a0<IntKind.i64.wrap (IntKind.i64.wrap (a4+a5)+1)
 ·rw[if_pos c5,if_pos c5];exact⟨_,rfl,rfl⟩
 rw[if_neg c5,if_neg c5];by_cases c6:a2<IntKind.i64.wrap (a4+a5)
 ·rw[if_pos c6,decide_eq_true c6];exact⟨_,rfl,rfl⟩
 ·rw[if_neg c6,decide_eq_false c6];exact⟨_,rfl,rfl⟩
def yf (s l x t:Int):Int:=if x<1 then 10 else if 64<x then 10 else if t<0 then 10 else if 64<t then 10 else if s<IntKind.i64.wrap (IntKind.i64.wrap (x+t)+1)then 10 else if l<IntKind.i64.wrap (x+t)then 10 else 0
theorem aY3 (a0:Int)(a1:List ec)(a2:Int)(a3:List ec)(a4 a5:Int):rF a0 a1 a2 a3 a4 a5=some (yf a0 a2 a4 a5):=by
 unfold rF yf;simp only[ck];split
 ·rfl
 split
 ·rfl
 split
 ·rfl
 split
 ·rfl
 split
 ·rfl
 split<;>rfl
theorem bF6 (a0:Int)(a1:List ec)(a2:Int)(a3:List ec)(a4 a5:Int):ti a0 a1 a2 a3 a4 a5=some (yf a0 a2 a4 a5):=by
 obtain⟨d,h1,h2⟩:=ci4 a0 a1 a2 a3 a4 a5;rw[h1,←h2,aY3]
def hk0 (m:Int):Int:=if m<1 then 5 else if 3<m then 5 else 0
def hk3 (m n:Int):Int:=if n<0 then 11 else if(if m=2 then 0 else 65535)<n then 11 else 0
def hk4 (b:Int):Int:=if b<0 then 12 else if 1048576<b then 12 else 0
def ac3 (m:Int)(x t:Nat)(R:Int)(l:List ec)(Q:Int)(k:List ec)(n b:Int):Int:=if hk0 m≠0 then hk0 m else if rV R l Q k≠0 then rV R l Q k else if yf R Q x t≠0 then yf R Q x t else if hk3 m n≠0 then hk3 m n else hk4 b
theorem an5 (b:Bool)(e:Int):lj b e=some (if b then e else 0):=by cases b<;>rfl
section
variable {a0:Int} {a1 a2:List Int} {a3:Int} {a4:List ec} {a5:Int} {a6:List ec} {a7 a8:Int}
theorem ct8 :jv a0 a1 a2 a3 a4 a5 a6 a7 a8=some (hk0 a0):=by
 unfold jv hk0;simp only[an5,Option.bind_some,ck];split
 ·rfl
 ·by_cases c:3<a0<;>simp[c]
theorem bG9 (h4:OpsOk a4)(h6:OpsOk a6):iG a0 a1 a2 a3 a4 a5 a6 a7 a8=some (rV a3 a4 a5 a6):=by
 unfold iG;rw[bF7 h4 h6];rfl
theorem ct7 :ju a0 a1 a2 a3 a4 a5 a6 a7 a8=some (yf a3 a5 (a1.length:Nat) (a2.length:Nat)):=by
 unfold ju;rw[bF6];rfl
theorem bZ7 :i6 a0 a1 a2 a3 a4 a5 a6 a7 a8=some (hk3 a0 a7):=by
 unfold i6 hk3;simp only[an5,Option.bind_some,ck];by_cases c0:a0=2
 ·rw[if_pos c0,if_pos c0];simp only[Option.bind_some];split
  ·rfl
  ·by_cases c:0<a7<;>simp[c]
 ·rw[if_neg c0,if_neg c0];simp only[Option.bind_some];split
  ·rfl
  ·by_cases c:65535<a7<;>simp[c]
theorem bZ6 :i5 a0 a1 a2 a3 a4 a5 a6 a7 a8=some (hk4 a8):=by
 unfold i5 hk4;simp only[an5,Option.bind_some,ck];split
 ·rfl
 ·by_cases c:1048576<a8<;>simp[c]
theorem aD1 (h4:OpsOk a4)(h6:OpsOk a6):qY a0 a1 a2 a3 a4 a5 a6 a7 a8=some (ac3 a0 a1.length a2.length a3 a4 a5 a6 a7 a8):=by
 have h0:i4 a0 a1 a2 a3 a4 a5 a6 a7 a8 0=some (if hk0 a0≠0 then .inr (.inl (hk0 a0))else .inl 1):=by
  show((jv a0 a1 a2 a3 a4 a5 a6 a7 a8).bind fun r=>cond (decide (r≠0)) _ _)=_;rw[ct8];simp only[Option.bind_some,ck];split<;>rfl
 have h1:i4 a0 a1 a2 a3 a4 a5 a6 a7 a8 1=some (if rV a3 a4 a5 a6≠0 then .inr (.inl (rV a3 a4 a5 a6))else .inl 2):=by
  show((iG a0 a1 a2 a3 a4 a5 a6 a7 a8).bind fun r=>cond (decide (r≠0)) _ _)=_;rw[bG9 h4 h6];simp only[Option.bind_some,ck];split<;>rfl
 have h2:i4 a0 a1 a2 a3 a4 a5 a6 a7 a8 2=some (if yf a3 a5 (a1.length:Nat) (a2.length:Nat)≠0 then .inr (.inl (yf a3 a5 (a1.length:Nat) (a2.length:Nat)))else .inl 3):=by
  show((ju a0 a1 a2 a3 a4 a5 a6 a7 a8).bind fun r=>cond (decide (r≠0)) _ _)=_;rw[ct7];simp only[Option.bind_some,ck];split<;>rfl
 have h3:i4 a0 a1 a2 a3 a4 a5 a6 a7 a8 3=some (if hk3 a0 a7≠0 then .inr (.inl (hk3 a0 a7))else .inl 4):=by
  show((i6 a0 a1 a2 a3 a4 a5 a6 a7 a8).bind fun r=>cond (decide (r≠0)) _ _)=_;rw[bZ7];simp only[Option.bind_some,ck];split<;>rfl
 have h5:i4 a0 a1 a2 a3 a4 a5 a6 a7 a8 4=some (if hk4 a8≠0 then .inr (.inl (hk4 a8))else .inl 5):=by
  show((i5 a0 a1 a2 a3 a4 a5 a6 a7 a8).bind fun r=>cond (decide (r≠0)) _ _)=_;rw[bZ6];simp only[Option.bind_some,ck];split<;>rfl
 have hend:i4 a0 a1 a2 a3 a4 a5 a6 a7 a8 5=some (.inr (.inr ())):=rfl;unfold qY ac3;have hB:iJ=18446744073709551610+1+1+1+1+1+1:=rfl;rw[hB,et,h0];simp only[Option.bind_some];split
 ·rfl
 simp only[di];rw[et,h1];simp only[Option.bind_some];split
 ·rfl
 simp only[di];rw[et,h2];simp only[Option.bind_some];split
 ·rfl
 simp only[di];rw[et,h3];simp only[Option.bind_some];split
 ·rfl
 simp only[di];rw[et,h5];simp only[Option.bind_some];split
 ·rfl
 ·rename_i h;simp only[di];rw[et,hend];rw[show hk4 a8=0 by omega];rfl
theorem bA7 (h4:OpsOk a4)(h6:OpsOk a6):uH a0 a1 a2 a3 a4 a5 a6 a7 a8=some (ac3 a0 a1.length a2.length a3 a4 a5 a6 a7 a8):=by
 unfold uH ac3;rw[bI9 h4 h6,aY3];simp only[Option.bind_some,ck];unfold hk0;by_cases c1:a0<1
 ·rw[if_pos c1,if_pos c1];rfl
 rw[if_neg c1,if_neg c1];by_cases c2:3<a0
 ·rw[if_pos c2,if_pos c2];rfl
 rw[if_neg c2,if_neg c2];rw[if_neg (show¬(0:Int)≠0 by simp)];by_cases c3:rV a3 a4 a5 a6≠0
 ·rw[if_pos c3,if_pos c3]
 rw[if_neg c3,if_neg c3];by_cases c4:yf a3 a5 (a1.length:Nat) (a2.length:Nat)≠0
 ·rw[if_pos c4,if_pos c4]
 rw[if_neg c4,if_neg c4];unfold hk3 hk4;by_cases c5:a7<0
 ·rw[if_pos c5,if_pos c5];rfl
 rw[if_neg c5,if_neg c5];by_cases c6:a0=2
 ·rw[if_pos c6,if_pos c6];by_cases c7:0<a7
  ·rw[if_pos c7,if_pos (show(11:Int)≠0 by simp)];by_cases c8:65535<a7
   ·rw[if_pos c8]
   ·rw[if_neg c8,if_pos (by omega)]
  ·rw[if_neg c7,if_neg (show¬(0:Int)≠0 by simp),if_neg (show¬65535<a7 by omega),if_neg (show¬a7≠0 by omega)];split
   ·rfl
   ·split<;>rfl
 ·rw[if_neg c6,if_neg c6];by_cases c8:65535<a7
  ·rw[if_pos c8,if_pos c8];rfl
  ·rw[if_neg c8,if_neg c8,if_neg (show¬(0:Int)≠0 by simp)];split
   ·rfl
   ·split<;>rfl
structure HFacts (a0:Int)(x t:Nat)(a3:Int)(a4:List ec)(a5:Int)(a6:List ec)(a7 a8:Int):Prop where
 mode:1≤a0∧a0≤3
 regs:1≤a3∧a3≤64
 regs':1≤a5∧a5≤64
 xs:1≤x∧x≤64
 ts:t≤64
 w:0≤(ff a4).1∧(ff a4).1≤65536
 w':0≤(ff a6).1∧(ff a6).1≤65536
 len:0≤a7∧a7≤65535
 bud:0≤a8∧a8≤1048576
theorem by0 {R:Int}{l:List ec}(h:lk1 R l=0):1≤R∧R≤64:=by
 unfold lk1 at h;split at h
 ·rename_i hb;unfold aE8 at hb;rw[Bool.and_eq_true]at hb;exact of_decide_eq_true hb.1
 ·cases h
theorem ba8 {l:List ec}(h:OpsOk l):0≤(ff l).1∧(ff l).1≤65536:=by
 unfold ff;split
 ·rename_i hs;split
  ·rename_i w hq;have:=aK4 (fun o ho=>(h.v o ho).1) hs hq;split
   ·simp
   ·simp;omega
  ·simp
 ·simp
theorem bU7 {R Q:Int}{l k:List ec}(h:rV R l Q k=0):(1≤R∧R≤64)∧(1≤Q∧Q≤64):=by
 unfold rV at h;split at h
 ·rename_i c;exact(c h).elim
 split at h
 ·rename_i c;exact(c h).elim
 split at h
 ·rename_i c;exact(c h).elim
 split at h
 ·rename_i c;exact(c h).elim
 rename_i c1 c2;exact⟨by0 (l:=l) (by omega),by0 (l:=k) (by omega)⟩
theorem aW7 (h4:OpsOk a4)(h6:OpsOk a6){x t:Nat}(h:ac3 a0 x t a3 a4 a5 a6 a7 a8=0):HFacts a0 x t a3 a4 a5 a6 a7 a8:=by
 unfold ac3 at h;split at h
 ·rename_i c;exact(c h).elim
 split at h
 ·rename_i c;exact(c h).elim
 split at h
 ·rename_i c;exact(c h).elim
 split at h
 ·rename_i c;exact(c h).elim
 rename_i c0 c1 c2 c3;obtain⟨r1,r2⟩:=bU7 (show rV a3 a4 a5 a6=0 by omega);have c0:hk0 a0=0:=by omega
 have c2:yf a3 a5 x t=0:=by omega
 have c3:hk3 a0 a7=0:=by omega
 unfold hk0 at c0;unfold hk3 at c3;unfold hk4 at h;unfold yf at c2;refine⟨?_,r1,r2, ?_, ?_,ba8 h4,ba8 h6, ?_, ?_⟩
 ·split at c0
  ·omega
  split at c0<;>omega
 ·split at c2
  ·omega
  split at c2<;>omega
 ·split at c2
  ·omega
  split at c2
  ·omega
  split at c2
  ·omega
  split at c2<;>omega
 ·split at c3
  ·omega
  by_cases k3:a0=2
  ·rw[if_pos k3]at c3;split at c3<;>omega
  ·rw[if_neg k3]at c3;split at c3<;>omega
 ·split at h
  ·omega
  split at h<;>omega
def uo (a0:Int)(a4 a6:List ec):Int:=if a0=3 then(ff a6).1 else(ff a4).1+(ff a6).1
def vu (a0:Int)(x:Nat)(a3:Int)(a4:List ec):Int:=if a0=3 then(ff a4).1+a3 else x+1
def vN (x t:Nat)(a3 a5:Int):Int:=2*t+2*x+a3+a5+max a3 a5
theorem bO5 (h4:OpsOk a4)(h6:OpsOk a6):ji a0 a1 a2 a3 a4 a5 a6 a7 a8=some (if ac3 a0 a1.length a2.length a3 a4 a5 a6 a7 a8≠0 then(0,0)else((ff a4).1,(ff a6).1)):=by
 unfold ji;have:=h4.len;have:=h6.len;rw[aD1 h4 h6,vt (by omega) h4.v,vt (by omega) h6.v];simp only[Option.bind_some,ck];split<;>rfl
theorem ce0 (h4:OpsOk a4)(h6:OpsOk a6):zt a0 a1 a2 a3 a4 a5 a6 a7 a8=some (if ac3 a0 a1.length a2.length a3 a4 a5 a6 a7 a8≠0 then(0,0)else((ff a4).1,(ff a6).1)):=by
 unfold zt;have:=h4.len;have:=h6.len;rw[bA7 h4 h6,ac9 h4.len h4.v,ac9 h6.len h6.v];simp only[Option.bind_some,ck];split<;>rfl
theorem aY0 (h4:OpsOk a4)(h6:OpsOk a6)(h:ac3 a0 a1.length a2.length a3 a4 a5 a6 a7 a8=0):tB a0 a1 a2 a3 a4 a5 a6 a7 a8=some (((a2.length:Nat):Int),((a1.length:Nat):Int),a3,a5,max a3 a5,((a1.length:Nat):Int),((a2.length:Nat):Int),uo a0 a4 a6,vu a0 a1.length a3 a4):=by
 have f:=aW7 h4 h6 h;have g1:=f.mode;have g2:=f.regs;have g3:=f.xs;have g4:=f.w;have g5:=f.w';unfold tB uo vu;rw[bO5 h4 h6,if_neg (fun c=>c h)];simp only[Option.bind_some,ck];rw[bD (n:=(ff a4).1+a3) (by omega),bD (n:=(ff a4).1+(ff a6).1) (by omega),bD (n:=(a1.length:Int)+1) (by omega)];split
 ·rfl
 ·rfl
def pre (L:List Int):Nat→Int
 |0=>0
 |i+1=>pre L i+L.getD i 0
theorem bI4 {L:List Int}(hb: ∀j,0≤L.getD j 0∧L.getD j 0≤1000000000000): ∀i,0≤pre L i∧pre L i≤1000000000000*i
 |0=>⟨Int.le_refl _,Int.le_refl _⟩
 |i+1=>by
  have:=bI4 hb i;have:=hb i;simp only[pre];omega
theorem bz8 {b0 b1 b2 b3 b4 b5 b6 b7 b8 n:Int}(hb: ∀j,0≤([b0,b1,b2,b3,b4,b5,b6,b7,b8*n]:List Int).getD j 0∧([b0,b1,b2,b3,b4,b5,b6,b7,b8*n]:List Int).getD j 0≤1000000000000):wS b0 b1 b2 b3 b4 b5 b6 b7 b8 n=some ((List.range 10).map (pre [b0,b1,b2,b3,b4,b5,b6,b7,b8*n])):=by
 generalize hL:([b0,b1,b2,b3,b4,b5,b6,b7,b8*n]:List Int)=L at*;have hp:=bI4 hb
 have key:cw (sa b0 b1 b2 b3 b4 b5 b6 b7 b8) iJ (0,(pre L 0,(List.range 0).map (pre L)))=some (pre L 8,(List.range 8).map (pre L)):=by
  refine qD (n:=8) (fun i=>(pre L i,(List.range i).map (pre L))) (by omega) (fun i hi=> ?_) ?_
  ·unfold sa;rw[ck,if_pos (by omega),dk (show i<9 by omega)];simp only[Option.bind_some]
   have e:List.getD [b0,b1,b2,b3,b4,b5,b6,b7,b8] i 0=L.getD i 0:=by
    subst hL;rcases(show i=0∨i=1∨i=2∨i=3∨i=4∨i=5∨i=6∨i=7 by omega)with rfl|rfl|rfl|rfl|rfl|rfl|rfl|rfl<;>rfl
   have h1:=hp i;have h2:=hb i;rw[e];rw[gv (by simp;omega) (by omega),bD (n:=pre L i+L.getD i 0) (by omega),bD (n:=(i:Int)+1) (by omega),List.range_succ,List.map_append];rfl
  ·unfold sa;rw[ck,if_neg (by omega)]
 unfold wS;have key:cw (sa b0 b1 b2 b3 b4 b5 b6 b7 b8) iJ ((0,0,[]))=_:=key;rw[key];have h1:=hp 8;have h2:=hb 8;have e:L.getD 8 0=b8*n:=by subst hL;rfl
 rw[e]at h2;simp only[Option.bind_some];rw[gv (by simp) (by omega),gv (by simp) (by omega),bD (n:=b8*n) (by omega),bD (n:=pre L 8+b8*n) (by omega)];show _=some ((List.range (8+1+1)).map (pre L));rw[List.range_succ (n:=8+1),List.range_succ (n:=8),List.map_append,List.map_append];show _=some (((List.range 8).map (pre L)++[pre L 8])++[pre L 8+L.getD 8 0]);rw[e]
theorem bU9 {b0 b1 b2 b3 b4 b5 b6 b7 b8 n:Int}(hb: ∀j,0≤([b0,b1,b2,b3,b4,b5,b6,b7,b8*n]:List Int).getD j 0∧([b0,b1,b2,b3,b4,b5,b6,b7,b8*n]:List Int).getD j 0≤1000000000000):uS b0 b1 b2 b3 b4 b5 b6 b7 b8 n=some (b0+b1+b2+b3+b4+b5+b6+b7+b8*n):=by
 unfold uS;rw[bz8 hb];show some (0+b0+b1+b2+b3+b4+b5+b6+b7+b8*n)=_;rw[Int.zero_add]
theorem cC8 {b0 b1 b2 b3 b4 b5 b6 b7 b8:Int}{p:Int→Prop}(h:p b0)(h1:p b1)(h2:p b2)(h3:p b3)(h4:p b4)(h5:p b5)(h6:p b6)(h7:p b7)(h8:p b8)(hz:p 0): ∀j,p (([b0,b1,b2,b3,b4,b5,b6,b7,b8]:List Int).getD j 0)
 |0=>h
 |1=>h1
 |2=>h2
 |3=>h3
 |4=>h4
 |5=>h5
 |6=>h6
 |7=>h7
 |8=>h8
 |j+9=>by
  show p ((([]:List Int)).getD j 0);rw[List.getD_nil];exact hz
theorem cb5 {s n:Int}(hs:0≤s∧s≤100000)(hn:0≤n∧n≤1048576):0≤s*n∧s*n≤1000000000000:=by
 have h1:=Int.mul_nonneg hs.1 hn.1;have h2:=Int.mul_le_mul hs.2 hn.2 hn.1 (by omega);omega
structure SFacts (x t:Nat)(a3 a5 tp sl:Int):Prop where
 xs:1≤x∧x≤64
 ts:t≤64
 r:1≤a3∧a3≤64
 r':1≤a5∧a5≤64
 tp:0≤tp∧tp≤131072
 sl:1≤sl∧sl≤100000
theorem br8 (h4:OpsOk a4)(h6:OpsOk a6){x t:Nat}(h:ac3 a0 x t a3 a4 a5 a6 a7 a8=0):SFacts x t a3 a5 (uo a0 a4 a6) (vu a0 x a3 a4):=by
 have f:=aW7 h4 h6 h;have g1:=f.mode;have g2:=f.regs;have g3:=f.xs;have g4:=f.w;have g5:=f.w';refine⟨f.xs,f.ts,f.regs,f.regs', ?_, ?_⟩
 ·unfold uo;split<;>omega
 ·unfold vu;split<;>omega
theorem bJ3 {x t:Nat}{tp sl n:Int}(s:SFacts x t a3 a5 tp sl)(hn:0≤n∧n≤1048576): ∀j,0≤([(t:Int),x,a3,a5,max a3 a5,x,t,tp,sl*n]:List Int).getD j 0∧([(t:Int),x,a3,a5,max a3 a5,x,t,tp,sl*n]:List Int).getD j 0≤1000000000000:=by
 have g1:=s.xs;have g2:=s.ts;have g3:=s.r;have g4:=s.r';have g5:=s.tp;have g6:=s.sl;exact cC8 (p:=fun y=>0≤y∧y≤1000000000000) (by omega) (by omega) (by omega) (by omega) (by omega) (by omega) (by omega) (by omega) (cb5 (by omega) hn) (by omega)
theorem cw0 {x t:Nat}{tp sl n:Int}(s:SFacts x t a3 a5 tp sl)(hn:0≤n∧n≤1048576):uS t x a3 a5 (max a3 a5) x t tp sl n=some (vN x t a3 a5+tp+n*sl):=by
 rw[bU9 (bJ3 s hn)];unfold vN;rw[Int.mul_comm sl n]
 congr 1
 omega
def least (a0 a7:Int):Int:=if a0=3 then a7 else 1
def ta (a0:Int)(x t:Nat)(a3:Int)(a4:List ec)(a5:Int)(a6:List ec)(a7 a8:Int):Int×Int×Int×Int×Int:=
 if ac3 a0 x t a3 a4 a5 a6 a7 a8≠0 then(0,0,0,0,ac3 a0 x t a3 a4 a5 a6 a7 a8)
 else if a8<vN x t a3 a5+uo a0 a4 a6+least a0 a7*vu a0 x a3 a4 then(0,0,0,0,13)
 else(vN x t a3 a5,uo a0 a4 a6,vu a0 x a3 a4,if a0=3 then a7 else(a8-vN x t a3 a5-uo a0 a4 a6) / vu a0 x a3 a4,0)
theorem cd6 {x t:Nat}{tp sl n:Int}(s:SFacts x t a3 a5 tp sl):cw (tA (t:Int) (x:Int) a3 a5 (max a3 a5) (x:Int) (t:Int) tp sl) iJ (0,0,tp,sl,n)=some (vN x t a3 a5,tp,sl,n):=by
 have hb:=bJ3 (n:=1) s (by omega);have hp:=bI4 hb
 have e7:pre [(t:Int),x,a3,a5,max a3 a5,x,t,tp,sl*1] 7=vN x t a3 a5:=by
  show 0+(t:Int)+x+a3+a5+max a3 a5+x+t=_;unfold vN;omega
 rw[←e7];generalize hL:([(t:Int),x,a3,a5,max a3 a5,x,t,tp,sl*1]:List Int)=L at*;refine qD (n:=7) (fun i=>(pre L i,tp,sl,n)) (c:=(pre L 7,tp,sl,n)) (by omega) (fun i hi=> ?_) ?_
 ·unfold tA;rw[ck,if_pos (by omega),dk (show i<9 by omega)];simp only[Option.bind_some]
  have e:List.getD [(t:Int),x,a3,a5,max a3 a5,x,t,tp,sl] i 0=L.getD i 0:=by
   subst hL;rcases(show i=0∨i=1∨i=2∨i=3∨i=4∨i=5∨i=6 by omega)with rfl|rfl|rfl|rfl|rfl|rfl|rfl<;>rfl
  have h1:=hp i;have h2:=hb i;rw[e,bD (n:=pre L i+L.getD i 0) (by omega),bD (n:=(i:Int)+1) (by omega)];rfl
 ·unfold tA;rw[ck,if_neg (by omega)]
theorem bi5 (h4:OpsOk a4)(h6:OpsOk a6):sL a0 a1 a2 a3 a4 a5 a6 a7 a8=some (ta a0 a1.length a2.length a3 a4 a5 a6 a7 a8):=by
 unfold sL ta;rw[aD1 h4 h6];simp only[Option.bind_some];by_cases h:ac3 a0 a1.length a2.length a3 a4 a5 a6 a7 a8=0
 ·rw[decide_eq_false (fun c=>c h),cond_false,if_neg (fun c=>c h),aY0 h4 h6 h];have s:=br8 h4 h6 h;have f:=aW7 h4 h6 h;have g1:=f.mode;have g2:=f.len;have g3:=f.bud;have g4:=s.xs;have g5:=s.ts;have g6:=s.r;have g7:=s.r';have g8:=s.tp;have g9:=s.sl
  have hl:(cond (decide (a0=3)) (some a7) (some (1:Int)))=some (least a0 a7):=by
   unfold least;rw[ck];split<;>rfl
  have hln:0≤least a0 a7∧least a0 a7≤65535:=by unfold least;split<;>omega
  simp only[Option.bind_some];rw[hl];simp only[Option.bind_some];rw[cw0 s (by omega)];simp only[Option.bind_some];rw[cd6 s];simp only[Option.bind_some,ck];by_cases c:a8<vN a1.length a2.length a3 a5+uo a0 a4 a6+least a0 a7*vu a0 a1.length a3 a4
  ·rw[if_pos c,if_pos c]
  ·rw[if_neg c,if_neg c];have hfx:0≤vN a1.length a2.length a3 a5∧vN a1.length a2.length a3 a5≤1000:=by unfold vN;omega
   by_cases c3:a0=3
   ·rw[if_neg (fun k=>k c3),if_pos c3];unfold least;rw[if_pos c3]
   ·rw[if_pos c3,if_neg c3,ct6 (by omega)];unfold least at c;rw[if_neg c3]at c;generalize vN a1.length a2.length a3 a5=fx at*;generalize uo a0 a4 a6=tp at*;generalize vu a0 a1.length a3 a4=sl at*;rw[bD (n:=a8-fx) (by omega),bD (n:=a8-fx-tp) (by omega),bP4 (by omega)];have hd1:0≤(a8-fx-tp) / sl:=Int.ediv_nonneg (by omega) (by omega);have hd2:(a8-fx-tp) / sl≤a8-fx-tp:=Int.ediv_le_self _ (by omega);rw[bD (by omega)]
 ·rw[decide_eq_true h,cond_true,if_pos h]
end
def Reach {α γ:Type}(f:α→Option (α⊕γ))(k:Nat)(s s':α):Prop:= ∀fu,cw f (fu+k) s=cw f fu s'
theorem Reach.refl {α γ:Type}{f:α→Option (α⊕γ)}{s:α}:Reach f 0 s s:=fun _=>rfl
theorem Reach.trans {α γ:Type}{f:α→Option (α⊕γ)}{k k':Nat}{s s' s'':α}(h:Reach f k s s')(h':Reach f k' s' s''):Reach f (k+k') s s'':=by
 intro fu;rw[show fu+(k+k')=(fu+k')+k by omega,h,h']
theorem Reach.one {α γ:Type}{f:α→Option (α⊕γ)}{s s':α}(h:f s=some (.inl s')):Reach f 1 s s':=by
 intro fu;rw[et,h];rfl
section
variable {l:List ec}
theorem cz6 {i:Nat}{out st:List Int}(hl:l.length≤1000)(hst:st.length≤1000)(hi:i<l.length)(hk:0<l[i].1∧l[i].1<7)(ho:out.length=l.length):
  dD l ((i:Int),true,out,st,st)=some (.inl (((i+1:Nat):Int),true,out.set i (-1),st,st)):=by
 simp only[dD];rw[decide_eq_true (show(i:Int)<(l.length:Int)by omega),cond_true,iz hi];simp only[Option.bind_some];generalize hx:l[i]=x at*;rw[decide_eq_false (show¬x.1<0 by omega),cond_false,decide_eq_false (show¬7<x.1 by omega),cond_false,decide_eq_false (show¬x.1=0 by omega)];simp only[cond_false,Option.bind_some,dw];rw[dk (show i<out.length by omega)];simp only[Option.bind_some];rw[List.getElem?_eq_getElem (show i<out.length by omega)];simp only[Option.bind_some];rw[decide_eq_false (show¬x.1=7 by omega)];simp only[cond_false];rw[bD (n:=(i:Int)+1) (by omega)];rfl
theorem cl5 {i:Nat}{out st:List Int}(hl:l.length≤1000)(hst:st.length≤1000)(hi:i<l.length)(hk:l[i].1=7)(ho:out.length=l.length):
  dD l ((i:Int),true,out,st,st)=some (.inl (((i+1:Nat):Int),true,out.set i (-1),st++[(i:Int)],st++[(i:Int)])):=by
 simp only[dD];rw[decide_eq_true (show(i:Int)<(l.length:Int)by omega),cond_true,iz hi];simp only[Option.bind_some];generalize hx:l[i]=x at*;rw[decide_eq_false (show¬x.1<0 by omega),cond_false,decide_eq_false (show¬7<x.1 by omega),cond_false,decide_eq_false (show¬x.1=0 by omega)];simp only[cond_false,Option.bind_some,dw];rw[dk (show i<out.length by omega)];simp only[Option.bind_some];rw[List.getElem?_eq_getElem (show i<out.length by omega)];simp only[Option.bind_some];rw[decide_eq_true hk];simp only[cond_true];rw[gv (by omega) (by omega),gv (by omega) (by omega),bD (n:=(i:Int)+1) (by omega)];rfl
theorem cc4 {i q:Nat}{out st:List Int}(hl:l.length≤1000)(hst:st.length<1000)(hi:i<l.length)(hk:l[i].1=0)(ho:out.length=l.length)(hq:q<l.length):
  dD l ((i:Int),true,out,st++[(q:Int)],st++[(q:Int)])=some (.inl (((i+1:Nat):Int),true,((out.set i (-1)).set i (q:Int)).set q (i:Int),st,st)):=by
 have hlen:(st++[(q:Int)]).length=st.length+1:=by simp
 simp only[dD];rw[decide_eq_true (show(i:Int)<(l.length:Int)by omega),cond_true,iz hi];simp only[Option.bind_some];generalize hx:l[i]=x at*;rw[decide_eq_false (show¬x.1<0 by omega),cond_false,decide_eq_false (show¬7<x.1 by omega),cond_false,decide_eq_true hk];simp only[cond_true,Option.bind_some,dw];rw[decide_eq_false (show¬((st++[(q:Int)]).length:Int)=0 by omega),cond_false];rw[bD (n:=((st++[(q:Int)]).length:Int)-1) (by omega),kg (by omega),gw];simp only[Option.bind_some,dw];have e7:decide (x.1=7)=false:=decide_eq_false (by omega);rw[dk (show i<out.length by omega)];simp only[Option.bind_some];rw[List.getElem?_eq_getElem (show i<out.length by omega)];simp only[Option.bind_some];rw[e7,cond_false,show((st++[(q:Int)]).length:Int)-1=(st.length:Int)by rw[hlen];omega,dk (show st.length<(st++[(q:Int)]).length by omega)];simp only[Option.bind_some];rw[List.getElem?_append_right (Nat.le_refl _),Nat.sub_self];simp only[List.getElem?_cons_zero,Option.bind_some]
 rw[gw,dk (show i<(out.set i (-1)).length by simp;omega)];simp only[Option.bind_some];rw[List.getElem?_eq_getElem (show i<(out.set i (-1)).length by simp;omega)];simp only[Option.bind_some];rw[dk (show q<((out.set i (-1)).set i ((q:Nat):Int)).length by simp;omega)];simp only[Option.bind_some];rw[List.getElem?_eq_getElem (show q<((out.set i (-1)).set i ((q:Nat):Int)).length by simp;omega)];simp only[Option.bind_some]
 have htk:(st++[(q:Int)]).take ((st.length:Int).toNat-0)=st:=by
  rw[show(st.length:Int).toNat-0=st.length by omega,List.take_left'];rfl
 rw[htk,bD (n:=(i:Int)+1) (by omega)];rfl
theorem bq4 (hl:l.length≤1000): ∀(k:Nat) (A seg B:List ec) (out st:List Int),seg.length≤k→l=A++seg++B→dg seg 0=some 0→out.length=l.length→st.length≤A.length→
  ∃out',Reach (dD l) seg.length ((A.length:Int),true,out,st,st) (((A.length+seg.length:Nat):Int),true,out',st,st)∧out'.length=l.length∧
   (∀j,¬(A.length≤j∧j<A.length+seg.length)→out'[j]?=out[j]?)∧∀j,A.length≤j→j<A.length+seg.length→(hj:j<l.length)→l[j].1=7→∀inner e rest,l.drop (j+1)=inner++e::rest→e.1=0→dg inner 0=some 0→out'[j]?=some ((j+1+inner.length:Nat):Int)
 |k,A,[],B,out,st,_,hsplit,hs,ho,hst=>⟨out,Reach.refl,ho,fun j _=>rfl,fun j h1 h2=>by simp at h2;omega⟩
 |0,A,o::seg,B,out,st,hk,_,_,_,_=>by simp at hk
 |k+1,A,o::seg,B,out,st,hk,hsplit,hs,ho,hst=>by
  simp only[List.length_cons]at hk⊢;have hlen:l.length=A.length+(seg.length+1)+B.length:=by rw[hsplit];simp;omega
  have hlt:A.length<l.length:=by omega
  have hget:l[A.length]=o:=by
   have:l[A.length]?=some o:=by
    rw[hsplit,List.append_assoc,List.getElem?_append_right (Nat.le_refl _),Nat.sub_self];rfl
   rw[List.getElem?_eq_getElem hlt]at this;injection this
  by_cases hk7:o.1=7
  ·have hs1:dg seg 1=some 0:=by
    simp only[dg]at hs;rw[if_neg (by omega),if_neg (by omega),if_pos hk7]at hs;exact hs
   obtain⟨inner,e,rest,h1,h2,h3,h4⟩:=ad3 _ seg 0 (Nat.le_refl _) hs1;subst h1;simp only[List.length_append,List.length_cons]at hk hlen⊢
   have hd:l.drop (A.length+1)=inner++e::(rest++B):=by
    rw[hsplit,List.append_assoc,List.drop_append,List.drop_of_length_le (by omega),show A.length+1-A.length=1 by omega];simp
   have hA1:(A++[o]).length=A.length+1:=by simp
   obtain⟨S1,r1,l1,k1,g1⟩:=bq4 hl k (A++[o]) inner (e::(rest++B)) (out.set A.length (-1)) (st++[(A.length:Int)]) (by omega) (by rw[hsplit];simp) h3 (by simp[ho]) (by simp;omega);rw[hA1]at r1 k1 g1;have hei:A.length+1+inner.length<l.length:=by omega
   have hee:l[A.length+1+inner.length]=e:=by
    have h5:(l.drop (A.length+1))[inner.length]?=some e:=by
     rw[hd,List.getElem?_append_right (Nat.le_refl _),Nat.sub_self];rfl
    rw[List.getElem?_drop,List.getElem?_eq_getElem hei]at h5;injection h5
   have c1:=cc4 (st:=st) hl (by omega) hei (by rw[hee];exact h2) l1 hlt;have hA2:(A++o::(inner++[e])).length=A.length+1+inner.length+1:=by simp;omega
   obtain⟨S2,r2,l3,k2,g2⟩:=bq4 hl k (A++o::(inner++[e])) rest B (((S1.set (A.length+1+inner.length) (-1)).set (A.length+1+inner.length) (A.length:Int)).set A.length ((A.length+1+inner.length:Nat):Int)) st (by omega) (by rw[hsplit];simp) h4 (by simp[l1]) (by omega);rw[hA2]at r2 k2 g2;refine⟨S2, ?_,l3,fun j hj=> ?_,fun j h5 h6 hj hk inner' e' rest' p1 p2 p3=> ?_⟩
   ·have h0:=Reach.one (cl5 (out:=out) (st:=st) hl (by omega) hlt (by rw[hget];exact hk7) ho);have h7:=((h0.trans r1).trans (Reach.one c1)).trans r2;rw[show 1+inner.length+1+rest.length=inner.length+(rest.length+1)+1 by omega,show A.length+1+inner.length+1+rest.length=A.length+(inner.length+(rest.length+1)+1)by omega]at h7;exact h7
   ·rw[k2 j (by omega),List.getElem?_set_ne (by omega),List.getElem?_set_ne (by omega),List.getElem?_set_ne (by omega),k1 j (by omega),List.getElem?_set_ne (by omega)]
   ·by_cases hj1:A.length+1+inner.length+1≤j
    ·exact g2 j hj1 (by omega) hj hk inner' e' rest' p1 p2 p3
    ·rw[k2 j (by omega)];by_cases hj2:A.length=j
     ·subst hj2;rw[List.getElem?_set_self (by simp;omega)];have:=wC (hd.symm.trans p1) h3 p3 h2 p2;subst this;rfl
     ·have hj3:j<A.length+1+inner.length:=by
       by_cases hj4:j<A.length+1+inner.length
       ·exact hj4
       ·exfalso;have hj4:j=A.length+1+inner.length:=by omega
        subst hj4;rw[hee]at hk;omega
      rw[List.getElem?_set_ne hj2,List.getElem?_set_ne (by omega),List.getElem?_set_ne (by omega)];exact g1 j (by omega) hj3 hj hk inner' e' rest' p1 p2 p3
  ·obtain⟨hsr,hko,_⟩:=be8 hs hk7;have hA1:(A++[o]).length=A.length+1:=by simp
   have c1:=cz6 (out:=out) (st:=st) hl (by omega) hlt (by rw[hget];exact hko) ho;obtain⟨S1,r1,l1,k1,g1⟩:=bq4 hl k (A++[o]) seg B (out.set A.length (-1)) st (by omega) (by rw[hsplit];simp) hsr (by simp[ho]) (by omega);rw[hA1]at r1 k1 g1;refine⟨S1, ?_,l1,fun j hj=> ?_,fun j h5 h6 hj hk inner' e' rest' p1 p2 p3=> ?_⟩
   ·have h7:=(Reach.one c1).trans r1;rw[show 1+seg.length=seg.length+1 by omega,show A.length+1+seg.length=A.length+(seg.length+1)by omega]at h7;exact h7
   ·rw[k1 j (by omega),List.getElem?_set_ne (by omega)]
   ·by_cases hj1:A.length+1≤j
    ·exact g1 j hj1 (by omega) hj hk inner' e' rest' p1 p2 p3
    ·have hj2:j=A.length:=by omega
     subst hj2;exact(hk7 (by rw[←hget];exact hk)).elim
theorem aO3 (hl:l.length≤1000)(hs:dg l 0=some 0): ∃m,np l=some (0,m)∧MOK l m:=by
 obtain⟨S',r1,l1,k1,g1⟩:=bq4 (l:=l) hl _ [] l [] (List.replicate ((l.length:Int)).toNat (0:Int)) [] (Nat.le_refl _) (by simp) hs (by simp) (by simp);rw[show([]:List ec).length+l.length=l.length by simp]at r1 g1
 have hloop:cw (dD l) iJ ((0:Int),true,List.replicate ((l.length:Int)).toNat (0:Int),([]:List Int),([]:List Int))=some (true,S',[],[]):=by
  have h1:=r1 (18446744073709551616-l.length);rw[show 18446744073709551616-l.length+l.length=iJ by unfold iJ;omega,show 18446744073709551616-l.length=(18446744073709551615-l.length)+1 by omega]at h1;refine h1.trans ?_;rw[et];simp only[dD];rw[decide_eq_false (by omega),cond_false];rfl
 refine⟨S', ?_,⟨l1,fun i hi hk inner e rest p1 p2 p3=>g1 i (Nat.zero_le _) hi hi hk inner e rest p1 p2 p3⟩⟩;unfold np;rw[decide_eq_true (show(0:Int)≤(l.length:Int)by omega),decide_eq_true (show(l.length:Int)≤(l.length:Int)by omega),decide_eq_true (show 8*(l.length:Int)≤140737488355328 by omega)];show gd true _=_;rw[gw,hloop];rfl
end
section
variable {l:List ec}
theorem cb2 {i:Nat}{sz rds:List Int}{pre:List (Int×Int)}{a w:Int}(hl:l.length≤1000)(hp:pre.length≤1000)(hi:i<l.length):
  dx l ((i:Int),sz,rds,pre++[(a,w)])=(cond (decide (l[i].1=7))
   (some (.inl (((i+1:Nat):Int),sz,rds,pre++[(a,w)]++[((i:Int),0)])))
   (cond (decide (l[i].1=0))
    ((rd l a).bind fun x14=>
    (tE w x14.2.2.2.2).bind fun r15=>
    cond (!r15.2)
     (some (.inr ((9,sz,rds,pre++[(a,w)]))))
     ((ix a sz.length).bind fun j19=>
     (sz[j19]?).bind fun x20=>
     (ix a rds.length).bind fun j21=>
     (rds[j21]?).bind fun x22=>
     gd (iN 0 (pre.length:Int) (pre.length+1)) ((ix (IntKind.i64.wrap ((pre.length:Int)-1)) pre.length).bind fun j23=>
     ((pre++[(a,w)])[(0+j23)]?).bind fun x24=>
     (wT ([x24.2,r15.1])).bind fun r25=>
     (ix (IntKind.i64.wrap ((pre.length:Int)-1)) pre.length).bind fun j26=>
     ((pre++[(a,w)])[(0+j26)]?).bind fun x27=>
     some (.inl (((i+1:Nat):Int),(List.set sz j19 r15.1),(List.set rds j21 w),(List.take pre.length ((List.set (pre++[(a,w)]) (0+j26) ((x27.1,r25))))))))))
    ((kj l[i].1 l[i].2.1 l[i].2.2.1 l[i].2.2.2.1 l[i].2.2.2.2).bind fun r28=>
    cond (r28.2)
     ((ix (i:Int) sz.length).bind fun j29=>
     (sz[j29]?).bind fun x30=>
     some (.inl (((i+1:Nat):Int),(List.set sz j29 1),rds,pre++[(a,IntKind.i64.wrap (w+1))])))
     (some (.inl (((i+1:Nat):Int),sz,rds,pre++[(a,w)])))))):=by
 have hlen:(pre++[(a,w)]).length=pre.length+1:=by simp
 have hget:(pre++[(a,w)])[pre.length]?=some (a,w):=by
  rw[List.getElem?_append_right (Nat.le_refl _),Nat.sub_self];rfl
 have hset: ∀w',(pre++[(a,w)]).set pre.length (a,w')=pre++[(a,w')]:=by
  intro w';rw[List.set_append_right _ _ (Nat.le_refl _),Nat.sub_self];rfl
 simp only[dx];rw[decide_eq_true (show(i:Int)<(l.length:Int)by omega),cond_true,iz hi];simp only[Option.bind_some];rw[hlen,bD (n:=((pre.length+1:Nat):Int)-1) (by omega),show((pre.length+1:Nat):Int)-1=(pre.length:Int)by omega,dk (show pre.length<pre.length+1 by omega)];simp only[Option.bind_some];rw[hget,bD (n:=(i:Int)+1) (by omega),gv (by omega) (by omega),show(i:Int)+1=((i+1:Nat):Int)by omega];simp only[Option.bind_some];rw[hset,show((pre.length:Int).toNat-0)=pre.length by omega]
theorem cC6 {i:Nat}{sz rds:List Int}{pre:List (Int×Int)}{a w:Int}(hl:l.length≤1000)(hp:pre.length≤1000)(hi:i<l.length)(hk:0<l[i].1∧l[i].1<7)(hsz:sz.length=l.length)(hw:0≤w∧w≤1000000000):
  dx l ((i:Int),sz,rds,pre++[(a,w)])=some (.inl (((i+1:Nat):Int),sz.set i 1,rds,pre++[(a,w+1)])):=by
 rw[cb2 hl hp hi,decide_eq_false (by omega),decide_eq_false (by omega)];simp only[cond_false];rw[aw3 hk];simp only[Option.bind_some,cond_true];rw[dk (show i<sz.length by omega)];simp only[Option.bind_some];rw[List.getElem?_eq_getElem (show i<sz.length by omega)];simp only[Option.bind_some];rw[bD (n:=w+1) (by omega)]
theorem cu8 {i:Nat}{sz rds:List Int}{pre:List (Int×Int)}{a w:Int}(hl:l.length≤1000)(hp:pre.length≤1000)(hi:i<l.length)(hk:l[i].1=7):
  dx l ((i:Int),sz,rds,pre++[(a,w)])=some (.inl (((i+1:Nat):Int),sz,rds,pre++[(a,w)]++[((i:Int),0)])):=by
 rw[cb2 hl hp hi,decide_eq_true hk,cond_true]
theorem ck8 {i an:Nat}{sz rds:List Int}{pre:List (Int×Int)}{a w w2 n:Int}(hl:l.length≤1000)(hp:pre.length<1000)(hi:i<l.length)(hk:l[i].1=0)(han:an<l.length)(hsz:sz.length=l.length)(hrd:rds.length=l.length)(hw:0≤w∧w≤1000000000)(hw2:0≤w2∧w2≤1000000000)
  (hv:0≤l[an].2.2.2.2∧l[an].2.2.2.2≤18446744073709551615) (hb:xV w l[an].2.2.2.2=some n):
  dx l ((i:Int),sz,rds,pre++[(a,w2)]++[((an:Int),w)])=some (.inl (((i+1:Nat):Int),sz.set an n,rds.set an w,pre++[(a,w2+n)])):=by
 have hl2:(pre++[(a,w2)]).length=pre.length+1:=by simp
 rw[cb2 hl (by omega) hi,decide_eq_false (by omega),decide_eq_true hk];simp only[cond_false,cond_true];rw[iz han];simp only[Option.bind_some];rw[ba1 ⟨hw.1,by omega⟩ hv,hb];have hn:=aC2 hw.1 hv.1 hb;simp only[Option.bind_some,Bool.not_true,cond_false];rw[dk (show an<sz.length by omega)];simp only[Option.bind_some];rw[List.getElem?_eq_getElem (show an<sz.length by omega)];simp only[Option.bind_some];rw[dk (show an<rds.length by omega)];simp only[Option.bind_some];rw[List.getElem?_eq_getElem (show an<rds.length by omega)];simp only[Option.bind_some];rw[kg (by omega),gw,hl2,bD (n:=((pre.length+1:Nat):Int)-1) (by omega),show((pre.length+1:Nat):Int)-1=(pre.length:Int)by omega,dk (show pre.length<pre.length+1 by omega)];simp only[Option.bind_some,Nat.zero_add]
 have hg2:(pre++[(a,w2)]++[((an:Int),w)])[pre.length]?=some (a,w2):=by
  rw[List.append_assoc,List.getElem?_append_right (Nat.le_refl _),Nat.sub_self];rfl
 rw[hg2];simp only[Option.bind_some];rw[bC2 _ _ (by omega) hn];simp only[Option.bind_some]
 have htk:((pre++[(a,w2)]++[((an:Int),w)]).set pre.length (a,w2+n)).take (pre.length+1)=pre++[(a,w2+n)]:=by
  rw[List.append_assoc,List.set_append_right _ _ (Nat.le_refl _),Nat.sub_self];show(pre++[(a,w2+n),((an:Int),w)]).take (pre.length+1)=_;rw[show [(a,w2+n),((an:Int),w)]=[(a,w2+n)]++[((an:Int),w)]from rfl,←List.append_assoc,List.take_left'];simp
 rw[htk]
def cr5 (l:List ec)(j:Nat)(a b:Int):Prop:= ∀h:j<l.length,(l[j].1=7→∀inner e rest,l.drop (j+1)=inner++e::rest→e.1=0→dg inner 0=some 0→Q9 inner=some b∧xV b l[j].2.2.2.2=some a)∧(l[j].1≠7→b=0∧a=if l[j].1=0 then 0 else 1)
theorem bN5 (hl:l.length≤1000)(hv: ∀o∈l,0≤o.2.2.2.2∧o.2.2.2.2≤18446744073709551615): ∀(k:Nat) (A seg B:List ec) (S R:List Int) (pre:List (Int×Int)) (p w t:Int),seg.length≤k→l=A++seg++B→dg seg 0=some 0→Q9 seg=some t→S.length=l.length→R.length=l.length→pre.length≤A.length→0≤w∧w≤65537*A.length→(∀j,A.length≤j→j<A.length+seg.length→S[j]?=some 0∧R[j]?=some 0)→
  ∃S' R',Reach (dx l) seg.length ((A.length:Int),S,R,pre++[(p,w)]) (((A.length+seg.length:Nat):Int),S',R',pre++[(p,w+t)])∧S'.length=l.length∧R'.length=l.length∧(0≤t∧t≤65537*seg.length)∧
   (∀j,¬(A.length≤j∧j<A.length+seg.length)→S'[j]?=S[j]?∧R'[j]?=R[j]?)∧∀j,A.length≤j→j<A.length+seg.length→∃a b,S'[j]?=some a∧R'[j]?=some b∧cr5 l j a b
 |k,A,[],B,S,R,pre,p,w,t,_,hsplit,hs,hq,hS,hR,hpre,hw,hz=>by
  injection hq with hq
  subst hq;refine⟨S,R, ?_,hS,hR,⟨Int.le_refl _,by simp⟩,fun j _=>⟨rfl,rfl⟩,fun j h1 h2=> ?_⟩
  ·rw[Int.add_zero];exact Reach.refl
  ·simp at h2;omega
 |0,A,o::seg,B,S,R,pre,p,w,t,hk,_,_,_,_,_,_,_,_=>by simp at hk
 |k+1,A,o::seg,B,S,R,pre,p,w,t,hk,hsplit,hs,hq,hS,hR,hpre,hw,hz=>by
  simp only[List.length_cons]at hk hz⊢;have hlen:l.length=A.length+(seg.length+1)+B.length:=by rw[hsplit];simp;omega
  have hlt:A.length<l.length:=by omega
  have hget:l[A.length]=o:=by
   have:l[A.length]?=some o:=by
    rw[hsplit,List.append_assoc,List.getElem?_append_right (Nat.le_refl _),Nat.sub_self];rfl
   rw[List.getElem?_eq_getElem hlt]at this;injection this
  by_cases hk7:o.1=7
  ·have hs1:dg seg 1=some 0:=by
    simp only[dg]at hs;rw[if_neg (by omega),if_neg (by omega),if_pos hk7]at hs;exact hs
   obtain⟨inner,e,rest,h1,h2,h3,h4⟩:=ad3 _ seg 0 (Nat.le_refl _) hs1;subst h1;simp only[List.length_append,List.length_cons]at hk hz hlen⊢;obtain⟨hsr,hQ⟩:=bm0 hs hk7 h2 h3;rw[hQ]at hq;obtain⟨wi,hwi,hq⟩:=ce hq;obtain⟨b,hb,hq⟩:=ce hq;cases hqr:Q9 rest with
   |none=>rw[hqr]at hq;cases hq
   |some tr=>
   rw[hqr]at hq;injection hq with hq
   have hq:b+tr=t:=hq;have hov:0≤o.2.2.2.2∧o.2.2.2.2≤18446744073709551615:=by rw[←hget];exact hv _ (List.getElem_mem hlt)
   have hd:l.drop (A.length+1)=inner++e::(rest++B):=by
    rw[hsplit,List.append_assoc,List.drop_append,List.drop_of_length_le (by omega),show A.length+1-A.length=1 by omega];simp
   have hA1:(A++[o]).length=A.length+1:=by simp
   obtain⟨S1,R1,r1,l1,l2,⟨t1,t2⟩,k1,g1⟩:=bN5 hl hv k (A++[o]) inner (e::(rest++B)) S R (pre++[(p,w)]) (A.length:Int) 0 wi (by omega) (by rw[hsplit];simp) h3 hwi hS hR (by simp;omega) (by omega) (fun j h5 h6=>hz j (by omega) (by omega));rw[hA1]at r1 k1 g1;have hei:A.length+1+inner.length<l.length:=by omega
   have hee:l[A.length+1+inner.length]=e:=by
    have h5:(l.drop (A.length+1))[inner.length]?=some e:=by
     rw[hd,List.getElem?_append_right (Nat.le_refl _),Nat.sub_self];rfl
    rw[List.getElem?_drop,List.getElem?_eq_getElem hei]at h5;injection h5
   have hbn:=aC2 t1 hov.1 hb;have c1:=ck8 (pre:=pre) (a:=p) (w2:=w) hl (by omega) hei (by rw[hee];exact h2) hlt l1 l2 (w:=0+wi) (by omega) (by omega) (by rw[hget];exact hov) (n:=b) (by rw[hget,Int.zero_add];exact hb);have hA2:(A++o::(inner++[e])).length=A.length+1+inner.length+1:=by simp;omega
   obtain⟨S2,R2,r2,l3,l4,⟨t3,t4⟩,k2,g2⟩:=bN5 hl hv k (A++o::(inner++[e])) rest B (S1.set A.length b) (R1.set A.length (0+wi)) pre p (w+b) tr (by omega) (by rw[hsplit];simp) hsr hqr (by simp[l1]) (by simp[l2]) (by omega) (by omega) (fun j h5 h6=>by
    rw[hA2]at h5 h6;rw[List.getElem?_set_ne (by omega),List.getElem?_set_ne (by omega),(k1 j (by omega)).1,(k1 j (by omega)).2]
    exact hz j (by omega) (by omega))
   rw[hA2]at r2 k2 g2;refine⟨S2,R2, ?_,l3,l4,⟨by omega,by omega⟩,fun j hj=> ?_,fun j h5 h6=> ?_⟩
   ·have h0:=Reach.one (cu8 (sz:=S) (rds:=R) (pre:=pre) (a:=p) (w:=w) hl (by omega) hlt (by rw[hget];exact hk7));have h7:=((h0.trans r1).trans (Reach.one c1)).trans r2;rw[show 1+inner.length+1+rest.length=inner.length+(rest.length+1)+1 by omega,Int.add_assoc,hq,show A.length+1+inner.length+1+rest.length=A.length+(inner.length+(rest.length+1)+1)by omega]at h7;exact h7
   ·rw[(k2 j (by omega)).1,(k2 j (by omega)).2,List.getElem?_set_ne (by omega),List.getElem?_set_ne (by omega),(k1 j (by omega)).1,(k1 j (by omega)).2];exact⟨rfl,rfl⟩
   ·by_cases hj1:A.length+1+inner.length+1≤j
    ·exact g2 j hj1 (by omega)
    ·rw[(k2 j (by omega)).1,(k2 j (by omega)).2];by_cases hj2:A.length=j
     ·subst hj2;rw[List.getElem?_set_self (by omega),List.getElem?_set_self (by omega)];refine⟨_,_,rfl,rfl,fun h=>⟨fun _ inner' e' rest' p1 p2 p3=> ?_,fun h'=>(h' (by rw[hget];exact hk7)).elim⟩⟩;have:=wC (hd.symm.trans p1) h3 p3 h2 p2;subst this;rw[Int.zero_add,hget];exact⟨hwi,hb⟩
     ·rw[List.getElem?_set_ne hj2,List.getElem?_set_ne hj2];by_cases hj3:j<A.length+1+inner.length
      ·exact g1 j (by omega) hj3
      ·have hj4:j=A.length+1+inner.length:=by omega
       subst hj4;rw[(k1 _ (by omega)).1,(k1 _ (by omega)).2,(hz _ h5 h6).1,(hz _ h5 h6).2];refine⟨0,0,rfl,rfl,fun h=>⟨fun h'=> ?_,fun _=>⟨rfl, ?_⟩⟩⟩
       ·rw[hee]at h';omega
       ·rw[hee,if_pos h2]
  ·obtain⟨hsr,hko,hQ⟩:=be8 hs hk7;rw[hQ]at hq;cases hqr:Q9 seg with
   |none=>rw[hqr]at hq;cases hq
   |some tr=>
   rw[hqr]at hq;injection hq with hq
   have hq:1+tr=t:=hq;have hA1:(A++[o]).length=A.length+1:=by simp
   have c1:=cC6 (sz:=S) (rds:=R) (pre:=pre) (a:=p) (w:=w) hl (by omega) hlt (by rw[hget];exact hko) hS (by omega)
   obtain⟨S1,R1,r1,l1,l2,⟨t1,t2⟩,k1,g1⟩:=bN5 hl hv k (A++[o]) seg B (S.set A.length 1) R pre p (w+1) tr (by omega) (by rw[hsplit];simp) hsr hqr (by simp[hS]) hR (by omega) (by omega) (fun j h5 h6=>by
    rw[hA1]at h5 h6;rw[List.getElem?_set_ne (by omega)]
    exact hz j (by omega) (by omega))
   rw[hA1]at r1 k1 g1;refine⟨S1,R1, ?_,l1,l2,⟨by omega,by omega⟩,fun j hj=> ?_,fun j h5 h6=> ?_⟩
   ·have h7:=(Reach.one c1).trans r1;rw[show 1+seg.length=seg.length+1 by omega,Int.add_assoc,hq,show A.length+1+seg.length=A.length+(seg.length+1)by omega]at h7;exact h7
   ·rw[(k1 j (by omega)).1,(k1 j (by omega)).2,List.getElem?_set_ne (by omega)];exact⟨rfl,rfl⟩
   ·by_cases hj1:A.length+1≤j
    ·exact g1 j hj1 (by omega)
    ·have hj2:j=A.length:=by omega
     subst hj2;rw[(k1 _ (by omega)).1,(k1 _ (by omega)).2,List.getElem?_set_self (by omega),(hz _ h5 h6).2];refine⟨1,0,rfl,rfl,fun h=>⟨fun h'=>(hk7 (by rw[←hget];exact h')).elim,fun _=>⟨rfl, ?_⟩⟩⟩;rw[hget,if_neg (by omega)]
end
theorem br9 {l:List ec}(hl:l.length≤100)(hv: ∀o∈l,0≤o.2.2.2.2∧o.2.2.2.2≤18446744073709551615):
  ∃r,lx l=some r∧r.1=(ff l).1∧r.2.1=(ff l).2∧(((ff l).2≠0∧r.2.2=([],[]))∨((ff l).2=0∧dg l 0=some 0∧r.2.2.1.length=l.length∧r.2.2.2.length=l.length∧∀j,j<l.length→∃a b,r.2.2.1[j]?=some a∧r.2.2.2[j]?=some b∧cr5 l j a b)):=by
 have hW:=vt (by omega) hv;unfold ik at hW;obtain⟨r,hr,hW⟩:=ce hW;injection hW with hW
 refine⟨r,hr,by rw[←hW],by rw[←hW], ?_⟩;unfold lx at hr;obtain⟨m,hm⟩:=az4 (l:=l) (by omega);rw[hm]at hr;by_cases hs:dg l 0=some 0
 ·simp only[if_pos hs]at hr;simp only[Option.bind_some]at hr;rw[decide_eq_false (by simp),cond_false]at hr;rw[decide_eq_true (show(0:Int)≤(l.length:Int)by omega),decide_eq_true (show(l.length:Int)≤(l.length:Int)by omega),decide_eq_true (show 8*(l.length:Int)≤140737488355328 by omega)]at hr;have hgd: ∀{β:Type} {y:Option β},gd (Nat.beq 1 (Sh.w (.int .i64))&&true&&true&&true&&Nat.ble 1 8) y=y:=fun {β y}=>rfl
  rw[hgd,hgd]at hr;cases hq:Q9 l with
  |none=>
   have hw9:ff l=(0,9):=by unfold ff;rw[if_pos hs,hq]
   left;refine⟨by rw[hw9];simp, ?_⟩;obtain⟨c,hc,hr⟩:=ce hr;obtain⟨s36,h36,hr⟩:=ce hr;rw[ck]at hr;split at hr
   ·injection hr with hr
    rw[←hr]
   ·rename_i hz;exfalso;obtain⟨j,hj,hr⟩:=ce hr;obtain⟨x,hx,hr⟩:=ce hr;injection hr with hr
    rw[←hr,hw9]at hW;injection hW with _ hW
    cases hW
  |some t=>
   obtain⟨S',R',r1,l1,l2,⟨t1,t2⟩,k1,g1⟩:=bN5 (l:=l) (by omega) hv _ [] l [] (List.replicate ((l.length:Int)).toNat (0:Int)) (List.replicate ((l.length:Int)).toNat (0:Int)) [] 0 0 t (Nat.le_refl _) (by simp) hs hq (by simp) (by simp) (by simp) (by simp) (fun j _ hj=>by
    rw[List.getElem?_replicate,if_pos (by simpa using hj)]
    exact⟨rfl,rfl⟩)
   rw[show([]:List ec).length+l.length=l.length by simp]at r1 g1
   have hloop:cw (dx l) iJ ((0:Int),List.replicate ((l.length:Int)).toNat (0:Int),List.replicate ((l.length:Int)).toNat (0:Int),[((0:Int),(0:Int))])=some (0,S',R',[(0,0+t)]):=by
    have h1:=r1 (18446744073709551616-l.length);rw[show 18446744073709551616-l.length+l.length=iJ by unfold iJ;omega,show 18446744073709551616-l.length=(18446744073709551615-l.length)+1 by omega]at h1;refine h1.trans ?_;rw[et];simp only[dx];rw[decide_eq_false (by omega),cond_false];rfl
   rw[hloop,Int.zero_add]at hr;have hr:((((cond (decide (65536<t)) (some (9:Int)) (some 0)).bind fun s36=>cond (decide (s36≠0)) (some ((0:Int),s36,([]:List Int),([]:List Int))) (some (t,0,S',R')))))=some r:=hr;rw[ck]at hr;have hw9:ff l=if 65536<t then(0,9)else(t,0):=by unfold ff;rw[if_pos hs,hq]
   by_cases c:65536<t
   ·rw[if_pos c]at hr hw9;left;injection hr with hr
    rw[←hr,hw9];exact⟨by simp,rfl⟩
   ·rw[if_neg c]at hr hw9;right;injection hr with hr
    rw[←hr,hw9];exact⟨rfl,hs,l1,l2,fun j hj=>g1 j (Nat.zero_le _) hj⟩
 ·simp only[if_neg hs]at hr;left;have hw9:ff l=(0,6):=by unfold ff;rw[if_neg hs]
  have hr:some ((0:Int),(6:Int),([]:List Int),([]:List Int))=some r:=hr;injection hr with hr
  rw[←hr,hw9];exact⟨by simp,rfl⟩
abbrev vF :=Int×Int×Int×Int×Int×Int
inductive Fo where
 |nil
 |op (o:ec) (r:Fo)
 |rep (o:ec) (b:Fo) (e:ec) (r:Fo)
def xB (o:ec):Nat:=o.2.2.2.2.toNat
def dq (o:ec)(to:Nat):vF:=(o.1,o.2.1,o.2.2.1,o.2.2.2.1,o.2.2.2.2,(to:Int))
namespace Fo
def src :Fo→List ec
 | .nil=>[]
 | .op o r=>o::r.src
 | .rep o b e r=>o::(b.src++e::r.src)
def Ok :Fo→Prop
 | .nil=>True
 | .op o r=>(0<o.1∧o.1<7)∧r.Ok
 | .rep o b e r=>(o.1=7∧e.1=0)∧b.Ok∧r.Ok
def n :Fo→Nat
 | .nil=>0
 | .op _ r=>1+r.n
 | .rep o b _ r=>b.n*xB o+r.n
def len :Fo→Nat
 | .nil=>0
 | .op _ r=>r.len+1
 | .rep _ b _ r=>b.len+r.len+2
def hi :Fo→Nat
 | .nil=>0
 | .op _ r=>r.hi
 | .rep _ b _ r=>max (b.hi+1) r.hi
def bare :Fo→Fo
 | .nil=> .nil
 | .op o r=> .op o r.bare
 | .rep o b e r=>if b.n*xB o=0 then r.bare else .rep o b.bare e r.bare
def unroll :Fo→List ec
 | .nil=>[]
 | .op o r=>o::r.unroll
 | .rep o b _ r=>(List.replicate (xB o) b.unroll).flatten++r.unroll
def code :Fo→Nat→List vF
 | .nil,_=>[]
 | .op o r,p=>dq o 0::r.code (p+1)
 | .rep o b e r,p=>dq o (p+b.len+2)::(b.code (p+1)++dq e (p+1)::r.code (p+b.len+2))
def Pos :Fo→Prop
 | .nil=>True
 | .op _ r=>r.Pos
 | .rep o b _ r=>0<b.n*xB o∧b.Pos∧r.Pos
def steps :Fo→Nat
 | .nil=>0
 | .op _ r=>1+r.steps
 | .rep o b _ r=>1+xB o*(b.steps+1)+r.steps
theorem src_len : ∀f:Fo,f.src.length=f.len
 | .nil=>rfl
 | .op o r=>by simp only[src,len,List.length_cons,src_len r]
 | .rep o b e r=>by simp only[src,len,List.length_cons,List.length_append,src_len r,src_len b];omega
theorem code_len : ∀(f:Fo) (p:Nat),(f.code p).length=f.len
 | .nil,_=>rfl
 | .op o r,p=>by simp only[code,len,List.length_cons,code_len r]
 | .rep o b e r,p=>by simp only[code,len,List.length_cons,List.length_append,code_len r,code_len b];omega
theorem scan_src : ∀(f:Fo),f.Ok→∀(r:List ec) (d:Nat),dg (f.src++r) d=dg r d
 | .nil,_,r,d=>rfl
 | .op o f,h,r,d=>by
  obtain⟨h1,h2⟩:=h;simp only[src,List.cons_append,dg];rw[if_neg (by omega),if_neg (by omega),if_neg (by omega)];exact scan_src f h2 r d
 | .rep o b e f,h,r,d=>by
  obtain⟨⟨h1,h2⟩,h3,h4⟩:=h;simp only[src,List.cons_append,List.append_assoc,dg];rw[if_neg (by omega),if_neg (by omega),if_pos h1,scan_src b h3];simp only[dg];rw[if_neg (by omega),if_pos h2,if_neg (by omega)];exact scan_src f h4 r d
theorem scan0 {f:Fo}(h:f.Ok):dg f.src 0=some 0:=by
 have:=scan_src f h [] 0;rw[List.append_nil]at this;exact this
theorem parse : ∀(N:Nat) (l:List ec),l.length≤N→dg l 0=some 0→∃f:Fo,f.Ok∧f.src=l
 |_,[],_,_=>⟨.nil,trivial,rfl⟩
 |0,o::l,h,_=>by simp at h
 |N+1,o::l,h,hs=>by
  simp only[List.length_cons]at h;by_cases hk:o.1=7
  ·have hs1:dg l 1=some 0:=by
    simp only[dg]at hs;rw[if_neg (by omega),if_neg (by omega),if_pos hk]at hs;exact hs
   obtain⟨inner,e,rest,h1,h2,h3,h4⟩:=ad3 _ l 0 (Nat.le_refl _) hs1;subst h1;simp only[List.length_append,List.length_cons]at h;obtain⟨b,b1,b2⟩:=parse N inner (by omega) h3;obtain⟨r,r1,r2⟩:=parse N rest (by omega) h4;exact⟨.rep o b e r,⟨⟨hk,h2⟩,b1,r1⟩,by simp only[src,b2,r2]⟩
  ·obtain⟨h1,h2,_⟩:=be8 hs hk;obtain⟨r,r1,r2⟩:=parse N l (by omega) h1;exact⟨.op o r,⟨h2,r1⟩,by simp only[src,r2]⟩
theorem Q9_n : ∀(f:Fo),f.Ok→(∀o∈f.src,0≤o.2.2.2.2)→∀{t:Int},Q9 f.src=some t→t=(f.n:Int)
 | .nil,_,_,t,h=>by
  injection h with h
  exact h.symm
 | .op o r,h,hv,t,hq=>by
  obtain⟨h1,h2⟩:=h;have hs:=scan0 (f:= .op o r) ⟨h1,h2⟩;obtain⟨_,_,h3⟩:=be8 (o:=o) (s:=r.src) hs (by omega);have hq:Q9 (o::r.src)=some t:=hq;rw[h3]at hq;cases hr:Q9 r.src with
  |none=>rw[hr]at hq;cases hq
  |some m=>
   rw[hr]at hq;injection hq with hq
   have:=Q9_n r h2 (fun x hx=>hv x (List.mem_cons_of_mem _ hx)) hr;subst this;rw[←hq];show(1:Int)+(r.n:Int)=((1+r.n:Nat):Int);omega
 | .rep o b e r,h,hv,t,hq=>by
  obtain⟨⟨h1,h2⟩,h3,h4⟩:=h;have hs:=scan0 (f:= .rep o b e r) ⟨⟨h1,h2⟩,h3,h4⟩;obtain⟨_,h5⟩:=bm0 (o:=o) (e:=e) (inner:=b.src) (rest:=r.src) hs h1 h2 (scan0 h3);have hq:Q9 (o::(b.src++e::r.src))=some t:=hq;rw[h5]at hq;obtain⟨w,hw,hq⟩:=ce hq;obtain⟨c,hc,hq⟩:=ce hq;cases hr:Q9 r.src with
  |none=>rw[hr]at hq;cases hq
  |some m=>
   rw[hr]at hq;injection hq with hq
   have e1:=Q9_n r h4 (fun x hx=>hv x (by simp only[src];simp[hx])) hr;have e2:=Q9_n b h3 (fun x hx=>hv x (by simp only[src];simp[hx])) hw;have hv0:0≤o.2.2.2.2:=hv o (by simp[src])
   have e3:c=(b.n:Int)*(xB o:Int):=by
    unfold xV at hc;rw[e2]at hc;unfold xB;rw[Int.toNat_of_nonneg hv0];split at hc
    ·rename_i hz;injection hc with hc
     rw[hz,Int.zero_mul,hc]
    split at hc
    ·cases hc
    split at hc
    ·cases hc
    ·injection hc with hc
     exact hc.symm
   rw[←hq,e1,e3];show(b.n:Int)*(xB o:Int)+(r.n:Int)=((b.n*xB o+r.n:Nat):Int);simp
theorem hmax_src : ∀(f:Fo),f.Ok→∀(r:List ec) (d m:Nat),hmax (f.src++r) d m=hmax r d (max m (if f.hi=0 then 0 else d+f.hi))
 | .nil,_,r,d,m=>by
  simp only[src,List.nil_append,hi,if_pos];rw[Nat.max_zero]
 | .op o f,h,r,d,m=>by
  obtain⟨h1,h2⟩:=h;simp only[src,List.cons_append,hmax,hi];rw[if_neg (by omega),if_neg (by omega)];exact hmax_src f h2 r d m
 | .rep o b e f,h,r,d,m=>by
  obtain⟨⟨h1,h2⟩,h3,h4⟩:=h;simp only[src,List.cons_append,List.append_assoc,hmax,hi];rw[if_pos h1,hmax_src b h3];simp only[hmax];rw[if_neg (by omega),if_pos h2,Nat.add_sub_cancel,hmax_src f h4]
  congr 1
  have e0:(if max (b.hi+1) f.hi=0 then 0 else d+max (b.hi+1) f.hi)=d+max (b.hi+1) f.hi:=if_neg (by omega);refine Eq.trans ?_ (congrArg (max m) e0.symm);split<;>split<;>omega
theorem hi_le {f:Fo}(h:f.Ok):f.hi≤hmax f.src 0 0:=by
 have:=hmax_src f h [] 0 0;rw[List.append_nil]at this;rw[this];simp only[hmax];split<;>omega
theorem bare_n : ∀f:Fo,f.bare.n=f.n
 | .nil=>rfl
 | .op o r=>by simp only[bare,n,bare_n r]
 | .rep o b e r=>by
  simp only[bare,n];split
  ·rename_i h;rw[h,bare_n r,Nat.zero_add]
  ·simp only[n,bare_n b,bare_n r]
theorem unroll_len : ∀f:Fo,f.unroll.length=f.n
 | .nil=>rfl
 | .op o r=>by simp only[unroll,n,List.length_cons,unroll_len r];omega
 | .rep o b e r=>by
  simp only[unroll,n,List.length_append,unroll_len r];rw[List.length_flatten,List.map_replicate,List.sum_replicate_nat,unroll_len b,Nat.mul_comm]
theorem bare_unroll : ∀f:Fo,f.bare.unroll=f.unroll
 | .nil=>rfl
 | .op o r=>by simp only[bare,unroll,bare_unroll r]
 | .rep o b e r=>by
  simp only[bare,unroll];split
  ·rename_i h
   have h1:((List.replicate (xB o) b.unroll).flatten).length=0:=by
    rw[List.length_flatten,List.map_replicate,List.sum_replicate_nat,unroll_len b,Nat.mul_comm,h]
   rw[List.eq_nil_of_length_eq_zero h1,List.nil_append,bare_unroll r]
  ·simp only[unroll,bare_unroll b,bare_unroll r]
theorem bare_ok : ∀f:Fo,f.Ok→f.bare.Ok
 | .nil,_=>trivial
 | .op o r,h=>⟨h.1,bare_ok r h.2⟩
 | .rep o b e r,h=>by
  simp only[bare];split
  ·exact bare_ok r h.2.2
  ·exact⟨h.1,bare_ok b h.2.1,bare_ok r h.2.2⟩
theorem bare_pos : ∀f:Fo,f.bare.Pos
 | .nil=>trivial
 | .op o r=>bare_pos r
 | .rep o b e r=>by
  simp only[bare];split
  ·exact bare_pos r
  ·rename_i h;exact⟨by rw[bare_n];omega,bare_pos b,bare_pos r⟩
theorem bare_hi : ∀f:Fo,f.bare.hi≤f.hi
 | .nil=>Nat.le_refl _
 | .op o r=>bare_hi r
 | .rep o b e r=>by
  simp only[bare,hi];have h1:=bare_hi b;have h2:=bare_hi r;split
  ·omega
  ·simp only[hi];omega
theorem bare_len : ∀f:Fo,f.bare.len≤f.len
 | .nil=>Nat.le_refl _
 | .op o r=>by simp only[bare,len];exact Nat.succ_le_succ (bare_len r)
 | .rep o b e r=>by
  simp only[bare,len];have h1:=bare_len b;have h2:=bare_len r;split
  ·omega
  ·simp only[len];omega
theorem bare_mem : ∀(f:Fo) {o:ec},o∈f.bare.src→o∈f.src
 | .nil,o,h=>h
 | .op o r,x,h=>by
  simp only[bare,src,List.mem_cons]at h⊢;rcases h with h|h
  ·exact .inl h
  ·exact .inr (bare_mem r h)
 | .rep o b e r,x,h=>by
  simp only[bare]at h;split at h
  ·simp only[src,List.mem_cons,List.mem_append];exact .inr (.inr (.inr (bare_mem r h)))
  ·simp only[src,List.mem_cons,List.mem_append]at h⊢;rcases h with h|h|h|h
   ·exact .inl h
   ·exact .inr (.inl (bare_mem b h))
   ·exact .inr (.inr (.inl h))
   ·exact .inr (.inr (.inr (bare_mem r h)))
theorem steps_le : ∀f:Fo,f.Pos→f.steps≤(2*f.len+1)*f.n
 | .nil,_=>Nat.le_refl _
 | .op o r,h=>by
  have h1:=steps_le r h;simp only[steps,len,n];rw[Nat.mul_add,Nat.mul_one];have:(2*r.len+1)*r.n≤(2*(r.len+1)+1)*r.n:=Nat.mul_le_mul_right _ (by omega);omega
 | .rep o b e r,h=>by
  obtain⟨h1,h2,h3⟩:=h;have i1:=steps_le b h2;have i2:=steps_le r h3;simp only[steps,len,n]
  have hv:0<xB o:=by
   rcases Nat.eq_zero_or_pos (xB o)with h0|h0
   ·rw[h0]at h1;simp at h1
   ·exact h0
  have hb:0<b.n:=by
   rcases Nat.eq_zero_or_pos b.n with h0|h0
   ·rw[h0]at h1;simp at h1
   ·exact h0
  have hx:xB o≤b.n*xB o:=Nat.le_mul_of_pos_left _ hb
  have j1:xB o*(b.steps+1)≤(2*b.len+1)*(b.n*xB o)+b.n*xB o:=by
   rw[Nat.mul_add,Nat.mul_one];have:xB o*b.steps≤xB o*((2*b.len+1)*b.n):=Nat.mul_le_mul_left _ i1
   have e1:xB o*((2*b.len+1)*b.n)=(2*b.len+1)*(b.n*xB o):=by
    rw[Nat.mul_comm,Nat.mul_assoc]
   omega
  have j2:(2*r.len+1)*r.n≤(2*(b.len+r.len+2)+1)*r.n:=Nat.mul_le_mul_right _ (by omega);have j3:(2*b.len+3)*(b.n*xB o)≤(2*(b.len+r.len+2)+1)*(b.n*xB o):=Nat.mul_le_mul_right _ (by omega)
  have j4:(2*b.len+3)*(b.n*xB o)=(2*b.len+1)*(b.n*xB o)+b.n*xB o+b.n*xB o:=by
   rw[show 2*b.len+3=(2*b.len+1)+1+1 by omega,Nat.add_mul,Nat.add_mul,Nat.one_mul]
  rw[Nat.mul_add (2*(b.len+r.len+2)+1)];generalize xB o*(b.steps+1)=y1 at*;generalize (2*(b.len+r.len+2)+1)*(b.n*xB o)=y2 at*;generalize (2*(b.len+r.len+2)+1)*r.n=y3 at*;generalize (2*r.len+1)*r.n=y4 at*;generalize (2*b.len+3)*(b.n*xB o)=y5 at*;generalize (2*b.len+1)*(b.n*xB o)=y6 at*;omega
end Fo
def upd (l:Nat→Int)(j:Nat)(v:Int):Nat→Int:=fun i=>cond (Nat.beq j i) v (l i)
theorem qF (l:Nat→Int)(j:Nat)(v:Int):upd l j v j=v:=by
 unfold upd;rw[Nat.beq_refl];rfl
theorem aJ9 {l:Nat→Int}{j i:Nat}{v:Int}(h:i≠j):upd l j v i=l i:=by
 unfold upd;cases hb:Nat.beq j i with
 |true=>exact(h (Nat.eq_of_beq_eq_true hb).symm).elim
 |false=>rfl
def okV (o:ec):Prop:=0≤o.2.2.2.2∧o.2.2.2.2≤18446744073709551615
structure Runs {σ γ S:Type}(g:σ→Option (σ⊕γ))(code:List vF)(st:Nat→Nat→(Nat→Int)→S→σ)(stp:ec→S→S)(Vd:Nat→S→Prop)(good:ec→Prop):Prop where
 op: ∀{p d l s m o to},code[p]?=some (dq o to)→good o→(0<o.1∧o.1<7)→d≤8→Vd (1+m) s→g (st p d l s)=some (.inl (st (p+1) d l (stp o s)))∧Vd m (stp o s)
 rep: ∀{p d l s m o to},code[p]?=some (dq o to)→o.1=7→d<8→Vd m s→g (st p d l s)=some (.inl (st (p+1) (d+1) (upd l d o.2.2.2.2) s))
 nxt: ∀{p d l s m e to},code[p]?=some (dq e to)→e.1=0→d<8→1<l d→l d≤18446744073709551615→Vd m s→g (st p (d+1) l s)=some (.inl (st to (d+1) (upd l d (l d-1)) s))
 out: ∀{p d l s m e to},code[p]?=some (dq e to)→e.1=0→d<8→l d=1→Vd m s→g (st p (d+1) l s)=some (.inl (st (p+1) d (upd l d (l d-1)) s))
section
variable {σ γ S:Type} {g:σ→Option (σ⊕γ)} {code:List vF} {st:Nat→Nat→(Nat→Int)→S→σ} {stp:ec→S→S} {Vd:Nat→S→Prop} {good:ec→Prop}
def fwd (stp:ec→S→S)(l:List ec)(s:S):S:=l.foldl (fun s o=>stp o s) s
theorem bM0 (l r:List ec)(s:S):fwd stp (l++r) s=fwd stp r (fwd stp l s):=List.foldl_append
theorem aq9 {A B:List vF}{x:vF}{r:List vF}{p:Nat}(hc:code=A++(x::r)++B)(hp:A.length=p):code[p]?=some x:=by
 subst hp;rw[hc,List.append_assoc,List.getElem?_append_right (Nat.le_refl _),Nat.sub_self];rfl
theorem rounds (hg:Runs g code st stp Vd good){p q d t n:Nat}{e:ec}{u:List ec}(hd:d<8)(hend:code[q]?=some (dq e p))(he:e.1=0)
  (hb: ∀(l:Nat→Int) (s:S) (m:Nat),Vd (n+m) s→∃l',(∀i,i<d+1→l' i=l i)∧Reach g t (st p (d+1) l s) (st q (d+1) l' (fwd stp u s))∧Vd m (fwd stp u s)):
  ∀(k:Nat) (l:Nat→Int) (s:S) (m:Nat),k<18446744073709551615→l d=((k+1:Nat):Int)→Vd (n*(k+1)+m) s→
   ∃l',(∀i,i<d→l' i=l i)∧Reach g ((k+1)*(t+1)) (st p (d+1) l s) (st (q+1) d l' (fwd stp (List.replicate (k+1) u).flatten s))∧Vd m (fwd stp (List.replicate (k+1) u).flatten s)
 |0,l,s,m,hk,hl,hv=>by
  obtain⟨l1,h1,h2,h3⟩:=hb l s m (by rw[Nat.zero_add,Nat.mul_one]at hv;exact hv);have hu:(List.replicate (0+1) u).flatten=u:=by simp
  rw[hu];have hl1:l1 d=1:=by rw[h1 d (by omega),hl];rfl
  refine⟨upd l1 d (l1 d-1),fun i hi=>by rw[aJ9 (by omega),h1 i (by omega)], ?_,h3⟩;have h4:=h2.trans (Reach.one (hg.out (l:=l1) hend he hd hl1 h3));rw[show(0+1)*(t+1)=t+1 by omega];exact h4
 |k+1,l,s,m,hk,hl,hv=>by
  have hn:n*(k+1+1)+m=n+(n*(k+1)+m):=by rw[Nat.mul_succ n (k+1)];omega
  rw[hn]at hv;obtain⟨l1,h1,h2,h3⟩:=hb l s _ hv;have hl1:l1 d=((k+1+1:Nat):Int):=by rw[h1 d (by omega),hl]
  have h4:=h2.trans (Reach.one (hg.nxt (l:=l1) hend he hd (by omega) (by omega) h3));obtain⟨l2,h5,h6,h7⟩:=rounds hg hd hend he hb k (upd l1 d (l1 d-1)) (fwd stp u s) m (by omega) (by rw[qF,hl1];omega) h3;have hu:(List.replicate (k+1+1) u).flatten=u++(List.replicate (k+1) u).flatten:=by rw[List.replicate_succ,List.flatten_cons]
  rw[hu,bM0];refine⟨l2,fun i hi=>by rw[h5 i hi,aJ9 (by omega),h1 i (by omega)], ?_,h7⟩;rw[show(k+1+1)*(t+1)=t+1+(k+1)*(t+1)by rw[Nat.succ_mul (k+1)];omega];exact h4.trans h6
theorem aZ2 (hg:Runs g code st stp Vd good): ∀(f:Fo) {A B:List vF} {p d:Nat} {l:Nat→Int} {s:S} {m:Nat},code=A++f.code p++B→A.length=p→f.Ok→f.Pos→d+f.hi≤8→(∀o∈f.src,good o∧okV o)→Vd (f.n+m) s→
  ∃l',(∀i,i<d→l' i=l i)∧Reach g f.steps (st p d l s) (st (p+f.len) d l' (fwd stp f.unroll s))∧Vd m (fwd stp f.unroll s)
 | .nil,A,B,p,d,l,s,m,hc,hp,hk,hq,hh,hgd,hv=>by
  refine⟨l,fun _ _=>rfl,Reach.refl, ?_⟩;have:Fo.nil.n+m=m:=Nat.zero_add m;rw[this]at hv;exact hv
 | .op o r,A,B,p,d,l,s,m,hc,hp,hk,hq,hh,hgd,hv=>by
  simp only[Fo.n,Nat.add_assoc]at hv;simp only[Fo.hi]at hh;obtain⟨h1,h2⟩:=hg.op (d:=d) (l:=l) (aq9 hc hp) (hgd o (by simp[Fo.src])).1 hk.1 (by omega) hv;have hA:(A++[dq o 0]).length=p+1:=by simp[hp]
  obtain⟨l',h3,h4,h5⟩:=aZ2 hg r (A:=A++[dq o 0]) (B:=B) (p:=p+1) (d:=d) (l:=l) (by rw[hc];simp[Fo.code]) hA hk.2 hq hh (fun x hx=>hgd x (by simp[Fo.src,hx])) h2;refine⟨l',h3, ?_,h5⟩;have:=(Reach.one h1).trans h4;simp only[Fo.steps,Fo.len];rw[show p+(r.len+1)=p+1+r.len by omega];exact this
 | .rep o b e r,A,B,p,d,l,s,m,hc,hp,hk,hq,hh,hgd,hv=>by
  obtain⟨⟨k1,k2⟩,k3,k4⟩:=hk;obtain⟨q1,q2,q3⟩:=hq;simp only[Fo.n,Nat.add_assoc]at hv;simp only[Fo.hi]at hh;have hov:=(hgd o (by simp[Fo.src])).2;unfold okV at hov;have hvo:((xB o:Nat):Int)=o.2.2.2.2:=Int.toNat_of_nonneg hov.1
  have hv0:0<xB o:=by
   rcases Nat.eq_zero_or_pos (xB o)with h0|h0
   ·rw[h0]at q1;simp at q1
   ·exact h0
  obtain⟨k,hk⟩: ∃k,xB o=k+1:=⟨xB o-1,by omega⟩
  have h1:=hg.rep (d:=d) (l:=l) (aq9 hc hp) k1 (by omega) hv;have hA:(A++[dq o (p+b.len+2)]).length=p+1:=by simp[hp]
  have hcb:code=(A++[dq o (p+b.len+2)])++b.code (p+1)++(dq e (p+1)::r.code (p+b.len+2)++B):=by rw[hc];simp[Fo.code]
  have hce:code=(A++dq o (p+b.len+2)::b.code (p+1))++(dq e (p+1)::r.code (p+b.len+2))++B:=by rw[hc];simp[Fo.code]
  have hAe:(A++dq o (p+b.len+2)::b.code (p+1)).length=p+1+b.len:=by simp[hp,Fo.code_len];omega
  have hend:=aq9 hce hAe
  obtain⟨l1,h2,h3,h4⟩:=rounds hg (p:=p+1) (q:=p+1+b.len) (d:=d) (t:=b.steps) (n:=b.n) (e:=e) (u:=b.unroll) (by omega) hend k2
   (fun l s m hm=>aZ2 hg b hcb hA k3 q2 (by omega) (fun x hx=>hgd x (by simp[Fo.src,hx])) hm) k (upd l d o.2.2.2.2) s (r.n+m) (by omega) (by rw[qF,←hvo,hk]) (by rw[←hk];exact hv)
  have hcr:code=(A++dq o (p+b.len+2)::(b.code (p+1)++[dq e (p+1)]))++r.code (p+b.len+2)++B:=by rw[hc];simp[Fo.code]
  have hAr:(A++dq o (p+b.len+2)::(b.code (p+1)++[dq e (p+1)])).length=p+b.len+2:=by simp[hp,Fo.code_len];omega
  obtain⟨l2,h5,h6,h7⟩:=aZ2 hg r (d:=d) (l:=l1) hcr hAr k4 q3 (by omega) (fun x hx=>hgd x (by simp[Fo.src,hx])) h4;simp only[Fo.unroll,Fo.steps,Fo.len];rw[bM0,hk];refine⟨l2,fun i hi=>by rw[h5 i hi,h2 i hi,aJ9 (by omega)], ?_,h7⟩;have h8:=((Reach.one h1).trans h3).trans (show Reach g r.steps (st (p+1+b.len+1) d l1 _) _ from by rw[show p+1+b.len+1=p+b.len+2 by omega];exact h6);rw[show p+(b.len+r.len+2)=p+b.len+2+r.len by omega];exact h8
end
structure Backs {σ γ S:Type}(g:σ→Option (σ⊕γ))(code:List vF)(st:Nat→Nat→(Nat→Int)→S→σ)(stp:ec→S→S)(Vd:Nat→S→Prop)(good:ec→Prop):Prop where
 op: ∀{p d l s m o to},code[p]?=some (dq o to)→good o→(0<o.1∧o.1<7)→d≤8→Vd (1+m) s→g (st (p+1) d l s)=some (.inl (st p d l (stp o s)))∧Vd m (stp o s)
 rep: ∀{p q d l s m o e to},code[p]?=some (dq e (q+1))→e.1=0→code[q]?=some (dq o to)→d<8→Vd m s→g (st (p+1) d l s)=some (.inl (st p (d+1) (upd l d o.2.2.2.2) s))
 nxt: ∀{p d l s m o to},code[p]?=some (dq o (to+1))→to≤code.length→o.1=7→d<8→1<l d→l d≤18446744073709551615→Vd m s→g (st (p+1) (d+1) l s)=some (.inl (st to (d+1) (upd l d (l d-1)) s))
 out: ∀{p d l s m o to},code[p]?=some (dq o (to+1))→o.1=7→d<8→l d=1→Vd m s→g (st (p+1) (d+1) l s)=some (.inl (st p d (upd l d (l d-1)) s))
section
variable {σ γ S:Type} {g:σ→Option (σ⊕γ)} {code:List vF} {st:Nat→Nat→(Nat→Int)→S→σ} {stp:ec→S→S} {Vd:Nat→S→Prop} {good:ec→Prop}
def bwd (stp:ec→S→S)(l:List ec)(s:S):S:=l.foldr stp s
theorem bL5 (l r:List ec)(s:S):bwd stp (l++r) s=bwd stp l (bwd stp r s):=List.foldr_append
theorem bO7 (hg:Backs g code st stp Vd good){p q d t n:Nat}{o:ec}{u:List ec}(hq:q≤code.length)(hd:d<8)(hbeg:code[p]?=some (dq o (q+1)))(ho:o.1=7)
  (hb: ∀(l:Nat→Int) (s:S) (m:Nat),Vd (n+m) s→∃l',(∀i,i<d+1→l' i=l i)∧Reach g t (st q (d+1) l s) (st (p+1) (d+1) l' (bwd stp u s))∧Vd m (bwd stp u s)):
  ∀(k:Nat) (l:Nat→Int) (s:S) (m:Nat),k<18446744073709551615→l d=((k+1:Nat):Int)→Vd (n*(k+1)+m) s→
   ∃l',(∀i,i<d→l' i=l i)∧Reach g ((k+1)*(t+1)) (st q (d+1) l s) (st p d l' (bwd stp (List.replicate (k+1) u).flatten s))∧Vd m (bwd stp (List.replicate (k+1) u).flatten s)
 |0,l,s,m,hk,hl,hv=>by
  obtain⟨l1,h1,h2,h3⟩:=hb l s m (by rw[Nat.zero_add,Nat.mul_one]at hv;exact hv);have hu:(List.replicate (0+1) u).flatten=u:=by simp
  rw[hu];have hl1:l1 d=1:=by rw[h1 d (by omega),hl];rfl
  refine⟨upd l1 d (l1 d-1),fun i hi=>by rw[aJ9 (by omega),h1 i (by omega)], ?_,h3⟩;have h4:=h2.trans (Reach.one (hg.out (l:=l1) hbeg ho hd hl1 h3));rw[show(0+1)*(t+1)=t+1 by omega];exact h4
 |k+1,l,s,m,hk,hl,hv=>by
  have hn:n*(k+1+1)+m=n+(n*(k+1)+m):=by rw[Nat.mul_succ n (k+1)];omega
  rw[hn]at hv;obtain⟨l1,h1,h2,h3⟩:=hb l s _ hv;have hl1:l1 d=((k+1+1:Nat):Int):=by rw[h1 d (by omega),hl]
  have h4:=h2.trans (Reach.one (hg.nxt (l:=l1) hbeg hq ho hd (by omega) (by omega) h3));obtain⟨l2,h5,h6,h7⟩:=bO7 hg hq hd hbeg ho hb k (upd l1 d (l1 d-1)) (bwd stp u s) m (by omega) (by rw[qF,hl1];omega) h3;have hu:(List.replicate (k+1+1) u).flatten=(List.replicate (k+1) u).flatten++u:=by rw[List.replicate_succ',List.flatten_append];simp
  rw[hu,bL5];refine⟨l2,fun i hi=>by rw[h5 i hi,aJ9 (by omega),h1 i (by omega)], ?_,h7⟩;rw[show(k+1+1)*(t+1)=t+1+(k+1)*(t+1)by rw[Nat.succ_mul (k+1)];omega];exact h4.trans h6
theorem aC0 (hg:Backs g code st stp Vd good): ∀(f:Fo) {A B:List vF} {p d:Nat} {l:Nat→Int} {s:S} {m:Nat},code=A++f.code p++B→A.length=p→f.Ok→f.Pos→d+f.hi≤8→(∀o∈f.src,good o∧okV o)→Vd (f.n+m) s→
  ∃l',(∀i,i<d→l' i=l i)∧Reach g f.steps (st (p+f.len) d l s) (st p d l' (bwd stp f.unroll s))∧Vd m (bwd stp f.unroll s)
 | .nil,A,B,p,d,l,s,m,hc,hp,hk,hq,hh,hgd,hv=>by
  refine⟨l,fun _ _=>rfl,Reach.refl, ?_⟩;have:Fo.nil.n+m=m:=Nat.zero_add m;rw[this]at hv;exact hv
 | .op o r,A,B,p,d,l,s,m,hc,hp,hk,hq,hh,hgd,hv=>by
  simp only[Fo.n]at hv;simp only[Fo.hi]at hh;have hA:(A++[dq o 0]).length=p+1:=by simp[hp]
  obtain⟨l',h3,h4,h5⟩:=aC0 hg r (A:=A++[dq o 0]) (B:=B) (p:=p+1) (d:=d) (l:=l) (m:=1+m) (by rw[hc];simp[Fo.code]) hA hk.2 hq hh (fun x hx=>hgd x (by simp[Fo.src,hx])) (by rw[show r.n+(1+m)=1+r.n+m by omega];exact hv);obtain⟨h1,h2⟩:=hg.op (d:=d) (l:=l') (aq9 hc hp) (hgd o (by simp[Fo.src])).1 hk.1 (by omega) h5;refine⟨l',h3, ?_,h2⟩;have:=h4.trans (Reach.one h1);simp only[Fo.steps,Fo.len];rw[show p+(r.len+1)=p+1+r.len by omega,Nat.add_comm 1];exact this
 | .rep o b e r,A,B,p,d,l,s,m,hc,hp,hk,hq,hh,hgd,hv=>by
  obtain⟨⟨k1,k2⟩,k3,k4⟩:=hk;obtain⟨q1,q2,q3⟩:=hq;simp only[Fo.n]at hv;simp only[Fo.hi]at hh;have hov:=(hgd o (by simp[Fo.src])).2;unfold okV at hov;have hvo:((xB o:Nat):Int)=o.2.2.2.2:=Int.toNat_of_nonneg hov.1
  have hv0:0<xB o:=by
   rcases Nat.eq_zero_or_pos (xB o)with h0|h0
   ·rw[h0]at q1;simp at q1
   ·exact h0
  obtain⟨k,hk⟩: ∃k,xB o=k+1:=⟨xB o-1,by omega⟩
  have hbeg:=aq9 hc hp;have hA:(A++[dq o (p+b.len+2)]).length=p+1:=by simp[hp]
  have hcb:code=(A++[dq o (p+b.len+2)])++b.code (p+1)++(dq e (p+1)::r.code (p+b.len+2)++B):=by rw[hc];simp[Fo.code]
  have hce:code=(A++dq o (p+b.len+2)::b.code (p+1))++(dq e (p+1)::r.code (p+b.len+2))++B:=by rw[hc];simp[Fo.code]
  have hAe:(A++dq o (p+b.len+2)::b.code (p+1)).length=p+1+b.len:=by simp[hp,Fo.code_len];omega
  have hend:=aq9 hce hAe;have hcr:code=(A++dq o (p+b.len+2)::(b.code (p+1)++[dq e (p+1)]))++r.code (p+b.len+2)++B:=by rw[hc];simp[Fo.code]
  have hAr:(A++dq o (p+b.len+2)::(b.code (p+1)++[dq e (p+1)])).length=p+b.len+2:=by simp[hp,Fo.code_len];omega
  obtain⟨l2,h5,h6,h7⟩:=aC0 hg r (d:=d) (l:=l) (m:=b.n*xB o+m) hcr hAr k4 q3 (by omega) (fun x hx=>hgd x (by simp[Fo.src,hx])) (by rw[show r.n+(b.n*xB o+m)=b.n*xB o+r.n+m by omega];exact hv);have h1:=hg.rep (d:=d) (l:=l2) hend k2 hbeg (by omega) h7
  obtain⟨l1,h2,h3,h4⟩:=bO7 hg (p:=p) (q:=p+1+b.len) (d:=d) (t:=b.steps) (n:=b.n) (o:=o) (u:=b.unroll) (Nat.le_of_lt (List.getElem?_eq_some_iff.1 hend).1) (by omega) (by rw[hbeg];congr 2;omega) k1
   (fun l s m hm=>aC0 hg b hcb hA k3 q2 (by omega) (fun x hx=>hgd x (by simp[Fo.src,hx])) hm) k (upd l2 d o.2.2.2.2) _ m (by omega) (by rw[qF,←hvo,hk]) (by rw[←hk];exact h7)
  simp only[Fo.unroll,Fo.steps,Fo.len];rw[bL5,hk];refine⟨l1,fun i hi=>by rw[h2 i hi,aJ9 (by omega),h5 i hi], ?_,h4⟩;have h8:=(h6.trans (show Reach g 1 _ _ from by rw[show p+b.len+2=p+1+b.len+1 by omega];exact Reach.one h1)).trans h3;rw[show p+(b.len+r.len+2)=p+b.len+2+r.len by omega,show 1+(k+1)*(b.steps+1)+r.steps=r.steps+1+(k+1)*(b.steps+1)by omega];exact h8
end
end Go.V
