/- A part of the proofs of this claim: what functions of the program answer on an abstract machine, and plain laws. No condition. -/
import Derived.Test.YtpipfcfblmfnjaaGreatA6
import Derived.SizedLaws
import Derived.Test.YtpipfcfblmfnjaaGreatD2
import Derived.KernelRfl
set_option linter.unusedVariables false
set_option linter.unusedSimpArgs false
set_option linter.unusedSectionVars false
namespace Go.V
open Go.Ab
section
open List renaming getElem?_map → aB
def fieldAt (P:Program)(t:TypeId)(i:Nat):Option (TypeId×Nat):=match P.underlying t with
 |some (.struct fs)=>(fs[i]?).map fun f=>(f.type,f.offset)
 |_=>none
section
variable {H:Type} {enc:TypeId×Value→H} {P:Program} {w:World} {base:Nat} {held:Bool}
theorem az0 {m:Nat}{t t':TypeId}{i o:Nat}{cs:List Value}{x:DataW H×List MemPlace}{R:Nat}(hf:fieldAt P t i=some (t',o))(h:DataW.trod enc P w base (fun _=>true) held m t cs=some x)(hR: ∀n∈x.1.weights P t,n≤R):
  ∃m' x',DataW.trod enc P w base (fun _=>true) held m' t' ((cs.drop o).take (P.cellsOf t'))=some x'∧∀n∈x'.1.weights P t',n≤R:=by
 unfold fieldAt at hf;split at hf
 ·rename_i fs hu;cases hg:fs[i]? with
  |none=>rw[hg]at hf;cases hf
  |some f=>
   rw[hg,Option.map_some]at hf;injection hf with hf
   injection hf with h1 h2
   subst h1 h2;obtain⟨xs,n,_,rfl,_,hl,hx⟩:=DataW.trod_struct hu h;obtain⟨hi,_⟩:=Array.getElem?_eq_some_iff.1 hg;have hxi:xs[i]?=some (xs[i]'(by omega)):=List.getElem?_eq_getElem (by omega);refine⟨n,_,(hx i f hg).trans hxi,fun k hk=>hR k ?_⟩;simp only[DataW.weights,hu];refine DataW.weights_mem_each (j:=i) (t:=f.type) (d:=(xs[i]'(by omega)).1) ?_ ?_ k hk
   ·rw[aB,Array.getElem?_toList,hg];rfl
   ·rw[aB,hxi];rfl
 ·cases hf
theorem cp5 {m:Nat}{t e:TypeId}{cs:List Value}{x:DataW H×List MemPlace}{R:Nat}{s:Sh}{l:List (El s)}(hu:P.underlying t=some (.slice e))(h:DataW.trod enc P w base (fun _=>true) held m t cs=some x)(hR: ∀n∈x.1.weights P t,n≤R)(hc:eF w (.list s) cs l):l.length*P.bytesOf e≤R:=by
 rcases hc with⟨_,rfl⟩|⟨a',len',cap',ys,e3,_,_,_,rfl,_⟩
 ·simp
 ·rcases DataW.trod_slice hu h with⟨e1,_⟩|⟨a,len,cap,elems,rest,n,_,e1,rfl,_,_,_,hel,_⟩
  ·rw[e3]at e1;cases e1
  ·rw[e3]at e1;injection e1 with e1 _
   injection e1 with _ e1 _
   subst e1;have h1:=hR ((elems.length+rest.length)*P.bytesOf e) (by simp only[DataW.weights,hu,List.length_map];exact List.mem_cons_self ..);have h2:(ys.take len').length≤elems.length+rest.length:=by rw[List.length_take];omega
   exact Nat.le_trans (Nat.mul_le_mul_right _ h2) h1
theorem eF.fst {a b:Sh}{cs:List Value}{y:El (.pair a b)}(h:eF w (.pair a b) cs y)(ha:a.w=1):eF w a (cs.take 1) y.1∧eF w b (cs.drop 1) y.2:=by
 obtain⟨c1,c2,rfl,h1,h2⟩:=h;have e:c1.length=1:=h1.len.trans ha;rw[←e,List.take_left,List.drop_left];exact⟨h1,h2⟩
theorem bt1 {t tp tl e:TypeId}{A B:Sh}{v:Value}{d:DataW H}{ps:List MemPlace}{R:Nat}{y:El (uT [.int .i64, .list A, .list A, .int .i64, .list B, .int .i64, .list B, .int .i64, .int .i64])}
  (h3:fieldAt P t 3=some (tp,3)) (h4:fieldAt P t 4=some (tp,5)) (h1:fieldAt P tp 1=some (tl,1)) (hp:P.cellsOf tp=2) (hl:P.cellsOf tl=1) (hu:P.underlying tl=some (.slice e))
  (hd:DataW.Trod enc P w base (fun _=>true) held t v d ps) (hR: ∀n∈d.weights P t,n≤R)
  (hy:am5 w true (uT [.int .i64, .list A, .list A, .int .i64, .list B, .int .i64, .list B, .int .i64, .int .i64]) v y):
  y.2.2.2.2.1.length*P.bytesOf e≤R∧y.2.2.2.2.2.2.1.length*P.bytesOf e≤R:=by
 obtain⟨fuel,hf⟩:=hd;obtain⟨cs,rfl,hy⟩:=hy;have hf:DataW.trod enc P w base (fun _=>true) held fuel t cs.toList=some (d,ps):=hf;generalize cs.toList=cs at*;obtain⟨_,hy⟩:=eF.fst hy rfl;obtain⟨_,hy⟩:=eF.fst hy rfl;obtain⟨_,hy⟩:=eF.fst hy rfl;obtain⟨_,hy⟩:=eF.fst hy rfl;obtain⟨y4,hy⟩:=eF.fst hy rfl;obtain⟨_,hy⟩:=eF.fst hy rfl;obtain⟨y6,hy⟩:=eF.fst hy rfl;constructor
 ·obtain⟨m1,x1,g1,r1⟩:=az0 h3 hf hR;obtain⟨m2,x2,g2,r2⟩:=az0 h1 g1 r1;refine cp5 hu g2 r2 ?_;rw[hp,hl]
  have:(((cs.drop 3).take 2).drop 1).take 1=((((cs.drop 1).drop 1).drop 1).drop 1).take 1:=by
   simp only[List.drop_take,List.drop_drop,List.take_take];rfl
  rw[this];exact y4
 ·obtain⟨m1,x1,g1,r1⟩:=az0 h4 hf hR;obtain⟨m2,x2,g2,r2⟩:=az0 h1 g1 r1;refine cp5 hu g2 r2 ?_;rw[hp,hl]
  have:(((cs.drop 5).take 2).drop 1).take 1=((((((cs.drop 1).drop 1).drop 1).drop 1).drop 1).drop 1).take 1:=by
   simp only[List.drop_take,List.drop_drop,List.take_take];rfl
  rw[this];exact y6
end
end
section
open Go.IntKind renaming wrap → zH, i64 → zI, u64 → zJ
open Bool renaming not_true → bQ
open Int renaming zero_add → bD, add_assoc → bG, mul_nonneg → bM, add_zero → bR, le_refl → bS, ediv_le_self → cH, ediv_nonneg → cI, mul_ediv_self_le → cJ, mul_le_mul_of_nonneg_left → cK, toNat_of_nonneg → cL, eq_ofNat_of_zero_le → cW, toNat_natCast → cX
open List renaming getElem?_eq_getElem → aD, replicate → aW, getElem?_set_ne → aY, length_cons → aZ, append_assoc → bA, getElem?_append_right → bB, length_append → bC, cons_append → bE, getElem_mem → bF, nil_append → bH, getElem_cons_drop → bJ, range → bL, drop_length → bN, getElem?_set_self → bO, length → bP, append_nil → bT, drop_append → bU, drop_of_length_le → bV, getD → bW, getElem?_drop → bX, length_drop → bY, map_append → bZ, set → cA, set_append_right → cB, take_append_drop → cC, take_left' → cD, any_cons → cM, any_nil → cN, dropLast_concat_getLast → cO, length_take → cP, mem_cons → cQ, range_succ → cR, take_succ_eq_append_getElem → cS, getElem?_cons_zero → cY, length_flatten → cZ, map_replicate → dA, mem_append → dB, replicate_succ' → dC, sum_replicate_nat → dD
open Nat renaming le_refl → aB, sub_self → aX, zero_add → bI, zero_le → bK, beq → cE, eq_zero_or_pos → cF, mul_one → cG, mul_add → cT, mul_comm → cU, mul_le_mul_right → cV, add_sub_cancel → dE
set_option maxRecDepth 100000
abbrev dR :=Int×Int×Int×Int×Int
def dn :List dR→Nat→Option Nat
 |[],d=>some d
 |o::r,d=>if o.1<0∨7<o.1 then none else if o.1=0 then(if d=0 then none else dn r (d-1))else if o.1=7 then dn r (d+1)else dn r d
theorem nJ : ∀(l r:List dR) (d:Nat),dn (l++r) d=(dn l d).bind (dn r)
 |[],r,d=>rfl
 |o::l,r,d=>by
  simp only[bE,dn];split
  ·rfl
  split
  ·split
   ·rfl
   ·exact nJ l r _
  split
  ·exact nJ l r _
  ·exact nJ l r _
theorem ay0 : ∀(l:List dR) (d d':Nat),dn l d=some d'→dn l (d+1)=some (d'+1)
 |[],d,d',h=>by
  injection h with h
  subst h;rfl
 |o::l,d,d',h=>by
  simp only[dn]at h⊢;split at h
  ·cases h
  rename_i c;rw[zF c];split at h
  ·rename_i c2;rw[zE c2];split at h
   ·cases h
   ·rename_i c3;rw[zF (by omega)];have:=ay0 l _ _ h
    rwa [show d-1+1=d+1-1 by omega]at this
  rename_i c2;rw[zF c2];split at h
  ·rename_i c3;rw[zE c3];exact ay0 l _ _ h
  ·rename_i c3;rw[zF c3];exact ay0 l _ _ h
def cB3 (l:List dR)(s:Int×Bool×(List Int)×(List Int)×List Int):Prop:=
 ∃(i:Nat) (out st:List Int),i≤l.length∧s=((i:Int),true,out,st,st)∧out.length=l.length∧(∀x∈st,0≤x∧x<l.length)∧st.length≤i∧dn (l.drop i) st.length=dn l 0
theorem cy5 {st:List Int}(h:st≠[]): ∃pre x,st=pre++[x]:=⟨st.dropLast,st.getLast h,(cO h).symm⟩
theorem bM8 {l:List dR}(hl:l.length≤3518437208780)(s:Int×Bool×(List Int)×(List Int)×List Int)(h:cB3 l s):
  (∃b,dS l s=some (.inl b)∧cB3 l b∧l.length-b.1.toNat<l.length-s.1.toNat)∨∃c,dS l s=some (.inr c)∧((c.1=false∧dn l 0=none)∨(c.1=true∧dn l 0=some c.2.2.1.length)):=by
 obtain⟨i,out,st,hi,rfl,ho,hst,hsl,hsc⟩:=h;by_cases c:i<l.length
 ·have hdrop:l.drop i=l[i]::l.drop (i+1):=(bJ c).symm;rw[hdrop]at hsc;simp only[dS];rw[zB (show(i:Int)<(l.length:Int)by omega),zC,eE c];simp only[zG];generalize hx:l[i]=x at*;simp only[dn]at hsc;by_cases k0:x.1<0
  ·rw[zE (.inl k0)]at hsc;rw[zB k0];simp only[zC,zG,ik];exact .inr ⟨_,rfl, .inl ⟨rfl,hsc.symm⟩⟩
  rw[zA k0,zD];by_cases k7:7<x.1
  ·rw[zE (.inr k7)]at hsc;rw[zB k7];simp only[zC,zG,dT,ik];exact .inr ⟨_,rfl, .inl ⟨rfl,hsc.symm⟩⟩
  rw[zA k7,zD];rw[zF (by omega)]at hsc;by_cases kz:x.1=0
  ·rw[zE kz]at hsc;rw[zB kz];simp only[zC,zG,dT];by_cases hs0:st.length=0
   ·rw[zE hs0]at hsc;rw[zB (show(st.length:Int)=0 by omega)];simp only[zC,zG,ik];exact .inr ⟨_,rfl, .inl ⟨rfl,hsc.symm⟩⟩
   ·rw[zF hs0]at hsc;rw[zA (show¬(st.length:Int)=0 by omega),zD];rw[ck (n:=(st.length:Int)-1) (by omega),il (by omega),dN];simp only[zG,dT];obtain⟨pre,q,rfl⟩:=cy5 (st:=st) (by intro e;subst e;exact hs0 rfl);have hq:=hst q (by simp);have hlen:(pre++[q]).length=pre.length+1:=by simp
    have ht:(((pre++[q]).length:Int)-1).toNat-0=pre.length:=by rw[hlen];omega
    have e7:decide (x.1=7)=false:=zA (by omega);rw[dp (show i<out.length by omega)];simp only[zG];rw[aD (show i<out.length by omega)];simp only[zG];rw[e7,zD,show((pre++[q]).length:Int)-1=(pre.length:Int)by rw[hlen];omega,dp (show pre.length<(pre++[q]).length by omega)];simp only[zG];rw[bB (aB _),aX];simp only[cY,zG];rw[dN,dp (show i<(out.set i (-1)).length by simp;omega)];simp only[zG];rw[aD (show i<(out.set i (-1)).length by simp;omega)];simp only[zG];obtain⟨qn,rfl⟩:=cW hq.1;have hqn:qn<out.length:=by omega
    rw[dp (show qn<((out.set i (-1)).set i ((qn:Nat):Int)).length by simp;omega)];simp only[zG];rw[aD (show qn<((out.set i (-1)).set i ((qn:Nat):Int)).length by simp;omega)];simp only[zG]
    have htk:(pre++[(qn:Int)]).take ((pre.length:Int).toNat-0)=pre:=by
     rw[show(pre.length:Int).toNat-0=pre.length by omega,cD];rfl
    rw[htk,ck (n:=(i:Int)+1) (by omega)];refine .inl ⟨_,rfl,⟨i+1,_,pre,c,rfl,by simp[ho],fun y hy=>hst y (by simp[hy]),by rw[hlen]at hsl;omega, ?_⟩,by simp;omega⟩;rw[hlen]at hsc;exact hsc
  ·rw[zF kz]at hsc;have ez:decide (x.1=0)=false:=zA kz;rw[ez];simp only[zD,zG,dT];rw[dp (show i<out.length by omega)];simp only[zG];rw[aD (show i<out.length by omega)];simp only[zG];by_cases k7:x.1=7
   ·rw[zE k7]at hsc;rw[zB k7];simp only[zC];rw[dq (by omega) (by omega),dq (by omega) (by omega),ck (n:=(i:Int)+1) (by omega)];refine .inl ⟨_,rfl,⟨i+1,_,st++[(i:Int)],c,rfl,by simp[ho],fun y hy=> ?_,by simp;omega, ?_⟩,by simp;omega⟩
    ·rcases List.mem_append.1 hy with hy|hy
     ·exact hst y hy
     ·simp at hy;subst hy;omega
    ·rw[bC];exact hsc
   ·rw[zF k7]at hsc;rw[zA k7];simp only[zD];rw[ck (n:=(i:Int)+1) (by omega)];exact .inl ⟨_,rfl,⟨i+1,_,st,c,rfl,by simp[ho],hst,by omega,hsc⟩,by simp;omega⟩
 ·have hi':i=l.length:=by omega
  subst hi';rw[bN]at hsc;simp only[dS];rw[zA (show¬(l.length:Int)<(l.length:Int)by omega),zD];exact .inr ⟨_,rfl, .inr ⟨rfl,hsc.symm⟩⟩
theorem yr {l:List dR}(hl:l.length≤3518437208780): ∃m,jl l=some (if dn l 0=some 0 then 0 else 6,m):=by
 unfold jl;rw[zB (show(0:Int)≤(l.length:Int)by omega),zB (show(l.length:Int)≤(l.length:Int)by omega),zB (show 8*(l.length:Int)≤140737488355328 by omega)];show∃m,gd true _=_
 rw[dN]
 obtain⟨c,hc,h⟩:=mH (f:=dS l) (a:=((0:Int),true,aW ((l.length:Int)).toNat (0:Int),([]:List Int),([]:List Int))) (cB3 l) (fun s=>l.length-s.1.toNat) (fun c=>(c.1=false∧dn l 0=none)∨(c.1=true∧dn l 0=some c.2.2.1.length))
  ⟨0,_,[],bK _,rfl,by simp,(fun x hx=>by cases hx),aB _,rfl⟩ (by simp;omega) (fun s hs=>bM8 hl s hs)
 rw[hc];simp only[zG];rcases h with⟨h1,h2⟩|⟨h1,h2⟩
 ·rw[h1,h2];exact⟨_,rfl⟩
 ·rw[h1,h2,zC];by_cases c0:c.2.2.1.length=0
  ·rw[zB (show(c.2.2.1.length:Int)=0 by omega),zE (by rw[c0])];exact⟨_,rfl⟩
  ·rw[zA (show¬(c.2.2.1.length:Int)=0 by omega),zF (by intro e;injection e with e;exact c0 e)];exact⟨_,rfl⟩
def uS (w v:Int):Option Int:=if w=0 then some 0 else if 65536<w then none else if 65536 / w<v then none else some (w*v)
def oj :List dR→List (Int×Int)→Option (List (Int×Int))
 |[],st=>some st
 |o::r,(v,w)::st=>if o.1=7 then oj r ((o.2.2.2.2,0)::(v,w)::st)else if o.1=0 then(match uS w v,st with
   |some n,(v',w')::st'=>oj r ((v',w'+n)::st')
   |_,_=>none)
  else oj r ((v,w+1)::st)
 |_::_,[]=>none
theorem aY1 {w v:Int}(hw:0≤w∧w≤10000000000)(hv:0≤v∧v≤18446744073709551615):pp w v=some (match uS w v with
  |some n=>(n,true)
  |none=>(0,false)):=by
 unfold pp uS;simp only[cr];by_cases c1:w=0
 ·rw[zE c1,zE c1]
 rw[zF c1,zF c1];by_cases c2:65536<w
 ·rw[zE c2,zE c2]
 rw[zF c2,zF c2,zB (show w≠0 from c1),dN,bW1 (by omega)];have h1:0≤65536 / w:=cI (by omega) (by omega);have h2:65536 / w≤65536:=cH _ (by omega);rw[ck (n:=65536 / w) (by omega),hZ (by omega)];by_cases c3:65536 / w<v
 ·rw[zE c3,zE c3]
 ·rw[zF c3,zF c3]
  have h3:w*v≤65536:=by
   have h4:v≤65536 / w:=by omega
   have h5:=cK h4 (show 0≤w by omega);have h6:=cJ (x:=65536) (k:=w) (by omega);omega
  have h7:=bM (show 0≤w by omega) hv.1;rw[ck (n:=v) (by omega),ck (n:=w*v) (by omega)]
theorem au9 {w v n:Int}(hw:0≤w)(hv:0≤v)(h:uS w v=some n):0≤n∧n≤65536:=by
 unfold uS at h;split at h
 ·injection h with h;subst h;omega
 split at h
 ·cases h
 split at h
 ·cases h
 rename_i c1 c2 c3;injection h with h
 subst h;have h4:v≤65536 / w:=by omega
 have h5:=cK h4 (show 0≤w by omega);have h6:=cJ (x:=65536) (k:=w) (by omega);exact⟨bM hw hv,by omega⟩
theorem an5 {k:Int}(h:0<k∧k<7)(d a b v:Int):ip k d a b v=some (d,true):=by
 unfold ip om;simp only[cr];have:k=1∨k=2∨k=3∨k=4∨k=5∨k=6:=by omega
 rcases this with rfl|rfl|rfl|rfl|rfl|rfl<;>rfl
theorem bG8 (a b:Int)(ha:0≤a∧a≤1000000000000)(hb:0≤b∧b≤65536):tG [a,b]=some (a+b):=by
 unfold tG
 have hl:cv (vB [a,b]) fi (0,0)=some (a+b):=by
  have h:=hO (f:=vB [a,b]) (n:=2) (fun i=>match i with|0=>0|1=>a|_=>a+b) (c:=a+b) (by omega) ?_ ?_
  ·exact h
  ·intro i hi
   match i,hi with
   |0,_=>
    show some (Sum.inl (zH zI 1,zH zI (0+a)))=_;rw[ck (by omega),ck (by omega),bD];rfl
   |1,_=>
    show some (Sum.inl (zH zI 2,zH zI (a+b)))=_;rw[ck (by omega),ck (by omega)];rfl
  ·rfl
 rw[hl];rfl
def cy4 (l:List dR)(op:List (Int×Int)):List (Int×Int):=op.reverse.map fun p=>((l.getD p.1.toNat (0,0,0,0,0)).2.2.2.2,p.2)
theorem tz (l:List dR)(pre:List (Int×Int))(p:Int×Int):cy4 l (pre++[p])=((l.getD p.1.toNat (0,0,0,0,0)).2.2.2.2,p.2)::cy4 l pre:=by
 unfold cy4;rw[List.reverse_append,bZ];rfl
def cB6 (l:List dR)(s:Int×(List Int)×(List Int)×List (Int×Int)):Prop:=
 ∃(i:Nat) (sz rd:List Int) (op:List (Int×Int)),i≤l.length∧s=((i:Int),sz,rd,op)∧sz.length=l.length∧rd.length=l.length∧op≠[]∧op.length≤i+1∧(∀p∈op,0≤p.1∧p.1<max (l.length:Int) 1∧0≤p.2∧p.2≤65537*i)∧
  dn (l.drop i) (op.length-1)=some 0∧oj (l.drop i) (cy4 l op)=oj l [((l.getD 0 (0,0,0,0,0)).2.2.2.2,0)]
theorem bT1 {l:List dR}{i:Nat}(h:i<l.length):l.getD i (0,0,0,0,0)=l[i]:=by
 rw[List.getD_eq_getElem?_getD,aD h];rfl
theorem bt7 {l:List dR}(hl:l.length≤100000)(hv: ∀o∈l,0≤o.2.2.2.2∧o.2.2.2.2≤18446744073709551615)(s:Int×(List Int)×(List Int)×List (Int×Int))(h:cB6 l s):
  (∃b,dL l s=some (.inl b)∧cB6 l b∧l.length-b.1.toNat<l.length-s.1.toNat)∨
  ∃c,dL l s=some (.inr c)∧((c.1=9∧oj l [((l.getD 0 (0,0,0,0,0)).2.2.2.2,0)]=none)∨(c.1=0∧∃p:Int×Int,c.2.2.2=[p]∧0≤p.2∧oj l [((l.getD 0 (0,0,0,0,0)).2.2.2.2,0)]=some [((l.getD p.1.toNat (0,0,0,0,0)).2.2.2.2,p.2)])):=by
 obtain⟨i,sz,rds,op,hi,rfl,hsz,hrd,hne,hol,hop,hsc,hrun⟩:=h;obtain⟨pre,⟨at',w⟩,rfl⟩: ∃pre x,op=pre++[x]:=⟨op.dropLast,op.getLast hne,(cO hne).symm⟩
 have hlast:=hop (at',w) (by simp);simp only at hlast;have hlen:(pre++[(at',w)]).length=pre.length+1:=by simp
 rw[hlen]at hol hsc;rw[dE]at hsc
 have hget:(pre++[(at',w)])[pre.length]?=some (at',w):=by
  rw[bB (aB _),aX];rfl
 by_cases c:i<l.length
 ·have hdrop:l.drop i=l[i]::l.drop (i+1):=(bJ c).symm;have hlv:=hv _ (bF c);have hDi:l.getD i (0,0,0,0,0)=l[i]:=bT1 c;rw[hdrop]at hsc hrun;rw[tz]at hrun;simp only[dL];rw[zB (show(i:Int)<(l.length:Int)by omega),zC,eE c];simp only[zG];generalize hx:l[i]=x at*;simp only[dn]at hsc;simp only[oj]at hrun
  have hk: ¬(x.1<0∨7<x.1):=by
   intro hk;rw[zE hk]at hsc;cases hsc
  rw[zF hk]at hsc;rw[hlen,ck (n:=((pre.length+1:Nat):Int)-1) (by omega),show((pre.length+1:Nat):Int)-1=(pre.length:Int)by omega,dp (show pre.length<pre.length+1 by omega)];simp only[zG];by_cases k7:x.1=7
  ·rw[zF (by omega),zE k7]at hsc;rw[zE k7]at hrun;rw[zB k7,zC,dq (by omega) (by omega),ck (n:=(i:Int)+1) (by omega)];refine .inl ⟨_,rfl,⟨i+1,sz,rds,pre++[(at',w)]++[((i:Int),0)],c,rfl,hsz,hrd,by simp,by simp;omega,fun p hp=> ?_, ?_, ?_⟩,by simp;omega⟩
   ·rcases List.mem_append.1 hp with hp|hp
    ·have:=hop p hp;omega
    ·simp at hp;subst hp;simp only;omega
   ·rw[bC,hlen];exact hsc
   ·rw[tz,tz];simp only[cX];rw[hDi];exact hrun
  ·rw[zF k7]at hrun;rw[zA k7,zD];by_cases kz:x.1=0
   ·rw[zE kz]at hsc hrun;rw[zB kz,zC]
    have hp0:pre.length≠0:=by
     intro e;rw[zE e]at hsc;cases hsc
    rw[zF hp0]at hsc
    obtain⟨pre2,⟨at2,w2⟩,rfl⟩: ∃pre2 x,pre=pre2++[x]:=by
     have hne2:pre≠[]:=by intro e;subst e;exact hp0 rfl
     exact⟨pre.dropLast,pre.getLast hne2,(cO hne2).symm⟩
    have hl2:(pre2++[(at2,w2)]).length=pre2.length+1:=by simp
    have hlast2:=hop (at2,w2) (by simp);simp only at hlast2;obtain⟨an,rfl⟩:=cW hlast.1;have han:an<l.length:=by omega
    rw[hget];simp only[zG];rw[eE han];simp only[zG];have hvv:=hv _ (bF han);rw[aY1 ⟨hlast.2.2.1,by omega⟩ hvv];simp only[zG];rw[tz]at hrun;simp only[cX]at hrun;rw[bT1 han]at hrun;cases hb:uS w l[an].2.2.2.2 with
    |none=>
     rw[hb]at hrun;simp only[Bool.not_false,zC];exact .inr ⟨_,rfl, .inl ⟨rfl,hrun.symm⟩⟩
    |some n=>
     rw[hb]at hrun;have hn:=au9 hlast.2.2.1 hvv.1 hb;simp only[bQ,zD];rw[dp (show an<sz.length by omega)];simp only[zG];rw[aD (show an<sz.length by omega)];simp only[zG];rw[dp (show an<rds.length by omega)];simp only[zG];rw[aD (show an<rds.length by omega)];simp only[zG];rw[il (by omega),dN];have e1:((pre2++[(at2,w2)]).length:Int).toNat-0=pre2.length+1:=by rw[hl2];omega
     rw[e1,ck (n:=((pre2.length+1:Nat):Int)-1) (by omega),show((pre2.length+1:Nat):Int)-1=(pre2.length:Int)by omega,dp (show pre2.length<pre2.length+1 by omega)];simp only[zG,bI]
     have hg2:(pre2++[(at2,w2)]++[((an:Int),w)])[pre2.length]?=some (at2,w2):=by
      rw[bA,bB (aB _),aX];rfl
     rw[hg2];simp only[zG];rw[bG8 _ _ (by omega) hn];simp only[zG]
     have htk:((pre2++[(at2,w2)]++[((an:Int),w)]).set pre2.length (at2,w2+n)).take (pre2.length+1)=pre2++[(at2,w2+n)]:=by
      rw[bA,cB _ _ (aB _),aX];show(pre2++[(at2,w2+n),((an:Int),w)]).take (pre2.length+1)=_;rw[show [(at2,w2+n),((an:Int),w)]=[(at2,w2+n)]++[((an:Int),w)]from rfl,←bA,cD];simp
     rw[htk,ck (n:=(i:Int)+1) (by omega)];refine .inl ⟨_,rfl,⟨i+1,_,_,pre2++[(at2,w2+n)],c,rfl,by simp[hsz],by simp[hrd],by simp,by simp;omega,fun p hp=> ?_, ?_, ?_⟩,by simp;omega⟩
     ·rcases List.mem_append.1 hp with hp|hp
      ·have:=hop p (by simp[hp]);omega
      ·simp at hp;subst hp;simp only;omega
     ·rw[hl2]at hsc;rw[bC];exact hsc
     ·rw[tz];exact hrun
   ·rw[zF kz]at hsc hrun;rw[zF k7]at hsc;rw[zA kz,zD,an5 (by omega)];simp only[zG,zC];rw[dp (show i<sz.length by omega)];simp only[zG];rw[aD (show i<sz.length by omega)];simp only[zG];rw[hget];simp only[zG];rw[ck (n:=w+1) (by omega),ck (n:=(i:Int)+1) (by omega)]
    have hset:(pre++[(at',w)]).set pre.length (at',w+1)=pre++[(at',w+1)]:=by
     rw[cB _ _ (aB _),aX];rfl
    rw[hset];refine .inl ⟨_,rfl,⟨i+1,_,rds,pre++[(at',w+1)],c,rfl,by simp[hsz],hrd,by simp,by simp;omega,fun p hp=> ?_, ?_, ?_⟩,by simp;omega⟩
    ·rcases List.mem_append.1 hp with hp|hp
     ·have:=hop p (by simp[hp]);omega
     ·simp at hp;subst hp;simp only;omega
    ·rw[bC];exact hsc
    ·rw[tz];exact hrun
 ·have hi':i=l.length:=by omega
  subst hi';rw[bN]at hsc hrun;simp only[dL];rw[zA (show¬(l.length:Int)<(l.length:Int)by omega),zD]
  have hp:pre=[]:=by
   have hsc:some pre.length=some 0:=hsc;injection hsc with hsc
   exact List.length_eq_zero_iff.1 hsc
  subst hp;refine .inr ⟨_,rfl, .inr ⟨rfl,(at',w),rfl,hlast.2.2.1, ?_⟩⟩;rw[←hrun];rfl
def Q9 (l:List dR):Option Int:=(oj l [((l.getD 0 (0,0,0,0,0)).2.2.2.2,0)]).bind fun st=>match st with
 |[p]=>some p.2
 |_=>none
def ej (l:List dR):Int×Int:=if dn l 0=some 0 then(match Q9 l with
 |some w=>if 65536<w then(0,9)else(w,0)
 |none=>(0,9))else(0,6)
theorem rN {l:List dR}(hl:l.length≤100000)(hv: ∀o∈l,0≤o.2.2.2.2∧o.2.2.2.2≤18446744073709551615):fD l=some (ej l):=by
 unfold fD iR;obtain⟨m,hm⟩:=yr (l:=l) (by omega);rw[hm];unfold ej;by_cases hs:dn l 0=some 0
 ·simp only[zE hs];simp only[zG];rw[zA (by simp),zD];rw[zB (show(0:Int)≤(l.length:Int)by omega),zB (show(l.length:Int)≤(l.length:Int)by omega),zB (show 8*(l.length:Int)≤140737488355328 by omega)];have hgd: ∀{β:Type} {y:Option β},gd (cE 1 (Sh.w (.int .i64))&&true&&true&&true&&Nat.ble 1 8) y=y:=fun {β y}=>rfl
  rw[hgd,hgd]
  obtain⟨c,hc,h⟩:=mH (f:=dL l) (a:=((0:Int),aW ((l.length:Int)).toNat (0:Int),aW ((l.length:Int)).toNat (0:Int),[((0:Int),(0:Int))])) (cB6 l) (fun s=>l.length-s.1.toNat) _
   ⟨0,_,_,[(0,0)],bK _,rfl,by simp,by simp,by simp,by simp,(fun p hp=>by simp at hp;subst hp;simp only;omega),hs,rfl⟩ (by simp;omega) (fun s h=>bt7 hl hv s h)
  rw[hc];simp only[zG];unfold Q9;rcases h with⟨h1,h2⟩|⟨h1,p,h3,h4,h5⟩
  ·rw[h1,h2];rfl
  ·rw[h1,h5,h3];show((((cond (decide (65536<p.2)) (some (9:Int)) (some 0)).bind fun s36=>cond (decide (s36≠0)) (some ((0:Int),s36,([]:List Int),([]:List Int))) (some (p.2,0,c.2.1,c.2.2.1))).bind fun r1=>some (r1.1,r1.2.1)))=some (if 65536<p.2 then(0,9)else(p.2,0));rw[cr];by_cases c6:65536<p.2
   ·rw[zE c6,zE c6];rfl
   ·rw[zF c6,zF c6];rfl
 ·simp only[zF hs];rfl
theorem wN : ∀(l r:List dR) (st:List (Int×Int)),oj (l++r) st=(oj l st).bind (oj r)
 |[],r,st=>rfl
 |o::l,r,[]=>rfl
 |o::l,r,(v,w)::st=>by
  simp only[bE,oj];split
  ·exact wN l r _
  split
  ·split
   ·exact wN l r _
   ·rfl
  ·exact wN l r _
def bT8 (v w:Int)(base:List (Int×Int)):List (Int×Int)→List (Int×Int)
 |[]=>[]
 |[p]=>(v,w+p.2)::base
 |p::q::r=>p::bT8 v w base (q::r)
theorem bh3 (v w:Int)(base:List (Int×Int))(p:Int×Int): ∀fs:List (Int×Int),bT8 v w base (fs++[p])=fs++(v,w+p.2)::base
 |[]=>rfl
 |[a]=>rfl
 |a::b::r=>by
  show a::bT8 v w base (b::r++[p])=_;rw[bh3 v w base p (b::r)];rfl
theorem oJ (v w:Int)(base:List (Int×Int)): ∀(l:List dR) (fs:List (Int×Int)) (n0:Int) (d':Nat),dn l fs.length=some d'→oj l (fs++(v,w+n0)::base)=(oj l (fs++[(0,n0)])).map (bT8 v w base)
 |[],fs,n0,d',_=>by
  show some _=some _;rw[bh3]
 |o::l,[],n0,d',h=>by
  simp only[dn,List.length_nil]at h;simp only[bH,oj];split at h
  ·cases h
  split at h
  ·rw[zE trivial]at h;cases h
  rename_i c1 c2;split at h
  ·rename_i c3;rw[zE c3,zE c3];exact oJ v w base l [(o.2.2.2.2,0)] n0 d' h
  ·rename_i c3;rw[zF c3,zF c2,zF c3,zF c2,bG];exact oJ v w base l [] (n0+1) d' h
 |o::l,(fv,fw)::fs,n0,d',h=>by
  simp only[dn,aZ]at h;simp only[bE,oj];split at h
  ·cases h
  split at h
  ·rename_i c1 c2;rw[zF (by omega)]at h;rw[zF (by omega),zE c2,zF (by omega),zE c2];cases hb:uS fw fv with
   |none=>rfl
   |some n=>
    cases fs with
    |nil=>
     simp only[bH];rw[bG];exact oJ v w base l [] (n0+n) d' h
    |cons q fs=>
     simp only[bE];exact oJ v w base l ((q.1,q.2+n)::fs) n0 d' h
  rename_i c1 c2;split at h
  ·rename_i c3;rw[zE c3,zE c3];exact oJ v w base l ((o.2.2.2.2,0)::(fv,fw)::fs) n0 d' h
  ·rename_i c3;rw[zF c3,zF c2,zF c3,zF c2];exact oJ v w base l ((fv,fw+1)::fs) n0 d' h
theorem ax9 : ∀(l:List dR) (st st':List (Int×Int)) (d d':Nat),st.length=d+1→dn l d=some d'→oj l st=some st'→st'.length=d'+1
 |[],st,st',d,d',h1,h2,h3=>by
  injection h2 with h2
  injection h3 with h3
  subst h2;subst h3;exact h1
 |o::l,[],st',d,d',h1,_,_=>by simp at h1
 |o::l,(v,w)::st,st',d,d',h1,h2,h3=>by
  simp only[dn]at h2;simp only[oj]at h3;simp only[aZ,Nat.add_right_cancel_iff]at h1;split at h2
  ·cases h2
  split at h2
  ·rename_i c1 c2;split at h2
   ·cases h2
   rw[zF (by omega),zE c2]at h3;split at h3
   ·rename_i c3 _ _ n v' w' st2 _;exact ax9 l _ st' (d-1) d' (by simp at h1⊢;omega) h2 h3
   ·cases h3
  rename_i c1 c2;split at h2
  ·rename_i c3;rw[zE c3]at h3;exact ax9 l _ st' (d+1) d' (by simp;omega) h2 h3
  ·rename_i c3;rw[zF c3,zF c2]at h3;exact ax9 l _ st' d d' (by simp;omega) h2 h3
theorem aM8 : ∀(l:List dR) (st st':List (Int×Int)),(∀o∈l,0≤o.2.2.2.2)→(∀p∈st,0≤p.1∧0≤p.2)→oj l st=some st'→∀p∈st',0≤p.2
 |[],st,st',_,h,h3=>by
  injection h3 with h3
  subst h3;exact fun p hp=>(h p hp).2
 |o::l,[],st',_,_,h3=>by cases h3
 |o::l,(v,w)::st,st',ho,h,h3=>by
  have hvw:=h (v,w) (by simp);have hrest: ∀p∈st,0≤p.1∧0≤p.2:=fun p hp=>h p (by simp[hp])
  have hol: ∀o'∈l,0≤o'.2.2.2.2:=fun o' ho'=>ho o' (by simp[ho'])
  simp only at hvw;simp only[oj]at h3;split at h3
  ·refine aM8 l _ st' hol (fun p hp=> ?_) h3;rcases List.mem_cons.1 hp with rfl|hp
   ·exact⟨ho o (by simp),bS _⟩
   ·exact h p hp
  split at h3
  ·split at h3
   ·rename_i n v' w' st2 hb;have hn:=au9 hvw.2 hvw.1 hb;refine aM8 l _ st' hol (fun p hp=> ?_) h3;rcases List.mem_cons.1 hp with rfl|hp
    ·have:=hrest (v',w') (by simp);simp only at this⊢;omega
    ·exact hrest p (by simp[hp])
   ·cases h3
  ·refine aM8 l _ st' hol (fun p hp=> ?_) h3;rcases List.mem_cons.1 hp with rfl|hp
   ·simp only;omega
   ·exact h p (by simp[hp])
theorem ao7 {l:List dR}(h:dn l 0=some 0)(v w:Int)(base:List (Int×Int)):oj l ((v,w)::base)=(Q9 l).map fun m=>(v,w+m)::base:=by
 have h1:=oJ v w base l [] 0 0 h;rw[bH,bH,bR]at h1;have h2:=oJ ((l.getD 0 (0,0,0,0,0)).2.2.2.2) 0 [] l [] 0 0 h;rw[bH,bH,bR]at h2;unfold Q9;rw[h1,h2];cases hr:oj l [(0,0)]with
 |none=>rfl
 |some st=>
  have hl:=ax9 l _ st 0 0 rfl h hr
  match st,hl with
  |[p],_=>
   show some ((v,w+p.2)::base)=some ((v,w+(0+p.2))::base);rw[bD]
theorem aE8 {l:List dR}(hv: ∀o∈l,0≤o.2.2.2.2){m:Int}(h:dn l 0=some 0)(hq:Q9 l=some m):0≤m:=by
 have h1:=ao7 h 0 0 [];rw[hq]at h1;have:=aM8 l _ _ hv (fun p hp=>by simp at hp;subst hp;simp) h1 (0,0+m) (by simp);simp only at this;omega
theorem ar1 {l:List dR}(hl:l.length≤100000):mP l=some (decide (dn l 0=some 0)):=by
 unfold mP
 obtain⟨c,hc,h⟩:=mH (f:=rT l) (a:=((0:Int),(0:Int))) (fun s=> ∃i d:Nat,i≤l.length∧d≤i∧s=((i:Int),(d:Int))∧dn (l.drop i) d=dn l 0) (fun s=>l.length-s.1.toNat)
  (fun c=>(c= .inl false∧dn l 0=none)∨∃d:Nat,c= .inr (d:Int)∧dn l 0=some d) ⟨0,0,bK _,aB _,rfl,rfl⟩ (by simp;omega) (by
  rintro _ ⟨i,d,hi,hd,rfl,hs⟩;simp only[rT,cr];by_cases c:i<l.length
  ·rw[(bJ c).symm]at hs;rw[zE (by omega),eE c];simp only[zG];generalize l[i]=x at*;simp only[dn]at hs;by_cases k0:x.1<0
   ·rw[zE (.inl k0)]at hs;rw[zE k0];exact .inr ⟨_,rfl, .inl ⟨rfl,hs.symm⟩⟩
   rw[zF k0];by_cases k7:7<x.1
   ·rw[zE (.inr k7)]at hs;rw[zE k7];exact .inr ⟨_,rfl, .inl ⟨rfl,hs.symm⟩⟩
   rw[zF (by omega)]at hs;rw[zF k7];by_cases kz:x.1=0
   ·rw[zE kz]at hs;rw[zF (by omega)];simp only[zG];rw[zE kz,ck (n:=(d:Int)-1) (by omega),ck (n:=(i:Int)+1) (by omega)];by_cases hd0:d=0
    ·rw[zE hd0]at hs;rw[zE (by omega)];exact .inr ⟨_,rfl, .inl ⟨rfl,hs.symm⟩⟩
    ·rw[zF hd0]at hs;rw[zF (by omega)];exact .inl ⟨_,rfl,⟨i+1,d-1,c,by omega,by rw[show((d-1:Nat):Int)=(d:Int)-1 by omega];rfl,hs⟩,by simp;omega⟩
   ·rw[zF kz]at hs;by_cases k77:x.1=7
    ·rw[zE k77]at hs;rw[zE k77];simp only[zG];rw[zF kz,ck (n:=(d:Int)+1) (by omega),ck (n:=(i:Int)+1) (by omega),zF (by omega)];exact .inl ⟨_,rfl,⟨i+1,d+1,c,by omega,rfl,hs⟩,by simp;omega⟩
    ·rw[zF k77]at hs;rw[zF k77];simp only[zG];rw[zF kz,ck (n:=(i:Int)+1) (by omega),zF (by omega)];exact .inl ⟨_,rfl,⟨i+1,d,c,by omega,rfl,hs⟩,by simp;omega⟩
  ·have:i=l.length:=by omega
   subst this;rw[bN]at hs;rw[zF (by omega)]
   exact .inr ⟨_,rfl, .inr ⟨d,rfl,hs.symm⟩⟩)
 rw[hc];rcases h with⟨rfl,h⟩|⟨d,rfl,h⟩
 ·rw[h];rfl
 ·rw[h];show some (decide ((d:Int)=0))=some (decide (some d=some 0))
  congr 1
  rw[decide_eq_decide];constructor
  ·intro e;have:d=0:=by omega
   rw[this]
  ·intro e;injection e with e;omega
theorem yD : ∀(n:Nat) (s:List dR) (d:Nat),s.length≤n→dn s (d+1)=some 0→∃inner e rest,s=inner++e::rest∧e.1=0∧dn inner 0=some 0∧dn rest d=some 0
 |n,[],d,_,h=>by
  injection h with h
  omega
 |0,o::s,d,hn,_=>by simp at hn
 |n+1,o::s,d,hn,h=>by
  simp only[aZ]at hn;simp only[dn]at h;split at h
  ·cases h
  rename_i c1;split at h
  ·rename_i c2;rw[zF (by omega)]at h;exact⟨[],o,s,rfl,c2,rfl,h⟩
  rename_i c2;split at h
  ·rename_i c3;obtain⟨i1,e1,r1,h1,h2,h3,h4⟩:=yD n s (d+1) (by omega) h;have hlen:r1.length≤n:=by rw[h1]at hn;simp at hn;omega
   obtain⟨i2,e2,r2,h5,h6,h7,h8⟩:=yD n r1 d hlen h4;refine⟨o::i1++e1::i2,e2,r2, ?_,h6, ?_,h8⟩
   ·rw[h1,h5];simp
   ·show dn (o::(i1++e1::i2)) 0=_;simp only[dn];rw[zF c1,zF c2,zE c3,nJ,ay0 _ _ _ h3];show dn (e1::i2) 1=_;simp only[dn];rw[zF (by omega),zE h2,zF (by omega)];exact h7
  ·rename_i c3;obtain⟨i1,e1,r1,h1,h2,h3,h4⟩:=yD n s d (by omega) h;refine⟨o::i1,e1,r1,by rw[h1];rfl,h2, ?_,h4⟩;simp only[dn];rw[zF c1,zF c2,zF c3];exact h3
theorem tj {i1 i2 r1 r2:List dR}{e1 e2:dR}(h:i1++e1::r1=i2++e2::r2)(h1:dn i1 0=some 0)(h2:dn i2 0=some 0)(he1:e1.1=0)(he2:e2.1=0):i1=i2:=by
 have key: ∀{a b:List dR} {e:dR} {x:List dR},a++e::x=b→e.1=0→dn a 0=some 0→dn b 0=some 0→False:=by
  intro a b e x hab he ha hb;rw[←hab,nJ,ha]at hb;have hb:dn (e::x) 0=some 0:=hb;simp only[dn]at hb;rw[zF (by omega),zE he,zE trivial]at hb;cases hb
 rcases List.append_eq_append_iff.1 h with⟨a',h3,h4⟩|⟨a',h3,h4⟩
 ·cases a' with
  |nil=>rw[bT]at h3;exact h3.symm
  |cons q a'=>
   rw[bE]at h4;injection h4 with h4 h5
   subst h4;exact(key h3.symm he1 h1 h2).elim
 ·cases a' with
  |nil=>rw[bT]at h3;exact h3
  |cons q a'=>
   rw[bE]at h4;injection h4 with h4 h5
   subst h4;exact(key h3.symm he2 h2 h1).elim
theorem aR4 {l:List dR}(h:dn l 0=some 0){i:Nat}(hi:i≤l.length): ∃d,dn (l.take i) 0=some d∧dn (l.drop i) d=some 0:=by
 rw[←cC i l,nJ]at h;obtain⟨d,h1,h2⟩:=cm h;exact⟨d,h1,h2⟩
theorem bz6 {l:List dR}(h:dn l 0=some 0){i:Nat}(hi:i<l.length)(hk:l[i].1=7): ∃inner e rest,l.drop (i+1)=inner++e::rest∧e.1=0∧dn inner 0=some 0:=by
 obtain⟨d,_,h2⟩:=aR4 h (i:=i) (by omega);rw[(bJ hi).symm]at h2;simp only[dn]at h2;rw[zF (by omega),zF (by omega),zE hk]at h2;obtain⟨inner,e,rest,h3,h4,h5,_⟩:=yD _ _ d (aB _) h2;exact⟨inner,e,rest,h3,h4,h5⟩
structure MOK (l:List dR)(m:List Int):Prop where
 len:m.length=l.length
 at': ∀i,(hi:i<l.length)→l[i].1=7→∀inner e rest,l.drop (i+1)=inner++e::rest→e.1=0→dn inner 0=some 0→m[i]?=some ((i+1+inner.length:Nat):Int)
theorem cx4 {l:List dR}(hl:l.length≤100000){i:Nat}(hi:i<l.length){inner rest:List dR}{e:dR}(h:l.drop (i+1)=inner++e::rest)(he:e.1=0)(hs:dn inner 0=some 0):cv (jY l) fi (1,(i:Int))=some ((i+1+inner.length:Nat):Int):=by
 have hlen:l.length=i+1+inner.length+1+rest.length:=by
  have:=congrArg bP h;rw[bY]at this;simp at this;omega
 have hget: ∀j,j<inner.length+1→∃x,rd l ((i+1+j:Nat):Int)=some x∧(inner++e::rest)[j]?=some x:=by
  intro j hj;have hlt:i+1+j<l.length:=by omega
  refine⟨l[i+1+j],eE hlt, ?_⟩;rw[←h,bX,aD hlt]
 have hpre: ∀j,j≤inner.length→∃d,dn (inner.take j) 0=some d:=by
  intro j hj;obtain⟨d,h1,_⟩:=aR4 hs hj;exact⟨d,h1⟩
 let hs':Nat→Nat:=fun j=>(dn (inner.take j) 0).getD 0
 have hhs: ∀j,j≤inner.length→dn (inner.take j) 0=some (hs' j):=by
  intro j hj;obtain⟨d,hd⟩:=hpre j hj;show _=some ((dn (inner.take j) 0).getD 0);rw[hd];rfl
 have hle: ∀j,hs' j≤j∨inner.length<j:=by
  intro j;induction j with
  |zero=>exact .inl (aB _)
  |succ j ih=>
   by_cases hj:j+1≤inner.length
   ·left;have h1:=hhs (j+1) hj;rw[cS (show j<inner.length by omega),nJ,hhs j (by omega)]at h1;have h1:dn [inner[j]] (hs' j)=some (hs' (j+1)):=h1;simp only[dn]at h1;split at h1
    ·cases h1
    split at h1
    ·split at h1
     ·cases h1
     ·injection h1 with h1;omega
    split at h1
    ·injection h1 with h1;omega
    ·injection h1 with h1;omega
   ·right;omega
 refine aq5 (f:=jY l) (n:=inner.length+1) (fun j=>if j≤inner.length then((1+hs' j:Nat),((i+j:Nat):Int))else(0,((i+1+inner.length:Nat):Int))) (by omega) (fun j hj=> ?_) ?_
 ·have hb:=hle j;rw[zE (show j≤inner.length by omega)];obtain⟨x,hx1,hx2⟩:=hget j (by omega);simp only[jY,cr];rw[zE (by omega),ck (n:=((i+j:Nat):Int)+1) (by omega),show((i+j:Nat):Int)+1=((i+1+j:Nat):Int)by omega,hx1];simp only[zG];by_cases hj2:j<inner.length
  ·rw[List.getElem?_append_left hj2,aD hj2]at hx2;injection hx2 with hx2
   have h1:=hhs (j+1) hj2;rw[cS hj2,nJ,hhs j (by omega)]at h1;have h1:dn [inner[j]] (hs' j)=some (hs' (j+1)):=h1;rw[hx2]at h1;simp only[dn]at h1;rw[zE (show j+1≤inner.length by omega)];split at h1
   ·cases h1
   split at h1
   ·rename_i k1 k2;split at h1
    ·cases h1
    ·injection h1 with h1
     rw[zF (by omega),zE k2,ck (by omega)]
     congr 3<;>omega
   rename_i k1 k2;split at h1
   ·rename_i k3;injection h1 with h1
    rw[zE k3,zF k2,ck (by omega)]
    congr 3<;>omega
   ·rename_i k3;injection h1 with h1
    rw[zF k3,zF k2]
    congr 3<;>omega
  ·have hje:j=inner.length:=by omega
   subst hje;rw[bB (aB _),aX]at hx2;injection hx2 with hx2
   subst hx2
   have hz:hs' inner.length=0:=by
    have:=hhs inner.length (aB _);rw[List.take_length,hs]at this;injection this with this
    exact this.symm
   rw[zF (by omega),zE he,zF (show¬inner.length+1≤inner.length by omega),hz,ck (by omega)];rfl
 ·rw[zF (by omega)];simp only[jY,cr];rw[zF (by omega)]
theorem bF1 {l:List dR}(hl:l.length≤100000):(dn l 0=some 0∧∃m,nC l=some (0,m)∧MOK l m)∨(dn l 0≠some 0∧nC l=some (6,[])):=by
 unfold nC;rw[ar1 hl];simp only[zG];by_cases hs:dn l 0=some 0
 ·left;refine⟨hs, ?_⟩;rw[zB hs];simp only[bQ,zD]
  have h0:cv (jX l) fi (0,[])=some (aW l.length (-1)):=by
   have h:=hO (f:=jX l) (n:=l.length) (fun i=>aW i (-1:Int)) (c:=aW l.length (-1)) (by omega) ?_ ?_
   ·exact h
   ·intro i hi;simp only[jX,cr];rw[zE (by omega),dq (by simp;omega) (by omega),ck (by omega),dC];rfl
   ·simp only[jX,cr];rw[zF (by omega)]
  rw[h0];simp only[zG]
  obtain⟨c,hc,h⟩:=mH (f:=qs l) (a:=((0:Int),aW l.length (-1:Int))) (fun s=> ∃(i:Nat) (out:List Int),i≤l.length∧s=((i:Int),out)∧out.length=l.length∧∀j,j<i→(hj:j<l.length)→l[j].1=7→∀inner e rest,l.drop (j+1)=inner++e::rest→e.1=0→dn inner 0=some 0→out[j]?=some ((j+1+inner.length:Nat):Int)) (fun s=>l.length-s.1.toNat)
   (fun c=>MOK l c) ⟨0,_,bK _,rfl,by simp,fun j hj=>by omega⟩ (by simp;omega) (by
   rintro _ ⟨i,out,hi,rfl,ho,hout⟩;simp only[qs,cr];by_cases c:i<l.length
   ·rw[zE (by omega),eE c];simp only[zG];by_cases hk:l[i].1=7
    ·obtain⟨inner,e,rest,h1,h2,h3⟩:=bz6 hs c hk
     have hlen:l.length=i+1+inner.length+1+rest.length:=by
      have:=congrArg bP h1;rw[bY]at this;simp at this;omega
     rw[zF (by simp[hk]),cx4 hl c h1 h2 h3];simp only[zG];rw[dp (show i<out.length by omega)];simp only[zG];rw[aD (show i<out.length by omega)];simp only[zG];rw[dp (show i+1+inner.length<(out.set i ((i+1+inner.length:Nat):Int)).length by simp;omega)];simp only[zG];rw[aD (show i+1+inner.length<(out.set i ((i+1+inner.length:Nat):Int)).length by simp;omega)];simp only[zG];rw[ck (n:=(i:Int)+1) (by omega)];refine .inl ⟨_,rfl,⟨i+1,_,c,rfl,by simp[ho],fun j hj hjl hjk inner' e' rest' q1 q2 q3=> ?_⟩,by simp;omega⟩
     have hke:l[i+1+inner.length].1=0:=by
      have h4:(l.drop (i+1))[inner.length]?=some e:=by
       rw[h1,bB (aB _),aX];rfl
      rw[bX,aD (show i+1+inner.length<l.length by omega)]at h4;injection h4 with h4
      rw[h4];exact h2
     have hne:i+1+inner.length≠j:=by
      intro e4;subst e4;rw[hke]at hjk;cases hjk
     rw[aY hne];by_cases hji:i=j
     ·subst hji;have:=tj (h1.symm.trans q1) h3 q3 h2 q2;subst this;rw[bO (by omega)]
     ·rw[aY hji];exact hout j (by omega) hjl hjk inner' e' rest' q1 q2 q3
    ·rw[zE hk,ck (n:=(i:Int)+1) (by omega)];refine .inl ⟨_,rfl,⟨i+1,out,c,rfl,ho,fun j hj hjl hjk=> ?_⟩,by simp;omega⟩;by_cases hji:j=i
     ·subst hji;exact(hk hjk).elim
     ·exact hout j (by omega) hjl hjk
   ·have:i=l.length:=by omega
    subst this;rw[zF (by omega)]
    exact .inr ⟨_,rfl,ho,fun j hj hjk=>hout j hj hj hjk⟩)
  rw[hc];exact⟨c,rfl,h⟩
 ·right;refine⟨hs, ?_⟩;rw[zA hs];rfl
theorem bU2 {α β:Type}{f:α→β}(hf: ∀a b,f a=f b→a=b){x y:Option α}(h:x.map f=y.map f):x=y:=by
 cases x with
 |none=>cases y with
  |none=>rfl
  |some b=>cases h
 |some a=>cases y with
  |none=>cases h
  |some b=>
   injection h with h
   rw[hf _ _ h]
theorem bD9 (v c:Int)(base:List (Int×Int)): ∀a b:Int,(v,c+a)::base=(v,c+b)::base→a=b:=by
 intro a b h;injection h with h
 injection h with _ h
 omega
theorem bf0 {o:dR}{s:List dR}(h:dn (o::s) 0=some 0)(hk:o.1≠7):dn s 0=some 0∧(0<o.1∧o.1<7)∧Q9 (o::s)=(Q9 s).map (1+ ·):=by
 have h1:=ao7 h 0 0 [];simp only[dn]at h;split at h
 ·cases h
 rename_i c1;split at h
 ·rw[zE trivial]at h;cases h
 rename_i c2;refine⟨h,by omega,bU2 (bD9 0 0 []) ?_⟩;rw[←h1];simp only[oj];rw[zF hk,zF c2,ao7 h];cases Q9 s with
 |none=>rfl
 |some m=>
  show some [((0:Int),0+1+m)]=some [((0:Int),0+(1+m))];rw[bG]
theorem bn4 {o e:dR}{inner rest:List dR}(h:dn (o::(inner++e::rest)) 0=some 0)(hk:o.1=7)(he:e.1=0)(hi:dn inner 0=some 0):
  dn rest 0=some 0∧Q9 (o::(inner++e::rest))=(Q9 inner).bind fun w=>(uS w o.2.2.2.2).bind fun b=>(Q9 rest).map (b+ ·):=by
 have h1:=ao7 h 0 0 [];simp only[dn]at h;rw[zF (by omega),zF (by omega),zE hk,nJ,ay0 _ _ _ hi]at h;have h:dn (e::rest) 1=some 0:=h;simp only[dn]at h;rw[zF (by omega),zE he,zF (by omega)]at h;have h:dn rest 0=some 0:=h;refine⟨h,bU2 (bD9 0 0 []) ?_⟩;rw[←h1];simp only[oj];rw[zE hk,wN,ao7 hi];cases Q9 inner with
 |none=>rfl
 |some w=>
  show oj (e::rest) [(o.2.2.2.2,0+w),(0,0)]=_;simp only[oj];rw[zF (by omega),zE he,bD];simp only[zG];cases uS w o.2.2.2.2 with
  |none=>rfl
  |some b=>
   simp only[zG];rw[ao7 h];cases Q9 rest with
   |none=>rfl
   |some m=>
    show some [((0:Int),0+b+m)]=some [((0:Int),0+(b+m))];rw[bG]
theorem bO1 {k:Int}(h:0<k∧k<7): ∃x,jm k=some (true,x):=by
 have:k=1∨k=2∨k=3∨k=4∨k=5∨k=6:=by omega
 rcases this with rfl|rfl|rfl|rfl|rfl|rfl<;>exact⟨_,rfl⟩
def aD2 (t:Int):Int:=if 65536<t then 65537 else t
def bY0 (w v:Int):Int:=if aD2 w=0 then 0 else if v=0 then 0 else if 65536<v then 65537 else if 65536<aD2 w*v then 65537 else aD2 w*v
theorem aS6 {w v b:Int}(hw:0≤w)(hv:0≤v)(h:uS w v=some b):bY0 w v=b∧w≤65536:=by
 unfold uS at h;unfold bY0;split at h
 ·rename_i c1;injection h with h
  subst h;subst c1;exact⟨by rw[zE (show aD2 0=0 from rfl)],by omega⟩
 split at h
 ·cases h
 split at h
 ·cases h
 rename_i c1 c2 c3;injection h with h
 have hs:aD2 w=w:=zF c2;rw[hs,zF c1];have hd:65536 / w≤65536:=cH _ (by omega);have h4:v≤65536 / w:=by omega
 have h5:=cK h4 hw;have h6:=cJ (x:=65536) (k:=w) c1;refine⟨?_,by omega⟩;by_cases c4:v=0
 ·rw[zE c4,←h,c4,Int.mul_zero]
 ·rw[zF c4,zF (by omega),zF (by omega),h]
theorem cg3 {w v:Int}(hw:0≤w)(hv:0≤v)(h:uS w v=none):65536<w∨bY0 w v=65537:=by
 unfold uS at h;split at h
 ·cases h
 rename_i c1;split at h
 ·rename_i c2;exact .inl c2
 rename_i c2;split at h
 ·rename_i c3;right;unfold bY0;have hs:aD2 w=w:=zF c2;have hlt:=Int.lt_mul_of_ediv_lt (show 0<w by omega) c3;rw[Int.mul_comm]at hlt;have hd:0≤65536 / w:=cI (by omega) hw;rw[hs,zF c1,zF (by omega)];by_cases c4:65536<v
  ·rw[zE c4]
  ·rw[zF c4,zE hlt]
 ·cases h
def WOK (l:List dR)(m:List Int)(N:Nat):Prop:= ∀f,2*N<f→∀A seg B,l=A++seg++B→seg.length<N→dn seg 0=some 0→
 ∃r,(dk f).1 l m (A.length:Int) ((A.length+seg.length:Nat):Int)=some r∧0≤r∧r≤65537∧∀t,Q9 seg=some t→r=aD2 t
section
variable {l:List dR} {m:List Int}
theorem bz7 (hl:l.length≤1000)(hv: ∀o∈l,0≤o.2.2.2.2∧o.2.2.2.2≤18446744073709551615)(hm:MOK l m){N:Nat}(h:WOK l m N){f:Nat}(hf:2*N+1<f){i:Nat}(hi:i<l.length)(hk:l[i].1=7){inner rest:List dR}{e:dR}(hd:l.drop (i+1)=inner++e::rest)(he:e.1=0)(hs:dn inner 0=some 0)(hN:inner.length<N):
  ∃r,(dk f).2 l m (i:Int)=some r∧0≤r∧r≤65537∧∀w,Q9 inner=some w→r=bY0 w l[i].2.2.2.2:=by
 obtain⟨g,rfl⟩: ∃g,f=g+1:=⟨f-1,by omega⟩
 have hlen:l.length=i+1+inner.length+1+rest.length:=by
  have:=congrArg bP hd;rw[bY]at this;simp at this;omega
 have hmi:=hm.at' i hi hk inner e rest hd he hs
 have hsplit:l=l.take (i+1)++inner++e::rest:=by
  rw[bA,←hd,cC]
 have hA:(l.take (i+1)).length=i+1:=by rw[cP];omega
 obtain⟨r4,h1,h2,h3,h4⟩:=h g (by omega) (l.take (i+1)) inner (e::rest) hsplit hN hs;rw[hA]at h1
 have hrd:rd m (i:Int)=some ((i+1+inner.length:Nat):Int):=by
  have hlt:i<m.length:=by rw[hm.len];exact hi
  rw[eE hlt,←hmi,aD hlt]
 have hvi:=hv _ (bF hi);show∃r,vp ((dk g).1) ((dk g).2) l m i=some r∧_
 unfold vp;rw[hrd];simp only[zG];rw[ck (n:=(i:Int)+1) (by omega),show(i:Int)+1=((i+1:Nat):Int)by omega,h1];simp only[zG,cr];rw[eE hi];simp only[zG];generalize l[i].2.2.2.2=v at*
 have hval:(if r4=0 then some 0 else if v=0 then some 0 else if 65536<v then some 65537 else if 65536<IntKind.i64.wrap (r4*zH zI v)then some 65537 else some (zH zI (r4*zH zI v)))=
   some (if r4=0 then 0 else if v=0 then 0 else if 65536<v then 65537 else if 65536<r4*v then 65537 else r4*v):=by
  split
  ·rfl
  split
  ·rfl
  split
  ·rfl
  rename_i c1 c2 c3;have h5:=Int.mul_le_mul h3 (show v≤65536 by omega) hvi.1 (by omega);have h6:=bM h2 hvi.1;rw[ck (n:=v) (by omega),ck (by omega)];split<;>rfl
 rw[hval];refine⟨_,rfl, ?_, ?_,fun w hw=> ?_⟩
 ·split
  ·omega
  split
  ·omega
  split
  ·omega
  split
  ·omega
  ·exact bM h2 hvi.1
 ·split
  ·omega
  split
  ·omega
  split
  ·omega
  split<;>omega
 ·rw[h4 w hw];rfl
theorem ah0 (hl:l.length≤1000)(hv: ∀o∈l,0≤o.2.2.2.2∧o.2.2.2.2≤18446744073709551615)(hm:MOK l m){N:Nat}(h:WOK l m N){g:Nat}(hg:2*N+1<g)(hi:Nat): ∀(k:Nat) (pre seg B:List dR) (n:Int) (fu:Nat),l=pre++seg++B→seg.length≤k→seg.length≤N→seg.length<fu→dn seg 0=some 0→hi=pre.length+seg.length→0≤n∧n≤65536→
  ∃c,cv (lV ((dk g).2) l m hi) fu ((pre.length:Int),n)=some c∧(c= .inl ()∨∃r,c= .inr r∧0≤r∧r≤65536)∧∀t,Q9 seg=some t→c=if 65536<n+t then .inl ()else .inr (n+t)
 |k,pre,[],B,n,0,_,_,_,hfu,_,_,_=>by simp at hfu
 |k,pre,[],B,n,fu+1,hsplit,_,_,_,hs,hh,hn=>by
  refine⟨.inr n, ?_, .inr ⟨n,rfl,hn⟩,fun t ht=> ?_⟩
  ·rw[dP];simp only[lV,cr];rw[zF (by simp at hh;omega)];rfl
  ·injection ht with ht
   subst ht;rw[bR,zF (by omega)]
 |0,pre,o::seg,B,n,fu,_,hk,_,_,_,_,_=>by simp at hk
 |k+1,pre,o::seg,B,n,0,_,_,_,hfu,_,_,_=>by simp at hfu
 |k+1,pre,o::seg,B,n,fu+1,hsplit,hk,hN,hfu,hs,hh,hn=>by
  simp only[aZ]at hk hN hfu hh;have hlen:l.length=pre.length+(seg.length+1)+B.length:=by rw[hsplit];simp;omega
  have hlt:pre.length<l.length:=by omega
  have hget:l[pre.length]=o:=by
   have:l[pre.length]?=some o:=by
    rw[hsplit,bA,bB (aB _),aX];rfl
   rw[aD hlt]at this;injection this
  have hov:0≤o.2.2.2.2∧o.2.2.2.2≤18446744073709551615:=by rw[←hget];exact hv _ (bF hlt)
  rw[dP];simp only[lV,cr];rw[zE (by omega),eE hlt,hget];simp only[zG];by_cases hk7:o.1=7
  ·
   rw[zE hk7]
   have hs1:dn seg 1=some 0:=by
    simp only[dn]at hs;rw[zF (by omega),zF (by omega),zE hk7]at hs;exact hs
   obtain⟨inner,e,rest,h1,h2,h3,h4⟩:=yD _ seg 0 (aB _) hs1;subst h1;simp only[bC,aZ]at hk hN hfu hh hlen
   have hd:l.drop (pre.length+1)=inner++e::(rest++B):=by
    rw[hsplit,bA,bU,bV (by omega),show pre.length+1-pre.length=1 by omega];simp
   obtain⟨r9,b1,b2,b3,b4⟩:=bz7 hl hv hm h hg hlt (by rw[hget];exact hk7) hd h2 h3 (by omega);rw[hget]at b4;rw[b1];simp only[zG];have hmi:=hm.at' pre.length hlt (by rw[hget];exact hk7) inner e (rest++B) hd h2 h3
   have hrd:rd m (pre.length:Int)=some ((pre.length+1+inner.length:Nat):Int):=by
    have hlt':pre.length<m.length:=by rw[hm.len];exact hlt
    rw[eE hlt',←hmi,aD hlt']
   rw[hrd];simp only[zG];rw[ck (n:=n+r9) (by omega),ck (n:=((pre.length+1+inner.length:Nat):Int)+1) (by omega)];obtain⟨hsr,hQ⟩:=bn4 hs hk7 h2 h3;by_cases c1:65536<n+r9
   ·rw[zE c1];refine⟨.inl (),rfl, .inl rfl,fun t ht=> ?_⟩;rw[hQ]at ht;obtain⟨w,hw,ht⟩:=cm ht;obtain⟨b,hb,ht⟩:=cm ht;have hw0:=aE8 (l:=inner) (fun o' ho'=>(hv o' (by rw[hsplit];simp[ho'])).1) h3 hw;obtain⟨e1,_⟩:=aS6 hw0 hov.1 hb;rw[b4 w hw,e1]at c1;cases hqr:Q9 rest with
    |none=>rw[hqr]at ht;cases ht
    |some tr=>
     rw[hqr]at ht;injection ht with ht
     have ht:b+tr=t:=ht;have:=aE8 (l:=rest) (fun o' ho'=>(hv o' (by rw[hsplit];simp[ho'])).1) hsr hqr;rw[zE (by omega)]
   ·rw[zF c1];simp only[zG,dJ];have hp:(pre++o::(inner++[e])).length=pre.length+1+inner.length+1:=by simp;omega
    obtain⟨c,d1,d2,d3⟩:=ah0 hl hv hm h hg hi k (pre++o::(inner++[e])) rest B (n+r9) fu (by rw[hsplit];simp) (by omega) (by omega) (by omega) hsr (by rw[hp];omega) (by omega);rw[hp]at d1;refine⟨c,by rw[show((pre.length+1+inner.length:Nat):Int)+1=((pre.length+1+inner.length+1:Nat):Int)by omega];exact d1,d2,fun t ht=> ?_⟩;rw[hQ]at ht;obtain⟨w,hw,ht⟩:=cm ht;obtain⟨b,hb,ht⟩:=cm ht;have hw0:=aE8 (l:=inner) (fun o' ho'=>(hv o' (by rw[hsplit];simp[ho'])).1) h3 hw;obtain⟨e1,_⟩:=aS6 hw0 hov.1 hb;have hr9:r9=b:=by rw[b4 w hw,e1]
    cases hqr:Q9 rest with
    |none=>rw[hqr]at ht;cases ht
    |some tr=>
     rw[hqr]at ht;injection ht with ht
     have:=d3 tr hqr;rw[this,←ht,hr9,bG]
  ·rw[zF hk7];obtain⟨hsr,hko,hQ⟩:=bf0 hs hk7;obtain⟨x,hx⟩:=bO1 hko;rw[hx];simp only[zG,zC];rw[ck (n:=n+1) (by omega),ck (n:=(pre.length:Int)+1) (by omega)];by_cases c1:65536<n+1
   ·rw[zE c1];refine⟨.inl (),rfl, .inl rfl,fun t ht=> ?_⟩;rw[hQ]at ht;cases hqr:Q9 seg with
    |none=>rw[hqr]at ht;cases ht
    |some tr=>
     rw[hqr]at ht;injection ht with ht
     have ht:1+tr=t:=ht;have:=aE8 (l:=seg) (fun o' ho'=>(hv o' (by rw[hsplit];simp[ho'])).1) hsr hqr;rw[zE (by omega)]
   ·rw[zF c1];simp only[zG,dJ];have hp:(pre++[o]).length=pre.length+1:=by simp
    obtain⟨c,d1,d2,d3⟩:=ah0 hl hv hm h hg hi k (pre++[o]) seg B (n+1) fu (by rw[hsplit];simp) (by omega) (by omega) (by omega) hsr (by rw[hp];omega) (by omega);rw[hp]at d1;refine⟨c,d1,d2,fun t ht=> ?_⟩;rw[hQ]at ht;cases hqr:Q9 seg with
    |none=>rw[hqr]at ht;cases ht
    |some tr=>
     rw[hqr]at ht;injection ht with ht
     rw[d3 tr hqr,←ht,bG]
theorem wok (hl:l.length≤1000)(hv: ∀o∈l,0≤o.2.2.2.2∧o.2.2.2.2≤18446744073709551615)(hm:MOK l m): ∀N,WOK l m N
 |0=>fun _ _ _ _ _ _ h=>absurd h (Nat.not_lt_zero _)
 |N+1=>fun f hf A seg B hs0 hN hs=>by
  obtain⟨g,rfl⟩: ∃g,f=g+1:=⟨f-1,by omega⟩
  show∃r,tB ((dk g).1) ((dk g).2) l m _ _=some r∧_
  unfold tB
  have hsl:seg.length≤1000:=by
   have:=congrArg bP hs0;simp at this;omega
  obtain⟨c,h1,h2,h3⟩:=ah0 hl hv hm (wok hl hv hm N) (g:=g) (by omega) (A.length+seg.length) _ A seg B 0 fi hs0 (aB _) (by omega) (by unfold fi;omega) hs rfl (by omega);rw[h1];simp only[zG];rcases h2 with rfl|⟨r,rfl,h4,h5⟩
  ·refine⟨65537,rfl,by omega,by omega,fun t ht=> ?_⟩;have:=h3 t ht;rw[bD]at this;unfold aD2;split at this
   ·rename_i c;rw[zE c]
   ·cases this
  ·refine⟨r,rfl,h4,by omega,fun t ht=> ?_⟩;have:=h3 t ht;rw[bD]at this;unfold aD2;split at this
   ·cases this
   ·rename_i c;injection this with this
    rw[zF c,this]
end
theorem bC4 {δ:Type}{f:Int→Option (Int⊕δ)}(n:Nat)(hn:n<9223372036854775808)(stop:Nat→Prop)(c e:δ)
  (hs: ∀i:Nat,i<n→¬stop i→f (i:Int)=some (.inl ((i+1:Nat):Int))) (hx: ∀i:Nat,i<n→stop i→f (i:Int)=some (.inr c)) (he:f (n:Int)=some (.inr e)):
  (∃i,i<n∧stop i∧(∀j,j<i→¬stop j)∧cv f fi 0=some c)∨((∀j,j<n→¬stop j)∧cv f fi 0=some e):=by
 by_cases h: ∃i,i<n∧stop i
 ·obtain⟨i,h1,h2⟩:=h
  have hex: ∃i,i<n∧stop i∧∀j,j<i→¬stop j:=by
   induction i using Nat.strongRecOn with
   |ind i ih=>
    by_cases hj: ∃j,j<i∧stop j
    ·obtain⟨j,h3,h4⟩:=hj;exact ih j h3 (by omega) h4
    ·exact⟨i,h1,h2,fun j h h3=>hj ⟨j,h,h3⟩⟩
  obtain⟨i,h1,h2,h3⟩:=hex;exact .inl ⟨i,h1,h2,h3,oI (n:=i) (by omega) (fun j hj=>hs j (by omega) (h3 j hj)) (hx i h1 h2)⟩
 ·have h': ∀j,j<n→¬stop j:=fun j h1 h2=>h ⟨j,h1,h2⟩
  exact .inr ⟨h',oI (n:=n) hn (fun j hj=>hs j hj (h' j hj)) he⟩
theorem cs6 {seg pre inner rest:List dR}{o e:dR}{t:Int}(hq:Q9 seg=some t)(hs:seg=pre++o::(inner++e::rest))(ho:o.1=7)(he:e.1=0)(hi:dn inner 0=some 0):
  ∃w b,Q9 inner=some w∧uS w o.2.2.2.2=some b:=by
 unfold Q9 at hq;rw[hs,wN]at hq;obtain⟨st,h1,h2⟩:=cm hq;obtain⟨st1,h3,h4⟩:=cm h1;cases st1 with
 |nil=>simp[oj]at h4
 |cons p st1=>
  simp only[oj]at h4;rw[zE ho,wN,ao7 hi]at h4;cases hw:Q9 inner with
  |none=>rw[hw]at h4;cases h4
  |some w=>
   rw[hw]at h4;have h4:oj (e::rest) ((o.2.2.2.2,0+w)::(p.1,p.2)::st1)=some st:=h4;simp only[oj]at h4;rw[zF (by omega),zE he,bD]at h4;cases hb:uS w o.2.2.2.2 with
   |none=>rw[hb]at h4;cases h4
   |some b=>exact⟨w,b,rfl,hb⟩
theorem bq7 : ∀(n:Nat) (seg:List dR),seg.length≤n→dn seg 0=some 0→Q9 seg=none→∃pre o inner e rest w,seg=pre++o::(inner++e::rest)∧o.1=7∧e.1=0∧dn inner 0=some 0∧Q9 inner=some w∧uS w o.2.2.2.2=none
 |n,[],_,_,hq=>by cases hq
 |0,o::s,h,_,_=>by simp at h
 |n+1,o::s,hn,hs,hq=>by
  simp only[aZ]at hn;by_cases hk:o.1=7
  ·have hs1:dn s 1=some 0:=by
    simp only[dn]at hs;rw[zF (by omega),zF (by omega),zE hk]at hs;exact hs
   obtain⟨inner,e,rest,h1,h2,h3,h4⟩:=yD _ s 0 (aB _) hs1;subst h1;simp only[bC,aZ]at hn;obtain⟨hsr,hQ⟩:=bn4 hs hk h2 h3;rw[hQ]at hq;cases hw:Q9 inner with
   |none=>
    obtain⟨pre,o',i',e',r',w,q1,q2⟩:=bq7 n inner (by omega) h3 hw;exact⟨o::pre,o',i',e',r'++e::rest,w,by rw[q1];simp,q2⟩
   |some w=>
    rw[hw]at hq;simp only[zG]at hq;cases hb:uS w o.2.2.2.2 with
    |none=>exact⟨[],o,inner,e,rest,w,rfl,hk,h2,h3,hw,hb⟩
    |some b=>
     rw[hb]at hq;simp only[zG]at hq;cases hr:Q9 rest with
     |some t=>rw[hr]at hq;cases hq
     |none=>
      obtain⟨pre,o',i',e',r',w',q1,q2⟩:=bq7 n rest (by omega) hsr hr;exact⟨o::(inner++e::pre),o',i',e',r',w',by rw[q1];simp,q2⟩
  ·obtain⟨hsr,_,hQ⟩:=bf0 hs hk;rw[hQ]at hq;cases hr:Q9 s with
   |some t=>rw[hr]at hq;cases hq
   |none=>
    obtain⟨pre,o',i',e',r',w',q1,q2⟩:=bq7 n s (by omega) hsr hr;exact⟨o::pre,o',i',e',r',w',by rw[q1];rfl,q2⟩
section
variable {l:List dR} {m:List Int}
theorem ap6 (hl:l.length≤100)(hv: ∀o∈l,0≤o.2.2.2.2∧o.2.2.2.2≤18446744073709551615)(hm:MOK l m)(hs:dn l 0=some 0){i:Nat}(hi:i<l.length)(hk:l[i].1=7):
  ∃inner e rest b w mi,l.drop (i+1)=inner++e::rest∧e.1=0∧dn inner 0=some 0∧m[i]?=some mi∧mi=((i+1+inner.length:Nat):Int)∧qN l m (i:Int)=some b∧kc l m ((i+1:Nat):Int) mi=some w∧0≤b∧0≤w∧
   ∀t,Q9 inner=some t→b=bY0 t l[i].2.2.2.2∧w=aD2 t:=by
 obtain⟨inner,e,rest,hd,he,hi0⟩:=bz6 hs hi hk
 have hlen:l.length=i+1+inner.length+1+rest.length:=by
  have:=congrArg bP hd;rw[bY]at this;simp at this;omega
 have hsplit:l=l.take (i+1)++inner++e::rest:=by
  rw[bA,←hd,cC]
 have hA:(l.take (i+1)).length=i+1:=by rw[cP];omega
 obtain⟨b,b1,b2,b3,b4⟩:=bz7 (by omega) hv hm (wok (by omega) hv hm 101) (f:=400) (by omega) hi hk hd he hi0 (by omega);obtain⟨w,w1,w2,w3,w4⟩:=wok (by omega) hv hm 101 400 (by omega) (l.take (i+1)) inner (e::rest) hsplit (by omega) hi0;rw[hA]at w1;exact⟨inner,e,rest,b,w,_,hd,he,hi0,hm.at' i hi hk inner e rest hd he hi0,rfl,b1,w1,b2,w2,fun t ht=>⟨b4 t ht,w4 t ht⟩⟩
theorem bO3 (hl:l.length≤100)(hv: ∀o∈l,0≤o.2.2.2.2∧o.2.2.2.2≤18446744073709551615)(hm:MOK l m)(hs:dn l 0=some 0):
  cv (ie l (0,m)) fi 0=some (match Q9 l with|some _=> .inr ()|none=> .inl ()):=by
 have key:=bC4 (f:=ie l (0,m)) l.length (by omega)
  (fun i=> ∃hi:i<l.length,l[i].1=7∧∃b w mi,m[i]?=some mi∧qN l m (i:Int)=some b∧kc l m ((i+1:Nat):Int) mi=some w∧(65536<b∨65536<w)) (.inl ()) (.inr ())
  (fun i hi hn=>by
   unfold ie;simp only[cr];rw[zE (by omega),eE hi];simp only[zG];by_cases hk:l[i].1=7
   ·obtain⟨inner,e,rest,b,w,mi,q1,q2,q3,q4,q5,q6,q7,q8⟩:=ap6 hl hv hm hs hi hk;rw[zE hk,q6];simp only[zG];rw[zF (fun h=>hn ⟨hi,hk,b,w,mi,q4,q6,q7, .inl h⟩),dp (show i<m.length by rw[hm.len];exact hi)];simp only[zG];rw[q4];simp only[zG];rw[ck (n:=(i:Int)+1) (by omega),show(i:Int)+1=((i+1:Nat):Int)by omega,q7];simp only[zG];rw[zF (fun h=>hn ⟨hi,hk,b,w,mi,q4,q6,q7, .inr h⟩)]
   ·rw[zF hk,ck (n:=(i:Int)+1) (by omega)]
    rfl)
  (fun i _ hst=>by
   obtain⟨hi,hk,b,w,mi,q4,q6,q7,q8⟩:=hst;unfold ie;simp only[cr];rw[zE (by omega),eE hi];simp only[zG];rw[zE hk,q6];simp only[zG];by_cases hb:65536<b
   ·rw[zE hb]
   ·rw[zF hb,dp (show i<m.length by rw[hm.len];exact hi)];simp only[zG];rw[q4];simp only[zG];rw[ck (n:=(i:Int)+1) (by omega),show(i:Int)+1=((i+1:Nat):Int)by omega,q7];simp only[zG]
    rw[zE (by omega)])
  (by
   unfold ie;simp only[cr]
   rw[zF (by omega)])
 cases hq:Q9 l with
 |some t=>
  rcases key with⟨i,h1,⟨hi,hk,b,w,mi,q4,q6,q7,q8⟩,_⟩|⟨_,h⟩
  ·exfalso;obtain⟨inner,e,rest,b',w',mi',p1,p2,p3,p4,p5,p6,p7,p8,p9,p10⟩:=ap6 hl hv hm hs hi hk
   have hsplit:l=l.take i++l[i]::(inner++e::rest):=by
    rw[←p1,bJ hi,cC]
   obtain⟨w0,b0,g1,g2⟩:=cs6 hq hsplit hk p2 p3;obtain⟨e1,e2⟩:=p10 w0 g1;have hmem: ∀o'∈inner,0≤o'.2.2.2.2:=fun o' ho'=>(hv o' (by rw[hsplit];simp[ho'])).1
   have hw0:=aE8 hmem p3 g1;obtain⟨x1,x2⟩:=aS6 hw0 (hv _ (bF hi)).1 g2;obtain⟨x3,x4⟩:=au9 hw0 (hv _ (bF hi)).1 g2;rw[q4]at p4;injection p4 with p4
   rw[q6]at p6;injection p6 with p6
   rw[←p4,q7]at p7;injection p7 with p7
   have hs9:aD2 w0=w0:=zF (by omega);rw[hs9]at e2;omega
  ·exact h
 |none=>
  rcases key with⟨_,_,_,_,h⟩|⟨h,_⟩
  ·exact h
  ·exfalso;obtain⟨pre,o,inner,e,rest,w,q1,q2,q3,q4,q5,q6⟩:=bq7 _ l (aB _) hs hq;have hi:pre.length<l.length:=by rw[q1];simp
   have hget:l[pre.length]=o:=by
    have:l[pre.length]?=some o:=by
     rw[q1,bB (aB _),aX];rfl
    rw[aD hi]at this;injection this
   have hk:l[pre.length].1=7:=by rw[hget];exact q2
   have hd:l.drop (pre.length+1)=inner++e::rest:=by
    rw[q1,bU,bV (by omega),show pre.length+1-pre.length=1 by omega];simp
   obtain⟨inner',e',rest',b',w',mi',p1,p2,p3,p4,p5,p6,p7,p8,p9,p10⟩:=ap6 hl hv hm hs hi hk;have:=tj (hd.symm.trans p1) q4 p3 q3 p2;subst this;obtain⟨e1,e2⟩:=p10 w q5;have hmem: ∀o'∈inner,0≤o'.2.2.2.2:=fun o' ho'=>(hv o' (by rw[q1];simp[ho'])).1
   have hw0:=aE8 hmem q4 q5;rw[hget]at e1;have hov:0≤o.2.2.2.2:=by rw[←hget];exact(hv _ (bF hi)).1
   refine h _ hi ⟨hi,hk,b',w',mi',p4,p6,p7, ?_⟩;rcases cg3 hw0 hov q6 with x|x
   ·right;rw[e2];unfold aD2;rw[zE x];omega
   ·left;rw[e1,x];omega
theorem yy (hl:l.length≤100)(hv: ∀o∈l,0≤o.2.2.2.2∧o.2.2.2.2≤18446744073709551615):jZ l=some (ej l):=by
 unfold jZ ej;rcases bF1 (l:=l) (by omega)with⟨hs,m,hm,hok⟩|⟨hs,hm⟩
 ·rw[hm,zE hs];simp only[zG];rw[zA (by simp),zD,bO3 hl hv hok hs];cases hq:Q9 l with
  |none=>rfl
  |some t=>
   have ht:=aE8 (fun o ho=>(hv o ho).1) hs hq;simp only[zG,dJ];obtain⟨w,w1,w2,w3,w4⟩:=wok (by omega) hv hok 101 400 (by omega) [] l [] (by simp) (by omega) hs
   have w1:kc l m 0 (l.length:Int)=some w:=by
    rw[←w1];show _=(dk 400).1 l m 0 ((0+l.length:Nat):Int);rw[bI];rfl
   rw[w1];simp only[zG,cr];have e2:=w4 t hq;unfold aD2 at e2;by_cases c:65536<t
   ·rw[zE c]at e2;rw[zE c,zE (by omega)]
   ·rw[zF c]at e2;rw[zF c,zF (by omega),e2]
 ·rw[hm,zF hs];rfl
end
theorem tt {α δ:Type}{f:Int→Option (Int⊕δ)}{l:List α}(p:α→Bool)(c:Nat→δ)(e:δ)(hl:l.length<1000000)
  (hf: ∀i,(hi:i<l.length)→f (i:Int)=some (if p l[i]then .inr (c i)else .inl ((i+1:Nat):Int))) (he:f (l.length:Int)=some (.inr e)):
  (l.any p=true∧∃i:Nat,cv f fi 0=some (c i))∨(l.any p=false∧cv f fi 0=some e):=by
 by_cases h: ∃i,∃hi:i<l.length,p l[i]=true
 ·left
  have hex: ∃i,(∃hi:i<l.length,p l[i]=true)∧∀j,j<i→¬∃hj:j<l.length,p l[j]=true:=by
   obtain⟨i,hi⟩:=h;induction i using Nat.strongRecOn with
   |ind i ih=>
    by_cases hj: ∃j,j<i∧∃hj:j<l.length,p l[j]=true
    ·obtain⟨j,h3,h4⟩:=hj;exact ih j h3 h4
    ·exact⟨i,hi,fun j h h3=>hj ⟨j,h,h3⟩⟩
  obtain⟨i,⟨hi,h1⟩,h2⟩:=hex;refine⟨List.any_eq_true.2 ⟨l[i],bF hi,h1⟩,i,oI (n:=i) (by omega) (fun j hj=> ?_) ?_⟩
  ·rw[hf j (by omega),zF (fun hp=>h2 j hj ⟨by omega,hp⟩)]
  ·rw[hf i hi,zE h1]
 ·right;refine⟨?_,oI (n:=l.length) (by omega) (fun j hj=> ?_) he⟩
  ·rw[Bool.eq_false_iff];intro ht;obtain⟨x,hx,hp⟩:=List.any_eq_true.1 ht;obtain⟨i,hi,rfl⟩:=List.getElem_of_mem hx;exact h ⟨i,hi,hp⟩
  ·rw[hf j hj,zF (fun hp=>h ⟨j,hj,hp⟩)]
def dF (k:Int):Bool×Bool×Bool×Bool:=if k=1∨k=2∨k=3 then(true,true,true,false)else if k=4∨k=6 then(true,true,false,false)else if k=5 then(true,false,false,true)else if k=7 then(false,false,false,true)else(false,false,false,false)
theorem yu (k:Int):k=1∨k=2∨k=3∨k=4∨k=5∨k=6∨k=7∨(¬k=1∧¬k=2∧¬k=3∧¬k=4∧¬k=5∧¬k=6∧¬k=7):=by omega
theorem bi2 (k:Int):om k=some (dF k):=by
 rcases yu k with rfl|rfl|rfl|rfl|rfl|rfl|rfl|⟨h1,h2,h3,h4,h5,h6,h7⟩
 any_goals rfl
 simp[om,dF,h1,h2,h3,h4,h5,h6,h7]
theorem an6 (k:Int):jm k=some (dF k):=by
 rcases yu k with rfl|rfl|rfl|rfl|rfl|rfl|rfl|⟨h1,h2,h3,h4,h5,h6,h7⟩
 any_goals rfl
 by_cases h:1≤k
 ·simp[jm,dF,h1,h2,h3,h4,h5,h6,h7,h,show¬k≤3 by omega,dJ]
 ·simp[jm,dF,h1,h2,h3,h4,h5,h6,h7,h,dJ]
def zW (n:Int)(q:Bool):Bool:=if q then decide (0≤n∧n≤2147483647)else decide (n=0)
theorem aK7 (n:Int)(q:Bool):ic n q=some (zW n q):=by
 unfold ic zW;cases q
 ·rfl
 ·by_cases h:0≤n<;>simp[h]
def qG (o:dR):Bool:=decide (0≤o.1∧o.1<8)&&(zW o.2.1 (dF o.1).1&&(zW o.2.2.1 (dF o.1).2.1&&(zW o.2.2.2.1 (dF o.1).2.2.1&&((dF o.1).2.2.2||decide (o.2.2.2.2=0)))))
theorem bu2 (o:dR):pe o.1 o.2.1 o.2.2.1 o.2.2.2.1 o.2.2.2.2=some (qG o):=by
 unfold pe tE qG
 have hk:(cond (decide (0≤o.1)) (some (decide (o.1<8))) (some false))=some (decide (0≤o.1∧o.1<8)):=by
  by_cases h:0≤o.1<;>simp[h]
 rw[bi2,hk];simp only[zG,aK7];generalize decide (0≤o.1∧o.1<8)=b1;generalize zW o.2.1 (dF o.1).1=b2;generalize zW o.2.2.1 (dF o.1).2.1=b3;generalize zW o.2.2.2.1 (dF o.1).2.2.1=b4;generalize (dF o.1).2.2.2=b5;cases b1<;>cases b2<;>cases b3<;>cases b4<;>cases b5<;>rfl
theorem bF0 (o:dR):qM o.1 o.2.1 o.2.2.1 o.2.2.2.1 o.2.2.2.2=some (qG o):=by
 unfold qM;simp only[cr];by_cases h1:o.1<0
 ·rw[zE h1];unfold qG;rw[zA (show¬(0≤o.1∧o.1<8)by omega)];rfl
 rw[zF h1];by_cases h2:7<o.1
 ·rw[zE h2];unfold qG;rw[zA (show¬(0≤o.1∧o.1<8)by omega)];rfl
 rw[zF h2,an6];simp only[zG]
 have key:=tt (f:=mO o.2.1 o.2.2.1 o.2.2.2.1 (dF o.1)) (l:=[(o.2.1,(dF o.1).1),(o.2.2.1,(dF o.1).2.1),(o.2.2.2.1,(dF o.1).2.2.1)]) (fun p=> !zW p.1 p.2) (fun _=> .inl false) (.inr ()) (by simp)
  (fun i hi=>by
   unfold mO;have hi:i<3:=hi;rw[cr,zE (by omega),dp (show i<3 from hi),dp (show i<4 by omega)];simp only[zG,cr]
   have e1:bW [o.2.1,o.2.2.1,o.2.2.2.1] i 0=([(o.2.1,(dF o.1).1),(o.2.2.1,(dF o.1).2.1),(o.2.2.2.1,(dF o.1).2.2.1)][i]).1:=by
    rcases(show i=0∨i=1∨i=2 by omega)with rfl|rfl|rfl<;>rfl
   have e2:bW [(dF o.1).1,(dF o.1).2.1,(dF o.1).2.2.1,(dF o.1).2.2.2] i false=([(o.2.1,(dF o.1).1),(o.2.2.1,(dF o.1).2.1),(o.2.2.2.1,(dF o.1).2.2.1)][i]).2:=by
    rcases(show i=0∨i=1∨i=2 by omega)with rfl|rfl|rfl<;>rfl
   rw[e1,e2,ck (n:=(i:Int)+1) (by omega),show(i:Int)+1=((i+1:Nat):Int)by omega];generalize [(o.2.1,(dF o.1).1),(o.2.2.1,(dF o.1).2.1),(o.2.2.2.1,(dF o.1).2.2.1)][i]=x;obtain⟨n,q⟩:=x;simp only[zW];by_cases c1:n<0
   ·rw[zE c1,zE];cases q
    ·simp;omega
    ·simp;omega
   rw[zF c1];by_cases c2:2147483647<n
   ·rw[zE c2,zE];cases q
    ·simp;omega
    ·simp;omega
   rw[zF c2];cases q with
   |true=>
    rw[zB (show 0≤n∧n≤2147483647 by omega)];rfl
   |false=>
    by_cases c3:n=0
    ·subst c3;rfl
    ·simp[c3])
  (by
   unfold mO
   rw[cr,zF (by simp)])
 unfold qG;rw[zB (show 0≤o.1∧o.1<8 by omega)]
 have hany:([(o.2.1,(dF o.1).1),(o.2.2.1,(dF o.1).2.1),(o.2.2.2.1,(dF o.1).2.2.1)].any fun p=> !zW p.1 p.2)= !(zW o.2.1 (dF o.1).1&&(zW o.2.2.1 (dF o.1).2.1&&zW o.2.2.2.1 (dF o.1).2.2.1)):=by
  simp[List.any,Bool.not_and]
 rw[hany]at key;generalize zW o.2.1 (dF o.1).1=b2 at*;generalize zW o.2.2.1 (dF o.1).2.1=b3 at*;generalize zW o.2.2.2.1 (dF o.1).2.2.1=b4 at*;rcases key with⟨h,_,hk⟩|⟨h,hk⟩
 ·rw[hk];cases b2<;>cases b3<;>cases b4<;>first|rfl|cases h
 ·rw[hk]
  have:b2=true∧b3=true∧b4=true:=by
   cases b2<;>cases b3<;>cases b4<;>first|exact⟨rfl,rfl,rfl⟩|cases h
  obtain⟨rfl,rfl,rfl⟩:=this;simp only[zG,dJ];cases(dF o.1).2.2.2<;>rfl
theorem uc (b:Bool)(e:Int):fV b e=some (if b then e else 0):=by cases b<;>rfl
def aG3 (l:List dR):Bool:=decide (dn l 0=some 0)&& !(l.any fun o=> !qG o)
theorem yk {R:Int}{l:List dR}(hl:l.length≤4096):eJ R l=some (if aG3 l then 0 else 6):=by
 unfold eJ;obtain⟨m,hm⟩:=yr (l:=l) (by omega);rw[hm];simp only[zG,uc];rw[zA (by omega),zD,cr];unfold aG3;by_cases hs:dn l 0=some 0
 ·rw[zE hs,zF (by simp),zB hs];unfold fT gC
  rcases tt (f:=eG l) (l:=l) (fun o=> !qG o) (fun i=> .inl (i:Int)) (.inr ()) (by omega) (fun i hi=>by
   unfold eG;rw[cr,zE (by omega),eE hi];simp only[zG];unfold kF;rw[bu2,ck (n:=(i:Int)+1) (by omega)];simp only[zG]
   cases qG l[i]<;>rfl) (by
   unfold eG
   rw[cr,zF (by omega)])with⟨h,i,hk⟩|⟨h,hk⟩
  ·rw[hk,h];simp only[zG,dJ];rw[zB (by omega)];rfl
  ·rw[hk,h];rfl
 ·rw[zF hs,zE (by simp),zA hs];rfl
theorem bO5 {R:Int}{l:List dR}(hl:l.length≤100):sO R l=some (aG3 l):=by
 unfold sO aG3;rw[zA (by omega),zD,ar1 (by omega)];simp only[zG];cases decide (dn l 0=some 0)with
 |false=>rfl
 |true=>
  rcases tt (f:=nM l) (l:=l) (fun o=> !qG o) (fun i=> .inl false) (.inr ()) (by omega) (fun i hi=>by
   unfold nM;rw[cr,zE (by omega),eE hi];simp only[zG];rw[bF0,ck (n:=(i:Int)+1) (by omega)];simp only[zG]
   cases qG l[i]<;>rfl) (by
   unfold nM
   rw[cr,zF (by omega)])with⟨h,i,hk⟩|⟨h,hk⟩
  ·rw[hk,h];rfl
  ·rw[hk,h];rfl
def bt9 (R:Int)(o:dR):Bool:=((dF o.1).1&&decide (R≤o.2.1))||((dF o.1).2.1&&decide (R≤o.2.2.1))||((dF o.1).2.2.1&&decide (R≤o.2.2.2.1))
def ax6 (R:Int)(l:List dR):Bool:=decide (1≤R∧R≤64)&& !(l.any (bt9 R))
theorem aW8 (x y:Int):di [x,y]=some [y,x]:=by kernel_rfl
theorem bF8 (x:Int):di [x]=some [x]:=by kernel_rfl
theorem aW7 :di []=some []:=by kernel_rfl
theorem bu1 (o:dR):pc o.1 o.2.1 o.2.2.1 o.2.2.2.1 o.2.2.2.2=some (if(dF o.1).2.1 then(if(dF o.1).2.2.1 then [o.2.2.1,o.2.2.2.1]else [o.2.2.1])else []):=by
 obtain⟨k,d,a,b,v⟩:=o;simp only;rcases yu k with rfl|rfl|rfl|rfl|rfl|rfl|rfl|⟨h1,h2,h3,h4,h5,h6,h7⟩
 ·exact(show _=(di [b,a]).bind _ from rfl).trans (by rw[aW8];rfl)
 ·exact(show _=(di [b,a]).bind _ from rfl).trans (by rw[aW8];rfl)
 ·exact(show _=(di [b,a]).bind _ from rfl).trans (by rw[aW8];rfl)
 ·exact(show _=(di [a]).bind _ from rfl).trans (by rw[bF8];rfl)
 ·exact(show _=(di []).bind _ from rfl).trans (by rw[aW7];rfl)
 ·exact(show _=(di [a]).bind _ from rfl).trans (by rw[bF8];rfl)
 ·exact(show _=(di []).bind _ from rfl).trans (by rw[aW7];rfl)
 ·unfold pc;simp only[zA h1,zA h2,zA h3,zA h4,zA h6,zD,zG,dJ,aW7];simp[dF,h1,h2,h3,h4,h5,h6,h7]
theorem br6 (l:List Int)(R:Int)(p:List dR)(hl:l.length<1000):eN l R p=some (l.any fun n=>decide (R≤n)):=by
 unfold eN iS
 rcases tt (f:=fO l R p) (l:=l) (fun n=>decide (R≤n)) (fun i=> .inl (i:Int)) (.inr ()) (by omega) (fun i hi=>by
  unfold fO;rw[cr,zE (by omega),eE hi];simp only[zG];unfold gU;rw[ck (n:=(i:Int)+1) (by omega)];simp only[zG]
  cases decide (R≤l[i])<;>rfl) (by
  unfold fO
  rw[cr,zF (by omega)])with⟨h,i,hk⟩|⟨h,hk⟩
 ·rw[hk,h];simp only[zG,dJ];rw[zB (by omega)]
 ·rw[hk,h];rfl
theorem bF6 (o:dR)(R:Int)(p:List dR):gr o.1 o.2.1 o.2.2.1 o.2.2.2.1 o.2.2.2.2 R p=some (bt9 R o):=by
 unfold gr ip;rw[bu1,bi2];unfold bt9;simp only[zG];obtain⟨k,d,a,b,v⟩:=o;simp only
 have h1:(dF k).2.2.1=true→(dF k).2.1=true:=by
  unfold dF;split
  ·intro _;rfl
  split
  ·intro _;rfl
  split
  ·intro h;cases h
  split<;>intro h<;>cases h
 have h2:(dF k).2.1=true→(dF k).1=true:=by
  unfold dF;split
  ·intro _;rfl
  split
  ·intro _;rfl
  split
  ·intro h;cases h
  split<;>intro h<;>cases h
 generalize (dF k).1=b1 at*;generalize (dF k).2.1=b2 at*;generalize (dF k).2.2.1=b3 at*
 have hs: ∀l:List Int,l.length<1000→∀r,(l.any fun n=>decide (R≤n))=r→((eN l R p).bind fun r10=>some r10)=some r:=by
  intro l hl r hr;rw[br6 l R p hl,hr];rfl
 cases b1<;>cases b2<;>cases b3<;>first
  |(cases h2 rfl)
  |(cases h1 rfl)
  |skip
 ·refine hs [] (by simp) _ ?_;generalize decide (R≤d)=x;generalize decide (R≤a)=y;generalize decide (R≤b)=z;cases x<;>cases y<;>cases z<;>rfl
 ·refine hs [d] (by simp) _ ?_;simp only[cM,cN];generalize decide (R≤d)=x;generalize decide (R≤a)=y;generalize decide (R≤b)=z;cases x<;>cases y<;>cases z<;>rfl
 ·refine hs [a,d] (by simp) _ ?_;simp only[cM,cN];generalize decide (R≤d)=x;generalize decide (R≤a)=y;generalize decide (R≤b)=z;cases x<;>cases y<;>cases z<;>rfl
 ·refine hs [a,b,d] (by simp) _ ?_;simp only[cM,cN];generalize decide (R≤d)=x;generalize decide (R≤a)=y;generalize decide (R≤b)=z;cases x<;>cases y<;>cases z<;>rfl
theorem si {R:Int}{l:List dR}(hl:l.length≤4096):eO R l=some (if ax6 R l then 0 else 7):=by
 unfold eO ax6;simp only[uc,zG,cr];by_cases c1:R<1
 ·rw[zE c1,zA (show¬(1≤R∧R≤64)by omega)];rfl
 rw[zF c1];by_cases c2:64<R
 ·rw[zE c2,zA (show¬(1≤R∧R≤64)by omega)];rfl
 rw[zF c2,zB (show 1≤R∧R≤64 by omega)];unfold fI fZ
 rcases tt (f:=eD l R l) (l:=l) (bt9 R) (fun i=> .inl (i:Int)) (.inr ()) (by omega) (fun i hi=>by
  unfold eD;rw[cr,zE (by omega),eE hi];simp only[zG];rw[bF6,ck (n:=(i:Int)+1) (by omega)];simp only[zG]
  cases bt9 R l[i]<;>rfl) (by
  unfold eD
  rw[cr,zF (by omega)])with⟨h,i,hk⟩|⟨h,hk⟩
 ·rw[hk,h];simp only[zG,dJ];rw[zB (by omega)];rfl
 ·rw[hk,h];rfl
theorem aL0 {R:Int}{l:List dR}(hl:l.length≤100):lY R l=some (ax6 R l):=by
 unfold lY ax6;simp only[cr];by_cases c1:R<1
 ·rw[zE c1,zA (show¬(1≤R∧R≤64)by omega)];rfl
 rw[zF c1];by_cases c2:64<R
 ·rw[zE c2,zA (show¬(1≤R∧R≤64)by omega)];rfl
 rw[zF c2,zB (show 1≤R∧R≤64 by omega)]
 rcases tt (f:=jp R l) (l:=l) (bt9 R) (fun i=> .inl false) (.inr ()) (by omega) (fun i hi=>by
  unfold jp;rw[cr,zE (by omega),eE hi];simp only[zG];rw[an6,ck (n:=(i:Int)+1) (by omega)];simp only[zG];unfold bt9;generalize l[i]=o;generalize decide (R≤o.2.1)=x;generalize decide (R≤o.2.2.1)=y;generalize decide (R≤o.2.2.2.1)=z;generalize (dF o.1).1=b1;generalize (dF o.1).2.1=b2;generalize (dF o.1).2.2.1=b3
  cases b1<;>cases b2<;>cases b3<;>cases x<;>cases y<;>cases z<;>rfl) (by
  unfold jp
  rw[cr,zF (by omega)])with⟨h,i,hk⟩|⟨h,hk⟩
 ·rw[hk,h];rfl
 ·rw[hk,h];rfl
def hmax :List dR→Nat→Nat→Nat
 |[],_,m=>m
 |o::r,d,m=>if o.1=7 then hmax r (d+1) (max m (d+1))else if o.1=0 then hmax r (d-1) m else hmax r d m
def cB2 (l:List dR)(s:Int×Bool×Int×List Int):Prop:=
 ∃(i m:Nat) (st:List Int),i≤l.length∧s=((i:Int),true,(m:Int),st)∧st.length≤i∧m≤i∧dn (l.drop i) st.length=dn l 0∧hmax (l.drop i) st.length m=hmax l 0 0
theorem bY6 {l:List dR}(hl:l.length≤100000)(s:Int×Bool×Int×List Int)(h:cB2 l s):
  (∃b,jV l s=some (.inl b)∧cB2 l b∧l.length-b.1.toNat<l.length-s.1.toNat)∨∃c,jV l s=some (.inr c)∧((c.1=false∧dn l 0=none)∨(c.1=true∧dn l 0=some c.2.2.length∧c.2.1=(hmax l 0 0:Int))):=by
 obtain⟨i,m,st,hi,rfl,hsl,hml,hsc,hhm⟩:=h;by_cases c:i<l.length
 ·have hdrop:l.drop i=l[i]::l.drop (i+1):=(bJ c).symm;rw[hdrop]at hsc hhm;simp only[jV];rw[zB (show(i:Int)<(l.length:Int)by omega),zC,eE c];simp only[zG];generalize hx:l[i]=x at*;simp only[dn]at hsc;simp only[hmax]at hhm;by_cases k0:x.1<0
  ·rw[zE (.inl k0)]at hsc;rw[zB k0];simp only[zC,zG,ik];exact .inr ⟨_,rfl, .inl ⟨rfl,hsc.symm⟩⟩
  rw[zA k0,zD];by_cases k7:7<x.1
  ·rw[zE (.inr k7)]at hsc;rw[zB k7];simp only[zC,zG,dT,ik];exact .inr ⟨_,rfl, .inl ⟨rfl,hsc.symm⟩⟩
  rw[zA k7,zD];rw[zF (by omega)]at hsc;by_cases kz:x.1=0
  ·rw[zE kz]at hsc;rw[zF (by omega),zE kz]at hhm;rw[zB kz];simp only[zC,zG,dT];by_cases hs0:st.length=0
   ·rw[zE hs0]at hsc;rw[zB (show(st.length:Int)=0 by omega)];simp only[zC,zG,ik];exact .inr ⟨_,rfl, .inl ⟨rfl,hsc.symm⟩⟩
   ·rw[zF hs0]at hsc;rw[zA (show¬(st.length:Int)=0 by omega),zD];rw[ck (n:=(st.length:Int)-1) (by omega),il (by omega),dN];simp only[zG,dT];rw[zA (show¬x.1=7 by omega)];simp only[zD];rw[ck (n:=(i:Int)+1) (by omega)]
    have hlt:(st.take (((st.length:Int)-1).toNat-0)).length=st.length-1:=by
     rw[cP];omega
    refine .inl ⟨_,rfl,⟨i+1,m,_,c,rfl,by rw[hlt];omega,by omega,by rw[hlt];exact hsc,by rw[hlt];exact hhm⟩,by simp;omega⟩
  ·rw[zF kz]at hsc;have ez:decide (x.1=0)=false:=zA kz;rw[ez];simp only[zD,zG,dT];by_cases k7:x.1=7
   ·rw[zE k7]at hsc hhm;rw[zB k7];simp only[zC];rw[dq (by omega) (by omega),ck (n:=(i:Int)+1) (by omega),ck (n:=(st.length:Int)+1) (by omega)];refine .inl ⟨_,rfl,⟨i+1,max m (st.length+1),st++[(i:Int)],c, ?_,by simp;omega,by omega,by rw[bC];exact hsc,by rw[bC];exact hhm⟩,by simp;omega⟩;rw[show((max m (st.length+1):Nat):Int)=max (m:Int) ((st.length:Int)+1)by omega];rfl
   ·rw[zF k7]at hsc hhm;rw[zF kz]at hhm;rw[zA k7];simp only[zD];rw[ck (n:=(i:Int)+1) (by omega)];exact .inl ⟨_,rfl,⟨i+1,m,st,c,rfl,by omega,by omega,hsc,hhm⟩,by simp;omega⟩
 ·have hi':i=l.length:=by omega
  subst hi';rw[bN]at hsc hhm;simp only[jV];rw[zA (show¬(l.length:Int)<(l.length:Int)by omega),zD];have hhm:m=hmax l 0 0:=hhm;exact .inr ⟨_,rfl, .inr ⟨rfl,hsc.symm,by rw[←hhm]⟩⟩
def aT1 (l:List dR):Int×Int:=if dn l 0=some 0 then((hmax l 0 0:Int),0)else(0,6)
theorem cb1 {l:List dR}(hl:l.length≤100000):uZ l=some (aT1 l):=by
 unfold uZ aT1
 obtain⟨c,hc,h⟩:=mH (f:=jV l) (a:=((0:Int),true,(0:Int),([]:List Int))) (cB2 l) (fun s=>l.length-s.1.toNat) (fun c=>(c.1=false∧dn l 0=none)∨(c.1=true∧dn l 0=some c.2.2.length∧c.2.1=(hmax l 0 0:Int)))
  ⟨0,0,[],bK _,rfl,aB _,aB _,rfl,rfl⟩ (by simp;omega) (fun s hs=>bY6 hl s hs)
 rw[hc];simp only[zG];rcases h with⟨h1,h2⟩|⟨h1,h2,h3⟩
 ·rw[h1,h2];rfl
 ·rw[h1,h2,zC];by_cases c0:c.2.2.length=0
  ·rw[zB (show(c.2.2.length:Int)=0 by omega),zE (by rw[c0]),h3];rfl
  ·rw[zA (show¬(c.2.2.length:Int)=0 by omega),zF (by intro e;injection e with e;exact c0 e)];rfl
def dpt (l:List dR)(i:Nat):Nat:=(dn (l.take i) 0).getD 0
theorem bA5 {l:List dR}(hs:dn l 0=some 0){i:Nat}(hi:i≤l.length):dn (l.take i) 0=some (dpt l i):=by
 obtain⟨d,h1,_⟩:=aR4 hs hi;unfold dpt;rw[h1];rfl
theorem aT3 {l:List dR}(hs:dn l 0=some 0){i:Nat}(hi:i<l.length):(l[i].1=7∧dpt l (i+1)=dpt l i+1)∨(l[i].1=0∧0<dpt l i∧dpt l (i+1)=dpt l i-1)∨(l[i].1≠7∧l[i].1≠0∧dpt l (i+1)=dpt l i):=by
 have h1:=bA5 hs (i:=i+1) (by omega);rw[cS hi,nJ,bA5 hs (by omega)]at h1;have h1:dn [l[i]] (dpt l i)=some (dpt l (i+1)):=h1;simp only[dn]at h1;split at h1
 ·cases h1
 split at h1
 ·rename_i k1 k2;split at h1
  ·cases h1
  ·injection h1 with h1
   exact .inr (.inl ⟨k2,by omega,h1.symm⟩)
 rename_i k1 k2;split at h1
 ·rename_i k3;injection h1 with h1
  exact .inl ⟨k3,h1.symm⟩
 ·rename_i k3;injection h1 with h1
  exact .inr (.inr ⟨k3,k2,h1.symm⟩)
theorem ch3 {l:List dR}(hs:dn l 0=some 0): ∀i,i≤l.length→dpt l i≤i
 |0,_=>aB _
 |i+1,h=>by
  have:=ch3 hs i (by omega);rcases aT3 hs (i:=i) (by omega)with⟨_,h2⟩|⟨_,_,h2⟩|⟨_,_,h2⟩<;>omega
theorem bu6 {l:List dR}(hl:l.length≤100000)(hs:dn l 0=some 0){n:Nat}(hn:n≤l.length):pi l (n:Int)=some (dpt l n:Int):=by
 unfold pi;have key:cv (jo l (n:Int)) fi (0,((dpt l 0:Nat):Int))=some ((dpt l n:Nat):Int):=hO (n:=n) (fun i=>((dpt l i:Nat):Int)) (c:=((dpt l n:Nat):Int)) (by omega) (fun i hi=> ?_) ?_
 ·show((cv (jo l (n:Int)) fi (0,((dpt l 0:Nat):Int))).bind _)=_;rw[key];rfl
 ·unfold jo;simp only[cr];rw[zE (by omega),eE (show i<l.length by omega)];simp only[zG];have hd:=ch3 hs i (by omega);rw[ck (n:=(i:Int)+1) (by omega)];rcases aT3 hs (i:=i) (by omega)with⟨h1,h2⟩|⟨h1,h3,h2⟩|⟨h1,h3,h2⟩
  ·rw[zE h1,zF (by omega),ck (n:=((dpt l i:Nat):Int)+1) (by omega),h2];rfl
  ·rw[zF (by omega),zE h1,ck (n:=((dpt l i:Nat):Int)-1) (by omega),h2,show((dpt l i-1:Nat):Int)=(dpt l i:Int)-1 by omega];rfl
  ·rw[zF h1,zF h3,h2];rfl
 ·unfold jo;simp only[cr];rw[zF (by omega)]
def wF (l:List dR):Nat→Nat
 |0=>0
 |i+1=>max (wF l i) (dpt l i)
theorem bg9 {l:List dR}(hs:dn l 0=some 0): ∀k i,i+k=l.length→hmax (l.drop i) (dpt l i) (wF l (i+1))=wF l (l.length+1)
 |0,i,h=>by
  have:i=l.length:=by omega
  subst this;rw[bN];rfl
 |k+1,i,h=>by
  rw[(bJ (show i<l.length by omega)).symm];simp only[hmax];have ih:=bg9 hs k (i+1) (by omega);have e:wF l (i+1+1)=max (wF l (i+1)) (dpt l (i+1)):=rfl;have e2:wF l (i+1)=max (wF l i) (dpt l i):=rfl;rcases aT3 hs (i:=i) (by omega)with⟨h1,h2⟩|⟨h1,h3,h2⟩|⟨h1,h3,h2⟩
  ·rw[zE h1,←h2,←e];exact ih
  ·rw[zF (by omega),zE h1,←h2,show wF l (i+1)=wF l (i+1+1)by rw[e];omega];exact ih
  ·rw[zF h1,zF h3];rw[h2,show wF l (i+1+1)=wF l (i+1)by rw[e];omega]at ih;exact ih
theorem bO2 {l:List dR}(hl:l.length≤100000):sM l=some (aT1 l):=by
 unfold sM aT1;rw[ar1 hl];simp only[zG];by_cases hs:dn l 0=some 0
 ·rw[zB hs,zE hs];simp only[bQ,zD];have key:cv (ly l) fi (0,((wF l 0:Nat):Int))=some ((wF l (l.length+1):Nat):Int):=hO (n:=l.length+1) (fun i=>((wF l i:Nat):Int)) (c:=((wF l (l.length+1):Nat):Int)) (by omega) (fun i hi=> ?_) ?_
  ·show((cv (ly l) fi (0,((wF l 0:Nat):Int))).bind _)=_;rw[key];have h:=bg9 hs l.length 0 (by omega);have e0:dpt l 0=0:=rfl;have e1:wF l (0+1)=0:=rfl;rw[e0,e1,List.drop_zero]at h;rw[h];rfl
  ·unfold ly;simp only[cr];rw[zE (by omega),bu6 hl hs (by omega)];simp only[zG];rw[ck (n:=(i:Int)+1) (by omega)];show _=some (Sum.inl (((i+1:Nat):Int),((max (wF l i) (dpt l i):Nat):Int)));rw[show((max (wF l i) (dpt l i):Nat):Int)=max (wF l i:Int) (dpt l i:Int)by omega];rfl
  ·unfold ly;simp only[cr];rw[zF (by omega)]
 ·rw[zA hs,zF hs];rfl
structure OpsOk (l:List dR):Prop where
 len:l.length≤4096
 v: ∀o∈l,0≤o.2.2.2.2∧o.2.2.2.2≤18446744073709551615
def lk0 (l:List dR):Int:=if aG3 l then 0 else 6
def lk1 (R:Int)(l:List dR):Int:=if ax6 R l then 0 else 7
def lk2 (l:List dR):Int:=if 8<(aT1 l).1 then 8 else 0
def lk3 (l:List dR):Int:=(ej l).2
def yx (R:Int)(l:List dR):Int:=if lk0 l≠0 then lk0 l else if lk1 R l≠0 then lk1 R l else if lk2 l≠0 then lk2 l else lk3 l
def nr (R:Int)(l:List dR)(Q:Int)(k:List dR):Int:=if lk0 l≠0 then lk0 l else if lk0 k≠0 then lk0 k else if lk1 R l≠0 then lk1 R l else if lk1 Q k≠0 then lk1 Q k else if lk2 l≠0 then lk2 l else if lk2 k≠0 then lk2 k else if lk3 l≠0 then lk3 l else lk3 k
theorem ad8 {R:Int}{l:List dR}(h:OpsOk l):fR R l=some (lk2 l):=by
 unfold fR lk2;have:=h.len;rw[cb1 (by omega)];simp only[zG,uc];by_cases c:8<(aT1 l).1<;>simp[c]
theorem yl {R:Int}{l:List dR}(h:OpsOk l):fE R l=some (lk3 l):=by
 unfold fE lk3;have:=h.len;rw[rN (by omega) h.v];rfl
theorem be0 {R:Int}{l:List dR}(h:OpsOk l):nL R l=some (yx R l):=by
 unfold nL yx;rw[yk h.len,si h.len,ad8 h,yl h];simp only[zG,cr];show(if lk0 l≠0 then some (lk0 l)else if lk1 R l≠0 then some (lk1 R l)else if lk2 l≠0 then some (lk2 l)else if lk3 l≠0 then some (lk3 l)else some 0)=_;split
 ·rfl
 split
 ·rfl
 split
 ·rfl
 split
 ·rfl
 ·rename_i h;rw[show lk3 l=0 by omega]
theorem bL2 {R Q:Int}{l k:List dR}(h:OpsOk l)(h':OpsOk k):mN R l Q k=some (nr R l Q k):=by
 unfold mN nr;rw[yk h.len,si h.len,ad8 h,yl h,yk h'.len,si h'.len,ad8 h',yl h'];simp only[zG,cr];show(if lk0 l≠0 then some (lk0 l)else if lk0 k≠0 then some (lk0 k)else if lk1 R l≠0 then some (lk1 R l)else if lk1 Q k≠0 then some (lk1 Q k)else if lk2 l≠0 then some (lk2 l)else if lk2 k≠0 then some (lk2 k)else if lk3 l≠0 then some (lk3 l)else if lk3 k≠0 then some (lk3 k)else some 0)=_;split
 ·rfl
 split
 ·rfl
 split
 ·rfl
 split
 ·rfl
 split
 ·rfl
 split
 ·rfl
 split
 ·rfl
 split
 ·rfl
 ·rename_i h;rw[show lk3 k=0 by omega]
def lkN (R:Int)(l:List dR)(n:Nat):Int:=if n=0 then lk0 l else if n=1 then lk1 R l else if n=2 then lk2 l else lk3 l
theorem aW3 {R:Int}{l:List dR}(h:OpsOk l)(h1:l.length≤100)(n:Nat):pj R l (n:Int)=some (lkN R l n):=by
 unfold pj lkN;have:=h.len;simp only[cr];by_cases c0:n=0
 ·rw[zE (by omega),zE c0,bO5 h1];unfold lk0;simp only[zG];cases aG3 l<;>rfl
 rw[zF (by omega),zF c0];by_cases c1:n=1
 ·rw[zE (by omega),zE c1,aL0 h1];unfold lk1;simp only[zG];cases ax6 R l<;>rfl
 rw[zF (by omega),zF c1];by_cases c2:n=2
 ·rw[zE (by omega),zE c2,bO2 (by omega)];unfold lk2;simp only[zG];split<;>rfl
 rw[zF (by omega),zF c2,yy h1 h.v];rfl
theorem bO4 {R Q:Int}{l k:List dR}(h:OpsOk l)(h':OpsOk k)(h1:l.length≤100)(h1':k.length≤100):sN R l Q k=some (nr R l Q k):=by
 have hstep: ∀n:Nat,n<4→ji R l Q k (n:Int)=some (if lkN R l n≠0 then .inr (.inl (lkN R l n))else if lkN Q k n≠0 then .inr (.inl (lkN Q k n))else .inl ((n+1:Nat):Int)):=by
  intro n hn;unfold ji;simp only[cr];rw[zE (by omega),aW3 h h1,aW3 h' h1'];simp only[zG];rw[ck (n:=(n:Int)+1) (by omega)];split
  ·rfl
  split<;>rfl
 have hend:ji R l Q k 4=some (.inr (.inr ())):=rfl;unfold sN nr
 have key:cv (ji R l Q k) fi 0=some (if lk0 l≠0 then .inl (lk0 l)else if lk0 k≠0 then .inl (lk0 k)else if lk1 R l≠0 then .inl (lk1 R l)else if lk1 Q k≠0 then .inl (lk1 Q k)else if lk2 l≠0 then .inl (lk2 l)else if lk2 k≠0 then .inl (lk2 k)else if lk3 l≠0 then .inl (lk3 l)else if lk3 k≠0 then .inl (lk3 k)else .inr ()):=by
  have hB:fi=18446744073709551611+1+1+1+1+1:=rfl;rw[hB,dP];have h0:=hstep 0 (by omega);have h1:=hstep 1 (by omega);have h2:=hstep 2 (by omega);have h3:=hstep 3 (by omega);rw[show lkN R l 0=lk0 l from rfl,show lkN Q k 0=lk0 k from rfl]at h0;rw[show lkN R l 1=lk1 R l from rfl,show lkN Q k 1=lk1 Q k from rfl]at h1;rw[show lkN R l 2=lk2 l from rfl,show lkN Q k 2=lk2 k from rfl]at h2;rw[show lkN R l 3=lk3 l from rfl,show lkN Q k 3=lk3 k from rfl]at h3;have h0:ji R l Q k 0=_:=h0;rw[h0];simp only[zG];split
  ·rfl
  split
  ·rfl
  simp only[dJ];rw[dP,h1];simp only[zG];split
  ·rfl
  split
  ·rfl
  simp only[dJ];rw[dP,h2];simp only[zG];split
  ·rfl
  split
  ·rfl
  simp only[dJ];rw[dP,h3];simp only[zG];split
  ·rfl
  split
  ·rfl
  simp only[dJ];rw[dP,show(((3+1:Nat):Int))=4 from rfl,hend];rfl
 rw[key];simp only[zG];split
 ·rfl
 split
 ·rfl
 split
 ·rfl
 split
 ·rfl
 split
 ·rfl
 split
 ·rfl
 split
 ·rfl
 split
 ·rfl
 ·rename_i h;rw[show lk3 k=0 by omega];rfl
abbrev cP1 :Sh:= .list (.pair (.int .i64) (.pair (.int .i64) (.pair (.int .i64) (.pair (.int .i64) (.int .u64)))))
theorem bu3 {l:List dR}(f:bW5 cP1 l)(h:l.length≤100):OpsOk l:=⟨by omega,fun o ho=>(f.2 o ho).2.2.2.2⟩
theorem cq9 (a0:Int)(a1:List dR)(a2:Int)(a3:List dR)(a4 a5:Int): ∃d,oQ a0 a1 a2 a3 a4 a5=some d∧mQ a0 a1 a2 a3 a4 a5=some d:=by
 unfold oQ mQ;simp only[uc,zG,cr];by_cases c1:a4<1
 ·rw[zE c1,zE c1];exact⟨_,rfl,rfl⟩
 rw[zF c1,zF c1];by_cases c2:64<a4
 ·rw[zE c2,zE c2];exact⟨_,rfl,rfl⟩
 rw[zF c2,zF c2];by_cases c3:a5<0
 ·rw[zE c3,zE c3];exact⟨_,rfl,rfl⟩
 rw[zF c3,zF c3];by_cases c4:64<a5
 ·rw[zE c4];simp only[zG];rw[cr,zE c4];exact⟨_,rfl,rfl⟩
 rw[zF c4];simp only[zG];rw[cr,zF c4];by_cases c5:a0<IntKind.i64.wrap (zH zI (a4+a5)+1)
 ·rw[zE c5,zE c5];exact⟨_,rfl,rfl⟩
 rw[zF c5,zF c5];by_cases c6:a2<IntKind.i64.wrap (a4+a5)
 ·rw[zE c6,zB c6];exact⟨_,rfl,rfl⟩
 ·rw[zF c6,zA c6];exact⟨_,rfl,rfl⟩
def vk (s l x t:Int):Int:=if x<1 then 10 else if 64<x then 10 else if t<0 then 10 else if 64<t then 10 else if s<IntKind.i64.wrap (zH zI (x+t)+1)then 10 else if l<IntKind.i64.wrap (x+t)then 10 else 0
theorem aW2 (a0:Int)(a1:List dR)(a2:Int)(a3:List dR)(a4 a5:Int):mQ a0 a1 a2 a3 a4 a5=some (vk a0 a2 a4 a5):=by
 unfold mQ vk;simp only[cr];split
 ·rfl
 split
 ·rfl
 split
 ·rfl
 split
 ·rfl
 split
 ·rfl
 split<;>rfl
theorem bL1 (a0:Int)(a1:List dR)(a2:Int)(a3:List dR)(a4 a5:Int):oQ a0 a1 a2 a3 a4 a5=some (vk a0 a2 a4 a5):=by
 obtain⟨d,h1,h2⟩:=cq9 a0 a1 a2 a3 a4 a5;rw[h1,←h2,aW2]
def hk0 (m:Int):Int:=if m<1 then 5 else if 3<m then 5 else 0
def hk3 (m n:Int):Int:=if n<0 then 11 else if(if m=2 then 0 else 65535)<n then 11 else 0
def hk4 (b:Int):Int:=if b<0 then 12 else if 1048576<b then 12 else 0
def wK (m:Int)(x t:Nat)(R:Int)(l:List dR)(Q:Int)(k:List dR)(n b:Int):Int:=if hk0 m≠0 then hk0 m else if nr R l Q k≠0 then nr R l Q k else if vk R Q x t≠0 then vk R Q x t else if hk3 m n≠0 then hk3 m n else hk4 b
theorem ae7 (b:Bool)(e:Int):iL b e=some (if b then e else 0):=by cases b<;>rfl
section
variable {a0:Int} {a1 a2:List Int} {a3:Int} {a4:List dR} {a5:Int} {a6:List dR} {a7 a8:Int}
theorem ci1 :gj a0 a1 a2 a3 a4 a5 a6 a7 a8=some (hk0 a0):=by
 unfold gj hk0;simp only[ae7,zG,cr];split
 ·rfl
 ·by_cases c:3<a0<;>simp[c]
theorem bM3 (h4:OpsOk a4)(h6:OpsOk a6):ew a0 a1 a2 a3 a4 a5 a6 a7 a8=some (nr a3 a4 a5 a6):=by
 unfold ew;rw[bL2 h4 h6];rfl
theorem cD3 :gY a0 a1 a2 a3 a4 a5 a6 a7 a8=some (vk a3 a5 (a1.length:Nat) (a2.length:Nat)):=by
 unfold gY;rw[bL1];rfl
theorem ci0 :gA a0 a1 a2 a3 a4 a5 a6 a7 a8=some (hk3 a0 a7):=by
 unfold gA hk3;simp only[ae7,zG,cr];by_cases c0:a0=2
 ·rw[zE c0,zE c0];simp only[zG];split
  ·rfl
  ·by_cases c:0<a7<;>simp[c]
 ·rw[zF c0,zF c0];simp only[zG];split
  ·rfl
  ·by_cases c:65535<a7<;>simp[c]
theorem ch9 :gz a0 a1 a2 a3 a4 a5 a6 a7 a8=some (hk4 a8):=by
 unfold gz hk4;simp only[ae7,zG,cr];split
 ·rfl
 ·by_cases c:1048576<a8<;>simp[c]
theorem aw1 (h4:OpsOk a4)(h6:OpsOk a6):iQ a0 a1 a2 a3 a4 a5 a6 a7 a8=some (wK a0 a1.length a2.length a3 a4 a5 a6 a7 a8):=by
 have h0:fd a0 a1 a2 a3 a4 a5 a6 a7 a8 0=some (if hk0 a0≠0 then .inr (.inl (hk0 a0))else .inl 1):=by
  show((gj a0 a1 a2 a3 a4 a5 a6 a7 a8).bind fun r=>cond (decide (r≠0)) _ _)=_;rw[ci1];simp only[zG,cr];split<;>rfl
 have h1:fd a0 a1 a2 a3 a4 a5 a6 a7 a8 1=some (if nr a3 a4 a5 a6≠0 then .inr (.inl (nr a3 a4 a5 a6))else .inl 2):=by
  show((ew a0 a1 a2 a3 a4 a5 a6 a7 a8).bind fun r=>cond (decide (r≠0)) _ _)=_;rw[bM3 h4 h6];simp only[zG,cr];split<;>rfl
 have h2:fd a0 a1 a2 a3 a4 a5 a6 a7 a8 2=some (if vk a3 a5 (a1.length:Nat) (a2.length:Nat)≠0 then .inr (.inl (vk a3 a5 (a1.length:Nat) (a2.length:Nat)))else .inl 3):=by
  show((gY a0 a1 a2 a3 a4 a5 a6 a7 a8).bind fun r=>cond (decide (r≠0)) _ _)=_;rw[cD3];simp only[zG,cr];split<;>rfl
 have h3:fd a0 a1 a2 a3 a4 a5 a6 a7 a8 3=some (if hk3 a0 a7≠0 then .inr (.inl (hk3 a0 a7))else .inl 4):=by
  show((gA a0 a1 a2 a3 a4 a5 a6 a7 a8).bind fun r=>cond (decide (r≠0)) _ _)=_;rw[ci0];simp only[zG,cr];split<;>rfl
 have h5:fd a0 a1 a2 a3 a4 a5 a6 a7 a8 4=some (if hk4 a8≠0 then .inr (.inl (hk4 a8))else .inl 5):=by
  show((gz a0 a1 a2 a3 a4 a5 a6 a7 a8).bind fun r=>cond (decide (r≠0)) _ _)=_;rw[ch9];simp only[zG,cr];split<;>rfl
 have hend:fd a0 a1 a2 a3 a4 a5 a6 a7 a8 5=some (.inr (.inr ())):=rfl;unfold iQ wK;have hB:fi=18446744073709551610+1+1+1+1+1+1:=rfl;rw[hB,dP,h0];simp only[zG];split
 ·rfl
 simp only[dJ];rw[dP,h1];simp only[zG];split
 ·rfl
 simp only[dJ];rw[dP,h2];simp only[zG];split
 ·rfl
 simp only[dJ];rw[dP,h3];simp only[zG];split
 ·rfl
 simp only[dJ];rw[dP,h5];simp only[zG];split
 ·rfl
 ·rename_i h;simp only[dJ];rw[dP,hend];rw[show hk4 a8=0 by omega];rfl
theorem bF2 (h4:OpsOk a4)(h6:OpsOk a6)(g4:a4.length≤100)(g6:a6.length≤100):qR a0 a1 a2 a3 a4 a5 a6 a7 a8=some (wK a0 a1.length a2.length a3 a4 a5 a6 a7 a8):=by
 unfold qR wK;rw[bO4 h4 h6 g4 g6,aW2];simp only[zG,cr];unfold hk0;by_cases c1:a0<1
 ·rw[zE c1,zE c1];rfl
 rw[zF c1,zF c1];by_cases c2:3<a0
 ·rw[zE c2,zE c2];rfl
 rw[zF c2,zF c2];rw[zF (show¬(0:Int)≠0 by simp)];by_cases c3:nr a3 a4 a5 a6≠0
 ·rw[zE c3,zE c3]
 rw[zF c3,zF c3];by_cases c4:vk a3 a5 (a1.length:Nat) (a2.length:Nat)≠0
 ·rw[zE c4,zE c4]
 rw[zF c4,zF c4];unfold hk3 hk4;by_cases c5:a7<0
 ·rw[zE c5,zE c5];rfl
 rw[zF c5,zF c5];by_cases c6:a0=2
 ·rw[zE c6,zE c6];by_cases c7:0<a7
  ·rw[zE c7,zE (show(11:Int)≠0 by simp)];by_cases c8:65535<a7
   ·rw[zE c8]
   ·rw[zF c8,zE (by omega)]
  ·rw[zF c7,zF (show¬(0:Int)≠0 by simp),zF (show¬65535<a7 by omega),zF (show¬a7≠0 by omega)];split
   ·rfl
   ·split<;>rfl
 ·rw[zF c6,zF c6];by_cases c8:65535<a7
  ·rw[zE c8,zE c8];rfl
  ·rw[zF c8,zF c8,zF (show¬(0:Int)≠0 by simp)];split
   ·rfl
   ·split<;>rfl
structure HFacts (a0:Int)(x t:Nat)(a3:Int)(a4:List dR)(a5:Int)(a6:List dR)(a7 a8:Int):Prop where
 mode:1≤a0∧a0≤3
 regs:1≤a3∧a3≤64
 regs':1≤a5∧a5≤64
 xs:1≤x∧x≤64
 ts:t≤64
 w:0≤(ej a4).1∧(ej a4).1≤65536
 w':0≤(ej a6).1∧(ej a6).1≤65536
 len:0≤a7∧a7≤65535
 bud:0≤a8∧a8≤1048576
theorem bC3 {R:Int}{l:List dR}(h:lk1 R l=0):1≤R∧R≤64:=by
 unfold lk1 at h;split at h
 ·rename_i hb;unfold ax6 at hb;rw[Bool.and_eq_true]at hb;exact of_decide_eq_true hb.1
 ·cases h
theorem aZ0 {l:List dR}(h:OpsOk l):0≤(ej l).1∧(ej l).1≤65536:=by
 unfold ej;split
 ·rename_i hs;split
  ·rename_i w hq;have:=aE8 (fun o ho=>(h.v o ho).1) hs hq;split
   ·simp
   ·simp;omega
  ·simp
 ·simp
theorem cb8 {R Q:Int}{l k:List dR}(h:nr R l Q k=0):(1≤R∧R≤64)∧(1≤Q∧Q≤64):=by
 unfold nr at h;split at h
 ·rename_i c;exact(c h).elim
 split at h
 ·rename_i c;exact(c h).elim
 split at h
 ·rename_i c;exact(c h).elim
 split at h
 ·rename_i c;exact(c h).elim
 rename_i c1 c2;exact⟨bC3 (l:=l) (by omega),bC3 (l:=k) (by omega)⟩
theorem aU3 (h4:OpsOk a4)(h6:OpsOk a6){x t:Nat}(h:wK a0 x t a3 a4 a5 a6 a7 a8=0):HFacts a0 x t a3 a4 a5 a6 a7 a8:=by
 unfold wK at h;split at h
 ·rename_i c;exact(c h).elim
 split at h
 ·rename_i c;exact(c h).elim
 split at h
 ·rename_i c;exact(c h).elim
 split at h
 ·rename_i c;exact(c h).elim
 rename_i c0 c1 c2 c3;obtain⟨r1,r2⟩:=cb8 (show nr a3 a4 a5 a6=0 by omega);have c0:hk0 a0=0:=by omega
 have c2:vk a3 a5 x t=0:=by omega
 have c3:hk3 a0 a7=0:=by omega
 unfold hk0 at c0;unfold hk3 at c3;unfold hk4 at h;unfold vk at c2;refine⟨?_,r1,r2, ?_, ?_,aZ0 h4,aZ0 h6, ?_, ?_⟩
 ·split at c0
  ·omega
  split at c0<;>omega
 ·split at c2
  ·omega
  split at c2<;>omega
 ·split at c2
  ·omega
  split at c2
  ·omega
  split at c2
  ·omega
  split at c2<;>omega
 ·split at c3
  ·omega
  by_cases k3:a0=2
  ·rw[zE k3]at c3;split at c3<;>omega
  ·rw[zF k3]at c3;split at c3<;>omega
 ·split at h
  ·omega
  split at h<;>omega
def pY (a0:Int)(a4 a6:List dR):Int:=if a0=3 then(ej a6).1 else(ej a4).1+(ej a6).1
def pX (a0:Int)(x:Nat)(a3:Int)(a4:List dR):Int:=if a0=3 then(ej a4).1+a3 else x+1
def rJ (x t:Nat)(a3 a5:Int):Int:=2*t+2*x+a3+a5+max a3 a5
theorem bV0 (h4:OpsOk a4)(h6:OpsOk a6):gL a0 a1 a2 a3 a4 a5 a6 a7 a8=some (if wK a0 a1.length a2.length a3 a4 a5 a6 a7 a8≠0 then(0,0)else((ej a4).1,(ej a6).1)):=by
 unfold gL;have:=h4.len;have:=h6.len;rw[aw1 h4 h6,rN (by omega) h4.v,rN (by omega) h6.v];simp only[zG,cr];split<;>rfl
theorem cm4 (h4:OpsOk a4)(h6:OpsOk a6)(g4:a4.length≤100)(g6:a6.length≤100):wX a0 a1 a2 a3 a4 a5 a6 a7 a8=some (if wK a0 a1.length a2.length a3 a4 a5 a6 a7 a8≠0 then(0,0)else((ej a4).1,(ej a6).1)):=by
 unfold wX;have:=h4.len;have:=h6.len;rw[bF2 h4 h6 g4 g6,yy g4 h4.v,yy g6 h6.v];simp only[zG,cr];split<;>rfl
theorem aV9 (h4:OpsOk a4)(h6:OpsOk a6)(h:wK a0 a1.length a2.length a3 a4 a5 a6 a7 a8=0):pg a0 a1 a2 a3 a4 a5 a6 a7 a8=some (((a2.length:Nat):Int),((a1.length:Nat):Int),a3,a5,max a3 a5,((a1.length:Nat):Int),((a2.length:Nat):Int),pY a0 a4 a6,pX a0 a1.length a3 a4):=by
 have f:=aU3 h4 h6 h;have g1:=f.mode;have g2:=f.regs;have g3:=f.xs;have g4:=f.w;have g5:=f.w';unfold pg pY pX;rw[bV0 h4 h6,zF (fun c=>c h)];simp only[zG,cr];rw[ck (n:=(ej a4).1+a3) (by omega),ck (n:=(ej a4).1+(ej a6).1) (by omega),ck (n:=(a1.length:Int)+1) (by omega)];split
 ·rfl
 ·rfl
def pre (L:List Int):Nat→Int
 |0=>0
 |i+1=>pre L i+L.getD i 0
theorem bN8 {L:List Int}(hb: ∀j,0≤L.getD j 0∧L.getD j 0≤1000000000000): ∀i,0≤pre L i∧pre L i≤1000000000000*i
 |0=>⟨bS _,bS _⟩
 |i+1=>by
  have:=bN8 hb i;have:=hb i;simp only[pre];omega
theorem bE2 {b0 b1 b2 b3 b4 b5 b6 b7 b8 n:Int}(hb: ∀j,0≤([b0,b1,b2,b3,b4,b5,b6,b7,b8*n]:List Int).getD j 0∧([b0,b1,b2,b3,b4,b5,b6,b7,b8*n]:List Int).getD j 0≤1000000000000):tF b0 b1 b2 b3 b4 b5 b6 b7 b8 n=some ((bL 10).map (pre [b0,b1,b2,b3,b4,b5,b6,b7,b8*n])):=by
 generalize hL:([b0,b1,b2,b3,b4,b5,b6,b7,b8*n]:List Int)=L at*;have hp:=bN8 hb
 have key:cv (nB b0 b1 b2 b3 b4 b5 b6 b7 b8) fi (0,(pre L 0,(bL 0).map (pre L)))=some (pre L 8,(bL 8).map (pre L)):=by
  refine hO (n:=8) (fun i=>(pre L i,(bL i).map (pre L))) (by omega) (fun i hi=> ?_) ?_
  ·unfold nB;rw[cr,zE (by omega),dp (show i<9 by omega)];simp only[zG]
   have e:bW [b0,b1,b2,b3,b4,b5,b6,b7,b8] i 0=L.getD i 0:=by
    subst hL;rcases(show i=0∨i=1∨i=2∨i=3∨i=4∨i=5∨i=6∨i=7 by omega)with rfl|rfl|rfl|rfl|rfl|rfl|rfl|rfl<;>rfl
   have h1:=hp i;have h2:=hb i;rw[e];rw[dq (by simp;omega) (by omega),ck (n:=pre L i+L.getD i 0) (by omega),ck (n:=(i:Int)+1) (by omega),cR,bZ];rfl
  ·unfold nB;rw[cr,zF (by omega)]
 unfold tF;have key:cv (nB b0 b1 b2 b3 b4 b5 b6 b7 b8) fi ((0,0,[]))=_:=key;rw[key];have h1:=hp 8;have h2:=hb 8;have e:L.getD 8 0=b8*n:=by subst hL;rfl
 rw[e]at h2;simp only[zG];rw[dq (by simp) (by omega),dq (by simp) (by omega),ck (n:=b8*n) (by omega),ck (n:=pre L 8+b8*n) (by omega)];show _=some ((bL (8+1+1)).map (pre L));rw[cR (n:=8+1),cR (n:=8),bZ,bZ];show _=some (((bL 8).map (pre L)++[pre L 8])++[pre L 8+L.getD 8 0]);rw[e]
theorem cc0 {b0 b1 b2 b3 b4 b5 b6 b7 b8 n:Int}(hb: ∀j,0≤([b0,b1,b2,b3,b4,b5,b6,b7,b8*n]:List Int).getD j 0∧([b0,b1,b2,b3,b4,b5,b6,b7,b8*n]:List Int).getD j 0≤1000000000000):rf b0 b1 b2 b3 b4 b5 b6 b7 b8 n=some (b0+b1+b2+b3+b4+b5+b6+b7+b8*n):=by
 unfold rf;rw[bE2 hb];show some (0+b0+b1+b2+b3+b4+b5+b6+b7+b8*n)=_;rw[bD]
theorem cO2 {b0 b1 b2 b3 b4 b5 b6 b7 b8:Int}{p:Int→Prop}(h:p b0)(h1:p b1)(h2:p b2)(h3:p b3)(h4:p b4)(h5:p b5)(h6:p b6)(h7:p b7)(h8:p b8)(hz:p 0): ∀j,p (([b0,b1,b2,b3,b4,b5,b6,b7,b8]:List Int).getD j 0)
 |0=>h
 |1=>h1
 |2=>h2
 |3=>h3
 |4=>h4
 |5=>h5
 |6=>h6
 |7=>h7
 |8=>h8
 |j+9=>by
  show p ((([]:List Int)).getD j 0);rw[List.getD_nil];exact hz
theorem ck0 {s n:Int}(hs:0≤s∧s≤100000)(hn:0≤n∧n≤1048576):0≤s*n∧s*n≤1000000000000:=by
 have h1:=bM hs.1 hn.1;have h2:=Int.mul_le_mul hs.2 hn.2 hn.1 (by omega);omega
structure SFacts (x t:Nat)(a3 a5 tp sl:Int):Prop where
 xs:1≤x∧x≤64
 ts:t≤64
 r:1≤a3∧a3≤64
 r':1≤a5∧a5≤64
 tp:0≤tp∧tp≤131072
 sl:1≤sl∧sl≤100000
theorem bv2 (h4:OpsOk a4)(h6:OpsOk a6){x t:Nat}(h:wK a0 x t a3 a4 a5 a6 a7 a8=0):SFacts x t a3 a5 (pY a0 a4 a6) (pX a0 x a3 a4):=by
 have f:=aU3 h4 h6 h;have g1:=f.mode;have g2:=f.regs;have g3:=f.xs;have g4:=f.w;have g5:=f.w';refine⟨f.xs,f.ts,f.regs,f.regs', ?_, ?_⟩
 ·unfold pY;split<;>omega
 ·unfold pX;split<;>omega
theorem bP0 {x t:Nat}{tp sl n:Int}(s:SFacts x t a3 a5 tp sl)(hn:0≤n∧n≤1048576): ∀j,0≤([(t:Int),x,a3,a5,max a3 a5,x,t,tp,sl*n]:List Int).getD j 0∧([(t:Int),x,a3,a5,max a3 a5,x,t,tp,sl*n]:List Int).getD j 0≤1000000000000:=by
 have g1:=s.xs;have g2:=s.ts;have g3:=s.r;have g4:=s.r';have g5:=s.tp;have g6:=s.sl;exact cO2 (p:=fun y=>0≤y∧y≤1000000000000) (by omega) (by omega) (by omega) (by omega) (by omega) (by omega) (by omega) (by omega) (ck0 (by omega) hn) (by omega)
theorem cF5 {x t:Nat}{tp sl n:Int}(s:SFacts x t a3 a5 tp sl)(hn:0≤n∧n≤1048576):rf t x a3 a5 (max a3 a5) x t tp sl n=some (rJ x t a3 a5+tp+n*sl):=by
 rw[cc0 (bP0 s hn)];unfold rJ;rw[Int.mul_comm sl n]
 congr 1
 omega
def least (a0 a7:Int):Int:=if a0=3 then a7 else 1
def mJ (a0:Int)(x t:Nat)(a3:Int)(a4:List dR)(a5:Int)(a6:List dR)(a7 a8:Int):Int×Int×Int×Int×Int:=
 if wK a0 x t a3 a4 a5 a6 a7 a8≠0 then(0,0,0,0,wK a0 x t a3 a4 a5 a6 a7 a8)
 else if a8<rJ x t a3 a5+pY a0 a4 a6+least a0 a7*pX a0 x a3 a4 then(0,0,0,0,13)
 else(rJ x t a3 a5,pY a0 a4 a6,pX a0 x a3 a4,if a0=3 then a7 else(a8-rJ x t a3 a5-pY a0 a4 a6) / pX a0 x a3 a4,0)
theorem cm1 {x t:Nat}{tp sl n:Int}(s:SFacts x t a3 a5 tp sl):cv (pf (t:Int) (x:Int) a3 a5 (max a3 a5) (x:Int) (t:Int) tp sl) fi (0,0,tp,sl,n)=some (rJ x t a3 a5,tp,sl,n):=by
 have hb:=bP0 (n:=1) s (by omega);have hp:=bN8 hb
 have e7:pre [(t:Int),x,a3,a5,max a3 a5,x,t,tp,sl*1] 7=rJ x t a3 a5:=by
  show 0+(t:Int)+x+a3+a5+max a3 a5+x+t=_;unfold rJ;omega
 rw[←e7];generalize hL:([(t:Int),x,a3,a5,max a3 a5,x,t,tp,sl*1]:List Int)=L at*;refine hO (n:=7) (fun i=>(pre L i,tp,sl,n)) (c:=(pre L 7,tp,sl,n)) (by omega) (fun i hi=> ?_) ?_
 ·unfold pf;rw[cr,zE (by omega),dp (show i<9 by omega)];simp only[zG]
  have e:bW [(t:Int),x,a3,a5,max a3 a5,x,t,tp,sl] i 0=L.getD i 0:=by
   subst hL;rcases(show i=0∨i=1∨i=2∨i=3∨i=4∨i=5∨i=6 by omega)with rfl|rfl|rfl|rfl|rfl|rfl|rfl<;>rfl
  have h1:=hp i;have h2:=hb i;rw[e,ck (n:=pre L i+L.getD i 0) (by omega),ck (n:=(i:Int)+1) (by omega)];rfl
 ·unfold pf;rw[cr,zF (by omega)]
theorem bi5 (h4:OpsOk a4)(h6:OpsOk a6):mp a0 a1 a2 a3 a4 a5 a6 a7 a8=some (mJ a0 a1.length a2.length a3 a4 a5 a6 a7 a8):=by
 unfold mp mJ;rw[aw1 h4 h6];simp only[zG];by_cases h:wK a0 a1.length a2.length a3 a4 a5 a6 a7 a8=0
 ·rw[zA (fun c=>c h),zD,zF (fun c=>c h),aV9 h4 h6 h];have s:=bv2 h4 h6 h;have f:=aU3 h4 h6 h;have g1:=f.mode;have g2:=f.len;have g3:=f.bud;have g4:=s.xs;have g5:=s.ts;have g6:=s.r;have g7:=s.r';have g8:=s.tp;have g9:=s.sl
  have hl:(cond (decide (a0=3)) (some a7) (some (1:Int)))=some (least a0 a7):=by
   unfold least;rw[cr];split<;>rfl
  have hln:0≤least a0 a7∧least a0 a7≤65535:=by unfold least;split<;>omega
  simp only[zG];rw[hl];simp only[zG];rw[cF5 s (by omega)];simp only[zG];rw[cm1 s];simp only[zG,cr];by_cases c:a8<rJ a1.length a2.length a3 a5+pY a0 a4 a6+least a0 a7*pX a0 a1.length a3 a4
  ·rw[zE c,zE c]
  ·rw[zF c,zF c];have hfx:0≤rJ a1.length a2.length a3 a5∧rJ a1.length a2.length a3 a5≤1000:=by unfold rJ;omega
   by_cases c3:a0=3
   ·rw[zF (fun k=>k c3),zE c3];unfold least;rw[zE c3]
   ·rw[zE c3,zF c3,cD2 (by omega)];unfold least at c;rw[zF c3]at c;generalize rJ a1.length a2.length a3 a5=fx at*;generalize pY a0 a4 a6=tp at*;generalize pX a0 a1.length a3 a4=sl at*;rw[ck (n:=a8-fx) (by omega),ck (n:=a8-fx-tp) (by omega),bW1 (by omega)];have hd1:0≤(a8-fx-tp) / sl:=cI (by omega) (by omega);have hd2:(a8-fx-tp) / sl≤a8-fx-tp:=cH _ (by omega);rw[ck (by omega)]
 ·rw[zB h,zC,zE h]
end
def Reach {α γ:Type}(f:α→Option (α⊕γ))(k:Nat)(s s':α):Prop:= ∀fu,cv f (fu+k) s=cv f fu s'
theorem Reach.refl {α γ:Type}{f:α→Option (α⊕γ)}{s:α}:Reach f 0 s s:=fun _=>rfl
theorem Reach.trans {α γ:Type}{f:α→Option (α⊕γ)}{k k':Nat}{s s' s'':α}(h:Reach f k s s')(h':Reach f k' s' s''):Reach f (k+k') s s'':=by
 intro fu;rw[show fu+(k+k')=(fu+k')+k by omega,h,h']
theorem Reach.one {α γ:Type}{f:α→Option (α⊕γ)}{s s':α}(h:f s=some (.inl s')):Reach f 1 s s':=by
 intro fu;rw[dP,h];rfl
section
variable {l:List dR}
theorem cK9 {i:Nat}{out st:List Int}(hl:l.length≤8192)(hst:st.length≤8192)(hi:i<l.length)(hk:0<l[i].1∧l[i].1<7)(ho:out.length=l.length):
  dS l ((i:Int),true,out,st,st)=some (.inl (((i+1:Nat):Int),true,out.set i (-1),st,st)):=by
 simp only[dS];rw[zB (show(i:Int)<(l.length:Int)by omega),zC,eE hi];simp only[zG];generalize hx:l[i]=x at*;rw[zA (show¬x.1<0 by omega),zD,zA (show¬7<x.1 by omega),zD,zA (show¬x.1=0 by omega)];simp only[zD,zG,dT];rw[dp (show i<out.length by omega)];simp only[zG];rw[aD (show i<out.length by omega)];simp only[zG];rw[zA (show¬x.1=7 by omega)];simp only[zD];rw[ck (n:=(i:Int)+1) (by omega)];rfl
theorem cu7 {i:Nat}{out st:List Int}(hl:l.length≤8192)(hst:st.length≤8192)(hi:i<l.length)(hk:l[i].1=7)(ho:out.length=l.length):
  dS l ((i:Int),true,out,st,st)=some (.inl (((i+1:Nat):Int),true,out.set i (-1),st++[(i:Int)],st++[(i:Int)])):=by
 simp only[dS];rw[zB (show(i:Int)<(l.length:Int)by omega),zC,eE hi];simp only[zG];generalize hx:l[i]=x at*;rw[zA (show¬x.1<0 by omega),zD,zA (show¬7<x.1 by omega),zD,zA (show¬x.1=0 by omega)];simp only[zD,zG,dT];rw[dp (show i<out.length by omega)];simp only[zG];rw[aD (show i<out.length by omega)];simp only[zG];rw[zB hk];simp only[zC];rw[dq (by omega) (by omega),dq (by omega) (by omega),ck (n:=(i:Int)+1) (by omega)];rfl
theorem ck7 {i q:Nat}{out st:List Int}(hl:l.length≤8192)(hst:st.length<8192)(hi:i<l.length)(hk:l[i].1=0)(ho:out.length=l.length)(hq:q<l.length):
  dS l ((i:Int),true,out,st++[(q:Int)],st++[(q:Int)])=some (.inl (((i+1:Nat):Int),true,((out.set i (-1)).set i (q:Int)).set q (i:Int),st,st)):=by
 have hlen:(st++[(q:Int)]).length=st.length+1:=by simp
 simp only[dS];rw[zB (show(i:Int)<(l.length:Int)by omega),zC,eE hi];simp only[zG];generalize hx:l[i]=x at*;rw[zA (show¬x.1<0 by omega),zD,zA (show¬7<x.1 by omega),zD,zB hk];simp only[zC,zG,dT];rw[zA (show¬((st++[(q:Int)]).length:Int)=0 by omega),zD];rw[ck (n:=((st++[(q:Int)]).length:Int)-1) (by omega),il (by omega),dN];simp only[zG,dT];have e7:decide (x.1=7)=false:=zA (by omega);rw[dp (show i<out.length by omega)];simp only[zG];rw[aD (show i<out.length by omega)];simp only[zG];rw[e7,zD,show((st++[(q:Int)]).length:Int)-1=(st.length:Int)by rw[hlen];omega,dp (show st.length<(st++[(q:Int)]).length by omega)];simp only[zG];rw[bB (aB _),aX];simp only[cY,zG]
 rw[dN,dp (show i<(out.set i (-1)).length by simp;omega)];simp only[zG];rw[aD (show i<(out.set i (-1)).length by simp;omega)];simp only[zG];rw[dp (show q<((out.set i (-1)).set i ((q:Nat):Int)).length by simp;omega)];simp only[zG];rw[aD (show q<((out.set i (-1)).set i ((q:Nat):Int)).length by simp;omega)];simp only[zG]
 have htk:(st++[(q:Int)]).take ((st.length:Int).toNat-0)=st:=by
  rw[show(st.length:Int).toNat-0=st.length by omega,cD];rfl
 rw[htk,ck (n:=(i:Int)+1) (by omega)];rfl
theorem bt8 (hl:l.length≤8192): ∀(k:Nat) (A seg B:List dR) (out st:List Int),seg.length≤k→l=A++seg++B→dn seg 0=some 0→out.length=l.length→st.length≤A.length→
  ∃out',Reach (dS l) seg.length ((A.length:Int),true,out,st,st) (((A.length+seg.length:Nat):Int),true,out',st,st)∧out'.length=l.length∧
   (∀j,¬(A.length≤j∧j<A.length+seg.length)→out'[j]?=out[j]?)∧∀j,A.length≤j→j<A.length+seg.length→(hj:j<l.length)→l[j].1=7→∀inner e rest,l.drop (j+1)=inner++e::rest→e.1=0→dn inner 0=some 0→out'[j]?=some ((j+1+inner.length:Nat):Int)
 |k,A,[],B,out,st,_,hsplit,hs,ho,hst=>⟨out,Reach.refl,ho,fun j _=>rfl,fun j h1 h2=>by simp at h2;omega⟩
 |0,A,o::seg,B,out,st,hk,_,_,_,_=>by simp at hk
 |k+1,A,o::seg,B,out,st,hk,hsplit,hs,ho,hst=>by
  simp only[aZ]at hk⊢;have hlen:l.length=A.length+(seg.length+1)+B.length:=by rw[hsplit];simp;omega
  have hlt:A.length<l.length:=by omega
  have hget:l[A.length]=o:=by
   have:l[A.length]?=some o:=by
    rw[hsplit,bA,bB (aB _),aX];rfl
   rw[aD hlt]at this;injection this
  by_cases hk7:o.1=7
  ·have hs1:dn seg 1=some 0:=by
    simp only[dn]at hs;rw[zF (by omega),zF (by omega),zE hk7]at hs;exact hs
   obtain⟨inner,e,rest,h1,h2,h3,h4⟩:=yD _ seg 0 (aB _) hs1;subst h1;simp only[bC,aZ]at hk hlen⊢
   have hd:l.drop (A.length+1)=inner++e::(rest++B):=by
    rw[hsplit,bA,bU,bV (by omega),show A.length+1-A.length=1 by omega];simp
   have hA1:(A++[o]).length=A.length+1:=by simp
   obtain⟨S1,r1,l1,k1,g1⟩:=bt8 hl k (A++[o]) inner (e::(rest++B)) (out.set A.length (-1)) (st++[(A.length:Int)]) (by omega) (by rw[hsplit];simp) h3 (by simp[ho]) (by simp;omega);rw[hA1]at r1 k1 g1;have hei:A.length+1+inner.length<l.length:=by omega
   have hee:l[A.length+1+inner.length]=e:=by
    have h5:(l.drop (A.length+1))[inner.length]?=some e:=by
     rw[hd,bB (aB _),aX];rfl
    rw[bX,aD hei]at h5;injection h5
   have c1:=ck7 (st:=st) hl (by omega) hei (by rw[hee];exact h2) l1 hlt;have hA2:(A++o::(inner++[e])).length=A.length+1+inner.length+1:=by simp;omega
   obtain⟨S2,r2,l3,k2,g2⟩:=bt8 hl k (A++o::(inner++[e])) rest B (((S1.set (A.length+1+inner.length) (-1)).set (A.length+1+inner.length) (A.length:Int)).set A.length ((A.length+1+inner.length:Nat):Int)) st (by omega) (by rw[hsplit];simp) h4 (by simp[l1]) (by omega);rw[hA2]at r2 k2 g2;refine⟨S2, ?_,l3,fun j hj=> ?_,fun j h5 h6 hj hk inner' e' rest' p1 p2 p3=> ?_⟩
   ·have h0:=Reach.one (cu7 (out:=out) (st:=st) hl (by omega) hlt (by rw[hget];exact hk7) ho);have h7:=((h0.trans r1).trans (Reach.one c1)).trans r2;rw[show 1+inner.length+1+rest.length=inner.length+(rest.length+1)+1 by omega,show A.length+1+inner.length+1+rest.length=A.length+(inner.length+(rest.length+1)+1)by omega]at h7;exact h7
   ·rw[k2 j (by omega),aY (by omega),aY (by omega),aY (by omega),k1 j (by omega),aY (by omega)]
   ·by_cases hj1:A.length+1+inner.length+1≤j
    ·exact g2 j hj1 (by omega) hj hk inner' e' rest' p1 p2 p3
    ·rw[k2 j (by omega)];by_cases hj2:A.length=j
     ·subst hj2;rw[bO (by simp;omega)];have:=tj (hd.symm.trans p1) h3 p3 h2 p2;subst this;rfl
     ·have hj3:j<A.length+1+inner.length:=by
       by_cases hj4:j<A.length+1+inner.length
       ·exact hj4
       ·exfalso;have hj4:j=A.length+1+inner.length:=by omega
        subst hj4;rw[hee]at hk;omega
      rw[aY hj2,aY (by omega),aY (by omega)];exact g1 j (by omega) hj3 hj hk inner' e' rest' p1 p2 p3
  ·obtain⟨hsr,hko,_⟩:=bf0 hs hk7;have hA1:(A++[o]).length=A.length+1:=by simp
   have c1:=cK9 (out:=out) (st:=st) hl (by omega) hlt (by rw[hget];exact hko) ho;obtain⟨S1,r1,l1,k1,g1⟩:=bt8 hl k (A++[o]) seg B (out.set A.length (-1)) st (by omega) (by rw[hsplit];simp) hsr (by simp[ho]) (by omega);rw[hA1]at r1 k1 g1;refine⟨S1, ?_,l1,fun j hj=> ?_,fun j h5 h6 hj hk inner' e' rest' p1 p2 p3=> ?_⟩
   ·have h7:=(Reach.one c1).trans r1;rw[show 1+seg.length=seg.length+1 by omega,show A.length+1+seg.length=A.length+(seg.length+1)by omega]at h7;exact h7
   ·rw[k1 j (by omega),aY (by omega)]
   ·by_cases hj1:A.length+1≤j
    ·exact g1 j hj1 (by omega) hj hk inner' e' rest' p1 p2 p3
    ·have hj2:j=A.length:=by omega
     subst hj2;exact(hk7 (by rw[←hget];exact hk)).elim
theorem aK3 (hl:l.length≤8192)(hs:dn l 0=some 0): ∃m,jl l=some (0,m)∧MOK l m:=by
 obtain⟨S',r1,l1,k1,g1⟩:=bt8 (l:=l) hl _ [] l [] (aW ((l.length:Int)).toNat (0:Int)) [] (aB _) (by simp) hs (by simp) (by simp);rw[show([]:List dR).length+l.length=l.length by simp]at r1 g1
 have hloop:cv (dS l) fi ((0:Int),true,aW ((l.length:Int)).toNat (0:Int),([]:List Int),([]:List Int))=some (true,S',[],[]):=by
  have h1:=r1 (18446744073709551616-l.length);rw[show 18446744073709551616-l.length+l.length=fi by unfold fi;omega,show 18446744073709551616-l.length=(18446744073709551615-l.length)+1 by omega]at h1;refine h1.trans ?_;rw[dP];simp only[dS];rw[zA (by omega),zD];rfl
 refine⟨S', ?_,⟨l1,fun i hi hk inner e rest p1 p2 p3=>g1 i (bK _) hi hi hk inner e rest p1 p2 p3⟩⟩;unfold jl;rw[zB (show(0:Int)≤(l.length:Int)by omega),zB (show(l.length:Int)≤(l.length:Int)by omega),zB (show 8*(l.length:Int)≤140737488355328 by omega)];show gd true _=_;rw[dN,hloop];rfl
end
section
variable {l:List dR}
theorem cj6 {i:Nat}{sz rds:List Int}{pre:List (Int×Int)}{a w:Int}(hl:l.length≤8192)(hp:pre.length≤8192)(hi:i<l.length):
  dL l ((i:Int),sz,rds,pre++[(a,w)])=(cond (decide (l[i].1=7))
   (some (.inl (((i+1:Nat):Int),sz,rds,pre++[(a,w)]++[((i:Int),0)])))
   (cond (decide (l[i].1=0))
    ((rd l a).bind fun x14=>
    (pp w x14.2.2.2.2).bind fun r15=>
    cond (!r15.2)
     (some (.inr ((9,sz,rds,pre++[(a,w)]))))
     ((ix a sz.length).bind fun j19=>
     (sz[j19]?).bind fun x20=>
     (ix a rds.length).bind fun j21=>
     (rds[j21]?).bind fun x22=>
     gd (gp 0 (pre.length:Int) (pre.length+1)) ((ix (zH zI ((pre.length:Int)-1)) pre.length).bind fun j23=>
     ((pre++[(a,w)])[(0+j23)]?).bind fun x24=>
     (tG ([x24.2,r15.1])).bind fun r25=>
     (ix (zH zI ((pre.length:Int)-1)) pre.length).bind fun j26=>
     ((pre++[(a,w)])[(0+j26)]?).bind fun x27=>
     some (.inl (((i+1:Nat):Int),(cA sz j19 r15.1),(cA rds j21 w),(List.take pre.length ((cA (pre++[(a,w)]) (0+j26) ((x27.1,r25))))))))))
    ((ip l[i].1 l[i].2.1 l[i].2.2.1 l[i].2.2.2.1 l[i].2.2.2.2).bind fun r28=>
    cond (r28.2)
     ((ix (i:Int) sz.length).bind fun j29=>
     (sz[j29]?).bind fun x30=>
     some (.inl (((i+1:Nat):Int),(cA sz j29 1),rds,pre++[(a,zH zI (w+1))])))
     (some (.inl (((i+1:Nat):Int),sz,rds,pre++[(a,w)])))))):=by
 have hlen:(pre++[(a,w)]).length=pre.length+1:=by simp
 have hget:(pre++[(a,w)])[pre.length]?=some (a,w):=by
  rw[bB (aB _),aX];rfl
 have hset: ∀w',(pre++[(a,w)]).set pre.length (a,w')=pre++[(a,w')]:=by
  intro w';rw[cB _ _ (aB _),aX];rfl
 simp only[dL];rw[zB (show(i:Int)<(l.length:Int)by omega),zC,eE hi];simp only[zG];rw[hlen,ck (n:=((pre.length+1:Nat):Int)-1) (by omega),show((pre.length+1:Nat):Int)-1=(pre.length:Int)by omega,dp (show pre.length<pre.length+1 by omega)];simp only[zG];rw[hget,ck (n:=(i:Int)+1) (by omega),dq (by omega) (by omega),show(i:Int)+1=((i+1:Nat):Int)by omega];simp only[zG];rw[hset,show((pre.length:Int).toNat-0)=pre.length by omega]
theorem cO0 {i:Nat}{sz rds:List Int}{pre:List (Int×Int)}{a w:Int}(hl:l.length≤8192)(hp:pre.length≤8192)(hi:i<l.length)(hk:0<l[i].1∧l[i].1<7)(hsz:sz.length=l.length)(hw:0≤w∧w≤1000000000):
  dL l ((i:Int),sz,rds,pre++[(a,w)])=some (.inl (((i+1:Nat):Int),sz.set i 1,rds,pre++[(a,w+1)])):=by
 rw[cj6 hl hp hi,zA (by omega),zA (by omega)];simp only[zD];rw[an5 hk];simp only[zG,zC];rw[dp (show i<sz.length by omega)];simp only[zG];rw[aD (show i<sz.length by omega)];simp only[zG];rw[ck (n:=w+1) (by omega)]
theorem cE2 {i:Nat}{sz rds:List Int}{pre:List (Int×Int)}{a w:Int}(hl:l.length≤8192)(hp:pre.length≤8192)(hi:i<l.length)(hk:l[i].1=7):
  dL l ((i:Int),sz,rds,pre++[(a,w)])=some (.inl (((i+1:Nat):Int),sz,rds,pre++[(a,w)]++[((i:Int),0)])):=by
 rw[cj6 hl hp hi,zB hk,zC]
theorem cu0 {i an:Nat}{sz rds:List Int}{pre:List (Int×Int)}{a w w2 n:Int}(hl:l.length≤8192)(hp:pre.length<8192)(hi:i<l.length)(hk:l[i].1=0)(han:an<l.length)(hsz:sz.length=l.length)(hrd:rds.length=l.length)(hw:0≤w∧w≤1000000000)(hw2:0≤w2∧w2≤1000000000)
  (hv:0≤l[an].2.2.2.2∧l[an].2.2.2.2≤18446744073709551615) (hb:uS w l[an].2.2.2.2=some n):
  dL l ((i:Int),sz,rds,pre++[(a,w2)]++[((an:Int),w)])=some (.inl (((i+1:Nat):Int),sz.set an n,rds.set an w,pre++[(a,w2+n)])):=by
 have hl2:(pre++[(a,w2)]).length=pre.length+1:=by simp
 rw[cj6 hl (by omega) hi,zA (by omega),zB hk];simp only[zD,zC];rw[eE han];simp only[zG];rw[aY1 ⟨hw.1,by omega⟩ hv,hb];have hn:=au9 hw.1 hv.1 hb;simp only[zG,bQ,zD];rw[dp (show an<sz.length by omega)];simp only[zG];rw[aD (show an<sz.length by omega)];simp only[zG];rw[dp (show an<rds.length by omega)];simp only[zG];rw[aD (show an<rds.length by omega)];simp only[zG];rw[il (by omega),dN,hl2,ck (n:=((pre.length+1:Nat):Int)-1) (by omega),show((pre.length+1:Nat):Int)-1=(pre.length:Int)by omega,dp (show pre.length<pre.length+1 by omega)];simp only[zG,bI]
 have hg2:(pre++[(a,w2)]++[((an:Int),w)])[pre.length]?=some (a,w2):=by
  rw[bA,bB (aB _),aX];rfl
 rw[hg2];simp only[zG];rw[bG8 _ _ (by omega) hn];simp only[zG]
 have htk:((pre++[(a,w2)]++[((an:Int),w)]).set pre.length (a,w2+n)).take (pre.length+1)=pre++[(a,w2+n)]:=by
  rw[bA,cB _ _ (aB _),aX];show(pre++[(a,w2+n),((an:Int),w)]).take (pre.length+1)=_;rw[show [(a,w2+n),((an:Int),w)]=[(a,w2+n)]++[((an:Int),w)]from rfl,←bA,cD];simp
 rw[htk]
def cB4 (l:List dR)(j:Nat)(a b:Int):Prop:= ∀h:j<l.length,(l[j].1=7→∀inner e rest,l.drop (j+1)=inner++e::rest→e.1=0→dn inner 0=some 0→Q9 inner=some b∧uS b l[j].2.2.2.2=some a)∧(l[j].1≠7→b=0∧a=if l[j].1=0 then 0 else 1)
theorem bU1 (hl:l.length≤8192)(hv: ∀o∈l,0≤o.2.2.2.2∧o.2.2.2.2≤18446744073709551615): ∀(k:Nat) (A seg B:List dR) (S R:List Int) (pre:List (Int×Int)) (p w t:Int),seg.length≤k→l=A++seg++B→dn seg 0=some 0→Q9 seg=some t→S.length=l.length→R.length=l.length→pre.length≤A.length→0≤w∧w≤65537*A.length→(∀j,A.length≤j→j<A.length+seg.length→S[j]?=some 0∧R[j]?=some 0)→
  ∃S' R',Reach (dL l) seg.length ((A.length:Int),S,R,pre++[(p,w)]) (((A.length+seg.length:Nat):Int),S',R',pre++[(p,w+t)])∧S'.length=l.length∧R'.length=l.length∧(0≤t∧t≤65537*seg.length)∧
   (∀j,¬(A.length≤j∧j<A.length+seg.length)→S'[j]?=S[j]?∧R'[j]?=R[j]?)∧∀j,A.length≤j→j<A.length+seg.length→∃a b,S'[j]?=some a∧R'[j]?=some b∧cB4 l j a b
 |k,A,[],B,S,R,pre,p,w,t,_,hsplit,hs,hq,hS,hR,hpre,hw,hz=>by
  injection hq with hq
  subst hq;refine⟨S,R, ?_,hS,hR,⟨bS _,by simp⟩,fun j _=>⟨rfl,rfl⟩,fun j h1 h2=> ?_⟩
  ·rw[bR];exact Reach.refl
  ·simp at h2;omega
 |0,A,o::seg,B,S,R,pre,p,w,t,hk,_,_,_,_,_,_,_,_=>by simp at hk
 |k+1,A,o::seg,B,S,R,pre,p,w,t,hk,hsplit,hs,hq,hS,hR,hpre,hw,hz=>by
  simp only[aZ]at hk hz⊢;have hlen:l.length=A.length+(seg.length+1)+B.length:=by rw[hsplit];simp;omega
  have hlt:A.length<l.length:=by omega
  have hget:l[A.length]=o:=by
   have:l[A.length]?=some o:=by
    rw[hsplit,bA,bB (aB _),aX];rfl
   rw[aD hlt]at this;injection this
  by_cases hk7:o.1=7
  ·have hs1:dn seg 1=some 0:=by
    simp only[dn]at hs;rw[zF (by omega),zF (by omega),zE hk7]at hs;exact hs
   obtain⟨inner,e,rest,h1,h2,h3,h4⟩:=yD _ seg 0 (aB _) hs1;subst h1;simp only[bC,aZ]at hk hz hlen⊢;obtain⟨hsr,hQ⟩:=bn4 hs hk7 h2 h3;rw[hQ]at hq;obtain⟨wi,hwi,hq⟩:=cm hq;obtain⟨b,hb,hq⟩:=cm hq;cases hqr:Q9 rest with
   |none=>rw[hqr]at hq;cases hq
   |some tr=>
   rw[hqr]at hq;injection hq with hq
   have hq:b+tr=t:=hq;have hov:0≤o.2.2.2.2∧o.2.2.2.2≤18446744073709551615:=by rw[←hget];exact hv _ (bF hlt)
   have hd:l.drop (A.length+1)=inner++e::(rest++B):=by
    rw[hsplit,bA,bU,bV (by omega),show A.length+1-A.length=1 by omega];simp
   have hA1:(A++[o]).length=A.length+1:=by simp
   obtain⟨S1,R1,r1,l1,l2,⟨t1,t2⟩,k1,g1⟩:=bU1 hl hv k (A++[o]) inner (e::(rest++B)) S R (pre++[(p,w)]) (A.length:Int) 0 wi (by omega) (by rw[hsplit];simp) h3 hwi hS hR (by simp;omega) (by omega) (fun j h5 h6=>hz j (by omega) (by omega));rw[hA1]at r1 k1 g1;have hei:A.length+1+inner.length<l.length:=by omega
   have hee:l[A.length+1+inner.length]=e:=by
    have h5:(l.drop (A.length+1))[inner.length]?=some e:=by
     rw[hd,bB (aB _),aX];rfl
    rw[bX,aD hei]at h5;injection h5
   have hbn:=au9 t1 hov.1 hb;have c1:=cu0 (pre:=pre) (a:=p) (w2:=w) hl (by omega) hei (by rw[hee];exact h2) hlt l1 l2 (w:=0+wi) (by omega) (by omega) (by rw[hget];exact hov) (n:=b) (by rw[hget,bD];exact hb);have hA2:(A++o::(inner++[e])).length=A.length+1+inner.length+1:=by simp;omega
   obtain⟨S2,R2,r2,l3,l4,⟨t3,t4⟩,k2,g2⟩:=bU1 hl hv k (A++o::(inner++[e])) rest B (S1.set A.length b) (R1.set A.length (0+wi)) pre p (w+b) tr (by omega) (by rw[hsplit];simp) hsr hqr (by simp[l1]) (by simp[l2]) (by omega) (by omega) (fun j h5 h6=>by
    rw[hA2]at h5 h6;rw[aY (by omega),aY (by omega),(k1 j (by omega)).1,(k1 j (by omega)).2]
    exact hz j (by omega) (by omega))
   rw[hA2]at r2 k2 g2;refine⟨S2,R2, ?_,l3,l4,⟨by omega,by omega⟩,fun j hj=> ?_,fun j h5 h6=> ?_⟩
   ·have h0:=Reach.one (cE2 (sz:=S) (rds:=R) (pre:=pre) (a:=p) (w:=w) hl (by omega) hlt (by rw[hget];exact hk7));have h7:=((h0.trans r1).trans (Reach.one c1)).trans r2;rw[show 1+inner.length+1+rest.length=inner.length+(rest.length+1)+1 by omega,bG,hq,show A.length+1+inner.length+1+rest.length=A.length+(inner.length+(rest.length+1)+1)by omega]at h7;exact h7
   ·rw[(k2 j (by omega)).1,(k2 j (by omega)).2,aY (by omega),aY (by omega),(k1 j (by omega)).1,(k1 j (by omega)).2];exact⟨rfl,rfl⟩
   ·by_cases hj1:A.length+1+inner.length+1≤j
    ·exact g2 j hj1 (by omega)
    ·rw[(k2 j (by omega)).1,(k2 j (by omega)).2];by_cases hj2:A.length=j
     ·subst hj2;rw[bO (by omega),bO (by omega)];refine⟨_,_,rfl,rfl,fun h=>⟨fun _ inner' e' rest' p1 p2 p3=> ?_,fun h'=>(h' (by rw[hget];exact hk7)).elim⟩⟩;have:=tj (hd.symm.trans p1) h3 p3 h2 p2;subst this;rw[bD,hget];exact⟨hwi,hb⟩
     ·rw[aY hj2,aY hj2];by_cases hj3:j<A.length+1+inner.length
      ·exact g1 j (by omega) hj3
      ·have hj4:j=A.length+1+inner.length:=by omega
       subst hj4;rw[(k1 _ (by omega)).1,(k1 _ (by omega)).2,(hz _ h5 h6).1,(hz _ h5 h6).2];refine⟨0,0,rfl,rfl,fun h=>⟨fun h'=> ?_,fun _=>⟨rfl, ?_⟩⟩⟩
       ·rw[hee]at h';omega
       ·rw[hee,zE h2]
  ·obtain⟨hsr,hko,hQ⟩:=bf0 hs hk7;rw[hQ]at hq;cases hqr:Q9 seg with
   |none=>rw[hqr]at hq;cases hq
   |some tr=>
   rw[hqr]at hq;injection hq with hq
   have hq:1+tr=t:=hq;have hA1:(A++[o]).length=A.length+1:=by simp
   have c1:=cO0 (sz:=S) (rds:=R) (pre:=pre) (a:=p) (w:=w) hl (by omega) hlt (by rw[hget];exact hko) hS (by omega)
   obtain⟨S1,R1,r1,l1,l2,⟨t1,t2⟩,k1,g1⟩:=bU1 hl hv k (A++[o]) seg B (S.set A.length 1) R pre p (w+1) tr (by omega) (by rw[hsplit];simp) hsr hqr (by simp[hS]) hR (by omega) (by omega) (fun j h5 h6=>by
    rw[hA1]at h5 h6;rw[aY (by omega)]
    exact hz j (by omega) (by omega))
   rw[hA1]at r1 k1 g1;refine⟨S1,R1, ?_,l1,l2,⟨by omega,by omega⟩,fun j hj=> ?_,fun j h5 h6=> ?_⟩
   ·have h7:=(Reach.one c1).trans r1;rw[show 1+seg.length=seg.length+1 by omega,bG,hq,show A.length+1+seg.length=A.length+(seg.length+1)by omega]at h7;exact h7
   ·rw[(k1 j (by omega)).1,(k1 j (by omega)).2,aY (by omega)];exact⟨rfl,rfl⟩
   ·by_cases hj1:A.length+1≤j
    ·exact g1 j hj1 (by omega)
    ·have hj2:j=A.length:=by omega
     subst hj2;rw[(k1 _ (by omega)).1,(k1 _ (by omega)).2,bO (by omega),(hz _ h5 h6).2];refine⟨1,0,rfl,rfl,fun h=>⟨fun h'=>(hk7 (by rw[←hget];exact h')).elim,fun _=>⟨rfl, ?_⟩⟩⟩;rw[hget,zF (by omega)]
end
theorem bv3 {l:List dR}(hl:l.length≤4096)(hv: ∀o∈l,0≤o.2.2.2.2∧o.2.2.2.2≤18446744073709551615):
  ∃r,iR l=some r∧r.1=(ej l).1∧r.2.1=(ej l).2∧(((ej l).2≠0∧r.2.2=([],[]))∨((ej l).2=0∧dn l 0=some 0∧r.2.2.1.length=l.length∧r.2.2.2.length=l.length∧∀j,j<l.length→∃a b,r.2.2.1[j]?=some a∧r.2.2.2[j]?=some b∧cB4 l j a b)):=by
 have hW:=rN (by omega) hv;unfold fD at hW;obtain⟨r,hr,hW⟩:=cm hW;injection hW with hW
 refine⟨r,hr,by rw[←hW],by rw[←hW], ?_⟩;unfold iR at hr;obtain⟨m,hm⟩:=yr (l:=l) (by omega);rw[hm]at hr;by_cases hs:dn l 0=some 0
 ·simp only[zE hs]at hr;simp only[zG]at hr;rw[zA (by simp),zD]at hr;rw[zB (show(0:Int)≤(l.length:Int)by omega),zB (show(l.length:Int)≤(l.length:Int)by omega),zB (show 8*(l.length:Int)≤140737488355328 by omega)]at hr;have hgd: ∀{β:Type} {y:Option β},gd (cE 1 (Sh.w (.int .i64))&&true&&true&&true&&Nat.ble 1 8) y=y:=fun {β y}=>rfl
  rw[hgd,hgd]at hr;cases hq:Q9 l with
  |none=>
   have hw9:ej l=(0,9):=by unfold ej;rw[zE hs,hq]
   left;refine⟨by rw[hw9];simp, ?_⟩;obtain⟨c,hc,hr⟩:=cm hr;obtain⟨s36,h36,hr⟩:=cm hr;rw[cr]at hr;split at hr
   ·injection hr with hr
    rw[←hr]
   ·rename_i hz;exfalso;obtain⟨j,hj,hr⟩:=cm hr;obtain⟨x,hx,hr⟩:=cm hr;injection hr with hr
    rw[←hr,hw9]at hW;injection hW with _ hW
    cases hW
  |some t=>
   obtain⟨S',R',r1,l1,l2,⟨t1,t2⟩,k1,g1⟩:=bU1 (l:=l) (by omega) hv _ [] l [] (aW ((l.length:Int)).toNat (0:Int)) (aW ((l.length:Int)).toNat (0:Int)) [] 0 0 t (aB _) (by simp) hs hq (by simp) (by simp) (by simp) (by simp) (fun j _ hj=>by
    rw[List.getElem?_replicate,zE (by simpa using hj)]
    exact⟨rfl,rfl⟩)
   rw[show([]:List dR).length+l.length=l.length by simp]at r1 g1
   have hloop:cv (dL l) fi ((0:Int),aW ((l.length:Int)).toNat (0:Int),aW ((l.length:Int)).toNat (0:Int),[((0:Int),(0:Int))])=some (0,S',R',[(0,0+t)]):=by
    have h1:=r1 (18446744073709551616-l.length);rw[show 18446744073709551616-l.length+l.length=fi by unfold fi;omega,show 18446744073709551616-l.length=(18446744073709551615-l.length)+1 by omega]at h1;refine h1.trans ?_;rw[dP];simp only[dL];rw[zA (by omega),zD];rfl
   rw[hloop,bD]at hr;have hr:((((cond (decide (65536<t)) (some (9:Int)) (some 0)).bind fun s36=>cond (decide (s36≠0)) (some ((0:Int),s36,([]:List Int),([]:List Int))) (some (t,0,S',R')))))=some r:=hr;rw[cr]at hr;have hw9:ej l=if 65536<t then(0,9)else(t,0):=by unfold ej;rw[zE hs,hq]
   by_cases c:65536<t
   ·rw[zE c]at hr hw9;left;injection hr with hr
    rw[←hr,hw9];exact⟨by simp,rfl⟩
   ·rw[zF c]at hr hw9;right;injection hr with hr
    rw[←hr,hw9];exact⟨rfl,hs,l1,l2,fun j hj=>g1 j (bK _) hj⟩
 ·simp only[zF hs]at hr;left;have hw9:ej l=(0,6):=by unfold ej;rw[zF hs]
  have hr:some ((0:Int),(6:Int),([]:List Int),([]:List Int))=some r:=hr;injection hr with hr
  rw[←hr,hw9];exact⟨by simp,rfl⟩
abbrev rZ :=Int×Int×Int×Int×Int×Int
inductive Fo where
 |nil
 |op (o:dR) (r:Fo)
 |rep (o:dR) (b:Fo) (e:dR) (r:Fo)
def uC (o:dR):Nat:=o.2.2.2.2.toNat
def dG (o:dR)(to:Nat):rZ:=(o.1,o.2.1,o.2.2.1,o.2.2.2.1,o.2.2.2.2,(to:Int))
namespace Fo
def src :Fo→List dR
 | .nil=>[]
 | .op o r=>o::r.src
 | .rep o b e r=>o::(b.src++e::r.src)
def Ok :Fo→Prop
 | .nil=>True
 | .op o r=>(0<o.1∧o.1<7)∧r.Ok
 | .rep o b e r=>(o.1=7∧e.1=0)∧b.Ok∧r.Ok
def n :Fo→Nat
 | .nil=>0
 | .op _ r=>1+r.n
 | .rep o b _ r=>b.n*uC o+r.n
def len :Fo→Nat
 | .nil=>0
 | .op _ r=>r.len+1
 | .rep _ b _ r=>b.len+r.len+2
def hi :Fo→Nat
 | .nil=>0
 | .op _ r=>r.hi
 | .rep _ b _ r=>max (b.hi+1) r.hi
def bare :Fo→Fo
 | .nil=> .nil
 | .op o r=> .op o r.bare
 | .rep o b e r=>if b.n*uC o=0 then r.bare else .rep o b.bare e r.bare
def unroll :Fo→List dR
 | .nil=>[]
 | .op o r=>o::r.unroll
 | .rep o b _ r=>(aW (uC o) b.unroll).flatten++r.unroll
def code :Fo→Nat→List rZ
 | .nil,_=>[]
 | .op o r,p=>dG o 0::r.code (p+1)
 | .rep o b e r,p=>dG o (p+b.len+2)::(b.code (p+1)++dG e (p+1)::r.code (p+b.len+2))
def Pos :Fo→Prop
 | .nil=>True
 | .op _ r=>r.Pos
 | .rep o b _ r=>0<b.n*uC o∧b.Pos∧r.Pos
def steps :Fo→Nat
 | .nil=>0
 | .op _ r=>1+r.steps
 | .rep o b _ r=>1+uC o*(b.steps+1)+r.steps
theorem src_len : ∀f:Fo,f.src.length=f.len
 | .nil=>rfl
 | .op o r=>by simp only[src,len,aZ,src_len r]
 | .rep o b e r=>by simp only[src,len,aZ,bC,src_len r,src_len b];omega
theorem code_len : ∀(f:Fo) (p:Nat),(f.code p).length=f.len
 | .nil,_=>rfl
 | .op o r,p=>by simp only[code,len,aZ,code_len r]
 | .rep o b e r,p=>by simp only[code,len,aZ,bC,code_len r,code_len b];omega
theorem scan_src : ∀(f:Fo),f.Ok→∀(r:List dR) (d:Nat),dn (f.src++r) d=dn r d
 | .nil,_,r,d=>rfl
 | .op o f,h,r,d=>by
  obtain⟨h1,h2⟩:=h;simp only[src,bE,dn];rw[zF (by omega),zF (by omega),zF (by omega)];exact scan_src f h2 r d
 | .rep o b e f,h,r,d=>by
  obtain⟨⟨h1,h2⟩,h3,h4⟩:=h;simp only[src,bE,bA,dn];rw[zF (by omega),zF (by omega),zE h1,scan_src b h3];simp only[dn];rw[zF (by omega),zE h2,zF (by omega)];exact scan_src f h4 r d
theorem scan0 {f:Fo}(h:f.Ok):dn f.src 0=some 0:=by
 have:=scan_src f h [] 0;rw[bT]at this;exact this
theorem parse : ∀(N:Nat) (l:List dR),l.length≤N→dn l 0=some 0→∃f:Fo,f.Ok∧f.src=l
 |_,[],_,_=>⟨.nil,trivial,rfl⟩
 |0,o::l,h,_=>by simp at h
 |N+1,o::l,h,hs=>by
  simp only[aZ]at h;by_cases hk:o.1=7
  ·have hs1:dn l 1=some 0:=by
    simp only[dn]at hs;rw[zF (by omega),zF (by omega),zE hk]at hs;exact hs
   obtain⟨inner,e,rest,h1,h2,h3,h4⟩:=yD _ l 0 (aB _) hs1;subst h1;simp only[bC,aZ]at h;obtain⟨b,b1,b2⟩:=parse N inner (by omega) h3;obtain⟨r,r1,r2⟩:=parse N rest (by omega) h4;exact⟨.rep o b e r,⟨⟨hk,h2⟩,b1,r1⟩,by simp only[src,b2,r2]⟩
  ·obtain⟨h1,h2,_⟩:=bf0 hs hk;obtain⟨r,r1,r2⟩:=parse N l (by omega) h1;exact⟨.op o r,⟨h2,r1⟩,by simp only[src,r2]⟩
theorem Q9_n : ∀(f:Fo),f.Ok→(∀o∈f.src,0≤o.2.2.2.2)→∀{t:Int},Q9 f.src=some t→t=(f.n:Int)
 | .nil,_,_,t,h=>by
  injection h with h
  exact h.symm
 | .op o r,h,hv,t,hq=>by
  obtain⟨h1,h2⟩:=h;have hs:=scan0 (f:= .op o r) ⟨h1,h2⟩;obtain⟨_,_,h3⟩:=bf0 (o:=o) (s:=r.src) hs (by omega);have hq:Q9 (o::r.src)=some t:=hq;rw[h3]at hq;cases hr:Q9 r.src with
  |none=>rw[hr]at hq;cases hq
  |some m=>
   rw[hr]at hq;injection hq with hq
   have:=Q9_n r h2 (fun x hx=>hv x (List.mem_cons_of_mem _ hx)) hr;subst this;rw[←hq];show(1:Int)+(r.n:Int)=((1+r.n:Nat):Int);omega
 | .rep o b e r,h,hv,t,hq=>by
  obtain⟨⟨h1,h2⟩,h3,h4⟩:=h;have hs:=scan0 (f:= .rep o b e r) ⟨⟨h1,h2⟩,h3,h4⟩;obtain⟨_,h5⟩:=bn4 (o:=o) (e:=e) (inner:=b.src) (rest:=r.src) hs h1 h2 (scan0 h3);have hq:Q9 (o::(b.src++e::r.src))=some t:=hq;rw[h5]at hq;obtain⟨w,hw,hq⟩:=cm hq;obtain⟨c,hc,hq⟩:=cm hq;cases hr:Q9 r.src with
  |none=>rw[hr]at hq;cases hq
  |some m=>
   rw[hr]at hq;injection hq with hq
   have e1:=Q9_n r h4 (fun x hx=>hv x (by simp only[src];simp[hx])) hr;have e2:=Q9_n b h3 (fun x hx=>hv x (by simp only[src];simp[hx])) hw;have hv0:0≤o.2.2.2.2:=hv o (by simp[src])
   have e3:c=(b.n:Int)*(uC o:Int):=by
    unfold uS at hc;rw[e2]at hc;unfold uC;rw[cL hv0];split at hc
    ·rename_i hz;injection hc with hc
     rw[hz,Int.zero_mul,hc]
    split at hc
    ·cases hc
    split at hc
    ·cases hc
    ·injection hc with hc
     exact hc.symm
   rw[←hq,e1,e3];show(b.n:Int)*(uC o:Int)+(r.n:Int)=((b.n*uC o+r.n:Nat):Int);simp
theorem hmax_src : ∀(f:Fo),f.Ok→∀(r:List dR) (d m:Nat),hmax (f.src++r) d m=hmax r d (max m (if f.hi=0 then 0 else d+f.hi))
 | .nil,_,r,d,m=>by
  simp only[src,bH,hi,zE];rw[Nat.max_zero]
 | .op o f,h,r,d,m=>by
  obtain⟨h1,h2⟩:=h;simp only[src,bE,hmax,hi];rw[zF (by omega),zF (by omega)];exact hmax_src f h2 r d m
 | .rep o b e f,h,r,d,m=>by
  obtain⟨⟨h1,h2⟩,h3,h4⟩:=h;simp only[src,bE,bA,hmax,hi];rw[zE h1,hmax_src b h3];simp only[hmax];rw[zF (by omega),zE h2,dE,hmax_src f h4]
  congr 1
  have e0:(if max (b.hi+1) f.hi=0 then 0 else d+max (b.hi+1) f.hi)=d+max (b.hi+1) f.hi:=zF (by omega);refine Eq.trans ?_ (congrArg (max m) e0.symm);split<;>split<;>omega
theorem hi_le {f:Fo}(h:f.Ok):f.hi≤hmax f.src 0 0:=by
 have:=hmax_src f h [] 0 0;rw[bT]at this;rw[this];simp only[hmax];split<;>omega
theorem bare_n : ∀f:Fo,f.bare.n=f.n
 | .nil=>rfl
 | .op o r=>by simp only[bare,n,bare_n r]
 | .rep o b e r=>by
  simp only[bare,n];split
  ·rename_i h;rw[h,bare_n r,bI]
  ·simp only[n,bare_n b,bare_n r]
theorem unroll_len : ∀f:Fo,f.unroll.length=f.n
 | .nil=>rfl
 | .op o r=>by simp only[unroll,n,aZ,unroll_len r];omega
 | .rep o b e r=>by
  simp only[unroll,n,bC,unroll_len r];rw[cZ,dA,dD,unroll_len b,cU]
theorem bare_unroll : ∀f:Fo,f.bare.unroll=f.unroll
 | .nil=>rfl
 | .op o r=>by simp only[bare,unroll,bare_unroll r]
 | .rep o b e r=>by
  simp only[bare,unroll];split
  ·rename_i h
   have h1:((aW (uC o) b.unroll).flatten).length=0:=by
    rw[cZ,dA,dD,unroll_len b,cU,h]
   rw[List.eq_nil_of_length_eq_zero h1,bH,bare_unroll r]
  ·simp only[unroll,bare_unroll b,bare_unroll r]
theorem bare_ok : ∀f:Fo,f.Ok→f.bare.Ok
 | .nil,_=>trivial
 | .op o r,h=>⟨h.1,bare_ok r h.2⟩
 | .rep o b e r,h=>by
  simp only[bare];split
  ·exact bare_ok r h.2.2
  ·exact⟨h.1,bare_ok b h.2.1,bare_ok r h.2.2⟩
theorem bare_pos : ∀f:Fo,f.bare.Pos
 | .nil=>trivial
 | .op o r=>bare_pos r
 | .rep o b e r=>by
  simp only[bare];split
  ·exact bare_pos r
  ·rename_i h;exact⟨by rw[bare_n];omega,bare_pos b,bare_pos r⟩
theorem bare_hi : ∀f:Fo,f.bare.hi≤f.hi
 | .nil=>aB _
 | .op o r=>bare_hi r
 | .rep o b e r=>by
  simp only[bare,hi];have h1:=bare_hi b;have h2:=bare_hi r;split
  ·omega
  ·simp only[hi];omega
theorem bare_len : ∀f:Fo,f.bare.len≤f.len
 | .nil=>aB _
 | .op o r=>by simp only[bare,len];exact Nat.succ_le_succ (bare_len r)
 | .rep o b e r=>by
  simp only[bare,len];have h1:=bare_len b;have h2:=bare_len r;split
  ·omega
  ·simp only[len];omega
theorem bare_mem : ∀(f:Fo) {o:dR},o∈f.bare.src→o∈f.src
 | .nil,o,h=>h
 | .op o r,x,h=>by
  simp only[bare,src,cQ]at h⊢;rcases h with h|h
  ·exact .inl h
  ·exact .inr (bare_mem r h)
 | .rep o b e r,x,h=>by
  simp only[bare]at h;split at h
  ·simp only[src,cQ,dB];exact .inr (.inr (.inr (bare_mem r h)))
  ·simp only[src,cQ,dB]at h⊢;rcases h with h|h|h|h
   ·exact .inl h
   ·exact .inr (.inl (bare_mem b h))
   ·exact .inr (.inr (.inl h))
   ·exact .inr (.inr (.inr (bare_mem r h)))
theorem steps_le : ∀f:Fo,f.Pos→f.steps≤(2*f.len+1)*f.n
 | .nil,_=>aB _
 | .op o r,h=>by
  have h1:=steps_le r h;simp only[steps,len,n];rw[cT,cG];have:(2*r.len+1)*r.n≤(2*(r.len+1)+1)*r.n:=cV _ (by omega);omega
 | .rep o b e r,h=>by
  obtain⟨h1,h2,h3⟩:=h;have i1:=steps_le b h2;have i2:=steps_le r h3;simp only[steps,len,n]
  have hv:0<uC o:=by
   rcases cF (uC o)with h0|h0
   ·rw[h0]at h1;simp at h1
   ·exact h0
  have hb:0<b.n:=by
   rcases cF b.n with h0|h0
   ·rw[h0]at h1;simp at h1
   ·exact h0
  have hx:uC o≤b.n*uC o:=Nat.le_mul_of_pos_left _ hb
  have j1:uC o*(b.steps+1)≤(2*b.len+1)*(b.n*uC o)+b.n*uC o:=by
   rw[cT,cG];have:uC o*b.steps≤uC o*((2*b.len+1)*b.n):=Nat.mul_le_mul_left _ i1
   have e1:uC o*((2*b.len+1)*b.n)=(2*b.len+1)*(b.n*uC o):=by
    rw[cU,Nat.mul_assoc]
   omega
  have j2:(2*r.len+1)*r.n≤(2*(b.len+r.len+2)+1)*r.n:=cV _ (by omega);have j3:(2*b.len+3)*(b.n*uC o)≤(2*(b.len+r.len+2)+1)*(b.n*uC o):=cV _ (by omega)
  have j4:(2*b.len+3)*(b.n*uC o)=(2*b.len+1)*(b.n*uC o)+b.n*uC o+b.n*uC o:=by
   rw[show 2*b.len+3=(2*b.len+1)+1+1 by omega,Nat.add_mul,Nat.add_mul,Nat.one_mul]
  rw[cT (2*(b.len+r.len+2)+1)];generalize uC o*(b.steps+1)=y1 at*;generalize (2*(b.len+r.len+2)+1)*(b.n*uC o)=y2 at*;generalize (2*(b.len+r.len+2)+1)*r.n=y3 at*;generalize (2*r.len+1)*r.n=y4 at*;generalize (2*b.len+3)*(b.n*uC o)=y5 at*;generalize (2*b.len+1)*(b.n*uC o)=y6 at*;omega
end Fo
def upd (l:Nat→Int)(j:Nat)(v:Int):Nat→Int:=fun i=>cond (cE j i) v (l i)
theorem lF (l:Nat→Int)(j:Nat)(v:Int):upd l j v j=v:=by
 unfold upd;rw[Nat.beq_refl];rfl
theorem aE2 {l:Nat→Int}{j i:Nat}{v:Int}(h:i≠j):upd l j v i=l i:=by
 unfold upd;cases hb:cE j i with
 |true=>exact(h (Nat.eq_of_beq_eq_true hb).symm).elim
 |false=>rfl
def okV (o:dR):Prop:=0≤o.2.2.2.2∧o.2.2.2.2≤18446744073709551615
structure Runs {σ γ S:Type}(g:σ→Option (σ⊕γ))(code:List rZ)(st:Nat→Nat→(Nat→Int)→S→σ)(stp:dR→S→S)(Vd:Nat→S→Prop)(good:dR→Prop):Prop where
 op: ∀{p d l s m o to},code[p]?=some (dG o to)→good o→(0<o.1∧o.1<7)→d≤8→Vd (1+m) s→g (st p d l s)=some (.inl (st (p+1) d l (stp o s)))∧Vd m (stp o s)
 rep: ∀{p d l s m o to},code[p]?=some (dG o to)→o.1=7→d<8→Vd m s→g (st p d l s)=some (.inl (st (p+1) (d+1) (upd l d o.2.2.2.2) s))
 nxt: ∀{p d l s m e to},code[p]?=some (dG e to)→e.1=0→d<8→1<l d→l d≤18446744073709551615→Vd m s→g (st p (d+1) l s)=some (.inl (st to (d+1) (upd l d (l d-1)) s))
 out: ∀{p d l s m e to},code[p]?=some (dG e to)→e.1=0→d<8→l d=1→Vd m s→g (st p (d+1) l s)=some (.inl (st (p+1) d (upd l d (l d-1)) s))
section
variable {σ γ S:Type} {g:σ→Option (σ⊕γ)} {code:List rZ} {st:Nat→Nat→(Nat→Int)→S→σ} {stp:dR→S→S} {Vd:Nat→S→Prop} {good:dR→Prop}
def fwd (stp:dR→S→S)(l:List dR)(s:S):S:=l.foldl (fun s o=>stp o s) s
theorem bS9 (l r:List dR)(s:S):fwd stp (l++r) s=fwd stp r (fwd stp l s):=List.foldl_append
theorem ah9 {A B:List rZ}{x:rZ}{r:List rZ}{p:Nat}(hc:code=A++(x::r)++B)(hp:A.length=p):code[p]?=some x:=by
 subst hp;rw[hc,bA,bB (aB _),aX];rfl
theorem rounds (hg:Runs g code st stp Vd good){p q d t n:Nat}{e:dR}{u:List dR}(hd:d<8)(hend:code[q]?=some (dG e p))(he:e.1=0)
  (hb: ∀(l:Nat→Int) (s:S) (m:Nat),Vd (n+m) s→∃l',(∀i,i<d+1→l' i=l i)∧Reach g t (st p (d+1) l s) (st q (d+1) l' (fwd stp u s))∧Vd m (fwd stp u s)):
  ∀(k:Nat) (l:Nat→Int) (s:S) (m:Nat),k<18446744073709551615→l d=((k+1:Nat):Int)→Vd (n*(k+1)+m) s→
   ∃l',(∀i,i<d→l' i=l i)∧Reach g ((k+1)*(t+1)) (st p (d+1) l s) (st (q+1) d l' (fwd stp (aW (k+1) u).flatten s))∧Vd m (fwd stp (aW (k+1) u).flatten s)
 |0,l,s,m,hk,hl,hv=>by
  obtain⟨l1,h1,h2,h3⟩:=hb l s m (by rw[bI,cG]at hv;exact hv);have hu:(aW (0+1) u).flatten=u:=by simp
  rw[hu];have hl1:l1 d=1:=by rw[h1 d (by omega),hl];rfl
  refine⟨upd l1 d (l1 d-1),fun i hi=>by rw[aE2 (by omega),h1 i (by omega)], ?_,h3⟩;have h4:=h2.trans (Reach.one (hg.out (l:=l1) hend he hd hl1 h3));rw[show(0+1)*(t+1)=t+1 by omega];exact h4
 |k+1,l,s,m,hk,hl,hv=>by
  have hn:n*(k+1+1)+m=n+(n*(k+1)+m):=by rw[Nat.mul_succ n (k+1)];omega
  rw[hn]at hv;obtain⟨l1,h1,h2,h3⟩:=hb l s _ hv;have hl1:l1 d=((k+1+1:Nat):Int):=by rw[h1 d (by omega),hl]
  have h4:=h2.trans (Reach.one (hg.nxt (l:=l1) hend he hd (by omega) (by omega) h3));obtain⟨l2,h5,h6,h7⟩:=rounds hg hd hend he hb k (upd l1 d (l1 d-1)) (fwd stp u s) m (by omega) (by rw[lF,hl1];omega) h3;have hu:(aW (k+1+1) u).flatten=u++(aW (k+1) u).flatten:=by rw[List.replicate_succ,List.flatten_cons]
  rw[hu,bS9];refine⟨l2,fun i hi=>by rw[h5 i hi,aE2 (by omega),h1 i (by omega)], ?_,h7⟩;rw[show(k+1+1)*(t+1)=t+1+(k+1)*(t+1)by rw[Nat.succ_mul (k+1)];omega];exact h4.trans h6
theorem aX3 (hg:Runs g code st stp Vd good): ∀(f:Fo) {A B:List rZ} {p d:Nat} {l:Nat→Int} {s:S} {m:Nat},code=A++f.code p++B→A.length=p→f.Ok→f.Pos→d+f.hi≤8→(∀o∈f.src,good o∧okV o)→Vd (f.n+m) s→
  ∃l',(∀i,i<d→l' i=l i)∧Reach g f.steps (st p d l s) (st (p+f.len) d l' (fwd stp f.unroll s))∧Vd m (fwd stp f.unroll s)
 | .nil,A,B,p,d,l,s,m,hc,hp,hk,hq,hh,hgd,hv=>by
  refine⟨l,fun _ _=>rfl,Reach.refl, ?_⟩;have:Fo.nil.n+m=m:=bI m;rw[this]at hv;exact hv
 | .op o r,A,B,p,d,l,s,m,hc,hp,hk,hq,hh,hgd,hv=>by
  simp only[Fo.n,Nat.add_assoc]at hv;simp only[Fo.hi]at hh;obtain⟨h1,h2⟩:=hg.op (d:=d) (l:=l) (ah9 hc hp) (hgd o (by simp[Fo.src])).1 hk.1 (by omega) hv;have hA:(A++[dG o 0]).length=p+1:=by simp[hp]
  obtain⟨l',h3,h4,h5⟩:=aX3 hg r (A:=A++[dG o 0]) (B:=B) (p:=p+1) (d:=d) (l:=l) (by rw[hc];simp[Fo.code]) hA hk.2 hq hh (fun x hx=>hgd x (by simp[Fo.src,hx])) h2;refine⟨l',h3, ?_,h5⟩;have:=(Reach.one h1).trans h4;simp only[Fo.steps,Fo.len];rw[show p+(r.len+1)=p+1+r.len by omega];exact this
 | .rep o b e r,A,B,p,d,l,s,m,hc,hp,hk,hq,hh,hgd,hv=>by
  obtain⟨⟨k1,k2⟩,k3,k4⟩:=hk;obtain⟨q1,q2,q3⟩:=hq;simp only[Fo.n,Nat.add_assoc]at hv;simp only[Fo.hi]at hh;have hov:=(hgd o (by simp[Fo.src])).2;unfold okV at hov;have hvo:((uC o:Nat):Int)=o.2.2.2.2:=cL hov.1
  have hv0:0<uC o:=by
   rcases cF (uC o)with h0|h0
   ·rw[h0]at q1;simp at q1
   ·exact h0
  obtain⟨k,hk⟩: ∃k,uC o=k+1:=⟨uC o-1,by omega⟩
  have h1:=hg.rep (d:=d) (l:=l) (ah9 hc hp) k1 (by omega) hv;have hA:(A++[dG o (p+b.len+2)]).length=p+1:=by simp[hp]
  have hcb:code=(A++[dG o (p+b.len+2)])++b.code (p+1)++(dG e (p+1)::r.code (p+b.len+2)++B):=by rw[hc];simp[Fo.code]
  have hce:code=(A++dG o (p+b.len+2)::b.code (p+1))++(dG e (p+1)::r.code (p+b.len+2))++B:=by rw[hc];simp[Fo.code]
  have hAe:(A++dG o (p+b.len+2)::b.code (p+1)).length=p+1+b.len:=by simp[hp,Fo.code_len];omega
  have hend:=ah9 hce hAe
  obtain⟨l1,h2,h3,h4⟩:=rounds hg (p:=p+1) (q:=p+1+b.len) (d:=d) (t:=b.steps) (n:=b.n) (e:=e) (u:=b.unroll) (by omega) hend k2
   (fun l s m hm=>aX3 hg b hcb hA k3 q2 (by omega) (fun x hx=>hgd x (by simp[Fo.src,hx])) hm) k (upd l d o.2.2.2.2) s (r.n+m) (by omega) (by rw[lF,←hvo,hk]) (by rw[←hk];exact hv)
  have hcr:code=(A++dG o (p+b.len+2)::(b.code (p+1)++[dG e (p+1)]))++r.code (p+b.len+2)++B:=by rw[hc];simp[Fo.code]
  have hAr:(A++dG o (p+b.len+2)::(b.code (p+1)++[dG e (p+1)])).length=p+b.len+2:=by simp[hp,Fo.code_len];omega
  obtain⟨l2,h5,h6,h7⟩:=aX3 hg r (d:=d) (l:=l1) hcr hAr k4 q3 (by omega) (fun x hx=>hgd x (by simp[Fo.src,hx])) h4;simp only[Fo.unroll,Fo.steps,Fo.len];rw[bS9,hk];refine⟨l2,fun i hi=>by rw[h5 i hi,h2 i hi,aE2 (by omega)], ?_,h7⟩;have h8:=((Reach.one h1).trans h3).trans (show Reach g r.steps (st (p+1+b.len+1) d l1 _) _ from by rw[show p+1+b.len+1=p+b.len+2 by omega];exact h6);rw[show p+(b.len+r.len+2)=p+b.len+2+r.len by omega];exact h8
end
structure Backs {σ γ S:Type}(g:σ→Option (σ⊕γ))(code:List rZ)(st:Nat→Nat→(Nat→Int)→S→σ)(stp:dR→S→S)(Vd:Nat→S→Prop)(good:dR→Prop):Prop where
 op: ∀{p d l s m o to},code[p]?=some (dG o to)→good o→(0<o.1∧o.1<7)→d≤8→Vd (1+m) s→g (st (p+1) d l s)=some (.inl (st p d l (stp o s)))∧Vd m (stp o s)
 rep: ∀{p q d l s m o e to},code[p]?=some (dG e (q+1))→e.1=0→code[q]?=some (dG o to)→d<8→Vd m s→g (st (p+1) d l s)=some (.inl (st p (d+1) (upd l d o.2.2.2.2) s))
 nxt: ∀{p d l s m o to},code[p]?=some (dG o (to+1))→to≤code.length→o.1=7→d<8→1<l d→l d≤18446744073709551615→Vd m s→g (st (p+1) (d+1) l s)=some (.inl (st to (d+1) (upd l d (l d-1)) s))
 out: ∀{p d l s m o to},code[p]?=some (dG o (to+1))→o.1=7→d<8→l d=1→Vd m s→g (st (p+1) (d+1) l s)=some (.inl (st p d (upd l d (l d-1)) s))
section
variable {σ γ S:Type} {g:σ→Option (σ⊕γ)} {code:List rZ} {st:Nat→Nat→(Nat→Int)→S→σ} {stp:dR→S→S} {Vd:Nat→S→Prop} {good:dR→Prop}
def bwd (stp:dR→S→S)(l:List dR)(s:S):S:=l.foldr stp s
theorem bR5 (l r:List dR)(s:S):bwd stp (l++r) s=bwd stp l (bwd stp r s):=List.foldr_append
theorem bV3 (hg:Backs g code st stp Vd good){p q d t n:Nat}{o:dR}{u:List dR}(hq:q≤code.length)(hd:d<8)(hbeg:code[p]?=some (dG o (q+1)))(ho:o.1=7)
  (hb: ∀(l:Nat→Int) (s:S) (m:Nat),Vd (n+m) s→∃l',(∀i,i<d+1→l' i=l i)∧Reach g t (st q (d+1) l s) (st (p+1) (d+1) l' (bwd stp u s))∧Vd m (bwd stp u s)):
  ∀(k:Nat) (l:Nat→Int) (s:S) (m:Nat),k<18446744073709551615→l d=((k+1:Nat):Int)→Vd (n*(k+1)+m) s→
   ∃l',(∀i,i<d→l' i=l i)∧Reach g ((k+1)*(t+1)) (st q (d+1) l s) (st p d l' (bwd stp (aW (k+1) u).flatten s))∧Vd m (bwd stp (aW (k+1) u).flatten s)
 |0,l,s,m,hk,hl,hv=>by
  obtain⟨l1,h1,h2,h3⟩:=hb l s m (by rw[bI,cG]at hv;exact hv);have hu:(aW (0+1) u).flatten=u:=by simp
  rw[hu];have hl1:l1 d=1:=by rw[h1 d (by omega),hl];rfl
  refine⟨upd l1 d (l1 d-1),fun i hi=>by rw[aE2 (by omega),h1 i (by omega)], ?_,h3⟩;have h4:=h2.trans (Reach.one (hg.out (l:=l1) hbeg ho hd hl1 h3));rw[show(0+1)*(t+1)=t+1 by omega];exact h4
 |k+1,l,s,m,hk,hl,hv=>by
  have hn:n*(k+1+1)+m=n+(n*(k+1)+m):=by rw[Nat.mul_succ n (k+1)];omega
  rw[hn]at hv;obtain⟨l1,h1,h2,h3⟩:=hb l s _ hv;have hl1:l1 d=((k+1+1:Nat):Int):=by rw[h1 d (by omega),hl]
  have h4:=h2.trans (Reach.one (hg.nxt (l:=l1) hbeg hq ho hd (by omega) (by omega) h3));obtain⟨l2,h5,h6,h7⟩:=bV3 hg hq hd hbeg ho hb k (upd l1 d (l1 d-1)) (bwd stp u s) m (by omega) (by rw[lF,hl1];omega) h3;have hu:(aW (k+1+1) u).flatten=(aW (k+1) u).flatten++u:=by rw[dC,List.flatten_append];simp
  rw[hu,bR5];refine⟨l2,fun i hi=>by rw[h5 i hi,aE2 (by omega),h1 i (by omega)], ?_,h7⟩;rw[show(k+1+1)*(t+1)=t+1+(k+1)*(t+1)by rw[Nat.succ_mul (k+1)];omega];exact h4.trans h6
theorem au7 (hg:Backs g code st stp Vd good): ∀(f:Fo) {A B:List rZ} {p d:Nat} {l:Nat→Int} {s:S} {m:Nat},code=A++f.code p++B→A.length=p→f.Ok→f.Pos→d+f.hi≤8→(∀o∈f.src,good o∧okV o)→Vd (f.n+m) s→
  ∃l',(∀i,i<d→l' i=l i)∧Reach g f.steps (st (p+f.len) d l s) (st p d l' (bwd stp f.unroll s))∧Vd m (bwd stp f.unroll s)
 | .nil,A,B,p,d,l,s,m,hc,hp,hk,hq,hh,hgd,hv=>by
  refine⟨l,fun _ _=>rfl,Reach.refl, ?_⟩;have:Fo.nil.n+m=m:=bI m;rw[this]at hv;exact hv
 | .op o r,A,B,p,d,l,s,m,hc,hp,hk,hq,hh,hgd,hv=>by
  simp only[Fo.n]at hv;simp only[Fo.hi]at hh;have hA:(A++[dG o 0]).length=p+1:=by simp[hp]
  obtain⟨l',h3,h4,h5⟩:=au7 hg r (A:=A++[dG o 0]) (B:=B) (p:=p+1) (d:=d) (l:=l) (m:=1+m) (by rw[hc];simp[Fo.code]) hA hk.2 hq hh (fun x hx=>hgd x (by simp[Fo.src,hx])) (by rw[show r.n+(1+m)=1+r.n+m by omega];exact hv);obtain⟨h1,h2⟩:=hg.op (d:=d) (l:=l') (ah9 hc hp) (hgd o (by simp[Fo.src])).1 hk.1 (by omega) h5;refine⟨l',h3, ?_,h2⟩;have:=h4.trans (Reach.one h1);simp only[Fo.steps,Fo.len];rw[show p+(r.len+1)=p+1+r.len by omega,Nat.add_comm 1];exact this
 | .rep o b e r,A,B,p,d,l,s,m,hc,hp,hk,hq,hh,hgd,hv=>by
  obtain⟨⟨k1,k2⟩,k3,k4⟩:=hk;obtain⟨q1,q2,q3⟩:=hq;simp only[Fo.n]at hv;simp only[Fo.hi]at hh;have hov:=(hgd o (by simp[Fo.src])).2;unfold okV at hov;have hvo:((uC o:Nat):Int)=o.2.2.2.2:=cL hov.1
  have hv0:0<uC o:=by
   rcases cF (uC o)with h0|h0
   ·rw[h0]at q1;simp at q1
   ·exact h0
  obtain⟨k,hk⟩: ∃k,uC o=k+1:=⟨uC o-1,by omega⟩
  have hbeg:=ah9 hc hp;have hA:(A++[dG o (p+b.len+2)]).length=p+1:=by simp[hp]
  have hcb:code=(A++[dG o (p+b.len+2)])++b.code (p+1)++(dG e (p+1)::r.code (p+b.len+2)++B):=by rw[hc];simp[Fo.code]
  have hce:code=(A++dG o (p+b.len+2)::b.code (p+1))++(dG e (p+1)::r.code (p+b.len+2))++B:=by rw[hc];simp[Fo.code]
  have hAe:(A++dG o (p+b.len+2)::b.code (p+1)).length=p+1+b.len:=by simp[hp,Fo.code_len];omega
  have hend:=ah9 hce hAe;have hcr:code=(A++dG o (p+b.len+2)::(b.code (p+1)++[dG e (p+1)]))++r.code (p+b.len+2)++B:=by rw[hc];simp[Fo.code]
  have hAr:(A++dG o (p+b.len+2)::(b.code (p+1)++[dG e (p+1)])).length=p+b.len+2:=by simp[hp,Fo.code_len];omega
  obtain⟨l2,h5,h6,h7⟩:=au7 hg r (d:=d) (l:=l) (m:=b.n*uC o+m) hcr hAr k4 q3 (by omega) (fun x hx=>hgd x (by simp[Fo.src,hx])) (by rw[show r.n+(b.n*uC o+m)=b.n*uC o+r.n+m by omega];exact hv);have h1:=hg.rep (d:=d) (l:=l2) hend k2 hbeg (by omega) h7
  obtain⟨l1,h2,h3,h4⟩:=bV3 hg (p:=p) (q:=p+1+b.len) (d:=d) (t:=b.steps) (n:=b.n) (o:=o) (u:=b.unroll) (Nat.le_of_lt (List.getElem?_eq_some_iff.1 hend).1) (by omega) (by rw[hbeg];congr 2;omega) k1
   (fun l s m hm=>au7 hg b hcb hA k3 q2 (by omega) (fun x hx=>hgd x (by simp[Fo.src,hx])) hm) k (upd l2 d o.2.2.2.2) _ m (by omega) (by rw[lF,←hvo,hk]) (by rw[←hk];exact h7)
  simp only[Fo.unroll,Fo.steps,Fo.len];rw[bR5,hk];refine⟨l1,fun i hi=>by rw[h2 i hi,aE2 (by omega),h5 i hi], ?_,h4⟩;have h8:=(h6.trans (show Reach g 1 _ _ from by rw[show p+b.len+2=p+1+b.len+1 by omega];exact Reach.one h1)).trans h3;rw[show p+(b.len+r.len+2)=p+b.len+2+r.len by omega,show 1+(k+1)*(b.steps+1)+r.steps=r.steps+1+(k+1)*(b.steps+1)by omega];exact h8
end
end
end Go.V
