/- A part of the proofs of this claim: what functions of the program answer on an abstract machine, and plain laws. No condition. -/
import Derived.Test.YtabdgoepkddlbaaGreatA6
import Derived.SizedLaws
import Derived.Test.YtabdgoepkddlbaaGreatD2
import Derived.KernelRfl
set_option linter.unusedVariables false
set_option linter.unusedSimpArgs false
set_option linter.unusedSectionVars false
namespace Go.V
open Go.Ab
open Option renaming some->Y,none->Z
open Bool renaming true->Za,false->Zb
open Decidable renaming decide->Zc
section
open List renaming getElem?_map -> aB
def fieldAt (P:Program)(t:TypeId)(i:Nat):Option (TypeId×Nat):=match P.underlying t with
 |some (.struct fs)=>(fs[i]?).map λf=>(f.type,f.offset)
 |_=>Z
section
variable {H:Type} {enc:TypeId×Value->H} {P:Program} {w:World} {base:Nat} {held:Bool}
theorem bw3 {m:Nat}{t t':TypeId}{i o:Nat}{cs:List Value}{x:DataW H×List MemPlace}{R:Nat}(hf:fieldAt P t i=Y (t',o))(h:DataW.trod enc P w base (λ_=>Za) held m t cs=Y x)(hR: ∀n∈x.1.weights P t,n<=R):
  ∃m' x',DataW.trod enc P w base (λ_=>Za) held m' t' ((cs.drop o).take (P.cellsOf t'))=Y x'/\∀n∈x'.1.weights P t',n<=R:=by
 unfold fieldAt at hf;split at hf
 .rename_i fs hu;cases hg:fs[i]? with
  |none=>rw[hg]at hf;cases hf
  |some f=>
   rw[hg,Option.map_some]at hf;injection hf with hf
   injection hf with h1 h2
   subst h1 h2;obtain⟨xs,n,_,rfl,_,hl,hx⟩:=DataW.trod_struct hu h;obtain⟨hi,_⟩:=Array.getElem?_eq_some_iff.1 hg;have hxi:xs[i]?=Y (xs[i]'(by omega)):=List.getElem?_eq_getElem (by omega);refine⟨n,_,(hx i f hg).trans hxi,λk hk=>hR k ?_⟩;simp only[DataW.weights,hu];refine DataW.weights_mem_each (j:=i) (t:=f.type) (d:=(xs[i]'(by omega)).1) ?_ ?_ k hk
   .rw[aB,Array.getElem?_toList,hg];rfl
   .rw[aB,hxi];rfl
 .cases hf
theorem dx4 {m:Nat}{t e:TypeId}{cs:List Value}{x:DataW H×List MemPlace}{R:Nat}{s:Sh}{l:List (El s)}(hu:P.underlying t=Y (.slice e))(h:DataW.trod enc P w base (λ_=>Za) held m t cs=Y x)(hR: ∀n∈x.1.weights P t,n<=R)(hc:dx w (.list s) cs l):l.length*P.bytesOf e<=R:=by
 rcases hc with⟨_,rfl⟩|⟨a',len',cap',ys,e3,_,_,_,rfl,_⟩
 .simp
 .rcases DataW.trod_slice hu h with⟨e1,_⟩|⟨a,len,cap,elems,rest,n,_,e1,rfl,_,_,_,hel,_⟩
  .rw[e3]at e1;cases e1
  .rw[e3]at e1;injection e1 with e1 _
   injection e1 with _ e1 _
   subst e1;have h1:=hR ((elems.length+rest.length)*P.bytesOf e) (by simp only[DataW.weights,hu,List.length_map];exact List.mem_cons_self ..);have h2:(ys.take len').length<=elems.length+rest.length:=by rw[List.length_take];omega
   exact Nat.le_trans (Nat.mul_le_mul_right _ h2) h1
theorem dx.fst {a b:Sh}{cs:List Value}{y:El (.pair a b)}(h:dx w (.pair a b) cs y)(ha:a.w=1):dx w a (cs.take 1) y.1/\dx w b (cs.drop 1) y.2:=by
 obtain⟨c1,c2,rfl,h1,h2⟩:=h;have e:c1.length=1:=h1.len.trans ha;rw[<-e,List.take_left,List.drop_left];exact⟨h1,h2⟩
theorem cr7 {t tp tl e:TypeId}{A B:Sh}{v:Value}{d:DataW H}{ps:List MemPlace}{R:Nat}{y:El (ap5 [.int .i64, .list A, .list A, .int .i64, .list B, .int .i64, .list B, .int .i64, .int .i64])}
  (h3:fieldAt P t 3=Y (tp,3)) (h4:fieldAt P t 4=Y (tp,5)) (h1:fieldAt P tp 1=Y (tl,1)) (hp:P.cellsOf tp=2) (hl:P.cellsOf tl=1) (hu:P.underlying tl=Y (.slice e))
  (hd:DataW.Trod enc P w base (λ_=>Za) held t v d ps) (hR: ∀n∈d.weights P t,n<=R)
  (hy:aU3 w Za (ap5 [.int .i64, .list A, .list A, .int .i64, .list B, .int .i64, .list B, .int .i64, .int .i64]) v y):
  y.2.2.2.2.1.length*P.bytesOf e<=R/\y.2.2.2.2.2.2.1.length*P.bytesOf e<=R:=by
 obtain⟨fuel,hf⟩:=hd;obtain⟨cs,rfl,hy⟩:=hy;have hf:DataW.trod enc P w base (λ_=>Za) held fuel t cs.toList=Y (d,ps):=hf;generalize cs.toList=cs at*;obtain⟨_,hy⟩:=dx.fst hy rfl;obtain⟨_,hy⟩:=dx.fst hy rfl;obtain⟨_,hy⟩:=dx.fst hy rfl;obtain⟨_,hy⟩:=dx.fst hy rfl;obtain⟨y4,hy⟩:=dx.fst hy rfl;obtain⟨_,hy⟩:=dx.fst hy rfl;obtain⟨y6,hy⟩:=dx.fst hy rfl;constructor
 .obtain⟨m1,x1,g1,r1⟩:=bw3 h3 hf hR;obtain⟨m2,x2,g2,r2⟩:=bw3 h1 g1 r1;refine dx4 hu g2 r2 ?_;rw[hp,hl]
  have:(((cs.drop 3).take 2).drop 1).take 1=((((cs.drop 1).drop 1).drop 1).drop 1).take 1:=by
   simp only[List.drop_take,List.drop_drop,List.take_take];rfl
  rw[this];exact y4
 .obtain⟨m1,x1,g1,r1⟩:=bw3 h4 hf hR;obtain⟨m2,x2,g2,r2⟩:=bw3 h1 g1 r1;refine dx4 hu g2 r2 ?_;rw[hp,hl]
  have:(((cs.drop 5).take 2).drop 1).take 1=((((((cs.drop 1).drop 1).drop 1).drop 1).drop 1).drop 1).take 1:=by
   simp only[List.drop_take,List.drop_drop,List.take_take];rfl
  rw[this];exact y6
end
end
section
open Go.IntKind renaming wrap -> zH, i64 -> zI, u64 -> zJ
open Bool renaming not_true -> iK
open Int renaming zero_add -> fB, add_assoc -> gD, mul_nonneg -> iF, add_zero -> iL, le_refl -> iM, ediv_le_self -> jD, ediv_nonneg -> kB, mul_ediv_self_le -> kD, mul_le_mul_of_nonneg_left -> lB, toNat_of_nonneg -> lD, eq_ofNat_of_zero_le -> rB, toNat_natCast -> rD
open List renaming getElem?_eq_getElem -> aD, replicate -> bB, getElem?_set_ne -> cB, length_cons -> cD, append_assoc -> dB, getElem?_append_right -> dD, length_append -> eD, cons_append -> fD, getElem_mem -> gB, nil_append -> iA, getElem_cons_drop -> iC, range -> iE, drop_length -> iG, getElem?_set_self -> iH, length -> iI, mem_cons -> iJ, append_nil -> iN, drop_append -> iO, drop_of_length_le -> iP, getD -> iQ, getElem?_drop -> iR, length_drop -> iS, map_append -> iT, set -> iU, set_append_right -> iV, take_append_drop -> iW, take_left' -> iX, any_cons -> mB, any_nil -> mD, dropLast_concat_getLast -> nB, length_take -> nD, mem_append -> oB, range_succ -> oD, take_succ_eq_append_getElem -> pB, getElem?_cons_zero -> rR, length_flatten -> rS, map_replicate -> rT, replicate_succ' -> rU, sum_replicate_nat -> rV
open Nat renaming le_refl -> aB, sub_self -> bD, zero_add -> iB, zero_le -> iD, beq -> iY, eq_zero_or_pos -> iZ, mul_one -> jB, mul_add -> pD, mul_comm -> qB, mul_le_mul_right -> qD, add_sub_cancel -> rW
set_option maxRecDepth 100000
abbrev cd :=Int×Int×Int×Int×Int
def bn :List cd->Nat->Option Nat
 |[],d=>Y d
 |o::r,d=>if o.1<0∨7<o.1 then Z else if o.1=0 then(if d=0 then Z else bn r (d-1))else if o.1=7 then bn r (d+1)else bn r d
theorem wz : ∀(l r:List cd) (d:Nat),bn (l++r) d=(bn l d).bind (bn r)
 |[],r,d=>rfl
 |o::l,r,d=>by
  simp only[fD,bn];split
  .rfl
  split
  .split
   .rfl
   .exact wz l r _
  split
  .exact wz l r _
  .exact wz l r _
theorem bv2 : ∀(l:List cd) (d d':Nat),bn l d=Y d'->bn l (d+1)=Y (d'+1)
 |[],d,d',h=>by
  injection h with h
  subst h;rfl
 |o::l,d,d',h=>by
  simp only[bn]at h⊢;split at h
  .cases h
  rename_i c;rw[zF c];split at h
  .rename_i c2;rw[zE c2];split at h
   .cases h
   .rename_i c3;rw[zF (by omega)];have:=bv2 l _ _ h
    rwa [show d-1+1=d+1-1 by omega]at this
  rename_i c2;rw[zF c2];split at h
  .rename_i c3;rw[zE c3];exact bv2 l _ _ h
  .rename_i c3;rw[zF c3];exact bv2 l _ _ h
def dN6 (l:List cd)(s:Int×Bool×(Zd)×(Zd)×Zd):Prop:=
 ∃(i:Nat) (out st:Zd),i<=l.length/\s=((i:Int),Za,out,st,st)/\out.length=l.length/\(∀x∈st,0<=x/\x<l.length)/\st.length<=i/\bn (l.drop i) st.length=bn l 0
theorem dI1 {st:Zd}(h:st≠[]): ∃pre x,st=pre++[x]:=⟨st.dropLast,st.getLast h,(nB h).symm⟩
theorem cO1 {l:List cd}(hl:l.length<=3518437208780)(s:Int×Bool×(Zd)×(Zd)×Zd)(h:dN6 l s):
  (∃b,ci l s=Y (.inl b)/\dN6 l b/\l.length-b.1.toNat<l.length-s.1.toNat)∨∃c,ci l s=Y (.inr c)/\((c.1=Zb/\bn l 0=Z)∨(c.1=Za/\bn l 0=Y c.2.2.1.length)):=by
 obtain⟨i,out,st,hi,rfl,ho,hst,hsl,hsc⟩:=h;by_cases c:i<l.length
 .have hdrop:l.drop i=l[i]::l.drop (i+1):=(iC c).symm;rw[hdrop]at hsc;simp only[ci];rw[zB (show(i:Int)<(l.length:Int)by omega),zC,dq c];simp only[zG];generalize hx:l[i]=x at*;simp only[bn]at hsc;by_cases k0:x.1<0
  .rw[zE (.inl k0)]at hsc;rw[zB k0];simp only[zC,zG,kn];exact .inr ⟨_,rfl, .inl ⟨rfl,hsc.symm⟩⟩
  rw[zA k0,zD];by_cases k7:7<x.1
  .rw[zE (.inr k7)]at hsc;rw[zB k7];simp only[zC,zG,bg,kn];exact .inr ⟨_,rfl, .inl ⟨rfl,hsc.symm⟩⟩
  rw[zA k7,zD];rw[zF (by omega)]at hsc;by_cases kz:x.1=0
  .rw[zE kz]at hsc;rw[zB kz];simp only[zC,zG,bg];by_cases hs0:st.length=0
   .rw[zE hs0]at hsc;rw[zB (show(st.length:Int)=0 by omega)];simp only[zC,zG,kn];exact .inr ⟨_,rfl, .inl ⟨rfl,hsc.symm⟩⟩
   .rw[zF hs0]at hsc;rw[zA (show¬(st.length:Int)=0 by omega),zD];rw[ad (n:=(st.length:Int)-1) (by omega),nb (by omega),cm];simp only[zG,bg];obtain⟨pre,q,rfl⟩:=dI1 (st:=st) (by intro e;subst e;exact hs0 rfl);have hq:=hst q (by simp);have hlen:(pre++[q]).length=pre.length+1:=by simp
    have ht:(((pre++[q]).length:Int)-1).toNat-0=pre.length:=by rw[hlen];omega
    have e7:Zc (x.1=7)=Zb:=zA (by omega);rw[bp (show i<out.length by omega)];simp only[zG];rw[aD (show i<out.length by omega)];simp only[zG];rw[e7,zD,show((pre++[q]).length:Int)-1=(pre.length:Int)by rw[hlen];omega,bp (show pre.length<(pre++[q]).length by omega)];simp only[zG];rw[dD (aB _),bD];simp only[rR,zG];rw[cm,bp (show i<(out.set i (-1)).length by simp;omega)];simp only[zG];rw[aD (show i<(out.set i (-1)).length by simp;omega)];simp only[zG];obtain⟨qn,rfl⟩:=rB hq.1;have hqn:qn<out.length:=by omega
    rw[bp (show qn<((out.set i (-1)).set i ((qn:Nat):Int)).length by simp;omega)];simp only[zG];rw[aD (show qn<((out.set i (-1)).set i ((qn:Nat):Int)).length by simp;omega)];simp only[zG]
    have htk:(pre++[(qn:Int)]).take ((pre.length:Int).toNat-0)=pre:=by
     rw[show(pre.length:Int).toNat-0=pre.length by omega,iX];rfl
    rw[htk,ad (n:=(i:Int)+1) (by omega)];refine .inl ⟨_,rfl,⟨i+1,_,pre,c,rfl,by simp[ho],λy hy=>hst y (by simp[hy]),by rw[hlen]at hsl;omega, ?_⟩,by simp;omega⟩;rw[hlen]at hsc;exact hsc
  .rw[zF kz]at hsc;have ez:Zc (x.1=0)=Zb:=zA kz;rw[ez];simp only[zD,zG,bg];rw[bp (show i<out.length by omega)];simp only[zG];rw[aD (show i<out.length by omega)];simp only[zG];by_cases k7:x.1=7
   .rw[zE k7]at hsc;rw[zB k7];simp only[zC];rw[ck (by omega) (by omega),ck (by omega) (by omega),ad (n:=(i:Int)+1) (by omega)];refine .inl ⟨_,rfl,⟨i+1,_,st++[(i:Int)],c,rfl,by simp[ho],λy hy=> ?_,by simp;omega, ?_⟩,by simp;omega⟩
    .rcases List.mem_append.1 hy with hy|hy
     .exact hst y hy
     .simp at hy;subst hy;omega
    .rw[eD];exact hsc
   .rw[zF k7]at hsc;rw[zA k7];simp only[zD];rw[ad (n:=(i:Int)+1) (by omega)];exact .inl ⟨_,rfl,⟨i+1,_,st,c,rfl,by simp[ho],hst,by omega,hsc⟩,by simp;omega⟩
 .have hi':i=l.length:=by omega
  subst hi';rw[iG]at hsc;simp only[ci];rw[zA (show¬(l.length:Int)<(l.length:Int)by omega),zD];exact .inr ⟨_,rfl, .inr ⟨rfl,hsc.symm⟩⟩
theorem aL7 {l:List cd}(hl:l.length<=3518437208780): ∃m,rf l=Y (if bn l 0=Y 0 then 0 else 6,m):=by
 unfold rf;rw[zB (show(0:Int)<=(l.length:Int)by omega),zB (show(l.length:Int)<=(l.length:Int)by omega),zB (show 8*(l.length:Int)<=140737488355328 by omega)];show∃m,gd Za _=_
 rw[cm]
 obtain⟨c,hc,h⟩:=ac8 (f:=ci l) (a:=((0:Int),Za,bB ((l.length:Int)).toNat (0:Int),([]:Zd),([]:Zd))) (dN6 l) (λs=>l.length-s.1.toNat) (λc=>(c.1=Zb/\bn l 0=Z)∨(c.1=Za/\bn l 0=Y c.2.2.1.length))
  ⟨0,_,[],iD _,rfl,by simp,(λx hx=>by cases hx),aB _,rfl⟩ (by simp;omega) (λs hs=>cO1 hl s hs)
 rw[hc];simp only[zG];rcases h with⟨h1,h2⟩|⟨h1,h2⟩
 .rw[h1,h2];exact⟨_,rfl⟩
 .rw[h1,h2,zC];by_cases c0:c.2.2.1.length=0
  .rw[zB (show(c.2.2.1.length:Int)=0 by omega),zE (by rw[c0])];exact⟨_,rfl⟩
  .rw[zA (show¬(c.2.2.1.length:Int)=0 by omega),zF (by intro e;injection e with e;exact c0 e)];exact⟨_,rfl⟩
def as8 (w v:Int):Option Int:=if w=0 then Y 0 else if 65536<w then Z else if 65536 / w<v then Z else Y (w*v)
def wY :List cd->List (Int×Int)->Option (List (Int×Int))
 |[],st=>Y st
 |o::r,(v,w)::st=>if o.1=7 then wY r ((o.2.2.2.2,0)::(v,w)::st)else if o.1=0 then(match as8 w v,st with
   |some n,(v',w')::st'=>wY r ((v',w'+n)::st')
   |_,_=>Z)
  else wY r ((v,w+1)::st)
 |_::_,[]=>Z
theorem bW9 {w v:Int}(hw:0<=w/\w<=10000000000)(hv:0<=v/\v<=18446744073709551615):xW w v=Y (match as8 w v with
  |some n=>(n,Za)
  |none=>(0,Zb)):=by
 unfold xW as8;simp only[ak];by_cases c1:w=0
 .rw[zE c1,zE c1]
 rw[zF c1,zF c1];by_cases c2:65536<w
 .rw[zE c2,zE c2]
 rw[zF c2,zF c2,zB (show w≠0 from c1),cm,cY0 (by omega)];have h1:0<=65536 / w:=kB (by omega) (by omega);have h2:65536 / w<=65536:=jD _ (by omega);rw[ad (n:=65536 / w) (by omega),cc (by omega)];by_cases c3:65536 / w<v
 .rw[zE c3,zE c3]
 .rw[zF c3,zF c3]
  have h3:w*v<=65536:=by
   have h4:v<=65536 / w:=by omega
   have h5:=lB h4 (show 0<=w by omega);have h6:=kD (x:=65536) (k:=w) (by omega);omega
  have h7:=iF (show 0<=w by omega) hv.1;rw[ad (n:=v) (by omega),ad (n:=w*v) (by omega)]
theorem br6 {w v n:Int}(hw:0<=w)(hv:0<=v)(h:as8 w v=Y n):0<=n/\n<=65536:=by
 unfold as8 at h;split at h
 .injection h with h;subst h;omega
 split at h
 .cases h
 split at h
 .cases h
 rename_i c1 c2 c3;injection h with h
 subst h;have h4:v<=65536 / w:=by omega
 have h5:=lB h4 (show 0<=w by omega);have h6:=kD (x:=65536) (k:=w) (by omega);exact⟨iF hw hv,by omega⟩
theorem bk5 {k:Int}(h:0<k/\k<7)(d a b v:Int):nc k d a b v=Y (d,Za):=by
 unfold nc w7;simp only[ak];have:k=1∨k=2∨k=3∨k=4∨k=5∨k=6:=by omega
 rcases this with rfl|rfl|rfl|rfl|rfl|rfl<;>rfl
theorem cG3 (a b:Int)(ha:0<=a/\a<=1000000000000)(hb:0<=b/\b<=65536):al5 [a,b]=Y (a+b):=by
 unfold al5
 have hl:ap (aw4 [a,b]) fy (0,0)=Y (a+b):=by
  have h:=pu (f:=aw4 [a,b]) (n:=2) (λi=>match i with|0=>0|1=>a|_=>a+b) (c:=a+b) (by omega) ?_ ?_
  .exact h
  .intro i hi
   match i,hi with
   |0,_=>
    show Y (Sum.inl (zH zI 1,zH zI (0+a)))=_;rw[ad (by omega),ad (by omega),fB];rfl
   |1,_=>
    show Y (Sum.inl (zH zI 2,zH zI (a+b)))=_;rw[ad (by omega),ad (by omega)];rfl
  .rfl
 rw[hl];rfl
def dI0 (l:List cd)(op:List (Int×Int)):List (Int×Int):=op.reverse.map λp=>((l.getD p.1.toNat (0,0,0,0,0)).2.2.2.2,p.2)
theorem ak3 (l:List cd)(pre:List (Int×Int))(p:Int×Int):dI0 l (pre++[p])=((l.getD p.1.toNat (0,0,0,0,0)).2.2.2.2,p.2)::dI0 l pre:=by
 unfold dI0;rw[List.reverse_append,iT];rfl
def dO0 (l:List cd)(s:Int×(Zd)×(Zd)×List (Int×Int)):Prop:=
 ∃(i:Nat) (sz rd:Zd) (op:List (Int×Int)),i<=l.length/\s=((i:Int),sz,rd,op)/\sz.length=l.length/\rd.length=l.length/\op≠[]/\op.length<=i+1/\(∀p∈op,0<=p.1/\p.1<max (l.length:Int) 1/\0<=p.2/\p.2<=65537*i)/\
  bn (l.drop i) (op.length-1)=Y 0/\wY (l.drop i) (dI0 l op)=wY l [((l.getD 0 (0,0,0,0,0)).2.2.2.2,0)]
theorem cU4 {l:List cd}{i:Nat}(h:i<l.length):l.getD i (0,0,0,0,0)=l[i]:=by
 rw[List.getD_eq_getElem?_getD,aD h];rfl
theorem cs3 {l:List cd}(hl:l.length<=100000)(hv: ∀o∈l,0<=o.2.2.2.2/\o.2.2.2.2<=18446744073709551615)(s:Int×(Zd)×(Zd)×List (Int×Int))(h:dO0 l s):
  (∃b,ca l s=Y (.inl b)/\dO0 l b/\l.length-b.1.toNat<l.length-s.1.toNat)∨
  ∃c,ca l s=Y (.inr c)/\((c.1=9/\wY l [((l.getD 0 (0,0,0,0,0)).2.2.2.2,0)]=Z)∨(c.1=0/\∃p:Int×Int,c.2.2.2=[p]/\0<=p.2/\wY l [((l.getD 0 (0,0,0,0,0)).2.2.2.2,0)]=Y [((l.getD p.1.toNat (0,0,0,0,0)).2.2.2.2,p.2)])):=by
 obtain⟨i,sz,rds,op,hi,rfl,hsz,hrd,hne,hol,hop,hsc,hrun⟩:=h;obtain⟨pre,⟨at',w⟩,rfl⟩: ∃pre x,op=pre++[x]:=⟨op.dropLast,op.getLast hne,(nB hne).symm⟩
 have hlast:=hop (at',w) (by simp);simp only at hlast;have hlen:(pre++[(at',w)]).length=pre.length+1:=by simp
 rw[hlen]at hol hsc;rw[rW]at hsc
 have hget:(pre++[(at',w)])[pre.length]?=Y (at',w):=by
  rw[dD (aB _),bD];rfl
 by_cases c:i<l.length
 .have hdrop:l.drop i=l[i]::l.drop (i+1):=(iC c).symm;have hlv:=hv _ (gB c);have hDi:l.getD i (0,0,0,0,0)=l[i]:=cU4 c;rw[hdrop]at hsc hrun;rw[ak3]at hrun;simp only[ca];rw[zB (show(i:Int)<(l.length:Int)by omega),zC,dq c];simp only[zG];generalize hx:l[i]=x at*;simp only[bn]at hsc;simp only[wY]at hrun
  have hk: ¬(x.1<0∨7<x.1):=by
   intro hk;rw[zE hk]at hsc;cases hsc
  rw[zF hk]at hsc;rw[hlen,ad (n:=((pre.length+1:Nat):Int)-1) (by omega),show((pre.length+1:Nat):Int)-1=(pre.length:Int)by omega,bp (show pre.length<pre.length+1 by omega)];simp only[zG];by_cases k7:x.1=7
  .rw[zF (by omega),zE k7]at hsc;rw[zE k7]at hrun;rw[zB k7,zC,ck (by omega) (by omega),ad (n:=(i:Int)+1) (by omega)];refine .inl ⟨_,rfl,⟨i+1,sz,rds,pre++[(at',w)]++[((i:Int),0)],c,rfl,hsz,hrd,by simp,by simp;omega,λp hp=> ?_, ?_, ?_⟩,by simp;omega⟩
   .rcases List.mem_append.1 hp with hp|hp
    .have:=hop p hp;omega
    .simp at hp;subst hp;simp only;omega
   .rw[eD,hlen];exact hsc
   .rw[ak3,ak3];simp only[rD];rw[hDi];exact hrun
  .rw[zF k7]at hrun;rw[zA k7,zD];by_cases kz:x.1=0
   .rw[zE kz]at hsc hrun;rw[zB kz,zC]
    have hp0:pre.length≠0:=by
     intro e;rw[zE e]at hsc;cases hsc
    rw[zF hp0]at hsc
    obtain⟨pre2,⟨at2,w2⟩,rfl⟩: ∃pre2 x,pre=pre2++[x]:=by
     have hne2:pre≠[]:=by intro e;subst e;exact hp0 rfl
     exact⟨pre.dropLast,pre.getLast hne2,(nB hne2).symm⟩
    have hl2:(pre2++[(at2,w2)]).length=pre2.length+1:=by simp
    have hlast2:=hop (at2,w2) (by simp);simp only at hlast2;obtain⟨an,rfl⟩:=rB hlast.1;have han:an<l.length:=by omega
    rw[hget];simp only[zG];rw[dq han];simp only[zG];have hvv:=hv _ (gB han);rw[bW9 ⟨hlast.2.2.1,by omega⟩ hvv];simp only[zG];rw[ak3]at hrun;simp only[rD]at hrun;rw[cU4 han]at hrun;cases hb:as8 w l[an].2.2.2.2 with
    |none=>
     rw[hb]at hrun;simp only[Bool.not_false,zC];exact .inr ⟨_,rfl, .inl ⟨rfl,hrun.symm⟩⟩
    |some n=>
     rw[hb]at hrun;have hn:=br6 hlast.2.2.1 hvv.1 hb;simp only[iK,zD];rw[bp (show an<sz.length by omega)];simp only[zG];rw[aD (show an<sz.length by omega)];simp only[zG];rw[bp (show an<rds.length by omega)];simp only[zG];rw[aD (show an<rds.length by omega)];simp only[zG];rw[nb (by omega),cm];have e1:((pre2++[(at2,w2)]).length:Int).toNat-0=pre2.length+1:=by rw[hl2];omega
     rw[e1,ad (n:=((pre2.length+1:Nat):Int)-1) (by omega),show((pre2.length+1:Nat):Int)-1=(pre2.length:Int)by omega,bp (show pre2.length<pre2.length+1 by omega)];simp only[zG,iB]
     have hg2:(pre2++[(at2,w2)]++[((an:Int),w)])[pre2.length]?=Y (at2,w2):=by
      rw[dB,dD (aB _),bD];rfl
     rw[hg2];simp only[zG];rw[cG3 _ _ (by omega) hn];simp only[zG]
     have htk:((pre2++[(at2,w2)]++[((an:Int),w)]).set pre2.length (at2,w2+n)).take (pre2.length+1)=pre2++[(at2,w2+n)]:=by
      rw[dB,iV _ _ (aB _),bD];show(pre2++[(at2,w2+n),((an:Int),w)]).take (pre2.length+1)=_;rw[show [(at2,w2+n),((an:Int),w)]=[(at2,w2+n)]++[((an:Int),w)]from rfl,<-dB,iX];simp
     rw[htk,ad (n:=(i:Int)+1) (by omega)];refine .inl ⟨_,rfl,⟨i+1,_,_,pre2++[(at2,w2+n)],c,rfl,by simp[hsz],by simp[hrd],by simp,by simp;omega,λp hp=> ?_, ?_, ?_⟩,by simp;omega⟩
     .rcases List.mem_append.1 hp with hp|hp
      .have:=hop p (by simp[hp]);omega
      .simp at hp;subst hp;simp only;omega
     .rw[hl2]at hsc;rw[eD];exact hsc
     .rw[ak3];exact hrun
   .rw[zF kz]at hsc hrun;rw[zF k7]at hsc;rw[zA kz,zD,bk5 (by omega)];simp only[zG,zC];rw[bp (show i<sz.length by omega)];simp only[zG];rw[aD (show i<sz.length by omega)];simp only[zG];rw[hget];simp only[zG];rw[ad (n:=w+1) (by omega),ad (n:=(i:Int)+1) (by omega)]
    have hset:(pre++[(at',w)]).set pre.length (at',w+1)=pre++[(at',w+1)]:=by
     rw[iV _ _ (aB _),bD];rfl
    rw[hset];refine .inl ⟨_,rfl,⟨i+1,_,rds,pre++[(at',w+1)],c,rfl,by simp[hsz],hrd,by simp,by simp;omega,λp hp=> ?_, ?_, ?_⟩,by simp;omega⟩
    .rcases List.mem_append.1 hp with hp|hp
     .have:=hop p (by simp[hp]);omega
     .simp at hp;subst hp;simp only;omega
    .rw[eD];exact hsc
    .rw[ak3];exact hrun
 .have hi':i=l.length:=by omega
  subst hi';rw[iG]at hsc hrun;simp only[ca];rw[zA (show¬(l.length:Int)<(l.length:Int)by omega),zD]
  have hp:pre=[]:=by
   have hsc:Y pre.length=Y 0:=hsc;injection hsc with hsc
   exact List.length_eq_zero_iff.1 hsc
  subst hp;refine .inr ⟨_,rfl, .inr ⟨rfl,(at',w),rfl,hlast.2.2.1, ?_⟩⟩;rw[<-hrun];rfl
def Q9 (l:List cd):Option Int:=(wY l [((l.getD 0 (0,0,0,0,0)).2.2.2.2,0)]).bind λst=>match st with
 |[p]=>Y p.2
 |_=>Z
def de (l:List cd):Int×Int:=if bn l 0=Y 0 then(match Q9 l with
 |some w=>if 65536<w then(0,9)else(w,0)
 |none=>(0,9))else(0,6)
theorem ad1 {l:List cd}(hl:l.length<=100000)(hv: ∀o∈l,0<=o.2.2.2.2/\o.2.2.2.2<=18446744073709551615):gv l=Y (de l):=by
 unfold gv ph;obtain⟨m,hm⟩:=aL7 (l:=l) (by omega);rw[hm];unfold de;by_cases hs:bn l 0=Y 0
 .simp only[zE hs];simp only[zG];rw[zA (by simp),zD];rw[zB (show(0:Int)<=(l.length:Int)by omega),zB (show(l.length:Int)<=(l.length:Int)by omega),zB (show 8*(l.length:Int)<=140737488355328 by omega)];have hgd: ∀{β:Type} {y:Option β},gd (iY 1 (Sh.w (.int .i64))&&Za&&Za&&Za&&Nat.ble 1 8) y=y:=λ{β y}=>rfl
  rw[hgd,hgd]
  obtain⟨c,hc,h⟩:=ac8 (f:=ca l) (a:=((0:Int),bB ((l.length:Int)).toNat (0:Int),bB ((l.length:Int)).toNat (0:Int),[((0:Int),(0:Int))])) (dO0 l) (λs=>l.length-s.1.toNat) _
   ⟨0,_,_,[(0,0)],iD _,rfl,by simp,by simp,by simp,by simp,(λp hp=>by simp at hp;subst hp;simp only;omega),hs,rfl⟩ (by simp;omega) (λs h=>cs3 hl hv s h)
  rw[hc];simp only[zG];unfold Q9;rcases h with⟨h1,h2⟩|⟨h1,p,h3,h4,h5⟩
  .rw[h1,h2];rfl
  .rw[h1,h5,h3];show((((cond (Zc (65536<p.2)) (Y (9:Int)) (Y 0)).bind λs36=>cond (Zc (s36≠0)) (Y ((0:Int),s36,([]:Zd),([]:Zd))) (Y (p.2,0,c.2.1,c.2.2.1))).bind λr1=>Y (r1.1,r1.2.1)))=Y (if 65536<p.2 then(0,9)else(p.2,0));rw[ak];by_cases c6:65536<p.2
   .rw[zE c6,zE c6];rfl
   .rw[zF c6,zF c6];rfl
 .simp only[zF hs];rfl
theorem aD4 : ∀(l r:List cd) (st:List (Int×Int)),wY (l++r) st=(wY l st).bind (wY r)
 |[],r,st=>rfl
 |o::l,r,[]=>rfl
 |o::l,r,(v,w)::st=>by
  simp only[fD,wY];split
  .exact aD4 l r _
  split
  .split
   .exact aD4 l r _
   .rfl
  .exact aD4 l r _
def cV1 (v w:Int)(base:List (Int×Int)):List (Int×Int)->List (Int×Int)
 |[]=>[]
 |[p]=>(v,w+p.2)::base
 |p::q::r=>p::cV1 v w base (q::r)
theorem cg7 (v w:Int)(base:List (Int×Int))(p:Int×Int): ∀fs:List (Int×Int),cV1 v w base (fs++[p])=fs++(v,w+p.2)::base
 |[]=>rfl
 |[a]=>rfl
 |a::b::r=>by
  show a::cV1 v w base (b::r++[p])=_;rw[cg7 v w base p (b::r)];rfl
theorem xw (v w:Int)(base:List (Int×Int)): ∀(l:List cd) (fs:List (Int×Int)) (n0:Int) (d':Nat),bn l fs.length=Y d'->wY l (fs++(v,w+n0)::base)=(wY l (fs++[(0,n0)])).map (cV1 v w base)
 |[],fs,n0,d',_=>by
  show Y _=Y _;rw[cg7]
 |o::l,[],n0,d',h=>by
  simp only[bn,List.length_nil]at h;simp only[iA,wY];split at h
  .cases h
  split at h
  .rw[zE trivial]at h;cases h
  rename_i c1 c2;split at h
  .rename_i c3;rw[zE c3,zE c3];exact xw v w base l [(o.2.2.2.2,0)] n0 d' h
  .rename_i c3;rw[zF c3,zF c2,zF c3,zF c2,gD];exact xw v w base l [] (n0+1) d' h
 |o::l,(fv,fw)::fs,n0,d',h=>by
  simp only[bn,cD]at h;simp only[fD,wY];split at h
  .cases h
  split at h
  .rename_i c1 c2;rw[zF (by omega)]at h;rw[zF (by omega),zE c2,zF (by omega),zE c2];cases hb:as8 fw fv with
   |none=>rfl
   |some n=>
    cases fs with
    |nil=>
     simp only[iA];rw[gD];exact xw v w base l [] (n0+n) d' h
    |cons q fs=>
     simp only[fD];exact xw v w base l ((q.1,q.2+n)::fs) n0 d' h
  rename_i c1 c2;split at h
  .rename_i c3;rw[zE c3,zE c3];exact xw v w base l ((o.2.2.2.2,0)::(fv,fw)::fs) n0 d' h
  .rename_i c3;rw[zF c3,zF c2,zF c3,zF c2];exact xw v w base l ((fv,fw+1)::fs) n0 d' h
theorem bv0 : ∀(l:List cd) (st st':List (Int×Int)) (d d':Nat),st.length=d+1->bn l d=Y d'->wY l st=Y st'->st'.length=d'+1
 |[],st,st',d,d',h1,h2,h3=>by
  injection h2 with h2
  injection h3 with h3
  subst h2;subst h3;exact h1
 |o::l,[],st',d,d',h1,_,_=>by simp at h1
 |o::l,(v,w)::st,st',d,d',h1,h2,h3=>by
  simp only[bn]at h2;simp only[wY]at h3;simp only[cD,Nat.add_right_cancel_iff]at h1;split at h2
  .cases h2
  split at h2
  .rename_i c1 c2;split at h2
   .cases h2
   rw[zF (by omega),zE c2]at h3;split at h3
   .rename_i c3 _ _ n v' w' st2 _;exact bv0 l _ st' (d-1) d' (by simp at h1⊢;omega) h2 h3
   .cases h3
  rename_i c1 c2;split at h2
  .rename_i c3;rw[zE c3]at h3;exact bv0 l _ st' (d+1) d' (by simp;omega) h2 h3
  .rename_i c3;rw[zF c3,zF c2]at h3;exact bv0 l _ st' d d' (by simp;omega) h2 h3
theorem bK4 : ∀(l:List cd) (st st':List (Int×Int)),(∀o∈l,0<=o.2.2.2.2)->(∀p∈st,0<=p.1/\0<=p.2)->wY l st=Y st'->∀p∈st',0<=p.2
 |[],st,st',_,h,h3=>by
  injection h3 with h3
  subst h3;exact λp hp=>(h p hp).2
 |o::l,[],st',_,_,h3=>by cases h3
 |o::l,(v,w)::st,st',ho,h,h3=>by
  have hvw:=h (v,w) (by simp);have hrest: ∀p∈st,0<=p.1/\0<=p.2:=λp hp=>h p (by simp[hp])
  have hol: ∀o'∈l,0<=o'.2.2.2.2:=λo' ho'=>ho o' (by simp[ho'])
  simp only at hvw;simp only[wY]at h3;split at h3
  .refine bK4 l _ st' hol (λp hp=> ?_) h3;rcases List.mem_cons.1 hp with rfl|hp
   .exact⟨ho o (by simp),iM _⟩
   .exact h p hp
  split at h3
  .split at h3
   .rename_i n v' w' st2 hb;have hn:=br6 hvw.2 hvw.1 hb;refine bK4 l _ st' hol (λp hp=> ?_) h3;rcases List.mem_cons.1 hp with rfl|hp
    .have:=hrest (v',w') (by simp);simp only at this⊢;omega
    .exact hrest p (by simp[hp])
   .cases h3
  .refine bK4 l _ st' hol (λp hp=> ?_) h3;rcases List.mem_cons.1 hp with rfl|hp
   .simp only;omega
   .exact h p (by simp[hp])
theorem bl8 {l:List cd}(h:bn l 0=Y 0)(v w:Int)(base:List (Int×Int)):wY l ((v,w)::base)=(Q9 l).map λm=>(v,w+m)::base:=by
 have h1:=xw v w base l [] 0 0 h;rw[iA,iA,iL]at h1;have h2:=xw ((l.getD 0 (0,0,0,0,0)).2.2.2.2) 0 [] l [] 0 0 h;rw[iA,iA,iL]at h2;unfold Q9;rw[h1,h2];cases hr:wY l [(0,0)]with
 |none=>rfl
 |some st=>
  have hl:=bv0 l _ st 0 0 rfl h hr
  match st,hl with
  |[p],_=>
   show Y ((v,w+p.2)::base)=Y ((v,w+(0+p.2))::base);rw[fB]
theorem bC8 {l:List cd}(hv: ∀o∈l,0<=o.2.2.2.2){m:Int}(h:bn l 0=Y 0)(hq:Q9 l=Y m):0<=m:=by
 have h1:=bl8 h 0 0 [];rw[hq]at h1;have:=bK4 l _ _ hv (λp hp=>by simp at hp;subst hp;simp) h1 (0,0+m) (by simp);simp only at this;omega
theorem bn9 {l:List cd}(hl:l.length<=100000):vx l=Y (Zc (bn l 0=Y 0)):=by
 unfold vx
 obtain⟨c,hc,h⟩:=ac8 (f:=ad9 l) (a:=((0:Int),(0:Int))) (λs=> ∃i d:Nat,i<=l.length/\d<=i/\s=((i:Int),(d:Int))/\bn (l.drop i) d=bn l 0) (λs=>l.length-s.1.toNat)
  (λc=>(c= .inl Zb/\bn l 0=Z)∨∃d:Nat,c= .inr (d:Int)/\bn l 0=Y d) ⟨0,0,iD _,aB _,rfl,rfl⟩ (by simp;omega) (by
  rintro _ ⟨i,d,hi,hd,rfl,hs⟩;simp only[ad9,ak];by_cases c:i<l.length
  .rw[(iC c).symm]at hs;rw[zE (by omega),dq c];simp only[zG];generalize l[i]=x at*;simp only[bn]at hs;by_cases k0:x.1<0
   .rw[zE (.inl k0)]at hs;rw[zE k0];exact .inr ⟨_,rfl, .inl ⟨rfl,hs.symm⟩⟩
   rw[zF k0];by_cases k7:7<x.1
   .rw[zE (.inr k7)]at hs;rw[zE k7];exact .inr ⟨_,rfl, .inl ⟨rfl,hs.symm⟩⟩
   rw[zF (by omega)]at hs;rw[zF k7];by_cases kz:x.1=0
   .rw[zE kz]at hs;rw[zF (by omega)];simp only[zG];rw[zE kz,ad (n:=(d:Int)-1) (by omega),ad (n:=(i:Int)+1) (by omega)];by_cases hd0:d=0
    .rw[zE hd0]at hs;rw[zE (by omega)];exact .inr ⟨_,rfl, .inl ⟨rfl,hs.symm⟩⟩
    .rw[zF hd0]at hs;rw[zF (by omega)];exact .inl ⟨_,rfl,⟨i+1,d-1,c,by omega,by rw[show((d-1:Nat):Int)=(d:Int)-1 by omega];rfl,hs⟩,by simp;omega⟩
   .rw[zF kz]at hs;by_cases k77:x.1=7
    .rw[zE k77]at hs;rw[zE k77];simp only[zG];rw[zF kz,ad (n:=(d:Int)+1) (by omega),ad (n:=(i:Int)+1) (by omega),zF (by omega)];exact .inl ⟨_,rfl,⟨i+1,d+1,c,by omega,rfl,hs⟩,by simp;omega⟩
    .rw[zF k77]at hs;rw[zF k77];simp only[zG];rw[zF kz,ad (n:=(i:Int)+1) (by omega),zF (by omega)];exact .inl ⟨_,rfl,⟨i+1,d,c,by omega,rfl,hs⟩,by simp;omega⟩
  .have:i=l.length:=by omega
   subst this;rw[iG]at hs;rw[zF (by omega)]
   exact .inr ⟨_,rfl, .inr ⟨d,rfl,hs.symm⟩⟩)
 rw[hc];rcases h with⟨rfl,h⟩|⟨d,rfl,h⟩
 .rw[h];rfl
 .rw[h];show Y (Zc ((d:Int)=0))=Y (Zc (Y d=Y 0))
  congr 1
  rw[decide_eq_decide];constructor
  .intro e;have:d=0:=by omega
   rw[this]
  .intro e;injection e with e;omega
theorem aM7 : ∀(n:Nat) (s:List cd) (d:Nat),s.length<=n->bn s (d+1)=Y 0->∃inner e rest,s=inner++e::rest/\e.1=0/\bn inner 0=Y 0/\bn rest d=Y 0
 |n,[],d,_,h=>by
  injection h with h
  omega
 |0,o::s,d,hn,_=>by simp at hn
 |n+1,o::s,d,hn,h=>by
  simp only[cD]at hn;simp only[bn]at h;split at h
  .cases h
  rename_i c1;split at h
  .rename_i c2;rw[zF (by omega)]at h;exact⟨[],o,s,rfl,c2,rfl,h⟩
  rename_i c2;split at h
  .rename_i c3;obtain⟨i1,e1,r1,h1,h2,h3,h4⟩:=aM7 n s (d+1) (by omega) h;have hlen:r1.length<=n:=by rw[h1]at hn;simp at hn;omega
   obtain⟨i2,e2,r2,h5,h6,h7,h8⟩:=aM7 n r1 d hlen h4;refine⟨o::i1++e1::i2,e2,r2, ?_,h6, ?_,h8⟩
   .rw[h1,h5];simp
   .show bn (o::(i1++e1::i2)) 0=_;simp only[bn];rw[zF c1,zF c2,zE c3,wz,bv2 _ _ _ h3];show bn (e1::i2) 1=_;simp only[bn];rw[zF (by omega),zE h2,zF (by omega)];exact h7
  .rename_i c3;obtain⟨i1,e1,r1,h1,h2,h3,h4⟩:=aM7 n s d (by omega) h;refine⟨o::i1,e1,r1,by rw[h1];rfl,h2, ?_,h4⟩;simp only[bn];rw[zF c1,zF c2,zF c3];exact h3
theorem aj3 {i1 i2 r1 r2:List cd}{e1 e2:cd}(h:i1++e1::r1=i2++e2::r2)(h1:bn i1 0=Y 0)(h2:bn i2 0=Y 0)(he1:e1.1=0)(he2:e2.1=0):i1=i2:=by
 have key: ∀{a b:List cd} {e:cd} {x:List cd},a++e::x=b->e.1=0->bn a 0=Y 0->bn b 0=Y 0->False:=by
  intro a b e x hab he ha hb;rw[<-hab,wz,ha]at hb;have hb:bn (e::x) 0=Y 0:=hb;simp only[bn]at hb;rw[zF (by omega),zE he,zE trivial]at hb;cases hb
 rcases List.append_eq_append_iff.1 h with⟨a',h3,h4⟩|⟨a',h3,h4⟩
 .cases a' with
  |nil=>rw[iN]at h3;exact h3.symm
  |cons q a'=>
   rw[fD]at h4;injection h4 with h4 h5
   subst h4;exact(key h3.symm he1 h1 h2).elim
 .cases a' with
  |nil=>rw[iN]at h3;exact h3
  |cons q a'=>
   rw[fD]at h4;injection h4 with h4 h5
   subst h4;exact(key h3.symm he2 h2 h1).elim
theorem bP6 {l:List cd}(h:bn l 0=Y 0){i:Nat}(hi:i<=l.length): ∃d,bn (l.take i) 0=Y d/\bn (l.drop i) d=Y 0:=by
 rw[<-iW i l,wz]at h;obtain⟨d,h1,h2⟩:=ag h;exact⟨d,h1,h2⟩
theorem cz3 {l:List cd}(h:bn l 0=Y 0){i:Nat}(hi:i<l.length)(hk:l[i].1=7): ∃inner e rest,l.drop (i+1)=inner++e::rest/\e.1=0/\bn inner 0=Y 0:=by
 obtain⟨d,_,h2⟩:=bP6 h (i:=i) (by omega);rw[(iC hi).symm]at h2;simp only[bn]at h2;rw[zF (by omega),zF (by omega),zE hk]at h2;obtain⟨inner,e,rest,h3,h4,h5,_⟩:=aM7 _ _ d (aB _) h2;exact⟨inner,e,rest,h3,h4,h5⟩
structure MOK (l:List cd)(m:Zd):Prop where
 len:m.length=l.length
 at': ∀i,(hi:i<l.length)->l[i].1=7->∀inner e rest,l.drop (i+1)=inner++e::rest->e.1=0->bn inner 0=Y 0->m[i]?=Y ((i+1+inner.length:Nat):Int)
theorem dH2 {l:List cd}(hl:l.length<=100000){i:Nat}(hi:i<l.length){inner rest:List cd}{e:cd}(h:l.drop (i+1)=inner++e::rest)(he:e.1=0)(hs:bn inner 0=Y 0):ap (sK l) fy (1,(i:Int))=Y ((i+1+inner.length:Nat):Int):=by
 have hlen:l.length=i+1+inner.length+1+rest.length:=by
  have:=congrArg iI h;rw[iS]at this;simp at this;omega
 have hget: ∀j,j<inner.length+1->∃x,rd l ((i+1+j:Nat):Int)=Y x/\(inner++e::rest)[j]?=Y x:=by
  intro j hj;have hlt:i+1+j<l.length:=by omega
  refine⟨l[i+1+j],dq hlt, ?_⟩;rw[<-h,iR,aD hlt]
 have hpre: ∀j,j<=inner.length->∃d,bn (inner.take j) 0=Y d:=by
  intro j hj;obtain⟨d,h1,_⟩:=bP6 hs hj;exact⟨d,h1⟩
 let hs':Nat->Nat:=λj=>(bn (inner.take j) 0).getD 0
 have hhs: ∀j,j<=inner.length->bn (inner.take j) 0=Y (hs' j):=by
  intro j hj;obtain⟨d,hd⟩:=hpre j hj;show _=Y ((bn (inner.take j) 0).getD 0);rw[hd];rfl
 have hle: ∀j,hs' j<=j∨inner.length<j:=by
  intro j;induction j with
  |zero=>exact .inl (aB _)
  |succ j ih=>
   by_cases hj:j+1<=inner.length
   .left;have h1:=hhs (j+1) hj;rw[pB (show j<inner.length by omega),wz,hhs j (by omega)]at h1;have h1:bn [inner[j]] (hs' j)=Y (hs' (j+1)):=h1;simp only[bn]at h1;split at h1
    .cases h1
    split at h1
    .split at h1
     .cases h1
     .injection h1 with h1;omega
    split at h1
    .injection h1 with h1;omega
    .injection h1 with h1;omega
   .right;omega
 refine bn3 (f:=sK l) (n:=inner.length+1) (λj=>if j<=inner.length then((1+hs' j:Nat),((i+j:Nat):Int))else(0,((i+1+inner.length:Nat):Int))) (by omega) (λj hj=> ?_) ?_
 .have hb:=hle j;rw[zE (show j<=inner.length by omega)];obtain⟨x,hx1,hx2⟩:=hget j (by omega);simp only[sK,ak];rw[zE (by omega),ad (n:=((i+j:Nat):Int)+1) (by omega),show((i+j:Nat):Int)+1=((i+1+j:Nat):Int)by omega,hx1];simp only[zG];by_cases hj2:j<inner.length
  .rw[List.getElem?_append_left hj2,aD hj2]at hx2;injection hx2 with hx2
   have h1:=hhs (j+1) hj2;rw[pB hj2,wz,hhs j (by omega)]at h1;have h1:bn [inner[j]] (hs' j)=Y (hs' (j+1)):=h1;rw[hx2]at h1;simp only[bn]at h1;rw[zE (show j+1<=inner.length by omega)];split at h1
   .cases h1
   split at h1
   .rename_i k1 k2;split at h1
    .cases h1
    .injection h1 with h1
     rw[zF (by omega),zE k2,ad (by omega)]
     congr 3<;>omega
   rename_i k1 k2;split at h1
   .rename_i k3;injection h1 with h1
    rw[zE k3,zF k2,ad (by omega)]
    congr 3<;>omega
   .rename_i k3;injection h1 with h1
    rw[zF k3,zF k2]
    congr 3<;>omega
  .have hje:j=inner.length:=by omega
   subst hje;rw[dD (aB _),bD]at hx2;injection hx2 with hx2
   subst hx2
   have hz:hs' inner.length=0:=by
    have:=hhs inner.length (aB _);rw[List.take_length,hs]at this;injection this with this
    exact this.symm
   rw[zF (by omega),zE he,zF (show¬inner.length+1<=inner.length by omega),hz,ad (by omega)];rfl
 .rw[zF (by omega)];simp only[sK,ak];rw[zF (by omega)]
theorem cE8 {l:List cd}(hl:l.length<=100000):(bn l 0=Y 0/\∃m,wk l=Y (0,m)/\MOK l m)∨(bn l 0≠Y 0/\wk l=Y (6,[])):=by
 unfold wk;rw[bn9 hl];simp only[zG];by_cases hs:bn l 0=Y 0
 .left;refine⟨hs, ?_⟩;rw[zB hs];simp only[iK,zD]
  have h0:ap (sJ l) fy (0,[])=Y (bB l.length (-1)):=by
   have h:=pu (f:=sJ l) (n:=l.length) (λi=>bB i (-1:Int)) (c:=bB l.length (-1)) (by omega) ?_ ?_
   .exact h
   .intro i hi;simp only[sJ,ak];rw[zE (by omega),ck (by simp;omega) (by omega),ad (by omega),rU];rfl
   .simp only[sJ,ak];rw[zF (by omega)]
  rw[h0];simp only[zG]
  obtain⟨c,hc,h⟩:=ac8 (f:=zg l) (a:=((0:Int),bB l.length (-1:Int))) (λs=> ∃(i:Nat) (out:Zd),i<=l.length/\s=((i:Int),out)/\out.length=l.length/\∀j,j<i->(hj:j<l.length)->l[j].1=7->∀inner e rest,l.drop (j+1)=inner++e::rest->e.1=0->bn inner 0=Y 0->out[j]?=Y ((j+1+inner.length:Nat):Int)) (λs=>l.length-s.1.toNat)
   (λc=>MOK l c) ⟨0,_,iD _,rfl,by simp,λj hj=>by omega⟩ (by simp;omega) (by
   rintro _ ⟨i,out,hi,rfl,ho,hout⟩;simp only[zg,ak];by_cases c:i<l.length
   .rw[zE (by omega),dq c];simp only[zG];by_cases hk:l[i].1=7
    .obtain⟨inner,e,rest,h1,h2,h3⟩:=cz3 hs c hk
     have hlen:l.length=i+1+inner.length+1+rest.length:=by
      have:=congrArg iI h1;rw[iS]at this;simp at this;omega
     rw[zF (by simp[hk]),dH2 hl c h1 h2 h3];simp only[zG];rw[bp (show i<out.length by omega)];simp only[zG];rw[aD (show i<out.length by omega)];simp only[zG];rw[bp (show i+1+inner.length<(out.set i ((i+1+inner.length:Nat):Int)).length by simp;omega)];simp only[zG];rw[aD (show i+1+inner.length<(out.set i ((i+1+inner.length:Nat):Int)).length by simp;omega)];simp only[zG];rw[ad (n:=(i:Int)+1) (by omega)];refine .inl ⟨_,rfl,⟨i+1,_,c,rfl,by simp[ho],λj hj hjl hjk inner' e' rest' q1 q2 q3=> ?_⟩,by simp;omega⟩
     have hke:l[i+1+inner.length].1=0:=by
      have h4:(l.drop (i+1))[inner.length]?=Y e:=by
       rw[h1,dD (aB _),bD];rfl
      rw[iR,aD (show i+1+inner.length<l.length by omega)]at h4;injection h4 with h4
      rw[h4];exact h2
     have hne:i+1+inner.length≠j:=by
      intro e4;subst e4;rw[hke]at hjk;cases hjk
     rw[cB hne];by_cases hji:i=j
     .subst hji;have:=aj3 (h1.symm.trans q1) h3 q3 h2 q2;subst this;rw[iH (by omega)]
     .rw[cB hji];exact hout j (by omega) hjl hjk inner' e' rest' q1 q2 q3
    .rw[zE hk,ad (n:=(i:Int)+1) (by omega)];refine .inl ⟨_,rfl,⟨i+1,out,c,rfl,ho,λj hj hjl hjk=> ?_⟩,by simp;omega⟩;by_cases hji:j=i
     .subst hji;exact(hk hjk).elim
     .exact hout j (by omega) hjl hjk
   .have:i=l.length:=by omega
    subst this;rw[zF (by omega)]
    exact .inr ⟨_,rfl,ho,λj hj hjk=>hout j hj hj hjk⟩)
  rw[hc];exact⟨c,rfl,h⟩
 .right;refine⟨hs, ?_⟩;rw[zA hs];rfl
theorem cV6 {α β:Type}{f:α->β}(hf: ∀a b,f a=f b->a=b){x y:Option α}(h:x.map f=y.map f):x=y:=by
 cases x with
 |none=>cases y with
  |none=>rfl
  |some b=>cases h
 |some a=>cases y with
  |none=>cases h
  |some b=>
   injection h with h
   rw[hf _ _ h]
theorem cD7 (v c:Int)(base:List (Int×Int)): ∀a b:Int,(v,c+a)::base=(v,c+b)::base->a=b:=by
 intro a b h;injection h with h
 injection h with _ h
 omega
theorem cd9 {o:cd}{s:List cd}(h:bn (o::s) 0=Y 0)(hk:o.1≠7):bn s 0=Y 0/\(0<o.1/\o.1<7)/\Q9 (o::s)=(Q9 s).map (1+ ·):=by
 have h1:=bl8 h 0 0 [];simp only[bn]at h;split at h
 .cases h
 rename_i c1;split at h
 .rw[zE trivial]at h;cases h
 rename_i c2;refine⟨h,by omega,cV6 (cD7 0 0 []) ?_⟩;rw[<-h1];simp only[wY];rw[zF hk,zF c2,bl8 h];cases Q9 s with
 |none=>rfl
 |some m=>
  show Y [((0:Int),0+1+m)]=Y [((0:Int),0+(1+m))];rw[gD]
theorem cm6 {o e:cd}{inner rest:List cd}(h:bn (o::(inner++e::rest)) 0=Y 0)(hk:o.1=7)(he:e.1=0)(hi:bn inner 0=Y 0):
  bn rest 0=Y 0/\Q9 (o::(inner++e::rest))=(Q9 inner).bind λw=>(as8 w o.2.2.2.2).bind λb=>(Q9 rest).map (b+ ·):=by
 have h1:=bl8 h 0 0 [];simp only[bn]at h;rw[zF (by omega),zF (by omega),zE hk,wz,bv2 _ _ _ hi]at h;have h:bn (e::rest) 1=Y 0:=h;simp only[bn]at h;rw[zF (by omega),zE he,zF (by omega)]at h;have h:bn rest 0=Y 0:=h;refine⟨h,cV6 (cD7 0 0 []) ?_⟩;rw[<-h1];simp only[wY];rw[zE hk,aD4,bl8 hi];cases Q9 inner with
 |none=>rfl
 |some w=>
  show wY (e::rest) [(o.2.2.2.2,0+w),(0,0)]=_;simp only[wY];rw[zF (by omega),zE he,fB];simp only[zG];cases as8 w o.2.2.2.2 with
  |none=>rfl
  |some b=>
   simp only[zG];rw[bl8 h];cases Q9 rest with
   |none=>rfl
   |some m=>
    show Y [((0:Int),0+b+m)]=Y [((0:Int),0+(b+m))];rw[gD]
theorem cP3 {k:Int}(h:0<k/\k<7): ∃x,rh k=Y (Za,x):=by
 have:k=1∨k=2∨k=3∨k=4∨k=5∨k=6:=by omega
 rcases this with rfl|rfl|rfl|rfl|rfl|rfl<;>exact⟨_,rfl⟩
def bA9 (t:Int):Int:=if 65536<t then 65537 else t
def db2 (w v:Int):Int:=if bA9 w=0 then 0 else if v=0 then 0 else if 65536<v then 65537 else if 65536<bA9 w*v then 65537 else bA9 w*v
theorem bQ8 {w v b:Int}(hw:0<=w)(hv:0<=v)(h:as8 w v=Y b):db2 w v=b/\w<=65536:=by
 unfold as8 at h;unfold db2;split at h
 .rename_i c1;injection h with h
  subst h;subst c1;exact⟨by rw[zE (show bA9 0=0 from rfl)],by omega⟩
 split at h
 .cases h
 split at h
 .cases h
 rename_i c1 c2 c3;injection h with h
 have hs:bA9 w=w:=zF c2;rw[hs,zF c1];have hd:65536 / w<=65536:=jD _ (by omega);have h4:v<=65536 / w:=by omega
 have h5:=lB h4 hw;have h6:=kD (x:=65536) (k:=w) c1;refine⟨?_,by omega⟩;by_cases c4:v=0
 .rw[zE c4,<-h,c4,Int.mul_zero]
 .rw[zF c4,zF (by omega),zF (by omega),h]
theorem dk1 {w v:Int}(hw:0<=w)(hv:0<=v)(h:as8 w v=Z):65536<w∨db2 w v=65537:=by
 unfold as8 at h;split at h
 .cases h
 rename_i c1;split at h
 .rename_i c2;exact .inl c2
 rename_i c2;split at h
 .rename_i c3;right;unfold db2;have hs:bA9 w=w:=zF c2;have hlt:=Int.lt_mul_of_ediv_lt (show 0<w by omega) c3;rw[Int.mul_comm]at hlt;have hd:0<=65536 / w:=kB (by omega) hw;rw[hs,zF c1,zF (by omega)];by_cases c4:65536<v
  .rw[zE c4]
  .rw[zF c4,zE hlt]
 .cases h
def WOK (l:List cd)(m:Zd)(N:Nat):Prop:= ∀f,2*N<f->∀A seg B,l=A++seg++B->seg.length<N->bn seg 0=Y 0->
 ∃r,(bm f).1 l m (A.length:Int) ((A.length+seg.length:Nat):Int)=Y r/\0<=r/\r<=65537/\∀t,Q9 seg=Y t->r=bA9 t
section
variable {l:List cd} {m:Zd}
theorem cz4 (hl:l.length<=1000)(hv: ∀o∈l,0<=o.2.2.2.2/\o.2.2.2.2<=18446744073709551615)(hm:MOK l m){N:Nat}(h:WOK l m N){f:Nat}(hf:2*N+1<f){i:Nat}(hi:i<l.length)(hk:l[i].1=7){inner rest:List cd}{e:cd}(hd:l.drop (i+1)=inner++e::rest)(he:e.1=0)(hs:bn inner 0=Y 0)(hN:inner.length<N):
  ∃r,(bm f).2 l m (i:Int)=Y r/\0<=r/\r<=65537/\∀w,Q9 inner=Y w->r=db2 w l[i].2.2.2.2:=by
 obtain⟨g,rfl⟩: ∃g,f=g+1:=⟨f-1,by omega⟩
 have hlen:l.length=i+1+inner.length+1+rest.length:=by
  have:=congrArg iI hd;rw[iS]at this;simp at this;omega
 have hmi:=hm.at' i hi hk inner e rest hd he hs
 have hsplit:l=l.take (i+1)++inner++e::rest:=by
  rw[dB,<-hd,iW]
 have hA:(l.take (i+1)).length=i+1:=by rw[nD];omega
 obtain⟨r4,h1,h2,h3,h4⟩:=h g (by omega) (l.take (i+1)) inner (e::rest) hsplit hN hs;rw[hA]at h1
 have hrd:rd m (i:Int)=Y ((i+1+inner.length:Nat):Int):=by
  have hlt:i<m.length:=by rw[hm.len];exact hi
  rw[dq hlt,<-hmi,aD hlt]
 have hvi:=hv _ (gB hi);show∃r,av4 ((bm g).1) ((bm g).2) l m i=Y r/\_
 unfold av4;rw[hrd];simp only[zG];rw[ad (n:=(i:Int)+1) (by omega),show(i:Int)+1=((i+1:Nat):Int)by omega,h1];simp only[zG,ak];rw[dq hi];simp only[zG];generalize l[i].2.2.2.2=v at*
 have hval:(if r4=0 then Y 0 else if v=0 then Y 0 else if 65536<v then Y 65537 else if 65536<IntKind.i64.wrap (r4*zH zI v)then Y 65537 else Y (zH zI (r4*zH zI v)))=
   Y (if r4=0 then 0 else if v=0 then 0 else if 65536<v then 65537 else if 65536<r4*v then 65537 else r4*v):=by
  split
  .rfl
  split
  .rfl
  split
  .rfl
  rename_i c1 c2 c3;have h5:=Int.mul_le_mul h3 (show v<=65536 by omega) hvi.1 (by omega);have h6:=iF h2 hvi.1;rw[ad (n:=v) (by omega),ad (by omega)];split<;>rfl
 rw[hval];refine⟨_,rfl, ?_, ?_,λw hw=> ?_⟩
 .split
  .omega
  split
  .omega
  split
  .omega
  split
  .omega
  .exact iF h2 hvi.1
 .split
  .omega
  split
  .omega
  split
  .omega
  split<;>omega
 .rw[h4 w hw];rfl
theorem bc1 (hl:l.length<=1000)(hv: ∀o∈l,0<=o.2.2.2.2/\o.2.2.2.2<=18446744073709551615)(hm:MOK l m){N:Nat}(h:WOK l m N){g:Nat}(hg:2*N+1<g)(hi:Nat): ∀(k:Nat) (pre seg B:List cd) (n:Int) (fu:Nat),l=pre++seg++B->seg.length<=k->seg.length<=N->seg.length<fu->bn seg 0=Y 0->hi=pre.length+seg.length->0<=n/\n<=65536->
  ∃c,ap (uz ((bm g).2) l m hi) fu ((pre.length:Int),n)=Y c/\(c= .inl ()∨∃r,c= .inr r/\0<=r/\r<=65536)/\∀t,Q9 seg=Y t->c=if 65536<n+t then .inl ()else .inr (n+t)
 |k,pre,[],B,n,0,_,_,_,hfu,_,_,_=>by simp at hfu
 |k,pre,[],B,n,fu+1,hsplit,_,_,_,hs,hh,hn=>by
  refine⟨.inr n, ?_, .inr ⟨n,rfl,hn⟩,λt ht=> ?_⟩
  .rw[cf];simp only[uz,ak];rw[zF (by simp at hh;omega)];rfl
  .injection ht with ht
   subst ht;rw[iL,zF (by omega)]
 |0,pre,o::seg,B,n,fu,_,hk,_,_,_,_,_=>by simp at hk
 |k+1,pre,o::seg,B,n,0,_,_,_,hfu,_,_,_=>by simp at hfu
 |k+1,pre,o::seg,B,n,fu+1,hsplit,hk,hN,hfu,hs,hh,hn=>by
  simp only[cD]at hk hN hfu hh;have hlen:l.length=pre.length+(seg.length+1)+B.length:=by rw[hsplit];simp;omega
  have hlt:pre.length<l.length:=by omega
  have hget:l[pre.length]=o:=by
   have:l[pre.length]?=Y o:=by
    rw[hsplit,dB,dD (aB _),bD];rfl
   rw[aD hlt]at this;injection this
  have hov:0<=o.2.2.2.2/\o.2.2.2.2<=18446744073709551615:=by rw[<-hget];exact hv _ (gB hlt)
  rw[cf];simp only[uz,ak];rw[zE (by omega),dq hlt,hget];simp only[zG];by_cases hk7:o.1=7
  .
   rw[zE hk7]
   have hs1:bn seg 1=Y 0:=by
    simp only[bn]at hs;rw[zF (by omega),zF (by omega),zE hk7]at hs;exact hs
   obtain⟨inner,e,rest,h1,h2,h3,h4⟩:=aM7 _ seg 0 (aB _) hs1;subst h1;simp only[eD,cD]at hk hN hfu hh hlen
   have hd:l.drop (pre.length+1)=inner++e::(rest++B):=by
    rw[hsplit,dB,iO,iP (by omega),show pre.length+1-pre.length=1 by omega];simp
   obtain⟨r9,b1,b2,b3,b4⟩:=cz4 hl hv hm h hg hlt (by rw[hget];exact hk7) hd h2 h3 (by omega);rw[hget]at b4;rw[b1];simp only[zG];have hmi:=hm.at' pre.length hlt (by rw[hget];exact hk7) inner e (rest++B) hd h2 h3
   have hrd:rd m (pre.length:Int)=Y ((pre.length+1+inner.length:Nat):Int):=by
    have hlt':pre.length<m.length:=by rw[hm.len];exact hlt
    rw[dq hlt',<-hmi,aD hlt']
   rw[hrd];simp only[zG];rw[ad (n:=n+r9) (by omega),ad (n:=((pre.length+1+inner.length:Nat):Int)+1) (by omega)];obtain⟨hsr,hQ⟩:=cm6 hs hk7 h2 h3;by_cases c1:65536<n+r9
   .rw[zE c1];refine⟨.inl (),rfl, .inl rfl,λt ht=> ?_⟩;rw[hQ]at ht;obtain⟨w,hw,ht⟩:=ag ht;obtain⟨b,hb,ht⟩:=ag ht;have hw0:=bC8 (l:=inner) (λo' ho'=>(hv o' (by rw[hsplit];simp[ho'])).1) h3 hw;obtain⟨e1,_⟩:=bQ8 hw0 hov.1 hb;rw[b4 w hw,e1]at c1;cases hqr:Q9 rest with
    |none=>rw[hqr]at ht;cases ht
    |some tr=>
     rw[hqr]at ht;injection ht with ht
     have ht:b+tr=t:=ht;have:=bC8 (l:=rest) (λo' ho'=>(hv o' (by rw[hsplit];simp[ho'])).1) hsr hqr;rw[zE (by omega)]
   .rw[zF c1];simp only[zG,aw];have hp:(pre++o::(inner++[e])).length=pre.length+1+inner.length+1:=by simp;omega
    obtain⟨c,d1,d2,d3⟩:=bc1 hl hv hm h hg hi k (pre++o::(inner++[e])) rest B (n+r9) fu (by rw[hsplit];simp) (by omega) (by omega) (by omega) hsr (by rw[hp];omega) (by omega);rw[hp]at d1;refine⟨c,by rw[show((pre.length+1+inner.length:Nat):Int)+1=((pre.length+1+inner.length+1:Nat):Int)by omega];exact d1,d2,λt ht=> ?_⟩;rw[hQ]at ht;obtain⟨w,hw,ht⟩:=ag ht;obtain⟨b,hb,ht⟩:=ag ht;have hw0:=bC8 (l:=inner) (λo' ho'=>(hv o' (by rw[hsplit];simp[ho'])).1) h3 hw;obtain⟨e1,_⟩:=bQ8 hw0 hov.1 hb;have hr9:r9=b:=by rw[b4 w hw,e1]
    cases hqr:Q9 rest with
    |none=>rw[hqr]at ht;cases ht
    |some tr=>
     rw[hqr]at ht;injection ht with ht
     have:=d3 tr hqr;rw[this,<-ht,hr9,gD]
  .rw[zF hk7];obtain⟨hsr,hko,hQ⟩:=cd9 hs hk7;obtain⟨x,hx⟩:=cP3 hko;rw[hx];simp only[zG,zC];rw[ad (n:=n+1) (by omega),ad (n:=(pre.length:Int)+1) (by omega)];by_cases c1:65536<n+1
   .rw[zE c1];refine⟨.inl (),rfl, .inl rfl,λt ht=> ?_⟩;rw[hQ]at ht;cases hqr:Q9 seg with
    |none=>rw[hqr]at ht;cases ht
    |some tr=>
     rw[hqr]at ht;injection ht with ht
     have ht:1+tr=t:=ht;have:=bC8 (l:=seg) (λo' ho'=>(hv o' (by rw[hsplit];simp[ho'])).1) hsr hqr;rw[zE (by omega)]
   .rw[zF c1];simp only[zG,aw];have hp:(pre++[o]).length=pre.length+1:=by simp
    obtain⟨c,d1,d2,d3⟩:=bc1 hl hv hm h hg hi k (pre++[o]) seg B (n+1) fu (by rw[hsplit];simp) (by omega) (by omega) (by omega) hsr (by rw[hp];omega) (by omega);rw[hp]at d1;refine⟨c,d1,d2,λt ht=> ?_⟩;rw[hQ]at ht;cases hqr:Q9 seg with
    |none=>rw[hqr]at ht;cases ht
    |some tr=>
     rw[hqr]at ht;injection ht with ht
     rw[d3 tr hqr,<-ht,gD]
theorem wok (hl:l.length<=1000)(hv: ∀o∈l,0<=o.2.2.2.2/\o.2.2.2.2<=18446744073709551615)(hm:MOK l m): ∀N,WOK l m N
 |0=>λ_ _ _ _ _ _ h=>absurd h (Nat.not_lt_zero _)
 |N+1=>λf hf A seg B hs0 hN hs=>by
  obtain⟨g,rfl⟩: ∃g,f=g+1:=⟨f-1,by omega⟩
  show∃r,ak7 ((bm g).1) ((bm g).2) l m _ _=Y r/\_
  unfold ak7
  have hsl:seg.length<=1000:=by
   have:=congrArg iI hs0;simp at this;omega
  obtain⟨c,h1,h2,h3⟩:=bc1 hl hv hm (wok hl hv hm N) (g:=g) (by omega) (A.length+seg.length) _ A seg B 0 fy hs0 (aB _) (by omega) (by unfold fy;omega) hs rfl (by omega);rw[h1];simp only[zG];rcases h2 with rfl|⟨r,rfl,h4,h5⟩
  .refine⟨65537,rfl,by omega,by omega,λt ht=> ?_⟩;have:=h3 t ht;rw[fB]at this;unfold bA9;split at this
   .rename_i c;rw[zE c]
   .cases this
  .refine⟨r,rfl,h4,by omega,λt ht=> ?_⟩;have:=h3 t ht;rw[fB]at this;unfold bA9;split at this
   .cases this
   .rename_i c;injection this with this
    rw[zF c,this]
end
theorem cC2 {δ:Type}{f:Int->Option (Int⊕δ)}(n:Nat)(hn:n<9223372036854775808)(stop:Nat->Prop)(c e:δ)
  (hs: ∀i:Nat,i<n->¬stop i->f (i:Int)=Y (.inl ((i+1:Nat):Int))) (hx: ∀i:Nat,i<n->stop i->f (i:Int)=Y (.inr c)) (he:f (n:Int)=Y (.inr e)):
  (∃i,i<n/\stop i/\(∀j,j<i->¬stop j)/\ap f fy 0=Y c)∨((∀j,j<n->¬stop j)/\ap f fy 0=Y e):=by
 by_cases h: ∃i,i<n/\stop i
 .obtain⟨i,h1,h2⟩:=h
  have hex: ∃i,i<n/\stop i/\∀j,j<i->¬stop j:=by
   induction i using Nat.strongRecOn with
   |ind i ih=>
    by_cases hj: ∃j,j<i/\stop j
    .obtain⟨j,h3,h4⟩:=hj;exact ih j h3 (by omega) h4
    .exact⟨i,h1,h2,λj h h3=>hj ⟨j,h,h3⟩⟩
  obtain⟨i,h1,h2,h3⟩:=hex;exact .inl ⟨i,h1,h2,h3,xu (n:=i) (by omega) (λj hj=>hs j (by omega) (h3 j hj)) (hx i h1 h2)⟩
 .have h': ∀j,j<n->¬stop j:=λj h1 h2=>h ⟨j,h1,h2⟩
  exact .inr ⟨h',xu (n:=n) hn (λj hj=>hs j hj (h' j hj)) he⟩
theorem dC6 {seg pre inner rest:List cd}{o e:cd}{t:Int}(hq:Q9 seg=Y t)(hs:seg=pre++o::(inner++e::rest))(ho:o.1=7)(he:e.1=0)(hi:bn inner 0=Y 0):
  ∃w b,Q9 inner=Y w/\as8 w o.2.2.2.2=Y b:=by
 unfold Q9 at hq;rw[hs,aD4]at hq;obtain⟨st,h1,h2⟩:=ag hq;obtain⟨st1,h3,h4⟩:=ag h1;cases st1 with
 |nil=>simp[wY]at h4
 |cons p st1=>
  simp only[wY]at h4;rw[zE ho,aD4,bl8 hi]at h4;cases hw:Q9 inner with
  |none=>rw[hw]at h4;cases h4
  |some w=>
   rw[hw]at h4;have h4:wY (e::rest) ((o.2.2.2.2,0+w)::(p.1,p.2)::st1)=Y st:=h4;simp only[wY]at h4;rw[zF (by omega),zE he,fB]at h4;cases hb:as8 w o.2.2.2.2 with
   |none=>rw[hb]at h4;cases h4
   |some b=>exact⟨w,b,rfl,hb⟩
theorem cp5 : ∀(n:Nat) (seg:List cd),seg.length<=n->bn seg 0=Y 0->Q9 seg=Z->∃pre o inner e rest w,seg=pre++o::(inner++e::rest)/\o.1=7/\e.1=0/\bn inner 0=Y 0/\Q9 inner=Y w/\as8 w o.2.2.2.2=Z
 |n,[],_,_,hq=>by cases hq
 |0,o::s,h,_,_=>by simp at h
 |n+1,o::s,hn,hs,hq=>by
  simp only[cD]at hn;by_cases hk:o.1=7
  .have hs1:bn s 1=Y 0:=by
    simp only[bn]at hs;rw[zF (by omega),zF (by omega),zE hk]at hs;exact hs
   obtain⟨inner,e,rest,h1,h2,h3,h4⟩:=aM7 _ s 0 (aB _) hs1;subst h1;simp only[eD,cD]at hn;obtain⟨hsr,hQ⟩:=cm6 hs hk h2 h3;rw[hQ]at hq;cases hw:Q9 inner with
   |none=>
    obtain⟨pre,o',i',e',r',w,q1,q2⟩:=cp5 n inner (by omega) h3 hw;exact⟨o::pre,o',i',e',r'++e::rest,w,by rw[q1];simp,q2⟩
   |some w=>
    rw[hw]at hq;simp only[zG]at hq;cases hb:as8 w o.2.2.2.2 with
    |none=>exact⟨[],o,inner,e,rest,w,rfl,hk,h2,h3,hw,hb⟩
    |some b=>
     rw[hb]at hq;simp only[zG]at hq;cases hr:Q9 rest with
     |some t=>rw[hr]at hq;cases hq
     |none=>
      obtain⟨pre,o',i',e',r',w',q1,q2⟩:=cp5 n rest (by omega) hsr hr;exact⟨o::(inner++e::pre),o',i',e',r',w',by rw[q1];simp,q2⟩
  .obtain⟨hsr,_,hQ⟩:=cd9 hs hk;rw[hQ]at hq;cases hr:Q9 s with
   |some t=>rw[hr]at hq;cases hq
   |none=>
    obtain⟨pre,o',i',e',r',w',q1,q2⟩:=cp5 n s (by omega) hsr hr;exact⟨o::pre,o',i',e',r',w',by rw[q1];rfl,q2⟩
section
variable {l:List cd} {m:Zd}
theorem bm4 (hl:l.length<=100)(hv: ∀o∈l,0<=o.2.2.2.2/\o.2.2.2.2<=18446744073709551615)(hm:MOK l m)(hs:bn l 0=Y 0){i:Nat}(hi:i<l.length)(hk:l[i].1=7):
  ∃inner e rest b w mi,l.drop (i+1)=inner++e::rest/\e.1=0/\bn inner 0=Y 0/\m[i]?=Y mi/\mi=((i+1+inner.length:Nat):Int)/\zR l m (i:Int)=Y b/\sM l m ((i+1:Nat):Int) mi=Y w/\0<=b/\0<=w/\
   ∀t,Q9 inner=Y t->b=db2 t l[i].2.2.2.2/\w=bA9 t:=by
 obtain⟨inner,e,rest,hd,he,hi0⟩:=cz3 hs hi hk
 have hlen:l.length=i+1+inner.length+1+rest.length:=by
  have:=congrArg iI hd;rw[iS]at this;simp at this;omega
 have hsplit:l=l.take (i+1)++inner++e::rest:=by
  rw[dB,<-hd,iW]
 have hA:(l.take (i+1)).length=i+1:=by rw[nD];omega
 obtain⟨b,b1,b2,b3,b4⟩:=cz4 (by omega) hv hm (wok (by omega) hv hm 101) (f:=400) (by omega) hi hk hd he hi0 (by omega);obtain⟨w,w1,w2,w3,w4⟩:=wok (by omega) hv hm 101 400 (by omega) (l.take (i+1)) inner (e::rest) hsplit (by omega) hi0;rw[hA]at w1;exact⟨inner,e,rest,b,w,_,hd,he,hi0,hm.at' i hi hk inner e rest hd he hi0,rfl,b1,w1,b2,w2,λt ht=>⟨b4 t ht,w4 t ht⟩⟩
theorem cP5 (hl:l.length<=100)(hv: ∀o∈l,0<=o.2.2.2.2/\o.2.2.2.2<=18446744073709551615)(hm:MOK l m)(hs:bn l 0=Y 0):
  ap (my l (0,m)) fy 0=Y (match Q9 l with|some _=> .inr ()|none=> .inl ()):=by
 have key:=cC2 (f:=my l (0,m)) l.length (by omega)
  (λi=> ∃hi:i<l.length,l[i].1=7/\∃b w mi,m[i]?=Y mi/\zR l m (i:Int)=Y b/\sM l m ((i+1:Nat):Int) mi=Y w/\(65536<b∨65536<w)) (.inl ()) (.inr ())
  (λi hi hn=>by
   unfold my;simp only[ak];rw[zE (by omega),dq hi];simp only[zG];by_cases hk:l[i].1=7
   .obtain⟨inner,e,rest,b,w,mi,q1,q2,q3,q4,q5,q6,q7,q8⟩:=bm4 hl hv hm hs hi hk;rw[zE hk,q6];simp only[zG];rw[zF (λh=>hn ⟨hi,hk,b,w,mi,q4,q6,q7, .inl h⟩),bp (show i<m.length by rw[hm.len];exact hi)];simp only[zG];rw[q4];simp only[zG];rw[ad (n:=(i:Int)+1) (by omega),show(i:Int)+1=((i+1:Nat):Int)by omega,q7];simp only[zG];rw[zF (λh=>hn ⟨hi,hk,b,w,mi,q4,q6,q7, .inr h⟩)]
   .rw[zF hk,ad (n:=(i:Int)+1) (by omega)]
    rfl)
  (λi _ hst=>by
   obtain⟨hi,hk,b,w,mi,q4,q6,q7,q8⟩:=hst;unfold my;simp only[ak];rw[zE (by omega),dq hi];simp only[zG];rw[zE hk,q6];simp only[zG];by_cases hb:65536<b
   .rw[zE hb]
   .rw[zF hb,bp (show i<m.length by rw[hm.len];exact hi)];simp only[zG];rw[q4];simp only[zG];rw[ad (n:=(i:Int)+1) (by omega),show(i:Int)+1=((i+1:Nat):Int)by omega,q7];simp only[zG]
    rw[zE (by omega)])
  (by
   unfold my;simp only[ak]
   rw[zF (by omega)])
 cases hq:Q9 l with
 |some t=>
  rcases key with⟨i,h1,⟨hi,hk,b,w,mi,q4,q6,q7,q8⟩,_⟩|⟨_,h⟩
  .exfalso;obtain⟨inner,e,rest,b',w',mi',p1,p2,p3,p4,p5,p6,p7,p8,p9,p10⟩:=bm4 hl hv hm hs hi hk
   have hsplit:l=l.take i++l[i]::(inner++e::rest):=by
    rw[<-p1,iC hi,iW]
   obtain⟨w0,b0,g1,g2⟩:=dC6 hq hsplit hk p2 p3;obtain⟨e1,e2⟩:=p10 w0 g1;have hmem: ∀o'∈inner,0<=o'.2.2.2.2:=λo' ho'=>(hv o' (by rw[hsplit];simp[ho'])).1
   have hw0:=bC8 hmem p3 g1;obtain⟨x1,x2⟩:=bQ8 hw0 (hv _ (gB hi)).1 g2;obtain⟨x3,x4⟩:=br6 hw0 (hv _ (gB hi)).1 g2;rw[q4]at p4;injection p4 with p4
   rw[q6]at p6;injection p6 with p6
   rw[<-p4,q7]at p7;injection p7 with p7
   have hs9:bA9 w0=w0:=zF (by omega);rw[hs9]at e2;omega
  .exact h
 |none=>
  rcases key with⟨_,_,_,_,h⟩|⟨h,_⟩
  .exact h
  .exfalso;obtain⟨pre,o,inner,e,rest,w,q1,q2,q3,q4,q5,q6⟩:=cp5 _ l (aB _) hs hq;have hi:pre.length<l.length:=by rw[q1];simp
   have hget:l[pre.length]=o:=by
    have:l[pre.length]?=Y o:=by
     rw[q1,dD (aB _),bD];rfl
    rw[aD hi]at this;injection this
   have hk:l[pre.length].1=7:=by rw[hget];exact q2
   have hd:l.drop (pre.length+1)=inner++e::rest:=by
    rw[q1,iO,iP (by omega),show pre.length+1-pre.length=1 by omega];simp
   obtain⟨inner',e',rest',b',w',mi',p1,p2,p3,p4,p5,p6,p7,p8,p9,p10⟩:=bm4 hl hv hm hs hi hk;have:=aj3 (hd.symm.trans p1) q4 p3 q3 p2;subst this;obtain⟨e1,e2⟩:=p10 w q5;have hmem: ∀o'∈inner,0<=o'.2.2.2.2:=λo' ho'=>(hv o' (by rw[q1];simp[ho'])).1
   have hw0:=bC8 hmem q4 q5;rw[hget]at e1;have hov:0<=o.2.2.2.2:=by rw[<-hget];exact(hv _ (gB hi)).1
   refine h _ hi ⟨hi,hk,b',w',mi',p4,p6,p7, ?_⟩;rcases dk1 hw0 hov q6 with x|x
   .right;rw[e2];unfold bA9;rw[zE x];omega
   .left;rw[e1,x];omega
theorem aM3 (hl:l.length<=100)(hv: ∀o∈l,0<=o.2.2.2.2/\o.2.2.2.2<=18446744073709551615):sL l=Y (de l):=by
 unfold sL de;rcases cE8 (l:=l) (by omega)with⟨hs,m,hm,hok⟩|⟨hs,hm⟩
 .rw[hm,zE hs];simp only[zG];rw[zA (by simp),zD,cP5 hl hv hok hs];cases hq:Q9 l with
  |none=>rfl
  |some t=>
   have ht:=bC8 (λo ho=>(hv o ho).1) hs hq;simp only[zG,aw];obtain⟨w,w1,w2,w3,w4⟩:=wok (by omega) hv hok 101 400 (by omega) [] l [] (by simp) (by omega) hs
   have w1:sM l m 0 (l.length:Int)=Y w:=by
    rw[<-w1];show _=(bm 400).1 l m 0 ((0+l.length:Nat):Int);rw[iB];rfl
   rw[w1];simp only[zG,ak];have e2:=w4 t hq;unfold bA9 at e2;by_cases c:65536<t
   .rw[zE c]at e2;rw[zE c,zE (by omega)]
   .rw[zF c]at e2;rw[zF c,zF (by omega),e2]
 .rw[hm,zF hs];rfl
end
theorem aj7 {α δ:Type}{f:Int->Option (Int⊕δ)}{l:List α}(p:α->Bool)(c:Nat->δ)(e:δ)(hl:l.length<1000000)
  (hf: ∀i,(hi:i<l.length)->f (i:Int)=Y (if p l[i]then .inr (c i)else .inl ((i+1:Nat):Int))) (he:f (l.length:Int)=Y (.inr e)):
  (l.any p=Za/\∃i:Nat,ap f fy 0=Y (c i))∨(l.any p=Zb/\ap f fy 0=Y e):=by
 by_cases h: ∃i,∃hi:i<l.length,p l[i]=Za
 .left
  have hex: ∃i,(∃hi:i<l.length,p l[i]=Za)/\∀j,j<i->¬∃hj:j<l.length,p l[j]=Za:=by
   obtain⟨i,hi⟩:=h;induction i using Nat.strongRecOn with
   |ind i ih=>
    by_cases hj: ∃j,j<i/\∃hj:j<l.length,p l[j]=Za
    .obtain⟨j,h3,h4⟩:=hj;exact ih j h3 h4
    .exact⟨i,hi,λj h h3=>hj ⟨j,h,h3⟩⟩
  obtain⟨i,⟨hi,h1⟩,h2⟩:=hex;refine⟨List.any_eq_true.2 ⟨l[i],gB hi,h1⟩,i,xu (n:=i) (by omega) (λj hj=> ?_) ?_⟩
  .rw[hf j (by omega),zF (λhp=>h2 j hj ⟨by omega,hp⟩)]
  .rw[hf i hi,zE h1]
 .right;refine⟨?_,xu (n:=l.length) (by omega) (λj hj=> ?_) he⟩
  .rw[Bool.eq_false_iff];intro ht;obtain⟨x,hx,hp⟩:=List.any_eq_true.1 ht;obtain⟨i,hi,rfl⟩:=List.getElem_of_mem hx;exact h ⟨i,hi,hp⟩
  .rw[hf j hj,zF (λhp=>h ⟨j,hj,hp⟩)]
def bu (k:Int):Bool×Bool×Bool×Bool:=if k=1∨k=2∨k=3 then(Za,Za,Za,Zb)else if k=4∨k=6 then(Za,Za,Zb,Zb)else if k=5 then(Za,Zb,Zb,Za)else if k=7 then(Zb,Zb,Zb,Za)else(Zb,Zb,Zb,Zb)
theorem aL9 (k:Int):k=1∨k=2∨k=3∨k=4∨k=5∨k=6∨k=7∨(¬k=1/\¬k=2/\¬k=3/\¬k=4/\¬k=5/\¬k=6/\¬k=7):=by omega
theorem ch6 (k:Int):w7 k=Y (bu k):=by
 rcases aL9 k with rfl|rfl|rfl|rfl|rfl|rfl|rfl|⟨h1,h2,h3,h4,h5,h6,h7⟩
 any_goals rfl
 simp[w7,bu,h1,h2,h3,h4,h5,h6,h7]
theorem bk6 (k:Int):rh k=Y (bu k):=by
 rcases aL9 k with rfl|rfl|rfl|rfl|rfl|rfl|rfl|⟨h1,h2,h3,h4,h5,h6,h7⟩
 any_goals rfl
 by_cases h:1<=k
 .simp[rh,bu,h1,h2,h3,h4,h5,h6,h7,h,show¬k<=3 by omega,aw]
 .simp[rh,bu,h1,h2,h3,h4,h5,h6,h7,h,aw]
def aU0 (n:Int)(q:Bool):Bool:=if q then Zc (0<=n/\n<=2147483647)else Zc (n=0)
theorem bI5 (n:Int)(q:Bool):mw n q=Y (aU0 n q):=by
 unfold mw aU0;cases q
 .rfl
 .by_cases h:0<=n<;>simp[h]
def zK (o:cd):Bool:=Zc (0<=o.1/\o.1<8)&&(aU0 o.2.1 (bu o.1).1&&(aU0 o.2.2.1 (bu o.1).2.1&&(aU0 o.2.2.2.1 (bu o.1).2.2.1&&((bu o.1).2.2.2||Zc (o.2.2.2.2=0)))))
theorem cs8 (o:cd):xP o.1 o.2.1 o.2.2.1 o.2.2.2.1 o.2.2.2.2=Y (zK o):=by
 unfold xP al1 zK
 have hk:(cond (Zc (0<=o.1)) (Y (Zc (o.1<8))) (Y Zb))=Y (Zc (0<=o.1/\o.1<8)):=by
  by_cases h:0<=o.1<;>simp[h]
 rw[ch6,hk];simp only[zG,bI5];generalize Zc (0<=o.1/\o.1<8)=b1;generalize aU0 o.2.1 (bu o.1).1=b2;generalize aU0 o.2.2.1 (bu o.1).2.1=b3;generalize aU0 o.2.2.2.1 (bu o.1).2.2.1=b4;generalize (bu o.1).2.2.2=b5;cases b1<;>cases b2<;>cases b3<;>cases b4<;>cases b5<;>rfl
theorem cE7 (o:cd):zQ o.1 o.2.1 o.2.2.1 o.2.2.2.1 o.2.2.2.2=Y (zK o):=by
 unfold zQ;simp only[ak];by_cases h1:o.1<0
 .rw[zE h1];unfold zK;rw[zA (show¬(0<=o.1/\o.1<8)by omega)];rfl
 rw[zF h1];by_cases h2:7<o.1
 .rw[zE h2];unfold zK;rw[zA (show¬(0<=o.1/\o.1<8)by omega)];rfl
 rw[zF h2,bk6];simp only[zG]
 have key:=aj7 (f:=vw o.2.1 o.2.2.1 o.2.2.2.1 (bu o.1)) (l:=[(o.2.1,(bu o.1).1),(o.2.2.1,(bu o.1).2.1),(o.2.2.2.1,(bu o.1).2.2.1)]) (λp=> !aU0 p.1 p.2) (λ_=> .inl Zb) (.inr ()) (by simp)
  (λi hi=>by
   unfold vw;have hi:i<3:=hi;rw[ak,zE (by omega),bp (show i<3 from hi),bp (show i<4 by omega)];simp only[zG,ak]
   have e1:iQ [o.2.1,o.2.2.1,o.2.2.2.1] i 0=([(o.2.1,(bu o.1).1),(o.2.2.1,(bu o.1).2.1),(o.2.2.2.1,(bu o.1).2.2.1)][i]).1:=by
    rcases(show i=0∨i=1∨i=2 by omega)with rfl|rfl|rfl<;>rfl
   have e2:iQ [(bu o.1).1,(bu o.1).2.1,(bu o.1).2.2.1,(bu o.1).2.2.2] i Zb=([(o.2.1,(bu o.1).1),(o.2.2.1,(bu o.1).2.1),(o.2.2.2.1,(bu o.1).2.2.1)][i]).2:=by
    rcases(show i=0∨i=1∨i=2 by omega)with rfl|rfl|rfl<;>rfl
   rw[e1,e2,ad (n:=(i:Int)+1) (by omega),show(i:Int)+1=((i+1:Nat):Int)by omega];generalize [(o.2.1,(bu o.1).1),(o.2.2.1,(bu o.1).2.1),(o.2.2.2.1,(bu o.1).2.2.1)][i]=x;obtain⟨n,q⟩:=x;simp only[aU0];by_cases c1:n<0
   .rw[zE c1,zE];cases q
    .simp;omega
    .simp;omega
   rw[zF c1];by_cases c2:2147483647<n
   .rw[zE c2,zE];cases q
    .simp;omega
    .simp;omega
   rw[zF c2];cases q with
   |true=>
    rw[zB (show 0<=n/\n<=2147483647 by omega)];rfl
   |false=>
    by_cases c3:n=0
    .subst c3;rfl
    .simp[c3])
  (by
   unfold vw
   rw[ak,zF (by simp)])
 unfold zK;rw[zB (show 0<=o.1/\o.1<8 by omega)]
 have hany:([(o.2.1,(bu o.1).1),(o.2.2.1,(bu o.1).2.1),(o.2.2.2.1,(bu o.1).2.2.1)].any λp=> !aU0 p.1 p.2)= !(aU0 o.2.1 (bu o.1).1&&(aU0 o.2.2.1 (bu o.1).2.1&&aU0 o.2.2.2.1 (bu o.1).2.2.1)):=by
  simp[List.any,Bool.not_and]
 rw[hany]at key;generalize aU0 o.2.1 (bu o.1).1=b2 at*;generalize aU0 o.2.2.1 (bu o.1).2.1=b3 at*;generalize aU0 o.2.2.2.1 (bu o.1).2.2.1=b4 at*;rcases key with⟨h,_,hk⟩|⟨h,hk⟩
 .rw[hk];cases b2<;>cases b3<;>cases b4<;>first|rfl|cases h
 .rw[hk]
  have:b2=Za/\b3=Za/\b4=Za:=by
   cases b2<;>cases b3<;>cases b4<;>first|exact⟨rfl,rfl,rfl⟩|cases h
  obtain⟨rfl,rfl,rfl⟩:=this;simp only[zG,aw];cases(bu o.1).2.2.2<;>rfl
theorem ao2 (b:Bool)(e:Int):i3 b e=Y (if b then e else 0):=by cases b<;>rfl
def bE1 (l:List cd):Bool:=Zc (bn l 0=Y 0)&& !(l.any λo=> !zK o)
theorem aK8 {R:Int}{l:List cd}(hl:l.length<=4096):eg R l=Y (if bE1 l then 0 else 6):=by
 unfold eg;obtain⟨m,hm⟩:=aL7 (l:=l) (by omega);rw[hm];simp only[zG,ao2];rw[zA (by omega),zD,ak];unfold bE1;by_cases hs:bn l 0=Y 0
 .rw[zE hs,zF (by simp),zB hs];unfold iz jz
  rcases aj7 (f:=dy l) (l:=l) (λo=> !zK o) (λi=> .inl (i:Int)) (.inr ()) (by omega) (λi hi=>by
   unfold dy;rw[ak,zE (by omega),dq hi];simp only[zG];unfold tg;rw[cs8,ad (n:=(i:Int)+1) (by omega)];simp only[zG]
   cases zK l[i]<;>rfl) (by
   unfold dy
   rw[ak,zF (by omega)])with⟨h,i,hk⟩|⟨h,hk⟩
  .rw[hk,h];simp only[zG,aw];rw[zB (by omega)];rfl
  .rw[hk,h];rfl
 .rw[zF hs,zE (by simp),zA hs];rfl
theorem cP7 {R:Int}{l:List cd}(hl:l.length<=100):ah8 R l=Y (bE1 l):=by
 unfold ah8 bE1;rw[zA (by omega),zD,bn9 (by omega)];simp only[zG];cases Zc (bn l 0=Y 0)with
 |false=>rfl
 |true=>
  rcases aj7 (f:=wC l) (l:=l) (λo=> !zK o) (λi=> .inl Zb) (.inr ()) (by omega) (λi hi=>by
   unfold wC;rw[ak,zE (by omega),dq hi];simp only[zG];rw[cE7,ad (n:=(i:Int)+1) (by omega)];simp only[zG]
   cases zK l[i]<;>rfl) (by
   unfold wC
   rw[ak,zF (by omega)])with⟨h,i,hk⟩|⟨h,hk⟩
  .rw[hk,h];rfl
  .rw[hk,h];rfl
def cs5 (R:Int)(o:cd):Bool:=((bu o.1).1&&Zc (R<=o.2.1))||((bu o.1).2.1&&Zc (R<=o.2.2.1))||((bu o.1).2.2.1&&Zc (R<=o.2.2.2.1))
def bu6 (R:Int)(l:List cd):Bool:=Zc (1<=R/\R<=64)&& !(l.any (cs5 R))
theorem bV2 (x y:Int):bk [x,y]=Y [y,x]:=by kernel_rfl
theorem cF1 (x:Int):bk [x]=Y [x]:=by kernel_rfl
theorem bV1 :bk []=Y []:=by kernel_rfl
theorem cs7 (o:cd):xO o.1 o.2.1 o.2.2.1 o.2.2.2.1 o.2.2.2.2=Y (if(bu o.1).2.1 then(if(bu o.1).2.2.1 then [o.2.2.1,o.2.2.2.1]else [o.2.2.1])else []):=by
 obtain⟨k,d,a,b,v⟩:=o;simp only;rcases aL9 k with rfl|rfl|rfl|rfl|rfl|rfl|rfl|⟨h1,h2,h3,h4,h5,h6,h7⟩
 .exact(show _=(bk [b,a]).bind _ from rfl).trans (by rw[bV2];rfl)
 .exact(show _=(bk [b,a]).bind _ from rfl).trans (by rw[bV2];rfl)
 .exact(show _=(bk [b,a]).bind _ from rfl).trans (by rw[bV2];rfl)
 .exact(show _=(bk [a]).bind _ from rfl).trans (by rw[cF1];rfl)
 .exact(show _=(bk []).bind _ from rfl).trans (by rw[bV1];rfl)
 .exact(show _=(bk [a]).bind _ from rfl).trans (by rw[cF1];rfl)
 .exact(show _=(bk []).bind _ from rfl).trans (by rw[bV1];rfl)
 .unfold xO;simp only[zA h1,zA h2,zA h3,zA h4,zA h6,zD,zG,aw,bV1];simp[bu,h1,h2,h3,h4,h5,h6,h7]
theorem cq3 (l:Zd)(R:Int)(p:List cd)(hl:l.length<1000):eo l R p=Y (l.any λn=>Zc (R<=n)):=by
 unfold eo pi
 rcases aj7 (f:=io l R p) (l:=l) (λn=>Zc (R<=n)) (λi=> .inl (i:Int)) (.inr ()) (by omega) (λi hi=>by
  unfold io;rw[ak,zE (by omega),dq hi];simp only[zG];unfold ly;rw[ad (n:=(i:Int)+1) (by omega)];simp only[zG]
  cases Zc (R<=l[i])<;>rfl) (by
  unfold io
  rw[ak,zF (by omega)])with⟨h,i,hk⟩|⟨h,hk⟩
 .rw[hk,h];simp only[zG,aw];rw[zB (by omega)]
 .rw[hk,h];rfl
theorem cF0 (o:cd)(R:Int)(p:List cd):jm o.1 o.2.1 o.2.2.1 o.2.2.2.1 o.2.2.2.2 R p=Y (cs5 R o):=by
 unfold jm nc;rw[cs7,ch6];unfold cs5;simp only[zG];obtain⟨k,d,a,b,v⟩:=o;simp only
 have h1:(bu k).2.2.1=Za->(bu k).2.1=Za:=by
  unfold bu;split
  .intro _;rfl
  split
  .intro _;rfl
  split
  .intro h;cases h
  split<;>intro h<;>cases h
 have h2:(bu k).2.1=Za->(bu k).1=Za:=by
  unfold bu;split
  .intro _;rfl
  split
  .intro _;rfl
  split
  .intro h;cases h
  split<;>intro h<;>cases h
 generalize (bu k).1=b1 at*;generalize (bu k).2.1=b2 at*;generalize (bu k).2.2.1=b3 at*
 have hs: ∀l:Zd,l.length<1000->∀r,(l.any λn=>Zc (R<=n))=r->((eo l R p).bind λr10=>Y r10)=Y r:=by
  intro l hl r hr;rw[cq3 l R p hl,hr];rfl
 cases b1<;>cases b2<;>cases b3<;>first
  |(cases h2 rfl)
  |(cases h1 rfl)
  |skip
 .refine hs [] (by simp) _ ?_;generalize Zc (R<=d)=x;generalize Zc (R<=a)=y;generalize Zc (R<=b)=z;cases x<;>cases y<;>cases z<;>rfl
 .refine hs [d] (by simp) _ ?_;simp only[mB,mD];generalize Zc (R<=d)=x;generalize Zc (R<=a)=y;generalize Zc (R<=b)=z;cases x<;>cases y<;>cases z<;>rfl
 .refine hs [a,d] (by simp) _ ?_;simp only[mB,mD];generalize Zc (R<=d)=x;generalize Zc (R<=a)=y;generalize Zc (R<=b)=z;cases x<;>cases y<;>cases z<;>rfl
 .refine hs [a,b,d] (by simp) _ ?_;simp only[mB,mD];generalize Zc (R<=d)=x;generalize Zc (R<=a)=y;generalize Zc (R<=b)=z;cases x<;>cases y<;>cases z<;>rfl
theorem ae9 {R:Int}{l:List cd}(hl:l.length<=4096):er R l=Y (if bu6 R l then 0 else 7):=by
 unfold er bu6;simp only[ao2,zG,ak];by_cases c1:R<1
 .rw[zE c1,zA (show¬(1<=R/\R<=64)by omega)];rfl
 rw[zF c1];by_cases c2:64<R
 .rw[zE c2,zA (show¬(1<=R/\R<=64)by omega)];rfl
 rw[zF c2,zB (show 1<=R/\R<=64 by omega)];unfold ij i6
 rcases aj7 (f:=du l R l) (l:=l) (cs5 R) (λi=> .inl (i:Int)) (.inr ()) (by omega) (λi hi=>by
  unfold du;rw[ak,zE (by omega),dq hi];simp only[zG];rw[cF0,ad (n:=(i:Int)+1) (by omega)];simp only[zG]
  cases cs5 R l[i]<;>rfl) (by
  unfold du
  rw[ak,zF (by omega)])with⟨h,i,hk⟩|⟨h,hk⟩
 .rw[hk,h];simp only[zG,aw];rw[zB (by omega)];rfl
 .rw[hk,h];rfl
theorem bI7 {R:Int}{l:List cd}(hl:l.length<=100):uE R l=Y (bu6 R l):=by
 unfold uE bu6;simp only[ak];by_cases c1:R<1
 .rw[zE c1,zA (show¬(1<=R/\R<=64)by omega)];rfl
 rw[zF c1];by_cases c2:64<R
 .rw[zE c2,zA (show¬(1<=R/\R<=64)by omega)];rfl
 rw[zF c2,zB (show 1<=R/\R<=64 by omega)]
 rcases aj7 (f:=rj R l) (l:=l) (cs5 R) (λi=> .inl Zb) (.inr ()) (by omega) (λi hi=>by
  unfold rj;rw[ak,zE (by omega),dq hi];simp only[zG];rw[bk6,ad (n:=(i:Int)+1) (by omega)];simp only[zG];unfold cs5;generalize l[i]=o;generalize Zc (R<=o.2.1)=x;generalize Zc (R<=o.2.2.1)=y;generalize Zc (R<=o.2.2.2.1)=z;generalize (bu o.1).1=b1;generalize (bu o.1).2.1=b2;generalize (bu o.1).2.2.1=b3
  cases b1<;>cases b2<;>cases b3<;>cases x<;>cases y<;>cases z<;>rfl) (by
  unfold rj
  rw[ak,zF (by omega)])with⟨h,i,hk⟩|⟨h,hk⟩
 .rw[hk,h];rfl
 .rw[hk,h];rfl
def hmax :List cd->Nat->Nat->Nat
 |[],_,m=>m
 |o::r,d,m=>if o.1=7 then hmax r (d+1) (max m (d+1))else if o.1=0 then hmax r (d-1) m else hmax r d m
def dN5 (l:List cd)(s:Int×Bool×Int×Zd):Prop:=
 ∃(i m:Nat) (st:Zd),i<=l.length/\s=((i:Int),Za,(m:Int),st)/\st.length<=i/\m<=i/\bn (l.drop i) st.length=bn l 0/\hmax (l.drop i) st.length m=hmax l 0 0
theorem db8 {l:List cd}(hl:l.length<=100000)(s:Int×Bool×Int×Zd)(h:dN5 l s):
  (∃b,sI l s=Y (.inl b)/\dN5 l b/\l.length-b.1.toNat<l.length-s.1.toNat)∨∃c,sI l s=Y (.inr c)/\((c.1=Zb/\bn l 0=Z)∨(c.1=Za/\bn l 0=Y c.2.2.length/\c.2.1=(hmax l 0 0:Int))):=by
 obtain⟨i,m,st,hi,rfl,hsl,hml,hsc,hhm⟩:=h;by_cases c:i<l.length
 .have hdrop:l.drop i=l[i]::l.drop (i+1):=(iC c).symm;rw[hdrop]at hsc hhm;simp only[sI];rw[zB (show(i:Int)<(l.length:Int)by omega),zC,dq c];simp only[zG];generalize hx:l[i]=x at*;simp only[bn]at hsc;simp only[hmax]at hhm;by_cases k0:x.1<0
  .rw[zE (.inl k0)]at hsc;rw[zB k0];simp only[zC,zG,kn];exact .inr ⟨_,rfl, .inl ⟨rfl,hsc.symm⟩⟩
  rw[zA k0,zD];by_cases k7:7<x.1
  .rw[zE (.inr k7)]at hsc;rw[zB k7];simp only[zC,zG,bg,kn];exact .inr ⟨_,rfl, .inl ⟨rfl,hsc.symm⟩⟩
  rw[zA k7,zD];rw[zF (by omega)]at hsc;by_cases kz:x.1=0
  .rw[zE kz]at hsc;rw[zF (by omega),zE kz]at hhm;rw[zB kz];simp only[zC,zG,bg];by_cases hs0:st.length=0
   .rw[zE hs0]at hsc;rw[zB (show(st.length:Int)=0 by omega)];simp only[zC,zG,kn];exact .inr ⟨_,rfl, .inl ⟨rfl,hsc.symm⟩⟩
   .rw[zF hs0]at hsc;rw[zA (show¬(st.length:Int)=0 by omega),zD];rw[ad (n:=(st.length:Int)-1) (by omega),nb (by omega),cm];simp only[zG,bg];rw[zA (show¬x.1=7 by omega)];simp only[zD];rw[ad (n:=(i:Int)+1) (by omega)]
    have hlt:(st.take (((st.length:Int)-1).toNat-0)).length=st.length-1:=by
     rw[nD];omega
    refine .inl ⟨_,rfl,⟨i+1,m,_,c,rfl,by rw[hlt];omega,by omega,by rw[hlt];exact hsc,by rw[hlt];exact hhm⟩,by simp;omega⟩
  .rw[zF kz]at hsc;have ez:Zc (x.1=0)=Zb:=zA kz;rw[ez];simp only[zD,zG,bg];by_cases k7:x.1=7
   .rw[zE k7]at hsc hhm;rw[zB k7];simp only[zC];rw[ck (by omega) (by omega),ad (n:=(i:Int)+1) (by omega),ad (n:=(st.length:Int)+1) (by omega)];refine .inl ⟨_,rfl,⟨i+1,max m (st.length+1),st++[(i:Int)],c, ?_,by simp;omega,by omega,by rw[eD];exact hsc,by rw[eD];exact hhm⟩,by simp;omega⟩;rw[show((max m (st.length+1):Nat):Int)=max (m:Int) ((st.length:Int)+1)by omega];rfl
   .rw[zF k7]at hsc hhm;rw[zF kz]at hhm;rw[zA k7];simp only[zD];rw[ad (n:=(i:Int)+1) (by omega)];exact .inl ⟨_,rfl,⟨i+1,m,st,c,rfl,by omega,by omega,hsc,hhm⟩,by simp;omega⟩
 .have hi':i=l.length:=by omega
  subst hi';rw[iG]at hsc hhm;simp only[sI];rw[zA (show¬(l.length:Int)<(l.length:Int)by omega),zD];have hhm:m=hmax l 0 0:=hhm;exact .inr ⟨_,rfl, .inr ⟨rfl,hsc.symm,by rw[<-hhm]⟩⟩
def bR2 (l:List cd):Int×Int:=if bn l 0=Y 0 then((hmax l 0 0:Int),0)else(0,6)
theorem dd9 {l:List cd}(hl:l.length<=100000):at3 l=Y (bR2 l):=by
 unfold at3 bR2
 obtain⟨c,hc,h⟩:=ac8 (f:=sI l) (a:=((0:Int),Za,(0:Int),([]:Zd))) (dN5 l) (λs=>l.length-s.1.toNat) (λc=>(c.1=Zb/\bn l 0=Z)∨(c.1=Za/\bn l 0=Y c.2.2.length/\c.2.1=(hmax l 0 0:Int)))
  ⟨0,0,[],iD _,rfl,aB _,aB _,rfl,rfl⟩ (by simp;omega) (λs hs=>db8 hl s hs)
 rw[hc];simp only[zG];rcases h with⟨h1,h2⟩|⟨h1,h2,h3⟩
 .rw[h1,h2];rfl
 .rw[h1,h2,zC];by_cases c0:c.2.2.length=0
  .rw[zB (show(c.2.2.length:Int)=0 by omega),zE (by rw[c0]),h3];rfl
  .rw[zA (show¬(c.2.2.length:Int)=0 by omega),zF (by intro e;injection e with e;exact c0 e)];rfl
def dpt (l:List cd)(i:Nat):Nat:=(bn (l.take i) 0).getD 0
theorem cA3 {l:List cd}(hs:bn l 0=Y 0){i:Nat}(hi:i<=l.length):bn (l.take i) 0=Y (dpt l i):=by
 obtain⟨d,h1,_⟩:=bP6 hs hi;unfold dpt;rw[h1];rfl
theorem bR4 {l:List cd}(hs:bn l 0=Y 0){i:Nat}(hi:i<l.length):(l[i].1=7/\dpt l (i+1)=dpt l i+1)∨(l[i].1=0/\0<dpt l i/\dpt l (i+1)=dpt l i-1)∨(l[i].1≠7/\l[i].1≠0/\dpt l (i+1)=dpt l i):=by
 have h1:=cA3 hs (i:=i+1) (by omega);rw[pB hi,wz,cA3 hs (by omega)]at h1;have h1:bn [l[i]] (dpt l i)=Y (dpt l (i+1)):=h1;simp only[bn]at h1;split at h1
 .cases h1
 split at h1
 .rename_i k1 k2;split at h1
  .cases h1
  .injection h1 with h1
   exact .inr (.inl ⟨k2,by omega,h1.symm⟩)
 rename_i k1 k2;split at h1
 .rename_i k3;injection h1 with h1
  exact .inl ⟨k3,h1.symm⟩
 .rename_i k3;injection h1 with h1
  exact .inr (.inr ⟨k3,k2,h1.symm⟩)
theorem dm0 {l:List cd}(hs:bn l 0=Y 0): ∀i,i<=l.length->dpt l i<=i
 |0,_=>aB _
 |i+1,h=>by
  have:=dm0 hs i (by omega);rcases bR4 hs (i:=i) (by omega)with⟨_,h2⟩|⟨_,_,h2⟩|⟨_,_,h2⟩<;>omega
theorem ct4 {l:List cd}(hl:l.length<=100000)(hs:bn l 0=Y 0){n:Nat}(hn:n<=l.length):xS l (n:Int)=Y (dpt l n:Int):=by
 unfold xS;have key:ap (ri l (n:Int)) fy (0,((dpt l 0:Nat):Int))=Y ((dpt l n:Nat):Int):=pu (n:=n) (λi=>((dpt l i:Nat):Int)) (c:=((dpt l n:Nat):Int)) (by omega) (λi hi=> ?_) ?_
 .show((ap (ri l (n:Int)) fy (0,((dpt l 0:Nat):Int))).bind _)=_;rw[key];rfl
 .unfold ri;simp only[ak];rw[zE (by omega),dq (show i<l.length by omega)];simp only[zG];have hd:=dm0 hs i (by omega);rw[ad (n:=(i:Int)+1) (by omega)];rcases bR4 hs (i:=i) (by omega)with⟨h1,h2⟩|⟨h1,h3,h2⟩|⟨h1,h3,h2⟩
  .rw[zE h1,zF (by omega),ad (n:=((dpt l i:Nat):Int)+1) (by omega),h2];rfl
  .rw[zF (by omega),zE h1,ad (n:=((dpt l i:Nat):Int)-1) (by omega),h2,show((dpt l i-1:Nat):Int)=(dpt l i:Int)-1 by omega];rfl
  .rw[zF h1,zF h3,h2];rfl
 .unfold ri;simp only[ak];rw[zF (by omega)]
def aC4 (l:List cd):Nat->Nat
 |0=>0
 |i+1=>max (aC4 l i) (dpt l i)
theorem cg3 {l:List cd}(hs:bn l 0=Y 0): ∀k i,i+k=l.length->hmax (l.drop i) (dpt l i) (aC4 l (i+1))=aC4 l (l.length+1)
 |0,i,h=>by
  have:i=l.length:=by omega
  subst this;rw[iG];rfl
 |k+1,i,h=>by
  rw[(iC (show i<l.length by omega)).symm];simp only[hmax];have ih:=cg3 hs k (i+1) (by omega);have e:aC4 l (i+1+1)=max (aC4 l (i+1)) (dpt l (i+1)):=rfl;have e2:aC4 l (i+1)=max (aC4 l i) (dpt l i):=rfl;rcases bR4 hs (i:=i) (by omega)with⟨h1,h2⟩|⟨h1,h3,h2⟩|⟨h1,h3,h2⟩
  .rw[zE h1,<-h2,<-e];exact ih
  .rw[zF (by omega),zE h1,<-h2,show aC4 l (i+1)=aC4 l (i+1+1)by rw[e];omega];exact ih
  .rw[zF h1,zF h3];rw[h2,show aC4 l (i+1+1)=aC4 l (i+1)by rw[e];omega]at ih;exact ih
theorem cP4 {l:List cd}(hl:l.length<=100000):ah6 l=Y (bR2 l):=by
 unfold ah6 bR2;rw[bn9 hl];simp only[zG];by_cases hs:bn l 0=Y 0
 .rw[zB hs,zE hs];simp only[iK,zD];have key:ap (ua l) fy (0,((aC4 l 0:Nat):Int))=Y ((aC4 l (l.length+1):Nat):Int):=pu (n:=l.length+1) (λi=>((aC4 l i:Nat):Int)) (c:=((aC4 l (l.length+1):Nat):Int)) (by omega) (λi hi=> ?_) ?_
  .show((ap (ua l) fy (0,((aC4 l 0:Nat):Int))).bind _)=_;rw[key];have h:=cg3 hs l.length 0 (by omega);have e0:dpt l 0=0:=rfl;have e1:aC4 l (0+1)=0:=rfl;rw[e0,e1,List.drop_zero]at h;rw[h];rfl
  .unfold ua;simp only[ak];rw[zE (by omega),ct4 hl hs (by omega)];simp only[zG];rw[ad (n:=(i:Int)+1) (by omega)];show _=Y (Sum.inl (((i+1:Nat):Int),((max (aC4 l i) (dpt l i):Nat):Int)));rw[show((max (aC4 l i) (dpt l i):Nat):Int)=max (aC4 l i:Int) (dpt l i:Int)by omega];rfl
  .unfold ua;simp only[ak];rw[zF (by omega)]
 .rw[zA hs,zF hs];rfl
structure OpsOk (l:List cd):Prop where
 len:l.length<=4096
 v: ∀o∈l,0<=o.2.2.2.2/\o.2.2.2.2<=18446744073709551615
def lk0 (l:List cd):Int:=if bE1 l then 0 else 6
def lk1 (R:Int)(l:List cd):Int:=if bu6 R l then 0 else 7
def lk2 (l:List cd):Int:=if 8<(bR2 l).1 then 8 else 0
def lk3 (l:List cd):Int:=(de l).2
def aM1 (R:Int)(l:List cd):Int:=if lk0 l≠0 then lk0 l else if lk1 R l≠0 then lk1 R l else if lk2 l≠0 then lk2 l else lk3 l
def wb (R:Int)(l:List cd)(Q:Int)(k:List cd):Int:=if lk0 l≠0 then lk0 l else if lk0 k≠0 then lk0 k else if lk1 R l≠0 then lk1 R l else if lk1 Q k≠0 then lk1 Q k else if lk2 l≠0 then lk2 l else if lk2 k≠0 then lk2 k else if lk3 l≠0 then lk3 l else lk3 k
theorem aY9 {R:Int}{l:List cd}(h:OpsOk l):iq R l=Y (lk2 l):=by
 unfold iq lk2;have:=h.len;rw[dd9 (by omega)];simp only[zG,ao2];by_cases c:8<(bR2 l).1<;>simp[c]
theorem aK9 {R:Int}{l:List cd}(h:OpsOk l):gy R l=Y (lk3 l):=by
 unfold gy lk3;have:=h.len;rw[ad1 (by omega) h.v];rfl
theorem cc5 {R:Int}{l:List cd}(h:OpsOk l):wB R l=Y (aM1 R l):=by
 unfold wB aM1;rw[aK8 h.len,ae9 h.len,aY9 h,aK9 h];simp only[zG,ak];show(if lk0 l≠0 then Y (lk0 l)else if lk1 R l≠0 then Y (lk1 R l)else if lk2 l≠0 then Y (lk2 l)else if lk3 l≠0 then Y (lk3 l)else Y 0)=_;split
 .rfl
 split
 .rfl
 split
 .rfl
 split
 .rfl
 .rename_i h;rw[show lk3 l=0 by omega]
theorem cL8 {R Q:Int}{l k:List cd}(h:OpsOk l)(h':OpsOk k):vt R l Q k=Y (wb R l Q k):=by
 unfold vt wb;rw[aK8 h.len,ae9 h.len,aY9 h,aK9 h,aK8 h'.len,ae9 h'.len,aY9 h',aK9 h'];simp only[zG,ak];show(if lk0 l≠0 then Y (lk0 l)else if lk0 k≠0 then Y (lk0 k)else if lk1 R l≠0 then Y (lk1 R l)else if lk1 Q k≠0 then Y (lk1 Q k)else if lk2 l≠0 then Y (lk2 l)else if lk2 k≠0 then Y (lk2 k)else if lk3 l≠0 then Y (lk3 l)else if lk3 k≠0 then Y (lk3 k)else Y 0)=_;split
 .rfl
 split
 .rfl
 split
 .rfl
 split
 .rfl
 split
 .rfl
 split
 .rfl
 split
 .rfl
 split
 .rfl
 .rename_i h;rw[show lk3 k=0 by omega]
def lkN (R:Int)(l:List cd)(n:Nat):Int:=if n=0 then lk0 l else if n=1 then lk1 R l else if n=2 then lk2 l else lk3 l
theorem bU8 {R:Int}{l:List cd}(h:OpsOk l)(h1:l.length<=100)(n:Nat):xT R l (n:Int)=Y (lkN R l n):=by
 unfold xT lkN;have:=h.len;simp only[ak];by_cases c0:n=0
 .rw[zE (by omega),zE c0,cP7 h1];unfold lk0;simp only[zG];cases bE1 l<;>rfl
 rw[zF (by omega),zF c0];by_cases c1:n=1
 .rw[zE (by omega),zE c1,bI7 h1];unfold lk1;simp only[zG];cases bu6 R l<;>rfl
 rw[zF (by omega),zF c1];by_cases c2:n=2
 .rw[zE (by omega),zE c2,cP4 (by omega)];unfold lk2;simp only[zG];split<;>rfl
 rw[zF (by omega),zF c2,aM3 h1 h.v];rfl
theorem cP6 {R Q:Int}{l k:List cd}(h:OpsOk l)(h':OpsOk k)(h1:l.length<=100)(h1':k.length<=100):ah7 R l Q k=Y (wb R l Q k):=by
 have hstep: ∀n:Nat,n<4->qw R l Q k (n:Int)=Y (if lkN R l n≠0 then .inr (.inl (lkN R l n))else if lkN Q k n≠0 then .inr (.inl (lkN Q k n))else .inl ((n+1:Nat):Int)):=by
  intro n hn;unfold qw;simp only[ak];rw[zE (by omega),bU8 h h1,bU8 h' h1'];simp only[zG];rw[ad (n:=(n:Int)+1) (by omega)];split
  .rfl
  split<;>rfl
 have hend:qw R l Q k 4=Y (.inr (.inr ())):=rfl;unfold ah7 wb
 have key:ap (qw R l Q k) fy 0=Y (if lk0 l≠0 then .inl (lk0 l)else if lk0 k≠0 then .inl (lk0 k)else if lk1 R l≠0 then .inl (lk1 R l)else if lk1 Q k≠0 then .inl (lk1 Q k)else if lk2 l≠0 then .inl (lk2 l)else if lk2 k≠0 then .inl (lk2 k)else if lk3 l≠0 then .inl (lk3 l)else if lk3 k≠0 then .inl (lk3 k)else .inr ()):=by
  have hB:fy=18446744073709551611+1+1+1+1+1:=rfl;rw[hB,cf];have h0:=hstep 0 (by omega);have h1:=hstep 1 (by omega);have h2:=hstep 2 (by omega);have h3:=hstep 3 (by omega);rw[show lkN R l 0=lk0 l from rfl,show lkN Q k 0=lk0 k from rfl]at h0;rw[show lkN R l 1=lk1 R l from rfl,show lkN Q k 1=lk1 Q k from rfl]at h1;rw[show lkN R l 2=lk2 l from rfl,show lkN Q k 2=lk2 k from rfl]at h2;rw[show lkN R l 3=lk3 l from rfl,show lkN Q k 3=lk3 k from rfl]at h3;have h0:qw R l Q k 0=_:=h0;rw[h0];simp only[zG];split
  .rfl
  split
  .rfl
  simp only[aw];rw[cf,h1];simp only[zG];split
  .rfl
  split
  .rfl
  simp only[aw];rw[cf,h2];simp only[zG];split
  .rfl
  split
  .rfl
  simp only[aw];rw[cf,h3];simp only[zG];split
  .rfl
  split
  .rfl
  simp only[aw];rw[cf,show(((3+1:Nat):Int))=4 from rfl,hend];rfl
 rw[key];simp only[zG];split
 .rfl
 split
 .rfl
 split
 .rfl
 split
 .rfl
 split
 .rfl
 split
 .rfl
 split
 .rfl
 split
 .rfl
 .rename_i h;rw[show lk3 k=0 by omega];rfl
abbrev en5 :Sh:= .list (.pair (.int .i64) (.pair (.int .i64) (.pair (.int .i64) (.pair (.int .i64) (.int .u64)))))
theorem cs9 {l:List cd}(f:cZ6 en5 l)(h:l.length<=100):OpsOk l:=⟨by omega,λo ho=>(f.2 o ho).2.2.2.2⟩
theorem dA9 (a0:Int)(a1:List cd)(a2:Int)(a3:List cd)(a4 a5:Int): ∃d,xF a0 a1 a2 a3 a4 a5=Y d/\vy a0 a1 a2 a3 a4 a5=Y d:=by
 unfold xF vy;simp only[ao2,zG,ak];by_cases c1:a4<1
 .rw[zE c1,zE c1];exact⟨_,rfl,rfl⟩
 rw[zF c1,zF c1];by_cases c2:64<a4
 .rw[zE c2,zE c2];exact⟨_,rfl,rfl⟩
 rw[zF c2,zF c2];by_cases c3:a5<0
 .rw[zE c3,zE c3];exact⟨_,rfl,rfl⟩
 rw[zF c3,zF c3];by_cases c4:64<a5
 .rw[zE c4];simp only[zG];rw[ak,zE c4];exact⟨_,rfl,rfl⟩
 rw[zF c4];simp only[zG];rw[ak,zF c4];by_cases c5:a0<IntKind.i64.wrap (zH zI (a4+a5)+1)
 .rw[zE c5,zE c5];exact⟨_,rfl,rfl⟩
 rw[zF c5,zF c5];by_cases c6:a2<IntKind.i64.wrap (a4+a5)
 .rw[zE c6,zB c6];exact⟨_,rfl,rfl⟩
 .rw[zF c6,zA c6];exact⟨_,rfl,rfl⟩
def au3 (s l x t:Int):Int:=if x<1 then 10 else if 64<x then 10 else if t<0 then 10 else if 64<t then 10 else if s<IntKind.i64.wrap (zH zI (x+t)+1)then 10 else if l<IntKind.i64.wrap (x+t)then 10 else 0
theorem bU7 (a0:Int)(a1:List cd)(a2:Int)(a3:List cd)(a4 a5:Int):vy a0 a1 a2 a3 a4 a5=Y (au3 a0 a2 a4 a5):=by
 unfold vy au3;simp only[ak];split
 .rfl
 split
 .rfl
 split
 .rfl
 split
 .rfl
 split
 .rfl
 split<;>rfl
theorem cL7 (a0:Int)(a1:List cd)(a2:Int)(a3:List cd)(a4 a5:Int):xF a0 a1 a2 a3 a4 a5=Y (au3 a0 a2 a4 a5):=by
 obtain⟨d,h1,h2⟩:=dA9 a0 a1 a2 a3 a4 a5;rw[h1,<-h2,bU7]
def hk0 (m:Int):Int:=if m<1 then 5 else if 3<m then 5 else 0
def hk3 (m n:Int):Int:=if n<0 then 11 else if(if m=2 then 0 else 65535)<n then 11 else 0
def hk4 (b:Int):Int:=if b<0 then 12 else if 1048576<b then 12 else 0
def aD0 (m:Int)(x t:Nat)(R:Int)(l:List cd)(Q:Int)(k:List cd)(n b:Int):Int:=if hk0 m≠0 then hk0 m else if wb R l Q k≠0 then wb R l Q k else if au3 R Q x t≠0 then au3 R Q x t else if hk3 m n≠0 then hk3 m n else hk4 b
theorem aZ8 (b:Bool)(e:Int):ot b e=Y (if b then e else 0):=by cases b<;>rfl
section
variable {a0:Int} {a1 a2:Zd} {a3:Int} {a4:List cd} {a5:Int} {a6:List cd} {a7 a8:Int}
theorem dn2 :jf a0 a1 a2 a3 a4 a5 a6 a7 a8=Y (hk0 a0):=by
 unfold jf hk0;simp only[aZ8,zG,ak];split
 .rfl
 .by_cases c:3<a0<;>simp[c]
theorem cN5 (h4:OpsOk a4)(h6:OpsOk a6):dk a0 a1 a2 a3 a4 a5 a6 a7 a8=Y (wb a3 a4 a5 a6):=by
 unfold dk;rw[cL8 h4 h6];rfl
theorem dQ3 :mf a0 a1 a2 a3 a4 a5 a6 a7 a8=Y (au3 a3 a5 (a1.length:Nat) (a2.length:Nat)):=by
 unfold mf;rw[cL7];rfl
theorem dn1 :jx a0 a1 a2 a3 a4 a5 a6 a7 a8=Y (hk3 a0 a7):=by
 unfold jx hk3;simp only[aZ8,zG,ak];by_cases c0:a0=2
 .rw[zE c0,zE c0];simp only[zG];split
  .rfl
  .by_cases c:0<a7<;>simp[c]
 .rw[zF c0,zF c0];simp only[zG];split
  .rfl
  .by_cases c:65535<a7<;>simp[c]
theorem dn0 :jw a0 a1 a2 a3 a4 a5 a6 a7 a8=Y (hk4 a8):=by
 unfold jw hk4;simp only[aZ8,zG,ak];split
 .rfl
 .by_cases c:1048576<a8<;>simp[c]
theorem bs8 (h4:OpsOk a4)(h6:OpsOk a6):pe a0 a1 a2 a3 a4 a5 a6 a7 a8=Y (aD0 a0 a1.length a2.length a3 a4 a5 a6 a7 a8):=by
 have h0:ge a0 a1 a2 a3 a4 a5 a6 a7 a8 0=Y (if hk0 a0≠0 then .inr (.inl (hk0 a0))else .inl 1):=by
  show((jf a0 a1 a2 a3 a4 a5 a6 a7 a8).bind λr=>cond (Zc (r≠0)) _ _)=_;rw[dn2];simp only[zG,ak];split<;>rfl
 have h1:ge a0 a1 a2 a3 a4 a5 a6 a7 a8 1=Y (if wb a3 a4 a5 a6≠0 then .inr (.inl (wb a3 a4 a5 a6))else .inl 2):=by
  show((dk a0 a1 a2 a3 a4 a5 a6 a7 a8).bind λr=>cond (Zc (r≠0)) _ _)=_;rw[cN5 h4 h6];simp only[zG,ak];split<;>rfl
 have h2:ge a0 a1 a2 a3 a4 a5 a6 a7 a8 2=Y (if au3 a3 a5 (a1.length:Nat) (a2.length:Nat)≠0 then .inr (.inl (au3 a3 a5 (a1.length:Nat) (a2.length:Nat)))else .inl 3):=by
  show((mf a0 a1 a2 a3 a4 a5 a6 a7 a8).bind λr=>cond (Zc (r≠0)) _ _)=_;rw[dQ3];simp only[zG,ak];split<;>rfl
 have h3:ge a0 a1 a2 a3 a4 a5 a6 a7 a8 3=Y (if hk3 a0 a7≠0 then .inr (.inl (hk3 a0 a7))else .inl 4):=by
  show((jx a0 a1 a2 a3 a4 a5 a6 a7 a8).bind λr=>cond (Zc (r≠0)) _ _)=_;rw[dn1];simp only[zG,ak];split<;>rfl
 have h5:ge a0 a1 a2 a3 a4 a5 a6 a7 a8 4=Y (if hk4 a8≠0 then .inr (.inl (hk4 a8))else .inl 5):=by
  show((jw a0 a1 a2 a3 a4 a5 a6 a7 a8).bind λr=>cond (Zc (r≠0)) _ _)=_;rw[dn0];simp only[zG,ak];split<;>rfl
 have hend:ge a0 a1 a2 a3 a4 a5 a6 a7 a8 5=Y (.inr (.inr ())):=rfl;unfold pe aD0;have hB:fy=18446744073709551610+1+1+1+1+1+1:=rfl;rw[hB,cf,h0];simp only[zG];split
 .rfl
 simp only[aw];rw[cf,h1];simp only[zG];split
 .rfl
 simp only[aw];rw[cf,h2];simp only[zG];split
 .rfl
 simp only[aw];rw[cf,h3];simp only[zG];split
 .rfl
 simp only[aw];rw[cf,h5];simp only[zG];split
 .rfl
 .rename_i h;simp only[aw];rw[cf,hend];rw[show hk4 a8=0 by omega];rfl
theorem cE9 (h4:OpsOk a4)(h6:OpsOk a6)(g4:a4.length<=100)(g6:a6.length<=100):zS a0 a1 a2 a3 a4 a5 a6 a7 a8=Y (aD0 a0 a1.length a2.length a3 a4 a5 a6 a7 a8):=by
 unfold zS aD0;rw[cP6 h4 h6 g4 g6,bU7];simp only[zG,ak];unfold hk0;by_cases c1:a0<1
 .rw[zE c1,zE c1];rfl
 rw[zF c1,zF c1];by_cases c2:3<a0
 .rw[zE c2,zE c2];rfl
 rw[zF c2,zF c2];rw[zF (show¬(0:Int)≠0 by simp)];by_cases c3:wb a3 a4 a5 a6≠0
 .rw[zE c3,zE c3]
 rw[zF c3,zF c3];by_cases c4:au3 a3 a5 (a1.length:Nat) (a2.length:Nat)≠0
 .rw[zE c4,zE c4]
 rw[zF c4,zF c4];unfold hk3 hk4;by_cases c5:a7<0
 .rw[zE c5,zE c5];rfl
 rw[zF c5,zF c5];by_cases c6:a0=2
 .rw[zE c6,zE c6];by_cases c7:0<a7
  .rw[zE c7,zE (show(11:Int)≠0 by simp)];by_cases c8:65535<a7
   .rw[zE c8]
   .rw[zF c8,zE (by omega)]
  .rw[zF c7,zF (show¬(0:Int)≠0 by simp),zF (show¬65535<a7 by omega),zF (show¬a7≠0 by omega)];split
   .rfl
   .split<;>rfl
 .rw[zF c6,zF c6];by_cases c8:65535<a7
  .rw[zE c8,zE c8];rfl
  .rw[zF c8,zF c8,zF (show¬(0:Int)≠0 by simp)];split
   .rfl
   .split<;>rfl
structure HFacts (a0:Int)(x t:Nat)(a3:Int)(a4:List cd)(a5:Int)(a6:List cd)(a7 a8:Int):Prop where
 mode:1<=a0/\a0<=3
 regs:1<=a3/\a3<=64
 regs':1<=a5/\a5<=64
 xs:1<=x/\x<=64
 ts:t<=64
 w:0<=(de a4).1/\(de a4).1<=65536
 w':0<=(de a6).1/\(de a6).1<=65536
 len:0<=a7/\a7<=65535
 bud:0<=a8/\a8<=1048576
theorem cC1 {R:Int}{l:List cd}(h:lk1 R l=0):1<=R/\R<=64:=by
 unfold lk1 at h;split at h
 .rename_i hb;unfold bu6 at hb;rw[Bool.and_eq_true]at hb;exact of_decide_eq_true hb.1
 .cases h
theorem bX5 {l:List cd}(h:OpsOk l):0<=(de l).1/\(de l).1<=65536:=by
 unfold de;split
 .rename_i hs;split
  .rename_i w hq;have:=bC8 (λo ho=>(h.v o ho).1) hs hq;split
   .simp
   .simp;omega
  .simp
 .simp
theorem de6 {R Q:Int}{l k:List cd}(h:wb R l Q k=0):(1<=R/\R<=64)/\(1<=Q/\Q<=64):=by
 unfold wb at h;split at h
 .rename_i c;exact(c h).elim
 split at h
 .rename_i c;exact(c h).elim
 split at h
 .rename_i c;exact(c h).elim
 split at h
 .rename_i c;exact(c h).elim
 rename_i c1 c2;exact⟨cC1 (l:=l) (by omega),cC1 (l:=k) (by omega)⟩
theorem bS4 (h4:OpsOk a4)(h6:OpsOk a6){x t:Nat}(h:aD0 a0 x t a3 a4 a5 a6 a7 a8=0):HFacts a0 x t a3 a4 a5 a6 a7 a8:=by
 unfold aD0 at h;split at h
 .rename_i c;exact(c h).elim
 split at h
 .rename_i c;exact(c h).elim
 split at h
 .rename_i c;exact(c h).elim
 split at h
 .rename_i c;exact(c h).elim
 rename_i c0 c1 c2 c3;obtain⟨r1,r2⟩:=de6 (show wb a3 a4 a5 a6=0 by omega);have c0:hk0 a0=0:=by omega
 have c2:au3 a3 a5 x t=0:=by omega
 have c3:hk3 a0 a7=0:=by omega
 unfold hk0 at c0;unfold hk3 at c3;unfold hk4 at h;unfold au3 at c2;refine⟨?_,r1,r2, ?_, ?_,bX5 h4,bX5 h6, ?_, ?_⟩
 .split at c0
  .omega
  split at c0<;>omega
 .split at c2
  .omega
  split at c2<;>omega
 .split at c2
  .omega
  split at c2
  .omega
  split at c2
  .omega
  split at c2<;>omega
 .split at c3
  .omega
  by_cases k3:a0=2
  .rw[zE k3]at c3;split at c3<;>omega
  .rw[zF k3]at c3;split at c3<;>omega
 .split at h
  .omega
  split at h<;>omega
def yB (a0:Int)(a4 a6:List cd):Int:=if a0=3 then(de a6).1 else(de a4).1+(de a6).1
def yA (a0:Int)(x:Nat)(a3:Int)(a4:List cd):Int:=if a0=3 then(de a4).1+a3 else x+1
def ac5 (x t:Nat)(a3 a5:Int):Int:=2*t+2*x+a3+a5+max a3 a5
theorem cW5 (h4:OpsOk a4)(h6:OpsOk a6):lf a0 a1 a2 a3 a4 a5 a6 a7 a8=Y (if aD0 a0 a1.length a2.length a3 a4 a5 a6 a7 a8≠0 then(0,0)else((de a4).1,(de a6).1)):=by
 unfold lf;have:=h4.len;have:=h6.len;rw[bs8 h4 h6,ad1 (by omega) h4.v,ad1 (by omega) h6.v];simp only[zG,ak];split<;>rfl
theorem dt4 (h4:OpsOk a4)(h6:OpsOk a6)(g4:a4.length<=100)(g6:a6.length<=100):aE1 a0 a1 a2 a3 a4 a5 a6 a7 a8=Y (if aD0 a0 a1.length a2.length a3 a4 a5 a6 a7 a8≠0 then(0,0)else((de a4).1,(de a6).1)):=by
 unfold aE1;have:=h4.len;have:=h6.len;rw[cE9 h4 h6 g4 g6,aM3 g4 h4.v,aM3 g6 h6.v];simp only[zG,ak];split<;>rfl
theorem bU4 (h4:OpsOk a4)(h6:OpsOk a6)(h:aD0 a0 a1.length a2.length a3 a4 a5 a6 a7 a8=0):xR a0 a1 a2 a3 a4 a5 a6 a7 a8=Y (((a2.length:Nat):Int),((a1.length:Nat):Int),a3,a5,max a3 a5,((a1.length:Nat):Int),((a2.length:Nat):Int),yB a0 a4 a6,yA a0 a1.length a3 a4):=by
 have f:=bS4 h4 h6 h;have g1:=f.mode;have g2:=f.regs;have g3:=f.xs;have g4:=f.w;have g5:=f.w';unfold xR yB yA;rw[cW5 h4 h6,zF (λc=>c h)];simp only[zG,ak];rw[ad (n:=(de a4).1+a3) (by omega),ad (n:=(de a4).1+(de a6).1) (by omega),ad (n:=(a1.length:Int)+1) (by omega)];split
 .rfl
 .rfl
def pre (L:Zd):Nat->Int
 |0=>0
 |i+1=>pre L i+L.getD i 0
theorem cP1 {L:Zd}(hb: ∀j,0<=L.getD j 0/\L.getD j 0<=1000000000000): ∀i,0<=pre L i/\pre L i<=1000000000000*i
 |0=>⟨iM _,iM _⟩
 |i+1=>by
  have:=cP1 hb i;have:=hb i;simp only[pre];omega
theorem cE0 {b0 b1 b2 b3 b4 b5 b6 b7 b8 n:Int}(hb: ∀j,0<=([b0,b1,b2,b3,b4,b5,b6,b7,b8*n]:Zd).getD j 0/\([b0,b1,b2,b3,b4,b5,b6,b7,b8*n]:Zd).getD j 0<=1000000000000):al2 b0 b1 b2 b3 b4 b5 b6 b7 b8 n=Y ((iE 10).map (pre [b0,b1,b2,b3,b4,b5,b6,b7,b8*n])):=by
 generalize hL:([b0,b1,b2,b3,b4,b5,b6,b7,b8*n]:Zd)=L at*;have hp:=cP1 hb
 have key:ap (wj b0 b1 b2 b3 b4 b5 b6 b7 b8) fy (0,(pre L 0,(iE 0).map (pre L)))=Y (pre L 8,(iE 8).map (pre L)):=by
  refine pu (n:=8) (λi=>(pre L i,(iE i).map (pre L))) (by omega) (λi hi=> ?_) ?_
  .unfold wj;rw[ak,zE (by omega),bp (show i<9 by omega)];simp only[zG]
   have e:iQ [b0,b1,b2,b3,b4,b5,b6,b7,b8] i 0=L.getD i 0:=by
    subst hL;rcases(show i=0∨i=1∨i=2∨i=3∨i=4∨i=5∨i=6∨i=7 by omega)with rfl|rfl|rfl|rfl|rfl|rfl|rfl|rfl<;>rfl
   have h1:=hp i;have h2:=hb i;rw[e];rw[ck (by simp;omega) (by omega),ad (n:=pre L i+L.getD i 0) (by omega),ad (n:=(i:Int)+1) (by omega),oD,iT];rfl
  .unfold wj;rw[ak,zF (by omega)]
 unfold al2;have key:ap (wj b0 b1 b2 b3 b4 b5 b6 b7 b8) fy ((0,0,[]))=_:=key;rw[key];have h1:=hp 8;have h2:=hb 8;have e:L.getD 8 0=b8*n:=by subst hL;rfl
 rw[e]at h2;simp only[zG];rw[ck (by simp) (by omega),ck (by simp) (by omega),ad (n:=b8*n) (by omega),ad (n:=pre L 8+b8*n) (by omega)];show _=Y ((iE (8+1+1)).map (pre L));rw[oD (n:=8+1),oD (n:=8),iT,iT];show _=Y (((iE 8).map (pre L)++[pre L 8])++[pre L 8+L.getD 8 0]);rw[e]
theorem de8 {b0 b1 b2 b3 b4 b5 b6 b7 b8 n:Int}(hb: ∀j,0<=([b0,b1,b2,b3,b4,b5,b6,b7,b8*n]:Zd).getD j 0/\([b0,b1,b2,b3,b4,b5,b6,b7,b8*n]:Zd).getD j 0<=1000000000000):aa3 b0 b1 b2 b3 b4 b5 b6 b7 b8 n=Y (b0+b1+b2+b3+b4+b5+b6+b7+b8*n):=by
 unfold aa3;rw[cE0 hb];show Y (0+b0+b1+b2+b3+b4+b5+b6+b7+b8*n)=_;rw[fB]
theorem em4 {b0 b1 b2 b3 b4 b5 b6 b7 b8:Int}{p:Int->Prop}(h:p b0)(h1:p b1)(h2:p b2)(h3:p b3)(h4:p b4)(h5:p b5)(h6:p b6)(h7:p b7)(h8:p b8)(hz:p 0): ∀j,p (([b0,b1,b2,b3,b4,b5,b6,b7,b8]:Zd).getD j 0)
 |0=>h
 |1=>h1
 |2=>h2
 |3=>h3
 |4=>h4
 |5=>h5
 |6=>h6
 |7=>h7
 |8=>h8
 |j+9=>by
  show p ((([]:Zd)).getD j 0);rw[List.getD_nil];exact hz
theorem dp3 {s n:Int}(hs:0<=s/\s<=100000)(hn:0<=n/\n<=1048576):0<=s*n/\s*n<=1000000000000:=by
 have h1:=iF hs.1 hn.1;have h2:=Int.mul_le_mul hs.2 hn.2 hn.1 (by omega);omega
structure SFacts (x t:Nat)(a3 a5 tp sl:Int):Prop where
 xs:1<=x/\x<=64
 ts:t<=64
 r:1<=a3/\a3<=64
 r':1<=a5/\a5<=64
 tp:0<=tp/\tp<=131072
 sl:1<=sl/\sl<=100000
theorem cu1 (h4:OpsOk a4)(h6:OpsOk a6){x t:Nat}(h:aD0 a0 x t a3 a4 a5 a6 a7 a8=0):SFacts x t a3 a5 (yB a0 a4 a6) (yA a0 x a3 a4):=by
 have f:=bS4 h4 h6 h;have g1:=f.mode;have g2:=f.regs;have g3:=f.xs;have g4:=f.w;have g5:=f.w';refine⟨f.xs,f.ts,f.regs,f.regs', ?_, ?_⟩
 .unfold yB;split<;>omega
 .unfold yA;split<;>omega
theorem cP9 {x t:Nat}{tp sl n:Int}(s:SFacts x t a3 a5 tp sl)(hn:0<=n/\n<=1048576): ∀j,0<=([(t:Int),x,a3,a5,max a3 a5,x,t,tp,sl*n]:Zd).getD j 0/\([(t:Int),x,a3,a5,max a3 a5,x,t,tp,sl*n]:Zd).getD j 0<=1000000000000:=by
 have g1:=s.xs;have g2:=s.ts;have g3:=s.r;have g4:=s.r';have g5:=s.tp;have g6:=s.sl;exact em4 (p:=λy=>0<=y/\y<=1000000000000) (by omega) (by omega) (by omega) (by omega) (by omega) (by omega) (by omega) (by omega) (dp3 (by omega) hn) (by omega)
theorem dS9 {x t:Nat}{tp sl n:Int}(s:SFacts x t a3 a5 tp sl)(hn:0<=n/\n<=1048576):aa3 t x a3 a5 (max a3 a5) x t tp sl n=Y (ac5 x t a3 a5+tp+n*sl):=by
 rw[de8 (cP9 s hn)];unfold ac5;rw[Int.mul_comm sl n]
 congr 1
 omega
def least (a0 a7:Int):Int:=if a0=3 then a7 else 1
def ke (a0:Int)(x t:Nat)(a3:Int)(a4:List cd)(a5:Int)(a6:List cd)(a7 a8:Int):Int×Int×Int×Int×Int:=
 if aD0 a0 x t a3 a4 a5 a6 a7 a8≠0 then(0,0,0,0,aD0 a0 x t a3 a4 a5 a6 a7 a8)
 else if a8<ac5 x t a3 a5+yB a0 a4 a6+least a0 a7*yA a0 x a3 a4 then(0,0,0,0,13)
 else(ac5 x t a3 a5,yB a0 a4 a6,yA a0 x a3 a4,if a0=3 then a7 else(a8-ac5 x t a3 a5-yB a0 a4 a6) / yA a0 x a3 a4,0)
theorem dr8 {x t:Nat}{tp sl n:Int}(s:SFacts x t a3 a5 tp sl):ap (xQ (t:Int) (x:Int) a3 a5 (max a3 a5) (x:Int) (t:Int) tp sl) fy (0,0,tp,sl,n)=Y (ac5 x t a3 a5,tp,sl,n):=by
 have hb:=cP9 (n:=1) s (by omega);have hp:=cP1 hb
 have e7:pre [(t:Int),x,a3,a5,max a3 a5,x,t,tp,sl*1] 7=ac5 x t a3 a5:=by
  show 0+(t:Int)+x+a3+a5+max a3 a5+x+t=_;unfold ac5;omega
 rw[<-e7];generalize hL:([(t:Int),x,a3,a5,max a3 a5,x,t,tp,sl*1]:Zd)=L at*;refine pu (n:=7) (λi=>(pre L i,tp,sl,n)) (c:=(pre L 7,tp,sl,n)) (by omega) (λi hi=> ?_) ?_
 .unfold xQ;rw[ak,zE (by omega),bp (show i<9 by omega)];simp only[zG]
  have e:iQ [(t:Int),x,a3,a5,max a3 a5,x,t,tp,sl] i 0=L.getD i 0:=by
   subst hL;rcases(show i=0∨i=1∨i=2∨i=3∨i=4∨i=5∨i=6 by omega)with rfl|rfl|rfl|rfl|rfl|rfl|rfl<;>rfl
  have h1:=hp i;have h2:=hb i;rw[e,ad (n:=pre L i+L.getD i 0) (by omega),ad (n:=(i:Int)+1) (by omega)];rfl
 .unfold xQ;rw[ak,zF (by omega)]
theorem bf4 (h4:OpsOk a4)(h6:OpsOk a6):ou a0 a1 a2 a3 a4 a5 a6 a7 a8=Y (ke a0 a1.length a2.length a3 a4 a5 a6 a7 a8):=by
 unfold ou ke;rw[bs8 h4 h6];simp only[zG];by_cases h:aD0 a0 a1.length a2.length a3 a4 a5 a6 a7 a8=0
 .rw[zA (λc=>c h),zD,zF (λc=>c h),bU4 h4 h6 h];have s:=cu1 h4 h6 h;have f:=bS4 h4 h6 h;have g1:=f.mode;have g2:=f.len;have g3:=f.bud;have g4:=s.xs;have g5:=s.ts;have g6:=s.r;have g7:=s.r';have g8:=s.tp;have g9:=s.sl
  have hl:(cond (Zc (a0=3)) (Y a7) (Y (1:Int)))=Y (least a0 a7):=by
   unfold least;rw[ak];split<;>rfl
  have hln:0<=least a0 a7/\least a0 a7<=65535:=by unfold least;split<;>omega
  simp only[zG];rw[hl];simp only[zG];rw[dS9 s (by omega)];simp only[zG];rw[dr8 s];simp only[zG,ak];by_cases c:a8<ac5 a1.length a2.length a3 a5+yB a0 a4 a6+least a0 a7*yA a0 a1.length a3 a4
  .rw[zE c,zE c]
  .rw[zF c,zF c];have hfx:0<=ac5 a1.length a2.length a3 a5/\ac5 a1.length a2.length a3 a5<=1000:=by unfold ac5;omega
   by_cases c3:a0=3
   .rw[zF (λk=>k c3),zE c3];unfold least;rw[zE c3]
   .rw[zE c3,zF c3,dQ2 (by omega)];unfold least at c;rw[zF c3]at c;generalize ac5 a1.length a2.length a3 a5=fx at*;generalize yB a0 a4 a6=tp at*;generalize yA a0 a1.length a3 a4=sl at*;rw[ad (n:=a8-fx) (by omega),ad (n:=a8-fx-tp) (by omega),cY0 (by omega)];have hd1:0<=(a8-fx-tp) / sl:=kB (by omega) (by omega);have hd2:(a8-fx-tp) / sl<=a8-fx-tp:=jD _ (by omega);rw[ad (by omega)]
 .rw[zB h,zC,zE h]
end
def Reach {α γ:Type}(f:α->Option (α⊕γ))(k:Nat)(s s':α):Prop:= ∀fu,ap f (fu+k) s=ap f fu s'
theorem Reach.refl {α γ:Type}{f:α->Option (α⊕γ)}{s:α}:Reach f 0 s s:=λ_=>rfl
theorem Reach.trans {α γ:Type}{f:α->Option (α⊕γ)}{k k':Nat}{s s' s'':α}(h:Reach f k s s')(h':Reach f k' s' s''):Reach f (k+k') s s'':=by
 intro fu;rw[show fu+(k+k')=(fu+k')+k by omega,h,h']
theorem Reach.one {α γ:Type}{f:α->Option (α⊕γ)}{s s':α}(h:f s=Y (.inl s')):Reach f 1 s s':=by
 intro fu;rw[cf,h];rfl
section
variable {l:List cd}
theorem dZ8 {i:Nat}{out st:Zd}(hl:l.length<=8192)(hst:st.length<=8192)(hi:i<l.length)(hk:0<l[i].1/\l[i].1<7)(ho:out.length=l.length):
  ci l ((i:Int),Za,out,st,st)=Y (.inl (((i+1:Nat):Int),Za,out.set i (-1),st,st)):=by
 simp only[ci];rw[zB (show(i:Int)<(l.length:Int)by omega),zC,dq hi];simp only[zG];generalize hx:l[i]=x at*;rw[zA (show¬x.1<0 by omega),zD,zA (show¬7<x.1 by omega),zD,zA (show¬x.1=0 by omega)];simp only[zD,zG,bg];rw[bp (show i<out.length by omega)];simp only[zG];rw[aD (show i<out.length by omega)];simp only[zG];rw[zA (show¬x.1=7 by omega)];simp only[zD];rw[ad (n:=(i:Int)+1) (by omega)];rfl
theorem dE5 {i:Nat}{out st:Zd}(hl:l.length<=8192)(hst:st.length<=8192)(hi:i<l.length)(hk:l[i].1=7)(ho:out.length=l.length):
  ci l ((i:Int),Za,out,st,st)=Y (.inl (((i+1:Nat):Int),Za,out.set i (-1),st++[(i:Int)],st++[(i:Int)])):=by
 simp only[ci];rw[zB (show(i:Int)<(l.length:Int)by omega),zC,dq hi];simp only[zG];generalize hx:l[i]=x at*;rw[zA (show¬x.1<0 by omega),zD,zA (show¬7<x.1 by omega),zD,zA (show¬x.1=0 by omega)];simp only[zD,zG,bg];rw[bp (show i<out.length by omega)];simp only[zG];rw[aD (show i<out.length by omega)];simp only[zG];rw[zB hk];simp only[zC];rw[ck (by omega) (by omega),ck (by omega) (by omega),ad (n:=(i:Int)+1) (by omega)];rfl
theorem dq1 {i q:Nat}{out st:Zd}(hl:l.length<=8192)(hst:st.length<8192)(hi:i<l.length)(hk:l[i].1=0)(ho:out.length=l.length)(hq:q<l.length):
  ci l ((i:Int),Za,out,st++[(q:Int)],st++[(q:Int)])=Y (.inl (((i+1:Nat):Int),Za,((out.set i (-1)).set i (q:Int)).set q (i:Int),st,st)):=by
 have hlen:(st++[(q:Int)]).length=st.length+1:=by simp
 simp only[ci];rw[zB (show(i:Int)<(l.length:Int)by omega),zC,dq hi];simp only[zG];generalize hx:l[i]=x at*;rw[zA (show¬x.1<0 by omega),zD,zA (show¬7<x.1 by omega),zD,zB hk];simp only[zC,zG,bg];rw[zA (show¬((st++[(q:Int)]).length:Int)=0 by omega),zD];rw[ad (n:=((st++[(q:Int)]).length:Int)-1) (by omega),nb (by omega),cm];simp only[zG,bg];have e7:Zc (x.1=7)=Zb:=zA (by omega);rw[bp (show i<out.length by omega)];simp only[zG];rw[aD (show i<out.length by omega)];simp only[zG];rw[e7,zD,show((st++[(q:Int)]).length:Int)-1=(st.length:Int)by rw[hlen];omega,bp (show st.length<(st++[(q:Int)]).length by omega)];simp only[zG];rw[dD (aB _),bD];simp only[rR,zG]
 rw[cm,bp (show i<(out.set i (-1)).length by simp;omega)];simp only[zG];rw[aD (show i<(out.set i (-1)).length by simp;omega)];simp only[zG];rw[bp (show q<((out.set i (-1)).set i ((q:Nat):Int)).length by simp;omega)];simp only[zG];rw[aD (show q<((out.set i (-1)).set i ((q:Nat):Int)).length by simp;omega)];simp only[zG]
 have htk:(st++[(q:Int)]).take ((st.length:Int).toNat-0)=st:=by
  rw[show(st.length:Int).toNat-0=st.length by omega,iX];rfl
 rw[htk,ad (n:=(i:Int)+1) (by omega)];rfl
theorem cs4 (hl:l.length<=8192): ∀(k:Nat) (A seg B:List cd) (out st:Zd),seg.length<=k->l=A++seg++B->bn seg 0=Y 0->out.length=l.length->st.length<=A.length->
  ∃out',Reach (ci l) seg.length ((A.length:Int),Za,out,st,st) (((A.length+seg.length:Nat):Int),Za,out',st,st)/\out'.length=l.length/\
   (∀j,¬(A.length<=j/\j<A.length+seg.length)->out'[j]?=out[j]?)/\∀j,A.length<=j->j<A.length+seg.length->(hj:j<l.length)->l[j].1=7->∀inner e rest,l.drop (j+1)=inner++e::rest->e.1=0->bn inner 0=Y 0->out'[j]?=Y ((j+1+inner.length:Nat):Int)
 |k,A,[],B,out,st,_,hsplit,hs,ho,hst=>⟨out,Reach.refl,ho,λj _=>rfl,λj h1 h2=>by simp at h2;omega⟩
 |0,A,o::seg,B,out,st,hk,_,_,_,_=>by simp at hk
 |k+1,A,o::seg,B,out,st,hk,hsplit,hs,ho,hst=>by
  simp only[cD]at hk⊢;have hlen:l.length=A.length+(seg.length+1)+B.length:=by rw[hsplit];simp;omega
  have hlt:A.length<l.length:=by omega
  have hget:l[A.length]=o:=by
   have:l[A.length]?=Y o:=by
    rw[hsplit,dB,dD (aB _),bD];rfl
   rw[aD hlt]at this;injection this
  by_cases hk7:o.1=7
  .have hs1:bn seg 1=Y 0:=by
    simp only[bn]at hs;rw[zF (by omega),zF (by omega),zE hk7]at hs;exact hs
   obtain⟨inner,e,rest,h1,h2,h3,h4⟩:=aM7 _ seg 0 (aB _) hs1;subst h1;simp only[eD,cD]at hk hlen⊢
   have hd:l.drop (A.length+1)=inner++e::(rest++B):=by
    rw[hsplit,dB,iO,iP (by omega),show A.length+1-A.length=1 by omega];simp
   have hA1:(A++[o]).length=A.length+1:=by simp
   obtain⟨S1,r1,l1,k1,g1⟩:=cs4 hl k (A++[o]) inner (e::(rest++B)) (out.set A.length (-1)) (st++[(A.length:Int)]) (by omega) (by rw[hsplit];simp) h3 (by simp[ho]) (by simp;omega);rw[hA1]at r1 k1 g1;have hei:A.length+1+inner.length<l.length:=by omega
   have hee:l[A.length+1+inner.length]=e:=by
    have h5:(l.drop (A.length+1))[inner.length]?=Y e:=by
     rw[hd,dD (aB _),bD];rfl
    rw[iR,aD hei]at h5;injection h5
   have c1:=dq1 (st:=st) hl (by omega) hei (by rw[hee];exact h2) l1 hlt;have hA2:(A++o::(inner++[e])).length=A.length+1+inner.length+1:=by simp;omega
   obtain⟨S2,r2,l3,k2,g2⟩:=cs4 hl k (A++o::(inner++[e])) rest B (((S1.set (A.length+1+inner.length) (-1)).set (A.length+1+inner.length) (A.length:Int)).set A.length ((A.length+1+inner.length:Nat):Int)) st (by omega) (by rw[hsplit];simp) h4 (by simp[l1]) (by omega);rw[hA2]at r2 k2 g2;refine⟨S2, ?_,l3,λj hj=> ?_,λj h5 h6 hj hk inner' e' rest' p1 p2 p3=> ?_⟩
   .have h0:=Reach.one (dE5 (out:=out) (st:=st) hl (by omega) hlt (by rw[hget];exact hk7) ho);have h7:=((h0.trans r1).trans (Reach.one c1)).trans r2;rw[show 1+inner.length+1+rest.length=inner.length+(rest.length+1)+1 by omega,show A.length+1+inner.length+1+rest.length=A.length+(inner.length+(rest.length+1)+1)by omega]at h7;exact h7
   .rw[k2 j (by omega),cB (by omega),cB (by omega),cB (by omega),k1 j (by omega),cB (by omega)]
   .by_cases hj1:A.length+1+inner.length+1<=j
    .exact g2 j hj1 (by omega) hj hk inner' e' rest' p1 p2 p3
    .rw[k2 j (by omega)];by_cases hj2:A.length=j
     .subst hj2;rw[iH (by simp;omega)];have:=aj3 (hd.symm.trans p1) h3 p3 h2 p2;subst this;rfl
     .have hj3:j<A.length+1+inner.length:=by
       by_cases hj4:j<A.length+1+inner.length
       .exact hj4
       .exfalso;have hj4:j=A.length+1+inner.length:=by omega
        subst hj4;rw[hee]at hk;omega
      rw[cB hj2,cB (by omega),cB (by omega)];exact g1 j (by omega) hj3 hj hk inner' e' rest' p1 p2 p3
  .obtain⟨hsr,hko,_⟩:=cd9 hs hk7;have hA1:(A++[o]).length=A.length+1:=by simp
   have c1:=dZ8 (out:=out) (st:=st) hl (by omega) hlt (by rw[hget];exact hko) ho;obtain⟨S1,r1,l1,k1,g1⟩:=cs4 hl k (A++[o]) seg B (out.set A.length (-1)) st (by omega) (by rw[hsplit];simp) hsr (by simp[ho]) (by omega);rw[hA1]at r1 k1 g1;refine⟨S1, ?_,l1,λj hj=> ?_,λj h5 h6 hj hk inner' e' rest' p1 p2 p3=> ?_⟩
   .have h7:=(Reach.one c1).trans r1;rw[show 1+seg.length=seg.length+1 by omega,show A.length+1+seg.length=A.length+(seg.length+1)by omega]at h7;exact h7
   .rw[k1 j (by omega),cB (by omega)]
   .by_cases hj1:A.length+1<=j
    .exact g1 j hj1 (by omega) hj hk inner' e' rest' p1 p2 p3
    .have hj2:j=A.length:=by omega
     subst hj2;exact(hk7 (by rw[<-hget];exact hk)).elim
theorem bI1 (hl:l.length<=8192)(hs:bn l 0=Y 0): ∃m,rf l=Y (0,m)/\MOK l m:=by
 obtain⟨S',r1,l1,k1,g1⟩:=cs4 (l:=l) hl _ [] l [] (bB ((l.length:Int)).toNat (0:Int)) [] (aB _) (by simp) hs (by simp) (by simp);rw[show([]:List cd).length+l.length=l.length by simp]at r1 g1
 have hloop:ap (ci l) fy ((0:Int),Za,bB ((l.length:Int)).toNat (0:Int),([]:Zd),([]:Zd))=Y (Za,S',[],[]):=by
  have h1:=r1 (18446744073709551616-l.length);rw[show 18446744073709551616-l.length+l.length=fy by unfold fy;omega,show 18446744073709551616-l.length=(18446744073709551615-l.length)+1 by omega]at h1;refine h1.trans ?_;rw[cf];simp only[ci];rw[zA (by omega),zD];rfl
 refine⟨S', ?_,⟨l1,λi hi hk inner e rest p1 p2 p3=>g1 i (iD _) hi hi hk inner e rest p1 p2 p3⟩⟩;unfold rf;rw[zB (show(0:Int)<=(l.length:Int)by omega),zB (show(l.length:Int)<=(l.length:Int)by omega),zB (show 8*(l.length:Int)<=140737488355328 by omega)];show gd Za _=_;rw[cm,hloop];rfl
end
section
variable {l:List cd}
theorem do8 {i:Nat}{sz rds:Zd}{pre:List (Int×Int)}{a w:Int}(hl:l.length<=8192)(hp:pre.length<=8192)(hi:i<l.length):
  ca l ((i:Int),sz,rds,pre++[(a,w)])=(cond (Zc (l[i].1=7))
   (Y (.inl (((i+1:Nat):Int),sz,rds,pre++[(a,w)]++[((i:Int),0)])))
   (cond (Zc (l[i].1=0))
    ((rd l a).bind λx14=>
    (xW w x14.2.2.2.2).bind λr15=>
    cond (!r15.2)
     (Y (.inr ((9,sz,rds,pre++[(a,w)]))))
     ((ix a sz.length).bind λj19=>
     (sz[j19]?).bind λx20=>
     (ix a rds.length).bind λj21=>
     (rds[j21]?).bind λx22=>
     gd (i5 0 (pre.length:Int) (pre.length+1)) ((ix (zH zI ((pre.length:Int)-1)) pre.length).bind λj23=>
     ((pre++[(a,w)])[(0+j23)]?).bind λx24=>
     (al5 ([x24.2,r15.1])).bind λr25=>
     (ix (zH zI ((pre.length:Int)-1)) pre.length).bind λj26=>
     ((pre++[(a,w)])[(0+j26)]?).bind λx27=>
     Y (.inl (((i+1:Nat):Int),(iU sz j19 r15.1),(iU rds j21 w),(List.take pre.length ((iU (pre++[(a,w)]) (0+j26) ((x27.1,r25))))))))))
    ((nc l[i].1 l[i].2.1 l[i].2.2.1 l[i].2.2.2.1 l[i].2.2.2.2).bind λr28=>
    cond (r28.2)
     ((ix (i:Int) sz.length).bind λj29=>
     (sz[j29]?).bind λx30=>
     Y (.inl (((i+1:Nat):Int),(iU sz j29 1),rds,pre++[(a,zH zI (w+1))])))
     (Y (.inl (((i+1:Nat):Int),sz,rds,pre++[(a,w)])))))):=by
 have hlen:(pre++[(a,w)]).length=pre.length+1:=by simp
 have hget:(pre++[(a,w)])[pre.length]?=Y (a,w):=by
  rw[dD (aB _),bD];rfl
 have hset: ∀w',(pre++[(a,w)]).set pre.length (a,w')=pre++[(a,w')]:=by
  intro w';rw[iV _ _ (aB _),bD];rfl
 simp only[ca];rw[zB (show(i:Int)<(l.length:Int)by omega),zC,dq hi];simp only[zG];rw[hlen,ad (n:=((pre.length+1:Nat):Int)-1) (by omega),show((pre.length+1:Nat):Int)-1=(pre.length:Int)by omega,bp (show pre.length<pre.length+1 by omega)];simp only[zG];rw[hget,ad (n:=(i:Int)+1) (by omega),ck (by omega) (by omega),show(i:Int)+1=((i+1:Nat):Int)by omega];simp only[zG];rw[hset,show((pre.length:Int).toNat-0)=pre.length by omega]
theorem em2 {i:Nat}{sz rds:Zd}{pre:List (Int×Int)}{a w:Int}(hl:l.length<=8192)(hp:pre.length<=8192)(hi:i<l.length)(hk:0<l[i].1/\l[i].1<7)(hsz:sz.length=l.length)(hw:0<=w/\w<=1000000000):
  ca l ((i:Int),sz,rds,pre++[(a,w)])=Y (.inl (((i+1:Nat):Int),sz.set i 1,rds,pre++[(a,w+1)])):=by
 rw[do8 hl hp hi,zA (by omega),zA (by omega)];simp only[zD];rw[bk5 hk];simp only[zG,zC];rw[bp (show i<sz.length by omega)];simp only[zG];rw[aD (show i<sz.length by omega)];simp only[zG];rw[ad (n:=w+1) (by omega)]
theorem dR3 {i:Nat}{sz rds:Zd}{pre:List (Int×Int)}{a w:Int}(hl:l.length<=8192)(hp:pre.length<=8192)(hi:i<l.length)(hk:l[i].1=7):
  ca l ((i:Int),sz,rds,pre++[(a,w)])=Y (.inl (((i+1:Nat):Int),sz,rds,pre++[(a,w)]++[((i:Int),0)])):=by
 rw[do8 hl hp hi,zB hk,zC]
theorem dD9 {i an:Nat}{sz rds:Zd}{pre:List (Int×Int)}{a w w2 n:Int}(hl:l.length<=8192)(hp:pre.length<8192)(hi:i<l.length)(hk:l[i].1=0)(han:an<l.length)(hsz:sz.length=l.length)(hrd:rds.length=l.length)(hw:0<=w/\w<=1000000000)(hw2:0<=w2/\w2<=1000000000)
  (hv:0<=l[an].2.2.2.2/\l[an].2.2.2.2<=18446744073709551615) (hb:as8 w l[an].2.2.2.2=Y n):
  ca l ((i:Int),sz,rds,pre++[(a,w2)]++[((an:Int),w)])=Y (.inl (((i+1:Nat):Int),sz.set an n,rds.set an w,pre++[(a,w2+n)])):=by
 have hl2:(pre++[(a,w2)]).length=pre.length+1:=by simp
 rw[do8 hl (by omega) hi,zA (by omega),zB hk];simp only[zD,zC];rw[dq han];simp only[zG];rw[bW9 ⟨hw.1,by omega⟩ hv,hb];have hn:=br6 hw.1 hv.1 hb;simp only[zG,iK,zD];rw[bp (show an<sz.length by omega)];simp only[zG];rw[aD (show an<sz.length by omega)];simp only[zG];rw[bp (show an<rds.length by omega)];simp only[zG];rw[aD (show an<rds.length by omega)];simp only[zG];rw[nb (by omega),cm,hl2,ad (n:=((pre.length+1:Nat):Int)-1) (by omega),show((pre.length+1:Nat):Int)-1=(pre.length:Int)by omega,bp (show pre.length<pre.length+1 by omega)];simp only[zG,iB]
 have hg2:(pre++[(a,w2)]++[((an:Int),w)])[pre.length]?=Y (a,w2):=by
  rw[dB,dD (aB _),bD];rfl
 rw[hg2];simp only[zG];rw[cG3 _ _ (by omega) hn];simp only[zG]
 have htk:((pre++[(a,w2)]++[((an:Int),w)]).set pre.length (a,w2+n)).take (pre.length+1)=pre++[(a,w2+n)]:=by
  rw[dB,iV _ _ (aB _),bD];show(pre++[(a,w2+n),((an:Int),w)]).take (pre.length+1)=_;rw[show [(a,w2+n),((an:Int),w)]=[(a,w2+n)]++[((an:Int),w)]from rfl,<-dB,iX];simp
 rw[htk]
def dN7 (l:List cd)(j:Nat)(a b:Int):Prop:= ∀h:j<l.length,(l[j].1=7->∀inner e rest,l.drop (j+1)=inner++e::rest->e.1=0->bn inner 0=Y 0->Q9 inner=Y b/\as8 b l[j].2.2.2.2=Y a)/\(l[j].1≠7->b=0/\a=if l[j].1=0 then 0 else 1)
theorem cV5 (hl:l.length<=8192)(hv: ∀o∈l,0<=o.2.2.2.2/\o.2.2.2.2<=18446744073709551615): ∀(k:Nat) (A seg B:List cd) (S R:Zd) (pre:List (Int×Int)) (p w t:Int),seg.length<=k->l=A++seg++B->bn seg 0=Y 0->Q9 seg=Y t->S.length=l.length->R.length=l.length->pre.length<=A.length->0<=w/\w<=65537*A.length->(∀j,A.length<=j->j<A.length+seg.length->S[j]?=Y 0/\R[j]?=Y 0)->
  ∃S' R',Reach (ca l) seg.length ((A.length:Int),S,R,pre++[(p,w)]) (((A.length+seg.length:Nat):Int),S',R',pre++[(p,w+t)])/\S'.length=l.length/\R'.length=l.length/\(0<=t/\t<=65537*seg.length)/\
   (∀j,¬(A.length<=j/\j<A.length+seg.length)->S'[j]?=S[j]?/\R'[j]?=R[j]?)/\∀j,A.length<=j->j<A.length+seg.length->∃a b,S'[j]?=Y a/\R'[j]?=Y b/\dN7 l j a b
 |k,A,[],B,S,R,pre,p,w,t,_,hsplit,hs,hq,hS,hR,hpre,hw,hz=>by
  injection hq with hq
  subst hq;refine⟨S,R, ?_,hS,hR,⟨iM _,by simp⟩,λj _=>⟨rfl,rfl⟩,λj h1 h2=> ?_⟩
  .rw[iL];exact Reach.refl
  .simp at h2;omega
 |0,A,o::seg,B,S,R,pre,p,w,t,hk,_,_,_,_,_,_,_,_=>by simp at hk
 |k+1,A,o::seg,B,S,R,pre,p,w,t,hk,hsplit,hs,hq,hS,hR,hpre,hw,hz=>by
  simp only[cD]at hk hz⊢;have hlen:l.length=A.length+(seg.length+1)+B.length:=by rw[hsplit];simp;omega
  have hlt:A.length<l.length:=by omega
  have hget:l[A.length]=o:=by
   have:l[A.length]?=Y o:=by
    rw[hsplit,dB,dD (aB _),bD];rfl
   rw[aD hlt]at this;injection this
  by_cases hk7:o.1=7
  .have hs1:bn seg 1=Y 0:=by
    simp only[bn]at hs;rw[zF (by omega),zF (by omega),zE hk7]at hs;exact hs
   obtain⟨inner,e,rest,h1,h2,h3,h4⟩:=aM7 _ seg 0 (aB _) hs1;subst h1;simp only[eD,cD]at hk hz hlen⊢;obtain⟨hsr,hQ⟩:=cm6 hs hk7 h2 h3;rw[hQ]at hq;obtain⟨wi,hwi,hq⟩:=ag hq;obtain⟨b,hb,hq⟩:=ag hq;cases hqr:Q9 rest with
   |none=>rw[hqr]at hq;cases hq
   |some tr=>
   rw[hqr]at hq;injection hq with hq
   have hq:b+tr=t:=hq;have hov:0<=o.2.2.2.2/\o.2.2.2.2<=18446744073709551615:=by rw[<-hget];exact hv _ (gB hlt)
   have hd:l.drop (A.length+1)=inner++e::(rest++B):=by
    rw[hsplit,dB,iO,iP (by omega),show A.length+1-A.length=1 by omega];simp
   have hA1:(A++[o]).length=A.length+1:=by simp
   obtain⟨S1,R1,r1,l1,l2,⟨t1,t2⟩,k1,g1⟩:=cV5 hl hv k (A++[o]) inner (e::(rest++B)) S R (pre++[(p,w)]) (A.length:Int) 0 wi (by omega) (by rw[hsplit];simp) h3 hwi hS hR (by simp;omega) (by omega) (λj h5 h6=>hz j (by omega) (by omega));rw[hA1]at r1 k1 g1;have hei:A.length+1+inner.length<l.length:=by omega
   have hee:l[A.length+1+inner.length]=e:=by
    have h5:(l.drop (A.length+1))[inner.length]?=Y e:=by
     rw[hd,dD (aB _),bD];rfl
    rw[iR,aD hei]at h5;injection h5
   have hbn:=br6 t1 hov.1 hb;have c1:=dD9 (pre:=pre) (a:=p) (w2:=w) hl (by omega) hei (by rw[hee];exact h2) hlt l1 l2 (w:=0+wi) (by omega) (by omega) (by rw[hget];exact hov) (n:=b) (by rw[hget,fB];exact hb);have hA2:(A++o::(inner++[e])).length=A.length+1+inner.length+1:=by simp;omega
   obtain⟨S2,R2,r2,l3,l4,⟨t3,t4⟩,k2,g2⟩:=cV5 hl hv k (A++o::(inner++[e])) rest B (S1.set A.length b) (R1.set A.length (0+wi)) pre p (w+b) tr (by omega) (by rw[hsplit];simp) hsr hqr (by simp[l1]) (by simp[l2]) (by omega) (by omega) (λj h5 h6=>by
    rw[hA2]at h5 h6;rw[cB (by omega),cB (by omega),(k1 j (by omega)).1,(k1 j (by omega)).2]
    exact hz j (by omega) (by omega))
   rw[hA2]at r2 k2 g2;refine⟨S2,R2, ?_,l3,l4,⟨by omega,by omega⟩,λj hj=> ?_,λj h5 h6=> ?_⟩
   .have h0:=Reach.one (dR3 (sz:=S) (rds:=R) (pre:=pre) (a:=p) (w:=w) hl (by omega) hlt (by rw[hget];exact hk7));have h7:=((h0.trans r1).trans (Reach.one c1)).trans r2;rw[show 1+inner.length+1+rest.length=inner.length+(rest.length+1)+1 by omega,gD,hq,show A.length+1+inner.length+1+rest.length=A.length+(inner.length+(rest.length+1)+1)by omega]at h7;exact h7
   .rw[(k2 j (by omega)).1,(k2 j (by omega)).2,cB (by omega),cB (by omega),(k1 j (by omega)).1,(k1 j (by omega)).2];exact⟨rfl,rfl⟩
   .by_cases hj1:A.length+1+inner.length+1<=j
    .exact g2 j hj1 (by omega)
    .rw[(k2 j (by omega)).1,(k2 j (by omega)).2];by_cases hj2:A.length=j
     .subst hj2;rw[iH (by omega),iH (by omega)];refine⟨_,_,rfl,rfl,λh=>⟨λ_ inner' e' rest' p1 p2 p3=> ?_,λh'=>(h' (by rw[hget];exact hk7)).elim⟩⟩;have:=aj3 (hd.symm.trans p1) h3 p3 h2 p2;subst this;rw[fB,hget];exact⟨hwi,hb⟩
     .rw[cB hj2,cB hj2];by_cases hj3:j<A.length+1+inner.length
      .exact g1 j (by omega) hj3
      .have hj4:j=A.length+1+inner.length:=by omega
       subst hj4;rw[(k1 _ (by omega)).1,(k1 _ (by omega)).2,(hz _ h5 h6).1,(hz _ h5 h6).2];refine⟨0,0,rfl,rfl,λh=>⟨λh'=> ?_,λ_=>⟨rfl, ?_⟩⟩⟩
       .rw[hee]at h';omega
       .rw[hee,zE h2]
  .obtain⟨hsr,hko,hQ⟩:=cd9 hs hk7;rw[hQ]at hq;cases hqr:Q9 seg with
   |none=>rw[hqr]at hq;cases hq
   |some tr=>
   rw[hqr]at hq;injection hq with hq
   have hq:1+tr=t:=hq;have hA1:(A++[o]).length=A.length+1:=by simp
   have c1:=em2 (sz:=S) (rds:=R) (pre:=pre) (a:=p) (w:=w) hl (by omega) hlt (by rw[hget];exact hko) hS (by omega)
   obtain⟨S1,R1,r1,l1,l2,⟨t1,t2⟩,k1,g1⟩:=cV5 hl hv k (A++[o]) seg B (S.set A.length 1) R pre p (w+1) tr (by omega) (by rw[hsplit];simp) hsr hqr (by simp[hS]) hR (by omega) (by omega) (λj h5 h6=>by
    rw[hA1]at h5 h6;rw[cB (by omega)]
    exact hz j (by omega) (by omega))
   rw[hA1]at r1 k1 g1;refine⟨S1,R1, ?_,l1,l2,⟨by omega,by omega⟩,λj hj=> ?_,λj h5 h6=> ?_⟩
   .have h7:=(Reach.one c1).trans r1;rw[show 1+seg.length=seg.length+1 by omega,gD,hq,show A.length+1+seg.length=A.length+(seg.length+1)by omega]at h7;exact h7
   .rw[(k1 j (by omega)).1,(k1 j (by omega)).2,cB (by omega)];exact⟨rfl,rfl⟩
   .by_cases hj1:A.length+1<=j
    .exact g1 j hj1 (by omega)
    .have hj2:j=A.length:=by omega
     subst hj2;rw[(k1 _ (by omega)).1,(k1 _ (by omega)).2,iH (by omega),(hz _ h5 h6).2];refine⟨1,0,rfl,rfl,λh=>⟨λh'=>(hk7 (by rw[<-hget];exact h')).elim,λ_=>⟨rfl, ?_⟩⟩⟩;rw[hget,zF (by omega)]
end
theorem cu2 {l:List cd}(hl:l.length<=4096)(hv: ∀o∈l,0<=o.2.2.2.2/\o.2.2.2.2<=18446744073709551615):
  ∃r,ph l=Y r/\r.1=(de l).1/\r.2.1=(de l).2/\(((de l).2≠0/\r.2.2=([],[]))∨((de l).2=0/\bn l 0=Y 0/\r.2.2.1.length=l.length/\r.2.2.2.length=l.length/\∀j,j<l.length->∃a b,r.2.2.1[j]?=Y a/\r.2.2.2[j]?=Y b/\dN7 l j a b)):=by
 have hW:=ad1 (by omega) hv;unfold gv at hW;obtain⟨r,hr,hW⟩:=ag hW;injection hW with hW
 refine⟨r,hr,by rw[<-hW],by rw[<-hW], ?_⟩;unfold ph at hr;obtain⟨m,hm⟩:=aL7 (l:=l) (by omega);rw[hm]at hr;by_cases hs:bn l 0=Y 0
 .simp only[zE hs]at hr;simp only[zG]at hr;rw[zA (by simp),zD]at hr;rw[zB (show(0:Int)<=(l.length:Int)by omega),zB (show(l.length:Int)<=(l.length:Int)by omega),zB (show 8*(l.length:Int)<=140737488355328 by omega)]at hr;have hgd: ∀{β:Type} {y:Option β},gd (iY 1 (Sh.w (.int .i64))&&Za&&Za&&Za&&Nat.ble 1 8) y=y:=λ{β y}=>rfl
  rw[hgd,hgd]at hr;cases hq:Q9 l with
  |none=>
   have hw9:de l=(0,9):=by unfold de;rw[zE hs,hq]
   left;refine⟨by rw[hw9];simp, ?_⟩;obtain⟨c,hc,hr⟩:=ag hr;obtain⟨s36,h36,hr⟩:=ag hr;rw[ak]at hr;split at hr
   .injection hr with hr
    rw[<-hr]
   .rename_i hz;exfalso;obtain⟨j,hj,hr⟩:=ag hr;obtain⟨x,hx,hr⟩:=ag hr;injection hr with hr
    rw[<-hr,hw9]at hW;injection hW with _ hW
    cases hW
  |some t=>
   obtain⟨S',R',r1,l1,l2,⟨t1,t2⟩,k1,g1⟩:=cV5 (l:=l) (by omega) hv _ [] l [] (bB ((l.length:Int)).toNat (0:Int)) (bB ((l.length:Int)).toNat (0:Int)) [] 0 0 t (aB _) (by simp) hs hq (by simp) (by simp) (by simp) (by simp) (λj _ hj=>by
    rw[List.getElem?_replicate,zE (by simpa using hj)]
    exact⟨rfl,rfl⟩)
   rw[show([]:List cd).length+l.length=l.length by simp]at r1 g1
   have hloop:ap (ca l) fy ((0:Int),bB ((l.length:Int)).toNat (0:Int),bB ((l.length:Int)).toNat (0:Int),[((0:Int),(0:Int))])=Y (0,S',R',[(0,0+t)]):=by
    have h1:=r1 (18446744073709551616-l.length);rw[show 18446744073709551616-l.length+l.length=fy by unfold fy;omega,show 18446744073709551616-l.length=(18446744073709551615-l.length)+1 by omega]at h1;refine h1.trans ?_;rw[cf];simp only[ca];rw[zA (by omega),zD];rfl
   rw[hloop,fB]at hr;have hr:((((cond (Zc (65536<t)) (Y (9:Int)) (Y 0)).bind λs36=>cond (Zc (s36≠0)) (Y ((0:Int),s36,([]:Zd),([]:Zd))) (Y (t,0,S',R')))))=Y r:=hr;rw[ak]at hr;have hw9:de l=if 65536<t then(0,9)else(t,0):=by unfold de;rw[zE hs,hq]
   by_cases c:65536<t
   .rw[zE c]at hr hw9;left;injection hr with hr
    rw[<-hr,hw9];exact⟨by simp,rfl⟩
   .rw[zF c]at hr hw9;right;injection hr with hr
    rw[<-hr,hw9];exact⟨rfl,hs,l1,l2,λj hj=>g1 j (iD _) hj⟩
 .simp only[zF hs]at hr;left;have hw9:de l=(0,6):=by unfold de;rw[zF hs]
  have hr:Y ((0:Int),(6:Int),([]:Zd),([]:Zd))=Y r:=hr;injection hr with hr
  rw[<-hr,hw9];exact⟨by simp,rfl⟩
abbrev ae3 :=Int×Int×Int×Int×Int×Int
inductive Fo where
 |nil
 |op (o:cd) (r:Fo)
 |rep (o:cd) (b:Fo) (e:cd) (r:Fo)
def vOf (o:cd):Nat:=o.2.2.2.2.toNat
def bw (o:cd)(to:Nat):ae3:=(o.1,o.2.1,o.2.2.1,o.2.2.2.1,o.2.2.2.2,(to:Int))
namespace Fo
def src :Fo->List cd
 | .nil=>[]
 | .op o r=>o::r.src
 | .rep o b e r=>o::(b.src++e::r.src)
def Ok :Fo->Prop
 | .nil=>True
 | .op o r=>(0<o.1/\o.1<7)/\r.Ok
 | .rep o b e r=>(o.1=7/\e.1=0)/\b.Ok/\r.Ok
def n :Fo->Nat
 | .nil=>0
 | .op _ r=>1+r.n
 | .rep o b _ r=>b.n*vOf o+r.n
def len :Fo->Nat
 | .nil=>0
 | .op _ r=>r.len+1
 | .rep _ b _ r=>b.len+r.len+2
def hi :Fo->Nat
 | .nil=>0
 | .op _ r=>r.hi
 | .rep _ b _ r=>max (b.hi+1) r.hi
def bare :Fo->Fo
 | .nil=> .nil
 | .op o r=> .op o r.bare
 | .rep o b e r=>if b.n*vOf o=0 then r.bare else .rep o b.bare e r.bare
def unroll :Fo->List cd
 | .nil=>[]
 | .op o r=>o::r.unroll
 | .rep o b _ r=>(bB (vOf o) b.unroll).flatten++r.unroll
def code :Fo->Nat->List ae3
 | .nil,_=>[]
 | .op o r,p=>bw o 0::r.code (p+1)
 | .rep o b e r,p=>bw o (p+b.len+2)::(b.code (p+1)++bw e (p+1)::r.code (p+b.len+2))
def Pos :Fo->Prop
 | .nil=>True
 | .op _ r=>r.Pos
 | .rep o b _ r=>0<b.n*vOf o/\b.Pos/\r.Pos
def steps :Fo->Nat
 | .nil=>0
 | .op _ r=>1+r.steps
 | .rep o b _ r=>1+vOf o*(b.steps+1)+r.steps
theorem src_len : ∀f:Fo,f.src.length=f.len
 | .nil=>rfl
 | .op o r=>by simp only[src,len,cD,src_len r]
 | .rep o b e r=>by simp only[src,len,cD,eD,src_len r,src_len b];omega
theorem code_len : ∀(f:Fo) (p:Nat),(f.code p).length=f.len
 | .nil,_=>rfl
 | .op o r,p=>by simp only[code,len,cD,code_len r]
 | .rep o b e r,p=>by simp only[code,len,cD,eD,code_len r,code_len b];omega
theorem scan_src : ∀(f:Fo),f.Ok->∀(r:List cd) (d:Nat),bn (f.src++r) d=bn r d
 | .nil,_,r,d=>rfl
 | .op o f,h,r,d=>by
  obtain⟨h1,h2⟩:=h;simp only[src,fD,bn];rw[zF (by omega),zF (by omega),zF (by omega)];exact scan_src f h2 r d
 | .rep o b e f,h,r,d=>by
  obtain⟨⟨h1,h2⟩,h3,h4⟩:=h;simp only[src,fD,dB,bn];rw[zF (by omega),zF (by omega),zE h1,scan_src b h3];simp only[bn];rw[zF (by omega),zE h2,zF (by omega)];exact scan_src f h4 r d
theorem scan0 {f:Fo}(h:f.Ok):bn f.src 0=Y 0:=by
 have:=scan_src f h [] 0;rw[iN]at this;exact this
theorem parse : ∀(N:Nat) (l:List cd),l.length<=N->bn l 0=Y 0->∃f:Fo,f.Ok/\f.src=l
 |_,[],_,_=>⟨.nil,trivial,rfl⟩
 |0,o::l,h,_=>by simp at h
 |N+1,o::l,h,hs=>by
  simp only[cD]at h;by_cases hk:o.1=7
  .have hs1:bn l 1=Y 0:=by
    simp only[bn]at hs;rw[zF (by omega),zF (by omega),zE hk]at hs;exact hs
   obtain⟨inner,e,rest,h1,h2,h3,h4⟩:=aM7 _ l 0 (aB _) hs1;subst h1;simp only[eD,cD]at h;obtain⟨b,b1,b2⟩:=parse N inner (by omega) h3;obtain⟨r,r1,r2⟩:=parse N rest (by omega) h4;exact⟨.rep o b e r,⟨⟨hk,h2⟩,b1,r1⟩,by simp only[src,b2,r2]⟩
  .obtain⟨h1,h2,_⟩:=cd9 hs hk;obtain⟨r,r1,r2⟩:=parse N l (by omega) h1;exact⟨.op o r,⟨h2,r1⟩,by simp only[src,r2]⟩
theorem Q9_n : ∀(f:Fo),f.Ok->(∀o∈f.src,0<=o.2.2.2.2)->∀{t:Int},Q9 f.src=Y t->t=(f.n:Int)
 | .nil,_,_,t,h=>by
  injection h with h
  exact h.symm
 | .op o r,h,hv,t,hq=>by
  obtain⟨h1,h2⟩:=h;have hs:=scan0 (f:= .op o r) ⟨h1,h2⟩;obtain⟨_,_,h3⟩:=cd9 (o:=o) (s:=r.src) hs (by omega);have hq:Q9 (o::r.src)=Y t:=hq;rw[h3]at hq;cases hr:Q9 r.src with
  |none=>rw[hr]at hq;cases hq
  |some m=>
   rw[hr]at hq;injection hq with hq
   have:=Q9_n r h2 (λx hx=>hv x (List.mem_cons_of_mem _ hx)) hr;subst this;rw[<-hq];show(1:Int)+(r.n:Int)=((1+r.n:Nat):Int);omega
 | .rep o b e r,h,hv,t,hq=>by
  obtain⟨⟨h1,h2⟩,h3,h4⟩:=h;have hs:=scan0 (f:= .rep o b e r) ⟨⟨h1,h2⟩,h3,h4⟩;obtain⟨_,h5⟩:=cm6 (o:=o) (e:=e) (inner:=b.src) (rest:=r.src) hs h1 h2 (scan0 h3);have hq:Q9 (o::(b.src++e::r.src))=Y t:=hq;rw[h5]at hq;obtain⟨w,hw,hq⟩:=ag hq;obtain⟨c,hc,hq⟩:=ag hq;cases hr:Q9 r.src with
  |none=>rw[hr]at hq;cases hq
  |some m=>
   rw[hr]at hq;injection hq with hq
   have e1:=Q9_n r h4 (λx hx=>hv x (by simp only[src];simp[hx])) hr;have e2:=Q9_n b h3 (λx hx=>hv x (by simp only[src];simp[hx])) hw;have hv0:0<=o.2.2.2.2:=hv o (by simp[src])
   have e3:c=(b.n:Int)*(vOf o:Int):=by
    unfold as8 at hc;rw[e2]at hc;unfold vOf;rw[lD hv0];split at hc
    .rename_i hz;injection hc with hc
     rw[hz,Int.zero_mul,hc]
    split at hc
    .cases hc
    split at hc
    .cases hc
    .injection hc with hc
     exact hc.symm
   rw[<-hq,e1,e3];show(b.n:Int)*(vOf o:Int)+(r.n:Int)=((b.n*vOf o+r.n:Nat):Int);simp
theorem hmax_src : ∀(f:Fo),f.Ok->∀(r:List cd) (d m:Nat),hmax (f.src++r) d m=hmax r d (max m (if f.hi=0 then 0 else d+f.hi))
 | .nil,_,r,d,m=>by
  simp only[src,iA,hi,zE];rw[Nat.max_zero]
 | .op o f,h,r,d,m=>by
  obtain⟨h1,h2⟩:=h;simp only[src,fD,hmax,hi];rw[zF (by omega),zF (by omega)];exact hmax_src f h2 r d m
 | .rep o b e f,h,r,d,m=>by
  obtain⟨⟨h1,h2⟩,h3,h4⟩:=h;simp only[src,fD,dB,hmax,hi];rw[zE h1,hmax_src b h3];simp only[hmax];rw[zF (by omega),zE h2,rW,hmax_src f h4]
  congr 1
  have e0:(if max (b.hi+1) f.hi=0 then 0 else d+max (b.hi+1) f.hi)=d+max (b.hi+1) f.hi:=zF (by omega);refine Eq.trans ?_ (congrArg (max m) e0.symm);split<;>split<;>omega
theorem hi_le {f:Fo}(h:f.Ok):f.hi<=hmax f.src 0 0:=by
 have:=hmax_src f h [] 0 0;rw[iN]at this;rw[this];simp only[hmax];split<;>omega
theorem bare_n : ∀f:Fo,f.bare.n=f.n
 | .nil=>rfl
 | .op o r=>by simp only[bare,n,bare_n r]
 | .rep o b e r=>by
  simp only[bare,n];split
  .rename_i h;rw[h,bare_n r,iB]
  .simp only[n,bare_n b,bare_n r]
theorem vn : ∀f:Fo,f.unroll.length=f.n
 | .nil=>rfl
 | .op o r=>by simp only[unroll,n,cD,vn r];omega
 | .rep o b e r=>by
  simp only[unroll,n,eD,vn r];rw[rS,rT,rV,vn b,qB]
theorem bare_unroll : ∀f:Fo,f.bare.unroll=f.unroll
 | .nil=>rfl
 | .op o r=>by simp only[bare,unroll,bare_unroll r]
 | .rep o b e r=>by
  simp only[bare,unroll];split
  .rename_i h
   have h1:((bB (vOf o) b.unroll).flatten).length=0:=by
    rw[rS,rT,rV,vn b,qB,h]
   rw[List.eq_nil_of_length_eq_zero h1,iA,bare_unroll r]
  .simp only[unroll,bare_unroll b,bare_unroll r]
theorem bare_ok : ∀f:Fo,f.Ok->f.bare.Ok
 | .nil,_=>trivial
 | .op o r,h=>⟨h.1,bare_ok r h.2⟩
 | .rep o b e r,h=>by
  simp only[bare];split
  .exact bare_ok r h.2.2
  .exact⟨h.1,bare_ok b h.2.1,bare_ok r h.2.2⟩
theorem bare_pos : ∀f:Fo,f.bare.Pos
 | .nil=>trivial
 | .op o r=>bare_pos r
 | .rep o b e r=>by
  simp only[bare];split
  .exact bare_pos r
  .rename_i h;exact⟨by rw[bare_n];omega,bare_pos b,bare_pos r⟩
theorem bare_hi : ∀f:Fo,f.bare.hi<=f.hi
 | .nil=>aB _
 | .op o r=>bare_hi r
 | .rep o b e r=>by
  simp only[bare,hi];have h1:=bare_hi b;have h2:=bare_hi r;split
  .omega
  .simp only[hi];omega
theorem bare_len : ∀f:Fo,f.bare.len<=f.len
 | .nil=>aB _
 | .op o r=>by simp only[bare,len];exact Nat.succ_le_succ (bare_len r)
 | .rep o b e r=>by
  simp only[bare,len];have h1:=bare_len b;have h2:=bare_len r;split
  .omega
  .simp only[len];omega
theorem bare_mem : ∀(f:Fo) {o:cd},o∈f.bare.src->o∈f.src
 | .nil,o,h=>h
 | .op o r,x,h=>by
  simp only[bare,src,iJ]at h⊢;rcases h with h|h
  .exact .inl h
  .exact .inr (bare_mem r h)
 | .rep o b e r,x,h=>by
  simp only[bare]at h;split at h
  .simp only[src,iJ,oB];exact .inr (.inr (.inr (bare_mem r h)))
  .simp only[src,iJ,oB]at h⊢;rcases h with h|h|h|h
   .exact .inl h
   .exact .inr (.inl (bare_mem b h))
   .exact .inr (.inr (.inl h))
   .exact .inr (.inr (.inr (bare_mem r h)))
theorem vo : ∀(f:Fo),f.Ok->∀{o:cd},o∈f.unroll->o∈f.src/\0<o.1/\o.1<7
 | .nil,_,o,h=>by cases h
 | .op o r,hk,x,h=>by
  simp only[unroll,src,iJ]at h⊢;rcases h with rfl|h
  .exact⟨.inl rfl,hk.1⟩
  .have:=vo r hk.2 h;exact⟨.inr this.1,this.2⟩
 | .rep o b e r,hk,x,h=>by
  simp only[unroll,src,iJ,oB]at h⊢;rcases h with h|h
  .obtain⟨l,hl,hx⟩:=List.mem_flatten.1 h;rw[List.eq_of_mem_replicate hl]at hx;have:=vo b hk.2.1 hx;exact⟨.inr (.inl this.1),this.2⟩
  .have:=vo r hk.2.2 h;exact⟨.inr (.inr (.inr this.1)),this.2⟩
theorem steps_le : ∀f:Fo,f.Pos->f.steps<=(2*f.len+1)*f.n
 | .nil,_=>aB _
 | .op o r,h=>by
  have h1:=steps_le r h;simp only[steps,len,n];rw[pD,jB];have:(2*r.len+1)*r.n<=(2*(r.len+1)+1)*r.n:=qD _ (by omega);omega
 | .rep o b e r,h=>by
  obtain⟨h1,h2,h3⟩:=h;have i1:=steps_le b h2;have i2:=steps_le r h3;simp only[steps,len,n]
  have hv:0<vOf o:=by
   rcases iZ (vOf o)with h0|h0
   .rw[h0]at h1;simp at h1
   .exact h0
  have hb:0<b.n:=by
   rcases iZ b.n with h0|h0
   .rw[h0]at h1;simp at h1
   .exact h0
  have hx:vOf o<=b.n*vOf o:=Nat.le_mul_of_pos_left _ hb
  have j1:vOf o*(b.steps+1)<=(2*b.len+1)*(b.n*vOf o)+b.n*vOf o:=by
   rw[pD,jB];have:vOf o*b.steps<=vOf o*((2*b.len+1)*b.n):=Nat.mul_le_mul_left _ i1
   have e1:vOf o*((2*b.len+1)*b.n)=(2*b.len+1)*(b.n*vOf o):=by
    rw[qB,Nat.mul_assoc]
   omega
  have j2:(2*r.len+1)*r.n<=(2*(b.len+r.len+2)+1)*r.n:=qD _ (by omega);have j3:(2*b.len+3)*(b.n*vOf o)<=(2*(b.len+r.len+2)+1)*(b.n*vOf o):=qD _ (by omega)
  have j4:(2*b.len+3)*(b.n*vOf o)=(2*b.len+1)*(b.n*vOf o)+b.n*vOf o+b.n*vOf o:=by
   rw[show 2*b.len+3=(2*b.len+1)+1+1 by omega,Nat.add_mul,Nat.add_mul,Nat.one_mul]
  rw[pD (2*(b.len+r.len+2)+1)];generalize vOf o*(b.steps+1)=y1 at*;generalize (2*(b.len+r.len+2)+1)*(b.n*vOf o)=y2 at*;generalize (2*(b.len+r.len+2)+1)*r.n=y3 at*;generalize (2*r.len+1)*r.n=y4 at*;generalize (2*b.len+3)*(b.n*vOf o)=y5 at*;generalize (2*b.len+1)*(b.n*vOf o)=y6 at*;omega
end Fo
def upd (l:Nat->Int)(j:Nat)(v:Int):Nat->Int:=λi=>cond (iY j i) v (l i)
theorem ue (l:Nat->Int)(j:Nat)(v:Int):upd l j v j=v:=by
 unfold upd;rw[Nat.beq_refl];rfl
theorem bC0 {l:Nat->Int}{j i:Nat}{v:Int}(h:i≠j):upd l j v i=l i:=by
 unfold upd;cases hb:iY j i with
 |true=>exact(h (Nat.eq_of_beq_eq_true hb).symm).elim
 |false=>rfl
def okV (o:cd):Prop:=0<=o.2.2.2.2/\o.2.2.2.2<=18446744073709551615
structure Runs {σ γ S:Type}(g:σ->Option (σ⊕γ))(code:List ae3)(st:Nat->Nat->(Nat->Int)->S->σ)(stp:cd->S->S)(Vd:Nat->S->Prop)(good:cd->Prop):Prop where
 op: ∀{p d l s m o to},code[p]?=Y (bw o to)->good o->(0<o.1/\o.1<7)->d<=8->Vd (1+m) s->g (st p d l s)=Y (.inl (st (p+1) d l (stp o s)))/\Vd m (stp o s)
 rep: ∀{p d l s m o to},code[p]?=Y (bw o to)->o.1=7->d<8->Vd m s->g (st p d l s)=Y (.inl (st (p+1) (d+1) (upd l d o.2.2.2.2) s))
 nxt: ∀{p d l s m e to},code[p]?=Y (bw e to)->e.1=0->d<8->1<l d->l d<=18446744073709551615->Vd m s->g (st p (d+1) l s)=Y (.inl (st to (d+1) (upd l d (l d-1)) s))
 out: ∀{p d l s m e to},code[p]?=Y (bw e to)->e.1=0->d<8->l d=1->Vd m s->g (st p (d+1) l s)=Y (.inl (st (p+1) d (upd l d (l d-1)) s))
section
variable {σ γ S:Type} {g:σ->Option (σ⊕γ)} {code:List ae3} {st:Nat->Nat->(Nat->Int)->S->σ} {stp:cd->S->S} {Vd:Nat->S->Prop} {good:cd->Prop}
def fwd (stp:cd->S->S)(l:List cd)(s:S):S:=l.foldl (λs o=>stp o s) s
theorem cU2 (l r:List cd)(s:S):fwd stp (l++r) s=fwd stp r (fwd stp l s):=List.foldl_append
theorem bd6 {A B:List ae3}{x:ae3}{r:List ae3}{p:Nat}(hc:code=A++(x::r)++B)(hp:A.length=p):code[p]?=Y x:=by
 subst hp;rw[hc,dB,dD (aB _),bD];rfl
theorem rounds (hg:Runs g code st stp Vd good){p q d t n:Nat}{e:cd}{u:List cd}(hd:d<8)(hend:code[q]?=Y (bw e p))(he:e.1=0)
  (hb: ∀(l:Nat->Int) (s:S) (m:Nat),Vd (n+m) s->∃l',(∀i,i<d+1->l' i=l i)/\Reach g t (st p (d+1) l s) (st q (d+1) l' (fwd stp u s))/\Vd m (fwd stp u s)):
  ∀(k:Nat) (l:Nat->Int) (s:S) (m:Nat),k<18446744073709551615->l d=((k+1:Nat):Int)->Vd (n*(k+1)+m) s->
   ∃l',(∀i,i<d->l' i=l i)/\Reach g ((k+1)*(t+1)) (st p (d+1) l s) (st (q+1) d l' (fwd stp (bB (k+1) u).flatten s))/\Vd m (fwd stp (bB (k+1) u).flatten s)
 |0,l,s,m,hk,hl,hv=>by
  obtain⟨l1,h1,h2,h3⟩:=hb l s m (by rw[iB,jB]at hv;exact hv);have hu:(bB (0+1) u).flatten=u:=by simp
  rw[hu];have hl1:l1 d=1:=by rw[h1 d (by omega),hl];rfl
  refine⟨upd l1 d (l1 d-1),λi hi=>by rw[bC0 (by omega),h1 i (by omega)], ?_,h3⟩;have h4:=h2.trans (Reach.one (hg.out (l:=l1) hend he hd hl1 h3));rw[show(0+1)*(t+1)=t+1 by omega];exact h4
 |k+1,l,s,m,hk,hl,hv=>by
  have hn:n*(k+1+1)+m=n+(n*(k+1)+m):=by rw[Nat.mul_succ n (k+1)];omega
  rw[hn]at hv;obtain⟨l1,h1,h2,h3⟩:=hb l s _ hv;have hl1:l1 d=((k+1+1:Nat):Int):=by rw[h1 d (by omega),hl]
  have h4:=h2.trans (Reach.one (hg.nxt (l:=l1) hend he hd (by omega) (by omega) h3));obtain⟨l2,h5,h6,h7⟩:=rounds hg hd hend he hb k (upd l1 d (l1 d-1)) (fwd stp u s) m (by omega) (by rw[ue,hl1];omega) h3;have hu:(bB (k+1+1) u).flatten=u++(bB (k+1) u).flatten:=by rw[List.replicate_succ,List.flatten_cons]
  rw[hu,cU2];refine⟨l2,λi hi=>by rw[h5 i hi,bC0 (by omega),h1 i (by omega)], ?_,h7⟩;rw[show(k+1+1)*(t+1)=t+1+(k+1)*(t+1)by rw[Nat.succ_mul (k+1)];omega];exact h4.trans h6
theorem bV8 (hg:Runs g code st stp Vd good): ∀(f:Fo) {A B:List ae3} {p d:Nat} {l:Nat->Int} {s:S} {m:Nat},code=A++f.code p++B->A.length=p->f.Ok->f.Pos->d+f.hi<=8->(∀o∈f.src,good o/\okV o)->Vd (f.n+m) s->
  ∃l',(∀i,i<d->l' i=l i)/\Reach g f.steps (st p d l s) (st (p+f.len) d l' (fwd stp f.unroll s))/\Vd m (fwd stp f.unroll s)
 | .nil,A,B,p,d,l,s,m,hc,hp,hk,hq,hh,hgd,hv=>by
  refine⟨l,λ_ _=>rfl,Reach.refl, ?_⟩;have:Fo.nil.n+m=m:=iB m;rw[this]at hv;exact hv
 | .op o r,A,B,p,d,l,s,m,hc,hp,hk,hq,hh,hgd,hv=>by
  simp only[Fo.n,Nat.add_assoc]at hv;simp only[Fo.hi]at hh;obtain⟨h1,h2⟩:=hg.op (d:=d) (l:=l) (bd6 hc hp) (hgd o (by simp[Fo.src])).1 hk.1 (by omega) hv;have hA:(A++[bw o 0]).length=p+1:=by simp[hp]
  obtain⟨l',h3,h4,h5⟩:=bV8 hg r (A:=A++[bw o 0]) (B:=B) (p:=p+1) (d:=d) (l:=l) (by rw[hc];simp[Fo.code]) hA hk.2 hq hh (λx hx=>hgd x (by simp[Fo.src,hx])) h2;refine⟨l',h3, ?_,h5⟩;have:=(Reach.one h1).trans h4;simp only[Fo.steps,Fo.len];rw[show p+(r.len+1)=p+1+r.len by omega];exact this
 | .rep o b e r,A,B,p,d,l,s,m,hc,hp,hk,hq,hh,hgd,hv=>by
  obtain⟨⟨k1,k2⟩,k3,k4⟩:=hk;obtain⟨q1,q2,q3⟩:=hq;simp only[Fo.n,Nat.add_assoc]at hv;simp only[Fo.hi]at hh;have hov:=(hgd o (by simp[Fo.src])).2;unfold okV at hov;have hvo:((vOf o:Nat):Int)=o.2.2.2.2:=lD hov.1
  have hv0:0<vOf o:=by
   rcases iZ (vOf o)with h0|h0
   .rw[h0]at q1;simp at q1
   .exact h0
  obtain⟨k,hk⟩: ∃k,vOf o=k+1:=⟨vOf o-1,by omega⟩
  have h1:=hg.rep (d:=d) (l:=l) (bd6 hc hp) k1 (by omega) hv;have hA:(A++[bw o (p+b.len+2)]).length=p+1:=by simp[hp]
  have hcb:code=(A++[bw o (p+b.len+2)])++b.code (p+1)++(bw e (p+1)::r.code (p+b.len+2)++B):=by rw[hc];simp[Fo.code]
  have hce:code=(A++bw o (p+b.len+2)::b.code (p+1))++(bw e (p+1)::r.code (p+b.len+2))++B:=by rw[hc];simp[Fo.code]
  have hAe:(A++bw o (p+b.len+2)::b.code (p+1)).length=p+1+b.len:=by simp[hp,Fo.code_len];omega
  have hend:=bd6 hce hAe
  obtain⟨l1,h2,h3,h4⟩:=rounds hg (p:=p+1) (q:=p+1+b.len) (d:=d) (t:=b.steps) (n:=b.n) (e:=e) (u:=b.unroll) (by omega) hend k2
   (λl s m hm=>bV8 hg b hcb hA k3 q2 (by omega) (λx hx=>hgd x (by simp[Fo.src,hx])) hm) k (upd l d o.2.2.2.2) s (r.n+m) (by omega) (by rw[ue,<-hvo,hk]) (by rw[<-hk];exact hv)
  have hcr:code=(A++bw o (p+b.len+2)::(b.code (p+1)++[bw e (p+1)]))++r.code (p+b.len+2)++B:=by rw[hc];simp[Fo.code]
  have hAr:(A++bw o (p+b.len+2)::(b.code (p+1)++[bw e (p+1)])).length=p+b.len+2:=by simp[hp,Fo.code_len];omega
  obtain⟨l2,h5,h6,h7⟩:=bV8 hg r (d:=d) (l:=l1) hcr hAr k4 q3 (by omega) (λx hx=>hgd x (by simp[Fo.src,hx])) h4;simp only[Fo.unroll,Fo.steps,Fo.len];rw[cU2,hk];refine⟨l2,λi hi=>by rw[h5 i hi,h2 i hi,bC0 (by omega)], ?_,h7⟩;have h8:=((Reach.one h1).trans h3).trans (show Reach g r.steps (st (p+1+b.len+1) d l1 _) _ from by rw[show p+1+b.len+1=p+b.len+2 by omega];exact h6);rw[show p+(b.len+r.len+2)=p+b.len+2+r.len by omega];exact h8
end
structure Backs {σ γ S:Type}(g:σ->Option (σ⊕γ))(code:List ae3)(st:Nat->Nat->(Nat->Int)->S->σ)(stp:cd->S->S)(Vd:Nat->S->Prop)(good:cd->Prop):Prop where
 op: ∀{p d l s m o to},code[p]?=Y (bw o to)->good o->(0<o.1/\o.1<7)->d<=8->Vd (1+m) s->g (st (p+1) d l s)=Y (.inl (st p d l (stp o s)))/\Vd m (stp o s)
 rep: ∀{p q d l s m o e to},code[p]?=Y (bw e (q+1))->e.1=0->code[q]?=Y (bw o to)->d<8->Vd m s->g (st (p+1) d l s)=Y (.inl (st p (d+1) (upd l d o.2.2.2.2) s))
 nxt: ∀{p d l s m o to},code[p]?=Y (bw o (to+1))->to<=code.length->o.1=7->d<8->1<l d->l d<=18446744073709551615->Vd m s->g (st (p+1) (d+1) l s)=Y (.inl (st to (d+1) (upd l d (l d-1)) s))
 out: ∀{p d l s m o to},code[p]?=Y (bw o (to+1))->o.1=7->d<8->l d=1->Vd m s->g (st (p+1) (d+1) l s)=Y (.inl (st p d (upd l d (l d-1)) s))
section
variable {σ γ S:Type} {g:σ->Option (σ⊕γ)} {code:List ae3} {st:Nat->Nat->(Nat->Int)->S->σ} {stp:cd->S->S} {Vd:Nat->S->Prop} {good:cd->Prop}
def bwd (stp:cd->S->S)(l:List cd)(s:S):S:=l.foldr stp s
theorem cS9 (l r:List cd)(s:S):bwd stp (l++r) s=bwd stp l (bwd stp r s):=List.foldr_append
theorem cX0 (hg:Backs g code st stp Vd good){p q d t n:Nat}{o:cd}{u:List cd}(hq:q<=code.length)(hd:d<8)(hbeg:code[p]?=Y (bw o (q+1)))(ho:o.1=7)
  (hb: ∀(l:Nat->Int) (s:S) (m:Nat),Vd (n+m) s->∃l',(∀i,i<d+1->l' i=l i)/\Reach g t (st q (d+1) l s) (st (p+1) (d+1) l' (bwd stp u s))/\Vd m (bwd stp u s)):
  ∀(k:Nat) (l:Nat->Int) (s:S) (m:Nat),k<18446744073709551615->l d=((k+1:Nat):Int)->Vd (n*(k+1)+m) s->
   ∃l',(∀i,i<d->l' i=l i)/\Reach g ((k+1)*(t+1)) (st q (d+1) l s) (st p d l' (bwd stp (bB (k+1) u).flatten s))/\Vd m (bwd stp (bB (k+1) u).flatten s)
 |0,l,s,m,hk,hl,hv=>by
  obtain⟨l1,h1,h2,h3⟩:=hb l s m (by rw[iB,jB]at hv;exact hv);have hu:(bB (0+1) u).flatten=u:=by simp
  rw[hu];have hl1:l1 d=1:=by rw[h1 d (by omega),hl];rfl
  refine⟨upd l1 d (l1 d-1),λi hi=>by rw[bC0 (by omega),h1 i (by omega)], ?_,h3⟩;have h4:=h2.trans (Reach.one (hg.out (l:=l1) hbeg ho hd hl1 h3));rw[show(0+1)*(t+1)=t+1 by omega];exact h4
 |k+1,l,s,m,hk,hl,hv=>by
  have hn:n*(k+1+1)+m=n+(n*(k+1)+m):=by rw[Nat.mul_succ n (k+1)];omega
  rw[hn]at hv;obtain⟨l1,h1,h2,h3⟩:=hb l s _ hv;have hl1:l1 d=((k+1+1:Nat):Int):=by rw[h1 d (by omega),hl]
  have h4:=h2.trans (Reach.one (hg.nxt (l:=l1) hbeg hq ho hd (by omega) (by omega) h3));obtain⟨l2,h5,h6,h7⟩:=cX0 hg hq hd hbeg ho hb k (upd l1 d (l1 d-1)) (bwd stp u s) m (by omega) (by rw[ue,hl1];omega) h3;have hu:(bB (k+1+1) u).flatten=(bB (k+1) u).flatten++u:=by rw[rU,List.flatten_append];simp
  rw[hu,cS9];refine⟨l2,λi hi=>by rw[h5 i hi,bC0 (by omega),h1 i (by omega)], ?_,h7⟩;rw[show(k+1+1)*(t+1)=t+1+(k+1)*(t+1)by rw[Nat.succ_mul (k+1)];omega];exact h4.trans h6
theorem br5 (hg:Backs g code st stp Vd good): ∀(f:Fo) {A B:List ae3} {p d:Nat} {l:Nat->Int} {s:S} {m:Nat},code=A++f.code p++B->A.length=p->f.Ok->f.Pos->d+f.hi<=8->(∀o∈f.src,good o/\okV o)->Vd (f.n+m) s->
  ∃l',(∀i,i<d->l' i=l i)/\Reach g f.steps (st (p+f.len) d l s) (st p d l' (bwd stp f.unroll s))/\Vd m (bwd stp f.unroll s)
 | .nil,A,B,p,d,l,s,m,hc,hp,hk,hq,hh,hgd,hv=>by
  refine⟨l,λ_ _=>rfl,Reach.refl, ?_⟩;have:Fo.nil.n+m=m:=iB m;rw[this]at hv;exact hv
 | .op o r,A,B,p,d,l,s,m,hc,hp,hk,hq,hh,hgd,hv=>by
  simp only[Fo.n]at hv;simp only[Fo.hi]at hh;have hA:(A++[bw o 0]).length=p+1:=by simp[hp]
  obtain⟨l',h3,h4,h5⟩:=br5 hg r (A:=A++[bw o 0]) (B:=B) (p:=p+1) (d:=d) (l:=l) (m:=1+m) (by rw[hc];simp[Fo.code]) hA hk.2 hq hh (λx hx=>hgd x (by simp[Fo.src,hx])) (by rw[show r.n+(1+m)=1+r.n+m by omega];exact hv);obtain⟨h1,h2⟩:=hg.op (d:=d) (l:=l') (bd6 hc hp) (hgd o (by simp[Fo.src])).1 hk.1 (by omega) h5;refine⟨l',h3, ?_,h2⟩;have:=h4.trans (Reach.one h1);simp only[Fo.steps,Fo.len];rw[show p+(r.len+1)=p+1+r.len by omega,Nat.add_comm 1];exact this
 | .rep o b e r,A,B,p,d,l,s,m,hc,hp,hk,hq,hh,hgd,hv=>by
  obtain⟨⟨k1,k2⟩,k3,k4⟩:=hk;obtain⟨q1,q2,q3⟩:=hq;simp only[Fo.n]at hv;simp only[Fo.hi]at hh;have hov:=(hgd o (by simp[Fo.src])).2;unfold okV at hov;have hvo:((vOf o:Nat):Int)=o.2.2.2.2:=lD hov.1
  have hv0:0<vOf o:=by
   rcases iZ (vOf o)with h0|h0
   .rw[h0]at q1;simp at q1
   .exact h0
  obtain⟨k,hk⟩: ∃k,vOf o=k+1:=⟨vOf o-1,by omega⟩
  have hbeg:=bd6 hc hp;have hA:(A++[bw o (p+b.len+2)]).length=p+1:=by simp[hp]
  have hcb:code=(A++[bw o (p+b.len+2)])++b.code (p+1)++(bw e (p+1)::r.code (p+b.len+2)++B):=by rw[hc];simp[Fo.code]
  have hce:code=(A++bw o (p+b.len+2)::b.code (p+1))++(bw e (p+1)::r.code (p+b.len+2))++B:=by rw[hc];simp[Fo.code]
  have hAe:(A++bw o (p+b.len+2)::b.code (p+1)).length=p+1+b.len:=by simp[hp,Fo.code_len];omega
  have hend:=bd6 hce hAe;have hcr:code=(A++bw o (p+b.len+2)::(b.code (p+1)++[bw e (p+1)]))++r.code (p+b.len+2)++B:=by rw[hc];simp[Fo.code]
  have hAr:(A++bw o (p+b.len+2)::(b.code (p+1)++[bw e (p+1)])).length=p+b.len+2:=by simp[hp,Fo.code_len];omega
  obtain⟨l2,h5,h6,h7⟩:=br5 hg r (d:=d) (l:=l) (m:=b.n*vOf o+m) hcr hAr k4 q3 (by omega) (λx hx=>hgd x (by simp[Fo.src,hx])) (by rw[show r.n+(b.n*vOf o+m)=b.n*vOf o+r.n+m by omega];exact hv);have h1:=hg.rep (d:=d) (l:=l2) hend k2 hbeg (by omega) h7
  obtain⟨l1,h2,h3,h4⟩:=cX0 hg (p:=p) (q:=p+1+b.len) (d:=d) (t:=b.steps) (n:=b.n) (o:=o) (u:=b.unroll) (Nat.le_of_lt (List.getElem?_eq_some_iff.1 hend).1) (by omega) (by rw[hbeg];congr 2;omega) k1
   (λl s m hm=>br5 hg b hcb hA k3 q2 (by omega) (λx hx=>hgd x (by simp[Fo.src,hx])) hm) k (upd l2 d o.2.2.2.2) _ m (by omega) (by rw[ue,<-hvo,hk]) (by rw[<-hk];exact h7)
  simp only[Fo.unroll,Fo.steps,Fo.len];rw[cS9,hk];refine⟨l1,λi hi=>by rw[h2 i hi,bC0 (by omega),h5 i hi], ?_,h4⟩;have h8:=(h6.trans (show Reach g 1 _ _ from by rw[show p+b.len+2=p+1+b.len+1 by omega];exact Reach.one h1)).trans h3;rw[show p+(b.len+r.len+2)=p+b.len+2+r.len by omega,show 1+(k+1)*(b.steps+1)+r.steps=r.steps+1+(k+1)*(b.steps+1)by omega];exact h8
end
end
end Go.V
