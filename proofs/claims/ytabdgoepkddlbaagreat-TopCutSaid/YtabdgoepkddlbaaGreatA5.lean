/- A part of the proofs of this claim: what functions of the program answer on an abstract machine, and plain laws. No condition. -/
import Derived.Test.YtabdgoepkddlbaaGreatA4
import Derived.Test.YtabdgoepkddlbaaGreatA2
import Derived.IntWalk
import Derived.KernelRfl
import Derived.WideKeyArr2
import Derived.RowKit
set_option linter.unusedVariables false
set_option linter.unusedSimpArgs false
set_option linter.unusedSectionVars false
namespace Go.V
open Go.Ab
open Option renaming some->Y,none->Z
open Bool renaming true->Za,false->Zb
open Decidable renaming decide->Zc
section
open List renaming getElem?_eq_getElem -> aB, nodup_nil -> aD, getElem?_eq_none -> bB, mem_cons_self -> bD
theorem ch3 : ∀{m:List (Option Src)},ch2 m=Za->∀(i:Nat) (x:Option Src),m[i]?=Y x->∃k,x=Y ⟨k,Z⟩
 |[],_,i,x,h=>by simp at h
 |none::_,h,_,_,_=>by cases h
 |some ⟨k,Y n⟩::_,h,_,_,_=>by cases h
 |some ⟨k,Z⟩::r,h,0,x,hx=>by simp at hx;exact⟨k,hx.symm⟩
 |some ⟨k,Z⟩::r,h,i+1,x,hx=>ch3 (m:=r) h i x (by simpa using hx)
theorem bz2 : ∀{os:List OSk} {i j:Nat},j∈yy os i↔∃p o,os[p]?=Y o/\o.ro=Zb/\j=i+p
 |[],i,j=>by simp[yy]
 |o::os,i,j=>by
  simp only[yy];have ih:= @bz2 os (i+1) j;constructor
  .intro h;cases hr:o.ro with
   |true=>
    rw[hr,zC]at h;obtain⟨p,o',h1,h2,h3⟩:=ih.1 h;exact⟨p+1,o',by simpa using h1,h2,by omega⟩
   |false=>
    rw[hr,zD]at h;rcases List.mem_cons.1 h with h|h
    .exact⟨0,o,rfl,hr,by omega⟩
    .obtain⟨p,o',h1,h2,h3⟩:=ih.1 h;exact⟨p+1,o',by simpa using h1,h2,by omega⟩
  .rintro⟨p,o',h1,h2,h3⟩;cases p with
   |zero=>
    simp at h1;subst h1;rw[h2,zD];exact List.mem_cons.2 (.inl (by omega))
   |succ p=>
    have:=ih.2 ⟨p,o',by simpa using h1,h2,by omega⟩;cases o.ro with
    |true=>exact this
    |false=>exact List.mem_cons_of_mem _ this
theorem cf8 : ∀{os:List OSk} {m:List (Option Src)} {i:Nat} {f:Nat->Nat},os.length=m.length->(∀(p:Nat) (x:Option Src),m[p]?=Y x->∃k,x=Y ⟨k,Z⟩/\f (i+p)=k)->(yy os i).map f=oc os m
 |[],[],i,f,_,_=>rfl
 |[],_::_,_,_,h,_=>by simp at h
 |_::_,[],_,_,h,_=>by simp at h
 |o::os,x::m,i,f,h,hf=>by
  obtain⟨k,h1,h2⟩:=hf 0 x rfl;subst h1
  have ih:= @cf8 os m (i+1) f (by simpa using h) λp y hy=>by
   obtain⟨k',h3,h4⟩:=hf (p+1) y (by simpa using hy);exact⟨k',h3,by rw[<-h4];congr 1;omega⟩
  simp only[yy,oc];cases o.ro with
  |true=>exact ih
  |false=>
   simp only[zD,List.map_cons,ih];rw[Nat.add_zero]at h2;rw[h2]
theorem bc6 : ∀{os:List OSk} {m:List (Option Src)} {k:Nat},k∈oc os m->∃(i:Nat) (o:OSk) (x:Src),m[i]?=Y (Y x)/\os[i]?=Y o/\o.ro=Zb/\x.k=k
 |[],[],k,h=>by simp[oc]at h
 |[],_::_,k,h=>by simp[oc]at h
 |_::_,[],k,h=>by simp[oc]at h
 |o::os,Z::m,k,h=>by
  obtain⟨i,o',x,h1,h2,h3,h4⟩:=bc6 (os:=os) (m:=m) h;exact⟨i+1,o',x,by simpa using h1,by simpa using h2,h3,h4⟩
 |o::os,Y x::m,k,h=>by
  simp only[oc]at h;cases hr:o.ro with
  |true=>
   rw[hr,zC]at h;obtain⟨i,o',x',h1,h2,h3,h4⟩:=bc6 (os:=os) (m:=m) h;exact⟨i+1,o',x',by simpa using h1,by simpa using h2,h3,h4⟩
  |false=>
   rw[hr,zD]at h;rcases List.mem_cons.1 h with h|h
   .exact⟨0,o,x,rfl,rfl,hr,h.symm⟩
   .obtain⟨i,o',x',h1,h2,h3,h4⟩:=bc6 (os:=os) (m:=m) h;exact⟨i+1,o',x',by simpa using h1,by simpa using h2,h3,h4⟩
theorem bT0 : ∀{m:List (Option Src)} {k:Nat},k∈ud m->∃(i:Nat) (x:Src),m[i]?=Y (Y x)/\x.k=k
 |[],k,h=>by simp[ud]at h
 |none::m,k,h=>by
  obtain⟨i,x,h1,h2⟩:=bT0 (m:=m) h;exact⟨i+1,x,by simpa using h1,h2⟩
 |some x::m,k,h=>by
  rcases List.mem_cons.1 h with h|h
  .exact⟨0,x,rfl,h.symm⟩
  .obtain⟨i,x',h1,h2⟩:=bT0 (m:=m) h;exact⟨i+1,x',by simpa using h1,h2⟩
theorem zM : ∀{os:List OSk} {m:List (Option Src)},(ud m).Nodup->(oc os m).Nodup
 |[],[],_=>aD
 |[],_::_,_=>aD
 |_::_,[],_=>aD
 |o::os,Z::m,h=>zM (os:=os) (m:=m) h
 |o::os,Y x::m,h=>by
  have h1:=List.nodup_cons.1 h;have ih:=zM (os:=os) h1.2;simp only[oc];cases o.ro with
  |true=>exact ih
  |false=>
   refine List.nodup_cons.2 ⟨λh2=>h1.1 ?_,ih⟩;obtain⟨i,o',x',h3,_,_,h4⟩:=bc6 h2;rw[<-h4];exact ap3 h3
theorem ct6 {S:ai}{N:Nat}: ∀{os:List OSk} {i:Nat} {st st1:DSt},yv S N os i st=Y st1->∀(p:Nat) (o:OSk) (x:Src),os[p]?=Y o->o.ro=Za->st1.m[i+p]?=Y (Y x)->x.k∈st1.lent
 |[],i,st,st1,h,p,o,x,ho,_,_=>by simp at ho
 |o'::os,i,st,st1,h,p,o,x,ho,hr,hx=>by
  simp only[yv]at h;split at h
  .rename_i y hy;obtain⟨st2,h1,h2⟩:=ag h;cases p with
   |succ p=>exact ct6 h2 p o x (by simpa using ho) hr (by rw[<-hx];congr 1;omega)
   |zero=>
    simp at ho;subst ho;obtain⟨t1,t2⟩:=(br9 h1).m;obtain⟨t3,t4⟩:=(ve h2).m
    have hx':st1.m[i]?=Y y:=by
     rw[<-af1,t4,t2];exact bt6 (bt6 hy)
    rw[Nat.add_zero,hx']at hx;injection hx with hx
    subst hx;refine(ve h2).lent _ ?_;unfold cM1 at h1;split at h1
    .cases hr
    .rename_i hxx;injection hxx with hxx
     subst hxx;split at h1
     .rename_i es ro l k _ es' fz cs hb;simp only[OSk.ro]at hr;subst hr;cases hk:(Nat.beq es es'&&(Za|| !fz))with
      |false=>rw[hk]at h1;cases h1
      |true=>
       rw[hk,zC]at h1;exact(yw _ _ _ _ h1).lent _ bD
     .cases h1
    .rename_i hxx;cases hxx
    .rename_i hxx;injection hxx with hxx
     subst hxx;rename_i ro s cut _ _;simp only[OSk.ro]at hr;subst hr;cases hk:(Za|| !(ae S _).frozen)with
     |false=>rw[hk]at h1;cases h1
     |true=>
      rw[hk,zC]at h1;obtain⟨l,h3,h4⟩:=ag h1;injection h4 with h4
      subst h4;exact bD
    .cases h1
  .cases h
def rz (c:Ctx)(st:DSt)(bs:List Blk):Ctx:=⟨λi=>match st.m[i]? with
 |some x=>aD7 c x
 |none=>Z,bs,c.σ,λb=>c.mut b/\¬∃k,(k∈ud st.m∨k∈st.lent)/\(ae c.S k).dim≠Z/\c.μ k=Y b⟩
structure Entered (c c0:Ctx)(objs:List OSk)(st:DSt)(bs:List Blk):Prop where
 rel:ec c0
 sub: ∀i,(ae c0.S i).dim≠Z->∃x,st.m[i]?=Y x/\c0.μ i=aD7 c x/\∀y,x=Y y->(ae c.S y.k).dim≠Z/\(y.cut=Z->(ae c0.S i).dim=(ae c.S y.k).dim)/\((ae c0.S i).frozen=Zb->(ae c.S y.k).frozen=Zb)
 own: ∀b,c0.own b->c.own b
 fz: ∀(i:Nat) (o:OSk),objs[i]?=Y o->o.ro=Za->(ae c0.S i).frozen=Za/\(ae c0.S i).dim≠Z
 len:bs.length=objs.length/\st.m.length=objs.length
theorem enter {c:Ctx}{sk:SSk}{vals vs:List VV}{as:List Value}{st:DSt}{fs bs:List Blk}(hR:ec c)(h0:sk.fix=[])(hd:uc c.S 0 [] sk vals=Y st)(he:vh id sk st.ls=Y (vs,fs,bs))(hf:F2 (VRel c) vals as):
  Entered c (rz c st bs) sk.free st bs/\F2 (VRel (rz c st bs)) vs as:=by
 obtain⟨ct0,vs0,fs0,bs0,p1,p2,p3⟩:=cf2 (f:=id) hR hd hf;rw[he]at p1;injection p1 with p1
 injection p1 with q1 p1
 injection p1 with q2 q3
 subst q1;subst q2;subst q3;obtain⟨ap1,ap2⟩:=vg hd;have hnd:=vd ap1;rw[List.nil_append]at hnd ap2;obtain⟨y1,y2,y3⟩:=p3.get
 have sub: ∀i,(ae bs i).dim≠Z->∃(x:Option Src) (o:OSk),st.m[i]?=Y x/\sk.free[i]?=Y o/\zO c ct0 o x (ae bs i):=by
  intro i hi;have hlt:=sC hi;have hb:=aB hlt;have hm:i<st.m.length:=by rw[y1];exact hlt
  obtain⟨o,h1,h2⟩:=y3 i _ _ (aB hm) hb;rw[ac9 hb];exact⟨_,o,aB hm,h1,h2⟩
 have hmu: ∀i x,st.m[i]?=Y x->(rz c st bs).μ i=aD7 c x:=by
  intro i x hx
  show(match st.m[i]? with
   |some x=>aD7 c x
   |none=>Z)=_
  rw[hx]
 have src: ∀i,(ae bs i).frozen=Zb->∀b,(rz c st bs).μ i=Y b->∃x,st.m[i]?=Y (Y x)/\(ae c.S x.k).frozen=Zb/\c.μ x.k=Y b/\x.k∈oc sk.free st.m:=by
  intro i hz b hm;obtain⟨x,o,h1,h2,h3⟩:=sub i (sq hz);rw[hmu i x h1]at hm;rcases h3 with⟨_,h3⟩|⟨h3,h4⟩
  .rw[h3]at hz;cases hz
  .cases x with
   |none=>cases hm
   |some x=>
    obtain⟨k,cut⟩:=x;rw[h3]at hz;exact⟨_,h1,h4.1 hz,hm,bw1 h1 h2 hz⟩
 have src2: ∀i,(ae bs i).dim≠Z->∀b,(rz c st bs).μ i=Y b->∃x,st.m[i]?=Y (Y x)/\(ae c.S x.k).dim≠Z/\c.μ x.k=Y b:=by
  intro i hz b hm;obtain⟨x,o,h1,h2,h3⟩:=sub i hz;rw[hmu i x h1]at hm;rcases h3 with⟨_,h3⟩|⟨h3,h4⟩
  .rw[h3]at hz;exact(hz rfl).elim
  .cases x with
   |none=>cases hm
   |some x=>
    obtain⟨k,cut⟩:=x;obtain⟨_,d,h5,_⟩:=h4;exact⟨_,h1,by rw[h5];simp,hm⟩
 have hT:Tell c (rz c st bs) 0 id st:=by
  refine⟨⟨rfl,λb y hy hn=> ?_⟩,λj x hl=> ?_,λs hs hsd b hm=> ?_⟩
  .rintro(⟨i,h1,h2⟩|h)
   .obtain⟨x,_,h3,h4,_⟩:=src i h1 b h2;exact hn (.inl ⟨x.k,h3,h4⟩)
   .exact hn h.1
  .rcases hl with⟨h1,_⟩|⟨_,h2⟩
   .omega
   .rw[Nat.sub_zero,af1]at h2
    have hlt:j<bs.length:=by
     rw[<-y1];rcases Nat.lt_or_ge j st.m.length with h|h
     .exact h
     .rw[bB h]at h2;cases h2
    refine⟨hlt,λd' hd'=> ?_⟩;obtain⟨x',o,h1,h3,h4⟩:=sub j (by rw[show(ae bs j).dim=Y d' from hd'];simp);rw[h2]at h1;injection h1 with h1
    subst h1;have hd'':(ae bs j).dim=Y d':=hd';rcases h4 with⟨_,h4⟩|⟨h4,h5⟩
    .rw[h4]at hd'';cases hd''
    .cases x with
     |none=>
      obtain⟨_,s,h6⟩:=h5;rw[h6]at hd'';injection hd'' with hd''
      subst hd'';exact⟨by simp,hmu j _ h2⟩
     |some x=>
      obtain⟨k,cut⟩:=x;obtain⟨_,d,h6,h7,_⟩:=h5;refine⟨d,h6, ?_⟩;cases cut with
      |none=>
       simp only at h7;rw[h7]at hd'';injection hd'' with hd''
       subst hd'';exact⟨rfl,hmu j _ h2,rfl⟩
      |some n=>
       simp only at h7;rw[h7]at hd'';injection hd'' with hd''
       subst hd'';exact⟨rfl,hmu j _ h2,rfl⟩
  .rintro(⟨i,h1,h2⟩|h)
   .obtain⟨x,_,h3,h4,h5⟩:=src i h1 b h2;have:=hR.inj x.k s b h3 hsd h4 hm;rw[this]at h5;exact bS0 ap2 h5 hs
   .exact h.2 ⟨s, .inr hs,hsd,hm⟩
 obtain⟨vs1,fs1,bs1,r1,r2,r3,r4⟩:=by9 hR hT hd hf;rw[he]at r1;injection r1 with r1
 injection r1 with e1 r1
 injection r1 with e2 e3
 subst e1;subst e2;subst e3;obtain⟨_,_,y4⟩:=r4.get;refine⟨⟨⟨hR.ok,λi i' b hz hdm hm hm'=> ?_,λi=> ?_,λi b hdm hm hb=> ?_,λb hb=> ?_⟩,λi hi=> ?_,λb hb=> ?_,λi o ho hr=> ?_,⟨y2.symm,by rw[y1,y2]⟩⟩,r2⟩
 .obtain⟨x,h1,h2,h3,_⟩:=src i hz b hm;obtain⟨x',h4,h5,h6⟩:=src2 i' hdm b hm';exact bs9 hnd h1 h4 (hR.inj _ _ b h2 h5 h3 h6)
 .by_cases hdm:(ae bs i).dim=Z
  .intro d hd';rw[show(ae (rz c st bs).S i).dim=Z from hdm]at hd';cases hd'
  .have hlt:=sC hdm;have hb:=aB hlt;have hm:i<st.m.length:=by rw[y1];exact hlt
   obtain⟨o,h1,h2⟩:=y4 i _ _ (aB hm) hb;exact h2.blkRel (ct:=rz c st bs) hR rfl (ac9 hb) λ_=>hmu i _ (aB hm)
 .obtain⟨x',h4,h5,h6⟩:=src2 i hdm b hm;exact hb.2 ⟨x'.k, .inl (ap3 h4),h5,h6⟩
 .rcases hb.1 with⟨k,h1,h2⟩|h
  .cases hdd:(ae c.S k).dim with
   |none=>exact(sq h1 hdd).elim
   |some d=>
    obtain⟨y,_,_,hy,_⟩:=hR.block hdd h2;exact hR.ok b y hy
  .exact hR.fbl b h
 .obtain⟨x,o,h1,h2,h3⟩:=sub i hi;refine⟨x,h1,hmu i x h1,λy hy=> ?_⟩;subst hy;rcases h3 with⟨_,h3⟩|⟨h3,h4,d,h5,h6,_⟩
  .rw[show ae (rz c st bs).S i=ae bs i from rfl,h3]at hi;exact(hi rfl).elim
  .refine⟨by rw[h5];simp,λhc=> ?_,λhz=>h4 (by rw[<-h3];exact hz)⟩;rw[hc]at h6;rw[h5];exact h6
 .obtain⟨i,h1,h2⟩:=hb;obtain⟨x,_,h3,h4,_⟩:=src i h1 b h2;exact⟨x.k,h3,h4⟩
 .have hi:i<bs.length:=by
   rw[<-y2];rcases Nat.lt_or_ge i sk.free.length with h|h
   .exact h
   .rw[bB h]at ho;cases ho
  have hm:i<st.m.length:=by rw[y1];exact hi
  obtain⟨o',h1,h2⟩:=y3 i _ _ (aB hm) (aB hi);rw[ho]at h1;injection h1 with h1
  subst h1;rw[show ae (rz c st bs).S i=ae bs i from rfl,ac9 (aB hi)];rcases h2 with⟨h2,_⟩|⟨h2,h3⟩
  .subst h2;cases hr
  .refine⟨h2.trans hr, ?_⟩;cases hx:st.m[i]with
   |none=>rw[hx]at h3;obtain⟨h3,_⟩:=h3;rw[h3]at hr;cases hr
   |some x=>
    obtain⟨k,cut⟩:=x;rw[hx]at h3;obtain⟨_,d,_,h4,_⟩:=h3;cases cut with
    |none=>simp only at h4;rw[h4];simp
    |some n=>simp only at h4;rw[h4];simp
end
section
open List renaming getElem?_eq_getElem -> aB, getElem?_eq_none -> aD
open Nat renaming lt_or_ge -> bB, add_sub_cancel_left -> bD
theorem cg1 : ∀{l:List Nat} {S:ai} {k:Nat},k∈l->(ae (aO4 l S) k).frozen=Za
 |[],S,k,h=>by simp at h
 |a::l,S,k,h=>by
  simp only[aO4];by_cases hk:k∈l
  .exact cg1 hk
  .have:k=a:=by
    rcases List.mem_cons.1 h with h|h
    .exact h
    .exact(hk h).elim
   subst this;rcases(zu l (qj S k (ae S k).freeze)).2 k with h1|h1
   .rw[h1,ak2];split
    .exact sV
    .rename_i hn;have: ¬k<S.length:=λe=>hn ⟨rfl,e⟩
     rw[ad0 (by omega)];rfl
   .rw[h1];exact sV
theorem dd5 {c c0 c':Ctx}{objs:List OSk}{sk:SSk}{vals vs:List VV}{as:List Value}{st st':DSt}{fs bs bs0:List Blk}{Sf:ai}(hR:ec c)(h0:c0=rz c st bs0)(hE:Entered c c0 objs st bs0)(hle:Le c0 c')(hR':ec c')
  (hcut:ch2 st.m=Za) (hok:bI3 c.S (oc objs st.m)=Za) (hnd:(ud st.m).Nodup) (hlent: ∀(i:Nat) (o:OSk) (x:Src),objs[i]?=Y o->o.ro=Za->st.m[i]?=Y (Y x)->x.k∈st.lent)
  (hro:sk.noRo=Za) (hd:uc c'.S objs.length (yy objs 0) sk vals=Y st') (he:vh (ae6 st.m objs.length c.S.length) sk st'.ls=Y (vs,fs,bs)) (hf:F2 (VRel c') vals as) (hS:ad2 (oc objs st.m) fs (aO4 st.lent c.S)=Y Sf):
  ∃ct:Ctx,ct.σ=c'.σ/\ct.S=Sf++bs/\ct.fb=c.fb/\(∀k,k<c.S.length->ct.μ k=c.μ k)/\Le c ct/\ec ct/\F2 (VRel ct) vs as/\
   (∀k,k<c.S.length->k∉oc objs st.m->(ae c.S k).dim≠Z->∀b y,c.μ k=Y b->c.σ.m b=Y y->ct.σ.m b=Y y):=by
 have hσ0:c0.σ=c.σ:=by rw[h0];rfl
 have hfb0: ∀b,c0.fb b↔(c.mut b/\¬∃k,(k∈ud st.m∨k∈st.lent)/\(ae c.S k).dim≠Z/\c.μ k=Y b):=by rw[h0];exact λb=>Iff.rfl
 have hS0:c0.S=bs0:=by rw[h0];rfl
 have hfb':c'.fb=c0.fb:=hle.fb;obtain⟨l1,l2⟩:=hE.len;obtain⟨s1,s2,s3,s4⟩:=ob hS;rw[(zu st.lent c.S).1]at s2 s4;have hfz:=zu st.lent c.S
 have pos: ∀i,i<objs.length->∃k,st.m[i]?=Y (Y ⟨k,Z⟩)/\ae6 st.m objs.length c.S.length i=k:=by
  intro i hi;have hm:i<st.m.length:=by omega
  obtain⟨k,hk⟩:=ch3 hcut i _ (aB hm);have h1:st.m[i]?=Y (Y ⟨k,Z⟩):=by rw[aB hm,hk]
  refine⟨k,h1, ?_⟩;unfold ae6;rw[show Nat.blt i objs.length=Za from Nat.ble_eq_true_of_le hi,zC,af1,h1]
 have fmap:(yy objs 0).map (ae6 st.m objs.length c.S.length)=oc objs st.m:=by
  refine cf8 l2.symm λp x hx=> ?_
  have hp:p<objs.length:=by
   rw[<-l2];rcases bB p st.m.length with h|h
   .exact h
   .rw[aD h]at hx;cases hx
  obtain⟨k,h1,h2⟩:=pos p hp;rw[hx]at h1;injection h1 with h1
  exact⟨k,h1,by rw[Nat.zero_add];exact h2⟩
 have fxlt: ∀j,j∈yy objs 0->j<objs.length/\∃o,objs[j]?=Y o/\o.ro=Zb:=by
  intro j hj;obtain⟨p,o,h1,h2,h3⟩:=bz2.1 hj;rw[Nat.zero_add]at h3;subst h3;refine⟨?_,o,h1,h2⟩;rcases bB j objs.length with h|h
  .exact h
  .rw[aD h]at h1;cases h1
 have fxw: ∀j,j∈yy objs 0->ae6 st.m objs.length c.S.length j∈oc objs st.m:=λj hj=>by rw[<-fmap];exact List.mem_map_of_mem hj
 have wfx: ∀k,k∈oc objs st.m->∃j,j∈yy objs 0/\ae6 st.m objs.length c.S.length j=k:=λk hk=>by rw[<-fmap]at hk;obtain⟨j,h1,h2⟩:=List.mem_map.1 hk;exact⟨j,h1,h2⟩
 have oth: ∀k,(∀j,j∈yy objs 0->ae6 st.m objs.length c.S.length j≠k)->k∉oc objs st.m:=λk hk h=>by obtain⟨j,h1,h2⟩:=wfx k h;exact hk j h1 h2
 let ct:Ctx:=⟨λi=>if i<c.S.length then c.μ i else match st'.m[i-c.S.length]? with
  |some x=>aD7 c' x
  |none=>Z,Sf++bs,c'.σ,c.fb⟩
 have hget: ∀k,k<c.S.length->ae ct.S k=ae Sf k:=λk hk=>sX (by rw[s2];exact hk)
 have hoth: ∀k,k<c.S.length->k∉oc objs st.m->ae ct.S k=ae (aO4 st.lent c.S) k:=λk hk hn=>by rw[hget k hk,s3 k hn]
 have own0: ∀b,c0.own b->∃k,k∈oc objs st.m/\(ae c.S k).frozen=Zb/\c.μ k=Y b:=by
  rintro b ⟨i,h1,h2⟩;obtain⟨x,h3,h4,h5⟩:=hE.sub i (sq h1);rw[h4]at h2;cases x with
  |none=>cases h2
  |some x=>
   obtain⟨h6,_,h8⟩:=h5 x rfl
   have hi:i<objs.length:=by
    rw[<-l2];rcases bB i st.m.length with h|h
    .exact h
    .rw[aD h]at h3;cases h3
   have ho:objs[i]?=Y objs[i]:=aB hi;refine⟨x.k,bw1 h3 ho ?_,h8 h1,h2⟩;cases hr:(objs[i]).ro with
   |false=>rfl
   |true=>rw[(hE.fz i _ ho hr).1]at h1;cases h1
 have nown: ∀k,k∉oc objs st.m->(ae c.S k).dim≠Z->∀b,c.μ k=Y b->¬c0.own b:=by
  intro k hk hdm b hm h;obtain⟨k',h1,h2,h3⟩:=own0 b h;have:=hR.inj k' k b h2 hdm h3 hm;subst this;exact hk h1
 have hun: ∀k,k<c.S.length->k∉oc objs st.m->(ae c.S k).dim≠Z->∀b y,c.μ k=Y b->c.σ.m b=Y y->c'.σ.m b=Y y:=λk _ hk hdm b y hm hy=>hle.un b y (by rw[hσ0];exact hy) (nown k hk hdm b hm)
 have exists_blk: ∀k b,(ae c.S k).dim≠Z->c.μ k=Y b->∃y,c.σ.m b=Y y:=by
  intro k b hdm hm;cases hdd:(ae c.S k).dim with
  |none=>exact(hdm hdd).elim
  |some d=>
   obtain⟨y,_,_,hy,_⟩:=hR.block hdd hm;exact⟨y,hy⟩
 have dimo: ∀k,k<c.S.length->k∉oc objs st.m->(ae ct.S k).dim=(ae c.S k).dim:=λk hk hn=>by rw[hoth k hk hn];exact hfz.dim k
 have notin: ∀k,k<c.S.length->k∉oc objs st.m->(ae ct.S k).frozen=Zb->∀b,c.μ k=Y b->(ae c.S k).frozen=Zb/\¬∃k',(k'∈ud st.m∨k'∈st.lent)/\(ae c.S k').dim≠Z/\c.μ k'=Y b:=by
  intro k hk hn hz b hm;rw[hoth k hk hn]at hz;have hz':(ae c.S k).frozen=Zb:=by rw[<-hfz.fz hz];exact hz
  refine⟨hz', ?_⟩;rintro⟨k',h1,h2,h3⟩;have:=hR.inj k k' b hz' h2 hm h3;subst this;have hnl:k∉st.lent:=λe=>by rw[cg1 e]at hz;cases hz
  rcases h1 with h1|h1
  .obtain⟨i,x,h4,h5⟩:=bT0 h1
   have hi:i<objs.length:=by
    rw[<-l2];rcases bB i st.m.length with h|h
    .exact h
    .rw[aD h]at h4;cases h4
   have ho:objs[i]?=Y objs[i]:=aB hi;cases hr:(objs[i]).ro with
   |true=>exact hnl (by rw[<-h5];exact hlent i _ x ho hr h4)
   |false=>exact hn (by rw[<-h5];exact bw1 h4 ho hr)
  .exact hnl h1
 have g:GT c c' ct objs.length (ae6 st.m objs.length c.S.length) (yy objs 0) sk st' fs bs:=by
  refine⟨rfl,rfl,by simp[ct,s2],λk hk hn=> ?_,λi j b hi hb=> ?_,λj hj=>(rX hok (fxw j hj)).1,λi b hb=> ?_,λi=> ?_,λk hk=>zE hk,λi x hx=> ?_,λb y hy hn=>hle.un b y (by rw[hσ0];exact hy) λe=>hn (hE.own b e),λb y hy hn=>hle.ow b y (by rw[hσ0];exact hy) λe=>hn (hE.own b e),by rw[<-hσ0];exact hle.n,λk hk hn hdm b y hm hy=> ?_,λk hk hn hdm s hs hz b hm e=> ?_,λj hj hdm=> ?_,λj hj=>(rX hok (fxw j hj)).2,
   λj j' hj hj' e=> ?_,λk b hdm hm hb=> ?_,λj hj hn=> ?_,λk hk hn hz b y hm hy=> ?_,λk hk hn hz s hs hsd b hm e=> ?_,λb hb=> ?_,λj hj=>(fxlt j hj).1,hro⟩
  .rw[hoth k hk (oth k hn)];rcases hfz.2 k with h|h
   .exact .inl h
   .exact .inr (.inl h)
  .have hj:=List.mem_of_getElem? hi;have hw:=fxw j hj;have hlt:=(rX hok hw).1;show ae ct.S _=b;rw[hget _ hlt];refine s4 (zM hnd) i _ b ?_ hb hlt;rw[<-fmap,List.getElem?_map,hi];rfl
  .show ae (Sf++bs) (c.S.length+i)=b;rw[<-s2,xx];exact ac9 hb
  .unfold ae6
   have:Nat.blt (objs.length+i) objs.length=Zb:=by
    cases hb:Nat.blt (objs.length+i) objs.length with
    |false=>rfl
    |true=>have:=Nat.le_of_ble_eq_true hb;omega
   rw[this,zD,bD]
  .show(if c.S.length+i<c.S.length then _ else _)=_;rw[zF (by omega),bD,hx]
  .exact hun k hk (oth k hn) (by rw[<-dimo k hk (oth k hn)];exact hdm) b y hm hy
  .have hdm':(ae c.S k).dim≠Z:=by rw[<-dimo k hk (oth k hn)];exact hdm
   obtain⟨y,hy⟩:=exists_blk k b hdm' e;exact hle.ow b y (by rw[hσ0];exact hy) (nown k (oth k hn) hdm' b e) ⟨s,hz,hm⟩
  .obtain⟨k,h1,h2⟩:=pos j (fxlt j hj).1;have hj0:j<c0.S.length:=by rw[hS0,l1];exact(fxlt j hj).1
   cases hdd:(ae c'.S j).dim with
   |none=>exact(hdm hdd).elim
   |some d=>
    obtain⟨h3,h4⟩:=hle.al j d hj0 hdd;obtain⟨x,h5,h6,h7⟩:=hE.sub j (by rw[h3];simp);rw[h1]at h5;injection h5 with h5
    subst h5;obtain⟨h8,h9,_⟩:=h7 _ rfl;rw[h2];refine⟨by rw[<-h9 rfl,h3],h4.trans h6,λb y hm hy=>hle.ln j d b y hj0 hdd (h6.trans hm) (by rw[hσ0];exact hy)⟩
  .obtain⟨k,h1,h2⟩:=pos j (fxlt j hj).1;obtain⟨k',h3,h4⟩:=pos j' (fxlt j' hj').1;rw[h2,h4]at e;subst e;exact bs9 hnd h1 h3 rfl
  .have h1:=hR'.fbk k b hdm hm;rw[hfb',hfb0]at h1;refine h1 ⟨.inr hb, ?_⟩;rintro⟨k',_,h3,h4⟩;exact hR.fbk k' b h3 h4 hb
  .obtain⟨k,h1,h2⟩:=pos j hj;have ho:objs[j]?=Y objs[j]:=aB hj
   have hr:(objs[j]).ro=Za:=by
    cases hr:(objs[j]).ro with
    |true=>rfl
    |false=>exact(hn (bz2.2 ⟨j,_,ho,hr,by omega⟩)).elim
   obtain⟨h3,h4⟩:=hE.fz j _ ho hr;obtain⟨x,h5,h6,h7⟩:=hE.sub j h4;rw[h1]at h5;injection h5 with h5
   subst h5;obtain⟨h8,h9,_⟩:=h7 _ rfl;simp only at h8 h9;have hkl:k<c.S.length:=sC h8
   have hkw:k∉oc objs st.m:=by
    intro hk;obtain⟨i,o,x,g1,g2,g3,g4⟩:=bc6 hk;have:=bs9 hnd g1 h1 g4;subst this;rw[ho]at g2;injection g2 with g2
    rw[g2,g3]at hr;cases hr
   have hj0:j<c0.S.length:=by rw[hS0,l1];exact hj
   have hsame:=hle.fz j h3 h4;rw[h2];refine⟨by simp only[ct,List.length_append,s2];omega,λd' hd'=> ?_⟩;rw[dimo k hkl hkw]at hd';refine⟨d',by rw[hsame,h9 trivial];exact hd',rfl, ?_,rfl⟩;show(if k<c.S.length then c.μ k else _)=_;rw[zE hkl,(hle.al j d' hj0 (by rw[hsame,h9 trivial];exact hd')).2,h6];rfl
  .obtain⟨h1,h2⟩:=notin k hk (oth k hn) hz b hm;exact .inr (by rw[hfb',hfb0];exact⟨.inl ⟨k,h1,hm⟩,h2⟩)
  .obtain⟨h1,h2⟩:=notin k hk (oth k hn) hz b e;have h3:=hR'.fbk s b hsd hm;rw[hfb',hfb0]at h3;exact h3 ⟨.inl ⟨k,h1,e⟩,h2⟩
  .refine .inr ?_;rw[hfb',hfb0];refine⟨.inr hb, ?_⟩;rintro⟨k',_,h3,h4⟩;exact hR.fbk k' b h3 h4 hb
 obtain⟨r1,r2,r3⟩:=g.all hR hR' hd he hf;exact⟨ct,rfl,rfl,rfl,λk hk=>zE hk,r1,r2,r3,hun⟩
end
section
open Bool renaming or_eq_false_iff -> bB
open List renaming getElem?_eq_getElem -> aB, getElem_mem -> aD, all_eq_true -> bD, any_eq_false -> cB, length_append -> cD
theorem bB2 : ∀{js:List Nat} {bs:List Blk} {S S1:ai},js.length=bs.length->∃S2,ad2 js bs S1=Y S2
 |[],[],_,S1,_=>⟨S1,rfl⟩
 |[],_::_,_,_,h=>by simp at h
 |_::_,[],_,_,h=>by simp at h
 |j::js,b::bs,S,S1,h=>by
  obtain⟨S2,h1⟩:=bB2 (js:=js) (bs:=bs) (S:=S) (S1:=qj S1 j b) (by simpa using h);exact⟨S2,h1⟩
theorem bR5 {f:Nat->Nat}: ∀{os:List OSk} {ls rest:List Leaf} {bs:List Blk},aO2 f os ls=Y (bs,rest)->(∀o,o∈os->o.ro=Zb)->∀b,b∈bs->b.dim≠Z->b.frozen=Zb
 |[],ls,rest,bs,h,_,b,hb,_=>by
  simp only[aO2]at h;injection h with h
  injection h with h1 h2
  subst h1;simp at hb
 |o::os,ls,rest,bs,h,hr,b,hb,hd=>by
  simp only[aO2]at h;obtain⟨p,h1,h⟩:=ag h;obtain⟨q,h2,h⟩:=ag h;injection h with h
  injection h with h3 h4
  subst h3;rcases List.mem_cons.1 hb with hb|hb
  .subst hb;have ho:=hr o List.mem_cons_self;cases o with
   |dead=>
    simp only[cc8]at h1;injection h1 with h1
    rw[<-h1]at hd;exact(hd rfl).elim
   |cells es ro l=>
    simp only[cc8]at h1;obtain⟨v,h5,h6⟩:=ag h1;injection h6 with h6
    rw[<-h6];exact ho
   |arr ro s=>
    cases ls with
    |nil=>simp[cc8]at h1
    |cons x ls=>
     simp only[cc8]at h1;obtain⟨v,h5,h6⟩:=ag h1;injection h6 with h6
     rw[<-h6];exact ho
  .exact bR5 h2 (λo ho=>hr o (List.mem_cons_of_mem _ ho)) b hb hd
theorem cA5 {f:Nat->Nat}{sk:SSk}{ls:List Leaf}{vs:List VV}{fs bs:List Blk}(h:vh f sk ls=Y (vs,fs,bs))(hr:sk.noRo=Za):(∀b,b∈fs->b.dim≠Z->b.frozen=Zb)/\∀b,b∈bs->b.dim≠Z->b.frozen=Zb:=by
 unfold SSk.noRo at hr;rw[Bool.and_eq_true,bD,bD]at hr;unfold vh at h;obtain⟨p,h1,h⟩:=ag h;obtain⟨q,h2,h⟩:=ag h;obtain⟨r,h3,h⟩:=ag h;split at h
 .injection h with h
  injection h with e1 h
  injection h with e2 e3
  subst e2;subst e3;exact⟨bR5 (rest:=q.2) h2 λo ho=>by simpa using hr.1 o ho,bR5 (rest:=r.2) h3 λo ho=>by simpa using hr.2 o ho⟩
 .cases h
theorem cy6 {vs:List VV}{fs bs:List Blk}(h:aO1 vs fs bs=Zb):alL vs=Zb/\(∀b,b∈fs->alB b=Zb)/\∀b,b∈bs->alB b=Zb:=by
 unfold aO1 at h;rw[bB,bB,cB,cB]at h;exact⟨h.1.1,λb hb=>by simpa using h.1.2 b hb,λb hb=>by simpa using h.2 b hb⟩
theorem cG0 {l:List Blk}{i:Nat}(h:(ae l i).dim≠Z):ae l i∈l:=by
 have hi:=sC h;rw[ac9 (aB hi)];exact aD hi
theorem ci4 {c ctf:Ctx}{js:List Nat}{vs:List VV}{as:List Value}{fs bs:List Blk}{Sa Sb S1 S2:ai}(hR:ec c)(hle:Le c ctf)(hRf:ec ctf)(hf:F2 (VRel ctf) vs as)(hal:aO1 vs fs bs=Zb)
  (hz1: ∀b,b∈fs->b.dim≠Z->b.frozen=Zb) (hz2: ∀b,b∈bs->b.dim≠Z->b.frozen=Zb) (hla:Sa.length=c.S.length) (hlb:Sb.length=c.S.length) (hS1:ad2 js fs Sa=Y S1) (hS2:ad2 js fs Sb=Y S2) (hjs:js.Nodup) (hjl: ∀j,j∈js->j<c.S.length)
  (hS:ctf.S=S1++bs) (hμ: ∀k,k<c.S.length->ctf.μ k=c.μ k)
  (hoth: ∀k,k<c.S.length->k∉js->(ae Sa k=ae Sb k/\((ae Sa k).dim≠Z->ae Sa k=ae c.S k))∨(ae Sb k=ae c.S k/\ae Sa k=(ae c.S k).freeze))
  (hun: ∀k,k<c.S.length->k∉js->(ae Sa k).dim≠Z->∀b y,c.μ k=Y b->c.σ.m b=Y y->ctf.σ.m b=Y y):
  Le c ⟨ctf.μ,S2++bs,ctf.σ,ctf.fb⟩/\ec ⟨ctf.μ,S2++bs,ctf.σ,ctf.fb⟩/\F2 (VRel ⟨ctf.μ,S2++bs,ctf.σ,ctf.fb⟩) vs as:=by
 obtain⟨a1,a2,a3⟩:=cy6 hal;obtain⟨p1,p2,p3,p4⟩:=ob hS1;obtain⟨q1,q2,q3,q4⟩:=ob hS2;refine thaw hR hle hRf hf a1 (by rw[hS,cD,cD,p2,q2,hla,hlb]) hμ λk=> ?_
 by_cases hk:k<c.S.length
 .have g1:ae (S2++bs) k=ae S2 k:=sX (by rw[q2,hlb];exact hk);have g2:ae ctf.S k=ae S1 k:=by rw[hS];exact sX (by rw[p2,hla];exact hk)
  by_cases hj:k∈js
  .obtain⟨i,hi,e⟩:=List.mem_iff_getElem.1 hj;have hi':i<fs.length:=by rw[<-p1];exact hi
   have e1:=p4 hjs i k _ (by rw[aB hi,e]) (aB hi') (by rw[hla];exact hk);have e2:=q4 hjs i k _ (by rw[aB hi,e]) (aB hi') (by rw[hlb];exact hk);refine .inl ⟨by rw[g1,g2,e1,e2],λhdm=> .inl ?_⟩;rw[g2,e1]at hdm⊢;exact⟨hz1 _ (aD hi') hdm,a2 _ (aD hi')⟩
  .rw[g1,g2,q3 k hj,p3 k hj];rcases hoth k hk hj with⟨h1,h2⟩|⟨h1,h2⟩
   .exact .inl ⟨h1.symm,λhdm=> .inr ⟨hk,h2 hdm,hun k hk hj hdm⟩⟩
   .exact .inr ⟨hk,h1,h2,λhdm=>hun k hk hj (by rw[h2,gb];exact hdm)⟩
 .have h1:k=c.S.length+(k-c.S.length):=by omega
  have g1:ae (S2++bs) k=ae bs (k-c.S.length):=by
   rw[h1,<-hlb,<-q2,xx]
   congr 1
   omega
  have g2:ae ctf.S k=ae bs (k-c.S.length):=by
   rw[hS,h1,<-hla,<-p2,xx]
   congr 1
   omega
  refine .inl ⟨by rw[g1,g2],λhdm=> .inl ?_⟩;rw[g2]at hdm⊢;exact⟨hz2 _ (cG0 hdm) hdm,a3 _ (cG0 hdm)⟩
theorem bV0 {c c0 c':Ctx}{objs:List OSk}{sk:SSk}{vals vs:List VV}{as:List Value}{st st':DSt}{fs bs bs0:List Blk}{S2:ai}(hR:ec c)(h0:c0=rz c st bs0)(hE:Entered c c0 objs st bs0)(hle:Le c0 c')(hR':ec c')
  (hcut:ch2 st.m=Za) (hok:bI3 c.S (oc objs st.m)=Za) (hnd:(ud st.m).Nodup) (hlent: ∀(i:Nat) (o:OSk) (x:Src),objs[i]?=Y o->o.ro=Za->st.m[i]?=Y (Y x)->x.k∈st.lent)
  (hro:sk.noRo=Za) (hd:uc c'.S objs.length (yy objs 0) sk vals=Y st') (he:vh (ae6 st.m objs.length c.S.length) sk st'.ls=Y (vs,fs,bs)) (hf:F2 (VRel c') vals as)
  (hS:ad2 (oc objs st.m) fs (cond (aO1 vs fs bs) (aO4 st.lent c.S) c.S)=Y S2):
  ∃ct:Ctx,ct.σ=c'.σ/\ct.S=S2++bs/\Le c ct/\ec ct/\F2 (VRel ct) vs as/\zY (oc objs st.m) c ct:=by
 obtain⟨q1,q2,q3,q4⟩:=ob hS;obtain⟨Sf,hSf⟩:=bB2 (S:=c.S) (S1:=aO4 st.lent c.S) q1;obtain⟨ct,e1,e2,e3,e4,e5,e6,e7,e8⟩:=dd5 hR h0 hE hle hR' hcut hok hnd hlent hro hd he hf hSf
 have calm: ∀ct':Ctx,ct'.σ=ct.σ->(∀k,(ae ct'.S k).dim=(ae ct.S k).dim)->zY (oc objs st.m) c ct':=by
  intro ct' h1 h2 k hk hn hdm;obtain⟨_,p2,p3,_⟩:=ob hSf;have hl:(aO4 st.lent c.S).length=c.S.length:=(zu st.lent c.S).1;refine⟨?_,λb hm=> ?_⟩
  .rw[h2,e2,sX (by rw[p2,hl];exact hk),p3 k hn,(zu st.lent c.S).dim];exact hdm
  .cases hdd:(ae c.S k).dim with
   |none=>exact(hdm hdd).elim
   |some d=>
    obtain⟨y,_,_,hy,_⟩:=hR.block hdd hm;rw[hy,h1];exact e8 k hk hn hdm b y hm hy
 cases hal:aO1 vs fs bs with
 |true=>
  rw[hal,zC,hSf]at hS;injection hS with hS
  subst hS;exact⟨ct,e1,e2,e5,e6,e7,calm ct rfl λ_=>rfl⟩
 |false=>
  rw[hal,zD]at hS;obtain⟨z1,z2⟩:=cA5 he hro;have hfz:=zu st.lent c.S
  obtain⟨r1,r2,r3⟩:=ci4 hR e5 e6 e7 hal z1 z2 hfz.1 rfl hSf hS (zM hnd) (λj hj=>(rX hok hj).1) e2 e4 (λk hk hn=>by
   rcases hfz.2 k with h|h
   .exact .inl ⟨h,λ_=>h⟩
   .exact .inr ⟨rfl,h⟩) (λk hk hn hdm=>e8 k hk hn (by rw[<-hfz.dim];exact hdm))
  refine⟨⟨ct.μ,S2++bs,ct.σ,ct.fb⟩,e1,rfl,r1,r2,r3,calm _ rfl λk=> ?_⟩;obtain⟨_,p2,p3,p4⟩:=ob hSf;rw[e2];show(ae (S2++bs) k).dim=(ae (Sf++bs) k).dim;by_cases hk:k<c.S.length
  .rw[sX (S:=S2) (by rw[q2,hal];exact hk),sX (S:=Sf) (by rw[p2,hfz.1];exact hk)];by_cases hw:k∈oc objs st.m
   .obtain⟨i,hi,e⟩:=List.mem_iff_getElem.1 hw;have hi':i<fs.length:=by rw[<-q1];exact hi
    obtain⟨_,_,_,t4⟩:=ob hS
    rw[t4 (zM hnd) i k _ (by rw[aB hi,e]) (aB hi') hk,
     p4 (zM hnd) i k _ (by rw[aB hi,e]) (aB hi') (by rw[hfz.1];exact hk)]
   .obtain⟨_,_,t3,_⟩:=ob hS;rw[t3 k hw,p3 k hw,hfz.dim]
  .have h1:k=c.S.length+(k-c.S.length):=by omega
   have g1:ae (S2++bs) k=ae bs (k-c.S.length):=by
    obtain⟨_,t2,_,_⟩:=ob hS;rw[h1,<-t2,xx]
    congr 1
    omega
   have g2:ae (Sf++bs) k=ae bs (k-c.S.length):=by
    rw[h1,<-hfz.1,<-p2,xx]
    congr 1
    omega
   rw[g1,g2]
theorem dD4 {c c1 c':Ctx}{fx mov:List Nat}{sk:SSk}{vals vs:List VV}{as:List Value}{st:DSt}{fs bs:List Blk}{S2:ai}(hR:ec c)(hR':ec c')(hw:Within c c1 fx mov)(hR1:ec c1)(hle:Le c1 c')
  (hok:bI3 c.S fx=Za) (hro:sk.noRo=Za) (hd:uc c'.S c.S.length fx sk vals=Y st) (he:vh id sk st.ls=Y (vs,fs,bs)) (hf:F2 (VRel c') vals as) (hS:ad2 fx fs (nj fx mov (aO1 vs fs bs) 0 c.S)=Y S2):
  ∃ct:Ctx,ct.σ=c'.σ/\ct.S=S2++bs/\Le c ct/\ec ct/\F2 (VRel ct) vs as:=by
 obtain⟨q1,q2,q3,q4⟩:=ob hS;obtain⟨Sf,hSf⟩:=bB2 (S:=c.S) (S1:=nj fx mov Za 0 c.S) q1;obtain⟨ct,e1,e2,e3,e4,e5,e6,e7,e8⟩:=dL6 hR hR' hw hR1 hle hok hro hd he hf hSf;cases hal:aO1 vs fs bs with
 |true=>
  rw[hal,hSf]at hS;injection hS with hS
  subst hS;exact⟨ct,e1,e2,e5,e6,e7⟩
 |false=>
  rw[hal]at hS;obtain⟨z1,z2⟩:=cA5 he hro;obtain⟨ap1,_⟩:=vg hd;have hnd:=vd ap1;rw[List.nodup_append]at hnd;obtain⟨_,p2,p3,_⟩:=ob hSf;rw[sm]at p2
  obtain⟨r1,r2,r3⟩:=ci4 hR e5 e6 e7 hal z1 z2 sm sm hSf hS hnd.1 (λj hj=>(rX hok hj).1) e2 e4 (λk hk hn=>by
   rw[sj hk,sj hk,Nat.zero_add,nk hn];cases sA k mov with
   |true=>
    refine .inl ⟨rfl,λh=> ?_⟩;cases hz:(ae c.S k).frozen with
    |true=>rfl
    |false=>rw[hz]at h;exact(h rfl).elim
   |false=>exact .inr ⟨rfl,rfl⟩) (λk hk hn hdm=>(e8 k hk hn (by rw[e2,sX (by rw[p2];exact hk),p3 k hn];exact hdm)).2)
  exact⟨⟨ct.μ,S2++bs,ct.σ,ct.fb⟩,e1,rfl,r1,r2,r3⟩
end
section
open List renaming mem_cons_of_mem -> aB, mem_cons_self -> aD
open Nat renaming eq_of_beq_eq_true -> bB
def di6 (l:List Alt)(s:ac1 l):Option (Σ a:Alt,a.Ty):=di5 l s λa u=>Y ⟨a,u⟩
theorem cp2 {β:Type}: ∀(l:List Alt) (s:ac1 l) (k:(a:Alt)->a.Ty->Option β),di5 l s k=(di6 l s).bind λp=>k p.1 p.2
 |[],_,_=>rfl
 |[a],t,k=>rfl
 |a::b::r, .inl t,k=>rfl
 |a::b::r, .inr s,k=>cp2 (b::r) s k
def FSum.spec (F:FSum):Ab.bx9:=λargs σ K=> ∃(c:Ctx) (vals:List VV) (st:DSt) (t:Tup F.ins.shs) (o:ac1 F.outs) (p:Σ a:Alt,a.Ty) (v:VV) (fs bs:List Blk) (S':ai),
 c.σ=σ/\ec c/\F2 (VRel c) vals args/\uc c.S 0 [] F.ins vals=Y st/\ofL F.ins.shs st.ls=Y t/\ch2 st.m=Za/\bI3 c.S (oc F.objs st.m)=Za/\F.run t=Y o/\di6 F.outs o=Y p/\
 vh (ae6 st.m F.objs.length c.S.length) p.1.sk (toL p.1.sk.shs p.2)=Y ([v],fs,bs)/\ad2 (oc F.objs st.m) fs (cond (aO1 [v] fs bs) (aO4 st.lent c.S) c.S)=Y S'/\
 ∀r σ',(∃ct:Ctx,ct.σ=σ'/\ct.S=S'++bs/\Le c ct/\ec ct/\VRel ct v r/\zY (oc F.objs st.m) c ct)->K r σ'
theorem FSum.mono (F:FSum):bC7 F.spec:=by
 rintro args σ K K' hk ⟨c,vals,st,t,o,p,v,fs,bs,S',h1,h2,h3,h4,h5,h6,h7,h8,h9,h10,h11,h12⟩;exact⟨c,vals,st,t,o,p,v,fs,bs,S',h1,h2,h3,h4,h5,h6,h7,h8,h9,h10,h11,λr σ' h=>hk r σ' (h12 r σ' h)⟩
def Inl.spec (I:Inl):Ab.bx9:=λargs σ K=> ∃(β:Type) (y:β) (c:Ctx) (vals:List VV) (k:VV->ai->Option β),c.σ=σ/\ec c/\F2 (VRel c) vals args/\I.run β vals c.S k=Y y/\∀r σ',mp c (bP9 c.S.length) k y r σ'->K r σ'
theorem Inl.mono (I:Inl):bC7 I.spec:=by
 rintro args σ K K' hk ⟨β,y,c,vals,k,h1,h2,h3,h4,h5⟩;exact⟨β,y,c,vals,k,h1,h2,h3,h4,λr σ' h=>hk r σ' (h5 r σ' h)⟩
def ip (tab:Tab):Ab.gr:=λf args σ K=>(∃F,F∈tab.fs/\F.f=f/\F.spec args σ K)∨∃I,I∈tab.is/\I.f=f/\I.spec args σ K
theorem bq (tab:Tab):xe (ip tab):=by
 rintro f args σ K K' hk (⟨F,h1,h2,h3⟩|⟨F,h1,h2,h3⟩)
 .exact .inl ⟨F,h1,h2,F.mono args σ K K' hk h3⟩
 .exact .inr ⟨F,h1,h2,F.mono args σ K K' hk h3⟩
def an6 (P:Program)(F:FSum):Prop:=Sim P F.f F.spec
def cK3 (P:Program)(I:Inl):Prop:=Sim P I.f I.spec
def lx (P:Program)(tab:List FSum):Prop:= ∀F,F∈tab->an6 P F
def aa (P:Program)(is:List Inl):Prop:= ∀I,I∈is->cK3 P I
theorem aa.nil (P:Program):aa P []:=λF h=>by cases h
theorem aa.cons {P:Program}{F:Inl}{tab:List Inl}(h:cK3 P F)(ht:aa P tab):aa P (F::tab):=λG hG=>by
 rcases List.mem_cons.1 hG with rfl|hG
 .exact h
 .exact ht G hG
theorem lx.nil (P:Program):lx P []:=λF h=>by cases h
theorem lx.cons {P:Program}{F:FSum}{tab:List FSum}(h:an6 P F)(ht:lx P tab):lx P (F::tab):=λG hG=>by
 rcases List.mem_cons.1 hG with rfl|hG
 .exact h
 .exact ht G hG
theorem lx.app {P:Program}{a b:List FSum}(h:lx P a)(k:lx P b):lx P (a++b):=λG hG=>by
 rcases List.mem_append.1 hG with hG|hG
 .exact h G hG
 .exact k G hG
theorem bb6 {P:Program}{tab:Tab}(h:lx P tab.fs)(h':aa P tab.is)(f:FuncId):Sim P f (ip tab f):=by
 rintro B μ σ w args cargs K (⟨F,h1,h2,h3⟩|⟨F,h1,h2,h3⟩) hR ha
 .subst h2;exact h F h1 B μ σ w args cargs K h3 hR ha
 .subst h2;exact h' F h1 B μ σ w args cargs K h3 hR ha
theorem cz7 {β:Type}{c:Ctx}{k:VV->ai->Option β}{y:β}{f:Nat}{args:List VV}{as:List Value}(hR:ec c)(hf:F2 (VRel c) args as): ∀{tab:List FSum},bQ9 tab f args c.S k=Y y->(λf args σ K=> ∃F,F∈tab/\F.f=f/\F.spec args σ K:Ab.gr) f as c.σ (mp c (zr tab f args c.S) k y)
 |[],h=>by cases h
 |F::r,h=>by
  have next:bQ9 r f args c.S k=Y y->zr (F::r) f args c.S=zr r f args c.S->(λf args σ K=> ∃G,G∈F::r/\G.f=f/\G.spec args σ K:Ab.gr) f as c.σ (mp c (zr (F::r) f args c.S) k y):=by
   intro h1 h2;obtain⟨G,h3,h4,h5⟩:=cz7 hR hf h1;rw[h2];exact⟨G,aB _ h3,h4,h5⟩
  simp only[bQ9]at h;cases hb:Nat.beq F.f f with
  |false=>
   rw[hb,zD]at h;exact next h (by simp only[zr,hb,zD])
  |true=>
   rw[hb,zC]at h;cases hd:uc (aZ7 F.vals args c.S) 0 [] F.ins args with
   |none=>
    rw[hd]at h;exact next h (by simp only[zr,hb,zC,hd])
   |some st=>
    rw[hd]at h;simp only at h;cases ht:ofL F.ins.shs st.ls with
    |none=>
     rw[ht]at h;exact next h (by simp only[zr,hb,zC,hd,ht])
    |some t=>
     rw[ht]at h;simp only at h;obtain⟨h1,h2⟩:=au h;rw[Bool.and_eq_true]at h1;have hdirty:zr (F::r) f args c.S=oc F.objs st.m:=by simp only[zr,hb,zC,hd,ht]
     rw[hdirty];unfold dK8 at h2;obtain⟨o,h3,h4⟩:=ag h2;rw[cp2]at h4;obtain⟨p,h5,h6⟩:=ag h4;have hfz:=bS2 F.vals args c.S;split at h6
     .rename_i v fs bs he;split at h6
      .rename_i S' hS;refine⟨F,aD,bB hb,⟨c.μ,aZ7 F.vals args c.S,c.σ,c.fb⟩,args,st,t,o,p,v,fs,bs,S',rfl,hfz.rel hR,VRel.frames hfz.le hf,hd,ht,h1.1,h1.2,h3,h5,he,hS, ?_⟩;rintro rv σ' ⟨ct,e1,e2,e3,e4,e5,e6⟩;exact⟨v,ct,e1,hfz.le.trans e3,e4,(hfz.calm _).trans e6 hfz.le,e5,by rw[e2];exact h6⟩
      .cases h6
     .cases h6
theorem cz8 {β:Type}{c:Ctx}{k:VV->ai->Option β}{y:β}{f:Nat}{args:List VV}{as:List Value}(hR:ec c)(hf:F2 (VRel c) args as): ∀{is:List Inl},cT0 is f args c.S k=Y y->∃I,I∈is/\I.f=f/\I.spec as c.σ (mp c (bP9 c.S.length) k y)
 |[],h=>by cases h
 |I::r,h=>by
  simp only[cT0]at h;cases hb:Nat.beq I.f f with
  |false=>
   rw[hb,zD]at h;obtain⟨J,h1,h2,h3⟩:=cz8 hR hf h;exact⟨J,aB _ h1,h2,h3⟩
  |true=>
   rw[hb,zC]at h;exact⟨I,aD,bB hb,β,y,c,args,k,rfl,hR,hf,h,λr σ' h=>h⟩
theorem cz9 {β:Type}{c:Ctx}{k:VV->ai->Option β}{y:β}{f:Nat}{args:List VV}{as:List Value}(hR:ec c)(hf:F2 (VRel c) args as){tab:Tab}(h:cT1 tab f args c.S k=Y y):ip tab f as c.σ (mp c (cq5 tab f args c.S) k y):=by
 unfold cT1 at h;unfold cq5;cases hb:dC7 tab.is f with
 |false=>
  rw[hb,zD]at h;rw[zD];exact .inl (cz7 hR hf h)
 |true=>
  rw[hb,zC]at h;rw[zC];exact .inr (cz8 hR hf h)
theorem bs3 {β:Type}{tab:Tab}{c:Ctx}{e:cz}{ea:cb}{k:VV->ai->Option β}{y:β}(hR:ec c)(he:az c e ea){op:AOp}(h:bR6 tab op e c.S k=Y y):br (ip tab) op ea c.σ (mp c (bs2 tab op e c.S) k y):=by
 cases op<;>simp only[bR6]at h
 case move x=>exact dE2 hR he h
 case pick t a b=>
  split at h
  .rename_i p hp;exact dG0 hR he hp h
  .cases h
 case alloc es z=>exact di4 hR h
 case box es x=>exact dP1 hR he h
 case build z ps=>
  split at h
  .rename_i cs hc;exact dk0 hR he hc h
  .cases h
 case buildSlice es ln z ps=>
  split at h
  .rename_i cs hc;exact cc4 hR he hc h
  .cases h
 case load x=>exact dD5 hR he h
 case loadN n x=>exact do6 hR he h
 case store n a x=>exact dv3 hR he (λq hq=>bR3 _ hq) h
 case nilCheck x=>exact cC8 hR he h
 case bin op x z=>exact dO9 hR he h
 case eqv kd neg x z=>
  split at h
  .rename_i p hp;exact dP8 hR he hp h
  .cases h
 case eqCells neg ks x z=>
  split at h
  .rename_i a b h1 h2;split at h
   .rename_i p hp;exact cM9 hR he h1 h2 hp h
   .cases h
  .cases h
 case un op x=>exact eb7 hR he h
 case conv kd x=>
  split at h
  .rename_i n hn;exact dA5 hR he hn h
  .cases h
 case mkFunc f a b=>exact dd7 hR he h
 case makeSlice es bytes z l m=>exact dE0 hR he h
 case slice es x lo hi=>exact du8 hR he h
 case sliceArr es n x lo hi=>exact cG4 hR he h
 case off n x=>exact dS0 hR he h
 case idx es x i=>exact dQ4 hR he h
 case idxA ln es x i=>exact dD1 hR he h
 case fieldV o n agg x=>
  split at h
  .rename_i cs hc;exact dc2 hR he hc h
  .cases h
 case indexV ln es agg x i=>
  split at h
  .rename_i cs kd i h1 h2;exact dd2 hR he h1 h2 h
  .cases h
 case indexS x i=>
  split at h
  .rename_i l kd i h1 h2;exact dd1 hR he h1 h2 h
  .cases h
 case extract x i=>
  split at h
  .rename_i vs hc;exact cN1 hR he hc h
  .cases h
 case call f xs=>exact cz9 hR (bJ6 he xs) h
 case callv x xs=>
  have hx:=bt he x;split at h
  .rename_i f a b hv;rw[hv]at hx
   have: ∃a' b',ea.ev x= .func (.func f) a' b'/\F2 (VRel c) a a'.toList/\F2 (VRel c) b b'.toList:=by
    generalize ea.ev x=xa at hx;cases hx;exact⟨_,_,rfl,by assumption,by assumption⟩
   obtain⟨a',b',h1,h2,h3⟩:=this;have:=cz9 hR ((h2.append (bJ6 he xs)).append h3) h;simp only[br,h1,bs2,hv];exact this
  .cases h
 case append es bytes s x=>exact cK6 hR he (λq hq=>bR3 _ hq) h λh=>da4 hR he (λq hq=>bR3 _ hq) h
 case stuck=>cases h
 case capN x=>
  split at h
  .rename_i hx;exact dA0 hR he hx h
  .cases h
 case sliceX x hi mx=>exact df2 hR he h
 case appendZ es bytes z s x=>exact cK7 hR he (λq hq=>bR3 _ hq) h
 case copy es s x=>exact dA6 hR he (λq hq=>bR3 _ hq) h
 case len x=>
  split at h
  .cases h
  .rename_i hns;split at h
   .rename_i n hn;exact dR1 hR he hns hn h
   .cases h
 case lenC n=>exact bz rfl (mp.same hR (.int _ _) h)
 case most x z=>
  split at h
  .rename_i kd a kd' b h1 h2;exact dE1 hR he h1 h2 h
  .cases h
 case least x z=>
  split at h
  .rename_i kd a kd' b h1 h2;exact dn9 hR he h1 h2 h
  .cases h
end
section
open Bool renaming and_eq_true -> aD, or_eq_true -> cD
open List renaming mem_cons_of_mem -> cB, map_congr_left -> fB
open Nat renaming beq -> aB, eq_of_beq_eq_true -> bB, lt_of_lt_of_le -> bD, beq_refl -> dB, le_of_ble_eq_true -> dD, le_refl -> eD
def xf {β:Type}(c:Ctx)(k:cz->ai->Option β)(y:β):cb->Hp->Prop:=λea σ'=> ∃e' c',c'.σ=σ'/\Le c c'/\ec c'/\az c' e' ea/\k e' c'.S=Y y
theorem xf.of {β:Type}{c c1:Ctx}{k:cz->ai->Option β}{y:β}(h:Le c c1){ea:cb}{σ':Hp}(hp:xf c1 k y ea σ'):xf c k y ea σ':=by
 obtain⟨e',c',h1,h2,h3⟩:=hp;exact⟨e',c',h1,h.trans h2,h3⟩
def xA {β:Type}(c:Ctx)(k:AExit->cz->ai->Option β)(y:β):AExit->cb->Hp->Prop:=λx=>xf c (k x) y
section
variable {β:Type} {tab:Tab} {y:β}
theorem bR7 : ∀{ops:List AOper} {c:Ctx} {e:cz} {ea:cb} {k:cz->ai->Option β},ec c->az c e ea->aZ3 tab ops e c.S k=Y y->Ab.aq2 (ip tab) (xf c k y) ops ea c.σ
 |[],c,e,ea,k,hR,he,h=>⟨e,c,rfl,Le.refl c,hR,he,h⟩
 |o::r,c,e,ea,k,hR,he,h=>by
  have step: ∀e1,az c e1 ea->bR6 tab o.op e1 c.S (λv S'=>aZ3 tab r (putO e1 o.dst v) S' k)=Y y->br (ip tab) o.op ea c.σ λv σ'=>Ab.aq2 (ip tab) (xf c k y) r (ea.putO o.dst v) σ':=by
   intro e1 he1 h1;refine tY (bq tab) (λv σ' hv=> ?_) (bs3 hR he1 h1);obtain⟨vv,c',h2,h3,h4,_,h6,h7⟩:=hv;subst h2;exact Ab.aN2 (bq tab) (λea' σ'' hp=>hp.of h3) _ _ _ (bR7 h4 ((he1.frame h3).putO h6) h7)
  have skip: ∀e1,az c e1 ea->aZ3 tab r (putO e1 o.dst (.tup [])) c.S k=Y y->Ab.aq2 (ip tab) (xf c k y) r (ea.putO o.dst undef) c.σ:=λe1 he1 h1=>bR7 hR (he1.putO (.tup .nil)) h1
  simp only[aZ3]at h;simp only[Ab.aq2];split at h
  .rename_i hg;have:wanted o ea=Za:=by simp only[wanted,hg]
   rw[zE this];exact step e he h
  .rename_i t w hg;split at h
   .rename_i p hp;have ht:=he t;rw[hp]at ht;have ht:=ht.bool_inv;have hw:wanted o ea=(p==w):=by simp only[wanted,hg,ht]
    have hput:az c (vI e t (.bool p)) ea:=by
     have:=he.put (d:=t) (VRel.bool (c:=c) p);intro i;have h1:=this i;unfold cb.put at h1;by_cases hi:i=t
     .rw[zE hi]at h1;subst hi;rw[ht];exact h1
     .rw[zF hi]at h1;exact h1
    rw[hw];cases p<;>cases w<;>simp only[zC,zD]at h
    .rw[zE (by decide)];exact step _ hput h
    .rw[zF (by decide)];exact skip _ hput h
    .rw[zF (by decide)];exact skip _ hput h
    .rw[zE (by decide)];exact step _ hput h
   .rename_i hp;have ht:=he t;rw[hp]at ht
    have hw:wanted o ea=Zb:=by
     simp only[wanted,hg];generalize ea t=u at ht;cases ht;rfl
    rw[hw,zF (by decide)];exact skip _ he h
   .cases h
def di0 :Value->Option Nat
 | .pointer (Y a)=>Y a.block
 | .slice (Y a) _ _=>Y a.block
 |_=>Z
def aT9 :AOp->Operand
 | .load x| .loadN _ x| .sliceArr _ _ x _ _| .slice _ x _ _=>x
 |_=> .global 0
theorem bT2 {op:AOp}{ea:cb}{σ σ1 σ':Hp}{v:Value}(hl:op.isLoad=Za)(h:op.run ea σ=Y (v,σ1))(hd: ∀b,di0 (ea.ev (aT9 op))=Y b->σ'.m b=σ.m b):op.run ea σ'=Y (v,σ'):=by
 cases op<;>try(cases hl;done)
 case load x=>
  simp only[AOp.run,aT9]at h hd⊢;split at h
  .rename_i b o hx;rw[hx]at hd;rw[hd b rfl];split at h
   .rename_i blk hb;cases hc:blk.cells[o]? with
    |none=>rw[hc]at h;cases h
    |some u=>
     rw[hc]at h;injection h with h
     injection h with h1 h2
     subst h1;rfl
   .cases h
  .cases h
 case loadN n x=>
  simp only[AOp.run,aT9]at h hd⊢;split at h
  .rename_i b o hx;rw[hx]at hd;rw[hd b rfl];split at h
   .rename_i blk hb;cases hc:vk blk o n with
    |none=>rw[hc]at h;cases h
    |some u=>
     rw[hc]at h;injection h with h
     injection h with h1 h2
     subst h1;rfl
   .cases h
  .cases h
 case slice es x lo hi=>
  cases lo with
  |none=>cases hl
  |some l=>
   simp only[AOp.run,aT9]at h hd⊢;split at h
   .rename_i a ln cap hx;rw[hx]at hd
    have hm:az2 σ' es a (Y l)=az2 σ es a (Y l):=by
     cases a with
     |none=>rfl
     |some a=>simp only[az2];rw[hd a.block rfl]
    rw[hm];cases hc:(cap==0||az2 σ es a (Y l))with
    |false=>rw[hc]at h;simp at h
    |true=>
     rw[hc,zE rfl]at h;rw[zE rfl];split at h
     .split at h
      .injection h with h
       injection h with h1 h2
       subst h1;rfl
      .cases h
     .cases h
   .cases h
 case sliceArr es n x lo hi=>
  simp only[AOp.run,aT9]at h hd⊢;split at h
  .rename_i b o hx;rw[hx]at hd;rw[hd b rfl];split at h
   .rename_i blk hb;split at h
    .rename_i hc;rw[zE hc];split at h
     .split at h
      .split at h
       .rename_i hlt;injection h with h
        injection h with h1 h2
        subst h1;rw[zE hlt]
       .cases h
      .cases h
     .cases h
    .cases h
   .cases h
  .cases h
theorem do7 {op:AOp}{ea:cb}{σ σ1:Hp}{v:Value}{q:Option Addr}(hl:op.isLoad=Za)(hx:ea.ev (aT9 op)= .slice q 0 0)(h:op.run ea σ=Y (v,σ1))(σ':Hp):op.run ea σ'=Y (v,σ'):=by
 cases op<;>try(cases hl;done)
 case load x=>
  simp only[aT9]at hx;simp only[AOp.run,hx]at h;cases h
 case loadN n x=>
  simp only[aT9]at hx;simp only[AOp.run,hx]at h;cases h
 case slice es x lo hi=>
  simp only[aT9]at hx;simp only[AOp.run,hx,beq_self_eq_true,Bool.true_or,if_true]at h⊢;split at h
  .split at h
   .injection h with h
    injection h with h1 h2
    subst h1;rfl
   .cases h
  .cases h
 case sliceArr es n x lo hi=>
  simp only[aT9]at hx;simp only[AOp.run,hx]at h;cases h
def bl7 (c:Ctx)(p:Hp->Prop):Option (Option Nat)->Prop
 |none=>True
 |some Z=>p c.σ/\∀σ',(∀b y,c.σ.m b=Y y->¬c.mut b->σ'.m b=Y y)->p σ'
 |some (Y q)=>(ae c.S q).dim≠Z/\p c.σ/\∀σ',(∀b,c.μ q=Y b->σ'.m b=c.σ.m b)->p σ'
inductive ChkRel (c:Ctx):List (Nat×(Hp->Prop))->Chk->Prop where
 |nil:ChkRel c [] []
 |cons {i:Nat} {p:Hp->Prop} {s:Option (Option Nat)} {l:List (Nat×(Hp->Prop))} {m:Chk}:bl7 c p s->ChkRel c l m->ChkRel c ((i,p)::l) ((i,s)::m)
theorem bl7.now {c:Ctx}{p:Hp->Prop}{s:Option Nat}(h:bl7 c p (Y s)):p c.σ:=by
 cases s with
 |none=>exact h.1
 |some q=>exact h.2.1
theorem bl7.next {c c':Ctx}{p:Hp->Prop}{d:List Nat}(hl:Le c c')(hc:zY d c c'): ∀{s:Option (Option Nat)},bl7 c p s->bl7 c' p (match s with
  |some (Y q)=>cond (sA q d) Z (Y (Y q))
  |s=>s)
 |none,_=>trivial
 |some Z,h=>by
  refine⟨h.2 _ λb y hy hn=>(hl.rd b y hy hn).1,λσ' hσ=>h.2 σ' λb y hy hn=> ?_⟩;obtain⟨h1,h2⟩:=hl.rd b y hy hn;exact hσ b y h1 h2
 |some (Y q),h=>by
  cases hm:sA q d with
  |true=>
   show bl7 c' p (cond (sA q d) Z (Y (Y q)));rw[hm];exact trivial
  |false=>
   show bl7 c' p (cond (sA q d) Z (Y (Y q)));rw[hm];obtain⟨h1,h2,h3⟩:=h;have hq:q∉d:=λe=>by rw[pv.2 e]at hm;cases hm
   obtain⟨h4,h5⟩:=hc q (sC h1) hq h1
   have hmu:c'.μ q=c.μ q:=by
    cases hdd:(ae c'.S q).dim with
    |none=>exact(h4 hdd).elim
    |some dd=>exact(hl.al q dd (sC h1) hdd).2
   exact⟨h4,h3 _ h5,λσ' hσ=>h3 σ' λb hb=>by rw[hσ b (by rw[hmu];exact hb),h5 b hb]⟩
theorem ChkRel.next {c c':Ctx}{d:List Nat}(hl:Le c c')(hc:zY d c c'): ∀{l:List (Nat×(Hp->Prop))} {m:Chk},ChkRel c l m->ChkRel c' l (bI9 d m)
 |_,_, .nil=> .nil
 |_,_, .cons (s:=s) h1 h2=>by
  have h3:=h1.next hl hc
  have h4:=ChkRel.next hl hc h2
  cases s with
  |none=>exact .cons h3 h4
  |some s=>
   cases s with
   |none=>exact .cons h3 h4
   |some q=>exact .cons h3 h4
theorem aq1 : ∀m:Chk,bI9 [] m=m
 |[]=>rfl
 |(i,Z)::r=>by simp only[bI9,aq1 r]
 |(i,Y Z)::r=>by simp only[bI9,aq1 r]
 |(i,Y (Y q))::r=>by simp only[bI9,aq1 r,sA,zD]
theorem bn8 {c:Ctx}{is:List Nat}: ∀{l:List (Nat×(Hp->Prop))} {m:Chk},ChkRel c l m->rY is m=Za->aj2 is c.σ l
 |_,_, .nil,_=>trivial
 |_,_, .cons (i:=i) (s:=s) h1 h2,h=>by
  simp only[rY]at h;simp only[aj2]
  have hc:is.contains i=sA i is:=by
   cases hm:sA i is with
   |true=>simpa using pv.1 hm
   |false=>
    cases hh:is.contains i with
    |false=>rfl
    |true=>
     have:i∈is:=by simpa using hh
     rw[pv.2 this]at hm;cases hm
  rw[hc];cases hm:sA i is with
  |false=>
   rw[hm,zD]at h;rw[zF (by decide)];exact bn8 h2 h
  |true=>
   rw[hm,zC]at h;rw[zE rfl];cases s with
   |none=>cases h
   |some s=>exact⟨h1.now,bn8 h2 h⟩
theorem ce3 {c:Ctx}{e:cz}{ea:cb}{op:AOp}{v:Value}{σ1:Hp}(hR:ec c)(he:az c e ea)(hl:op.isLoad=Za)(h:op.run ea c.σ=Y (v,σ1)):bl7 c (λσ'=>op.run ea σ'=Y (v,σ')) (dz7 c.S op e):=by
 have hx:=bt he (aT9 op);have hself:op.run ea c.σ=Y (v,c.σ):=bT2 hl h λ_ _=>rfl
 have key:bl7 c (λσ'=>op.run ea σ'=Y (v,σ')) (di9 c.S (ev e (aT9 op))):=by
  generalize ev e (aT9 op)=xv at*
  have blkcase: ∀q,ao0 xv=Y q->(∀b,di0 (ea.ev (aT9 op))=Y b->(ae c.S q).dim≠Z->c.μ q=Y b)->bl7 c (λσ'=>op.run ea σ'=Y (v,σ')) (cond (ae c.S q).live (Y (Y q)) Z):=by
   intro q hq hb;cases hlv:(ae c.S q).live with
   |false=>trivial
   |true=>
    obtain⟨dm,hdm⟩:=yz hlv;exact⟨by rw[hdm];simp,hself,λσ' hσ=>bT2 hl h λb hbb=>hσ b (hb b hbb (by rw[hdm];simp))⟩
  have novalue:(∀b,di0 (ea.ev (aT9 op))=Y b->∃y,c.σ.m b=Y y/\¬c.mut b)->bl7 c (λσ'=>op.run ea σ'=Y (v,σ')) (Y Z):=by
   intro hb;refine⟨hself,λσ' hσ=>bT2 hl h λb hbb=> ?_⟩;obtain⟨y,h1,h2⟩:=hb b hbb;rw[hσ b y h1 h2,h1]
  cases xv<;>simp only[di9,ao0]<;>try exact trivial
  case ptr q o=>
   refine blkcase q rfl λb hb hdm=> ?_
   cases hx with
   |ptr hk ho hd=>
    cases hdd:(ae c.S q).dim with
    |none=>exact(hdm hdd).elim
    |some d=>
     obtain⟨b',h1,h2⟩:=hd d hdd;rw[h2]at hb;injection hb with hb
     subst hb;exact h1
  case it q l=>
   refine blkcase q rfl λb hb hdm=> ?_
   obtain⟨s,_,hd⟩:=hx.it_inv;cases hdd:(ae c.S q).dim with
   |none=>exact(hdm hdd).elim
   |some d=>
    obtain⟨b',h1,h2⟩:=hd d hdd;rw[h2]at hb;cases hb
  case bld q=>
   refine blkcase q rfl λb hb hdm=> ?_
   cases hx with
   |bld _ _ hd=>
   cases hdd:(ae c.S q).dim with
   |none=>exact(hdm hdd).elim
   |some d=>
    obtain⟨b',h1,h2⟩:=hd d hdd;rw[h2]at hb;cases hb
  case pix q o n i=>
   refine blkcase q rfl λb hb hdm=> ?_
   cases hx with
   |pix hk ho hi hd=>
    cases hdd:(ae c.S q).dim with
    |none=>exact(hdm hdd).elim
    |some d=>
     obtain⟨b',h1,h2⟩:=hd d hdd;rw[h2]at hb;injection hb with hb
     subst hb;exact h1
  case pel q i o=>
   refine blkcase q rfl λb hb hdm=> ?_
   cases hx with
   |pel hk ho hd=>
    cases hdd:(ae c.S q).dim with
    |none=>exact(hdm hdd).elim
    |some d=>
     obtain⟨b',h1,h2⟩:=hd d hdd;rw[h2]at hb;injection hb with hb
     subst hb;exact h1
  case full q=>
   refine blkcase q rfl λb hb hdm=> ?_
   cases hx with
   |full hk ho hd=>
    cases hdd:(ae c.S q).dim with
    |none=>exact(hdm hdd).elim
    |some d=>
     obtain⟨n,_,h2⟩:=hd d hdd;rcases h2 with⟨h2,_⟩|⟨b',cp,yb,h2,h3,_⟩
     .rw[h2]at hb;cases hb
     .rw[h2]at hb;injection hb with hb
      subst hb;exact h3
  case part q lo n=>
   refine blkcase q rfl λb hb hdm=> ?_
   cases hx with
   |part hk ho hd=>
    cases hdd:(ae c.S q).dim with
    |none=>exact(hdm hdd).elim
    |some d=>
     rcases hd d hdd with⟨h2,_⟩|⟨b',cp,yb,h2,h3,_⟩
     .rw[h2]at hb;cases hb
     .rw[h2]at hb;injection hb with hb
      subst hb;exact h3
  case pin s x o=>
   refine novalue λb hb=> ?_
   generalize ea.ev (aT9 op)=xa at*;cases hx with
   |pin hn hy hl hf=>
    injection hb with hb
    subst hb;exact⟨_,hy,hn⟩
  case lst s l=>
   generalize hxa:ea.ev (aT9 op)=xa at*;cases hx with
   |lstn hq=>
    refine⟨hself,λσ' hσ=> ?_⟩;have:=do7 hl hxa h;exact this σ'
   |lst hn hy _ _ _ _ _=>
    refine novalue λb hb=> ?_
    injection hb with hb
    subst hb;exact⟨_,hy,hn⟩
  case nils=>
   refine novalue λb hb=> ?_
   generalize ea.ev (aT9 op)=xa at*;cases hx;cases hb
 cases op<;>first|(cases hl;done)|exact key
theorem ba7 {T:Ab.gr}{op:AOp}{e:cb}{σ:Hp}(hs:op.still=Za){k:Value->Hp->Prop}:(match op.run e σ with
  |some (v,σ')=>k v σ'
  |none=>False)=br T op e σ k:=by
 cases op<;>first|(cases hs;done)|rfl
theorem dc1 {it:SItem}{c:Ctx}{e:cz}{ea:cb}{chk:Chk}{ach:List (Nat×(Hp->Prop))}{k:Chk->cz->ai->Option β}(hR:ec c)(he:az c e ea)(hc:ChkRel c ach chk)(h:bz1 tab it chk e c.S k=Y y){Q:List (Nat×(Hp->Prop))->cb->Hp->Prop}
  (hQ: ∀c' ach' chk' e' ea',Le c c'->ec c'->ChkRel c' ach' chk'->az c' e' ea'->k chk' e' c'.S=Y y->Q ach' ea' c'.σ):
  if it.mover then br (ip tab) it.o.op ea c.σ (λv σ'=>aj2 it.chks σ' ach/\Q ach (ea.putO it.o.dst v) σ')
  else match it.o.op.run ea c.σ with
   |some (v,_)=>Q (if it.keep then(it.idx,λσ'=>it.o.op.run ea σ'=Y (v,σ'))::ach else ach) (ea.putO it.o.dst v) c.σ
   |none=>False:=by
 unfold bz1 at h;cases hm:it.mover with
 |true=>
  rw[hm,zC]at h;rw[zE rfl];obtain⟨h1,h2⟩:=au h;refine tY (bq tab) (λv σ' hv=> ?_) (bs3 hR he h2);obtain⟨vv,c',h3,h4,h5,h6,h7,h8⟩:=hv;subst h3;have hn:=hc.next h4 h6
  exact⟨bn8 hn h1,hQ c' ach _ _ _ h4 h5 hn ((he.frame h4).putO h7) h8⟩
 |false=>
  rw[hm,zD]at h;rw[zF (by decide)];obtain⟨h1,h2⟩:=au h;rw[aD]at h1;have h3:=bs3 hR he h2;rw[<-ba7 h1.1]at h3;cases hr:it.o.op.run ea c.σ with
  |none=>rw[hr]at h3;exact h3
  |some p=>
   obtain⟨v,σ1⟩:=p;rw[hr]at h3;obtain⟨vv,c',h4,h5,h6,h7,h8,h9⟩:=h3;simp only
   have hd:bs2 tab it.o.op e c.S=[]:=by
    have:=h1.1;cases hop:it.o.op<;>rw[hop]at this<;>first|(cases this;done)|rfl
   have hn:=hc.next h5 h7
   rw[hd,aq1]at hn;have hσ1:σ1=c.σ:=bo1 h1.1 hr;rw[<-hσ1,<-h4];cases hk:it.keep with
   |false=>
    rw[hk,zD]at h9;rw[zF (by decide)];exact hQ c' ach chk _ _ h5 h6 hn ((he.frame h5).putO h8) h9
   |true=>
    rw[hk,zC]at h9;rw[zE rfl];have hld:it.o.op.isLoad=Za:=by have:=h1.2;rw[hk]at this;simpa using this
    have hkp:=ce3 hR he hld hr;have hn2:=(ChkRel.cons (i:=it.idx) hkp hc).next h5 h7
    rw[hd,aq1]at hn2;exact hQ c' _ _ _ _ h5 h6 hn2 ((he.frame h5).putO h8) h9
end
structure LeV (c c':Ctx):Prop where
 len:c.S.length<=c'.S.length
 al: ∀k d,k<c.S.length->(ae c'.S k).dim=Y d->(ae c.S k).dim=Y d/\c'.μ k=c.μ k
 ln: ∀k d b y,k<c.S.length->(ae c'.S k).dim=Y d->c.μ k=Y b->c.σ.m b=Y y->∃y',c'.σ.m b=Y y'/\y'.cells.length=y.cells.length
 rd: ∀b y,c.σ.m b=Y y->¬c.mut b->c'.σ.m b=Y y/\¬c'.mut b
theorem SlR.frameV {c c':Ctx}(h:LeV c c'){k lo n:Nat}{d:Nat×Nat}{a:Value}(hk:k<c.S.length)(hd:(ae c'.S k).dim=Y d)(hs:SlR c k lo n d a):SlR c' k lo n d a:=by
 obtain⟨h1,h2⟩:=h.al k d hk hd;rcases hs with⟨rfl,rfl,rfl,hm,hz⟩|⟨b,cp,y,rfl,hm,h3,h4,hy,h5⟩
 .exact .inl ⟨rfl,rfl,rfl,h2.trans hm,hz⟩
 .obtain⟨y',hy',hl⟩:=h.ln k d b y hk hd hm hy;exact .inr ⟨b,cp,y',rfl,h2.trans hm,h3,h4,hy',by rw[hl];exact h5⟩
theorem VRel.frameV {c c':Ctx}(h:LeV c c'): ∀{v:VV} {a:Value},VRel c v a->VRel c' v a
 |_,_, .undef a=> .undef a
 |_,_, .bool b=> .bool b
 |_,_, .int k n=> .int k n
 |_,_, .str hs=> .str hs
 |_,_, .nilp=> .nilp
 |_,_, .nils=> .nils
 |_,_, .nilf=> .nilf
 |_,_, .ptr hk h1 hd=> .ptr (bD hk h.len) h1 λd hd'=>by
  obtain⟨h1,h2⟩:=h.al _ d hk hd';obtain⟨b,h3,h4⟩:=hd d h1;exact⟨b,h2.trans h3,h4⟩
 |_,_, .it hk h1 hs hd=> .it (bD hk h.len) h1 hs λd hd'=>by
  obtain⟨h1,h2⟩:=h.al _ d hk hd';obtain⟨b,h3,h4⟩:=hd d h1;exact⟨b,h2.trans h3,h4⟩
 |_,_, .bld hk h1 hd=> .bld (bD hk h.len) h1 λd hd'=>by
  obtain⟨h1,h2⟩:=h.al _ d hk hd';obtain⟨b,h3,h4⟩:=hd d h1;exact⟨b,h2.trans h3,h4⟩
 |_,_, .pix hk h1 hi hd=> .pix (bD hk h.len) h1 hi λd hd'=>by
  obtain⟨h1,h2⟩:=h.al _ d hk hd';obtain⟨b,h3,h4⟩:=hd d h1;exact⟨b,h2.trans h3,h4⟩
 |_,_, .pel hk h1 hd=> .pel (bD hk h.len) h1 λd hd'=>by
  obtain⟨h1,h2⟩:=h.al _ d hk hd';obtain⟨b,h3,h4⟩:=hd d h1;exact⟨b,h2.trans h3,h4⟩
 |_,_, .pin hn hy hl hf=> .pin (h.rd _ _ hy hn).2 (h.rd _ _ hy hn).1 hl (go hf)
 |_,_, .lstn hq=> .lstn hq
 |_,_, .tgtn hq=> .tgtn hq
 |_,_, .tgt hn hy he h3 hf=> .tgt (h.rd _ _ hy hn).2 (h.rd _ _ hy hn).1 he h3 (go hf)
 |_,_, .lst hn hy he h1 h2 h3 hf=> .lst (h.rd _ _ hy hn).2 (h.rd _ _ hy hn).1 he h1 h2 h3 (go hf)
 |_,_, .full hk h1 hd=> .full (bD hk h.len) h1 λd hd'=>by
  obtain⟨h1,h2⟩:=h.al _ d hk hd';obtain⟨n,h3,h4⟩:=hd d h1;exact⟨n,h3,h4.frameV h hk hd'⟩
 |_,_, .part hk h1 hd=> .part (bD hk h.len) h1 λd hd'=>by
  obtain⟨h1,h2⟩:=h.al _ d hk hd';exact(hd d h1).frameV h hk hd'
 |_,_, .fn h1 h2=> .fn (go h1) (go h2)
 |_,_, .agg h1=> .agg (go h1)
 |_,_, .tup h1=> .tup (go h1)
where
 go: ∀{l:List VV} {m:List Value},F2 (VRel c) l m->F2 (VRel c') l m
  |_,_, .nil=> .nil
  |_,_, .cons h1 h2=> .cons (VRel.frameV h h1) (go h2)
theorem VRel.framesV {c c':Ctx}(h:LeV c c'){l:List VV}{m:List Value}(hf:F2 (VRel c) l m):F2 (VRel c') l m:=hf.imp λ_ _ hv=>hv.frameV h
theorem az.frameV {c c':Ctx}{e:cz}{ea:cb}(h:az c e ea)(hl:LeV c c'):az c' e ea:=λt=>(h t).frameV hl
def wJ (op:AOp)(ea:cb)(x:Ab.Blk)(vf:Nat->Value):Prop:= ∀σ:Hp,op.run ea σ=Y (vf σ.n,σ.add x)
theorem wJ.unique {op:AOp}{ea:cb}{x x':Ab.Blk}{vf vf':Nat->Value}(h:wJ op ea x vf)(h':wJ op ea x' vf'):x=x'/\vf=vf':=by
 have key: ∀n,vf n=vf' n/\x=x':=by
  intro n;have h1:=h ⟨λ_=>Z,n⟩;rw[h' ⟨λ_=>Z,n⟩]at h1;injection h1 with h1
  injection h1 with h1 h2
  refine⟨h1.symm, ?_⟩;have h3:=congrArg (λs:Hp=>s.m n) h2;simp only[Hp.add,if_true]at h3;injection h3 with h3
  exact h3.symm
 exact⟨(key 0).2,funext λn=>(key n).1⟩
theorem cq9 {ea ea':cb}{x:Operand}(h: ∀t∈cD6 x,ea' t=ea t):ea'.ev x=ea.ev x:=by
 cases x with
 |tmp t=>exact h t (by simp[cD6])
 |_=>rfl
theorem wJ.same {op:AOp}{ea ea':cb}{x:Ab.Blk}{vf:Nat->Value}(h:wJ op ea x vf)(hf:ao8 op=Za)(he: ∀t∈av0 op,ea' t=ea t):wJ op ea' x vf:=by
 intro σ;have h1:=h σ;cases op<;>first|(cases hf;done)|skip
 case alloc es z=>exact h1
 case makeSlice es bytes z l m=>
  have e1:ea'.ev l=ea.ev l:=cq9 λt ht=>he t (by simp[av0,ht])
  have e2:ea'.ev m=ea.ev m:=cq9 λt ht=>he t (by simp[av0,ht])
  simp only[AOp.run]at h1⊢;rw[e1,e2];exact h1
 case buildSlice es ln z ps=>
  have e1:(ps.map λ(o,s,x)=>(o,s,ea'.ev x))=ps.map λ(o,s,x)=>(o,s,ea.ev x):=by
   apply fB;rintro⟨o,s,x⟩ hx;simp only;rw[cq9 λt ht=>he t (List.mem_flatMap.2 ⟨_,hx,ht⟩)]
  simp only[AOp.run]at h1⊢;rw[e1];exact h1
theorem bW0 {c c':Ctx}: ∀{l:List VV} {m:List Value},l.all cX3=Za->F2 (VRel c) l m->F2 (VRel c') l m
 |_,_,_, .nil=> .nil
 |v::l,_,h, .cons h1 h2=>by
  rw[List.all_cons,aD]at h;refine .cons ?_ (bW0 h.2 h2);cases h1<;>first|(cases h.1;done)|skip
  .exact .bool _
  .exact .int _ _
  .exact .str (by assumption)
structure FreshFact (op:AOp)(ea:cb)(blk:Blk)(w:Bool)(x:Ab.Blk)(vf:Nat->Value):Prop where
 run:wJ op ea x vf
 fz:blk.frozen=Zb
 dm: ∃dm cs rest,blk.dim=Y dm/\1<=dm.1/\x.es=dm.1/\x.own=Za/\x.cells=cs++rest/\∀c':Ctx,F2 (VRel c') blk.vals cs
 vv: ∀(c':Ctx) (k b:Nat),k<c'.S.length->ae c'.S k=blk->c'.μ k=Y b->c'.σ.m b=Y x->VRel c' (vvF w k) (vf b)
theorem bm9 {β:Type}{c:Ctx}{e:cz}{ea:cb}{op:AOp}{k:Blk->Bool->Option β}{y:β}(he:az c e ea)(h:aL4 op e k=Y y):ao8 op=Za/\∃blk w x vf,k blk w=Y y/\FreshFact op ea blk w x vf:=by
 cases op<;>simp only[aL4]at h<;>first|(cases h;done)|skip
 case alloc es z=>
  obtain⟨h1,h2⟩:=au h;have h1:=dD h1;refine⟨rfl,_,_,⟨z,Za,es⟩,λn=> .pointer (Y ⟨n,0,Z⟩),h2,⟨λσ=>rfl,(ai6 es z).2.1,⟨(es,z.length),z,[],(ai6 es z).1,h1,rfl,rfl,by simp,λc'=>(ai6 es z).2.2 c'⟩,λc' k b hk hs hm hy=> ?_⟩⟩;refine .ptr hk rfl λd hd=>⟨b,hm,rfl⟩
 case makeSlice es bytes z l m=>
  have hl:=bt he l;have hm:=bt he m;split at h
  .rename_i k1 a k2 b s h1 h2 hs;rw[h1]at hl;rw[h2]at hm;obtain⟨hg,hk⟩:=au h;simp only[aD]at hg;obtain⟨⟨⟨⟨g1,g2⟩,g3⟩,g4⟩,g5⟩:=hg;have g1:=bB g1;have g2:=of_decide_eq_true g2;have g3:=of_decide_eq_true g3;have g4:=of_decide_eq_true g4;have g5:=dD g5;have hz: ∀c':Ctx,F2 (VRel c') (db s (yC s)) z:=λc'=>aD6 (c:=c') hs
   have hzl:z.length=s.w:=by rw[<-(hz c).length,dj]
   have hb:b<=bytes*b:=by
    have:(1:Int)*b<=bytes*b:=Int.mul_le_mul_of_nonneg_right (by omega) (by omega);omega
   refine⟨rfl,_,_,⟨di z b.toNat,Za,es⟩,λn=> .slice (Y ⟨n,0,Z⟩) a.toNat b.toNat,hk,⟨λσ=> ?_,rfl,⟨(s.w,(List.replicate a.toNat (yC s)).length*s.w),di z a.toNat,di z (b.toNat-a.toNat),rfl,sZ s,g1,rfl, ?_,λc'=> ?_⟩,λc' k q hk hs' hm' hy=> ?_⟩⟩
   .simp only[AOp.run,hl.int_inv,hm.int_inv];rw[zE ⟨g2,g3,by omega,by omega⟩]
   .show di z b.toNat=_;rw[<-ci5]
    congr 1
    omega
   .show F2 (VRel c') (gh s (List.replicate a.toNat (yC s))) (di z a.toNat);rw[wL];generalize a.toNat=n;induction n with
    |zero=>exact .nil
    |succ n ih=>
     simp only[di,List.replicate_succ,List.flatten_cons]at ih⊢;exact(hz c').append ih
   .refine .full hk rfl λd hd=> ?_
    rw[hs']at hd;injection hd with hd
    subst hd;refine⟨a.toNat,by simp, .inr ⟨q,b.toNat,_,by simp,hm',by simp,by omega,hy, ?_⟩⟩;rw[Nat.zero_add];show b.toNat*s.w<=(di z b.toNat).length;rw[ci6,hzl];exact eD _
  .cases h
 case buildSlice es ln z ps=>
  split at h
  .rename_i cs hf;obtain⟨h1,h2⟩:=au h;simp only[aD]at h1;obtain⟨⟨⟨⟨g1,g2⟩,g3⟩,g4⟩,g5⟩:=h1;have g2:=bB g2;have g3:=dD g3;obtain⟨ra,h3,h4⟩:=aj0 he ps hf (bB5 ln z);refine⟨g5,_,_,⟨ra,Za,es⟩,λn=> .slice (Y ⟨n,0,Z⟩) ln ln,h2,⟨λσ=> ?_,rfl,⟨(es,cs.length),ra,[],rfl,g3,rfl,rfl,by simp,λc'=>bW0 g4 h4⟩,λc' k q hk hs' hm' hy=> ?_⟩⟩
   .simp only[AOp.run,h3];rw[zE (pn h4 g1)]
   .refine .full hk rfl λd hd=> ?_
    rw[hs']at hd;injection hd with hd
    subst hd;refine⟨ln,g2, .inr ⟨q,ln,_,by simp,hm',by simp[g2],eD _,hy, ?_⟩⟩;rw[Nat.zero_add];show ln*es<=ra.length;rw[<-h4.length];exact Nat.le_of_eq g2
  .cases h
theorem vG {i q:Nat}: ∀{l:List Nat},l.Nodup->(q∈bk2 i l↔q∈l/\q≠i)
 |[],_=>by simp[bk2]
 |a::r,h=>by
  obtain⟨h1,h2⟩:=List.nodup_cons.1 h;simp only[bk2];cases hb:aB a i with
  |true=>
   have:=bB hb;subst this;rw[zC];constructor
   .intro hq;exact⟨cB _ hq,λe=>h1 (e▸hq)⟩
   .rintro⟨hq,hn⟩;rcases List.mem_cons.1 hq with rfl|hq
    .exact(hn rfl).elim
    .exact hq
  |false=>
   have hne:a≠i:=λe=>by subst e;rw[dB]at hb;cases hb
   rw[zD,List.mem_cons,List.mem_cons,vG h2];constructor
   .rintro(rfl|⟨h3,h4⟩)
    .exact⟨.inl rfl,hne⟩
    .exact⟨.inr h3,h4⟩
   .rintro⟨rfl|h3,h4⟩
    .exact .inl rfl
    .exact .inr ⟨h3,h4⟩
theorem bD6 {i:Nat}: ∀{l:List Nat},l.Nodup->(bk2 i l).Nodup
 |[],h=>h
 |a::r,h=>by
  obtain⟨h1,h2⟩:=List.nodup_cons.1 h;simp only[bk2];cases hb:aB a i with
  |true=>exact h2
  |false=>
   rw[zD,List.nodup_cons];exact⟨λhq=>h1 ((vG h2).1 hq).1,bD6 h2⟩
section
variable {tab:Tab} {ops:List (AOper×List Nat)}
structure InvL (ops:List (AOper×List Nat))(c0 c:Ctx)(e:cz)(ea:cb)(ach:List (Nat×(Hp->Prop)))(chk:Chk)(P ls nd:List Nat)(r:List LItem)(pd:Nat->Nat):Prop where
 le:Le c0 ⟨c.μ,c.S,c.σ,c0.fb⟩
 R:ec c
 E:az c e ea
 K:ChkRel c ach chk
 ks:ach.map (·.1)=ls
 nd:rY nd chk=Za
 fb: ∀b,c.fb b↔(c0.fb b∨∃q∈P,pd q=b)
 nod:P.Nodup
 inj: ∀q q',q∈P->q'∈P->pd q=pd q'->q=q'
 new: ∀q∈P,c0.σ.n<=pd q
 pend: ∀q∈P,ao8 (cl ops q).op=Za/\∃x vf,wJ (cl ops q).op ea x vf/\c.σ.m (pd q)=Y x/\∀t,(cl ops q).dst=Y t->ea t=vf (pd q)
 und: ∀it∈r,aB it.kind 2=Za->∀t,(cl ops it.i).dst=Y t->sr e t= .undef
 ds:cf4 ops r=Za
theorem bl7.frameV {c c':Ctx}{p:Hp->Prop}(hR:ec c)(hl:LeV c c')(hS: ∀q,q<c.S.length->ae c'.S q=ae c.S q)(hmu: ∀q,q<c.S.length->c'.μ q=c.μ q)(hσ: ∀b y,c.σ.m b=Y y->c'.σ.m b=Y y): ∀{s:Option (Option Nat)},bl7 c p s->bl7 c' p s
 |none,_=>trivial
 |some Z,h=>by
  refine⟨h.2 _ λb y hy _=>hσ b y hy,λσ' hσ'=>h.2 σ' λb y hy hn=> ?_⟩;obtain⟨h1,h2⟩:=hl.rd b y hy hn;exact hσ' b y h1 h2
 |some (Y q),h=>by
  obtain⟨h1,h2,h3⟩:=h;have hq:=sC h1
  have hb: ∀b,c.μ q=Y b->c'.σ.m b=c.σ.m b:=by
   intro b hb;cases hd:(ae c.S q).dim with
   |none=>exact(h1 hd).elim
   |some d=>
    obtain⟨_,h4⟩:=hR.blk q d hd;rcases h4 with⟨_,h4⟩|⟨b',y,cs,rest,h4,h5,_⟩
    .rw[hb]at h4;cases h4
    .rw[hb]at h4;injection h4 with h4
     subst h4;rw[h5];exact hσ _ _ h5
  exact⟨by rw[hS q hq];exact h1,h3 _ hb,λσ' hs=>h3 σ' λb hb'=>(hs b (by rw[hmu q hq];exact hb')).trans (hb b hb')⟩
theorem ChkRel.frameV {c c':Ctx}(hR:ec c)(hl:LeV c c')(hS: ∀q,q<c.S.length->ae c'.S q=ae c.S q)(hmu: ∀q,q<c.S.length->c'.μ q=c.μ q)(hσ: ∀b y,c.σ.m b=Y y->c'.σ.m b=Y y): ∀{l:List (Nat×(Hp->Prop))} {m:Chk},ChkRel c l m->ChkRel c' l m
 |_,_, .nil=> .nil
 |_,_, .cons h1 h2=> .cons (h1.frameV hR hl hS hmu hσ) (h2.frameV hR hl hS hmu hσ)
theorem ap0 {c:Ctx}{m:Nat}{is:List Nat}: ∀{l:List (Nat×(Hp->Prop))} {chk:Chk},ChkRel c l chk->rY is chk=Za->(∀i∈l.map (·.1),ae7 ops i m=Za∨sA i is=Za)->aO6 ops m c.σ l
 |_,_, .nil,_,_=>trivial
 |_,_, .cons (i:=i) (s:=s) h1 h2,h,hb=>by
  simp only[rY]at h;simp only[aO6];have hrest:rY is _=Za->aO6 ops m c.σ _:=λh3=>ap0 h2 h3 λj hj=>hb j (by simp only[List.map_cons];exact cB _ hj)
  cases hbf:ae7 ops i m with
  |true=>
   rw[zE rfl];cases hm:sA i is with
   |false=>rw[hm,zD]at h;exact hrest h
   |true=>
    rw[hm,zC]at h;cases s with
    |none=>cases h
    |some s=>exact hrest h
  |false=>
   rw[zF (by decide)];rcases hb i (by simp)with h3|h3
   .rw[hbf]at h3;cases h3
   .rw[h3,zC]at h;cases s with
    |none=>cases h
    |some s=>exact⟨h1.now,hrest h⟩
theorem cU9 {β:Type}{c0 c:Ctx}{e:cz}{ea:cb}{ach:List (Nat×(Hp->Prop))}{chk:Chk}{P ls nd:List Nat}{it:LItem}{r:List LItem}{pd:Nat->Nat}{k:cz->ai->Option β}{y:β}(h0:ec c0)
  (hI:InvL ops c0 c e ea ach chk P ls nd (it::r) pd) (hk:aB it.kind 2=Za) (hP:it.i∈P) (h:evL tab ops (it::r) chk e c.S k=Y y):
  ∃c' e',c'.σ=c.σ/\InvL ops c0 c' e' ea ach chk (bk2 it.i P) ls nd r pd/\evL tab ops r chk e' c'.S k=Y y:=by
 have hk3:aB it.kind 3=Zb:=by rw[bB hk];rfl
 simp only[evL,hk,hk3,zC,zD]at h;obtain⟨hfb,blk,w,x',vf',h1,h2⟩:=bm9 hI.E h;obtain⟨_,x,vf,h3,h4,h5⟩:=hI.pend _ hP;obtain⟨ex,ef⟩:=h2.run.unique h3;subst ex;subst ef;obtain⟨dm,cs,rest,d1,d2,d3,d4,d5,d6⟩:=h2.dm;have hlen:(c.S++[blk]).length=c.S.length+1:=by simp
 have hds:=hI.ds;simp only[cf4,aD]at hds
 let b:=pd it.i
 let c':Ctx:=⟨λq=>if q=c.S.length then Y b else c.μ q,c.S++[blk],c.σ,λq=>c0.fb q∨∃j∈bk2 it.i P,pd j=q⟩
 have hfbb:c.fb b:=(hI.fb b).2 (.inr ⟨it.i,hP,rfl⟩);have hS: ∀q,q<c.S.length->ae c'.S q=ae c.S q:=λq hq=>sX hq
 have hmu: ∀q,q<c.S.length->c'.μ q=c.μ q:=λq hq=>zF (Nat.ne_of_lt hq)
 have hnewS:ae c'.S c.S.length=blk:=cG1;have hnewmu:c'.μ c.S.length=Y b:=zE rfl
 have hfb': ∀q,c'.fb q->c.fb q:=by
  rintro q (hq|⟨j,hj,rfl⟩)
  .exact(hI.fb q).2 (.inl hq)
  .exact(hI.fb _).2 (.inr ⟨j,((vG hI.nod).1 hj).1,rfl⟩)
 have hbnot: ¬c'.fb b:=by
  rintro(hq|⟨j,hj,hjb⟩)
  .have:=h0.fbl _ hq;have:=hI.new _ hP;omega
  .obtain⟨hj1,hj2⟩:=(vG hI.nod).1 hj;exact hj2 (hI.inj _ _ hj1 hP hjb)
 have hown: ∀q,c'.own q->c.own q∨q=b:=by
  rintro q ⟨j,hj1,hj2⟩;by_cases hj:j<c.S.length
  .rw[hS j hj]at hj1;rw[hmu j hj]at hj2;exact .inl ⟨j,hj1,hj2⟩
  .by_cases hj3:j=c.S.length
   .subst hj3;rw[hnewmu]at hj2;injection hj2 with hj2
    exact .inr hj2.symm
   .rw[ad0 (by show c'.S.length<=j;rw[hlen];omega)]at hj1;cases hj1
 have hV:LeV c c':=by
  refine⟨by rw[hlen];omega,λq d hq hd=> ?_,λq d b' y' hq hd hm hy=>⟨y',hy,rfl⟩,λb' y' hy hn=>⟨hy,λhm=> ?_⟩⟩
  .rw[hS q hq]at hd;exact⟨hd,hmu q hq⟩
  .rcases hm with hm|hm
   .rcases hown b' hm with hm|hm
    .exact hn (.inl hm)
    .subst hm;exact hn (.inr hfbb)
   .exact hn (.inr (hfb' _ hm))
 have hR':ec c':=by
  refine⟨hI.R.ok,λq q' b' hq hq' hm hm'=> ?_,λq d hd=> ?_,λq b' hd hm=> ?_,λb' hb'=>hI.R.fbl _ (hfb' _ hb')⟩
  .have cases3: ∀j,(ae c'.S j).dim≠Z->j<c.S.length∨j=c.S.length:=by
    intro j hj;have:=sC hj;rw[hlen]at this;omega
   rcases cases3 q (sq hq)with h6|h6
   .rcases cases3 q' hq' with h7|h7
    .rw[hS q h6]at hq;rw[hS q' h7]at hq';rw[hmu q h6]at hm;rw[hmu q' h7]at hm';exact hI.R.inj q q' b' hq hq' hm hm'
    .subst h7;rw[hnewmu]at hm';injection hm' with hm'
     subst hm';rw[hmu q h6]at hm;rw[hS q h6]at hq;exact(hI.R.fbk q _ (sq hq) hm hfbb).elim
   .rcases cases3 q' hq' with h7|h7
    .subst h6;rw[hnewmu]at hm;injection hm with hm
     subst hm;rw[hmu q' h7]at hm';rw[hS q' h7]at hq';exact(hI.R.fbk q' _ hq' hm' hfbb).elim
    .rw[h6,h7]
  .by_cases hq:q<c.S.length
   .rw[hS q hq]at hd⊢;obtain⟨h6,h7⟩:=hI.R.blk q d hd;refine⟨h6, ?_⟩;rcases h7 with⟨h7,h8⟩|⟨b',y',cs',rest',h7,h8,h9,h10,h11,h12⟩
    .exact .inl ⟨h7,by rw[hmu q hq];exact h8⟩
    .exact .inr ⟨b',y',cs',rest',by rw[hmu q hq];exact h7,h8,h9,h10,h11,VRel.framesV hV h12⟩
   .by_cases hq2:q=c.S.length
    .subst hq2;rw[hnewS]at hd⊢;rw[d1]at hd;injection hd with hd
     subst hd;exact⟨d2, .inr ⟨b,x',cs,rest,hnewmu,h4,d3,λ_=>d4,d5,d6 c'⟩⟩
    .rw[ad0 (by show c'.S.length<=q;rw[hlen];omega)]at hd;cases hd
  .by_cases hq:q<c.S.length
   .rw[hS q hq]at hd;rw[hmu q hq]at hm;exact λhf=>hI.R.fbk q b' hd hm (hfb' _ hf)
   .have:=sC hd;rw[hlen]at this;have hq2:q=c.S.length:=by omega
    subst hq2;rw[hnewmu]at hm;injection hm with hm
    subst hm;exact hbnot
 have hvv:VRel c' (vvF w c.S.length) (vf' b):=h2.vv c' c.S.length b (by rw[hlen];omega) hnewS hnewmu h4
 have hE':az c' (putO e (cl ops it.i).dst (vvF w c.S.length)) ea:=by
  have hE:=hI.E.frameV hV;cases hd:(cl ops it.i).dst with
  |none=>exact hE
  |some t=>
   intro t';show VRel c' (sr (vI e t _) t') (ea t');rw[ac7];by_cases ht:t'=t
   .subst ht;rw[zE rfl,h5 _ hd];exact hvv
   .rw[zF ht];exact hE t'
 refine⟨c',_,rfl,⟨?_,hR',hE',hI.K.frameV hI.R hV hS hmu (λ_ _ hy=>hy),hI.ks,hI.nd,λq=>Iff.rfl,bD6 hI.nod,λq q' hq hq'=>hI.inj q q' ((vG hI.nod).1 hq).1 ((vG hI.nod).1 hq').1,λq hq=>hI.new q ((vG hI.nod).1 hq).1,λq hq=>hI.pend q ((vG hI.nod).1 hq).1, ?_,hds.2⟩,h1⟩
 .have hle:=hI.le;refine⟨Nat.le_trans hle.len (by show c.S.length<=c'.S.length;rw[hlen];omega),λq d hq hd=> ?_,λq hf hd=> ?_,λq d b' y' hq hd hm hy=> ?_,λb' y' hy hn=>hle.un b' y' hy hn,λb' y' hy hn ho=> ?_,hle.n,rfl⟩
  .have hq':q<c.S.length:=bD hq hle.len;have:=hS q hq';rw[show(⟨c'.μ,c'.S,c'.σ,c0.fb⟩:Ctx).S=c'.S from rfl,this]at hd;obtain⟨h6,h7⟩:=hle.al q d hq hd;exact⟨h6,(hmu q hq').trans h7⟩
  .have hq':q<c.S.length:=bD (sC hd) hle.len;exact(hS q hq').trans (hle.fz q hf hd)
  .have hq':q<c.S.length:=bD hq hle.len;have:=hS q hq';rw[show(⟨c'.μ,c'.S,c'.σ,c0.fb⟩:Ctx).S=c'.S from rfl,this]at hd;exact hle.ln q d b' y' hq hd hm hy
  .have ho':c'.own b':=ho;rcases hown b' ho' with ho2|ho2
   .exact hle.ow b' y' hy hn ho2
   .subst ho2;have:=h0.ok _ _ hy;have:=hI.new _ hP;omega
 .intro it' hit' hk' t ht;have hu:=hI.und it' (cB _ hit') hk' t ht;cases hd:(cl ops it.i).dst with
  |none=>exact hu
  |some t'=>
   show sr (vI e t' _) t=_;rw[ac7];by_cases htt:t=t'
   .subst htt;have:=List.all_eq_true.1 hds.1 it' hit';rw[hk,hk']at this;simp only[Bool.not_true,Bool.false_or,neO,hd,ht,dB]at this;cases this
   .rw[zF htt];exact hu
theorem cE1 {β:Type}{c0 c:Ctx}{e:cz}{ea:cb}{ach:List (Nat×(Hp->Prop))}{chk:Chk}{P ls nd:List Nat}{it:LItem}{r:List LItem}{pd:Nat->Nat}{k:cz->ai->Option β}{y:β}
  (hI:InvL ops c0 c e ea ach chk P ls nd (it::r) pd) (hk:aB it.kind 3=Za) (h:evL tab ops (it::r) chk e c.S k=Y y):
  InvL ops c0 c e ea ach chk P ls nd r pd/\evL tab ops r chk e c.S k=Y y:=by
 simp only[evL,hk,zC]at h;obtain⟨_,_,_,_,_,h1,_⟩:=bm9 hI.E h;have hds:=hI.ds;simp only[cf4,aD]at hds;exact⟨⟨hI.le,hI.R,hI.E,hI.K,hI.ks,hI.nd,hI.fb,hI.nod,hI.inj,hI.new,hI.pend,λj hj hk t ht=>hI.und j (cB _ hj) hk t ht,hds.2⟩,h1⟩
theorem bv4 {β:Type}{c0:Ctx}{ea:cb}{ach:List (Nat×(Hp->Prop))}{chk:Chk}{ls nd:List Nat}{pd:Nat->Nat}{k:cz->ai->Option β}{y:β}{i:Nat}(h0:ec c0): ∀(r:List LItem) {P P':List Nat} {it:LItem} {r':List LItem} {c:Ctx} {e:cz},aM9 r P i=Y (P',it,r')->
  InvL ops c0 c e ea ach chk P ls nd r pd->evL tab ops r chk e c.S k=Y y->
  ∃c' e',c'.σ=c.σ/\InvL ops c0 c' e' ea ach chk P' ls nd (it::r') pd/\evL tab ops (it::r') chk e' c'.S k=Y y/\aB it.kind 2=Zb/\it.i=i/\∀q∈P',q∈P
 |[],P,P',it,r',c,e,h,_,_=>by cases h
 |a::r,P,P',it,r',c,e,h,hI,hv=>by
  simp only[aM9]at h;cases hk3:aB a.kind 3 with
  |true=>
   rw[hk3,zC]at h;obtain⟨h1,h2⟩:=cE1 hI hk3 hv;exact bv4 h0 r h h1 h2
  |false=>
  rw[hk3,zD]at h;cases hk:aB a.kind 2 with
  |false=>
   rw[hk,zD]at h;cases hi:aB a.i i with
   |false=>rw[hi]at h;cases h
   |true=>
    rw[hi,zC]at h;injection h with h
    injection h with h1 h
    injection h with h2 h3
    subst h1;subst h2;subst h3;exact⟨c,e,rfl,hI,hv,hk,bB hi,λq hq=>hq⟩
  |true=>
   rw[hk,zC]at h;cases hm:sA a.i P with
   |false=>rw[hm]at h;cases h
   |true=>
    rw[hm,zC]at h;obtain⟨c1,e1,h1,h2,h3⟩:=cU9 h0 hI hk (pv.1 hm) hv;obtain⟨c2,e2,h4,h5,h6,h7,h8,h9⟩:=bv4 h0 r h h2 h3;exact⟨c2,e2,h4.trans h1,h5,h6,h7,h8,λq hq=>((vG hI.nod).1 (h9 q hq)).1⟩
theorem cr1 {β:Type}{c0:Ctx}{ea:cb}{ach:List (Nat×(Hp->Prop))}{chk:Chk}{ls nd:List Nat}{pd:Nat->Nat}{k:cz->ai->Option β}{y:β}(h0:ec c0): ∀(r:List LItem) {P:List Nat} {c:Ctx} {e:cz},cN2 r P=Za->
  InvL ops c0 c e ea ach chk P ls nd r pd->evL tab ops r chk e c.S k=Y y->xf c0 k y ea c.σ
 |[],P,c,e,h,hI,hv=>by
  have hP:P=[]:=by
   cases P with
   |nil=>rfl
   |cons a r=>simp[cN2]at h
  subst hP
  have hfb:c.fb=c0.fb:=by
   funext b
   refine propext ((hI.fb b).trans ⟨λh=> ?_, .inl⟩);rcases h with h|⟨q,hq,_⟩
   .exact h
   .cases hq
  refine⟨e,c,rfl, ?_,hI.R,hI.E,hv⟩;have:=hI.le;rw[<-hfb]at this;exact this
 |a::r,P,c,e,h,hI,hv=>by
  simp only[cN2]at h;cases hk3:aB a.kind 3 with
  |true=>
   rw[hk3,zC]at h;obtain⟨h1,h2⟩:=cE1 hI hk3 hv;exact cr1 h0 r h h1 h2
  |false=>
  rw[hk3,zD]at h;simp only[aD]at h;obtain⟨c1,e1,h1,h2,h3⟩:=cU9 h0 hI h.1.1 (pv.1 h.1.2) hv;rw[<-h1];exact cr1 h0 r h.2 h2 h3
theorem bJ7 {β:Type}{c:Ctx}{ea:cb}{chk:Chk}{k:cz->ai->Option β}{y:β}{m:Nat}: ∀(r:List LItem) {e e':cz} {S:ai},bS3 ops r m=Za->az c e ea->(∀t∈av0 (cl ops m).op,sr e' t=sr e t)->evL tab ops r chk e' S k=Y y->∃x vf,ao8 (cl ops m).op=Za/\wJ (cl ops m).op ea x vf
 |[],e,e',S,h,_,_,_=>by cases h
 |a::r,e,e',S,h,he,hu,hv=>by
  have huse: ∀(vv:VV),bt5 (cl ops a.i).dst (av0 (cl ops m).op)=Za->∀t∈av0 (cl ops m).op,sr (putO e' (cl ops a.i).dst vv) t=sr e t:=by
   intro vv h1 t ht;rw[<-hu t ht];cases hd:(cl ops a.i).dst with
   |none=>rfl
   |some t'=>
    show sr (vI e' t' _) t=_;rw[ac7];by_cases htt:t=t'
    .subst htt;rw[hd]at h1;simp only[bt5]at h1;rw[pv.2 ht]at h1;cases h1
    .rw[zF htt]
  have fresh_here: ∀{γ:Type} {k':Blk->Bool->Option γ} {z:γ},aL4 (cl ops m).op e' k'=Y z->∃x vf,ao8 (cl ops m).op=Za/\wJ (cl ops m).op ea x vf:=by
   intro γ k' z hv
   have hv':aL4 (cl ops m).op e k'=Y z:=by
    cases hop:(cl ops m).op<;>rw[hop]at hv hu<;>simp only[aL4]at hv<;>first|(cases hv;done)|skip
    case alloc es z=>exact hv
    case makeSlice es bytes z l q=>
     have e1:ev e' l=ev e l:=by
      cases l with
      |tmp t=>exact hu t (by simp[av0,cD6])
      |_=>rfl
     have e2:ev e' q=ev e q:=by
      cases q with
      |tmp t=>exact hu t (by simp[av0,cD6])
      |_=>rfl
     rw[e1,e2]at hv;exact hv
    case buildSlice es ln z ps=>
     have e1:az3 e' ps=az3 e ps:=by
      unfold az3;apply fB;rintro⟨o,s,x⟩ hx;simp only
      have:ev e' x=ev e x:=by
       cases x with
       |tmp t=>exact hu t (List.mem_flatMap.2 ⟨_,hx,by simp[cD6]⟩)
       |_=>rfl
      rw[this]
     rw[e1]at hv;exact hv
   obtain⟨hf,blk,w,x,vf,_,h2⟩:=bm9 he hv';exact⟨x,vf,hf,h2.run⟩
  simp only[bS3]at h;cases hk3:aB a.kind 3 with
  |true=>
   rw[hk3,zC,cD]at h;simp only[evL,hk3,zC]at hv;rcases h with h|h
   .rw[bB h]at hv;exact fresh_here hv
   .have hnext:evL tab ops r chk e' S k=Y y:=by
     cases hop:(cl ops a.i).op<;>rw[hop]at hv<;>simp only[aL4]at hv<;>first|(cases hv;done)|skip
     case alloc es z=>exact(au hv).2
     case makeSlice es bytes z l q=>
      split at hv
      .exact(au hv).2
      .cases hv
     case buildSlice es ln z ps=>
      split at hv
      .exact(au hv).2
      .cases hv
    exact bJ7 r h he hu hnext
  |false=>
  rw[hk3,zD]at h;simp only[cD,aD]at h;rcases h with⟨hk,h⟩|⟨⟨⟨hk,hmv⟩,h1⟩,h2⟩
  .simp only[evL,hk,hk3,zC,zD]at hv;by_cases hi:a.i=m
   .rw[hi]at hv;exact fresh_here hv
   .rcases h with h|⟨h1,h2⟩
    .exact(hi (bB h)).elim
    .have hnext: ∃blk w,evL tab ops r chk (putO e' (cl ops a.i).dst (vvF w S.length)) (S++[blk]) k=Y y:=by
      cases hop:(cl ops a.i).op<;>rw[hop]at hv<;>simp only[aL4]at hv<;>first|(cases hv;done)|skip
      case alloc es z=>exact⟨_,_,(au hv).2⟩
      case makeSlice es bytes z l q=>
       split at hv
       .exact⟨_,_,(au hv).2⟩
       .cases hv
      case buildSlice es ln z ps=>
       split at hv
       .exact⟨_,_,(au hv).2⟩
       .cases hv
     obtain⟨blk,w,hv2⟩:=hnext;exact bJ7 r h2 he (huse _ h1) hv2
  .have hk2:aB a.kind 2=Zb:=by rw[bB hk];rfl
   have hk1:aB a.kind 1=Zb:=by rw[bB hk];rfl
   simp only[evL,hk2,hk1,hk3,zD]at hv;obtain⟨_,hv⟩:=au hv;cases hop:(cl ops a.i).op<;>rw[hop]at hmv<;>first|(cases hmv;done)|skip
   case move x=>
    rw[hop]at hv;simp only[bR6,AOp.isLoad,zD]at hv;obtain⟨_,hv⟩:=au hv;exact bJ7 r h2 he (huse _ h1) hv
theorem cS4 {F:Nat->Prop}: ∀{l:List Nat},(∀m∈l,F m)->cc1 F l
 |[],_=>trivial
 |[m],h=>h m (by simp)
 |m::m'::r,h=>⟨h m (by simp),cS4 λq hq=>h q (cB _ hq)⟩
theorem dE3 {D:List Nat}{i:Nat}(h:li ops D=Y i): ∃p,ops[i]?=Y (cl ops i,p)/\(cl ops i).op.still=Za:=by
 unfold li at h;have h1:=List.find?_some h;simp only[aD]at h1;have h2:=h1.2;unfold aM8 at h2;unfold cl;split at h2
 .rename_i o p ho;rw[ho];exact⟨p,rfl,h2⟩
 .cases h2
theorem dp2 {D:List Nat}{m:Nat}(h:m∈cy ops D): ∃p,ops[m]?=Y (cl ops m,p)/\(cl ops m).op.still=Zb:=by
 unfold cy at h;obtain⟨h1,h2⟩:=List.mem_filter.1 h;have h1:=List.mem_range.1 h1;simp only[aD]at h2;have h3:=h2.2;unfold aM8 at h3;unfold cl;rw[List.getElem?_eq_getElem h1]at h3⊢;exact⟨_,rfl,by simpa using h3⟩
theorem cW1 {self:Nat}{ex:Bool}{P:List Nat}{r:List LItem}(h:bk4 ops self ex P r=Za){q:Nat}(hq:q∈P):(∀t,(cl ops self).dst=Y t->(cl ops q).dst≠Y t)/\∀t,(cl ops self).dst=Y t->t∉av0 (cl ops q).op:=by
 simp only[bk4,aD]at h;have h1:=List.all_eq_true.1 h.1 q hq;rw[aD]at h1;refine⟨λt ht e=> ?_,λt ht hu=> ?_⟩
 .have:=h1.1;rw[ht,e]at this;simp only[neO,dB]at this;cases this
 .have:=h1.2;rw[ht]at this;simp only[bt5]at this;rw[pv.2 hu]at this;cases this
theorem dF0 {self:Nat}{ex:Bool}{P:List Nat}{r:List LItem}(h:bk4 ops self ex P r=Za){it:LItem}(hit:it∈r)(hk:aB it.kind 2=Za)(hne:ex=Za->it.i≠self){t:Nat}(ht:(cl ops self).dst=Y t):(cl ops it.i).dst≠Y t:=by
 simp only[bk4,aD]at h;have h1:=List.all_eq_true.1 h.2 it hit
 have h2:(ex&&aB it.i self)=Zb:=by
  cases ex with
  |false=>rfl
  |true=>exact Bool.eq_false_iff.2 λe=>hne rfl (bB e)
 rw[hk,h2]at h1;intro e;rw[ht,e]at h1;simp only[Bool.not_true,Bool.false_or,neO,dB]at h1;cases h1
theorem bu3 {ea:cb}{d:Option Nat}{v:Value}{t:Nat}(h: ∀t',d=Y t'->t≠t'):(ea.putO d v) t=ea t:=by
 cases d with
 |none=>rfl
 |some t'=>exact zF (h t' rfl)
theorem ds4 {e:cz}{d:Option Nat}{v:VV}{t:Nat}(h: ∀t',d=Y t'->t≠t'):sr (putO e d v) t=sr e t:=by
 cases d with
 |none=>rfl
 |some t'=>
  show sr (vI e t' v) t=_;rw[ac7,zF (h t' rfl)]
theorem InvL.on {c0 c c':Ctx}{e:cz}{ea:cb}{ach ach':List (Nat×(Hp->Prop))}{chk chk':Chk}{P ls ls' nd nd':List Nat}{it:LItem}{r:List LItem}{pd:Nat->Nat}{i:Nat}{vv:VV}{v:Value}
  (hI:InvL ops c0 c e ea ach chk P ls nd (it::r) pd) (hd:bk4 ops i Zb P r=Za) (hl:Le c c') (hR:ec c') (hv:VRel c' vv v) (hK:ChkRel c' ach' chk') (hks:ach'.map (·.1)=ls') (hnd:rY nd' chk'=Za):
  InvL ops c0 c' (putO e (cl ops i).dst vv) (ea.putO (cl ops i).dst v) ach' chk' P ls' nd' r pd:=by
 have hds:=hI.ds;simp only[cf4,aD]at hds;refine⟨?_,hR,(hI.E.frame hl).putO hv,hK,hks,hnd,λb=>by rw[hl.fb];exact hI.fb b,hI.nod,hI.inj,hI.new,λq hq=> ?_,λj hj hk t ht=> ?_,hds.2⟩
 .have h1:=hI.le;have h2:Le ⟨c.μ,c.S,c.σ,c0.fb⟩ ⟨c'.μ,c'.S,c'.σ,c0.fb⟩:=⟨hl.len,hl.al,hl.fz,hl.ln,hl.un,hl.ow,hl.n,rfl⟩;exact h1.trans h2
 .obtain⟨hf,x,vf,h1,h2,h3⟩:=hI.pend q hq;obtain⟨k1,k2⟩:=cW1 hd hq;refine⟨hf,x,vf,h1.same hf λt ht=>bu3 λt' ht' e=>k2 t' ht' (e▸ht),hl.un _ _ h2 λho=> ?_,λt ht=> ?_⟩
  .obtain⟨j,hj1,hj2⟩:=ho;exact hI.R.fbk j _ (sq hj1) hj2 ((hI.fb _).2 (.inr ⟨q,hq,rfl⟩))
  .rw[bu3 λt' ht' e=>k1 t' ht' (e▸ht)];exact h3 t ht
 .rw[ds4 λt' ht' e=>dF0 hd hj hk (λh=>by cases h) ht' (e▸ht)];exact hI.und j (cB _ hj) hk t ht
theorem cq8 {β:Type}{c0:Ctx}{k:cz->ai->Option β}{y:β}(h0:ec c0): ∀(f:Nat) {D P ls nd:List Nat} {r:List LItem} {c:Ctx} {e:cz} {ea:cb} {ach:List (Nat×(Hp->Prop))} {chk:Chk} {pd:Nat->Nat},cq1 ops f D P ls nd r=Za->InvL ops c0 c e ea ach chk P ls nd r pd->evL tab ops r chk e c.S k=Y y->
  wpD (ip tab) (xf c0 k y) ops f D ach ea c.σ
 |0,D,P,ls,nd,r,c,e,ea,ach,chk,pd,h,hI,hv=>cr1 h0 r h hI hv
 |f+1,D,P,ls,nd,r,c,e,ea,ach,chk,pd,h,hI,hv=>by
  simp only[cq1]at h;simp only[wpD];cases hns:li ops D with
  |some i=>
   rw[hns]at h;simp only[aD]at h⊢;obtain⟨hg,h⟩:=h;obtain⟨p,ho,hst⟩:=dE3 hns;rw[ho]
   have hw:wanted (cl ops i) ea=Za:=by
    unfold wanted;cases hgg:(cl ops i).guard with
    |none=>rfl
    |some q=>rw[hgg]at hg;cases hg
   simp only[hw,if_true];cases hs:aM9 r P i with
   |none=>rw[hs]at h;cases h
   |some q=>
    obtain⟨P',it,r'⟩:=q;rw[hs]at h;simp only[aD]at h;obtain⟨⟨hk0,hd⟩,hc⟩:=h;obtain⟨c1,e1,h1,h2,h3,h4,h5,h6⟩:=bv4 h0 r hs hI hv;subst h5;have hk1:aB it.kind 1=Zb:=by rw[bB hk0];rfl
    have hk3:aB it.kind 3=Zb:=by rw[bB hk0];rfl
    simp only[evL,h4,hk1,hk3,zD]at h3;obtain⟨_,h3⟩:=au h3;have h7:=bs3 h2.R h2.E h3;rw[<-ba7 hst,h1]at h7;cases hr:(cl ops it.i).op.run ea c.σ with
    |none=>rw[hr]at h7;exact h7.elim
    |some q=>
     obtain⟨v,σ1⟩:=q;rw[hr]at h7;obtain⟨vv,c2,g1,g2,g3,g4,g5,g6⟩:=h7;simp only
     have hdd:bs2 tab (cl ops it.i).op e1 c1.S=[]:=by
      cases hop:(cl ops it.i).op<;>rw[hop]at hst<;>first|(cases hst;done)|rfl
     have hσ1:σ1=c.σ:=bo1 hst hr;obtain⟨g7,g8⟩:=au g6;have hn:=h2.K.next g2 g4
     rw[hdd,aq1]at hn
     have hstep: ∀{ach':List (Nat×(Hp->Prop))} {chk':Chk} {ls':List Nat},ChkRel c2 ach' chk'->ach'.map (·.1)=ls'->rY it.need chk'=Za->evL tab ops r' chk' (putO e1 (cl ops it.i).dst vv) c2.S k=Y y->cq1 ops f (it.i::D) P' ls' it.need r'=Za->
       wpD (ip tab) (xf c0 k y) ops f (it.i::D) ach' (ea.putO (cl ops it.i).dst v) c.σ:=by
      intro ach' chk' ls' q1 q2 q3 q4 q5;have:=cq8 h0 f q5 (h2.on hd g2 g3 g5 q1 q2 q3) q4;rw[g1,hσ1]at this;exact this
     cases hld:(cl ops it.i).op.isLoad with
     |false=>
      rw[hld]at g7 g8 hc;rw[zF (by decide)];exact hstep hn h2.ks g7 g8 hc
     |true=>
      rw[hld]at g7 g8 hc;rw[zE rfl];have hkp:=ce3 h2.R h2.E hld (by rw[h1];exact hr);have hn2:=(ChkRel.cons (i:=it.i) hkp h2.K).next g2 g4
      rw[hdd,aq1]at hn2;exact hstep hn2 (by rw[List.map_cons,h2.ks];rfl) g7 g8 hc
  |none=>
   rw[hns]at h;simp only at h⊢
   have each: ∀{ms:List Nat},(∀m∈ms,m∈cy ops D)->(ms.all λm=>(cl ops m).guard.isNone&&cond (ao8 (cl ops m).op)
    (!sA m P&&r.any (λit=>aB it.kind 2&&aB it.i m)&&(cB7 (cl ops m).op||bS3 ops r m)&&bk4 ops m Za P r&&bt5 (cl ops m).dst (av0 (cl ops m).op)&&ls.all (λi=>ae7 ops i m||sA i nd)&&cq1 ops f (m::D) (m::P) ls nd r)
    (match aM9 r P m with
    |some (P',it,r')=>aB it.kind 1&&bk4 ops m Zb P' r'&&ls.all (λi=>ae7 ops i m||sA i it.chks)&&cq1 ops f (m::D) P' ls it.need r'
    |none=>Zb))=Za->cc1 (λm=>match ops[m]? with
     |some (o,_)=>if wanted o ea then br (ip tab) o.op ea c.σ λv σ'=>aO6 ops m σ' ach/\wpD (ip tab) (xf c0 k y) ops f (m::D) ach (ea.putO o.dst v) σ'
      else wpD (ip tab) (xf c0 k y) ops f (m::D) ach (ea.putO o.dst undef) c.σ
     |none=>False) ms:=by
    intro ms hms hall;refine cS4 λm hm=> ?_
    have h:=List.all_eq_true.1 hall m hm;simp only[aD]at h;obtain⟨hg,h⟩:=h;obtain⟨p,ho,hst⟩:=dp2 (hms m hm);rw[ho]
    have hw:wanted (cl ops m) ea=Za:=by
     unfold wanted;cases hgg:(cl ops m).guard with
     |none=>rfl
     |some q=>rw[hgg]at hg;cases hg
    simp only[hw,if_true];cases hfr:ao8 (cl ops m).op with
    |false=>
     rw[hfr,zD]at h;cases hs:aM9 r P m with
     |none=>rw[hs]at h;cases h
     |some q=>
      obtain⟨P',it,r'⟩:=q;rw[hs]at h;simp only[aD]at h;obtain⟨⟨⟨hk1,hd⟩,hls⟩,hc⟩:=h;obtain⟨c1,e1,h1,h2,h3,h4,h5,h6⟩:=bv4 h0 r hs hI hv;subst h5;have hk3:aB it.kind 3=Zb:=by rw[bB hk1];rfl
      simp only[evL,h4,hk1,hk3,zD,zC]at h3;have h7:=bs3 h2.R h2.E h3;rw[h1]at h7;refine tY (bq tab) (λv σ' hx=> ?_) h7;obtain⟨vv,c2,g1,g2,g3,g4,g5,g6⟩:=hx;obtain⟨g7,g8⟩:=au g6;rw[aD]at g7;have hn:=h2.K.next g2 g4
      subst g1;refine⟨ap0 hn g7.1 λi hi=> ?_,cq8 h0 f hc (h2.on hd g2 g3 g5 hn h2.ks g7.2) g8⟩;rw[h2.ks]at hi;have:=List.all_eq_true.1 hls i hi;rw[cD]at this;exact this
    |true=>
     rw[hfr,zC]at h;simp only[aD]at h;obtain⟨⟨⟨⟨⟨⟨hnm,hany⟩,hor⟩,hd⟩,hself⟩,hls⟩,hc⟩:=h;have hmP:m∉P:=λe=>by rw[pv.2 e]at hnm;cases hnm
     obtain⟨x,vf,hF⟩: ∃x vf,wJ (cl ops m).op ea x vf:=by
      rw[cD]at hor;rcases hor with hor|hor
      .cases hop:(cl ops m).op<;>rw[hop]at hor<;>first|(cases hor;done)|skip
       case alloc es z=>exact⟨⟨z,Za,es⟩,λn=> .pointer (Y ⟨n,0,Z⟩),λσ=>rfl⟩
      .obtain⟨x,vf,_,h1⟩:=bJ7 r hor hI.E (λt _=>rfl) hv;exact⟨x,vf,h1⟩
     let c':Ctx:=⟨c.μ,c.S,c.σ.add x,λb=>c.fb b∨b=c.σ.n⟩
     have hadd: ∀b y,c.σ.m b=Y y->(c.σ.add x).m b=Y y:=by
      intro b y hy;have:=hI.R.ok b y hy;simp only[Hp.add];rw[zF (by omega)];exact hy
     have hV:LeV c c':=by
      refine⟨eD _,λq d hq hdm=>⟨hdm,rfl⟩,λq d b y hq hdm hm hy=>⟨y,hadd b y hy,rfl⟩,λb y hy hn=>⟨hadd b y hy,λhm=> ?_⟩⟩;rcases hm with hm|hm|hm
      .exact hn (.inl hm)
      .exact hn (.inr hm)
      .have:=hI.R.ok b y hy;omega
     have hR':ec c':=by
      refine⟨λb y hy=> ?_,hI.R.inj,λq d hdm=> ?_,λq b hdm hm hf=> ?_,λb hb=> ?_⟩
      .simp only[c',Hp.add]at hy⊢;split at hy
       .omega
       .have:=hI.R.ok b y hy;omega
      .obtain⟨h6,h7⟩:=hI.R.blk q d hdm;refine⟨h6, ?_⟩;rcases h7 with h7|⟨b',y',cs',rest',h7,h8,h9,h10,h11,h12⟩
       .exact .inl h7
       .exact .inr ⟨b',y',cs',rest',h7,hadd _ _ h8,h9,h10,h11,VRel.framesV hV h12⟩
      .rcases hf with hf|hf
       .exact hI.R.fbk q b hdm hm hf
       .subst hf;have hdm':(ae c.S q).dim≠Z:=hdm;cases hd2:(ae c.S q).dim with
        |none=>exact hdm' hd2
        |some d=>
         obtain⟨_,h7⟩:=hI.R.blk q d hd2;have hm':c.μ q=Y c.σ.n:=hm;rcases h7 with⟨_,h7⟩|⟨b',y',cs',rest',h7,h8,_⟩
         .rw[hm']at h7;cases h7
         .rw[hm']at h7;injection h7 with h7
          subst h7;have:=hI.R.ok _ _ h8;omega
      .show b<c.σ.n+1;rcases hb with hb|hb
       .have:=hI.R.fbl b hb;omega
       .omega
     have hK':=hI.K.frameV hI.R hV (λ_ _=>rfl) (λ_ _=>rfl) hadd;refine bz (hF c.σ) ⟨ap0 hK' hI.nd λi hi=> ?_, ?_⟩
     .rw[hI.ks]at hi;have:=List.all_eq_true.1 hls i hi;rw[cD]at this;exact this
     .refine cq8 (c:=c') (pd:=λq=>if q=m then c.σ.n else pd q) h0 f hc ⟨?_,hR', ?_,hK',hI.ks,hI.nd,λb=> ?_,List.nodup_cons.2 ⟨hmP,hI.nod⟩,λq q' hq hq' he=> ?_,λq hq=> ?_,λq hq=> ?_,hI.und,hI.ds⟩ hv
      .have hle:=hI.le;refine⟨hle.len,hle.al,hle.fz,λq d b y hq hdm hm hy=> ?_,λb y hy hn=>hadd _ _ (hle.un b y hy hn),hle.ow,Nat.le_trans hle.n (Nat.le_succ _),rfl⟩;obtain⟨y',q1,q2⟩:=hle.ln q d b y hq hdm hm hy;exact⟨y',hadd _ _ q1,q2⟩
      .have hE:=hI.E.frameV hV;intro t;cases hdst:(cl ops m).dst with
       |none=>exact hE t
       |some t'=>
        show VRel c' (sr e t) (if t=t' then _ else ea t);by_cases htt:t=t'
        .subst htt;rw[zE rfl];obtain⟨it,hit,hit2⟩:=List.any_eq_true.1 hany;rw[aD]at hit2;have hitm:=bB hit2.2;subst hitm;rw[hI.und it hit hit2.1 _ hdst];exact .undef _
        .rw[zF htt];exact hE t
      .constructor
       .rintro(hb|hb)
        .rcases(hI.fb b).1 hb with hb|⟨q,hq,hb⟩
         .exact .inl hb
         .refine .inr ⟨q,cB _ hq, ?_⟩;show(if q=m then c.σ.n else pd q)=b;rw[zF (λe:q=m=>hmP (e▸hq))];exact hb
        .exact .inr ⟨m,List.mem_cons_self,by simp[hb]⟩
       .rintro(hb|⟨q,hq,hb⟩)
        .exact .inl ((hI.fb b).2 (.inl hb))
        .rcases List.mem_cons.1 hq with rfl|hq
         .simp only[if_true]at hb;exact .inr hb.symm
         .have hb:(if q=m then c.σ.n else pd q)=b:=hb;rw[zF (λe:q=m=>hmP (e▸hq))]at hb;exact .inl ((hI.fb b).2 (.inr ⟨q,hq,hb⟩))
      .have hlt: ∀q∈P,pd q<c.σ.n:=λq hq=>hI.R.fbl _ ((hI.fb _).2 (.inr ⟨q,hq,rfl⟩))
       have he:(if q=m then c.σ.n else pd q)=if q'=m then c.σ.n else pd q':=he
       rcases List.mem_cons.1 hq with rfl|hq1
       .rcases List.mem_cons.1 hq' with rfl|hq2
        .rfl
        .rw[zE rfl,zF (λe:q'=q=>hmP (e▸hq2))]at he;have:=hlt _ hq2;omega
       .rw[zF (λe:q=m=>hmP (e▸hq1))]at he;rcases List.mem_cons.1 hq' with rfl|hq2
        .rw[zE rfl]at he;have:=hlt _ hq1;omega
        .rw[zF (λe:q'=m=>hmP (e▸hq2))]at he;exact hI.inj q q' hq1 hq2 he
      .show c0.σ.n<=(if q=m then c.σ.n else pd q);rcases List.mem_cons.1 hq with rfl|hq
       .rw[zE rfl];exact hI.le.n
       .rw[zF (λe:q=m=>hmP (e▸hq))];exact hI.new q hq
      .show ao8 (cl ops q).op=Za/\∃x1 vf1,wJ (cl ops q).op (ea.putO (cl ops m).dst (vf c.σ.n)) x1 vf1/\c'.σ.m (if q=m then c.σ.n else pd q)=Y x1/\∀t,(cl ops q).dst=Y t->ea.putO (cl ops m).dst (vf c.σ.n) t=vf1 (if q=m then c.σ.n else pd q)
       rcases List.mem_cons.1 hq with rfl|hq
       .rw[zE rfl];refine⟨hfr,x,vf,hF.same hfr λt ht=>bu3 λt' ht' e=> ?_,zE rfl,λt ht=> ?_⟩
        .subst e;rw[ht']at hself;simp only[bt5]at hself;rw[pv.2 ht]at hself;cases hself
        .rw[ht];exact zE rfl
       .rw[zF (λe:q=m=>hmP (e▸hq))];obtain⟨hf',x',vf',q1,q2,q3⟩:=hI.pend q hq;obtain⟨k1,k2⟩:=cW1 hd hq;refine⟨hf',x',vf',q1.same hf' λt ht=>bu3 λt' ht' e=>k2 t' ht' (e▸ht),hadd _ _ q2,λt ht=> ?_⟩;rw[bu3 λt' ht' e=>k1 t' ht' (e▸ht)];exact q3 t ht
   cases hrm:cy ops D with
   |nil=>rw[hrm]at h;exact cr1 h0 r h hI hv
   |cons a l=>
    rw[hrm]at h;exact each (λm hm=>by rw[hrm];exact hm) h
end
end
section
open Bool renaming and_eq_true -> aB
open List renaming mem_cons_self -> aD, mem_cons_of_mem -> cB, mem_of_getElem? -> cD
open Nat renaming beq -> bB, zero_add -> bD, eq_of_beq_eq_true -> dB
section
variable {tab:Tab}
theorem cE4 {c:Ctx}{e:cz}{ea:cb}{t:Nat}{p:Bool}(he:az c e ea)(hp:sr e t= .bool p):az c (vI e t (.bool p)) ea:=by
 have ht:=he t;rw[hp]at ht;have ht:=ht.bool_inv;intro i;rw[ac7];by_cases hi:i=t
 .subst hi;rw[zE rfl,ht];exact .bool _
 .rw[zF hi];exact he i
theorem bm8 {β:Type}{y:β}: ∀{its:List SItem} {c:Ctx} {e:cz} {ea:cb} {chk:Chk} {ach:List (Nat×(Hp->Prop))} {k:cz->ai->Option β},ec c->az c e ea->ChkRel c ach chk->yx tab its chk e c.S k=Y y->wpI (ip tab) (xf c k y) its ach ea c.σ
 |[],c,e,ea,chk,ach,k,hR,he,hc,h=>⟨e,c,rfl,Le.refl c,hR,he,h⟩
 |it::r,c,e,ea,chk,ach,k,hR,he,hc,h=>by
  have step: ∀e1,az c e1 ea->bz1 tab it chk e1 c.S (λchk' e' S'=>yx tab r chk' e' S' k)=Y y->
    (if it.mover then br (ip tab) it.o.op ea c.σ (λv σ'=>aj2 it.chks σ' ach/\wpI (ip tab) (xf c k y) r ach (ea.putO it.o.dst v) σ')
    else match it.o.op.run ea c.σ with
     |some (v,_)=>wpI (ip tab) (xf c k y) r (if it.keep then(it.idx,λσ'=>it.o.op.run ea σ'=Y (v,σ'))::ach else ach) (ea.putO it.o.dst v) c.σ
     |none=>False):=by
   intro e1 he1 h1;refine dc1 (Q:=λach' ea' σ'=>wpI (ip tab) (xf c k y) r ach' ea' σ') hR he1 hc h1 λc' ach' chk' e' ea' h2 h3 h4 h5 h6=> ?_
   exact bc4 (bq tab) (λea'' σ'' hp=>hp.of h2) _ _ _ _ (bm8 h3 h5 h4 h6)
  have skip: ∀e1,az c e1 ea->yx tab r chk (putO e1 it.o.dst (.tup [])) c.S k=Y y->wpI (ip tab) (xf c k y) r ach (ea.putO it.o.dst undef) c.σ:=λe1 he1 h1=>bm8 hR (he1.putO (.tup .nil)) hc h1
  simp only[yx]at h;simp only[wpI];split at h
  .rename_i hg;have:wanted it.o ea=Za:=by simp only[wanted,hg]
   rw[zE this];exact step e he h
  .rename_i t w hg;split at h
   .rename_i p hp;have ht:=he t;rw[hp]at ht;have ht:=ht.bool_inv;have hw:wanted it.o ea=(p==w):=by simp only[wanted,hg,ht]
    have hput:=cE4 he hp;rw[hw];cases p<;>cases w<;>simp only[zC,zD]at h
    .rw[zE (by decide)];exact step _ hput h
    .rw[zF (by decide)];exact skip _ hput h
    .rw[zF (by decide)];exact skip _ hput h
    .rw[zE (by decide)];exact step _ hput h
   .rename_i hp;have ht:=he t;rw[hp]at ht
    have hw:wanted it.o ea=Zb:=by
     simp only[wanted,hg];generalize ea t=u at ht;cases ht;rfl
    rw[hw,zF (by decide)];exact skip _ he h
   .cases h
def xd (as:List Nat)(e e':cb):Prop:= ∀t,t∉as->e' t=e t
theorem xd.refl (as:List Nat)(e:cb):xd as e e:=λ_ _=>rfl
theorem xd.put {as:List Nat}{e e':cb}{d:Option Nat}{v:Value}(h:xd as e e')(hd: ∀t,t∈cq6 d->t∈as):xd as e (e'.putO d v):=by
 intro t ht;cases d with
 |none=>exact h t ht
 |some d=>
  have:t≠d:=by rintro rfl;exact ht (hd t (List.mem_singleton.2 rfl))
  simp only[cb.putO,cb.put,zF this];exact h t ht
theorem bo4 {T:Ab.gr}(hT:xe T){Q:cb->Hp->Prop}{as:List Nat}{e0:cb}: ∀{ops:List AOper} {e:cb} {σ:Hp},(∀o,o∈ops->∀t,t∈cq6 o.dst->t∈as)->xd as e0 e->Ab.aq2 T Q ops e σ->Ab.aq2 T (λe' σ'=>xd as e0 e'/\Q e' σ') ops e σ
 |[],e,σ,_,hk,h=>⟨hk,h⟩
 |o::r,e,σ,ha,hk,h=>by
  simp only[Ab.aq2]at h⊢;have hr: ∀o,o∈r->∀t,t∈cq6 o.dst->t∈as:=λo ho=>ha o (cB _ ho)
  split at h
  .rename_i hw;rw[zE hw];exact tY hT (λv σ' hv=>bo4 hT hr (hk.put (ha o aD)) hv) h
  .rename_i hw;rw[zF hw];exact bo4 hT hr (hk.put (ha o aD)) h
theorem bw0 {T:Ab.gr}(hT:xe T){Q:cb->Hp->Prop}{as:List Nat}{e0:cb}: ∀{its:List SItem} {chk:List (Nat×(Hp->Prop))} {e:cb} {σ:Hp},(∀o,o∈its->∀t,t∈cq6 o.o.dst->t∈as)->xd as e0 e->wpI T Q its chk e σ->wpI T (λe' σ'=>xd as e0 e'/\Q e' σ') its chk e σ
 |[],chk,e,σ,_,hk,h=>⟨hk,h⟩
 |it::r,chk,e,σ,ha,hk,h=>by
  simp only[wpI]at h⊢;have hr: ∀o,o∈r->∀t,t∈cq6 o.o.dst->t∈as:=λo ho=>ha o (cB _ ho)
  split at h
  .rename_i hw;rw[zE hw];split at h
   .rename_i hm;rw[zE hm];exact tY hT (λv σ' hv=>⟨hv.1,bw0 hT hr (hk.put (ha it aD)) hv.2⟩) h
   .rename_i hm;rw[zF hm];split at h
    .exact bw0 hT hr (hk.put (ha it aD)) h
    .exact h.elim
  .rename_i hw;rw[zF hw];exact bw0 hT hr (hk.put (ha it aD)) h
theorem cy7 {F G:Nat->Prop}(h: ∀m,F m->G m): ∀{l:List Nat},cc1 F l->cc1 G l
 |[],_=>trivial
 |[m],q=>h m q
 |m::m'::r,q=>⟨h m q.1,cy7 h q.2⟩
theorem bc2 {T:Ab.gr}(hT:xe T){Q:cb->Hp->Prop}{as:List Nat}{e0:cb}{ops:List (AOper×List Nat)}(ha: ∀o,o∈ops->∀t,t∈cq6 o.1.dst->t∈as): ∀(f:Nat) {D:List Nat} {chk:List (Nat×(Hp->Prop))} {e:cb} {σ:Hp},xd as e0 e->wpD T Q ops f D chk e σ->wpD T (λe' σ'=>xd as e0 e'/\Q e' σ') ops f D chk e σ
 |0,D,chk,e,σ,hk,h=>⟨hk,h⟩
 |f+1,D,chk,e,σ,hk,h=>by
  simp only[wpD]at h⊢;cases hn:li ops D with
  |some i=>
   rw[hn]at h;simp only at h⊢;cases ho:ops[i]? with
   |none=>rw[ho]at h;exact h
   |some p=>
    obtain⟨o,pr⟩:=p;rw[ho]at h;have hm:(o,pr)∈ops:=cD ho;simp only at h⊢;split at h
    .rename_i hw;rw[zE hw];split at h
     .rename_i v σ' hr;exact bc2 hT ha f (hk.put (ha _ hm)) h
     .exact h.elim
    .rename_i hw;rw[zF hw];exact bc2 hT ha f (hk.put (ha _ hm)) h
  |none=>
   rw[hn]at h;simp only at h⊢;cases hr:cy ops D with
   |nil=>rw[hr]at h;exact⟨hk,h⟩
   |cons a l=>
    rw[hr]at h;simp only at h⊢;refine cy7 (λm hm=> ?_) h;cases ho:ops[m]? with
    |none=>rw[ho]at hm;exact hm
    |some p=>
     obtain⟨o,pr⟩:=p;rw[ho]at hm;have hmem:(o,pr)∈ops:=cD ho;simp only at hm⊢;split at hm
     .rename_i hw;rw[zE hw];exact tY hT (λv σ' hx=>⟨hx.1,bc2 hT ha f (hk.put (ha _ hmem)) hx.2⟩) hm
     .rename_i hw;rw[zF hw];exact bc2 hT ha f (hk.put (ha _ hmem)) hm
theorem ad5 {T:Ab.gr}(hT:xe T){as:List Nat}{e0:cb}: ∀(c:AC) {Q:AExit->cb->Hp->Prop} {e:cb} {σ:Hp},ba3 c=Za->(∀t,t∈po c->t∈as)->xd as e0 e->wpA T c Q e σ->wpA T c (λx e' σ'=>xd as e0 e'/\Q x e' σ') e σ
 | .skip,_,_,_,_,_,hk,h=>⟨hk,h⟩
 | .exit _,_,_,_,_,_,hk,h=>⟨hk,h⟩
 | .ret,_,_,_,_,_,hk,h=>⟨hk,h⟩
 | .region ops,Q,e,σ,_,ha,hk,h=>bo4 hT (λo ho t ht=>ha t (List.mem_flatMap.2 ⟨o,ho,ht⟩)) hk h
 | .sched its,Q,e,σ,_,ha,hk,h=>bw0 hT (λo ho t ht=>ha t (List.mem_flatMap.2 ⟨o,ho,ht⟩)) hk h
 | .draw ops,Q,e,σ,_,ha,hk,h=>bc2 hT (λo ho t ht=>ha t (List.mem_flatMap.2 ⟨o,ho,ht⟩)) _ hk h
 | .seq a b,Q,e,σ,hd,ha,hk,h=>by
  simp only[ba3,aB]at hd;have h1:=ad5 hT a hd.1 (λt ht=>ha t (List.mem_append.2 (.inl ht))) hk h;refine gu hT a _ _ (λx e' σ' hx=> ?_) e σ h1;obtain⟨hx1,hx2⟩:=hx;cases x with
  |normal=>exact ad5 hT b hd.2 (λt ht=>ha t (List.mem_append.2 (.inr ht))) hx1 hx2
  |exit i=>exact⟨hx1,hx2⟩
  |ret=>exact⟨hx1,hx2⟩
 | .cond c a b,Q,e,σ,hd,ha,hk,h=>by
  simp only[ba3,aB]at hd;simp only[wpA]at h⊢;split at h
  .exact ad5 hT a hd.1 (λt ht=>ha t (List.mem_append.2 (.inl ht))) hk h
  .exact ad5 hT b hd.2 (λt ht=>ha t (List.mem_append.2 (.inr ht))) hk h
  .exact h.elim
 | .block id b,Q,e,σ,hd,ha,hk,h=>by
  have h1:=ad5 hT b hd ha hk h;refine gu hT b _ _ (λx e' σ' hx=> ?_) e σ h1;obtain⟨hx1,hx2⟩:=hx;cases x with
  |normal=>exact⟨hx1,hx2⟩
  |exit i=>
   simp only at hx2⊢;split at hx2
   .rename_i hi;rw[zE hi];exact⟨hx1,hx2⟩
   .rename_i hi;rw[zF hi];exact⟨hx1,hx2⟩
  |ret=>exact⟨hx1,hx2⟩
 | .loop b,Q,e,σ,hd,ha,hk,h=>by
  obtain⟨n,hn⟩:=h;refine⟨n, ?_⟩;induction n generalizing e σ with
  |zero=>exact hn.elim
  |succ n ih=>
   simp only[om]at hn⊢;have h1:=ad5 hT b hd ha hk hn;refine gu hT b _ _ (λx e' σ' hx=> ?_) e σ h1;obtain⟨hx1,hx2⟩:=hx;cases x with
   |normal=>exact ih _ _ hx1 hx2
   |exit i=>exact⟨hx1,hx2⟩
   |ret=>exact⟨hx1,hx2⟩
theorem bd8 {S:ai}{N:Nat}{fx:List Nat}{sk:SSk}{vals:List VV}{t:Tup sk.shs}(h:bm7 S N fx sk vals=Y t):sk.noRo=Za/\∃st,uc S N fx sk vals=Y st/\toL sk.shs t=st.ls:=by
 unfold bm7 at h;obtain⟨h1,h2⟩:=au h;obtain⟨st,h3,h4⟩:=ag h2;exact⟨h1,st,h3,bt7 h4⟩
theorem bd7 {S:ai}{N:Nat}{fx:List Nat}{vals:List Nat->List VV}{hit:XK->Bool}: ∀{l:List Alt} {s:ac1 l},af0 S N fx vals hit l=Y s->∃p,di6 l s=Y p/\hit p.1.x=Za/\bm7 S N fx p.1.sk (vals p.1.ts)=Y p.2
 |[],s,h=>by cases h
 |[a],s,h=>by
  simp only[af0]at h;cases hh:hit a.x with
  |false=>rw[hh]at h;cases h
  |true=>rw[hh]at h;exact⟨⟨a,s⟩,rfl,hh,h⟩
 |a::b::r,s,h=>by
  simp only[af0]at h;split at h
  .rename_i t ht;injection h with h
   subst h;cases hh:hit a.x with
   |false=>rw[hh]at ht;cases ht
   |true=>rw[hh]at ht;exact⟨⟨a,t⟩,rfl,hh,ht⟩
  .obtain⟨s',h1,h2⟩:=ag h;injection h2 with h2
   subst h2;obtain⟨p,h3,h4,h5⟩:=bd7 h1;exact⟨p,h3,h4,h5⟩
theorem XK.is_out {x:XK}{y:AExit}(h:x.is y=Za):x.out=y:=by
 cases x<;>cases y<;>simp only[XK.is]at h<;>first|rfl|(cases h;done)|skip
 rename_i i j;rw[show(XK.exit i).out=AExit.exit i from rfl,dB h]
theorem bu5 {c:Ctx}: ∀{ts:List Nat} {e:cz} {ea:cb} {vs:List VV},az c e ea->F2 (VRel c) vs (ts.map ea)->az c (cE5 e ts vs) ea
 |[],e,ea,vs,he,hf=>by
  cases hf;exact he
 |t::ts,e,ea,vs,he,hf=>by
  cases hf with
  |cons h1 h2=>
   have:=bu5 he h2;intro i;simp only[cE5,ac7];by_cases hi:i=t
   .subst hi;rw[zE rfl];exact h1
   .rw[zF hi];exact this i
theorem by6 : ∀{ts:List Nat} {e:cz} {t:Nat},sr (aZ0 e ts) t= .undef∨(t∉ts/\sr (aZ0 e ts) t=sr e t)
 |[],e,t=> .inr ⟨by simp,rfl⟩
 |a::ts,e,t=>by
  simp only[aZ0,ac7];by_cases h:t=a
  .rw[zE h];exact .inl rfl
  .rw[zF h];rcases by6 (ts:=ts) (e:=e) (t:=t)with h1|⟨h1,h2⟩
   .exact .inl h1
   .exact .inr ⟨by simp[h,h1],h2⟩
theorem bd5 {c:Ctx}{as:List Nat}{e:cz}{ea ea':cb}(he:az c e ea)(hk:xd as ea ea'):az c (aZ0 e as) ea':=by
 intro t;rcases by6 (ts:=as) (e:=e) (t:=t)with h|⟨h1,h2⟩
 .rw[h];exact .undef _
 .rw[h2,hk t h1];exact he t
theorem bK2 {c:Ctx}{e:cz}{ea:cb}(he:az c e ea): ∀ts:List Nat,F2 (VRel c) (ts.map (sr e)) (ts.map ea)
 |[]=> .nil
 |t::ts=> .cons (he t) (bK2 he ts)
theorem cr6 {β:Type}{c c1 c':Ctx}{e0:cz}{ea0 ea':cb}{fx mov asg:List Nat}{exits:List Alt}{s:ac1 exits}{k:AExit->cz->ai->Option β}{y:β}{e':cz}{x:AExit}(hR:ec c)(he0:az c e0 ea0)(hR':ec c')(hw:Within c c1 fx mov)(hR1:ec c1)(hle:Le c1 c')(hok:bI3 c.S fx=Za)
  (hke:xd asg ea0 ea') (he':az c' e' ea') (hd:af0 c'.S c.S.length fx (λts=>ts.map (sr e')) (λy=>y.is x) exits=Y s) (h:dC5 e0 c.S fx mov asg exits s k=Y y):xA c k y x ea' c'.σ:=by
 obtain⟨p,h1,h2,h3⟩:=bd7 hd;obtain⟨hro,st,h4,h5⟩:=bd8 h3;unfold dC5 at h;rw[cp2,h1]at h;simp only[zG]at h;rw[XK.is_out h2]at h;unfold bb0 at h;rw[h5]at h;cases he:vh id p.1.sk st.ls with
 |none=>rw[he]at h;cases h
 |some q=>
  obtain⟨vs,fs,bs⟩:=q;rw[he]at h;simp only[Bool.false_or]at h;cases hS:ad2 fx fs (nj fx mov (aO1 vs fs bs) 0 c.S)with
  |none=>rw[hS]at h;cases h
  |some S2=>
   rw[hS]at h;obtain⟨ct,g1,g2,g3,g4,g5⟩:=dD4 hR hR' hw hR1 hle hok hro h4 he (bK2 he' _) hS;refine⟨_,ct,g1,g3,g4,bu5 (bd5 (he0.frame g3) hke) g5, ?_⟩;rw[g2];exact h
theorem cK9 {S:ai}{fx:List Nat}:yH S (nj fx [] Za 0 S):=by
 refine⟨sm,λk=> ?_⟩;by_cases hk:k<S.length
 .rw[sj hk];simp only[sA,zD,bD];cases sA k fx with
  |true=>exact .inl rfl
  |false=>exact .inr rfl
 .rw[ad0 (by rw[sm];omega),ad0 (by omega)];exact .inl rfl
def el0 (c:Ctx)(e0:cz)(ea0:cb)(fx mov asg:List Nat)(ts:List Nat)(sk:SSk)(t:Tup sk.shs)(ea:cb)(σ:Hp):Prop:=
 ∃c1 e1,c1.σ=σ/\bb0 e0 c.S fx mov asg Za ts sk t=Y (e1,c1.S)/\ec c1/\az c1 e1 ea/\Within c c1 fx mov/\xd asg ea0 ea
theorem bW7 {e0 e1:cz}{S S1:ai}{fx mov asg ts:List Nat}{sk:SSk}{t:Tup sk.shs}(h:bb0 e0 S fx mov asg Za ts sk t=Y (e1,S1)): ∃vs fs bs S',vh id sk (toL sk.shs t)=Y (vs,fs,bs)/\ad2 fx fs (nj fx mov Za 0 S)=Y S'/\e1=cE5 (aZ0 e0 asg) ts vs/\S1=S'++bs:=by
 unfold bb0 at h;split at h
 .rename_i vs fs bs he;simp only[Bool.true_or]at h;split at h
  .rename_i S' hS;injection h with h
   injection h with h1 h2
   exact⟨vs,fs,bs,S',he,hS,h1.symm,h2.symm⟩
  .cases h
 .cases h
theorem bE3 {ops:List (AOper×List Nat)}: ∀{r:List LItem} {it:LItem} {t:Nat},it∈r->bB it.kind 2=Za->(cl ops it.i).dst=Y t->t∈be5 ops r
 |a::r,it,t,h,hk,ht=>by
  simp only[be5];rcases List.mem_cons.1 h with rfl|h
  .rw[hk,zC,ht];exact aD
  .have:=bE3 h hk ht;cases bB a.kind 2 with
   |false=>exact this
   |true=>exact List.mem_append.2 (.inr this)
theorem cf {α γ:Type}(f:α->Option (α⊕γ))(n:Nat)(a:α):ap f (n+1) a=(f a).bind λs=>aw s (ap f n) Y:=rfl
theorem bC1 {f:(AExit->cb->Hp->Prop)->cb->Hp->Prop}(hf: ∀(Q Q':AExit->cb->Hp->Prop),(∀x e σ,Q x e σ->Q' x e σ)->∀e σ,f Q e σ->f Q' e σ){Q:AExit->cb->Hp->Prop}:
  ∀(n m:Nat) (e:cb) (σ:Hp),n<=m->om f Q n e σ->om f Q m e σ
 |0,_,_,_,_,h=>h.elim
 |n+1,0,_,_,hm,_=>absurd hm (Nat.not_succ_le_zero _)
 |n+1,m+1,e,σ,hm,h=>by
  simp only[om]at h⊢;refine hf _ _ (λx e' σ' hx=> ?_) e σ h;cases x with
  |normal=>exact bC1 hf n m e' σ' (Nat.le_of_succ_le_succ hm) hx
  |exit id=>exact hx
  |ret=>exact hx
theorem bt2 {b:AC}(ih: ∀(at':AT) {β:Type} {y:β} {c:Ctx} {e:cz} {ea:cb} {k:AExit->cz->ai->Option β},ec c->az c e ea->eval tab b at' β e c.S k=Y y->wpA (ip tab) b (xA c k y) ea c.σ):
  ∀(at':AT) {β:Type} {y:β} {c:Ctx} {e:cz} {ea:cb} {k:AExit->cz->ai->Option β},ec c->az c e ea->bT3 (eval tab b) at' β e c.S k=Y y->om (wpA (ip tab) b) (xA c k y) at'.rounds ea c.σ
 | .n l r,β,y,c,e,ea,k,hR,he,h=>by
  simp only[bT3]at h;have h1:=ih l hR he h;simp only[AT.rounds,om];refine gu (bq tab) b _ _ (λx ea' σ' hx=> ?_) ea c.σ h1;obtain⟨e',c',h2,h3,h4,h5,h6⟩:=hx;subst h2;cases x with
  |normal=>exact bc5 (gu (bq tab) b) (λx ea'' σ'' hp=>xf.of h3 hp) _ _ _ (bt2 ih r h4 h5 h6)
  |exit i=>exact⟨e',c',rfl,h3,h4,h5,h6⟩
  |ret=>exact⟨e',c',rfl,h3,h4,h5,h6⟩
 | .sz m l r,β,y,c,e,ea,k,hR,he,h=>by
  simp only[bT3]at h;simp only[AT.rounds];cases hm:bB m c.S.length with
  |true=>
   rw[hm]at h;exact bC1 (gu (bq tab) b) _ _ _ _ (Nat.le_add_right _ _) (bt2 ih l hR he h)
  |false=>
   rw[hm]at h;exact bC1 (gu (bq tab) b) _ _ _ _ (Nat.le_add_left _ _) (bt2 ih r hR he h)
 | .no,_,_,_,_,_,_,_,_,h=>by cases h
 | .lp _ _ _ _,_,_,_,_,_,_,_,_,h=>by cases h
 | .jn _ _ _ _ _,_,_,_,_,_,_,_,_,h=>by cases h
 | .dr _,_,_,_,_,_,_,_,_,h=>by cases h
theorem wK : ∀(ac:AC) (at':AT) {β:Type} {y:β} {c:Ctx} {e:cz} {ea:cb} {k:AExit->cz->ai->Option β},ec c->az c e ea->eval tab ac at' β e c.S k=Y y->wpA (ip tab) ac (xA c k y) ea c.σ
 | .skip,_,_,_,c,e,ea,k,hR,he,h=>⟨e,c,rfl,Le.refl c,hR,he,h⟩
 | .exit i,_,_,_,c,e,ea,k,hR,he,h=>⟨e,c,rfl,Le.refl c,hR,he,h⟩
 | .ret,_,_,_,c,e,ea,k,hR,he,h=>⟨e,c,rfl,Le.refl c,hR,he,h⟩
 | .region ops,_,_,_,c,e,ea,k,hR,he,h=>bR7 hR he h
 | .sched its,_,_,_,c,e,ea,k,hR,he,h=>bm8 hR he .nil h
 | .draw ops,at',_,y,c,e,ea,k,hR,he,h=>by
  simp only[eval]at h;split at h
  .rename_i L _;obtain⟨hg,h⟩:=au h;rw[aB]at hg;refine cq8 hR ops.length (pd:=λ_=>0) hg.1 ⟨Le.refl c,hR,bd5 he (xd.refl _ ea), .nil,rfl,rfl,λb=>⟨.inl,λh=> ?_⟩,List.nodup_nil,(λ_ _ h=>by cases h),(λ_ h=>by cases h),(λ_ h=>by cases h),λit hit hk t ht=> ?_,hg.2⟩ h
   .rcases h with h|⟨_,h,_⟩
    .exact h
    .cases h
   .rcases @by6 (be5 ops (aL5 ops L L [])) e t with h1|⟨h1,_⟩
    .exact h1
    .exact(h1 (bE3 hit hk ht)).elim
  .cases h
 | .seq a b,at',β,y,c,e,ea,k,hR,he,h=>by
  have plain: ∀l r,(eval tab a l β e c.S λx e' S'=>match x with
    | .normal=>eval tab b r β e' S' k
    |x=>k x e' S')=Y y->wpA (ip tab) (.seq a b) (xA c k y) ea c.σ:=by
   intro l r h1;refine gu (bq tab) a _ _ (λx ea' σ' hx=> ?_) ea c.σ (wK a l hR he h1);obtain⟨e',c',h2,h3,h4,h5,h6⟩:=hx;subst h2;cases x with
   |normal=>exact gu (bq tab) b _ _ (λx ea'' σ'' hp=>xf.of h3 hp) _ _ (wK b r h4 h5 h6)
   |exit i=>exact⟨e',c',rfl,h3,h4,h5,h6⟩
   |ret=>exact⟨e',c',rfl,h3,h4,h5,h6⟩
  simp only[eval]at h;split at h
  .rename_i fx mov exits l r _;obtain⟨hg,h⟩:=au h;rw[aB]at hg;obtain⟨s,h1,h2⟩:=ag h;have hfz:yH c.S (nj (fx++mov) [] Za 0 c.S):=cK9;have hR1:ec ⟨c.μ,nj (fx++mov) [] Za 0 c.S,c.σ,c.fb⟩:=hfz.rel hR
   have hw:Within c ⟨c.μ,nj (fx++mov) [] Za 0 c.S,c.σ,c.fb⟩ fx mov:=by
    refine⟨hfz.le,λq hq hn hm=> ?_,λ_ _ _ _ _ _ _ _ hy=>hy⟩;show ae (nj (fx++mov) [] Za 0 c.S) q=_;rw[sj hq];simp only[sA,zD,bD];rcases hm with hm|hz
    .rw[nk (by simp[hn,hm])];rfl
    .cases sA q (fx++mov)with
     |true=>exact(aC8 hz).symm
     |false=>rfl
   have h3:=ad5 (bq tab) (as:=po a) (e0:=ea) a hg.2 (λt ht=>ht) (xd.refl _ ea) (wK a l (c:=⟨c.μ,nj (fx++mov) [] Za 0 c.S,c.σ,c.fb⟩) hR1 (he.frame hfz.le) h1);refine gu (bq tab) a _ _ (λx ea' σ' hx=> ?_) ea c.σ h3;obtain⟨hk,e',c',h4,h5,h6,h7,h8⟩:=hx;subst h4;have h9:=cr6 hR he h6 hw hR1 h5 hg.1 hk h7 h8 h2;cases x with
   |normal=>
    obtain⟨e2,c2,g1,g2,g3,g4,g5⟩:=h9;rw[<-g1];exact gu (bq tab) b _ _ (λx ea'' σ'' hp=>xf.of g2 hp) _ _ (wK b r g3 g4 g5)
   |exit i=>exact h9
   |ret=>exact h9
  .exact plain _ _ h
  .exact plain _ _ h
 | .cond t a b,at',β,y,c,e,ea,k,hR,he,h=>by
  simp only[eval]at h;split at h
  .rename_i p hp;have ht:=bt he t;rw[hp]at ht;have ht:=ht.bool_inv
   have key: ∀(e1 e2:cz) (l r:AT),az c e1 ea∨p=Zb->az c e2 ea∨p=Za->cond p (eval tab a l β e1 c.S k) (eval tab b r β e2 c.S k)=Y y->wpA (ip tab) (.cond t a b) (xA c k y) ea c.σ:=by
    intro e1 e2 l r h1 h2 h3;simp only[wpA,ht];cases p with
    |true=>
     rcases h1 with h1|h1
     .exact wK a l hR h1 h3
     .cases h1
    |false=>
     rcases h2 with h2|h2
     .exact wK b r hR h2 h3
     .cases h2
   have pb: ∀(i:Nat),t= .tmp i->(az c (vI e i (.bool Za)) ea∨p=Zb)/\(az c (vI e i (.bool Zb)) ea∨p=Za):=by
    intro i hi;subst hi;have:=cE4 he hp;cases p with
    |true=>exact⟨.inl this, .inr rfl⟩
    |false=>exact⟨.inr rfl, .inl this⟩
   split at h
   .exact key _ _ _ _ (pb _ rfl).1 (pb _ rfl).2 h
   .exact key _ _ _ _ (pb _ rfl).1 (pb _ rfl).2 h
   .exact key _ _ _ _ (.inl he) (.inl he) h
   .exact key _ _ _ _ (.inl he) (.inl he) h
  .cases h
 | .block id b,at',β,y,c,e,ea,k,hR,he,h=>by
  simp only[eval]at h;refine gu (bq tab) b _ _ (λx ea' σ' hx=> ?_) ea c.σ (wK b _ hR he h);obtain⟨e',c',h2,h3,h4,h5,h6⟩:=hx;cases x with
  |normal=>exact⟨e',c',h2,h3,h4,h5,h6⟩
  |ret=>exact⟨e',c',h2,h3,h4,h5,h6⟩
  |exit i=>
   simp only at h6⊢;cases hi:bB i id with
   |true=>
    rw[hi]at h6;rw[zE (dB hi)];exact⟨e',c',h2,h3,h4,h5,h6⟩
   |false=>
    rw[hi]at h6;rw[zF (λe=>by rw[e,Nat.beq_refl]at hi;cases hi)];exact⟨e',c',h2,h3,h4,h5,h6⟩
 | .loop b,at',β,y,c,e,ea,k,hR,he,h=>by
  simp only[eval]at h;split at h
  .rename_i fx head exits l _;obtain⟨hg,h⟩:=au h;rw[aB,aB]at hg;obtain⟨⟨g1,g2⟩,g3⟩:=hg;split at h
   .rename_i st hd;obtain⟨t0,h1,h⟩:=ag h;obtain⟨s,h2,h3⟩:=ag h
    have round: ∀(n:Nat) (t:Tup head.sk.shs) (ea1:cb) (σ1:Hp),el0 c e ea fx (ud st.m) (po b) head.ts head.sk t ea1 σ1->ap (λt=>match bb0 e c.S fx (ud st.m) (po b) Za head.ts head.sk t with
      |some (e1,S1)=>eval tab b l (Tup head.sk.shs⊕ac1 exits) e1 S1 λx e' S'=>(match x with
       | .normal=>(bm7 S' c.S.length fx head.sk (head.ts.map (sr e'))).bind λt=>Y (.inl t)
       |x=>(af0 S' c.S.length fx (λts=>ts.map (sr e')) (λy=>y.is x) exits).bind λs=>Y (.inr s))
      |none=>Z) n t=Y s->om (wpA (ip tab) b) (xA c k y) n ea1 σ1:=by
     intro n;induction n with
     |zero=>intro t ea1 σ1 _ hl;cases hl
     |succ n ih=>
      intro t ea1 σ1 hH hl;rw[cf]at hl;obtain⟨z,hl1,hl2⟩:=ag hl;obtain⟨c1,e1,q1,q2,q3,q4,q5,q6⟩:=hH;subst q1;rw[q2]at hl1;simp only at hl1;have h4:=ad5 (bq tab) (as:=po b) (e0:=ea) b g3 (λt ht=>ht) q6 (wK b l q3 q4 hl1);simp only[om];refine gu (bq tab) b _ _ (λx ea' σ' hx=> ?_) ea1 c1.σ h4;obtain⟨hk,e',c',h5,h6,h7,h8,h9⟩:=hx;subst h5;cases x with
      |normal=>
       simp only at h9⊢;obtain⟨t',h10,h11⟩:=ag h9;injection h11 with h11
       subst h11;simp only[aw]at hl2;refine ih t' ea' c'.σ ?_ hl2;obtain⟨hro,st',h12,h13⟩:=bd8 h10
       have hset: ∃e2 S2,bb0 e c.S fx (ud st.m) (po b) Za head.ts head.sk t'=Y (e2,S2):=by
        cases n with
        |zero=>cases hl2
        |succ n=>
         rw[cf]at hl2;obtain⟨z',hl3,_⟩:=ag hl2;cases hz:bb0 e c.S fx (ud st.m) (po b) Za head.ts head.sk t' with
         |none=>rw[hz]at hl3;cases hl3
         |some q=>exact⟨q.1,q.2,rfl⟩
       obtain⟨e2,S2,hset⟩:=hset;obtain⟨vs,fs,bs,S3,r1,r2,r3,r4⟩:=bW7 hset;rw[h13]at r1;obtain⟨ct,u1,u2,u3,u4,u5,u6,u7,u8⟩:=dL6 hR h7 q5 q3 h6 g2 hro h12 r1 (bK2 h8 _) r2;refine⟨ct,e2,u1,by rw[hset,r4,u2],u6, ?_,cj0 u5 r2 u2 λq hq hn hm hdm b' y' hb hy=> ?_,hk⟩
       .rw[r3];exact bu5 (bd5 (he.frame u5) hk) u7
       .refine(u8 q hq hn ?_).2 b' y' hb hy;obtain⟨v1,v2,v3,_⟩:=ob r2;rw[sm]at v2;rw[u2,sX (by rw[v2];exact hq),v3 q hn,sj hq,bD,nk hn];rcases hm with hm|hz
        .rw[nk hm,zD,zD,zC,gb];exact hdm
        .rw[hz];cases sA q (ud st.m)with
         |true=>exact hdm
         |false=>rw[zD,zD,zC,gb];exact hdm
      |exit i=>
       simp only at h9⊢;obtain⟨s',h10,h11⟩:=ag h9;injection h11 with h11
       subst h11;simp only[aw]at hl2;injection hl2 with hl2
       subst hl2;exact cr6 hR he h7 q5 q3 h6 g2 hk h8 h10 h3
      |ret=>
       simp only at h9⊢;obtain⟨s',h10,h11⟩:=ag h9;injection h11 with h11
       subst h11;simp only[aw]at hl2;injection hl2 with hl2
       subst hl2;exact cr6 hR he h7 q5 q3 h6 g2 hk h8 h10 h3
    refine⟨fy,round fy t0 ea c.σ ?_ h2⟩
    have hset: ∃e2 S2,bb0 e c.S fx (ud st.m) (po b) Za head.ts head.sk t0=Y (e2,S2):=by
     have hb:fy=(fy-1)+1:=rfl;rw[hb,cf]at h2;obtain⟨z',hl3,_⟩:=ag h2;cases hz:bb0 e c.S fx (ud st.m) (po b) Za head.ts head.sk t0 with
     |none=>rw[hz]at hl3;cases hl3
     |some q=>exact⟨q.1,q.2,rfl⟩
    obtain⟨e2,S2,hset⟩:=hset;obtain⟨vs,fs,bs,S3,r1,r2,r3,r4⟩:=bW7 hset;rw[bt7 h1]at r1;obtain⟨ct,u1,u2,u3,u4,u5,u6,u7⟩:=db9 hR g2 g1 hd r1 (bK2 he _) r2;refine⟨ct,e2,u1,by rw[hset,r4,u2],u6, ?_,cj0 u5 r2 u2 λq hq hn hm hdm b' y' hb hy=>by rw[u1];exact hy,xd.refl _ _⟩;rw[r3];exact bu5 (bd5 (he.frame u5) (xd.refl _ _)) u7
   .cases h
  .exact⟨_,bt2 (λat'' {β y c e ea k} hR he h=>wK b at'' hR he h) at' hR he h⟩
end
end
section
open Nat renaming le_of_ble_eq_true -> aB, zero_add -> aD
theorem bK3 {c:Ctx}{e:cz}{ea:cb}(hR:ec c)(he:az c e ea): ∀{rs:List ARes} {vs:List VV},bu8 e c.S rs=Y vs->∃us,bA7 ea c.σ rs=Y us/\F2 (VRel c) vs us
 |[],vs,h=>by injection h with h;subst h;exact⟨[],rfl, .nil⟩
 |r::rs,vs,h=>by
  simp only[bu8]at h;obtain⟨v,h1,h⟩:=ag h;obtain⟨vs',h2,h⟩:=ag h;injection h with h
  subst h;obtain⟨us,h3,h4⟩:=bK3 hR he h2
  have key: ∃u,bU9 ea c.σ r=Y u/\VRel c v u:=by
   cases r with
   |tmp t=>
    simp only[dG6]at h1;injection h1 with h1
    subst h1;exact⟨_,rfl,he t⟩
   |cell t=>
    simp only[dG6]at h1;split at h1
    .rename_i b o hp;split at h1
     .rename_i es z l hb;have ht:=he t;rw[hp]at ht;cases ht with
      |ptr hk _ hd=>
       have hdim:(ae c.S b).dim=Y (es,l.length):=by rw[hb];rfl
       obtain⟨bb,hm,ha⟩:=hd _ hdim;have hs:=hR.stands hdim hm;rw[hb]at hs;obtain⟨y,a,h5,h6,h7⟩:=hs.get h1;refine⟨a, ?_,h7⟩;rw[aD]at h6;simp only[bU9,ha,h5,zG,h6]
     .cases h1
    .cases h1
   |cellN t n=>
    simp only[dG6]at h1;split at h1
    .rename_i b o hp;split at h1
     .rename_i es z l hb;cases hc:Nat.ble (o+n) l.length with
      |false=>rw[hc]at h1;cases h1
      |true=>
       rw[hc]at h1;injection h1 with h1
       subst h1;have ht:=he t;rw[hp]at ht;cases ht with
       |ptr hk _ hd=>
        have hdim:(ae c.S b).dim=Y (es,l.length):=by rw[hb];rfl
        obtain⟨bb,hm,ha⟩:=hd _ hdim;have hs:=hR.stands hdim hm;rw[hb]at hs;obtain⟨y,as,h5,h6,h7⟩:=hs.read (aB hc);rw[aD]at h6;refine⟨.agg as.toArray, ?_, .agg (by simp only[Blk.vals]at h7;simpa using h7)⟩;simp only[bU9,ha,h5,zG,h6,Option.map_some]
     .cases h1
    .cases h1
  obtain⟨u,h5,h6⟩:=key;exact⟨u::us,by simp only[bA7,h5,h3], .cons h6 h4⟩
theorem cv0 {c:Ctx}{vs:List VV}{us:List Value}(h:F2 (VRel c) vs us):VRel c (cH4 vs) (au9 us):=by
 cases h with
 |nil=>exact .tup .nil
 |cons h1 h2=>
  cases h2 with
  |nil=>exact h1
  |cons h2 h3=>exact .tup (by simpa using F2.cons h1 (F2.cons h2 h3))
theorem bP4 {c:Ctx}{vs:List VV}{as:List Value}(h:F2 (VRel c) vs as):az c vs (cb.of as):=by
 intro t
 have hg: ∀(l:List VV) (i:Nat),sr l i=(l[i]?).getD .undef:=by
  intro l;induction l with
  |nil=>intro i;simp[sr]
  |cons a l ih=>intro i;cases i with
   |zero=>simp[sr]
   |succ i=>simp[sr,ih]
 rw[hg];unfold cb.of;cases hv:vs[t]? with
 |none=>exact .undef _
 |some v=>
  obtain⟨a,h1,h2⟩:=h.get t v hv;rw[h1];exact h2
theorem bQ0 : ∀{n q:Nat},q<n->q∈bP9 n
 |n+1,q,h=>by
  by_cases e:q=n
  .subst e;exact List.mem_cons_self
  .exact List.mem_cons_of_mem _ (bQ0 (by omega))
theorem dt8 {P:Program}{f:FuncId}{tab:Tab}{vals:List Sk}{objs:List OSk}{outs:List Alt}{at':AT}{run:Tup (SSk.shs ⟨vals,[],objs⟩)->Option (ac1 outs)}(ht:lx P tab.fs)(hi:aa P tab.is)
  (he: ∀t o,run t=Y o->bR8 P f tab vals objs outs at' t=Y o):an6 P ⟨f,vals,objs,outs,run⟩:=by
 intro B μ σ w args cargs K hs hR0 ha;obtain⟨c,vals',st,t,o,p,v,fs,bs,S',h1,hR,hf,hd,hl,hcut,hok,hrun,hp,henc,hS,hK⟩:=hs;subst h1;have hev:=he t o hrun;unfold bR8 at hev;split at hev
 .rename_i af vs fs0 S0 htr hen;obtain⟨hg,hev⟩:=au hev;refine cT7 htr (bq tab) (bb6 ht hi) B μ c.σ w args cargs K ?_ hR0 ha;have htl:toL (SSk.shs ⟨vals,[],objs⟩) t=st.ls:=bt7 hl;rw[htl]at hen;obtain⟨hE,hfv⟩:=enter hR rfl hd hen hf;have hlen:args.length<=af.ntmps:=by rw[<-hfv.length];exact aB hg
  refine⟨hlen, ?_⟩;obtain⟨l1,l2⟩:=hE.len;have hbody:=wK af.body at' (c:=rz c st S0) hE.rel (bP4 hfv) hev;refine gu (bq tab) af.body _ _ (λx ea σ' hx=> ?_) _ _ hbody;obtain⟨e',c',h2,h3,h4,h5,h6⟩:=hx;subst h2
  have fin:(match bu8 e' c'.S af.results with
    |some rs=>af0 c'.S S0.length (yy objs 0) (λ_=>[cH4 rs]) (λ_=>Za) outs
    |none=>Z)=Y o->(match bA7 ea c'.σ af.results with
    |some vs=>K (au9 vs) c'.σ
    |none=>False):=by
   intro h7;split at h7
   .rename_i rs hrs;obtain⟨us,h8,h9⟩:=bK3 h4 h5 hrs;rw[h8];simp only;obtain⟨p',q1,_,q3⟩:=bd7 h7;simp only at hp;rw[hp]at q1;injection q1 with q1
    subst q1;obtain⟨hro,st',q4,q5⟩:=bd8 q3;obtain⟨ap1,_⟩:=vg hd;have hnd:=vd ap1;rw[List.nil_append]at hnd;simp only at henc hS hcut hok;rw[q5]at henc
    have hlent: ∀(i:Nat) (o:OSk) (x:Src),objs[i]?=Y o->o.ro=Za->st.m[i]?=Y (Y x)->x.k∈st.lent:=by
     intro i o x g1 g2 g3;unfold uc at hd;obtain⟨st1,d1,hd⟩:=ag hd;obtain⟨st2,d2,hd⟩:=ag hd;obtain⟨st3,d3,hd⟩:=ag hd
     have:st3=st:=by
      cases hb:(bk1 ([]++ud st3.m)&&aL2 ([]++oc (FSum.ins ⟨f,vals,objs,outs,run⟩).free st3.m) st3.lent)with
      |false=>rw[hb]at hd;cases hd
      |true=>rw[hb]at hd;injection hd
     subst this;exact ct6 d3 i o x g1 g2 (by rw[aD];exact g3)
    obtain⟨ct,r1,r2,r3,r4,r5,r6⟩:=bV0 hR rfl hE h3 h4 hcut hok hnd hlent hro (by rw[<-l1];exact q4) henc (.cons (cv0 h9) .nil) hS;cases r5 with
    |cons r5 _=>exact hK _ _ ⟨ct,r1,r2,r3,r4,r5,r6⟩
   .cases h7
  cases x with
  |exit i=>cases h6
  |normal=>exact fin h6
  |ret=>exact fin h6
 .cases hev
theorem bj {P:Program}{f:FuncId}{tab:List FSum}{ins:List Inl}{vals:List Sk}{objs:List OSk}{outs:List Alt}{at':AT}{run:Tup (SSk.shs ⟨vals,[],objs⟩)->Option (ac1 outs)}(ht:lx P tab)(hi:aa P ins)
  (he: ∀t,bR8 P f ⟨tab,ins⟩ vals objs outs at' t=run t):an6 P ⟨f,vals,objs,outs,run⟩:=dt8 (tab:=⟨tab,ins⟩) ht hi λt o h=>(he t).trans h
theorem dt7 {P:Program}{f:FuncId}{tab:List FSum}{vals:List Sk}{objs:List OSk}{outs:List Alt}{at':AT}{run:Tup (SSk.shs ⟨vals,[],objs⟩)->Option (ac1 outs)}(ht:lx P tab)
  (he: ∀t,bR8 P f ⟨tab,[]⟩ vals objs outs at' t=run t):an6 P ⟨f,vals,objs,outs,run⟩:=bj ht (aa.nil P) he
theorem am {P:Program}{f:FuncId}{tab:List FSum}{ins:List Inl}{at':AT}(ht:lx P tab)(hi:aa P ins):cK3 P ⟨f,bl P f ⟨tab,ins⟩ at'⟩:=by
 intro B μ σ w args cargs K hs hR0 ha;obtain⟨β,y,c,vals,k,h1,hR,hf,hev,hK⟩:=hs;subst h1;simp only[bl]at hev;split at hev
 .rename_i af htr;obtain⟨hg,hev⟩:=au hev;refine cT7 htr (bq ⟨tab,ins⟩) (bb6 (tab:=⟨tab,ins⟩) ht hi) B μ c.σ w args cargs K ?_ hR0 ha;have hlen:args.length<=af.ntmps:=by rw[<-hf.length];exact aB hg
  refine⟨hlen, ?_⟩;have hbody:=wK af.body at' (c:=c) hR (bP4 hf) hev;refine gu (bq ⟨tab,ins⟩) af.body _ _ (λx ea σ' hx=> ?_) _ _ hbody;obtain⟨e',c',h2,h3,h4,h5,h6⟩:=hx;subst h2
  have fin:(match bu8 e' c'.S af.results with
    |some rs=>k (cH4 rs) c'.S
    |none=>Z)=Y y->(match bA7 ea c'.σ af.results with
    |some vs=>K (au9 vs) c'.σ
    |none=>False):=by
   intro h7;split at h7
   .rename_i rs hrs;obtain⟨us,h8,h9⟩:=bK3 h4 h5 hrs;rw[h8];exact hK _ _ ⟨cH4 rs,c',rfl,h3,h4,λq hq hn=>(hn (bQ0 hq)).elim,cv0 h9,h7⟩
   .cases h7
  cases x with
  |exit i=>cases h6
  |normal=>exact fin h6
  |ret=>exact fin h6
 .cases hev
def bn2 :List Alt:=[⟨.ret,[],⟨[.leaf .bool],[],[]⟩⟩]
def zw (σ:Hp):Ctx:=⟨λ_=>Z,[],σ,λ_=>False⟩
theorem cN7 {σ:Hp}(h:σ.Ok):ec (zw σ):=
 ⟨h,λk k' b hz _ _ _=>(by cases hz),λk d hd=>(by cases hd),λk b hd=>(hd rfl).elim,λb hb=>hb.elim⟩
theorem bn1 {σ:Hp}(b:Nat): ¬(zw σ).mut b:=by
 rintro(⟨k,h,_⟩|h)
 .cases h
 .exact h
theorem dn8 {P:Program}{f:FuncId}{vals:List Sk}{run:Tup (SSk.shs ⟨vals,[],[]⟩)->Option (ac1 bn2)}(h:an6 P ⟨f,vals,[],bn2,run⟩){w:World}(hT:cZ8 P w){rows:List Row}{args:List Value}{cargs:Array Value}{vs:List VV}{st:DSt}{t:Tup (SSk.shs ⟨vals,[],[]⟩)}
  (hrows: ∀r∈rows,∀(i:Nat) (v:Value),r.cells[i]?=Y v->∃v',w.cell? ⟨r.c,r.o+i,Z⟩=Y v'/\VR (sW rows) v v') (hargs:F2 (VR (sW rows)) args cargs.toList)
  (hv:F2 (VRel (zw (su w.heap.size rows))) vs args) (hd:uc [] 0 [] ⟨vals,[],[]⟩ vs=Y st) (hl:ofL _ st.ls=Y t) (hr:run t=Y Za):
  Calls P f cargs w λe w'=>e= .returned (.bool Za)/\Go.RowKit.Below w.heap.size w w':=by
 have hm:st.m=[]:=by
  unfold uc at hd;obtain⟨st1,d1,hd⟩:=ag hd;obtain⟨st2,d2,hd⟩:=ag hd;obtain⟨st3,d3,hd⟩:=ag hd
  have:st3=st:=by
   cases hb:(bk1 ([]++ud st3.m)&&aL2 ([]++oc ([]:List OSk) st3.m) st3.lent)with
   |false=>rw[hb]at hd;cases hd
   |true=>rw[hb]at hd;injection hd
  subst this;simp only[yv]at d3;cases hb:Nat.beq 0 st2.m.length with
  |false=>rw[hb]at d3;cases d3
  |true=>
   rw[hb]at d3;injection d3 with d3
   subst d3;exact List.length_eq_zero_iff.1 (Nat.eq_of_beq_eq_true hb).symm
 refine dR0 (S:=(FSum.mk f vals [] bn2 run).spec) h hT hrows hargs ?_;refine⟨zw (su w.heap.size rows),vs,st,t,Za,⟨⟨.ret,[],⟨[.leaf .bool],[],[]⟩⟩,Za⟩, .bool Za,[],[],cond (aO1 [.bool Za] [] []) (aO4 st.lent []) [],rfl,cN7 dH0,hv,hd,hl,by rw[hm];rfl,by rw[hm];rfl,hr,rfl,rfl,by rw[hm];rfl, ?_⟩;rintro r σ' ⟨ct,_,_,_,_,hrel,_⟩;exact hrel.bool_inv
end
section
theorem dd6 {α γ:Type}{f:α->Option (α⊕γ)}(I:α->Prop)(m:α->Nat)(Q:γ->Prop)(h: ∀a,I a->(∃b,f a=Y (.inl b)/\I b/\m b<m a)∨∃c,f a=Y (.inr c)/\Q c): ∀(n:Nat) (a:α),I a->m a<n->∃c,ap f n a=Y c/\Q c:=by
 intro n;induction n with
 |zero=>intro a _ h1;omega
 |succ n ih=>
  intro a hI hm;rcases h a hI with⟨b,h1,h2,h3⟩|⟨c,h1,h2⟩
  .obtain⟨c,h4,h5⟩:=ih b h2 (by omega);exact⟨c,by rw[cf,h1];exact h4,h5⟩
  .exact⟨c,by rw[cf,h1];rfl,h2⟩
theorem ac8 {α γ:Type}{f:α->Option (α⊕γ)}{a:α}(I:α->Prop)(m:α->Nat)(Q:γ->Prop)(h0:I a)(hm:m a<18446744073709551616)(h: ∀a,I a->(∃b,f a=Y (.inl b)/\I b/\m b<m a)∨∃c,f a=Y (.inr c)/\Q c): ∃c,ap f fy a=Y c/\Q c:=
 dd6 I m Q h fy a h0 hm
theorem cV4 {α γ:Type}{f:α->Option (α⊕γ)}{a:α}{c:γ}(I:α->Prop)(m:α->Nat)(h0:I a)(hm:m a<18446744073709551616)(h: ∀a,I a->(∃b,f a=Y (.inl b)/\I b/\m b<m a)∨f a=Y (.inr c)):ap f fy a=Y c:=by
 obtain⟨c',h1,h2⟩:=ac8 I m (· =c) h0 hm λa ha=>by
  rcases h a ha with h|h
  .exact .inl h
  .exact .inr ⟨c,h,rfl⟩
 rw[h1,h2]
theorem ak {α:Type}{p:Prop}[Decidable p]{x y:α}:cond (decide p) x y=if p then x else y:=by by_cases h:p<;>simp[h]
theorem cm {β:Type}{x:Option β}:gd Za x=x:=rfl
theorem dQ2 {β:Type}{p:Prop}[Decidable p]{x:Option β}(h:p):gd (decide p) x=x:=by rw[zB h];rfl
theorem ck {β:Type}{n b:Nat}{x:Option β}(h:n*b<=140737488355328)(hb:1<=b):gd (mj n b) x=x:=by
 have:mj n b=Za:=by
  unfold mj;rw[zB h,Bool.true_and];exact Nat.ble_eq_true_of_le hb
 rw[this];rfl
theorem dq {α:Type}{l:List α}{i:Nat}(h:i<l.length):rd l (i:Int)=Y l[i]:=by
 unfold rd;rw[zB (by omega),zC,Int.toNat_natCast,List.getElem?_eq_getElem h]
theorem ad {n:Int}(h: -9223372036854775808<=n/\n<=9223372036854775807):IntKind.i64.wrap n=n:=IntWalk.i64_in _ h
theorem kn {α γ β:Type}{a:α}{f:α->Option β}{g:γ->Option β}:aw (.inl a) f g=f a:=rfl
theorem bg {α γ β:Type}{a:γ}{f:α->Option β}{g:γ->Option β}:aw (.inr a) f g=g a:=rfl
theorem bC6.lst {k:IntKind}{w:World}{a:Option Addr}{len cap:Nat}{zs:Zd}{rows:List Row}{j:Nat}(h:bC6 k w a len cap zs)(hr:rows[j]?=Y (bu9 k a cap zs)):
  VRel (zw (su w.heap.size rows)) (.lst (.int k) (zs.take len)) (dt9 j a len cap):=by
 rcases h with⟨rfl,rfl,rfl,rfl⟩|⟨x,rfl,hl,hm,hz,hc,hw⟩
 .exact .lstn λz hz=>by cases hz
 .by_cases h0:cap=0
  .have:len=0:=by omega
   subst h0;subst this;have:zs.take 0=([]:Zd):=rfl;rw[this];exact .lstn λz hz=>by injection hz with hz;rw[<-hz]
  .have hz0:0<zs.length:=by omega
   have hlt:x.block<w.heap.size:=cp6 (x:=⟨x.block,x.off+0,Z⟩) (ao1 (bf8 (hc 0 hz0)) (hc 0 hz0))
   have hm:(su w.heap.size rows).m j=Y ⟨zs.map (Value.int k),Zb,1⟩:=by
    simp only[su,hr,zG,bu9,zE hlt]
   refine .lst (bn1 j) hm rfl (by rw[List.length_take];omega) hl ?_ ?_
   .simp only[List.length_map,Nat.zero_add];show len*1<=zs.length;omega
   .rw[List.drop_zero];show F2 _ _ ((zs.map (Value.int k)).take (len*1));rw[Nat.mul_one,<-List.map_take];generalize zs.take len=l;induction l with
    |nil=>exact .nil
    |cons n l ih=>exact .cons (.int _ _) ih
end
section
def aZ4 (a:AFn)(tab:Tab)(vals:List Sk)(objs:List OSk)(outs:List Alt)(at':AT)(t:Tup (SSk.shs ⟨vals,[],objs⟩)):Option (ac1 outs):=
 match vh id ⟨vals,[],objs⟩ (toL _ t)with
 |some (vs,_,S)=>gd (Nat.ble vs.length a.ntmps) (eval tab a.body at' (ac1 outs) vs S λx e S'=>match x with
  | .exit _=>Z
  |_=>(match bu8 e S' a.results with
   |some rs=>af0 S' S.length (yy objs 0) (λ_=>[cH4 rs]) (λ_=>Za) outs
   |none=>Z))
 |_=>Z
theorem cd4 {P:Program}{f:FuncId}{af:AFn}{tab:Tab}{vals:List Sk}{objs:List OSk}{outs:List Alt}{at':AT}{run:Tup (SSk.shs ⟨vals,[],objs⟩)->Option (ac1 outs)}(ht:lx P tab.fs)(hi:aa P tab.is)(htr:cH2 P f=Y af)(hen0: ∀t:Tup (SSk.shs ⟨vals,[],objs⟩),∃r,vh id ⟨vals,[],objs⟩ (toL _ t)=Y r)
  (he: ∀t o vs fs S,run t=Y o->vh id ⟨vals,[],objs⟩ (toL _ t)=Y (vs,fs,S)->∀(c:Ctx) args,F2 (VRel c) vs args->
   ∃b,aZ4 ⟨af.ntmps,af.results,b⟩ tab vals objs outs at' t=Y o/\∀T (_:xe T) Q σ,wpA T b Q (cb.of args) σ->wpA T af.body Q (cb.of args) σ):an6 P ⟨f,vals,objs,outs,run⟩:=by
 intro B μ σ w args cargs K hs hR0 ha;obtain⟨c,vals',st,t,o,p,v,fs,bs,S',h1,hR,hf,hd,hl,hcut,hok,hrun,hp,henc,hS,hK⟩:=hs;subst h1;have htl:toL (SSk.shs ⟨vals,[],objs⟩) t=st.ls:=bt7 hl;cases hen:vh id ⟨vals,[],objs⟩ (toL (SSk.shs ⟨vals,[],objs⟩) t)with
 |none=>
  obtain⟨r,q⟩:=hen0 t;rw[hen]at q;cases q
 |some tr=>
 obtain⟨vs,fs0,S0⟩:=tr;refine cT7 htr (bq tab) (bb6 ht hi) B μ c.σ w args cargs K ?_ hR0 ha;have hen':=hen;rw[htl]at hen;obtain⟨hE,hfv⟩:=enter hR rfl hd hen hf;obtain⟨bd,hev,himp⟩:=he t o vs fs0 S0 hrun hen' _ _ hfv;unfold aZ4 at hev;rw[hen']at hev;obtain⟨hg,hev⟩:=au hev;have hlen:args.length<=af.ntmps:=by rw[<-hfv.length];exact Nat.le_of_ble_eq_true hg
 refine⟨hlen,himp _ (bq tab) _ _ ?_⟩;obtain⟨l1,l2⟩:=hE.len;have hbody:=wK bd at' (c:=rz c st S0) hE.rel (bP4 hfv) hev;refine gu (bq tab) bd _ _ (λx ea σ' hx=> ?_) _ _ hbody;obtain⟨e',c',h2,h3,h4,h5,h6⟩:=hx;subst h2
 have fin:(match bu8 e' c'.S af.results with
   |some rs=>af0 c'.S S0.length (yy objs 0) (λ_=>[cH4 rs]) (λ_=>Za) outs
   |none=>Z)=Y o->(match bA7 ea c'.σ af.results with
   |some vs=>K (au9 vs) c'.σ
   |none=>False):=by
  intro h7;split at h7
  .rename_i rs hrs;obtain⟨us,h8,h9⟩:=bK3 h4 h5 hrs;rw[h8];simp only;obtain⟨p',q1,_,q3⟩:=bd7 h7;simp only at hp;rw[hp]at q1;injection q1 with q1
   subst q1;obtain⟨hro,st',q4,q5⟩:=bd8 q3;obtain⟨ap1,_⟩:=vg hd;have hnd:=vd ap1;rw[List.nil_append]at hnd;simp only at henc hS hcut hok;rw[q5]at henc
   have hlent: ∀(i:Nat) (o:OSk) (x:Src),objs[i]?=Y o->o.ro=Za->st.m[i]?=Y (Y x)->x.k∈st.lent:=by
    intro i o x g1 g2 g3;unfold uc at hd;obtain⟨st1,d1,hd⟩:=ag hd;obtain⟨st2,d2,hd⟩:=ag hd;obtain⟨st3,d3,hd⟩:=ag hd
    have:st3=st:=by
     cases hb:(bk1 ([]++ud st3.m)&&aL2 ([]++oc (FSum.ins ⟨f,vals,objs,outs,run⟩).free st3.m) st3.lent)with
     |false=>rw[hb]at hd;cases hd
     |true=>rw[hb]at hd;injection hd
    subst this;exact ct6 d3 i o x g1 g2 (by rw[Nat.zero_add];exact g3)
   obtain⟨ct,r1,r2,r3,r4,r5,r6⟩:=bV0 hR rfl hE h3 h4 hcut hok hnd hlent hro (by rw[<-l1];exact q4) henc (.cons (cv0 h9) .nil) hS;cases r5 with
   |cons r5 _=>exact hK _ _ ⟨ct,r1,r2,r3,r4,r5,r6⟩
  .cases h7
 cases x with
 |exit i=>cases h6
 |normal=>exact fin h6
 |ret=>exact fin h6
def cM0 (es bytes:Nat)(z:List Value)(c:AOp)(n:AOp):AC:=
 .seq (.region [⟨Y 2, .move (.const (.slice Z 0 0)),Z⟩]) (.seq (.seq (.region [⟨Y 3, .move (.tmp 0),Z⟩,⟨Y 4,c,Z⟩]) (.cond (.tmp 4) (.seq (.region [⟨Y 2,n,Z⟩]) .ret) .skip))
  (.seq (.region [⟨Y 5, .buildSlice es 0 z [],Z⟩,⟨Y 6, .move (.tmp 0),Z⟩,⟨Y 7, .append es bytes (.tmp 5) (.tmp 6),Z⟩,⟨Y 2, .move (.tmp 7),Z⟩]) .ret))
def cq2 (es bytes:Nat)(z:List Value):AFn:=⟨8,[.tmp 2],cM0 es bytes z (.eqv 2 Zb (.tmp 3) (.const (.slice Z 0 0))) (.move (.const (.slice Z 0 0)))⟩
def dA3 (es bytes:Nat)(z:List Value):AFn:=⟨8,[.tmp 2],cM0 es bytes z (.move (.const (.bool Zb))) (.move (.const (.slice Z 0 0)))⟩
def dk4 (es bytes:Nat)(z:List Value):AFn:=⟨8,[.tmp 2],cM0 es bytes z (.move (.const (.bool Za))) (.append es bytes (.const (.slice Z 0 0)) (.tmp 0))⟩
def ao3 (s:Sh):List Alt:=[⟨.ret,[],⟨[.full 0],[],[.arr Zb s]⟩⟩]
theorem aZ1 {P:Program}{f:FuncId}{es bytes:Nat}{z:List Value}{s:Sh}(htr:cH2 P f=Y (cq2 es bytes z))
  (h0: ∀t:Tup (SSk.shs ⟨[.leaf (.list s)],[],[]⟩),vh id ⟨[.leaf (.list s)],[],[]⟩ (toL _ t)=Y ([.lst s t],[],[]))
  (h1: ∀l:List (El s),aZ4 (dA3 es bytes z) ⟨[],[]⟩ [.leaf (.list s)] [] (ao3 s) .no l=gd (mj (0+l.length) bytes) (Y l))
  (h2:aZ4 (dk4 es bytes z) ⟨[],[]⟩ [.leaf (.list s)] [] (ao3 s) .no ([]:List (El s))=gd (mj (0+0) bytes) (Y ([]:List (El s)))):
  an6 P ⟨f,[.leaf (.list s)],[],ao3 s,λl:List (El s)=>gd (mj (0+l.length) bytes) (Y l)⟩:=by
 refine cd4 (at':= .no) (tab:=⟨[],[]⟩) (lx.nil P) (aa.nil P) htr (λt=>⟨_,h0 t⟩) λt o vs fs S hrun hen c args ha=> ?_
 have hvs:vs=[.lst s t]:=by
  rw[h0 t]at hen;injection hen with hen
  injection hen with hen
  exact hen.symm
 subst hvs;cases ha with
 |cons ha hb=>
 cases hb
 have no: ∀q n cp (args:List Value),args=[.slice (Y q) n cp]->∃b,aZ4 ⟨(cq2 es bytes z).ntmps,(cq2 es bytes z).results,b⟩ ⟨[],[]⟩ [.leaf (.list s)] [] (ao3 s) .no t=Y o/\
   ∀T (_:xe T) Q σ,wpA T b Q (cb.of args) σ->wpA T (cq2 es bytes z).body Q (cb.of args) σ:=by
  rintro q n cp args rfl;exact⟨_,(h1 t).trans hrun,λT _ Q σ h=>h⟩
 cases ha with
 | @lst s l b p n cp y h3 h4 h5 h6 h7 h8 h9=>exact no _ _ _ _ rfl
 | @lstn s q h3=>
  cases q with
  |some q=>exact no _ _ _ _ rfl
  |none=>exact⟨_,h2.trans hrun,λT _ Q σ h=>h⟩
theorem bV5 {P:Program}{f:FuncId}{vals:List Sk}{objs:List OSk}{outs:List Alt}{run:Tup (SSk.shs ⟨vals,[],objs⟩)->Option (ac1 outs)}(h: ∀t,run t=Z):an6 P ⟨f,vals,objs,outs,run⟩:=by
 intro B μ σ w args cargs K hs;obtain⟨c,vals',st,t,o,p,v,fs,bs,S',h1,hR,hf,hd,hl,hcut,hok,hrun,_⟩:=hs;have hrun:run t=Y o:=hrun;rw[h t]at hrun;cases hrun
end
open Go.Ab Go.ChangeShapes Go.WideShapes
section
theorem dd4 {P:Program}{f:FuncId}{vals:List Sk}{run:Tup (SSk.shs ⟨vals,[],[]⟩)->Option (ac1 bn2)}(h:an6 P ⟨f,vals,[],bn2,run⟩){w:World}(hT:cZ8 P w){rows:List Row}{args:List Value}{cargs:Array Value}{vs:List VV}(t:Tup (SSk.shs ⟨vals,[],[]⟩))
  (hrows: ∀r∈rows,∀(i:Nat) (v:Value),r.cells[i]?=Y v->∃v',w.cell? ⟨r.c,r.o+i,Z⟩=Y v'/\VR (sW rows) v v') (hargs:F2 (VR (sW rows)) args cargs.toList)
  (hv:F2 (VRel (zw (su w.heap.size rows))) vs args) (hd:((uc [] 0 [] ⟨vals,[],[]⟩ vs).bind λst=>ofL _ st.ls)=Y t) (hr:run t=Y Za):
  Calls P f cargs w λe w'=>e= .returned (.bool Za)/\Go.RowKit.Below w.heap.size w w':=by
 obtain⟨st,h1,h2⟩:=ag hd;exact dn8 h hT hrows hargs hv h1 h2 hr
end
section
open Int renaming tmod -> aB, tmod_lt_of_pos -> aD
theorem bn3 {α δ:Type}{f:α->Option (α⊕δ)}{n:Nat}(F:Nat->α){c:δ}(hn:n<9223372036854775808)(hs: ∀i,i<n->f (F i)=Y (.inl (F (i+1))))(he:f (F n)=Y (.inr c)):ap f fy (F 0)=Y c:=by
 have key: ∀k i m,i+k=n->k<m->ap f m (F i)=Y c:=by
  intro k;induction k with
  |zero=>
   intro i m h1 h2;obtain⟨m,rfl⟩: ∃m',m=m'+1:=⟨m-1,by omega⟩
   have:i=n:=by omega
   subst this;show(f (F i)).bind _=_;rw[he];rfl
  |succ k ih=>
   intro i m h1 h2;obtain⟨m,rfl⟩: ∃m',m=m'+1:=⟨m-1,by omega⟩
   show(f (F i)).bind _=_;rw[hs i (by omega)];exact ih (i+1) m (by omega) (by omega)
 exact key n 0 fy (by omega) (by unfold fy;omega)
theorem pu {γ δ:Type}{f:(Int×γ)->Option ((Int×γ)⊕δ)}{n:Nat}(F:Nat->γ){c:δ}(hn:n<9223372036854775808)(hs: ∀i,i<n->f ((i:Int),F i)=Y (.inl (((i+1:Nat):Int),F (i+1))))(he:f ((n:Int),F n)=Y (.inr c)):ap f fy (0,F 0)=Y c:=
 bn3 (λi=>((i:Int),F i)) hn hs he
theorem xu {δ:Type}{f:Int->Option (Int⊕δ)}{n:Nat}{c:δ}(hn:n<9223372036854775808)(hs: ∀i:Nat,i<n->f (i:Int)=Y (.inl ((i+1:Nat):Int)))(he:f (n:Int)=Y (.inr c)):ap f fy 0=Y c:=
 bn3 (λi=>(i:Int)) hn hs he
theorem bA0 {α γ δ:Type}{f:(Int×γ)->Option ((Int×γ)⊕δ)}{l:List α}(g:γ->α->γ)(s:γ){c:γ->δ}(hn:l.length<9223372036854775807)
  (hs: ∀(i:Nat) (h:i<l.length) s,f ((i:Int),s)=Y (.inl (((i+1:Nat):Int),g s l[i]))) (he: ∀s,f ((l.length:Int),s)=Y (.inr (c s))):ap f fy (0,s)=Y (c (l.foldl g s)):=by
 have h:=pu (f:=f) (n:=l.length) (λi=>(l.take i).foldl g s) (c:=c (l.foldl g s)) (by omega) ?_ ?_
 .exact h
 .intro i hi;rw[hs i hi,List.take_succ_eq_append_getElem hi,List.foldl_append];rfl
 .rw[he,List.take_length]
theorem cY4 (n:Int):IntKind.u64.wrap n=n % 18446744073709551616:=by rfl
theorem cj1 {n:Nat}(h:n<9223372036854775808):IntKind.u64.wrap (n:Int)=n:=by
 rw[cY4];omega
theorem cc {n:Int}(h:0<=n/\n<18446744073709551616):IntKind.u64.wrap n=n:=by
 rw[cY4];omega
theorem cW6 {l:Zd}{i:Nat}(h:i<l.length):rd l (i:Int)=Y (l.getD i 0):=by
 rw[dq h,List.getD_eq_getElem?_getD,List.getElem?_eq_getElem h];rfl
theorem bp {k n:Nat}(h:k<n):ix (k:Int) n=Y k:=by
 unfold ix;rw[zB (show(0:Int)<=k by omega),zB (show(k:Int)<n by omega)];rfl
theorem nb {a b:Int}{n:Nat}(h:0<=a/\a<=b/\b<=n):i5 a b n=Za:=by
 unfold i5;rw[zB h.1,zB h.2.1,zB h.2.2];rfl
theorem cY0 {a b:Int}(h:0<=a):Int.tdiv a b=a / b:=Int.tdiv_eq_ediv_of_nonneg h
theorem spot {L:Nat}(h0:0<L)(hL:L<=1000000){a:Int}(ha: -9223372036854775808<=a/\a<=9223372036854775807): ∃k:Nat,k<L/\aB (IntKind.i64.wrap (aB a (L:Int)+(L:Int))) (L:Int)=(k:Int):=by
 have hp:(0:Int)<(L:Int):=by omega
 have h1:=aD a hp;have h2:=Int.lt_tmod_of_pos a hp;rw[ad (by omega)];have h3:=Int.tmod_nonneg (L:Int) (show 0<=aB a (L:Int)+(L:Int)by omega);have h4:=aD (aB a (L:Int)+(L:Int)) hp;exact⟨(aB (aB a (L:Int)+(L:Int)) (L:Int)).toNat,by omega,by omega⟩
end
end Go.V
